/- Models, by program. -/
import Derived.Test.YtlkphbhmfoehpaaTb
import Derived.Test.YtlkphbhmfoehpaaUn
import Derived.Test.YtlkphbhmfoehpaaFx
namespace Go.Proofs.Ytlkphbhmfoehpaa
open Go.RowKit
set_option maxRecDepth 100000
set_option linter.unusedVariables false
noncomputable def clone60 (x : List (Int)) : Option ((List (Int)) × (Unit × Unit)) :=
  if x.length ≤ 140737488355328 ∧ x.length * 8 ≤ 140737488355328 then some (x, ((), ())) else none
noncomputable def clone60_ce : CE CT Try.prog where
  f := 60
  args := [.one (.sl 0)]
  hs := []
  res := .val (.one (.own 0 0))
  outs := [.row 3 1]
  m := fun d dh => clone60 d.1
  ok := fun d dh r hr => by
    unfold clone60 at hr
    split at hr
    · rename_i hroom
      injection hr with hr
      subst hr
      exact clone_tr mixedP Try.func60 (by kernel_rfl) rfl rfl (zv := .int .i64 0) (he := by kernel_rfl) (hsz := by kernel_rfl) (hz := by kernel_rfl) (hby := by kernel_rfl) rfl rfl d.1 hroom
    · cases hr

def log_ownConfig_dr : Nat → DrA
  | 1 => ⟨[0, 3, 6, 9, 1, 4, 7, 10, 2, 5, 8, 11, 12, 13], [[], [0], [0, 1], [], [3], [0, 1, 2, 3, 4], [], [6], [0, 1, 2, 3, 4, 5, 6, 7], [], [9], [0, 1, 2, 3, 4, 5, 6, 7, 8, 9, 10], [0, 1, 2, 3, 4, 5, 6, 7, 8, 9, 10, 11], [0, 1, 2, 3, 4, 5, 6, 7, 8, 9, 10, 11, 12]], [4, 7, 10], [2, 5, 8], [0], false, []⟩
  | _ => ⟨[], [], [], [], [], false, []⟩
noncomputable def log_ownConfig_tb : List (CE CT Try.prog) := [clone60_ce]
noncomputable def log_ownConfig_lt : List (LE CT Try.prog) := []
noncomputable def log_ownConfig (x0 : DConfig) : Option ((DConfig) × (Unit)) :=
  (clone60 x0.voters).bind fun r1 =>
  (clone60 x0.old).bind fun r2 =>
  (clone60 x0.learners).bind fun r3 =>
  (clone60 x0.want).bind fun r4 =>
  some ((⟨r1.1, r2.1, r3.1, r4.1⟩ : DConfig), ())
noncomputable def log_ownConfig_ce : CE CT Try.prog where
  f := 41
  args := [.cod 6]
  hs := []
  res := .val (.cod 6)
  outs := []
  m := fun d dh => log_ownConfig d.1
  ok := ce_ok mixedP Try.func41 (by kernel_rfl) (orcOf_ok log_ownConfig_tb) (dr := log_ownConfig_dr) (lps := lpsOf log_ownConfig_lt) (lps_fn (no_loop (by kernel_rfl))) (fun d dh => by kernel_rfl)

def log_ownBase_dr : Nat → DrA
  | _ => ⟨[], [], [], [], [], false, []⟩
noncomputable def log_ownBase_tb : List (CE CT Try.prog) := [log_ownConfig_ce]
noncomputable def log_ownBase_lt : List (LE CT Try.prog) := []
noncomputable def log_ownBase (x0 : DBase) : Option ((DBase) × (Unit)) :=
  (log_ownConfig x0.config).bind fun r1 =>
  some ((⟨x0.index, x0.term_, r1.1⟩ : DBase), ())
noncomputable def log_ownBase_ce : CE CT Try.prog where
  f := 28
  args := [.cod 9]
  hs := []
  res := .val (.cod 9)
  outs := []
  m := fun d dh => log_ownBase d.1
  ok := ce_ok mixedP Try.func28 (by kernel_rfl) (orcOf_ok log_ownBase_tb) (dr := log_ownBase_dr) (lps := lpsOf log_ownBase_lt) (lps_fn (no_loop (by kernel_rfl))) (fun d dh => by kernel_rfl)

def log_New_dr : Nat → DrA
  | _ => ⟨[], [], [], [], [], false, []⟩
noncomputable def log_New_tb : List (CE CT Try.prog) := [log_ownBase_ce]
noncomputable def log_New_lt : List (LE CT Try.prog) := []
noncomputable def log_New (x0 : DBase) : Option ((Unit) × (((Int) × (Int) × (List (Int)) × (List (Int)) × (List (Int)) × (List (Int)) × (Bool) × (List (DEntry)) × Unit) × (Unit) × Unit)) :=
  (log_ownBase x0).bind fun r1 =>
  some ((), (((if (r1.1.index : Int) < 0 then 0 else r1.1.index), (if (r1.1.term_ : Int) < 0 then 0 else r1.1.term_), r1.1.config.voters, r1.1.config.old, r1.1.config.learners, r1.1.config.want, true, [], ()), (), ()))
noncomputable def log_New_ce : CE CT Try.prog where
  f := 9
  args := [.cod 9]
  hs := []
  res := .val (.one (.ptr 0 0))
  outs := [.obj 59 [.int .i64, .int .i64, .sl 0, .sl 0, .sl 0, .sl 0, .bool, .own 7 1], .row 42 7]
  m := fun d dh => log_New d.1
  ok := ce_ok mixedP Try.func9 (by kernel_rfl) (orcOf_ok log_New_tb) (dr := log_New_dr) (lps := lpsOf log_New_lt) (lps_fn (no_loop (by kernel_rfl))) (fun d dh => by kernel_rfl)

def watershedlaw10_entry_dr : Nat → DrA
  | _ => ⟨[], [], [], [], [], false, []⟩
noncomputable def watershedlaw10_entry_tb : List (CE CT Try.prog) := []
noncomputable def watershedlaw10_entry_lt : List (LE CT Try.prog) := []
noncomputable def watershedlaw10_entry (x0 : Int) : Option ((DEntry) × (Unit)) :=
  some ((⟨x0, 1, [], (⟨[], [], [], []⟩ : DConfig)⟩ : DEntry), ())
noncomputable def watershedlaw10_entry_ce : CE CT Try.prog where
  f := 24
  args := [.one (.int .i64)]
  hs := []
  res := .val (.cod 7)
  outs := []
  m := fun d dh => watershedlaw10_entry d.1
  ok := ce_ok mixedP Try.func24 (by kernel_rfl) (orcOf_ok watershedlaw10_entry_tb) (dr := watershedlaw10_entry_dr) (lps := lpsOf watershedlaw10_entry_lt) (lps_fn (no_loop (by kernel_rfl))) (fun d dh => by kernel_rfl)

def log_there_dr : Nat → DrA
  | _ => ⟨[], [], [], [], [], false, []⟩
noncomputable def log_there_tb : List (CE CT Try.prog) := []
noncomputable def log_there_lt : List (LE CT Try.prog) := []
noncomputable def log_there (h0 : (Int) × (Int) × (List (Int)) × (List (Int)) × (List (Int)) × (List (Int)) × (Bool) × (List (DEntry)) × Unit) : Option ((Bool) × (((Int) × (Int) × (List (Int)) × (List (Int)) × (List (Int)) × (List (Int)) × (Bool) × (List (DEntry)) × Unit) × (Unit) × (Unit) × Unit)) :=
  some (h0.2.2.2.2.2.2.1, ((h0.1, h0.2.1, h0.2.2.1, h0.2.2.2.1, h0.2.2.2.2.1, h0.2.2.2.2.2.1, h0.2.2.2.2.2.2.1, h0.2.2.2.2.2.2.2.1, ()), (), (), ()))
noncomputable def log_there_ce : CE CT Try.prog where
  f := 29
  args := [.one (.ptr 0 0)]
  hs := [.obj 59 [.int .i64, .int .i64, .sl 0, .sl 0, .sl 0, .sl 0, .bool, .own 7 1], .row 42 7]
  res := .val (.one (.bool))
  outs := [.obj 59 [.int .i64, .int .i64, .sl 0, .sl 0, .sl 0, .sl 0, .bool, .own 7 2], .dead, .row 42 7]
  m := fun d dh => log_there dh.1
  ok := ce_ok mixedP Try.func29 (by kernel_rfl) (orcOf_ok log_there_tb) (dr := log_there_dr) (lps := lpsOf log_there_lt) (lps_fn (no_loop (by kernel_rfl))) (fun d dh => by kernel_rfl)

noncomputable def clone42 (x : List (UInt8)) : Option ((List (UInt8)) × (Unit × Unit)) :=
  if x.length ≤ 140737488355328 ∧ x.length * 1 ≤ 140737488355328 then some (x, ((), ())) else none
noncomputable def clone42_ce : CE CT Try.prog where
  f := 42
  args := [.one (.sl 1)]
  hs := []
  res := .val (.one (.own 1 0))
  outs := [.row 5 1]
  m := fun d dh => clone42 d.1
  ok := fun d dh r hr => by
    unfold clone42 at hr
    split at hr
    · rename_i hroom
      injection hr with hr
      subst hr
      exact clone_tr mixedP Try.func42 (by kernel_rfl) rfl rfl (zv := .int .u8 0) (he := by kernel_rfl) (hsz := by kernel_rfl) (hz := by kernel_rfl) (hby := by kernel_rfl) rfl rfl d.1 hroom
    · cases hr

def log_own_dr : Nat → DrA
  | 5 => ⟨[0, 3, 1, 4, 2, 6, 5, 7, 8, 9], [[], [0], [0, 1], [], [3], [0, 1, 2, 3, 4], [0, 1, 2, 3, 4], [0, 1, 2, 3, 4, 5, 6], [0, 1, 2, 3, 4, 5, 6, 7], [0, 1, 2, 3, 4, 5, 6, 7, 8]], [4], [2], [1], false, []⟩
  | _ => ⟨[], [], [], [], [], false, []⟩
noncomputable def log_own_tb : List (CE CT Try.prog) := [clone42_ce, log_ownConfig_ce]
noncomputable def log_own_l1 (a : ((List (DEntry)) × (List (DEntry)) × (Int) × (Int) × Unit) × ((Unit) × Unit)) : Option ((((List (DEntry)) × (List (DEntry)) × (Int) × (Int) × Unit) × ((Unit) × Unit)) ⊕ ((((List (DEntry)) × Unit) × ((Unit) × (Unit) × Unit)))) :=
  (bif (decide ((a.1.2.2.2.1 : Int) < a.1.2.2.1)) then
  (getI a.1.2.1 a.1.2.2.2.1).bind fun e1 =>
  (clone42 e1.command).bind fun r2 =>
  (log_ownConfig e1.config).bind fun r3 =>
  (if a.1.1.length + ([(⟨e1.term_, e1.kind, r2.1, r3.1⟩ : DEntry)] : List (DEntry)).length ≤ 140737488355328 ∧ (a.1.1.length + ([(⟨e1.term_, e1.kind, r2.1, r3.1⟩ : DEntry)] : List (DEntry)).length) * 136 ≤ 140737488355328 then
  let y4 : List (DEntry) := (a.1.1 ++ ([(⟨e1.term_, e1.kind, r2.1, r3.1⟩ : DEntry)] : List (DEntry)))
  some (.inl ((y4, a.1.2.1, a.1.2.2.1, (IntKind.i64.wrap (a.1.2.2.2.1 + 1)), ()), ((), ())))
  else none)
  else
  some (.inr ((a.1.1, ()), ((), (), ()))))
noncomputable def log_own_e1 : LE CT Try.prog := ⟨3, [3, 6, 7, 8], [.one (.own 7 0), .one (.sl 7), .one (.int .i64), .one (.int .i64)], [.row 42 7], [⟨.exit 0, [3], [.one (.own 7 1)], [.dead, .row 42 7]⟩], log_own_l1⟩
noncomputable def log_own_lt : List (LE CT Try.prog) := [log_own_e1]
theorem log_own_e1_ok : LeOk log_own_e1 (nthL (bodyOf Try.f30) 0) := fun A env h k z hk => le_ok (E := log_own_e1) (orcOf_ok log_own_tb) (dr := log_own_dr) (lps := lpsOf log_own_lt) (no_loop (by kernel_rfl)) (fun a => by kernel_rfl) env h k z hk
noncomputable def log_own (x0 : List (DEntry)) : Option ((List (DEntry)) × ((Unit) × Unit)) :=
  (loopM log_own_l1 (([], x0, (x0.length : Int), 0, ()), ((), ()))).bind fun b1 =>
  some (b1.1.1, ((), ()))
noncomputable def log_own_ce : CE CT Try.prog where
  f := 30
  args := [.one (.sl 7)]
  hs := []
  res := .val (.one (.own 7 0))
  outs := [.row 42 7]
  m := fun d dh => log_own d.1
  ok := ce_ok mixedP Try.func30 (by kernel_rfl) (orcOf_ok log_own_tb) (dr := log_own_dr) (lps := lpsOf log_own_lt) (lps_fn (lps_of (n := 1) (by kernel_rfl) fun i hi => match i, hi with | 0, _ => lp_ok (E := log_own_e1) (by kernel_rfl) log_own_e1_ok)) (fun d dh => by kernel_rfl)

def log_Last_dr : Nat → DrA
  | 3 => ⟨[0, 1, 2, 3, 4, 6, 7, 8, 5, 9, 10, 11, 12], [[], [0], [0, 1], [0, 1, 2], [0, 1, 2, 3], [0, 1, 2, 3, 4], [], [6], [6, 7], [6, 7, 8], [6, 7, 8, 9], [0, 1, 2, 3, 4, 5, 6, 7, 8, 9, 10], [0, 1, 2, 3, 4, 5, 6, 7, 8, 9, 10, 11]], [], [], [], false, []⟩
  | _ => ⟨[], [], [], [], [], false, []⟩
noncomputable def log_Last_tb : List (CE CT Try.prog) := [log_there_ce]
noncomputable def log_Last_lt : List (LE CT Try.prog) := []
noncomputable def log_Last (h0 : (Int) × (Int) × (List (Int)) × (List (Int)) × (List (Int)) × (List (Int)) × (Bool) × (List (DEntry)) × Unit) : Option ((Int) × (((Int) × (Int) × (List (Int)) × (List (Int)) × (List (Int)) × (List (Int)) × (Bool) × (List (DEntry)) × Unit) × (Unit) × (Unit) × Unit)) :=
  (log_there (h0.1, h0.2.1, h0.2.2.1, h0.2.2.2.1, h0.2.2.2.2.1, h0.2.2.2.2.2.1, h0.2.2.2.2.2.2.1, h0.2.2.2.2.2.2.2.1, ())).bind fun r1 =>
  (bif (!r1.1) then
  some (0, ((r1.2.1.1, r1.2.1.2.1, r1.2.1.2.2.1, r1.2.1.2.2.2.1, r1.2.1.2.2.2.2.1, r1.2.1.2.2.2.2.2.1, r1.2.1.2.2.2.2.2.2.1, r1.2.1.2.2.2.2.2.2.2.1, ()), (), (), ()))
  else
  some ((IntKind.i64.wrap (r1.2.1.1 + (r1.2.1.2.2.2.2.2.2.2.1.length : Int))), ((r1.2.1.1, r1.2.1.2.1, r1.2.1.2.2.1, r1.2.1.2.2.2.1, r1.2.1.2.2.2.2.1, r1.2.1.2.2.2.2.2.1, r1.2.1.2.2.2.2.2.2.1, r1.2.1.2.2.2.2.2.2.2.1, ()), (), (), ())))
noncomputable def log_Last_ce : CE CT Try.prog where
  f := 12
  args := [.one (.ptr 0 0)]
  hs := [.obj 59 [.int .i64, .int .i64, .sl 0, .sl 0, .sl 0, .sl 0, .bool, .own 7 1], .row 42 7]
  res := .val (.one (.int .i64))
  outs := [.obj 59 [.int .i64, .int .i64, .sl 0, .sl 0, .sl 0, .sl 0, .bool, .own 7 2], .dead, .row 42 7]
  m := fun d dh => log_Last dh.1
  ok := ce_ok mixedP Try.func12 (by kernel_rfl) (orcOf_ok log_Last_tb) (dr := log_Last_dr) (lps := lpsOf log_Last_lt) (lps_fn (no_loop (by kernel_rfl))) (fun d dh => by kernel_rfl)

def log_Put_dr : Nat → DrA
  | 2 => ⟨[0, 1, 2, 3, 5, 4, 6, 7, 8, 9, 10], [[], [], [1], [1, 2], [1, 2, 3], [], [5], [1, 2, 3, 4, 5, 6], [0, 1, 2, 3, 4, 5, 6, 7], [0, 1, 2, 3, 4, 5, 6, 7, 8], [0, 1, 2, 3, 4, 5, 6, 7, 8, 9]], [4], [6], [0], false, []⟩
  | _ => ⟨[], [], [], [], [], false, []⟩
noncomputable def log_Put_tb : List (CE CT Try.prog) := [log_there_ce, log_own_ce, log_Last_ce]
noncomputable def log_Put_lt : List (LE CT Try.prog) := []
noncomputable def log_Put (x1 : List (DEntry)) (h0 : (Int) × (Int) × (List (Int)) × (List (Int)) × (List (Int)) × (List (Int)) × (Bool) × (List (DEntry)) × Unit) : Option ((Int) × (((Int) × (Int) × (List (Int)) × (List (Int)) × (List (Int)) × (List (Int)) × (Bool) × (List (DEntry)) × Unit) × (Unit) × (Unit) × Unit)) :=
  (log_there (h0.1, h0.2.1, h0.2.2.1, h0.2.2.2.1, h0.2.2.2.2.1, h0.2.2.2.2.2.1, h0.2.2.2.2.2.2.1, h0.2.2.2.2.2.2.2.1, ())).bind fun r1 =>
  (bif r1.1 then
  (log_own x1).bind fun r2 =>
  (if r1.2.1.2.2.2.2.2.2.2.1.length + r2.1.length ≤ 140737488355328 ∧ (r1.2.1.2.2.2.2.2.2.2.1.length + r2.1.length) * 136 ≤ 140737488355328 then
  (log_Last (r1.2.1.1, r1.2.1.2.1, r1.2.1.2.2.1, r1.2.1.2.2.2.1, r1.2.1.2.2.2.2.1, r1.2.1.2.2.2.2.2.1, r1.2.1.2.2.2.2.2.2.1, (r1.2.1.2.2.2.2.2.2.2.1 ++ r2.1), ())).bind fun r3 =>
  some (r3.1, ((r3.2.1.1, r3.2.1.2.1, r3.2.1.2.2.1, r3.2.1.2.2.2.1, r3.2.1.2.2.2.2.1, r3.2.1.2.2.2.2.2.1, r3.2.1.2.2.2.2.2.2.1, r3.2.1.2.2.2.2.2.2.2.1, ()), (), (), ()))
  else none)
  else
  (log_Last (r1.2.1.1, r1.2.1.2.1, r1.2.1.2.2.1, r1.2.1.2.2.2.1, r1.2.1.2.2.2.2.1, r1.2.1.2.2.2.2.2.1, r1.2.1.2.2.2.2.2.2.1, r1.2.1.2.2.2.2.2.2.2.1, ())).bind fun r4 =>
  some (r4.1, ((r4.2.1.1, r4.2.1.2.1, r4.2.1.2.2.1, r4.2.1.2.2.2.1, r4.2.1.2.2.2.2.1, r4.2.1.2.2.2.2.2.1, r4.2.1.2.2.2.2.2.2.1, r4.2.1.2.2.2.2.2.2.2.1, ()), (), (), ())))
noncomputable def log_Put_ce : CE CT Try.prog where
  f := 10
  args := [.one (.ptr 0 0), .one (.sl 7)]
  hs := [.obj 59 [.int .i64, .int .i64, .sl 0, .sl 0, .sl 0, .sl 0, .bool, .own 7 1], .row 42 7]
  res := .val (.one (.int .i64))
  outs := [.obj 59 [.int .i64, .int .i64, .sl 0, .sl 0, .sl 0, .sl 0, .bool, .own 7 2], .dead, .row 42 7]
  m := fun d dh => log_Put d.2.1 dh.1
  ok := ce_ok mixedP Try.func10 (by kernel_rfl) (orcOf_ok log_Put_tb) (dr := log_Put_dr) (lps := lpsOf log_Put_lt) (lps_fn (no_loop (by kernel_rfl))) (fun d dh => by kernel_rfl)

def log_place_dr : Nat → DrA
  | _ => ⟨[], [], [], [], [], false, []⟩
noncomputable def log_place_tb : List (CE CT Try.prog) := [log_there_ce, log_Last_ce]
noncomputable def log_place_lt : List (LE CT Try.prog) := []
noncomputable def log_place (x1 : Int) (h0 : (Int) × (Int) × (List (Int)) × (List (Int)) × (List (Int)) × (List (Int)) × (Bool) × (List (DEntry)) × Unit) : Option (((Int) × (Bool) × Unit) × (((Int) × (Int) × (List (Int)) × (List (Int)) × (List (Int)) × (List (Int)) × (Bool) × (List (DEntry)) × Unit) × (Unit) × (Unit) × Unit)) :=
  (log_there (h0.1, h0.2.1, h0.2.2.1, h0.2.2.2.1, h0.2.2.2.2.1, h0.2.2.2.2.2.1, h0.2.2.2.2.2.2.1, h0.2.2.2.2.2.2.2.1, ())).bind fun r1 =>
  (bif (!r1.1) then
  some ((0, false, ()), ((r1.2.1.1, r1.2.1.2.1, r1.2.1.2.2.1, r1.2.1.2.2.2.1, r1.2.1.2.2.2.2.1, r1.2.1.2.2.2.2.2.1, r1.2.1.2.2.2.2.2.2.1, r1.2.1.2.2.2.2.2.2.2.1, ()), (), (), ()))
  else
  (bif (decide ((x1 : Int) ≤ r1.2.1.1)) then
  some ((0, false, ()), ((r1.2.1.1, r1.2.1.2.1, r1.2.1.2.2.1, r1.2.1.2.2.2.1, r1.2.1.2.2.2.2.1, r1.2.1.2.2.2.2.2.1, r1.2.1.2.2.2.2.2.2.1, r1.2.1.2.2.2.2.2.2.2.1, ()), (), (), ()))
  else
  (log_Last (r1.2.1.1, r1.2.1.2.1, r1.2.1.2.2.1, r1.2.1.2.2.2.1, r1.2.1.2.2.2.2.1, r1.2.1.2.2.2.2.2.1, r1.2.1.2.2.2.2.2.2.1, r1.2.1.2.2.2.2.2.2.2.1, ())).bind fun r2 =>
  (bif (decide ((r2.1 : Int) < x1)) then
  some ((0, false, ()), ((r2.2.1.1, r2.2.1.2.1, r2.2.1.2.2.1, r2.2.1.2.2.2.1, r2.2.1.2.2.2.2.1, r2.2.1.2.2.2.2.2.1, r2.2.1.2.2.2.2.2.2.1, r2.2.1.2.2.2.2.2.2.2.1, ()), (), (), ()))
  else
  some (((IntKind.i64.wrap ((IntKind.i64.wrap (x1 - r2.2.1.1)) - 1)), true, ()), ((r2.2.1.1, r2.2.1.2.1, r2.2.1.2.2.1, r2.2.1.2.2.2.1, r2.2.1.2.2.2.2.1, r2.2.1.2.2.2.2.2.1, r2.2.1.2.2.2.2.2.2.1, r2.2.1.2.2.2.2.2.2.2.1, ()), (), (), ())))))
noncomputable def log_place_ce : CE CT Try.prog where
  f := 32
  args := [.one (.ptr 0 0), .one (.int .i64)]
  hs := [.obj 59 [.int .i64, .int .i64, .sl 0, .sl 0, .sl 0, .sl 0, .bool, .own 7 1], .row 42 7]
  res := .tup [.one (.int .i64), .one (.bool)]
  outs := [.obj 59 [.int .i64, .int .i64, .sl 0, .sl 0, .sl 0, .sl 0, .bool, .own 7 2], .dead, .row 42 7]
  m := fun d dh => log_place d.2.1 dh.1
  ok := ce_ok mixedP Try.func32 (by kernel_rfl) (orcOf_ok log_place_tb) (dr := log_place_dr) (lps := lpsOf log_place_lt) (lps_fn (no_loop (by kernel_rfl))) (fun d dh => by kernel_rfl)

def log_Term_dr : Nat → DrA
  | _ => ⟨[], [], [], [], [], false, []⟩
noncomputable def log_Term_tb : List (CE CT Try.prog) := [log_place_ce, log_there_ce]
noncomputable def log_Term_lt : List (LE CT Try.prog) := []
noncomputable def log_Term (x1 : Int) (h0 : (Int) × (Int) × (List (Int)) × (List (Int)) × (List (Int)) × (List (Int)) × (Bool) × (List (DEntry)) × Unit) : Option (((Int) × (Bool) × Unit) × (((Int) × (Int) × (List (Int)) × (List (Int)) × (List (Int)) × (List (Int)) × (Bool) × (List (DEntry)) × Unit) × (Unit) × (Unit) × Unit)) :=
  (log_place x1 (h0.1, h0.2.1, h0.2.2.1, h0.2.2.2.1, h0.2.2.2.2.1, h0.2.2.2.2.2.1, h0.2.2.2.2.2.2.1, h0.2.2.2.2.2.2.2.1, ())).bind fun r1 =>
  (bif r1.1.2.1 then
  (getI r1.2.1.2.2.2.2.2.2.2.1 r1.1.1).bind fun e2 =>
  some ((e2.term_, true, ()), ((r1.2.1.1, r1.2.1.2.1, r1.2.1.2.2.1, r1.2.1.2.2.2.1, r1.2.1.2.2.2.2.1, r1.2.1.2.2.2.2.2.1, r1.2.1.2.2.2.2.2.2.1, r1.2.1.2.2.2.2.2.2.2.1, ()), (), (), ()))
  else
  (log_there (r1.2.1.1, r1.2.1.2.1, r1.2.1.2.2.1, r1.2.1.2.2.2.1, r1.2.1.2.2.2.2.1, r1.2.1.2.2.2.2.2.1, r1.2.1.2.2.2.2.2.2.1, r1.2.1.2.2.2.2.2.2.2.1, ())).bind fun r3 =>
  (bif r3.1 then
  (bif (decide ((x1 : Int) = r3.2.1.1)) then
  some ((r3.2.1.2.1, true, ()), ((r3.2.1.1, r3.2.1.2.1, r3.2.1.2.2.1, r3.2.1.2.2.2.1, r3.2.1.2.2.2.2.1, r3.2.1.2.2.2.2.2.1, r3.2.1.2.2.2.2.2.2.1, r3.2.1.2.2.2.2.2.2.2.1, ()), (), (), ()))
  else
  some ((0, false, ()), ((r3.2.1.1, r3.2.1.2.1, r3.2.1.2.2.1, r3.2.1.2.2.2.1, r3.2.1.2.2.2.2.1, r3.2.1.2.2.2.2.2.1, r3.2.1.2.2.2.2.2.2.1, r3.2.1.2.2.2.2.2.2.2.1, ()), (), (), ())))
  else
  some ((0, false, ()), ((r3.2.1.1, r3.2.1.2.1, r3.2.1.2.2.1, r3.2.1.2.2.2.1, r3.2.1.2.2.2.2.1, r3.2.1.2.2.2.2.2.1, r3.2.1.2.2.2.2.2.2.1, r3.2.1.2.2.2.2.2.2.2.1, ()), (), (), ()))))
noncomputable def log_Term_ce : CE CT Try.prog where
  f := 15
  args := [.one (.ptr 0 0), .one (.int .i64)]
  hs := [.obj 59 [.int .i64, .int .i64, .sl 0, .sl 0, .sl 0, .sl 0, .bool, .own 7 1], .row 42 7]
  res := .tup [.one (.int .i64), .one (.bool)]
  outs := [.obj 59 [.int .i64, .int .i64, .sl 0, .sl 0, .sl 0, .sl 0, .bool, .own 7 2], .dead, .row 42 7]
  m := fun d dh => log_Term d.2.1 dh.1
  ok := ce_ok mixedP Try.func15 (by kernel_rfl) (orcOf_ok log_Term_tb) (dr := log_Term_dr) (lps := lpsOf log_Term_lt) (lps_fn (no_loop (by kernel_rfl))) (fun d dh => by kernel_rfl)

noncomputable def clone31 (x : List (DEntry)) : Option ((List (DEntry)) × (Unit × Unit)) :=
  if x.length ≤ 140737488355328 ∧ x.length * 136 ≤ 140737488355328 then some (x, ((), ())) else none
noncomputable def clone31_ce : CE CT Try.prog where
  f := 31
  args := [.one (.sl 7)]
  hs := []
  res := .val (.one (.own 7 0))
  outs := [.row 42 7]
  m := fun d dh => clone31 d.1
  ok := fun d dh r hr => by
    unfold clone31 at hr
    split at hr
    · rename_i hroom
      injection hr with hr
      subst hr
      exact clone_tr mixedP Try.func31 (by kernel_rfl) rfl rfl (zv := .agg #[.int .i64 0, .int .u8 0, .slice none 0 0, .slice none 0 0, .slice none 0 0, .slice none 0 0, .slice none 0 0]) (he := by kernel_rfl) (hsz := by kernel_rfl) (hz := by kernel_rfl) (hby := by kernel_rfl) rfl rfl d.1 hroom
    · cases hr

def log_Take_dr : Nat → DrA
  | 8 => ⟨[0, 1, 2, 3, 5, 6, 7, 8, 9, 10, 11, 12, 4, 13, 14, 15, 16, 17, 18, 19, 20], [[], [], [1], [1, 2], [1, 2, 3], [], [], [5, 6], [], [8], [8, 9], [8, 9, 10], [8, 9, 10, 11], [8, 9, 10, 11, 12], [5, 6, 7, 8, 9, 10, 11, 12, 13], [5, 6, 7, 8, 9, 10, 11, 12, 13, 14], [1, 2, 3, 4, 5, 6, 7, 8, 9, 10, 11, 12, 13, 14, 15], [1, 2, 3, 4, 5, 6, 7, 8, 9, 10, 11, 12, 13, 14, 15, 16], [0, 1, 2, 3, 4, 5, 6, 7, 8, 9, 10, 11, 12, 13, 14, 15, 16, 17], [0, 1, 2, 3, 4, 5, 6, 7, 8, 9, 10, 11, 12, 13, 14, 15, 16, 17, 18], [0, 1, 2, 3, 4, 5, 6, 7, 8, 9, 10, 11, 12, 13, 14, 15, 16, 17, 18, 19]], [], [], [], false, []⟩
  | _ => ⟨[], [], [], [], [], false, []⟩
noncomputable def log_Take_tb : List (CE CT Try.prog) := [log_there_ce, log_Last_ce, log_Term_ce, clone31_ce, log_Put_ce]
noncomputable def log_Take_l1 (a : ((Unit) × (Int) × (List (DEntry)) × (List (DEntry)) × (Int) × (Int) × Unit) × (((Int) × (Int) × (List (Int)) × (List (Int)) × (List (Int)) × (List (Int)) × (Bool) × (List (DEntry)) × Unit) × (Unit) × Unit)) : Option ((((Unit) × (Int) × (List (DEntry)) × (List (DEntry)) × (Int) × (Int) × Unit) × (((Int) × (Int) × (List (Int)) × (List (Int)) × (List (Int)) × (List (Int)) × (Bool) × (List (DEntry)) × Unit) × (Unit) × Unit)) ⊕ ((((Int) × (Bool) × Unit) × (((Int) × (Int) × (List (Int)) × (List (Int)) × (List (Int)) × (List (Int)) × (Bool) × (List (DEntry)) × Unit) × (Unit) × (Unit) × Unit)) ⊕ ((Unit) × (((Int) × (Int) × (List (Int)) × (List (Int)) × (List (Int)) × (List (Int)) × (Bool) × (List (DEntry)) × Unit) × (Unit) × (Unit) × Unit)))) :=
  (bif (decide ((a.1.2.2.2.2.2.1 : Int) < a.1.2.2.2.2.1)) then
  (getI a.1.2.2.2.1 a.1.2.2.2.2.2.1).bind fun e1 =>
  (log_Term (IntKind.i64.wrap (a.1.2.1 + a.1.2.2.2.2.2.1)) (a.2.1.1, a.2.1.2.1, a.2.1.2.2.1, a.2.1.2.2.2.1, a.2.1.2.2.2.2.1, a.2.1.2.2.2.2.2.1, a.2.1.2.2.2.2.2.2.1, a.2.1.2.2.2.2.2.2.2.1, ())).bind fun r2 =>
  (bif r2.1.2.1 then
  (bif (decide ((r2.1.1 : Int) = e1.term_)) then
  some (.inl (((), a.1.2.1, a.1.2.2.1, a.1.2.2.2.1, a.1.2.2.2.2.1, (IntKind.i64.wrap (a.1.2.2.2.2.2.1 + 1)), ()), ((r2.2.1.1, r2.2.1.2.1, r2.2.1.2.2.1, r2.2.1.2.2.2.1, r2.2.1.2.2.2.2.1, r2.2.1.2.2.2.2.2.1, r2.2.1.2.2.2.2.2.2.1, r2.2.1.2.2.2.2.2.2.2.1, ()), (), ())))
  else
  (if 0 ≤ ((0 : Int) : Int) ∧ ((0 : Int) : Int) ≤ (IntKind.i64.wrap ((IntKind.i64.wrap ((IntKind.i64.wrap (a.1.2.1 + a.1.2.2.2.2.2.1)) - r2.2.1.1)) - 1)) ∧ (IntKind.i64.wrap ((IntKind.i64.wrap ((IntKind.i64.wrap (a.1.2.1 + a.1.2.2.2.2.2.1)) - r2.2.1.1)) - 1)) ≤ (r2.2.1.2.2.2.2.2.2.2.1.length : Int) then
  let y3 : List (DEntry) := ((r2.2.1.2.2.2.2.2.2.2.1.drop ((0 : Int) : Int).toNat).take (((IntKind.i64.wrap ((IntKind.i64.wrap ((IntKind.i64.wrap (a.1.2.1 + a.1.2.2.2.2.2.1)) - r2.2.1.1)) - 1)) : Int).toNat - ((0 : Int) : Int).toNat))
  (clone31 y3).bind fun r4 =>
  (if 0 ≤ (a.1.2.2.2.2.2.1 : Int) ∧ (a.1.2.2.2.2.2.1 : Int) ≤ (a.1.2.2.1.length : Int) ∧ (a.1.2.2.1.length : Int) ≤ (a.1.2.2.1.length : Int) then
  let y5 : List (DEntry) := ((a.1.2.2.1.drop (a.1.2.2.2.2.2.1 : Int).toNat).take (((a.1.2.2.1.length : Int) : Int).toNat - (a.1.2.2.2.2.2.1 : Int).toNat))
  (log_Put y5 (r2.2.1.1, r2.2.1.2.1, r2.2.1.2.2.1, r2.2.1.2.2.2.1, r2.2.1.2.2.2.2.1, r2.2.1.2.2.2.2.2.1, r2.2.1.2.2.2.2.2.2.1, r4.1, ())).bind fun r6 =>
  some (.inr (.inl (((IntKind.i64.wrap (a.1.2.1 + a.1.2.2.2.2.2.1)), true, ()), ((r6.2.1.1, r6.2.1.2.1, r6.2.1.2.2.1, r6.2.1.2.2.2.1, r6.2.1.2.2.2.2.1, r6.2.1.2.2.2.2.2.1, r6.2.1.2.2.2.2.2.2.1, r6.2.1.2.2.2.2.2.2.2.1, ()), (), (), ()))))
  else none)
  else none))
  else
  (if 0 ≤ ((0 : Int) : Int) ∧ ((0 : Int) : Int) ≤ (IntKind.i64.wrap ((IntKind.i64.wrap ((IntKind.i64.wrap (a.1.2.1 + a.1.2.2.2.2.2.1)) - r2.2.1.1)) - 1)) ∧ (IntKind.i64.wrap ((IntKind.i64.wrap ((IntKind.i64.wrap (a.1.2.1 + a.1.2.2.2.2.2.1)) - r2.2.1.1)) - 1)) ≤ (r2.2.1.2.2.2.2.2.2.2.1.length : Int) then
  let y7 : List (DEntry) := ((r2.2.1.2.2.2.2.2.2.2.1.drop ((0 : Int) : Int).toNat).take (((IntKind.i64.wrap ((IntKind.i64.wrap ((IntKind.i64.wrap (a.1.2.1 + a.1.2.2.2.2.2.1)) - r2.2.1.1)) - 1)) : Int).toNat - ((0 : Int) : Int).toNat))
  (clone31 y7).bind fun r8 =>
  (if 0 ≤ (a.1.2.2.2.2.2.1 : Int) ∧ (a.1.2.2.2.2.2.1 : Int) ≤ (a.1.2.2.1.length : Int) ∧ (a.1.2.2.1.length : Int) ≤ (a.1.2.2.1.length : Int) then
  let y9 : List (DEntry) := ((a.1.2.2.1.drop (a.1.2.2.2.2.2.1 : Int).toNat).take (((a.1.2.2.1.length : Int) : Int).toNat - (a.1.2.2.2.2.2.1 : Int).toNat))
  (log_Put y9 (r2.2.1.1, r2.2.1.2.1, r2.2.1.2.2.1, r2.2.1.2.2.2.1, r2.2.1.2.2.2.2.1, r2.2.1.2.2.2.2.2.1, r2.2.1.2.2.2.2.2.2.1, r8.1, ())).bind fun r10 =>
  some (.inr (.inl (((IntKind.i64.wrap (a.1.2.1 + a.1.2.2.2.2.2.1)), true, ()), ((r10.2.1.1, r10.2.1.2.1, r10.2.1.2.2.1, r10.2.1.2.2.2.1, r10.2.1.2.2.2.2.1, r10.2.1.2.2.2.2.2.1, r10.2.1.2.2.2.2.2.2.1, r10.2.1.2.2.2.2.2.2.2.1, ()), (), (), ()))))
  else none)
  else none))
  else
  some (.inr (.inr ((), ((a.2.1.1, a.2.1.2.1, a.2.1.2.2.1, a.2.1.2.2.2.1, a.2.1.2.2.2.2.1, a.2.1.2.2.2.2.2.1, a.2.1.2.2.2.2.2.2.1, a.2.1.2.2.2.2.2.2.2.1, ()), (), (), ())))))
noncomputable def log_Take_e1 : LE CT Try.prog := ⟨4, [0, 1, 2, 32, 33, 34], [.one (.ptr 0 0), .one (.int .i64), .one (.sl 7), .one (.sl 7), .one (.int .i64), .one (.int .i64)], [.obj 59 [.int .i64, .int .i64, .sl 0, .sl 0, .sl 0, .sl 0, .bool, .own 7 1], .row 42 7], [⟨.ret, [6, 7], [.one (.int .i64), .one (.bool)], [.obj 59 [.int .i64, .int .i64, .sl 0, .sl 0, .sl 0, .sl 0, .bool, .own 7 2], .dead, .row 42 7]⟩, ⟨.exit 0, [], [], [.obj 59 [.int .i64, .int .i64, .sl 0, .sl 0, .sl 0, .sl 0, .bool, .own 7 2], .dead, .row 42 7]⟩], log_Take_l1⟩
noncomputable def log_Take_lt : List (LE CT Try.prog) := [log_Take_e1]
theorem log_Take_e1_ok : LeOk log_Take_e1 (nthL (bodyOf Try.f11) 0) := fun A env h k z hk => le_ok (E := log_Take_e1) (orcOf_ok log_Take_tb) (dr := log_Take_dr) (lps := lpsOf log_Take_lt) (no_loop (by kernel_rfl)) (fun a => by kernel_rfl) env h k z hk
noncomputable def log_Take (x1 : Int) (x2 : List (DEntry)) (h0 : (Int) × (Int) × (List (Int)) × (List (Int)) × (List (Int)) × (List (Int)) × (Bool) × (List (DEntry)) × Unit) : Option (((Int) × (Bool) × Unit) × (((Int) × (Int) × (List (Int)) × (List (Int)) × (List (Int)) × (List (Int)) × (Bool) × (List (DEntry)) × Unit) × (Unit) × (Unit) × Unit)) :=
  (log_there (h0.1, h0.2.1, h0.2.2.1, h0.2.2.2.1, h0.2.2.2.2.1, h0.2.2.2.2.2.1, h0.2.2.2.2.2.2.1, h0.2.2.2.2.2.2.2.1, ())).bind fun r1 =>
  (bif (!r1.1) then
  some ((0, false, ()), ((r1.2.1.1, r1.2.1.2.1, r1.2.1.2.2.1, r1.2.1.2.2.2.1, r1.2.1.2.2.2.2.1, r1.2.1.2.2.2.2.2.1, r1.2.1.2.2.2.2.2.2.1, r1.2.1.2.2.2.2.2.2.2.1, ()), (), (), ()))
  else
  (bif (decide ((x1 : Int) ≤ r1.2.1.1)) then
  some ((0, false, ()), ((r1.2.1.1, r1.2.1.2.1, r1.2.1.2.2.1, r1.2.1.2.2.2.1, r1.2.1.2.2.2.2.1, r1.2.1.2.2.2.2.2.1, r1.2.1.2.2.2.2.2.2.1, r1.2.1.2.2.2.2.2.2.2.1, ()), (), (), ()))
  else
  (log_Last (r1.2.1.1, r1.2.1.2.1, r1.2.1.2.2.1, r1.2.1.2.2.2.1, r1.2.1.2.2.2.2.1, r1.2.1.2.2.2.2.2.1, r1.2.1.2.2.2.2.2.2.1, r1.2.1.2.2.2.2.2.2.2.1, ())).bind fun r2 =>
  (bif (decide (((IntKind.i64.wrap (r2.1 + 1)) : Int) < x1)) then
  some ((0, false, ()), ((r2.2.1.1, r2.2.1.2.1, r2.2.1.2.2.1, r2.2.1.2.2.2.1, r2.2.1.2.2.2.2.1, r2.2.1.2.2.2.2.2.1, r2.2.1.2.2.2.2.2.2.1, r2.2.1.2.2.2.2.2.2.2.1, ()), (), (), ()))
  else
  (loopM log_Take_l1 (((), x1, x2, x2, (x2.length : Int), 0, ()), ((r2.2.1.1, r2.2.1.2.1, r2.2.1.2.2.1, r2.2.1.2.2.2.1, r2.2.1.2.2.2.2.1, r2.2.1.2.2.2.2.2.1, r2.2.1.2.2.2.2.2.2.1, r2.2.1.2.2.2.2.2.2.2.1, ()), (), ()))).bind fun b3 =>
  (match b3 with
  | .inl b4 =>
  some ((b4.1.1, b4.1.2.1, ()), ((b4.2.1.1, b4.2.1.2.1, b4.2.1.2.2.1, b4.2.1.2.2.2.1, b4.2.1.2.2.2.2.1, b4.2.1.2.2.2.2.2.1, b4.2.1.2.2.2.2.2.2.1, b4.2.1.2.2.2.2.2.2.2.1, ()), (), (), ()))
  | .inr b5 =>
  some ((0, true, ()), ((b5.2.1.1, b5.2.1.2.1, b5.2.1.2.2.1, b5.2.1.2.2.2.1, b5.2.1.2.2.2.2.1, b5.2.1.2.2.2.2.2.1, b5.2.1.2.2.2.2.2.2.1, b5.2.1.2.2.2.2.2.2.2.1, ()), (), (), ()))))))
noncomputable def log_Take_ce : CE CT Try.prog where
  f := 11
  args := [.one (.ptr 0 0), .one (.int .i64), .one (.sl 7)]
  hs := [.obj 59 [.int .i64, .int .i64, .sl 0, .sl 0, .sl 0, .sl 0, .bool, .own 7 1], .row 42 7]
  res := .tup [.one (.int .i64), .one (.bool)]
  outs := [.obj 59 [.int .i64, .int .i64, .sl 0, .sl 0, .sl 0, .sl 0, .bool, .own 7 2], .dead, .row 42 7]
  m := fun d dh => log_Take d.2.1 d.2.2.1 dh.1
  ok := ce_ok mixedP Try.func11 (by kernel_rfl) (orcOf_ok log_Take_tb) (dr := log_Take_dr) (lps := lpsOf log_Take_lt) (lps_fn (lps_of (n := 1) (by kernel_rfl) fun i hi => match i, hi with | 0, _ => lp_ok (E := log_Take_e1) (by kernel_rfl) log_Take_e1_ok)) (fun d dh => by kernel_rfl)

def watershedlaw10_awake_dr : Nat → DrA
  | _ => ⟨[], [], [], [], [], false, []⟩
noncomputable def watershedlaw10_awake_tb : List (CE CT Try.prog) := [log_New_ce, watershedlaw10_entry_ce, log_Put_ce, log_Take_ce, log_Term_ce, log_Last_ce]
noncomputable def watershedlaw10_awake_lt : List (LE CT Try.prog) := []
noncomputable def watershedlaw10_awake  : Option ((Bool) × (Unit)) :=
  (log_New (⟨5, 2, (⟨[], [], [], []⟩ : DConfig)⟩ : DBase)).bind fun r1 =>
  (watershedlaw10_entry 2).bind fun r2 =>
  (log_Put ([r2.1] : List (DEntry)) (r1.2.1.1, r1.2.1.2.1, r1.2.1.2.2.1, r1.2.1.2.2.2.1, r1.2.1.2.2.2.2.1, r1.2.1.2.2.2.2.2.1, r1.2.1.2.2.2.2.2.2.1, r1.2.1.2.2.2.2.2.2.2.1, ())).bind fun r3 =>
  (bif (decide ((r3.1 : Int) ≠ 6)) then
  some (false, ())
  else
  (watershedlaw10_entry 3).bind fun r4 =>
  (log_Take 6 ([r4.1] : List (DEntry)) (r3.2.1.1, r3.2.1.2.1, r3.2.1.2.2.1, r3.2.1.2.2.2.1, r3.2.1.2.2.2.2.1, r3.2.1.2.2.2.2.2.1, r3.2.1.2.2.2.2.2.2.1, r3.2.1.2.2.2.2.2.2.2.1, ())).bind fun r5 =>
  (log_Term 6 (r5.2.1.1, r5.2.1.2.1, r5.2.1.2.2.1, r5.2.1.2.2.2.1, r5.2.1.2.2.2.2.1, r5.2.1.2.2.2.2.2.1, r5.2.1.2.2.2.2.2.2.1, r5.2.1.2.2.2.2.2.2.2.1, ())).bind fun r6 =>
  (bif (decide ((r5.1.1 : Int) = 6)) then
  (bif r5.1.2.1 then
  (log_Last (r6.2.1.1, r6.2.1.2.1, r6.2.1.2.2.1, r6.2.1.2.2.2.1, r6.2.1.2.2.2.2.1, r6.2.1.2.2.2.2.2.1, r6.2.1.2.2.2.2.2.2.1, r6.2.1.2.2.2.2.2.2.2.1, ())).bind fun r7 =>
  (bif (decide ((r7.1 : Int) = 6)) then
  (bif (decide ((r6.1.1 : Int) = 3)) then
  some (r6.1.2.1, ())
  else
  some (false, ()))
  else
  some (false, ()))
  else
  some (false, ()))
  else
  some (false, ())))
noncomputable def watershedlaw10_awake_ce : CE CT Try.prog where
  f := 7
  args := []
  hs := []
  res := .val (.one (.bool))
  outs := []
  m := fun d dh => watershedlaw10_awake
  ok := ce_ok mixedP Try.func7 (by kernel_rfl) (orcOf_ok watershedlaw10_awake_tb) (dr := watershedlaw10_awake_dr) (lps := lpsOf watershedlaw10_awake_lt) (lps_fn (no_loop (by kernel_rfl))) (fun d dh => by kernel_rfl)

def watershedkit_ConfigOf_dr : Nat → DrA
  | _ => ⟨[], [], [], [], [], false, []⟩
noncomputable def watershedkit_ConfigOf_tb : List (CE CT Try.prog) := []
noncomputable def watershedkit_ConfigOf_lt : List (LE CT Try.prog) := []
noncomputable def watershedkit_ConfigOf (x0 : DConfig) : Option ((Int) × (Unit)) :=
  let y1 : Int := (IntKind.i64.wrap ((IntKind.i64.wrap ((IntKind.i64.wrap ((IntKind.i64.wrap (1 + (x0.voters.length : Int))) + (x0.old.length : Int))) + (x0.learners.length : Int))) + (x0.want.length : Int)))
  some (y1, ())
noncomputable def watershedkit_ConfigOf_ce : CE CT Try.prog where
  f := 27
  args := [.cod 6]
  hs := []
  res := .val (.one (.int .i64))
  outs := []
  m := fun d dh => watershedkit_ConfigOf d.1
  ok := ce_ok mixedP Try.func27 (by kernel_rfl) (orcOf_ok watershedkit_ConfigOf_tb) (dr := watershedkit_ConfigOf_dr) (lps := lpsOf watershedkit_ConfigOf_lt) (lps_fn (no_loop (by kernel_rfl))) (fun d dh => by kernel_rfl)

def watershedkit_EntriesOf_dr : Nat → DrA
  | 5 => ⟨[0, 1, 2, 3, 4, 5, 10, 11, 12, 13, 6, 7, 8, 9, 14, 15, 16, 17], [[], [0], [], [], [2, 3], [2, 3, 4], [2, 3, 4, 5], [2, 3, 4, 5, 6], [2, 3, 4, 5, 6, 7], [0, 1, 2, 3, 4, 5, 6, 7, 8], [], [], [10, 11], [10, 11, 12], [10, 11, 12, 13], [10, 11, 12, 13, 14], [0, 1, 2, 3, 4, 5, 6, 7, 8, 9, 10, 11, 12, 13, 14, 15], [0, 1, 2, 3, 4, 5, 6, 7, 8, 9, 10, 11, 12, 13, 14, 15, 16]], [6], [15], [], false, []⟩
  | _ => ⟨[], [], [], [], [], false, []⟩
noncomputable def watershedkit_EntriesOf_tb : List (CE CT Try.prog) := [watershedkit_ConfigOf_ce]
noncomputable def watershedkit_EntriesOf_l1 (a : ((List (DEntry)) × (Int) × (Int) × (Int) × Unit) × (Unit)) : Option ((((List (DEntry)) × (Int) × (Int) × (Int) × Unit) × (Unit)) ⊕ ((((Int) × Unit) × (Unit)))) :=
  (bif (decide ((a.1.2.2.2.1 : Int) < (a.1.1.length : Int))) then
  (bif (decide ((a.1.2.2.1 : Int) ≤ a.1.2.1)) then
  (getI a.1.1 a.1.2.2.2.1).bind fun e1 =>
  (getI a.1.1 a.1.2.2.2.1).bind fun e2 =>
  (watershedkit_ConfigOf e2.config).bind fun r3 =>
  let y4 : Int := (IntKind.i64.wrap ((IntKind.i64.wrap ((IntKind.i64.wrap (a.1.2.2.1 + 1)) + (IntKind.i64.wrap (((e1.command.length : Int) : Int).tdiv 8)))) + r3.1))
  some (.inl ((a.1.1, a.1.2.1, y4, (IntKind.i64.wrap (a.1.2.2.2.1 + 1)), ()), ()))
  else
  some (.inr ((a.1.2.2.1, ()), ())))
  else
  some (.inr ((a.1.2.2.1, ()), ())))
noncomputable def watershedkit_EntriesOf_e1 : LE CT Try.prog := ⟨3, [0, 1, 5, 6], [.one (.sl 7), .one (.int .i64), .one (.int .i64), .one (.int .i64)], [], [⟨.exit 0, [5], [.one (.int .i64)], []⟩], watershedkit_EntriesOf_l1⟩
noncomputable def watershedkit_EntriesOf_lt : List (LE CT Try.prog) := [watershedkit_EntriesOf_e1]
theorem watershedkit_EntriesOf_e1_ok : LeOk watershedkit_EntriesOf_e1 (nthL (bodyOf Try.f26) 0) := fun A env h k z hk => le_ok (E := watershedkit_EntriesOf_e1) (orcOf_ok watershedkit_EntriesOf_tb) (dr := watershedkit_EntriesOf_dr) (lps := lpsOf watershedkit_EntriesOf_lt) (no_loop (by kernel_rfl)) (fun a => by kernel_rfl) env h k z hk
noncomputable def watershedkit_EntriesOf (x0 : List (DEntry)) (x1 : Int) : Option ((Int) × (Unit)) :=
  (loopM watershedkit_EntriesOf_l1 ((x0, x1, 0, 0, ()), ())).bind fun b1 =>
  some (b1.1.1, ())
noncomputable def watershedkit_EntriesOf_ce : CE CT Try.prog where
  f := 26
  args := [.one (.sl 7), .one (.int .i64)]
  hs := []
  res := .val (.one (.int .i64))
  outs := []
  m := fun d dh => watershedkit_EntriesOf d.1 d.2.1
  ok := ce_ok mixedP Try.func26 (by kernel_rfl) (orcOf_ok watershedkit_EntriesOf_tb) (dr := watershedkit_EntriesOf_dr) (lps := lpsOf watershedkit_EntriesOf_lt) (lps_fn (lps_of (n := 1) (by kernel_rfl) fun i hi => match i, hi with | 0, _ => lp_ok (E := watershedkit_EntriesOf_e1) (by kernel_rfl) watershedkit_EntriesOf_e1_ok)) (fun d dh => by kernel_rfl)

def watershedlaw10_great_dr : Nat → DrA
  | _ => ⟨[], [], [], [], [], false, []⟩
noncomputable def watershedlaw10_great_tb : List (CE CT Try.prog) := [watershedkit_EntriesOf_ce, watershedkit_ConfigOf_ce]
noncomputable def watershedlaw10_great_l1 (a : ((List (DAct)) × (Int) × Unit) × (Unit)) : Option ((((List (DAct)) × (Int) × Unit) × (Unit)) ⊕ ((((Bool) × Unit) × (Unit)) ⊕ (((List (DAct)) × Unit) × (Unit)))) :=
  (bif (decide ((a.1.2.1 : Int) < (a.1.1.length : Int))) then
  (bif (decide ((a.1.2.1 : Int) < 81)) then
  (getI a.1.1 a.1.2.1).bind fun e1 =>
  (watershedkit_EntriesOf e1.entries 400).bind fun r2 =>
  (bif (decide ((400 : Int) < r2.1)) then
  some (.inr (.inl ((true, ()), ())))
  else
  (getI a.1.1 a.1.2.1).bind fun e3 =>
  (bif (decide ((1073741824 : Int) < e3.index)) then
  some (.inr (.inl ((true, ()), ())))
  else
  (getI a.1.1 a.1.2.1).bind fun e4 =>
  (bif (decide ((1073741824 : Int) < e4.base.index)) then
  some (.inr (.inl ((true, ()), ())))
  else
  (getI a.1.1 a.1.2.1).bind fun e5 =>
  (watershedkit_ConfigOf e5.base.config).bind fun r6 =>
  (bif (decide ((100 : Int) < r6.1)) then
  some (.inr (.inl ((true, ()), ())))
  else
  some (.inl ((a.1.1, (IntKind.i64.wrap (a.1.2.1 + 1)), ()), ()))))))
  else
  some (.inr (.inr ((a.1.1, ()), ()))))
  else
  some (.inr (.inr ((a.1.1, ()), ()))))
noncomputable def watershedlaw10_great_e1 : LE CT Try.prog := ⟨2, [0, 3], [.one (.sl 10), .one (.int .i64)], [], [⟨.ret, [2], [.one (.bool)], []⟩, ⟨.exit 0, [0], [.one (.sl 10)], []⟩], watershedlaw10_great_l1⟩
noncomputable def watershedlaw10_great_lt : List (LE CT Try.prog) := [watershedlaw10_great_e1]
theorem watershedlaw10_great_e1_ok : LeOk watershedlaw10_great_e1 (nthL (bodyOf Try.f8) 0) := fun A env h k z hk => le_ok (E := watershedlaw10_great_e1) (orcOf_ok watershedlaw10_great_tb) (dr := watershedlaw10_great_dr) (lps := lpsOf watershedlaw10_great_lt) (no_loop (by kernel_rfl)) (fun a => by kernel_rfl) env h k z hk
noncomputable def watershedlaw10_great (x0 : List (DAct)) : Option ((Bool) × (Unit)) :=
  (loopM watershedlaw10_great_l1 ((x0, 0, ()), ())).bind fun b1 =>
  (match b1 with
  | .inl b2 =>
  some (b2.1.1, ())
  | .inr b3 =>
  some ((decide ((80 : Int) < (b3.1.1.length : Int))), ()))
noncomputable def watershedlaw10_great_ce : CE CT Try.prog where
  f := 8
  args := [.one (.sl 10)]
  hs := []
  res := .val (.one (.bool))
  outs := []
  m := fun d dh => watershedlaw10_great d.1
  ok := ce_ok mixedP Try.func8 (by kernel_rfl) (orcOf_ok watershedlaw10_great_tb) (dr := watershedlaw10_great_dr) (lps := lpsOf watershedlaw10_great_lt) (lps_fn (lps_of (n := 1) (by kernel_rfl) fun i hi => match i, hi with | 0, _ => lp_ok (E := watershedlaw10_great_e1) (by kernel_rfl) watershedlaw10_great_e1_ok)) (fun d dh => by kernel_rfl)

def log_there_2_dr : Nat → DrA
  | _ => ⟨[], [], [], [], [], false, []⟩
noncomputable def log_there_2_tb : List (CE CT Try.prog) := []
noncomputable def log_there_2_lt : List (LE CT Try.prog) := []
noncomputable def log_there_2  : Option ((Bool) × (Unit)) :=
  some (false, ())
noncomputable def log_there_2_ce : CE CT Try.prog where
  f := 29
  args := [.one (.nilptr)]
  hs := []
  res := .val (.one (.bool))
  outs := []
  m := fun d dh => log_there_2
  ok := ce_ok mixedP Try.func29 (by kernel_rfl) (orcOf_ok log_there_2_tb) (dr := log_there_2_dr) (lps := lpsOf log_there_2_lt) (lps_fn (no_loop (by kernel_rfl))) (fun d dh => by kernel_rfl)

def log_Take_2_dr : Nat → DrA
  | _ => ⟨[], [], [], [], [], false, []⟩
noncomputable def log_Take_2_tb : List (CE CT Try.prog) := [log_there_2_ce]
noncomputable def log_Take_2_lt : List (LE CT Try.prog) := []
noncomputable def log_Take_2 (x1 : Int) (x2 : List (DEntry)) : Option (((Int) × (Bool) × Unit) × (Unit)) :=
  (log_there_2).bind fun r1 =>
  (bif (!r1.1) then
  some ((0, false, ()), ())
  else
  none)
noncomputable def log_Take_2_ce : CE CT Try.prog where
  f := 11
  args := [.one (.nilptr), .one (.int .i64), .one (.sl 7)]
  hs := []
  res := .tup [.one (.int .i64), .one (.bool)]
  outs := []
  m := fun d dh => log_Take_2 d.2.1 d.2.2.1
  ok := ce_ok mixedP Try.func11 (by kernel_rfl) (orcOf_ok log_Take_2_tb) (dr := log_Take_2_dr) (lps := lpsOf log_Take_2_lt) (lps_fn (lps_of (n := 1) (by kernel_rfl) fun i hi => match i, hi with | 0, _ => lp_none (by kernel_rfl))) (fun d dh => by kernel_rfl)

def log_place_2_dr : Nat → DrA
  | _ => ⟨[], [], [], [], [], false, []⟩
noncomputable def log_place_2_tb : List (CE CT Try.prog) := [log_there_2_ce]
noncomputable def log_place_2_lt : List (LE CT Try.prog) := []
noncomputable def log_place_2 (x1 : Int) : Option (((Int) × (Bool) × Unit) × (Unit)) :=
  (log_there_2).bind fun r1 =>
  (bif (!r1.1) then
  some ((0, false, ()), ())
  else
  none)
noncomputable def log_place_2_ce : CE CT Try.prog where
  f := 32
  args := [.one (.nilptr), .one (.int .i64)]
  hs := []
  res := .tup [.one (.int .i64), .one (.bool)]
  outs := []
  m := fun d dh => log_place_2 d.2.1
  ok := ce_ok mixedP Try.func32 (by kernel_rfl) (orcOf_ok log_place_2_tb) (dr := log_place_2_dr) (lps := lpsOf log_place_2_lt) (lps_fn (no_loop (by kernel_rfl))) (fun d dh => by kernel_rfl)

def log_Term_2_dr : Nat → DrA
  | _ => ⟨[], [], [], [], [], false, []⟩
noncomputable def log_Term_2_tb : List (CE CT Try.prog) := [log_place_2_ce, log_there_2_ce]
noncomputable def log_Term_2_lt : List (LE CT Try.prog) := []
noncomputable def log_Term_2 (x1 : Int) : Option (((Int) × (Bool) × Unit) × (Unit)) :=
  (log_place_2 x1).bind fun r1 =>
  (bif r1.1.2.1 then
  none
  else
  (log_there_2).bind fun r2 =>
  (bif r2.1 then
  none
  else
  some ((0, false, ()), ())))
noncomputable def log_Term_2_ce : CE CT Try.prog where
  f := 15
  args := [.one (.nilptr), .one (.int .i64)]
  hs := []
  res := .tup [.one (.int .i64), .one (.bool)]
  outs := []
  m := fun d dh => log_Term_2 d.2.1
  ok := ce_ok mixedP Try.func15 (by kernel_rfl) (orcOf_ok log_Term_2_tb) (dr := log_Term_2_dr) (lps := lpsOf log_Term_2_lt) (lps_fn (no_loop (by kernel_rfl))) (fun d dh => by kernel_rfl)

def log_At_dr : Nat → DrA
  | _ => ⟨[], [], [], [], [], false, []⟩
noncomputable def log_At_tb : List (CE CT Try.prog) := [log_place_2_ce]
noncomputable def log_At_lt : List (LE CT Try.prog) := []
noncomputable def log_At (x1 : Int) : Option (((DEntry) × (Bool) × Unit) × (Unit)) :=
  (log_place_2 x1).bind fun r1 =>
  (bif (!r1.1.2.1) then
  some (((⟨0, 0, [], (⟨[], [], [], []⟩ : DConfig)⟩ : DEntry), false, ()), ())
  else
  none)
noncomputable def log_At_ce : CE CT Try.prog where
  f := 13
  args := [.one (.nilptr), .one (.int .i64)]
  hs := []
  res := .tup [.cod 7, .one (.bool)]
  outs := []
  m := fun d dh => log_At d.2.1
  ok := ce_ok mixedP Try.func13 (by kernel_rfl) (orcOf_ok log_At_tb) (dr := log_At_dr) (lps := lpsOf log_At_lt) (lps_fn (no_loop (by kernel_rfl))) (fun d dh => by kernel_rfl)

def log_Last_2_dr : Nat → DrA
  | 3 => ⟨[0, 1, 2, 3, 4, 6, 7, 8, 5, 9, 10, 11, 12], [[], [0], [0, 1], [0, 1, 2], [0, 1, 2, 3], [0, 1, 2, 3, 4], [], [6], [6, 7], [6, 7, 8], [6, 7, 8, 9], [0, 1, 2, 3, 4, 5, 6, 7, 8, 9, 10], [0, 1, 2, 3, 4, 5, 6, 7, 8, 9, 10, 11]], [], [], [], false, []⟩
  | _ => ⟨[], [], [], [], [], false, []⟩
noncomputable def log_Last_2_tb : List (CE CT Try.prog) := [log_there_2_ce]
noncomputable def log_Last_2_lt : List (LE CT Try.prog) := []
noncomputable def log_Last_2  : Option ((Int) × (Unit)) :=
  (log_there_2).bind fun r1 =>
  (bif (!r1.1) then
  some (0, ())
  else
  none)
noncomputable def log_Last_2_ce : CE CT Try.prog where
  f := 12
  args := [.one (.nilptr)]
  hs := []
  res := .val (.one (.int .i64))
  outs := []
  m := fun d dh => log_Last_2
  ok := ce_ok mixedP Try.func12 (by kernel_rfl) (orcOf_ok log_Last_2_tb) (dr := log_Last_2_dr) (lps := lpsOf log_Last_2_lt) (lps_fn (no_loop (by kernel_rfl))) (fun d dh => by kernel_rfl)

def log_Config_dr : Nat → DrA
  | _ => ⟨[], [], [], [], [], false, []⟩
noncomputable def log_Config_tb : List (CE CT Try.prog) := [log_there_2_ce, log_Last_2_ce]
noncomputable def log_Config_lt : List (LE CT Try.prog) := []
noncomputable def log_Config  : Option (((DConfig) × (Int) × Unit) × (Unit)) :=
  (log_there_2).bind fun r1 =>
  (bif (!r1.1) then
  some (((⟨[], [], [], []⟩ : DConfig), 0, ()), ())
  else
  (log_Last_2).bind fun r2 =>
  none)
noncomputable def log_Config_ce : CE CT Try.prog where
  f := 17
  args := [.one (.nilptr)]
  hs := []
  res := .tup [.cod 6, .one (.int .i64)]
  outs := []
  m := fun d dh => log_Config
  ok := ce_ok mixedP Try.func17 (by kernel_rfl) (orcOf_ok log_Config_tb) (dr := log_Config_dr) (lps := lpsOf log_Config_lt) (lps_fn (no_loop (by kernel_rfl))) (fun d dh => by kernel_rfl)

def log_Put_2_dr : Nat → DrA
  | 2 => ⟨[0, 1, 2, 3, 5, 4, 6, 7, 8, 9, 10], [[], [], [1], [1, 2], [1, 2, 3], [], [5], [1, 2, 3, 4, 5, 6], [0, 1, 2, 3, 4, 5, 6, 7], [0, 1, 2, 3, 4, 5, 6, 7, 8], [0, 1, 2, 3, 4, 5, 6, 7, 8, 9]], [4], [6], [], false, []⟩
  | _ => ⟨[], [], [], [], [], false, []⟩
noncomputable def log_Put_2_tb : List (CE CT Try.prog) := [log_there_2_ce, log_Last_2_ce]
noncomputable def log_Put_2_lt : List (LE CT Try.prog) := []
noncomputable def log_Put_2 (x1 : List (DEntry)) : Option ((Int) × (Unit)) :=
  (log_there_2).bind fun r1 =>
  (bif r1.1 then
  none
  else
  (log_Last_2).bind fun r2 =>
  some (r2.1, ()))
noncomputable def log_Put_2_ce : CE CT Try.prog where
  f := 10
  args := [.one (.nilptr), .one (.sl 7)]
  hs := []
  res := .val (.one (.int .i64))
  outs := []
  m := fun d dh => log_Put_2 d.2.1
  ok := ce_ok mixedP Try.func10 (by kernel_rfl) (orcOf_ok log_Put_2_tb) (dr := log_Put_2_dr) (lps := lpsOf log_Put_2_lt) (lps_fn (no_loop (by kernel_rfl))) (fun d dh => by kernel_rfl)

def watershedkit_SameInts_dr : Nat → DrA
  | 6 => ⟨[0, 1, 2, 4, 5, 6, 3, 7, 8], [[], [], [0, 1], [0, 1, 2], [], [], [4, 5], [4, 5, 6], [0, 1, 2, 3, 4, 5, 6, 7]], [], [], [], false, []⟩
  | _ => ⟨[], [], [], [], [], false, []⟩
noncomputable def watershedkit_SameInts_tb : List (CE CT Try.prog) := []
noncomputable def watershedkit_SameInts_l1 (a : ((List (Int)) × (List (Int)) × (Int) × Unit) × (Unit)) : Option ((((List (Int)) × (List (Int)) × (Int) × Unit) × (Unit)) ⊕ ((((Bool) × Unit) × (Unit)) ⊕ ((Unit) × (Unit)))) :=
  (bif (decide ((a.1.2.2.1 : Int) < (a.1.1.length : Int))) then
  (getI a.1.1 a.1.2.2.1).bind fun e1 =>
  (getI a.1.2.1 a.1.2.2.1).bind fun e2 =>
  (bif (decide ((e1 : Int) ≠ e2)) then
  some (.inr (.inl ((false, ()), ())))
  else
  some (.inl ((a.1.1, a.1.2.1, (IntKind.i64.wrap (a.1.2.2.1 + 1)), ()), ())))
  else
  some (.inr (.inr ((), ()))))
noncomputable def watershedkit_SameInts_e1 : LE CT Try.prog := ⟨4, [0, 1, 5], [.one (.sl 0), .one (.sl 0), .one (.int .i64)], [], [⟨.ret, [4], [.one (.bool)], []⟩, ⟨.exit 0, [], [], []⟩], watershedkit_SameInts_l1⟩
noncomputable def watershedkit_SameInts_lt : List (LE CT Try.prog) := [watershedkit_SameInts_e1]
theorem watershedkit_SameInts_e1_ok : LeOk watershedkit_SameInts_e1 (nthL (bodyOf Try.f36) 0) := fun A env h k z hk => le_ok (E := watershedkit_SameInts_e1) (orcOf_ok watershedkit_SameInts_tb) (dr := watershedkit_SameInts_dr) (lps := lpsOf watershedkit_SameInts_lt) (no_loop (by kernel_rfl)) (fun a => by kernel_rfl) env h k z hk
noncomputable def watershedkit_SameInts (x0 : List (Int)) (x1 : List (Int)) : Option ((Bool) × (Unit)) :=
  (bif (decide (((x0.length : Int) : Int) ≠ (x1.length : Int))) then
  some (false, ())
  else
  (loopM watershedkit_SameInts_l1 ((x0, x1, 0, ()), ())).bind fun b1 =>
  (match b1 with
  | .inl b2 =>
  some (b2.1.1, ())
  | .inr b3 =>
  some (true, ())))
noncomputable def watershedkit_SameInts_ce : CE CT Try.prog where
  f := 36
  args := [.one (.sl 0), .one (.sl 0)]
  hs := []
  res := .val (.one (.bool))
  outs := []
  m := fun d dh => watershedkit_SameInts d.1 d.2.1
  ok := ce_ok mixedP Try.func36 (by kernel_rfl) (orcOf_ok watershedkit_SameInts_tb) (dr := watershedkit_SameInts_dr) (lps := lpsOf watershedkit_SameInts_lt) (lps_fn (lps_of (n := 1) (by kernel_rfl) fun i hi => match i, hi with | 0, _ => lp_ok (E := watershedkit_SameInts_e1) (by kernel_rfl) watershedkit_SameInts_e1_ok)) (fun d dh => by kernel_rfl)

def watershedkit_SameConfig_dr : Nat → DrA
  | _ => ⟨[], [], [], [], [], false, []⟩
noncomputable def watershedkit_SameConfig_tb : List (CE CT Try.prog) := [watershedkit_SameInts_ce]
noncomputable def watershedkit_SameConfig_lt : List (LE CT Try.prog) := []
noncomputable def watershedkit_SameConfig (x0 : DConfig) (x1 : DConfig) : Option ((Bool) × (Unit)) :=
  (watershedkit_SameInts x0.voters x1.voters).bind fun r1 =>
  (bif r1.1 then
  (watershedkit_SameInts x0.old x1.old).bind fun r2 =>
  (bif r2.1 then
  (watershedkit_SameInts x0.learners x1.learners).bind fun r3 =>
  (bif r3.1 then
  (watershedkit_SameInts x0.want x1.want).bind fun r4 =>
  some (r4.1, ())
  else
  some (false, ()))
  else
  some (false, ()))
  else
  some (false, ()))
noncomputable def watershedkit_SameConfig_ce : CE CT Try.prog where
  f := 18
  args := [.cod 6, .cod 6]
  hs := []
  res := .val (.one (.bool))
  outs := []
  m := fun d dh => watershedkit_SameConfig d.1 d.2.1
  ok := ce_ok mixedP Try.func18 (by kernel_rfl) (orcOf_ok watershedkit_SameConfig_tb) (dr := watershedkit_SameConfig_dr) (lps := lpsOf watershedkit_SameConfig_lt) (lps_fn (no_loop (by kernel_rfl))) (fun d dh => by kernel_rfl)

def log_Compact_dr : Nat → DrA
  | _ => ⟨[], [], [], [], [], false, []⟩
noncomputable def log_Compact_tb : List (CE CT Try.prog) := [log_Term_2_ce]
noncomputable def log_Compact_lt : List (LE CT Try.prog) := []
noncomputable def log_Compact (x1 : Int) : Option ((Bool) × (Unit)) :=
  (log_Term_2 x1).bind fun r1 =>
  (bif (!r1.1.2.1) then
  some (false, ())
  else
  none)
noncomputable def log_Compact_ce : CE CT Try.prog where
  f := 16
  args := [.one (.nilptr), .one (.int .i64)]
  hs := []
  res := .val (.one (.bool))
  outs := []
  m := fun d dh => log_Compact d.2.1
  ok := ce_ok mixedP Try.func16 (by kernel_rfl) (orcOf_ok log_Compact_tb) (dr := log_Compact_dr) (lps := lpsOf log_Compact_lt) (lps_fn (no_loop (by kernel_rfl))) (fun d dh => by kernel_rfl)

def log_Install_dr : Nat → DrA
  | 1 => ⟨[0, 1, 2, 3, 4, 6, 7, 8, 9, 10, 5, 11, 12, 13], [[], [0], [0, 1], [0, 1, 2], [0, 1, 2, 3], [0, 1, 2, 3, 4], [0, 1, 2, 3], [0, 1, 2, 3, 6], [0, 1, 2, 3, 6, 7], [0, 1, 2, 3, 6, 7, 8], [0, 1, 2, 3, 6, 7, 8, 9], [0, 1, 2, 3, 6, 7, 8, 9, 10], [0, 1, 2, 3, 4, 5, 6, 7, 8, 9, 10, 11], [0, 1, 2, 3, 4, 5, 6, 7, 8, 9, 10, 11, 12]], [], [], [], false, []⟩
  | _ => ⟨[], [], [], [], [], false, []⟩
noncomputable def log_Install_tb : List (CE CT Try.prog) := [log_there_2_ce]
noncomputable def log_Install_lt : List (LE CT Try.prog) := []
noncomputable def log_Install (x1 : DBase) : Option ((Bool) × (Unit)) :=
  (log_there_2).bind fun r1 =>
  (bif (!r1.1) then
  some (false, ())
  else
  none)
noncomputable def log_Install_ce : CE CT Try.prog where
  f := 21
  args := [.one (.nilptr), .cod 9]
  hs := []
  res := .val (.one (.bool))
  outs := []
  m := fun d dh => log_Install d.2.1
  ok := ce_ok mixedP Try.func21 (by kernel_rfl) (orcOf_ok log_Install_tb) (dr := log_Install_dr) (lps := lpsOf log_Install_lt) (lps_fn (no_loop (by kernel_rfl))) (fun d dh => by kernel_rfl)

def log_From_dr : Nat → DrA
  | 4 => ⟨[0, 1, 2, 4, 5, 6, 7, 8, 9, 12, 3, 10, 11, 13, 14, 15, 16, 17, 18], [[], [0], [0, 1], [0, 1, 2], [], [], [], [], [7], [7, 8], [7, 8, 9], [7, 8, 9, 10], [], [7, 8, 9, 10, 11, 12], [6, 7, 8, 9, 10, 11, 12, 13], [5, 6, 7, 8, 9, 10, 11, 12, 13, 14], [0, 1, 2, 3, 4, 5, 6, 7, 8, 9, 10, 11, 12, 13, 14, 15], [0, 1, 2, 3, 4, 5, 6, 7, 8, 9, 10, 11, 12, 13, 14, 15, 16], [0, 1, 2, 3, 4, 5, 6, 7, 8, 9, 10, 11, 12, 13, 14, 15, 16, 17]], [], [], [], false, []⟩
  | _ => ⟨[], [], [], [], [], false, []⟩
noncomputable def log_From_tb : List (CE CT Try.prog) := [log_place_2_ce]
noncomputable def log_From_lt : List (LE CT Try.prog) := []
noncomputable def log_From (x1 : Int) (x2 : Int) : Option ((Unit) × (Unit)) :=
  (log_place_2 x1).bind fun r1 =>
  (bif (!r1.1.2.1) then
  some ((), ())
  else
  (bif (decide ((x2 : Int) < 1)) then
  some ((), ())
  else
  none))
noncomputable def log_From_ce : CE CT Try.prog where
  f := 22
  args := [.one (.nilptr), .one (.int .i64), .one (.int .i64)]
  hs := []
  res := .val (.one (.nil))
  outs := []
  m := fun d dh => log_From d.2.1 d.2.2.1
  ok := ce_ok mixedP Try.func22 (by kernel_rfl) (orcOf_ok log_From_tb) (dr := log_From_dr) (lps := lpsOf log_From_lt) (lps_fn (no_loop (by kernel_rfl))) (fun d dh => by kernel_rfl)

def log_Base_dr : Nat → DrA
  | _ => ⟨[], [], [], [], [], false, []⟩
noncomputable def log_Base_tb : List (CE CT Try.prog) := [log_there_2_ce]
noncomputable def log_Base_lt : List (LE CT Try.prog) := []
noncomputable def log_Base  : Option ((DBase) × (Unit)) :=
  (log_there_2).bind fun r1 =>
  (bif (!r1.1) then
  some ((⟨0, 0, (⟨[], [], [], []⟩ : DConfig)⟩ : DBase), ())
  else
  none)
noncomputable def log_Base_ce : CE CT Try.prog where
  f := 19
  args := [.one (.nilptr)]
  hs := []
  res := .val (.cod 9)
  outs := []
  m := fun d dh => log_Base
  ok := ce_ok mixedP Try.func19 (by kernel_rfl) (orcOf_ok log_Base_tb) (dr := log_Base_dr) (lps := lpsOf log_Base_lt) (lps_fn (no_loop (by kernel_rfl))) (fun d dh => by kernel_rfl)

def watershedkit_SameBase_dr : Nat → DrA
  | _ => ⟨[], [], [], [], [], false, []⟩
noncomputable def watershedkit_SameBase_tb : List (CE CT Try.prog) := [watershedkit_SameConfig_ce]
noncomputable def watershedkit_SameBase_lt : List (LE CT Try.prog) := []
noncomputable def watershedkit_SameBase (x0 : DBase) (x1 : DBase) : Option ((Bool) × (Unit)) :=
  (bif (decide ((x0.index : Int) = x1.index)) then
  (bif (decide ((x0.term_ : Int) = x1.term_)) then
  (watershedkit_SameConfig x0.config x1.config).bind fun r1 =>
  some (r1.1, ())
  else
  some (false, ()))
  else
  some (false, ()))
noncomputable def watershedkit_SameBase_ce : CE CT Try.prog where
  f := 23
  args := [.cod 9, .cod 9]
  hs := []
  res := .val (.one (.bool))
  outs := []
  m := fun d dh => watershedkit_SameBase d.1 d.2.1
  ok := ce_ok mixedP Try.func23 (by kernel_rfl) (orcOf_ok watershedkit_SameBase_tb) (dr := watershedkit_SameBase_dr) (lps := lpsOf watershedkit_SameBase_lt) (lps_fn (no_loop (by kernel_rfl))) (fun d dh => by kernel_rfl)

def log_there_3_dr : Nat → DrA
  | _ => ⟨[], [], [], [], [], false, []⟩
noncomputable def log_there_3_tb : List (CE CT Try.prog) := []
noncomputable def log_there_3_lt : List (LE CT Try.prog) := []
noncomputable def log_there_3 (h0 : (Int) × (Int) × (List (Int)) × (List (Int)) × (List (Int)) × (List (Int)) × (Bool) × (List (DEntry)) × Unit) : Option ((Bool) × (((Int) × (Int) × (List (Int)) × (List (Int)) × (List (Int)) × (List (Int)) × (Bool) × (List (DEntry)) × Unit) × (Unit) × (Unit) × (Unit) × (Unit) × (Unit) × (Unit) × (Unit) × (Unit) × (Unit) × (Unit) × Unit)) :=
  some (h0.2.2.2.2.2.2.1, ((h0.1, h0.2.1, h0.2.2.1, h0.2.2.2.1, h0.2.2.2.2.1, h0.2.2.2.2.2.1, h0.2.2.2.2.2.2.1, h0.2.2.2.2.2.2.2.1, ()), (), (), (), (), (), (), (), (), (), (), ()))
noncomputable def log_there_3_ce : CE CT Try.prog where
  f := 29
  args := [.one (.ptr 0 0)]
  hs := [.obj 59 [.int .i64, .int .i64, .own 0 1, .own 0 2, .own 0 3, .own 0 4, .bool, .own 7 5], .row 3 1, .row 3 1, .row 3 1, .row 3 1, .row 42 7]
  res := .val (.one (.bool))
  outs := [.obj 59 [.int .i64, .int .i64, .own 0 6, .own 0 7, .own 0 8, .own 0 9, .bool, .own 7 10], .dead, .dead, .dead, .dead, .dead, .row 3 1, .row 3 1, .row 3 1, .row 3 1, .row 42 7]
  m := fun d dh => log_there_3 dh.1
  ok := ce_ok mixedP Try.func29 (by kernel_rfl) (orcOf_ok log_there_3_tb) (dr := log_there_3_dr) (lps := lpsOf log_there_3_lt) (lps_fn (no_loop (by kernel_rfl))) (fun d dh => by kernel_rfl)

def log_Last_3_dr : Nat → DrA
  | 3 => ⟨[0, 1, 2, 3, 4, 6, 7, 8, 5, 9, 10, 11, 12], [[], [0], [0, 1], [0, 1, 2], [0, 1, 2, 3], [0, 1, 2, 3, 4], [], [6], [6, 7], [6, 7, 8], [6, 7, 8, 9], [0, 1, 2, 3, 4, 5, 6, 7, 8, 9, 10], [0, 1, 2, 3, 4, 5, 6, 7, 8, 9, 10, 11]], [], [], [], false, []⟩
  | _ => ⟨[], [], [], [], [], false, []⟩
noncomputable def log_Last_3_tb : List (CE CT Try.prog) := [log_there_3_ce]
noncomputable def log_Last_3_lt : List (LE CT Try.prog) := []
noncomputable def log_Last_3 (h0 : (Int) × (Int) × (List (Int)) × (List (Int)) × (List (Int)) × (List (Int)) × (Bool) × (List (DEntry)) × Unit) : Option ((Int) × (((Int) × (Int) × (List (Int)) × (List (Int)) × (List (Int)) × (List (Int)) × (Bool) × (List (DEntry)) × Unit) × (Unit) × (Unit) × (Unit) × (Unit) × (Unit) × (Unit) × (Unit) × (Unit) × (Unit) × (Unit) × Unit)) :=
  (log_there_3 (h0.1, h0.2.1, h0.2.2.1, h0.2.2.2.1, h0.2.2.2.2.1, h0.2.2.2.2.2.1, h0.2.2.2.2.2.2.1, h0.2.2.2.2.2.2.2.1, ())).bind fun r1 =>
  (bif (!r1.1) then
  some (0, ((r1.2.1.1, r1.2.1.2.1, r1.2.1.2.2.1, r1.2.1.2.2.2.1, r1.2.1.2.2.2.2.1, r1.2.1.2.2.2.2.2.1, r1.2.1.2.2.2.2.2.2.1, r1.2.1.2.2.2.2.2.2.2.1, ()), (), (), (), (), (), (), (), (), (), (), ()))
  else
  some ((IntKind.i64.wrap (r1.2.1.1 + (r1.2.1.2.2.2.2.2.2.2.1.length : Int))), ((r1.2.1.1, r1.2.1.2.1, r1.2.1.2.2.1, r1.2.1.2.2.2.1, r1.2.1.2.2.2.2.1, r1.2.1.2.2.2.2.2.1, r1.2.1.2.2.2.2.2.2.1, r1.2.1.2.2.2.2.2.2.2.1, ()), (), (), (), (), (), (), (), (), (), (), ())))
noncomputable def log_Last_3_ce : CE CT Try.prog where
  f := 12
  args := [.one (.ptr 0 0)]
  hs := [.obj 59 [.int .i64, .int .i64, .own 0 1, .own 0 2, .own 0 3, .own 0 4, .bool, .own 7 5], .row 3 1, .row 3 1, .row 3 1, .row 3 1, .row 42 7]
  res := .val (.one (.int .i64))
  outs := [.obj 59 [.int .i64, .int .i64, .own 0 6, .own 0 7, .own 0 8, .own 0 9, .bool, .own 7 10], .dead, .dead, .dead, .dead, .dead, .row 3 1, .row 3 1, .row 3 1, .row 3 1, .row 42 7]
  m := fun d dh => log_Last_3 dh.1
  ok := ce_ok mixedP Try.func12 (by kernel_rfl) (orcOf_ok log_Last_3_tb) (dr := log_Last_3_dr) (lps := lpsOf log_Last_3_lt) (lps_fn (no_loop (by kernel_rfl))) (fun d dh => by kernel_rfl)

def log_place_3_dr : Nat → DrA
  | _ => ⟨[], [], [], [], [], false, []⟩
noncomputable def log_place_3_tb : List (CE CT Try.prog) := [log_there_3_ce, log_Last_3_ce]
noncomputable def log_place_3_lt : List (LE CT Try.prog) := []
noncomputable def log_place_3 (x1 : Int) (h0 : (Int) × (Int) × (List (Int)) × (List (Int)) × (List (Int)) × (List (Int)) × (Bool) × (List (DEntry)) × Unit) : Option (((Int) × (Bool) × Unit) × (((Int) × (Int) × (List (Int)) × (List (Int)) × (List (Int)) × (List (Int)) × (Bool) × (List (DEntry)) × Unit) × (Unit) × (Unit) × (Unit) × (Unit) × (Unit) × (Unit) × (Unit) × (Unit) × (Unit) × (Unit) × Unit)) :=
  (log_there_3 (h0.1, h0.2.1, h0.2.2.1, h0.2.2.2.1, h0.2.2.2.2.1, h0.2.2.2.2.2.1, h0.2.2.2.2.2.2.1, h0.2.2.2.2.2.2.2.1, ())).bind fun r1 =>
  (bif (!r1.1) then
  some ((0, false, ()), ((r1.2.1.1, r1.2.1.2.1, r1.2.1.2.2.1, r1.2.1.2.2.2.1, r1.2.1.2.2.2.2.1, r1.2.1.2.2.2.2.2.1, r1.2.1.2.2.2.2.2.2.1, r1.2.1.2.2.2.2.2.2.2.1, ()), (), (), (), (), (), (), (), (), (), (), ()))
  else
  (bif (decide ((x1 : Int) ≤ r1.2.1.1)) then
  some ((0, false, ()), ((r1.2.1.1, r1.2.1.2.1, r1.2.1.2.2.1, r1.2.1.2.2.2.1, r1.2.1.2.2.2.2.1, r1.2.1.2.2.2.2.2.1, r1.2.1.2.2.2.2.2.2.1, r1.2.1.2.2.2.2.2.2.2.1, ()), (), (), (), (), (), (), (), (), (), (), ()))
  else
  (log_Last_3 (r1.2.1.1, r1.2.1.2.1, r1.2.1.2.2.1, r1.2.1.2.2.2.1, r1.2.1.2.2.2.2.1, r1.2.1.2.2.2.2.2.1, r1.2.1.2.2.2.2.2.2.1, r1.2.1.2.2.2.2.2.2.2.1, ())).bind fun r2 =>
  (bif (decide ((r2.1 : Int) < x1)) then
  some ((0, false, ()), ((r2.2.1.1, r2.2.1.2.1, r2.2.1.2.2.1, r2.2.1.2.2.2.1, r2.2.1.2.2.2.2.1, r2.2.1.2.2.2.2.2.1, r2.2.1.2.2.2.2.2.2.1, r2.2.1.2.2.2.2.2.2.2.1, ()), (), (), (), (), (), (), (), (), (), (), ()))
  else
  some (((IntKind.i64.wrap ((IntKind.i64.wrap (x1 - r2.2.1.1)) - 1)), true, ()), ((r2.2.1.1, r2.2.1.2.1, r2.2.1.2.2.1, r2.2.1.2.2.2.1, r2.2.1.2.2.2.2.1, r2.2.1.2.2.2.2.2.1, r2.2.1.2.2.2.2.2.2.1, r2.2.1.2.2.2.2.2.2.2.1, ()), (), (), (), (), (), (), (), (), (), (), ())))))
noncomputable def log_place_3_ce : CE CT Try.prog where
  f := 32
  args := [.one (.ptr 0 0), .one (.int .i64)]
  hs := [.obj 59 [.int .i64, .int .i64, .own 0 1, .own 0 2, .own 0 3, .own 0 4, .bool, .own 7 5], .row 3 1, .row 3 1, .row 3 1, .row 3 1, .row 42 7]
  res := .tup [.one (.int .i64), .one (.bool)]
  outs := [.obj 59 [.int .i64, .int .i64, .own 0 6, .own 0 7, .own 0 8, .own 0 9, .bool, .own 7 10], .dead, .dead, .dead, .dead, .dead, .row 3 1, .row 3 1, .row 3 1, .row 3 1, .row 42 7]
  m := fun d dh => log_place_3 d.2.1 dh.1
  ok := ce_ok mixedP Try.func32 (by kernel_rfl) (orcOf_ok log_place_3_tb) (dr := log_place_3_dr) (lps := lpsOf log_place_3_lt) (lps_fn (no_loop (by kernel_rfl))) (fun d dh => by kernel_rfl)

def log_Term_3_dr : Nat → DrA
  | _ => ⟨[], [], [], [], [], false, []⟩
noncomputable def log_Term_3_tb : List (CE CT Try.prog) := [log_place_3_ce, log_there_3_ce]
noncomputable def log_Term_3_lt : List (LE CT Try.prog) := []
noncomputable def log_Term_3 (x1 : Int) (h0 : (Int) × (Int) × (List (Int)) × (List (Int)) × (List (Int)) × (List (Int)) × (Bool) × (List (DEntry)) × Unit) : Option (((Int) × (Bool) × Unit) × (((Int) × (Int) × (List (Int)) × (List (Int)) × (List (Int)) × (List (Int)) × (Bool) × (List (DEntry)) × Unit) × (Unit) × (Unit) × (Unit) × (Unit) × (Unit) × (Unit) × (Unit) × (Unit) × (Unit) × (Unit) × Unit)) :=
  (log_place_3 x1 (h0.1, h0.2.1, h0.2.2.1, h0.2.2.2.1, h0.2.2.2.2.1, h0.2.2.2.2.2.1, h0.2.2.2.2.2.2.1, h0.2.2.2.2.2.2.2.1, ())).bind fun r1 =>
  (bif r1.1.2.1 then
  (getI r1.2.1.2.2.2.2.2.2.2.1 r1.1.1).bind fun e2 =>
  some ((e2.term_, true, ()), ((r1.2.1.1, r1.2.1.2.1, r1.2.1.2.2.1, r1.2.1.2.2.2.1, r1.2.1.2.2.2.2.1, r1.2.1.2.2.2.2.2.1, r1.2.1.2.2.2.2.2.2.1, r1.2.1.2.2.2.2.2.2.2.1, ()), (), (), (), (), (), (), (), (), (), (), ()))
  else
  (log_there_3 (r1.2.1.1, r1.2.1.2.1, r1.2.1.2.2.1, r1.2.1.2.2.2.1, r1.2.1.2.2.2.2.1, r1.2.1.2.2.2.2.2.1, r1.2.1.2.2.2.2.2.2.1, r1.2.1.2.2.2.2.2.2.2.1, ())).bind fun r3 =>
  (bif r3.1 then
  (bif (decide ((x1 : Int) = r3.2.1.1)) then
  some ((r3.2.1.2.1, true, ()), ((r3.2.1.1, r3.2.1.2.1, r3.2.1.2.2.1, r3.2.1.2.2.2.1, r3.2.1.2.2.2.2.1, r3.2.1.2.2.2.2.2.1, r3.2.1.2.2.2.2.2.2.1, r3.2.1.2.2.2.2.2.2.2.1, ()), (), (), (), (), (), (), (), (), (), (), ()))
  else
  some ((0, false, ()), ((r3.2.1.1, r3.2.1.2.1, r3.2.1.2.2.1, r3.2.1.2.2.2.1, r3.2.1.2.2.2.2.1, r3.2.1.2.2.2.2.2.1, r3.2.1.2.2.2.2.2.2.1, r3.2.1.2.2.2.2.2.2.2.1, ()), (), (), (), (), (), (), (), (), (), (), ())))
  else
  some ((0, false, ()), ((r3.2.1.1, r3.2.1.2.1, r3.2.1.2.2.1, r3.2.1.2.2.2.1, r3.2.1.2.2.2.2.1, r3.2.1.2.2.2.2.2.1, r3.2.1.2.2.2.2.2.2.1, r3.2.1.2.2.2.2.2.2.2.1, ()), (), (), (), (), (), (), (), (), (), (), ()))))
noncomputable def log_Term_3_ce : CE CT Try.prog where
  f := 15
  args := [.one (.ptr 0 0), .one (.int .i64)]
  hs := [.obj 59 [.int .i64, .int .i64, .own 0 1, .own 0 2, .own 0 3, .own 0 4, .bool, .own 7 5], .row 3 1, .row 3 1, .row 3 1, .row 3 1, .row 42 7]
  res := .tup [.one (.int .i64), .one (.bool)]
  outs := [.obj 59 [.int .i64, .int .i64, .own 0 6, .own 0 7, .own 0 8, .own 0 9, .bool, .own 7 10], .dead, .dead, .dead, .dead, .dead, .row 3 1, .row 3 1, .row 3 1, .row 3 1, .row 42 7]
  m := fun d dh => log_Term_3 d.2.1 dh.1
  ok := ce_ok mixedP Try.func15 (by kernel_rfl) (orcOf_ok log_Term_3_tb) (dr := log_Term_3_dr) (lps := lpsOf log_Term_3_lt) (lps_fn (no_loop (by kernel_rfl))) (fun d dh => by kernel_rfl)

def log_Put_3_dr : Nat → DrA
  | 2 => ⟨[0, 1, 2, 3, 5, 4, 6, 7, 8, 9, 10], [[], [], [1], [1, 2], [1, 2, 3], [], [5], [1, 2, 3, 4, 5, 6], [0, 1, 2, 3, 4, 5, 6, 7], [0, 1, 2, 3, 4, 5, 6, 7, 8], [0, 1, 2, 3, 4, 5, 6, 7, 8, 9]], [4], [6], [0], false, []⟩
  | _ => ⟨[], [], [], [], [], false, []⟩
noncomputable def log_Put_3_tb : List (CE CT Try.prog) := [log_there_3_ce, log_own_ce, log_Last_3_ce]
noncomputable def log_Put_3_lt : List (LE CT Try.prog) := []
noncomputable def log_Put_3 (x1 : List (DEntry)) (h0 : (Int) × (Int) × (List (Int)) × (List (Int)) × (List (Int)) × (List (Int)) × (Bool) × (List (DEntry)) × Unit) : Option ((Int) × (((Int) × (Int) × (List (Int)) × (List (Int)) × (List (Int)) × (List (Int)) × (Bool) × (List (DEntry)) × Unit) × (Unit) × (Unit) × (Unit) × (Unit) × (Unit) × (Unit) × (Unit) × (Unit) × (Unit) × (Unit) × Unit)) :=
  (log_there_3 (h0.1, h0.2.1, h0.2.2.1, h0.2.2.2.1, h0.2.2.2.2.1, h0.2.2.2.2.2.1, h0.2.2.2.2.2.2.1, h0.2.2.2.2.2.2.2.1, ())).bind fun r1 =>
  (bif r1.1 then
  (log_own x1).bind fun r2 =>
  (if r1.2.1.2.2.2.2.2.2.2.1.length + r2.1.length ≤ 140737488355328 ∧ (r1.2.1.2.2.2.2.2.2.2.1.length + r2.1.length) * 136 ≤ 140737488355328 then
  (log_Last_3 (r1.2.1.1, r1.2.1.2.1, r1.2.1.2.2.1, r1.2.1.2.2.2.1, r1.2.1.2.2.2.2.1, r1.2.1.2.2.2.2.2.1, r1.2.1.2.2.2.2.2.2.1, (r1.2.1.2.2.2.2.2.2.2.1 ++ r2.1), ())).bind fun r3 =>
  some (r3.1, ((r3.2.1.1, r3.2.1.2.1, r3.2.1.2.2.1, r3.2.1.2.2.2.1, r3.2.1.2.2.2.2.1, r3.2.1.2.2.2.2.2.1, r3.2.1.2.2.2.2.2.2.1, r3.2.1.2.2.2.2.2.2.2.1, ()), (), (), (), (), (), (), (), (), (), (), ()))
  else none)
  else
  (log_Last_3 (r1.2.1.1, r1.2.1.2.1, r1.2.1.2.2.1, r1.2.1.2.2.2.1, r1.2.1.2.2.2.2.1, r1.2.1.2.2.2.2.2.1, r1.2.1.2.2.2.2.2.2.1, r1.2.1.2.2.2.2.2.2.2.1, ())).bind fun r4 =>
  some (r4.1, ((r4.2.1.1, r4.2.1.2.1, r4.2.1.2.2.1, r4.2.1.2.2.2.1, r4.2.1.2.2.2.2.1, r4.2.1.2.2.2.2.2.1, r4.2.1.2.2.2.2.2.2.1, r4.2.1.2.2.2.2.2.2.2.1, ()), (), (), (), (), (), (), (), (), (), (), ())))
noncomputable def log_Put_3_ce : CE CT Try.prog where
  f := 10
  args := [.one (.ptr 0 0), .one (.sl 7)]
  hs := [.obj 59 [.int .i64, .int .i64, .own 0 1, .own 0 2, .own 0 3, .own 0 4, .bool, .own 7 5], .row 3 1, .row 3 1, .row 3 1, .row 3 1, .row 42 7]
  res := .val (.one (.int .i64))
  outs := [.obj 59 [.int .i64, .int .i64, .own 0 6, .own 0 7, .own 0 8, .own 0 9, .bool, .own 7 10], .dead, .dead, .dead, .dead, .dead, .row 3 1, .row 3 1, .row 3 1, .row 3 1, .row 42 7]
  m := fun d dh => log_Put_3 d.2.1 dh.1
  ok := ce_ok mixedP Try.func10 (by kernel_rfl) (orcOf_ok log_Put_3_tb) (dr := log_Put_3_dr) (lps := lpsOf log_Put_3_lt) (lps_fn (no_loop (by kernel_rfl))) (fun d dh => by kernel_rfl)

def log_Take_3_dr : Nat → DrA
  | 8 => ⟨[0, 1, 2, 3, 5, 6, 7, 8, 9, 10, 11, 12, 4, 13, 14, 15, 16, 17, 18, 19, 20], [[], [], [1], [1, 2], [1, 2, 3], [], [], [5, 6], [], [8], [8, 9], [8, 9, 10], [8, 9, 10, 11], [8, 9, 10, 11, 12], [5, 6, 7, 8, 9, 10, 11, 12, 13], [5, 6, 7, 8, 9, 10, 11, 12, 13, 14], [1, 2, 3, 4, 5, 6, 7, 8, 9, 10, 11, 12, 13, 14, 15], [1, 2, 3, 4, 5, 6, 7, 8, 9, 10, 11, 12, 13, 14, 15, 16], [0, 1, 2, 3, 4, 5, 6, 7, 8, 9, 10, 11, 12, 13, 14, 15, 16, 17], [0, 1, 2, 3, 4, 5, 6, 7, 8, 9, 10, 11, 12, 13, 14, 15, 16, 17, 18], [0, 1, 2, 3, 4, 5, 6, 7, 8, 9, 10, 11, 12, 13, 14, 15, 16, 17, 18, 19]], [], [], [], false, []⟩
  | _ => ⟨[], [], [], [], [], false, []⟩
noncomputable def log_Take_3_tb : List (CE CT Try.prog) := [log_there_3_ce, log_Last_3_ce, log_Term_3_ce, clone31_ce, log_Put_3_ce]
noncomputable def log_Take_3_l1 (a : ((Unit) × (Int) × (List (DEntry)) × (List (DEntry)) × (Int) × (Int) × Unit) × (((Int) × (Int) × (List (Int)) × (List (Int)) × (List (Int)) × (List (Int)) × (Bool) × (List (DEntry)) × Unit) × (Unit) × (Unit) × (Unit) × (Unit) × (Unit) × Unit)) : Option ((((Unit) × (Int) × (List (DEntry)) × (List (DEntry)) × (Int) × (Int) × Unit) × (((Int) × (Int) × (List (Int)) × (List (Int)) × (List (Int)) × (List (Int)) × (Bool) × (List (DEntry)) × Unit) × (Unit) × (Unit) × (Unit) × (Unit) × (Unit) × Unit)) ⊕ ((((Int) × (Bool) × Unit) × (((Int) × (Int) × (List (Int)) × (List (Int)) × (List (Int)) × (List (Int)) × (Bool) × (List (DEntry)) × Unit) × (Unit) × (Unit) × (Unit) × (Unit) × (Unit) × (Unit) × (Unit) × (Unit) × (Unit) × (Unit) × Unit)) ⊕ ((Unit) × (((Int) × (Int) × (List (Int)) × (List (Int)) × (List (Int)) × (List (Int)) × (Bool) × (List (DEntry)) × Unit) × (Unit) × (Unit) × (Unit) × (Unit) × (Unit) × (Unit) × (Unit) × (Unit) × (Unit) × (Unit) × Unit)))) :=
  (bif (decide ((a.1.2.2.2.2.2.1 : Int) < a.1.2.2.2.2.1)) then
  (getI a.1.2.2.2.1 a.1.2.2.2.2.2.1).bind fun e1 =>
  (log_Term_3 (IntKind.i64.wrap (a.1.2.1 + a.1.2.2.2.2.2.1)) (a.2.1.1, a.2.1.2.1, a.2.1.2.2.1, a.2.1.2.2.2.1, a.2.1.2.2.2.2.1, a.2.1.2.2.2.2.2.1, a.2.1.2.2.2.2.2.2.1, a.2.1.2.2.2.2.2.2.2.1, ())).bind fun r2 =>
  (bif r2.1.2.1 then
  (bif (decide ((r2.1.1 : Int) = e1.term_)) then
  some (.inl (((), a.1.2.1, a.1.2.2.1, a.1.2.2.2.1, a.1.2.2.2.2.1, (IntKind.i64.wrap (a.1.2.2.2.2.2.1 + 1)), ()), ((r2.2.1.1, r2.2.1.2.1, r2.2.1.2.2.1, r2.2.1.2.2.2.1, r2.2.1.2.2.2.2.1, r2.2.1.2.2.2.2.2.1, r2.2.1.2.2.2.2.2.2.1, r2.2.1.2.2.2.2.2.2.2.1, ()), (), (), (), (), (), ())))
  else
  (if 0 ≤ ((0 : Int) : Int) ∧ ((0 : Int) : Int) ≤ (IntKind.i64.wrap ((IntKind.i64.wrap ((IntKind.i64.wrap (a.1.2.1 + a.1.2.2.2.2.2.1)) - r2.2.1.1)) - 1)) ∧ (IntKind.i64.wrap ((IntKind.i64.wrap ((IntKind.i64.wrap (a.1.2.1 + a.1.2.2.2.2.2.1)) - r2.2.1.1)) - 1)) ≤ (r2.2.1.2.2.2.2.2.2.2.1.length : Int) then
  let y3 : List (DEntry) := ((r2.2.1.2.2.2.2.2.2.2.1.drop ((0 : Int) : Int).toNat).take (((IntKind.i64.wrap ((IntKind.i64.wrap ((IntKind.i64.wrap (a.1.2.1 + a.1.2.2.2.2.2.1)) - r2.2.1.1)) - 1)) : Int).toNat - ((0 : Int) : Int).toNat))
  (clone31 y3).bind fun r4 =>
  (if 0 ≤ (a.1.2.2.2.2.2.1 : Int) ∧ (a.1.2.2.2.2.2.1 : Int) ≤ (a.1.2.2.1.length : Int) ∧ (a.1.2.2.1.length : Int) ≤ (a.1.2.2.1.length : Int) then
  let y5 : List (DEntry) := ((a.1.2.2.1.drop (a.1.2.2.2.2.2.1 : Int).toNat).take (((a.1.2.2.1.length : Int) : Int).toNat - (a.1.2.2.2.2.2.1 : Int).toNat))
  (log_Put_3 y5 (r2.2.1.1, r2.2.1.2.1, r2.2.1.2.2.1, r2.2.1.2.2.2.1, r2.2.1.2.2.2.2.1, r2.2.1.2.2.2.2.2.1, r2.2.1.2.2.2.2.2.2.1, r4.1, ())).bind fun r6 =>
  some (.inr (.inl (((IntKind.i64.wrap (a.1.2.1 + a.1.2.2.2.2.2.1)), true, ()), ((r6.2.1.1, r6.2.1.2.1, r6.2.1.2.2.1, r6.2.1.2.2.2.1, r6.2.1.2.2.2.2.1, r6.2.1.2.2.2.2.2.1, r6.2.1.2.2.2.2.2.2.1, r6.2.1.2.2.2.2.2.2.2.1, ()), (), (), (), (), (), (), (), (), (), (), ()))))
  else none)
  else none))
  else
  (if 0 ≤ ((0 : Int) : Int) ∧ ((0 : Int) : Int) ≤ (IntKind.i64.wrap ((IntKind.i64.wrap ((IntKind.i64.wrap (a.1.2.1 + a.1.2.2.2.2.2.1)) - r2.2.1.1)) - 1)) ∧ (IntKind.i64.wrap ((IntKind.i64.wrap ((IntKind.i64.wrap (a.1.2.1 + a.1.2.2.2.2.2.1)) - r2.2.1.1)) - 1)) ≤ (r2.2.1.2.2.2.2.2.2.2.1.length : Int) then
  let y7 : List (DEntry) := ((r2.2.1.2.2.2.2.2.2.2.1.drop ((0 : Int) : Int).toNat).take (((IntKind.i64.wrap ((IntKind.i64.wrap ((IntKind.i64.wrap (a.1.2.1 + a.1.2.2.2.2.2.1)) - r2.2.1.1)) - 1)) : Int).toNat - ((0 : Int) : Int).toNat))
  (clone31 y7).bind fun r8 =>
  (if 0 ≤ (a.1.2.2.2.2.2.1 : Int) ∧ (a.1.2.2.2.2.2.1 : Int) ≤ (a.1.2.2.1.length : Int) ∧ (a.1.2.2.1.length : Int) ≤ (a.1.2.2.1.length : Int) then
  let y9 : List (DEntry) := ((a.1.2.2.1.drop (a.1.2.2.2.2.2.1 : Int).toNat).take (((a.1.2.2.1.length : Int) : Int).toNat - (a.1.2.2.2.2.2.1 : Int).toNat))
  (log_Put_3 y9 (r2.2.1.1, r2.2.1.2.1, r2.2.1.2.2.1, r2.2.1.2.2.2.1, r2.2.1.2.2.2.2.1, r2.2.1.2.2.2.2.2.1, r2.2.1.2.2.2.2.2.2.1, r8.1, ())).bind fun r10 =>
  some (.inr (.inl (((IntKind.i64.wrap (a.1.2.1 + a.1.2.2.2.2.2.1)), true, ()), ((r10.2.1.1, r10.2.1.2.1, r10.2.1.2.2.1, r10.2.1.2.2.2.1, r10.2.1.2.2.2.2.1, r10.2.1.2.2.2.2.2.1, r10.2.1.2.2.2.2.2.2.1, r10.2.1.2.2.2.2.2.2.2.1, ()), (), (), (), (), (), (), (), (), (), (), ()))))
  else none)
  else none))
  else
  some (.inr (.inr ((), ((a.2.1.1, a.2.1.2.1, a.2.1.2.2.1, a.2.1.2.2.2.1, a.2.1.2.2.2.2.1, a.2.1.2.2.2.2.2.1, a.2.1.2.2.2.2.2.2.1, a.2.1.2.2.2.2.2.2.2.1, ()), (), (), (), (), (), (), (), (), (), (), ())))))
noncomputable def log_Take_3_e1 : LE CT Try.prog := ⟨4, [0, 1, 2, 32, 33, 34], [.one (.ptr 0 0), .one (.int .i64), .one (.sl 7), .one (.sl 7), .one (.int .i64), .one (.int .i64)], [.obj 59 [.int .i64, .int .i64, .own 0 1, .own 0 2, .own 0 3, .own 0 4, .bool, .own 7 5], .row 3 1, .row 3 1, .row 3 1, .row 3 1, .row 42 7], [⟨.ret, [6, 7], [.one (.int .i64), .one (.bool)], [.obj 59 [.int .i64, .int .i64, .own 0 6, .own 0 7, .own 0 8, .own 0 9, .bool, .own 7 10], .dead, .dead, .dead, .dead, .dead, .row 3 1, .row 3 1, .row 3 1, .row 3 1, .row 42 7]⟩, ⟨.exit 0, [], [], [.obj 59 [.int .i64, .int .i64, .own 0 6, .own 0 7, .own 0 8, .own 0 9, .bool, .own 7 10], .dead, .dead, .dead, .dead, .dead, .row 3 1, .row 3 1, .row 3 1, .row 3 1, .row 42 7]⟩], log_Take_3_l1⟩
noncomputable def log_Take_3_lt : List (LE CT Try.prog) := [log_Take_3_e1]
theorem log_Take_3_e1_ok : LeOk log_Take_3_e1 (nthL (bodyOf Try.f11) 0) := fun A env h k z hk => le_ok (E := log_Take_3_e1) (orcOf_ok log_Take_3_tb) (dr := log_Take_3_dr) (lps := lpsOf log_Take_3_lt) (no_loop (by kernel_rfl)) (fun a => by kernel_rfl) env h k z hk
noncomputable def log_Take_3 (x1 : Int) (x2 : List (DEntry)) (h0 : (Int) × (Int) × (List (Int)) × (List (Int)) × (List (Int)) × (List (Int)) × (Bool) × (List (DEntry)) × Unit) : Option (((Int) × (Bool) × Unit) × (((Int) × (Int) × (List (Int)) × (List (Int)) × (List (Int)) × (List (Int)) × (Bool) × (List (DEntry)) × Unit) × (Unit) × (Unit) × (Unit) × (Unit) × (Unit) × (Unit) × (Unit) × (Unit) × (Unit) × (Unit) × Unit)) :=
  (log_there_3 (h0.1, h0.2.1, h0.2.2.1, h0.2.2.2.1, h0.2.2.2.2.1, h0.2.2.2.2.2.1, h0.2.2.2.2.2.2.1, h0.2.2.2.2.2.2.2.1, ())).bind fun r1 =>
  (bif (!r1.1) then
  some ((0, false, ()), ((r1.2.1.1, r1.2.1.2.1, r1.2.1.2.2.1, r1.2.1.2.2.2.1, r1.2.1.2.2.2.2.1, r1.2.1.2.2.2.2.2.1, r1.2.1.2.2.2.2.2.2.1, r1.2.1.2.2.2.2.2.2.2.1, ()), (), (), (), (), (), (), (), (), (), (), ()))
  else
  (bif (decide ((x1 : Int) ≤ r1.2.1.1)) then
  some ((0, false, ()), ((r1.2.1.1, r1.2.1.2.1, r1.2.1.2.2.1, r1.2.1.2.2.2.1, r1.2.1.2.2.2.2.1, r1.2.1.2.2.2.2.2.1, r1.2.1.2.2.2.2.2.2.1, r1.2.1.2.2.2.2.2.2.2.1, ()), (), (), (), (), (), (), (), (), (), (), ()))
  else
  (log_Last_3 (r1.2.1.1, r1.2.1.2.1, r1.2.1.2.2.1, r1.2.1.2.2.2.1, r1.2.1.2.2.2.2.1, r1.2.1.2.2.2.2.2.1, r1.2.1.2.2.2.2.2.2.1, r1.2.1.2.2.2.2.2.2.2.1, ())).bind fun r2 =>
  (bif (decide (((IntKind.i64.wrap (r2.1 + 1)) : Int) < x1)) then
  some ((0, false, ()), ((r2.2.1.1, r2.2.1.2.1, r2.2.1.2.2.1, r2.2.1.2.2.2.1, r2.2.1.2.2.2.2.1, r2.2.1.2.2.2.2.2.1, r2.2.1.2.2.2.2.2.2.1, r2.2.1.2.2.2.2.2.2.2.1, ()), (), (), (), (), (), (), (), (), (), (), ()))
  else
  (loopM log_Take_3_l1 (((), x1, x2, x2, (x2.length : Int), 0, ()), ((r2.2.1.1, r2.2.1.2.1, r2.2.1.2.2.1, r2.2.1.2.2.2.1, r2.2.1.2.2.2.2.1, r2.2.1.2.2.2.2.2.1, r2.2.1.2.2.2.2.2.2.1, r2.2.1.2.2.2.2.2.2.2.1, ()), (), (), (), (), (), ()))).bind fun b3 =>
  (match b3 with
  | .inl b4 =>
  some ((b4.1.1, b4.1.2.1, ()), ((b4.2.1.1, b4.2.1.2.1, b4.2.1.2.2.1, b4.2.1.2.2.2.1, b4.2.1.2.2.2.2.1, b4.2.1.2.2.2.2.2.1, b4.2.1.2.2.2.2.2.2.1, b4.2.1.2.2.2.2.2.2.2.1, ()), (), (), (), (), (), (), (), (), (), (), ()))
  | .inr b5 =>
  some ((0, true, ()), ((b5.2.1.1, b5.2.1.2.1, b5.2.1.2.2.1, b5.2.1.2.2.2.1, b5.2.1.2.2.2.2.1, b5.2.1.2.2.2.2.2.1, b5.2.1.2.2.2.2.2.2.1, b5.2.1.2.2.2.2.2.2.2.1, ()), (), (), (), (), (), (), (), (), (), (), ()))))))
noncomputable def log_Take_3_ce : CE CT Try.prog where
  f := 11
  args := [.one (.ptr 0 0), .one (.int .i64), .one (.sl 7)]
  hs := [.obj 59 [.int .i64, .int .i64, .own 0 1, .own 0 2, .own 0 3, .own 0 4, .bool, .own 7 5], .row 3 1, .row 3 1, .row 3 1, .row 3 1, .row 42 7]
  res := .tup [.one (.int .i64), .one (.bool)]
  outs := [.obj 59 [.int .i64, .int .i64, .own 0 6, .own 0 7, .own 0 8, .own 0 9, .bool, .own 7 10], .dead, .dead, .dead, .dead, .dead, .row 3 1, .row 3 1, .row 3 1, .row 3 1, .row 42 7]
  m := fun d dh => log_Take_3 d.2.1 d.2.2.1 dh.1
  ok := ce_ok mixedP Try.func11 (by kernel_rfl) (orcOf_ok log_Take_3_tb) (dr := log_Take_3_dr) (lps := lpsOf log_Take_3_lt) (lps_fn (lps_of (n := 1) (by kernel_rfl) fun i hi => match i, hi with | 0, _ => lp_ok (E := log_Take_3_e1) (by kernel_rfl) log_Take_3_e1_ok)) (fun d dh => by kernel_rfl)

def log_At_2_dr : Nat → DrA
  | _ => ⟨[], [], [], [], [], false, []⟩
noncomputable def log_At_2_tb : List (CE CT Try.prog) := [log_place_3_ce, log_own_ce]
noncomputable def log_At_2_lt : List (LE CT Try.prog) := []
noncomputable def log_At_2 (x1 : Int) (h0 : (Int) × (Int) × (List (Int)) × (List (Int)) × (List (Int)) × (List (Int)) × (Bool) × (List (DEntry)) × Unit) : Option (((DEntry) × (Bool) × Unit) × (((Int) × (Int) × (List (Int)) × (List (Int)) × (List (Int)) × (List (Int)) × (Bool) × (List (DEntry)) × Unit) × (Unit) × (Unit) × (Unit) × (Unit) × (Unit) × (Unit) × (Unit) × (Unit) × (Unit) × (Unit) × Unit)) :=
  (log_place_3 x1 (h0.1, h0.2.1, h0.2.2.1, h0.2.2.2.1, h0.2.2.2.2.1, h0.2.2.2.2.2.1, h0.2.2.2.2.2.2.1, h0.2.2.2.2.2.2.2.1, ())).bind fun r1 =>
  (bif (!r1.1.2.1) then
  some (((⟨0, 0, [], (⟨[], [], [], []⟩ : DConfig)⟩ : DEntry), false, ()), ((r1.2.1.1, r1.2.1.2.1, r1.2.1.2.2.1, r1.2.1.2.2.2.1, r1.2.1.2.2.2.2.1, r1.2.1.2.2.2.2.2.1, r1.2.1.2.2.2.2.2.2.1, r1.2.1.2.2.2.2.2.2.2.1, ()), (), (), (), (), (), (), (), (), (), (), ()))
  else
  (getI r1.2.1.2.2.2.2.2.2.2.1 r1.1.1).bind fun e2 =>
  (log_own ([e2] : List (DEntry))).bind fun r3 =>
  (getI r3.1 0).bind fun e4 =>
  some ((e4, true, ()), ((r1.2.1.1, r1.2.1.2.1, r1.2.1.2.2.1, r1.2.1.2.2.2.1, r1.2.1.2.2.2.2.1, r1.2.1.2.2.2.2.2.1, r1.2.1.2.2.2.2.2.2.1, r1.2.1.2.2.2.2.2.2.2.1, ()), (), (), (), (), (), (), (), (), (), (), ())))
noncomputable def log_At_2_ce : CE CT Try.prog where
  f := 13
  args := [.one (.ptr 0 0), .one (.int .i64)]
  hs := [.obj 59 [.int .i64, .int .i64, .own 0 1, .own 0 2, .own 0 3, .own 0 4, .bool, .own 7 5], .row 3 1, .row 3 1, .row 3 1, .row 3 1, .row 42 7]
  res := .tup [.cod 7, .one (.bool)]
  outs := [.obj 59 [.int .i64, .int .i64, .own 0 6, .own 0 7, .own 0 8, .own 0 9, .bool, .own 7 10], .dead, .dead, .dead, .dead, .dead, .row 3 1, .row 3 1, .row 3 1, .row 3 1, .row 42 7]
  m := fun d dh => log_At_2 d.2.1 dh.1
  ok := ce_ok mixedP Try.func13 (by kernel_rfl) (orcOf_ok log_At_2_tb) (dr := log_At_2_dr) (lps := lpsOf log_At_2_lt) (lps_fn (no_loop (by kernel_rfl))) (fun d dh => by kernel_rfl)

def log_force_dr : Nat → DrA
  | 7 => ⟨[0, 1, 2, 3, 4, 7, 8, 9, 10, 11, 5, 12, 6, 13, 14], [[], [0], [0, 1], [0, 1, 2], [0, 1, 2, 3], [0, 1, 2, 3, 4], [0, 1, 2, 3, 4, 5], [], [7], [7, 8], [7, 8, 9], [7, 8, 9, 10], [7, 8, 9, 10, 11], [0, 1, 2, 3, 4, 5, 6], [0, 1, 2, 3, 4, 5, 6, 7, 8, 9, 10, 11, 12, 13]], [12], [6, 13], [0], false, []⟩
  | _ => ⟨[], [], [], [], [], false, []⟩
noncomputable def log_force_tb : List (CE CT Try.prog) := [log_place_3_ce, log_ownConfig_ce]
noncomputable def log_force_l1 (a : ((Unit) × (Unit) × (Int) × Unit) × (((Int) × (Int) × (List (Int)) × (List (Int)) × (List (Int)) × (List (Int)) × (Bool) × (List (DEntry)) × Unit) × ((List (Int)) × (List (Int)) × (List (Int)) × (List (Int)) × Unit) × (Unit) × (Unit) × (Unit) × (Unit) × (Unit) × (Unit) × (Unit) × (Unit) × (Unit) × Unit)) : Option ((((Unit) × (Unit) × (Int) × Unit) × (((Int) × (Int) × (List (Int)) × (List (Int)) × (List (Int)) × (List (Int)) × (Bool) × (List (DEntry)) × Unit) × ((List (Int)) × (List (Int)) × (List (Int)) × (List (Int)) × Unit) × (Unit) × (Unit) × (Unit) × (Unit) × (Unit) × (Unit) × (Unit) × (Unit) × (Unit) × Unit)) ⊕ ((((Unit) × (Int) × Unit) × (((Int) × (Int) × (List (Int)) × (List (Int)) × (List (Int)) × (List (Int)) × (Bool) × (List (DEntry)) × Unit) × (DConfig) × (Unit) × (Unit) × (Unit) × (Unit) × (Unit) × (Unit) × (Unit) × (Unit) × (Unit) × (Unit) × (Unit) × (Unit) × (Unit) × (Unit) × Unit)) ⊕ (((Unit) × (Unit) × Unit) × (((Int) × (Int) × (List (Int)) × (List (Int)) × (List (Int)) × (List (Int)) × (Bool) × (List (DEntry)) × Unit) × ((List (Int)) × (List (Int)) × (List (Int)) × (List (Int)) × Unit) × (Unit) × (Unit) × (Unit) × (Unit) × (Unit) × (Unit) × (Unit) × (Unit) × (Unit) × (Unit) × (Unit) × (Unit) × (Unit) × (Unit) × (Unit) × (Unit) × (Unit) × (Unit) × Unit)))) :=
  (bif (decide ((a.2.1.1 : Int) < a.1.2.2.1)) then
  (log_place_3 a.1.2.2.1 (a.2.1.1, a.2.1.2.1, a.2.1.2.2.1, a.2.1.2.2.2.1, a.2.1.2.2.2.2.1, a.2.1.2.2.2.2.2.1, a.2.1.2.2.2.2.2.2.1, a.2.1.2.2.2.2.2.2.2.1, ())).bind fun r1 =>
  (bif r1.1.2.1 then
  (getI r1.2.1.2.2.2.2.2.2.2.1 r1.1.1).bind fun e2 =>
  (bif (decide ((e2.kind : Int) = 3)) then
  (getI r1.2.1.2.2.2.2.2.2.2.1 r1.1.1).bind fun e3 =>
  (log_ownConfig e3.config).bind fun r4 =>
  some (.inr (.inl (((), a.1.2.2.1, ()), ((r1.2.1.1, r1.2.1.2.1, r1.2.1.2.2.1, r1.2.1.2.2.2.1, r1.2.1.2.2.2.2.1, r1.2.1.2.2.2.2.2.1, r1.2.1.2.2.2.2.2.2.1, r1.2.1.2.2.2.2.2.2.2.1, ()), r4.1, (), (), (), (), (), (), (), (), (), (), (), (), (), (), ()))))
  else
  some (.inl (((), (), (IntKind.i64.wrap (a.1.2.2.1 - 1)), ()), ((r1.2.1.1, r1.2.1.2.1, r1.2.1.2.2.1, r1.2.1.2.2.2.1, r1.2.1.2.2.2.2.1, r1.2.1.2.2.2.2.2.1, r1.2.1.2.2.2.2.2.2.1, r1.2.1.2.2.2.2.2.2.2.1, ()), (a.2.2.1.1, a.2.2.1.2.1, a.2.2.1.2.2.1, a.2.2.1.2.2.2.1, ()), (), (), (), (), (), (), (), (), (), ()))))
  else
  some (.inl (((), (), (IntKind.i64.wrap (a.1.2.2.1 - 1)), ()), ((r1.2.1.1, r1.2.1.2.1, r1.2.1.2.2.1, r1.2.1.2.2.2.1, r1.2.1.2.2.2.2.1, r1.2.1.2.2.2.2.2.1, r1.2.1.2.2.2.2.2.2.1, r1.2.1.2.2.2.2.2.2.2.1, ()), (a.2.2.1.1, a.2.2.1.2.1, a.2.2.1.2.2.1, a.2.2.1.2.2.2.1, ()), (), (), (), (), (), (), (), (), (), ()))))
  else
  some (.inr (.inr (((), (), ()), ((a.2.1.1, a.2.1.2.1, a.2.1.2.2.1, a.2.1.2.2.2.1, a.2.1.2.2.2.2.1, a.2.1.2.2.2.2.2.1, a.2.1.2.2.2.2.2.2.1, a.2.1.2.2.2.2.2.2.2.1, ()), (a.2.2.1.1, a.2.2.1.2.1, a.2.2.1.2.2.1, a.2.2.1.2.2.2.1, ()), (), (), (), (), (), (), (), (), (), (), (), (), (), (), (), (), (), (), ())))))
noncomputable def log_force_e1 : LE CT Try.prog := ⟨2, [0, 4, 6], [.one (.ptr 0 0), .one (.ptr 1 0), .one (.int .i64)], [.obj 59 [.int .i64, .int .i64, .own 0 2, .own 0 3, .own 0 4, .own 0 5, .bool, .own 7 6], .obj 24 [.own 0 7, .own 0 8, .own 0 9, .own 0 10], .row 3 1, .row 3 1, .row 3 1, .row 3 1, .row 42 7, .row 3 1, .row 3 1, .row 3 1, .row 3 1], [⟨.ret, [4, 5], [.one (.ptr 1 0), .one (.int .i64)], [.obj 59 [.int .i64, .int .i64, .own 0 11, .own 0 12, .own 0 13, .own 0 14, .bool, .own 7 15], .cobj 24 6, .dead, .dead, .dead, .dead, .dead, .dead, .dead, .dead, .dead, .row 3 1, .row 3 1, .row 3 1, .row 3 1, .row 42 7]⟩, ⟨.exit 0, [0, 4], [.one (.ptr 0 0), .one (.ptr 1 0)], [.obj 59 [.int .i64, .int .i64, .own 0 11, .own 0 12, .own 0 13, .own 0 14, .bool, .own 7 15], .obj 24 [.own 0 16, .own 0 17, .own 0 18, .own 0 19], .dead, .dead, .dead, .dead, .dead, .dead, .dead, .dead, .dead, .row 3 1, .row 3 1, .row 3 1, .row 3 1, .row 42 7, .row 3 1, .row 3 1, .row 3 1, .row 3 1]⟩], log_force_l1⟩
noncomputable def log_force_lt : List (LE CT Try.prog) := [log_force_e1]
theorem log_force_e1_ok : LeOk log_force_e1 (nthL (bodyOf Try.f34) 0) := fun A env h k z hk => le_ok (E := log_force_e1) (orcOf_ok log_force_tb) (dr := log_force_dr) (lps := lpsOf log_force_lt) (no_loop (by kernel_rfl)) (fun a => by kernel_rfl) env h k z hk
noncomputable def log_force (x1 : Int) (h0 : (Int) × (Int) × (List (Int)) × (List (Int)) × (List (Int)) × (List (Int)) × (Bool) × (List (DEntry)) × Unit) : Option (((DConfig) × (Int) × Unit) × (((Int) × (Int) × (List (Int)) × (List (Int)) × (List (Int)) × (List (Int)) × (Bool) × (List (DEntry)) × Unit) × (Unit) × (Unit) × (Unit) × (Unit) × (Unit) × (Unit) × (Unit) × (Unit) × (Unit) × (Unit) × Unit)) :=
  (loopM log_force_l1 (((), (), x1, ()), ((h0.1, h0.2.1, h0.2.2.1, h0.2.2.2.1, h0.2.2.2.2.1, h0.2.2.2.2.2.1, h0.2.2.2.2.2.2.1, h0.2.2.2.2.2.2.2.1, ()), ([], [], [], [], ()), (), (), (), (), (), (), (), (), (), ()))).bind fun b1 =>
  (match b1 with
  | .inl b2 =>
  some ((b2.2.2.1, b2.1.2.1, ()), ((b2.2.1.1, b2.2.1.2.1, b2.2.1.2.2.1, b2.2.1.2.2.2.1, b2.2.1.2.2.2.2.1, b2.2.1.2.2.2.2.2.1, b2.2.1.2.2.2.2.2.2.1, b2.2.1.2.2.2.2.2.2.2.1, ()), (), (), (), (), (), (), (), (), (), (), ()))
  | .inr b3 =>
  (log_ownConfig (⟨b3.2.1.2.2.1, b3.2.1.2.2.2.1, b3.2.1.2.2.2.2.1, b3.2.1.2.2.2.2.2.1⟩ : DConfig)).bind fun r4 =>
  some ((r4.1, b3.2.1.1, ()), ((b3.2.1.1, b3.2.1.2.1, b3.2.1.2.2.1, b3.2.1.2.2.2.1, b3.2.1.2.2.2.2.1, b3.2.1.2.2.2.2.2.1, b3.2.1.2.2.2.2.2.2.1, b3.2.1.2.2.2.2.2.2.2.1, ()), (), (), (), (), (), (), (), (), (), (), ())))
noncomputable def log_force_ce : CE CT Try.prog where
  f := 34
  args := [.one (.ptr 0 0), .one (.int .i64)]
  hs := [.obj 59 [.int .i64, .int .i64, .own 0 1, .own 0 2, .own 0 3, .own 0 4, .bool, .own 7 5], .row 3 1, .row 3 1, .row 3 1, .row 3 1, .row 42 7]
  res := .tup [.cod 6, .one (.int .i64)]
  outs := [.obj 59 [.int .i64, .int .i64, .own 0 6, .own 0 7, .own 0 8, .own 0 9, .bool, .own 7 10], .dead, .dead, .dead, .dead, .dead, .row 3 1, .row 3 1, .row 3 1, .row 3 1, .row 42 7]
  m := fun d dh => log_force d.2.1 dh.1
  ok := ce_ok mixedP Try.func34 (by kernel_rfl) (orcOf_ok log_force_tb) (dr := log_force_dr) (lps := lpsOf log_force_lt) (lps_fn (lps_of (n := 1) (by kernel_rfl) fun i hi => match i, hi with | 0, _ => lp_ok (E := log_force_e1) (by kernel_rfl) log_force_e1_ok)) (fun d dh => by kernel_rfl)

def log_Config_2_dr : Nat → DrA
  | _ => ⟨[], [], [], [], [], false, []⟩
noncomputable def log_Config_2_tb : List (CE CT Try.prog) := [log_there_3_ce, log_Last_3_ce, log_force_ce]
noncomputable def log_Config_2_lt : List (LE CT Try.prog) := []
noncomputable def log_Config_2 (h0 : (Int) × (Int) × (List (Int)) × (List (Int)) × (List (Int)) × (List (Int)) × (Bool) × (List (DEntry)) × Unit) : Option (((DConfig) × (Int) × Unit) × (((Int) × (Int) × (List (Int)) × (List (Int)) × (List (Int)) × (List (Int)) × (Bool) × (List (DEntry)) × Unit) × (Unit) × (Unit) × (Unit) × (Unit) × (Unit) × (Unit) × (Unit) × (Unit) × (Unit) × (Unit) × Unit)) :=
  (log_there_3 (h0.1, h0.2.1, h0.2.2.1, h0.2.2.2.1, h0.2.2.2.2.1, h0.2.2.2.2.2.1, h0.2.2.2.2.2.2.1, h0.2.2.2.2.2.2.2.1, ())).bind fun r1 =>
  (bif (!r1.1) then
  some (((⟨[], [], [], []⟩ : DConfig), 0, ()), ((r1.2.1.1, r1.2.1.2.1, r1.2.1.2.2.1, r1.2.1.2.2.2.1, r1.2.1.2.2.2.2.1, r1.2.1.2.2.2.2.2.1, r1.2.1.2.2.2.2.2.2.1, r1.2.1.2.2.2.2.2.2.2.1, ()), (), (), (), (), (), (), (), (), (), (), ()))
  else
  (log_Last_3 (r1.2.1.1, r1.2.1.2.1, r1.2.1.2.2.1, r1.2.1.2.2.2.1, r1.2.1.2.2.2.2.1, r1.2.1.2.2.2.2.2.1, r1.2.1.2.2.2.2.2.2.1, r1.2.1.2.2.2.2.2.2.2.1, ())).bind fun r2 =>
  (log_force r2.1 (r2.2.1.1, r2.2.1.2.1, r2.2.1.2.2.1, r2.2.1.2.2.2.1, r2.2.1.2.2.2.2.1, r2.2.1.2.2.2.2.2.1, r2.2.1.2.2.2.2.2.2.1, r2.2.1.2.2.2.2.2.2.2.1, ())).bind fun r3 =>
  some ((r3.1.1, r3.1.2.1, ()), ((r3.2.1.1, r3.2.1.2.1, r3.2.1.2.2.1, r3.2.1.2.2.2.1, r3.2.1.2.2.2.2.1, r3.2.1.2.2.2.2.2.1, r3.2.1.2.2.2.2.2.2.1, r3.2.1.2.2.2.2.2.2.2.1, ()), (), (), (), (), (), (), (), (), (), (), ())))
noncomputable def log_Config_2_ce : CE CT Try.prog where
  f := 17
  args := [.one (.ptr 0 0)]
  hs := [.obj 59 [.int .i64, .int .i64, .own 0 1, .own 0 2, .own 0 3, .own 0 4, .bool, .own 7 5], .row 3 1, .row 3 1, .row 3 1, .row 3 1, .row 42 7]
  res := .tup [.cod 6, .one (.int .i64)]
  outs := [.obj 59 [.int .i64, .int .i64, .own 0 6, .own 0 7, .own 0 8, .own 0 9, .bool, .own 7 10], .dead, .dead, .dead, .dead, .dead, .row 3 1, .row 3 1, .row 3 1, .row 3 1, .row 42 7]
  m := fun d dh => log_Config_2 dh.1
  ok := ce_ok mixedP Try.func17 (by kernel_rfl) (orcOf_ok log_Config_2_tb) (dr := log_Config_2_dr) (lps := lpsOf log_Config_2_lt) (lps_fn (no_loop (by kernel_rfl))) (fun d dh => by kernel_rfl)

def log_stand_dr : Nat → DrA
  | 1 => ⟨[0, 1, 2, 3, 4, 6, 5, 7, 9, 10, 8, 11, 12, 13, 14, 15, 16], [[], [], [], [2], [2, 3], [2, 3, 4], [], [2, 3, 4, 5, 6], [2, 3, 4, 5, 6, 7], [], [9], [0, 2, 3, 4, 5, 6, 7, 8], [0, 2, 3, 4, 5, 6, 7, 8, 11], [0, 2, 3, 4, 5, 6, 7, 8, 11, 12], [0, 1, 2, 3, 4, 5, 6, 7, 8, 9, 10, 11, 12, 13], [0, 1, 2, 3, 4, 5, 6, 7, 8, 9, 10, 11, 12, 13, 14], [0, 1, 2, 3, 4, 5, 6, 7, 8, 9, 10, 11, 12, 13, 14, 15]], [9], [8, 13], [6], false, []⟩
  | _ => ⟨[], [], [], [], [], false, []⟩
noncomputable def log_stand_tb : List (CE CT Try.prog) := [clone31_ce]
noncomputable def log_stand_lt : List (LE CT Try.prog) := []
noncomputable def log_stand (x1 : DBase) (x2 : Int) (h0 : (Int) × (Int) × (List (Int)) × (List (Int)) × (List (Int)) × (List (Int)) × (Bool) × (List (DEntry)) × Unit) : Option ((Bool) × (((Int) × (Int) × (List (Int)) × (List (Int)) × (List (Int)) × (List (Int)) × (Bool) × (List (DEntry)) × Unit) × (Unit) × (Unit) × (Unit) × (Unit) × (Unit) × (Unit) × Unit)) :=
  (if 0 ≤ (x2 : Int) ∧ (x2 : Int) ≤ (h0.2.2.2.2.2.2.2.1.length : Int) ∧ (h0.2.2.2.2.2.2.2.1.length : Int) ≤ (h0.2.2.2.2.2.2.2.1.length : Int) then
  let y1 : List (DEntry) := ((h0.2.2.2.2.2.2.2.1.drop (x2 : Int).toNat).take (((h0.2.2.2.2.2.2.2.1.length : Int) : Int).toNat - (x2 : Int).toNat))
  (clone31 y1).bind fun r2 =>
  some (true, ((x1.index, x1.term_, x1.config.voters, x1.config.old, x1.config.learners, x1.config.want, h0.2.2.2.2.2.2.1, r2.1, ()), (), (), (), (), (), (), ()))
  else none)
noncomputable def log_stand_ce : CE CT Try.prog where
  f := 35
  args := [.one (.ptr 0 0), .cod 9, .one (.int .i64)]
  hs := [.obj 59 [.int .i64, .int .i64, .own 0 1, .own 0 2, .own 0 3, .own 0 4, .bool, .own 7 5], .row 3 1, .row 3 1, .row 3 1, .row 3 1, .row 42 7]
  res := .val (.one (.bool))
  outs := [.obj 59 [.int .i64, .int .i64, .sl 0, .sl 0, .sl 0, .sl 0, .bool, .own 7 6], .dead, .dead, .dead, .dead, .dead, .row 42 7]
  m := fun d dh => log_stand d.2.1 d.2.2.1 dh.1
  ok := ce_ok mixedP Try.func35 (by kernel_rfl) (orcOf_ok log_stand_tb) (dr := log_stand_dr) (lps := lpsOf log_stand_lt) (lps_fn (no_loop (by kernel_rfl))) (fun d dh => by kernel_rfl)

def log_Compact_2_dr : Nat → DrA
  | 5 => ⟨[0, 1, 2, 5, 6, 7, 8, 9, 10, 3, 4, 11, 12, 13, 14], [[], [], [], [], [1, 2, 3], [], [], [6], [6, 7], [6, 7, 8], [6, 7, 8, 9], [6, 7, 8, 9, 10], [5, 6, 7, 8, 9, 10, 11], [0, 1, 2, 3, 4, 5, 6, 7, 8, 9, 10, 11, 12], [0, 1, 2, 3, 4, 5, 6, 7, 8, 9, 10, 11, 12, 13]], [], [], [], false, []⟩
  | _ => ⟨[], [], [], [], [], false, []⟩
noncomputable def log_Compact_2_tb : List (CE CT Try.prog) := [log_Term_3_ce, log_force_ce, log_stand_ce]
noncomputable def log_Compact_2_lt : List (LE CT Try.prog) := []
noncomputable def log_Compact_2 (x1 : Int) (h0 : (Int) × (Int) × (List (Int)) × (List (Int)) × (List (Int)) × (List (Int)) × (Bool) × (List (DEntry)) × Unit) : Option ((Bool) × (((Int) × (Int) × (List (Int)) × (List (Int)) × (List (Int)) × (List (Int)) × (Bool) × (List (DEntry)) × Unit) × (Unit) × (Unit) × (Unit) × (Unit) × (Unit) × (Unit) × Unit)) :=
  (log_Term_3 x1 (h0.1, h0.2.1, h0.2.2.1, h0.2.2.2.1, h0.2.2.2.2.1, h0.2.2.2.2.2.1, h0.2.2.2.2.2.2.1, h0.2.2.2.2.2.2.2.1, ())).bind fun r1 =>
  (bif (!r1.1.2.1) then
  some (false, ((r1.2.1.1, r1.2.1.2.1, r1.2.1.2.2.1, r1.2.1.2.2.2.1, r1.2.1.2.2.2.2.1, r1.2.1.2.2.2.2.2.1, r1.2.1.2.2.2.2.2.2.1, r1.2.1.2.2.2.2.2.2.2.1, ()), (), (), (), (), (), (), ()))
  else
  (log_force x1 (r1.2.1.1, r1.2.1.2.1, r1.2.1.2.2.1, r1.2.1.2.2.2.1, r1.2.1.2.2.2.2.1, r1.2.1.2.2.2.2.2.1, r1.2.1.2.2.2.2.2.2.1, r1.2.1.2.2.2.2.2.2.2.1, ())).bind fun r2 =>
  (log_stand (⟨x1, r1.1.1, r2.1.1⟩ : DBase) (IntKind.i64.wrap (x1 - r2.2.1.1)) (r2.2.1.1, r2.2.1.2.1, r2.2.1.2.2.1, r2.2.1.2.2.2.1, r2.2.1.2.2.2.2.1, r2.2.1.2.2.2.2.2.1, r2.2.1.2.2.2.2.2.2.1, r2.2.1.2.2.2.2.2.2.2.1, ())).bind fun r3 =>
  some (r3.1, ((r3.2.1.1, r3.2.1.2.1, r3.2.1.2.2.1, r3.2.1.2.2.2.1, r3.2.1.2.2.2.2.1, r3.2.1.2.2.2.2.2.1, r3.2.1.2.2.2.2.2.2.1, r3.2.1.2.2.2.2.2.2.2.1, ()), (), (), (), (), (), (), ())))
noncomputable def log_Compact_2_ce : CE CT Try.prog where
  f := 16
  args := [.one (.ptr 0 0), .one (.int .i64)]
  hs := [.obj 59 [.int .i64, .int .i64, .own 0 1, .own 0 2, .own 0 3, .own 0 4, .bool, .own 7 5], .row 3 1, .row 3 1, .row 3 1, .row 3 1, .row 42 7]
  res := .val (.one (.bool))
  outs := [.obj 59 [.int .i64, .int .i64, .sl 0, .sl 0, .sl 0, .sl 0, .bool, .own 7 6], .dead, .dead, .dead, .dead, .dead, .row 42 7]
  m := fun d dh => log_Compact_2 d.2.1 dh.1
  ok := ce_ok mixedP Try.func16 (by kernel_rfl) (orcOf_ok log_Compact_2_tb) (dr := log_Compact_2_dr) (lps := lpsOf log_Compact_2_lt) (lps_fn (no_loop (by kernel_rfl))) (fun d dh => by kernel_rfl)

def log_stand_2_dr : Nat → DrA
  | 1 => ⟨[0, 1, 2, 3, 4, 6, 5, 7, 9, 10, 8, 11, 12, 13, 14, 15, 16], [[], [], [], [2], [2, 3], [2, 3, 4], [], [2, 3, 4, 5, 6], [2, 3, 4, 5, 6, 7], [], [9], [0, 2, 3, 4, 5, 6, 7, 8], [0, 2, 3, 4, 5, 6, 7, 8, 11], [0, 2, 3, 4, 5, 6, 7, 8, 11, 12], [0, 1, 2, 3, 4, 5, 6, 7, 8, 9, 10, 11, 12, 13], [0, 1, 2, 3, 4, 5, 6, 7, 8, 9, 10, 11, 12, 13, 14], [0, 1, 2, 3, 4, 5, 6, 7, 8, 9, 10, 11, 12, 13, 14, 15]], [9], [8, 13], [2], false, []⟩
  | _ => ⟨[], [], [], [], [], false, []⟩
noncomputable def log_stand_2_tb : List (CE CT Try.prog) := [clone31_ce]
noncomputable def log_stand_2_lt : List (LE CT Try.prog) := []
noncomputable def log_stand_2 (x1 : DBase) (x2 : Int) (h0 : (Int) × (Int) × (List (Int)) × (List (Int)) × (List (Int)) × (List (Int)) × (Bool) × (List (DEntry)) × Unit) : Option ((Bool) × (((Int) × (Int) × (List (Int)) × (List (Int)) × (List (Int)) × (List (Int)) × (Bool) × (List (DEntry)) × Unit) × (Unit) × (Unit) × Unit)) :=
  (if 0 ≤ (x2 : Int) ∧ (x2 : Int) ≤ (h0.2.2.2.2.2.2.2.1.length : Int) ∧ (h0.2.2.2.2.2.2.2.1.length : Int) ≤ (h0.2.2.2.2.2.2.2.1.length : Int) then
  let y1 : List (DEntry) := ((h0.2.2.2.2.2.2.2.1.drop (x2 : Int).toNat).take (((h0.2.2.2.2.2.2.2.1.length : Int) : Int).toNat - (x2 : Int).toNat))
  (clone31 y1).bind fun r2 =>
  some (true, ((x1.index, x1.term_, x1.config.voters, x1.config.old, x1.config.learners, x1.config.want, h0.2.2.2.2.2.2.1, r2.1, ()), (), (), ()))
  else none)
noncomputable def log_stand_2_ce : CE CT Try.prog where
  f := 35
  args := [.one (.ptr 0 0), .cod 9, .one (.int .i64)]
  hs := [.obj 59 [.int .i64, .int .i64, .sl 0, .sl 0, .sl 0, .sl 0, .bool, .own 7 1], .row 42 7]
  res := .val (.one (.bool))
  outs := [.obj 59 [.int .i64, .int .i64, .sl 0, .sl 0, .sl 0, .sl 0, .bool, .own 7 2], .dead, .row 42 7]
  m := fun d dh => log_stand_2 d.2.1 d.2.2.1 dh.1
  ok := ce_ok mixedP Try.func35 (by kernel_rfl) (orcOf_ok log_stand_2_tb) (dr := log_stand_2_dr) (lps := lpsOf log_stand_2_lt) (lps_fn (no_loop (by kernel_rfl))) (fun d dh => by kernel_rfl)

def log_Install_2_dr : Nat → DrA
  | 1 => ⟨[0, 1, 2, 3, 4, 6, 7, 8, 9, 10, 5, 11, 12, 13], [[], [0], [0, 1], [0, 1, 2], [0, 1, 2, 3], [0, 1, 2, 3, 4], [0, 1, 2, 3], [0, 1, 2, 3, 6], [0, 1, 2, 3, 6, 7], [0, 1, 2, 3, 6, 7, 8], [0, 1, 2, 3, 6, 7, 8, 9], [0, 1, 2, 3, 6, 7, 8, 9, 10], [0, 1, 2, 3, 4, 5, 6, 7, 8, 9, 10, 11], [0, 1, 2, 3, 4, 5, 6, 7, 8, 9, 10, 11, 12]], [], [], [], false, []⟩
  | 5 => ⟨[0, 1, 2, 3, 4, 6, 10, 5, 7, 8, 9, 11, 12, 13], [[], [0], [0, 1], [0, 1, 2], [0, 1, 2, 3], [0, 1, 2, 3, 4], [0, 1], [0, 1, 2, 3, 4, 5, 6], [0, 1, 2, 3, 4, 5, 6, 7], [0, 1, 2, 3, 4, 5, 6, 7, 8], [0, 1], [0, 1, 10], [0, 1, 2, 3, 4, 5, 6, 7, 8, 9, 10, 11], [0, 1, 2, 3, 4, 5, 6, 7, 8, 9, 10, 11, 12]], [], [], [], false, []⟩
  | _ => ⟨[], [], [], [], [], false, []⟩
noncomputable def log_Install_2_tb : List (CE CT Try.prog) := [log_there_ce, log_place_ce, log_ownBase_ce, log_stand_2_ce]
noncomputable def log_Install_2_lt : List (LE CT Try.prog) := []
noncomputable def log_Install_2 (x1 : DBase) (h0 : (Int) × (Int) × (List (Int)) × (List (Int)) × (List (Int)) × (List (Int)) × (Bool) × (List (DEntry)) × Unit) : Option ((Bool) × (((Int) × (Int) × (List (Int)) × (List (Int)) × (List (Int)) × (List (Int)) × (Bool) × (List (DEntry)) × Unit) × (Unit) × (Unit) × Unit)) :=
  (log_there (h0.1, h0.2.1, h0.2.2.1, h0.2.2.2.1, h0.2.2.2.2.1, h0.2.2.2.2.2.1, h0.2.2.2.2.2.2.1, h0.2.2.2.2.2.2.2.1, ())).bind fun r1 =>
  (bif (!r1.1) then
  some (false, ((r1.2.1.1, r1.2.1.2.1, r1.2.1.2.2.1, r1.2.1.2.2.2.1, r1.2.1.2.2.2.2.1, r1.2.1.2.2.2.2.2.1, r1.2.1.2.2.2.2.2.2.1, r1.2.1.2.2.2.2.2.2.2.1, ()), (), (), ()))
  else
  (bif (decide ((x1.index : Int) ≤ r1.2.1.1)) then
  some (false, ((r1.2.1.1, r1.2.1.2.1, r1.2.1.2.2.1, r1.2.1.2.2.2.1, r1.2.1.2.2.2.2.1, r1.2.1.2.2.2.2.2.1, r1.2.1.2.2.2.2.2.2.1, r1.2.1.2.2.2.2.2.2.2.1, ()), (), (), ()))
  else
  (log_place x1.index (r1.2.1.1, r1.2.1.2.1, r1.2.1.2.2.1, r1.2.1.2.2.2.1, r1.2.1.2.2.2.2.1, r1.2.1.2.2.2.2.2.1, r1.2.1.2.2.2.2.2.2.1, r1.2.1.2.2.2.2.2.2.2.1, ())).bind fun r2 =>
  (bif r2.1.2.1 then
  (getI r2.2.1.2.2.2.2.2.2.2.1 r2.1.1).bind fun e3 =>
  (bif (decide ((e3.term_ : Int) = x1.term_)) then
  (log_ownBase x1).bind fun r4 =>
  (log_stand_2 r4.1 (IntKind.i64.wrap (r2.1.1 + 1)) (r2.2.1.1, r2.2.1.2.1, r2.2.1.2.2.1, r2.2.1.2.2.2.1, r2.2.1.2.2.2.2.1, r2.2.1.2.2.2.2.2.1, r2.2.1.2.2.2.2.2.2.1, r2.2.1.2.2.2.2.2.2.2.1, ())).bind fun r5 =>
  some (r5.1, ((r5.2.1.1, r5.2.1.2.1, r5.2.1.2.2.1, r5.2.1.2.2.2.1, r5.2.1.2.2.2.2.1, r5.2.1.2.2.2.2.2.1, r5.2.1.2.2.2.2.2.2.1, r5.2.1.2.2.2.2.2.2.2.1, ()), (), (), ()))
  else
  (log_ownBase x1).bind fun r6 =>
  (log_stand_2 r6.1 (r1.2.1.2.2.2.2.2.2.2.1.length : Int) (r2.2.1.1, r2.2.1.2.1, r2.2.1.2.2.1, r2.2.1.2.2.2.1, r2.2.1.2.2.2.2.1, r2.2.1.2.2.2.2.2.1, r2.2.1.2.2.2.2.2.2.1, r2.2.1.2.2.2.2.2.2.2.1, ())).bind fun r7 =>
  some (r7.1, ((r7.2.1.1, r7.2.1.2.1, r7.2.1.2.2.1, r7.2.1.2.2.2.1, r7.2.1.2.2.2.2.1, r7.2.1.2.2.2.2.2.1, r7.2.1.2.2.2.2.2.2.1, r7.2.1.2.2.2.2.2.2.2.1, ()), (), (), ())))
  else
  (log_ownBase x1).bind fun r8 =>
  (log_stand_2 r8.1 (r1.2.1.2.2.2.2.2.2.2.1.length : Int) (r2.2.1.1, r2.2.1.2.1, r2.2.1.2.2.1, r2.2.1.2.2.2.1, r2.2.1.2.2.2.2.1, r2.2.1.2.2.2.2.2.1, r2.2.1.2.2.2.2.2.2.1, r2.2.1.2.2.2.2.2.2.2.1, ())).bind fun r9 =>
  some (r9.1, ((r9.2.1.1, r9.2.1.2.1, r9.2.1.2.2.1, r9.2.1.2.2.2.1, r9.2.1.2.2.2.2.1, r9.2.1.2.2.2.2.2.1, r9.2.1.2.2.2.2.2.2.1, r9.2.1.2.2.2.2.2.2.2.1, ()), (), (), ())))))
noncomputable def log_Install_2_ce : CE CT Try.prog where
  f := 21
  args := [.one (.ptr 0 0), .cod 9]
  hs := [.obj 59 [.int .i64, .int .i64, .sl 0, .sl 0, .sl 0, .sl 0, .bool, .own 7 1], .row 42 7]
  res := .val (.one (.bool))
  outs := [.obj 59 [.int .i64, .int .i64, .sl 0, .sl 0, .sl 0, .sl 0, .bool, .own 7 2], .dead, .row 42 7]
  m := fun d dh => log_Install_2 d.2.1 dh.1
  ok := ce_ok mixedP Try.func21 (by kernel_rfl) (orcOf_ok log_Install_2_tb) (dr := log_Install_2_dr) (lps := lpsOf log_Install_2_lt) (lps_fn (no_loop (by kernel_rfl))) (fun d dh => by kernel_rfl)

def log_From_2_dr : Nat → DrA
  | 4 => ⟨[0, 1, 2, 4, 5, 6, 7, 8, 9, 12, 3, 10, 11, 13, 14, 15, 16, 17, 18], [[], [0], [0, 1], [0, 1, 2], [], [], [], [], [7], [7, 8], [7, 8, 9], [7, 8, 9, 10], [], [7, 8, 9, 10, 11, 12], [6, 7, 8, 9, 10, 11, 12, 13], [5, 6, 7, 8, 9, 10, 11, 12, 13, 14], [0, 1, 2, 3, 4, 5, 6, 7, 8, 9, 10, 11, 12, 13, 14, 15], [0, 1, 2, 3, 4, 5, 6, 7, 8, 9, 10, 11, 12, 13, 14, 15, 16], [0, 1, 2, 3, 4, 5, 6, 7, 8, 9, 10, 11, 12, 13, 14, 15, 16, 17]], [], [], [], false, []⟩
  | _ => ⟨[], [], [], [], [], false, []⟩
noncomputable def log_From_2_tb : List (CE CT Try.prog) := [log_place_ce, log_own_ce]
noncomputable def log_From_2_lt : List (LE CT Try.prog) := []
noncomputable def log_From_2 (x1 : Int) (x2 : Int) (h0 : (Int) × (Int) × (List (Int)) × (List (Int)) × (List (Int)) × (List (Int)) × (Bool) × (List (DEntry)) × Unit) : Option ((List (DEntry)) × (((Int) × (Int) × (List (Int)) × (List (Int)) × (List (Int)) × (List (Int)) × (Bool) × (List (DEntry)) × Unit) × (Unit) × (Unit) × (Unit) × Unit)) :=
  (log_place x1 (h0.1, h0.2.1, h0.2.2.1, h0.2.2.2.1, h0.2.2.2.2.1, h0.2.2.2.2.2.1, h0.2.2.2.2.2.2.1, h0.2.2.2.2.2.2.2.1, ())).bind fun r1 =>
  (bif (!r1.1.2.1) then
  some ([], ((r1.2.1.1, r1.2.1.2.1, r1.2.1.2.2.1, r1.2.1.2.2.2.1, r1.2.1.2.2.2.2.1, r1.2.1.2.2.2.2.2.1, r1.2.1.2.2.2.2.2.2.1, r1.2.1.2.2.2.2.2.2.2.1, ()), (), (), (), ()))
  else
  (bif (decide ((x2 : Int) < 1)) then
  some ([], ((r1.2.1.1, r1.2.1.2.1, r1.2.1.2.2.1, r1.2.1.2.2.2.1, r1.2.1.2.2.2.2.1, r1.2.1.2.2.2.2.2.1, r1.2.1.2.2.2.2.2.2.1, r1.2.1.2.2.2.2.2.2.2.1, ()), (), (), (), ()))
  else
  let y2 : Int := (if ((IntKind.i64.wrap ((r1.2.1.2.2.2.2.2.2.2.1.length : Int) - r1.1.1)) : Int) < x2 then (IntKind.i64.wrap ((r1.2.1.2.2.2.2.2.2.2.1.length : Int) - r1.1.1)) else x2)
  (if 0 ≤ (r1.1.1 : Int) ∧ (r1.1.1 : Int) ≤ (IntKind.i64.wrap (r1.1.1 + y2)) ∧ (IntKind.i64.wrap (r1.1.1 + y2)) ≤ (r1.2.1.2.2.2.2.2.2.2.1.length : Int) then
  let y3 : List (DEntry) := ((r1.2.1.2.2.2.2.2.2.2.1.drop (r1.1.1 : Int).toNat).take (((IntKind.i64.wrap (r1.1.1 + y2)) : Int).toNat - (r1.1.1 : Int).toNat))
  (log_own y3).bind fun r4 =>
  some (r4.1, ((r1.2.1.1, r1.2.1.2.1, r1.2.1.2.2.1, r1.2.1.2.2.2.1, r1.2.1.2.2.2.2.1, r1.2.1.2.2.2.2.2.1, r1.2.1.2.2.2.2.2.2.1, r1.2.1.2.2.2.2.2.2.2.1, ()), (), (), (), ()))
  else none)))
noncomputable def log_From_2_ce : CE CT Try.prog where
  f := 22
  args := [.one (.ptr 0 0), .one (.int .i64), .one (.int .i64)]
  hs := [.obj 59 [.int .i64, .int .i64, .sl 0, .sl 0, .sl 0, .sl 0, .bool, .own 7 1], .row 42 7]
  res := .val (.one (.own 7 2))
  outs := [.obj 59 [.int .i64, .int .i64, .sl 0, .sl 0, .sl 0, .sl 0, .bool, .own 7 3], .dead, .row 42 7, .row 42 7]
  m := fun d dh => log_From_2 d.2.1 d.2.2.1 dh.1
  ok := ce_ok mixedP Try.func22 (by kernel_rfl) (orcOf_ok log_From_2_tb) (dr := log_From_2_dr) (lps := lpsOf log_From_2_lt) (lps_fn (no_loop (by kernel_rfl))) (fun d dh => by kernel_rfl)

def log_Base_2_dr : Nat → DrA
  | _ => ⟨[], [], [], [], [], false, []⟩
noncomputable def log_Base_2_tb : List (CE CT Try.prog) := [log_there_ce, log_ownBase_ce]
noncomputable def log_Base_2_lt : List (LE CT Try.prog) := []
noncomputable def log_Base_2 (h0 : (Int) × (Int) × (List (Int)) × (List (Int)) × (List (Int)) × (List (Int)) × (Bool) × (List (DEntry)) × Unit) : Option ((DBase) × (((Int) × (Int) × (List (Int)) × (List (Int)) × (List (Int)) × (List (Int)) × (Bool) × (List (DEntry)) × Unit) × (Unit) × (Unit) × Unit)) :=
  (log_there (h0.1, h0.2.1, h0.2.2.1, h0.2.2.2.1, h0.2.2.2.2.1, h0.2.2.2.2.2.1, h0.2.2.2.2.2.2.1, h0.2.2.2.2.2.2.2.1, ())).bind fun r1 =>
  (bif (!r1.1) then
  some ((⟨0, 0, (⟨[], [], [], []⟩ : DConfig)⟩ : DBase), ((r1.2.1.1, r1.2.1.2.1, r1.2.1.2.2.1, r1.2.1.2.2.2.1, r1.2.1.2.2.2.2.1, r1.2.1.2.2.2.2.2.1, r1.2.1.2.2.2.2.2.2.1, r1.2.1.2.2.2.2.2.2.2.1, ()), (), (), ()))
  else
  (log_ownBase (⟨r1.2.1.1, r1.2.1.2.1, (⟨r1.2.1.2.2.1, r1.2.1.2.2.2.1, r1.2.1.2.2.2.2.1, r1.2.1.2.2.2.2.2.1⟩ : DConfig)⟩ : DBase)).bind fun r2 =>
  some (r2.1, ((r1.2.1.1, r1.2.1.2.1, r1.2.1.2.2.1, r1.2.1.2.2.2.1, r1.2.1.2.2.2.2.1, r1.2.1.2.2.2.2.2.1, r1.2.1.2.2.2.2.2.2.1, r1.2.1.2.2.2.2.2.2.2.1, ()), (), (), ())))
noncomputable def log_Base_2_ce : CE CT Try.prog where
  f := 19
  args := [.one (.ptr 0 0)]
  hs := [.obj 59 [.int .i64, .int .i64, .sl 0, .sl 0, .sl 0, .sl 0, .bool, .own 7 1], .row 42 7]
  res := .val (.cod 9)
  outs := [.obj 59 [.int .i64, .int .i64, .sl 0, .sl 0, .sl 0, .sl 0, .bool, .own 7 2], .dead, .row 42 7]
  m := fun d dh => log_Base_2 dh.1
  ok := ce_ok mixedP Try.func19 (by kernel_rfl) (orcOf_ok log_Base_2_tb) (dr := log_Base_2_dr) (lps := lpsOf log_Base_2_lt) (lps_fn (no_loop (by kernel_rfl))) (fun d dh => by kernel_rfl)
end Go.Proofs.Ytlkphbhmfoehpaa
