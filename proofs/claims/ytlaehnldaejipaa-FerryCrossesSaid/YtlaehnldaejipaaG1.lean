/- Models, by program. -/
import Derived.Test.YtlaehnldaejipaaTb
namespace Go.Proofs.Ytlaehnldaejipaa
open Go.RowKit
set_option maxRecDepth 100000
set_option linter.unusedVariables false
def watershedlaw13_plain_dr : Nat → DrA
  | _ => ⟨[], [], [], [], []⟩
noncomputable def watershedlaw13_plain_tb : List (CE CT Try.prog) := []
noncomputable def watershedlaw13_plain_l1 (a : ((Int) × (Unit) × (Unit) × (Int) × Unit) × (((Int) × (Int) × (List (Int)) × (List (Int)) × (List (Int)) × (List (Int)) × (List (UInt8)) × Unit) × ((Int) × (Int) × (List (Int)) × (List (Int)) × (List (Int)) × (List (Int)) × (List (UInt8)) × Unit) × (Unit) × (Unit) × (Unit) × (Unit) × (Unit) × (Unit) × (Unit) × (Unit) × (Unit) × (Unit) × Unit)) : Option ((((Int) × (Unit) × (Unit) × (Int) × Unit) × (((Int) × (Int) × (List (Int)) × (List (Int)) × (List (Int)) × (List (Int)) × (List (UInt8)) × Unit) × ((Int) × (Int) × (List (Int)) × (List (Int)) × (List (Int)) × (List (Int)) × (List (UInt8)) × Unit) × (Unit) × (Unit) × (Unit) × (Unit) × (Unit) × (Unit) × (Unit) × (Unit) × (Unit) × (Unit) × Unit)) ⊕ ((((Unit) × (Unit) × Unit) × (((Int) × (Int) × (List (Int)) × (List (Int)) × (List (Int)) × (List (Int)) × (List (UInt8)) × Unit) × ((Int) × (Int) × (List (Int)) × (List (Int)) × (List (Int)) × (List (Int)) × (List (UInt8)) × Unit) × (Unit) × (Unit) × (Unit) × (Unit) × (Unit) × (Unit) × (Unit) × (Unit) × (Unit) × (Unit) × (Unit) × (Unit) × (Unit) × (Unit) × (Unit) × (Unit) × (Unit) × (Unit) × (Unit) × (Unit) × Unit)))) :=
  (bif (decide ((a.1.2.2.2.1 : Int) < a.1.1)) then
  (b8 (IntKind.u8.wrap (IntKind.i64.wrap (a.1.2.2.2.1 * 7)))).bind fun u1 =>
  (if a.2.2.1.2.2.2.2.2.2.1.length + ([u1] : List (UInt8)).length ≤ 140737488355328 ∧ (a.2.2.1.2.2.2.2.2.2.1.length + ([u1] : List (UInt8)).length) * 1 ≤ 140737488355328 then
  some (.inl ((a.1.1, (), (), (IntKind.i64.wrap (a.1.2.2.2.1 + 1)), ()), ((a.2.1.1, a.2.1.2.1, a.2.1.2.2.1, a.2.1.2.2.2.1, a.2.1.2.2.2.2.1, a.2.1.2.2.2.2.2.1, a.2.1.2.2.2.2.2.2.1, ()), (a.2.2.1.1, a.2.2.1.2.1, a.2.2.1.2.2.1, a.2.2.1.2.2.2.1, a.2.2.1.2.2.2.2.1, a.2.2.1.2.2.2.2.2.1, (a.2.2.1.2.2.2.2.2.2.1 ++ ([u1] : List (UInt8))), ()), (), (), (), (), (), (), (), (), (), (), ())))
  else none)
  else
  some (.inr (((), (), ()), ((a.2.1.1, a.2.1.2.1, a.2.1.2.2.1, a.2.1.2.2.2.1, a.2.1.2.2.2.2.1, a.2.1.2.2.2.2.2.1, a.2.1.2.2.2.2.2.2.1, ()), (a.2.2.1.1, a.2.2.1.2.1, a.2.2.1.2.2.1, a.2.2.1.2.2.2.1, a.2.2.1.2.2.2.2.1, a.2.2.1.2.2.2.2.2.1, a.2.2.1.2.2.2.2.2.2.1, ()), (), (), (), (), (), (), (), (), (), (), (), (), (), (), (), (), (), (), (), (), ()))))
noncomputable def watershedlaw13_plain_e1 : LE CT Try.prog := ⟨3, [0, 2, 3, 4], [.one (.int .i64), .one (.ptr 0 0), .one (.ptr 1 0), .one (.int .i64)], [.obj 33 [.int .i64, .int .i64, .own 0 2, .own 0 3, .own 0 4, .own 0 5, .own 1 6], .obj 33 [.int .i64, .int .i64, .own 0 7, .own 0 8, .own 0 9, .own 0 10, .own 1 11], .row 3 1, .row 3 1, .row 3 1, .row 3 1, .row 5 1, .row 3 1, .row 3 1, .row 3 1, .row 3 1, .row 5 1], [⟨.exit 0, [2, 3], [.one (.ptr 0 0), .one (.ptr 1 0)], [.obj 33 [.int .i64, .int .i64, .own 0 12, .own 0 13, .own 0 14, .own 0 15, .own 1 16], .obj 33 [.int .i64, .int .i64, .own 0 17, .own 0 18, .own 0 19, .own 0 20, .own 1 21], .dead, .dead, .dead, .dead, .dead, .dead, .dead, .dead, .dead, .dead, .row 3 1, .row 3 1, .row 3 1, .row 3 1, .row 5 1, .row 3 1, .row 3 1, .row 3 1, .row 3 1, .row 5 1]⟩], watershedlaw13_plain_l1⟩
noncomputable def watershedlaw13_plain_lt : List (LE CT Try.prog) := [watershedlaw13_plain_e1]
theorem watershedlaw13_plain_e1_ok : LeOk watershedlaw13_plain_e1 (nthL (bodyOf Try.f26) 0) := fun A env h k z hk => le_ok (E := watershedlaw13_plain_e1) (orcOf_ok watershedlaw13_plain_tb) (dr := watershedlaw13_plain_dr) (lps := lpsOf watershedlaw13_plain_lt) (no_loop (by kernel_rfl)) (fun a => by kernel_rfl) env h k z hk
noncomputable def watershedlaw13_plain (x0 : Int) : Option ((DImage) × (Unit)) :=
  (loopM watershedlaw13_plain_l1 ((x0, (), (), 0, ()), ((0, 0, [], [], [], [], [], ()), (3, 2, [], [], [], [], [], ()), (), (), (), (), (), (), (), (), (), (), ()))).bind fun b1 =>
  some ((⟨(⟨b1.2.2.1.1, b1.2.2.1.2.1, (⟨b1.2.2.1.2.2.1, b1.2.2.1.2.2.2.1, b1.2.2.1.2.2.2.2.1, b1.2.2.1.2.2.2.2.2.1⟩ : DConfig)⟩ : DBase), b1.2.2.1.2.2.2.2.2.2.1⟩ : DImage), ())
noncomputable def watershedlaw13_plain_ce : CE CT Try.prog where
  f := 26
  args := [.one (.int .i64)]
  hs := []
  res := .val (.cod 8)
  outs := []
  m := fun d dh => watershedlaw13_plain d.1
  ok := ce_ok mixedP Try.func26 (by kernel_rfl) (orcOf_ok watershedlaw13_plain_tb) (dr := watershedlaw13_plain_dr) (lps := lpsOf watershedlaw13_plain_lt) (lps_fn (lps_of (n := 1) (by kernel_rfl) fun i hi => match i, hi with | 0, _ => lp_ok (E := watershedlaw13_plain_e1) (by kernel_rfl) watershedlaw13_plain_e1_ok)) (fun d dh => by kernel_rfl)

def watershedlaw13_asks_dr : Nat → DrA
  | _ => ⟨[], [], [], [], []⟩
noncomputable def watershedlaw13_asks_tb : List (CE CT Try.prog) := []
noncomputable def watershedlaw13_asks_lt : List (LE CT Try.prog) := []
noncomputable def watershedlaw13_asks (x0 : DImage) (x1 : Int) : Option ((DLetter) × (Unit)) :=
  some ((⟨5, 0, 1, 2, 4, 0, 0, 0, false, [], x0.base, 0, x1, 0, []⟩ : DLetter), ())
noncomputable def watershedlaw13_asks_ce : CE CT Try.prog where
  f := 27
  args := [.cod 8, .one (.int .i64)]
  hs := []
  res := .val (.cod 12)
  outs := []
  m := fun d dh => watershedlaw13_asks d.1 d.2.1
  ok := ce_ok mixedP Try.func27 (by kernel_rfl) (orcOf_ok watershedlaw13_asks_tb) (dr := watershedlaw13_asks_dr) (lps := lpsOf watershedlaw13_asks_lt) (lps_fn (no_loop (by kernel_rfl))) (fun d dh => by kernel_rfl)

noncomputable def clone54 (x : List (Int)) : Option ((List (Int)) × (Unit × Unit)) :=
  if x.length ≤ 140737488355328 ∧ x.length * 8 ≤ 140737488355328 then some (x, ((), ())) else none
noncomputable def clone54_ce : CE CT Try.prog where
  f := 54
  args := [.one (.sl 0)]
  hs := []
  res := .val (.one (.own 0 0))
  outs := [.row 3 1]
  m := fun d dh => clone54 d.1
  ok := fun d dh r hr => by
    unfold clone54 at hr
    split at hr
    · rename_i hroom
      injection hr with hr
      subst hr
      exact clone_tr mixedP Try.func54 (by kernel_rfl) rfl rfl (zv := .int .i64 0) (he := by kernel_rfl) (hsz := by kernel_rfl) (hz := by kernel_rfl) (hby := by kernel_rfl) rfl rfl d.1 hroom
    · cases hr

def ferry_own_dr : Nat → DrA
  | 2 => ⟨[0, 3, 6, 9, 1, 4, 7, 10, 2, 5, 8, 11, 12, 13, 14], [[], [0], [0, 1], [], [3], [0, 1, 2, 3, 4], [], [6], [0, 1, 2, 3, 4, 5, 6, 7], [], [9], [0, 1, 2, 3, 4, 5, 6, 7, 8, 9, 10], [0, 1, 2, 3, 4, 5, 6, 7, 8, 9, 10, 11], [0, 1, 2, 3, 4, 5, 6, 7, 8, 9, 10, 11, 12], [0, 1, 2, 3, 4, 5, 6, 7, 8, 9, 10, 11, 12, 13]], [4, 7, 10], [2, 5, 8], [2]⟩
  | _ => ⟨[], [], [], [], []⟩
noncomputable def ferry_own_tb : List (CE CT Try.prog) := [clone54_ce]
noncomputable def ferry_own_lt : List (LE CT Try.prog) := []
noncomputable def ferry_own (x0 : DBase) : Option ((DBase) × (Unit)) :=
  (clone54 x0.config.voters).bind fun r1 =>
  (clone54 x0.config.old).bind fun r2 =>
  (clone54 x0.config.learners).bind fun r3 =>
  (clone54 x0.config.want).bind fun r4 =>
  some ((⟨x0.index, x0.term_, (⟨r1.1, r2.1, r3.1, r4.1⟩ : DConfig)⟩ : DBase), ())
noncomputable def ferry_own_ce : CE CT Try.prog where
  f := 33
  args := [.cod 5]
  hs := []
  res := .val (.cod 5)
  outs := []
  m := fun d dh => ferry_own d.1
  ok := ce_ok mixedP Try.func33 (by kernel_rfl) (orcOf_ok ferry_own_tb) (dr := ferry_own_dr) (lps := lpsOf ferry_own_lt) (lps_fn (no_loop (by kernel_rfl))) (fun d dh => by kernel_rfl)

noncomputable def clone34 (x : List (UInt8)) : Option ((List (UInt8)) × (Unit × Unit)) :=
  if x.length ≤ 140737488355328 ∧ x.length * 1 ≤ 140737488355328 then some (x, ((), ())) else none
noncomputable def clone34_ce : CE CT Try.prog where
  f := 34
  args := [.one (.sl 1)]
  hs := []
  res := .val (.one (.own 1 0))
  outs := [.row 5 1]
  m := fun d dh => clone34 d.1
  ok := fun d dh r hr => by
    unfold clone34 at hr
    split at hr
    · rename_i hroom
      injection hr with hr
      subst hr
      exact clone_tr mixedP Try.func34 (by kernel_rfl) rfl rfl (zv := .int .u8 0) (he := by kernel_rfl) (hsz := by kernel_rfl) (hz := by kernel_rfl) (hby := by kernel_rfl) rfl rfl d.1 hroom
    · cases hr

def ferry_Fill_dr : Nat → DrA
  | 3 => ⟨[0, 3, 1, 4, 5, 2, 6, 7, 8, 9], [[], [0], [0, 1], [], [3], [3, 4], [0, 1, 2], [0, 1, 2, 6], [0, 1, 2, 3, 4, 5, 6, 7], [0, 1, 2, 3, 4, 5, 6, 7, 8]], [4], [2, 7], [1]⟩
  | _ => ⟨[], [], [], [], []⟩
noncomputable def ferry_Fill_tb : List (CE CT Try.prog) := [ferry_own_ce, clone34_ce]
noncomputable def ferry_Fill_lt : List (LE CT Try.prog) := []
noncomputable def ferry_Fill (x0 : DLetter) (x1 : DImage) : Option (((DLetter) × (Bool) × Unit) × (Unit)) :=
  (bif (decide ((x0.kind : Int) ≠ 5)) then
  some (((⟨0, 0, 0, 0, 0, 0, 0, 0, false, [], (⟨0, 0, (⟨[], [], [], []⟩ : DConfig)⟩ : DBase), 0, 0, 0, []⟩ : DLetter), false, ()), ())
  else
  (bif (decide ((x0.base.index : Int) ≠ x1.base.index)) then
  some (((⟨0, 0, 0, 0, 0, 0, 0, 0, false, [], (⟨0, 0, (⟨[], [], [], []⟩ : DConfig)⟩ : DBase), 0, 0, 0, []⟩ : DLetter), false, ()), ())
  else
  (bif (decide ((x0.base.term_ : Int) ≠ x1.base.term_)) then
  some (((⟨0, 0, 0, 0, 0, 0, 0, 0, false, [], (⟨0, 0, (⟨[], [], [], []⟩ : DConfig)⟩ : DBase), 0, 0, 0, []⟩ : DLetter), false, ()), ())
  else
  (bif (decide ((x0.at_ : Int) < 0)) then
  some (((⟨0, 0, 0, 0, 0, 0, 0, 0, false, [], (⟨0, 0, (⟨[], [], [], []⟩ : DConfig)⟩ : DBase), 0, 0, 0, []⟩ : DLetter), false, ()), ())
  else
  (bif (decide (((x1.bytes.length : Int) : Int) < x0.at_)) then
  some (((⟨0, 0, 0, 0, 0, 0, 0, 0, false, [], (⟨0, 0, (⟨[], [], [], []⟩ : DConfig)⟩ : DBase), 0, 0, 0, []⟩ : DLetter), false, ()), ())
  else
  (ferry_own x1.base).bind fun r1 =>
  let y2 : Int := (if ((x1.bytes.length : Int) : Int) < (IntKind.i64.wrap (x0.at_ + 600)) then (x1.bytes.length : Int) else (IntKind.i64.wrap (x0.at_ + 600)))
  (if 0 ≤ x0.at_ ∧ x0.at_ ≤ y2 ∧ y2 ≤ (x1.bytes.length : Int) then
  let y3 : List (UInt8) := ((x1.bytes.drop (x0.at_ : Int).toNat).take ((y2 : Int).toNat - (x0.at_ : Int).toNat))
  (clone34 y3).bind fun r4 =>
  some (((⟨x0.kind, x0.group, x0.from_, x0.to_, x0.term_, x0.index, x0.logTerm, x0.commit, x0.ok, [], r1.1, (x1.bytes.length : Int), x0.at_, x0.tag, r4.1⟩ : DLetter), true, ()), ())
  else none))))))
noncomputable def ferry_Fill_ce : CE CT Try.prog where
  f := 12
  args := [.cod 12, .cod 8]
  hs := []
  res := .tup [.cod 12, .one (.bool)]
  outs := []
  m := fun d dh => ferry_Fill d.1 d.2.1
  ok := ce_ok mixedP Try.func12 (by kernel_rfl) (orcOf_ok ferry_Fill_tb) (dr := ferry_Fill_dr) (lps := lpsOf ferry_Fill_lt) (lps_fn (no_loop (by kernel_rfl))) (fun d dh => by kernel_rfl)

def ferry_New_dr : Nat → DrA
  | _ => ⟨[], [], [], [], []⟩
noncomputable def ferry_New_tb : List (CE CT Try.prog) := []
noncomputable def ferry_New_lt : List (LE CT Try.prog) := []
noncomputable def ferry_New  : Option ((Unit) × (((Int) × (Int) × (Int) × (Int) × (Bool) × (Bool) × (List (UInt8)) × Unit) × (Unit) × Unit)) :=
  some ((), ((0, 0, 0, 0, true, false, [], ()), (), ()))
noncomputable def ferry_New_ce : CE CT Try.prog where
  f := 18
  args := []
  hs := []
  res := .val (.one (.ptr 0 0))
  outs := [.obj 56 [.int .i64, .int .i64, .int .i64, .int .i64, .bool, .bool, .own 1 1], .row 5 1]
  m := fun d dh => ferry_New
  ok := ce_ok mixedP Try.func18 (by kernel_rfl) (orcOf_ok ferry_New_tb) (dr := ferry_New_dr) (lps := lpsOf ferry_New_lt) (lps_fn (no_loop (by kernel_rfl))) (fun d dh => by kernel_rfl)

def ferry_right_dr : Nat → DrA
  | _ => ⟨[], [], [], [], []⟩
noncomputable def ferry_right_tb : List (CE CT Try.prog) := []
noncomputable def ferry_right_lt : List (LE CT Try.prog) := []
noncomputable def ferry_right (x0 : DLetter) : Option ((Bool) × (Unit)) :=
  (bif (decide ((x0.kind : Int) = 5)) then
  (bif (decide ((0 : Int) ≤ x0.size)) then
  (bif (decide ((x0.size : Int) ≤ 131072)) then
  (bif (decide ((0 : Int) ≤ x0.at_)) then
  (bif (decide ((x0.at_ : Int) ≤ x0.size)) then
  let y1 : Bool := (decide (((x0.bytes.length : Int) : Int) ≤ (IntKind.i64.wrap (x0.size - x0.at_))))
  some (y1, ())
  else
  some (false, ()))
  else
  some (false, ()))
  else
  some (false, ()))
  else
  some (false, ()))
  else
  some (false, ()))
noncomputable def ferry_right_ce : CE CT Try.prog where
  f := 46
  args := [.cod 12]
  hs := []
  res := .val (.one (.bool))
  outs := []
  m := fun d dh => ferry_right d.1
  ok := ce_ok mixedP Try.func46 (by kernel_rfl) (orcOf_ok ferry_right_tb) (dr := ferry_right_dr) (lps := lpsOf ferry_right_lt) (lps_fn (no_loop (by kernel_rfl))) (fun d dh => by kernel_rfl)

def ferry_Drop_dr : Nat → DrA
  | _ => ⟨[], [], [], [], []⟩
noncomputable def ferry_Drop_tb : List (CE CT Try.prog) := []
noncomputable def ferry_Drop_lt : List (LE CT Try.prog) := []
noncomputable def ferry_Drop (h0 : (Int) × (Int) × (Int) × (Int) × (Bool) × (Bool) × (List (UInt8)) × Unit) : Option ((Unit) × (((Int) × (Int) × (Int) × (Int) × (Bool) × (Bool) × (List (UInt8)) × Unit) × (Unit) × (Unit) × Unit)) :=
  (bif h0.2.2.2.2.1 then
  some ((), ((0, 0, 0, 0, true, false, [], ()), (), (), ()))
  else
  some ((), ((h0.1, h0.2.1, h0.2.2.1, h0.2.2.2.1, h0.2.2.2.2.1, h0.2.2.2.2.2.1, h0.2.2.2.2.2.2.1, ()), (), (), ())))
noncomputable def ferry_Drop_ce : CE CT Try.prog where
  f := 20
  args := [.one (.ptr 0 0)]
  hs := [.obj 56 [.int .i64, .int .i64, .int .i64, .int .i64, .bool, .bool, .own 1 1], .row 5 1]
  res := .tup []
  outs := [.obj 56 [.int .i64, .int .i64, .int .i64, .int .i64, .bool, .bool, .own 1 2], .dead, .row 5 1]
  m := fun d dh => ferry_Drop dh.1
  ok := ce_ok mixedP Try.func20 (by kernel_rfl) (orcOf_ok ferry_Drop_tb) (dr := ferry_Drop_dr) (lps := lpsOf ferry_Drop_lt) (lps_fn (no_loop (by kernel_rfl))) (fun d dh => by kernel_rfl)

def ferry_of_dr : Nat → DrA
  | _ => ⟨[], [], [], [], []⟩
noncomputable def ferry_of_tb : List (CE CT Try.prog) := []
noncomputable def ferry_of_lt : List (LE CT Try.prog) := []
noncomputable def ferry_of (x0 : DLetter) : Option ((DCrossing) × (Unit)) :=
  some ((⟨x0.term_, x0.base.index, x0.base.term_, x0.size⟩ : DCrossing), ())
noncomputable def ferry_of_ce : CE CT Try.prog where
  f := 47
  args := [.cod 12]
  hs := []
  res := .val (.cod 13)
  outs := []
  m := fun d dh => ferry_of d.1
  ok := ce_ok mixedP Try.func47 (by kernel_rfl) (orcOf_ok ferry_of_tb) (dr := ferry_of_dr) (lps := lpsOf ferry_of_lt) (lps_fn (no_loop (by kernel_rfl))) (fun d dh => by kernel_rfl)

def ferry_lay_dr : Nat → DrA
  | _ => ⟨[], [], [], [], []⟩
noncomputable def ferry_lay_tb : List (CE CT Try.prog) := []
noncomputable def ferry_lay_lt : List (LE CT Try.prog) := []
noncomputable def ferry_lay (x1 : List (UInt8)) (h0 : (Int) × (Int) × (Int) × (Int) × (Bool) × (Bool) × (List (UInt8)) × Unit) : Option ((Unit) × (((Int) × (Int) × (Int) × (Int) × (Bool) × (Bool) × (List (UInt8)) × Unit) × (Unit) × (Unit) × Unit)) :=
  (if h0.2.2.2.2.2.2.1.length + x1.length ≤ 140737488355328 ∧ (h0.2.2.2.2.2.2.1.length + x1.length) * 1 ≤ 140737488355328 then
  some ((), ((h0.1, h0.2.1, h0.2.2.1, h0.2.2.2.1, h0.2.2.2.2.1, h0.2.2.2.2.2.1, (h0.2.2.2.2.2.2.1 ++ x1), ()), (), (), ()))
  else none)
noncomputable def ferry_lay_ce : CE CT Try.prog where
  f := 48
  args := [.one (.ptr 0 0), .one (.sl 1)]
  hs := [.obj 56 [.int .i64, .int .i64, .int .i64, .int .i64, .bool, .bool, .own 1 1], .row 5 1]
  res := .tup []
  outs := [.obj 56 [.int .i64, .int .i64, .int .i64, .int .i64, .bool, .bool, .own 1 2], .dead, .row 5 1]
  m := fun d dh => ferry_lay d.2.1 dh.1
  ok := ce_ok mixedP Try.func48 (by kernel_rfl) (orcOf_ok ferry_lay_tb) (dr := ferry_lay_dr) (lps := lpsOf ferry_lay_lt) (lps_fn (no_loop (by kernel_rfl))) (fun d dh => by kernel_rfl)

def ferry_Take_dr : Nat → DrA
  | 2 => ⟨[1, 2, 0, 3], [[], [], [1], [0, 1, 2]], [], [], []⟩
  | 3 => ⟨[0, 1, 2, 3, 4, 5, 6, 7, 8, 9, 10, 11, 12, 13], [[], [0], [0, 1], [0, 1, 2], [0, 1, 2, 3], [0, 1, 2, 3, 4], [0, 1, 2, 3, 4, 5], [0, 1, 2, 3, 4, 5, 6], [0, 1, 2, 3, 4, 5, 6, 7], [0, 1, 2, 3, 4, 5, 6, 7, 8], [0, 1, 2, 3, 4, 5], [0, 1, 2, 3, 4, 5, 10], [0, 1, 2, 3, 4, 5, 6, 7, 8, 9, 10, 11], [0, 1, 2, 3, 4, 5, 6, 7, 8, 9, 10, 11, 12]], [9], [11], [0]⟩
  | 5 => ⟨[1, 2, 0, 3], [[], [], [1], [0, 1, 2]], [], [], []⟩
  | 8 => ⟨[0, 2, 3, 4, 1, 5, 6, 7], [[], [0], [], [2], [2, 3], [2, 3, 4], [2, 3, 4, 5], [0, 1, 2, 3, 4, 5, 6]], [], [], []⟩
  | 9 => ⟨[0, 1, 3, 4, 5, 8, 11, 2, 6, 7, 9, 10, 12, 13, 14, 15, 16], [[], [], [1], [], [3], [3, 4], [3, 4, 5], [3, 4, 5, 6], [], [8], [3, 4, 5, 6, 7, 8, 9], [], [11], [11, 12], [3, 4, 5, 6, 7, 8, 9, 10, 11, 12, 13], [1, 2, 3, 4, 5, 6, 7, 8, 9, 10, 11, 12, 13, 14], [0, 1, 2, 3, 4, 5, 6, 7, 8, 9, 10, 11, 12, 13, 14, 15]], [], [], []⟩
  | 12 => ⟨[0, 2, 3, 1, 4], [[], [], [0], [0, 2], [0, 1, 2, 3]], [], [], []⟩
  | 13 => ⟨[0, 3, 4, 5, 1, 6, 2, 7, 8], [[], [0], [0, 1], [], [3], [3, 4], [3, 4, 5], [0, 1, 2, 3, 4, 5, 6], [0, 1, 2, 3, 4, 5, 6, 7]], [6], [2], [0]⟩
  | 15 => ⟨[0, 2, 3, 1, 4], [[], [], [0], [0, 2], [0, 1, 2, 3]], [], [], []⟩
  | _ => ⟨[], [], [], [], []⟩
noncomputable def ferry_Take_tb : List (CE CT Try.prog) := [ferry_right_ce, ferry_Drop_ce, ferry_of_ce, ferry_lay_ce, ferry_own_ce]
noncomputable def ferry_Take_lt : List (LE CT Try.prog) := []
noncomputable def ferry_Take (x1 : DLetter) (h0 : (Int) × (Int) × (Int) × (Int) × (Bool) × (Bool) × (List (UInt8)) × Unit) : Option (((Int) × (Bool) × (DImage) × Unit) × (((Int) × (Int) × (Int) × (Int) × (Bool) × (Bool) × (List (UInt8)) × Unit) × (Unit) × (Unit) × Unit)) :=
  (bif (!h0.2.2.2.2.1) then
  some ((0, false, (⟨(⟨0, 0, (⟨[], [], [], []⟩ : DConfig)⟩ : DBase), []⟩ : DImage), ()), ((h0.1, h0.2.1, h0.2.2.1, h0.2.2.2.1, h0.2.2.2.2.1, h0.2.2.2.2.2.1, h0.2.2.2.2.2.2.1, ()), (), (), ()))
  else
  (ferry_right x1).bind fun r1 =>
  (bif (!r1.1) then
  some ((0, false, (⟨(⟨0, 0, (⟨[], [], [], []⟩ : DConfig)⟩ : DBase), []⟩ : DImage), ()), ((h0.1, h0.2.1, h0.2.2.1, h0.2.2.2.1, h0.2.2.2.2.1, h0.2.2.2.2.2.1, h0.2.2.2.2.2.2.1, ()), (), (), ()))
  else
  (bif (!h0.2.2.2.2.2.1) then
  (bif (decide ((x1.at_ : Int) ≠ 0)) then
  some ((0, false, (⟨(⟨0, 0, (⟨[], [], [], []⟩ : DConfig)⟩ : DBase), []⟩ : DImage), ()), ((h0.1, h0.2.1, h0.2.2.1, h0.2.2.2.1, h0.2.2.2.2.1, h0.2.2.2.2.2.1, h0.2.2.2.2.2.2.1, ()), (), (), ()))
  else
  (ferry_Drop (h0.1, h0.2.1, h0.2.2.1, h0.2.2.2.1, h0.2.2.2.2.1, h0.2.2.2.2.2.1, h0.2.2.2.2.2.2.1, ())).bind fun r2 =>
  (ferry_of x1).bind fun r3 =>
  (bif (decide ((x1.at_ : Int) ≤ (r2.2.1.2.2.2.2.2.2.1.length : Int))) then
  let y4 : Int := (if ((x1.bytes.length : Int) : Int) < (IntKind.i64.wrap ((r2.2.1.2.2.2.2.2.2.1.length : Int) - x1.at_)) then (x1.bytes.length : Int) else (IntKind.i64.wrap ((r2.2.1.2.2.2.2.2.2.1.length : Int) - x1.at_)))
  (if 0 ≤ y4 ∧ y4 ≤ (x1.bytes.length : Int) ∧ (x1.bytes.length : Int) ≤ (x1.bytes.length : Int) then
  let y5 : List (UInt8) := ((x1.bytes.drop (y4 : Int).toNat).take (((x1.bytes.length : Int) : Int).toNat - (y4 : Int).toNat))
  (ferry_lay y5 (r3.1.term_, r3.1.index, r3.1.base, r3.1.size, r2.2.1.2.2.2.2.1, true, r2.2.1.2.2.2.2.2.2.1, ())).bind fun r6 =>
  (bif (decide (((r6.2.1.2.2.2.2.2.2.1.length : Int) : Int) < r6.2.1.2.2.2.1)) then
  some (((r6.2.1.2.2.2.2.2.2.1.length : Int), false, (⟨(⟨0, 0, (⟨[], [], [], []⟩ : DConfig)⟩ : DBase), []⟩ : DImage), ()), ((r6.2.1.1, r6.2.1.2.1, r6.2.1.2.2.1, r6.2.1.2.2.2.1, r6.2.1.2.2.2.2.1, r6.2.1.2.2.2.2.2.1, r6.2.1.2.2.2.2.2.2.1, ()), (), (), ()))
  else
  (ferry_own x1.base).bind fun r7 =>
  (ferry_Drop (r6.2.1.1, r6.2.1.2.1, r6.2.1.2.2.1, r6.2.1.2.2.2.1, r6.2.1.2.2.2.2.1, r6.2.1.2.2.2.2.2.1, r6.2.1.2.2.2.2.2.2.1, ())).bind fun r8 =>
  some (((r6.2.1.2.2.2.2.2.2.1.length : Int), true, (⟨r7.1, r6.2.1.2.2.2.2.2.2.1⟩ : DImage), ()), ((r8.2.1.1, r8.2.1.2.1, r8.2.1.2.2.1, r8.2.1.2.2.2.1, r8.2.1.2.2.2.2.1, r8.2.1.2.2.2.2.2.1, r8.2.1.2.2.2.2.2.2.1, ()), (), (), ())))
  else none)
  else
  (bif (decide (((r2.2.1.2.2.2.2.2.2.1.length : Int) : Int) < r3.1.size)) then
  some (((r2.2.1.2.2.2.2.2.2.1.length : Int), false, (⟨(⟨0, 0, (⟨[], [], [], []⟩ : DConfig)⟩ : DBase), []⟩ : DImage), ()), ((r3.1.term_, r3.1.index, r3.1.base, r3.1.size, r2.2.1.2.2.2.2.1, true, r2.2.1.2.2.2.2.2.2.1, ()), (), (), ()))
  else
  (ferry_own x1.base).bind fun r9 =>
  (ferry_Drop (r3.1.term_, r3.1.index, r3.1.base, r3.1.size, r2.2.1.2.2.2.2.1, true, r2.2.1.2.2.2.2.2.2.1, ())).bind fun r10 =>
  some (((r2.2.1.2.2.2.2.2.2.1.length : Int), true, (⟨r9.1, r2.2.1.2.2.2.2.2.2.1⟩ : DImage), ()), ((r10.2.1.1, r10.2.1.2.1, r10.2.1.2.2.1, r10.2.1.2.2.2.1, r10.2.1.2.2.2.2.1, r10.2.1.2.2.2.2.2.1, r10.2.1.2.2.2.2.2.2.1, ()), (), (), ())))))
  else
  (ferry_of x1).bind fun r11 =>
  (bif (!(decide ((h0.1 : Int) = r11.1.term_) && (decide ((h0.2.1 : Int) = r11.1.index) && (decide ((h0.2.2.1 : Int) = r11.1.base) && (decide ((h0.2.2.2.1 : Int) = r11.1.size) && true))))) then
  (bif (decide ((x1.at_ : Int) ≠ 0)) then
  some ((0, false, (⟨(⟨0, 0, (⟨[], [], [], []⟩ : DConfig)⟩ : DBase), []⟩ : DImage), ()), ((h0.1, h0.2.1, h0.2.2.1, h0.2.2.2.1, h0.2.2.2.2.1, h0.2.2.2.2.2.1, h0.2.2.2.2.2.2.1, ()), (), (), ()))
  else
  (ferry_Drop (h0.1, h0.2.1, h0.2.2.1, h0.2.2.2.1, h0.2.2.2.2.1, h0.2.2.2.2.2.1, h0.2.2.2.2.2.2.1, ())).bind fun r12 =>
  (ferry_of x1).bind fun r13 =>
  (bif (decide ((x1.at_ : Int) ≤ (r12.2.1.2.2.2.2.2.2.1.length : Int))) then
  let y14 : Int := (if ((x1.bytes.length : Int) : Int) < (IntKind.i64.wrap ((r12.2.1.2.2.2.2.2.2.1.length : Int) - x1.at_)) then (x1.bytes.length : Int) else (IntKind.i64.wrap ((r12.2.1.2.2.2.2.2.2.1.length : Int) - x1.at_)))
  (if 0 ≤ y14 ∧ y14 ≤ (x1.bytes.length : Int) ∧ (x1.bytes.length : Int) ≤ (x1.bytes.length : Int) then
  let y15 : List (UInt8) := ((x1.bytes.drop (y14 : Int).toNat).take (((x1.bytes.length : Int) : Int).toNat - (y14 : Int).toNat))
  (ferry_lay y15 (r13.1.term_, r13.1.index, r13.1.base, r13.1.size, r12.2.1.2.2.2.2.1, true, r12.2.1.2.2.2.2.2.2.1, ())).bind fun r16 =>
  (bif (decide (((r16.2.1.2.2.2.2.2.2.1.length : Int) : Int) < r16.2.1.2.2.2.1)) then
  some (((r16.2.1.2.2.2.2.2.2.1.length : Int), false, (⟨(⟨0, 0, (⟨[], [], [], []⟩ : DConfig)⟩ : DBase), []⟩ : DImage), ()), ((r16.2.1.1, r16.2.1.2.1, r16.2.1.2.2.1, r16.2.1.2.2.2.1, r16.2.1.2.2.2.2.1, r16.2.1.2.2.2.2.2.1, r16.2.1.2.2.2.2.2.2.1, ()), (), (), ()))
  else
  (ferry_own x1.base).bind fun r17 =>
  (ferry_Drop (r16.2.1.1, r16.2.1.2.1, r16.2.1.2.2.1, r16.2.1.2.2.2.1, r16.2.1.2.2.2.2.1, r16.2.1.2.2.2.2.2.1, r16.2.1.2.2.2.2.2.2.1, ())).bind fun r18 =>
  some (((r16.2.1.2.2.2.2.2.2.1.length : Int), true, (⟨r17.1, r16.2.1.2.2.2.2.2.2.1⟩ : DImage), ()), ((r18.2.1.1, r18.2.1.2.1, r18.2.1.2.2.1, r18.2.1.2.2.2.1, r18.2.1.2.2.2.2.1, r18.2.1.2.2.2.2.2.1, r18.2.1.2.2.2.2.2.2.1, ()), (), (), ())))
  else none)
  else
  (bif (decide (((r12.2.1.2.2.2.2.2.2.1.length : Int) : Int) < r13.1.size)) then
  some (((r12.2.1.2.2.2.2.2.2.1.length : Int), false, (⟨(⟨0, 0, (⟨[], [], [], []⟩ : DConfig)⟩ : DBase), []⟩ : DImage), ()), ((r13.1.term_, r13.1.index, r13.1.base, r13.1.size, r12.2.1.2.2.2.2.1, true, r12.2.1.2.2.2.2.2.2.1, ()), (), (), ()))
  else
  (ferry_own x1.base).bind fun r19 =>
  (ferry_Drop (r13.1.term_, r13.1.index, r13.1.base, r13.1.size, r12.2.1.2.2.2.2.1, true, r12.2.1.2.2.2.2.2.2.1, ())).bind fun r20 =>
  some (((r12.2.1.2.2.2.2.2.2.1.length : Int), true, (⟨r19.1, r12.2.1.2.2.2.2.2.2.1⟩ : DImage), ()), ((r20.2.1.1, r20.2.1.2.1, r20.2.1.2.2.1, r20.2.1.2.2.2.1, r20.2.1.2.2.2.2.1, r20.2.1.2.2.2.2.2.1, r20.2.1.2.2.2.2.2.2.1, ()), (), (), ())))))
  else
  (bif (decide ((x1.at_ : Int) ≤ (h0.2.2.2.2.2.2.1.length : Int))) then
  let y21 : Int := (if ((x1.bytes.length : Int) : Int) < (IntKind.i64.wrap ((h0.2.2.2.2.2.2.1.length : Int) - x1.at_)) then (x1.bytes.length : Int) else (IntKind.i64.wrap ((h0.2.2.2.2.2.2.1.length : Int) - x1.at_)))
  (if 0 ≤ y21 ∧ y21 ≤ (x1.bytes.length : Int) ∧ (x1.bytes.length : Int) ≤ (x1.bytes.length : Int) then
  let y22 : List (UInt8) := ((x1.bytes.drop (y21 : Int).toNat).take (((x1.bytes.length : Int) : Int).toNat - (y21 : Int).toNat))
  (ferry_lay y22 (h0.1, h0.2.1, h0.2.2.1, h0.2.2.2.1, h0.2.2.2.2.1, h0.2.2.2.2.2.1, h0.2.2.2.2.2.2.1, ())).bind fun r23 =>
  (bif (decide (((r23.2.1.2.2.2.2.2.2.1.length : Int) : Int) < r23.2.1.2.2.2.1)) then
  some (((r23.2.1.2.2.2.2.2.2.1.length : Int), false, (⟨(⟨0, 0, (⟨[], [], [], []⟩ : DConfig)⟩ : DBase), []⟩ : DImage), ()), ((r23.2.1.1, r23.2.1.2.1, r23.2.1.2.2.1, r23.2.1.2.2.2.1, r23.2.1.2.2.2.2.1, r23.2.1.2.2.2.2.2.1, r23.2.1.2.2.2.2.2.2.1, ()), (), (), ()))
  else
  (ferry_own x1.base).bind fun r24 =>
  (ferry_Drop (r23.2.1.1, r23.2.1.2.1, r23.2.1.2.2.1, r23.2.1.2.2.2.1, r23.2.1.2.2.2.2.1, r23.2.1.2.2.2.2.2.1, r23.2.1.2.2.2.2.2.2.1, ())).bind fun r25 =>
  some (((r23.2.1.2.2.2.2.2.2.1.length : Int), true, (⟨r24.1, r23.2.1.2.2.2.2.2.2.1⟩ : DImage), ()), ((r25.2.1.1, r25.2.1.2.1, r25.2.1.2.2.1, r25.2.1.2.2.2.1, r25.2.1.2.2.2.2.1, r25.2.1.2.2.2.2.2.1, r25.2.1.2.2.2.2.2.2.1, ()), (), (), ())))
  else none)
  else
  (bif (decide (((h0.2.2.2.2.2.2.1.length : Int) : Int) < h0.2.2.2.1)) then
  some (((h0.2.2.2.2.2.2.1.length : Int), false, (⟨(⟨0, 0, (⟨[], [], [], []⟩ : DConfig)⟩ : DBase), []⟩ : DImage), ()), ((h0.1, h0.2.1, h0.2.2.1, h0.2.2.2.1, h0.2.2.2.2.1, h0.2.2.2.2.2.1, h0.2.2.2.2.2.2.1, ()), (), (), ()))
  else
  (ferry_own x1.base).bind fun r26 =>
  (ferry_Drop (h0.1, h0.2.1, h0.2.2.1, h0.2.2.2.1, h0.2.2.2.2.1, h0.2.2.2.2.2.1, h0.2.2.2.2.2.2.1, ())).bind fun r27 =>
  some (((h0.2.2.2.2.2.2.1.length : Int), true, (⟨r26.1, h0.2.2.2.2.2.2.1⟩ : DImage), ()), ((r27.2.1.1, r27.2.1.2.1, r27.2.1.2.2.1, r27.2.1.2.2.2.1, r27.2.1.2.2.2.2.1, r27.2.1.2.2.2.2.2.1, r27.2.1.2.2.2.2.2.2.1, ()), (), (), ()))))))))
noncomputable def ferry_Take_ce : CE CT Try.prog where
  f := 22
  args := [.one (.ptr 0 0), .cod 12]
  hs := [.obj 56 [.int .i64, .int .i64, .int .i64, .int .i64, .bool, .bool, .own 1 1], .row 5 1]
  res := .tup [.one (.int .i64), .one (.bool), .cod 8]
  outs := [.obj 56 [.int .i64, .int .i64, .int .i64, .int .i64, .bool, .bool, .own 1 2], .dead, .row 5 1]
  m := fun d dh => ferry_Take d.2.1 dh.1
  ok := ce_ok mixedP Try.func22 (by kernel_rfl) (orcOf_ok ferry_Take_tb) (dr := ferry_Take_dr) (lps := lpsOf ferry_Take_lt) (lps_fn (no_loop (by kernel_rfl))) (fun d dh => by kernel_rfl)

def watershedkit_SameInts_dr : Nat → DrA
  | 6 => ⟨[0, 1, 2, 4, 5, 6, 3, 7, 8], [[], [], [0, 1], [0, 1, 2], [], [], [4, 5], [4, 5, 6], [0, 1, 2, 3, 4, 5, 6, 7]], [], [], []⟩
  | _ => ⟨[], [], [], [], []⟩
noncomputable def watershedkit_SameInts_tb : List (CE CT Try.prog) := []
noncomputable def watershedkit_SameInts_l1 (a : ((List (Int)) × (List (Int)) × (Int) × Unit) × (Unit)) : Option ((((List (Int)) × (List (Int)) × (Int) × Unit) × (Unit)) ⊕ ((((Bool) × Unit) × (Unit)) ⊕ ((Unit) × (Unit)))) :=
  (bif (decide ((a.1.2.2.1 : Int) < (a.1.1.length : Int))) then
  (getI a.1.1 a.1.2.2.1).bind fun e1 =>
  (getI a.1.2.1 a.1.2.2.1).bind fun e2 =>
  (bif (decide ((e1 : Int) ≠ e2)) then
  some (.inr (.inl ((false, ()), ())))
  else
  some (.inl ((a.1.1, a.1.2.1, (IntKind.i64.wrap (a.1.2.2.1 + 1)), ()), ())))
  else
  some (.inr (.inr ((), ()))))
noncomputable def watershedkit_SameInts_e1 : LE CT Try.prog := ⟨4, [0, 1, 5], [.one (.sl 0), .one (.sl 0), .one (.int .i64)], [], [⟨.ret, [4], [.one (.bool)], []⟩, ⟨.exit 0, [], [], []⟩], watershedkit_SameInts_l1⟩
noncomputable def watershedkit_SameInts_lt : List (LE CT Try.prog) := [watershedkit_SameInts_e1]
theorem watershedkit_SameInts_e1_ok : LeOk watershedkit_SameInts_e1 (nthL (bodyOf Try.f68) 0) := fun A env h k z hk => le_ok (E := watershedkit_SameInts_e1) (orcOf_ok watershedkit_SameInts_tb) (dr := watershedkit_SameInts_dr) (lps := lpsOf watershedkit_SameInts_lt) (no_loop (by kernel_rfl)) (fun a => by kernel_rfl) env h k z hk
noncomputable def watershedkit_SameInts (x0 : List (Int)) (x1 : List (Int)) : Option ((Bool) × (Unit)) :=
  (bif (decide (((x0.length : Int) : Int) ≠ (x1.length : Int))) then
  some (false, ())
  else
  (loopM watershedkit_SameInts_l1 ((x0, x1, 0, ()), ())).bind fun b1 =>
  (match b1 with
  | .inl b2 =>
  some (b2.1.1, ())
  | .inr b3 =>
  some (true, ())))
noncomputable def watershedkit_SameInts_ce : CE CT Try.prog where
  f := 68
  args := [.one (.sl 0), .one (.sl 0)]
  hs := []
  res := .val (.one (.bool))
  outs := []
  m := fun d dh => watershedkit_SameInts d.1 d.2.1
  ok := ce_ok mixedP Try.func68 (by kernel_rfl) (orcOf_ok watershedkit_SameInts_tb) (dr := watershedkit_SameInts_dr) (lps := lpsOf watershedkit_SameInts_lt) (lps_fn (lps_of (n := 1) (by kernel_rfl) fun i hi => match i, hi with | 0, _ => lp_ok (E := watershedkit_SameInts_e1) (by kernel_rfl) watershedkit_SameInts_e1_ok)) (fun d dh => by kernel_rfl)

def watershedkit_SameConfig_dr : Nat → DrA
  | _ => ⟨[], [], [], [], []⟩
noncomputable def watershedkit_SameConfig_tb : List (CE CT Try.prog) := [watershedkit_SameInts_ce]
noncomputable def watershedkit_SameConfig_lt : List (LE CT Try.prog) := []
noncomputable def watershedkit_SameConfig (x0 : DConfig) (x1 : DConfig) : Option ((Bool) × (Unit)) :=
  (watershedkit_SameInts x0.voters x1.voters).bind fun r1 =>
  (bif r1.1 then
  (watershedkit_SameInts x0.old x1.old).bind fun r2 =>
  (bif r2.1 then
  (watershedkit_SameInts x0.learners x1.learners).bind fun r3 =>
  (bif r3.1 then
  (watershedkit_SameInts x0.want x1.want).bind fun r4 =>
  some (r4.1, ())
  else
  some (false, ()))
  else
  some (false, ()))
  else
  some (false, ()))
noncomputable def watershedkit_SameConfig_ce : CE CT Try.prog where
  f := 59
  args := [.cod 4, .cod 4]
  hs := []
  res := .val (.one (.bool))
  outs := []
  m := fun d dh => watershedkit_SameConfig d.1 d.2.1
  ok := ce_ok mixedP Try.func59 (by kernel_rfl) (orcOf_ok watershedkit_SameConfig_tb) (dr := watershedkit_SameConfig_dr) (lps := lpsOf watershedkit_SameConfig_lt) (lps_fn (no_loop (by kernel_rfl))) (fun d dh => by kernel_rfl)

def watershedkit_SameBase_dr : Nat → DrA
  | _ => ⟨[], [], [], [], []⟩
noncomputable def watershedkit_SameBase_tb : List (CE CT Try.prog) := [watershedkit_SameConfig_ce]
noncomputable def watershedkit_SameBase_lt : List (LE CT Try.prog) := []
noncomputable def watershedkit_SameBase (x0 : DBase) (x1 : DBase) : Option ((Bool) × (Unit)) :=
  (bif (decide ((x0.index : Int) = x1.index)) then
  (bif (decide ((x0.term_ : Int) = x1.term_)) then
  (watershedkit_SameConfig x0.config x1.config).bind fun r1 =>
  some (r1.1, ())
  else
  some (false, ()))
  else
  some (false, ()))
noncomputable def watershedkit_SameBase_ce : CE CT Try.prog where
  f := 38
  args := [.cod 5, .cod 5]
  hs := []
  res := .val (.one (.bool))
  outs := []
  m := fun d dh => watershedkit_SameBase d.1 d.2.1
  ok := ce_ok mixedP Try.func38 (by kernel_rfl) (orcOf_ok watershedkit_SameBase_tb) (dr := watershedkit_SameBase_dr) (lps := lpsOf watershedkit_SameBase_lt) (lps_fn (no_loop (by kernel_rfl))) (fun d dh => by kernel_rfl)

def watershedkit_SameBytes_dr : Nat → DrA
  | 6 => ⟨[0, 1, 2, 4, 5, 6, 3, 7, 8], [[], [], [0, 1], [0, 1, 2], [], [], [4, 5], [4, 5, 6], [0, 1, 2, 3, 4, 5, 6, 7]], [], [], []⟩
  | _ => ⟨[], [], [], [], []⟩
noncomputable def watershedkit_SameBytes_tb : List (CE CT Try.prog) := []
noncomputable def watershedkit_SameBytes_l1 (a : ((List (UInt8)) × (List (UInt8)) × (Int) × Unit) × (Unit)) : Option ((((List (UInt8)) × (List (UInt8)) × (Int) × Unit) × (Unit)) ⊕ ((((Bool) × Unit) × (Unit)) ⊕ ((Unit) × (Unit)))) :=
  (bif (decide ((a.1.2.2.1 : Int) < (a.1.1.length : Int))) then
  (getI a.1.1 a.1.2.2.1).bind fun e1 =>
  (getI a.1.2.1 a.1.2.2.1).bind fun e2 =>
  (bif (decide (((e1.toNat : Int) : Int) ≠ (e2.toNat : Int))) then
  some (.inr (.inl ((false, ()), ())))
  else
  some (.inl ((a.1.1, a.1.2.1, (IntKind.i64.wrap (a.1.2.2.1 + 1)), ()), ())))
  else
  some (.inr (.inr ((), ()))))
noncomputable def watershedkit_SameBytes_e1 : LE CT Try.prog := ⟨4, [0, 1, 5], [.one (.sl 1), .one (.sl 1), .one (.int .i64)], [], [⟨.ret, [4], [.one (.bool)], []⟩, ⟨.exit 0, [], [], []⟩], watershedkit_SameBytes_l1⟩
noncomputable def watershedkit_SameBytes_lt : List (LE CT Try.prog) := [watershedkit_SameBytes_e1]
theorem watershedkit_SameBytes_e1_ok : LeOk watershedkit_SameBytes_e1 (nthL (bodyOf Try.f39) 0) := fun A env h k z hk => le_ok (E := watershedkit_SameBytes_e1) (orcOf_ok watershedkit_SameBytes_tb) (dr := watershedkit_SameBytes_dr) (lps := lpsOf watershedkit_SameBytes_lt) (no_loop (by kernel_rfl)) (fun a => by kernel_rfl) env h k z hk
noncomputable def watershedkit_SameBytes (x0 : List (UInt8)) (x1 : List (UInt8)) : Option ((Bool) × (Unit)) :=
  (bif (decide (((x0.length : Int) : Int) ≠ (x1.length : Int))) then
  some (false, ())
  else
  (loopM watershedkit_SameBytes_l1 ((x0, x1, 0, ()), ())).bind fun b1 =>
  (match b1 with
  | .inl b2 =>
  some (b2.1.1, ())
  | .inr b3 =>
  some (true, ())))
noncomputable def watershedkit_SameBytes_ce : CE CT Try.prog where
  f := 39
  args := [.one (.sl 1), .one (.sl 1)]
  hs := []
  res := .val (.one (.bool))
  outs := []
  m := fun d dh => watershedkit_SameBytes d.1 d.2.1
  ok := ce_ok mixedP Try.func39 (by kernel_rfl) (orcOf_ok watershedkit_SameBytes_tb) (dr := watershedkit_SameBytes_dr) (lps := lpsOf watershedkit_SameBytes_lt) (lps_fn (lps_of (n := 1) (by kernel_rfl) fun i hi => match i, hi with | 0, _ => lp_ok (E := watershedkit_SameBytes_e1) (by kernel_rfl) watershedkit_SameBytes_e1_ok)) (fun d dh => by kernel_rfl)

def watershedkit_SameImage_dr : Nat → DrA
  | _ => ⟨[], [], [], [], []⟩
noncomputable def watershedkit_SameImage_tb : List (CE CT Try.prog) := [watershedkit_SameBase_ce, watershedkit_SameBytes_ce]
noncomputable def watershedkit_SameImage_lt : List (LE CT Try.prog) := []
noncomputable def watershedkit_SameImage (x0 : DImage) (x1 : DImage) : Option ((Bool) × (Unit)) :=
  (watershedkit_SameBase x0.base x1.base).bind fun r1 =>
  (bif r1.1 then
  (watershedkit_SameBytes x0.bytes x1.bytes).bind fun r2 =>
  some (r2.1, ())
  else
  some (false, ()))
noncomputable def watershedkit_SameImage_ce : CE CT Try.prog where
  f := 24
  args := [.cod 8, .cod 8]
  hs := []
  res := .val (.one (.bool))
  outs := []
  m := fun d dh => watershedkit_SameImage d.1 d.2.1
  ok := ce_ok mixedP Try.func24 (by kernel_rfl) (orcOf_ok watershedkit_SameImage_tb) (dr := watershedkit_SameImage_dr) (lps := lpsOf watershedkit_SameImage_lt) (lps_fn (no_loop (by kernel_rfl))) (fun d dh => by kernel_rfl)

def watershedlaw13_awake_dr : Nat → DrA
  | 2 => ⟨[0, 2, 1, 3, 4, 5, 6, 7, 8, 9], [[], [0], [], [0, 1, 2], [0, 1, 2, 3], [0, 1, 2, 3, 4], [0, 1, 2, 3, 4], [], [0, 1, 2, 3, 4, 5, 7], [0, 1, 2, 3, 4, 5, 6, 7, 8]], [2], [1], [0]⟩
  | 3 => ⟨[0, 2, 1, 3, 4, 5, 6, 7, 8, 9], [[], [0], [], [0, 1, 2], [0, 1, 2, 3], [0, 1, 2, 3, 4], [0, 1, 2, 3, 4], [], [0, 1, 2, 3, 4, 5, 7], [0, 1, 2, 3, 4, 5, 6, 7, 8]], [2], [1], [0]⟩
  | _ => ⟨[], [], [], [], []⟩
noncomputable def watershedlaw13_awake_tb : List (CE CT Try.prog) := [watershedlaw13_plain_ce, watershedlaw13_asks_ce, ferry_Fill_ce, ferry_New_ce, ferry_Take_ce, watershedkit_SameImage_ce]
noncomputable def watershedlaw13_awake_lt : List (LE CT Try.prog) := []
noncomputable def watershedlaw13_awake  : Option ((Bool) × (Unit)) :=
  (watershedlaw13_plain 1000).bind fun r1 =>
  (watershedlaw13_asks r1.1 0).bind fun r2 =>
  (ferry_Fill r2.1 r1.1).bind fun r3 =>
  (watershedlaw13_asks r1.1 600).bind fun r4 =>
  (ferry_Fill r4.1 r1.1).bind fun r5 =>
  (ferry_New).bind fun r6 =>
  (ferry_Take r3.1.1 (r6.2.1.1, r6.2.1.2.1, r6.2.1.2.2.1, r6.2.1.2.2.2.1, r6.2.1.2.2.2.2.1, r6.2.1.2.2.2.2.2.1, r6.2.1.2.2.2.2.2.2.1, ())).bind fun r7 =>
  (ferry_Take r5.1.1 (r7.2.1.1, r7.2.1.2.1, r7.2.1.2.2.1, r7.2.1.2.2.2.1, r7.2.1.2.2.2.2.1, r7.2.1.2.2.2.2.2.1, r7.2.1.2.2.2.2.2.2.1, ())).bind fun r8 =>
  (bif r3.1.2.1 then
  (bif r5.1.2.1 then
  (bif (decide (((r3.1.1.bytes.length : Int) : Int) = 600)) then
  (bif (decide (((r5.1.1.bytes.length : Int) : Int) = 400)) then
  (bif (decide ((r7.1.1 : Int) = 600)) then
  (bif (!r7.1.2.1) then
  (bif (decide ((r8.1.1 : Int) = 1000)) then
  (bif r8.1.2.1 then
  (watershedkit_SameImage r1.1 r8.1.2.2.1).bind fun r9 =>
  some (r9.1, ())
  else
  some (false, ()))
  else
  some (false, ()))
  else
  some (false, ()))
  else
  some (false, ()))
  else
  some (false, ()))
  else
  some (false, ()))
  else
  some (false, ()))
  else
  some (false, ()))
noncomputable def watershedlaw13_awake_ce : CE CT Try.prog where
  f := 7
  args := []
  hs := []
  res := .val (.one (.bool))
  outs := []
  m := fun d dh => watershedlaw13_awake
  ok := ce_ok mixedP Try.func7 (by kernel_rfl) (orcOf_ok watershedlaw13_awake_tb) (dr := watershedlaw13_awake_dr) (lps := lpsOf watershedlaw13_awake_lt) (lps_fn (no_loop (by kernel_rfl))) (fun d dh => by kernel_rfl)

def watershedkit_ConfigOf_dr : Nat → DrA
  | _ => ⟨[], [], [], [], []⟩
noncomputable def watershedkit_ConfigOf_tb : List (CE CT Try.prog) := []
noncomputable def watershedkit_ConfigOf_lt : List (LE CT Try.prog) := []
noncomputable def watershedkit_ConfigOf (x0 : DConfig) : Option ((Int) × (Unit)) :=
  let y1 : Int := (IntKind.i64.wrap ((IntKind.i64.wrap ((IntKind.i64.wrap ((IntKind.i64.wrap (1 + (x0.voters.length : Int))) + (x0.old.length : Int))) + (x0.learners.length : Int))) + (x0.want.length : Int)))
  some (y1, ())
noncomputable def watershedkit_ConfigOf_ce : CE CT Try.prog where
  f := 9
  args := [.cod 4]
  hs := []
  res := .val (.one (.int .i64))
  outs := []
  m := fun d dh => watershedkit_ConfigOf d.1
  ok := ce_ok mixedP Try.func9 (by kernel_rfl) (orcOf_ok watershedkit_ConfigOf_tb) (dr := watershedkit_ConfigOf_dr) (lps := lpsOf watershedkit_ConfigOf_lt) (lps_fn (no_loop (by kernel_rfl))) (fun d dh => by kernel_rfl)

def watershedkit_Pick_dr : Nat → DrA
  | _ => ⟨[], [], [], [], []⟩
noncomputable def watershedkit_Pick_tb : List (CE CT Try.prog) := []
noncomputable def watershedkit_Pick_lt : List (LE CT Try.prog) := []
noncomputable def watershedkit_Pick (x0 : Int) (x1 : Int) : Option ((Int) × (Unit)) :=
  (bif (decide ((x1 : Int) < 1)) then
  some (0, ())
  else
  (if (x1 : Int) = 0 then none else
  (bif (decide ((((x0 : Int).tmod x1) : Int) < 0)) then
  some ((IntKind.i64.wrap (((x0 : Int).tmod x1) + x1)), ())
  else
  some (((x0 : Int).tmod x1), ()))))
noncomputable def watershedkit_Pick_ce : CE CT Try.prog where
  f := 28
  args := [.one (.int .i64), .one (.int .i64)]
  hs := []
  res := .val (.one (.int .i64))
  outs := []
  m := fun d dh => watershedkit_Pick d.1 d.2.1
  ok := ce_ok mixedP Try.func28 (by kernel_rfl) (orcOf_ok watershedkit_Pick_tb) (dr := watershedkit_Pick_dr) (lps := lpsOf watershedkit_Pick_lt) (lps_fn (no_loop (by kernel_rfl))) (fun d dh => by kernel_rfl)

def watershedlaw13_FerryCrosses_dr : Nat → DrA
  | 12 => ⟨[1, 0, 3, 2, 4, 5, 6, 7, 8, 9, 10], [[], [], [0, 1], [], [0, 1, 2, 3], [0, 1, 2, 3, 4], [0, 1, 2, 3, 4, 5], [0, 1, 2, 3, 4, 5], [], [0, 1, 2, 3, 4, 5, 6, 8], [0, 1, 2, 3, 4, 5, 6, 7, 8, 9]], [3], [2], [0]⟩
  | 31 => ⟨[1, 0, 3, 2, 4, 5, 6, 7, 8, 9, 10], [[], [], [0, 1], [], [0, 1, 2, 3], [0, 1, 2, 3, 4], [0, 1, 2, 3, 4, 5], [0, 1, 2, 3, 4, 5], [], [0, 1, 2, 3, 4, 5, 6, 8], [0, 1, 2, 3, 4, 5, 6, 7, 8, 9]], [3], [2], [0]⟩
  | _ => ⟨[], [], [], [], []⟩
noncomputable def watershedlaw13_FerryCrosses_tb : List (CE CT Try.prog) := [watershedlaw13_awake_ce, watershedkit_ConfigOf_ce, ferry_New_ce, watershedkit_Pick_ce, watershedlaw13_asks_ce, ferry_Fill_ce, ferry_Take_ce, watershedkit_SameImage_ce, ferry_Drop_ce]
noncomputable def watershedlaw13_FerryCrosses_l1 (a : ((List (UInt8)) × (List (Int)) × (Unit) × (Unit) × (Int) × (Int) × Unit) × ((DImage) × ((Int) × (Int) × (Int) × (Int) × (Bool) × (Bool) × (List (UInt8)) × Unit) × (Unit) × Unit)) : Option ((((List (UInt8)) × (List (Int)) × (Unit) × (Unit) × (Int) × (Int) × Unit) × ((DImage) × ((Int) × (Int) × (Int) × (Int) × (Bool) × (Bool) × (List (UInt8)) × Unit) × (Unit) × Unit)) ⊕ ((((Bool) × Unit) × ((DImage) × ((Int) × (Int) × (Int) × (Int) × (Bool) × (Bool) × (List (UInt8)) × Unit) × (Unit) × (Unit) × Unit)) ⊕ (((List (UInt8)) × (Unit) × (Unit) × Unit) × ((DImage) × ((Int) × (Int) × (Int) × (Int) × (Bool) × (Bool) × (List (UInt8)) × Unit) × (Unit) × (Unit) × Unit)))) :=
  (bif (decide ((a.1.2.2.2.2.2.1 : Int) < (a.1.2.1.length : Int))) then
  (getI a.1.2.1 a.1.2.2.2.2.2.1).bind fun e1 =>
  (watershedkit_Pick e1 (IntKind.i64.wrap (a.1.2.2.2.2.1 + 1))).bind fun r2 =>
  (watershedlaw13_asks a.2.1 r2.1).bind fun r3 =>
  (ferry_Fill r3.1 a.2.1).bind fun r4 =>
  (bif (!r4.1.2.1) then
  some (.inr (.inl ((false, ()), (a.2.1, (a.2.2.1.1, a.2.2.1.2.1, a.2.2.1.2.2.1, a.2.2.1.2.2.2.1, a.2.2.1.2.2.2.2.1, a.2.2.1.2.2.2.2.2.1, a.2.2.1.2.2.2.2.2.2.1, ()), (), (), ()))))
  else
  (getI a.1.2.1 a.1.2.2.2.2.2.1).bind fun e5 =>
  (bif (decide ((((e5 : Int).tmod 5) : Int) = 4)) then
  (bif (decide ((0 : Int) < r2.1)) then
  (ferry_Take (⟨r4.1.1.kind, r4.1.1.group, r4.1.1.from_, r4.1.1.to_, 9, r4.1.1.index, r4.1.1.logTerm, r4.1.1.commit, r4.1.1.ok, r4.1.1.entries, r4.1.1.base, r4.1.1.size, r4.1.1.at_, r4.1.1.tag, r4.1.1.bytes⟩ : DLetter) (a.2.2.1.1, a.2.2.1.2.1, a.2.2.1.2.2.1, a.2.2.1.2.2.2.1, a.2.2.1.2.2.2.2.1, a.2.2.1.2.2.2.2.2.1, a.2.2.1.2.2.2.2.2.2.1, ())).bind fun r6 =>
  (bif r6.1.2.1 then
  (bif (decide ((r6.1.1 : Int) ≠ (a.1.1.length : Int))) then
  some (.inr (.inl ((false, ()), (a.2.1, (r6.2.1.1, r6.2.1.2.1, r6.2.1.2.2.1, r6.2.1.2.2.2.1, r6.2.1.2.2.2.2.1, r6.2.1.2.2.2.2.2.1, r6.2.1.2.2.2.2.2.2.1, ()), (), (), ()))))
  else
  (watershedkit_SameImage r6.1.2.2.1 a.2.1).bind fun r7 =>
  (bif (!r7.1) then
  some (.inr (.inl ((false, ()), (a.2.1, (r6.2.1.1, r6.2.1.2.1, r6.2.1.2.2.1, r6.2.1.2.2.2.1, r6.2.1.2.2.2.2.1, r6.2.1.2.2.2.2.2.1, r6.2.1.2.2.2.2.2.2.1, ()), (), (), ()))))
  else
  some (.inl ((a.1.1, a.1.2.1, (), (), 0, (IntKind.i64.wrap (a.1.2.2.2.2.2.1 + 1)), ()), (a.2.1, (r6.2.1.1, r6.2.1.2.1, r6.2.1.2.2.1, r6.2.1.2.2.2.1, r6.2.1.2.2.2.2.1, r6.2.1.2.2.2.2.2.1, r6.2.1.2.2.2.2.2.2.1, ()), (), ())))))
  else
  (bif (decide ((9 : Int) ≠ 9)) then
  (bif (decide ((r6.1.1 : Int) < a.1.2.2.2.2.1)) then
  (bif (decide ((0 : Int) < r2.1)) then
  (bif (decide ((0 : Int) < a.1.2.2.2.2.1)) then
  some (.inr (.inl ((false, ()), (a.2.1, (r6.2.1.1, r6.2.1.2.1, r6.2.1.2.2.1, r6.2.1.2.2.2.1, r6.2.1.2.2.2.2.1, r6.2.1.2.2.2.2.2.1, r6.2.1.2.2.2.2.2.2.1, ()), (), (), ()))))
  else
  (bif (decide (((a.1.1.length : Int) : Int) < r6.1.1)) then
  some (.inr (.inl ((false, ()), (a.2.1, (r6.2.1.1, r6.2.1.2.1, r6.2.1.2.2.1, r6.2.1.2.2.2.1, r6.2.1.2.2.2.2.1, r6.2.1.2.2.2.2.2.1, r6.2.1.2.2.2.2.2.2.1, ()), (), (), ()))))
  else
  (bif (decide ((9 : Int) ≠ 9)) then
  some (.inl ((a.1.1, a.1.2.1, (), (), r6.1.1, (IntKind.i64.wrap (a.1.2.2.2.2.2.1 + 1)), ()), (a.2.1, (r6.2.1.1, r6.2.1.2.1, r6.2.1.2.2.1, r6.2.1.2.2.2.1, r6.2.1.2.2.2.2.1, r6.2.1.2.2.2.2.2.1, r6.2.1.2.2.2.2.2.2.1, ()), (), ())))
  else
  some (.inl ((a.1.1, a.1.2.1, (), (), a.1.2.2.2.2.1, (IntKind.i64.wrap (a.1.2.2.2.2.2.1 + 1)), ()), (a.2.1, (r6.2.1.1, r6.2.1.2.1, r6.2.1.2.2.1, r6.2.1.2.2.2.1, r6.2.1.2.2.2.2.1, r6.2.1.2.2.2.2.2.1, r6.2.1.2.2.2.2.2.2.1, ()), (), ()))))))
  else
  (bif (decide (((a.1.1.length : Int) : Int) < r6.1.1)) then
  some (.inr (.inl ((false, ()), (a.2.1, (r6.2.1.1, r6.2.1.2.1, r6.2.1.2.2.1, r6.2.1.2.2.2.1, r6.2.1.2.2.2.2.1, r6.2.1.2.2.2.2.2.1, r6.2.1.2.2.2.2.2.2.1, ()), (), (), ()))))
  else
  (bif (decide ((9 : Int) ≠ 9)) then
  some (.inl ((a.1.1, a.1.2.1, (), (), r6.1.1, (IntKind.i64.wrap (a.1.2.2.2.2.2.1 + 1)), ()), (a.2.1, (r6.2.1.1, r6.2.1.2.1, r6.2.1.2.2.1, r6.2.1.2.2.2.1, r6.2.1.2.2.2.2.1, r6.2.1.2.2.2.2.2.1, r6.2.1.2.2.2.2.2.2.1, ()), (), ())))
  else
  some (.inl ((a.1.1, a.1.2.1, (), (), a.1.2.2.2.2.1, (IntKind.i64.wrap (a.1.2.2.2.2.2.1 + 1)), ()), (a.2.1, (r6.2.1.1, r6.2.1.2.1, r6.2.1.2.2.1, r6.2.1.2.2.2.1, r6.2.1.2.2.2.2.1, r6.2.1.2.2.2.2.2.1, r6.2.1.2.2.2.2.2.2.1, ()), (), ()))))))
  else
  (bif (decide (((a.1.1.length : Int) : Int) < r6.1.1)) then
  some (.inr (.inl ((false, ()), (a.2.1, (r6.2.1.1, r6.2.1.2.1, r6.2.1.2.2.1, r6.2.1.2.2.2.1, r6.2.1.2.2.2.2.1, r6.2.1.2.2.2.2.2.1, r6.2.1.2.2.2.2.2.2.1, ()), (), (), ()))))
  else
  (bif (decide ((9 : Int) ≠ 9)) then
  some (.inl ((a.1.1, a.1.2.1, (), (), r6.1.1, (IntKind.i64.wrap (a.1.2.2.2.2.2.1 + 1)), ()), (a.2.1, (r6.2.1.1, r6.2.1.2.1, r6.2.1.2.2.1, r6.2.1.2.2.2.1, r6.2.1.2.2.2.2.1, r6.2.1.2.2.2.2.2.1, r6.2.1.2.2.2.2.2.2.1, ()), (), ())))
  else
  some (.inl ((a.1.1, a.1.2.1, (), (), a.1.2.2.2.2.1, (IntKind.i64.wrap (a.1.2.2.2.2.2.1 + 1)), ()), (a.2.1, (r6.2.1.1, r6.2.1.2.1, r6.2.1.2.2.1, r6.2.1.2.2.2.1, r6.2.1.2.2.2.2.1, r6.2.1.2.2.2.2.2.1, r6.2.1.2.2.2.2.2.2.1, ()), (), ()))))))
  else
  (bif (decide (((a.1.1.length : Int) : Int) < r6.1.1)) then
  some (.inr (.inl ((false, ()), (a.2.1, (r6.2.1.1, r6.2.1.2.1, r6.2.1.2.2.1, r6.2.1.2.2.2.1, r6.2.1.2.2.2.2.1, r6.2.1.2.2.2.2.2.1, r6.2.1.2.2.2.2.2.2.1, ()), (), (), ()))))
  else
  (bif (decide ((9 : Int) ≠ 9)) then
  some (.inl ((a.1.1, a.1.2.1, (), (), r6.1.1, (IntKind.i64.wrap (a.1.2.2.2.2.2.1 + 1)), ()), (a.2.1, (r6.2.1.1, r6.2.1.2.1, r6.2.1.2.2.1, r6.2.1.2.2.2.1, r6.2.1.2.2.2.2.1, r6.2.1.2.2.2.2.2.1, r6.2.1.2.2.2.2.2.2.1, ()), (), ())))
  else
  some (.inl ((a.1.1, a.1.2.1, (), (), a.1.2.2.2.2.1, (IntKind.i64.wrap (a.1.2.2.2.2.2.1 + 1)), ()), (a.2.1, (r6.2.1.1, r6.2.1.2.1, r6.2.1.2.2.1, r6.2.1.2.2.2.1, r6.2.1.2.2.2.2.1, r6.2.1.2.2.2.2.2.1, r6.2.1.2.2.2.2.2.2.1, ()), (), ())))))))
  else
  (ferry_Take r4.1.1 (a.2.2.1.1, a.2.2.1.2.1, a.2.2.1.2.2.1, a.2.2.1.2.2.2.1, a.2.2.1.2.2.2.2.1, a.2.2.1.2.2.2.2.2.1, a.2.2.1.2.2.2.2.2.2.1, ())).bind fun r8 =>
  (bif r8.1.2.1 then
  (bif (decide ((r8.1.1 : Int) ≠ (a.1.1.length : Int))) then
  some (.inr (.inl ((false, ()), (a.2.1, (r8.2.1.1, r8.2.1.2.1, r8.2.1.2.2.1, r8.2.1.2.2.2.1, r8.2.1.2.2.2.2.1, r8.2.1.2.2.2.2.2.1, r8.2.1.2.2.2.2.2.2.1, ()), (), (), ()))))
  else
  (watershedkit_SameImage r8.1.2.2.1 a.2.1).bind fun r9 =>
  (bif (!r9.1) then
  some (.inr (.inl ((false, ()), (a.2.1, (r8.2.1.1, r8.2.1.2.1, r8.2.1.2.2.1, r8.2.1.2.2.2.1, r8.2.1.2.2.2.2.1, r8.2.1.2.2.2.2.2.1, r8.2.1.2.2.2.2.2.2.1, ()), (), (), ()))))
  else
  some (.inl ((a.1.1, a.1.2.1, (), (), 0, (IntKind.i64.wrap (a.1.2.2.2.2.2.1 + 1)), ()), (a.2.1, (r8.2.1.1, r8.2.1.2.1, r8.2.1.2.2.1, r8.2.1.2.2.2.1, r8.2.1.2.2.2.2.1, r8.2.1.2.2.2.2.2.1, r8.2.1.2.2.2.2.2.2.1, ()), (), ())))))
  else
  (bif (decide ((r4.1.1.term_ : Int) ≠ 9)) then
  (bif (decide ((r8.1.1 : Int) < a.1.2.2.2.2.1)) then
  (bif (decide ((0 : Int) < r2.1)) then
  (bif (decide ((0 : Int) < a.1.2.2.2.2.1)) then
  some (.inr (.inl ((false, ()), (a.2.1, (r8.2.1.1, r8.2.1.2.1, r8.2.1.2.2.1, r8.2.1.2.2.2.1, r8.2.1.2.2.2.2.1, r8.2.1.2.2.2.2.2.1, r8.2.1.2.2.2.2.2.2.1, ()), (), (), ()))))
  else
  (bif (decide (((a.1.1.length : Int) : Int) < r8.1.1)) then
  some (.inr (.inl ((false, ()), (a.2.1, (r8.2.1.1, r8.2.1.2.1, r8.2.1.2.2.1, r8.2.1.2.2.2.1, r8.2.1.2.2.2.2.1, r8.2.1.2.2.2.2.2.1, r8.2.1.2.2.2.2.2.2.1, ()), (), (), ()))))
  else
  (bif (decide ((r4.1.1.term_ : Int) ≠ 9)) then
  some (.inl ((a.1.1, a.1.2.1, (), (), r8.1.1, (IntKind.i64.wrap (a.1.2.2.2.2.2.1 + 1)), ()), (a.2.1, (r8.2.1.1, r8.2.1.2.1, r8.2.1.2.2.1, r8.2.1.2.2.2.1, r8.2.1.2.2.2.2.1, r8.2.1.2.2.2.2.2.1, r8.2.1.2.2.2.2.2.2.1, ()), (), ())))
  else
  some (.inl ((a.1.1, a.1.2.1, (), (), a.1.2.2.2.2.1, (IntKind.i64.wrap (a.1.2.2.2.2.2.1 + 1)), ()), (a.2.1, (r8.2.1.1, r8.2.1.2.1, r8.2.1.2.2.1, r8.2.1.2.2.2.1, r8.2.1.2.2.2.2.1, r8.2.1.2.2.2.2.2.1, r8.2.1.2.2.2.2.2.2.1, ()), (), ()))))))
  else
  (bif (decide (((a.1.1.length : Int) : Int) < r8.1.1)) then
  some (.inr (.inl ((false, ()), (a.2.1, (r8.2.1.1, r8.2.1.2.1, r8.2.1.2.2.1, r8.2.1.2.2.2.1, r8.2.1.2.2.2.2.1, r8.2.1.2.2.2.2.2.1, r8.2.1.2.2.2.2.2.2.1, ()), (), (), ()))))
  else
  (bif (decide ((r4.1.1.term_ : Int) ≠ 9)) then
  some (.inl ((a.1.1, a.1.2.1, (), (), r8.1.1, (IntKind.i64.wrap (a.1.2.2.2.2.2.1 + 1)), ()), (a.2.1, (r8.2.1.1, r8.2.1.2.1, r8.2.1.2.2.1, r8.2.1.2.2.2.1, r8.2.1.2.2.2.2.1, r8.2.1.2.2.2.2.2.1, r8.2.1.2.2.2.2.2.2.1, ()), (), ())))
  else
  some (.inl ((a.1.1, a.1.2.1, (), (), a.1.2.2.2.2.1, (IntKind.i64.wrap (a.1.2.2.2.2.2.1 + 1)), ()), (a.2.1, (r8.2.1.1, r8.2.1.2.1, r8.2.1.2.2.1, r8.2.1.2.2.2.1, r8.2.1.2.2.2.2.1, r8.2.1.2.2.2.2.2.1, r8.2.1.2.2.2.2.2.2.1, ()), (), ()))))))
  else
  (bif (decide (((a.1.1.length : Int) : Int) < r8.1.1)) then
  some (.inr (.inl ((false, ()), (a.2.1, (r8.2.1.1, r8.2.1.2.1, r8.2.1.2.2.1, r8.2.1.2.2.2.1, r8.2.1.2.2.2.2.1, r8.2.1.2.2.2.2.2.1, r8.2.1.2.2.2.2.2.2.1, ()), (), (), ()))))
  else
  (bif (decide ((r4.1.1.term_ : Int) ≠ 9)) then
  some (.inl ((a.1.1, a.1.2.1, (), (), r8.1.1, (IntKind.i64.wrap (a.1.2.2.2.2.2.1 + 1)), ()), (a.2.1, (r8.2.1.1, r8.2.1.2.1, r8.2.1.2.2.1, r8.2.1.2.2.2.1, r8.2.1.2.2.2.2.1, r8.2.1.2.2.2.2.2.1, r8.2.1.2.2.2.2.2.2.1, ()), (), ())))
  else
  some (.inl ((a.1.1, a.1.2.1, (), (), a.1.2.2.2.2.1, (IntKind.i64.wrap (a.1.2.2.2.2.2.1 + 1)), ()), (a.2.1, (r8.2.1.1, r8.2.1.2.1, r8.2.1.2.2.1, r8.2.1.2.2.2.1, r8.2.1.2.2.2.2.1, r8.2.1.2.2.2.2.2.1, r8.2.1.2.2.2.2.2.2.1, ()), (), ()))))))
  else
  (bif (decide (((a.1.1.length : Int) : Int) < r8.1.1)) then
  some (.inr (.inl ((false, ()), (a.2.1, (r8.2.1.1, r8.2.1.2.1, r8.2.1.2.2.1, r8.2.1.2.2.2.1, r8.2.1.2.2.2.2.1, r8.2.1.2.2.2.2.2.1, r8.2.1.2.2.2.2.2.2.1, ()), (), (), ()))))
  else
  (bif (decide ((r4.1.1.term_ : Int) ≠ 9)) then
  some (.inl ((a.1.1, a.1.2.1, (), (), r8.1.1, (IntKind.i64.wrap (a.1.2.2.2.2.2.1 + 1)), ()), (a.2.1, (r8.2.1.1, r8.2.1.2.1, r8.2.1.2.2.1, r8.2.1.2.2.2.1, r8.2.1.2.2.2.2.1, r8.2.1.2.2.2.2.2.1, r8.2.1.2.2.2.2.2.2.1, ()), (), ())))
  else
  some (.inl ((a.1.1, a.1.2.1, (), (), a.1.2.2.2.2.1, (IntKind.i64.wrap (a.1.2.2.2.2.2.1 + 1)), ()), (a.2.1, (r8.2.1.1, r8.2.1.2.1, r8.2.1.2.2.1, r8.2.1.2.2.2.1, r8.2.1.2.2.2.2.1, r8.2.1.2.2.2.2.2.1, r8.2.1.2.2.2.2.2.2.1, ()), (), ()))))))))
  else
  (ferry_Take r4.1.1 (a.2.2.1.1, a.2.2.1.2.1, a.2.2.1.2.2.1, a.2.2.1.2.2.2.1, a.2.2.1.2.2.2.2.1, a.2.2.1.2.2.2.2.2.1, a.2.2.1.2.2.2.2.2.2.1, ())).bind fun r10 =>
  (bif r10.1.2.1 then
  (bif (decide ((r10.1.1 : Int) ≠ (a.1.1.length : Int))) then
  some (.inr (.inl ((false, ()), (a.2.1, (r10.2.1.1, r10.2.1.2.1, r10.2.1.2.2.1, r10.2.1.2.2.2.1, r10.2.1.2.2.2.2.1, r10.2.1.2.2.2.2.2.1, r10.2.1.2.2.2.2.2.2.1, ()), (), (), ()))))
  else
  (watershedkit_SameImage r10.1.2.2.1 a.2.1).bind fun r11 =>
  (bif (!r11.1) then
  some (.inr (.inl ((false, ()), (a.2.1, (r10.2.1.1, r10.2.1.2.1, r10.2.1.2.2.1, r10.2.1.2.2.2.1, r10.2.1.2.2.2.2.1, r10.2.1.2.2.2.2.2.1, r10.2.1.2.2.2.2.2.2.1, ()), (), (), ()))))
  else
  some (.inl ((a.1.1, a.1.2.1, (), (), 0, (IntKind.i64.wrap (a.1.2.2.2.2.2.1 + 1)), ()), (a.2.1, (r10.2.1.1, r10.2.1.2.1, r10.2.1.2.2.1, r10.2.1.2.2.2.1, r10.2.1.2.2.2.2.1, r10.2.1.2.2.2.2.2.1, r10.2.1.2.2.2.2.2.2.1, ()), (), ())))))
  else
  (bif (decide ((r4.1.1.term_ : Int) ≠ 9)) then
  (bif (decide ((r10.1.1 : Int) < a.1.2.2.2.2.1)) then
  (bif (decide ((0 : Int) < r2.1)) then
  (bif (decide ((0 : Int) < a.1.2.2.2.2.1)) then
  some (.inr (.inl ((false, ()), (a.2.1, (r10.2.1.1, r10.2.1.2.1, r10.2.1.2.2.1, r10.2.1.2.2.2.1, r10.2.1.2.2.2.2.1, r10.2.1.2.2.2.2.2.1, r10.2.1.2.2.2.2.2.2.1, ()), (), (), ()))))
  else
  (bif (decide (((a.1.1.length : Int) : Int) < r10.1.1)) then
  some (.inr (.inl ((false, ()), (a.2.1, (r10.2.1.1, r10.2.1.2.1, r10.2.1.2.2.1, r10.2.1.2.2.2.1, r10.2.1.2.2.2.2.1, r10.2.1.2.2.2.2.2.1, r10.2.1.2.2.2.2.2.2.1, ()), (), (), ()))))
  else
  (bif (decide ((r4.1.1.term_ : Int) ≠ 9)) then
  some (.inl ((a.1.1, a.1.2.1, (), (), r10.1.1, (IntKind.i64.wrap (a.1.2.2.2.2.2.1 + 1)), ()), (a.2.1, (r10.2.1.1, r10.2.1.2.1, r10.2.1.2.2.1, r10.2.1.2.2.2.1, r10.2.1.2.2.2.2.1, r10.2.1.2.2.2.2.2.1, r10.2.1.2.2.2.2.2.2.1, ()), (), ())))
  else
  some (.inl ((a.1.1, a.1.2.1, (), (), a.1.2.2.2.2.1, (IntKind.i64.wrap (a.1.2.2.2.2.2.1 + 1)), ()), (a.2.1, (r10.2.1.1, r10.2.1.2.1, r10.2.1.2.2.1, r10.2.1.2.2.2.1, r10.2.1.2.2.2.2.1, r10.2.1.2.2.2.2.2.1, r10.2.1.2.2.2.2.2.2.1, ()), (), ()))))))
  else
  (bif (decide (((a.1.1.length : Int) : Int) < r10.1.1)) then
  some (.inr (.inl ((false, ()), (a.2.1, (r10.2.1.1, r10.2.1.2.1, r10.2.1.2.2.1, r10.2.1.2.2.2.1, r10.2.1.2.2.2.2.1, r10.2.1.2.2.2.2.2.1, r10.2.1.2.2.2.2.2.2.1, ()), (), (), ()))))
  else
  (bif (decide ((r4.1.1.term_ : Int) ≠ 9)) then
  some (.inl ((a.1.1, a.1.2.1, (), (), r10.1.1, (IntKind.i64.wrap (a.1.2.2.2.2.2.1 + 1)), ()), (a.2.1, (r10.2.1.1, r10.2.1.2.1, r10.2.1.2.2.1, r10.2.1.2.2.2.1, r10.2.1.2.2.2.2.1, r10.2.1.2.2.2.2.2.1, r10.2.1.2.2.2.2.2.2.1, ()), (), ())))
  else
  some (.inl ((a.1.1, a.1.2.1, (), (), a.1.2.2.2.2.1, (IntKind.i64.wrap (a.1.2.2.2.2.2.1 + 1)), ()), (a.2.1, (r10.2.1.1, r10.2.1.2.1, r10.2.1.2.2.1, r10.2.1.2.2.2.1, r10.2.1.2.2.2.2.1, r10.2.1.2.2.2.2.2.1, r10.2.1.2.2.2.2.2.2.1, ()), (), ()))))))
  else
  (bif (decide (((a.1.1.length : Int) : Int) < r10.1.1)) then
  some (.inr (.inl ((false, ()), (a.2.1, (r10.2.1.1, r10.2.1.2.1, r10.2.1.2.2.1, r10.2.1.2.2.2.1, r10.2.1.2.2.2.2.1, r10.2.1.2.2.2.2.2.1, r10.2.1.2.2.2.2.2.2.1, ()), (), (), ()))))
  else
  (bif (decide ((r4.1.1.term_ : Int) ≠ 9)) then
  some (.inl ((a.1.1, a.1.2.1, (), (), r10.1.1, (IntKind.i64.wrap (a.1.2.2.2.2.2.1 + 1)), ()), (a.2.1, (r10.2.1.1, r10.2.1.2.1, r10.2.1.2.2.1, r10.2.1.2.2.2.1, r10.2.1.2.2.2.2.1, r10.2.1.2.2.2.2.2.1, r10.2.1.2.2.2.2.2.2.1, ()), (), ())))
  else
  some (.inl ((a.1.1, a.1.2.1, (), (), a.1.2.2.2.2.1, (IntKind.i64.wrap (a.1.2.2.2.2.2.1 + 1)), ()), (a.2.1, (r10.2.1.1, r10.2.1.2.1, r10.2.1.2.2.1, r10.2.1.2.2.2.1, r10.2.1.2.2.2.2.1, r10.2.1.2.2.2.2.2.1, r10.2.1.2.2.2.2.2.2.1, ()), (), ()))))))
  else
  (bif (decide (((a.1.1.length : Int) : Int) < r10.1.1)) then
  some (.inr (.inl ((false, ()), (a.2.1, (r10.2.1.1, r10.2.1.2.1, r10.2.1.2.2.1, r10.2.1.2.2.2.1, r10.2.1.2.2.2.2.1, r10.2.1.2.2.2.2.2.1, r10.2.1.2.2.2.2.2.2.1, ()), (), (), ()))))
  else
  (bif (decide ((r4.1.1.term_ : Int) ≠ 9)) then
  some (.inl ((a.1.1, a.1.2.1, (), (), r10.1.1, (IntKind.i64.wrap (a.1.2.2.2.2.2.1 + 1)), ()), (a.2.1, (r10.2.1.1, r10.2.1.2.1, r10.2.1.2.2.1, r10.2.1.2.2.2.1, r10.2.1.2.2.2.2.1, r10.2.1.2.2.2.2.2.1, r10.2.1.2.2.2.2.2.2.1, ()), (), ())))
  else
  some (.inl ((a.1.1, a.1.2.1, (), (), a.1.2.2.2.2.1, (IntKind.i64.wrap (a.1.2.2.2.2.2.1 + 1)), ()), (a.2.1, (r10.2.1.1, r10.2.1.2.1, r10.2.1.2.2.1, r10.2.1.2.2.2.1, r10.2.1.2.2.2.2.1, r10.2.1.2.2.2.2.2.1, r10.2.1.2.2.2.2.2.2.1, ()), (), ())))))))))
  else
  some (.inr (.inr ((a.1.1, (), (), ()), (a.2.1, (a.2.2.1.1, a.2.2.1.2.1, a.2.2.1.2.2.1, a.2.2.1.2.2.2.1, a.2.2.1.2.2.2.2.1, a.2.2.1.2.2.2.2.2.1, a.2.2.1.2.2.2.2.2.2.1, ()), (), (), ())))))
noncomputable def watershedlaw13_FerryCrosses_e1 : LE CT Try.prog := ⟨9, [0, 2, 7, 8, 9, 10], [.one (.sl 1), .one (.sl 0), .one (.ptr 0 0), .one (.ptr 1 0), .one (.int .i64), .one (.int .i64)], [.cobj 33 8, .obj 56 [.int .i64, .int .i64, .int .i64, .int .i64, .bool, .bool, .own 1 2], .row 5 1], [⟨.ret, [6], [.one (.bool)], [.cobj 33 8, .obj 56 [.int .i64, .int .i64, .int .i64, .int .i64, .bool, .bool, .own 1 3], .dead, .row 5 1]⟩, ⟨.exit 0, [0, 7, 8], [.one (.sl 1), .one (.ptr 0 0), .one (.ptr 1 0)], [.cobj 33 8, .obj 56 [.int .i64, .int .i64, .int .i64, .int .i64, .bool, .bool, .own 1 3], .dead, .row 5 1]⟩], watershedlaw13_FerryCrosses_l1⟩
noncomputable def watershedlaw13_FerryCrosses_l2 (a : ((List (UInt8)) × (Unit) × (Unit) × (Int) × (Int) × Unit) × ((DImage) × ((Int) × (Int) × (Int) × (Int) × (Bool) × (Bool) × (List (UInt8)) × Unit) × (Unit) × Unit)) : Option ((((List (UInt8)) × (Unit) × (Unit) × (Int) × (Int) × Unit) × ((DImage) × ((Int) × (Int) × (Int) × (Int) × (Bool) × (Bool) × (List (UInt8)) × Unit) × (Unit) × Unit)) ⊕ ((((Bool) × Unit) × ((DImage) × ((Int) × (Int) × (Int) × (Int) × (Bool) × (Bool) × (List (UInt8)) × Unit) × (Unit) × (Unit) × Unit)) ⊕ ((Unit) × ((DImage) × ((Int) × (Int) × (Int) × (Int) × (Bool) × (Bool) × (List (UInt8)) × Unit) × (Unit) × (Unit) × Unit)))) :=
  (bif (decide ((a.1.2.2.2.2.1 : Int) ≤ (IntKind.i64.wrap ((IntKind.i64.wrap (((a.1.1.length : Int) : Int).tdiv 600)) + 1)))) then
  (watershedlaw13_asks a.2.1 a.1.2.2.2.1).bind fun r1 =>
  (ferry_Fill r1.1 a.2.1).bind fun r2 =>
  (ferry_Take r2.1.1 (a.2.2.1.1, a.2.2.1.2.1, a.2.2.1.2.2.1, a.2.2.1.2.2.2.1, a.2.2.1.2.2.2.2.1, a.2.2.1.2.2.2.2.2.1, a.2.2.1.2.2.2.2.2.2.1, ())).bind fun r3 =>
  (bif (!r2.1.2.1) then
  some (.inr (.inl ((false, ()), (a.2.1, (r3.2.1.1, r3.2.1.2.1, r3.2.1.2.2.1, r3.2.1.2.2.2.1, r3.2.1.2.2.2.2.1, r3.2.1.2.2.2.2.2.1, r3.2.1.2.2.2.2.2.2.1, ()), (), (), ()))))
  else
  let y4 : Int := (if ((a.1.1.length : Int) : Int) < (IntKind.i64.wrap (a.1.2.2.2.1 + 600)) then (a.1.1.length : Int) else (IntKind.i64.wrap (a.1.2.2.2.1 + 600)))
  (bif (decide ((r3.1.1 : Int) ≠ y4)) then
  some (.inr (.inl ((false, ()), (a.2.1, (r3.2.1.1, r3.2.1.2.1, r3.2.1.2.2.1, r3.2.1.2.2.2.1, r3.2.1.2.2.2.2.1, r3.2.1.2.2.2.2.2.1, r3.2.1.2.2.2.2.2.2.1, ()), (), (), ()))))
  else
  (bif r3.1.2.1 then
  (watershedkit_SameImage r3.1.2.2.1 a.2.1).bind fun r5 =>
  some (.inr (.inl ((r5.1, ()), (a.2.1, (r3.2.1.1, r3.2.1.2.1, r3.2.1.2.2.1, r3.2.1.2.2.2.1, r3.2.1.2.2.2.2.1, r3.2.1.2.2.2.2.2.1, r3.2.1.2.2.2.2.2.2.1, ()), (), (), ()))))
  else
  some (.inl ((a.1.1, (), (), r3.1.1, (IntKind.i64.wrap (a.1.2.2.2.2.1 + 1)), ()), (a.2.1, (r3.2.1.1, r3.2.1.2.1, r3.2.1.2.2.1, r3.2.1.2.2.2.1, r3.2.1.2.2.2.2.1, r3.2.1.2.2.2.2.2.1, r3.2.1.2.2.2.2.2.2.1, ()), (), ()))))))
  else
  some (.inr (.inr ((), (a.2.1, (a.2.2.1.1, a.2.2.1.2.1, a.2.2.1.2.2.1, a.2.2.1.2.2.2.1, a.2.2.1.2.2.2.2.1, a.2.2.1.2.2.2.2.2.1, a.2.2.1.2.2.2.2.2.2.1, ()), (), (), ())))))
noncomputable def watershedlaw13_FerryCrosses_e2 : LE CT Try.prog := ⟨29, [0, 7, 8, 17, 18], [.one (.sl 1), .one (.ptr 0 0), .one (.ptr 1 0), .one (.int .i64), .one (.int .i64)], [.cobj 33 8, .obj 56 [.int .i64, .int .i64, .int .i64, .int .i64, .bool, .bool, .own 1 2], .row 5 1], [⟨.ret, [6], [.one (.bool)], [.cobj 33 8, .obj 56 [.int .i64, .int .i64, .int .i64, .int .i64, .bool, .bool, .own 1 3], .dead, .row 5 1]⟩, ⟨.exit 2, [], [], [.cobj 33 8, .obj 56 [.int .i64, .int .i64, .int .i64, .int .i64, .bool, .bool, .own 1 3], .dead, .row 5 1]⟩], watershedlaw13_FerryCrosses_l2⟩
noncomputable def watershedlaw13_FerryCrosses_lt : List (LE CT Try.prog) := [watershedlaw13_FerryCrosses_e1, watershedlaw13_FerryCrosses_e2]
theorem watershedlaw13_FerryCrosses_e1_ok : LeOk watershedlaw13_FerryCrosses_e1 (nthL (bodyOf Try.f6) 0) := fun A env h k z hk => le_ok (E := watershedlaw13_FerryCrosses_e1) (orcOf_ok watershedlaw13_FerryCrosses_tb) (dr := watershedlaw13_FerryCrosses_dr) (lps := lpsOf watershedlaw13_FerryCrosses_lt) (no_loop (by kernel_rfl)) (fun a => by kernel_rfl) env h k z hk
theorem watershedlaw13_FerryCrosses_e2_ok : LeOk watershedlaw13_FerryCrosses_e2 (nthL (bodyOf Try.f6) 1) := fun A env h k z hk => le_ok (E := watershedlaw13_FerryCrosses_e2) (orcOf_ok watershedlaw13_FerryCrosses_tb) (dr := watershedlaw13_FerryCrosses_dr) (lps := lpsOf watershedlaw13_FerryCrosses_lt) (no_loop (by kernel_rfl)) (fun a => by kernel_rfl) env h k z hk
noncomputable def watershedlaw13_FerryCrosses (x0 : List (UInt8)) (x1 : DBase) (x2 : List (Int)) : Option ((Bool) × (Unit)) :=
  (watershedlaw13_awake).bind fun r1 =>
  (bif (!r1.1) then
  some (false, ())
  else
  (bif (decide ((4000 : Int) < (x0.length : Int))) then
  some (true, ())
  else
  (bif (decide ((40 : Int) < (x2.length : Int))) then
  some (true, ())
  else
  (watershedkit_ConfigOf x1.config).bind fun r2 =>
  (bif (decide ((40 : Int) < r2.1)) then
  some (true, ())
  else
  (ferry_New).bind fun r3 =>
  (loopM watershedlaw13_FerryCrosses_l1 ((x0, x2, (), (), 0, 0, ()), ((⟨x1, x0⟩ : DImage), (r3.2.1.1, r3.2.1.2.1, r3.2.1.2.2.1, r3.2.1.2.2.2.1, r3.2.1.2.2.2.2.1, r3.2.1.2.2.2.2.2.1, r3.2.1.2.2.2.2.2.2.1, ()), (), ()))).bind fun b4 =>
  (match b4 with
  | .inl b5 =>
  some (b5.1.1, ())
  | .inr b6 =>
  (ferry_Drop (b6.2.2.1.1, b6.2.2.1.2.1, b6.2.2.1.2.2.1, b6.2.2.1.2.2.2.1, b6.2.2.1.2.2.2.2.1, b6.2.2.1.2.2.2.2.2.1, b6.2.2.1.2.2.2.2.2.2.1, ())).bind fun r7 =>
  (loopM watershedlaw13_FerryCrosses_l2 ((b6.1.1, (), (), 0, 0, ()), (b6.2.1, (r7.2.1.1, r7.2.1.2.1, r7.2.1.2.2.1, r7.2.1.2.2.2.1, r7.2.1.2.2.2.2.1, r7.2.1.2.2.2.2.2.1, r7.2.1.2.2.2.2.2.2.1, ()), (), ()))).bind fun b8 =>
  (match b8 with
  | .inl b9 =>
  some (b9.1.1, ())
  | .inr b10 =>
  some (false, ())))))))
noncomputable def watershedlaw13_FerryCrosses_ce : CE CT Try.prog where
  f := 6
  args := [.one (.sl 1), .cod 5, .one (.sl 0)]
  hs := []
  res := .val (.one (.bool))
  outs := []
  m := fun d dh => watershedlaw13_FerryCrosses d.1 d.2.1 d.2.2.1
  ok := ce_ok mixedP Try.func6 (by kernel_rfl) (orcOf_ok watershedlaw13_FerryCrosses_tb) (dr := watershedlaw13_FerryCrosses_dr) (lps := lpsOf watershedlaw13_FerryCrosses_lt) (lps_fn (lps_of (n := 2) (by kernel_rfl) fun i hi => match i, hi with | 0, _ => lp_ok (E := watershedlaw13_FerryCrosses_e1) (by kernel_rfl) watershedlaw13_FerryCrosses_e1_ok | 1, _ => lp_ok (E := watershedlaw13_FerryCrosses_e2) (by kernel_rfl) watershedlaw13_FerryCrosses_e2_ok)) (fun d dh => by kernel_rfl)
end Go.Proofs.Ytlaehnldaejipaa
