/- Models, by program. -/
import Derived.Test.YtlaehnldaejipaaOi
import Derived.Test.YtlaehnldaejipaaOb
import Derived.Test.YtlaehnldaejipaaOa
import Derived.Test.YtlaehnldaejipaaTw
import Derived.Test.YtlaehnldaejipaaFx
import Derived.Test.YtlaehnldaejipaaCl
namespace Go.Proofs.Ytlaehnldaejipaa
noncomputable section
open Go.RowKit
set_option maxRecDepth 100000
set_option linter.unusedVariables false
def wk_OverInts_v (n : Nat) (xs : LI) : Option (Unit × (LI × Unit)) := if n ≤ 1000000 then some ((), ([], ())) else none
def wk_OverInts_v_ce : CEp where
  f := 69
  args := [.one (.asz 0 0)]
  hs := [.arr 3 0 true]
  res := .tup []
  outs := [.arr 3 0 true]
  m := fun d dh => wk_OverInts_v d.1 dh.1
  ok := fun d dh r hr => by
    unfold wk_OverInts_v at hr
    split at hr
    · rename_i hn
      injection hr with hr
      subst hr
      exact Tr.overA (S := 10) rfl (fun _ => ⟨rfl, fun zs => ⟨zs, rfl⟩⟩) (fun _ => ⟨rfl, fun zs => ⟨zs, rfl⟩⟩) (fun c h1 h2 h3 => by
        obtain ⟨ys, hy⟩ := wk_OverInts_all d.1 c h1 h2 hn
        exact ⟨ys, wk_OverInts_ce.ok ((0, d.1, c), ()) ([], ()) _ hy⟩)
    · cases hr

def wk_OverBytes_v (n : Nat) (xs : LB) : Option (Unit × (LB × Unit)) := if n ≤ 1000000 then some ((), ([], ())) else none
def wk_OverBytes_v_ce : CEp where
  f := 42
  args := [.one (.asz 1 0)]
  hs := [.arr 5 1 true]
  res := .tup []
  outs := [.arr 5 1 true]
  m := fun d dh => wk_OverBytes_v d.1 dh.1
  ok := fun d dh r hr => by
    unfold wk_OverBytes_v at hr
    split at hr
    · rename_i hn
      injection hr with hr
      subst hr
      exact Tr.overA (S := 11) rfl (fun _ => ⟨rfl, fun zs => ⟨zs, rfl⟩⟩) (fun _ => ⟨rfl, fun zs => ⟨zs, rfl⟩⟩) (fun c h1 h2 h3 => by
        obtain ⟨ys, hy⟩ := wk_OverBytes_all d.1 c h1 h2 hn
        exact ⟨ys, wk_OverBytes_ce.ok ((0, d.1, c), ()) ([], ()) _ hy⟩)
    · cases hr

def wl_plain_tb : List (CEp) := []
def wl_plain_l1 (a : (Int × Unit × Unit × Int × Unit) × ((Int × Int × LI × LI × LI × LI × LB × Unit) × (Int × Int × LI × LI × LI × LI × LB × Unit) × Unit × Unit × Unit × Unit × Unit × Unit × Unit × Unit × Unit × Unit × Unit)) : Option (((Int × Unit × Unit × Int × Unit) × ((Int × Int × LI × LI × LI × LI × LB × Unit) × (Int × Int × LI × LI × LI × LI × LB × Unit) × Unit × Unit × Unit × Unit × Unit × Unit × Unit × Unit × Unit × Unit × Unit)) ⊕ (((Unit × Unit × Unit) × ((Int × Int × LI × LI × LI × LI × LB × Unit) × (Int × Int × LI × LI × LI × LI × LB × Unit) × Unit × Unit × Unit × Unit × Unit × Unit × Unit × Unit × Unit × Unit × Unit × Unit × Unit × Unit × Unit × Unit × Unit × Unit × Unit × Unit × Unit)))) :=
  (bif (decide ((a.1.2.2.2.1 : Int) < a.1.1)) then
  (b8 (IntKind.u8.wrap (IntKind.i64.wrap (a.1.2.2.2.1 * 7)))).bind fun u1 =>
  (if a.2.2.1.2.2.2.2.2.2.1.length + ([u1] : LB).length ≤ 140737488355328 ∧ (a.2.2.1.2.2.2.2.2.2.1.length + ([u1] : LB).length) * 1 ≤ 140737488355328 then
  some (.inl ((a.1.1, (), (), (IntKind.i64.wrap (a.1.2.2.2.1 + 1)), ()), ((a.2.1.1, a.2.1.2.1, a.2.1.2.2.1, a.2.1.2.2.2.1, a.2.1.2.2.2.2.1, a.2.1.2.2.2.2.2.1, a.2.1.2.2.2.2.2.2.1, ()), (a.2.2.1.1, a.2.2.1.2.1, a.2.2.1.2.2.1, a.2.2.1.2.2.2.1, a.2.2.1.2.2.2.2.1, a.2.2.1.2.2.2.2.2.1, (a.2.2.1.2.2.2.2.2.2.1 ++ ([u1] : LB)), ()), (), (), (), (), (), (), (), (), (), (), ())))
  else none)
  else
  some (.inr (((), (), ()), ((a.2.1.1, a.2.1.2.1, a.2.1.2.2.1, a.2.1.2.2.2.1, a.2.1.2.2.2.2.1, a.2.1.2.2.2.2.2.1, a.2.1.2.2.2.2.2.2.1, ()), (a.2.2.1.1, a.2.2.1.2.1, a.2.2.1.2.2.1, a.2.2.1.2.2.2.1, a.2.2.1.2.2.2.2.1, a.2.2.1.2.2.2.2.2.1, a.2.2.1.2.2.2.2.2.2.1, ()), (), (), (), (), (), (), (), (), (), (), (), (), (), (), (), (), (), (), (), (), ()))))
def wl_plain_e1 : LEp := ⟨3, [0, 2, 3, 4], [.one (.int .i64), .one (.ptr 0 0), .one (.ptr 1 0), .one (.int .i64)], [.obj 33 [.int .i64, .int .i64, .own 0 2, .own 0 3, .own 0 4, .own 0 5, .own 1 6], .obj 33 [.int .i64, .int .i64, .own 0 7, .own 0 8, .own 0 9, .own 0 10, .own 1 11], .row 3 1, .row 3 1, .row 3 1, .row 3 1, .row 5 1, .row 3 1, .row 3 1, .row 3 1, .row 3 1, .row 5 1], [⟨.exit 0, [2, 3], [.one (.ptr 0 0), .one (.ptr 1 0)], [.obj 33 [.int .i64, .int .i64, .own 0 12, .own 0 13, .own 0 14, .own 0 15, .own 1 16], .obj 33 [.int .i64, .int .i64, .own 0 17, .own 0 18, .own 0 19, .own 0 20, .own 1 21], .dead, .dead, .dead, .dead, .dead, .dead, .dead, .dead, .dead, .dead, .row 3 1, .row 3 1, .row 3 1, .row 3 1, .row 5 1, .row 3 1, .row 3 1, .row 3 1, .row 3 1, .row 5 1]⟩], wl_plain_l1⟩
def wl_plain_lt : List (LEp) := [wl_plain_e1]
theorem wl_plain_e1_ok : LeOk wl_plain_e1 (nthL (bodyOf Try.f26) 0) := fun A env h k z hk => le_ok (E := wl_plain_e1) (orcOf_ok wl_plain_tb) (dr := dr0) (lps := lpsOf wl_plain_lt) (no_loop (by kernel_rfl)) (fun a => by kernel_rfl) env h k z hk
def wl_plain (x0 : Int) : Option ((DImage) × Unit) :=
  (loopM wl_plain_l1 ((x0, (), (), 0, ()), ((0, 0, [], [], [], [], [], ()), (3, 2, [], [], [], [], [], ()), (), (), (), (), (), (), (), (), (), (), ()))).bind fun b1 =>
  some ((⟨(⟨b1.2.2.1.1, b1.2.2.1.2.1, (⟨b1.2.2.1.2.2.1, b1.2.2.1.2.2.2.1, b1.2.2.1.2.2.2.2.1, b1.2.2.1.2.2.2.2.2.1⟩ : DConfig)⟩ : DBase), b1.2.2.1.2.2.2.2.2.2.1⟩ : DImage), ())
def wl_plain_ce : CEp where
  f := 26
  args := [.one (.int .i64)]
  hs := []
  res := .val (.cod 16)
  outs := []
  m := fun d dh => wl_plain d.1
  ok := ce_ok mixedP Try.func26 (by kernel_rfl) (orcOf_ok wl_plain_tb) (dr := dr0) (lps := lpsOf wl_plain_lt) (lps_fn (lps_of (n := 1) (by kernel_rfl) fun i hi => match i, hi with | 0, _ => lp_ok (E := wl_plain_e1) (by kernel_rfl) wl_plain_e1_ok)) (fun d dh => by kernel_rfl)

def wl_asks_tb : List (CEp) := []
def wl_asks (x0 : DImage) (x1 : Int) : Option ((DLetter) × Unit) :=
  some ((⟨5, 0, 1, 2, 4, 0, 0, 0, false, [], x0.base, 0, x1, 0, []⟩ : DLetter), ())
def wl_asks_ce : CEp where
  f := 27
  args := [.cod 16, .one (.int .i64)]
  hs := []
  res := .val (.cod 20)
  outs := []
  m := fun d dh => wl_asks d.1 d.2.1
  ok := ceO Try.func27 (by kernel_rfl) wl_asks_tb (by kernel_rfl) fun d dh => by kernel_rfl

def cloneE54 (x0 : LI) : Option (Nat × (LI × Unit)) :=
  if x0.length ≤ 140737488355328 ∧ x0.length * 8 ≤ 140737488355328 then some (x0.length, (x0, ())) else none
def cloneE54_ce : CEp where
  f := 54
  args := [.one (.sl 0)]
  hs := []
  res := .val (.one (.asz 0 0))
  outs := [.arr 3 0 false]
  m := fun d dh => cloneE54 d.1
  ok := fun d dh r hr => by
    unfold cloneE54 at hr
    split at hr
    · rename_i hc
      injection hr with hr
      subst hr
      have hroom := hc
      exact Tr.kp0 (cloneE_tr mixedP Try.func54 (by kernel_rfl) rfl rfl (zv := .int .i64 0) (he := by kernel_rfl) (hsz := by kernel_rfl) (hz := by kernel_rfl) (hby := by kernel_rfl) rfl rfl (zt := (0 : Int)) d.1 (by kernel_rfl) hroom)
    · cases hr

def ferry_own_dr : Nat → Nat → DrA
  | 2, _ => ⟨[0, 3, 6, 9, 1, 4, 7, 10, 2, 5, 8, 11, 12, 13, 14], [[], [0], [0, 1], [], [3], (List.range 5), [], [6], (List.range 8), [], [9], (List.range 11), (List.range 12), (List.range 13), (List.range 14)], [4, 7, 10], [2, 5, 8], [2], false, []⟩
  | _, _ => ⟨[], [], [], [], [], false, []⟩
def ferry_own_tb : List (CEp) := [cloneE54_ce]
def ferry_own (x0 : DBase) : Option ((Int × Int × Nat × Nat × Nat × Nat × Unit) × (LI × LI × LI × LI × Unit)) :=
  (cloneE54 x0.config.voters).bind fun r1 =>
  (cloneE54 x0.config.old).bind fun r2 =>
  (cloneE54 x0.config.learners).bind fun r3 =>
  (cloneE54 x0.config.want).bind fun r4 =>
  some ((x0.index, x0.term_, r1.1, r2.1, r3.1, r4.1, ()), (r1.2.1, r2.2.1, r3.2.1, r4.2.1, ()))
def ferry_own_ce : CEp where
  f := 33
  args := [.cod 14]
  hs := []
  res := .val (.agg [.int .i64, .int .i64, .asz 0 0, .asz 0 1, .asz 0 2, .asz 0 3])
  outs := [.arr 3 0 false, .arr 3 0 false, .arr 3 0 false, .arr 3 0 false]
  m := fun d dh => ferry_own d.1
  ok := ce_ok mixedP Try.func33 (by kernel_rfl) (orcOf_ok ferry_own_tb) (dr := ferry_own_dr) (lps := lpsOf lt0) (lps_fn (no_loop (by kernel_rfl))) (fun d dh => by kernel_rfl)

def cloneE34 (x0 : LB) : Option (Nat × (LB × Unit)) :=
  if x0.length ≤ 140737488355328 ∧ x0.length * 1 ≤ 140737488355328 then some (x0.length, (x0, ())) else none
def cloneE34_ce : CEp where
  f := 34
  args := [.one (.sl 1)]
  hs := []
  res := .val (.one (.asz 1 0))
  outs := [.arr 5 1 false]
  m := fun d dh => cloneE34 d.1
  ok := fun d dh r hr => by
    unfold cloneE34 at hr
    split at hr
    · rename_i hc
      injection hr with hr
      subst hr
      have hroom := hc
      exact Tr.kp0 (cloneE_tr mixedP Try.func34 (by kernel_rfl) rfl rfl (zv := .int .u8 0) (he := by kernel_rfl) (hsz := by kernel_rfl) (hz := by kernel_rfl) (hby := by kernel_rfl) rfl rfl (zt := (0 : UInt8)) d.1 (by kernel_rfl) hroom)
    · cases hr

def ferry_Fill_dr : Nat → Nat → DrA
  | 3, _ => ⟨[0, 3, 1, 4, 5, 2, 6, 7, 8, 9], [[], [0], [0, 1], [], [3], [3, 4], [0, 1, 2], [0, 1, 2, 6], (List.range 8), (List.range 9)], [4], [2, 7], [1], false, []⟩
  | _, _ => ⟨[], [], [], [], [], false, []⟩
def ferry_Fill_tb : List (CEp) := [ferry_own_ce, cloneE34_ce]
def ferry_Fill (x0 : DLetter) (x1 : DImage) : Option (((Int × Int × Int × Int × Int × Int × Int × Int × Bool × Unit × Int × Int × Nat × Nat × Nat × Nat × Int × Int × Int × Nat × Unit) × Bool × Unit) × (LI × LI × LI × LI × LB × Unit)) :=
  (bif (decide ((x0.kind : Int) ≠ 5)) then
  some (((0, 0, 0, 0, 0, 0, 0, 0, false, (), 0, 0, 0, 0, 0, 0, 0, 0, 0, 0, ()), false, ()), ([], [], [], [], [], ()))
  else
  (bif (decide ((x0.base.index : Int) ≠ x1.base.index)) then
  some (((0, 0, 0, 0, 0, 0, 0, 0, false, (), 0, 0, 0, 0, 0, 0, 0, 0, 0, 0, ()), false, ()), ([], [], [], [], [], ()))
  else
  (bif (decide ((x0.base.term_ : Int) ≠ x1.base.term_)) then
  some (((0, 0, 0, 0, 0, 0, 0, 0, false, (), 0, 0, 0, 0, 0, 0, 0, 0, 0, 0, ()), false, ()), ([], [], [], [], [], ()))
  else
  (bif (decide ((x0.at_ : Int) < 0)) then
  some (((0, 0, 0, 0, 0, 0, 0, 0, false, (), 0, 0, 0, 0, 0, 0, 0, 0, 0, 0, ()), false, ()), ([], [], [], [], [], ()))
  else
  (bif (decide (((x1.bytes.length : Int) : Int) < x0.at_)) then
  some (((0, 0, 0, 0, 0, 0, 0, 0, false, (), 0, 0, 0, 0, 0, 0, 0, 0, 0, 0, ()), false, ()), ([], [], [], [], [], ()))
  else
  (ferry_own x1.base).bind fun r1 =>
  let y2 : Int := (if ((x1.bytes.length : Int) : Int) < (IntKind.i64.wrap (x0.at_ + 600)) then (x1.bytes.length : Int) else (IntKind.i64.wrap (x0.at_ + 600)))
  (if 0 ≤ (x0.at_ : Int) ∧ (x0.at_ : Int) ≤ y2 ∧ y2 ≤ (x1.bytes.length : Int) then
  let y3 : LB := ((x1.bytes.drop (x0.at_ : Int).toNat).take ((y2 : Int).toNat - (x0.at_ : Int).toNat))
  (cloneE34 y3).bind fun r4 =>
  some (((x0.kind, x0.group, x0.from_, x0.to_, x0.term_, x0.index, x0.logTerm, x0.commit, x0.ok, (), r1.1.1, r1.1.2.1, r1.1.2.2.1, r1.1.2.2.2.1, r1.1.2.2.2.2.1, r1.1.2.2.2.2.2.1, (x1.bytes.length : Int), x0.at_, x0.tag, r4.1, ()), true, ()), (r1.2.1, r1.2.2.1, r1.2.2.2.1, r1.2.2.2.2.1, r4.2.1, ()))
  else none))))))
def ferry_Fill_ce : CEp where
  f := 12
  args := [.cod 20, .cod 16]
  hs := []
  res := .tup [.agg [.int .u8, .int .i64, .int .i64, .int .i64, .int .i64, .int .i64, .int .i64, .int .i64, .bool, .nil, .int .i64, .int .i64, .asz 0 0, .asz 0 1, .asz 0 2, .asz 0 3, .int .i64, .int .i64, .int .i64, .asz 1 4], .one (.bool)]
  outs := [.arr 3 0 false, .arr 3 0 false, .arr 3 0 false, .arr 3 0 false, .arr 5 1 false]
  m := fun d dh => ferry_Fill d.1 d.2.1
  ok := ce_ok mixedP Try.func12 (by kernel_rfl) (orcOf_ok ferry_Fill_tb) (dr := ferry_Fill_dr) (lps := lpsOf lt0) (lps_fn (no_loop (by kernel_rfl))) (fun d dh => by kernel_rfl)

def ferry_New_tb : List (CEp) := []
def ferry_New  : Option (Unit × ((Int × Int × Int × Int × Bool × Bool × Nat × Unit) × LB × Unit)) :=
  some ((), ((0, 0, 0, 0, true, false, 0, ()), [], ()))
def ferry_New_ce : CEp where
  f := 18
  args := []
  hs := []
  res := .val (.one (.ptr 0 0))
  outs := [.obj 56 [.int .i64, .int .i64, .int .i64, .int .i64, .bool, .bool, .asz 1 1], .arr 5 1 false]
  m := fun d dh => ferry_New
  ok := ceO Try.func18 (by kernel_rfl) ferry_New_tb (by kernel_rfl) fun d dh => by kernel_rfl

def ferry_right_tb : List (CEp) := []
def ferry_right (x0 : Int × Int × Int × Int × Int × Int × Int × Int × Bool × Unit × Int × Int × Nat × Nat × Nat × Nat × Int × Int × Int × Nat × Unit) (h0 : LI) (h1 : LI) (h2 : LI) (h3 : LI) (h4 : LB) : Option (Bool × (LI × LI × LI × LI × LB × Unit)) :=
  (bif (decide ((x0.1 : Int) = 5)) then
  (bif (decide ((0 : Int) ≤ x0.2.2.2.2.2.2.2.2.2.2.2.2.2.2.2.2.1)) then
  (bif (decide ((x0.2.2.2.2.2.2.2.2.2.2.2.2.2.2.2.2.1 : Int) ≤ 131072)) then
  (bif (decide ((0 : Int) ≤ x0.2.2.2.2.2.2.2.2.2.2.2.2.2.2.2.2.2.1)) then
  (bif (decide ((x0.2.2.2.2.2.2.2.2.2.2.2.2.2.2.2.2.2.1 : Int) ≤ x0.2.2.2.2.2.2.2.2.2.2.2.2.2.2.2.2.1)) then
  let y1 : Bool := (decide ((((x0.2.2.2.2.2.2.2.2.2.2.2.2.2.2.2.2.2.2.2.1 : Nat) : Int) : Int) ≤ (IntKind.i64.wrap (x0.2.2.2.2.2.2.2.2.2.2.2.2.2.2.2.2.1 - x0.2.2.2.2.2.2.2.2.2.2.2.2.2.2.2.2.2.1))))
  some (y1, (h0, h1, h2, h3, h4, ()))
  else
  some (false, (h0, h1, h2, h3, h4, ())))
  else
  some (false, (h0, h1, h2, h3, h4, ())))
  else
  some (false, (h0, h1, h2, h3, h4, ())))
  else
  some (false, (h0, h1, h2, h3, h4, ())))
  else
  some (false, (h0, h1, h2, h3, h4, ())))
def ferry_right_ce : CEp where
  f := 46
  args := [.agg [.int .u8, .int .i64, .int .i64, .int .i64, .int .i64, .int .i64, .int .i64, .int .i64, .bool, .nil, .int .i64, .int .i64, .asz 0 0, .asz 0 1, .asz 0 2, .asz 0 3, .int .i64, .int .i64, .int .i64, .asz 1 4]]
  hs := [.arr 3 0 true, .arr 3 0 true, .arr 3 0 true, .arr 3 0 true, .arr 5 1 true]
  res := .val (.one (.bool))
  outs := [.arr 3 0 true, .arr 3 0 true, .arr 3 0 true, .arr 3 0 true, .arr 5 1 true]
  m := fun d dh => ferry_right d.1 dh.1 dh.2.1 dh.2.2.1 dh.2.2.2.1 dh.2.2.2.2.1
  ok := ceO Try.func46 (by kernel_rfl) ferry_right_tb (by kernel_rfl) fun d dh => by kernel_rfl

def ferry_Drop_tb : List (CEp) := []
def ferry_Drop (h0 : Int × Int × Int × Int × Bool × Bool × Unit × Unit) : Option (Unit × ((Int × Int × Int × Int × Bool × Bool × Nat × Unit) × LB × Unit)) :=
  (bif h0.2.2.2.2.1 then
  some ((), ((0, 0, 0, 0, true, false, 0, ()), [], ()))
  else
  none)
def ferry_Drop_ce : CEp where
  f := 20
  args := [.one (.ptr 0 0)]
  hs := [.obj 56 [.int .i64, .int .i64, .int .i64, .int .i64, .bool, .bool, .junk]]
  res := .tup []
  outs := [.obj 56 [.int .i64, .int .i64, .int .i64, .int .i64, .bool, .bool, .asz 1 1], .arr 5 1 false]
  m := fun d dh => ferry_Drop dh.1
  ok := ceO Try.func20 (by kernel_rfl) ferry_Drop_tb (by kernel_rfl) fun d dh => by kernel_rfl

def ferry_of_tb : List (CEp) := []
def ferry_of (x0 : Int × Int × Int × Int × Int × Int × Int × Int × Bool × Unit × Int × Int × Nat × Nat × Nat × Nat × Int × Int × Int × Nat × Unit) (h0 : LI) (h1 : LI) (h2 : LI) (h3 : LI) (h4 : LB) : Option ((DCrossing) × (LI × LI × LI × LI × LB × Unit)) :=
  some ((⟨x0.2.2.2.2.1, x0.2.2.2.2.2.2.2.2.2.2.1, x0.2.2.2.2.2.2.2.2.2.2.2.1, x0.2.2.2.2.2.2.2.2.2.2.2.2.2.2.2.2.1⟩ : DCrossing), (h0, h1, h2, h3, h4, ()))
def ferry_of_ce : CEp where
  f := 47
  args := [.agg [.int .u8, .int .i64, .int .i64, .int .i64, .int .i64, .int .i64, .int .i64, .int .i64, .bool, .nil, .int .i64, .int .i64, .asz 0 0, .asz 0 1, .asz 0 2, .asz 0 3, .int .i64, .int .i64, .int .i64, .asz 1 4]]
  hs := [.arr 3 0 true, .arr 3 0 true, .arr 3 0 true, .arr 3 0 true, .arr 5 1 true]
  res := .val (.cod 21)
  outs := [.arr 3 0 true, .arr 3 0 true, .arr 3 0 true, .arr 3 0 true, .arr 5 1 true]
  m := fun d dh => ferry_of d.1 dh.1 dh.2.1 dh.2.2.1 dh.2.2.2.1 dh.2.2.2.2.1
  ok := ceO Try.func47 (by kernel_rfl) ferry_of_tb (by kernel_rfl) fun d dh => by kernel_rfl

def ferry_lay_tb : List (CEp) := []
def ferry_lay (x1 : Nat × Nat) (h0 : Int × Int × Int × Int × Bool × Bool × Nat × Unit) (h1 : LB) (h2 : LB) : Option (Unit × ((Int × Int × Int × Int × Bool × Bool × Nat × Unit) × LB × Unit × LB × Unit)) :=
  (if x1.1 + x1.2 ≤ h1.length then
  (if (h0.2.2.2.2.2.2.1 + ((h1.drop x1.1).take x1.2).length) ≤ 140737488355328 ∧ (h0.2.2.2.2.2.2.1 + ((h1.drop x1.1).take x1.2).length) * 1 ≤ 140737488355328 ∧ 0 + h0.2.2.2.2.2.2.1 ≤ h2.length then
  some ((), ((h0.1, h0.2.1, h0.2.2.1, h0.2.2.2.1, h0.2.2.2.2.1, h0.2.2.2.2.2.1, (h0.2.2.2.2.2.2.1 + ((h1.drop x1.1).take x1.2).length), ()), h1, (), (h2.take h0.2.2.2.2.2.2.1 ++ ((h1.drop x1.1).take x1.2)), ()))
  else none)
  else none)
def ferry_lay_ce : CEp where
  f := 48
  args := [.one (.ptr 0 0), .one (.asu 1 1)]
  hs := [.obj 56 [.int .i64, .int .i64, .int .i64, .int .i64, .bool, .bool, .asz 1 2], .arr 5 1 true, .arr 5 1 false]
  res := .tup []
  outs := [.obj 56 [.int .i64, .int .i64, .int .i64, .int .i64, .bool, .bool, .asz 1 3], .arr 5 1 true, .dead, .arr 5 1 false]
  m := fun d dh => ferry_lay d.2.1 dh.1 dh.2.1 dh.2.2.1
  ok := ceO Try.func48 (by kernel_rfl) ferry_lay_tb (by kernel_rfl) fun d dh => by kernel_rfl

def cloneEz54 (x0 : Nat) (h0 : LI) : Option (Nat × (LI × LI × Unit)) :=
  if x0 ≤ h0.length ∧ (h0.take x0).length ≤ 140737488355328 ∧ (h0.take x0).length * 8 ≤ 140737488355328 then some ((h0.take x0).length, (h0, (h0.take x0), ())) else none
def cloneEz54_ce : CEp where
  f := 54
  args := [.one (.asz 0 0)]
  hs := [.arr 3 0 true]
  res := .val (.one (.asz 0 1))
  outs := [.arr 3 0 true, .arr 3 0 false]
  m := fun d dh => cloneEz54 d.1 dh.1
  ok := fun d dh r hr => by
    unfold cloneEz54 at hr
    split at hr
    · rename_i hc
      injection hr with hr
      subst hr
      have hroom := hc.2
      exact Tr.lendArr (fun x => rfl) (U0 := fun _ => True) (Tr.kp0 (cloneE_tr mixedP Try.func54 (by kernel_rfl) rfl rfl (zv := .int .i64 0) (he := by kernel_rfl) (hsz := by kernel_rfl) (hz := by kernel_rfl) (hby := by kernel_rfl) rfl rfl (zt := (0 : Int)) (dh.1.take d.1) (by kernel_rfl) hroom)) (lend_as (Nat.le_trans (Nat.le_of_eq (Nat.zero_add _)) hc.1)) rfl
    · cases hr

def ferry_own_2_dr : Nat → Nat → DrA
  | 2, _ => ⟨[0, 3, 6, 9, 1, 4, 7, 10, 2, 5, 8, 11, 12, 13, 14], [[], [0], [0, 1], [], [3], (List.range 5), [], [6], (List.range 8), [], [9], (List.range 11), (List.range 12), (List.range 13), (List.range 14)], [4, 7, 10], [2, 5, 8], [6], false, []⟩
  | _, _ => ⟨[], [], [], [], [], false, []⟩
def ferry_own_2_tb : List (CEp) := [cloneEz54_ce]
def ferry_own_2 (x0 : Int × Int × Nat × Nat × Nat × Nat × Unit) (h0 : LI) (h1 : LI) (h2 : LI) (h3 : LI) : Option ((Int × Int × Nat × Nat × Nat × Nat × Unit) × (LI × LI × LI × LI × LI × LI × LI × LI × Unit)) :=
  (cloneEz54 x0.2.2.1 h0).bind fun r1 =>
  (cloneEz54 x0.2.2.2.1 h1).bind fun r2 =>
  (cloneEz54 x0.2.2.2.2.1 h2).bind fun r3 =>
  (cloneEz54 x0.2.2.2.2.2.1 h3).bind fun r4 =>
  some ((x0.1, x0.2.1, r1.1, r2.1, r3.1, r4.1, ()), (r1.2.1, r2.2.1, r3.2.1, r4.2.1, r1.2.2.1, r2.2.2.1, r3.2.2.1, r4.2.2.1, ()))
def ferry_own_2_ce : CEp where
  f := 33
  args := [.agg [.int .i64, .int .i64, .asz 0 0, .asz 0 1, .asz 0 2, .asz 0 3]]
  hs := [.arr 3 0 true, .arr 3 0 true, .arr 3 0 true, .arr 3 0 true]
  res := .val (.agg [.int .i64, .int .i64, .asz 0 4, .asz 0 5, .asz 0 6, .asz 0 7])
  outs := [.arr 3 0 true, .arr 3 0 true, .arr 3 0 true, .arr 3 0 true, .arr 3 0 false, .arr 3 0 false, .arr 3 0 false, .arr 3 0 false]
  m := fun d dh => ferry_own_2 d.1 dh.1 dh.2.1 dh.2.2.1 dh.2.2.2.1
  ok := ce_ok mixedP Try.func33 (by kernel_rfl) (orcOf_ok ferry_own_2_tb) (dr := ferry_own_2_dr) (lps := lpsOf lt0) (lps_fn (no_loop (by kernel_rfl))) (fun d dh => by kernel_rfl)

def ferry_Take_dr : Nat → Nat → DrA
  | 2, _ => ⟨[1, 2, 0, 3], [[], [], [1], [0, 1, 2]], [], [], [], false, []⟩
  | 3, _ => ⟨(List.range 14), [[], [0], [0, 1], [0, 1, 2], [0, 1, 2, 3], (List.range 5), (List.range 6), (List.range 7), (List.range 8), (List.range 9), (List.range 6), (List.range 6 ++ [10]), (List.range 12), (List.range 13)], [9], [11], [0], false, []⟩
  | 5, _ => ⟨[1, 2, 0, 3], [[], [], [1], [0, 1, 2]], [], [], [], false, []⟩
  | 8, _ => ⟨[0, 2, 3, 4, 1, 5, 6, 7], [[], [0], [], [2], [2, 3], [2, 3, 4], [2, 3, 4, 5], (List.range 7)], [], [], [], false, []⟩
  | 9, _ => ⟨[0, 1, 3, 4, 5, 8, 11, 2, 6, 7, 9, 10, 12, 13, 14, 15, 16], [[], [], [1], [], [3], [3, 4], [3, 4, 5], [3, 4, 5, 6], [], [8], [3, 4, 5, 6, 7, 8, 9], [], [11], [11, 12], [3, 4, 5, 6, 7, 8, 9, 10, 11, 12, 13], [1, 2, 3, 4, 5, 6, 7, 8, 9, 10, 11, 12, 13, 14], (List.range 16)], [], [], [], false, []⟩
  | 12, _ => ⟨[0, 2, 3, 1, 4], [[], [], [0], [0, 2], [0, 1, 2, 3]], [], [], [], false, []⟩
  | 13, _ => ⟨[0, 3, 4, 5, 1, 6, 2, 7, 8], [[], [0], [0, 1], [], [3], [3, 4], [3, 4, 5], (List.range 7), (List.range 8)], [6], [2], [0], false, []⟩
  | 15, _ => ⟨[0, 2, 3, 1, 4], [[], [], [0], [0, 2], [0, 1, 2, 3]], [], [], [], false, []⟩
  | _, _ => ⟨[], [], [], [], [], false, []⟩
def ferry_Take_tb : List (CEp) := [ferry_right_ce, ferry_Drop_ce, ferry_of_ce, ferry_lay_ce, ferry_own_2_ce]
def ferry_Take (x1 : Int × Int × Int × Int × Int × Int × Int × Int × Bool × Unit × Int × Int × Nat × Nat × Nat × Nat × Int × Int × Int × Nat × Unit) (h0 : Int × Int × Int × Int × Bool × Bool × Nat × Unit) (h1 : LI) (h2 : LI) (h3 : LI) (h4 : LI) (h5 : LB) (h6 : LB) : Option ((Int × Bool × (Int × Int × Nat × Nat × Nat × Nat × Nat × Unit) × Unit) × ((Int × Int × Int × Int × Bool × Bool × Nat × Unit) × LI × LI × LI × LI × LB × Unit × LI × LI × LI × LI × LB × LB × Unit)) :=
  (bif (!h0.2.2.2.2.1) then
  some ((0, false, (0, 0, 0, 0, 0, 0, 0, ()), ()), ((h0.1, h0.2.1, h0.2.2.1, h0.2.2.2.1, h0.2.2.2.2.1, h0.2.2.2.2.2.1, h0.2.2.2.2.2.2.1, ()), h1, h2, h3, h4, h5, (), [], [], [], [], [], h6, ()))
  else
  (ferry_right (x1.1, x1.2.1, x1.2.2.1, x1.2.2.2.1, x1.2.2.2.2.1, x1.2.2.2.2.2.1, x1.2.2.2.2.2.2.1, x1.2.2.2.2.2.2.2.1, x1.2.2.2.2.2.2.2.2.1, (), x1.2.2.2.2.2.2.2.2.2.2.1, x1.2.2.2.2.2.2.2.2.2.2.2.1, x1.2.2.2.2.2.2.2.2.2.2.2.2.1, x1.2.2.2.2.2.2.2.2.2.2.2.2.2.1, x1.2.2.2.2.2.2.2.2.2.2.2.2.2.2.1, x1.2.2.2.2.2.2.2.2.2.2.2.2.2.2.2.1, x1.2.2.2.2.2.2.2.2.2.2.2.2.2.2.2.2.1, x1.2.2.2.2.2.2.2.2.2.2.2.2.2.2.2.2.2.1, x1.2.2.2.2.2.2.2.2.2.2.2.2.2.2.2.2.2.2.1, x1.2.2.2.2.2.2.2.2.2.2.2.2.2.2.2.2.2.2.2.1, ()) h1 h2 h3 h4 h5).bind fun r1 =>
  (bif (!r1.1) then
  some ((0, false, (0, 0, 0, 0, 0, 0, 0, ()), ()), ((h0.1, h0.2.1, h0.2.2.1, h0.2.2.2.1, h0.2.2.2.2.1, h0.2.2.2.2.2.1, h0.2.2.2.2.2.2.1, ()), r1.2.1, r1.2.2.1, r1.2.2.2.1, r1.2.2.2.2.1, r1.2.2.2.2.2.1, (), [], [], [], [], [], h6, ()))
  else
  (bif (!h0.2.2.2.2.2.1) then
  (bif (decide ((x1.2.2.2.2.2.2.2.2.2.2.2.2.2.2.2.2.2.1 : Int) ≠ 0)) then
  some ((0, false, (0, 0, 0, 0, 0, 0, 0, ()), ()), ((h0.1, h0.2.1, h0.2.2.1, h0.2.2.2.1, h0.2.2.2.2.1, h0.2.2.2.2.2.1, h0.2.2.2.2.2.2.1, ()), r1.2.1, r1.2.2.1, r1.2.2.2.1, r1.2.2.2.2.1, r1.2.2.2.2.2.1, (), [], [], [], [], [], h6, ()))
  else
  (ferry_Drop (h0.1, h0.2.1, h0.2.2.1, h0.2.2.2.1, h0.2.2.2.2.1, h0.2.2.2.2.2.1, (), ())).bind fun r2 =>
  (ferry_of (x1.1, x1.2.1, x1.2.2.1, x1.2.2.2.1, x1.2.2.2.2.1, x1.2.2.2.2.2.1, x1.2.2.2.2.2.2.1, x1.2.2.2.2.2.2.2.1, x1.2.2.2.2.2.2.2.2.1, (), x1.2.2.2.2.2.2.2.2.2.2.1, x1.2.2.2.2.2.2.2.2.2.2.2.1, x1.2.2.2.2.2.2.2.2.2.2.2.2.1, x1.2.2.2.2.2.2.2.2.2.2.2.2.2.1, x1.2.2.2.2.2.2.2.2.2.2.2.2.2.2.1, x1.2.2.2.2.2.2.2.2.2.2.2.2.2.2.2.1, x1.2.2.2.2.2.2.2.2.2.2.2.2.2.2.2.2.1, x1.2.2.2.2.2.2.2.2.2.2.2.2.2.2.2.2.2.1, x1.2.2.2.2.2.2.2.2.2.2.2.2.2.2.2.2.2.2.1, x1.2.2.2.2.2.2.2.2.2.2.2.2.2.2.2.2.2.2.2.1, ()) r1.2.1 r1.2.2.1 r1.2.2.2.1 r1.2.2.2.2.1 r1.2.2.2.2.2.1).bind fun r3 =>
  (bif (decide ((x1.2.2.2.2.2.2.2.2.2.2.2.2.2.2.2.2.2.1 : Int) ≤ ((r2.2.1.2.2.2.2.2.2.1 : Nat) : Int))) then
  let y4 : Int := (if (((x1.2.2.2.2.2.2.2.2.2.2.2.2.2.2.2.2.2.2.2.1 : Nat) : Int) : Int) < (IntKind.i64.wrap (((r2.2.1.2.2.2.2.2.2.1 : Nat) : Int) - x1.2.2.2.2.2.2.2.2.2.2.2.2.2.2.2.2.2.1)) then ((x1.2.2.2.2.2.2.2.2.2.2.2.2.2.2.2.2.2.2.2.1 : Nat) : Int) else (IntKind.i64.wrap (((r2.2.1.2.2.2.2.2.2.1 : Nat) : Int) - x1.2.2.2.2.2.2.2.2.2.2.2.2.2.2.2.2.2.1)))
  (if 0 ≤ ((y4 : Int) : Int) ∧ ((y4 : Int) : Int) ≤ ((x1.2.2.2.2.2.2.2.2.2.2.2.2.2.2.2.2.2.2.2.1 : Nat) : Int) ∧ ((x1.2.2.2.2.2.2.2.2.2.2.2.2.2.2.2.2.2.2.2.1 : Nat) : Int) ≤ ((x1.2.2.2.2.2.2.2.2.2.2.2.2.2.2.2.2.2.2.2.1 : Nat) : Int) ∧ ((x1.2.2.2.2.2.2.2.2.2.2.2.2.2.2.2.2.2.2.2.1 : Nat) : Int) ≤ 140737488355328 then
  (ferry_lay ((0 + (y4 : Int).toNat), (((x1.2.2.2.2.2.2.2.2.2.2.2.2.2.2.2.2.2.2.2.1 : Nat) : Int).toNat - (y4 : Int).toNat)) (r3.1.term_, r3.1.index, r3.1.base, r3.1.size, r2.2.1.2.2.2.2.1, true, r2.2.1.2.2.2.2.2.2.1, ()) r3.2.2.2.2.2.1 r2.2.2.1).bind fun r5 =>
  (bif (decide ((((r5.2.1.2.2.2.2.2.2.1 : Nat) : Int) : Int) < r5.2.1.2.2.2.1)) then
  some ((((r5.2.1.2.2.2.2.2.2.1 : Nat) : Int), false, (0, 0, 0, 0, 0, 0, 0, ()), ()), ((r5.2.1.1, r5.2.1.2.1, r5.2.1.2.2.1, r5.2.1.2.2.2.1, r5.2.1.2.2.2.2.1, r5.2.1.2.2.2.2.2.1, r5.2.1.2.2.2.2.2.2.1, ()), r3.2.1, r3.2.2.1, r3.2.2.2.1, r3.2.2.2.2.1, r5.2.2.1, (), [], [], [], [], [], r5.2.2.2.2.1, ()))
  else
  (ferry_own_2 (x1.2.2.2.2.2.2.2.2.2.2.1, x1.2.2.2.2.2.2.2.2.2.2.2.1, x1.2.2.2.2.2.2.2.2.2.2.2.2.1, x1.2.2.2.2.2.2.2.2.2.2.2.2.2.1, x1.2.2.2.2.2.2.2.2.2.2.2.2.2.2.1, x1.2.2.2.2.2.2.2.2.2.2.2.2.2.2.2.1, ()) r3.2.1 r3.2.2.1 r3.2.2.2.1 r3.2.2.2.2.1).bind fun r6 =>
  (ferry_Drop (r5.2.1.1, r5.2.1.2.1, r5.2.1.2.2.1, r5.2.1.2.2.2.1, r5.2.1.2.2.2.2.1, r5.2.1.2.2.2.2.2.1, (), ())).bind fun r7 =>
  some ((((r5.2.1.2.2.2.2.2.2.1 : Nat) : Int), true, (r6.1.1, r6.1.2.1, r6.1.2.2.1, r6.1.2.2.2.1, r6.1.2.2.2.2.1, r6.1.2.2.2.2.2.1, r5.2.1.2.2.2.2.2.2.1, ()), ()), ((r7.2.1.1, r7.2.1.2.1, r7.2.1.2.2.1, r7.2.1.2.2.2.1, r7.2.1.2.2.2.2.1, r7.2.1.2.2.2.2.2.1, r7.2.1.2.2.2.2.2.2.1, ()), r6.2.1, r6.2.2.1, r6.2.2.2.1, r6.2.2.2.2.1, r5.2.2.1, (), r6.2.2.2.2.2.1, r6.2.2.2.2.2.2.1, r6.2.2.2.2.2.2.2.1, r6.2.2.2.2.2.2.2.2.1, r5.2.2.2.2.1, r7.2.2.1, ())))
  else none)
  else
  (bif (decide ((((r2.2.1.2.2.2.2.2.2.1 : Nat) : Int) : Int) < r3.1.size)) then
  some ((((r2.2.1.2.2.2.2.2.2.1 : Nat) : Int), false, (0, 0, 0, 0, 0, 0, 0, ()), ()), ((r3.1.term_, r3.1.index, r3.1.base, r3.1.size, r2.2.1.2.2.2.2.1, true, r2.2.1.2.2.2.2.2.2.1, ()), r3.2.1, r3.2.2.1, r3.2.2.2.1, r3.2.2.2.2.1, r3.2.2.2.2.2.1, (), [], [], [], [], [], r2.2.2.1, ()))
  else
  (ferry_own_2 (x1.2.2.2.2.2.2.2.2.2.2.1, x1.2.2.2.2.2.2.2.2.2.2.2.1, x1.2.2.2.2.2.2.2.2.2.2.2.2.1, x1.2.2.2.2.2.2.2.2.2.2.2.2.2.1, x1.2.2.2.2.2.2.2.2.2.2.2.2.2.2.1, x1.2.2.2.2.2.2.2.2.2.2.2.2.2.2.2.1, ()) r3.2.1 r3.2.2.1 r3.2.2.2.1 r3.2.2.2.2.1).bind fun r8 =>
  (ferry_Drop (r3.1.term_, r3.1.index, r3.1.base, r3.1.size, r2.2.1.2.2.2.2.1, true, (), ())).bind fun r9 =>
  some ((((r2.2.1.2.2.2.2.2.2.1 : Nat) : Int), true, (r8.1.1, r8.1.2.1, r8.1.2.2.1, r8.1.2.2.2.1, r8.1.2.2.2.2.1, r8.1.2.2.2.2.2.1, r2.2.1.2.2.2.2.2.2.1, ()), ()), ((r9.2.1.1, r9.2.1.2.1, r9.2.1.2.2.1, r9.2.1.2.2.2.1, r9.2.1.2.2.2.2.1, r9.2.1.2.2.2.2.2.1, r9.2.1.2.2.2.2.2.2.1, ()), r8.2.1, r8.2.2.1, r8.2.2.2.1, r8.2.2.2.2.1, r3.2.2.2.2.2.1, (), r8.2.2.2.2.2.1, r8.2.2.2.2.2.2.1, r8.2.2.2.2.2.2.2.1, r8.2.2.2.2.2.2.2.2.1, r2.2.2.1, r9.2.2.1, ())))))
  else
  (ferry_of (x1.1, x1.2.1, x1.2.2.1, x1.2.2.2.1, x1.2.2.2.2.1, x1.2.2.2.2.2.1, x1.2.2.2.2.2.2.1, x1.2.2.2.2.2.2.2.1, x1.2.2.2.2.2.2.2.2.1, (), x1.2.2.2.2.2.2.2.2.2.2.1, x1.2.2.2.2.2.2.2.2.2.2.2.1, x1.2.2.2.2.2.2.2.2.2.2.2.2.1, x1.2.2.2.2.2.2.2.2.2.2.2.2.2.1, x1.2.2.2.2.2.2.2.2.2.2.2.2.2.2.1, x1.2.2.2.2.2.2.2.2.2.2.2.2.2.2.2.1, x1.2.2.2.2.2.2.2.2.2.2.2.2.2.2.2.2.1, x1.2.2.2.2.2.2.2.2.2.2.2.2.2.2.2.2.2.1, x1.2.2.2.2.2.2.2.2.2.2.2.2.2.2.2.2.2.2.1, x1.2.2.2.2.2.2.2.2.2.2.2.2.2.2.2.2.2.2.2.1, ()) r1.2.1 r1.2.2.1 r1.2.2.2.1 r1.2.2.2.2.1 r1.2.2.2.2.2.1).bind fun r10 =>
  (bif (!(decide ((h0.1 : Int) = r10.1.term_) && (decide ((h0.2.1 : Int) = r10.1.index) && (decide ((h0.2.2.1 : Int) = r10.1.base) && (decide ((h0.2.2.2.1 : Int) = r10.1.size) && true))))) then
  (bif (decide ((x1.2.2.2.2.2.2.2.2.2.2.2.2.2.2.2.2.2.1 : Int) ≠ 0)) then
  some ((0, false, (0, 0, 0, 0, 0, 0, 0, ()), ()), ((h0.1, h0.2.1, h0.2.2.1, h0.2.2.2.1, h0.2.2.2.2.1, h0.2.2.2.2.2.1, h0.2.2.2.2.2.2.1, ()), r10.2.1, r10.2.2.1, r10.2.2.2.1, r10.2.2.2.2.1, r10.2.2.2.2.2.1, (), [], [], [], [], [], h6, ()))
  else
  (ferry_Drop (h0.1, h0.2.1, h0.2.2.1, h0.2.2.2.1, h0.2.2.2.2.1, h0.2.2.2.2.2.1, (), ())).bind fun r11 =>
  (ferry_of (x1.1, x1.2.1, x1.2.2.1, x1.2.2.2.1, x1.2.2.2.2.1, x1.2.2.2.2.2.1, x1.2.2.2.2.2.2.1, x1.2.2.2.2.2.2.2.1, x1.2.2.2.2.2.2.2.2.1, (), x1.2.2.2.2.2.2.2.2.2.2.1, x1.2.2.2.2.2.2.2.2.2.2.2.1, x1.2.2.2.2.2.2.2.2.2.2.2.2.1, x1.2.2.2.2.2.2.2.2.2.2.2.2.2.1, x1.2.2.2.2.2.2.2.2.2.2.2.2.2.2.1, x1.2.2.2.2.2.2.2.2.2.2.2.2.2.2.2.1, x1.2.2.2.2.2.2.2.2.2.2.2.2.2.2.2.2.1, x1.2.2.2.2.2.2.2.2.2.2.2.2.2.2.2.2.2.1, x1.2.2.2.2.2.2.2.2.2.2.2.2.2.2.2.2.2.2.1, x1.2.2.2.2.2.2.2.2.2.2.2.2.2.2.2.2.2.2.2.1, ()) r10.2.1 r10.2.2.1 r10.2.2.2.1 r10.2.2.2.2.1 r10.2.2.2.2.2.1).bind fun r12 =>
  (bif (decide ((x1.2.2.2.2.2.2.2.2.2.2.2.2.2.2.2.2.2.1 : Int) ≤ ((r11.2.1.2.2.2.2.2.2.1 : Nat) : Int))) then
  let y13 : Int := (if (((x1.2.2.2.2.2.2.2.2.2.2.2.2.2.2.2.2.2.2.2.1 : Nat) : Int) : Int) < (IntKind.i64.wrap (((r11.2.1.2.2.2.2.2.2.1 : Nat) : Int) - x1.2.2.2.2.2.2.2.2.2.2.2.2.2.2.2.2.2.1)) then ((x1.2.2.2.2.2.2.2.2.2.2.2.2.2.2.2.2.2.2.2.1 : Nat) : Int) else (IntKind.i64.wrap (((r11.2.1.2.2.2.2.2.2.1 : Nat) : Int) - x1.2.2.2.2.2.2.2.2.2.2.2.2.2.2.2.2.2.1)))
  (if 0 ≤ ((y13 : Int) : Int) ∧ ((y13 : Int) : Int) ≤ ((x1.2.2.2.2.2.2.2.2.2.2.2.2.2.2.2.2.2.2.2.1 : Nat) : Int) ∧ ((x1.2.2.2.2.2.2.2.2.2.2.2.2.2.2.2.2.2.2.2.1 : Nat) : Int) ≤ ((x1.2.2.2.2.2.2.2.2.2.2.2.2.2.2.2.2.2.2.2.1 : Nat) : Int) ∧ ((x1.2.2.2.2.2.2.2.2.2.2.2.2.2.2.2.2.2.2.2.1 : Nat) : Int) ≤ 140737488355328 then
  (ferry_lay ((0 + (y13 : Int).toNat), (((x1.2.2.2.2.2.2.2.2.2.2.2.2.2.2.2.2.2.2.2.1 : Nat) : Int).toNat - (y13 : Int).toNat)) (r12.1.term_, r12.1.index, r12.1.base, r12.1.size, r11.2.1.2.2.2.2.1, true, r11.2.1.2.2.2.2.2.2.1, ()) r12.2.2.2.2.2.1 r11.2.2.1).bind fun r14 =>
  (bif (decide ((((r14.2.1.2.2.2.2.2.2.1 : Nat) : Int) : Int) < r14.2.1.2.2.2.1)) then
  some ((((r14.2.1.2.2.2.2.2.2.1 : Nat) : Int), false, (0, 0, 0, 0, 0, 0, 0, ()), ()), ((r14.2.1.1, r14.2.1.2.1, r14.2.1.2.2.1, r14.2.1.2.2.2.1, r14.2.1.2.2.2.2.1, r14.2.1.2.2.2.2.2.1, r14.2.1.2.2.2.2.2.2.1, ()), r12.2.1, r12.2.2.1, r12.2.2.2.1, r12.2.2.2.2.1, r14.2.2.1, (), [], [], [], [], [], r14.2.2.2.2.1, ()))
  else
  (ferry_own_2 (x1.2.2.2.2.2.2.2.2.2.2.1, x1.2.2.2.2.2.2.2.2.2.2.2.1, x1.2.2.2.2.2.2.2.2.2.2.2.2.1, x1.2.2.2.2.2.2.2.2.2.2.2.2.2.1, x1.2.2.2.2.2.2.2.2.2.2.2.2.2.2.1, x1.2.2.2.2.2.2.2.2.2.2.2.2.2.2.2.1, ()) r12.2.1 r12.2.2.1 r12.2.2.2.1 r12.2.2.2.2.1).bind fun r15 =>
  (ferry_Drop (r14.2.1.1, r14.2.1.2.1, r14.2.1.2.2.1, r14.2.1.2.2.2.1, r14.2.1.2.2.2.2.1, r14.2.1.2.2.2.2.2.1, (), ())).bind fun r16 =>
  some ((((r14.2.1.2.2.2.2.2.2.1 : Nat) : Int), true, (r15.1.1, r15.1.2.1, r15.1.2.2.1, r15.1.2.2.2.1, r15.1.2.2.2.2.1, r15.1.2.2.2.2.2.1, r14.2.1.2.2.2.2.2.2.1, ()), ()), ((r16.2.1.1, r16.2.1.2.1, r16.2.1.2.2.1, r16.2.1.2.2.2.1, r16.2.1.2.2.2.2.1, r16.2.1.2.2.2.2.2.1, r16.2.1.2.2.2.2.2.2.1, ()), r15.2.1, r15.2.2.1, r15.2.2.2.1, r15.2.2.2.2.1, r14.2.2.1, (), r15.2.2.2.2.2.1, r15.2.2.2.2.2.2.1, r15.2.2.2.2.2.2.2.1, r15.2.2.2.2.2.2.2.2.1, r14.2.2.2.2.1, r16.2.2.1, ())))
  else none)
  else
  (bif (decide ((((r11.2.1.2.2.2.2.2.2.1 : Nat) : Int) : Int) < r12.1.size)) then
  some ((((r11.2.1.2.2.2.2.2.2.1 : Nat) : Int), false, (0, 0, 0, 0, 0, 0, 0, ()), ()), ((r12.1.term_, r12.1.index, r12.1.base, r12.1.size, r11.2.1.2.2.2.2.1, true, r11.2.1.2.2.2.2.2.2.1, ()), r12.2.1, r12.2.2.1, r12.2.2.2.1, r12.2.2.2.2.1, r12.2.2.2.2.2.1, (), [], [], [], [], [], r11.2.2.1, ()))
  else
  (ferry_own_2 (x1.2.2.2.2.2.2.2.2.2.2.1, x1.2.2.2.2.2.2.2.2.2.2.2.1, x1.2.2.2.2.2.2.2.2.2.2.2.2.1, x1.2.2.2.2.2.2.2.2.2.2.2.2.2.1, x1.2.2.2.2.2.2.2.2.2.2.2.2.2.2.1, x1.2.2.2.2.2.2.2.2.2.2.2.2.2.2.2.1, ()) r12.2.1 r12.2.2.1 r12.2.2.2.1 r12.2.2.2.2.1).bind fun r17 =>
  (ferry_Drop (r12.1.term_, r12.1.index, r12.1.base, r12.1.size, r11.2.1.2.2.2.2.1, true, (), ())).bind fun r18 =>
  some ((((r11.2.1.2.2.2.2.2.2.1 : Nat) : Int), true, (r17.1.1, r17.1.2.1, r17.1.2.2.1, r17.1.2.2.2.1, r17.1.2.2.2.2.1, r17.1.2.2.2.2.2.1, r11.2.1.2.2.2.2.2.2.1, ()), ()), ((r18.2.1.1, r18.2.1.2.1, r18.2.1.2.2.1, r18.2.1.2.2.2.1, r18.2.1.2.2.2.2.1, r18.2.1.2.2.2.2.2.1, r18.2.1.2.2.2.2.2.2.1, ()), r17.2.1, r17.2.2.1, r17.2.2.2.1, r17.2.2.2.2.1, r12.2.2.2.2.2.1, (), r17.2.2.2.2.2.1, r17.2.2.2.2.2.2.1, r17.2.2.2.2.2.2.2.1, r17.2.2.2.2.2.2.2.2.1, r11.2.2.1, r18.2.2.1, ())))))
  else
  (bif (decide ((x1.2.2.2.2.2.2.2.2.2.2.2.2.2.2.2.2.2.1 : Int) ≤ ((h0.2.2.2.2.2.2.1 : Nat) : Int))) then
  let y19 : Int := (if (((x1.2.2.2.2.2.2.2.2.2.2.2.2.2.2.2.2.2.2.2.1 : Nat) : Int) : Int) < (IntKind.i64.wrap (((h0.2.2.2.2.2.2.1 : Nat) : Int) - x1.2.2.2.2.2.2.2.2.2.2.2.2.2.2.2.2.2.1)) then ((x1.2.2.2.2.2.2.2.2.2.2.2.2.2.2.2.2.2.2.2.1 : Nat) : Int) else (IntKind.i64.wrap (((h0.2.2.2.2.2.2.1 : Nat) : Int) - x1.2.2.2.2.2.2.2.2.2.2.2.2.2.2.2.2.2.1)))
  (if 0 ≤ ((y19 : Int) : Int) ∧ ((y19 : Int) : Int) ≤ ((x1.2.2.2.2.2.2.2.2.2.2.2.2.2.2.2.2.2.2.2.1 : Nat) : Int) ∧ ((x1.2.2.2.2.2.2.2.2.2.2.2.2.2.2.2.2.2.2.2.1 : Nat) : Int) ≤ ((x1.2.2.2.2.2.2.2.2.2.2.2.2.2.2.2.2.2.2.2.1 : Nat) : Int) ∧ ((x1.2.2.2.2.2.2.2.2.2.2.2.2.2.2.2.2.2.2.2.1 : Nat) : Int) ≤ 140737488355328 then
  (ferry_lay ((0 + (y19 : Int).toNat), (((x1.2.2.2.2.2.2.2.2.2.2.2.2.2.2.2.2.2.2.2.1 : Nat) : Int).toNat - (y19 : Int).toNat)) (h0.1, h0.2.1, h0.2.2.1, h0.2.2.2.1, h0.2.2.2.2.1, h0.2.2.2.2.2.1, h0.2.2.2.2.2.2.1, ()) r10.2.2.2.2.2.1 h6).bind fun r20 =>
  (bif (decide ((((r20.2.1.2.2.2.2.2.2.1 : Nat) : Int) : Int) < r20.2.1.2.2.2.1)) then
  some ((((r20.2.1.2.2.2.2.2.2.1 : Nat) : Int), false, (0, 0, 0, 0, 0, 0, 0, ()), ()), ((r20.2.1.1, r20.2.1.2.1, r20.2.1.2.2.1, r20.2.1.2.2.2.1, r20.2.1.2.2.2.2.1, r20.2.1.2.2.2.2.2.1, r20.2.1.2.2.2.2.2.2.1, ()), r10.2.1, r10.2.2.1, r10.2.2.2.1, r10.2.2.2.2.1, r20.2.2.1, (), [], [], [], [], [], r20.2.2.2.2.1, ()))
  else
  (ferry_own_2 (x1.2.2.2.2.2.2.2.2.2.2.1, x1.2.2.2.2.2.2.2.2.2.2.2.1, x1.2.2.2.2.2.2.2.2.2.2.2.2.1, x1.2.2.2.2.2.2.2.2.2.2.2.2.2.1, x1.2.2.2.2.2.2.2.2.2.2.2.2.2.2.1, x1.2.2.2.2.2.2.2.2.2.2.2.2.2.2.2.1, ()) r10.2.1 r10.2.2.1 r10.2.2.2.1 r10.2.2.2.2.1).bind fun r21 =>
  (ferry_Drop (r20.2.1.1, r20.2.1.2.1, r20.2.1.2.2.1, r20.2.1.2.2.2.1, r20.2.1.2.2.2.2.1, r20.2.1.2.2.2.2.2.1, (), ())).bind fun r22 =>
  some ((((r20.2.1.2.2.2.2.2.2.1 : Nat) : Int), true, (r21.1.1, r21.1.2.1, r21.1.2.2.1, r21.1.2.2.2.1, r21.1.2.2.2.2.1, r21.1.2.2.2.2.2.1, r20.2.1.2.2.2.2.2.2.1, ()), ()), ((r22.2.1.1, r22.2.1.2.1, r22.2.1.2.2.1, r22.2.1.2.2.2.1, r22.2.1.2.2.2.2.1, r22.2.1.2.2.2.2.2.1, r22.2.1.2.2.2.2.2.2.1, ()), r21.2.1, r21.2.2.1, r21.2.2.2.1, r21.2.2.2.2.1, r20.2.2.1, (), r21.2.2.2.2.2.1, r21.2.2.2.2.2.2.1, r21.2.2.2.2.2.2.2.1, r21.2.2.2.2.2.2.2.2.1, r20.2.2.2.2.1, r22.2.2.1, ())))
  else none)
  else
  (bif (decide ((((h0.2.2.2.2.2.2.1 : Nat) : Int) : Int) < h0.2.2.2.1)) then
  some ((((h0.2.2.2.2.2.2.1 : Nat) : Int), false, (0, 0, 0, 0, 0, 0, 0, ()), ()), ((h0.1, h0.2.1, h0.2.2.1, h0.2.2.2.1, h0.2.2.2.2.1, h0.2.2.2.2.2.1, h0.2.2.2.2.2.2.1, ()), r10.2.1, r10.2.2.1, r10.2.2.2.1, r10.2.2.2.2.1, r10.2.2.2.2.2.1, (), [], [], [], [], [], h6, ()))
  else
  (ferry_own_2 (x1.2.2.2.2.2.2.2.2.2.2.1, x1.2.2.2.2.2.2.2.2.2.2.2.1, x1.2.2.2.2.2.2.2.2.2.2.2.2.1, x1.2.2.2.2.2.2.2.2.2.2.2.2.2.1, x1.2.2.2.2.2.2.2.2.2.2.2.2.2.2.1, x1.2.2.2.2.2.2.2.2.2.2.2.2.2.2.2.1, ()) r10.2.1 r10.2.2.1 r10.2.2.2.1 r10.2.2.2.2.1).bind fun r23 =>
  (ferry_Drop (h0.1, h0.2.1, h0.2.2.1, h0.2.2.2.1, h0.2.2.2.2.1, h0.2.2.2.2.2.1, (), ())).bind fun r24 =>
  some ((((h0.2.2.2.2.2.2.1 : Nat) : Int), true, (r23.1.1, r23.1.2.1, r23.1.2.2.1, r23.1.2.2.2.1, r23.1.2.2.2.2.1, r23.1.2.2.2.2.2.1, h0.2.2.2.2.2.2.1, ()), ()), ((r24.2.1.1, r24.2.1.2.1, r24.2.1.2.2.1, r24.2.1.2.2.2.1, r24.2.1.2.2.2.2.1, r24.2.1.2.2.2.2.2.1, r24.2.1.2.2.2.2.2.2.1, ()), r23.2.1, r23.2.2.1, r23.2.2.2.1, r23.2.2.2.2.1, r10.2.2.2.2.2.1, (), r23.2.2.2.2.2.1, r23.2.2.2.2.2.2.1, r23.2.2.2.2.2.2.2.1, r23.2.2.2.2.2.2.2.2.1, h6, r24.2.2.1, ()))))))))
def ferry_Take_ce : CEp where
  f := 22
  args := [.one (.ptr 0 0), .agg [.int .u8, .int .i64, .int .i64, .int .i64, .int .i64, .int .i64, .int .i64, .int .i64, .bool, .nil, .int .i64, .int .i64, .asz 0 1, .asz 0 2, .asz 0 3, .asz 0 4, .int .i64, .int .i64, .int .i64, .asz 1 5]]
  hs := [.obj 56 [.int .i64, .int .i64, .int .i64, .int .i64, .bool, .bool, .asz 1 6], .arr 3 0 true, .arr 3 0 true, .arr 3 0 true, .arr 3 0 true, .arr 5 1 true, .arr 5 1 false]
  res := .tup [.one (.int .i64), .one (.bool), .agg [.int .i64, .int .i64, .asz 0 7, .asz 0 8, .asz 0 9, .asz 0 10, .asz 1 11]]
  outs := [.obj 56 [.int .i64, .int .i64, .int .i64, .int .i64, .bool, .bool, .asz 1 12], .arr 3 0 true, .arr 3 0 true, .arr 3 0 true, .arr 3 0 true, .arr 5 1 true, .dead, .arr 3 0 false, .arr 3 0 false, .arr 3 0 false, .arr 3 0 false, .arr 5 1 false, .arr 5 1 false]
  m := fun d dh => ferry_Take d.2.1 dh.1 dh.2.1 dh.2.2.1 dh.2.2.2.1 dh.2.2.2.2.1 dh.2.2.2.2.2.1 dh.2.2.2.2.2.2.1
  ok := ce_ok mixedP Try.func22 (by kernel_rfl) (orcOf_ok ferry_Take_tb) (dr := ferry_Take_dr) (lps := lpsOf lt0) (lps_fn (no_loop (by kernel_rfl))) (fun d dh => by kernel_rfl)

def wk_SameInts_dr : Nat → Nat → DrA
  | 6, _ => ⟨[0, 1, 2, 4, 5, 6, 3, 7, 8], [[], [], [0, 1], [0, 1, 2], [], [], [4, 5], [4, 5, 6], (List.range 8)], [], [], [], false, []⟩
  | _, _ => ⟨[], [], [], [], [], false, []⟩
def wk_SameInts_tb : List (CEp) := []
def wk_SameInts_l1 (a : (LI × Nat × Int × Unit) × (LI × Unit)) : Option (((LI × Nat × Int × Unit) × (LI × Unit)) ⊕ (((Bool × Unit) × (LI × Unit)) ⊕ (Unit × (LI × Unit)))) :=
  (bif (decide ((a.1.2.2.1 : Int) < (a.1.1.length : Int))) then
  (getI a.1.1 a.1.2.2.1).bind fun e1 =>
  (if 0 ≤ (a.1.2.2.1 : Int) ∧ (a.1.2.2.1 : Int) < ((a.1.2.1 : Nat) : Int) then
  (a.2.1[(0 + (a.1.2.2.1 : Int).toNat)]?).bind fun e2 =>
  (bif (decide ((e1 : Int) ≠ e2)) then
  some (.inr (.inl ((false, ()), (a.2.1, ()))))
  else
  some (.inl ((a.1.1, a.1.2.1, (IntKind.i64.wrap (a.1.2.2.1 + 1)), ()), (a.2.1, ()))))
  else none)
  else
  some (.inr (.inr ((), (a.2.1, ())))))
def wk_SameInts_e1 : LEp := ⟨4, [0, 1, 5], [.one (.sl 0), .one (.asz 0 0), .one (.int .i64)], [.arr 3 0 true], [⟨.ret, [4], [.one (.bool)], [.arr 3 0 true]⟩, ⟨.exit 0, [], [], [.arr 3 0 true]⟩], wk_SameInts_l1⟩
def wk_SameInts_lt : List (LEp) := [wk_SameInts_e1]
theorem wk_SameInts_e1_ok : LeOk wk_SameInts_e1 (nthL (bodyOf Try.f68) 0) := fun A env h k z hk => le_ok (E := wk_SameInts_e1) (orcOf_ok wk_SameInts_tb) (dr := wk_SameInts_dr) (lps := lpsOf wk_SameInts_lt) (no_loop (by kernel_rfl)) (fun a => by kernel_rfl) env h k z hk
def wk_SameInts (x0 : LI) (x1 : Nat) (h0 : LI) : Option (Bool × (LI × Unit)) :=
  (bif (decide (((x0.length : Int) : Int) ≠ ((x1 : Nat) : Int))) then
  some (false, (h0, ()))
  else
  (loopM wk_SameInts_l1 ((x0, x1, 0, ()), (h0, ()))).bind fun b1 =>
  (match b1 with
  | .inl b2 =>
  some (b2.1.1, (b2.2.1, ()))
  | .inr b3 =>
  some (true, (b3.2.1, ()))))
def wk_SameInts_ce : CEp where
  f := 68
  args := [.one (.sl 0), .one (.asz 0 0)]
  hs := [.arr 3 0 true]
  res := .val (.one (.bool))
  outs := [.arr 3 0 true]
  m := fun d dh => wk_SameInts d.1 d.2.1 dh.1
  ok := ce_ok mixedP Try.func68 (by kernel_rfl) (orcOf_ok wk_SameInts_tb) (dr := wk_SameInts_dr) (lps := lpsOf wk_SameInts_lt) (lps_fn (lps_of (n := 1) (by kernel_rfl) fun i hi => match i, hi with | 0, _ => lp_ok (E := wk_SameInts_e1) (by kernel_rfl) wk_SameInts_e1_ok)) (fun d dh => by kernel_rfl)

def wk_SameConfig_tb : List (CEp) := [wk_SameInts_ce]
def wk_SameConfig (x0 : DConfig) (x1 : Nat × Nat × Nat × Nat × Unit) (h0 : LI) (h1 : LI) (h2 : LI) (h3 : LI) : Option (Bool × (LI × LI × LI × LI × Unit)) :=
  (wk_SameInts x0.voters x1.1 h0).bind fun r1 =>
  (bif r1.1 then
  (wk_SameInts x0.old x1.2.1 h1).bind fun r2 =>
  (bif r2.1 then
  (wk_SameInts x0.learners x1.2.2.1 h2).bind fun r3 =>
  (bif r3.1 then
  (wk_SameInts x0.want x1.2.2.2.1 h3).bind fun r4 =>
  some (r4.1, (r1.2.1, r2.2.1, r3.2.1, r4.2.1, ()))
  else
  some (false, (r1.2.1, r2.2.1, r3.2.1, h3, ())))
  else
  some (false, (r1.2.1, r2.2.1, h2, h3, ())))
  else
  some (false, (r1.2.1, h1, h2, h3, ())))
def wk_SameConfig_ce : CEp where
  f := 59
  args := [.cod 13, .agg [.asz 0 0, .asz 0 1, .asz 0 2, .asz 0 3]]
  hs := [.arr 3 0 true, .arr 3 0 true, .arr 3 0 true, .arr 3 0 true]
  res := .val (.one (.bool))
  outs := [.arr 3 0 true, .arr 3 0 true, .arr 3 0 true, .arr 3 0 true]
  m := fun d dh => wk_SameConfig d.1 d.2.1 dh.1 dh.2.1 dh.2.2.1 dh.2.2.2.1
  ok := ceO Try.func59 (by kernel_rfl) wk_SameConfig_tb (by kernel_rfl) fun d dh => by kernel_rfl

def wk_SameBase_tb : List (CEp) := [wk_SameConfig_ce]
def wk_SameBase (x0 : DBase) (x1 : Int × Int × Nat × Nat × Nat × Nat × Unit) (h0 : LI) (h1 : LI) (h2 : LI) (h3 : LI) : Option (Bool × (LI × LI × LI × LI × Unit)) :=
  (bif (decide ((x0.index : Int) = x1.1)) then
  (bif (decide ((x0.term_ : Int) = x1.2.1)) then
  (wk_SameConfig x0.config (x1.2.2.1, x1.2.2.2.1, x1.2.2.2.2.1, x1.2.2.2.2.2.1, ()) h0 h1 h2 h3).bind fun r1 =>
  some (r1.1, (r1.2.1, r1.2.2.1, r1.2.2.2.1, r1.2.2.2.2.1, ()))
  else
  some (false, (h0, h1, h2, h3, ())))
  else
  some (false, (h0, h1, h2, h3, ())))
def wk_SameBase_ce : CEp where
  f := 38
  args := [.cod 14, .agg [.int .i64, .int .i64, .asz 0 0, .asz 0 1, .asz 0 2, .asz 0 3]]
  hs := [.arr 3 0 true, .arr 3 0 true, .arr 3 0 true, .arr 3 0 true]
  res := .val (.one (.bool))
  outs := [.arr 3 0 true, .arr 3 0 true, .arr 3 0 true, .arr 3 0 true]
  m := fun d dh => wk_SameBase d.1 d.2.1 dh.1 dh.2.1 dh.2.2.1 dh.2.2.2.1
  ok := ceO Try.func38 (by kernel_rfl) wk_SameBase_tb (by kernel_rfl) fun d dh => by kernel_rfl

def wk_SameBytes_dr : Nat → Nat → DrA
  | 6, _ => ⟨[0, 1, 2, 4, 5, 6, 3, 7, 8], [[], [], [0, 1], [0, 1, 2], [], [], [4, 5], [4, 5, 6], (List.range 8)], [], [], [], false, []⟩
  | _, _ => ⟨[], [], [], [], [], false, []⟩
def wk_SameBytes_tb : List (CEp) := []
def wk_SameBytes_l1 (a : (LB × Nat × Int × Unit) × (LB × Unit)) : Option (((LB × Nat × Int × Unit) × (LB × Unit)) ⊕ (((Bool × Unit) × (LB × Unit)) ⊕ (Unit × (LB × Unit)))) :=
  (bif (decide ((a.1.2.2.1 : Int) < (a.1.1.length : Int))) then
  (getI a.1.1 a.1.2.2.1).bind fun e1 =>
  (if 0 ≤ (a.1.2.2.1 : Int) ∧ (a.1.2.2.1 : Int) < ((a.1.2.1 : Nat) : Int) then
  (a.2.1[(0 + (a.1.2.2.1 : Int).toNat)]?).bind fun e2 =>
  (bif (decide (((e1.toNat : Int) : Int) ≠ (e2.toNat : Int))) then
  some (.inr (.inl ((false, ()), (a.2.1, ()))))
  else
  some (.inl ((a.1.1, a.1.2.1, (IntKind.i64.wrap (a.1.2.2.1 + 1)), ()), (a.2.1, ()))))
  else none)
  else
  some (.inr (.inr ((), (a.2.1, ())))))
def wk_SameBytes_e1 : LEp := ⟨4, [0, 1, 5], [.one (.sl 1), .one (.asz 1 0), .one (.int .i64)], [.arr 5 1 true], [⟨.ret, [4], [.one (.bool)], [.arr 5 1 true]⟩, ⟨.exit 0, [], [], [.arr 5 1 true]⟩], wk_SameBytes_l1⟩
def wk_SameBytes_lt : List (LEp) := [wk_SameBytes_e1]
theorem wk_SameBytes_e1_ok : LeOk wk_SameBytes_e1 (nthL (bodyOf Try.f39) 0) := fun A env h k z hk => le_ok (E := wk_SameBytes_e1) (orcOf_ok wk_SameBytes_tb) (dr := wk_SameBytes_dr) (lps := lpsOf wk_SameBytes_lt) (no_loop (by kernel_rfl)) (fun a => by kernel_rfl) env h k z hk
def wk_SameBytes (x0 : LB) (x1 : Nat) (h0 : LB) : Option (Bool × (LB × Unit)) :=
  (bif (decide (((x0.length : Int) : Int) ≠ ((x1 : Nat) : Int))) then
  some (false, (h0, ()))
  else
  (loopM wk_SameBytes_l1 ((x0, x1, 0, ()), (h0, ()))).bind fun b1 =>
  (match b1 with
  | .inl b2 =>
  some (b2.1.1, (b2.2.1, ()))
  | .inr b3 =>
  some (true, (b3.2.1, ()))))
def wk_SameBytes_ce : CEp where
  f := 39
  args := [.one (.sl 1), .one (.asz 1 0)]
  hs := [.arr 5 1 true]
  res := .val (.one (.bool))
  outs := [.arr 5 1 true]
  m := fun d dh => wk_SameBytes d.1 d.2.1 dh.1
  ok := ce_ok mixedP Try.func39 (by kernel_rfl) (orcOf_ok wk_SameBytes_tb) (dr := wk_SameBytes_dr) (lps := lpsOf wk_SameBytes_lt) (lps_fn (lps_of (n := 1) (by kernel_rfl) fun i hi => match i, hi with | 0, _ => lp_ok (E := wk_SameBytes_e1) (by kernel_rfl) wk_SameBytes_e1_ok)) (fun d dh => by kernel_rfl)

def wk_SameImage_tb : List (CEp) := [wk_SameBase_ce, wk_SameBytes_ce]
def wk_SameImage (x0 : DImage) (x1 : Int × Int × Nat × Nat × Nat × Nat × Nat × Unit) (h0 : LI) (h1 : LI) (h2 : LI) (h3 : LI) (h4 : LB) : Option (Bool × (LI × LI × LI × LI × LB × Unit)) :=
  (wk_SameBase x0.base (x1.1, x1.2.1, x1.2.2.1, x1.2.2.2.1, x1.2.2.2.2.1, x1.2.2.2.2.2.1, ()) h0 h1 h2 h3).bind fun r1 =>
  (bif r1.1 then
  (wk_SameBytes x0.bytes x1.2.2.2.2.2.2.1 h4).bind fun r2 =>
  some (r2.1, (r1.2.1, r1.2.2.1, r1.2.2.2.1, r1.2.2.2.2.1, r2.2.1, ()))
  else
  some (false, (r1.2.1, r1.2.2.1, r1.2.2.2.1, r1.2.2.2.2.1, h4, ())))
def wk_SameImage_ce : CEp where
  f := 24
  args := [.cod 16, .agg [.int .i64, .int .i64, .asz 0 0, .asz 0 1, .asz 0 2, .asz 0 3, .asz 1 4]]
  hs := [.arr 3 0 true, .arr 3 0 true, .arr 3 0 true, .arr 3 0 true, .arr 5 1 true]
  res := .val (.one (.bool))
  outs := [.arr 3 0 true, .arr 3 0 true, .arr 3 0 true, .arr 3 0 true, .arr 5 1 true]
  m := fun d dh => wk_SameImage d.1 d.2.1 dh.1 dh.2.1 dh.2.2.1 dh.2.2.2.1 dh.2.2.2.2.1
  ok := ceO Try.func24 (by kernel_rfl) wk_SameImage_tb (by kernel_rfl) fun d dh => by kernel_rfl

def wl_awake_dr : Nat → Nat → DrA
  | 2, _ => ⟨[0, 2, 1, 3, 4, 5, 6, 7, 8, 9], [[], [0], [], [0, 1, 2], [0, 1, 2, 3], (List.range 5), (List.range 5), [], (List.range 6 ++ [7]), (List.range 9)], [2], [1], [0], false, []⟩
  | 3, _ => ⟨[0, 2, 1, 3, 4, 5, 6, 7, 8, 9], [[], [0], [], [0, 1, 2], [0, 1, 2, 3], (List.range 5), (List.range 5), [], (List.range 6 ++ [7]), (List.range 9)], [2], [1], [0], false, []⟩
  | _, _ => ⟨[], [], [], [], [], false, []⟩
def wl_awake_tb : List (CEp) := [wl_plain_ce, wl_asks_ce, ferry_Fill_ce, ferry_New_ce, ferry_Take_ce, wk_SameImage_ce]
def wl_awake  : Option (Bool × Unit) :=
  (wl_plain 1000).bind fun r1 =>
  (wl_asks r1.1 0).bind fun r2 =>
  (ferry_Fill r2.1 r1.1).bind fun r3 =>
  (wl_asks r1.1 600).bind fun r4 =>
  (ferry_Fill r4.1 r1.1).bind fun r5 =>
  (ferry_New).bind fun r6 =>
  (ferry_Take (r3.1.1.1, r3.1.1.2.1, r3.1.1.2.2.1, r3.1.1.2.2.2.1, r3.1.1.2.2.2.2.1, r3.1.1.2.2.2.2.2.1, r3.1.1.2.2.2.2.2.2.1, r3.1.1.2.2.2.2.2.2.2.1, r3.1.1.2.2.2.2.2.2.2.2.1, (), r3.1.1.2.2.2.2.2.2.2.2.2.2.1, r3.1.1.2.2.2.2.2.2.2.2.2.2.2.1, r3.1.1.2.2.2.2.2.2.2.2.2.2.2.2.1, r3.1.1.2.2.2.2.2.2.2.2.2.2.2.2.2.1, r3.1.1.2.2.2.2.2.2.2.2.2.2.2.2.2.2.1, r3.1.1.2.2.2.2.2.2.2.2.2.2.2.2.2.2.2.1, r3.1.1.2.2.2.2.2.2.2.2.2.2.2.2.2.2.2.2.1, r3.1.1.2.2.2.2.2.2.2.2.2.2.2.2.2.2.2.2.2.1, r3.1.1.2.2.2.2.2.2.2.2.2.2.2.2.2.2.2.2.2.2.1, r3.1.1.2.2.2.2.2.2.2.2.2.2.2.2.2.2.2.2.2.2.2.1, ()) (r6.2.1.1, r6.2.1.2.1, r6.2.1.2.2.1, r6.2.1.2.2.2.1, r6.2.1.2.2.2.2.1, r6.2.1.2.2.2.2.2.1, r6.2.1.2.2.2.2.2.2.1, ()) r3.2.1 r3.2.2.1 r3.2.2.2.1 r3.2.2.2.2.1 r3.2.2.2.2.2.1 r6.2.2.1).bind fun r7 =>
  (ferry_Take (r5.1.1.1, r5.1.1.2.1, r5.1.1.2.2.1, r5.1.1.2.2.2.1, r5.1.1.2.2.2.2.1, r5.1.1.2.2.2.2.2.1, r5.1.1.2.2.2.2.2.2.1, r5.1.1.2.2.2.2.2.2.2.1, r5.1.1.2.2.2.2.2.2.2.2.1, (), r5.1.1.2.2.2.2.2.2.2.2.2.2.1, r5.1.1.2.2.2.2.2.2.2.2.2.2.2.1, r5.1.1.2.2.2.2.2.2.2.2.2.2.2.2.1, r5.1.1.2.2.2.2.2.2.2.2.2.2.2.2.2.1, r5.1.1.2.2.2.2.2.2.2.2.2.2.2.2.2.2.1, r5.1.1.2.2.2.2.2.2.2.2.2.2.2.2.2.2.2.1, r5.1.1.2.2.2.2.2.2.2.2.2.2.2.2.2.2.2.2.1, r5.1.1.2.2.2.2.2.2.2.2.2.2.2.2.2.2.2.2.2.1, r5.1.1.2.2.2.2.2.2.2.2.2.2.2.2.2.2.2.2.2.2.1, r5.1.1.2.2.2.2.2.2.2.2.2.2.2.2.2.2.2.2.2.2.2.1, ()) (r7.2.1.1, r7.2.1.2.1, r7.2.1.2.2.1, r7.2.1.2.2.2.1, r7.2.1.2.2.2.2.1, r7.2.1.2.2.2.2.2.1, r7.2.1.2.2.2.2.2.2.1, ()) r5.2.1 r5.2.2.1 r5.2.2.2.1 r5.2.2.2.2.1 r5.2.2.2.2.2.1 r7.2.2.2.2.2.2.2.2.2.2.2.2.2.1).bind fun r8 =>
  (bif r3.1.2.1 then
  (bif r5.1.2.1 then
  (bif (decide ((((r3.1.1.2.2.2.2.2.2.2.2.2.2.2.2.2.2.2.2.2.2.2.1 : Nat) : Int) : Int) = 600)) then
  (bif (decide ((((r5.1.1.2.2.2.2.2.2.2.2.2.2.2.2.2.2.2.2.2.2.2.1 : Nat) : Int) : Int) = 400)) then
  (bif (decide ((r7.1.1 : Int) = 600)) then
  (bif (!r7.1.2.1) then
  (bif (decide ((r8.1.1 : Int) = 1000)) then
  (bif r8.1.2.1 then
  (wk_SameImage r1.1 (r8.1.2.2.1.1, r8.1.2.2.1.2.1, r8.1.2.2.1.2.2.1, r8.1.2.2.1.2.2.2.1, r8.1.2.2.1.2.2.2.2.1, r8.1.2.2.1.2.2.2.2.2.1, r8.1.2.2.1.2.2.2.2.2.2.1, ()) r8.2.2.2.2.2.2.2.2.1 r8.2.2.2.2.2.2.2.2.2.1 r8.2.2.2.2.2.2.2.2.2.2.1 r8.2.2.2.2.2.2.2.2.2.2.2.1 r8.2.2.2.2.2.2.2.2.2.2.2.2.1).bind fun r9 =>
  some (r9.1, ())
  else
  some (false, ()))
  else
  some (false, ()))
  else
  some (false, ()))
  else
  some (false, ()))
  else
  some (false, ()))
  else
  some (false, ()))
  else
  some (false, ()))
  else
  some (false, ()))
def wl_awake_ce : CEp where
  f := 7
  args := []
  hs := []
  res := .val (.one (.bool))
  outs := []
  m := fun d dh => wl_awake
  ok := ce_ok mixedP Try.func7 (by kernel_rfl) (orcOf_ok wl_awake_tb) (dr := wl_awake_dr) (lps := lpsOf lt0) (lps_fn (no_loop (by kernel_rfl))) (fun d dh => by kernel_rfl)

def wk_ConfigOf_tb : List (CEp) := []
def wk_ConfigOf (x0 : DConfig) : Option (Int × Unit) :=
  let y1 : Int := (IntKind.i64.wrap ((IntKind.i64.wrap ((IntKind.i64.wrap ((IntKind.i64.wrap (1 + (x0.voters.length : Int))) + (x0.old.length : Int))) + (x0.learners.length : Int))) + (x0.want.length : Int)))
  some (y1, ())
def wk_ConfigOf_ce : CEp where
  f := 9
  args := [.cod 13]
  hs := []
  res := .val (.one (.int .i64))
  outs := []
  m := fun d dh => wk_ConfigOf d.1
  ok := ceO Try.func9 (by kernel_rfl) wk_ConfigOf_tb (by kernel_rfl) fun d dh => by kernel_rfl

def wk_EntriesOf_dr : Nat → Nat → DrA
  | 5, _ => ⟨(List.range 6 ++ [10, 11, 12, 13, 6, 7, 8, 9, 14, 15, 16, 17]), [[], [0], [], [], [2, 3], [2, 3, 4], [2, 3, 4, 5], [2, 3, 4, 5, 6], [2, 3, 4, 5, 6, 7], (List.range 9), [], [], [10, 11], [10, 11, 12], [10, 11, 12, 13], [10, 11, 12, 13, 14], (List.range 16), (List.range 17)], [6], [15], [], false, []⟩
  | _, _ => ⟨[], [], [], [], [], false, []⟩
def wk_EntriesOf_tb : List (CEp) := [wk_ConfigOf_ce]
def wk_EntriesOf_l1 (a : ((List (DEntry)) × Int × Int × Int × Unit) × Unit) : Option ((((List (DEntry)) × Int × Int × Int × Unit) × Unit) ⊕ (((Int × Unit) × Unit))) :=
  (bif (decide ((a.1.2.2.2.1 : Int) < (a.1.1.length : Int))) then
  (bif (decide ((a.1.2.2.1 : Int) ≤ a.1.2.1)) then
  (getI a.1.1 a.1.2.2.2.1).bind fun e1 =>
  (getI a.1.1 a.1.2.2.2.1).bind fun e2 =>
  (wk_ConfigOf e2.config).bind fun r3 =>
  let y4 : Int := (IntKind.i64.wrap ((IntKind.i64.wrap ((IntKind.i64.wrap (a.1.2.2.1 + 1)) + (IntKind.i64.wrap (((e1.command.length : Int) : Int).tdiv 8)))) + r3.1))
  some (.inl ((a.1.1, a.1.2.1, y4, (IntKind.i64.wrap (a.1.2.2.2.1 + 1)), ()), ()))
  else
  some (.inr ((a.1.2.2.1, ()), ())))
  else
  some (.inr ((a.1.2.2.1, ()), ())))
def wk_EntriesOf_e1 : LEp := ⟨3, [0, 1, 5, 6], [.one (.sl 18), .one (.int .i64), .one (.int .i64), .one (.int .i64)], [], [⟨.exit 0, [5], [.one (.int .i64)], []⟩], wk_EntriesOf_l1⟩
def wk_EntriesOf_lt : List (LEp) := [wk_EntriesOf_e1]
theorem wk_EntriesOf_e1_ok : LeOk wk_EntriesOf_e1 (nthL (bodyOf Try.f49) 0) := fun A env h k z hk => le_ok (E := wk_EntriesOf_e1) (orcOf_ok wk_EntriesOf_tb) (dr := wk_EntriesOf_dr) (lps := lpsOf wk_EntriesOf_lt) (no_loop (by kernel_rfl)) (fun a => by kernel_rfl) env h k z hk
def wk_EntriesOf (x0 : List (DEntry)) (x1 : Int) : Option (Int × Unit) :=
  (loopM wk_EntriesOf_l1 ((x0, x1, 0, 0, ()), ())).bind fun b1 =>
  some (b1.1.1, ())
def wk_EntriesOf_ce : CEp where
  f := 49
  args := [.one (.sl 18), .one (.int .i64)]
  hs := []
  res := .val (.one (.int .i64))
  outs := []
  m := fun d dh => wk_EntriesOf d.1 d.2.1
  ok := ce_ok mixedP Try.func49 (by kernel_rfl) (orcOf_ok wk_EntriesOf_tb) (dr := wk_EntriesOf_dr) (lps := lpsOf wk_EntriesOf_lt) (lps_fn (lps_of (n := 1) (by kernel_rfl) fun i hi => match i, hi with | 0, _ => lp_ok (E := wk_EntriesOf_e1) (by kernel_rfl) wk_EntriesOf_e1_ok)) (fun d dh => by kernel_rfl)

def wk_LetterOf_dr : Nat → Nat → DrA
  | 1, _ => ⟨[0, 5, 6, 10, 12, 1, 2, 3, 4, 7, 11, 8, 9, 13, 14, 15], [[], [0], [0, 1], [0, 1, 2], [0, 1, 2, 3], [], [5], [5, 6], [5, 6, 7], (List.range 9), [], [10], [], [5, 6, 7, 8, 10, 11, 12], (List.range 14), (List.range 15)], [1, 11], [8, 13], [0], false, []⟩
  | _, _ => ⟨[], [], [], [], [], false, []⟩
def wk_LetterOf_tb : List (CEp) := [wk_ConfigOf_ce, wk_EntriesOf_ce]
def wk_LetterOf (x0 : DLetter) (x1 : Int) : Option (Int × Unit) :=
  (wk_ConfigOf x0.base.config).bind fun r1 =>
  (wk_EntriesOf x0.entries x1).bind fun r2 =>
  let y3 : Int := (IntKind.i64.wrap ((IntKind.i64.wrap ((IntKind.i64.wrap (1 + (IntKind.i64.wrap (((x0.bytes.length : Int) : Int).tdiv 8)))) + r1.1)) + r2.1))
  some (y3, ())
def wk_LetterOf_ce : CEp where
  f := 29
  args := [.cod 20, .one (.int .i64)]
  hs := []
  res := .val (.one (.int .i64))
  outs := []
  m := fun d dh => wk_LetterOf d.1 d.2.1
  ok := ce_ok mixedP Try.func29 (by kernel_rfl) (orcOf_ok wk_LetterOf_tb) (dr := wk_LetterOf_dr) (lps := lpsOf lt0) (lps_fn (no_loop (by kernel_rfl))) (fun d dh => by kernel_rfl)

def wl_great_tb : List (CEp) := [wk_LetterOf_ce]
def wl_great_l1 (a : ((List (DLetter)) × Int × Unit) × Unit) : Option ((((List (DLetter)) × Int × Unit) × Unit) ⊕ (((Bool × Unit) × Unit) ⊕ (((List (DLetter)) × Unit) × Unit))) :=
  (bif (decide ((a.1.2.1 : Int) < (a.1.1.length : Int))) then
  (bif (decide ((a.1.2.1 : Int) < 61)) then
  (getI a.1.1 a.1.2.1).bind fun e1 =>
  (wk_LetterOf e1 8000).bind fun r2 =>
  (bif (decide ((8000 : Int) < r2.1)) then
  some (.inr (.inl ((true, ()), ())))
  else
  some (.inl ((a.1.1, (IntKind.i64.wrap (a.1.2.1 + 1)), ()), ())))
  else
  some (.inr (.inr ((a.1.1, ()), ()))))
  else
  some (.inr (.inr ((a.1.1, ()), ()))))
def wl_great_e1 : LEp := ⟨2, [0, 3], [.one (.sl 20), .one (.int .i64)], [], [⟨.ret, [2], [.one (.bool)], []⟩, ⟨.exit 0, [0], [.one (.sl 20)], []⟩], wl_great_l1⟩
def wl_great_lt : List (LEp) := [wl_great_e1]
theorem wl_great_e1_ok : LeOk wl_great_e1 (nthL (bodyOf Try.f8) 0) := fun A env h k z hk => le_ok (E := wl_great_e1) (orcOf_ok wl_great_tb) (dr := dr0) (lps := lpsOf wl_great_lt) (no_loop (by kernel_rfl)) (fun a => by kernel_rfl) env h k z hk
def wl_great (x0 : List (DLetter)) : Option (Bool × Unit) :=
  (loopM wl_great_l1 ((x0, 0, ()), ())).bind fun b1 =>
  (match b1 with
  | .inl b2 =>
  some (b2.1.1, ())
  | .inr b3 =>
  some ((decide ((60 : Int) < (b3.1.1.length : Int))), ()))
def wl_great_ce : CEp where
  f := 8
  args := [.one (.sl 20)]
  hs := []
  res := .val (.one (.bool))
  outs := []
  m := fun d dh => wl_great d.1
  ok := ce_ok mixedP Try.func8 (by kernel_rfl) (orcOf_ok wl_great_tb) (dr := dr0) (lps := lpsOf wl_great_lt) (lps_fn (lps_of (n := 1) (by kernel_rfl) fun i hi => match i, hi with | 0, _ => lp_ok (E := wl_great_e1) (by kernel_rfl) wl_great_e1_ok)) (fun d dh => by kernel_rfl)

def wk_LentBytes_tb : List (CEp) := [wk_markByte_ce]
def wk_LentBytes_l1 (a : (LB × (Nat × Nat × Nat) × Int × Unit) × (LB × Unit)) : Option (((LB × (Nat × Nat × Nat) × Int × Unit) × (LB × Unit)) ⊕ (((LB × (Nat × Nat × Nat) × Unit) × (LB × Unit)))) :=
  (bif (decide ((a.1.2.2.1 : Int) < 12)) then
  (wk_markByte 1 a.1.2.2.1).bind fun r1 =>
  (b8 r1.1).bind fun u2 =>
  (if (a.1.2.1.2.1 + ([u2] : LB).length) ≤ 140737488355328 ∧ (a.1.2.1.2.1 + ([u2] : LB).length) * 1 ≤ 140737488355328 ∧ a.1.2.1.1 + a.1.2.1.2.1 ≤ a.2.1.length then
  (if (a.1.2.1.2.1 + ([u2] : LB).length) ≤ a.1.2.1.2.2 then
  let y3 : LB := (a.2.1.take (a.1.2.1.1 + a.1.2.1.2.1) ++ ([u2] : LB) ++ a.2.1.drop (a.1.2.1.1 + a.1.2.1.2.1 + ([u2] : LB).length))
  some (.inl ((a.1.1, (a.1.2.1.1, (a.1.2.1.2.1 + ([u2] : LB).length), a.1.2.1.2.2), (IntKind.i64.wrap (a.1.2.2.1 + 1)), ()), (y3, ())))
  else none)
  else none)
  else
  some (.inr ((a.1.1, (a.1.2.1.1, a.1.2.1.2.1, a.1.2.1.2.2), ()), (a.2.1, ()))))
def wk_LentBytes_e1 : LEp := ⟨4, [0, 3, 4], [.one (.sl 1), .one (.as 1 0), .one (.int .i64)], [.arr 5 1 true], [⟨.exit 0, [0, 3], [.one (.sl 1), .one (.as 1 0)], [.arr 5 1 true]⟩], wk_LentBytes_l1⟩
def wk_LentBytes_lt : List (LEp) := [wk_LentBytes_e1]
theorem wk_LentBytes_e1_ok : LeOk wk_LentBytes_e1 (nthL (bodyOf Try.f32) 0) := fun A env h k z hk => le_ok (E := wk_LentBytes_e1) (orcOf_ok wk_LentBytes_tb) (dr := dr0) (lps := lpsOf wk_LentBytes_lt) (no_loop (by kernel_rfl)) (fun a => by kernel_rfl) env h k z hk
def wk_LentBytes (x0 : LB) : Option ((Nat × Nat × Nat) × (LB × Unit)) :=
  (if 0 ≤ (0 : Int) ∧ (0 : Int) ≤ (IntKind.i64.wrap ((x0.length : Int) + 12)) ∧ ((IntKind.i64.wrap ((x0.length : Int) + 12)) : Int) ≤ 140737488355328 ∧ ((1 : Nat) : Int) * (IntKind.i64.wrap ((x0.length : Int) + 12)) ≤ 140737488355328 then
  let y1 : LB := (List.replicate ((IntKind.i64.wrap ((x0.length : Int) + 12)) : Int).toNat (0 : UInt8))
  (if ((0 : Int).toNat + x0.length) ≤ 140737488355328 ∧ ((0 : Int).toNat + x0.length) * 1 ≤ 140737488355328 ∧ 0 + (0 : Int).toNat ≤ y1.length then
  (if ((0 : Int).toNat + x0.length) ≤ ((IntKind.i64.wrap ((x0.length : Int) + 12)) : Int).toNat then
  let y2 : LB := (y1.take (0 + (0 : Int).toNat) ++ x0 ++ y1.drop (0 + (0 : Int).toNat + x0.length))
  (loopM wk_LentBytes_l1 ((x0, (0, ((0 : Int).toNat + x0.length), ((IntKind.i64.wrap ((x0.length : Int) + 12)) : Int).toNat), 0, ()), (y2, ()))).bind fun b3 =>
  (if 0 ≤ ((0 : Int) : Int) ∧ ((0 : Int) : Int) ≤ ((b3.1.1.length : Int) : Int) ∧ ((b3.1.1.length : Int) : Int) ≤ ((b3.1.2.1.2.2 : Nat) : Int) ∧ ((b3.1.1.length : Int) : Int) ≤ 140737488355328 then
  some (((b3.1.2.1.1 + (0 : Int).toNat), (((b3.1.1.length : Int) : Int).toNat - (0 : Int).toNat), (b3.1.2.1.2.2 - (0 : Int).toNat)), (b3.2.1, ()))
  else none)
  else none)
  else none)
  else none)
def wk_LentBytes_ce : CEp where
  f := 32
  args := [.one (.sl 1)]
  hs := []
  res := .val (.one (.as 1 0))
  outs := [.arr 5 1 false]
  m := fun d dh => wk_LentBytes d.1
  ok := ce_ok mixedP Try.func32 (by kernel_rfl) (orcOf_ok wk_LentBytes_tb) (dr := dr0) (lps := lpsOf wk_LentBytes_lt) (lps_fn (lps_of (n := 1) (by kernel_rfl) fun i hi => match i, hi with | 0, _ => lp_ok (E := wk_LentBytes_e1) (by kernel_rfl) wk_LentBytes_e1_ok)) (fun d dh => by kernel_rfl)

def wk_LentInts_tb : List (CEp) := [wk_mark_ce]
def wk_LentInts_l1 (a : (LI × (Nat × Nat × Nat) × Int × Unit) × (LI × Unit)) : Option (((LI × (Nat × Nat × Nat) × Int × Unit) × (LI × Unit)) ⊕ (((LI × (Nat × Nat × Nat) × Unit) × (LI × Unit)))) :=
  (bif (decide ((a.1.2.2.1 : Int) < 12)) then
  (wk_mark 1 a.1.2.2.1).bind fun r1 =>
  (if (a.1.2.1.2.1 + ([r1.1] : LI).length) ≤ 140737488355328 ∧ (a.1.2.1.2.1 + ([r1.1] : LI).length) * 8 ≤ 140737488355328 ∧ a.1.2.1.1 + a.1.2.1.2.1 ≤ a.2.1.length then
  (if (a.1.2.1.2.1 + ([r1.1] : LI).length) ≤ a.1.2.1.2.2 then
  let y2 : LI := (a.2.1.take (a.1.2.1.1 + a.1.2.1.2.1) ++ ([r1.1] : LI) ++ a.2.1.drop (a.1.2.1.1 + a.1.2.1.2.1 + ([r1.1] : LI).length))
  some (.inl ((a.1.1, (a.1.2.1.1, (a.1.2.1.2.1 + ([r1.1] : LI).length), a.1.2.1.2.2), (IntKind.i64.wrap (a.1.2.2.1 + 1)), ()), (y2, ())))
  else none)
  else none)
  else
  some (.inr ((a.1.1, (a.1.2.1.1, a.1.2.1.2.1, a.1.2.1.2.2), ()), (a.2.1, ()))))
def wk_LentInts_e1 : LEp := ⟨4, [0, 3, 4], [.one (.sl 0), .one (.as 0 0), .one (.int .i64)], [.arr 3 0 true], [⟨.exit 0, [0, 3], [.one (.sl 0), .one (.as 0 0)], [.arr 3 0 true]⟩], wk_LentInts_l1⟩
def wk_LentInts_lt : List (LEp) := [wk_LentInts_e1]
theorem wk_LentInts_e1_ok : LeOk wk_LentInts_e1 (nthL (bodyOf Try.f65) 0) := fun A env h k z hk => le_ok (E := wk_LentInts_e1) (orcOf_ok wk_LentInts_tb) (dr := dr0) (lps := lpsOf wk_LentInts_lt) (no_loop (by kernel_rfl)) (fun a => by kernel_rfl) env h k z hk
def wk_LentInts (x0 : LI) : Option ((Nat × Nat × Nat) × (LI × Unit)) :=
  (if 0 ≤ (0 : Int) ∧ (0 : Int) ≤ (IntKind.i64.wrap ((x0.length : Int) + 12)) ∧ ((IntKind.i64.wrap ((x0.length : Int) + 12)) : Int) ≤ 140737488355328 ∧ ((8 : Nat) : Int) * (IntKind.i64.wrap ((x0.length : Int) + 12)) ≤ 140737488355328 then
  let y1 : LI := (List.replicate ((IntKind.i64.wrap ((x0.length : Int) + 12)) : Int).toNat (0 : Int))
  (if ((0 : Int).toNat + x0.length) ≤ 140737488355328 ∧ ((0 : Int).toNat + x0.length) * 8 ≤ 140737488355328 ∧ 0 + (0 : Int).toNat ≤ y1.length then
  (if ((0 : Int).toNat + x0.length) ≤ ((IntKind.i64.wrap ((x0.length : Int) + 12)) : Int).toNat then
  let y2 : LI := (y1.take (0 + (0 : Int).toNat) ++ x0 ++ y1.drop (0 + (0 : Int).toNat + x0.length))
  (loopM wk_LentInts_l1 ((x0, (0, ((0 : Int).toNat + x0.length), ((IntKind.i64.wrap ((x0.length : Int) + 12)) : Int).toNat), 0, ()), (y2, ()))).bind fun b3 =>
  (if 0 ≤ ((0 : Int) : Int) ∧ ((0 : Int) : Int) ≤ ((b3.1.1.length : Int) : Int) ∧ ((b3.1.1.length : Int) : Int) ≤ ((b3.1.2.1.2.2 : Nat) : Int) ∧ ((b3.1.1.length : Int) : Int) ≤ 140737488355328 then
  some (((b3.1.2.1.1 + (0 : Int).toNat), (((b3.1.1.length : Int) : Int).toNat - (0 : Int).toNat), (b3.1.2.1.2.2 - (0 : Int).toNat)), (b3.2.1, ()))
  else none)
  else none)
  else none)
  else none)
def wk_LentInts_ce : CEp where
  f := 65
  args := [.one (.sl 0)]
  hs := []
  res := .val (.one (.as 0 0))
  outs := [.arr 3 0 false]
  m := fun d dh => wk_LentInts d.1
  ok := ce_ok mixedP Try.func65 (by kernel_rfl) (orcOf_ok wk_LentInts_tb) (dr := dr0) (lps := lpsOf wk_LentInts_lt) (lps_fn (lps_of (n := 1) (by kernel_rfl) fun i hi => match i, hi with | 0, _ => lp_ok (E := wk_LentInts_e1) (by kernel_rfl) wk_LentInts_e1_ok)) (fun d dh => by kernel_rfl)

def wk_LentConfig_tb : List (CEp) := [wk_LentInts_ce]
def wk_LentConfig (x0 : DConfig) : Option (((Nat × Nat × Nat) × (Nat × Nat × Nat) × (Nat × Nat × Nat) × (Nat × Nat × Nat) × Unit) × (LI × LI × LI × LI × Unit)) :=
  (wk_LentInts x0.voters).bind fun r1 =>
  (wk_LentInts x0.old).bind fun r2 =>
  (wk_LentInts x0.learners).bind fun r3 =>
  (wk_LentInts x0.want).bind fun r4 =>
  some (((r1.1.1, r1.1.2.1, r1.1.2.2), (r2.1.1, r2.1.2.1, r2.1.2.2), (r3.1.1, r3.1.2.1, r3.1.2.2), (r4.1.1, r4.1.2.1, r4.1.2.2), ()), (r1.2.1, r2.2.1, r3.2.1, r4.2.1, ()))
def wk_LentConfig_ce : CEp where
  f := 52
  args := [.cod 13]
  hs := []
  res := .val (.agg [.as 0 0, .as 0 1, .as 0 2, .as 0 3])
  outs := [.arr 3 0 false, .arr 3 0 false, .arr 3 0 false, .arr 3 0 false]
  m := fun d dh => wk_LentConfig d.1
  ok := ceO Try.func52 (by kernel_rfl) wk_LentConfig_tb (by kernel_rfl) fun d dh => by kernel_rfl

def wk_LentEntry_tb : List (CEp) := [wk_LentBytes_ce, wk_LentConfig_ce]
def wk_LentEntry (x0 : DEntry) : Option ((Int × Int × (Nat × Nat × Nat) × (Nat × Nat × Nat) × (Nat × Nat × Nat) × (Nat × Nat × Nat) × (Nat × Nat × Nat) × Unit) × (LB × LI × LI × LI × LI × Unit)) :=
  (wk_LentBytes x0.command).bind fun r1 =>
  (wk_LentConfig x0.config).bind fun r2 =>
  some ((x0.term_, x0.kind, (r1.1.1, r1.1.2.1, r1.1.2.2), (r2.1.1.1, r2.1.1.2.1, r2.1.1.2.2), (r2.1.2.1.1, r2.1.2.1.2.1, r2.1.2.1.2.2), (r2.1.2.2.1.1, r2.1.2.2.1.2.1, r2.1.2.2.1.2.2), (r2.1.2.2.2.1.1, r2.1.2.2.2.1.2.1, r2.1.2.2.2.1.2.2), ()), (r1.2.1, r2.2.1, r2.2.2.1, r2.2.2.2.1, r2.2.2.2.2.1, ()))
def wk_LentEntry_ce : CEp where
  f := 50
  args := [.cod 18]
  hs := []
  res := .val (.agg [.int .i64, .int .u8, .as 1 0, .as 0 1, .as 0 2, .as 0 3, .as 0 4])
  outs := [.arr 5 1 false, .arr 3 0 false, .arr 3 0 false, .arr 3 0 false, .arr 3 0 false]
  m := fun d dh => wk_LentEntry d.1
  ok := ceO Try.func50 (by kernel_rfl) wk_LentEntry_tb (by kernel_rfl) fun d dh => by kernel_rfl

def wk_markEntry_tb : List (CEp) := [wk_mark_ce]
def wk_markEntry (x0 : Int) (x1 : Int) : Option ((Int × Int × Unit × Unit × Unit × Unit × Unit × Unit) × Unit) :=
  (wk_mark x0 x1).bind fun r1 =>
  some ((r1.1, 0, (), (), (), (), (), ()), ())
def wk_markEntry_ce : CEp where
  f := 51
  args := [.one (.int .i64), .one (.int .i64)]
  hs := []
  res := .val (.agg [.int .i64, .int .u8, .nil, .nil, .nil, .nil, .nil])
  outs := []
  m := fun d dh => wk_markEntry d.1 d.2.1
  ok := ceO Try.func51 (by kernel_rfl) wk_markEntry_tb (by kernel_rfl) fun d dh => by kernel_rfl

def wk_LentEntries_tb : List (CEp) := [wk_LentEntry_ce, wk_markEntry_ce]
def wk_LentEntries_l1 (a : ((List (DEntry)) × (Nat × Nat × Nat × Unit) × Int × Unit) × ((List (DEntryX)) × Unit)) : Option ((((List (DEntry)) × (Nat × Nat × Nat × Unit) × Int × Unit) × ((List (DEntryX)) × Unit)) ⊕ ((((List (DEntry)) × (Nat × Nat × Nat × Unit) × Unit) × (Unit × (List (DEntryX)) × Unit)))) :=
  (bif (decide ((a.1.2.2.1 : Int) < (a.1.1.length : Int))) then
  (getI a.1.1 a.1.2.2.1).bind fun e1 =>
  (wk_LentEntry e1).bind fun r2 =>
  (if true = true ∧ r2.1.2.2.1.1 = 0 ∧ r2.2.1.length = r2.1.2.2.1.2.2 ∧ r2.1.2.2.1.2.1 ≤ r2.1.2.2.1.2.2 ∧ 0 < r2.1.2.2.1.2.2 then
  (if true = true ∧ r2.1.2.2.2.1.1 = 0 ∧ r2.2.2.1.length = r2.1.2.2.2.1.2.2 ∧ r2.1.2.2.2.1.2.1 ≤ r2.1.2.2.2.1.2.2 ∧ 0 < r2.1.2.2.2.1.2.2 then
  (if true = true ∧ r2.1.2.2.2.2.1.1 = 0 ∧ r2.2.2.2.1.length = r2.1.2.2.2.2.1.2.2 ∧ r2.1.2.2.2.2.1.2.1 ≤ r2.1.2.2.2.2.1.2.2 ∧ 0 < r2.1.2.2.2.2.1.2.2 then
  (if true = true ∧ r2.1.2.2.2.2.2.1.1 = 0 ∧ r2.2.2.2.2.1.length = r2.1.2.2.2.2.2.1.2.2 ∧ r2.1.2.2.2.2.2.1.2.1 ≤ r2.1.2.2.2.2.2.1.2.2 ∧ 0 < r2.1.2.2.2.2.2.1.2.2 then
  (if true = true ∧ r2.1.2.2.2.2.2.2.1.1 = 0 ∧ r2.2.2.2.2.2.1.length = r2.1.2.2.2.2.2.2.1.2.2 ∧ r2.1.2.2.2.2.2.2.1.2.1 ≤ r2.1.2.2.2.2.2.2.1.2.2 ∧ 0 < r2.1.2.2.2.2.2.2.1.2.2 then
  (if a.1.2.1.1 = 0 ∧ a.1.2.1.2.1 < a.1.2.1.2.2.1 then
  some (.inl ((a.1.1, (0, (a.1.2.1.2.1 + 1), a.1.2.1.2.2.1, ()), (IntKind.i64.wrap (a.1.2.2.1 + 1)), ()), ((a.2.1.set a.1.2.1.2.1 (⟨r2.1.1, r2.1.2.1, ((r2.2.1.take r2.1.2.2.1.2.1), (r2.2.1.drop r2.1.2.2.1.2.1)), (⟨((r2.2.2.1.take r2.1.2.2.2.1.2.1), (r2.2.2.1.drop r2.1.2.2.2.1.2.1)), ((r2.2.2.2.1.take r2.1.2.2.2.2.1.2.1), (r2.2.2.2.1.drop r2.1.2.2.2.2.1.2.1)), ((r2.2.2.2.2.1.take r2.1.2.2.2.2.2.1.2.1), (r2.2.2.2.2.1.drop r2.1.2.2.2.2.2.1.2.1)), ((r2.2.2.2.2.2.1.take r2.1.2.2.2.2.2.2.1.2.1), (r2.2.2.2.2.2.1.drop r2.1.2.2.2.2.2.2.1.2.1))⟩ : DConfigX)⟩ : DEntryX)), ())))
  else none)
  else none)
  else none)
  else none)
  else none)
  else none)
  else
  some (.inr ((a.1.1, (a.1.2.1.1, a.1.2.1.2.1, a.1.2.1.2.2.1, ()), ()), ((), a.2.1, ()))))
def wk_LentEntries_e1 : LEp := ⟨3, [0, 3, 4], [.one (.sl 18), .one (.gv 0 28 3), .one (.int .i64)], [.gen 8 false], [⟨.exit 0, [0, 3], [.one (.sl 18), .one (.gv 1 28 3)], [.dead, .gen 8 false]⟩], wk_LentEntries_l1⟩
def wk_LentEntries_l2 (a : ((List (DEntry)) × (Nat × Nat × Nat × Unit) × Int × Unit) × ((List (DEntryX)) × Unit)) : Option ((((List (DEntry)) × (Nat × Nat × Nat × Unit) × Int × Unit) × ((List (DEntryX)) × Unit)) ⊕ ((((List (DEntry)) × (Nat × Nat × Nat × Unit) × Unit) × (Unit × (List (DEntryX)) × Unit)))) :=
  (bif (decide ((a.1.2.2.1 : Int) < 12)) then
  (wk_markEntry 1 a.1.2.2.1).bind fun r1 =>
  (if a.1.2.1.1 = 0 ∧ a.1.2.1.2.1 < a.1.2.1.2.2.1 then
  some (.inl ((a.1.1, (0, (a.1.2.1.2.1 + 1), a.1.2.1.2.2.1, ()), (IntKind.i64.wrap (a.1.2.2.1 + 1)), ()), ((a.2.1.set a.1.2.1.2.1 (⟨r1.1.1, r1.1.2.1, ([], []), (⟨([], []), ([], []), ([], []), ([], [])⟩ : DConfigX)⟩ : DEntryX)), ())))
  else none)
  else
  some (.inr ((a.1.1, (a.1.2.1.1, a.1.2.1.2.1, a.1.2.1.2.2.1, ()), ()), ((), a.2.1, ()))))
def wk_LentEntries_e2 : LEp := ⟨8, [0, 3, 6], [.one (.sl 18), .one (.gv 0 28 3), .one (.int .i64)], [.gen 8 false], [⟨.exit 2, [0, 3], [.one (.sl 18), .one (.gv 1 28 3)], [.dead, .gen 8 false]⟩], wk_LentEntries_l2⟩
def wk_LentEntries_lt : List (LEp) := [wk_LentEntries_e1, wk_LentEntries_e2]
theorem wk_LentEntries_e1_ok : LeOk wk_LentEntries_e1 (nthL (bodyOf Try.f30) 0) := fun A env h k z hk => le_ok (E := wk_LentEntries_e1) (orcOfX_ok HK1 wk_LentEntries_tb) (dr := dr0) (lps := lpsOf wk_LentEntries_lt) (no_loop (by kernel_rfl)) (fun a => by kernel_rfl) env h k z hk
theorem wk_LentEntries_e2_ok : LeOk wk_LentEntries_e2 (nthL (bodyOf Try.f30) 1) := fun A env h k z hk => le_ok (E := wk_LentEntries_e2) (orcOfX_ok HK1 wk_LentEntries_tb) (dr := dr0) (lps := lpsOf wk_LentEntries_lt) (no_loop (by kernel_rfl)) (fun a => by kernel_rfl) env h k z hk
def wk_LentEntries (x0 : List (DEntry)) : Option ((Nat × Nat × Nat × Unit) × ((List (DEntryX)) × Unit)) :=
  (if 0 ≤ (0 : Int) ∧ (0 : Int) ≤ (IntKind.i64.wrap ((x0.length : Int) + 12)) ∧ 0 < ((IntKind.i64.wrap ((x0.length : Int) + 12)) : Int) ∧ ((IntKind.i64.wrap ((x0.length : Int) + 12)) : Int) ≤ 140737488355328 ∧ ((136 : Nat) : Int) * (IntKind.i64.wrap ((x0.length : Int) + 12)) ≤ 140737488355328 then
  (loopM wk_LentEntries_l1 ((x0, (0, (0 : Int).toNat, ((IntKind.i64.wrap ((x0.length : Int) + 12)) : Int).toNat, ()), 0, ()), ((List.replicate ((IntKind.i64.wrap ((x0.length : Int) + 12)) : Int).toNat (⟨0, 0, ([], []), (⟨([], []), ([], []), ([], []), ([], [])⟩ : DConfigX)⟩ : DEntryX)), ()))).bind fun b1 =>
  (loopM wk_LentEntries_l2 ((b1.1.1, (b1.1.2.1.1, b1.1.2.1.2.1, b1.1.2.1.2.2.1, ()), 0, ()), (b1.2.2.1, ()))).bind fun b2 =>
  (if 0 ≤ (0 : Int) ∧ (0 : Int) ≤ ((b2.1.1.length : Int) : Int) ∧ ((b2.1.1.length : Int) : Int) ≤ ((b2.1.2.1.2.2.1 - b2.1.2.1.1 : Nat) : Int) ∧ (0 : Int) < ((b2.1.2.1.2.2.1 - b2.1.2.1.1 : Nat) : Int) then
  some (((b2.1.2.1.1 + (0 : Int).toNat), (((b2.1.1.length : Int) : Int).toNat - (0 : Int).toNat), b2.1.2.1.2.2.1, ()), (b2.2.2.1, ()))
  else none)
  else none)
def wk_LentEntries_ce : CEp where
  f := 30
  args := [.one (.sl 18)]
  hs := []
  res := .val (.one (.gv 0 28 3))
  outs := [.gen 8 false]
  m := fun d dh => wk_LentEntries d.1
  ok := ce_ok mixedP Try.func30 (by kernel_rfl) (orcOfX_ok HK1 wk_LentEntries_tb) (dr := dr0) (lps := lpsOf wk_LentEntries_lt) (lps_fn (lps_of (n := 2) (by kernel_rfl) fun i hi => match i, hi with | 0, _ => lp_ok (E := wk_LentEntries_e1) (by kernel_rfl) wk_LentEntries_e1_ok | 1, _ => lp_ok (E := wk_LentEntries_e2) (by kernel_rfl) wk_LentEntries_e2_ok)) (fun d dh => by kernel_rfl)

def wk_LentBase_tb : List (CEp) := [wk_LentConfig_ce]
def wk_LentBase (x0 : DBase) : Option ((Int × Int × (Nat × Nat × Nat) × (Nat × Nat × Nat) × (Nat × Nat × Nat) × (Nat × Nat × Nat) × Unit) × (LI × LI × LI × LI × Unit)) :=
  (wk_LentConfig x0.config).bind fun r1 =>
  some ((x0.index, x0.term_, (r1.1.1.1, r1.1.1.2.1, r1.1.1.2.2), (r1.1.2.1.1, r1.1.2.1.2.1, r1.1.2.1.2.2), (r1.1.2.2.1.1, r1.1.2.2.1.2.1, r1.1.2.2.1.2.2), (r1.1.2.2.2.1.1, r1.1.2.2.2.1.2.1, r1.1.2.2.2.1.2.2), ()), (r1.2.1, r1.2.2.1, r1.2.2.2.1, r1.2.2.2.2.1, ()))
def wk_LentBase_ce : CEp where
  f := 31
  args := [.cod 14]
  hs := []
  res := .val (.agg [.int .i64, .int .i64, .as 0 0, .as 0 1, .as 0 2, .as 0 3])
  outs := [.arr 3 0 false, .arr 3 0 false, .arr 3 0 false, .arr 3 0 false]
  m := fun d dh => wk_LentBase d.1
  ok := ceO Try.func31 (by kernel_rfl) wk_LentBase_tb (by kernel_rfl) fun d dh => by kernel_rfl

def wk_LentLetter_tb : List (CEp) := [wk_LentEntries_ce, wk_LentBase_ce, wk_LentBytes_ce]
def wk_LentLetter (x0 : DLetter) : Option ((Int × Int × Int × Int × Int × Int × Int × Int × Bool × (Nat × Nat × Nat × Unit) × Int × Int × (Nat × Nat × Nat) × (Nat × Nat × Nat) × (Nat × Nat × Nat) × (Nat × Nat × Nat) × Int × Int × Int × (Nat × Nat × Nat) × Unit) × ((List (DEntryX)) × LI × LI × LI × LI × LB × Unit)) :=
  (wk_LentEntries x0.entries).bind fun r1 =>
  (wk_LentBase x0.base).bind fun r2 =>
  (wk_LentBytes x0.bytes).bind fun r3 =>
  some ((x0.kind, x0.group, x0.from_, x0.to_, x0.term_, x0.index, x0.logTerm, x0.commit, x0.ok, (r1.1.1, r1.1.2.1, r1.1.2.2.1, ()), r2.1.1, r2.1.2.1, (r2.1.2.2.1.1, r2.1.2.2.1.2.1, r2.1.2.2.1.2.2), (r2.1.2.2.2.1.1, r2.1.2.2.2.1.2.1, r2.1.2.2.2.1.2.2), (r2.1.2.2.2.2.1.1, r2.1.2.2.2.2.1.2.1, r2.1.2.2.2.2.1.2.2), (r2.1.2.2.2.2.2.1.1, r2.1.2.2.2.2.2.1.2.1, r2.1.2.2.2.2.2.1.2.2), x0.size, x0.at_, x0.tag, (r3.1.1, r3.1.2.1, r3.1.2.2), ()), (r1.2.1, r2.2.1, r2.2.2.1, r2.2.2.2.1, r2.2.2.2.2.1, r3.2.1, ()))
def wk_LentLetter_ce : CEp where
  f := 10
  args := [.cod 20]
  hs := []
  res := .val (.agg [.int .u8, .int .i64, .int .i64, .int .i64, .int .i64, .int .i64, .int .i64, .int .i64, .bool, .gv 0 28 3, .int .i64, .int .i64, .as 0 1, .as 0 2, .as 0 3, .as 0 4, .int .i64, .int .i64, .int .i64, .as 1 5])
  outs := [.gen 8 false, .arr 3 0 false, .arr 3 0 false, .arr 3 0 false, .arr 3 0 false, .arr 5 1 false]
  m := fun d dh => wk_LentLetter d.1
  ok := ceO Try.func10 (by kernel_rfl) wk_LentLetter_tb (by kernel_rfl) fun d dh => by kernel_rfl

def wk_LentImage_tb : List (CEp) := [wk_LentBase_ce, wk_LentBytes_ce]
def wk_LentImage (x0 : DImage) : Option ((Int × Int × (Nat × Nat × Nat) × (Nat × Nat × Nat) × (Nat × Nat × Nat) × (Nat × Nat × Nat) × (Nat × Nat × Nat) × Unit) × (LI × LI × LI × LI × LB × Unit)) :=
  (wk_LentBase x0.base).bind fun r1 =>
  (wk_LentBytes x0.bytes).bind fun r2 =>
  some ((r1.1.1, r1.1.2.1, (r1.1.2.2.1.1, r1.1.2.2.1.2.1, r1.1.2.2.1.2.2), (r1.1.2.2.2.1.1, r1.1.2.2.2.1.2.1, r1.1.2.2.2.1.2.2), (r1.1.2.2.2.2.1.1, r1.1.2.2.2.2.1.2.1, r1.1.2.2.2.2.1.2.2), (r1.1.2.2.2.2.2.1.1, r1.1.2.2.2.2.2.1.2.1, r1.1.2.2.2.2.2.1.2.2), (r2.1.1, r2.1.2.1, r2.1.2.2), ()), (r1.2.1, r1.2.2.1, r1.2.2.2.1, r1.2.2.2.2.1, r2.2.1, ()))
def wk_LentImage_ce : CEp where
  f := 11
  args := [.cod 16]
  hs := []
  res := .val (.agg [.int .i64, .int .i64, .as 0 0, .as 0 1, .as 0 2, .as 0 3, .as 1 4])
  outs := [.arr 3 0 false, .arr 3 0 false, .arr 3 0 false, .arr 3 0 false, .arr 5 1 false]
  m := fun d dh => wk_LentImage d.1
  ok := ceO Try.func11 (by kernel_rfl) wk_LentImage_tb (by kernel_rfl) fun d dh => by kernel_rfl

def cloneEk54 (x0 : Nat × Nat × Nat) (h0 : LI) : Option (Nat × (LI × LI × Unit)) :=
  if x0.1 + x0.2.1 ≤ h0.length ∧ ((h0.drop x0.1).take x0.2.1).length ≤ 140737488355328 ∧ ((h0.drop x0.1).take x0.2.1).length * 8 ≤ 140737488355328 then some (((h0.drop x0.1).take x0.2.1).length, (h0, ((h0.drop x0.1).take x0.2.1), ())) else none
def cloneEk54_ce : CEp where
  f := 54
  args := [.one (.as 0 0)]
  hs := [.arr 3 0 true]
  res := .val (.one (.asz 0 1))
  outs := [.arr 3 0 true, .arr 3 0 false]
  m := fun d dh => cloneEk54 d.1 dh.1
  ok := fun d dh r hr => by
    unfold cloneEk54 at hr
    split at hr
    · rename_i hc
      injection hr with hr
      subst hr
      have hroom := hc.2
      exact Tr.lendArr (fun x => rfl) (U0 := fun _ => True) (Tr.kp0 (cloneE_tr mixedP Try.func54 (by kernel_rfl) rfl rfl (zv := .int .i64 0) (he := by kernel_rfl) (hsz := by kernel_rfl) (hz := by kernel_rfl) (hby := by kernel_rfl) rfl rfl (zt := (0 : Int)) ((dh.1.drop d.1.1).take d.1.2.1) (by kernel_rfl) hroom)) (lend_as (Nat.le_trans (Nat.le_of_eq rfl) hc.1)) rfl
    · cases hr

def ferry_own_3_dr : Nat → Nat → DrA
  | 2, _ => ⟨[0, 3, 6, 9, 1, 4, 7, 10, 2, 5, 8, 11, 12, 13, 14], [[], [0], [0, 1], [], [3], (List.range 5), [], [6], (List.range 8), [], [9], (List.range 11), (List.range 12), (List.range 13), (List.range 14)], [4, 7, 10], [2, 5, 8], [6], false, []⟩
  | _, _ => ⟨[], [], [], [], [], false, []⟩
def ferry_own_3_tb : List (CEp) := [cloneEk54_ce]
def ferry_own_3 (x0 : Int × Int × (Nat × Nat × Nat) × (Nat × Nat × Nat) × (Nat × Nat × Nat) × (Nat × Nat × Nat) × Unit) (h0 : LI) (h1 : LI) (h2 : LI) (h3 : LI) : Option ((Int × Int × Nat × Nat × Nat × Nat × Unit) × (LI × LI × LI × LI × LI × LI × LI × LI × Unit)) :=
  (cloneEk54 (x0.2.2.1.1, x0.2.2.1.2.1, x0.2.2.1.2.2) h0).bind fun r1 =>
  (cloneEk54 (x0.2.2.2.1.1, x0.2.2.2.1.2.1, x0.2.2.2.1.2.2) h1).bind fun r2 =>
  (cloneEk54 (x0.2.2.2.2.1.1, x0.2.2.2.2.1.2.1, x0.2.2.2.2.1.2.2) h2).bind fun r3 =>
  (cloneEk54 (x0.2.2.2.2.2.1.1, x0.2.2.2.2.2.1.2.1, x0.2.2.2.2.2.1.2.2) h3).bind fun r4 =>
  some ((x0.1, x0.2.1, r1.1, r2.1, r3.1, r4.1, ()), (r1.2.1, r2.2.1, r3.2.1, r4.2.1, r1.2.2.1, r2.2.2.1, r3.2.2.1, r4.2.2.1, ()))
def ferry_own_3_ce : CEp where
  f := 33
  args := [.agg [.int .i64, .int .i64, .as 0 0, .as 0 1, .as 0 2, .as 0 3]]
  hs := [.arr 3 0 true, .arr 3 0 true, .arr 3 0 true, .arr 3 0 true]
  res := .val (.agg [.int .i64, .int .i64, .asz 0 4, .asz 0 5, .asz 0 6, .asz 0 7])
  outs := [.arr 3 0 true, .arr 3 0 true, .arr 3 0 true, .arr 3 0 true, .arr 3 0 false, .arr 3 0 false, .arr 3 0 false, .arr 3 0 false]
  m := fun d dh => ferry_own_3 d.1 dh.1 dh.2.1 dh.2.2.1 dh.2.2.2.1
  ok := ce_ok mixedP Try.func33 (by kernel_rfl) (orcOf_ok ferry_own_3_tb) (dr := ferry_own_3_dr) (lps := lpsOf lt0) (lps_fn (no_loop (by kernel_rfl))) (fun d dh => by kernel_rfl)

def cloneEk34 (x0 : Nat × Nat × Nat) (h0 : LB) : Option (Nat × (LB × LB × Unit)) :=
  if x0.1 + x0.2.1 ≤ h0.length ∧ ((h0.drop x0.1).take x0.2.1).length ≤ 140737488355328 ∧ ((h0.drop x0.1).take x0.2.1).length * 1 ≤ 140737488355328 then some (((h0.drop x0.1).take x0.2.1).length, (h0, ((h0.drop x0.1).take x0.2.1), ())) else none
def cloneEk34_ce : CEp where
  f := 34
  args := [.one (.as 1 0)]
  hs := [.arr 5 1 true]
  res := .val (.one (.asz 1 1))
  outs := [.arr 5 1 true, .arr 5 1 false]
  m := fun d dh => cloneEk34 d.1 dh.1
  ok := fun d dh r hr => by
    unfold cloneEk34 at hr
    split at hr
    · rename_i hc
      injection hr with hr
      subst hr
      have hroom := hc.2
      exact Tr.lendArr (fun x => rfl) (U0 := fun _ => True) (Tr.kp0 (cloneE_tr mixedP Try.func34 (by kernel_rfl) rfl rfl (zv := .int .u8 0) (he := by kernel_rfl) (hsz := by kernel_rfl) (hz := by kernel_rfl) (hby := by kernel_rfl) rfl rfl (zt := (0 : UInt8)) ((dh.1.drop d.1.1).take d.1.2.1) (by kernel_rfl) hroom)) (lend_as (Nat.le_trans (Nat.le_of_eq rfl) hc.1)) rfl
    · cases hr

def ferry_Fill_2_dr : Nat → Nat → DrA
  | 3, _ => ⟨[0, 3, 1, 4, 5, 2, 6, 7, 8, 9], [[], [0], [0, 1], [], [3], [3, 4], [0, 1, 2], [0, 1, 2, 6], (List.range 8), (List.range 9)], [4], [2, 7], [12], false, []⟩
  | _, _ => ⟨[], [], [], [], [], false, []⟩
def ferry_Fill_2_tb : List (CEp) := [ferry_own_3_ce, cloneEk34_ce]
def ferry_Fill_2 (x0 : Int × Int × Int × Int × Int × Int × Int × Int × Bool × (Nat × Nat × Nat × Unit) × Int × Int × (Nat × Nat × Nat) × (Nat × Nat × Nat) × (Nat × Nat × Nat) × (Nat × Nat × Nat) × Int × Int × Int × (Nat × Nat × Nat) × Unit) (x1 : Int × Int × (Nat × Nat × Nat) × (Nat × Nat × Nat) × (Nat × Nat × Nat) × (Nat × Nat × Nat) × (Nat × Nat × Nat) × Unit) (h0 : List (DEntryX)) (h1 : LI) (h2 : LI) (h3 : LI) (h4 : LI) (h5 : LB) (h6 : LI) (h7 : LI) (h8 : LI) (h9 : LI) (h10 : LB) : Option (((Int × Int × Int × Int × Int × Int × Int × Int × Bool × Unit × Int × Int × Nat × Nat × Nat × Nat × Int × Int × Int × Nat × Unit) × Bool × Unit) × ((List (DEntryX)) × LI × LI × LI × LI × LB × LI × LI × LI × LI × LB × LI × LI × LI × LI × LB × Unit)) :=
  (bif (decide ((x0.1 : Int) ≠ 5)) then
  some (((0, 0, 0, 0, 0, 0, 0, 0, false, (), 0, 0, 0, 0, 0, 0, 0, 0, 0, 0, ()), false, ()), (h0, h1, h2, h3, h4, h5, h6, h7, h8, h9, h10, [], [], [], [], [], ()))
  else
  (bif (decide ((x0.2.2.2.2.2.2.2.2.2.2.1 : Int) ≠ x1.1)) then
  some (((0, 0, 0, 0, 0, 0, 0, 0, false, (), 0, 0, 0, 0, 0, 0, 0, 0, 0, 0, ()), false, ()), (h0, h1, h2, h3, h4, h5, h6, h7, h8, h9, h10, [], [], [], [], [], ()))
  else
  (bif (decide ((x0.2.2.2.2.2.2.2.2.2.2.2.1 : Int) ≠ x1.2.1)) then
  some (((0, 0, 0, 0, 0, 0, 0, 0, false, (), 0, 0, 0, 0, 0, 0, 0, 0, 0, 0, ()), false, ()), (h0, h1, h2, h3, h4, h5, h6, h7, h8, h9, h10, [], [], [], [], [], ()))
  else
  (bif (decide ((x0.2.2.2.2.2.2.2.2.2.2.2.2.2.2.2.2.2.1 : Int) < 0)) then
  some (((0, 0, 0, 0, 0, 0, 0, 0, false, (), 0, 0, 0, 0, 0, 0, 0, 0, 0, 0, ()), false, ()), (h0, h1, h2, h3, h4, h5, h6, h7, h8, h9, h10, [], [], [], [], [], ()))
  else
  (bif (decide ((((x1.2.2.2.2.2.2.1.2.1 : Nat) : Int) : Int) < x0.2.2.2.2.2.2.2.2.2.2.2.2.2.2.2.2.2.1)) then
  some (((0, 0, 0, 0, 0, 0, 0, 0, false, (), 0, 0, 0, 0, 0, 0, 0, 0, 0, 0, ()), false, ()), (h0, h1, h2, h3, h4, h5, h6, h7, h8, h9, h10, [], [], [], [], [], ()))
  else
  (ferry_own_3 (x1.1, x1.2.1, (x1.2.2.1.1, x1.2.2.1.2.1, x1.2.2.1.2.2), (x1.2.2.2.1.1, x1.2.2.2.1.2.1, x1.2.2.2.1.2.2), (x1.2.2.2.2.1.1, x1.2.2.2.2.1.2.1, x1.2.2.2.2.1.2.2), (x1.2.2.2.2.2.1.1, x1.2.2.2.2.2.1.2.1, x1.2.2.2.2.2.1.2.2), ()) h6 h7 h8 h9).bind fun r1 =>
  let y2 : Int := (if (((x1.2.2.2.2.2.2.1.2.1 : Nat) : Int) : Int) < (IntKind.i64.wrap (x0.2.2.2.2.2.2.2.2.2.2.2.2.2.2.2.2.2.1 + 600)) then ((x1.2.2.2.2.2.2.1.2.1 : Nat) : Int) else (IntKind.i64.wrap (x0.2.2.2.2.2.2.2.2.2.2.2.2.2.2.2.2.2.1 + 600)))
  (if 0 ≤ ((x0.2.2.2.2.2.2.2.2.2.2.2.2.2.2.2.2.2.1 : Int) : Int) ∧ ((x0.2.2.2.2.2.2.2.2.2.2.2.2.2.2.2.2.2.1 : Int) : Int) ≤ (y2 : Int) ∧ (y2 : Int) ≤ ((x1.2.2.2.2.2.2.1.2.2 : Nat) : Int) ∧ (y2 : Int) ≤ 140737488355328 then
  (cloneEk34 ((x1.2.2.2.2.2.2.1.1 + (x0.2.2.2.2.2.2.2.2.2.2.2.2.2.2.2.2.2.1 : Int).toNat), ((y2 : Int).toNat - (x0.2.2.2.2.2.2.2.2.2.2.2.2.2.2.2.2.2.1 : Int).toNat), (x1.2.2.2.2.2.2.1.2.2 - (x0.2.2.2.2.2.2.2.2.2.2.2.2.2.2.2.2.2.1 : Int).toNat)) h10).bind fun r3 =>
  some (((x0.1, x0.2.1, x0.2.2.1, x0.2.2.2.1, x0.2.2.2.2.1, x0.2.2.2.2.2.1, x0.2.2.2.2.2.2.1, x0.2.2.2.2.2.2.2.1, x0.2.2.2.2.2.2.2.2.1, (), r1.1.1, r1.1.2.1, r1.1.2.2.1, r1.1.2.2.2.1, r1.1.2.2.2.2.1, r1.1.2.2.2.2.2.1, ((x1.2.2.2.2.2.2.1.2.1 : Nat) : Int), x0.2.2.2.2.2.2.2.2.2.2.2.2.2.2.2.2.2.1, x0.2.2.2.2.2.2.2.2.2.2.2.2.2.2.2.2.2.2.1, r3.1, ()), true, ()), (h0, h1, h2, h3, h4, h5, r1.2.1, r1.2.2.1, r1.2.2.2.1, r1.2.2.2.2.1, r3.2.1, r1.2.2.2.2.2.1, r1.2.2.2.2.2.2.1, r1.2.2.2.2.2.2.2.1, r1.2.2.2.2.2.2.2.2.1, r3.2.2.1, ()))
  else none))))))
def ferry_Fill_2_ce : CEp where
  f := 12
  args := [.agg [.int .u8, .int .i64, .int .i64, .int .i64, .int .i64, .int .i64, .int .i64, .int .i64, .bool, .gv 0 28 3, .int .i64, .int .i64, .as 0 1, .as 0 2, .as 0 3, .as 0 4, .int .i64, .int .i64, .int .i64, .as 1 5], .agg [.int .i64, .int .i64, .as 0 6, .as 0 7, .as 0 8, .as 0 9, .as 1 10]]
  hs := [.gen 8 true, .arr 3 0 true, .arr 3 0 true, .arr 3 0 true, .arr 3 0 true, .arr 5 1 true, .arr 3 0 true, .arr 3 0 true, .arr 3 0 true, .arr 3 0 true, .arr 5 1 true]
  res := .tup [.agg [.int .u8, .int .i64, .int .i64, .int .i64, .int .i64, .int .i64, .int .i64, .int .i64, .bool, .nil, .int .i64, .int .i64, .asz 0 11, .asz 0 12, .asz 0 13, .asz 0 14, .int .i64, .int .i64, .int .i64, .asz 1 15], .one (.bool)]
  outs := [.gen 8 true, .arr 3 0 true, .arr 3 0 true, .arr 3 0 true, .arr 3 0 true, .arr 5 1 true, .arr 3 0 true, .arr 3 0 true, .arr 3 0 true, .arr 3 0 true, .arr 5 1 true, .arr 3 0 false, .arr 3 0 false, .arr 3 0 false, .arr 3 0 false, .arr 5 1 false]
  m := fun d dh => ferry_Fill_2 d.1 d.2.1 dh.1 dh.2.1 dh.2.2.1 dh.2.2.2.1 dh.2.2.2.2.1 dh.2.2.2.2.2.1 dh.2.2.2.2.2.2.1 dh.2.2.2.2.2.2.2.1 dh.2.2.2.2.2.2.2.2.1 dh.2.2.2.2.2.2.2.2.2.1 dh.2.2.2.2.2.2.2.2.2.2.1
  ok := ce_ok mixedP Try.func12 (by kernel_rfl) (orcOf_ok ferry_Fill_2_tb) (dr := ferry_Fill_2_dr) (lps := lpsOf lt0) (lps_fn (no_loop (by kernel_rfl))) (fun d dh => by kernel_rfl)

def wk_CopyBytes_tb : List (CEp) := []
def wk_CopyBytes (x0 : LB) : Option (LB × (Unit × Unit)) :=
  (if x0.length ≤ 140737488355328 ∧ x0.length * 1 ≤ 140737488355328 then
  some (x0, ((), ()))
  else none)
def wk_CopyBytes_ce : CEp where
  f := 56
  args := [.one (.sl 1)]
  hs := []
  res := .val (.one (.own 1 0))
  outs := [.row 5 1]
  m := fun d dh => wk_CopyBytes d.1
  ok := ceO Try.func56 (by kernel_rfl) wk_CopyBytes_tb (by kernel_rfl) fun d dh => by kernel_rfl

def wk_CopyInts_tb : List (CEp) := []
def wk_CopyInts (x0 : LI) : Option (LI × (Unit × Unit)) :=
  (if x0.length ≤ 140737488355328 ∧ x0.length * 8 ≤ 140737488355328 then
  some (x0, ((), ()))
  else none)
def wk_CopyInts_ce : CEp where
  f := 67
  args := [.one (.sl 0)]
  hs := []
  res := .val (.one (.own 0 0))
  outs := [.row 3 1]
  m := fun d dh => wk_CopyInts d.1
  ok := ceO Try.func67 (by kernel_rfl) wk_CopyInts_tb (by kernel_rfl) fun d dh => by kernel_rfl

def wk_CopyConfig_tb : List (CEp) := [wk_CopyInts_ce]
def wk_CopyConfig (x0 : DConfig) : Option ((DConfig) × Unit) :=
  (wk_CopyInts x0.voters).bind fun r1 =>
  (wk_CopyInts x0.old).bind fun r2 =>
  (wk_CopyInts x0.learners).bind fun r3 =>
  (wk_CopyInts x0.want).bind fun r4 =>
  some ((⟨r1.1, r2.1, r3.1, r4.1⟩ : DConfig), ())
def wk_CopyConfig_ce : CEp where
  f := 57
  args := [.cod 13]
  hs := []
  res := .val (.cod 13)
  outs := []
  m := fun d dh => wk_CopyConfig d.1
  ok := ceO Try.func57 (by kernel_rfl) wk_CopyConfig_tb (by kernel_rfl) fun d dh => by kernel_rfl

def wk_CopyEntry_tb : List (CEp) := [wk_CopyBytes_ce, wk_CopyConfig_ce]
def wk_CopyEntry (x0 : DEntry) : Option ((DEntry) × Unit) :=
  (wk_CopyBytes x0.command).bind fun r1 =>
  (wk_CopyConfig x0.config).bind fun r2 =>
  some ((⟨x0.term_, x0.kind, r1.1, r2.1⟩ : DEntry), ())
def wk_CopyEntry_ce : CEp where
  f := 66
  args := [.cod 18]
  hs := []
  res := .val (.cod 18)
  outs := []
  m := fun d dh => wk_CopyEntry d.1
  ok := ceO Try.func66 (by kernel_rfl) wk_CopyEntry_tb (by kernel_rfl) fun d dh => by kernel_rfl

def wk_CopyEntries_tb : List (CEp) := [wk_CopyEntry_ce]
def wk_CopyEntries_l1 (a : ((List (DEntry)) × (List (DEntry)) × Int × Unit) × (Unit × Unit)) : Option ((((List (DEntry)) × (List (DEntry)) × Int × Unit) × (Unit × Unit)) ⊕ ((((List (DEntry)) × Unit) × (Unit × Unit × Unit)))) :=
  (bif (decide ((a.1.2.2.1 : Int) < (a.1.1.length : Int))) then
  (getI a.1.1 a.1.2.2.1).bind fun e1 =>
  (wk_CopyEntry e1).bind fun r2 =>
  (if a.1.2.1.length + ([r2.1] : List (DEntry)).length ≤ 140737488355328 ∧ (a.1.2.1.length + ([r2.1] : List (DEntry)).length) * 136 ≤ 140737488355328 then
  some (.inl ((a.1.1, (a.1.2.1 ++ ([r2.1] : List (DEntry))), (IntKind.i64.wrap (a.1.2.2.1 + 1)), ()), ((), ())))
  else none)
  else
  some (.inr ((a.1.2.1, ()), ((), (), ()))))
def wk_CopyEntries_e1 : LEp := ⟨3, [0, 3, 4], [.one (.sl 18), .one (.own 18 0), .one (.int .i64)], [.row 80 7], [⟨.exit 0, [3], [.one (.own 18 1)], [.dead, .row 80 7]⟩], wk_CopyEntries_l1⟩
def wk_CopyEntries_lt : List (LEp) := [wk_CopyEntries_e1]
theorem wk_CopyEntries_e1_ok : LeOk wk_CopyEntries_e1 (nthL (bodyOf Try.f55) 0) := fun A env h k z hk => le_ok (E := wk_CopyEntries_e1) (orcOf_ok wk_CopyEntries_tb) (dr := dr0) (lps := lpsOf wk_CopyEntries_lt) (no_loop (by kernel_rfl)) (fun a => by kernel_rfl) env h k z hk
def wk_CopyEntries (x0 : List (DEntry)) : Option ((List (DEntry)) × (Unit × Unit)) :=
  (loopM wk_CopyEntries_l1 ((x0, [], 0, ()), ((), ()))).bind fun b1 =>
  some (b1.1.1, ((), ()))
def wk_CopyEntries_ce : CEp where
  f := 55
  args := [.one (.sl 18)]
  hs := []
  res := .val (.one (.own 18 0))
  outs := [.row 80 7]
  m := fun d dh => wk_CopyEntries d.1
  ok := ce_ok mixedP Try.func55 (by kernel_rfl) (orcOf_ok wk_CopyEntries_tb) (dr := dr0) (lps := lpsOf wk_CopyEntries_lt) (lps_fn (lps_of (n := 1) (by kernel_rfl) fun i hi => match i, hi with | 0, _ => lp_ok (E := wk_CopyEntries_e1) (by kernel_rfl) wk_CopyEntries_e1_ok)) (fun d dh => by kernel_rfl)

def wk_CopyBase_tb : List (CEp) := [wk_CopyConfig_ce]
def wk_CopyBase (x0 : DBase) : Option ((DBase) × Unit) :=
  (wk_CopyConfig x0.config).bind fun r1 =>
  some ((⟨x0.index, x0.term_, r1.1⟩ : DBase), ())
def wk_CopyBase_ce : CEp where
  f := 36
  args := [.cod 14]
  hs := []
  res := .val (.cod 14)
  outs := []
  m := fun d dh => wk_CopyBase d.1
  ok := ceO Try.func36 (by kernel_rfl) wk_CopyBase_tb (by kernel_rfl) fun d dh => by kernel_rfl

def wk_CopyLetter_tb : List (CEp) := [wk_CopyEntries_ce, wk_CopyBase_ce, wk_CopyBytes_ce]
def wk_CopyLetter (x0 : DLetter) : Option ((DLetter) × Unit) :=
  (wk_CopyEntries x0.entries).bind fun r1 =>
  (wk_CopyBase x0.base).bind fun r2 =>
  (wk_CopyBytes x0.bytes).bind fun r3 =>
  some ((⟨x0.kind, x0.group, x0.from_, x0.to_, x0.term_, x0.index, x0.logTerm, x0.commit, x0.ok, r1.1, r2.1, x0.size, x0.at_, x0.tag, r3.1⟩ : DLetter), ())
def wk_CopyLetter_ce : CEp where
  f := 35
  args := [.cod 20]
  hs := []
  res := .val (.cod 20)
  outs := []
  m := fun d dh => wk_CopyLetter d.1
  ok := ceO Try.func35 (by kernel_rfl) wk_CopyLetter_tb (by kernel_rfl) fun d dh => by kernel_rfl

def w13_Fill_dr : Nat → Nat → DrA
  | 11, _ => ⟨[0, 2, 4, 1, 3, 5, 6, 7, 8, 9, 10], [[], [0], [], [2], [], [2, 3, 4], [2, 3, 4, 5], [2, 3, 4, 5, 6], (List.range 8), (List.range 9), (List.range 10)], [], [], [], false, []⟩
  | _, _ => ⟨[], [], [], [], [], false, []⟩
def w13_Fill_tb : List (CEp) := [wk_CopyLetter_ce, wk_CopyBase_ce]
def w13_Fill_l1 (a : (Unit × Unit × Unit × Unit × Int × Unit) × ((DLetter) × (DImage) × (Int × Int × Int × Int × Int × Int × Int × Int × Bool × (List (DEntry)) × Int × Int × LI × LI × LI × LI × Int × Int × Int × LB × Unit) × (Int × Int × Int × Int × Int × Int × Int × Int × Bool × (List (DEntry)) × Int × Int × LI × LI × LI × LI × Int × Int × Int × LB × Unit) × Unit × Unit × Unit × Unit × Unit × Unit × Unit × Unit × Unit)) : Option (((Unit × Unit × Unit × Unit × Int × Unit) × ((DLetter) × (DImage) × (Int × Int × Int × Int × Int × Int × Int × Int × Bool × (List (DEntry)) × Int × Int × LI × LI × LI × LI × Int × Int × Int × LB × Unit) × (Int × Int × Int × Int × Int × Int × Int × Int × Bool × (List (DEntry)) × Int × Int × LI × LI × LI × LI × Int × Int × Int × LB × Unit) × Unit × Unit × Unit × Unit × Unit × Unit × Unit × Unit × Unit)) ⊕ (((Unit × Unit × Unit) × ((DLetter) × (DImage) × (Int × Int × Int × Int × Int × Int × Int × Int × Bool × (List (DEntry)) × Int × Int × LI × LI × LI × LI × Int × Int × Int × LB × Unit) × (Int × Int × Int × Int × Int × Int × Int × Int × Bool × (List (DEntry)) × Int × Int × LI × LI × LI × LI × Int × Int × Int × LB × Unit) × Unit × Unit × Unit × Unit × Unit × Unit × Unit × Unit × Unit × Unit × Unit × Unit × Unit × Unit × Unit × Unit × Unit)))) :=
  (bif (decide ((a.1.2.2.2.2.1 : Int) < (a.2.2.1.bytes.length : Int))) then
  (bif (decide ((a.1.2.2.2.2.1 : Int) < (IntKind.i64.wrap (a.2.1.at_ + 600)))) then
  (getI a.2.2.1.bytes a.1.2.2.2.2.1).bind fun e1 =>
  (b8 (e1.toNat : Int)).bind fun u2 =>
  (if a.2.2.2.2.1.2.2.2.2.2.2.2.2.2.2.2.2.2.2.2.2.2.2.2.1.length + ([u2] : LB).length ≤ 140737488355328 ∧ (a.2.2.2.2.1.2.2.2.2.2.2.2.2.2.2.2.2.2.2.2.2.2.2.2.1.length + ([u2] : LB).length) * 1 ≤ 140737488355328 then
  let y3 : LB := (a.2.2.2.2.1.2.2.2.2.2.2.2.2.2.2.2.2.2.2.2.2.2.2.2.1 ++ ([u2] : LB))
  some (.inl (((), (), (), (), (IntKind.i64.wrap (a.1.2.2.2.2.1 + 1)), ()), (a.2.1, a.2.2.1, (a.2.2.2.1.1, a.2.2.2.1.2.1, a.2.2.2.1.2.2.1, a.2.2.2.1.2.2.2.1, a.2.2.2.1.2.2.2.2.1, a.2.2.2.1.2.2.2.2.2.1, a.2.2.2.1.2.2.2.2.2.2.1, a.2.2.2.1.2.2.2.2.2.2.2.1, a.2.2.2.1.2.2.2.2.2.2.2.2.1, a.2.2.2.1.2.2.2.2.2.2.2.2.2.1, a.2.2.2.1.2.2.2.2.2.2.2.2.2.2.1, a.2.2.2.1.2.2.2.2.2.2.2.2.2.2.2.1, a.2.2.2.1.2.2.2.2.2.2.2.2.2.2.2.2.1, a.2.2.2.1.2.2.2.2.2.2.2.2.2.2.2.2.2.1, a.2.2.2.1.2.2.2.2.2.2.2.2.2.2.2.2.2.2.1, a.2.2.2.1.2.2.2.2.2.2.2.2.2.2.2.2.2.2.2.1, a.2.2.2.1.2.2.2.2.2.2.2.2.2.2.2.2.2.2.2.2.1, a.2.2.2.1.2.2.2.2.2.2.2.2.2.2.2.2.2.2.2.2.2.1, a.2.2.2.1.2.2.2.2.2.2.2.2.2.2.2.2.2.2.2.2.2.2.1, a.2.2.2.1.2.2.2.2.2.2.2.2.2.2.2.2.2.2.2.2.2.2.2.1, ()), (a.2.2.2.2.1.1, a.2.2.2.2.1.2.1, a.2.2.2.2.1.2.2.1, a.2.2.2.2.1.2.2.2.1, a.2.2.2.2.1.2.2.2.2.1, a.2.2.2.2.1.2.2.2.2.2.1, a.2.2.2.2.1.2.2.2.2.2.2.1, a.2.2.2.2.1.2.2.2.2.2.2.2.1, a.2.2.2.2.1.2.2.2.2.2.2.2.2.1, a.2.2.2.2.1.2.2.2.2.2.2.2.2.2.1, a.2.2.2.2.1.2.2.2.2.2.2.2.2.2.2.1, a.2.2.2.2.1.2.2.2.2.2.2.2.2.2.2.2.1, a.2.2.2.2.1.2.2.2.2.2.2.2.2.2.2.2.2.1, a.2.2.2.2.1.2.2.2.2.2.2.2.2.2.2.2.2.2.1, a.2.2.2.2.1.2.2.2.2.2.2.2.2.2.2.2.2.2.2.1, a.2.2.2.2.1.2.2.2.2.2.2.2.2.2.2.2.2.2.2.2.1, a.2.2.2.2.1.2.2.2.2.2.2.2.2.2.2.2.2.2.2.2.2.1, a.2.2.2.2.1.2.2.2.2.2.2.2.2.2.2.2.2.2.2.2.2.2.1, a.2.2.2.2.1.2.2.2.2.2.2.2.2.2.2.2.2.2.2.2.2.2.2.1, y3, ()), (), (), (), (), (), (), (), (), ())))
  else none)
  else
  some (.inr (((), (), ()), (a.2.1, a.2.2.1, (a.2.2.2.1.1, a.2.2.2.1.2.1, a.2.2.2.1.2.2.1, a.2.2.2.1.2.2.2.1, a.2.2.2.1.2.2.2.2.1, a.2.2.2.1.2.2.2.2.2.1, a.2.2.2.1.2.2.2.2.2.2.1, a.2.2.2.1.2.2.2.2.2.2.2.1, a.2.2.2.1.2.2.2.2.2.2.2.2.1, a.2.2.2.1.2.2.2.2.2.2.2.2.2.1, a.2.2.2.1.2.2.2.2.2.2.2.2.2.2.1, a.2.2.2.1.2.2.2.2.2.2.2.2.2.2.2.1, a.2.2.2.1.2.2.2.2.2.2.2.2.2.2.2.2.1, a.2.2.2.1.2.2.2.2.2.2.2.2.2.2.2.2.2.1, a.2.2.2.1.2.2.2.2.2.2.2.2.2.2.2.2.2.2.1, a.2.2.2.1.2.2.2.2.2.2.2.2.2.2.2.2.2.2.2.1, a.2.2.2.1.2.2.2.2.2.2.2.2.2.2.2.2.2.2.2.2.1, a.2.2.2.1.2.2.2.2.2.2.2.2.2.2.2.2.2.2.2.2.2.1, a.2.2.2.1.2.2.2.2.2.2.2.2.2.2.2.2.2.2.2.2.2.2.1, a.2.2.2.1.2.2.2.2.2.2.2.2.2.2.2.2.2.2.2.2.2.2.2.1, ()), (a.2.2.2.2.1.1, a.2.2.2.2.1.2.1, a.2.2.2.2.1.2.2.1, a.2.2.2.2.1.2.2.2.1, a.2.2.2.2.1.2.2.2.2.1, a.2.2.2.2.1.2.2.2.2.2.1, a.2.2.2.2.1.2.2.2.2.2.2.1, a.2.2.2.2.1.2.2.2.2.2.2.2.1, a.2.2.2.2.1.2.2.2.2.2.2.2.2.1, a.2.2.2.2.1.2.2.2.2.2.2.2.2.2.1, a.2.2.2.2.1.2.2.2.2.2.2.2.2.2.2.1, a.2.2.2.2.1.2.2.2.2.2.2.2.2.2.2.2.1, a.2.2.2.2.1.2.2.2.2.2.2.2.2.2.2.2.2.1, a.2.2.2.2.1.2.2.2.2.2.2.2.2.2.2.2.2.2.1, a.2.2.2.2.1.2.2.2.2.2.2.2.2.2.2.2.2.2.2.1, a.2.2.2.2.1.2.2.2.2.2.2.2.2.2.2.2.2.2.2.2.1, a.2.2.2.2.1.2.2.2.2.2.2.2.2.2.2.2.2.2.2.2.2.1, a.2.2.2.2.1.2.2.2.2.2.2.2.2.2.2.2.2.2.2.2.2.2.1, a.2.2.2.2.1.2.2.2.2.2.2.2.2.2.2.2.2.2.2.2.2.2.2.1, a.2.2.2.2.1.2.2.2.2.2.2.2.2.2.2.2.2.2.2.2.2.2.2.2.1, ()), (), (), (), (), (), (), (), (), (), (), (), (), (), (), (), (), ()))))
  else
  some (.inr (((), (), ()), (a.2.1, a.2.2.1, (a.2.2.2.1.1, a.2.2.2.1.2.1, a.2.2.2.1.2.2.1, a.2.2.2.1.2.2.2.1, a.2.2.2.1.2.2.2.2.1, a.2.2.2.1.2.2.2.2.2.1, a.2.2.2.1.2.2.2.2.2.2.1, a.2.2.2.1.2.2.2.2.2.2.2.1, a.2.2.2.1.2.2.2.2.2.2.2.2.1, a.2.2.2.1.2.2.2.2.2.2.2.2.2.1, a.2.2.2.1.2.2.2.2.2.2.2.2.2.2.1, a.2.2.2.1.2.2.2.2.2.2.2.2.2.2.2.1, a.2.2.2.1.2.2.2.2.2.2.2.2.2.2.2.2.1, a.2.2.2.1.2.2.2.2.2.2.2.2.2.2.2.2.2.1, a.2.2.2.1.2.2.2.2.2.2.2.2.2.2.2.2.2.2.1, a.2.2.2.1.2.2.2.2.2.2.2.2.2.2.2.2.2.2.2.1, a.2.2.2.1.2.2.2.2.2.2.2.2.2.2.2.2.2.2.2.2.1, a.2.2.2.1.2.2.2.2.2.2.2.2.2.2.2.2.2.2.2.2.2.1, a.2.2.2.1.2.2.2.2.2.2.2.2.2.2.2.2.2.2.2.2.2.2.1, a.2.2.2.1.2.2.2.2.2.2.2.2.2.2.2.2.2.2.2.2.2.2.2.1, ()), (a.2.2.2.2.1.1, a.2.2.2.2.1.2.1, a.2.2.2.2.1.2.2.1, a.2.2.2.2.1.2.2.2.1, a.2.2.2.2.1.2.2.2.2.1, a.2.2.2.2.1.2.2.2.2.2.1, a.2.2.2.2.1.2.2.2.2.2.2.1, a.2.2.2.2.1.2.2.2.2.2.2.2.1, a.2.2.2.2.1.2.2.2.2.2.2.2.2.1, a.2.2.2.2.1.2.2.2.2.2.2.2.2.2.1, a.2.2.2.2.1.2.2.2.2.2.2.2.2.2.2.1, a.2.2.2.2.1.2.2.2.2.2.2.2.2.2.2.2.1, a.2.2.2.2.1.2.2.2.2.2.2.2.2.2.2.2.2.1, a.2.2.2.2.1.2.2.2.2.2.2.2.2.2.2.2.2.2.1, a.2.2.2.2.1.2.2.2.2.2.2.2.2.2.2.2.2.2.2.1, a.2.2.2.2.1.2.2.2.2.2.2.2.2.2.2.2.2.2.2.2.1, a.2.2.2.2.1.2.2.2.2.2.2.2.2.2.2.2.2.2.2.2.2.1, a.2.2.2.2.1.2.2.2.2.2.2.2.2.2.2.2.2.2.2.2.2.2.1, a.2.2.2.2.1.2.2.2.2.2.2.2.2.2.2.2.2.2.2.2.2.2.2.1, a.2.2.2.2.1.2.2.2.2.2.2.2.2.2.2.2.2.2.2.2.2.2.2.2.1, ()), (), (), (), (), (), (), (), (), (), (), (), (), (), (), (), (), ()))))
def w13_Fill_e1 : LEp := ⟨9, [2, 3, 4, 6, 7], [.one (.ptr 0 0), .one (.ptr 1 0), .one (.ptr 2 0), .one (.ptr 3 0), .one (.int .i64)], [.cobj 31 20, .cobj 33 16, .obj 31 [.int .u8, .int .i64, .int .i64, .int .i64, .int .i64, .int .i64, .int .i64, .int .i64, .bool, .own 18 4, .int .i64, .int .i64, .own 0 5, .own 0 6, .own 0 7, .own 0 8, .int .i64, .int .i64, .int .i64, .own 1 9], .obj 31 [.int .u8, .int .i64, .int .i64, .int .i64, .int .i64, .int .i64, .int .i64, .int .i64, .bool, .own 18 10, .int .i64, .int .i64, .sl 0, .sl 0, .sl 0, .sl 0, .int .i64, .int .i64, .int .i64, .own 1 11], .row 80 7, .row 3 1, .row 3 1, .row 3 1, .row 3 1, .row 5 1, .row 80 7, .row 5 1], [⟨.exit 0, [4, 6], [.one (.ptr 2 0), .one (.ptr 3 0)], [.cobj 31 20, .cobj 33 16, .obj 31 [.int .u8, .int .i64, .int .i64, .int .i64, .int .i64, .int .i64, .int .i64, .int .i64, .bool, .own 18 12, .int .i64, .int .i64, .own 0 13, .own 0 14, .own 0 15, .own 0 16, .int .i64, .int .i64, .int .i64, .own 1 17], .obj 31 [.int .u8, .int .i64, .int .i64, .int .i64, .int .i64, .int .i64, .int .i64, .int .i64, .bool, .own 18 18, .int .i64, .int .i64, .sl 0, .sl 0, .sl 0, .sl 0, .int .i64, .int .i64, .int .i64, .own 1 19], .dead, .dead, .dead, .dead, .dead, .dead, .dead, .dead, .row 80 7, .row 3 1, .row 3 1, .row 3 1, .row 3 1, .row 5 1, .row 80 7, .row 5 1]⟩], w13_Fill_l1⟩
def w13_Fill_lt : List (LEp) := [w13_Fill_e1]
theorem w13_Fill_e1_ok : LeOk w13_Fill_e1 (nthL (bodyOf Try.f13) 0) := fun A env h k z hk => le_ok (E := w13_Fill_e1) (orcOf_ok w13_Fill_tb) (dr := w13_Fill_dr) (lps := lpsOf w13_Fill_lt) (no_loop (by kernel_rfl)) (fun a => by kernel_rfl) env h k z hk
def w13_Fill (x0 : DLetter) (x1 : DImage) : Option (((DLetter) × Bool × Unit) × Unit) :=
  (wk_CopyLetter x0).bind fun r1 =>
  (bif (decide ((x0.kind : Int) ≠ 5)) then
  some (((⟨0, 0, 0, 0, 0, 0, 0, 0, false, [], (⟨0, 0, (⟨[], [], [], []⟩ : DConfig)⟩ : DBase), 0, 0, 0, []⟩ : DLetter), false, ()), ())
  else
  (bif (decide ((x0.base.index : Int) ≠ x1.base.index)) then
  some (((⟨0, 0, 0, 0, 0, 0, 0, 0, false, [], (⟨0, 0, (⟨[], [], [], []⟩ : DConfig)⟩ : DBase), 0, 0, 0, []⟩ : DLetter), false, ()), ())
  else
  (bif (decide ((x0.base.term_ : Int) ≠ x1.base.term_)) then
  some (((⟨0, 0, 0, 0, 0, 0, 0, 0, false, [], (⟨0, 0, (⟨[], [], [], []⟩ : DConfig)⟩ : DBase), 0, 0, 0, []⟩ : DLetter), false, ()), ())
  else
  (bif (decide ((x0.at_ : Int) < 0)) then
  some (((⟨0, 0, 0, 0, 0, 0, 0, 0, false, [], (⟨0, 0, (⟨[], [], [], []⟩ : DConfig)⟩ : DBase), 0, 0, 0, []⟩ : DLetter), false, ()), ())
  else
  (bif (decide (((x1.bytes.length : Int) : Int) < x0.at_)) then
  some (((⟨0, 0, 0, 0, 0, 0, 0, 0, false, [], (⟨0, 0, (⟨[], [], [], []⟩ : DConfig)⟩ : DBase), 0, 0, 0, []⟩ : DLetter), false, ()), ())
  else
  (wk_CopyBase x1.base).bind fun r2 =>
  (loopM w13_Fill_l1 (((), (), (), (), x0.at_, ()), (x0, x1, (0, 0, 0, 0, 0, 0, 0, 0, false, [], 0, 0, [], [], [], [], 0, 0, 0, [], ()), (r1.1.kind, r1.1.group, r1.1.from_, r1.1.to_, r1.1.term_, r1.1.index, r1.1.logTerm, r1.1.commit, r1.1.ok, [], r2.1.index, r2.1.term_, r2.1.config.voters, r2.1.config.old, r2.1.config.learners, r2.1.config.want, (x1.bytes.length : Int), r1.1.at_, r1.1.tag, [], ()), (), (), (), (), (), (), (), (), ()))).bind fun b3 =>
  some (((⟨b3.2.2.2.2.1.1, b3.2.2.2.2.1.2.1, b3.2.2.2.2.1.2.2.1, b3.2.2.2.2.1.2.2.2.1, b3.2.2.2.2.1.2.2.2.2.1, b3.2.2.2.2.1.2.2.2.2.2.1, b3.2.2.2.2.1.2.2.2.2.2.2.1, b3.2.2.2.2.1.2.2.2.2.2.2.2.1, b3.2.2.2.2.1.2.2.2.2.2.2.2.2.1, b3.2.2.2.2.1.2.2.2.2.2.2.2.2.2.1, (⟨b3.2.2.2.2.1.2.2.2.2.2.2.2.2.2.2.1, b3.2.2.2.2.1.2.2.2.2.2.2.2.2.2.2.2.1, (⟨b3.2.2.2.2.1.2.2.2.2.2.2.2.2.2.2.2.2.1, b3.2.2.2.2.1.2.2.2.2.2.2.2.2.2.2.2.2.2.1, b3.2.2.2.2.1.2.2.2.2.2.2.2.2.2.2.2.2.2.2.1, b3.2.2.2.2.1.2.2.2.2.2.2.2.2.2.2.2.2.2.2.2.1⟩ : DConfig)⟩ : DBase), b3.2.2.2.2.1.2.2.2.2.2.2.2.2.2.2.2.2.2.2.2.2.1, b3.2.2.2.2.1.2.2.2.2.2.2.2.2.2.2.2.2.2.2.2.2.2.1, b3.2.2.2.2.1.2.2.2.2.2.2.2.2.2.2.2.2.2.2.2.2.2.2.1, b3.2.2.2.2.1.2.2.2.2.2.2.2.2.2.2.2.2.2.2.2.2.2.2.2.1⟩ : DLetter), true, ()), ()))))))
def w13_Fill_ce : CEp where
  f := 13
  args := [.cod 20, .cod 16]
  hs := []
  res := .tup [.cod 20, .one (.bool)]
  outs := []
  m := fun d dh => w13_Fill d.1 d.2.1
  ok := ce_ok mixedP Try.func13 (by kernel_rfl) (orcOf_ok w13_Fill_tb) (dr := w13_Fill_dr) (lps := lpsOf w13_Fill_lt) (lps_fn (lps_of (n := 1) (by kernel_rfl) fun i hi => match i, hi with | 0, _ => lp_ok (E := w13_Fill_e1) (by kernel_rfl) w13_Fill_e1_ok)) (fun d dh => by kernel_rfl)

def wk_SameBytes_2_dr : Nat → Nat → DrA
  | 6, _ => ⟨[0, 1, 2, 4, 5, 6, 3, 7, 8], [[], [], [0, 1], [0, 1, 2], [], [], [4, 5], [4, 5, 6], (List.range 8)], [], [], [], false, []⟩
  | _, _ => ⟨[], [], [], [], [], false, []⟩
def wk_SameBytes_2_tb : List (CEp) := []
def wk_SameBytes_2_l1 (a : (LB × LB × Int × Unit) × Unit) : Option (((LB × LB × Int × Unit) × Unit) ⊕ (((Bool × Unit) × Unit) ⊕ (Unit × Unit))) :=
  (bif (decide ((a.1.2.2.1 : Int) < (a.1.1.length : Int))) then
  (getI a.1.1 a.1.2.2.1).bind fun e1 =>
  (getI a.1.2.1 a.1.2.2.1).bind fun e2 =>
  (bif (decide (((e1.toNat : Int) : Int) ≠ (e2.toNat : Int))) then
  some (.inr (.inl ((false, ()), ())))
  else
  some (.inl ((a.1.1, a.1.2.1, (IntKind.i64.wrap (a.1.2.2.1 + 1)), ()), ())))
  else
  some (.inr (.inr ((), ()))))
def wk_SameBytes_2_e1 : LEp := ⟨4, [0, 1, 5], [.one (.sl 1), .one (.sl 1), .one (.int .i64)], [], [⟨.ret, [4], [.one (.bool)], []⟩, ⟨.exit 0, [], [], []⟩], wk_SameBytes_2_l1⟩
def wk_SameBytes_2_lt : List (LEp) := [wk_SameBytes_2_e1]
theorem wk_SameBytes_2_e1_ok : LeOk wk_SameBytes_2_e1 (nthL (bodyOf Try.f39) 0) := fun A env h k z hk => le_ok (E := wk_SameBytes_2_e1) (orcOf_ok wk_SameBytes_2_tb) (dr := wk_SameBytes_2_dr) (lps := lpsOf wk_SameBytes_2_lt) (no_loop (by kernel_rfl)) (fun a => by kernel_rfl) env h k z hk
def wk_SameBytes_2 (x0 : LB) (x1 : LB) : Option (Bool × Unit) :=
  (bif (decide (((x0.length : Int) : Int) ≠ (x1.length : Int))) then
  some (false, ())
  else
  (loopM wk_SameBytes_2_l1 ((x0, x1, 0, ()), ())).bind fun b1 =>
  (match b1 with
  | .inl b2 =>
  some (b2.1.1, ())
  | .inr b3 =>
  some (true, ())))
def wk_SameBytes_2_ce : CEp where
  f := 39
  args := [.one (.sl 1), .one (.sl 1)]
  hs := []
  res := .val (.one (.bool))
  outs := []
  m := fun d dh => wk_SameBytes_2 d.1 d.2.1
  ok := ce_ok mixedP Try.func39 (by kernel_rfl) (orcOf_ok wk_SameBytes_2_tb) (dr := wk_SameBytes_2_dr) (lps := lpsOf wk_SameBytes_2_lt) (lps_fn (lps_of (n := 1) (by kernel_rfl) fun i hi => match i, hi with | 0, _ => lp_ok (E := wk_SameBytes_2_e1) (by kernel_rfl) wk_SameBytes_2_e1_ok)) (fun d dh => by kernel_rfl)

def wk_SameInts_2_dr : Nat → Nat → DrA
  | 6, _ => ⟨[0, 1, 2, 4, 5, 6, 3, 7, 8], [[], [], [0, 1], [0, 1, 2], [], [], [4, 5], [4, 5, 6], (List.range 8)], [], [], [], false, []⟩
  | _, _ => ⟨[], [], [], [], [], false, []⟩
def wk_SameInts_2_tb : List (CEp) := []
def wk_SameInts_2_l1 (a : (LI × LI × Int × Unit) × Unit) : Option (((LI × LI × Int × Unit) × Unit) ⊕ (((Bool × Unit) × Unit) ⊕ (Unit × Unit))) :=
  (bif (decide ((a.1.2.2.1 : Int) < (a.1.1.length : Int))) then
  (getI a.1.1 a.1.2.2.1).bind fun e1 =>
  (getI a.1.2.1 a.1.2.2.1).bind fun e2 =>
  (bif (decide ((e1 : Int) ≠ e2)) then
  some (.inr (.inl ((false, ()), ())))
  else
  some (.inl ((a.1.1, a.1.2.1, (IntKind.i64.wrap (a.1.2.2.1 + 1)), ()), ())))
  else
  some (.inr (.inr ((), ()))))
def wk_SameInts_2_e1 : LEp := ⟨4, [0, 1, 5], [.one (.sl 0), .one (.sl 0), .one (.int .i64)], [], [⟨.ret, [4], [.one (.bool)], []⟩, ⟨.exit 0, [], [], []⟩], wk_SameInts_2_l1⟩
def wk_SameInts_2_lt : List (LEp) := [wk_SameInts_2_e1]
theorem wk_SameInts_2_e1_ok : LeOk wk_SameInts_2_e1 (nthL (bodyOf Try.f68) 0) := fun A env h k z hk => le_ok (E := wk_SameInts_2_e1) (orcOf_ok wk_SameInts_2_tb) (dr := wk_SameInts_2_dr) (lps := lpsOf wk_SameInts_2_lt) (no_loop (by kernel_rfl)) (fun a => by kernel_rfl) env h k z hk
def wk_SameInts_2 (x0 : LI) (x1 : LI) : Option (Bool × Unit) :=
  (bif (decide (((x0.length : Int) : Int) ≠ (x1.length : Int))) then
  some (false, ())
  else
  (loopM wk_SameInts_2_l1 ((x0, x1, 0, ()), ())).bind fun b1 =>
  (match b1 with
  | .inl b2 =>
  some (b2.1.1, ())
  | .inr b3 =>
  some (true, ())))
def wk_SameInts_2_ce : CEp where
  f := 68
  args := [.one (.sl 0), .one (.sl 0)]
  hs := []
  res := .val (.one (.bool))
  outs := []
  m := fun d dh => wk_SameInts_2 d.1 d.2.1
  ok := ce_ok mixedP Try.func68 (by kernel_rfl) (orcOf_ok wk_SameInts_2_tb) (dr := wk_SameInts_2_dr) (lps := lpsOf wk_SameInts_2_lt) (lps_fn (lps_of (n := 1) (by kernel_rfl) fun i hi => match i, hi with | 0, _ => lp_ok (E := wk_SameInts_2_e1) (by kernel_rfl) wk_SameInts_2_e1_ok)) (fun d dh => by kernel_rfl)

def wk_SameConfig_2_tb : List (CEp) := [wk_SameInts_2_ce]
def wk_SameConfig_2 (x0 : DConfig) (x1 : DConfig) : Option (Bool × Unit) :=
  (wk_SameInts_2 x0.voters x1.voters).bind fun r1 =>
  (bif r1.1 then
  (wk_SameInts_2 x0.old x1.old).bind fun r2 =>
  (bif r2.1 then
  (wk_SameInts_2 x0.learners x1.learners).bind fun r3 =>
  (bif r3.1 then
  (wk_SameInts_2 x0.want x1.want).bind fun r4 =>
  some (r4.1, ())
  else
  some (false, ()))
  else
  some (false, ()))
  else
  some (false, ()))
def wk_SameConfig_2_ce : CEp where
  f := 59
  args := [.cod 13, .cod 13]
  hs := []
  res := .val (.one (.bool))
  outs := []
  m := fun d dh => wk_SameConfig_2 d.1 d.2.1
  ok := ceO Try.func59 (by kernel_rfl) wk_SameConfig_2_tb (by kernel_rfl) fun d dh => by kernel_rfl

def wk_SameEntry_tb : List (CEp) := [wk_SameBytes_2_ce, wk_SameConfig_2_ce]
def wk_SameEntry (x0 : DEntry) (x1 : DEntry) : Option (Bool × Unit) :=
  (bif (decide ((x0.term_ : Int) = x1.term_)) then
  (bif (decide ((x0.kind : Int) = x1.kind)) then
  (wk_SameBytes_2 x0.command x1.command).bind fun r1 =>
  (bif r1.1 then
  (wk_SameConfig_2 x0.config x1.config).bind fun r2 =>
  some (r2.1, ())
  else
  some (false, ()))
  else
  some (false, ()))
  else
  some (false, ()))
def wk_SameEntry_ce : CEp where
  f := 58
  args := [.cod 18, .cod 18]
  hs := []
  res := .val (.one (.bool))
  outs := []
  m := fun d dh => wk_SameEntry d.1 d.2.1
  ok := ceO Try.func58 (by kernel_rfl) wk_SameEntry_tb (by kernel_rfl) fun d dh => by kernel_rfl

def wk_SameEntries_dr : Nat → Nat → DrA
  | 6, _ => ⟨[0, 1, 2, 4, 5, 6, 3, 7, 8, 9], [[], [], [0, 1], [0, 1, 2], [], [], [4, 5], [4, 5, 6], (List.range 8), (List.range 9)], [], [], [], false, []⟩
  | _, _ => ⟨[], [], [], [], [], false, []⟩
def wk_SameEntries_tb : List (CEp) := [wk_SameEntry_ce]
def wk_SameEntries_l1 (a : ((List (DEntry)) × (List (DEntry)) × Int × Unit) × Unit) : Option ((((List (DEntry)) × (List (DEntry)) × Int × Unit) × Unit) ⊕ (((Bool × Unit) × Unit) ⊕ (Unit × Unit))) :=
  (bif (decide ((a.1.2.2.1 : Int) < (a.1.1.length : Int))) then
  (getI a.1.1 a.1.2.2.1).bind fun e1 =>
  (getI a.1.2.1 a.1.2.2.1).bind fun e2 =>
  (wk_SameEntry e1 e2).bind fun r3 =>
  (bif (!r3.1) then
  some (.inr (.inl ((false, ()), ())))
  else
  some (.inl ((a.1.1, a.1.2.1, (IntKind.i64.wrap (a.1.2.2.1 + 1)), ()), ())))
  else
  some (.inr (.inr ((), ()))))
def wk_SameEntries_e1 : LEp := ⟨4, [0, 1, 5], [.one (.sl 18), .one (.sl 18), .one (.int .i64)], [], [⟨.ret, [4], [.one (.bool)], []⟩, ⟨.exit 0, [], [], []⟩], wk_SameEntries_l1⟩
def wk_SameEntries_lt : List (LEp) := [wk_SameEntries_e1]
theorem wk_SameEntries_e1_ok : LeOk wk_SameEntries_e1 (nthL (bodyOf Try.f37) 0) := fun A env h k z hk => le_ok (E := wk_SameEntries_e1) (orcOf_ok wk_SameEntries_tb) (dr := wk_SameEntries_dr) (lps := lpsOf wk_SameEntries_lt) (no_loop (by kernel_rfl)) (fun a => by kernel_rfl) env h k z hk
def wk_SameEntries (x0 : List (DEntry)) (x1 : List (DEntry)) : Option (Bool × Unit) :=
  (bif (decide (((x0.length : Int) : Int) ≠ (x1.length : Int))) then
  some (false, ())
  else
  (loopM wk_SameEntries_l1 ((x0, x1, 0, ()), ())).bind fun b1 =>
  (match b1 with
  | .inl b2 =>
  some (b2.1.1, ())
  | .inr b3 =>
  some (true, ())))
def wk_SameEntries_ce : CEp where
  f := 37
  args := [.one (.sl 18), .one (.sl 18)]
  hs := []
  res := .val (.one (.bool))
  outs := []
  m := fun d dh => wk_SameEntries d.1 d.2.1
  ok := ce_ok mixedP Try.func37 (by kernel_rfl) (orcOf_ok wk_SameEntries_tb) (dr := wk_SameEntries_dr) (lps := lpsOf wk_SameEntries_lt) (lps_fn (lps_of (n := 1) (by kernel_rfl) fun i hi => match i, hi with | 0, _ => lp_ok (E := wk_SameEntries_e1) (by kernel_rfl) wk_SameEntries_e1_ok)) (fun d dh => by kernel_rfl)

def wk_SameInts_3_dr : Nat → Nat → DrA
  | 6, _ => ⟨[0, 1, 2, 4, 5, 6, 3, 7, 8], [[], [], [0, 1], [0, 1, 2], [], [], [4, 5], [4, 5, 6], (List.range 8)], [], [], [], false, []⟩
  | _, _ => ⟨[], [], [], [], [], false, []⟩
def wk_SameInts_3_tb : List (CEp) := []
def wk_SameInts_3_l1 (a : (Nat × LI × Int × Unit) × (LI × Unit)) : Option (((Nat × LI × Int × Unit) × (LI × Unit)) ⊕ (((Bool × Unit) × (LI × Unit)) ⊕ (Unit × (LI × Unit)))) :=
  (bif (decide ((a.1.2.2.1 : Int) < ((a.1.1 : Nat) : Int))) then
  (if 0 ≤ (a.1.2.2.1 : Int) ∧ (a.1.2.2.1 : Int) < ((a.1.1 : Nat) : Int) then
  (getI a.1.2.1 a.1.2.2.1).bind fun e1 =>
  (a.2.1[(0 + (a.1.2.2.1 : Int).toNat)]?).bind fun e2 =>
  (bif (decide ((e2 : Int) ≠ e1)) then
  some (.inr (.inl ((false, ()), (a.2.1, ()))))
  else
  some (.inl ((a.1.1, a.1.2.1, (IntKind.i64.wrap (a.1.2.2.1 + 1)), ()), (a.2.1, ()))))
  else none)
  else
  some (.inr (.inr ((), (a.2.1, ())))))
def wk_SameInts_3_e1 : LEp := ⟨4, [0, 1, 5], [.one (.asz 0 0), .one (.sl 0), .one (.int .i64)], [.arr 3 0 true], [⟨.ret, [4], [.one (.bool)], [.arr 3 0 true]⟩, ⟨.exit 0, [], [], [.arr 3 0 true]⟩], wk_SameInts_3_l1⟩
def wk_SameInts_3_lt : List (LEp) := [wk_SameInts_3_e1]
theorem wk_SameInts_3_e1_ok : LeOk wk_SameInts_3_e1 (nthL (bodyOf Try.f68) 0) := fun A env h k z hk => le_ok (E := wk_SameInts_3_e1) (orcOf_ok wk_SameInts_3_tb) (dr := wk_SameInts_3_dr) (lps := lpsOf wk_SameInts_3_lt) (no_loop (by kernel_rfl)) (fun a => by kernel_rfl) env h k z hk
def wk_SameInts_3 (x0 : Nat) (x1 : LI) (h0 : LI) : Option (Bool × (LI × Unit)) :=
  (bif (decide ((((x0 : Nat) : Int) : Int) ≠ (x1.length : Int))) then
  some (false, (h0, ()))
  else
  (loopM wk_SameInts_3_l1 ((x0, x1, 0, ()), (h0, ()))).bind fun b1 =>
  (match b1 with
  | .inl b2 =>
  some (b2.1.1, (b2.2.1, ()))
  | .inr b3 =>
  some (true, (b3.2.1, ()))))
def wk_SameInts_3_ce : CEp where
  f := 68
  args := [.one (.asz 0 0), .one (.sl 0)]
  hs := [.arr 3 0 true]
  res := .val (.one (.bool))
  outs := [.arr 3 0 true]
  m := fun d dh => wk_SameInts_3 d.1 d.2.1 dh.1
  ok := ce_ok mixedP Try.func68 (by kernel_rfl) (orcOf_ok wk_SameInts_3_tb) (dr := wk_SameInts_3_dr) (lps := lpsOf wk_SameInts_3_lt) (lps_fn (lps_of (n := 1) (by kernel_rfl) fun i hi => match i, hi with | 0, _ => lp_ok (E := wk_SameInts_3_e1) (by kernel_rfl) wk_SameInts_3_e1_ok)) (fun d dh => by kernel_rfl)

def wk_SameConfig_3_tb : List (CEp) := [wk_SameInts_3_ce]
def wk_SameConfig_3 (x0 : Nat × Nat × Nat × Nat × Unit) (x1 : DConfig) (h0 : LI) (h1 : LI) (h2 : LI) (h3 : LI) : Option (Bool × (LI × LI × LI × LI × Unit)) :=
  (wk_SameInts_3 x0.1 x1.voters h0).bind fun r1 =>
  (bif r1.1 then
  (wk_SameInts_3 x0.2.1 x1.old h1).bind fun r2 =>
  (bif r2.1 then
  (wk_SameInts_3 x0.2.2.1 x1.learners h2).bind fun r3 =>
  (bif r3.1 then
  (wk_SameInts_3 x0.2.2.2.1 x1.want h3).bind fun r4 =>
  some (r4.1, (r1.2.1, r2.2.1, r3.2.1, r4.2.1, ()))
  else
  some (false, (r1.2.1, r2.2.1, r3.2.1, h3, ())))
  else
  some (false, (r1.2.1, r2.2.1, h2, h3, ())))
  else
  some (false, (r1.2.1, h1, h2, h3, ())))
def wk_SameConfig_3_ce : CEp where
  f := 59
  args := [.agg [.asz 0 0, .asz 0 1, .asz 0 2, .asz 0 3], .cod 13]
  hs := [.arr 3 0 true, .arr 3 0 true, .arr 3 0 true, .arr 3 0 true]
  res := .val (.one (.bool))
  outs := [.arr 3 0 true, .arr 3 0 true, .arr 3 0 true, .arr 3 0 true]
  m := fun d dh => wk_SameConfig_3 d.1 d.2.1 dh.1 dh.2.1 dh.2.2.1 dh.2.2.2.1
  ok := ceO Try.func59 (by kernel_rfl) wk_SameConfig_3_tb (by kernel_rfl) fun d dh => by kernel_rfl

def wk_SameBase_2_tb : List (CEp) := [wk_SameConfig_3_ce]
def wk_SameBase_2 (x0 : Int × Int × Nat × Nat × Nat × Nat × Unit) (x1 : DBase) (h0 : LI) (h1 : LI) (h2 : LI) (h3 : LI) : Option (Bool × (LI × LI × LI × LI × Unit)) :=
  (bif (decide ((x0.1 : Int) = x1.index)) then
  (bif (decide ((x0.2.1 : Int) = x1.term_)) then
  (wk_SameConfig_3 (x0.2.2.1, x0.2.2.2.1, x0.2.2.2.2.1, x0.2.2.2.2.2.1, ()) x1.config h0 h1 h2 h3).bind fun r1 =>
  some (r1.1, (r1.2.1, r1.2.2.1, r1.2.2.2.1, r1.2.2.2.2.1, ()))
  else
  some (false, (h0, h1, h2, h3, ())))
  else
  some (false, (h0, h1, h2, h3, ())))
def wk_SameBase_2_ce : CEp where
  f := 38
  args := [.agg [.int .i64, .int .i64, .asz 0 0, .asz 0 1, .asz 0 2, .asz 0 3], .cod 14]
  hs := [.arr 3 0 true, .arr 3 0 true, .arr 3 0 true, .arr 3 0 true]
  res := .val (.one (.bool))
  outs := [.arr 3 0 true, .arr 3 0 true, .arr 3 0 true, .arr 3 0 true]
  m := fun d dh => wk_SameBase_2 d.1 d.2.1 dh.1 dh.2.1 dh.2.2.1 dh.2.2.2.1
  ok := ceO Try.func38 (by kernel_rfl) wk_SameBase_2_tb (by kernel_rfl) fun d dh => by kernel_rfl

def wk_SameBytes_3_dr : Nat → Nat → DrA
  | 6, _ => ⟨[0, 1, 2, 4, 5, 6, 3, 7, 8], [[], [], [0, 1], [0, 1, 2], [], [], [4, 5], [4, 5, 6], (List.range 8)], [], [], [], false, []⟩
  | _, _ => ⟨[], [], [], [], [], false, []⟩
def wk_SameBytes_3_tb : List (CEp) := []
def wk_SameBytes_3_l1 (a : (Nat × LB × Int × Unit) × (LB × Unit)) : Option (((Nat × LB × Int × Unit) × (LB × Unit)) ⊕ (((Bool × Unit) × (LB × Unit)) ⊕ (Unit × (LB × Unit)))) :=
  (bif (decide ((a.1.2.2.1 : Int) < ((a.1.1 : Nat) : Int))) then
  (if 0 ≤ (a.1.2.2.1 : Int) ∧ (a.1.2.2.1 : Int) < ((a.1.1 : Nat) : Int) then
  (getI a.1.2.1 a.1.2.2.1).bind fun e1 =>
  (a.2.1[(0 + (a.1.2.2.1 : Int).toNat)]?).bind fun e2 =>
  (bif (decide (((e2.toNat : Int) : Int) ≠ (e1.toNat : Int))) then
  some (.inr (.inl ((false, ()), (a.2.1, ()))))
  else
  some (.inl ((a.1.1, a.1.2.1, (IntKind.i64.wrap (a.1.2.2.1 + 1)), ()), (a.2.1, ()))))
  else none)
  else
  some (.inr (.inr ((), (a.2.1, ())))))
def wk_SameBytes_3_e1 : LEp := ⟨4, [0, 1, 5], [.one (.asz 1 0), .one (.sl 1), .one (.int .i64)], [.arr 5 1 true], [⟨.ret, [4], [.one (.bool)], [.arr 5 1 true]⟩, ⟨.exit 0, [], [], [.arr 5 1 true]⟩], wk_SameBytes_3_l1⟩
def wk_SameBytes_3_lt : List (LEp) := [wk_SameBytes_3_e1]
theorem wk_SameBytes_3_e1_ok : LeOk wk_SameBytes_3_e1 (nthL (bodyOf Try.f39) 0) := fun A env h k z hk => le_ok (E := wk_SameBytes_3_e1) (orcOf_ok wk_SameBytes_3_tb) (dr := wk_SameBytes_3_dr) (lps := lpsOf wk_SameBytes_3_lt) (no_loop (by kernel_rfl)) (fun a => by kernel_rfl) env h k z hk
def wk_SameBytes_3 (x0 : Nat) (x1 : LB) (h0 : LB) : Option (Bool × (LB × Unit)) :=
  (bif (decide ((((x0 : Nat) : Int) : Int) ≠ (x1.length : Int))) then
  some (false, (h0, ()))
  else
  (loopM wk_SameBytes_3_l1 ((x0, x1, 0, ()), (h0, ()))).bind fun b1 =>
  (match b1 with
  | .inl b2 =>
  some (b2.1.1, (b2.2.1, ()))
  | .inr b3 =>
  some (true, (b3.2.1, ()))))
def wk_SameBytes_3_ce : CEp where
  f := 39
  args := [.one (.asz 1 0), .one (.sl 1)]
  hs := [.arr 5 1 true]
  res := .val (.one (.bool))
  outs := [.arr 5 1 true]
  m := fun d dh => wk_SameBytes_3 d.1 d.2.1 dh.1
  ok := ce_ok mixedP Try.func39 (by kernel_rfl) (orcOf_ok wk_SameBytes_3_tb) (dr := wk_SameBytes_3_dr) (lps := lpsOf wk_SameBytes_3_lt) (lps_fn (lps_of (n := 1) (by kernel_rfl) fun i hi => match i, hi with | 0, _ => lp_ok (E := wk_SameBytes_3_e1) (by kernel_rfl) wk_SameBytes_3_e1_ok)) (fun d dh => by kernel_rfl)

def wk_SameLetter_tb : List (CEp) := [wk_SameEntries_ce, wk_SameBase_2_ce, wk_SameBytes_3_ce]
def wk_SameLetter (x0 : Int × Int × Int × Int × Int × Int × Int × Int × Bool × Unit × Int × Int × Nat × Nat × Nat × Nat × Int × Int × Int × Nat × Unit) (x1 : DLetter) (h0 : LI) (h1 : LI) (h2 : LI) (h3 : LI) (h4 : LB) : Option (Bool × (LI × LI × LI × LI × LB × Unit)) :=
  (bif (decide ((x0.1 : Int) = x1.kind)) then
  (bif (decide ((x0.2.1 : Int) = x1.group)) then
  (bif (decide ((x0.2.2.1 : Int) = x1.from_)) then
  (bif (decide ((x0.2.2.2.1 : Int) = x1.to_)) then
  (bif (decide ((x0.2.2.2.2.1 : Int) = x1.term_)) then
  (bif (decide ((x0.2.2.2.2.2.1 : Int) = x1.index)) then
  (bif (decide ((x0.2.2.2.2.2.2.1 : Int) = x1.logTerm)) then
  (bif (decide ((x0.2.2.2.2.2.2.2.1 : Int) = x1.commit)) then
  (bif (decide (x0.2.2.2.2.2.2.2.2.1 = x1.ok)) then
  (wk_SameEntries [] x1.entries).bind fun r1 =>
  (bif r1.1 then
  (wk_SameBase_2 (x0.2.2.2.2.2.2.2.2.2.2.1, x0.2.2.2.2.2.2.2.2.2.2.2.1, x0.2.2.2.2.2.2.2.2.2.2.2.2.1, x0.2.2.2.2.2.2.2.2.2.2.2.2.2.1, x0.2.2.2.2.2.2.2.2.2.2.2.2.2.2.1, x0.2.2.2.2.2.2.2.2.2.2.2.2.2.2.2.1, ()) x1.base h0 h1 h2 h3).bind fun r2 =>
  (bif r2.1 then
  (bif (decide ((x0.2.2.2.2.2.2.2.2.2.2.2.2.2.2.2.2.1 : Int) = x1.size)) then
  (bif (decide ((x0.2.2.2.2.2.2.2.2.2.2.2.2.2.2.2.2.2.1 : Int) = x1.at_)) then
  (bif (decide ((x0.2.2.2.2.2.2.2.2.2.2.2.2.2.2.2.2.2.2.1 : Int) = x1.tag)) then
  (wk_SameBytes_3 x0.2.2.2.2.2.2.2.2.2.2.2.2.2.2.2.2.2.2.2.1 x1.bytes h4).bind fun r3 =>
  some (r3.1, (r2.2.1, r2.2.2.1, r2.2.2.2.1, r2.2.2.2.2.1, r3.2.1, ()))
  else
  some (false, (r2.2.1, r2.2.2.1, r2.2.2.2.1, r2.2.2.2.2.1, h4, ())))
  else
  some (false, (r2.2.1, r2.2.2.1, r2.2.2.2.1, r2.2.2.2.2.1, h4, ())))
  else
  some (false, (r2.2.1, r2.2.2.1, r2.2.2.2.1, r2.2.2.2.2.1, h4, ())))
  else
  some (false, (r2.2.1, r2.2.2.1, r2.2.2.2.1, r2.2.2.2.2.1, h4, ())))
  else
  some (false, (h0, h1, h2, h3, h4, ())))
  else
  some (false, (h0, h1, h2, h3, h4, ())))
  else
  some (false, (h0, h1, h2, h3, h4, ())))
  else
  some (false, (h0, h1, h2, h3, h4, ())))
  else
  some (false, (h0, h1, h2, h3, h4, ())))
  else
  some (false, (h0, h1, h2, h3, h4, ())))
  else
  some (false, (h0, h1, h2, h3, h4, ())))
  else
  some (false, (h0, h1, h2, h3, h4, ())))
  else
  some (false, (h0, h1, h2, h3, h4, ())))
  else
  some (false, (h0, h1, h2, h3, h4, ())))
def wk_SameLetter_ce : CEp where
  f := 14
  args := [.agg [.int .u8, .int .i64, .int .i64, .int .i64, .int .i64, .int .i64, .int .i64, .int .i64, .bool, .nil, .int .i64, .int .i64, .asz 0 0, .asz 0 1, .asz 0 2, .asz 0 3, .int .i64, .int .i64, .int .i64, .asz 1 4], .cod 20]
  hs := [.arr 3 0 true, .arr 3 0 true, .arr 3 0 true, .arr 3 0 true, .arr 5 1 true]
  res := .val (.one (.bool))
  outs := [.arr 3 0 true, .arr 3 0 true, .arr 3 0 true, .arr 3 0 true, .arr 5 1 true]
  m := fun d dh => wk_SameLetter d.1 d.2.1 dh.1 dh.2.1 dh.2.2.1 dh.2.2.2.1 dh.2.2.2.2.1
  ok := ceO Try.func14 (by kernel_rfl) wk_SameLetter_tb (by kernel_rfl) fun d dh => by kernel_rfl

def wk_OverEntries_tb : List (CEp) := [wk_markEntry_ce]
def wk_OverEntries_l1 (a : ((Nat × Nat × Nat) × Int × Unit) × ((List (DEntry)) × Unit)) : Option ((((Nat × Nat × Nat) × Int × Unit) × ((List (DEntry)) × Unit)) ⊕ ((((Nat × Nat × Nat) × Unit) × (Unit × (List (DEntry)) × Unit)))) :=
  (bif (decide ((a.1.2.1 : Int) < ((a.1.1.2.1 : Nat) : Int))) then
  (if 0 ≤ (a.1.2.1 : Int) ∧ (a.1.2.1 : Int) < ((a.1.1.2.1 : Nat) : Int) then
  (a.2.1[(a.1.1.1 + (a.1.2.1 : Int).toNat)]?).bind fun e1 =>
  none
  else none)
  else
  some (.inr (((a.1.1.1, a.1.1.2.1, a.1.1.2.2), ()), ((), a.2.1, ()))))
def wk_OverEntries_e1 : LEp := ⟨1, [0, 2], [.one (.as 18 0), .one (.int .i64)], [.arr 80 18 false], [⟨.exit 0, [0], [.one (.as 18 1)], [.dead, .arr 80 18 false]⟩], wk_OverEntries_l1⟩
def wk_OverEntries_l2 (a : ((Nat × Nat × Nat) × Int × Unit) × ((List (DEntry)) × Unit)) : Option ((((Nat × Nat × Nat) × Int × Unit) × ((List (DEntry)) × Unit)) ⊕ ((Unit × (Unit × Unit)))) :=
  (bif (decide ((a.1.2.1 : Int) < ((a.1.1.2.1 : Nat) : Int))) then
  (wk_markEntry 2 a.1.2.1).bind fun r1 =>
  (if 0 ≤ (a.1.2.1 : Int) ∧ (a.1.2.1 : Int) < ((a.1.1.2.1 : Nat) : Int) then
  (a.2.1[(a.1.1.1 + (a.1.2.1 : Int).toNat)]?).bind fun e2 =>
  let y3 : List (DEntry) := (a.2.1.set (a.1.1.1 + (a.1.2.1 : Int).toNat) (⟨r1.1.1, r1.1.2.1, [], (⟨[], [], [], []⟩ : DConfig)⟩ : DEntry))
  some (.inl (((a.1.1.1, a.1.1.2.1, a.1.1.2.2), (IntKind.i64.wrap (a.1.2.1 + 1)), ()), (y3, ())))
  else none)
  else
  some (.inr ((), ((), ()))))
def wk_OverEntries_e2 : LEp := ⟨6, [3, 4], [.one (.as 18 0), .one (.int .i64)], [.arr 80 18 false], [⟨.exit 2, [], [], [.dead]⟩], wk_OverEntries_l2⟩
def wk_OverEntries_lt : List (LEp) := [wk_OverEntries_e1, wk_OverEntries_e2]
theorem wk_OverEntries_e1_ok : LeOk wk_OverEntries_e1 (nthL (bodyOf Try.f40) 0) := fun A env h k z hk => le_ok (E := wk_OverEntries_e1) (orcOf_ok wk_OverEntries_tb) (dr := dr0) (lps := lpsOf wk_OverEntries_lt) (no_loop (by kernel_rfl)) (fun a => by kernel_rfl) env h k z hk
theorem wk_OverEntries_e2_ok : LeOk wk_OverEntries_e2 (nthL (bodyOf Try.f40) 1) := fun A env h k z hk => le_ok (E := wk_OverEntries_e2) (orcOf_ok wk_OverEntries_tb) (dr := dr0) (lps := lpsOf wk_OverEntries_lt) (no_loop (by kernel_rfl)) (fun a => by kernel_rfl) env h k z hk
def wk_OverEntries (x0 : Nat × Nat × Nat) (h0 : List (DEntry)) : Option (Unit × (Unit × Unit)) :=
  (loopM wk_OverEntries_l1 (((x0.1, x0.2.1, x0.2.2), 0, ()), (h0, ()))).bind fun b1 =>
  let y2 : Int := (if ((IntKind.i64.wrap (((b1.1.1.2.1 : Nat) : Int) + 12)) : Int) < ((b1.1.1.2.2 : Nat) : Int) then (IntKind.i64.wrap (((b1.1.1.2.1 : Nat) : Int) + 12)) else ((b1.1.1.2.2 : Nat) : Int))
  (if 0 ≤ ((0 : Int) : Int) ∧ ((0 : Int) : Int) ≤ (y2 : Int) ∧ (y2 : Int) ≤ ((b1.1.1.2.2 : Nat) : Int) ∧ (y2 : Int) ≤ 140737488355328 then
  (loopM wk_OverEntries_l2 ((((b1.1.1.1 + (0 : Int).toNat), ((y2 : Int).toNat - (0 : Int).toNat), (b1.1.1.2.2 - (0 : Int).toNat)), 0, ()), (b1.2.2.1, ()))).bind fun b3 =>
  some ((), ((), ()))
  else none)
def wk_OverEntries_ce : CEp where
  f := 40
  args := [.one (.as 18 0)]
  hs := [.arr 80 18 false]
  res := .tup []
  outs := [.dead]
  m := fun d dh => wk_OverEntries d.1 dh.1
  ok := ce_ok mixedP Try.func40 (by kernel_rfl) (orcOf_ok wk_OverEntries_tb) (dr := dr0) (lps := lpsOf wk_OverEntries_lt) (lps_fn (lps_of (n := 2) (by kernel_rfl) fun i hi => match i, hi with | 0, _ => lp_ok (E := wk_OverEntries_e1) (by kernel_rfl) wk_OverEntries_e1_ok | 1, _ => lp_ok (E := wk_OverEntries_e2) (by kernel_rfl) wk_OverEntries_e2_ok)) (fun d dh => by kernel_rfl)

def wk_OverConfig_tb : List (CEp) := [wk_OverInts_v_ce]
def wk_OverConfig (x0 : Nat × Nat × Nat × Nat × Unit) (h0 : LI) (h1 : LI) (h2 : LI) (h3 : LI) : Option (Unit × (LI × LI × LI × LI × Unit)) :=
  (wk_OverInts_v x0.1 h0).bind fun r1 =>
  (wk_OverInts_v x0.2.1 h1).bind fun r2 =>
  (wk_OverInts_v x0.2.2.1 h2).bind fun r3 =>
  (wk_OverInts_v x0.2.2.2.1 h3).bind fun r4 =>
  some ((), (r1.2.1, r2.2.1, r3.2.1, r4.2.1, ()))
def wk_OverConfig_ce : CEp where
  f := 61
  args := [.agg [.asz 0 0, .asz 0 1, .asz 0 2, .asz 0 3]]
  hs := [.arr 3 0 true, .arr 3 0 true, .arr 3 0 true, .arr 3 0 true]
  res := .tup []
  outs := [.arr 3 0 true, .arr 3 0 true, .arr 3 0 true, .arr 3 0 true]
  m := fun d dh => wk_OverConfig d.1 dh.1 dh.2.1 dh.2.2.1 dh.2.2.2.1
  ok := ceO Try.func61 (by kernel_rfl) wk_OverConfig_tb (by kernel_rfl) fun d dh => by kernel_rfl

def wk_OverBase_tb : List (CEp) := [wk_OverConfig_ce]
def wk_OverBase (x0 : Int × Int × Nat × Nat × Nat × Nat × Unit) (h0 : LI) (h1 : LI) (h2 : LI) (h3 : LI) : Option (Unit × (LI × LI × LI × LI × Unit)) :=
  (wk_OverConfig (x0.2.2.1, x0.2.2.2.1, x0.2.2.2.2.1, x0.2.2.2.2.2.1, ()) h0 h1 h2 h3).bind fun r1 =>
  some ((), (r1.2.1, r1.2.2.1, r1.2.2.2.1, r1.2.2.2.2.1, ()))
def wk_OverBase_ce : CEp where
  f := 41
  args := [.agg [.int .i64, .int .i64, .asz 0 0, .asz 0 1, .asz 0 2, .asz 0 3]]
  hs := [.arr 3 0 true, .arr 3 0 true, .arr 3 0 true, .arr 3 0 true]
  res := .tup []
  outs := [.arr 3 0 true, .arr 3 0 true, .arr 3 0 true, .arr 3 0 true]
  m := fun d dh => wk_OverBase d.1 dh.1 dh.2.1 dh.2.2.1 dh.2.2.2.1
  ok := ceO Try.func41 (by kernel_rfl) wk_OverBase_tb (by kernel_rfl) fun d dh => by kernel_rfl

def wk_OverLetter_tb : List (CEp) := [wk_OverEntries_ce, wk_OverBase_ce, wk_OverBytes_v_ce]
def wk_OverLetter (x0 : Int × Int × Int × Int × Int × Int × Int × Int × Bool × Unit × Int × Int × Nat × Nat × Nat × Nat × Int × Int × Int × Nat × Unit) (h0 : LI) (h1 : LI) (h2 : LI) (h3 : LI) (h4 : LB) : Option (Unit × (LI × LI × LI × LI × LB × Unit)) :=
  (wk_OverEntries (0, 0, 0) []).bind fun r1 =>
  (wk_OverBase (x0.2.2.2.2.2.2.2.2.2.2.1, x0.2.2.2.2.2.2.2.2.2.2.2.1, x0.2.2.2.2.2.2.2.2.2.2.2.2.1, x0.2.2.2.2.2.2.2.2.2.2.2.2.2.1, x0.2.2.2.2.2.2.2.2.2.2.2.2.2.2.1, x0.2.2.2.2.2.2.2.2.2.2.2.2.2.2.2.1, ()) h0 h1 h2 h3).bind fun r2 =>
  (wk_OverBytes_v x0.2.2.2.2.2.2.2.2.2.2.2.2.2.2.2.2.2.2.2.1 h4).bind fun r3 =>
  some ((), (r2.2.1, r2.2.2.1, r2.2.2.2.1, r2.2.2.2.2.1, r3.2.1, ()))
def wk_OverLetter_ce : CEp where
  f := 15
  args := [.agg [.int .u8, .int .i64, .int .i64, .int .i64, .int .i64, .int .i64, .int .i64, .int .i64, .bool, .nil, .int .i64, .int .i64, .asz 0 0, .asz 0 1, .asz 0 2, .asz 0 3, .int .i64, .int .i64, .int .i64, .asz 1 4]]
  hs := [.arr 3 0 true, .arr 3 0 true, .arr 3 0 true, .arr 3 0 true, .arr 5 1 true]
  res := .tup []
  outs := [.arr 3 0 true, .arr 3 0 true, .arr 3 0 true, .arr 3 0 true, .arr 5 1 true]
  m := fun d dh => wk_OverLetter d.1 dh.1 dh.2.1 dh.2.2.1 dh.2.2.2.1 dh.2.2.2.2.1
  ok := ceO Try.func15 (by kernel_rfl) wk_OverLetter_tb (by kernel_rfl) fun d dh => by kernel_rfl

def wk_SameBytes_4_dr : Nat → Nat → DrA
  | 6, _ => ⟨[0, 1, 2, 4, 5, 6, 3, 7, 8], [[], [], [0, 1], [0, 1, 2], [], [], [4, 5], [4, 5, 6], (List.range 8)], [], [], [], false, []⟩
  | _, _ => ⟨[], [], [], [], [], false, []⟩
def wk_SameBytes_4_tb : List (CEp) := []
def wk_SameBytes_4_l1 (a : ((Nat × Nat × Nat × Nat × Unit) × LB × Int × Unit) × ((List (DEntryX)) × Unit)) : Option ((((Nat × Nat × Nat × Nat × Unit) × LB × Int × Unit) × ((List (DEntryX)) × Unit)) ⊕ (((Bool × Unit) × ((List (DEntryX)) × Unit)) ⊕ (Unit × ((List (DEntryX)) × Unit)))) :=
  (bif (decide ((a.1.2.2.1 : Int) < ((a.1.1.2.2.1 : Nat) : Int))) then
  (if 0 ≤ (a.1.2.2.1 : Int) ∧ (a.1.2.2.1 : Int) < ((a.1.1.2.2.1 : Nat) : Int) then
  (getI a.1.2.1 a.1.2.2.1).bind fun e1 =>
  (a.2.1[a.1.1.1]?).bind fun e2 =>
  ((e2.command.1 ++ e2.command.2)[(a.1.1.2.1 + (a.1.2.2.1 : Int).toNat)]?).bind fun e3 =>
  (bif (decide (((e3.toNat : Int) : Int) ≠ (e1.toNat : Int))) then
  some (.inr (.inl ((false, ()), (a.2.1, ()))))
  else
  some (.inl (((a.1.1.1, a.1.1.2.1, a.1.1.2.2.1, a.1.1.2.2.2.1, ()), a.1.2.1, (IntKind.i64.wrap (a.1.2.2.1 + 1)), ()), (a.2.1, ()))))
  else none)
  else
  some (.inr (.inr ((), (a.2.1, ())))))
def wk_SameBytes_4_e1 : LEp := ⟨4, [0, 1, 5], [.one (.gv 0 542 4), .one (.sl 1), .one (.int .i64)], [.gen 8 true], [⟨.ret, [4], [.one (.bool)], [.gen 8 true]⟩, ⟨.exit 0, [], [], [.gen 8 true]⟩], wk_SameBytes_4_l1⟩
def wk_SameBytes_4_lt : List (LEp) := [wk_SameBytes_4_e1]
theorem wk_SameBytes_4_e1_ok : LeOk wk_SameBytes_4_e1 (nthL (bodyOf Try.f39) 0) := fun A env h k z hk => le_ok (E := wk_SameBytes_4_e1) (orcOfX_ok HK0 wk_SameBytes_4_tb) (dr := wk_SameBytes_4_dr) (lps := lpsOf wk_SameBytes_4_lt) (no_loop (by kernel_rfl)) (fun a => by kernel_rfl) env h k z hk
def wk_SameBytes_4 (x0 : Nat × Nat × Nat × Nat × Unit) (x1 : LB) (h0 : List (DEntryX)) : Option (Bool × ((List (DEntryX)) × Unit)) :=
  (bif (decide ((((x0.2.2.1 : Nat) : Int) : Int) ≠ (x1.length : Int))) then
  some (false, (h0, ()))
  else
  (loopM wk_SameBytes_4_l1 (((x0.1, x0.2.1, x0.2.2.1, x0.2.2.2.1, ()), x1, 0, ()), (h0, ()))).bind fun b1 =>
  (match b1 with
  | .inl b2 =>
  some (b2.1.1, (b2.2.1, ()))
  | .inr b3 =>
  some (true, (b3.2.1, ()))))
def wk_SameBytes_4_ce : CEp where
  f := 39
  args := [.one (.gv 0 542 4), .one (.sl 1)]
  hs := [.gen 8 true]
  res := .val (.one (.bool))
  outs := [.gen 8 true]
  m := fun d dh => wk_SameBytes_4 d.1 d.2.1 dh.1
  ok := ce_ok mixedP Try.func39 (by kernel_rfl) (orcOfX_ok HK0 wk_SameBytes_4_tb) (dr := wk_SameBytes_4_dr) (lps := lpsOf wk_SameBytes_4_lt) (lps_fn (lps_of (n := 1) (by kernel_rfl) fun i hi => match i, hi with | 0, _ => lp_ok (E := wk_SameBytes_4_e1) (by kernel_rfl) wk_SameBytes_4_e1_ok)) (fun d dh => by kernel_rfl)

def wk_SameInts_4_dr : Nat → Nat → DrA
  | 6, _ => ⟨[0, 1, 2, 4, 5, 6, 3, 7, 8], [[], [], [0, 1], [0, 1, 2], [], [], [4, 5], [4, 5, 6], (List.range 8)], [], [], [], false, []⟩
  | _, _ => ⟨[], [], [], [], [], false, []⟩
def wk_SameInts_4_tb : List (CEp) := []
def wk_SameInts_4_l1 (a : ((Nat × Nat × Nat × Nat × Unit) × LI × Int × Unit) × ((List (DEntryX)) × Unit)) : Option ((((Nat × Nat × Nat × Nat × Unit) × LI × Int × Unit) × ((List (DEntryX)) × Unit)) ⊕ (((Bool × Unit) × ((List (DEntryX)) × Unit)) ⊕ (Unit × ((List (DEntryX)) × Unit)))) :=
  (bif (decide ((a.1.2.2.1 : Int) < ((a.1.1.2.2.1 : Nat) : Int))) then
  (if 0 ≤ (a.1.2.2.1 : Int) ∧ (a.1.2.2.1 : Int) < ((a.1.1.2.2.1 : Nat) : Int) then
  (getI a.1.2.1 a.1.2.2.1).bind fun e1 =>
  (a.2.1[a.1.1.1]?).bind fun e2 =>
  ((e2.config.voters.1 ++ e2.config.voters.2)[(a.1.1.2.1 + (a.1.2.2.1 : Int).toNat)]?).bind fun e3 =>
  (bif (decide ((e3 : Int) ≠ e1)) then
  some (.inr (.inl ((false, ()), (a.2.1, ()))))
  else
  some (.inl (((a.1.1.1, a.1.1.2.1, a.1.1.2.2.1, a.1.1.2.2.2.1, ()), a.1.2.1, (IntKind.i64.wrap (a.1.2.2.1 + 1)), ()), (a.2.1, ()))))
  else none)
  else
  some (.inr (.inr ((), (a.2.1, ())))))
def wk_SameInts_4_e1 : LEp := ⟨4, [0, 1, 5], [.one (.gv 0 798 4), .one (.sl 0), .one (.int .i64)], [.gen 8 true], [⟨.ret, [4], [.one (.bool)], [.gen 8 true]⟩, ⟨.exit 0, [], [], [.gen 8 true]⟩], wk_SameInts_4_l1⟩
def wk_SameInts_4_lt : List (LEp) := [wk_SameInts_4_e1]
theorem wk_SameInts_4_e1_ok : LeOk wk_SameInts_4_e1 (nthL (bodyOf Try.f68) 0) := fun A env h k z hk => le_ok (E := wk_SameInts_4_e1) (orcOfX_ok HK0 wk_SameInts_4_tb) (dr := wk_SameInts_4_dr) (lps := lpsOf wk_SameInts_4_lt) (no_loop (by kernel_rfl)) (fun a => by kernel_rfl) env h k z hk
def wk_SameInts_4 (x0 : Nat × Nat × Nat × Nat × Unit) (x1 : LI) (h0 : List (DEntryX)) : Option (Bool × ((List (DEntryX)) × Unit)) :=
  (bif (decide ((((x0.2.2.1 : Nat) : Int) : Int) ≠ (x1.length : Int))) then
  some (false, (h0, ()))
  else
  (loopM wk_SameInts_4_l1 (((x0.1, x0.2.1, x0.2.2.1, x0.2.2.2.1, ()), x1, 0, ()), (h0, ()))).bind fun b1 =>
  (match b1 with
  | .inl b2 =>
  some (b2.1.1, (b2.2.1, ()))
  | .inr b3 =>
  some (true, (b3.2.1, ()))))
def wk_SameInts_4_ce : CEp where
  f := 68
  args := [.one (.gv 0 798 4), .one (.sl 0)]
  hs := [.gen 8 true]
  res := .val (.one (.bool))
  outs := [.gen 8 true]
  m := fun d dh => wk_SameInts_4 d.1 d.2.1 dh.1
  ok := ce_ok mixedP Try.func68 (by kernel_rfl) (orcOfX_ok HK0 wk_SameInts_4_tb) (dr := wk_SameInts_4_dr) (lps := lpsOf wk_SameInts_4_lt) (lps_fn (lps_of (n := 1) (by kernel_rfl) fun i hi => match i, hi with | 0, _ => lp_ok (E := wk_SameInts_4_e1) (by kernel_rfl) wk_SameInts_4_e1_ok)) (fun d dh => by kernel_rfl)

def wk_SameInts_5_dr : Nat → Nat → DrA
  | 6, _ => ⟨[0, 1, 2, 4, 5, 6, 3, 7, 8], [[], [], [0, 1], [0, 1, 2], [], [], [4, 5], [4, 5, 6], (List.range 8)], [], [], [], false, []⟩
  | _, _ => ⟨[], [], [], [], [], false, []⟩
def wk_SameInts_5_tb : List (CEp) := []
def wk_SameInts_5_l1 (a : ((Nat × Nat × Nat × Nat × Unit) × LI × Int × Unit) × ((List (DEntryX)) × Unit)) : Option ((((Nat × Nat × Nat × Nat × Unit) × LI × Int × Unit) × ((List (DEntryX)) × Unit)) ⊕ (((Bool × Unit) × ((List (DEntryX)) × Unit)) ⊕ (Unit × ((List (DEntryX)) × Unit)))) :=
  (bif (decide ((a.1.2.2.1 : Int) < ((a.1.1.2.2.1 : Nat) : Int))) then
  (if 0 ≤ (a.1.2.2.1 : Int) ∧ (a.1.2.2.1 : Int) < ((a.1.1.2.2.1 : Nat) : Int) then
  (getI a.1.2.1 a.1.2.2.1).bind fun e1 =>
  (a.2.1[a.1.1.1]?).bind fun e2 =>
  ((e2.config.old.1 ++ e2.config.old.2)[(a.1.1.2.1 + (a.1.2.2.1 : Int).toNat)]?).bind fun e3 =>
  (bif (decide ((e3 : Int) ≠ e1)) then
  some (.inr (.inl ((false, ()), (a.2.1, ()))))
  else
  some (.inl (((a.1.1.1, a.1.1.2.1, a.1.1.2.2.1, a.1.1.2.2.2.1, ()), a.1.2.1, (IntKind.i64.wrap (a.1.2.2.1 + 1)), ()), (a.2.1, ()))))
  else none)
  else
  some (.inr (.inr ((), (a.2.1, ())))))
def wk_SameInts_5_e1 : LEp := ⟨4, [0, 1, 5], [.one (.gv 0 1054 4), .one (.sl 0), .one (.int .i64)], [.gen 8 true], [⟨.ret, [4], [.one (.bool)], [.gen 8 true]⟩, ⟨.exit 0, [], [], [.gen 8 true]⟩], wk_SameInts_5_l1⟩
def wk_SameInts_5_lt : List (LEp) := [wk_SameInts_5_e1]
theorem wk_SameInts_5_e1_ok : LeOk wk_SameInts_5_e1 (nthL (bodyOf Try.f68) 0) := fun A env h k z hk => le_ok (E := wk_SameInts_5_e1) (orcOfX_ok HK0 wk_SameInts_5_tb) (dr := wk_SameInts_5_dr) (lps := lpsOf wk_SameInts_5_lt) (no_loop (by kernel_rfl)) (fun a => by kernel_rfl) env h k z hk
def wk_SameInts_5 (x0 : Nat × Nat × Nat × Nat × Unit) (x1 : LI) (h0 : List (DEntryX)) : Option (Bool × ((List (DEntryX)) × Unit)) :=
  (bif (decide ((((x0.2.2.1 : Nat) : Int) : Int) ≠ (x1.length : Int))) then
  some (false, (h0, ()))
  else
  (loopM wk_SameInts_5_l1 (((x0.1, x0.2.1, x0.2.2.1, x0.2.2.2.1, ()), x1, 0, ()), (h0, ()))).bind fun b1 =>
  (match b1 with
  | .inl b2 =>
  some (b2.1.1, (b2.2.1, ()))
  | .inr b3 =>
  some (true, (b3.2.1, ()))))
def wk_SameInts_5_ce : CEp where
  f := 68
  args := [.one (.gv 0 1054 4), .one (.sl 0)]
  hs := [.gen 8 true]
  res := .val (.one (.bool))
  outs := [.gen 8 true]
  m := fun d dh => wk_SameInts_5 d.1 d.2.1 dh.1
  ok := ce_ok mixedP Try.func68 (by kernel_rfl) (orcOfX_ok HK0 wk_SameInts_5_tb) (dr := wk_SameInts_5_dr) (lps := lpsOf wk_SameInts_5_lt) (lps_fn (lps_of (n := 1) (by kernel_rfl) fun i hi => match i, hi with | 0, _ => lp_ok (E := wk_SameInts_5_e1) (by kernel_rfl) wk_SameInts_5_e1_ok)) (fun d dh => by kernel_rfl)

def wk_SameInts_6_dr : Nat → Nat → DrA
  | 6, _ => ⟨[0, 1, 2, 4, 5, 6, 3, 7, 8], [[], [], [0, 1], [0, 1, 2], [], [], [4, 5], [4, 5, 6], (List.range 8)], [], [], [], false, []⟩
  | _, _ => ⟨[], [], [], [], [], false, []⟩
def wk_SameInts_6_tb : List (CEp) := []
def wk_SameInts_6_l1 (a : ((Nat × Nat × Nat × Nat × Unit) × LI × Int × Unit) × ((List (DEntryX)) × Unit)) : Option ((((Nat × Nat × Nat × Nat × Unit) × LI × Int × Unit) × ((List (DEntryX)) × Unit)) ⊕ (((Bool × Unit) × ((List (DEntryX)) × Unit)) ⊕ (Unit × ((List (DEntryX)) × Unit)))) :=
  (bif (decide ((a.1.2.2.1 : Int) < ((a.1.1.2.2.1 : Nat) : Int))) then
  (if 0 ≤ (a.1.2.2.1 : Int) ∧ (a.1.2.2.1 : Int) < ((a.1.1.2.2.1 : Nat) : Int) then
  (getI a.1.2.1 a.1.2.2.1).bind fun e1 =>
  (a.2.1[a.1.1.1]?).bind fun e2 =>
  ((e2.config.learners.1 ++ e2.config.learners.2)[(a.1.1.2.1 + (a.1.2.2.1 : Int).toNat)]?).bind fun e3 =>
  (bif (decide ((e3 : Int) ≠ e1)) then
  some (.inr (.inl ((false, ()), (a.2.1, ()))))
  else
  some (.inl (((a.1.1.1, a.1.1.2.1, a.1.1.2.2.1, a.1.1.2.2.2.1, ()), a.1.2.1, (IntKind.i64.wrap (a.1.2.2.1 + 1)), ()), (a.2.1, ()))))
  else none)
  else
  some (.inr (.inr ((), (a.2.1, ())))))
def wk_SameInts_6_e1 : LEp := ⟨4, [0, 1, 5], [.one (.gv 0 1310 4), .one (.sl 0), .one (.int .i64)], [.gen 8 true], [⟨.ret, [4], [.one (.bool)], [.gen 8 true]⟩, ⟨.exit 0, [], [], [.gen 8 true]⟩], wk_SameInts_6_l1⟩
def wk_SameInts_6_lt : List (LEp) := [wk_SameInts_6_e1]
theorem wk_SameInts_6_e1_ok : LeOk wk_SameInts_6_e1 (nthL (bodyOf Try.f68) 0) := fun A env h k z hk => le_ok (E := wk_SameInts_6_e1) (orcOfX_ok HK0 wk_SameInts_6_tb) (dr := wk_SameInts_6_dr) (lps := lpsOf wk_SameInts_6_lt) (no_loop (by kernel_rfl)) (fun a => by kernel_rfl) env h k z hk
def wk_SameInts_6 (x0 : Nat × Nat × Nat × Nat × Unit) (x1 : LI) (h0 : List (DEntryX)) : Option (Bool × ((List (DEntryX)) × Unit)) :=
  (bif (decide ((((x0.2.2.1 : Nat) : Int) : Int) ≠ (x1.length : Int))) then
  some (false, (h0, ()))
  else
  (loopM wk_SameInts_6_l1 (((x0.1, x0.2.1, x0.2.2.1, x0.2.2.2.1, ()), x1, 0, ()), (h0, ()))).bind fun b1 =>
  (match b1 with
  | .inl b2 =>
  some (b2.1.1, (b2.2.1, ()))
  | .inr b3 =>
  some (true, (b3.2.1, ()))))
def wk_SameInts_6_ce : CEp where
  f := 68
  args := [.one (.gv 0 1310 4), .one (.sl 0)]
  hs := [.gen 8 true]
  res := .val (.one (.bool))
  outs := [.gen 8 true]
  m := fun d dh => wk_SameInts_6 d.1 d.2.1 dh.1
  ok := ce_ok mixedP Try.func68 (by kernel_rfl) (orcOfX_ok HK0 wk_SameInts_6_tb) (dr := wk_SameInts_6_dr) (lps := lpsOf wk_SameInts_6_lt) (lps_fn (lps_of (n := 1) (by kernel_rfl) fun i hi => match i, hi with | 0, _ => lp_ok (E := wk_SameInts_6_e1) (by kernel_rfl) wk_SameInts_6_e1_ok)) (fun d dh => by kernel_rfl)

def wk_SameInts_7_dr : Nat → Nat → DrA
  | 6, _ => ⟨[0, 1, 2, 4, 5, 6, 3, 7, 8], [[], [], [0, 1], [0, 1, 2], [], [], [4, 5], [4, 5, 6], (List.range 8)], [], [], [], false, []⟩
  | _, _ => ⟨[], [], [], [], [], false, []⟩
def wk_SameInts_7_tb : List (CEp) := []
def wk_SameInts_7_l1 (a : ((Nat × Nat × Nat × Nat × Unit) × LI × Int × Unit) × ((List (DEntryX)) × Unit)) : Option ((((Nat × Nat × Nat × Nat × Unit) × LI × Int × Unit) × ((List (DEntryX)) × Unit)) ⊕ (((Bool × Unit) × ((List (DEntryX)) × Unit)) ⊕ (Unit × ((List (DEntryX)) × Unit)))) :=
  (bif (decide ((a.1.2.2.1 : Int) < ((a.1.1.2.2.1 : Nat) : Int))) then
  (if 0 ≤ (a.1.2.2.1 : Int) ∧ (a.1.2.2.1 : Int) < ((a.1.1.2.2.1 : Nat) : Int) then
  (getI a.1.2.1 a.1.2.2.1).bind fun e1 =>
  (a.2.1[a.1.1.1]?).bind fun e2 =>
  ((e2.config.want.1 ++ e2.config.want.2)[(a.1.1.2.1 + (a.1.2.2.1 : Int).toNat)]?).bind fun e3 =>
  (bif (decide ((e3 : Int) ≠ e1)) then
  some (.inr (.inl ((false, ()), (a.2.1, ()))))
  else
  some (.inl (((a.1.1.1, a.1.1.2.1, a.1.1.2.2.1, a.1.1.2.2.2.1, ()), a.1.2.1, (IntKind.i64.wrap (a.1.2.2.1 + 1)), ()), (a.2.1, ()))))
  else none)
  else
  some (.inr (.inr ((), (a.2.1, ())))))
def wk_SameInts_7_e1 : LEp := ⟨4, [0, 1, 5], [.one (.gv 0 1566 4), .one (.sl 0), .one (.int .i64)], [.gen 8 true], [⟨.ret, [4], [.one (.bool)], [.gen 8 true]⟩, ⟨.exit 0, [], [], [.gen 8 true]⟩], wk_SameInts_7_l1⟩
def wk_SameInts_7_lt : List (LEp) := [wk_SameInts_7_e1]
theorem wk_SameInts_7_e1_ok : LeOk wk_SameInts_7_e1 (nthL (bodyOf Try.f68) 0) := fun A env h k z hk => le_ok (E := wk_SameInts_7_e1) (orcOfX_ok HK0 wk_SameInts_7_tb) (dr := wk_SameInts_7_dr) (lps := lpsOf wk_SameInts_7_lt) (no_loop (by kernel_rfl)) (fun a => by kernel_rfl) env h k z hk
def wk_SameInts_7 (x0 : Nat × Nat × Nat × Nat × Unit) (x1 : LI) (h0 : List (DEntryX)) : Option (Bool × ((List (DEntryX)) × Unit)) :=
  (bif (decide ((((x0.2.2.1 : Nat) : Int) : Int) ≠ (x1.length : Int))) then
  some (false, (h0, ()))
  else
  (loopM wk_SameInts_7_l1 (((x0.1, x0.2.1, x0.2.2.1, x0.2.2.2.1, ()), x1, 0, ()), (h0, ()))).bind fun b1 =>
  (match b1 with
  | .inl b2 =>
  some (b2.1.1, (b2.2.1, ()))
  | .inr b3 =>
  some (true, (b3.2.1, ()))))
def wk_SameInts_7_ce : CEp where
  f := 68
  args := [.one (.gv 0 1566 4), .one (.sl 0)]
  hs := [.gen 8 true]
  res := .val (.one (.bool))
  outs := [.gen 8 true]
  m := fun d dh => wk_SameInts_7 d.1 d.2.1 dh.1
  ok := ce_ok mixedP Try.func68 (by kernel_rfl) (orcOfX_ok HK0 wk_SameInts_7_tb) (dr := wk_SameInts_7_dr) (lps := lpsOf wk_SameInts_7_lt) (lps_fn (lps_of (n := 1) (by kernel_rfl) fun i hi => match i, hi with | 0, _ => lp_ok (E := wk_SameInts_7_e1) (by kernel_rfl) wk_SameInts_7_e1_ok)) (fun d dh => by kernel_rfl)

def wk_SameConfig_4_tb : List (CEp) := [wk_SameInts_4_ce, wk_SameInts_5_ce, wk_SameInts_6_ce, wk_SameInts_7_ce]
def wk_SameConfig_4 (x0 : (Nat × Nat × Nat × Nat × Unit) × (Nat × Nat × Nat × Nat × Unit) × (Nat × Nat × Nat × Nat × Unit) × (Nat × Nat × Nat × Nat × Unit) × Unit) (x1 : DConfig) (h0 : List (DEntryX)) : Option (Bool × ((List (DEntryX)) × Unit)) :=
  (wk_SameInts_4 (x0.1.1, x0.1.2.1, x0.1.2.2.1, x0.1.2.2.2.1, ()) x1.voters h0).bind fun r1 =>
  (bif r1.1 then
  (wk_SameInts_5 (x0.2.1.1, x0.2.1.2.1, x0.2.1.2.2.1, x0.2.1.2.2.2.1, ()) x1.old r1.2.1).bind fun r2 =>
  (bif r2.1 then
  (wk_SameInts_6 (x0.2.2.1.1, x0.2.2.1.2.1, x0.2.2.1.2.2.1, x0.2.2.1.2.2.2.1, ()) x1.learners r2.2.1).bind fun r3 =>
  (bif r3.1 then
  (wk_SameInts_7 (x0.2.2.2.1.1, x0.2.2.2.1.2.1, x0.2.2.2.1.2.2.1, x0.2.2.2.1.2.2.2.1, ()) x1.want r3.2.1).bind fun r4 =>
  some (r4.1, (r4.2.1, ()))
  else
  some (false, (r3.2.1, ())))
  else
  some (false, (r2.2.1, ())))
  else
  some (false, (r1.2.1, ())))
def wk_SameConfig_4_ce : CEp where
  f := 59
  args := [.agg [.gv 0 798 4, .gv 0 1054 4, .gv 0 1310 4, .gv 0 1566 4], .cod 13]
  hs := [.gen 8 true]
  res := .val (.one (.bool))
  outs := [.gen 8 true]
  m := fun d dh => wk_SameConfig_4 d.1 d.2.1 dh.1
  ok := ceO Try.func59 (by kernel_rfl) wk_SameConfig_4_tb (by kernel_rfl) fun d dh => by kernel_rfl

def wk_SameEntry_2_tb : List (CEp) := [wk_SameBytes_4_ce, wk_SameConfig_4_ce]
def wk_SameEntry_2 (x0 : Int × Int × (Nat × Nat × Nat × Nat × Unit) × (Nat × Nat × Nat × Nat × Unit) × (Nat × Nat × Nat × Nat × Unit) × (Nat × Nat × Nat × Nat × Unit) × (Nat × Nat × Nat × Nat × Unit) × Unit) (x1 : DEntry) (h0 : List (DEntryX)) : Option (Bool × ((List (DEntryX)) × Unit)) :=
  (bif (decide ((x0.1 : Int) = x1.term_)) then
  (bif (decide ((x0.2.1 : Int) = x1.kind)) then
  (wk_SameBytes_4 (x0.2.2.1.1, x0.2.2.1.2.1, x0.2.2.1.2.2.1, x0.2.2.1.2.2.2.1, ()) x1.command h0).bind fun r1 =>
  (bif r1.1 then
  (wk_SameConfig_4 ((x0.2.2.2.1.1, x0.2.2.2.1.2.1, x0.2.2.2.1.2.2.1, x0.2.2.2.1.2.2.2.1, ()), (x0.2.2.2.2.1.1, x0.2.2.2.2.1.2.1, x0.2.2.2.2.1.2.2.1, x0.2.2.2.2.1.2.2.2.1, ()), (x0.2.2.2.2.2.1.1, x0.2.2.2.2.2.1.2.1, x0.2.2.2.2.2.1.2.2.1, x0.2.2.2.2.2.1.2.2.2.1, ()), (x0.2.2.2.2.2.2.1.1, x0.2.2.2.2.2.2.1.2.1, x0.2.2.2.2.2.2.1.2.2.1, x0.2.2.2.2.2.2.1.2.2.2.1, ()), ()) x1.config r1.2.1).bind fun r2 =>
  some (r2.1, (r2.2.1, ()))
  else
  some (false, (r1.2.1, ())))
  else
  some (false, (h0, ())))
  else
  some (false, (h0, ())))
def wk_SameEntry_2_ce : CEp where
  f := 58
  args := [.agg [.int .i64, .int .u8, .gv 0 542 4, .gv 0 798 4, .gv 0 1054 4, .gv 0 1310 4, .gv 0 1566 4], .cod 18]
  hs := [.gen 8 true]
  res := .val (.one (.bool))
  outs := [.gen 8 true]
  m := fun d dh => wk_SameEntry_2 d.1 d.2.1 dh.1
  ok := ceO Try.func58 (by kernel_rfl) wk_SameEntry_2_tb (by kernel_rfl) fun d dh => by kernel_rfl

def wk_SameEntries_2_dr : Nat → Nat → DrA
  | 6, _ => ⟨[0, 1, 2, 4, 5, 6, 3, 7, 8, 9], [[], [], [0, 1], [0, 1, 2], [], [], [4, 5], [4, 5, 6], (List.range 8), (List.range 9)], [], [], [], false, []⟩
  | _, _ => ⟨[], [], [], [], [], false, []⟩
def wk_SameEntries_2_tb : List (CEp) := [wk_SameEntry_2_ce]
def wk_SameEntries_2_l1 (a : ((Nat × Nat × Nat × Unit) × (List (DEntry)) × Int × Unit) × ((List (DEntryX)) × Unit)) : Option ((((Nat × Nat × Nat × Unit) × (List (DEntry)) × Int × Unit) × ((List (DEntryX)) × Unit)) ⊕ (((Bool × Unit) × ((List (DEntryX)) × Unit)) ⊕ (Unit × ((List (DEntryX)) × Unit)))) :=
  (bif (decide ((a.1.2.2.1 : Int) < ((a.1.1.2.1 : Nat) : Int))) then
  (if 0 ≤ (a.1.2.2.1 : Int) ∧ (a.1.2.2.1 : Int) < ((a.1.1.2.1 : Nat) : Int) then
  (getI a.1.2.1 a.1.2.2.1).bind fun e1 =>
  (a.2.1[(a.1.1.1 + (a.1.2.2.1 : Int).toNat)]?).bind fun e2 =>
  (wk_SameEntry_2 (e2.term_, e2.kind, ((a.1.1.1 + (a.1.2.2.1 : Int).toNat), 0, e2.command.1.length, (e2.command.1.length + e2.command.2.length), ()), ((a.1.1.1 + (a.1.2.2.1 : Int).toNat), 0, e2.config.voters.1.length, (e2.config.voters.1.length + e2.config.voters.2.length), ()), ((a.1.1.1 + (a.1.2.2.1 : Int).toNat), 0, e2.config.old.1.length, (e2.config.old.1.length + e2.config.old.2.length), ()), ((a.1.1.1 + (a.1.2.2.1 : Int).toNat), 0, e2.config.learners.1.length, (e2.config.learners.1.length + e2.config.learners.2.length), ()), ((a.1.1.1 + (a.1.2.2.1 : Int).toNat), 0, e2.config.want.1.length, (e2.config.want.1.length + e2.config.want.2.length), ()), ()) e1 a.2.1).bind fun r3 =>
  (bif (!r3.1) then
  some (.inr (.inl ((false, ()), (r3.2.1, ()))))
  else
  some (.inl (((a.1.1.1, a.1.1.2.1, a.1.1.2.2.1, ()), a.1.2.1, (IntKind.i64.wrap (a.1.2.2.1 + 1)), ()), (r3.2.1, ()))))
  else none)
  else
  some (.inr (.inr ((), (a.2.1, ())))))
def wk_SameEntries_2_e1 : LEp := ⟨4, [0, 1, 5], [.one (.gv 0 28 3), .one (.sl 18), .one (.int .i64)], [.gen 8 true], [⟨.ret, [4], [.one (.bool)], [.gen 8 true]⟩, ⟨.exit 0, [], [], [.gen 8 true]⟩], wk_SameEntries_2_l1⟩
def wk_SameEntries_2_lt : List (LEp) := [wk_SameEntries_2_e1]
theorem wk_SameEntries_2_e1_ok : LeOk wk_SameEntries_2_e1 (nthL (bodyOf Try.f37) 0) := fun A env h k z hk => le_ok (E := wk_SameEntries_2_e1) (orcOfX_ok HK0 wk_SameEntries_2_tb) (dr := wk_SameEntries_2_dr) (lps := lpsOf wk_SameEntries_2_lt) (no_loop (by kernel_rfl)) (fun a => by kernel_rfl) env h k z hk
def wk_SameEntries_2 (x0 : Nat × Nat × Nat × Unit) (x1 : List (DEntry)) (h0 : List (DEntryX)) : Option (Bool × ((List (DEntryX)) × Unit)) :=
  (bif (decide ((((x0.2.1 : Nat) : Int) : Int) ≠ (x1.length : Int))) then
  some (false, (h0, ()))
  else
  (loopM wk_SameEntries_2_l1 (((x0.1, x0.2.1, x0.2.2.1, ()), x1, 0, ()), (h0, ()))).bind fun b1 =>
  (match b1 with
  | .inl b2 =>
  some (b2.1.1, (b2.2.1, ()))
  | .inr b3 =>
  some (true, (b3.2.1, ()))))
def wk_SameEntries_2_ce : CEp where
  f := 37
  args := [.one (.gv 0 28 3), .one (.sl 18)]
  hs := [.gen 8 true]
  res := .val (.one (.bool))
  outs := [.gen 8 true]
  m := fun d dh => wk_SameEntries_2 d.1 d.2.1 dh.1
  ok := ce_ok mixedP Try.func37 (by kernel_rfl) (orcOfX_ok HK0 wk_SameEntries_2_tb) (dr := wk_SameEntries_2_dr) (lps := lpsOf wk_SameEntries_2_lt) (lps_fn (lps_of (n := 1) (by kernel_rfl) fun i hi => match i, hi with | 0, _ => lp_ok (E := wk_SameEntries_2_e1) (by kernel_rfl) wk_SameEntries_2_e1_ok)) (fun d dh => by kernel_rfl)

def wk_SameInts_8_dr : Nat → Nat → DrA
  | 6, _ => ⟨[0, 1, 2, 4, 5, 6, 3, 7, 8], [[], [], [0, 1], [0, 1, 2], [], [], [4, 5], [4, 5, 6], (List.range 8)], [], [], [], false, []⟩
  | _, _ => ⟨[], [], [], [], [], false, []⟩
def wk_SameInts_8_tb : List (CEp) := []
def wk_SameInts_8_l1 (a : ((Nat × Nat × Nat) × LI × Int × Unit) × (LI × Unit)) : Option ((((Nat × Nat × Nat) × LI × Int × Unit) × (LI × Unit)) ⊕ (((Bool × Unit) × (LI × Unit)) ⊕ (Unit × (LI × Unit)))) :=
  (bif (decide ((a.1.2.2.1 : Int) < ((a.1.1.2.1 : Nat) : Int))) then
  (if 0 ≤ (a.1.2.2.1 : Int) ∧ (a.1.2.2.1 : Int) < ((a.1.1.2.1 : Nat) : Int) then
  (getI a.1.2.1 a.1.2.2.1).bind fun e1 =>
  (a.2.1[(a.1.1.1 + (a.1.2.2.1 : Int).toNat)]?).bind fun e2 =>
  (bif (decide ((e2 : Int) ≠ e1)) then
  some (.inr (.inl ((false, ()), (a.2.1, ()))))
  else
  some (.inl (((a.1.1.1, a.1.1.2.1, a.1.1.2.2), a.1.2.1, (IntKind.i64.wrap (a.1.2.2.1 + 1)), ()), (a.2.1, ()))))
  else none)
  else
  some (.inr (.inr ((), (a.2.1, ())))))
def wk_SameInts_8_e1 : LEp := ⟨4, [0, 1, 5], [.one (.as 0 0), .one (.sl 0), .one (.int .i64)], [.arr 3 0 true], [⟨.ret, [4], [.one (.bool)], [.arr 3 0 true]⟩, ⟨.exit 0, [], [], [.arr 3 0 true]⟩], wk_SameInts_8_l1⟩
def wk_SameInts_8_lt : List (LEp) := [wk_SameInts_8_e1]
theorem wk_SameInts_8_e1_ok : LeOk wk_SameInts_8_e1 (nthL (bodyOf Try.f68) 0) := fun A env h k z hk => le_ok (E := wk_SameInts_8_e1) (orcOf_ok wk_SameInts_8_tb) (dr := wk_SameInts_8_dr) (lps := lpsOf wk_SameInts_8_lt) (no_loop (by kernel_rfl)) (fun a => by kernel_rfl) env h k z hk
def wk_SameInts_8 (x0 : Nat × Nat × Nat) (x1 : LI) (h0 : LI) : Option (Bool × (LI × Unit)) :=
  (bif (decide ((((x0.2.1 : Nat) : Int) : Int) ≠ (x1.length : Int))) then
  some (false, (h0, ()))
  else
  (loopM wk_SameInts_8_l1 (((x0.1, x0.2.1, x0.2.2), x1, 0, ()), (h0, ()))).bind fun b1 =>
  (match b1 with
  | .inl b2 =>
  some (b2.1.1, (b2.2.1, ()))
  | .inr b3 =>
  some (true, (b3.2.1, ()))))
def wk_SameInts_8_ce : CEp where
  f := 68
  args := [.one (.as 0 0), .one (.sl 0)]
  hs := [.arr 3 0 true]
  res := .val (.one (.bool))
  outs := [.arr 3 0 true]
  m := fun d dh => wk_SameInts_8 d.1 d.2.1 dh.1
  ok := ce_ok mixedP Try.func68 (by kernel_rfl) (orcOf_ok wk_SameInts_8_tb) (dr := wk_SameInts_8_dr) (lps := lpsOf wk_SameInts_8_lt) (lps_fn (lps_of (n := 1) (by kernel_rfl) fun i hi => match i, hi with | 0, _ => lp_ok (E := wk_SameInts_8_e1) (by kernel_rfl) wk_SameInts_8_e1_ok)) (fun d dh => by kernel_rfl)

def wk_SameConfig_5_tb : List (CEp) := [wk_SameInts_8_ce]
def wk_SameConfig_5 (x0 : (Nat × Nat × Nat) × (Nat × Nat × Nat) × (Nat × Nat × Nat) × (Nat × Nat × Nat) × Unit) (x1 : DConfig) (h0 : LI) (h1 : LI) (h2 : LI) (h3 : LI) : Option (Bool × (LI × LI × LI × LI × Unit)) :=
  (wk_SameInts_8 (x0.1.1, x0.1.2.1, x0.1.2.2) x1.voters h0).bind fun r1 =>
  (bif r1.1 then
  (wk_SameInts_8 (x0.2.1.1, x0.2.1.2.1, x0.2.1.2.2) x1.old h1).bind fun r2 =>
  (bif r2.1 then
  (wk_SameInts_8 (x0.2.2.1.1, x0.2.2.1.2.1, x0.2.2.1.2.2) x1.learners h2).bind fun r3 =>
  (bif r3.1 then
  (wk_SameInts_8 (x0.2.2.2.1.1, x0.2.2.2.1.2.1, x0.2.2.2.1.2.2) x1.want h3).bind fun r4 =>
  some (r4.1, (r1.2.1, r2.2.1, r3.2.1, r4.2.1, ()))
  else
  some (false, (r1.2.1, r2.2.1, r3.2.1, h3, ())))
  else
  some (false, (r1.2.1, r2.2.1, h2, h3, ())))
  else
  some (false, (r1.2.1, h1, h2, h3, ())))
def wk_SameConfig_5_ce : CEp where
  f := 59
  args := [.agg [.as 0 0, .as 0 1, .as 0 2, .as 0 3], .cod 13]
  hs := [.arr 3 0 true, .arr 3 0 true, .arr 3 0 true, .arr 3 0 true]
  res := .val (.one (.bool))
  outs := [.arr 3 0 true, .arr 3 0 true, .arr 3 0 true, .arr 3 0 true]
  m := fun d dh => wk_SameConfig_5 d.1 d.2.1 dh.1 dh.2.1 dh.2.2.1 dh.2.2.2.1
  ok := ceO Try.func59 (by kernel_rfl) wk_SameConfig_5_tb (by kernel_rfl) fun d dh => by kernel_rfl

def wk_SameBase_3_tb : List (CEp) := [wk_SameConfig_5_ce]
def wk_SameBase_3 (x0 : Int × Int × (Nat × Nat × Nat) × (Nat × Nat × Nat) × (Nat × Nat × Nat) × (Nat × Nat × Nat) × Unit) (x1 : DBase) (h0 : LI) (h1 : LI) (h2 : LI) (h3 : LI) : Option (Bool × (LI × LI × LI × LI × Unit)) :=
  (bif (decide ((x0.1 : Int) = x1.index)) then
  (bif (decide ((x0.2.1 : Int) = x1.term_)) then
  (wk_SameConfig_5 ((x0.2.2.1.1, x0.2.2.1.2.1, x0.2.2.1.2.2), (x0.2.2.2.1.1, x0.2.2.2.1.2.1, x0.2.2.2.1.2.2), (x0.2.2.2.2.1.1, x0.2.2.2.2.1.2.1, x0.2.2.2.2.1.2.2), (x0.2.2.2.2.2.1.1, x0.2.2.2.2.2.1.2.1, x0.2.2.2.2.2.1.2.2), ()) x1.config h0 h1 h2 h3).bind fun r1 =>
  some (r1.1, (r1.2.1, r1.2.2.1, r1.2.2.2.1, r1.2.2.2.2.1, ()))
  else
  some (false, (h0, h1, h2, h3, ())))
  else
  some (false, (h0, h1, h2, h3, ())))
def wk_SameBase_3_ce : CEp where
  f := 38
  args := [.agg [.int .i64, .int .i64, .as 0 0, .as 0 1, .as 0 2, .as 0 3], .cod 14]
  hs := [.arr 3 0 true, .arr 3 0 true, .arr 3 0 true, .arr 3 0 true]
  res := .val (.one (.bool))
  outs := [.arr 3 0 true, .arr 3 0 true, .arr 3 0 true, .arr 3 0 true]
  m := fun d dh => wk_SameBase_3 d.1 d.2.1 dh.1 dh.2.1 dh.2.2.1 dh.2.2.2.1
  ok := ceO Try.func38 (by kernel_rfl) wk_SameBase_3_tb (by kernel_rfl) fun d dh => by kernel_rfl

def wk_SameBytes_5_dr : Nat → Nat → DrA
  | 6, _ => ⟨[0, 1, 2, 4, 5, 6, 3, 7, 8], [[], [], [0, 1], [0, 1, 2], [], [], [4, 5], [4, 5, 6], (List.range 8)], [], [], [], false, []⟩
  | _, _ => ⟨[], [], [], [], [], false, []⟩
def wk_SameBytes_5_tb : List (CEp) := []
def wk_SameBytes_5_l1 (a : ((Nat × Nat × Nat) × LB × Int × Unit) × (LB × Unit)) : Option ((((Nat × Nat × Nat) × LB × Int × Unit) × (LB × Unit)) ⊕ (((Bool × Unit) × (LB × Unit)) ⊕ (Unit × (LB × Unit)))) :=
  (bif (decide ((a.1.2.2.1 : Int) < ((a.1.1.2.1 : Nat) : Int))) then
  (if 0 ≤ (a.1.2.2.1 : Int) ∧ (a.1.2.2.1 : Int) < ((a.1.1.2.1 : Nat) : Int) then
  (getI a.1.2.1 a.1.2.2.1).bind fun e1 =>
  (a.2.1[(a.1.1.1 + (a.1.2.2.1 : Int).toNat)]?).bind fun e2 =>
  (bif (decide (((e2.toNat : Int) : Int) ≠ (e1.toNat : Int))) then
  some (.inr (.inl ((false, ()), (a.2.1, ()))))
  else
  some (.inl (((a.1.1.1, a.1.1.2.1, a.1.1.2.2), a.1.2.1, (IntKind.i64.wrap (a.1.2.2.1 + 1)), ()), (a.2.1, ()))))
  else none)
  else
  some (.inr (.inr ((), (a.2.1, ())))))
def wk_SameBytes_5_e1 : LEp := ⟨4, [0, 1, 5], [.one (.as 1 0), .one (.sl 1), .one (.int .i64)], [.arr 5 1 true], [⟨.ret, [4], [.one (.bool)], [.arr 5 1 true]⟩, ⟨.exit 0, [], [], [.arr 5 1 true]⟩], wk_SameBytes_5_l1⟩
def wk_SameBytes_5_lt : List (LEp) := [wk_SameBytes_5_e1]
theorem wk_SameBytes_5_e1_ok : LeOk wk_SameBytes_5_e1 (nthL (bodyOf Try.f39) 0) := fun A env h k z hk => le_ok (E := wk_SameBytes_5_e1) (orcOf_ok wk_SameBytes_5_tb) (dr := wk_SameBytes_5_dr) (lps := lpsOf wk_SameBytes_5_lt) (no_loop (by kernel_rfl)) (fun a => by kernel_rfl) env h k z hk
def wk_SameBytes_5 (x0 : Nat × Nat × Nat) (x1 : LB) (h0 : LB) : Option (Bool × (LB × Unit)) :=
  (bif (decide ((((x0.2.1 : Nat) : Int) : Int) ≠ (x1.length : Int))) then
  some (false, (h0, ()))
  else
  (loopM wk_SameBytes_5_l1 (((x0.1, x0.2.1, x0.2.2), x1, 0, ()), (h0, ()))).bind fun b1 =>
  (match b1 with
  | .inl b2 =>
  some (b2.1.1, (b2.2.1, ()))
  | .inr b3 =>
  some (true, (b3.2.1, ()))))
def wk_SameBytes_5_ce : CEp where
  f := 39
  args := [.one (.as 1 0), .one (.sl 1)]
  hs := [.arr 5 1 true]
  res := .val (.one (.bool))
  outs := [.arr 5 1 true]
  m := fun d dh => wk_SameBytes_5 d.1 d.2.1 dh.1
  ok := ce_ok mixedP Try.func39 (by kernel_rfl) (orcOf_ok wk_SameBytes_5_tb) (dr := wk_SameBytes_5_dr) (lps := lpsOf wk_SameBytes_5_lt) (lps_fn (lps_of (n := 1) (by kernel_rfl) fun i hi => match i, hi with | 0, _ => lp_ok (E := wk_SameBytes_5_e1) (by kernel_rfl) wk_SameBytes_5_e1_ok)) (fun d dh => by kernel_rfl)

def wk_SameLetter_2_tb : List (CEp) := [wk_SameEntries_2_ce, wk_SameBase_3_ce, wk_SameBytes_5_ce]
def wk_SameLetter_2 (x0 : Int × Int × Int × Int × Int × Int × Int × Int × Bool × (Nat × Nat × Nat × Unit) × Int × Int × (Nat × Nat × Nat) × (Nat × Nat × Nat) × (Nat × Nat × Nat) × (Nat × Nat × Nat) × Int × Int × Int × (Nat × Nat × Nat) × Unit) (x1 : DLetter) (h0 : List (DEntryX)) (h1 : LI) (h2 : LI) (h3 : LI) (h4 : LI) (h5 : LB) : Option (Bool × ((List (DEntryX)) × LI × LI × LI × LI × LB × Unit)) :=
  (bif (decide ((x0.1 : Int) = x1.kind)) then
  (bif (decide ((x0.2.1 : Int) = x1.group)) then
  (bif (decide ((x0.2.2.1 : Int) = x1.from_)) then
  (bif (decide ((x0.2.2.2.1 : Int) = x1.to_)) then
  (bif (decide ((x0.2.2.2.2.1 : Int) = x1.term_)) then
  (bif (decide ((x0.2.2.2.2.2.1 : Int) = x1.index)) then
  (bif (decide ((x0.2.2.2.2.2.2.1 : Int) = x1.logTerm)) then
  (bif (decide ((x0.2.2.2.2.2.2.2.1 : Int) = x1.commit)) then
  (bif (decide (x0.2.2.2.2.2.2.2.2.1 = x1.ok)) then
  (wk_SameEntries_2 (x0.2.2.2.2.2.2.2.2.2.1.1, x0.2.2.2.2.2.2.2.2.2.1.2.1, x0.2.2.2.2.2.2.2.2.2.1.2.2.1, ()) x1.entries h0).bind fun r1 =>
  (bif r1.1 then
  (wk_SameBase_3 (x0.2.2.2.2.2.2.2.2.2.2.1, x0.2.2.2.2.2.2.2.2.2.2.2.1, (x0.2.2.2.2.2.2.2.2.2.2.2.2.1.1, x0.2.2.2.2.2.2.2.2.2.2.2.2.1.2.1, x0.2.2.2.2.2.2.2.2.2.2.2.2.1.2.2), (x0.2.2.2.2.2.2.2.2.2.2.2.2.2.1.1, x0.2.2.2.2.2.2.2.2.2.2.2.2.2.1.2.1, x0.2.2.2.2.2.2.2.2.2.2.2.2.2.1.2.2), (x0.2.2.2.2.2.2.2.2.2.2.2.2.2.2.1.1, x0.2.2.2.2.2.2.2.2.2.2.2.2.2.2.1.2.1, x0.2.2.2.2.2.2.2.2.2.2.2.2.2.2.1.2.2), (x0.2.2.2.2.2.2.2.2.2.2.2.2.2.2.2.1.1, x0.2.2.2.2.2.2.2.2.2.2.2.2.2.2.2.1.2.1, x0.2.2.2.2.2.2.2.2.2.2.2.2.2.2.2.1.2.2), ()) x1.base h1 h2 h3 h4).bind fun r2 =>
  (bif r2.1 then
  (bif (decide ((x0.2.2.2.2.2.2.2.2.2.2.2.2.2.2.2.2.1 : Int) = x1.size)) then
  (bif (decide ((x0.2.2.2.2.2.2.2.2.2.2.2.2.2.2.2.2.2.1 : Int) = x1.at_)) then
  (bif (decide ((x0.2.2.2.2.2.2.2.2.2.2.2.2.2.2.2.2.2.2.1 : Int) = x1.tag)) then
  (wk_SameBytes_5 (x0.2.2.2.2.2.2.2.2.2.2.2.2.2.2.2.2.2.2.2.1.1, x0.2.2.2.2.2.2.2.2.2.2.2.2.2.2.2.2.2.2.2.1.2.1, x0.2.2.2.2.2.2.2.2.2.2.2.2.2.2.2.2.2.2.2.1.2.2) x1.bytes h5).bind fun r3 =>
  some (r3.1, (r1.2.1, r2.2.1, r2.2.2.1, r2.2.2.2.1, r2.2.2.2.2.1, r3.2.1, ()))
  else
  some (false, (r1.2.1, r2.2.1, r2.2.2.1, r2.2.2.2.1, r2.2.2.2.2.1, h5, ())))
  else
  some (false, (r1.2.1, r2.2.1, r2.2.2.1, r2.2.2.2.1, r2.2.2.2.2.1, h5, ())))
  else
  some (false, (r1.2.1, r2.2.1, r2.2.2.1, r2.2.2.2.1, r2.2.2.2.2.1, h5, ())))
  else
  some (false, (r1.2.1, r2.2.1, r2.2.2.1, r2.2.2.2.1, r2.2.2.2.2.1, h5, ())))
  else
  some (false, (r1.2.1, h1, h2, h3, h4, h5, ())))
  else
  some (false, (h0, h1, h2, h3, h4, h5, ())))
  else
  some (false, (h0, h1, h2, h3, h4, h5, ())))
  else
  some (false, (h0, h1, h2, h3, h4, h5, ())))
  else
  some (false, (h0, h1, h2, h3, h4, h5, ())))
  else
  some (false, (h0, h1, h2, h3, h4, h5, ())))
  else
  some (false, (h0, h1, h2, h3, h4, h5, ())))
  else
  some (false, (h0, h1, h2, h3, h4, h5, ())))
  else
  some (false, (h0, h1, h2, h3, h4, h5, ())))
  else
  some (false, (h0, h1, h2, h3, h4, h5, ())))
def wk_SameLetter_2_ce : CEp where
  f := 14
  args := [.agg [.int .u8, .int .i64, .int .i64, .int .i64, .int .i64, .int .i64, .int .i64, .int .i64, .bool, .gv 0 28 3, .int .i64, .int .i64, .as 0 1, .as 0 2, .as 0 3, .as 0 4, .int .i64, .int .i64, .int .i64, .as 1 5], .cod 20]
  hs := [.gen 8 true, .arr 3 0 true, .arr 3 0 true, .arr 3 0 true, .arr 3 0 true, .arr 5 1 true]
  res := .val (.one (.bool))
  outs := [.gen 8 true, .arr 3 0 true, .arr 3 0 true, .arr 3 0 true, .arr 3 0 true, .arr 5 1 true]
  m := fun d dh => wk_SameLetter_2 d.1 d.2.1 dh.1 dh.2.1 dh.2.2.1 dh.2.2.2.1 dh.2.2.2.2.1 dh.2.2.2.2.2.1
  ok := ceO Try.func14 (by kernel_rfl) wk_SameLetter_2_tb (by kernel_rfl) fun d dh => by kernel_rfl

def wk_KeptBytes_dr : Nat → Nat → DrA
  | 7, _ => ⟨(List.range 8 ++ [9, 10, 11, 8, 12, 13, 14, 15, 16, 17, 18, 19, 20, 21, 22, 23, 24, 26, 27, 28, 29, 25, 30, 31, 32, 33, 34]), [[], [], [1], [0, 1, 2], [0, 1, 2, 3], (List.range 5), (List.range 5), (List.range 7), (List.range 8), (List.range 5), (List.range 5), (List.range 5 ++ [9, 10]), (List.range 5 ++ [9, 10, 11]), (List.range 13), (List.range 14), (List.range 15), (List.range 16), (List.range 17), (List.range 17), (List.range 17 ++ [18]), (List.range 20), (List.range 21), (List.range 22), (List.range 22), (List.range 24), (List.range 25), (List.range 22), (List.range 22), (List.range 22 ++ [27]), (List.range 22 ++ [26, 27, 28]), (List.range 22 ++ [26, 27, 28, 29]), (List.range 31), (List.range 32), (List.range 33), (List.range 34)], [25], [30], [0], false, []⟩
  | _, _ => ⟨[], [], [], [], [], false, []⟩
def wk_KeptBytes_tb : List (CEp) := [wk_markByte_ce]
def wk_KeptBytes_l1 (a : (LB × (Nat × Nat × Nat × Nat × Unit) × Int × Unit) × ((List (DEntryX)) × Unit)) : Option (((LB × (Nat × Nat × Nat × Nat × Unit) × Int × Unit) × ((List (DEntryX)) × Unit)) ⊕ (((Bool × Unit) × ((List (DEntryX)) × Unit)) ⊕ (Unit × ((List (DEntryX)) × Unit)))) :=
  (bif (decide ((a.1.2.2.1 : Int) < ((a.1.2.1.2.2.1 : Nat) : Int))) then
  (bif (decide ((a.1.2.2.1 : Int) < (a.1.1.length : Int))) then
  (if 0 ≤ (a.1.2.2.1 : Int) ∧ (a.1.2.2.1 : Int) < ((a.1.2.1.2.2.1 : Nat) : Int) then
  (getI a.1.1 a.1.2.2.1).bind fun e1 =>
  (a.2.1[a.1.2.1.1]?).bind fun e2 =>
  ((e2.command.1 ++ e2.command.2)[(a.1.2.1.2.1 + (a.1.2.2.1 : Int).toNat)]?).bind fun e3 =>
  (bif (!(decide (((e3.toNat : Int) : Int) = (e1.toNat : Int)))) then
  some (.inr (.inl ((false, ()), (a.2.1, ()))))
  else
  (bif (decide (((a.1.1.length : Int) : Int) ≤ a.1.2.2.1)) then
  (if 0 ≤ (a.1.2.2.1 : Int) ∧ (a.1.2.2.1 : Int) < ((a.1.2.1.2.2.1 : Nat) : Int) then
  (a.2.1[a.1.2.1.1]?).bind fun e4 =>
  ((e4.command.1 ++ e4.command.2)[(a.1.2.1.2.1 + (a.1.2.2.1 : Int).toNat)]?).bind fun e5 =>
  (wk_markByte 1 (IntKind.i64.wrap (a.1.2.2.1 - (a.1.1.length : Int)))).bind fun r6 =>
  (bif (!(decide (((e5.toNat : Int) : Int) = r6.1))) then
  some (.inr (.inl ((false, ()), (a.2.1, ()))))
  else
  some (.inl ((a.1.1, (a.1.2.1.1, a.1.2.1.2.1, a.1.2.1.2.2.1, a.1.2.1.2.2.2.1, ()), (IntKind.i64.wrap (a.1.2.2.1 + 1)), ()), (a.2.1, ()))))
  else none)
  else
  some (.inl ((a.1.1, (a.1.2.1.1, a.1.2.1.2.1, a.1.2.1.2.2.1, a.1.2.1.2.2.2.1, ()), (IntKind.i64.wrap (a.1.2.2.1 + 1)), ()), (a.2.1, ())))))
  else none)
  else
  (bif (decide (((a.1.1.length : Int) : Int) ≤ a.1.2.2.1)) then
  (if 0 ≤ (a.1.2.2.1 : Int) ∧ (a.1.2.2.1 : Int) < ((a.1.2.1.2.2.1 : Nat) : Int) then
  (a.2.1[a.1.2.1.1]?).bind fun e7 =>
  ((e7.command.1 ++ e7.command.2)[(a.1.2.1.2.1 + (a.1.2.2.1 : Int).toNat)]?).bind fun e8 =>
  (wk_markByte 1 (IntKind.i64.wrap (a.1.2.2.1 - (a.1.1.length : Int)))).bind fun r9 =>
  (bif (!(decide (((e8.toNat : Int) : Int) = r9.1))) then
  some (.inr (.inl ((false, ()), (a.2.1, ()))))
  else
  some (.inl ((a.1.1, (a.1.2.1.1, a.1.2.1.2.1, a.1.2.1.2.2.1, a.1.2.1.2.2.2.1, ()), (IntKind.i64.wrap (a.1.2.2.1 + 1)), ()), (a.2.1, ()))))
  else none)
  else
  some (.inl ((a.1.1, (a.1.2.1.1, a.1.2.1.2.1, a.1.2.1.2.2.1, a.1.2.1.2.2.2.1, ()), (IntKind.i64.wrap (a.1.2.2.1 + 1)), ()), (a.2.1, ())))))
  else
  some (.inr (.inr ((), (a.2.1, ())))))
def wk_KeptBytes_e1 : LEp := ⟨5, [1, 5, 6], [.one (.sl 1), .one (.gv 0 542 4), .one (.int .i64)], [.gen 8 true], [⟨.ret, [4], [.one (.bool)], [.gen 8 true]⟩, ⟨.exit 0, [], [], [.gen 8 true]⟩], wk_KeptBytes_l1⟩
def wk_KeptBytes_lt : List (LEp) := [wk_KeptBytes_e1]
theorem wk_KeptBytes_e1_ok : LeOk wk_KeptBytes_e1 (nthL (bodyOf Try.f45) 0) := fun A env h k z hk => le_ok (E := wk_KeptBytes_e1) (orcOfX_ok HK0 wk_KeptBytes_tb) (dr := wk_KeptBytes_dr) (lps := lpsOf wk_KeptBytes_lt) (no_loop (by kernel_rfl)) (fun a => by kernel_rfl) env h k z hk
def wk_KeptBytes (x0 : Nat × Nat × Nat × Nat × Unit) (x1 : LB) (h0 : List (DEntryX)) : Option (Bool × ((List (DEntryX)) × Unit)) :=
  (bif (decide ((((x0.2.2.1 : Nat) : Int) : Int) ≠ (x1.length : Int))) then
  some (false, (h0, ()))
  else
  (if 0 ≤ (0 : Int) ∧ (0 : Int) ≤ ((IntKind.i64.wrap ((x1.length : Int) + 12)) : Int) ∧ ((IntKind.i64.wrap ((x1.length : Int) + 12)) : Int) ≤ ((x0.2.2.2.1 : Nat) : Int) ∧ ((0 : Int) = 0 ∨ (0 : Int) < ((x0.2.2.2.1 : Nat) : Int)) then
  (loopM wk_KeptBytes_l1 ((x1, (x0.1, (x0.2.1 + (0 : Int).toNat), (((IntKind.i64.wrap ((x1.length : Int) + 12)) : Int).toNat - (0 : Int).toNat), (x0.2.2.2.1 - (0 : Int).toNat), ()), 0, ()), (h0, ()))).bind fun b1 =>
  (match b1 with
  | .inl b2 =>
  some (b2.1.1, (b2.2.1, ()))
  | .inr b3 =>
  some (true, (b3.2.1, ())))
  else none))
def wk_KeptBytes_ce : CEp where
  f := 45
  args := [.one (.gv 0 542 4), .one (.sl 1)]
  hs := [.gen 8 true]
  res := .val (.one (.bool))
  outs := [.gen 8 true]
  m := fun d dh => wk_KeptBytes d.1 d.2.1 dh.1
  ok := ce_ok mixedP Try.func45 (by kernel_rfl) (orcOfX_ok HK0 wk_KeptBytes_tb) (dr := wk_KeptBytes_dr) (lps := lpsOf wk_KeptBytes_lt) (lps_fn (lps_of (n := 1) (by kernel_rfl) fun i hi => match i, hi with | 0, _ => lp_ok (E := wk_KeptBytes_e1) (by kernel_rfl) wk_KeptBytes_e1_ok)) (fun d dh => by kernel_rfl)

def wk_KeptInts_dr : Nat → Nat → DrA
  | 7, _ => ⟨(List.range 8 ++ [9, 10, 11, 8, 12, 13, 14, 15, 16, 17, 18, 19, 20, 21, 22, 23, 24, 26, 27, 28, 29, 25, 30, 31, 32, 33, 34]), [[], [], [1], [0, 1, 2], [0, 1, 2, 3], (List.range 5), (List.range 5), (List.range 7), (List.range 8), (List.range 5), (List.range 5), (List.range 5 ++ [9, 10]), (List.range 5 ++ [9, 10, 11]), (List.range 13), (List.range 14), (List.range 15), (List.range 16), (List.range 17), (List.range 17), (List.range 17 ++ [18]), (List.range 20), (List.range 21), (List.range 22), (List.range 22), (List.range 24), (List.range 25), (List.range 22), (List.range 22), (List.range 22 ++ [27]), (List.range 22 ++ [26, 27, 28]), (List.range 22 ++ [26, 27, 28, 29]), (List.range 31), (List.range 32), (List.range 33), (List.range 34)], [25], [30], [0], false, []⟩
  | _, _ => ⟨[], [], [], [], [], false, []⟩
def wk_KeptInts_tb : List (CEp) := [wk_mark_ce]
def wk_KeptInts_l1 (a : (LI × (Nat × Nat × Nat × Nat × Unit) × Int × Unit) × ((List (DEntryX)) × Unit)) : Option (((LI × (Nat × Nat × Nat × Nat × Unit) × Int × Unit) × ((List (DEntryX)) × Unit)) ⊕ (((Bool × Unit) × ((List (DEntryX)) × Unit)) ⊕ (Unit × ((List (DEntryX)) × Unit)))) :=
  (bif (decide ((a.1.2.2.1 : Int) < ((a.1.2.1.2.2.1 : Nat) : Int))) then
  (bif (decide ((a.1.2.2.1 : Int) < (a.1.1.length : Int))) then
  (if 0 ≤ (a.1.2.2.1 : Int) ∧ (a.1.2.2.1 : Int) < ((a.1.2.1.2.2.1 : Nat) : Int) then
  (getI a.1.1 a.1.2.2.1).bind fun e1 =>
  (a.2.1[a.1.2.1.1]?).bind fun e2 =>
  ((e2.config.voters.1 ++ e2.config.voters.2)[(a.1.2.1.2.1 + (a.1.2.2.1 : Int).toNat)]?).bind fun e3 =>
  (bif (!(decide ((e3 : Int) = e1))) then
  some (.inr (.inl ((false, ()), (a.2.1, ()))))
  else
  (bif (decide (((a.1.1.length : Int) : Int) ≤ a.1.2.2.1)) then
  (if 0 ≤ (a.1.2.2.1 : Int) ∧ (a.1.2.2.1 : Int) < ((a.1.2.1.2.2.1 : Nat) : Int) then
  (a.2.1[a.1.2.1.1]?).bind fun e4 =>
  ((e4.config.voters.1 ++ e4.config.voters.2)[(a.1.2.1.2.1 + (a.1.2.2.1 : Int).toNat)]?).bind fun e5 =>
  (wk_mark 1 (IntKind.i64.wrap (a.1.2.2.1 - (a.1.1.length : Int)))).bind fun r6 =>
  (bif (!(decide ((e5 : Int) = r6.1))) then
  some (.inr (.inl ((false, ()), (a.2.1, ()))))
  else
  some (.inl ((a.1.1, (a.1.2.1.1, a.1.2.1.2.1, a.1.2.1.2.2.1, a.1.2.1.2.2.2.1, ()), (IntKind.i64.wrap (a.1.2.2.1 + 1)), ()), (a.2.1, ()))))
  else none)
  else
  some (.inl ((a.1.1, (a.1.2.1.1, a.1.2.1.2.1, a.1.2.1.2.2.1, a.1.2.1.2.2.2.1, ()), (IntKind.i64.wrap (a.1.2.2.1 + 1)), ()), (a.2.1, ())))))
  else none)
  else
  (bif (decide (((a.1.1.length : Int) : Int) ≤ a.1.2.2.1)) then
  (if 0 ≤ (a.1.2.2.1 : Int) ∧ (a.1.2.2.1 : Int) < ((a.1.2.1.2.2.1 : Nat) : Int) then
  (a.2.1[a.1.2.1.1]?).bind fun e7 =>
  ((e7.config.voters.1 ++ e7.config.voters.2)[(a.1.2.1.2.1 + (a.1.2.2.1 : Int).toNat)]?).bind fun e8 =>
  (wk_mark 1 (IntKind.i64.wrap (a.1.2.2.1 - (a.1.1.length : Int)))).bind fun r9 =>
  (bif (!(decide ((e8 : Int) = r9.1))) then
  some (.inr (.inl ((false, ()), (a.2.1, ()))))
  else
  some (.inl ((a.1.1, (a.1.2.1.1, a.1.2.1.2.1, a.1.2.1.2.2.1, a.1.2.1.2.2.2.1, ()), (IntKind.i64.wrap (a.1.2.2.1 + 1)), ()), (a.2.1, ()))))
  else none)
  else
  some (.inl ((a.1.1, (a.1.2.1.1, a.1.2.1.2.1, a.1.2.1.2.2.1, a.1.2.1.2.2.2.1, ()), (IntKind.i64.wrap (a.1.2.2.1 + 1)), ()), (a.2.1, ())))))
  else
  some (.inr (.inr ((), (a.2.1, ())))))
def wk_KeptInts_e1 : LEp := ⟨5, [1, 5, 6], [.one (.sl 0), .one (.gv 0 798 4), .one (.int .i64)], [.gen 8 true], [⟨.ret, [4], [.one (.bool)], [.gen 8 true]⟩, ⟨.exit 0, [], [], [.gen 8 true]⟩], wk_KeptInts_l1⟩
def wk_KeptInts_lt : List (LEp) := [wk_KeptInts_e1]
theorem wk_KeptInts_e1_ok : LeOk wk_KeptInts_e1 (nthL (bodyOf Try.f70) 0) := fun A env h k z hk => le_ok (E := wk_KeptInts_e1) (orcOfX_ok HK0 wk_KeptInts_tb) (dr := wk_KeptInts_dr) (lps := lpsOf wk_KeptInts_lt) (no_loop (by kernel_rfl)) (fun a => by kernel_rfl) env h k z hk
def wk_KeptInts (x0 : Nat × Nat × Nat × Nat × Unit) (x1 : LI) (h0 : List (DEntryX)) : Option (Bool × ((List (DEntryX)) × Unit)) :=
  (bif (decide ((((x0.2.2.1 : Nat) : Int) : Int) ≠ (x1.length : Int))) then
  some (false, (h0, ()))
  else
  (if 0 ≤ (0 : Int) ∧ (0 : Int) ≤ ((IntKind.i64.wrap ((x1.length : Int) + 12)) : Int) ∧ ((IntKind.i64.wrap ((x1.length : Int) + 12)) : Int) ≤ ((x0.2.2.2.1 : Nat) : Int) ∧ ((0 : Int) = 0 ∨ (0 : Int) < ((x0.2.2.2.1 : Nat) : Int)) then
  (loopM wk_KeptInts_l1 ((x1, (x0.1, (x0.2.1 + (0 : Int).toNat), (((IntKind.i64.wrap ((x1.length : Int) + 12)) : Int).toNat - (0 : Int).toNat), (x0.2.2.2.1 - (0 : Int).toNat), ()), 0, ()), (h0, ()))).bind fun b1 =>
  (match b1 with
  | .inl b2 =>
  some (b2.1.1, (b2.2.1, ()))
  | .inr b3 =>
  some (true, (b3.2.1, ())))
  else none))
def wk_KeptInts_ce : CEp where
  f := 70
  args := [.one (.gv 0 798 4), .one (.sl 0)]
  hs := [.gen 8 true]
  res := .val (.one (.bool))
  outs := [.gen 8 true]
  m := fun d dh => wk_KeptInts d.1 d.2.1 dh.1
  ok := ce_ok mixedP Try.func70 (by kernel_rfl) (orcOfX_ok HK0 wk_KeptInts_tb) (dr := wk_KeptInts_dr) (lps := lpsOf wk_KeptInts_lt) (lps_fn (lps_of (n := 1) (by kernel_rfl) fun i hi => match i, hi with | 0, _ => lp_ok (E := wk_KeptInts_e1) (by kernel_rfl) wk_KeptInts_e1_ok)) (fun d dh => by kernel_rfl)

def wk_KeptInts_2_dr : Nat → Nat → DrA
  | 7, _ => ⟨(List.range 8 ++ [9, 10, 11, 8, 12, 13, 14, 15, 16, 17, 18, 19, 20, 21, 22, 23, 24, 26, 27, 28, 29, 25, 30, 31, 32, 33, 34]), [[], [], [1], [0, 1, 2], [0, 1, 2, 3], (List.range 5), (List.range 5), (List.range 7), (List.range 8), (List.range 5), (List.range 5), (List.range 5 ++ [9, 10]), (List.range 5 ++ [9, 10, 11]), (List.range 13), (List.range 14), (List.range 15), (List.range 16), (List.range 17), (List.range 17), (List.range 17 ++ [18]), (List.range 20), (List.range 21), (List.range 22), (List.range 22), (List.range 24), (List.range 25), (List.range 22), (List.range 22), (List.range 22 ++ [27]), (List.range 22 ++ [26, 27, 28]), (List.range 22 ++ [26, 27, 28, 29]), (List.range 31), (List.range 32), (List.range 33), (List.range 34)], [25], [30], [0], false, []⟩
  | _, _ => ⟨[], [], [], [], [], false, []⟩
end
end Go.Proofs.Ytlaehnldaejipaa
