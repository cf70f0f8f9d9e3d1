/- Models, by program. -/
import Derived.Test.YtfgcknjlncognaaSeqT
namespace Go.Proofs.Ytfgcknjlncognaa
open Go.RowKit
set_option maxRecDepth 100000
set_option linter.unusedVariables false
noncomputable def appendSeq (h0 : List (List UInt8)) : Option ((Nat × Nat) × ((List (List UInt8)) × (List (List UInt8)) × Unit)) :=
  if h0.length ≠ 0 ∧ h0.length ≤ 8796093022208 then some ((0, h0.length), (h0, h0, ())) else none
noncomputable def appendSeq_ce : CE CT Try.prog where
  f := 42
  args := [.one .nil, .one (.clo 40 [0])]
  hs := [.cobj 24 3]
  res := .val (.one (.asu 2 1))
  outs := [.cobj 24 3, .arr 9 2]
  m := fun d dh => appendSeq dh.1
  ok := fun d dh r hr => by
    unfold appendSeq at hr
    split at hr
    · rename_i hc
      injection hr with hr
      subst hr
      exact appendSeq_tr dh.1 hc.1 hc.2
    · cases hr

def span_All_dr : Nat → DrA
  | _ => ⟨[], [], [], [], []⟩
noncomputable def span_All_tb : List (CE CT Try.prog) := []
noncomputable def span_All_lt : List (LE CT Try.prog) := []
noncomputable def span_All  : Option ((DSpan) × (Unit)) :=
  some ((⟨([] : List UInt8), ([] : List UInt8)⟩ : DSpan), ())
noncomputable def span_All_ce : CE CT Try.prog where
  f := 27
  args := []
  hs := []
  res := .val (.cod 4)
  outs := []
  m := fun d dh => span_All
  ok := ce_ok mixedP Try.func27 (by kernel_rfl) (orcOf_ok span_All_tb) (dr := span_All_dr) (lps := lpsOf span_All_lt) (lps_fn (no_loop (by kernel_rfl))) (fun d dh => by kernel_rfl)

def span_ends_dr : Nat → DrA
  | 1 => ⟨[0, 4, 1, 2, 3, 5, 6, 7, 8, 9], [[], [0], [0, 1], [0, 1, 2], [], [4], [4, 5], [4, 5, 6], [0, 1, 2, 3], [0, 1, 2, 3, 4, 5, 6, 7, 8]], [5], [8], [0]⟩
  | _ => ⟨[], [], [], [], []⟩
noncomputable def span_ends_tb : List (CE CT Try.prog) := []
noncomputable def span_ends_lt : List (LE CT Try.prog) := []
noncomputable def span_ends (x0 : DSpan) : Option (((DLow) × (DHigh) × Unit) × (Unit)) :=
  some (((⟨(⟨x0.lo⟩ : DText)⟩ : DLow), (⟨(⟨x0.hi⟩ : DText)⟩ : DHigh), ()), ())
noncomputable def span_ends_ce : CE CT Try.prog where
  f := 28
  args := [.cod 4]
  hs := []
  res := .tup [.cod 6, .cod 7]
  outs := []
  m := fun d dh => span_ends d.1
  ok := ce_ok mixedP Try.func28 (by kernel_rfl) (orcOf_ok span_ends_tb) (dr := span_ends_dr) (lps := lpsOf span_ends_lt) (lps_fn (no_loop (by kernel_rfl))) (fun d dh => by kernel_rfl)

def span_none_dr : Nat → DrA
  | _ => ⟨[], [], [], [], []⟩
noncomputable def span_none_tb : List (CE CT Try.prog) := []
noncomputable def span_none_lt : List (LE CT Try.prog) := []
noncomputable def span_none (x0 : DText) : Option ((Bool) × (Unit)) :=
  some ((decide (x0.s = ([] : List UInt8))), ())
noncomputable def span_none_ce : CE CT Try.prog where
  f := 31
  args := [.cod 5]
  hs := []
  res := .val (.one (.bool))
  outs := []
  m := fun d dh => span_none d.1
  ok := ce_ok mixedP Try.func31 (by kernel_rfl) (orcOf_ok span_none_tb) (dr := span_none_dr) (lps := lpsOf span_none_lt) (lps_fn (no_loop (by kernel_rfl))) (fun d dh => by kernel_rfl)

def cmp_isNaN_dr : Nat → DrA
  | _ => ⟨[], [], [], [], []⟩
noncomputable def cmp_isNaN_tb : List (CE CT Try.prog) := []
noncomputable def cmp_isNaN_lt : List (LE CT Try.prog) := []
noncomputable def cmp_isNaN (x0 : List UInt8) : Option ((Bool) × (Unit)) :=
  some ((decide (x0 ≠ x0)), ())
noncomputable def cmp_isNaN_ce : CE CT Try.prog where
  f := 41
  args := [.one (.str)]
  hs := []
  res := .val (.one (.bool))
  outs := []
  m := fun d dh => cmp_isNaN d.1
  ok := ce_ok mixedP Try.func41 (by kernel_rfl) (orcOf_ok cmp_isNaN_tb) (dr := cmp_isNaN_dr) (lps := lpsOf cmp_isNaN_lt) (lps_fn (no_loop (by kernel_rfl))) (fun d dh => by kernel_rfl)

def cmp_Compare_dr : Nat → DrA
  | _ => ⟨[], [], [], [], []⟩
noncomputable def cmp_Compare_tb : List (CE CT Try.prog) := [cmp_isNaN_ce]
noncomputable def cmp_Compare_lt : List (LE CT Try.prog) := []
noncomputable def cmp_Compare (x0 : List UInt8) (x1 : List UInt8) : Option ((Int) × (Unit)) :=
  (cmp_isNaN x0).bind fun r1 =>
  (cmp_isNaN x1).bind fun r2 =>
  (bif r1.1 then
  (bif r2.1 then
  some (0, ())
  else
  some ((-1), ()))
  else
  (bif r2.1 then
  some (1, ())
  else
  (bif (decide (x0 < x1)) then
  some ((-1), ())
  else
  (bif (!(decide (x0 < x1) || decide (x0 = x1))) then
  some (1, ())
  else
  some (0, ())))))
noncomputable def cmp_Compare_ce : CE CT Try.prog where
  f := 37
  args := [.one (.str), .one (.str)]
  hs := []
  res := .val (.one (.int .i64))
  outs := []
  m := fun d dh => cmp_Compare d.1 d.2.1
  ok := ce_ok mixedP Try.func37 (by kernel_rfl) (orcOf_ok cmp_Compare_tb) (dr := cmp_Compare_dr) (lps := lpsOf cmp_Compare_lt) (lps_fn (no_loop (by kernel_rfl))) (fun d dh => by kernel_rfl)

def span_compare_dr : Nat → DrA
  | _ => ⟨[], [], [], [], []⟩
noncomputable def span_compare_tb : List (CE CT Try.prog) := [cmp_Compare_ce]
noncomputable def span_compare_lt : List (LE CT Try.prog) := []
noncomputable def span_compare (x0 : DText) (x1 : DText) : Option ((Int) × (Unit)) :=
  (cmp_Compare x0.s x1.s).bind fun r1 =>
  some (r1.1, ())
noncomputable def span_compare_ce : CE CT Try.prog where
  f := 30
  args := [.cod 5, .cod 5]
  hs := []
  res := .val (.one (.int .i64))
  outs := []
  m := fun d dh => span_compare d.1 d.2.1
  ok := ce_ok mixedP Try.func30 (by kernel_rfl) (orcOf_ok span_compare_tb) (dr := span_compare_dr) (lps := lpsOf span_compare_lt) (lps_fn (no_loop (by kernel_rfl))) (fun d dh => by kernel_rfl)

def span_above_dr : Nat → DrA
  | _ => ⟨[], [], [], [], []⟩
noncomputable def span_above_tb : List (CE CT Try.prog) := [span_none_ce, span_compare_ce]
noncomputable def span_above_lt : List (LE CT Try.prog) := []
noncomputable def span_above (x0 : DHigh) (x1 : DText) : Option ((Bool) × (Unit)) :=
  (span_none x0.text).bind fun r1 =>
  (bif r1.1 then
  some (true, ())
  else
  (span_compare x0.text x1).bind fun r2 =>
  some ((decide ((0 : Int) < r2.1)), ()))
noncomputable def span_above_ce : CE CT Try.prog where
  f := 32
  args := [.cod 7, .cod 5]
  hs := []
  res := .val (.one (.bool))
  outs := []
  m := fun d dh => span_above d.1 d.2.1
  ok := ce_ok mixedP Try.func32 (by kernel_rfl) (orcOf_ok span_above_tb) (dr := span_above_dr) (lps := lpsOf span_above_lt) (lps_fn (no_loop (by kernel_rfl))) (fun d dh => by kernel_rfl)

def span_Key_dr : Nat → DrA
  | _ => ⟨[], [], [], [], []⟩
noncomputable def span_Key_tb : List (CE CT Try.prog) := []
noncomputable def span_Key_l1 (a : ((List UInt8) × (Int) × (Int) × Unit) × (Unit)) : Option ((((List UInt8) × (Int) × (Int) × Unit) × (Unit)) ⊕ ((((Bool) × Unit) × (Unit)) ⊕ ((Unit) × (Unit)))) :=
  (bif (decide ((a.1.2.2.1 : Int) < a.1.2.1)) then
  (getI a.1.1 a.1.2.2.1).bind fun e1 =>
  (bif (decide ((97 : Int) ≤ (e1.toNat : Int))) then
  (bif (decide (((e1.toNat : Int) : Int) ≤ 122)) then
  some (.inl ((a.1.1, a.1.2.1, (IntKind.i64.wrap (a.1.2.2.1 + 1)), ()), ()))
  else
  (bif (decide ((48 : Int) ≤ (e1.toNat : Int))) then
  (bif (!(decide (((e1.toNat : Int) : Int) ≤ 57))) then
  some (.inr (.inl ((false, ()), ())))
  else
  some (.inl ((a.1.1, a.1.2.1, (IntKind.i64.wrap (a.1.2.2.1 + 1)), ()), ())))
  else
  some (.inr (.inl ((false, ()), ())))))
  else
  (bif (decide ((48 : Int) ≤ (e1.toNat : Int))) then
  (bif (!(decide (((e1.toNat : Int) : Int) ≤ 57))) then
  some (.inr (.inl ((false, ()), ())))
  else
  some (.inl ((a.1.1, a.1.2.1, (IntKind.i64.wrap (a.1.2.2.1 + 1)), ()), ())))
  else
  some (.inr (.inl ((false, ()), ())))))
  else
  some (.inr (.inr ((), ()))))
noncomputable def span_Key_e1 : LE CT Try.prog := ⟨4, [0, 13, 14], [.one (.str), .one (.int .i64), .one (.int .i64)], [], [⟨.ret, [2], [.one (.bool)], []⟩, ⟨.exit 0, [], [], []⟩], span_Key_l1⟩
noncomputable def span_Key_lt : List (LE CT Try.prog) := [span_Key_e1]
theorem span_Key_e1_ok : LeOk span_Key_e1 (nthL (bodyOf Try.f18) 0) := fun A env h k z hk => le_ok (E := span_Key_e1) (orcOf_ok span_Key_tb) (dr := span_Key_dr) (lps := lpsOf span_Key_lt) (no_loop (by kernel_rfl)) (fun a => by kernel_rfl) env h k z hk
noncomputable def span_Key (x0 : List UInt8) : Option ((Bool) × (Unit)) :=
  (bif (decide (x0 = ([] : List UInt8))) then
  some (false, ())
  else
  (bif (decide ((20 : Int) < (x0.length : Int))) then
  some (false, ())
  else
  (loopM span_Key_l1 ((x0, (x0.length : Int), 0, ()), ())).bind fun b1 =>
  (match b1 with
  | .inl b2 =>
  some (b2.1.1, ())
  | .inr b3 =>
  some (true, ()))))
noncomputable def span_Key_ce : CE CT Try.prog where
  f := 18
  args := [.one (.str)]
  hs := []
  res := .val (.one (.bool))
  outs := []
  m := fun d dh => span_Key d.1
  ok := ce_ok mixedP Try.func18 (by kernel_rfl) (orcOf_ok span_Key_tb) (dr := span_Key_dr) (lps := lpsOf span_Key_lt) (lps_fn (lps_of (n := 1) (by kernel_rfl) fun i hi => match i, hi with | 0, _ => lp_ok (E := span_Key_e1) (by kernel_rfl) span_Key_e1_ok)) (fun d dh => by kernel_rfl)

def span_Right_dr : Nat → DrA
  | _ => ⟨[], [], [], [], []⟩
noncomputable def span_Right_tb : List (CE CT Try.prog) := [span_ends_ce, span_none_ce, span_above_ce, span_Key_ce]
noncomputable def span_Right_lt : List (LE CT Try.prog) := []
noncomputable def span_Right (x0 : DSpan) : Option ((Bool) × (Unit)) :=
  (span_ends x0).bind fun r1 =>
  (span_none r1.1.1.text).bind fun r2 =>
  (bif r2.1 then
  (span_none r1.1.2.1.text).bind fun r3 =>
  (bif r3.1 then
  (span_above r1.1.2.1 r1.1.1.text).bind fun r4 =>
  some (r4.1, ())
  else
  (span_Key x0.hi).bind fun r5 =>
  (bif r5.1 then
  (span_above r1.1.2.1 r1.1.1.text).bind fun r6 =>
  some (r6.1, ())
  else
  some (false, ())))
  else
  (span_Key x0.lo).bind fun r7 =>
  (bif r7.1 then
  (span_none r1.1.2.1.text).bind fun r8 =>
  (bif r8.1 then
  (span_above r1.1.2.1 r1.1.1.text).bind fun r9 =>
  some (r9.1, ())
  else
  (span_Key x0.hi).bind fun r10 =>
  (bif r10.1 then
  (span_above r1.1.2.1 r1.1.1.text).bind fun r11 =>
  some (r11.1, ())
  else
  some (false, ())))
  else
  some (false, ())))
noncomputable def span_Right_ce : CE CT Try.prog where
  f := 16
  args := [.cod 4]
  hs := []
  res := .val (.one (.bool))
  outs := []
  m := fun d dh => span_Right d.1
  ok := ce_ok mixedP Try.func16 (by kernel_rfl) (orcOf_ok span_Right_tb) (dr := span_Right_dr) (lps := lpsOf span_Right_lt) (lps_fn (no_loop (by kernel_rfl))) (fun d dh => by kernel_rfl)

def slices_Values_dr : Nat → DrA
  | _ => ⟨[], [], [], [], []⟩
noncomputable def slices_Values_tb : List (CE CT Try.prog) := []
noncomputable def slices_Values_lt : List (LE CT Try.prog) := []
noncomputable def slices_Values (x0 : List (List UInt8)) : Option ((Unit) × ((List (List UInt8)) × Unit)) :=
  some ((), (x0, ()))
noncomputable def slices_Values_ce : CE CT Try.prog where
  f := 36
  args := [.one (.sl 2)]
  hs := []
  res := .val (.one (.clo 40 [0]))
  outs := [.cobj 24 3]
  m := fun d dh => slices_Values d.1
  ok := ce_ok mixedP Try.func36 (by kernel_rfl) (orcOf_ok slices_Values_tb) (dr := slices_Values_dr) (lps := lpsOf slices_Values_lt) (lps_fn (no_loop (by kernel_rfl))) (fun d dh => by kernel_rfl)

def slices_Collect_dr : Nat → DrA
  | _ => ⟨[], [], [], [], []⟩
noncomputable def slices_Collect_tb : List (CE CT Try.prog) := [appendSeq_ce]
noncomputable def slices_Collect_lt : List (LE CT Try.prog) := []
noncomputable def slices_Collect (h0 : List (List UInt8)) : Option ((Nat × Nat) × ((List (List UInt8)) × (List (List UInt8)) × Unit)) :=
  (appendSeq h0).bind fun r1 =>
  some ((r1.1.1, r1.1.2), (r1.2.1, r1.2.2.1, ()))
noncomputable def slices_Collect_ce : CE CT Try.prog where
  f := 38
  args := [.one (.clo 40 [0])]
  hs := [.cobj 24 3]
  res := .val (.one (.asu 2 1))
  outs := [.cobj 24 3, .arr 9 2]
  m := fun d dh => slices_Collect dh.1
  ok := ce_ok mixedP Try.func38 (by kernel_rfl) (orcOf_ok slices_Collect_tb) (dr := slices_Collect_dr) (lps := lpsOf slices_Collect_lt) (lps_fn (no_loop (by kernel_rfl))) (fun d dh => by kernel_rfl)

def bits_Len64_dr : Nat → DrA
  | _ => ⟨[], [], [], [], []⟩
noncomputable def bits_Len64_tb : List (CE CT Try.prog) := []
noncomputable def bits_Len64_lt : List (LE CT Try.prog) := []
noncomputable def bits_Len64 (x0 : Int) : Option ((Int) × (Unit)) :=
  (bif (decide ((4294967296 : Int) ≤ x0)) then
  (bif (decide ((65536 : Int) ≤ ((x0 : Int).fdiv (2 ^ min (32 : Int).toNat (IntKind.u64.bits))))) then
  let y1 : Int := ((((x0 : Int).fdiv (2 ^ min (32 : Int).toNat (IntKind.u64.bits))) : Int).fdiv (2 ^ min (16 : Int).toNat (IntKind.u64.bits)))
  (bif (decide ((256 : Int) ≤ y1)) then
  (getI ([0, 1, 2, 2, 3, 3, 3, 3, 4, 4, 4, 4, 4, 4, 4, 4, 5, 5, 5, 5, 5, 5, 5, 5, 5, 5, 5, 5, 5, 5, 5, 5, 6, 6, 6, 6, 6, 6, 6, 6, 6, 6, 6, 6, 6, 6, 6, 6, 6, 6, 6, 6, 6, 6, 6, 6, 6, 6, 6, 6, 6, 6, 6, 6, 7, 7, 7, 7, 7, 7, 7, 7, 7, 7, 7, 7, 7, 7, 7, 7, 7, 7, 7, 7, 7, 7, 7, 7, 7, 7, 7, 7, 7, 7, 7, 7, 7, 7, 7, 7, 7, 7, 7, 7, 7, 7, 7, 7, 7, 7, 7, 7, 7, 7, 7, 7, 7, 7, 7, 7, 7, 7, 7, 7, 7, 7, 7, 7, 8, 8, 8, 8, 8, 8, 8, 8, 8, 8, 8, 8, 8, 8, 8, 8, 8, 8, 8, 8, 8, 8, 8, 8, 8, 8, 8, 8, 8, 8, 8, 8, 8, 8, 8, 8, 8, 8, 8, 8, 8, 8, 8, 8, 8, 8, 8, 8, 8, 8, 8, 8, 8, 8, 8, 8, 8, 8, 8, 8, 8, 8, 8, 8, 8, 8, 8, 8, 8, 8, 8, 8, 8, 8, 8, 8, 8, 8, 8, 8, 8, 8, 8, 8, 8, 8, 8, 8, 8, 8, 8, 8, 8, 8, 8, 8, 8, 8, 8, 8, 8, 8, 8, 8, 8, 8, 8, 8, 8, 8, 8, 8, 8, 8, 8, 8, 8, 8, 8, 8, 8, 8, 8, 8, 8, 8, 8, 8] : List UInt8) (IntKind.u8.wrap ((y1 : Int).fdiv (2 ^ min (8 : Int).toNat (IntKind.u64.bits))))).bind fun e2 =>
  let y3 : Int := (IntKind.i64.wrap ((IntKind.i64.wrap ((IntKind.i64.wrap (32 + 16)) + 8)) + (IntKind.i64.wrap (e2.toNat : Int))))
  some (y3, ())
  else
  (getI ([0, 1, 2, 2, 3, 3, 3, 3, 4, 4, 4, 4, 4, 4, 4, 4, 5, 5, 5, 5, 5, 5, 5, 5, 5, 5, 5, 5, 5, 5, 5, 5, 6, 6, 6, 6, 6, 6, 6, 6, 6, 6, 6, 6, 6, 6, 6, 6, 6, 6, 6, 6, 6, 6, 6, 6, 6, 6, 6, 6, 6, 6, 6, 6, 7, 7, 7, 7, 7, 7, 7, 7, 7, 7, 7, 7, 7, 7, 7, 7, 7, 7, 7, 7, 7, 7, 7, 7, 7, 7, 7, 7, 7, 7, 7, 7, 7, 7, 7, 7, 7, 7, 7, 7, 7, 7, 7, 7, 7, 7, 7, 7, 7, 7, 7, 7, 7, 7, 7, 7, 7, 7, 7, 7, 7, 7, 7, 7, 8, 8, 8, 8, 8, 8, 8, 8, 8, 8, 8, 8, 8, 8, 8, 8, 8, 8, 8, 8, 8, 8, 8, 8, 8, 8, 8, 8, 8, 8, 8, 8, 8, 8, 8, 8, 8, 8, 8, 8, 8, 8, 8, 8, 8, 8, 8, 8, 8, 8, 8, 8, 8, 8, 8, 8, 8, 8, 8, 8, 8, 8, 8, 8, 8, 8, 8, 8, 8, 8, 8, 8, 8, 8, 8, 8, 8, 8, 8, 8, 8, 8, 8, 8, 8, 8, 8, 8, 8, 8, 8, 8, 8, 8, 8, 8, 8, 8, 8, 8, 8, 8, 8, 8, 8, 8, 8, 8, 8, 8, 8, 8, 8, 8, 8, 8, 8, 8, 8, 8, 8, 8, 8, 8, 8, 8, 8, 8] : List UInt8) (IntKind.u8.wrap y1)).bind fun e4 =>
  let y5 : Int := (IntKind.i64.wrap ((IntKind.i64.wrap (32 + 16)) + (IntKind.i64.wrap (e4.toNat : Int))))
  some (y5, ()))
  else
  (bif (decide ((256 : Int) ≤ ((x0 : Int).fdiv (2 ^ min (32 : Int).toNat (IntKind.u64.bits))))) then
  let y6 : Int := ((((x0 : Int).fdiv (2 ^ min (32 : Int).toNat (IntKind.u64.bits))) : Int).fdiv (2 ^ min (8 : Int).toNat (IntKind.u64.bits)))
  (getI ([0, 1, 2, 2, 3, 3, 3, 3, 4, 4, 4, 4, 4, 4, 4, 4, 5, 5, 5, 5, 5, 5, 5, 5, 5, 5, 5, 5, 5, 5, 5, 5, 6, 6, 6, 6, 6, 6, 6, 6, 6, 6, 6, 6, 6, 6, 6, 6, 6, 6, 6, 6, 6, 6, 6, 6, 6, 6, 6, 6, 6, 6, 6, 6, 7, 7, 7, 7, 7, 7, 7, 7, 7, 7, 7, 7, 7, 7, 7, 7, 7, 7, 7, 7, 7, 7, 7, 7, 7, 7, 7, 7, 7, 7, 7, 7, 7, 7, 7, 7, 7, 7, 7, 7, 7, 7, 7, 7, 7, 7, 7, 7, 7, 7, 7, 7, 7, 7, 7, 7, 7, 7, 7, 7, 7, 7, 7, 7, 8, 8, 8, 8, 8, 8, 8, 8, 8, 8, 8, 8, 8, 8, 8, 8, 8, 8, 8, 8, 8, 8, 8, 8, 8, 8, 8, 8, 8, 8, 8, 8, 8, 8, 8, 8, 8, 8, 8, 8, 8, 8, 8, 8, 8, 8, 8, 8, 8, 8, 8, 8, 8, 8, 8, 8, 8, 8, 8, 8, 8, 8, 8, 8, 8, 8, 8, 8, 8, 8, 8, 8, 8, 8, 8, 8, 8, 8, 8, 8, 8, 8, 8, 8, 8, 8, 8, 8, 8, 8, 8, 8, 8, 8, 8, 8, 8, 8, 8, 8, 8, 8, 8, 8, 8, 8, 8, 8, 8, 8, 8, 8, 8, 8, 8, 8, 8, 8, 8, 8, 8, 8, 8, 8, 8, 8, 8, 8] : List UInt8) (IntKind.u8.wrap y6)).bind fun e7 =>
  let y8 : Int := (IntKind.i64.wrap ((IntKind.i64.wrap (32 + 8)) + (IntKind.i64.wrap (e7.toNat : Int))))
  some (y8, ())
  else
  (getI ([0, 1, 2, 2, 3, 3, 3, 3, 4, 4, 4, 4, 4, 4, 4, 4, 5, 5, 5, 5, 5, 5, 5, 5, 5, 5, 5, 5, 5, 5, 5, 5, 6, 6, 6, 6, 6, 6, 6, 6, 6, 6, 6, 6, 6, 6, 6, 6, 6, 6, 6, 6, 6, 6, 6, 6, 6, 6, 6, 6, 6, 6, 6, 6, 7, 7, 7, 7, 7, 7, 7, 7, 7, 7, 7, 7, 7, 7, 7, 7, 7, 7, 7, 7, 7, 7, 7, 7, 7, 7, 7, 7, 7, 7, 7, 7, 7, 7, 7, 7, 7, 7, 7, 7, 7, 7, 7, 7, 7, 7, 7, 7, 7, 7, 7, 7, 7, 7, 7, 7, 7, 7, 7, 7, 7, 7, 7, 7, 8, 8, 8, 8, 8, 8, 8, 8, 8, 8, 8, 8, 8, 8, 8, 8, 8, 8, 8, 8, 8, 8, 8, 8, 8, 8, 8, 8, 8, 8, 8, 8, 8, 8, 8, 8, 8, 8, 8, 8, 8, 8, 8, 8, 8, 8, 8, 8, 8, 8, 8, 8, 8, 8, 8, 8, 8, 8, 8, 8, 8, 8, 8, 8, 8, 8, 8, 8, 8, 8, 8, 8, 8, 8, 8, 8, 8, 8, 8, 8, 8, 8, 8, 8, 8, 8, 8, 8, 8, 8, 8, 8, 8, 8, 8, 8, 8, 8, 8, 8, 8, 8, 8, 8, 8, 8, 8, 8, 8, 8, 8, 8, 8, 8, 8, 8, 8, 8, 8, 8, 8, 8, 8, 8, 8, 8, 8, 8] : List UInt8) (IntKind.u8.wrap ((x0 : Int).fdiv (2 ^ min (32 : Int).toNat (IntKind.u64.bits))))).bind fun e9 =>
  some ((IntKind.i64.wrap (32 + (IntKind.i64.wrap (e9.toNat : Int)))), ())))
  else
  (bif (decide ((65536 : Int) ≤ x0)) then
  (bif (decide ((256 : Int) ≤ ((x0 : Int).fdiv (2 ^ min (16 : Int).toNat (IntKind.u64.bits))))) then
  let y10 : Int := ((((x0 : Int).fdiv (2 ^ min (16 : Int).toNat (IntKind.u64.bits))) : Int).fdiv (2 ^ min (8 : Int).toNat (IntKind.u64.bits)))
  (getI ([0, 1, 2, 2, 3, 3, 3, 3, 4, 4, 4, 4, 4, 4, 4, 4, 5, 5, 5, 5, 5, 5, 5, 5, 5, 5, 5, 5, 5, 5, 5, 5, 6, 6, 6, 6, 6, 6, 6, 6, 6, 6, 6, 6, 6, 6, 6, 6, 6, 6, 6, 6, 6, 6, 6, 6, 6, 6, 6, 6, 6, 6, 6, 6, 7, 7, 7, 7, 7, 7, 7, 7, 7, 7, 7, 7, 7, 7, 7, 7, 7, 7, 7, 7, 7, 7, 7, 7, 7, 7, 7, 7, 7, 7, 7, 7, 7, 7, 7, 7, 7, 7, 7, 7, 7, 7, 7, 7, 7, 7, 7, 7, 7, 7, 7, 7, 7, 7, 7, 7, 7, 7, 7, 7, 7, 7, 7, 7, 8, 8, 8, 8, 8, 8, 8, 8, 8, 8, 8, 8, 8, 8, 8, 8, 8, 8, 8, 8, 8, 8, 8, 8, 8, 8, 8, 8, 8, 8, 8, 8, 8, 8, 8, 8, 8, 8, 8, 8, 8, 8, 8, 8, 8, 8, 8, 8, 8, 8, 8, 8, 8, 8, 8, 8, 8, 8, 8, 8, 8, 8, 8, 8, 8, 8, 8, 8, 8, 8, 8, 8, 8, 8, 8, 8, 8, 8, 8, 8, 8, 8, 8, 8, 8, 8, 8, 8, 8, 8, 8, 8, 8, 8, 8, 8, 8, 8, 8, 8, 8, 8, 8, 8, 8, 8, 8, 8, 8, 8, 8, 8, 8, 8, 8, 8, 8, 8, 8, 8, 8, 8, 8, 8, 8, 8, 8, 8] : List UInt8) (IntKind.u8.wrap y10)).bind fun e11 =>
  let y12 : Int := (IntKind.i64.wrap ((IntKind.i64.wrap ((IntKind.i64.wrap (0 + 16)) + 8)) + (IntKind.i64.wrap (e11.toNat : Int))))
  some (y12, ())
  else
  (getI ([0, 1, 2, 2, 3, 3, 3, 3, 4, 4, 4, 4, 4, 4, 4, 4, 5, 5, 5, 5, 5, 5, 5, 5, 5, 5, 5, 5, 5, 5, 5, 5, 6, 6, 6, 6, 6, 6, 6, 6, 6, 6, 6, 6, 6, 6, 6, 6, 6, 6, 6, 6, 6, 6, 6, 6, 6, 6, 6, 6, 6, 6, 6, 6, 7, 7, 7, 7, 7, 7, 7, 7, 7, 7, 7, 7, 7, 7, 7, 7, 7, 7, 7, 7, 7, 7, 7, 7, 7, 7, 7, 7, 7, 7, 7, 7, 7, 7, 7, 7, 7, 7, 7, 7, 7, 7, 7, 7, 7, 7, 7, 7, 7, 7, 7, 7, 7, 7, 7, 7, 7, 7, 7, 7, 7, 7, 7, 7, 8, 8, 8, 8, 8, 8, 8, 8, 8, 8, 8, 8, 8, 8, 8, 8, 8, 8, 8, 8, 8, 8, 8, 8, 8, 8, 8, 8, 8, 8, 8, 8, 8, 8, 8, 8, 8, 8, 8, 8, 8, 8, 8, 8, 8, 8, 8, 8, 8, 8, 8, 8, 8, 8, 8, 8, 8, 8, 8, 8, 8, 8, 8, 8, 8, 8, 8, 8, 8, 8, 8, 8, 8, 8, 8, 8, 8, 8, 8, 8, 8, 8, 8, 8, 8, 8, 8, 8, 8, 8, 8, 8, 8, 8, 8, 8, 8, 8, 8, 8, 8, 8, 8, 8, 8, 8, 8, 8, 8, 8, 8, 8, 8, 8, 8, 8, 8, 8, 8, 8, 8, 8, 8, 8, 8, 8, 8, 8] : List UInt8) (IntKind.u8.wrap ((x0 : Int).fdiv (2 ^ min (16 : Int).toNat (IntKind.u64.bits))))).bind fun e13 =>
  let y14 : Int := (IntKind.i64.wrap ((IntKind.i64.wrap (0 + 16)) + (IntKind.i64.wrap (e13.toNat : Int))))
  some (y14, ()))
  else
  (bif (decide ((256 : Int) ≤ x0)) then
  (getI ([0, 1, 2, 2, 3, 3, 3, 3, 4, 4, 4, 4, 4, 4, 4, 4, 5, 5, 5, 5, 5, 5, 5, 5, 5, 5, 5, 5, 5, 5, 5, 5, 6, 6, 6, 6, 6, 6, 6, 6, 6, 6, 6, 6, 6, 6, 6, 6, 6, 6, 6, 6, 6, 6, 6, 6, 6, 6, 6, 6, 6, 6, 6, 6, 7, 7, 7, 7, 7, 7, 7, 7, 7, 7, 7, 7, 7, 7, 7, 7, 7, 7, 7, 7, 7, 7, 7, 7, 7, 7, 7, 7, 7, 7, 7, 7, 7, 7, 7, 7, 7, 7, 7, 7, 7, 7, 7, 7, 7, 7, 7, 7, 7, 7, 7, 7, 7, 7, 7, 7, 7, 7, 7, 7, 7, 7, 7, 7, 8, 8, 8, 8, 8, 8, 8, 8, 8, 8, 8, 8, 8, 8, 8, 8, 8, 8, 8, 8, 8, 8, 8, 8, 8, 8, 8, 8, 8, 8, 8, 8, 8, 8, 8, 8, 8, 8, 8, 8, 8, 8, 8, 8, 8, 8, 8, 8, 8, 8, 8, 8, 8, 8, 8, 8, 8, 8, 8, 8, 8, 8, 8, 8, 8, 8, 8, 8, 8, 8, 8, 8, 8, 8, 8, 8, 8, 8, 8, 8, 8, 8, 8, 8, 8, 8, 8, 8, 8, 8, 8, 8, 8, 8, 8, 8, 8, 8, 8, 8, 8, 8, 8, 8, 8, 8, 8, 8, 8, 8, 8, 8, 8, 8, 8, 8, 8, 8, 8, 8, 8, 8, 8, 8, 8, 8, 8, 8] : List UInt8) (IntKind.u8.wrap ((x0 : Int).fdiv (2 ^ min (8 : Int).toNat (IntKind.u64.bits))))).bind fun e15 =>
  let y16 : Int := (IntKind.i64.wrap ((IntKind.i64.wrap (0 + 8)) + (IntKind.i64.wrap (e15.toNat : Int))))
  some (y16, ())
  else
  (getI ([0, 1, 2, 2, 3, 3, 3, 3, 4, 4, 4, 4, 4, 4, 4, 4, 5, 5, 5, 5, 5, 5, 5, 5, 5, 5, 5, 5, 5, 5, 5, 5, 6, 6, 6, 6, 6, 6, 6, 6, 6, 6, 6, 6, 6, 6, 6, 6, 6, 6, 6, 6, 6, 6, 6, 6, 6, 6, 6, 6, 6, 6, 6, 6, 7, 7, 7, 7, 7, 7, 7, 7, 7, 7, 7, 7, 7, 7, 7, 7, 7, 7, 7, 7, 7, 7, 7, 7, 7, 7, 7, 7, 7, 7, 7, 7, 7, 7, 7, 7, 7, 7, 7, 7, 7, 7, 7, 7, 7, 7, 7, 7, 7, 7, 7, 7, 7, 7, 7, 7, 7, 7, 7, 7, 7, 7, 7, 7, 8, 8, 8, 8, 8, 8, 8, 8, 8, 8, 8, 8, 8, 8, 8, 8, 8, 8, 8, 8, 8, 8, 8, 8, 8, 8, 8, 8, 8, 8, 8, 8, 8, 8, 8, 8, 8, 8, 8, 8, 8, 8, 8, 8, 8, 8, 8, 8, 8, 8, 8, 8, 8, 8, 8, 8, 8, 8, 8, 8, 8, 8, 8, 8, 8, 8, 8, 8, 8, 8, 8, 8, 8, 8, 8, 8, 8, 8, 8, 8, 8, 8, 8, 8, 8, 8, 8, 8, 8, 8, 8, 8, 8, 8, 8, 8, 8, 8, 8, 8, 8, 8, 8, 8, 8, 8, 8, 8, 8, 8, 8, 8, 8, 8, 8, 8, 8, 8, 8, 8, 8, 8, 8, 8, 8, 8, 8, 8] : List UInt8) (IntKind.u8.wrap x0)).bind fun e17 =>
  some ((IntKind.i64.wrap (0 + (IntKind.i64.wrap (e17.toNat : Int)))), ()))))
noncomputable def bits_Len64_ce : CE CT Try.prog where
  f := 55
  args := [.one (.int .u64)]
  hs := []
  res := .val (.one (.int .i64))
  outs := []
  m := fun d dh => bits_Len64 d.1
  ok := ce_ok mixedP Try.func55 (by kernel_rfl) (orcOf_ok bits_Len64_tb) (dr := bits_Len64_dr) (lps := lpsOf bits_Len64_lt) (lps_fn (no_loop (by kernel_rfl))) (fun d dh => by kernel_rfl)

def bits_Len_dr : Nat → DrA
  | _ => ⟨[], [], [], [], []⟩
noncomputable def bits_Len_tb : List (CE CT Try.prog) := [bits_Len64_ce]
noncomputable def bits_Len_lt : List (LE CT Try.prog) := []
noncomputable def bits_Len (x0 : Int) : Option ((Int) × (Unit)) :=
  (bits_Len64 x0).bind fun r1 =>
  some (r1.1, ())
noncomputable def bits_Len_ce : CE CT Try.prog where
  f := 44
  args := [.one (.int .u64)]
  hs := []
  res := .val (.one (.int .i64))
  outs := []
  m := fun d dh => bits_Len d.1
  ok := ce_ok mixedP Try.func44 (by kernel_rfl) (orcOf_ok bits_Len_tb) (dr := bits_Len_dr) (lps := lpsOf bits_Len_lt) (lps_fn (no_loop (by kernel_rfl))) (fun d dh => by kernel_rfl)

def cmp_Less_dr : Nat → DrA
  | _ => ⟨[], [], [], [], []⟩
noncomputable def cmp_Less_tb : List (CE CT Try.prog) := [cmp_isNaN_ce]
noncomputable def cmp_Less_lt : List (LE CT Try.prog) := []
noncomputable def cmp_Less (x0 : List UInt8) (x1 : List UInt8) : Option ((Bool) × (Unit)) :=
  (cmp_isNaN x0).bind fun r1 =>
  (bif r1.1 then
  (cmp_isNaN x1).bind fun r2 =>
  (bif (!r2.1) then
  some (true, ())
  else
  some ((decide (x0 < x1)), ()))
  else
  some ((decide (x0 < x1)), ()))
noncomputable def cmp_Less_ce : CE CT Try.prog where
  f := 51
  args := [.one (.str), .one (.str)]
  hs := []
  res := .val (.one (.bool))
  outs := []
  m := fun d dh => cmp_Less d.1 d.2.1
  ok := ce_ok mixedP Try.func51 (by kernel_rfl) (orcOf_ok cmp_Less_tb) (dr := cmp_Less_dr) (lps := lpsOf cmp_Less_lt) (lps_fn (no_loop (by kernel_rfl))) (fun d dh => by kernel_rfl)

def slices_insertionSortOrdered_dr : Nat → DrA
  | 4 => ⟨[0, 1, 2, 3, 4, 5, 6, 8, 9, 10, 11, 7, 12, 13, 14], [[], [], [0, 1], [0, 1, 2], [0, 1, 2, 3], [0, 1, 2, 3], [0, 1, 2, 3, 4, 5], [0, 1, 2, 3, 4, 5, 6], [0, 1, 2, 3], [0, 1, 2, 3], [0, 1, 2, 3, 9], [0, 1, 2, 3, 8, 9, 10], [0, 1, 2, 3, 8, 9, 10, 11], [0, 1, 2, 3, 4, 5, 6, 7, 8, 9, 10, 11, 12], [0, 1, 2, 3, 4, 5, 6, 7, 8, 9, 10, 11, 12, 13]], [], [], []⟩
  | 6 => ⟨[0, 1, 2, 3, 4, 5, 6, 7, 8, 10, 11, 12, 9, 13, 14, 15, 16, 17], [[], [], [], [], [3], [], [], [6], [5, 6, 7], [5, 6, 7, 8], [], [], [10, 11], [10, 11, 12], [0, 1, 5, 6, 7, 8, 9, 10, 11, 12, 13], [0, 1, 5, 6, 7, 8, 9, 10, 11, 12, 13, 14], [0, 1, 2, 3, 4, 5, 6, 7, 8, 9, 10, 11, 12, 13, 14, 15], [0, 1, 2, 3, 4, 5, 6, 7, 8, 9, 10, 11, 12, 13, 14, 15, 16]], [], [], []⟩
  | _ => ⟨[], [], [], [], []⟩
noncomputable def slices_insertionSortOrdered_tb : List (CE CT Try.prog) := [cmp_Less_ce]
noncomputable def slices_insertionSortOrdered_l2 (a : ((Nat × Nat) × (Int) × (Int) × (Int) × (Int) × Unit) × ((List (List UInt8)) × Unit)) : Option ((((Nat × Nat) × (Int) × (Int) × (Int) × (Int) × Unit) × ((List (List UInt8)) × Unit)) ⊕ ((((Nat × Nat) × (Int) × (Int) × (Int) × Unit) × ((List (List UInt8)) × Unit)))) :=
  (bif (decide ((a.1.2.1 : Int) < a.1.2.2.2.2.1)) then
  (if 0 ≤ (a.1.2.2.2.2.1 : Int) ∧ (a.1.2.2.2.2.1 : Int) < ((a.1.1.2 : Nat) : Int) then
  (if 0 ≤ ((IntKind.i64.wrap (a.1.2.2.2.2.1 - 1)) : Int) ∧ ((IntKind.i64.wrap (a.1.2.2.2.2.1 - 1)) : Int) < ((a.1.1.2 : Nat) : Int) then
  (a.2.1[(a.1.1.1 + (a.1.2.2.2.2.1 : Int).toNat)]?).bind fun e1 =>
  (a.2.1[(a.1.1.1 + ((IntKind.i64.wrap (a.1.2.2.2.2.1 - 1)) : Int).toNat)]?).bind fun e2 =>
  (cmp_Less e1 e2).bind fun r3 =>
  (bif r3.1 then
  (if 0 ≤ ((IntKind.i64.wrap (a.1.2.2.2.2.1 - 1)) : Int) ∧ ((IntKind.i64.wrap (a.1.2.2.2.2.1 - 1)) : Int) < ((a.1.1.2 : Nat) : Int) then
  (if 0 ≤ (a.1.2.2.2.2.1 : Int) ∧ (a.1.2.2.2.2.1 : Int) < ((a.1.1.2 : Nat) : Int) then
  (a.2.1[(a.1.1.1 + ((IntKind.i64.wrap (a.1.2.2.2.2.1 - 1)) : Int).toNat)]?).bind fun e4 =>
  (a.2.1[(a.1.1.1 + (a.1.2.2.2.2.1 : Int).toNat)]?).bind fun e5 =>
  (if 0 ≤ (a.1.2.2.2.2.1 : Int) ∧ (a.1.2.2.2.2.1 : Int) < ((a.1.1.2 : Nat) : Int) then
  (a.2.1[(a.1.1.1 + (a.1.2.2.2.2.1 : Int).toNat)]?).bind fun e6 =>
  (if 0 ≤ ((IntKind.i64.wrap (a.1.2.2.2.2.1 - 1)) : Int) ∧ ((IntKind.i64.wrap (a.1.2.2.2.2.1 - 1)) : Int) < ((a.1.1.2 : Nat) : Int) then
  ((a.2.1.set (a.1.1.1 + (a.1.2.2.2.2.1 : Int).toNat) e4)[(a.1.1.1 + ((IntKind.i64.wrap (a.1.2.2.2.2.1 - 1)) : Int).toNat)]?).bind fun e7 =>
  let y8 : List (List UInt8) := ((a.2.1.set (a.1.1.1 + (a.1.2.2.2.2.1 : Int).toNat) e4).set (a.1.1.1 + ((IntKind.i64.wrap (a.1.2.2.2.2.1 - 1)) : Int).toNat) e5)
  some (.inl (((a.1.1.1, a.1.1.2), a.1.2.1, a.1.2.2.1, a.1.2.2.2.1, (IntKind.i64.wrap (a.1.2.2.2.2.1 - 1)), ()), (y8, ())))
  else none)
  else none)
  else none)
  else none)
  else
  some (.inr (((a.1.1.1, a.1.1.2), a.1.2.1, a.1.2.2.1, a.1.2.2.2.1, ()), (a.2.1, ()))))
  else none)
  else none)
  else
  some (.inr (((a.1.1.1, a.1.1.2), a.1.2.1, a.1.2.2.1, a.1.2.2.2.1, ()), (a.2.1, ()))))
noncomputable def slices_insertionSortOrdered_e2 : LE CT Try.prog := ⟨4, [0, 1, 2, 6, 7], [.one (.asu 2 0), .one (.int .i64), .one (.int .i64), .one (.int .i64), .one (.int .i64)], [.arr 9 2], [⟨.exit 2, [0, 1, 2, 6], [.one (.asu 2 0), .one (.int .i64), .one (.int .i64), .one (.int .i64)], [.arr 9 2]⟩], slices_insertionSortOrdered_l2⟩
noncomputable def slices_insertionSortOrdered_l1 (a : ((Nat × Nat) × (Int) × (Int) × (Int) × Unit) × ((List (List UInt8)) × Unit)) : Option ((((Nat × Nat) × (Int) × (Int) × (Int) × Unit) × ((List (List UInt8)) × Unit)) ⊕ (((Unit) × ((List (List UInt8)) × Unit)))) :=
  (bif (decide ((a.1.2.2.2.1 : Int) < a.1.2.2.1)) then
  (loopM slices_insertionSortOrdered_l2 (((a.1.1.1, a.1.1.2), a.1.2.1, a.1.2.2.1, a.1.2.2.2.1, a.1.2.2.2.1, ()), (a.2.1, ()))).bind fun b1 =>
  some (.inl (((b1.1.1.1, b1.1.1.2), b1.1.2.1, b1.1.2.2.1, (IntKind.i64.wrap (b1.1.2.2.2.1 + 1)), ()), (b1.2.1, ())))
  else
  some (.inr ((), (a.2.1, ()))))
noncomputable def slices_insertionSortOrdered_e1 : LE CT Try.prog := ⟨1, [0, 1, 2, 6], [.one (.asu 2 0), .one (.int .i64), .one (.int .i64), .one (.int .i64)], [.arr 9 2], [⟨.exit 0, [], [], [.arr 9 2]⟩], slices_insertionSortOrdered_l1⟩
noncomputable def slices_insertionSortOrdered_lt : List (LE CT Try.prog) := [slices_insertionSortOrdered_e2, slices_insertionSortOrdered_e1]
theorem slices_insertionSortOrdered_e2_ok : LeOk slices_insertionSortOrdered_e2 (nthL (nthL (bodyOf Try.f45) 0) 0) := fun A env h k z hk => le_ok (E := slices_insertionSortOrdered_e2) (orcOf_ok slices_insertionSortOrdered_tb) (dr := slices_insertionSortOrdered_dr) (lps := lpsOf slices_insertionSortOrdered_lt) (no_loop (by kernel_rfl)) (fun a => by kernel_rfl) env h k z hk
theorem slices_insertionSortOrdered_e1_ok : LeOk slices_insertionSortOrdered_e1 (nthL (bodyOf Try.f45) 0) := fun A env h k z hk => le_ok (E := slices_insertionSortOrdered_e1) (orcOf_ok slices_insertionSortOrdered_tb) (dr := slices_insertionSortOrdered_dr) (lps := lpsOf slices_insertionSortOrdered_lt) (lps_of (n := 1) (by kernel_rfl) fun i hi => match i, hi with | 0, _ => lp_ok (E := slices_insertionSortOrdered_e2) (by kernel_rfl) slices_insertionSortOrdered_e2_ok) (fun a => by kernel_rfl) env h k z hk
noncomputable def slices_insertionSortOrdered (x0 : Nat × Nat) (x1 : Int) (x2 : Int) (h0 : List (List UInt8)) : Option ((Unit) × ((List (List UInt8)) × Unit)) :=
  (loopM slices_insertionSortOrdered_l1 (((x0.1, x0.2), x1, x2, (IntKind.i64.wrap (x1 + 1)), ()), (h0, ()))).bind fun b1 =>
  some ((), (b1.2.1, ()))
noncomputable def slices_insertionSortOrdered_ce : CE CT Try.prog where
  f := 45
  args := [.one (.asu 2 0), .one (.int .i64), .one (.int .i64)]
  hs := [.arr 9 2]
  res := .tup []
  outs := [.arr 9 2]
  m := fun d dh => slices_insertionSortOrdered d.1 d.2.1 d.2.2.1 dh.1
  ok := ce_ok mixedP Try.func45 (by kernel_rfl) (orcOf_ok slices_insertionSortOrdered_tb) (dr := slices_insertionSortOrdered_dr) (lps := lpsOf slices_insertionSortOrdered_lt) (lps_fn (lps_of (n := 1) (by kernel_rfl) fun i hi => match i, hi with | 0, _ => lp_ok (E := slices_insertionSortOrdered_e1) (by kernel_rfl) slices_insertionSortOrdered_e1_ok)) (fun d dh => by kernel_rfl)

def slices_pdqsortOrdered_dr : Nat → DrA
  | _ => ⟨[], [], [], [], []⟩
noncomputable def slices_pdqsortOrdered_tb : List (CE CT Try.prog) := [slices_insertionSortOrdered_ce]
noncomputable def slices_pdqsortOrdered_l1 (a : ((Nat × Nat) × (Int) × (Int) × (Int) × (Bool) × (Bool) × Unit) × ((List (List UInt8)) × Unit)) : Option ((((Nat × Nat) × (Int) × (Int) × (Int) × (Bool) × (Bool) × Unit) × ((List (List UInt8)) × Unit)) ⊕ (((Unit) × ((List (List UInt8)) × Unit)))) :=
  (bif (decide (((IntKind.i64.wrap (a.1.2.2.1 - a.1.2.1)) : Int) ≤ 12)) then
  (slices_insertionSortOrdered (a.1.1.1, a.1.1.2) a.1.2.1 a.1.2.2.1 a.2.1).bind fun r1 =>
  some (.inr ((), (r1.2.1, ())))
  else
  (bif (decide ((a.1.2.2.2.1 : Int) = 0)) then
  none
  else
  (bif (!a.1.2.2.2.2.1) then
  none
  else
  none)))
noncomputable def slices_pdqsortOrdered_e1 : LE CT Try.prog := ⟨2, [0, 1, 2, 3, 8, 9], [.one (.asu 2 0), .one (.int .i64), .one (.int .i64), .one (.int .i64), .one (.bool), .one (.bool)], [.arr 9 2], [⟨.ret, [], [], [.arr 9 2]⟩], slices_pdqsortOrdered_l1⟩
noncomputable def slices_pdqsortOrdered_lt : List (LE CT Try.prog) := [slices_pdqsortOrdered_e1]
theorem slices_pdqsortOrdered_e1_ok : LeOk slices_pdqsortOrdered_e1 (nthL (bodyOf Try.f43) 0) := fun A env h k z hk => le_ok (E := slices_pdqsortOrdered_e1) (orcOf_ok slices_pdqsortOrdered_tb) (dr := slices_pdqsortOrdered_dr) (lps := lpsOf slices_pdqsortOrdered_lt) (no_loop (by kernel_rfl)) (fun a => by kernel_rfl) env h k z hk
noncomputable def slices_pdqsortOrdered (x0 : Nat × Nat) (x1 : Int) (x2 : Int) (x3 : Int) (h0 : List (List UInt8)) : Option ((Unit) × ((List (List UInt8)) × Unit)) :=
  (loopM slices_pdqsortOrdered_l1 (((x0.1, x0.2), x1, x2, x3, true, true, ()), (h0, ()))).bind fun b1 =>
  some ((), (b1.2.1, ()))
noncomputable def slices_pdqsortOrdered_ce : CE CT Try.prog where
  f := 43
  args := [.one (.asu 2 0), .one (.int .i64), .one (.int .i64), .one (.int .i64)]
  hs := [.arr 9 2]
  res := .tup []
  outs := [.arr 9 2]
  m := fun d dh => slices_pdqsortOrdered d.1 d.2.1 d.2.2.1 d.2.2.2.1 dh.1
  ok := ce_ok mixedP Try.func43 (by kernel_rfl) (orcOf_ok slices_pdqsortOrdered_tb) (dr := slices_pdqsortOrdered_dr) (lps := lpsOf slices_pdqsortOrdered_lt) (lps_fn (lps_of (n := 1) (by kernel_rfl) fun i hi => match i, hi with | 0, _ => lp_ok (E := slices_pdqsortOrdered_e1) (by kernel_rfl) slices_pdqsortOrdered_e1_ok)) (fun d dh => by kernel_rfl)

def slices_Sort_dr : Nat → DrA
  | _ => ⟨[], [], [], [], []⟩
noncomputable def slices_Sort_tb : List (CE CT Try.prog) := [bits_Len_ce, slices_pdqsortOrdered_ce]
noncomputable def slices_Sort_lt : List (LE CT Try.prog) := []
noncomputable def slices_Sort (x0 : Nat × Nat) (h0 : List (List UInt8)) : Option ((Unit) × ((List (List UInt8)) × Unit)) :=
  (bits_Len (IntKind.u64.wrap ((x0.2 : Nat) : Int))).bind fun r1 =>
  (slices_pdqsortOrdered (x0.1, x0.2) 0 ((x0.2 : Nat) : Int) r1.1 h0).bind fun r2 =>
  some ((), (r2.2.1, ()))
noncomputable def slices_Sort_ce : CE CT Try.prog where
  f := 39
  args := [.one (.asu 2 0)]
  hs := [.arr 9 2]
  res := .tup []
  outs := [.arr 9 2]
  m := fun d dh => slices_Sort d.1 dh.1
  ok := ce_ok mixedP Try.func39 (by kernel_rfl) (orcOf_ok slices_Sort_tb) (dr := slices_Sort_dr) (lps := lpsOf slices_Sort_lt) (lps_fn (no_loop (by kernel_rfl))) (fun d dh => by kernel_rfl)

def slices_Sorted_dr : Nat → DrA
  | _ => ⟨[], [], [], [], []⟩
noncomputable def slices_Sorted_tb : List (CE CT Try.prog) := [slices_Collect_ce, slices_Sort_ce]
noncomputable def slices_Sorted_lt : List (LE CT Try.prog) := []
noncomputable def slices_Sorted (h0 : List (List UInt8)) : Option ((Nat × Nat) × ((List (List UInt8)) × (List (List UInt8)) × Unit)) :=
  (slices_Collect h0).bind fun r1 =>
  (slices_Sort (r1.1.1, r1.1.2) r1.2.2.1).bind fun r2 =>
  some ((r1.1.1, r1.1.2), (r1.2.1, r2.2.1, ()))
noncomputable def slices_Sorted_ce : CE CT Try.prog where
  f := 35
  args := [.one (.clo 40 [0])]
  hs := [.cobj 24 3]
  res := .val (.one (.asu 2 1))
  outs := [.cobj 24 3, .arr 9 2]
  m := fun d dh => slices_Sorted dh.1
  ok := ce_ok mixedP Try.func35 (by kernel_rfl) (orcOf_ok slices_Sorted_tb) (dr := slices_Sorted_dr) (lps := lpsOf slices_Sorted_lt) (lps_fn (no_loop (by kernel_rfl))) (fun d dh => by kernel_rfl)

def slices_Compact_dr : Nat → DrA
  | 6 => ⟨[0, 1, 2, 4, 5, 6, 7, 3, 8, 9], [[], [], [0, 1], [0, 1, 2], [], [], [5], [4, 5, 6], [4, 5, 6, 7], [0, 1, 2, 3, 4, 5, 6, 7, 8]], [], [], []⟩
  | 11 => ⟨[0, 1, 2, 4, 5, 6, 7, 3, 8, 9], [[], [], [0, 1], [0, 1, 2], [], [], [5], [4, 5, 6], [4, 5, 6, 7], [0, 1, 2, 3, 4, 5, 6, 7, 8]], [], [], []⟩
  | _ => ⟨[], [], [], [], []⟩
noncomputable def slices_Compact_tb : List (CE CT Try.prog) := []
noncomputable def slices_Compact_l2 (a : ((Nat × Nat) × (Int) × (Nat × Nat) × (Int) × Unit) × ((List (List UInt8)) × Unit)) : Option ((((Nat × Nat) × (Int) × (Nat × Nat) × (Int) × Unit) × ((List (List UInt8)) × Unit)) ⊕ ((((Nat × Nat) × (Int) × Unit) × ((List (List UInt8)) × Unit)))) :=
  (bif (decide ((a.1.2.2.2.1 : Int) < ((a.1.2.2.1.2 : Nat) : Int))) then
  (if 0 ≤ (a.1.2.2.2.1 : Int) ∧ (a.1.2.2.2.1 : Int) < ((a.1.2.2.1.2 : Nat) : Int) then
  (if 0 ≤ ((IntKind.i64.wrap (a.1.2.2.2.1 - 1)) : Int) ∧ ((IntKind.i64.wrap (a.1.2.2.2.1 - 1)) : Int) < ((a.1.2.2.1.2 : Nat) : Int) then
  (a.2.1[(a.1.2.2.1.1 + (a.1.2.2.2.1 : Int).toNat)]?).bind fun e1 =>
  (a.2.1[(a.1.2.2.1.1 + ((IntKind.i64.wrap (a.1.2.2.2.1 - 1)) : Int).toNat)]?).bind fun e2 =>
  (bif (decide (e1 ≠ e2)) then
  (if 0 ≤ (a.1.2.2.2.1 : Int) ∧ (a.1.2.2.2.1 : Int) < ((a.1.2.2.1.2 : Nat) : Int) then
  (a.2.1[(a.1.2.2.1.1 + (a.1.2.2.2.1 : Int).toNat)]?).bind fun e3 =>
  (if 0 ≤ (a.1.2.1 : Int) ∧ (a.1.2.1 : Int) < ((a.1.1.2 : Nat) : Int) then
  (a.2.1[(a.1.1.1 + (a.1.2.1 : Int).toNat)]?).bind fun e4 =>
  some (.inl (((a.1.1.1, a.1.1.2), (IntKind.i64.wrap (a.1.2.1 + 1)), (a.1.2.2.1.1, a.1.2.2.1.2), (IntKind.i64.wrap (a.1.2.2.2.1 + 1)), ()), ((a.2.1.set (a.1.1.1 + (a.1.2.1 : Int).toNat) e3), ())))
  else none)
  else none)
  else
  some (.inl (((a.1.1.1, a.1.1.2), a.1.2.1, (a.1.2.2.1.1, a.1.2.2.1.2), (IntKind.i64.wrap (a.1.2.2.2.1 + 1)), ()), (a.2.1, ()))))
  else none)
  else none)
  else
  some (.inr (((a.1.1.1, a.1.1.2), a.1.2.1, ()), (a.2.1, ()))))
noncomputable def slices_Compact_e2 : LE CT Try.prog := ⟨9, [0, 3, 4, 5], [.one (.asu 2 0), .one (.int .i64), .one (.asu 2 0), .one (.int .i64)], [.arr 9 2], [⟨.exit 2, [0, 3], [.one (.asu 2 0), .one (.int .i64)], [.arr 9 2]⟩], slices_Compact_l2⟩
noncomputable def slices_Compact_l1 (a : ((Nat × Nat) × (Int) × Unit) × ((List (List UInt8)) × Unit)) : Option ((((Nat × Nat) × (Int) × Unit) × ((List (List UInt8)) × Unit)) ⊕ ((((Nat × Nat) × Unit) × ((List (List UInt8)) × Unit)))) :=
  (bif (decide ((a.1.2.1 : Int) < ((a.1.1.2 : Nat) : Int))) then
  (if 0 ≤ (a.1.2.1 : Int) ∧ (a.1.2.1 : Int) < ((a.1.1.2 : Nat) : Int) then
  (if 0 ≤ ((IntKind.i64.wrap (a.1.2.1 - 1)) : Int) ∧ ((IntKind.i64.wrap (a.1.2.1 - 1)) : Int) < ((a.1.1.2 : Nat) : Int) then
  (a.2.1[(a.1.1.1 + (a.1.2.1 : Int).toNat)]?).bind fun e1 =>
  (a.2.1[(a.1.1.1 + ((IntKind.i64.wrap (a.1.2.1 - 1)) : Int).toNat)]?).bind fun e2 =>
  (bif (decide (e1 = e2)) then
  (if 0 ≤ (a.1.2.1 : Int) ∧ (a.1.2.1 : Int) ≤ ((a.1.1.2 : Nat) : Int) ∧ ((a.1.1.2 : Nat) : Int) ≤ ((a.1.1.2 : Nat) : Int) ∧ ((a.1.1.2 : Nat) : Int) ≤ 140737488355328 then
  (loopM slices_Compact_l2 (((a.1.1.1, a.1.1.2), a.1.2.1, ((a.1.1.1 + (a.1.2.1 : Int).toNat), (((a.1.1.2 : Nat) : Int).toNat - (a.1.2.1 : Int).toNat)), 1, ()), (a.2.1, ()))).bind fun b3 =>
  (if 0 ≤ (b3.1.2.1 : Int) ∧ (b3.1.2.1 : Int) ≤ ((b3.1.1.2 : Nat) : Int) ∧ ((b3.1.1.2 : Nat) : Int) ≤ ((b3.1.1.2 : Nat) : Int) ∧ ((b3.1.1.2 : Nat) : Int) ≤ 140737488355328 then
  none
  else none)
  else none)
  else
  some (.inl (((a.1.1.1, a.1.1.2), (IntKind.i64.wrap (a.1.2.1 + 1)), ()), (a.2.1, ()))))
  else none)
  else none)
  else
  some (.inr (((a.1.1.1, a.1.1.2), ()), (a.2.1, ()))))
noncomputable def slices_Compact_e1 : LE CT Try.prog := ⟨4, [0, 3], [.one (.asu 2 0), .one (.int .i64)], [.arr 9 2], [⟨.exit 0, [0], [.one (.asu 2 0)], [.arr 9 2]⟩], slices_Compact_l1⟩
noncomputable def slices_Compact_lt : List (LE CT Try.prog) := [slices_Compact_e2, slices_Compact_e1]
theorem slices_Compact_e2_ok : LeOk slices_Compact_e2 (nthL (nthL (bodyOf Try.f34) 0) 0) := fun A env h k z hk => le_ok (E := slices_Compact_e2) (orcOf_ok slices_Compact_tb) (dr := slices_Compact_dr) (lps := lpsOf slices_Compact_lt) (no_loop (by kernel_rfl)) (fun a => by kernel_rfl) env h k z hk
theorem slices_Compact_e1_ok : LeOk slices_Compact_e1 (nthL (bodyOf Try.f34) 0) := fun A env h k z hk => le_ok (E := slices_Compact_e1) (orcOf_ok slices_Compact_tb) (dr := slices_Compact_dr) (lps := lpsOf slices_Compact_lt) (lps_of (n := 1) (by kernel_rfl) fun i hi => match i, hi with | 0, _ => lp_ok (E := slices_Compact_e2) (by kernel_rfl) slices_Compact_e2_ok) (fun a => by kernel_rfl) env h k z hk
noncomputable def slices_Compact (x0 : Nat × Nat) (h0 : List (List UInt8)) : Option ((Nat × Nat) × ((List (List UInt8)) × Unit)) :=
  (bif (decide ((((x0.2 : Nat) : Int) : Int) < 2)) then
  some ((x0.1, x0.2), (h0, ()))
  else
  (loopM slices_Compact_l1 (((x0.1, x0.2), 1, ()), (h0, ()))).bind fun b1 =>
  some ((b1.1.1.1, b1.1.1.2), (b1.2.1, ())))
noncomputable def slices_Compact_ce : CE CT Try.prog where
  f := 34
  args := [.one (.asu 2 0)]
  hs := [.arr 9 2]
  res := .val (.one (.asu 2 0))
  outs := [.arr 9 2]
  m := fun d dh => slices_Compact d.1 dh.1
  ok := ce_ok mixedP Try.func34 (by kernel_rfl) (orcOf_ok slices_Compact_tb) (dr := slices_Compact_dr) (lps := lpsOf slices_Compact_lt) (lps_fn (lps_of (n := 1) (by kernel_rfl) fun i hi => match i, hi with | 0, _ => lp_ok (E := slices_Compact_e1) (by kernel_rfl) slices_Compact_e1_ok)) (fun d dh => by kernel_rfl)

def span_Has_dr : Nat → DrA
  | _ => ⟨[], [], [], [], []⟩
noncomputable def span_Has_tb : List (CE CT Try.prog) := [span_ends_ce, span_Right_ce, span_Key_ce, span_compare_ce, span_above_ce]
noncomputable def span_Has_lt : List (LE CT Try.prog) := []
noncomputable def span_Has (x0 : DSpan) (x1 : List UInt8) : Option ((Bool) × (Unit)) :=
  (span_ends x0).bind fun r1 =>
  (span_Right x0).bind fun r2 =>
  (bif r2.1 then
  (span_Key x1).bind fun r3 =>
  (bif r3.1 then
  (span_compare r1.1.1.text (⟨x1⟩ : DText)).bind fun r4 =>
  (bif (decide ((r4.1 : Int) ≤ 0)) then
  (span_above r1.1.2.1 (⟨x1⟩ : DText)).bind fun r5 =>
  some (r5.1, ())
  else
  some (false, ()))
  else
  some (false, ()))
  else
  some (false, ()))
noncomputable def span_Has_ce : CE CT Try.prog where
  f := 20
  args := [.cod 4, .one (.str)]
  hs := []
  res := .val (.one (.bool))
  outs := []
  m := fun d dh => span_Has d.1 d.2.1
  ok := ce_ok mixedP Try.func20 (by kernel_rfl) (orcOf_ok span_Has_tb) (dr := span_Has_dr) (lps := lpsOf span_Has_lt) (lps_fn (no_loop (by kernel_rfl))) (fun d dh => by kernel_rfl)

def span_Cut_dr : Nat → DrA
  | _ => ⟨[], [], [], [], []⟩
noncomputable def span_Cut_tb : List (CE CT Try.prog) := [span_Right_ce, slices_Values_ce, slices_Sorted_ce, slices_Compact_ce, span_Has_ce]
noncomputable def span_Cut_l1 (a : ((Unit) × (List (DSpan)) × (Nat × Nat) × (Int) × (Int) × Unit) × ((DSpan) × (List (List UInt8)) × (Unit) × Unit)) : Option ((((Unit) × (List (DSpan)) × (Nat × Nat) × (Int) × (Int) × Unit) × ((DSpan) × (List (List UInt8)) × (Unit) × Unit)) ⊕ ((((Unit) × (List (DSpan)) × Unit) × ((DSpan) × (List (List UInt8)) × (Unit) × (Unit) × Unit)))) :=
  (bif (decide ((a.1.2.2.2.2.1 : Int) < a.1.2.2.2.1)) then
  (if 0 ≤ (a.1.2.2.2.2.1 : Int) ∧ (a.1.2.2.2.2.1 : Int) < ((a.1.2.2.1.2 : Nat) : Int) then
  (a.2.2.1[(a.1.2.2.1.1 + (a.1.2.2.2.2.1 : Int).toNat)]?).bind fun e1 =>
  (span_Has a.2.1 e1).bind fun r2 =>
  (bif (!r2.1) then
  some (.inl (((), a.1.2.1, (a.1.2.2.1.1, a.1.2.2.1.2), a.1.2.2.2.1, (IntKind.i64.wrap (a.1.2.2.2.2.1 + 1)), ()), (a.2.1, a.2.2.1, (), ())))
  else
  (bif (decide (e1 = a.2.1.lo)) then
  some (.inl (((), a.1.2.1, (a.1.2.2.1.1, a.1.2.2.1.2), a.1.2.2.2.1, (IntKind.i64.wrap (a.1.2.2.2.2.1 + 1)), ()), (a.2.1, a.2.2.1, (), ())))
  else
  (if a.1.2.1.length + ([(⟨a.2.1.lo, e1⟩ : DSpan)] : List (DSpan)).length ≤ 140737488355328 ∧ (a.1.2.1.length + ([(⟨a.2.1.lo, e1⟩ : DSpan)] : List (DSpan)).length) * 32 ≤ 140737488355328 then
  some (.inl (((), (a.1.2.1 ++ ([(⟨a.2.1.lo, e1⟩ : DSpan)] : List (DSpan))), (a.1.2.2.1.1, a.1.2.2.1.2), a.1.2.2.2.1, (IntKind.i64.wrap (a.1.2.2.2.2.1 + 1)), ()), ((⟨e1, a.2.1.hi⟩ : DSpan), a.2.2.1, (), ())))
  else none)))
  else none)
  else
  some (.inr (((), a.1.2.1, ()), (a.2.1, a.2.2.1, (), (), ()))))
noncomputable def span_Cut_e1 : LE CT Try.prog := ⟨5, [2, 5, 14, 15, 16], [.one (.ptr 0 0), .one (.own 4 2), .one (.asu 2 1), .one (.int .i64), .one (.int .i64)], [.cobj 26 4, .arr 9 2, .row 26 2], [⟨.exit 0, [2, 5], [.one (.ptr 0 0), .one (.own 4 3)], [.cobj 26 4, .arr 9 2, .dead, .row 26 2]⟩], span_Cut_l1⟩
noncomputable def span_Cut_lt : List (LE CT Try.prog) := [span_Cut_e1]
theorem span_Cut_e1_ok : LeOk span_Cut_e1 (nthL (bodyOf Try.f24) 0) := fun A env h k z hk => le_ok (E := span_Cut_e1) (orcOf_ok span_Cut_tb) (dr := span_Cut_dr) (lps := lpsOf span_Cut_lt) (no_loop (by kernel_rfl)) (fun a => by kernel_rfl) env h k z hk
noncomputable def span_Cut (x0 : DSpan) (x1 : List (List UInt8)) : Option ((List (DSpan)) × ((Unit) × Unit)) :=
  (span_Right x0).bind fun r1 =>
  (bif (!r1.1) then
  some ([], ((), ()))
  else
  (slices_Values x1).bind fun r2 =>
  (slices_Sorted r2.2.1).bind fun r3 =>
  (slices_Compact (r3.1.1, r3.1.2) r3.2.2.1).bind fun r4 =>
  (loopM span_Cut_l1 (((), [], (r4.1.1, r4.1.2), ((r4.1.2 : Nat) : Int), 0, ()), (x0, r4.2.1, (), ()))).bind fun b5 =>
  (if b5.1.2.1.length + ([b5.2.1] : List (DSpan)).length ≤ 140737488355328 ∧ (b5.1.2.1.length + ([b5.2.1] : List (DSpan)).length) * 32 ≤ 140737488355328 then
  some ((b5.1.2.1 ++ ([b5.2.1] : List (DSpan))), ((), ()))
  else none))
noncomputable def span_Cut_ce : CE CT Try.prog where
  f := 24
  args := [.cod 4, .one (.sl 2)]
  hs := []
  res := .val (.one (.own 4 0))
  outs := [.row 26 2]
  m := fun d dh => span_Cut d.1 d.2.1
  ok := ce_ok mixedP Try.func24 (by kernel_rfl) (orcOf_ok span_Cut_tb) (dr := span_Cut_dr) (lps := lpsOf span_Cut_lt) (lps_fn (lps_of (n := 1) (by kernel_rfl) fun i hi => match i, hi with | 0, _ => lp_ok (E := span_Cut_e1) (by kernel_rfl) span_Cut_e1_ok)) (fun d dh => by kernel_rfl)

def span_over_dr : Nat → DrA
  | _ => ⟨[], [], [], [], []⟩
noncomputable def span_over_tb : List (CE CT Try.prog) := [span_none_ce, span_compare_ce]
noncomputable def span_over_lt : List (LE CT Try.prog) := []
noncomputable def span_over (x0 : DHigh) (x1 : DHigh) : Option ((Bool) × (Unit)) :=
  (span_none x0.text).bind fun r1 =>
  (bif r1.1 then
  some (true, ())
  else
  (span_none x1.text).bind fun r2 =>
  (bif (!r2.1) then
  (span_compare x0.text x1.text).bind fun r3 =>
  some ((decide ((0 : Int) ≤ r3.1)), ())
  else
  some (false, ())))
noncomputable def span_over_ce : CE CT Try.prog where
  f := 29
  args := [.cod 7, .cod 7]
  hs := []
  res := .val (.one (.bool))
  outs := []
  m := fun d dh => span_over d.1 d.2.1
  ok := ce_ok mixedP Try.func29 (by kernel_rfl) (orcOf_ok span_over_tb) (dr := span_over_dr) (lps := lpsOf span_over_lt) (lps_fn (no_loop (by kernel_rfl))) (fun d dh => by kernel_rfl)

def span_Meet_dr : Nat → DrA
  | _ => ⟨[], [], [], [], []⟩
noncomputable def span_Meet_tb : List (CE CT Try.prog) := [span_ends_ce, span_over_ce, span_Right_ce]
noncomputable def span_Meet_lt : List (LE CT Try.prog) := []
noncomputable def span_Meet (x0 : DSpan) (x1 : DSpan) : Option (((DSpan) × (Bool) × Unit) × (Unit)) :=
  (span_ends x0).bind fun r1 =>
  (span_ends x1).bind fun r2 =>
  (span_over r1.1.2.1 r2.1.2.1).bind fun r3 =>
  (bif r3.1 then
  (span_Right x0).bind fun r4 =>
  (bif (!r4.1) then
  some (((⟨([] : List UInt8), ([] : List UInt8)⟩ : DSpan), false, ()), ())
  else
  (span_Right x1).bind fun r5 =>
  (bif (!r5.1) then
  some (((⟨([] : List UInt8), ([] : List UInt8)⟩ : DSpan), false, ()), ())
  else
  (span_Right (⟨(bif !decide (x0.lo < x1.lo) then x0.lo else x1.lo), x1.hi⟩ : DSpan)).bind fun r6 =>
  (bif (!r6.1) then
  some (((⟨([] : List UInt8), ([] : List UInt8)⟩ : DSpan), false, ()), ())
  else
  some (((⟨(bif !decide (x0.lo < x1.lo) then x0.lo else x1.lo), x1.hi⟩ : DSpan), true, ()), ()))))
  else
  (span_Right x0).bind fun r7 =>
  (bif (!r7.1) then
  some (((⟨([] : List UInt8), ([] : List UInt8)⟩ : DSpan), false, ()), ())
  else
  (span_Right x1).bind fun r8 =>
  (bif (!r8.1) then
  some (((⟨([] : List UInt8), ([] : List UInt8)⟩ : DSpan), false, ()), ())
  else
  (span_Right (⟨(bif !decide (x0.lo < x1.lo) then x0.lo else x1.lo), x0.hi⟩ : DSpan)).bind fun r9 =>
  (bif (!r9.1) then
  some (((⟨([] : List UInt8), ([] : List UInt8)⟩ : DSpan), false, ()), ())
  else
  some (((⟨(bif !decide (x0.lo < x1.lo) then x0.lo else x1.lo), x0.hi⟩ : DSpan), true, ()), ())))))
noncomputable def span_Meet_ce : CE CT Try.prog where
  f := 12
  args := [.cod 4, .cod 4]
  hs := []
  res := .tup [.cod 4, .one (.bool)]
  outs := []
  m := fun d dh => span_Meet d.1 d.2.1
  ok := ce_ok mixedP Try.func12 (by kernel_rfl) (orcOf_ok span_Meet_tb) (dr := span_Meet_dr) (lps := lpsOf span_Meet_lt) (lps_fn (no_loop (by kernel_rfl))) (fun d dh => by kernel_rfl)

def span_Parts_dr : Nat → DrA
  | 7 => ⟨[0, 2, 1, 5, 3, 4, 6], [[], [0], [], [2], [2, 3], [0, 1], [0, 1, 2, 3, 4, 5]], [], [], []⟩
  | _ => ⟨[], [], [], [], []⟩
noncomputable def span_Parts_tb : List (CE CT Try.prog) := [span_Right_ce]
noncomputable def span_Parts_l1 (a : ((List (DSpan)) × (List UInt8) × (Bool) × (List (DSpan)) × (Int) × (Int) × Unit) × (Unit)) : Option ((((List (DSpan)) × (List UInt8) × (Bool) × (List (DSpan)) × (Int) × (Int) × Unit) × (Unit)) ⊕ ((((Bool) × Unit) × (Unit)) ⊕ (((Bool) × Unit) × (Unit)))) :=
  (bif (decide ((a.1.2.2.2.2.2.1 : Int) < a.1.2.2.2.2.1)) then
  (getI a.1.2.2.2.1 a.1.2.2.2.2.2.1).bind fun e1 =>
  (span_Right e1).bind fun r2 =>
  (bif (!r2.1) then
  some (.inr (.inl ((false, ()), ())))
  else
  (bif (decide (e1.lo ≠ a.1.2.1)) then
  some (.inr (.inl ((false, ()), ())))
  else
  (bif a.1.2.2.1 then
  some (.inr (.inl ((false, ()), ())))
  else
  (bif (decide (e1.hi = ([] : List UInt8))) then
  (bif (decide ((a.1.2.2.2.2.2.1 : Int) < (IntKind.i64.wrap ((a.1.1.length : Int) - 1)))) then
  some (.inr (.inl ((false, ()), ())))
  else
  some (.inl ((a.1.1, e1.hi, (decide (e1.hi = ([] : List UInt8))), a.1.2.2.2.1, a.1.2.2.2.2.1, (IntKind.i64.wrap (a.1.2.2.2.2.2.1 + 1)), ()), ())))
  else
  some (.inl ((a.1.1, e1.hi, (decide (e1.hi = ([] : List UInt8))), a.1.2.2.2.1, a.1.2.2.2.2.1, (IntKind.i64.wrap (a.1.2.2.2.2.2.1 + 1)), ()), ()))))))
  else
  some (.inr (.inr ((a.1.2.2.1, ()), ()))))
noncomputable def span_Parts_e1 : LE CT Try.prog := ⟨3, [0, 3, 4, 7, 8, 9], [.one (.sl 4), .one (.str), .one (.bool), .one (.sl 4), .one (.int .i64), .one (.int .i64)], [], [⟨.ret, [2], [.one (.bool)], []⟩, ⟨.exit 0, [4], [.one (.bool)], []⟩], span_Parts_l1⟩
noncomputable def span_Parts_lt : List (LE CT Try.prog) := [span_Parts_e1]
theorem span_Parts_e1_ok : LeOk span_Parts_e1 (nthL (bodyOf Try.f10) 0) := fun A env h k z hk => le_ok (E := span_Parts_e1) (orcOf_ok span_Parts_tb) (dr := span_Parts_dr) (lps := lpsOf span_Parts_lt) (no_loop (by kernel_rfl)) (fun a => by kernel_rfl) env h k z hk
noncomputable def span_Parts (x0 : List (DSpan)) : Option ((Bool) × (Unit)) :=
  (loopM span_Parts_l1 ((x0, ([] : List UInt8), false, x0, (x0.length : Int), 0, ()), ())).bind fun b1 =>
  (match b1 with
  | .inl b2 =>
  some (b2.1.1, ())
  | .inr b3 =>
  some (b3.1.1, ()))
noncomputable def span_Parts_ce : CE CT Try.prog where
  f := 10
  args := [.one (.sl 4)]
  hs := []
  res := .val (.one (.bool))
  outs := []
  m := fun d dh => span_Parts d.1
  ok := ce_ok mixedP Try.func10 (by kernel_rfl) (orcOf_ok span_Parts_tb) (dr := span_Parts_dr) (lps := lpsOf span_Parts_lt) (lps_fn (lps_of (n := 1) (by kernel_rfl) fun i hi => match i, hi with | 0, _ => lp_ok (E := span_Parts_e1) (by kernel_rfl) span_Parts_e1_ok)) (fun d dh => by kernel_rfl)

def watershedlaw04_awake_dr : Nat → DrA
  | _ => ⟨[], [], [], [], []⟩
noncomputable def watershedlaw04_awake_tb : List (CE CT Try.prog) := [span_All_ce, span_Cut_ce, span_Meet_ce, span_Parts_ce, span_Key_ce]
noncomputable def watershedlaw04_awake_lt : List (LE CT Try.prog) := []
noncomputable def watershedlaw04_awake  : Option ((Bool) × (Unit)) :=
  (span_All).bind fun r1 =>
  (span_Cut r1.1 ([([109] : List UInt8)] : List (List UInt8))).bind fun r2 =>
  (span_Meet (⟨([97] : List UInt8), ([99] : List UInt8)⟩ : DSpan) (⟨([98] : List UInt8), ([] : List UInt8)⟩ : DSpan)).bind fun r3 =>
  (bif (decide (((r2.1.length : Int) : Int) = 2)) then
  (getI r2.1 0).bind fun e4 =>
  (bif (decide (e4.lo = ([] : List UInt8)) && (decide (e4.hi = ([109] : List UInt8)) && true)) then
  (getI r2.1 1).bind fun e5 =>
  (bif (decide (e5.lo = ([109] : List UInt8)) && (decide (e5.hi = ([] : List UInt8)) && true)) then
  (bif r3.1.2.1 then
  (bif (decide (r3.1.1.lo = ([98] : List UInt8)) && (decide (r3.1.1.hi = ([99] : List UInt8)) && true)) then
  (span_Parts r2.1).bind fun r6 =>
  (bif r6.1 then
  (span_Key ([97, 49] : List UInt8)).bind fun r7 =>
  (bif r7.1 then
  (span_Key ([65] : List UInt8)).bind fun r8 =>
  some ((!r8.1), ())
  else
  some (false, ()))
  else
  some (false, ()))
  else
  some (false, ()))
  else
  some (false, ()))
  else
  some (false, ()))
  else
  some (false, ()))
  else
  some (false, ()))
noncomputable def watershedlaw04_awake_ce : CE CT Try.prog where
  f := 8
  args := []
  hs := []
  res := .val (.one (.bool))
  outs := []
  m := fun d dh => watershedlaw04_awake
  ok := ce_ok mixedP Try.func8 (by kernel_rfl) (orcOf_ok watershedlaw04_awake_tb) (dr := watershedlaw04_awake_dr) (lps := lpsOf watershedlaw04_awake_lt) (lps_fn (no_loop (by kernel_rfl))) (fun d dh => by kernel_rfl)

def watershedlaw04_few_dr : Nat → DrA
  | _ => ⟨[], [], [], [], []⟩
noncomputable def watershedlaw04_few_tb : List (CE CT Try.prog) := []
noncomputable def watershedlaw04_few_l1 (a : ((List (List UInt8)) × (Int) × Unit) × (Unit)) : Option ((((List (List UInt8)) × (Int) × Unit) × (Unit)) ⊕ ((((Bool) × Unit) × (Unit)) ⊕ (((List (List UInt8)) × Unit) × (Unit)))) :=
  (bif (decide ((a.1.2.1 : Int) < (a.1.1.length : Int))) then
  (bif (decide ((a.1.2.1 : Int) < 61)) then
  (getI a.1.1 a.1.2.1).bind fun e1 =>
  (bif (decide ((40 : Int) < (e1.length : Int))) then
  some (.inr (.inl ((false, ()), ())))
  else
  some (.inl ((a.1.1, (IntKind.i64.wrap (a.1.2.1 + 1)), ()), ())))
  else
  some (.inr (.inr ((a.1.1, ()), ()))))
  else
  some (.inr (.inr ((a.1.1, ()), ()))))
noncomputable def watershedlaw04_few_e1 : LE CT Try.prog := ⟨2, [0, 3], [.one (.sl 2), .one (.int .i64)], [], [⟨.ret, [2], [.one (.bool)], []⟩, ⟨.exit 0, [0], [.one (.sl 2)], []⟩], watershedlaw04_few_l1⟩
noncomputable def watershedlaw04_few_lt : List (LE CT Try.prog) := [watershedlaw04_few_e1]
theorem watershedlaw04_few_e1_ok : LeOk watershedlaw04_few_e1 (nthL (bodyOf Try.f9) 0) := fun A env h k z hk => le_ok (E := watershedlaw04_few_e1) (orcOf_ok watershedlaw04_few_tb) (dr := watershedlaw04_few_dr) (lps := lpsOf watershedlaw04_few_lt) (no_loop (by kernel_rfl)) (fun a => by kernel_rfl) env h k z hk
noncomputable def watershedlaw04_few (x0 : List (List UInt8)) : Option ((Bool) × (Unit)) :=
  (loopM watershedlaw04_few_l1 ((x0, 0, ()), ())).bind fun b1 =>
  (match b1 with
  | .inl b2 =>
  some (b2.1.1, ())
  | .inr b3 =>
  some ((decide (((b3.1.1.length : Int) : Int) ≤ 60)), ()))
noncomputable def watershedlaw04_few_ce : CE CT Try.prog where
  f := 9
  args := [.one (.sl 2)]
  hs := []
  res := .val (.one (.bool))
  outs := []
  m := fun d dh => watershedlaw04_few d.1
  ok := ce_ok mixedP Try.func9 (by kernel_rfl) (orcOf_ok watershedlaw04_few_tb) (dr := watershedlaw04_few_dr) (lps := lpsOf watershedlaw04_few_lt) (lps_fn (lps_of (n := 1) (by kernel_rfl) fun i hi => match i, hi with | 0, _ => lp_ok (E := watershedlaw04_few_e1) (by kernel_rfl) watershedlaw04_few_e1_ok)) (fun d dh => by kernel_rfl)

def span_Within_dr : Nat → DrA
  | _ => ⟨[], [], [], [], []⟩
noncomputable def span_Within_tb : List (CE CT Try.prog) := [span_ends_ce, span_Right_ce, span_compare_ce, span_over_ce]
noncomputable def span_Within_lt : List (LE CT Try.prog) := []
noncomputable def span_Within (x0 : DSpan) (x1 : DSpan) : Option ((Bool) × (Unit)) :=
  (span_ends x0).bind fun r1 =>
  (span_ends x1).bind fun r2 =>
  (span_Right x0).bind fun r3 =>
  (bif r3.1 then
  (span_Right x1).bind fun r4 =>
  (bif r4.1 then
  (span_compare r2.1.1.text r1.1.1.text).bind fun r5 =>
  (bif (decide ((r5.1 : Int) ≤ 0)) then
  (span_over r2.1.2.1 r1.1.2.1).bind fun r6 =>
  some (r6.1, ())
  else
  some (false, ()))
  else
  some (false, ()))
  else
  some (false, ()))
noncomputable def span_Within_ce : CE CT Try.prog where
  f := 14
  args := [.cod 4, .cod 4]
  hs := []
  res := .val (.one (.bool))
  outs := []
  m := fun d dh => span_Within d.1 d.2.1
  ok := ce_ok mixedP Try.func14 (by kernel_rfl) (orcOf_ok span_Within_tb) (dr := span_Within_dr) (lps := lpsOf span_Within_lt) (lps_fn (no_loop (by kernel_rfl))) (fun d dh => by kernel_rfl)

def watershedlaw04_SpanWithin_dr : Nat → DrA
  | 8 => ⟨[0, 1, 3, 2, 4, 5, 6, 7, 8, 9, 10, 11, 12, 13, 14, 15, 16, 17, 18, 19, 20, 21, 22, 23, 24, 25, 26, 27, 28, 29, 30], [[], [], [0, 1], [], [0, 1, 2, 3], [0, 1, 2, 3, 4], [0, 1, 2, 3, 4, 5], [0, 1, 2, 3, 4, 5, 6], [0, 1, 2, 3, 4, 5, 6, 7], [0, 1, 2, 3, 4, 5, 6, 7, 8], [0, 1, 2, 3, 4, 5, 6, 7, 8, 9], [0, 1, 2, 3, 4, 5, 6, 7, 8, 9], [0, 1, 2, 3, 4, 5, 6, 7, 8, 9, 10, 11], [0, 1, 2, 3, 4, 5, 6, 7, 8, 9, 10, 11, 12], [0, 1, 2, 3, 4, 5, 6, 7, 8, 9, 10, 11, 12, 13], [0, 1, 2, 3, 4, 5, 6, 7, 8, 9, 10, 11, 12, 13], [0, 1, 2, 3, 4, 5, 6, 7, 8, 9, 10, 11, 12, 13, 14, 15], [0, 1, 2, 3, 4, 5, 6, 7, 8, 9, 10, 11, 12, 13, 14, 15, 16], [0, 1, 2, 3, 4, 5, 6, 7, 8, 9, 10, 11, 12, 13, 14, 15, 16, 17], [0, 1, 2, 3, 4, 5, 6, 7, 8, 9, 10, 11, 12, 13, 14, 15, 16, 17, 18], [0, 1, 2, 3, 4, 5, 6, 7, 8, 9, 10, 11, 12, 13, 14, 15, 16, 17, 18, 19], [0, 1, 2, 3, 4, 5, 6, 7, 8, 9, 10, 11, 12, 13, 14, 15, 16, 17, 18, 19, 20], [0, 1, 2, 3, 4, 5, 6, 7, 8, 9, 10, 11, 12, 13, 14, 15, 16, 17, 18, 19, 20, 21], [0, 1, 2, 3, 4, 5, 6, 7, 8, 9, 10, 11, 12, 13, 14, 15, 16, 17, 18, 19, 20, 21, 22], [0, 1, 2, 3, 4, 5, 6, 7, 8, 9, 10, 11, 12, 13, 14, 15, 16, 17, 18, 19, 20, 21, 22, 23], [0, 1, 2, 3, 4, 5, 6, 7, 8, 9, 10, 11, 12, 13, 14, 15, 16, 17, 18, 19, 20, 21, 22, 23, 24], [0, 1, 2, 3, 4, 5, 6, 7, 8, 9, 10, 11, 12, 13, 14, 15, 16, 17, 18, 19, 20, 21, 22, 23, 24], [0, 1, 2, 3, 4, 5, 6, 7, 8, 9, 10, 11, 12, 13, 14, 15, 16, 17, 18, 19, 20, 21, 22, 23, 24, 25, 26], [0, 1, 2, 3, 4, 5, 6, 7, 8, 9, 10, 11, 12, 13, 14, 15, 16, 17, 18, 19, 20, 21, 22, 23, 24, 25, 26, 27], [0, 1, 2, 3, 4, 5, 6, 7, 8, 9, 10, 11, 12, 13, 14, 15, 16, 17, 18, 19, 20, 21, 22, 23, 24, 25, 26, 27, 28], [0, 1, 2, 3, 4, 5, 6, 7, 8, 9, 10, 11, 12, 13, 14, 15, 16, 17, 18, 19, 20, 21, 22, 23, 24, 25, 26, 27, 28, 29]], [3, 25], [2, 26], [0]⟩
  | _ => ⟨[], [], [], [], []⟩
noncomputable def watershedlaw04_SpanWithin_tb : List (CE CT Try.prog) := [watershedlaw04_awake_ce, watershedlaw04_few_ce, span_Within_ce, span_Has_ce, span_Meet_ce, span_Right_ce, span_All_ce]
noncomputable def watershedlaw04_SpanWithin_lt : List (LE CT Try.prog) := []
noncomputable def watershedlaw04_SpanWithin (x0 : DSpan) (x1 : DSpan) (x2 : DSpan) (x3 : List UInt8) : Option ((Bool) × (Unit)) :=
  (watershedlaw04_awake).bind fun r1 =>
  (bif (!r1.1) then
  some (false, ())
  else
  (watershedlaw04_few ([x0.lo, x0.hi, x1.lo, x1.hi, x2.lo, x2.hi, x3] : List (List UInt8))).bind fun r2 =>
  (bif (!r2.1) then
  some (true, ())
  else
  (span_Within x0 x1).bind fun r3 =>
  (bif r3.1 then
  (span_Has x0 x3).bind fun r4 =>
  (bif r4.1 then
  (span_Has x1 x3).bind fun r5 =>
  (bif (!r5.1) then
  some (false, ())
  else
  (span_Within x1 x2).bind fun r6 =>
  (bif r6.1 then
  (span_Within x0 x2).bind fun r7 =>
  (bif (!r7.1) then
  some (false, ())
  else
  (span_Within x1 x0).bind fun r8 =>
  (bif r8.1 then
  (bif (!(decide (x0.lo = x1.lo) && (decide (x0.hi = x1.hi) && true))) then
  some (false, ())
  else
  (span_Meet x0 x1).bind fun r9 =>
  (span_Within x0 x0).bind fun r10 =>
  (span_Right x0).bind fun r11 =>
  (bif (decide (r10.1 = r11.1)) then
  (bif (!r9.1.2.1) then
  (span_Right x0).bind fun r12 =>
  (bif (!r12.1) then
  some (true, ())
  else
  (span_All).bind fun r13 =>
  (span_Within x0 r13.1).bind fun r14 =>
  some (r14.1, ()))
  else
  (span_Within r9.1.1 x0).bind fun r15 =>
  (bif r15.1 then
  (span_Within r9.1.1 x1).bind fun r16 =>
  (bif r16.1 then
  (span_Right x0).bind fun r17 =>
  (bif (!r17.1) then
  some (true, ())
  else
  (span_All).bind fun r18 =>
  (span_Within x0 r18.1).bind fun r19 =>
  some (r19.1, ()))
  else
  some (false, ()))
  else
  some (false, ())))
  else
  some (false, ())))
  else
  (span_Meet x0 x1).bind fun r20 =>
  (span_Within x0 x0).bind fun r21 =>
  (span_Right x0).bind fun r22 =>
  (bif (decide (r21.1 = r22.1)) then
  (bif (!r20.1.2.1) then
  (span_Right x0).bind fun r23 =>
  (bif (!r23.1) then
  some (true, ())
  else
  (span_All).bind fun r24 =>
  (span_Within x0 r24.1).bind fun r25 =>
  some (r25.1, ()))
  else
  (span_Within r20.1.1 x0).bind fun r26 =>
  (bif r26.1 then
  (span_Within r20.1.1 x1).bind fun r27 =>
  (bif r27.1 then
  (span_Right x0).bind fun r28 =>
  (bif (!r28.1) then
  some (true, ())
  else
  (span_All).bind fun r29 =>
  (span_Within x0 r29.1).bind fun r30 =>
  some (r30.1, ()))
  else
  some (false, ()))
  else
  some (false, ())))
  else
  some (false, ()))))
  else
  (span_Within x1 x0).bind fun r31 =>
  (bif r31.1 then
  (bif (!(decide (x0.lo = x1.lo) && (decide (x0.hi = x1.hi) && true))) then
  some (false, ())
  else
  (span_Meet x0 x1).bind fun r32 =>
  (span_Within x0 x0).bind fun r33 =>
  (span_Right x0).bind fun r34 =>
  (bif (decide (r33.1 = r34.1)) then
  (bif (!r32.1.2.1) then
  (span_Right x0).bind fun r35 =>
  (bif (!r35.1) then
  some (true, ())
  else
  (span_All).bind fun r36 =>
  (span_Within x0 r36.1).bind fun r37 =>
  some (r37.1, ()))
  else
  (span_Within r32.1.1 x0).bind fun r38 =>
  (bif r38.1 then
  (span_Within r32.1.1 x1).bind fun r39 =>
  (bif r39.1 then
  (span_Right x0).bind fun r40 =>
  (bif (!r40.1) then
  some (true, ())
  else
  (span_All).bind fun r41 =>
  (span_Within x0 r41.1).bind fun r42 =>
  some (r42.1, ()))
  else
  some (false, ()))
  else
  some (false, ())))
  else
  some (false, ())))
  else
  (span_Meet x0 x1).bind fun r43 =>
  (span_Within x0 x0).bind fun r44 =>
  (span_Right x0).bind fun r45 =>
  (bif (decide (r44.1 = r45.1)) then
  (bif (!r43.1.2.1) then
  (span_Right x0).bind fun r46 =>
  (bif (!r46.1) then
  some (true, ())
  else
  (span_All).bind fun r47 =>
  (span_Within x0 r47.1).bind fun r48 =>
  some (r48.1, ()))
  else
  (span_Within r43.1.1 x0).bind fun r49 =>
  (bif r49.1 then
  (span_Within r43.1.1 x1).bind fun r50 =>
  (bif r50.1 then
  (span_Right x0).bind fun r51 =>
  (bif (!r51.1) then
  some (true, ())
  else
  (span_All).bind fun r52 =>
  (span_Within x0 r52.1).bind fun r53 =>
  some (r53.1, ()))
  else
  some (false, ()))
  else
  some (false, ())))
  else
  some (false, ())))))
  else
  (span_Within x1 x2).bind fun r54 =>
  (bif r54.1 then
  (span_Within x0 x2).bind fun r55 =>
  (bif (!r55.1) then
  some (false, ())
  else
  (span_Within x1 x0).bind fun r56 =>
  (bif r56.1 then
  (bif (!(decide (x0.lo = x1.lo) && (decide (x0.hi = x1.hi) && true))) then
  some (false, ())
  else
  (span_Meet x0 x1).bind fun r57 =>
  (span_Within x0 x0).bind fun r58 =>
  (span_Right x0).bind fun r59 =>
  (bif (decide (r58.1 = r59.1)) then
  (bif (!r57.1.2.1) then
  (span_Right x0).bind fun r60 =>
  (bif (!r60.1) then
  some (true, ())
  else
  (span_All).bind fun r61 =>
  (span_Within x0 r61.1).bind fun r62 =>
  some (r62.1, ()))
  else
  (span_Within r57.1.1 x0).bind fun r63 =>
  (bif r63.1 then
  (span_Within r57.1.1 x1).bind fun r64 =>
  (bif r64.1 then
  (span_Right x0).bind fun r65 =>
  (bif (!r65.1) then
  some (true, ())
  else
  (span_All).bind fun r66 =>
  (span_Within x0 r66.1).bind fun r67 =>
  some (r67.1, ()))
  else
  some (false, ()))
  else
  some (false, ())))
  else
  some (false, ())))
  else
  (span_Meet x0 x1).bind fun r68 =>
  (span_Within x0 x0).bind fun r69 =>
  (span_Right x0).bind fun r70 =>
  (bif (decide (r69.1 = r70.1)) then
  (bif (!r68.1.2.1) then
  (span_Right x0).bind fun r71 =>
  (bif (!r71.1) then
  some (true, ())
  else
  (span_All).bind fun r72 =>
  (span_Within x0 r72.1).bind fun r73 =>
  some (r73.1, ()))
  else
  (span_Within r68.1.1 x0).bind fun r74 =>
  (bif r74.1 then
  (span_Within r68.1.1 x1).bind fun r75 =>
  (bif r75.1 then
  (span_Right x0).bind fun r76 =>
  (bif (!r76.1) then
  some (true, ())
  else
  (span_All).bind fun r77 =>
  (span_Within x0 r77.1).bind fun r78 =>
  some (r78.1, ()))
  else
  some (false, ()))
  else
  some (false, ())))
  else
  some (false, ()))))
  else
  (span_Within x1 x0).bind fun r79 =>
  (bif r79.1 then
  (bif (!(decide (x0.lo = x1.lo) && (decide (x0.hi = x1.hi) && true))) then
  some (false, ())
  else
  (span_Meet x0 x1).bind fun r80 =>
  (span_Within x0 x0).bind fun r81 =>
  (span_Right x0).bind fun r82 =>
  (bif (decide (r81.1 = r82.1)) then
  (bif (!r80.1.2.1) then
  (span_Right x0).bind fun r83 =>
  (bif (!r83.1) then
  some (true, ())
  else
  (span_All).bind fun r84 =>
  (span_Within x0 r84.1).bind fun r85 =>
  some (r85.1, ()))
  else
  (span_Within r80.1.1 x0).bind fun r86 =>
  (bif r86.1 then
  (span_Within r80.1.1 x1).bind fun r87 =>
  (bif r87.1 then
  (span_Right x0).bind fun r88 =>
  (bif (!r88.1) then
  some (true, ())
  else
  (span_All).bind fun r89 =>
  (span_Within x0 r89.1).bind fun r90 =>
  some (r90.1, ()))
  else
  some (false, ()))
  else
  some (false, ())))
  else
  some (false, ())))
  else
  (span_Meet x0 x1).bind fun r91 =>
  (span_Within x0 x0).bind fun r92 =>
  (span_Right x0).bind fun r93 =>
  (bif (decide (r92.1 = r93.1)) then
  (bif (!r91.1.2.1) then
  (span_Right x0).bind fun r94 =>
  (bif (!r94.1) then
  some (true, ())
  else
  (span_All).bind fun r95 =>
  (span_Within x0 r95.1).bind fun r96 =>
  some (r96.1, ()))
  else
  (span_Within r91.1.1 x0).bind fun r97 =>
  (bif r97.1 then
  (span_Within r91.1.1 x1).bind fun r98 =>
  (bif r98.1 then
  (span_Right x0).bind fun r99 =>
  (bif (!r99.1) then
  some (true, ())
  else
  (span_All).bind fun r100 =>
  (span_Within x0 r100.1).bind fun r101 =>
  some (r101.1, ()))
  else
  some (false, ()))
  else
  some (false, ())))
  else
  some (false, ())))))
  else
  (span_Meet x0 x1).bind fun r102 =>
  (span_Within x0 x0).bind fun r103 =>
  (span_Right x0).bind fun r104 =>
  (bif (decide (r103.1 = r104.1)) then
  (bif (!r102.1.2.1) then
  (span_Right x0).bind fun r105 =>
  (bif (!r105.1) then
  some (true, ())
  else
  (span_All).bind fun r106 =>
  (span_Within x0 r106.1).bind fun r107 =>
  some (r107.1, ()))
  else
  (span_Within r102.1.1 x0).bind fun r108 =>
  (bif r108.1 then
  (span_Within r102.1.1 x1).bind fun r109 =>
  (bif r109.1 then
  (span_Right x0).bind fun r110 =>
  (bif (!r110.1) then
  some (true, ())
  else
  (span_All).bind fun r111 =>
  (span_Within x0 r111.1).bind fun r112 =>
  some (r112.1, ()))
  else
  some (false, ()))
  else
  some (false, ())))
  else
  some (false, ())))))
noncomputable def watershedlaw04_SpanWithin_ce : CE CT Try.prog where
  f := 7
  args := [.cod 4, .cod 4, .cod 4, .one (.str)]
  hs := []
  res := .val (.one (.bool))
  outs := []
  m := fun d dh => watershedlaw04_SpanWithin d.1 d.2.1 d.2.2.1 d.2.2.2.1
  ok := ce_ok mixedP Try.func7 (by kernel_rfl) (orcOf_ok watershedlaw04_SpanWithin_tb) (dr := watershedlaw04_SpanWithin_dr) (lps := lpsOf watershedlaw04_SpanWithin_lt) (lps_fn (no_loop (by kernel_rfl))) (fun d dh => by kernel_rfl)

def watershedref04_Key_dr : Nat → DrA
  | _ => ⟨[], [], [], [], []⟩
noncomputable def watershedref04_Key_tb : List (CE CT Try.prog) := []
noncomputable def watershedref04_Key_l1 (a : ((List UInt8) × (Int) × Unit) × (Unit)) : Option ((((List UInt8) × (Int) × Unit) × (Unit)) ⊕ ((((Bool) × Unit) × (Unit)) ⊕ ((Unit) × (Unit)))) :=
  (bif (decide ((a.1.2.1 : Int) < (a.1.1.length : Int))) then
  (getI a.1.1 a.1.2.1).bind fun e1 =>
  (bif (decide ((97 : Int) ≤ (e1.toNat : Int))) then
  (getI a.1.1 a.1.2.1).bind fun e2 =>
  (bif (decide (((e2.toNat : Int) : Int) ≤ 122)) then
  some (.inl ((a.1.1, (IntKind.i64.wrap (a.1.2.1 + 1)), ()), ()))
  else
  (getI a.1.1 a.1.2.1).bind fun e3 =>
  (bif (decide ((48 : Int) ≤ (e3.toNat : Int))) then
  (getI a.1.1 a.1.2.1).bind fun e4 =>
  (bif (!(decide (((e4.toNat : Int) : Int) ≤ 57))) then
  some (.inr (.inl ((false, ()), ())))
  else
  some (.inl ((a.1.1, (IntKind.i64.wrap (a.1.2.1 + 1)), ()), ())))
  else
  some (.inr (.inl ((false, ()), ())))))
  else
  (getI a.1.1 a.1.2.1).bind fun e5 =>
  (bif (decide ((48 : Int) ≤ (e5.toNat : Int))) then
  (getI a.1.1 a.1.2.1).bind fun e6 =>
  (bif (!(decide (((e6.toNat : Int) : Int) ≤ 57))) then
  some (.inr (.inl ((false, ()), ())))
  else
  some (.inl ((a.1.1, (IntKind.i64.wrap (a.1.2.1 + 1)), ()), ())))
  else
  some (.inr (.inl ((false, ()), ())))))
  else
  some (.inr (.inr ((), ()))))
noncomputable def watershedref04_Key_e1 : LE CT Try.prog := ⟨4, [0, 3], [.one (.str), .one (.int .i64)], [], [⟨.ret, [2], [.one (.bool)], []⟩, ⟨.exit 0, [], [], []⟩], watershedref04_Key_l1⟩
noncomputable def watershedref04_Key_lt : List (LE CT Try.prog) := [watershedref04_Key_e1]
theorem watershedref04_Key_e1_ok : LeOk watershedref04_Key_e1 (nthL (bodyOf Try.f19) 0) := fun A env h k z hk => le_ok (E := watershedref04_Key_e1) (orcOf_ok watershedref04_Key_tb) (dr := watershedref04_Key_dr) (lps := lpsOf watershedref04_Key_lt) (no_loop (by kernel_rfl)) (fun a => by kernel_rfl) env h k z hk
noncomputable def watershedref04_Key (x0 : List UInt8) : Option ((Bool) × (Unit)) :=
  (bif (decide (((x0.length : Int) : Int) < 1)) then
  some (false, ())
  else
  (bif (decide ((20 : Int) < (x0.length : Int))) then
  some (false, ())
  else
  (loopM watershedref04_Key_l1 ((x0, 0, ()), ())).bind fun b1 =>
  (match b1 with
  | .inl b2 =>
  some (b2.1.1, ())
  | .inr b3 =>
  some (true, ()))))
noncomputable def watershedref04_Key_ce : CE CT Try.prog where
  f := 19
  args := [.one (.str)]
  hs := []
  res := .val (.one (.bool))
  outs := []
  m := fun d dh => watershedref04_Key d.1
  ok := ce_ok mixedP Try.func19 (by kernel_rfl) (orcOf_ok watershedref04_Key_tb) (dr := watershedref04_Key_dr) (lps := lpsOf watershedref04_Key_lt) (lps_fn (lps_of (n := 1) (by kernel_rfl) fun i hi => match i, hi with | 0, _ => lp_ok (E := watershedref04_Key_e1) (by kernel_rfl) watershedref04_Key_e1_ok)) (fun d dh => by kernel_rfl)

def watershedref04_Right_dr : Nat → DrA
  | _ => ⟨[], [], [], [], []⟩
noncomputable def watershedref04_Right_tb : List (CE CT Try.prog) := [watershedref04_Key_ce]
noncomputable def watershedref04_Right_lt : List (LE CT Try.prog) := []
noncomputable def watershedref04_Right (x0 : DSpan) : Option ((Bool) × (Unit)) :=
  (bif (decide (x0.lo ≠ ([] : List UInt8))) then
  (watershedref04_Key x0.lo).bind fun r1 =>
  (bif (!r1.1) then
  some (false, ())
  else
  (bif (decide (x0.hi = ([] : List UInt8))) then
  some (true, ())
  else
  (watershedref04_Key x0.hi).bind fun r2 =>
  (bif r2.1 then
  some ((decide (x0.lo < x0.hi)), ())
  else
  some (false, ()))))
  else
  (bif (decide (x0.hi = ([] : List UInt8))) then
  some (true, ())
  else
  (watershedref04_Key x0.hi).bind fun r3 =>
  (bif r3.1 then
  some ((decide (x0.lo < x0.hi)), ())
  else
  some (false, ()))))
noncomputable def watershedref04_Right_ce : CE CT Try.prog where
  f := 17
  args := [.cod 4]
  hs := []
  res := .val (.one (.bool))
  outs := []
  m := fun d dh => watershedref04_Right d.1
  ok := ce_ok mixedP Try.func17 (by kernel_rfl) (orcOf_ok watershedref04_Right_tb) (dr := watershedref04_Right_dr) (lps := lpsOf watershedref04_Right_lt) (lps_fn (no_loop (by kernel_rfl))) (fun d dh => by kernel_rfl)

def watershedref04_Parts_dr : Nat → DrA
  | 6 => ⟨[0, 1, 2, 3, 4, 5, 6, 7, 8, 9, 10, 11, 12, 13, 14, 15, 16, 17, 18, 19, 20, 21, 22, 24, 25, 26, 27, 23, 28, 29, 30, 31, 32], [[], [], [0, 1], [0, 1, 2], [0, 1, 2, 3], [0, 1, 2, 3, 4], [0, 1, 2, 3, 4, 5], [0, 1, 2, 3, 4, 5, 6], [0, 1, 2, 3, 4, 5, 6, 7], [0, 1, 2, 3, 4, 5, 6, 7, 8], [0, 1, 2, 3, 4, 5, 6, 7, 8, 9], [0, 1, 2, 3, 4, 5, 6, 7, 8, 9], [0, 1, 2, 3, 4, 5, 6, 7, 8, 9, 11], [0, 1, 2, 3, 4, 5, 6, 7, 8, 9, 10, 11, 12], [0, 1, 2, 3, 4, 5, 6, 7, 8, 9, 10, 11, 12, 13], [0, 1, 2, 3, 4, 5, 6, 7, 8, 9, 10, 11, 12, 13, 14], [0, 1, 2, 3, 4, 5, 6, 7, 8, 9, 10, 11, 12, 13, 14, 15], [0, 1, 2, 3, 4, 5, 6, 7, 8, 9, 10, 11, 12, 13, 14, 15, 16], [0, 1, 2, 3, 4, 5, 6, 7, 8, 9, 10, 11, 12, 13, 14, 15, 16, 17], [0, 1, 2, 3, 4, 5, 6, 7, 8, 9, 10, 11, 12, 13, 14, 15, 16, 17], [0, 1, 2, 3, 4, 5, 6, 7, 8, 9, 10, 11, 12, 13, 14, 15, 16, 17, 19], [0, 1, 2, 3, 4, 5, 6, 7, 8, 9, 10, 11, 12, 13, 14, 15, 16, 17, 18, 19, 20], [0, 1, 2, 3, 4, 5, 6, 7, 8, 9, 10, 11, 12, 13, 14, 15, 16, 17, 18, 19, 20, 21], [0, 1, 2, 3, 4, 5, 6, 7, 8, 9, 10, 11, 12, 13, 14, 15, 16, 17, 18, 19, 20, 21, 22], [0, 1, 2, 3, 4, 5, 6, 7, 8, 9, 10, 11, 12, 13, 14, 15, 16, 17], [0, 1, 2, 3, 4, 5, 6, 7, 8, 9, 10, 11, 12, 13, 14, 15, 16, 17], [0, 1, 2, 3, 4, 5, 6, 7, 8, 9, 10, 11, 12, 13, 14, 15, 16, 17, 24, 25], [0, 1, 2, 3, 4, 5, 6, 7, 8, 9, 10, 11, 12, 13, 14, 15, 16, 17, 24, 25, 26], [0, 1, 2, 3, 4, 5, 6, 7, 8, 9, 10, 11, 12, 13, 14, 15, 16, 17, 24, 25, 26, 27], [0, 1, 2, 3, 4, 5, 6, 7, 8, 9, 10, 11, 12, 13, 14, 15, 16, 17, 18, 19, 20, 21, 22, 23, 24, 25, 26, 27, 28], [0, 1, 2, 3, 4, 5, 6, 7, 8, 9, 10, 11, 12, 13, 14, 15, 16, 17, 18, 19, 20, 21, 22, 23, 24, 25, 26, 27, 28, 29], [0, 1, 2, 3, 4, 5, 6, 7, 8, 9, 10, 11, 12, 13, 14, 15, 16, 17, 18, 19, 20, 21, 22, 23, 24, 25, 26, 27, 28, 29, 30], [0, 1, 2, 3, 4, 5, 6, 7, 8, 9, 10, 11, 12, 13, 14, 15, 16, 17, 18, 19, 20, 21, 22, 23, 24, 25, 26, 27, 28, 29, 30, 31]], [], [], []⟩
  | _ => ⟨[], [], [], [], []⟩
noncomputable def watershedref04_Parts_tb : List (CE CT Try.prog) := [watershedref04_Right_ce]
noncomputable def watershedref04_Parts_l1 (a : ((List (DSpan)) × (Int) × Unit) × (Unit)) : Option ((((List (DSpan)) × (Int) × Unit) × (Unit)) ⊕ ((((Bool) × Unit) × (Unit)) ⊕ ((Unit) × (Unit)))) :=
  (bif (decide ((a.1.2.1 : Int) < (a.1.1.length : Int))) then
  (getI a.1.1 a.1.2.1).bind fun e1 =>
  (watershedref04_Right e1).bind fun r2 =>
  (bif (!r2.1) then
  some (.inr (.inl ((false, ()), ())))
  else
  (bif (decide ((0 : Int) < a.1.2.1)) then
  (getI a.1.1 (IntKind.i64.wrap (a.1.2.1 - 1))).bind fun e3 =>
  (bif (decide (e3.hi = ([] : List UInt8))) then
  some (.inr (.inl ((false, ()), ())))
  else
  (getI a.1.1 (IntKind.i64.wrap (a.1.2.1 - 1))).bind fun e4 =>
  (getI a.1.1 a.1.2.1).bind fun e5 =>
  (bif (decide (e4.hi ≠ e5.lo)) then
  some (.inr (.inl ((false, ()), ())))
  else
  some (.inl ((a.1.1, (IntKind.i64.wrap (a.1.2.1 + 1)), ()), ()))))
  else
  some (.inl ((a.1.1, (IntKind.i64.wrap (a.1.2.1 + 1)), ()), ()))))
  else
  some (.inr (.inr ((), ()))))
noncomputable def watershedref04_Parts_e1 : LE CT Try.prog := ⟨4, [0, 3], [.one (.sl 4), .one (.int .i64)], [], [⟨.ret, [2], [.one (.bool)], []⟩, ⟨.exit 0, [], [], []⟩], watershedref04_Parts_l1⟩
noncomputable def watershedref04_Parts_lt : List (LE CT Try.prog) := [watershedref04_Parts_e1]
theorem watershedref04_Parts_e1_ok : LeOk watershedref04_Parts_e1 (nthL (bodyOf Try.f11) 0) := fun A env h k z hk => le_ok (E := watershedref04_Parts_e1) (orcOf_ok watershedref04_Parts_tb) (dr := watershedref04_Parts_dr) (lps := lpsOf watershedref04_Parts_lt) (no_loop (by kernel_rfl)) (fun a => by kernel_rfl) env h k z hk
noncomputable def watershedref04_Parts (x0 : List (DSpan)) : Option ((Bool) × (Unit)) :=
  (bif (decide (((x0.length : Int) : Int) = 0)) then
  some (false, ())
  else
  (getI x0 0).bind fun e1 =>
  (bif (decide (e1.lo ≠ ([] : List UInt8))) then
  some (false, ())
  else
  (getI x0 (IntKind.i64.wrap ((x0.length : Int) - 1))).bind fun e2 =>
  (bif (decide (e2.hi ≠ ([] : List UInt8))) then
  some (false, ())
  else
  (loopM watershedref04_Parts_l1 ((x0, 0, ()), ())).bind fun b3 =>
  (match b3 with
  | .inl b4 =>
  some (b4.1.1, ())
  | .inr b5 =>
  some (true, ())))))
noncomputable def watershedref04_Parts_ce : CE CT Try.prog where
  f := 11
  args := [.one (.sl 4)]
  hs := []
  res := .val (.one (.bool))
  outs := []
  m := fun d dh => watershedref04_Parts d.1
  ok := ce_ok mixedP Try.func11 (by kernel_rfl) (orcOf_ok watershedref04_Parts_tb) (dr := watershedref04_Parts_dr) (lps := lpsOf watershedref04_Parts_lt) (lps_fn (lps_of (n := 1) (by kernel_rfl) fun i hi => match i, hi with | 0, _ => lp_ok (E := watershedref04_Parts_e1) (by kernel_rfl) watershedref04_Parts_e1_ok)) (fun d dh => by kernel_rfl)

def watershedlaw04_SpanParts_dr : Nat → DrA
  | 7 => ⟨[0, 1, 2, 3, 4, 6, 7, 8, 9, 5, 10, 11, 12, 13], [[], [], [], [1, 2], [1, 2, 3], [1, 2, 3, 4], [], [], [6, 7], [6, 7, 8], [6, 7, 8, 9], [1, 2, 3, 4, 5, 6, 7, 8, 9, 10], [0, 1, 2, 3, 4, 5, 6, 7, 8, 9, 10, 11], [0, 1, 2, 3, 4, 5, 6, 7, 8, 9, 10, 11, 12]], [], [], []⟩
  | _ => ⟨[], [], [], [], []⟩
noncomputable def watershedlaw04_SpanParts_tb : List (CE CT Try.prog) := [watershedlaw04_awake_ce, watershedlaw04_few_ce, span_Parts_ce, watershedref04_Parts_ce]
noncomputable def watershedlaw04_SpanParts_l1 (a : ((List (DSpan)) × (List (List UInt8)) × (Int) × Unit) × ((Unit) × Unit)) : Option ((((List (DSpan)) × (List (List UInt8)) × (Int) × Unit) × ((Unit) × Unit)) ⊕ ((((List (DSpan)) × (List (List UInt8)) × Unit) × ((Unit) × (Unit) × Unit)))) :=
  (bif (decide ((a.1.2.2.1 : Int) < (a.1.1.length : Int))) then
  (bif (decide ((a.1.2.2.1 : Int) < 31)) then
  (getI a.1.1 a.1.2.2.1).bind fun e1 =>
  (getI a.1.1 a.1.2.2.1).bind fun e2 =>
  (if a.1.2.1.length + ([e1.lo, e2.hi] : List (List UInt8)).length ≤ 140737488355328 ∧ (a.1.2.1.length + ([e1.lo, e2.hi] : List (List UInt8)).length) * 16 ≤ 140737488355328 then
  some (.inl ((a.1.1, (a.1.2.1 ++ ([e1.lo, e2.hi] : List (List UInt8))), (IntKind.i64.wrap (a.1.2.2.1 + 1)), ()), ((), ())))
  else none)
  else
  some (.inr ((a.1.1, a.1.2.1, ()), ((), (), ()))))
  else
  some (.inr ((a.1.1, a.1.2.1, ()), ((), (), ()))))
noncomputable def watershedlaw04_SpanParts_e1 : LE CT Try.prog := ⟨5, [0, 3, 4], [.one (.sl 4), .one (.own 2 0), .one (.int .i64)], [.row 9 1], [⟨.exit 0, [0, 3], [.one (.sl 4), .one (.own 2 1)], [.dead, .row 9 1]⟩], watershedlaw04_SpanParts_l1⟩
noncomputable def watershedlaw04_SpanParts_lt : List (LE CT Try.prog) := [watershedlaw04_SpanParts_e1]
theorem watershedlaw04_SpanParts_e1_ok : LeOk watershedlaw04_SpanParts_e1 (nthL (bodyOf Try.f3) 0) := fun A env h k z hk => le_ok (E := watershedlaw04_SpanParts_e1) (orcOf_ok watershedlaw04_SpanParts_tb) (dr := watershedlaw04_SpanParts_dr) (lps := lpsOf watershedlaw04_SpanParts_lt) (no_loop (by kernel_rfl)) (fun a => by kernel_rfl) env h k z hk
noncomputable def watershedlaw04_SpanParts (x0 : List (DSpan)) : Option ((Bool) × (Unit)) :=
  (watershedlaw04_awake).bind fun r1 =>
  (bif (!r1.1) then
  some (false, ())
  else
  (loopM watershedlaw04_SpanParts_l1 ((x0, [], 0, ()), ((), ()))).bind fun b2 =>
  (watershedlaw04_few b2.1.2.1).bind fun r3 =>
  (bif (!r3.1) then
  some (true, ())
  else
  (bif (decide ((30 : Int) < (b2.1.1.length : Int))) then
  some (true, ())
  else
  (span_Parts b2.1.1).bind fun r4 =>
  (watershedref04_Parts b2.1.1).bind fun r5 =>
  some ((decide (r4.1 = r5.1)), ()))))
noncomputable def watershedlaw04_SpanParts_ce : CE CT Try.prog where
  f := 3
  args := [.one (.sl 4)]
  hs := []
  res := .val (.one (.bool))
  outs := []
  m := fun d dh => watershedlaw04_SpanParts d.1
  ok := ce_ok mixedP Try.func3 (by kernel_rfl) (orcOf_ok watershedlaw04_SpanParts_tb) (dr := watershedlaw04_SpanParts_dr) (lps := lpsOf watershedlaw04_SpanParts_lt) (lps_fn (lps_of (n := 1) (by kernel_rfl) fun i hi => match i, hi with | 0, _ => lp_ok (E := watershedlaw04_SpanParts_e1) (by kernel_rfl) watershedlaw04_SpanParts_e1_ok)) (fun d dh => by kernel_rfl)
end Go.Proofs.Ytfgcknjlncognaa
