/- Models, by program. -/
import Derived.Test.YtnmimignbgdfgaaRp
namespace Go.Proofs.Ytnmimignbgdfgaa
open Go.RowKit
set_option maxRecDepth 100000
set_option linter.unusedVariables false
noncomputable def appendSeq (h0 : List (List UInt8)) : Option ((Nat × Nat) × ((List (List UInt8)) × (List (List UInt8)) × Unit)) :=
  if h0.length ≤ 8796093022208 then some ((0, h0.length), (h0, h0, ())) else none
noncomputable def appendSeq_ce : CE CT Try.prog where
  f := 88
  args := [.one .nil, .one (.clo 81 [0])]
  hs := [.cobj 37 3]
  res := .val (.one (.asu 2 1))
  outs := [.cobj 37 3, .arr 9 2 true]
  m := fun d dh => appendSeq dh.1
  ok := fun d dh r hr => by
    unfold appendSeq at hr
    split at hr
    · rename_i hc
      injection hr with hr
      subst hr
      by_cases h0 : dh.1 = []
      · obtain ⟨xs, u⟩ := dh
        dsimp only at h0
        subst h0
        exact appendSeq_tr0
      · exact appendSeq_tr dh.1 (fun h => h0 (List.eq_nil_of_length_eq_zero h)) hc
    · cases hr

noncomputable def replace (n : Nat) (i j : Int) (ys xs : List (DShare)) : Option (List (DShare) × (Unit × Unit × Unit)) :=
  if ReplaceOk n i j ys xs then some (xs.take i.toNat ++ ys ++ xs.drop j.toNat, ((), (), ())) else none
noncomputable def replace_ce : CE CT Try.prog where
  f := 26
  args := [.one (.asz 6 0), .one (.int .i64), .one (.int .i64), .one (.sl 5)]
  hs := [.arr 41 6 true]
  res := .val (.one (.own 5 1))
  outs := [.dead, .row 41 4]
  m := fun d dh => replace d.1 d.2.1 d.2.2.1 d.2.2.2.1 dh.1
  ok := fun d dh r hr => by
    unfold replace at hr
    split at hr
    · rename_i hc
      injection hr with hr
      subst hr
      exact replace_tr hc
    · cases hr

def shares_within_dr : Nat → DrA
  | _ => ⟨[], [], [], [], [], false⟩
noncomputable def shares_within_tb : List (CE CT Try.prog) := []
noncomputable def shares_within_lt : List (LE CT Try.prog) := []
noncomputable def shares_within (x0 : Int) (x1 : Int) (x2 : Int) : Option ((Bool) × (Unit)) :=
  (bif (decide ((x1 : Int) ≤ x0)) then
  some ((decide ((x0 : Int) ≤ x2)), ())
  else
  some (false, ()))
noncomputable def shares_within_ce : CE CT Try.prog where
  f := 20
  args := [.one (.int .i64), .one (.int .i64), .one (.int .i64)]
  hs := []
  res := .val (.one (.bool))
  outs := []
  m := fun d dh => shares_within d.1 d.2.1 d.2.2.1
  ok := ce_ok mixedP Try.func20 (by kernel_rfl) (orcOf_ok shares_within_tb) (dr := shares_within_dr) (lps := lpsOf shares_within_lt) (lps_fn (no_loop (by kernel_rfl))) (fun d dh => by kernel_rfl)

def span_All_dr : Nat → DrA
  | _ => ⟨[], [], [], [], [], false⟩
noncomputable def span_All_tb : List (CE CT Try.prog) := []
noncomputable def span_All_lt : List (LE CT Try.prog) := []
noncomputable def span_All  : Option ((DSpan) × (Unit)) :=
  some ((⟨([] : List UInt8), ([] : List UInt8)⟩ : DSpan), ())
noncomputable def span_All_ce : CE CT Try.prog where
  f := 21
  args := []
  hs := []
  res := .val (.cod 4)
  outs := []
  m := fun d dh => span_All
  ok := ce_ok mixedP Try.func21 (by kernel_rfl) (orcOf_ok span_All_tb) (dr := span_All_dr) (lps := lpsOf span_All_lt) (lps_fn (no_loop (by kernel_rfl))) (fun d dh => by kernel_rfl)

def shares_First_dr : Nat → DrA
  | _ => ⟨[], [], [], [], [], false⟩
noncomputable def shares_First_tb : List (CE CT Try.prog) := [shares_within_ce, span_All_ce]
noncomputable def shares_First_lt : List (LE CT Try.prog) := []
noncomputable def shares_First (x0 : Int) : Option ((DShares) × (Unit)) :=
  (shares_within x0 1 4).bind fun r1 =>
  (bif (!r1.1) then
  (span_All).bind fun r2 =>
  some ((⟨1, ([(⟨r2.1, 1, 1⟩ : DShare)] : List (DShare))⟩ : DShares), ())
  else
  (span_All).bind fun r3 =>
  some ((⟨1, ([(⟨r3.1, x0, 1⟩ : DShare)] : List (DShare))⟩ : DShares), ()))
noncomputable def shares_First_ce : CE CT Try.prog where
  f := 7
  args := [.one (.int .i64)]
  hs := []
  res := .val (.cod 8)
  outs := []
  m := fun d dh => shares_First d.1
  ok := ce_ok mixedP Try.func7 (by kernel_rfl) (orcOf_ok shares_First_tb) (dr := shares_First_dr) (lps := lpsOf shares_First_lt) (lps_fn (no_loop (by kernel_rfl))) (fun d dh => by kernel_rfl)

def shares_right1_dr : Nat → DrA
  | _ => ⟨[], [], [], [], [], false⟩
noncomputable def shares_right1_tb : List (CE CT Try.prog) := [shares_within_ce]
noncomputable def shares_right1_lt : List (LE CT Try.prog) := []
noncomputable def shares_right1 (x0 : DShare) (h0 : DWork) : Option ((Bool) × ((DWork) × Unit)) :=
  (shares_within x0.group 1 4).bind fun r1 =>
  (bif (!r1.1) then
  some (true, (h0, ()))
  else
  (shares_within x0.epoch 1 h0.shares.epoch).bind fun r2 =>
  some ((!r2.1), (h0, ())))
noncomputable def shares_right1_ce : CE CT Try.prog where
  f := 46
  args := [.cod 5, .one (.ptr 0 0)]
  hs := [.cobj 56 9]
  res := .val (.one (.bool))
  outs := [.cobj 56 9]
  m := fun d dh => shares_right1 d.1 dh.1
  ok := ce_ok mixedP Try.func46 (by kernel_rfl) (orcOf_ok shares_right1_tb) (dr := shares_right1_dr) (lps := lpsOf shares_right1_lt) (lps_fn (no_loop (by kernel_rfl))) (fun d dh => by kernel_rfl)

def slices_IndexFunc_dr : Nat → DrA
  | _ => ⟨[], [], [], [], [], false⟩
noncomputable def slices_IndexFunc_tb : List (CE CT Try.prog) := [shares_right1_ce]
noncomputable def slices_IndexFunc_l1 (a : ((List (DShare)) × (Unit) × (Int) × (Int) × Unit) × ((DWork) × Unit)) : Option ((((List (DShare)) × (Unit) × (Int) × (Int) × Unit) × ((DWork) × Unit)) ⊕ ((((Int) × Unit) × ((DWork) × Unit)) ⊕ ((Unit) × ((DWork) × Unit)))) :=
  (bif (decide ((a.1.2.2.2.1 : Int) < a.1.2.2.1)) then
  (getI a.1.1 a.1.2.2.2.1).bind fun e1 =>
  (shares_right1 e1 a.2.1).bind fun r2 =>
  (bif r2.1 then
  some (.inr (.inl ((a.1.2.2.2.1, ()), (r2.2.1, ()))))
  else
  some (.inl ((a.1.1, (), a.1.2.2.1, (IntKind.i64.wrap (a.1.2.2.2.1 + 1)), ()), (r2.2.1, ()))))
  else
  some (.inr (.inr ((), (a.2.1, ())))))
noncomputable def slices_IndexFunc_e1 : LE CT Try.prog := ⟨2, [0, 1, 7, 8], [.one (.sl 5), .one (.clo 46 [0]), .one (.int .i64), .one (.int .i64)], [.cobj 56 9], [⟨.ret, [4], [.one (.int .i64)], [.cobj 56 9]⟩, ⟨.exit 0, [], [], [.cobj 56 9]⟩], slices_IndexFunc_l1⟩
noncomputable def slices_IndexFunc_lt : List (LE CT Try.prog) := [slices_IndexFunc_e1]
theorem slices_IndexFunc_e1_ok : LeOk slices_IndexFunc_e1 (nthL (bodyOf Try.f43) 0) := fun A env h k z hk => le_ok (E := slices_IndexFunc_e1) (orcOf_ok slices_IndexFunc_tb) (dr := slices_IndexFunc_dr) (lps := lpsOf slices_IndexFunc_lt) (no_loop (by kernel_rfl)) (fun a => by kernel_rfl) env h k z hk
noncomputable def slices_IndexFunc (x0 : List (DShare)) (h0 : DWork) : Option ((Int) × ((DWork) × Unit)) :=
  (loopM slices_IndexFunc_l1 ((x0, (), (x0.length : Int), 0, ()), (h0, ()))).bind fun b1 =>
  (match b1 with
  | .inl b2 =>
  some (b2.1.1, (b2.2.1, ()))
  | .inr b3 =>
  some ((-1), (b3.2.1, ())))
noncomputable def slices_IndexFunc_ce : CE CT Try.prog where
  f := 43
  args := [.one (.sl 5), .one (.clo 46 [0])]
  hs := [.cobj 56 9]
  res := .val (.one (.int .i64))
  outs := [.cobj 56 9]
  m := fun d dh => slices_IndexFunc d.1 dh.1
  ok := ce_ok mixedP Try.func43 (by kernel_rfl) (orcOf_ok slices_IndexFunc_tb) (dr := slices_IndexFunc_dr) (lps := lpsOf slices_IndexFunc_lt) (lps_fn (lps_of (n := 1) (by kernel_rfl) fun i hi => match i, hi with | 0, _ => lp_ok (E := slices_IndexFunc_e1) (by kernel_rfl) slices_IndexFunc_e1_ok)) (fun d dh => by kernel_rfl)

def slices_ContainsFunc_dr : Nat → DrA
  | _ => ⟨[], [], [], [], [], false⟩
noncomputable def slices_ContainsFunc_tb : List (CE CT Try.prog) := [slices_IndexFunc_ce]
noncomputable def slices_ContainsFunc_lt : List (LE CT Try.prog) := []
noncomputable def slices_ContainsFunc (x0 : List (DShare)) (h0 : DWork) : Option ((Bool) × ((DWork) × Unit)) :=
  (slices_IndexFunc x0 h0).bind fun r1 =>
  some ((decide ((0 : Int) ≤ r1.1)), (r1.2.1, ()))
noncomputable def slices_ContainsFunc_ce : CE CT Try.prog where
  f := 45
  args := [.one (.sl 5), .one (.clo 46 [0])]
  hs := [.cobj 56 9]
  res := .val (.one (.bool))
  outs := [.cobj 56 9]
  m := fun d dh => slices_ContainsFunc d.1 dh.1
  ok := ce_ok mixedP Try.func45 (by kernel_rfl) (orcOf_ok slices_ContainsFunc_tb) (dr := slices_ContainsFunc_dr) (lps := lpsOf slices_ContainsFunc_lt) (lps_fn (no_loop (by kernel_rfl))) (fun d dh => by kernel_rfl)

def shares_spans_dr : Nat → DrA
  | _ => ⟨[], [], [], [], [], false⟩
noncomputable def shares_spans_tb : List (CE CT Try.prog) := []
noncomputable def shares_spans_l1 (a : ((List (DSpan)) × (List (DShare)) × (Int) × (Int) × Unit) × ((Unit) × Unit)) : Option ((((List (DSpan)) × (List (DShare)) × (Int) × (Int) × Unit) × ((Unit) × Unit)) ⊕ ((((List (DSpan)) × Unit) × ((Unit) × (Unit) × Unit)))) :=
  (bif (decide ((a.1.2.2.2.1 : Int) < a.1.2.2.1)) then
  (getI a.1.2.1 a.1.2.2.2.1).bind fun e1 =>
  (if a.1.1.length + ([e1.span] : List (DSpan)).length ≤ 140737488355328 ∧ (a.1.1.length + ([e1.span] : List (DSpan)).length) * 32 ≤ 140737488355328 then
  some (.inl (((a.1.1 ++ ([e1.span] : List (DSpan))), a.1.2.1, a.1.2.2.1, (IntKind.i64.wrap (a.1.2.2.2.1 + 1)), ()), ((), ())))
  else none)
  else
  some (.inr ((a.1.1, ()), ((), (), ()))))
noncomputable def shares_spans_e1 : LE CT Try.prog := ⟨3, [3, 8, 9, 10], [.one (.own 4 0), .one (.sl 5), .one (.int .i64), .one (.int .i64)], [.row 29 2], [⟨.exit 0, [3], [.one (.own 4 1)], [.dead, .row 29 2]⟩], shares_spans_l1⟩
noncomputable def shares_spans_lt : List (LE CT Try.prog) := [shares_spans_e1]
theorem shares_spans_e1_ok : LeOk shares_spans_e1 (nthL (bodyOf Try.f48) 0) := fun A env h k z hk => le_ok (E := shares_spans_e1) (orcOf_ok shares_spans_tb) (dr := shares_spans_dr) (lps := lpsOf shares_spans_lt) (no_loop (by kernel_rfl)) (fun a => by kernel_rfl) env h k z hk
noncomputable def shares_spans (x0 : DWork) : Option ((List (DSpan)) × ((Unit) × Unit)) :=
  (loopM shares_spans_l1 (([], x0.shares.list, (x0.shares.list.length : Int), 0, ()), ((), ()))).bind fun b1 =>
  some (b1.1.1, ((), ()))
noncomputable def shares_spans_ce : CE CT Try.prog where
  f := 48
  args := [.cod 9]
  hs := []
  res := .val (.one (.own 4 0))
  outs := [.row 29 2]
  m := fun d dh => shares_spans d.1
  ok := ce_ok mixedP Try.func48 (by kernel_rfl) (orcOf_ok shares_spans_tb) (dr := shares_spans_dr) (lps := lpsOf shares_spans_lt) (lps_fn (lps_of (n := 1) (by kernel_rfl) fun i hi => match i, hi with | 0, _ => lp_ok (E := shares_spans_e1) (by kernel_rfl) shares_spans_e1_ok)) (fun d dh => by kernel_rfl)

def span_ends_dr : Nat → DrA
  | 1 => ⟨[0, 4, 1, 2, 3, 5, 6, 7, 8, 9], [[], [0], [0, 1], [0, 1, 2], [], [4], [4, 5], [4, 5, 6], [0, 1, 2, 3], [0, 1, 2, 3, 4, 5, 6, 7, 8]], [5], [8], [0], false⟩
  | _ => ⟨[], [], [], [], [], false⟩
noncomputable def span_ends_tb : List (CE CT Try.prog) := []
noncomputable def span_ends_lt : List (LE CT Try.prog) := []
noncomputable def span_ends (x0 : DSpan) : Option (((DLow) × (DHigh) × Unit) × (Unit)) :=
  some (((⟨(⟨x0.lo⟩ : DText)⟩ : DLow), (⟨(⟨x0.hi⟩ : DText)⟩ : DHigh), ()), ())
noncomputable def span_ends_ce : CE CT Try.prog where
  f := 36
  args := [.cod 4]
  hs := []
  res := .tup [.cod 11, .cod 12]
  outs := []
  m := fun d dh => span_ends d.1
  ok := ce_ok mixedP Try.func36 (by kernel_rfl) (orcOf_ok span_ends_tb) (dr := span_ends_dr) (lps := lpsOf span_ends_lt) (lps_fn (no_loop (by kernel_rfl))) (fun d dh => by kernel_rfl)

def span_none_dr : Nat → DrA
  | _ => ⟨[], [], [], [], [], false⟩
noncomputable def span_none_tb : List (CE CT Try.prog) := []
noncomputable def span_none_lt : List (LE CT Try.prog) := []
noncomputable def span_none (x0 : DText) : Option ((Bool) × (Unit)) :=
  some ((decide (x0.s = ([] : List UInt8))), ())
noncomputable def span_none_ce : CE CT Try.prog where
  f := 49
  args := [.cod 10]
  hs := []
  res := .val (.one (.bool))
  outs := []
  m := fun d dh => span_none d.1
  ok := ce_ok mixedP Try.func49 (by kernel_rfl) (orcOf_ok span_none_tb) (dr := span_none_dr) (lps := lpsOf span_none_lt) (lps_fn (no_loop (by kernel_rfl))) (fun d dh => by kernel_rfl)

def cmp_isNaN_dr : Nat → DrA
  | _ => ⟨[], [], [], [], [], false⟩
noncomputable def cmp_isNaN_tb : List (CE CT Try.prog) := []
noncomputable def cmp_isNaN_lt : List (LE CT Try.prog) := []
noncomputable def cmp_isNaN (x0 : List UInt8) : Option ((Bool) × (Unit)) :=
  some ((decide (x0 ≠ x0)), ())
noncomputable def cmp_isNaN_ce : CE CT Try.prog where
  f := 66
  args := [.one (.str)]
  hs := []
  res := .val (.one (.bool))
  outs := []
  m := fun d dh => cmp_isNaN d.1
  ok := ce_ok mixedP Try.func66 (by kernel_rfl) (orcOf_ok cmp_isNaN_tb) (dr := cmp_isNaN_dr) (lps := lpsOf cmp_isNaN_lt) (lps_fn (no_loop (by kernel_rfl))) (fun d dh => by kernel_rfl)

def cmp_Compare_dr : Nat → DrA
  | _ => ⟨[], [], [], [], [], false⟩
noncomputable def cmp_Compare_tb : List (CE CT Try.prog) := [cmp_isNaN_ce]
noncomputable def cmp_Compare_lt : List (LE CT Try.prog) := []
noncomputable def cmp_Compare (x0 : List UInt8) (x1 : List UInt8) : Option ((Int) × (Unit)) :=
  (cmp_isNaN x0).bind fun r1 =>
  (cmp_isNaN x1).bind fun r2 =>
  (bif r1.1 then
  (bif r2.1 then
  some (0, ())
  else
  some ((-1), ()))
  else
  (bif r2.1 then
  some (1, ())
  else
  (bif (decide (x0 < x1)) then
  some ((-1), ())
  else
  (bif (!(decide (x0 < x1) || decide (x0 = x1))) then
  some (1, ())
  else
  some (0, ())))))
noncomputable def cmp_Compare_ce : CE CT Try.prog where
  f := 59
  args := [.one (.str), .one (.str)]
  hs := []
  res := .val (.one (.int .i64))
  outs := []
  m := fun d dh => cmp_Compare d.1 d.2.1
  ok := ce_ok mixedP Try.func59 (by kernel_rfl) (orcOf_ok cmp_Compare_tb) (dr := cmp_Compare_dr) (lps := lpsOf cmp_Compare_lt) (lps_fn (no_loop (by kernel_rfl))) (fun d dh => by kernel_rfl)

def span_compare_dr : Nat → DrA
  | _ => ⟨[], [], [], [], [], false⟩
noncomputable def span_compare_tb : List (CE CT Try.prog) := [cmp_Compare_ce]
noncomputable def span_compare_lt : List (LE CT Try.prog) := []
noncomputable def span_compare (x0 : DText) (x1 : DText) : Option ((Int) × (Unit)) :=
  (cmp_Compare x0.s x1.s).bind fun r1 =>
  some (r1.1, ())
noncomputable def span_compare_ce : CE CT Try.prog where
  f := 37
  args := [.cod 10, .cod 10]
  hs := []
  res := .val (.one (.int .i64))
  outs := []
  m := fun d dh => span_compare d.1 d.2.1
  ok := ce_ok mixedP Try.func37 (by kernel_rfl) (orcOf_ok span_compare_tb) (dr := span_compare_dr) (lps := lpsOf span_compare_lt) (lps_fn (no_loop (by kernel_rfl))) (fun d dh => by kernel_rfl)

def span_above_dr : Nat → DrA
  | _ => ⟨[], [], [], [], [], false⟩
noncomputable def span_above_tb : List (CE CT Try.prog) := [span_none_ce, span_compare_ce]
noncomputable def span_above_lt : List (LE CT Try.prog) := []
noncomputable def span_above (x0 : DHigh) (x1 : DText) : Option ((Bool) × (Unit)) :=
  (span_none x0.text).bind fun r1 =>
  (bif r1.1 then
  some (true, ())
  else
  (span_compare x0.text x1).bind fun r2 =>
  some ((decide ((0 : Int) < r2.1)), ()))
noncomputable def span_above_ce : CE CT Try.prog where
  f := 38
  args := [.cod 12, .cod 10]
  hs := []
  res := .val (.one (.bool))
  outs := []
  m := fun d dh => span_above d.1 d.2.1
  ok := ce_ok mixedP Try.func38 (by kernel_rfl) (orcOf_ok span_above_tb) (dr := span_above_dr) (lps := lpsOf span_above_lt) (lps_fn (no_loop (by kernel_rfl))) (fun d dh => by kernel_rfl)

def span_Key_dr : Nat → DrA
  | _ => ⟨[], [], [], [], [], false⟩
noncomputable def span_Key_tb : List (CE CT Try.prog) := []
noncomputable def span_Key_l1 (a : ((List UInt8) × (Int) × (Int) × Unit) × (Unit)) : Option ((((List UInt8) × (Int) × (Int) × Unit) × (Unit)) ⊕ ((((Bool) × Unit) × (Unit)) ⊕ ((Unit) × (Unit)))) :=
  (bif (decide ((a.1.2.2.1 : Int) < a.1.2.1)) then
  (getI a.1.1 a.1.2.2.1).bind fun e1 =>
  (bif (decide ((97 : Int) ≤ (e1.toNat : Int))) then
  (bif (decide (((e1.toNat : Int) : Int) ≤ 122)) then
  some (.inl ((a.1.1, a.1.2.1, (IntKind.i64.wrap (a.1.2.2.1 + 1)), ()), ()))
  else
  (bif (decide ((48 : Int) ≤ (e1.toNat : Int))) then
  (bif (!(decide (((e1.toNat : Int) : Int) ≤ 57))) then
  some (.inr (.inl ((false, ()), ())))
  else
  some (.inl ((a.1.1, a.1.2.1, (IntKind.i64.wrap (a.1.2.2.1 + 1)), ()), ())))
  else
  some (.inr (.inl ((false, ()), ())))))
  else
  (bif (decide ((48 : Int) ≤ (e1.toNat : Int))) then
  (bif (!(decide (((e1.toNat : Int) : Int) ≤ 57))) then
  some (.inr (.inl ((false, ()), ())))
  else
  some (.inl ((a.1.1, a.1.2.1, (IntKind.i64.wrap (a.1.2.2.1 + 1)), ()), ())))
  else
  some (.inr (.inl ((false, ()), ())))))
  else
  some (.inr (.inr ((), ()))))
noncomputable def span_Key_e1 : LE CT Try.prog := ⟨4, [0, 13, 14], [.one (.str), .one (.int .i64), .one (.int .i64)], [], [⟨.ret, [2], [.one (.bool)], []⟩, ⟨.exit 0, [], [], []⟩], span_Key_l1⟩
noncomputable def span_Key_lt : List (LE CT Try.prog) := [span_Key_e1]
theorem span_Key_e1_ok : LeOk span_Key_e1 (nthL (bodyOf Try.f16) 0) := fun A env h k z hk => le_ok (E := span_Key_e1) (orcOf_ok span_Key_tb) (dr := span_Key_dr) (lps := lpsOf span_Key_lt) (no_loop (by kernel_rfl)) (fun a => by kernel_rfl) env h k z hk
noncomputable def span_Key (x0 : List UInt8) : Option ((Bool) × (Unit)) :=
  (bif (decide (x0 = ([] : List UInt8))) then
  some (false, ())
  else
  (bif (decide ((20 : Int) < (x0.length : Int))) then
  some (false, ())
  else
  (loopM span_Key_l1 ((x0, (x0.length : Int), 0, ()), ())).bind fun b1 =>
  (match b1 with
  | .inl b2 =>
  some (b2.1.1, ())
  | .inr b3 =>
  some (true, ()))))
noncomputable def span_Key_ce : CE CT Try.prog where
  f := 16
  args := [.one (.str)]
  hs := []
  res := .val (.one (.bool))
  outs := []
  m := fun d dh => span_Key d.1
  ok := ce_ok mixedP Try.func16 (by kernel_rfl) (orcOf_ok span_Key_tb) (dr := span_Key_dr) (lps := lpsOf span_Key_lt) (lps_fn (lps_of (n := 1) (by kernel_rfl) fun i hi => match i, hi with | 0, _ => lp_ok (E := span_Key_e1) (by kernel_rfl) span_Key_e1_ok)) (fun d dh => by kernel_rfl)

def span_Right_dr : Nat → DrA
  | _ => ⟨[], [], [], [], [], false⟩
noncomputable def span_Right_tb : List (CE CT Try.prog) := [span_ends_ce, span_none_ce, span_above_ce, span_Key_ce]
noncomputable def span_Right_lt : List (LE CT Try.prog) := []
noncomputable def span_Right (x0 : DSpan) : Option ((Bool) × (Unit)) :=
  (span_ends x0).bind fun r1 =>
  (span_none r1.1.1.text).bind fun r2 =>
  (bif r2.1 then
  (span_none r1.1.2.1.text).bind fun r3 =>
  (bif r3.1 then
  (span_above r1.1.2.1 r1.1.1.text).bind fun r4 =>
  some (r4.1, ())
  else
  (span_Key x0.hi).bind fun r5 =>
  (bif r5.1 then
  (span_above r1.1.2.1 r1.1.1.text).bind fun r6 =>
  some (r6.1, ())
  else
  some (false, ())))
  else
  (span_Key x0.lo).bind fun r7 =>
  (bif r7.1 then
  (span_none r1.1.2.1.text).bind fun r8 =>
  (bif r8.1 then
  (span_above r1.1.2.1 r1.1.1.text).bind fun r9 =>
  some (r9.1, ())
  else
  (span_Key x0.hi).bind fun r10 =>
  (bif r10.1 then
  (span_above r1.1.2.1 r1.1.1.text).bind fun r11 =>
  some (r11.1, ())
  else
  some (false, ())))
  else
  some (false, ())))
noncomputable def span_Right_ce : CE CT Try.prog where
  f := 25
  args := [.cod 4]
  hs := []
  res := .val (.one (.bool))
  outs := []
  m := fun d dh => span_Right d.1
  ok := ce_ok mixedP Try.func25 (by kernel_rfl) (orcOf_ok span_Right_tb) (dr := span_Right_dr) (lps := lpsOf span_Right_lt) (lps_fn (no_loop (by kernel_rfl))) (fun d dh => by kernel_rfl)

def span_Parts_dr : Nat → DrA
  | 7 => ⟨[0, 2, 1, 5, 3, 4, 6], [[], [0], [], [2], [2, 3], [0, 1], [0, 1, 2, 3, 4, 5]], [], [], [], false⟩
  | _ => ⟨[], [], [], [], [], false⟩
noncomputable def span_Parts_tb : List (CE CT Try.prog) := [span_Right_ce]
noncomputable def span_Parts_l1 (a : ((List (DSpan)) × (List UInt8) × (Bool) × (List (DSpan)) × (Int) × (Int) × Unit) × (Unit)) : Option ((((List (DSpan)) × (List UInt8) × (Bool) × (List (DSpan)) × (Int) × (Int) × Unit) × (Unit)) ⊕ ((((Bool) × Unit) × (Unit)) ⊕ (((Bool) × Unit) × (Unit)))) :=
  (bif (decide ((a.1.2.2.2.2.2.1 : Int) < a.1.2.2.2.2.1)) then
  (getI a.1.2.2.2.1 a.1.2.2.2.2.2.1).bind fun e1 =>
  (span_Right e1).bind fun r2 =>
  (bif (!r2.1) then
  some (.inr (.inl ((false, ()), ())))
  else
  (bif (decide (e1.lo ≠ a.1.2.1)) then
  some (.inr (.inl ((false, ()), ())))
  else
  (bif a.1.2.2.1 then
  some (.inr (.inl ((false, ()), ())))
  else
  (bif (decide (e1.hi = ([] : List UInt8))) then
  (bif (decide ((a.1.2.2.2.2.2.1 : Int) < (IntKind.i64.wrap ((a.1.1.length : Int) - 1)))) then
  some (.inr (.inl ((false, ()), ())))
  else
  some (.inl ((a.1.1, e1.hi, (decide (e1.hi = ([] : List UInt8))), a.1.2.2.2.1, a.1.2.2.2.2.1, (IntKind.i64.wrap (a.1.2.2.2.2.2.1 + 1)), ()), ())))
  else
  some (.inl ((a.1.1, e1.hi, (decide (e1.hi = ([] : List UInt8))), a.1.2.2.2.1, a.1.2.2.2.2.1, (IntKind.i64.wrap (a.1.2.2.2.2.2.1 + 1)), ()), ()))))))
  else
  some (.inr (.inr ((a.1.2.2.1, ()), ()))))
noncomputable def span_Parts_e1 : LE CT Try.prog := ⟨3, [0, 3, 4, 7, 8, 9], [.one (.sl 4), .one (.str), .one (.bool), .one (.sl 4), .one (.int .i64), .one (.int .i64)], [], [⟨.ret, [2], [.one (.bool)], []⟩, ⟨.exit 0, [4], [.one (.bool)], []⟩], span_Parts_l1⟩
noncomputable def span_Parts_lt : List (LE CT Try.prog) := [span_Parts_e1]
theorem span_Parts_e1_ok : LeOk span_Parts_e1 (nthL (bodyOf Try.f47) 0) := fun A env h k z hk => le_ok (E := span_Parts_e1) (orcOf_ok span_Parts_tb) (dr := span_Parts_dr) (lps := lpsOf span_Parts_lt) (no_loop (by kernel_rfl)) (fun a => by kernel_rfl) env h k z hk
noncomputable def span_Parts (x0 : List (DSpan)) : Option ((Bool) × (Unit)) :=
  (loopM span_Parts_l1 ((x0, ([] : List UInt8), false, x0, (x0.length : Int), 0, ()), ())).bind fun b1 =>
  (match b1 with
  | .inl b2 =>
  some (b2.1.1, ())
  | .inr b3 =>
  some (b3.1.1, ()))
noncomputable def span_Parts_ce : CE CT Try.prog where
  f := 47
  args := [.one (.sl 4)]
  hs := []
  res := .val (.one (.bool))
  outs := []
  m := fun d dh => span_Parts d.1
  ok := ce_ok mixedP Try.func47 (by kernel_rfl) (orcOf_ok span_Parts_tb) (dr := span_Parts_dr) (lps := lpsOf span_Parts_lt) (lps_fn (lps_of (n := 1) (by kernel_rfl) fun i hi => match i, hi with | 0, _ => lp_ok (E := span_Parts_e1) (by kernel_rfl) span_Parts_e1_ok)) (fun d dh => by kernel_rfl)

def shares_right_dr : Nat → DrA
  | _ => ⟨[], [], [], [], [], false⟩
noncomputable def shares_right_tb : List (CE CT Try.prog) := [slices_ContainsFunc_ce, shares_within_ce, shares_spans_ce, span_Parts_ce]
noncomputable def shares_right_lt : List (LE CT Try.prog) := []
noncomputable def shares_right (x0 : DWork) : Option ((Bool) × (Unit)) :=
  (slices_ContainsFunc x0.shares.list x0).bind fun r1 =>
  (shares_within r1.2.1.shares.epoch 1 1073741824).bind fun r2 =>
  (bif r2.1 then
  (bif (decide (((r1.2.1.shares.list.length : Int) : Int) ≤ 40)) then
  (bif (!r1.1) then
  (shares_spans r1.2.1).bind fun r3 =>
  (span_Parts r3.1).bind fun r4 =>
  some (r4.1, ())
  else
  some (false, ()))
  else
  some (false, ()))
  else
  some (false, ()))
noncomputable def shares_right_ce : CE CT Try.prog where
  f := 24
  args := [.cod 9]
  hs := []
  res := .val (.one (.bool))
  outs := []
  m := fun d dh => shares_right d.1
  ok := ce_ok mixedP Try.func24 (by kernel_rfl) (orcOf_ok shares_right_tb) (dr := shares_right_dr) (lps := lpsOf shares_right_lt) (lps_fn (no_loop (by kernel_rfl))) (fun d dh => by kernel_rfl)

def span_over_dr : Nat → DrA
  | _ => ⟨[], [], [], [], [], false⟩
noncomputable def span_over_tb : List (CE CT Try.prog) := [span_none_ce, span_compare_ce]
noncomputable def span_over_lt : List (LE CT Try.prog) := []
noncomputable def span_over (x0 : DHigh) (x1 : DHigh) : Option ((Bool) × (Unit)) :=
  (span_none x0.text).bind fun r1 =>
  (bif r1.1 then
  some (true, ())
  else
  (span_none x1.text).bind fun r2 =>
  (bif (!r2.1) then
  (span_compare x0.text x1.text).bind fun r3 =>
  some ((decide ((0 : Int) ≤ r3.1)), ())
  else
  some (false, ())))
noncomputable def span_over_ce : CE CT Try.prog where
  f := 40
  args := [.cod 12, .cod 12]
  hs := []
  res := .val (.one (.bool))
  outs := []
  m := fun d dh => span_over d.1 d.2.1
  ok := ce_ok mixedP Try.func40 (by kernel_rfl) (orcOf_ok span_over_tb) (dr := span_over_dr) (lps := lpsOf span_over_lt) (lps_fn (no_loop (by kernel_rfl))) (fun d dh => by kernel_rfl)

def span_Within_dr : Nat → DrA
  | _ => ⟨[], [], [], [], [], false⟩
noncomputable def span_Within_tb : List (CE CT Try.prog) := [span_ends_ce, span_Right_ce, span_compare_ce, span_over_ce]
noncomputable def span_Within_lt : List (LE CT Try.prog) := []
noncomputable def span_Within (x0 : DSpan) (x1 : DSpan) : Option ((Bool) × (Unit)) :=
  (span_ends x0).bind fun r1 =>
  (span_ends x1).bind fun r2 =>
  (span_Right x0).bind fun r3 =>
  (bif r3.1 then
  (span_Right x1).bind fun r4 =>
  (bif r4.1 then
  (span_compare r2.1.1.text r1.1.1.text).bind fun r5 =>
  (bif (decide ((r5.1 : Int) ≤ 0)) then
  (span_over r2.1.2.1 r1.1.2.1).bind fun r6 =>
  some (r6.1, ())
  else
  some (false, ()))
  else
  some (false, ()))
  else
  some (false, ()))
noncomputable def span_Within_ce : CE CT Try.prog where
  f := 18
  args := [.cod 4, .cod 4]
  hs := []
  res := .val (.one (.bool))
  outs := []
  m := fun d dh => span_Within d.1 d.2.1
  ok := ce_ok mixedP Try.func18 (by kernel_rfl) (orcOf_ok span_Within_tb) (dr := span_Within_dr) (lps := lpsOf span_Within_lt) (lps_fn (no_loop (by kernel_rfl))) (fun d dh => by kernel_rfl)

def shares_Turn1_dr : Nat → DrA
  | _ => ⟨[], [], [], [], [], false⟩
noncomputable def shares_Turn1_tb : List (CE CT Try.prog) := [span_Within_ce]
noncomputable def shares_Turn1_lt : List (LE CT Try.prog) := []
noncomputable def shares_Turn1 (x0 : DSpan) (h0 : DSpan) : Option ((Bool) × ((DSpan) × Unit)) :=
  (span_Within h0 x0).bind fun r1 =>
  some (r1.1, (h0, ()))
noncomputable def shares_Turn1_ce : CE CT Try.prog where
  f := 23
  args := [.cod 4, .one (.ptr 0 0)]
  hs := [.cobj 29 4]
  res := .val (.one (.bool))
  outs := [.cobj 29 4]
  m := fun d dh => shares_Turn1 d.1 dh.1
  ok := ce_ok mixedP Try.func23 (by kernel_rfl) (orcOf_ok shares_Turn1_tb) (dr := shares_Turn1_dr) (lps := lpsOf shares_Turn1_lt) (lps_fn (no_loop (by kernel_rfl))) (fun d dh => by kernel_rfl)

def shares_at1_dr : Nat → DrA
  | _ => ⟨[], [], [], [], [], false⟩
noncomputable def shares_at1_tb : List (CE CT Try.prog) := [shares_Turn1_ce]
noncomputable def shares_at1_lt : List (LE CT Try.prog) := []
noncomputable def shares_at1 (x0 : DShare) (h0 : (Unit) × Unit) (h1 : DSpan) : Option ((Bool) × (((Unit) × Unit) × (DSpan) × Unit)) :=
  (shares_Turn1 x0.span h1).bind fun r1 =>
  some (r1.1, (((), ()), r1.2.1, ()))
noncomputable def shares_at1_ce : CE CT Try.prog where
  f := 44
  args := [.cod 5, .one (.ptr 0 0)]
  hs := [.obj 58 [.clo 23 [1]], .cobj 29 4]
  res := .val (.one (.bool))
  outs := [.obj 58 [.clo 23 [1]], .cobj 29 4]
  m := fun d dh => shares_at1 d.1 dh.1 dh.2.1
  ok := ce_ok mixedP Try.func44 (by kernel_rfl) (orcOf_ok shares_at1_tb) (dr := shares_at1_dr) (lps := lpsOf shares_at1_lt) (lps_fn (no_loop (by kernel_rfl))) (fun d dh => by kernel_rfl)

def slices_IndexFunc_2_dr : Nat → DrA
  | _ => ⟨[], [], [], [], [], false⟩
noncomputable def slices_IndexFunc_2_tb : List (CE CT Try.prog) := [shares_at1_ce]
noncomputable def slices_IndexFunc_2_l1 (a : ((List (DShare)) × (Unit) × (Int) × (Int) × Unit) × (((Unit) × Unit) × (DSpan) × Unit)) : Option ((((List (DShare)) × (Unit) × (Int) × (Int) × Unit) × (((Unit) × Unit) × (DSpan) × Unit)) ⊕ ((((Int) × Unit) × (((Unit) × Unit) × (DSpan) × Unit)) ⊕ ((Unit) × (((Unit) × Unit) × (DSpan) × Unit)))) :=
  (bif (decide ((a.1.2.2.2.1 : Int) < a.1.2.2.1)) then
  (getI a.1.1 a.1.2.2.2.1).bind fun e1 =>
  (shares_at1 e1 ((), ()) a.2.2.1).bind fun r2 =>
  (bif r2.1 then
  some (.inr (.inl ((a.1.2.2.2.1, ()), (((), ()), r2.2.2.1, ()))))
  else
  some (.inl ((a.1.1, (), a.1.2.2.1, (IntKind.i64.wrap (a.1.2.2.2.1 + 1)), ()), (((), ()), r2.2.2.1, ()))))
  else
  some (.inr (.inr ((), (((), ()), a.2.2.1, ())))))
noncomputable def slices_IndexFunc_2_e1 : LE CT Try.prog := ⟨2, [0, 1, 7, 8], [.one (.sl 5), .one (.clo 44 [0]), .one (.int .i64), .one (.int .i64)], [.obj 58 [.clo 23 [1]], .cobj 29 4], [⟨.ret, [4], [.one (.int .i64)], [.obj 58 [.clo 23 [1]], .cobj 29 4]⟩, ⟨.exit 0, [], [], [.obj 58 [.clo 23 [1]], .cobj 29 4]⟩], slices_IndexFunc_2_l1⟩
noncomputable def slices_IndexFunc_2_lt : List (LE CT Try.prog) := [slices_IndexFunc_2_e1]
theorem slices_IndexFunc_2_e1_ok : LeOk slices_IndexFunc_2_e1 (nthL (bodyOf Try.f43) 0) := fun A env h k z hk => le_ok (E := slices_IndexFunc_2_e1) (orcOf_ok slices_IndexFunc_2_tb) (dr := slices_IndexFunc_2_dr) (lps := lpsOf slices_IndexFunc_2_lt) (no_loop (by kernel_rfl)) (fun a => by kernel_rfl) env h k z hk
noncomputable def slices_IndexFunc_2 (x0 : List (DShare)) (h0 : (Unit) × Unit) (h1 : DSpan) : Option ((Int) × (((Unit) × Unit) × (DSpan) × Unit)) :=
  (loopM slices_IndexFunc_2_l1 ((x0, (), (x0.length : Int), 0, ()), (((), ()), h1, ()))).bind fun b1 =>
  (match b1 with
  | .inl b2 =>
  some (b2.1.1, (((), ()), b2.2.2.1, ()))
  | .inr b3 =>
  some ((-1), (((), ()), b3.2.2.1, ())))
noncomputable def slices_IndexFunc_2_ce : CE CT Try.prog where
  f := 43
  args := [.one (.sl 5), .one (.clo 44 [0])]
  hs := [.obj 58 [.clo 23 [1]], .cobj 29 4]
  res := .val (.one (.int .i64))
  outs := [.obj 58 [.clo 23 [1]], .cobj 29 4]
  m := fun d dh => slices_IndexFunc_2 d.1 dh.1 dh.2.1
  ok := ce_ok mixedP Try.func43 (by kernel_rfl) (orcOf_ok slices_IndexFunc_2_tb) (dr := slices_IndexFunc_2_dr) (lps := lpsOf slices_IndexFunc_2_lt) (lps_fn (lps_of (n := 1) (by kernel_rfl) fun i hi => match i, hi with | 0, _ => lp_ok (E := slices_IndexFunc_2_e1) (by kernel_rfl) slices_IndexFunc_2_e1_ok)) (fun d dh => by kernel_rfl)

def shares_at_dr : Nat → DrA
  | _ => ⟨[], [], [], [], [], false⟩
noncomputable def shares_at_tb : List (CE CT Try.prog) := [shares_right_ce, slices_IndexFunc_2_ce]
noncomputable def shares_at_lt : List (LE CT Try.prog) := []
noncomputable def shares_at (x0 : DWork) (h0 : DSpan) : Option ((Int) × ((DSpan) × Unit)) :=
  (shares_right x0).bind fun r1 =>
  (bif (!r1.1) then
  some ((-1), (h0, ()))
  else
  (slices_IndexFunc_2 x0.shares.list ((), ()) h0).bind fun r2 =>
  some (r2.1, (r2.2.2.1, ())))
noncomputable def shares_at_ce : CE CT Try.prog where
  f := 22
  args := [.cod 9, .one (.clo 23 [0])]
  hs := [.cobj 29 4]
  res := .val (.one (.int .i64))
  outs := [.cobj 29 4]
  m := fun d dh => shares_at d.1 dh.1
  ok := ce_ok mixedP Try.func22 (by kernel_rfl) (orcOf_ok shares_at_tb) (dr := shares_at_dr) (lps := lpsOf shares_at_lt) (lps_fn (no_loop (by kernel_rfl))) (fun d dh => by kernel_rfl)

noncomputable def cloneA27 (x : List (DShare)) : Option (Nat × ((List (DShare)) × Unit)) :=
  if x.length ≠ 0 ∧ x.length ≤ 140737488355328 ∧ x.length * 48 ≤ 140737488355328 then some (x.length, (x, ())) else none
noncomputable def cloneA27_ce : CE CT Try.prog where
  f := 27
  args := [.one (.sl 5)]
  hs := []
  res := .val (.one (.asz 6 0))
  outs := [.arr 41 6 true]
  m := fun d dh => cloneA27 d.1
  ok := fun d dh r hr => by
    unfold cloneA27 at hr
    split at hr
    · rename_i hroom
      injection hr with hr
      subst hr
      exact cloneF_tr mixedP Try.func27 (by kernel_rfl) rfl rfl (zv := .agg #[.string ⟨#[]⟩, .string ⟨#[]⟩, .int .i64 0, .int .i64 0]) (he := by kernel_rfl) (hsz := by kernel_rfl) (hz := by kernel_rfl) (hby := by kernel_rfl) rfl rfl (F := 6) (zt := ((⟨(⟨([] : List UInt8), ([] : List UInt8)⟩ : DSpan), 0, 0⟩ : DShare) : DShare)) d.1 d.1 (by kernel_rfl) rfl rfl (fun _ _ _ h => h) hroom.1 hroom.2
    · cases hr

def slices_Values_dr : Nat → DrA
  | _ => ⟨[], [], [], [], [], false⟩
noncomputable def slices_Values_tb : List (CE CT Try.prog) := []
noncomputable def slices_Values_lt : List (LE CT Try.prog) := []
noncomputable def slices_Values (x0 : List (List UInt8)) : Option ((Unit) × ((List (List UInt8)) × Unit)) :=
  some ((), (x0, ()))
noncomputable def slices_Values_ce : CE CT Try.prog where
  f := 65
  args := [.one (.sl 2)]
  hs := []
  res := .val (.one (.clo 81 [0]))
  outs := [.cobj 37 3]
  m := fun d dh => slices_Values d.1
  ok := ce_ok mixedP Try.func65 (by kernel_rfl) (orcOf_ok slices_Values_tb) (dr := slices_Values_dr) (lps := lpsOf slices_Values_lt) (lps_fn (no_loop (by kernel_rfl))) (fun d dh => by kernel_rfl)

def slices_Collect_dr : Nat → DrA
  | _ => ⟨[], [], [], [], [], false⟩
noncomputable def slices_Collect_tb : List (CE CT Try.prog) := [appendSeq_ce]
noncomputable def slices_Collect_lt : List (LE CT Try.prog) := []
noncomputable def slices_Collect (h0 : List (List UInt8)) : Option ((Nat × Nat) × ((List (List UInt8)) × (List (List UInt8)) × Unit)) :=
  (appendSeq h0).bind fun r1 =>
  some ((r1.1.1, r1.1.2), (r1.2.1, r1.2.2.1, ()))
noncomputable def slices_Collect_ce : CE CT Try.prog where
  f := 79
  args := [.one (.clo 81 [0])]
  hs := [.cobj 37 3]
  res := .val (.one (.asu 2 1))
  outs := [.cobj 37 3, .arr 9 2 false]
  m := fun d dh => slices_Collect dh.1
  ok := ce_ok mixedP Try.func79 (by kernel_rfl) (orcOf_ok slices_Collect_tb) (dr := slices_Collect_dr) (lps := lpsOf slices_Collect_lt) (lps_fn (no_loop (by kernel_rfl))) (fun d dh => by kernel_rfl)

def bits_Len64_dr : Nat → DrA
  | _ => ⟨[], [], [], [], [], false⟩
noncomputable def bits_Len64_tb : List (CE CT Try.prog) := []
noncomputable def bits_Len64_lt : List (LE CT Try.prog) := []
noncomputable def bits_Len64 (x0 : Int) : Option ((Int) × (Unit)) :=
  (bif (decide ((4294967296 : Int) ≤ x0)) then
  (bif (decide ((65536 : Int) ≤ ((x0 : Int).fdiv (2 ^ min (32 : Int).toNat (IntKind.u64.bits))))) then
  let y1 : Int := ((((x0 : Int).fdiv (2 ^ min (32 : Int).toNat (IntKind.u64.bits))) : Int).fdiv (2 ^ min (16 : Int).toNat (IntKind.u64.bits)))
  (bif (decide ((256 : Int) ≤ y1)) then
  (getI ([0, 1, 2, 2, 3, 3, 3, 3, 4, 4, 4, 4, 4, 4, 4, 4, 5, 5, 5, 5, 5, 5, 5, 5, 5, 5, 5, 5, 5, 5, 5, 5, 6, 6, 6, 6, 6, 6, 6, 6, 6, 6, 6, 6, 6, 6, 6, 6, 6, 6, 6, 6, 6, 6, 6, 6, 6, 6, 6, 6, 6, 6, 6, 6, 7, 7, 7, 7, 7, 7, 7, 7, 7, 7, 7, 7, 7, 7, 7, 7, 7, 7, 7, 7, 7, 7, 7, 7, 7, 7, 7, 7, 7, 7, 7, 7, 7, 7, 7, 7, 7, 7, 7, 7, 7, 7, 7, 7, 7, 7, 7, 7, 7, 7, 7, 7, 7, 7, 7, 7, 7, 7, 7, 7, 7, 7, 7, 7, 8, 8, 8, 8, 8, 8, 8, 8, 8, 8, 8, 8, 8, 8, 8, 8, 8, 8, 8, 8, 8, 8, 8, 8, 8, 8, 8, 8, 8, 8, 8, 8, 8, 8, 8, 8, 8, 8, 8, 8, 8, 8, 8, 8, 8, 8, 8, 8, 8, 8, 8, 8, 8, 8, 8, 8, 8, 8, 8, 8, 8, 8, 8, 8, 8, 8, 8, 8, 8, 8, 8, 8, 8, 8, 8, 8, 8, 8, 8, 8, 8, 8, 8, 8, 8, 8, 8, 8, 8, 8, 8, 8, 8, 8, 8, 8, 8, 8, 8, 8, 8, 8, 8, 8, 8, 8, 8, 8, 8, 8, 8, 8, 8, 8, 8, 8, 8, 8, 8, 8, 8, 8, 8, 8, 8, 8, 8, 8] : List UInt8) (IntKind.u8.wrap ((y1 : Int).fdiv (2 ^ min (8 : Int).toNat (IntKind.u64.bits))))).bind fun e2 =>
  let y3 : Int := (IntKind.i64.wrap ((IntKind.i64.wrap ((IntKind.i64.wrap (32 + 16)) + 8)) + (IntKind.i64.wrap (e2.toNat : Int))))
  some (y3, ())
  else
  (getI ([0, 1, 2, 2, 3, 3, 3, 3, 4, 4, 4, 4, 4, 4, 4, 4, 5, 5, 5, 5, 5, 5, 5, 5, 5, 5, 5, 5, 5, 5, 5, 5, 6, 6, 6, 6, 6, 6, 6, 6, 6, 6, 6, 6, 6, 6, 6, 6, 6, 6, 6, 6, 6, 6, 6, 6, 6, 6, 6, 6, 6, 6, 6, 6, 7, 7, 7, 7, 7, 7, 7, 7, 7, 7, 7, 7, 7, 7, 7, 7, 7, 7, 7, 7, 7, 7, 7, 7, 7, 7, 7, 7, 7, 7, 7, 7, 7, 7, 7, 7, 7, 7, 7, 7, 7, 7, 7, 7, 7, 7, 7, 7, 7, 7, 7, 7, 7, 7, 7, 7, 7, 7, 7, 7, 7, 7, 7, 7, 8, 8, 8, 8, 8, 8, 8, 8, 8, 8, 8, 8, 8, 8, 8, 8, 8, 8, 8, 8, 8, 8, 8, 8, 8, 8, 8, 8, 8, 8, 8, 8, 8, 8, 8, 8, 8, 8, 8, 8, 8, 8, 8, 8, 8, 8, 8, 8, 8, 8, 8, 8, 8, 8, 8, 8, 8, 8, 8, 8, 8, 8, 8, 8, 8, 8, 8, 8, 8, 8, 8, 8, 8, 8, 8, 8, 8, 8, 8, 8, 8, 8, 8, 8, 8, 8, 8, 8, 8, 8, 8, 8, 8, 8, 8, 8, 8, 8, 8, 8, 8, 8, 8, 8, 8, 8, 8, 8, 8, 8, 8, 8, 8, 8, 8, 8, 8, 8, 8, 8, 8, 8, 8, 8, 8, 8, 8, 8] : List UInt8) (IntKind.u8.wrap y1)).bind fun e4 =>
  let y5 : Int := (IntKind.i64.wrap ((IntKind.i64.wrap (32 + 16)) + (IntKind.i64.wrap (e4.toNat : Int))))
  some (y5, ()))
  else
  (bif (decide ((256 : Int) ≤ ((x0 : Int).fdiv (2 ^ min (32 : Int).toNat (IntKind.u64.bits))))) then
  let y6 : Int := ((((x0 : Int).fdiv (2 ^ min (32 : Int).toNat (IntKind.u64.bits))) : Int).fdiv (2 ^ min (8 : Int).toNat (IntKind.u64.bits)))
  (getI ([0, 1, 2, 2, 3, 3, 3, 3, 4, 4, 4, 4, 4, 4, 4, 4, 5, 5, 5, 5, 5, 5, 5, 5, 5, 5, 5, 5, 5, 5, 5, 5, 6, 6, 6, 6, 6, 6, 6, 6, 6, 6, 6, 6, 6, 6, 6, 6, 6, 6, 6, 6, 6, 6, 6, 6, 6, 6, 6, 6, 6, 6, 6, 6, 7, 7, 7, 7, 7, 7, 7, 7, 7, 7, 7, 7, 7, 7, 7, 7, 7, 7, 7, 7, 7, 7, 7, 7, 7, 7, 7, 7, 7, 7, 7, 7, 7, 7, 7, 7, 7, 7, 7, 7, 7, 7, 7, 7, 7, 7, 7, 7, 7, 7, 7, 7, 7, 7, 7, 7, 7, 7, 7, 7, 7, 7, 7, 7, 8, 8, 8, 8, 8, 8, 8, 8, 8, 8, 8, 8, 8, 8, 8, 8, 8, 8, 8, 8, 8, 8, 8, 8, 8, 8, 8, 8, 8, 8, 8, 8, 8, 8, 8, 8, 8, 8, 8, 8, 8, 8, 8, 8, 8, 8, 8, 8, 8, 8, 8, 8, 8, 8, 8, 8, 8, 8, 8, 8, 8, 8, 8, 8, 8, 8, 8, 8, 8, 8, 8, 8, 8, 8, 8, 8, 8, 8, 8, 8, 8, 8, 8, 8, 8, 8, 8, 8, 8, 8, 8, 8, 8, 8, 8, 8, 8, 8, 8, 8, 8, 8, 8, 8, 8, 8, 8, 8, 8, 8, 8, 8, 8, 8, 8, 8, 8, 8, 8, 8, 8, 8, 8, 8, 8, 8, 8, 8] : List UInt8) (IntKind.u8.wrap y6)).bind fun e7 =>
  let y8 : Int := (IntKind.i64.wrap ((IntKind.i64.wrap (32 + 8)) + (IntKind.i64.wrap (e7.toNat : Int))))
  some (y8, ())
  else
  (getI ([0, 1, 2, 2, 3, 3, 3, 3, 4, 4, 4, 4, 4, 4, 4, 4, 5, 5, 5, 5, 5, 5, 5, 5, 5, 5, 5, 5, 5, 5, 5, 5, 6, 6, 6, 6, 6, 6, 6, 6, 6, 6, 6, 6, 6, 6, 6, 6, 6, 6, 6, 6, 6, 6, 6, 6, 6, 6, 6, 6, 6, 6, 6, 6, 7, 7, 7, 7, 7, 7, 7, 7, 7, 7, 7, 7, 7, 7, 7, 7, 7, 7, 7, 7, 7, 7, 7, 7, 7, 7, 7, 7, 7, 7, 7, 7, 7, 7, 7, 7, 7, 7, 7, 7, 7, 7, 7, 7, 7, 7, 7, 7, 7, 7, 7, 7, 7, 7, 7, 7, 7, 7, 7, 7, 7, 7, 7, 7, 8, 8, 8, 8, 8, 8, 8, 8, 8, 8, 8, 8, 8, 8, 8, 8, 8, 8, 8, 8, 8, 8, 8, 8, 8, 8, 8, 8, 8, 8, 8, 8, 8, 8, 8, 8, 8, 8, 8, 8, 8, 8, 8, 8, 8, 8, 8, 8, 8, 8, 8, 8, 8, 8, 8, 8, 8, 8, 8, 8, 8, 8, 8, 8, 8, 8, 8, 8, 8, 8, 8, 8, 8, 8, 8, 8, 8, 8, 8, 8, 8, 8, 8, 8, 8, 8, 8, 8, 8, 8, 8, 8, 8, 8, 8, 8, 8, 8, 8, 8, 8, 8, 8, 8, 8, 8, 8, 8, 8, 8, 8, 8, 8, 8, 8, 8, 8, 8, 8, 8, 8, 8, 8, 8, 8, 8, 8, 8] : List UInt8) (IntKind.u8.wrap ((x0 : Int).fdiv (2 ^ min (32 : Int).toNat (IntKind.u64.bits))))).bind fun e9 =>
  some ((IntKind.i64.wrap (32 + (IntKind.i64.wrap (e9.toNat : Int)))), ())))
  else
  (bif (decide ((65536 : Int) ≤ x0)) then
  (bif (decide ((256 : Int) ≤ ((x0 : Int).fdiv (2 ^ min (16 : Int).toNat (IntKind.u64.bits))))) then
  let y10 : Int := ((((x0 : Int).fdiv (2 ^ min (16 : Int).toNat (IntKind.u64.bits))) : Int).fdiv (2 ^ min (8 : Int).toNat (IntKind.u64.bits)))
  (getI ([0, 1, 2, 2, 3, 3, 3, 3, 4, 4, 4, 4, 4, 4, 4, 4, 5, 5, 5, 5, 5, 5, 5, 5, 5, 5, 5, 5, 5, 5, 5, 5, 6, 6, 6, 6, 6, 6, 6, 6, 6, 6, 6, 6, 6, 6, 6, 6, 6, 6, 6, 6, 6, 6, 6, 6, 6, 6, 6, 6, 6, 6, 6, 6, 7, 7, 7, 7, 7, 7, 7, 7, 7, 7, 7, 7, 7, 7, 7, 7, 7, 7, 7, 7, 7, 7, 7, 7, 7, 7, 7, 7, 7, 7, 7, 7, 7, 7, 7, 7, 7, 7, 7, 7, 7, 7, 7, 7, 7, 7, 7, 7, 7, 7, 7, 7, 7, 7, 7, 7, 7, 7, 7, 7, 7, 7, 7, 7, 8, 8, 8, 8, 8, 8, 8, 8, 8, 8, 8, 8, 8, 8, 8, 8, 8, 8, 8, 8, 8, 8, 8, 8, 8, 8, 8, 8, 8, 8, 8, 8, 8, 8, 8, 8, 8, 8, 8, 8, 8, 8, 8, 8, 8, 8, 8, 8, 8, 8, 8, 8, 8, 8, 8, 8, 8, 8, 8, 8, 8, 8, 8, 8, 8, 8, 8, 8, 8, 8, 8, 8, 8, 8, 8, 8, 8, 8, 8, 8, 8, 8, 8, 8, 8, 8, 8, 8, 8, 8, 8, 8, 8, 8, 8, 8, 8, 8, 8, 8, 8, 8, 8, 8, 8, 8, 8, 8, 8, 8, 8, 8, 8, 8, 8, 8, 8, 8, 8, 8, 8, 8, 8, 8, 8, 8, 8, 8] : List UInt8) (IntKind.u8.wrap y10)).bind fun e11 =>
  let y12 : Int := (IntKind.i64.wrap ((IntKind.i64.wrap ((IntKind.i64.wrap (0 + 16)) + 8)) + (IntKind.i64.wrap (e11.toNat : Int))))
  some (y12, ())
  else
  (getI ([0, 1, 2, 2, 3, 3, 3, 3, 4, 4, 4, 4, 4, 4, 4, 4, 5, 5, 5, 5, 5, 5, 5, 5, 5, 5, 5, 5, 5, 5, 5, 5, 6, 6, 6, 6, 6, 6, 6, 6, 6, 6, 6, 6, 6, 6, 6, 6, 6, 6, 6, 6, 6, 6, 6, 6, 6, 6, 6, 6, 6, 6, 6, 6, 7, 7, 7, 7, 7, 7, 7, 7, 7, 7, 7, 7, 7, 7, 7, 7, 7, 7, 7, 7, 7, 7, 7, 7, 7, 7, 7, 7, 7, 7, 7, 7, 7, 7, 7, 7, 7, 7, 7, 7, 7, 7, 7, 7, 7, 7, 7, 7, 7, 7, 7, 7, 7, 7, 7, 7, 7, 7, 7, 7, 7, 7, 7, 7, 8, 8, 8, 8, 8, 8, 8, 8, 8, 8, 8, 8, 8, 8, 8, 8, 8, 8, 8, 8, 8, 8, 8, 8, 8, 8, 8, 8, 8, 8, 8, 8, 8, 8, 8, 8, 8, 8, 8, 8, 8, 8, 8, 8, 8, 8, 8, 8, 8, 8, 8, 8, 8, 8, 8, 8, 8, 8, 8, 8, 8, 8, 8, 8, 8, 8, 8, 8, 8, 8, 8, 8, 8, 8, 8, 8, 8, 8, 8, 8, 8, 8, 8, 8, 8, 8, 8, 8, 8, 8, 8, 8, 8, 8, 8, 8, 8, 8, 8, 8, 8, 8, 8, 8, 8, 8, 8, 8, 8, 8, 8, 8, 8, 8, 8, 8, 8, 8, 8, 8, 8, 8, 8, 8, 8, 8, 8, 8] : List UInt8) (IntKind.u8.wrap ((x0 : Int).fdiv (2 ^ min (16 : Int).toNat (IntKind.u64.bits))))).bind fun e13 =>
  let y14 : Int := (IntKind.i64.wrap ((IntKind.i64.wrap (0 + 16)) + (IntKind.i64.wrap (e13.toNat : Int))))
  some (y14, ()))
  else
  (bif (decide ((256 : Int) ≤ x0)) then
  (getI ([0, 1, 2, 2, 3, 3, 3, 3, 4, 4, 4, 4, 4, 4, 4, 4, 5, 5, 5, 5, 5, 5, 5, 5, 5, 5, 5, 5, 5, 5, 5, 5, 6, 6, 6, 6, 6, 6, 6, 6, 6, 6, 6, 6, 6, 6, 6, 6, 6, 6, 6, 6, 6, 6, 6, 6, 6, 6, 6, 6, 6, 6, 6, 6, 7, 7, 7, 7, 7, 7, 7, 7, 7, 7, 7, 7, 7, 7, 7, 7, 7, 7, 7, 7, 7, 7, 7, 7, 7, 7, 7, 7, 7, 7, 7, 7, 7, 7, 7, 7, 7, 7, 7, 7, 7, 7, 7, 7, 7, 7, 7, 7, 7, 7, 7, 7, 7, 7, 7, 7, 7, 7, 7, 7, 7, 7, 7, 7, 8, 8, 8, 8, 8, 8, 8, 8, 8, 8, 8, 8, 8, 8, 8, 8, 8, 8, 8, 8, 8, 8, 8, 8, 8, 8, 8, 8, 8, 8, 8, 8, 8, 8, 8, 8, 8, 8, 8, 8, 8, 8, 8, 8, 8, 8, 8, 8, 8, 8, 8, 8, 8, 8, 8, 8, 8, 8, 8, 8, 8, 8, 8, 8, 8, 8, 8, 8, 8, 8, 8, 8, 8, 8, 8, 8, 8, 8, 8, 8, 8, 8, 8, 8, 8, 8, 8, 8, 8, 8, 8, 8, 8, 8, 8, 8, 8, 8, 8, 8, 8, 8, 8, 8, 8, 8, 8, 8, 8, 8, 8, 8, 8, 8, 8, 8, 8, 8, 8, 8, 8, 8, 8, 8, 8, 8, 8, 8] : List UInt8) (IntKind.u8.wrap ((x0 : Int).fdiv (2 ^ min (8 : Int).toNat (IntKind.u64.bits))))).bind fun e15 =>
  let y16 : Int := (IntKind.i64.wrap ((IntKind.i64.wrap (0 + 8)) + (IntKind.i64.wrap (e15.toNat : Int))))
  some (y16, ())
  else
  (getI ([0, 1, 2, 2, 3, 3, 3, 3, 4, 4, 4, 4, 4, 4, 4, 4, 5, 5, 5, 5, 5, 5, 5, 5, 5, 5, 5, 5, 5, 5, 5, 5, 6, 6, 6, 6, 6, 6, 6, 6, 6, 6, 6, 6, 6, 6, 6, 6, 6, 6, 6, 6, 6, 6, 6, 6, 6, 6, 6, 6, 6, 6, 6, 6, 7, 7, 7, 7, 7, 7, 7, 7, 7, 7, 7, 7, 7, 7, 7, 7, 7, 7, 7, 7, 7, 7, 7, 7, 7, 7, 7, 7, 7, 7, 7, 7, 7, 7, 7, 7, 7, 7, 7, 7, 7, 7, 7, 7, 7, 7, 7, 7, 7, 7, 7, 7, 7, 7, 7, 7, 7, 7, 7, 7, 7, 7, 7, 7, 8, 8, 8, 8, 8, 8, 8, 8, 8, 8, 8, 8, 8, 8, 8, 8, 8, 8, 8, 8, 8, 8, 8, 8, 8, 8, 8, 8, 8, 8, 8, 8, 8, 8, 8, 8, 8, 8, 8, 8, 8, 8, 8, 8, 8, 8, 8, 8, 8, 8, 8, 8, 8, 8, 8, 8, 8, 8, 8, 8, 8, 8, 8, 8, 8, 8, 8, 8, 8, 8, 8, 8, 8, 8, 8, 8, 8, 8, 8, 8, 8, 8, 8, 8, 8, 8, 8, 8, 8, 8, 8, 8, 8, 8, 8, 8, 8, 8, 8, 8, 8, 8, 8, 8, 8, 8, 8, 8, 8, 8, 8, 8, 8, 8, 8, 8, 8, 8, 8, 8, 8, 8, 8, 8, 8, 8, 8, 8] : List UInt8) (IntKind.u8.wrap x0)).bind fun e17 =>
  some ((IntKind.i64.wrap (0 + (IntKind.i64.wrap (e17.toNat : Int)))), ()))))
noncomputable def bits_Len64_ce : CE CT Try.prog where
  f := 77
  args := [.one (.int .u64)]
  hs := []
  res := .val (.one (.int .i64))
  outs := []
  m := fun d dh => bits_Len64 d.1
  ok := ce_ok mixedP Try.func77 (by kernel_rfl) (orcOf_ok bits_Len64_tb) (dr := bits_Len64_dr) (lps := lpsOf bits_Len64_lt) (lps_fn (no_loop (by kernel_rfl))) (fun d dh => by kernel_rfl)

def bits_Len_dr : Nat → DrA
  | _ => ⟨[], [], [], [], [], false⟩
noncomputable def bits_Len_tb : List (CE CT Try.prog) := [bits_Len64_ce]
noncomputable def bits_Len_lt : List (LE CT Try.prog) := []
noncomputable def bits_Len (x0 : Int) : Option ((Int) × (Unit)) :=
  (bits_Len64 x0).bind fun r1 =>
  some (r1.1, ())
noncomputable def bits_Len_ce : CE CT Try.prog where
  f := 61
  args := [.one (.int .u64)]
  hs := []
  res := .val (.one (.int .i64))
  outs := []
  m := fun d dh => bits_Len d.1
  ok := ce_ok mixedP Try.func61 (by kernel_rfl) (orcOf_ok bits_Len_tb) (dr := bits_Len_dr) (lps := lpsOf bits_Len_lt) (lps_fn (no_loop (by kernel_rfl))) (fun d dh => by kernel_rfl)

def cmp_Less_dr : Nat → DrA
  | _ => ⟨[], [], [], [], [], false⟩
noncomputable def cmp_Less_tb : List (CE CT Try.prog) := [cmp_isNaN_ce]
noncomputable def cmp_Less_lt : List (LE CT Try.prog) := []
noncomputable def cmp_Less (x0 : List UInt8) (x1 : List UInt8) : Option ((Bool) × (Unit)) :=
  (cmp_isNaN x0).bind fun r1 =>
  (bif r1.1 then
  (cmp_isNaN x1).bind fun r2 =>
  (bif (!r2.1) then
  some (true, ())
  else
  some ((decide (x0 < x1)), ()))
  else
  some ((decide (x0 < x1)), ()))
noncomputable def cmp_Less_ce : CE CT Try.prog where
  f := 97
  args := [.one (.str), .one (.str)]
  hs := []
  res := .val (.one (.bool))
  outs := []
  m := fun d dh => cmp_Less d.1 d.2.1
  ok := ce_ok mixedP Try.func97 (by kernel_rfl) (orcOf_ok cmp_Less_tb) (dr := cmp_Less_dr) (lps := lpsOf cmp_Less_lt) (lps_fn (no_loop (by kernel_rfl))) (fun d dh => by kernel_rfl)

def slices_insertionSortOrdered_dr : Nat → DrA
  | 4 => ⟨[0, 1, 2, 3, 4, 5, 6, 8, 9, 10, 11, 7, 12, 13, 14], [[], [], [0, 1], [0, 1, 2], [0, 1, 2, 3], [0, 1, 2, 3], [0, 1, 2, 3, 4, 5], [0, 1, 2, 3, 4, 5, 6], [0, 1, 2, 3], [0, 1, 2, 3], [0, 1, 2, 3, 9], [0, 1, 2, 3, 8, 9, 10], [0, 1, 2, 3, 8, 9, 10, 11], [0, 1, 2, 3, 4, 5, 6, 7, 8, 9, 10, 11, 12], [0, 1, 2, 3, 4, 5, 6, 7, 8, 9, 10, 11, 12, 13]], [], [], [], false⟩
  | 6 => ⟨[0, 1, 2, 3, 4, 5, 6, 7, 8, 10, 11, 12, 9, 13, 14, 15, 16, 17], [[], [], [], [], [3], [], [], [6], [5, 6, 7], [5, 6, 7, 8], [], [], [10, 11], [10, 11, 12], [0, 1, 5, 6, 7, 8, 9, 10, 11, 12, 13], [0, 1, 5, 6, 7, 8, 9, 10, 11, 12, 13, 14], [0, 1, 2, 3, 4, 5, 6, 7, 8, 9, 10, 11, 12, 13, 14, 15], [0, 1, 2, 3, 4, 5, 6, 7, 8, 9, 10, 11, 12, 13, 14, 15, 16]], [], [], [], false⟩
  | _ => ⟨[], [], [], [], [], false⟩
noncomputable def slices_insertionSortOrdered_tb : List (CE CT Try.prog) := [cmp_Less_ce]
noncomputable def slices_insertionSortOrdered_l2 (a : ((Nat × Nat) × (Int) × (Int) × (Int) × (Int) × Unit) × ((List (List UInt8)) × Unit)) : Option ((((Nat × Nat) × (Int) × (Int) × (Int) × (Int) × Unit) × ((List (List UInt8)) × Unit)) ⊕ ((((Nat × Nat) × (Int) × (Int) × (Int) × Unit) × ((List (List UInt8)) × Unit)))) :=
  (bif (decide ((a.1.2.1 : Int) < a.1.2.2.2.2.1)) then
  (if 0 ≤ (a.1.2.2.2.2.1 : Int) ∧ (a.1.2.2.2.2.1 : Int) < ((a.1.1.2 : Nat) : Int) then
  (if 0 ≤ ((IntKind.i64.wrap (a.1.2.2.2.2.1 - 1)) : Int) ∧ ((IntKind.i64.wrap (a.1.2.2.2.2.1 - 1)) : Int) < ((a.1.1.2 : Nat) : Int) then
  (a.2.1[(a.1.1.1 + (a.1.2.2.2.2.1 : Int).toNat)]?).bind fun e1 =>
  (a.2.1[(a.1.1.1 + ((IntKind.i64.wrap (a.1.2.2.2.2.1 - 1)) : Int).toNat)]?).bind fun e2 =>
  (cmp_Less e1 e2).bind fun r3 =>
  (bif r3.1 then
  (if 0 ≤ ((IntKind.i64.wrap (a.1.2.2.2.2.1 - 1)) : Int) ∧ ((IntKind.i64.wrap (a.1.2.2.2.2.1 - 1)) : Int) < ((a.1.1.2 : Nat) : Int) then
  (if 0 ≤ (a.1.2.2.2.2.1 : Int) ∧ (a.1.2.2.2.2.1 : Int) < ((a.1.1.2 : Nat) : Int) then
  (a.2.1[(a.1.1.1 + ((IntKind.i64.wrap (a.1.2.2.2.2.1 - 1)) : Int).toNat)]?).bind fun e4 =>
  (a.2.1[(a.1.1.1 + (a.1.2.2.2.2.1 : Int).toNat)]?).bind fun e5 =>
  (if 0 ≤ (a.1.2.2.2.2.1 : Int) ∧ (a.1.2.2.2.2.1 : Int) < ((a.1.1.2 : Nat) : Int) then
  (a.2.1[(a.1.1.1 + (a.1.2.2.2.2.1 : Int).toNat)]?).bind fun e6 =>
  (if 0 ≤ ((IntKind.i64.wrap (a.1.2.2.2.2.1 - 1)) : Int) ∧ ((IntKind.i64.wrap (a.1.2.2.2.2.1 - 1)) : Int) < ((a.1.1.2 : Nat) : Int) then
  ((a.2.1.set (a.1.1.1 + (a.1.2.2.2.2.1 : Int).toNat) e4)[(a.1.1.1 + ((IntKind.i64.wrap (a.1.2.2.2.2.1 - 1)) : Int).toNat)]?).bind fun e7 =>
  let y8 : List (List UInt8) := ((a.2.1.set (a.1.1.1 + (a.1.2.2.2.2.1 : Int).toNat) e4).set (a.1.1.1 + ((IntKind.i64.wrap (a.1.2.2.2.2.1 - 1)) : Int).toNat) e5)
  some (.inl (((a.1.1.1, a.1.1.2), a.1.2.1, a.1.2.2.1, a.1.2.2.2.1, (IntKind.i64.wrap (a.1.2.2.2.2.1 - 1)), ()), (y8, ())))
  else none)
  else none)
  else none)
  else none)
  else
  some (.inr (((a.1.1.1, a.1.1.2), a.1.2.1, a.1.2.2.1, a.1.2.2.2.1, ()), (a.2.1, ()))))
  else none)
  else none)
  else
  some (.inr (((a.1.1.1, a.1.1.2), a.1.2.1, a.1.2.2.1, a.1.2.2.2.1, ()), (a.2.1, ()))))
noncomputable def slices_insertionSortOrdered_e2 : LE CT Try.prog := ⟨4, [0, 1, 2, 6, 7], [.one (.asu 2 0), .one (.int .i64), .one (.int .i64), .one (.int .i64), .one (.int .i64)], [.arr 9 2 true], [⟨.exit 2, [0, 1, 2, 6], [.one (.asu 2 0), .one (.int .i64), .one (.int .i64), .one (.int .i64)], [.arr 9 2 true]⟩], slices_insertionSortOrdered_l2⟩
noncomputable def slices_insertionSortOrdered_l1 (a : ((Nat × Nat) × (Int) × (Int) × (Int) × Unit) × ((List (List UInt8)) × Unit)) : Option ((((Nat × Nat) × (Int) × (Int) × (Int) × Unit) × ((List (List UInt8)) × Unit)) ⊕ (((Unit) × ((List (List UInt8)) × Unit)))) :=
  (bif (decide ((a.1.2.2.2.1 : Int) < a.1.2.2.1)) then
  (loopM slices_insertionSortOrdered_l2 (((a.1.1.1, a.1.1.2), a.1.2.1, a.1.2.2.1, a.1.2.2.2.1, a.1.2.2.2.1, ()), (a.2.1, ()))).bind fun b1 =>
  some (.inl (((b1.1.1.1, b1.1.1.2), b1.1.2.1, b1.1.2.2.1, (IntKind.i64.wrap (b1.1.2.2.2.1 + 1)), ()), (b1.2.1, ())))
  else
  some (.inr ((), (a.2.1, ()))))
noncomputable def slices_insertionSortOrdered_e1 : LE CT Try.prog := ⟨1, [0, 1, 2, 6], [.one (.asu 2 0), .one (.int .i64), .one (.int .i64), .one (.int .i64)], [.arr 9 2 true], [⟨.exit 0, [], [], [.arr 9 2 true]⟩], slices_insertionSortOrdered_l1⟩
noncomputable def slices_insertionSortOrdered_lt : List (LE CT Try.prog) := [slices_insertionSortOrdered_e2, slices_insertionSortOrdered_e1]
theorem slices_insertionSortOrdered_e2_ok : LeOk slices_insertionSortOrdered_e2 (nthL (nthL (bodyOf Try.f91) 0) 0) := fun A env h k z hk => le_ok (E := slices_insertionSortOrdered_e2) (orcOf_ok slices_insertionSortOrdered_tb) (dr := slices_insertionSortOrdered_dr) (lps := lpsOf slices_insertionSortOrdered_lt) (no_loop (by kernel_rfl)) (fun a => by kernel_rfl) env h k z hk
theorem slices_insertionSortOrdered_e1_ok : LeOk slices_insertionSortOrdered_e1 (nthL (bodyOf Try.f91) 0) := fun A env h k z hk => le_ok (E := slices_insertionSortOrdered_e1) (orcOf_ok slices_insertionSortOrdered_tb) (dr := slices_insertionSortOrdered_dr) (lps := lpsOf slices_insertionSortOrdered_lt) (lps_of (n := 1) (by kernel_rfl) fun i hi => match i, hi with | 0, _ => lp_ok (E := slices_insertionSortOrdered_e2) (by kernel_rfl) slices_insertionSortOrdered_e2_ok) (fun a => by kernel_rfl) env h k z hk
noncomputable def slices_insertionSortOrdered (x0 : Nat × Nat) (x1 : Int) (x2 : Int) (h0 : List (List UInt8)) : Option ((Unit) × ((List (List UInt8)) × Unit)) :=
  (loopM slices_insertionSortOrdered_l1 (((x0.1, x0.2), x1, x2, (IntKind.i64.wrap (x1 + 1)), ()), (h0, ()))).bind fun b1 =>
  some ((), (b1.2.1, ()))
noncomputable def slices_insertionSortOrdered_ce : CE CT Try.prog where
  f := 91
  args := [.one (.asu 2 0), .one (.int .i64), .one (.int .i64)]
  hs := [.arr 9 2 true]
  res := .tup []
  outs := [.arr 9 2 true]
  m := fun d dh => slices_insertionSortOrdered d.1 d.2.1 d.2.2.1 dh.1
  ok := ce_ok mixedP Try.func91 (by kernel_rfl) (orcOf_ok slices_insertionSortOrdered_tb) (dr := slices_insertionSortOrdered_dr) (lps := lpsOf slices_insertionSortOrdered_lt) (lps_fn (lps_of (n := 1) (by kernel_rfl) fun i hi => match i, hi with | 0, _ => lp_ok (E := slices_insertionSortOrdered_e1) (by kernel_rfl) slices_insertionSortOrdered_e1_ok)) (fun d dh => by kernel_rfl)

def slices_pdqsortOrdered_dr : Nat → DrA
  | _ => ⟨[], [], [], [], [], false⟩
noncomputable def slices_pdqsortOrdered_tb : List (CE CT Try.prog) := [slices_insertionSortOrdered_ce]
noncomputable def slices_pdqsortOrdered_l1 (a : ((Nat × Nat) × (Int) × (Int) × (Int) × (Bool) × (Bool) × Unit) × ((List (List UInt8)) × Unit)) : Option ((((Nat × Nat) × (Int) × (Int) × (Int) × (Bool) × (Bool) × Unit) × ((List (List UInt8)) × Unit)) ⊕ (((Unit) × ((List (List UInt8)) × Unit)))) :=
  (bif (decide (((IntKind.i64.wrap (a.1.2.2.1 - a.1.2.1)) : Int) ≤ 12)) then
  (slices_insertionSortOrdered (a.1.1.1, a.1.1.2) a.1.2.1 a.1.2.2.1 a.2.1).bind fun r1 =>
  some (.inr ((), (r1.2.1, ())))
  else
  (bif (decide ((a.1.2.2.2.1 : Int) = 0)) then
  none
  else
  (bif (!a.1.2.2.2.2.1) then
  none
  else
  none)))
noncomputable def slices_pdqsortOrdered_e1 : LE CT Try.prog := ⟨2, [0, 1, 2, 3, 8, 9], [.one (.asu 2 0), .one (.int .i64), .one (.int .i64), .one (.int .i64), .one (.bool), .one (.bool)], [.arr 9 2 true], [⟨.ret, [], [], [.arr 9 2 true]⟩], slices_pdqsortOrdered_l1⟩
noncomputable def slices_pdqsortOrdered_lt : List (LE CT Try.prog) := [slices_pdqsortOrdered_e1]
theorem slices_pdqsortOrdered_e1_ok : LeOk slices_pdqsortOrdered_e1 (nthL (bodyOf Try.f89) 0) := fun A env h k z hk => le_ok (E := slices_pdqsortOrdered_e1) (orcOf_ok slices_pdqsortOrdered_tb) (dr := slices_pdqsortOrdered_dr) (lps := lpsOf slices_pdqsortOrdered_lt) (no_loop (by kernel_rfl)) (fun a => by kernel_rfl) env h k z hk
noncomputable def slices_pdqsortOrdered (x0 : Nat × Nat) (x1 : Int) (x2 : Int) (x3 : Int) (h0 : List (List UInt8)) : Option ((Unit) × ((List (List UInt8)) × Unit)) :=
  (loopM slices_pdqsortOrdered_l1 (((x0.1, x0.2), x1, x2, x3, true, true, ()), (h0, ()))).bind fun b1 =>
  some ((), (b1.2.1, ()))
noncomputable def slices_pdqsortOrdered_ce : CE CT Try.prog where
  f := 89
  args := [.one (.asu 2 0), .one (.int .i64), .one (.int .i64), .one (.int .i64)]
  hs := [.arr 9 2 true]
  res := .tup []
  outs := [.arr 9 2 true]
  m := fun d dh => slices_pdqsortOrdered d.1 d.2.1 d.2.2.1 d.2.2.2.1 dh.1
  ok := ce_ok mixedP Try.func89 (by kernel_rfl) (orcOf_ok slices_pdqsortOrdered_tb) (dr := slices_pdqsortOrdered_dr) (lps := lpsOf slices_pdqsortOrdered_lt) (lps_fn (lps_of (n := 1) (by kernel_rfl) fun i hi => match i, hi with | 0, _ => lp_ok (E := slices_pdqsortOrdered_e1) (by kernel_rfl) slices_pdqsortOrdered_e1_ok)) (fun d dh => by kernel_rfl)

def slices_Sort_dr : Nat → DrA
  | _ => ⟨[], [], [], [], [], false⟩
noncomputable def slices_Sort_tb : List (CE CT Try.prog) := [bits_Len_ce, slices_pdqsortOrdered_ce]
noncomputable def slices_Sort_lt : List (LE CT Try.prog) := []
noncomputable def slices_Sort (x0 : Nat × Nat) (h0 : List (List UInt8)) : Option ((Unit) × ((List (List UInt8)) × Unit)) :=
  (bits_Len (IntKind.u64.wrap ((x0.2 : Nat) : Int))).bind fun r1 =>
  (slices_pdqsortOrdered (x0.1, x0.2) 0 ((x0.2 : Nat) : Int) r1.1 h0).bind fun r2 =>
  some ((), (r2.2.1, ()))
noncomputable def slices_Sort_ce : CE CT Try.prog where
  f := 80
  args := [.one (.asu 2 0)]
  hs := [.arr 9 2 true]
  res := .tup []
  outs := [.arr 9 2 true]
  m := fun d dh => slices_Sort d.1 dh.1
  ok := ce_ok mixedP Try.func80 (by kernel_rfl) (orcOf_ok slices_Sort_tb) (dr := slices_Sort_dr) (lps := lpsOf slices_Sort_lt) (lps_fn (no_loop (by kernel_rfl))) (fun d dh => by kernel_rfl)

def slices_Sorted_dr : Nat → DrA
  | _ => ⟨[], [], [], [], [], false⟩
noncomputable def slices_Sorted_tb : List (CE CT Try.prog) := [slices_Collect_ce, slices_Sort_ce]
noncomputable def slices_Sorted_lt : List (LE CT Try.prog) := []
noncomputable def slices_Sorted (h0 : List (List UInt8)) : Option ((Nat × Nat) × ((List (List UInt8)) × (List (List UInt8)) × Unit)) :=
  (slices_Collect h0).bind fun r1 =>
  (slices_Sort (r1.1.1, r1.1.2) r1.2.2.1).bind fun r2 =>
  some ((r1.1.1, r1.1.2), (r1.2.1, r2.2.1, ()))
noncomputable def slices_Sorted_ce : CE CT Try.prog where
  f := 64
  args := [.one (.clo 81 [0])]
  hs := [.cobj 37 3]
  res := .val (.one (.asu 2 1))
  outs := [.cobj 37 3, .arr 9 2 false]
  m := fun d dh => slices_Sorted dh.1
  ok := ce_ok mixedP Try.func64 (by kernel_rfl) (orcOf_ok slices_Sorted_tb) (dr := slices_Sorted_dr) (lps := lpsOf slices_Sorted_lt) (lps_fn (no_loop (by kernel_rfl))) (fun d dh => by kernel_rfl)

def slices_Compact_dr : Nat → DrA
  | 6 => ⟨[0, 1, 2, 4, 5, 6, 7, 3, 8, 9], [[], [], [0, 1], [0, 1, 2], [], [], [5], [4, 5, 6], [4, 5, 6, 7], [0, 1, 2, 3, 4, 5, 6, 7, 8]], [], [], [], false⟩
  | 11 => ⟨[0, 1, 2, 4, 5, 6, 7, 3, 8, 9], [[], [], [0, 1], [0, 1, 2], [], [], [5], [4, 5, 6], [4, 5, 6, 7], [0, 1, 2, 3, 4, 5, 6, 7, 8]], [], [], [], false⟩
  | _ => ⟨[], [], [], [], [], false⟩
noncomputable def slices_Compact_tb : List (CE CT Try.prog) := []
noncomputable def slices_Compact_l2 (a : ((Nat × Nat) × (Int) × (Nat × Nat) × (Int) × Unit) × ((List (List UInt8)) × Unit)) : Option ((((Nat × Nat) × (Int) × (Nat × Nat) × (Int) × Unit) × ((List (List UInt8)) × Unit)) ⊕ ((((Nat × Nat) × (Int) × Unit) × ((List (List UInt8)) × Unit)))) :=
  (bif (decide ((a.1.2.2.2.1 : Int) < ((a.1.2.2.1.2 : Nat) : Int))) then
  (if 0 ≤ (a.1.2.2.2.1 : Int) ∧ (a.1.2.2.2.1 : Int) < ((a.1.2.2.1.2 : Nat) : Int) then
  (if 0 ≤ ((IntKind.i64.wrap (a.1.2.2.2.1 - 1)) : Int) ∧ ((IntKind.i64.wrap (a.1.2.2.2.1 - 1)) : Int) < ((a.1.2.2.1.2 : Nat) : Int) then
  (a.2.1[(a.1.2.2.1.1 + (a.1.2.2.2.1 : Int).toNat)]?).bind fun e1 =>
  (a.2.1[(a.1.2.2.1.1 + ((IntKind.i64.wrap (a.1.2.2.2.1 - 1)) : Int).toNat)]?).bind fun e2 =>
  (bif (decide (e1 ≠ e2)) then
  (if 0 ≤ (a.1.2.2.2.1 : Int) ∧ (a.1.2.2.2.1 : Int) < ((a.1.2.2.1.2 : Nat) : Int) then
  (a.2.1[(a.1.2.2.1.1 + (a.1.2.2.2.1 : Int).toNat)]?).bind fun e3 =>
  (if 0 ≤ (a.1.2.1 : Int) ∧ (a.1.2.1 : Int) < ((a.1.1.2 : Nat) : Int) then
  (a.2.1[(a.1.1.1 + (a.1.2.1 : Int).toNat)]?).bind fun e4 =>
  some (.inl (((a.1.1.1, a.1.1.2), (IntKind.i64.wrap (a.1.2.1 + 1)), (a.1.2.2.1.1, a.1.2.2.1.2), (IntKind.i64.wrap (a.1.2.2.2.1 + 1)), ()), ((a.2.1.set (a.1.1.1 + (a.1.2.1 : Int).toNat) e3), ())))
  else none)
  else none)
  else
  some (.inl (((a.1.1.1, a.1.1.2), a.1.2.1, (a.1.2.2.1.1, a.1.2.2.1.2), (IntKind.i64.wrap (a.1.2.2.2.1 + 1)), ()), (a.2.1, ()))))
  else none)
  else none)
  else
  some (.inr (((a.1.1.1, a.1.1.2), a.1.2.1, ()), (a.2.1, ()))))
noncomputable def slices_Compact_e2 : LE CT Try.prog := ⟨9, [0, 3, 4, 5], [.one (.asu 2 0), .one (.int .i64), .one (.asu 2 0), .one (.int .i64)], [.arr 9 2 true], [⟨.exit 2, [0, 3], [.one (.asu 2 0), .one (.int .i64)], [.arr 9 2 true]⟩], slices_Compact_l2⟩
noncomputable def slices_Compact_l1 (a : ((Nat × Nat) × (Int) × Unit) × ((List (List UInt8)) × Unit)) : Option ((((Nat × Nat) × (Int) × Unit) × ((List (List UInt8)) × Unit)) ⊕ ((((Nat × Nat) × Unit) × ((List (List UInt8)) × Unit)) ⊕ (((Nat × Nat) × Unit) × ((List (List UInt8)) × Unit)))) :=
  (bif (decide ((a.1.2.1 : Int) < ((a.1.1.2 : Nat) : Int))) then
  (if 0 ≤ (a.1.2.1 : Int) ∧ (a.1.2.1 : Int) < ((a.1.1.2 : Nat) : Int) then
  (if 0 ≤ ((IntKind.i64.wrap (a.1.2.1 - 1)) : Int) ∧ ((IntKind.i64.wrap (a.1.2.1 - 1)) : Int) < ((a.1.1.2 : Nat) : Int) then
  (a.2.1[(a.1.1.1 + (a.1.2.1 : Int).toNat)]?).bind fun e1 =>
  (a.2.1[(a.1.1.1 + ((IntKind.i64.wrap (a.1.2.1 - 1)) : Int).toNat)]?).bind fun e2 =>
  (bif (decide (e1 = e2)) then
  (if 0 ≤ (a.1.2.1 : Int) ∧ (a.1.2.1 : Int) ≤ ((a.1.1.2 : Nat) : Int) ∧ ((a.1.1.2 : Nat) : Int) ≤ ((a.1.1.2 : Nat) : Int) ∧ ((a.1.1.2 : Nat) : Int) ≤ 140737488355328 then
  (loopM slices_Compact_l2 (((a.1.1.1, a.1.1.2), a.1.2.1, ((a.1.1.1 + (a.1.2.1 : Int).toNat), (((a.1.1.2 : Nat) : Int).toNat - (a.1.2.1 : Int).toNat)), 1, ()), (a.2.1, ()))).bind fun b3 =>
  (if 0 ≤ (b3.1.2.1 : Int) ∧ (b3.1.2.1 : Int) ≤ ((b3.1.1.2 : Nat) : Int) ∧ ((b3.1.1.2 : Nat) : Int) ≤ ((b3.1.1.2 : Nat) : Int) ∧ ((b3.1.1.2 : Nat) : Int) ≤ 140737488355328 then
  (if (b3.1.1.1 + (b3.1.2.1 : Int).toNat) ≤ b3.2.1.length then
  let y4 : List (List UInt8) := (b3.2.1.take (b3.1.1.1 + (b3.1.2.1 : Int).toNat) ++ List.replicate (((b3.1.1.2 : Nat) : Int).toNat - (b3.1.2.1 : Int).toNat) (([] : List UInt8) : List UInt8) ++ b3.2.1.drop ((b3.1.1.1 + (b3.1.2.1 : Int).toNat) + (((b3.1.1.2 : Nat) : Int).toNat - (b3.1.2.1 : Int).toNat)))
  (if 0 ≤ (0 : Int) ∧ (0 : Int) ≤ (b3.1.2.1 : Int) ∧ (b3.1.2.1 : Int) ≤ ((b3.1.1.2 : Nat) : Int) ∧ (b3.1.2.1 : Int) ≤ 140737488355328 then
  some (.inr (.inl ((((b3.1.1.1 + (0 : Int).toNat), ((b3.1.2.1 : Int).toNat - (0 : Int).toNat)), ()), (y4, ()))))
  else none)
  else none)
  else none)
  else none)
  else
  some (.inl (((a.1.1.1, a.1.1.2), (IntKind.i64.wrap (a.1.2.1 + 1)), ()), (a.2.1, ()))))
  else none)
  else none)
  else
  some (.inr (.inr (((a.1.1.1, a.1.1.2), ()), (a.2.1, ())))))
noncomputable def slices_Compact_e1 : LE CT Try.prog := ⟨4, [0, 3], [.one (.asu 2 0), .one (.int .i64)], [.arr 9 2 true], [⟨.ret, [2], [.one (.asu 2 0)], [.arr 9 2 true]⟩, ⟨.exit 0, [0], [.one (.asu 2 0)], [.arr 9 2 true]⟩], slices_Compact_l1⟩
noncomputable def slices_Compact_lt : List (LE CT Try.prog) := [slices_Compact_e2, slices_Compact_e1]
theorem slices_Compact_e2_ok : LeOk slices_Compact_e2 (nthL (nthL (bodyOf Try.f63) 0) 0) := fun A env h k z hk => le_ok (E := slices_Compact_e2) (orcOf_ok slices_Compact_tb) (dr := slices_Compact_dr) (lps := lpsOf slices_Compact_lt) (no_loop (by kernel_rfl)) (fun a => by kernel_rfl) env h k z hk
theorem slices_Compact_e1_ok : LeOk slices_Compact_e1 (nthL (bodyOf Try.f63) 0) := fun A env h k z hk => le_ok (E := slices_Compact_e1) (orcOf_ok slices_Compact_tb) (dr := slices_Compact_dr) (lps := lpsOf slices_Compact_lt) (lps_of (n := 1) (by kernel_rfl) fun i hi => match i, hi with | 0, _ => lp_ok (E := slices_Compact_e2) (by kernel_rfl) slices_Compact_e2_ok) (fun a => by kernel_rfl) env h k z hk
noncomputable def slices_Compact (x0 : Nat × Nat) (h0 : List (List UInt8)) : Option ((Nat × Nat) × ((List (List UInt8)) × Unit)) :=
  (bif (decide ((((x0.2 : Nat) : Int) : Int) < 2)) then
  some ((x0.1, x0.2), (h0, ()))
  else
  (loopM slices_Compact_l1 (((x0.1, x0.2), 1, ()), (h0, ()))).bind fun b1 =>
  (match b1 with
  | .inl b2 =>
  some ((b2.1.1.1, b2.1.1.2), (b2.2.1, ()))
  | .inr b3 =>
  some ((b3.1.1.1, b3.1.1.2), (b3.2.1, ()))))
noncomputable def slices_Compact_ce : CE CT Try.prog where
  f := 63
  args := [.one (.asu 2 0)]
  hs := [.arr 9 2 true]
  res := .val (.one (.asu 2 0))
  outs := [.arr 9 2 true]
  m := fun d dh => slices_Compact d.1 dh.1
  ok := ce_ok mixedP Try.func63 (by kernel_rfl) (orcOf_ok slices_Compact_tb) (dr := slices_Compact_dr) (lps := lpsOf slices_Compact_lt) (lps_fn (lps_of (n := 1) (by kernel_rfl) fun i hi => match i, hi with | 0, _ => lp_ok (E := slices_Compact_e1) (by kernel_rfl) slices_Compact_e1_ok)) (fun d dh => by kernel_rfl)

def span_Has_dr : Nat → DrA
  | _ => ⟨[], [], [], [], [], false⟩
noncomputable def span_Has_tb : List (CE CT Try.prog) := [span_ends_ce, span_Right_ce, span_Key_ce, span_compare_ce, span_above_ce]
noncomputable def span_Has_lt : List (LE CT Try.prog) := []
noncomputable def span_Has (x0 : DSpan) (x1 : List UInt8) : Option ((Bool) × (Unit)) :=
  (span_ends x0).bind fun r1 =>
  (span_Right x0).bind fun r2 =>
  (bif r2.1 then
  (span_Key x1).bind fun r3 =>
  (bif r3.1 then
  (span_compare r1.1.1.text (⟨x1⟩ : DText)).bind fun r4 =>
  (bif (decide ((r4.1 : Int) ≤ 0)) then
  (span_above r1.1.2.1 (⟨x1⟩ : DText)).bind fun r5 =>
  some (r5.1, ())
  else
  some (false, ()))
  else
  some (false, ()))
  else
  some (false, ()))
noncomputable def span_Has_ce : CE CT Try.prog where
  f := 15
  args := [.cod 4, .one (.str)]
  hs := []
  res := .val (.one (.bool))
  outs := []
  m := fun d dh => span_Has d.1 d.2.1
  ok := ce_ok mixedP Try.func15 (by kernel_rfl) (orcOf_ok span_Has_tb) (dr := span_Has_dr) (lps := lpsOf span_Has_lt) (lps_fn (no_loop (by kernel_rfl))) (fun d dh => by kernel_rfl)

def span_Cut_dr : Nat → DrA
  | _ => ⟨[], [], [], [], [], false⟩
noncomputable def span_Cut_tb : List (CE CT Try.prog) := [span_Right_ce, slices_Values_ce, slices_Sorted_ce, slices_Compact_ce, span_Has_ce]
noncomputable def span_Cut_l1 (a : ((Unit) × (List (DSpan)) × (Nat × Nat) × (Int) × (Int) × Unit) × ((DSpan) × (List (List UInt8)) × (Unit) × Unit)) : Option ((((Unit) × (List (DSpan)) × (Nat × Nat) × (Int) × (Int) × Unit) × ((DSpan) × (List (List UInt8)) × (Unit) × Unit)) ⊕ ((((Unit) × (List (DSpan)) × Unit) × ((DSpan) × (List (List UInt8)) × (Unit) × (Unit) × Unit)))) :=
  (bif (decide ((a.1.2.2.2.2.1 : Int) < a.1.2.2.2.1)) then
  (if 0 ≤ (a.1.2.2.2.2.1 : Int) ∧ (a.1.2.2.2.2.1 : Int) < ((a.1.2.2.1.2 : Nat) : Int) then
  (a.2.2.1[(a.1.2.2.1.1 + (a.1.2.2.2.2.1 : Int).toNat)]?).bind fun e1 =>
  (span_Has a.2.1 e1).bind fun r2 =>
  (bif (!r2.1) then
  some (.inl (((), a.1.2.1, (a.1.2.2.1.1, a.1.2.2.1.2), a.1.2.2.2.1, (IntKind.i64.wrap (a.1.2.2.2.2.1 + 1)), ()), (a.2.1, a.2.2.1, (), ())))
  else
  (bif (decide (e1 = a.2.1.lo)) then
  some (.inl (((), a.1.2.1, (a.1.2.2.1.1, a.1.2.2.1.2), a.1.2.2.2.1, (IntKind.i64.wrap (a.1.2.2.2.2.1 + 1)), ()), (a.2.1, a.2.2.1, (), ())))
  else
  (if a.1.2.1.length + ([(⟨a.2.1.lo, e1⟩ : DSpan)] : List (DSpan)).length ≤ 140737488355328 ∧ (a.1.2.1.length + ([(⟨a.2.1.lo, e1⟩ : DSpan)] : List (DSpan)).length) * 32 ≤ 140737488355328 then
  some (.inl (((), (a.1.2.1 ++ ([(⟨a.2.1.lo, e1⟩ : DSpan)] : List (DSpan))), (a.1.2.2.1.1, a.1.2.2.1.2), a.1.2.2.2.1, (IntKind.i64.wrap (a.1.2.2.2.2.1 + 1)), ()), ((⟨e1, a.2.1.hi⟩ : DSpan), a.2.2.1, (), ())))
  else none)))
  else none)
  else
  some (.inr (((), a.1.2.1, ()), (a.2.1, a.2.2.1, (), (), ()))))
noncomputable def span_Cut_e1 : LE CT Try.prog := ⟨5, [2, 5, 14, 15, 16], [.one (.ptr 0 0), .one (.own 4 2), .one (.asu 2 1), .one (.int .i64), .one (.int .i64)], [.cobj 29 4, .arr 9 2 true, .row 29 2], [⟨.exit 0, [2, 5], [.one (.ptr 0 0), .one (.own 4 3)], [.cobj 29 4, .arr 9 2 true, .dead, .row 29 2]⟩], span_Cut_l1⟩
noncomputable def span_Cut_lt : List (LE CT Try.prog) := [span_Cut_e1]
theorem span_Cut_e1_ok : LeOk span_Cut_e1 (nthL (bodyOf Try.f54) 0) := fun A env h k z hk => le_ok (E := span_Cut_e1) (orcOf_ok span_Cut_tb) (dr := span_Cut_dr) (lps := lpsOf span_Cut_lt) (no_loop (by kernel_rfl)) (fun a => by kernel_rfl) env h k z hk
noncomputable def span_Cut (x0 : DSpan) (x1 : List (List UInt8)) : Option ((List (DSpan)) × ((Unit) × Unit)) :=
  (span_Right x0).bind fun r1 =>
  (bif (!r1.1) then
  some ([], ((), ()))
  else
  (slices_Values x1).bind fun r2 =>
  (slices_Sorted r2.2.1).bind fun r3 =>
  (slices_Compact (r3.1.1, r3.1.2) r3.2.2.1).bind fun r4 =>
  (loopM span_Cut_l1 (((), [], (r4.1.1, r4.1.2), ((r4.1.2 : Nat) : Int), 0, ()), (x0, r4.2.1, (), ()))).bind fun b5 =>
  (if b5.1.2.1.length + ([b5.2.1] : List (DSpan)).length ≤ 140737488355328 ∧ (b5.1.2.1.length + ([b5.2.1] : List (DSpan)).length) * 32 ≤ 140737488355328 then
  some ((b5.1.2.1 ++ ([b5.2.1] : List (DSpan))), ((), ()))
  else none))
noncomputable def span_Cut_ce : CE CT Try.prog where
  f := 54
  args := [.cod 4, .one (.sl 2)]
  hs := []
  res := .val (.one (.own 4 0))
  outs := [.row 29 2]
  m := fun d dh => span_Cut d.1 d.2.1
  ok := ce_ok mixedP Try.func54 (by kernel_rfl) (orcOf_ok span_Cut_tb) (dr := span_Cut_dr) (lps := lpsOf span_Cut_lt) (lps_fn (lps_of (n := 1) (by kernel_rfl) fun i hi => match i, hi with | 0, _ => lp_ok (E := span_Cut_e1) (by kernel_rfl) span_Cut_e1_ok)) (fun d dh => by kernel_rfl)

def shares_parted_dr : Nat → DrA
  | _ => ⟨[], [], [], [], [], false⟩
noncomputable def shares_parted_tb : List (CE CT Try.prog) := [span_Cut_ce]
noncomputable def shares_parted_l1 (a : ((Int) × (Int) × (Unit) × (Unit) × (List (DShare)) × (List (DSpan)) × (Int) × (Int) × Unit) × ((DShare) × (DSpan) × (Unit) × (Unit) × Unit)) : Option ((((Int) × (Int) × (Unit) × (Unit) × (List (DShare)) × (List (DSpan)) × (Int) × (Int) × Unit) × ((DShare) × (DSpan) × (Unit) × (Unit) × Unit)) ⊕ ((((List (DShare)) × Unit) × ((DShare) × (DSpan) × (Unit) × (Unit) × (Unit) × Unit)))) :=
  (bif (decide ((a.1.2.2.2.2.2.2.2.1 : Int) < a.1.2.2.2.2.2.2.1)) then
  (getI a.1.2.2.2.2.2.1 a.1.2.2.2.2.2.2.2.1).bind fun e1 =>
  (bif (decide (e1.lo = a.2.2.1.lo) && (decide (e1.hi = a.2.2.1.hi) && true)) then
  (if a.1.2.2.2.2.1.length + ([(⟨e1, a.1.1, a.1.2.1⟩ : DShare)] : List (DShare)).length ≤ 140737488355328 ∧ (a.1.2.2.2.2.1.length + ([(⟨e1, a.1.1, a.1.2.1⟩ : DShare)] : List (DShare)).length) * 48 ≤ 140737488355328 then
  some (.inl ((a.1.1, a.1.2.1, (), (), (a.1.2.2.2.2.1 ++ ([(⟨e1, a.1.1, a.1.2.1⟩ : DShare)] : List (DShare))), a.1.2.2.2.2.2.1, a.1.2.2.2.2.2.2.1, (IntKind.i64.wrap (a.1.2.2.2.2.2.2.2.1 + 1)), ()), (a.2.1, a.2.2.1, (), (), ())))
  else none)
  else
  (if a.1.2.2.2.2.1.length + ([(⟨e1, a.2.1.group, a.2.1.epoch⟩ : DShare)] : List (DShare)).length ≤ 140737488355328 ∧ (a.1.2.2.2.2.1.length + ([(⟨e1, a.2.1.group, a.2.1.epoch⟩ : DShare)] : List (DShare)).length) * 48 ≤ 140737488355328 then
  let y2 : List (DShare) := (a.1.2.2.2.2.1 ++ ([(⟨e1, a.2.1.group, a.2.1.epoch⟩ : DShare)] : List (DShare)))
  some (.inl ((a.1.1, a.1.2.1, (), (), y2, a.1.2.2.2.2.2.1, a.1.2.2.2.2.2.2.1, (IntKind.i64.wrap (a.1.2.2.2.2.2.2.2.1 + 1)), ()), (a.2.1, a.2.2.1, (), (), ())))
  else none))
  else
  some (.inr ((a.1.2.2.2.2.1, ()), (a.2.1, a.2.2.1, (), (), (), ()))))
noncomputable def shares_parted_e1 : LE CT Try.prog := ⟨3, [2, 3, 4, 5, 9, 20, 21, 22], [.one (.int .i64), .one (.int .i64), .one (.ptr 0 0), .one (.ptr 1 0), .one (.own 5 2), .one (.own 4 3), .one (.int .i64), .one (.int .i64)], [.cobj 41 5, .cobj 29 4, .row 41 4, .row 29 2], [⟨.exit 0, [9], [.one (.own 5 4)], [.cobj 41 5, .cobj 29 4, .dead, .dead, .row 41 4]⟩], shares_parted_l1⟩
noncomputable def shares_parted_lt : List (LE CT Try.prog) := [shares_parted_e1]
theorem shares_parted_e1_ok : LeOk shares_parted_e1 (nthL (bodyOf Try.f28) 0) := fun A env h k z hk => le_ok (E := shares_parted_e1) (orcOf_ok shares_parted_tb) (dr := shares_parted_dr) (lps := lpsOf shares_parted_lt) (no_loop (by kernel_rfl)) (fun a => by kernel_rfl) env h k z hk
noncomputable def shares_parted (x0 : DShare) (x1 : DSpan) (x2 : Int) (x3 : Int) : Option ((List (DShare)) × ((Unit) × Unit)) :=
  (span_Cut x0.span ([x1.lo, x1.hi] : List (List UInt8))).bind fun r1 =>
  (loopM shares_parted_l1 ((x2, x3, (), (), [], r1.1, (r1.1.length : Int), 0, ()), (x0, x1, (), (), ()))).bind fun b2 =>
  some (b2.1.1, ((), ()))
noncomputable def shares_parted_ce : CE CT Try.prog where
  f := 28
  args := [.cod 5, .cod 4, .one (.int .i64), .one (.int .i64)]
  hs := []
  res := .val (.one (.own 5 0))
  outs := [.row 41 4]
  m := fun d dh => shares_parted d.1 d.2.1 d.2.2.1 d.2.2.2.1
  ok := ce_ok mixedP Try.func28 (by kernel_rfl) (orcOf_ok shares_parted_tb) (dr := shares_parted_dr) (lps := lpsOf shares_parted_lt) (lps_fn (lps_of (n := 1) (by kernel_rfl) fun i hi => match i, hi with | 0, _ => lp_ok (E := shares_parted_e1) (by kernel_rfl) shares_parted_e1_ok)) (fun d dh => by kernel_rfl)

def shares_Turn_dr : Nat → DrA
  | 11 => ⟨[0, 1, 4, 5, 6, 7, 8, 10, 14, 15, 16, 2, 9, 11, 12, 13, 17, 18, 3, 19, 20, 21], [[], [0], [0, 1], [0, 1, 2], [], [], [5], [], [7], [7, 8], [], [7, 8, 9, 10], [7, 8, 9, 10, 11], [], [], [], [15], [15, 16], [15, 16, 17], [0, 1, 2, 3, 7, 8, 9, 10, 11, 12, 13, 14, 15, 16, 17, 18], [0, 1, 2, 3, 4, 5, 6, 7, 8, 9, 10, 11, 12, 13, 14, 15, 16, 17, 18, 19], [0, 1, 2, 3, 4, 5, 6, 7, 8, 9, 10, 11, 12, 13, 14, 15, 16, 17, 18, 19, 20]], [9, 12, 13, 17], [3], [1, 3], false⟩
  | _ => ⟨[], [], [], [], [], false⟩
noncomputable def shares_Turn_tb : List (CE CT Try.prog) := [shares_at_ce, shares_right_ce, span_Right_ce, shares_within_ce, cloneA27_ce, shares_parted_ce, replace_ce]
noncomputable def shares_Turn_lt : List (LE CT Try.prog) := []
noncomputable def shares_Turn (x0 : DShares) (x1 : DSpan) (x2 : Int) : Option (((DShares) × (Int) × Unit) × (Unit)) :=
  (shares_at (⟨x0⟩ : DWork) x1).bind fun r1 =>
  (shares_right (⟨x0⟩ : DWork)).bind fun r2 =>
  (bif (!r2.1) then
  some (((⟨0, []⟩ : DShares), 2, ()), ())
  else
  (span_Right r1.2.1).bind fun r3 =>
  (bif (!r3.1) then
  some (((⟨0, []⟩ : DShares), 2, ()), ())
  else
  (shares_within x2 1 4).bind fun r4 =>
  (bif (!r4.1) then
  some (((⟨0, []⟩ : DShares), 2, ()), ())
  else
  (bif (decide ((r1.1 : Int) < 0)) then
  some (((⟨0, []⟩ : DShares), 6, ()), ())
  else
  (getI x0.list r1.1).bind fun e5 =>
  (bif (decide ((e5.group : Int) = x2)) then
  some (((⟨0, []⟩ : DShares), 7, ()), ())
  else
  (getI x0.list r1.1).bind fun e6 =>
  (cloneA27 x0.list).bind fun r7 =>
  (shares_parted e6 r1.2.1 x2 (IntKind.i64.wrap (x0.epoch + 1))).bind fun r8 =>
  (replace r7.1 r1.1 (IntKind.i64.wrap (r1.1 + 1)) r8.1 r7.2.1).bind fun r9 =>
  (bif (decide ((x0.epoch : Int) = 1073741824)) then
  some (((⟨0, []⟩ : DShares), 8, ()), ())
  else
  (bif (decide ((40 : Int) < (r9.1.length : Int))) then
  some (((⟨0, []⟩ : DShares), 8, ()), ())
  else
  some (((⟨(IntKind.i64.wrap (x0.epoch + 1)), r9.1⟩ : DShares), 0, ()), ()))))))))
noncomputable def shares_Turn_ce : CE CT Try.prog where
  f := 9
  args := [.cod 8, .cod 4, .one (.int .i64)]
  hs := []
  res := .tup [.cod 8, .one (.int .i64)]
  outs := []
  m := fun d dh => shares_Turn d.1 d.2.1 d.2.2.1
  ok := ce_ok mixedP Try.func9 (by kernel_rfl) (orcOf_ok shares_Turn_tb) (dr := shares_Turn_dr) (lps := lpsOf shares_Turn_lt) (lps_fn (no_loop (by kernel_rfl))) (fun d dh => by kernel_rfl)

def watershedlaw05_awake_dr : Nat → DrA
  | _ => ⟨[], [], [], [], [], false⟩
noncomputable def watershedlaw05_awake_tb : List (CE CT Try.prog) := [shares_First_ce, shares_Turn_ce]
noncomputable def watershedlaw05_awake_lt : List (LE CT Try.prog) := []
noncomputable def watershedlaw05_awake  : Option ((Bool) × (Unit)) :=
  (shares_First 1).bind fun r1 =>
  (shares_Turn r1.1 (⟨([109] : List UInt8), ([] : List UInt8)⟩ : DSpan) 2).bind fun r2 =>
  (bif (decide ((r2.1.2.1 : Int) = 0)) then
  (bif (decide ((r2.1.1.epoch : Int) = 2)) then
  (bif (decide (((r2.1.1.list.length : Int) : Int) = 2)) then
  (getI r2.1.1.list 0).bind fun e3 =>
  (bif (decide (e3.span.lo = ([] : List UInt8)) && (decide (e3.span.hi = ([109] : List UInt8)) && (decide ((e3.group : Int) = 1) && (decide ((e3.epoch : Int) = 1) && true)))) then
  (getI r2.1.1.list 1).bind fun e4 =>
  let y5 : Bool := (decide (e4.span.lo = ([109] : List UInt8)) && (decide (e4.span.hi = ([] : List UInt8)) && (decide ((e4.group : Int) = 2) && (decide ((e4.epoch : Int) = 2) && true))))
  some (y5, ())
  else
  some (false, ()))
  else
  some (false, ()))
  else
  some (false, ()))
  else
  some (false, ()))
noncomputable def watershedlaw05_awake_ce : CE CT Try.prog where
  f := 6
  args := []
  hs := []
  res := .val (.one (.bool))
  outs := []
  m := fun d dh => watershedlaw05_awake
  ok := ce_ok mixedP Try.func6 (by kernel_rfl) (orcOf_ok watershedlaw05_awake_tb) (dr := watershedlaw05_awake_dr) (lps := lpsOf watershedlaw05_awake_lt) (lps_fn (no_loop (by kernel_rfl))) (fun d dh => by kernel_rfl)

def watershedlaw05_great_dr : Nat → DrA
  | 6 => ⟨[0, 2, 8, 10, 1, 3, 4, 5, 6, 7, 9, 11, 12, 13, 14, 15, 16, 17], [[], [0], [], [0, 1, 2], [0, 1, 2, 3], [0, 1, 2, 3, 4], [0, 1, 2, 3, 4, 5], [0, 1, 2, 3, 4, 5, 6], [], [8], [], [8, 9, 10], [8, 9, 10, 11], [8, 9, 10, 11, 12], [8, 9, 10, 11, 12, 13], [8, 9, 10, 11, 12, 13, 14], [0, 1, 2, 3, 4, 5, 6, 7, 8, 9, 10, 11, 12, 13, 14, 15], [0, 1, 2, 3, 4, 5, 6, 7, 8, 9, 10, 11, 12, 13, 14, 15, 16]], [], [], [], false⟩
  | _ => ⟨[], [], [], [], [], false⟩
noncomputable def watershedlaw05_great_tb : List (CE CT Try.prog) := []
noncomputable def watershedlaw05_great_l1 (a : ((List (List UInt8)) × (Unit) × (Int) × Unit) × ((DShares) × Unit)) : Option ((((List (List UInt8)) × (Unit) × (Int) × Unit) × ((DShares) × Unit)) ⊕ ((((Bool) × Unit) × ((DShares) × Unit)) ⊕ (((List (List UInt8)) × Unit) × ((DShares) × Unit)))) :=
  (bif (decide ((a.1.2.2.1 : Int) < (a.2.1.list.length : Int))) then
  (getI a.2.1.list a.1.2.2.1).bind fun e1 =>
  (getI a.2.1.list a.1.2.2.1).bind fun e2 =>
  (bif (decide ((100 : Int) < (IntKind.i64.wrap ((e1.span.lo.length : Int) + (e2.span.hi.length : Int))))) then
  some (.inr (.inl ((true, ()), (a.2.1, ()))))
  else
  some (.inl ((a.1.1, (), (IntKind.i64.wrap (a.1.2.2.1 + 1)), ()), (a.2.1, ()))))
  else
  some (.inr (.inr ((a.1.1, ()), (a.2.1, ())))))
noncomputable def watershedlaw05_great_e1 : LE CT Try.prog := ⟨4, [1, 2, 5], [.one (.sl 2), .one (.ptr 0 0), .one (.int .i64)], [.cobj 26 8], [⟨.ret, [4], [.one (.bool)], [.cobj 26 8]⟩, ⟨.exit 0, [1], [.one (.sl 2)], [.cobj 26 8]⟩], watershedlaw05_great_l1⟩
noncomputable def watershedlaw05_great_l2 (a : ((List (List UInt8)) × (Int) × Unit) × (Unit)) : Option ((((List (List UInt8)) × (Int) × Unit) × (Unit)) ⊕ ((((Bool) × Unit) × (Unit)) ⊕ ((Unit) × (Unit)))) :=
  (bif (decide ((a.1.2.1 : Int) < (a.1.1.length : Int))) then
  (getI a.1.1 a.1.2.1).bind fun e1 =>
  (bif (decide ((100 : Int) < (e1.length : Int))) then
  some (.inr (.inl ((true, ()), ())))
  else
  some (.inl ((a.1.1, (IntKind.i64.wrap (a.1.2.1 + 1)), ()), ())))
  else
  some (.inr (.inr ((), ()))))
noncomputable def watershedlaw05_great_e2 : LE CT Try.prog := ⟨9, [1, 6], [.one (.sl 2), .one (.int .i64)], [], [⟨.ret, [4], [.one (.bool)], []⟩, ⟨.exit 2, [], [], []⟩], watershedlaw05_great_l2⟩
noncomputable def watershedlaw05_great_lt : List (LE CT Try.prog) := [watershedlaw05_great_e1, watershedlaw05_great_e2]
theorem watershedlaw05_great_e1_ok : LeOk watershedlaw05_great_e1 (nthL (bodyOf Try.f12) 0) := fun A env h k z hk => le_ok (E := watershedlaw05_great_e1) (orcOf_ok watershedlaw05_great_tb) (dr := watershedlaw05_great_dr) (lps := lpsOf watershedlaw05_great_lt) (no_loop (by kernel_rfl)) (fun a => by kernel_rfl) env h k z hk
theorem watershedlaw05_great_e2_ok : LeOk watershedlaw05_great_e2 (nthL (bodyOf Try.f12) 1) := fun A env h k z hk => le_ok (E := watershedlaw05_great_e2) (orcOf_ok watershedlaw05_great_tb) (dr := watershedlaw05_great_dr) (lps := lpsOf watershedlaw05_great_lt) (no_loop (by kernel_rfl)) (fun a => by kernel_rfl) env h k z hk
noncomputable def watershedlaw05_great (x0 : DShares) (x1 : List (List UInt8)) : Option ((Bool) × (Unit)) :=
  (bif (decide ((60 : Int) < (x0.list.length : Int))) then
  some (true, ())
  else
  (bif (decide ((60 : Int) < (x1.length : Int))) then
  some (true, ())
  else
  (loopM watershedlaw05_great_l1 ((x1, (), 0, ()), (x0, ()))).bind fun b1 =>
  (match b1 with
  | .inl b2 =>
  some (b2.1.1, ())
  | .inr b3 =>
  (loopM watershedlaw05_great_l2 ((b3.1.1, 0, ()), ())).bind fun b4 =>
  (match b4 with
  | .inl b5 =>
  some (b5.1.1, ())
  | .inr b6 =>
  some (false, ())))))
noncomputable def watershedlaw05_great_ce : CE CT Try.prog where
  f := 12
  args := [.cod 8, .one (.sl 2)]
  hs := []
  res := .val (.one (.bool))
  outs := []
  m := fun d dh => watershedlaw05_great d.1 d.2.1
  ok := ce_ok mixedP Try.func12 (by kernel_rfl) (orcOf_ok watershedlaw05_great_tb) (dr := watershedlaw05_great_dr) (lps := lpsOf watershedlaw05_great_lt) (lps_fn (lps_of (n := 2) (by kernel_rfl) fun i hi => match i, hi with | 0, _ => lp_ok (E := watershedlaw05_great_e1) (by kernel_rfl) watershedlaw05_great_e1_ok | 1, _ => lp_ok (E := watershedlaw05_great_e2) (by kernel_rfl) watershedlaw05_great_e2_ok)) (fun d dh => by kernel_rfl)

def shares_Of1_dr : Nat → DrA
  | _ => ⟨[], [], [], [], [], false⟩
noncomputable def shares_Of1_tb : List (CE CT Try.prog) := [span_Has_ce]
noncomputable def shares_Of1_lt : List (LE CT Try.prog) := []
noncomputable def shares_Of1 (x0 : DSpan) (h0 : List UInt8) : Option ((Bool) × ((List UInt8) × Unit)) :=
  (span_Has x0 h0).bind fun r1 =>
  some (r1.1, (h0, ()))
noncomputable def shares_Of1_ce : CE CT Try.prog where
  f := 35
  args := [.cod 4, .one (.ptr 0 0)]
  hs := [.cobj 9 2]
  res := .val (.one (.bool))
  outs := [.cobj 9 2]
  m := fun d dh => shares_Of1 d.1 dh.1
  ok := ce_ok mixedP Try.func35 (by kernel_rfl) (orcOf_ok shares_Of1_tb) (dr := shares_Of1_dr) (lps := lpsOf shares_Of1_lt) (lps_fn (no_loop (by kernel_rfl))) (fun d dh => by kernel_rfl)

def shares_at1_2_dr : Nat → DrA
  | _ => ⟨[], [], [], [], [], false⟩
noncomputable def shares_at1_2_tb : List (CE CT Try.prog) := [shares_Of1_ce]
noncomputable def shares_at1_2_lt : List (LE CT Try.prog) := []
noncomputable def shares_at1_2 (x0 : DShare) (h0 : (Unit) × Unit) (h1 : List UInt8) : Option ((Bool) × (((Unit) × Unit) × (List UInt8) × Unit)) :=
  (shares_Of1 x0.span h1).bind fun r1 =>
  some (r1.1, (((), ()), r1.2.1, ()))
noncomputable def shares_at1_2_ce : CE CT Try.prog where
  f := 44
  args := [.cod 5, .one (.ptr 0 0)]
  hs := [.obj 58 [.clo 35 [1]], .cobj 9 2]
  res := .val (.one (.bool))
  outs := [.obj 58 [.clo 35 [1]], .cobj 9 2]
  m := fun d dh => shares_at1_2 d.1 dh.1 dh.2.1
  ok := ce_ok mixedP Try.func44 (by kernel_rfl) (orcOf_ok shares_at1_2_tb) (dr := shares_at1_2_dr) (lps := lpsOf shares_at1_2_lt) (lps_fn (no_loop (by kernel_rfl))) (fun d dh => by kernel_rfl)

def slices_IndexFunc_3_dr : Nat → DrA
  | _ => ⟨[], [], [], [], [], false⟩
noncomputable def slices_IndexFunc_3_tb : List (CE CT Try.prog) := [shares_at1_2_ce]
noncomputable def slices_IndexFunc_3_l1 (a : ((List (DShare)) × (Unit) × (Int) × (Int) × Unit) × (((Unit) × Unit) × (List UInt8) × Unit)) : Option ((((List (DShare)) × (Unit) × (Int) × (Int) × Unit) × (((Unit) × Unit) × (List UInt8) × Unit)) ⊕ ((((Int) × Unit) × (((Unit) × Unit) × (List UInt8) × Unit)) ⊕ ((Unit) × (((Unit) × Unit) × (List UInt8) × Unit)))) :=
  (bif (decide ((a.1.2.2.2.1 : Int) < a.1.2.2.1)) then
  (getI a.1.1 a.1.2.2.2.1).bind fun e1 =>
  (shares_at1_2 e1 ((), ()) a.2.2.1).bind fun r2 =>
  (bif r2.1 then
  some (.inr (.inl ((a.1.2.2.2.1, ()), (((), ()), r2.2.2.1, ()))))
  else
  some (.inl ((a.1.1, (), a.1.2.2.1, (IntKind.i64.wrap (a.1.2.2.2.1 + 1)), ()), (((), ()), r2.2.2.1, ()))))
  else
  some (.inr (.inr ((), (((), ()), a.2.2.1, ())))))
noncomputable def slices_IndexFunc_3_e1 : LE CT Try.prog := ⟨2, [0, 1, 7, 8], [.one (.sl 5), .one (.clo 44 [0]), .one (.int .i64), .one (.int .i64)], [.obj 58 [.clo 35 [1]], .cobj 9 2], [⟨.ret, [4], [.one (.int .i64)], [.obj 58 [.clo 35 [1]], .cobj 9 2]⟩, ⟨.exit 0, [], [], [.obj 58 [.clo 35 [1]], .cobj 9 2]⟩], slices_IndexFunc_3_l1⟩
noncomputable def slices_IndexFunc_3_lt : List (LE CT Try.prog) := [slices_IndexFunc_3_e1]
theorem slices_IndexFunc_3_e1_ok : LeOk slices_IndexFunc_3_e1 (nthL (bodyOf Try.f43) 0) := fun A env h k z hk => le_ok (E := slices_IndexFunc_3_e1) (orcOf_ok slices_IndexFunc_3_tb) (dr := slices_IndexFunc_3_dr) (lps := lpsOf slices_IndexFunc_3_lt) (no_loop (by kernel_rfl)) (fun a => by kernel_rfl) env h k z hk
noncomputable def slices_IndexFunc_3 (x0 : List (DShare)) (h0 : (Unit) × Unit) (h1 : List UInt8) : Option ((Int) × (((Unit) × Unit) × (List UInt8) × Unit)) :=
  (loopM slices_IndexFunc_3_l1 ((x0, (), (x0.length : Int), 0, ()), (((), ()), h1, ()))).bind fun b1 =>
  (match b1 with
  | .inl b2 =>
  some (b2.1.1, (((), ()), b2.2.2.1, ()))
  | .inr b3 =>
  some ((-1), (((), ()), b3.2.2.1, ())))
noncomputable def slices_IndexFunc_3_ce : CE CT Try.prog where
  f := 43
  args := [.one (.sl 5), .one (.clo 44 [0])]
  hs := [.obj 58 [.clo 35 [1]], .cobj 9 2]
  res := .val (.one (.int .i64))
  outs := [.obj 58 [.clo 35 [1]], .cobj 9 2]
  m := fun d dh => slices_IndexFunc_3 d.1 dh.1 dh.2.1
  ok := ce_ok mixedP Try.func43 (by kernel_rfl) (orcOf_ok slices_IndexFunc_3_tb) (dr := slices_IndexFunc_3_dr) (lps := lpsOf slices_IndexFunc_3_lt) (lps_fn (lps_of (n := 1) (by kernel_rfl) fun i hi => match i, hi with | 0, _ => lp_ok (E := slices_IndexFunc_3_e1) (by kernel_rfl) slices_IndexFunc_3_e1_ok)) (fun d dh => by kernel_rfl)

def shares_at_2_dr : Nat → DrA
  | _ => ⟨[], [], [], [], [], false⟩
noncomputable def shares_at_2_tb : List (CE CT Try.prog) := [shares_right_ce, slices_IndexFunc_3_ce]
noncomputable def shares_at_2_lt : List (LE CT Try.prog) := []
noncomputable def shares_at_2 (x0 : DWork) (h0 : List UInt8) : Option ((Int) × ((List UInt8) × Unit)) :=
  (shares_right x0).bind fun r1 =>
  (bif (!r1.1) then
  some ((-1), (h0, ()))
  else
  (slices_IndexFunc_3 x0.shares.list ((), ()) h0).bind fun r2 =>
  some (r2.1, (r2.2.2.1, ())))
noncomputable def shares_at_2_ce : CE CT Try.prog where
  f := 22
  args := [.cod 9, .one (.clo 35 [0])]
  hs := [.cobj 9 2]
  res := .val (.one (.int .i64))
  outs := [.cobj 9 2]
  m := fun d dh => shares_at_2 d.1 dh.1
  ok := ce_ok mixedP Try.func22 (by kernel_rfl) (orcOf_ok shares_at_2_tb) (dr := shares_at_2_dr) (lps := lpsOf shares_at_2_lt) (lps_fn (no_loop (by kernel_rfl))) (fun d dh => by kernel_rfl)

def shares_share_dr : Nat → DrA
  | _ => ⟨[], [], [], [], [], false⟩
noncomputable def shares_share_tb : List (CE CT Try.prog) := []
noncomputable def shares_share_lt : List (LE CT Try.prog) := []
noncomputable def shares_share (x0 : DWork) (x1 : Int) : Option (((DShare) × (Bool) × Unit) × (Unit)) :=
  (bif (decide ((x1 : Int) < 0)) then
  some (((⟨(⟨([] : List UInt8), ([] : List UInt8)⟩ : DSpan), 0, 0⟩ : DShare), false, ()), ())
  else
  (getI x0.shares.list x1).bind fun e1 =>
  some ((e1, true, ()), ()))
noncomputable def shares_share_ce : CE CT Try.prog where
  f := 34
  args := [.cod 9, .one (.int .i64)]
  hs := []
  res := .tup [.cod 5, .one (.bool)]
  outs := []
  m := fun d dh => shares_share d.1 d.2.1
  ok := ce_ok mixedP Try.func34 (by kernel_rfl) (orcOf_ok shares_share_tb) (dr := shares_share_dr) (lps := lpsOf shares_share_lt) (lps_fn (no_loop (by kernel_rfl))) (fun d dh => by kernel_rfl)

def shares_Of_dr : Nat → DrA
  | 2 => ⟨[2, 0, 1, 3, 4, 5, 6, 7, 8], [[], [], [], [1, 2], [0, 1, 2, 3], [0, 1, 2, 3, 4], [0, 1, 2, 3, 4], [0, 1, 2, 3, 4, 5, 6], [0, 1, 2, 3, 4, 5, 6, 7]], [0], [3], [3], false⟩
  | _ => ⟨[], [], [], [], [], false⟩
noncomputable def shares_Of_tb : List (CE CT Try.prog) := [shares_at_2_ce, shares_share_ce]
noncomputable def shares_Of_lt : List (LE CT Try.prog) := []
noncomputable def shares_Of (x0 : DShares) (x1 : List UInt8) : Option (((DShare) × (Bool) × Unit) × (Unit)) :=
  (shares_at_2 (⟨x0⟩ : DWork) x1).bind fun r1 =>
  (shares_share (⟨x0⟩ : DWork) r1.1).bind fun r2 =>
  some ((r2.1.1, r2.1.2.1, ()), ())
noncomputable def shares_Of_ce : CE CT Try.prog where
  f := 14
  args := [.cod 8, .one (.str)]
  hs := []
  res := .tup [.cod 5, .one (.bool)]
  outs := []
  m := fun d dh => shares_Of d.1 d.2.1
  ok := ce_ok mixedP Try.func14 (by kernel_rfl) (orcOf_ok shares_Of_tb) (dr := shares_Of_dr) (lps := lpsOf shares_Of_lt) (lps_fn (no_loop (by kernel_rfl))) (fun d dh => by kernel_rfl)

def shares_In1_dr : Nat → DrA
  | _ => ⟨[], [], [], [], [], false⟩
noncomputable def shares_In1_tb : List (CE CT Try.prog) := [span_Within_ce]
noncomputable def shares_In1_lt : List (LE CT Try.prog) := []
noncomputable def shares_In1 (x0 : DSpan) (h0 : DSpan) : Option ((Bool) × ((DSpan) × Unit)) :=
  (span_Within h0 x0).bind fun r1 =>
  some (r1.1, (h0, ()))
noncomputable def shares_In1_ce : CE CT Try.prog where
  f := 39
  args := [.cod 4, .one (.ptr 0 0)]
  hs := [.cobj 29 4]
  res := .val (.one (.bool))
  outs := [.cobj 29 4]
  m := fun d dh => shares_In1 d.1 dh.1
  ok := ce_ok mixedP Try.func39 (by kernel_rfl) (orcOf_ok shares_In1_tb) (dr := shares_In1_dr) (lps := lpsOf shares_In1_lt) (lps_fn (no_loop (by kernel_rfl))) (fun d dh => by kernel_rfl)

def shares_at1_3_dr : Nat → DrA
  | _ => ⟨[], [], [], [], [], false⟩
noncomputable def shares_at1_3_tb : List (CE CT Try.prog) := [shares_In1_ce]
noncomputable def shares_at1_3_lt : List (LE CT Try.prog) := []
noncomputable def shares_at1_3 (x0 : DShare) (h0 : (Unit) × Unit) (h1 : DSpan) : Option ((Bool) × (((Unit) × Unit) × (DSpan) × Unit)) :=
  (shares_In1 x0.span h1).bind fun r1 =>
  some (r1.1, (((), ()), r1.2.1, ()))
noncomputable def shares_at1_3_ce : CE CT Try.prog where
  f := 44
  args := [.cod 5, .one (.ptr 0 0)]
  hs := [.obj 58 [.clo 39 [1]], .cobj 29 4]
  res := .val (.one (.bool))
  outs := [.obj 58 [.clo 39 [1]], .cobj 29 4]
  m := fun d dh => shares_at1_3 d.1 dh.1 dh.2.1
  ok := ce_ok mixedP Try.func44 (by kernel_rfl) (orcOf_ok shares_at1_3_tb) (dr := shares_at1_3_dr) (lps := lpsOf shares_at1_3_lt) (lps_fn (no_loop (by kernel_rfl))) (fun d dh => by kernel_rfl)

def slices_IndexFunc_4_dr : Nat → DrA
  | _ => ⟨[], [], [], [], [], false⟩
noncomputable def slices_IndexFunc_4_tb : List (CE CT Try.prog) := [shares_at1_3_ce]
noncomputable def slices_IndexFunc_4_l1 (a : ((List (DShare)) × (Unit) × (Int) × (Int) × Unit) × (((Unit) × Unit) × (DSpan) × Unit)) : Option ((((List (DShare)) × (Unit) × (Int) × (Int) × Unit) × (((Unit) × Unit) × (DSpan) × Unit)) ⊕ ((((Int) × Unit) × (((Unit) × Unit) × (DSpan) × Unit)) ⊕ ((Unit) × (((Unit) × Unit) × (DSpan) × Unit)))) :=
  (bif (decide ((a.1.2.2.2.1 : Int) < a.1.2.2.1)) then
  (getI a.1.1 a.1.2.2.2.1).bind fun e1 =>
  (shares_at1_3 e1 ((), ()) a.2.2.1).bind fun r2 =>
  (bif r2.1 then
  some (.inr (.inl ((a.1.2.2.2.1, ()), (((), ()), r2.2.2.1, ()))))
  else
  some (.inl ((a.1.1, (), a.1.2.2.1, (IntKind.i64.wrap (a.1.2.2.2.1 + 1)), ()), (((), ()), r2.2.2.1, ()))))
  else
  some (.inr (.inr ((), (((), ()), a.2.2.1, ())))))
noncomputable def slices_IndexFunc_4_e1 : LE CT Try.prog := ⟨2, [0, 1, 7, 8], [.one (.sl 5), .one (.clo 44 [0]), .one (.int .i64), .one (.int .i64)], [.obj 58 [.clo 39 [1]], .cobj 29 4], [⟨.ret, [4], [.one (.int .i64)], [.obj 58 [.clo 39 [1]], .cobj 29 4]⟩, ⟨.exit 0, [], [], [.obj 58 [.clo 39 [1]], .cobj 29 4]⟩], slices_IndexFunc_4_l1⟩
noncomputable def slices_IndexFunc_4_lt : List (LE CT Try.prog) := [slices_IndexFunc_4_e1]
theorem slices_IndexFunc_4_e1_ok : LeOk slices_IndexFunc_4_e1 (nthL (bodyOf Try.f43) 0) := fun A env h k z hk => le_ok (E := slices_IndexFunc_4_e1) (orcOf_ok slices_IndexFunc_4_tb) (dr := slices_IndexFunc_4_dr) (lps := lpsOf slices_IndexFunc_4_lt) (no_loop (by kernel_rfl)) (fun a => by kernel_rfl) env h k z hk
noncomputable def slices_IndexFunc_4 (x0 : List (DShare)) (h0 : (Unit) × Unit) (h1 : DSpan) : Option ((Int) × (((Unit) × Unit) × (DSpan) × Unit)) :=
  (loopM slices_IndexFunc_4_l1 ((x0, (), (x0.length : Int), 0, ()), (((), ()), h1, ()))).bind fun b1 =>
  (match b1 with
  | .inl b2 =>
  some (b2.1.1, (((), ()), b2.2.2.1, ()))
  | .inr b3 =>
  some ((-1), (((), ()), b3.2.2.1, ())))
noncomputable def slices_IndexFunc_4_ce : CE CT Try.prog where
  f := 43
  args := [.one (.sl 5), .one (.clo 44 [0])]
  hs := [.obj 58 [.clo 39 [1]], .cobj 29 4]
  res := .val (.one (.int .i64))
  outs := [.obj 58 [.clo 39 [1]], .cobj 29 4]
  m := fun d dh => slices_IndexFunc_4 d.1 dh.1 dh.2.1
  ok := ce_ok mixedP Try.func43 (by kernel_rfl) (orcOf_ok slices_IndexFunc_4_tb) (dr := slices_IndexFunc_4_dr) (lps := lpsOf slices_IndexFunc_4_lt) (lps_fn (lps_of (n := 1) (by kernel_rfl) fun i hi => match i, hi with | 0, _ => lp_ok (E := slices_IndexFunc_4_e1) (by kernel_rfl) slices_IndexFunc_4_e1_ok)) (fun d dh => by kernel_rfl)

def shares_at_3_dr : Nat → DrA
  | _ => ⟨[], [], [], [], [], false⟩
noncomputable def shares_at_3_tb : List (CE CT Try.prog) := [shares_right_ce, slices_IndexFunc_4_ce]
noncomputable def shares_at_3_lt : List (LE CT Try.prog) := []
noncomputable def shares_at_3 (x0 : DWork) (h0 : DSpan) : Option ((Int) × ((DSpan) × Unit)) :=
  (shares_right x0).bind fun r1 =>
  (bif (!r1.1) then
  some ((-1), (h0, ()))
  else
  (slices_IndexFunc_4 x0.shares.list ((), ()) h0).bind fun r2 =>
  some (r2.1, (r2.2.2.1, ())))
noncomputable def shares_at_3_ce : CE CT Try.prog where
  f := 22
  args := [.cod 9, .one (.clo 39 [0])]
  hs := [.cobj 29 4]
  res := .val (.one (.int .i64))
  outs := [.cobj 29 4]
  m := fun d dh => shares_at_3 d.1 dh.1
  ok := ce_ok mixedP Try.func22 (by kernel_rfl) (orcOf_ok shares_at_3_tb) (dr := shares_at_3_dr) (lps := lpsOf shares_at_3_lt) (lps_fn (no_loop (by kernel_rfl))) (fun d dh => by kernel_rfl)

def shares_In_dr : Nat → DrA
  | 2 => ⟨[2, 0, 1, 3, 4, 5, 6, 7, 8], [[], [], [], [1, 2], [0, 1, 2, 3], [0, 1, 2, 3, 4], [0, 1, 2, 3, 4], [0, 1, 2, 3, 4, 5, 6], [0, 1, 2, 3, 4, 5, 6, 7]], [0], [3], [3], false⟩
  | _ => ⟨[], [], [], [], [], false⟩
noncomputable def shares_In_tb : List (CE CT Try.prog) := [shares_at_3_ce, shares_share_ce]
noncomputable def shares_In_lt : List (LE CT Try.prog) := []
noncomputable def shares_In (x0 : DShares) (x1 : DSpan) : Option (((DShare) × (Bool) × Unit) × (Unit)) :=
  (shares_at_3 (⟨x0⟩ : DWork) x1).bind fun r1 =>
  (shares_share (⟨x0⟩ : DWork) r1.1).bind fun r2 =>
  some ((r2.1.1, r2.1.2.1, ()), ())
noncomputable def shares_In_ce : CE CT Try.prog where
  f := 17
  args := [.cod 8, .cod 4]
  hs := []
  res := .tup [.cod 5, .one (.bool)]
  outs := []
  m := fun d dh => shares_In d.1 d.2.1
  ok := ce_ok mixedP Try.func17 (by kernel_rfl) (orcOf_ok shares_In_tb) (dr := shares_In_dr) (lps := lpsOf shares_In_lt) (lps_fn (no_loop (by kernel_rfl))) (fun d dh => by kernel_rfl)

def shares_Right_dr : Nat → DrA
  | _ => ⟨[], [], [], [], [], false⟩
noncomputable def shares_Right_tb : List (CE CT Try.prog) := [shares_right_ce]
noncomputable def shares_Right_lt : List (LE CT Try.prog) := []
noncomputable def shares_Right (x0 : DShares) : Option ((Bool) × (Unit)) :=
  (shares_right (⟨x0⟩ : DWork)).bind fun r1 =>
  some (r1.1, ())
noncomputable def shares_Right_ce : CE CT Try.prog where
  f := 13
  args := [.cod 8]
  hs := []
  res := .val (.one (.bool))
  outs := []
  m := fun d dh => shares_Right d.1
  ok := ce_ok mixedP Try.func13 (by kernel_rfl) (orcOf_ok shares_Right_tb) (dr := shares_Right_dr) (lps := lpsOf shares_Right_lt) (lps_fn (no_loop (by kernel_rfl))) (fun d dh => by kernel_rfl)

def cmp_isNaN_2_dr : Nat → DrA
  | _ => ⟨[], [], [], [], [], false⟩
noncomputable def cmp_isNaN_2_tb : List (CE CT Try.prog) := []
noncomputable def cmp_isNaN_2_lt : List (LE CT Try.prog) := []
noncomputable def cmp_isNaN_2 (x0 : Int) : Option ((Bool) × (Unit)) :=
  some ((decide ((x0 : Int) ≠ x0)), ())
noncomputable def cmp_isNaN_2_ce : CE CT Try.prog where
  f := 87
  args := [.one (.int .i64)]
  hs := []
  res := .val (.one (.bool))
  outs := []
  m := fun d dh => cmp_isNaN_2 d.1
  ok := ce_ok mixedP Try.func87 (by kernel_rfl) (orcOf_ok cmp_isNaN_2_tb) (dr := cmp_isNaN_2_dr) (lps := lpsOf cmp_isNaN_2_lt) (lps_fn (no_loop (by kernel_rfl))) (fun d dh => by kernel_rfl)

def cmp_Less_2_dr : Nat → DrA
  | _ => ⟨[], [], [], [], [], false⟩
noncomputable def cmp_Less_2_tb : List (CE CT Try.prog) := [cmp_isNaN_2_ce]
noncomputable def cmp_Less_2_lt : List (LE CT Try.prog) := []
noncomputable def cmp_Less_2 (x0 : Int) (x1 : Int) : Option ((Bool) × (Unit)) :=
  (cmp_isNaN_2 x0).bind fun r1 =>
  (bif r1.1 then
  (cmp_isNaN_2 x1).bind fun r2 =>
  (bif (!r2.1) then
  some (true, ())
  else
  some ((decide ((x0 : Int) < x1)), ()))
  else
  some ((decide ((x0 : Int) < x1)), ()))
noncomputable def cmp_Less_2_ce : CE CT Try.prog where
  f := 73
  args := [.one (.int .i64), .one (.int .i64)]
  hs := []
  res := .val (.one (.bool))
  outs := []
  m := fun d dh => cmp_Less_2 d.1 d.2.1
  ok := ce_ok mixedP Try.func73 (by kernel_rfl) (orcOf_ok cmp_Less_2_tb) (dr := cmp_Less_2_dr) (lps := lpsOf cmp_Less_2_lt) (lps_fn (no_loop (by kernel_rfl))) (fun d dh => by kernel_rfl)

def slices_insertionSortOrdered_3_dr : Nat → DrA
  | 4 => ⟨[0, 1, 2, 3, 4, 5, 6, 8, 9, 10, 11, 7, 12, 13, 14], [[], [], [0, 1], [0, 1, 2], [0, 1, 2, 3], [0, 1, 2, 3], [0, 1, 2, 3, 4, 5], [0, 1, 2, 3, 4, 5, 6], [0, 1, 2, 3], [0, 1, 2, 3], [0, 1, 2, 3, 9], [0, 1, 2, 3, 8, 9, 10], [0, 1, 2, 3, 8, 9, 10, 11], [0, 1, 2, 3, 4, 5, 6, 7, 8, 9, 10, 11, 12], [0, 1, 2, 3, 4, 5, 6, 7, 8, 9, 10, 11, 12, 13]], [], [], [], false⟩
  | 6 => ⟨[0, 1, 2, 3, 4, 5, 6, 7, 8, 10, 11, 12, 9, 13, 14, 15, 16, 17], [[], [], [], [], [3], [], [], [6], [5, 6, 7], [5, 6, 7, 8], [], [], [10, 11], [10, 11, 12], [0, 1, 5, 6, 7, 8, 9, 10, 11, 12, 13], [0, 1, 5, 6, 7, 8, 9, 10, 11, 12, 13, 14], [0, 1, 2, 3, 4, 5, 6, 7, 8, 9, 10, 11, 12, 13, 14, 15], [0, 1, 2, 3, 4, 5, 6, 7, 8, 9, 10, 11, 12, 13, 14, 15, 16]], [], [], [], false⟩
  | _ => ⟨[], [], [], [], [], false⟩
noncomputable def slices_insertionSortOrdered_3_tb : List (CE CT Try.prog) := [cmp_Less_2_ce]
noncomputable def slices_insertionSortOrdered_3_l2 (a : ((Nat) × (Int) × (Int) × (Int) × (Int) × Unit) × ((List (Int)) × Unit)) : Option ((((Nat) × (Int) × (Int) × (Int) × (Int) × Unit) × ((List (Int)) × Unit)) ⊕ ((((Nat) × (Int) × (Int) × (Int) × Unit) × ((List (Int)) × Unit)))) :=
  (bif (decide ((a.1.2.1 : Int) < a.1.2.2.2.2.1)) then
  (if 0 ≤ (a.1.2.2.2.2.1 : Int) ∧ (a.1.2.2.2.2.1 : Int) < ((a.1.1 : Nat) : Int) then
  (if 0 ≤ ((IntKind.i64.wrap (a.1.2.2.2.2.1 - 1)) : Int) ∧ ((IntKind.i64.wrap (a.1.2.2.2.2.1 - 1)) : Int) < ((a.1.1 : Nat) : Int) then
  (a.2.1[(0 + (a.1.2.2.2.2.1 : Int).toNat)]?).bind fun e1 =>
  (a.2.1[(0 + ((IntKind.i64.wrap (a.1.2.2.2.2.1 - 1)) : Int).toNat)]?).bind fun e2 =>
  (cmp_Less_2 e1 e2).bind fun r3 =>
  (bif r3.1 then
  (if 0 ≤ ((IntKind.i64.wrap (a.1.2.2.2.2.1 - 1)) : Int) ∧ ((IntKind.i64.wrap (a.1.2.2.2.2.1 - 1)) : Int) < ((a.1.1 : Nat) : Int) then
  (if 0 ≤ (a.1.2.2.2.2.1 : Int) ∧ (a.1.2.2.2.2.1 : Int) < ((a.1.1 : Nat) : Int) then
  (a.2.1[(0 + ((IntKind.i64.wrap (a.1.2.2.2.2.1 - 1)) : Int).toNat)]?).bind fun e4 =>
  (a.2.1[(0 + (a.1.2.2.2.2.1 : Int).toNat)]?).bind fun e5 =>
  (if 0 ≤ (a.1.2.2.2.2.1 : Int) ∧ (a.1.2.2.2.2.1 : Int) < ((a.1.1 : Nat) : Int) then
  (a.2.1[(0 + (a.1.2.2.2.2.1 : Int).toNat)]?).bind fun e6 =>
  (if 0 ≤ ((IntKind.i64.wrap (a.1.2.2.2.2.1 - 1)) : Int) ∧ ((IntKind.i64.wrap (a.1.2.2.2.2.1 - 1)) : Int) < ((a.1.1 : Nat) : Int) then
  ((a.2.1.set (0 + (a.1.2.2.2.2.1 : Int).toNat) e4)[(0 + ((IntKind.i64.wrap (a.1.2.2.2.2.1 - 1)) : Int).toNat)]?).bind fun e7 =>
  let y8 : List (Int) := ((a.2.1.set (0 + (a.1.2.2.2.2.1 : Int).toNat) e4).set (0 + ((IntKind.i64.wrap (a.1.2.2.2.2.1 - 1)) : Int).toNat) e5)
  some (.inl ((a.1.1, a.1.2.1, a.1.2.2.1, a.1.2.2.2.1, (IntKind.i64.wrap (a.1.2.2.2.2.1 - 1)), ()), (y8, ())))
  else none)
  else none)
  else none)
  else none)
  else
  some (.inr ((a.1.1, a.1.2.1, a.1.2.2.1, a.1.2.2.2.1, ()), (a.2.1, ()))))
  else none)
  else none)
  else
  some (.inr ((a.1.1, a.1.2.1, a.1.2.2.1, a.1.2.2.2.1, ()), (a.2.1, ()))))
noncomputable def slices_insertionSortOrdered_3_e2 : LE CT Try.prog := ⟨4, [0, 1, 2, 6, 7], [.one (.asz 0 0), .one (.int .i64), .one (.int .i64), .one (.int .i64), .one (.int .i64)], [.arr 3 0 true], [⟨.exit 2, [0, 1, 2, 6], [.one (.asz 0 0), .one (.int .i64), .one (.int .i64), .one (.int .i64)], [.arr 3 0 true]⟩], slices_insertionSortOrdered_3_l2⟩
noncomputable def slices_insertionSortOrdered_3_l1 (a : ((Nat) × (Int) × (Int) × (Int) × Unit) × ((List (Int)) × Unit)) : Option ((((Nat) × (Int) × (Int) × (Int) × Unit) × ((List (Int)) × Unit)) ⊕ (((Unit) × ((List (Int)) × Unit)))) :=
  (bif (decide ((a.1.2.2.2.1 : Int) < a.1.2.2.1)) then
  (loopM slices_insertionSortOrdered_3_l2 ((a.1.1, a.1.2.1, a.1.2.2.1, a.1.2.2.2.1, a.1.2.2.2.1, ()), (a.2.1, ()))).bind fun b1 =>
  some (.inl ((b1.1.1, b1.1.2.1, b1.1.2.2.1, (IntKind.i64.wrap (b1.1.2.2.2.1 + 1)), ()), (b1.2.1, ())))
  else
  some (.inr ((), (a.2.1, ()))))
noncomputable def slices_insertionSortOrdered_3_e1 : LE CT Try.prog := ⟨1, [0, 1, 2, 6], [.one (.asz 0 0), .one (.int .i64), .one (.int .i64), .one (.int .i64)], [.arr 3 0 true], [⟨.exit 0, [], [], [.arr 3 0 true]⟩], slices_insertionSortOrdered_3_l1⟩
noncomputable def slices_insertionSortOrdered_3_lt : List (LE CT Try.prog) := [slices_insertionSortOrdered_3_e2, slices_insertionSortOrdered_3_e1]
theorem slices_insertionSortOrdered_3_e2_ok : LeOk slices_insertionSortOrdered_3_e2 (nthL (nthL (bodyOf Try.f67) 0) 0) := fun A env h k z hk => le_ok (E := slices_insertionSortOrdered_3_e2) (orcOf_ok slices_insertionSortOrdered_3_tb) (dr := slices_insertionSortOrdered_3_dr) (lps := lpsOf slices_insertionSortOrdered_3_lt) (no_loop (by kernel_rfl)) (fun a => by kernel_rfl) env h k z hk
theorem slices_insertionSortOrdered_3_e1_ok : LeOk slices_insertionSortOrdered_3_e1 (nthL (bodyOf Try.f67) 0) := fun A env h k z hk => le_ok (E := slices_insertionSortOrdered_3_e1) (orcOf_ok slices_insertionSortOrdered_3_tb) (dr := slices_insertionSortOrdered_3_dr) (lps := lpsOf slices_insertionSortOrdered_3_lt) (lps_of (n := 1) (by kernel_rfl) fun i hi => match i, hi with | 0, _ => lp_ok (E := slices_insertionSortOrdered_3_e2) (by kernel_rfl) slices_insertionSortOrdered_3_e2_ok) (fun a => by kernel_rfl) env h k z hk
noncomputable def slices_insertionSortOrdered_3 (x0 : Nat) (x1 : Int) (x2 : Int) (h0 : List (Int)) : Option ((Unit) × ((List (Int)) × Unit)) :=
  (loopM slices_insertionSortOrdered_3_l1 ((x0, x1, x2, (IntKind.i64.wrap (x1 + 1)), ()), (h0, ()))).bind fun b1 =>
  some ((), (b1.2.1, ()))
noncomputable def slices_insertionSortOrdered_3_ce : CE CT Try.prog where
  f := 67
  args := [.one (.asz 0 0), .one (.int .i64), .one (.int .i64)]
  hs := [.arr 3 0 true]
  res := .tup []
  outs := [.arr 3 0 true]
  m := fun d dh => slices_insertionSortOrdered_3 d.1 d.2.1 d.2.2.1 dh.1
  ok := ce_ok mixedP Try.func67 (by kernel_rfl) (orcOf_ok slices_insertionSortOrdered_3_tb) (dr := slices_insertionSortOrdered_3_dr) (lps := lpsOf slices_insertionSortOrdered_3_lt) (lps_fn (lps_of (n := 1) (by kernel_rfl) fun i hi => match i, hi with | 0, _ => lp_ok (E := slices_insertionSortOrdered_3_e1) (by kernel_rfl) slices_insertionSortOrdered_3_e1_ok)) (fun d dh => by kernel_rfl)

def slices_pdqsortOrdered_3_dr : Nat → DrA
  | _ => ⟨[], [], [], [], [], false⟩
noncomputable def slices_pdqsortOrdered_3_tb : List (CE CT Try.prog) := [slices_insertionSortOrdered_3_ce]
noncomputable def slices_pdqsortOrdered_3_l1 (a : ((Nat) × (Int) × (Int) × (Int) × (Bool) × (Bool) × Unit) × ((List (Int)) × Unit)) : Option ((((Nat) × (Int) × (Int) × (Int) × (Bool) × (Bool) × Unit) × ((List (Int)) × Unit)) ⊕ (((Unit) × ((List (Int)) × Unit)))) :=
  (bif (decide (((IntKind.i64.wrap (a.1.2.2.1 - a.1.2.1)) : Int) ≤ 12)) then
  (slices_insertionSortOrdered_3 a.1.1 a.1.2.1 a.1.2.2.1 a.2.1).bind fun r1 =>
  some (.inr ((), (r1.2.1, ())))
  else
  (bif (decide ((a.1.2.2.2.1 : Int) = 0)) then
  none
  else
  (bif (!a.1.2.2.2.2.1) then
  none
  else
  none)))
noncomputable def slices_pdqsortOrdered_3_e1 : LE CT Try.prog := ⟨2, [0, 1, 2, 3, 8, 9], [.one (.asz 0 0), .one (.int .i64), .one (.int .i64), .one (.int .i64), .one (.bool), .one (.bool)], [.arr 3 0 true], [⟨.ret, [], [], [.arr 3 0 true]⟩], slices_pdqsortOrdered_3_l1⟩
noncomputable def slices_pdqsortOrdered_3_lt : List (LE CT Try.prog) := [slices_pdqsortOrdered_3_e1]
theorem slices_pdqsortOrdered_3_e1_ok : LeOk slices_pdqsortOrdered_3_e1 (nthL (bodyOf Try.f60) 0) := fun A env h k z hk => le_ok (E := slices_pdqsortOrdered_3_e1) (orcOf_ok slices_pdqsortOrdered_3_tb) (dr := slices_pdqsortOrdered_3_dr) (lps := lpsOf slices_pdqsortOrdered_3_lt) (no_loop (by kernel_rfl)) (fun a => by kernel_rfl) env h k z hk
noncomputable def slices_pdqsortOrdered_3 (x0 : Nat) (x1 : Int) (x2 : Int) (x3 : Int) (h0 : List (Int)) : Option ((Unit) × ((List (Int)) × Unit)) :=
  (loopM slices_pdqsortOrdered_3_l1 ((x0, x1, x2, x3, true, true, ()), (h0, ()))).bind fun b1 =>
  some ((), (b1.2.1, ()))
noncomputable def slices_pdqsortOrdered_3_ce : CE CT Try.prog where
  f := 60
  args := [.one (.asz 0 0), .one (.int .i64), .one (.int .i64), .one (.int .i64)]
  hs := [.arr 3 0 true]
  res := .tup []
  outs := [.arr 3 0 true]
  m := fun d dh => slices_pdqsortOrdered_3 d.1 d.2.1 d.2.2.1 d.2.2.2.1 dh.1
  ok := ce_ok mixedP Try.func60 (by kernel_rfl) (orcOf_ok slices_pdqsortOrdered_3_tb) (dr := slices_pdqsortOrdered_3_dr) (lps := lpsOf slices_pdqsortOrdered_3_lt) (lps_fn (lps_of (n := 1) (by kernel_rfl) fun i hi => match i, hi with | 0, _ => lp_ok (E := slices_pdqsortOrdered_3_e1) (by kernel_rfl) slices_pdqsortOrdered_3_e1_ok)) (fun d dh => by kernel_rfl)

def slices_Sort_3_dr : Nat → DrA
  | _ => ⟨[], [], [], [], [], false⟩
noncomputable def slices_Sort_3_tb : List (CE CT Try.prog) := [bits_Len_ce, slices_pdqsortOrdered_3_ce]
noncomputable def slices_Sort_3_lt : List (LE CT Try.prog) := []
noncomputable def slices_Sort_3 (x0 : Nat) (h0 : List (Int)) : Option ((Unit) × ((List (Int)) × Unit)) :=
  (bits_Len (IntKind.u64.wrap ((x0 : Nat) : Int))).bind fun r1 =>
  (slices_pdqsortOrdered_3 x0 0 ((x0 : Nat) : Int) r1.1 h0).bind fun r2 =>
  some ((), (r2.2.1, ()))
noncomputable def slices_Sort_3_ce : CE CT Try.prog where
  f := 41
  args := [.one (.asz 0 0)]
  hs := [.arr 3 0 true]
  res := .tup []
  outs := [.arr 3 0 true]
  m := fun d dh => slices_Sort_3 d.1 dh.1
  ok := ce_ok mixedP Try.func41 (by kernel_rfl) (orcOf_ok slices_Sort_3_tb) (dr := slices_Sort_3_dr) (lps := lpsOf slices_Sort_3_lt) (lps_fn (no_loop (by kernel_rfl))) (fun d dh => by kernel_rfl)

def slices_Compact_3_dr : Nat → DrA
  | 6 => ⟨[0, 1, 2, 4, 5, 6, 7, 3, 8, 9], [[], [], [0, 1], [0, 1, 2], [], [], [5], [4, 5, 6], [4, 5, 6, 7], [0, 1, 2, 3, 4, 5, 6, 7, 8]], [], [], [], false⟩
  | 11 => ⟨[0, 1, 2, 4, 5, 6, 7, 3, 8, 9], [[], [], [0, 1], [0, 1, 2], [], [], [5], [4, 5, 6], [4, 5, 6, 7], [0, 1, 2, 3, 4, 5, 6, 7, 8]], [], [], [], false⟩
  | _ => ⟨[], [], [], [], [], false⟩
noncomputable def slices_Compact_3_tb : List (CE CT Try.prog) := []
noncomputable def slices_Compact_3_l2 (a : ((Nat) × (Int) × (Nat × Nat) × (Int) × Unit) × ((List (Int)) × Unit)) : Option ((((Nat) × (Int) × (Nat × Nat) × (Int) × Unit) × ((List (Int)) × Unit)) ⊕ ((((Nat) × (Int) × Unit) × ((List (Int)) × Unit)))) :=
  (bif (decide ((a.1.2.2.2.1 : Int) < ((a.1.2.2.1.2 : Nat) : Int))) then
  (if 0 ≤ (a.1.2.2.2.1 : Int) ∧ (a.1.2.2.2.1 : Int) < ((a.1.2.2.1.2 : Nat) : Int) then
  (if 0 ≤ ((IntKind.i64.wrap (a.1.2.2.2.1 - 1)) : Int) ∧ ((IntKind.i64.wrap (a.1.2.2.2.1 - 1)) : Int) < ((a.1.2.2.1.2 : Nat) : Int) then
  (a.2.1[(a.1.2.2.1.1 + (a.1.2.2.2.1 : Int).toNat)]?).bind fun e1 =>
  (a.2.1[(a.1.2.2.1.1 + ((IntKind.i64.wrap (a.1.2.2.2.1 - 1)) : Int).toNat)]?).bind fun e2 =>
  (bif (decide ((e1 : Int) ≠ e2)) then
  (if 0 ≤ (a.1.2.2.2.1 : Int) ∧ (a.1.2.2.2.1 : Int) < ((a.1.2.2.1.2 : Nat) : Int) then
  (a.2.1[(a.1.2.2.1.1 + (a.1.2.2.2.1 : Int).toNat)]?).bind fun e3 =>
  (if 0 ≤ (a.1.2.1 : Int) ∧ (a.1.2.1 : Int) < ((a.1.1 : Nat) : Int) then
  (a.2.1[(0 + (a.1.2.1 : Int).toNat)]?).bind fun e4 =>
  some (.inl ((a.1.1, (IntKind.i64.wrap (a.1.2.1 + 1)), (a.1.2.2.1.1, a.1.2.2.1.2), (IntKind.i64.wrap (a.1.2.2.2.1 + 1)), ()), ((a.2.1.set (0 + (a.1.2.1 : Int).toNat) e3), ())))
  else none)
  else none)
  else
  some (.inl ((a.1.1, a.1.2.1, (a.1.2.2.1.1, a.1.2.2.1.2), (IntKind.i64.wrap (a.1.2.2.2.1 + 1)), ()), (a.2.1, ()))))
  else none)
  else none)
  else
  some (.inr ((a.1.1, a.1.2.1, ()), (a.2.1, ()))))
noncomputable def slices_Compact_3_e2 : LE CT Try.prog := ⟨9, [0, 3, 4, 5], [.one (.asz 0 0), .one (.int .i64), .one (.asu 0 0), .one (.int .i64)], [.arr 3 0 true], [⟨.exit 2, [0, 3], [.one (.asz 0 0), .one (.int .i64)], [.arr 3 0 true]⟩], slices_Compact_3_l2⟩
noncomputable def slices_Compact_3_l1 (a : ((Nat) × (Int) × Unit) × ((List (Int)) × Unit)) : Option ((((Nat) × (Int) × Unit) × ((List (Int)) × Unit)) ⊕ ((((Nat × Nat) × Unit) × ((List (Int)) × Unit)) ⊕ (((Nat) × Unit) × ((List (Int)) × Unit)))) :=
  (bif (decide ((a.1.2.1 : Int) < ((a.1.1 : Nat) : Int))) then
  (if 0 ≤ (a.1.2.1 : Int) ∧ (a.1.2.1 : Int) < ((a.1.1 : Nat) : Int) then
  (if 0 ≤ ((IntKind.i64.wrap (a.1.2.1 - 1)) : Int) ∧ ((IntKind.i64.wrap (a.1.2.1 - 1)) : Int) < ((a.1.1 : Nat) : Int) then
  (a.2.1[(0 + (a.1.2.1 : Int).toNat)]?).bind fun e1 =>
  (a.2.1[(0 + ((IntKind.i64.wrap (a.1.2.1 - 1)) : Int).toNat)]?).bind fun e2 =>
  (bif (decide ((e1 : Int) = e2)) then
  (if 0 ≤ (a.1.2.1 : Int) ∧ (a.1.2.1 : Int) ≤ ((a.1.1 : Nat) : Int) ∧ ((a.1.1 : Nat) : Int) ≤ ((a.1.1 : Nat) : Int) ∧ ((a.1.1 : Nat) : Int) ≤ 140737488355328 then
  (loopM slices_Compact_3_l2 ((a.1.1, a.1.2.1, ((0 + (a.1.2.1 : Int).toNat), (((a.1.1 : Nat) : Int).toNat - (a.1.2.1 : Int).toNat)), 1, ()), (a.2.1, ()))).bind fun b3 =>
  (if 0 ≤ (b3.1.2.1 : Int) ∧ (b3.1.2.1 : Int) ≤ ((b3.1.1 : Nat) : Int) ∧ ((b3.1.1 : Nat) : Int) ≤ ((b3.1.1 : Nat) : Int) ∧ ((b3.1.1 : Nat) : Int) ≤ 140737488355328 then
  (if (0 + (b3.1.2.1 : Int).toNat) ≤ b3.2.1.length then
  let y4 : List (Int) := (b3.2.1.take (0 + (b3.1.2.1 : Int).toNat) ++ List.replicate (((b3.1.1 : Nat) : Int).toNat - (b3.1.2.1 : Int).toNat) (0 : Int) ++ b3.2.1.drop ((0 + (b3.1.2.1 : Int).toNat) + (((b3.1.1 : Nat) : Int).toNat - (b3.1.2.1 : Int).toNat)))
  (if 0 ≤ (0 : Int) ∧ (0 : Int) ≤ (b3.1.2.1 : Int) ∧ (b3.1.2.1 : Int) ≤ ((b3.1.1 : Nat) : Int) ∧ (b3.1.2.1 : Int) ≤ 140737488355328 then
  some (.inr (.inl ((((0 + (0 : Int).toNat), ((b3.1.2.1 : Int).toNat - (0 : Int).toNat)), ()), (y4, ()))))
  else none)
  else none)
  else none)
  else none)
  else
  some (.inl ((a.1.1, (IntKind.i64.wrap (a.1.2.1 + 1)), ()), (a.2.1, ()))))
  else none)
  else none)
  else
  some (.inr (.inr ((a.1.1, ()), (a.2.1, ())))))
noncomputable def slices_Compact_3_e1 : LE CT Try.prog := ⟨4, [0, 3], [.one (.asz 0 0), .one (.int .i64)], [.arr 3 0 true], [⟨.ret, [2], [.one (.asu 0 0)], [.arr 3 0 true]⟩, ⟨.exit 0, [0], [.one (.asz 0 0)], [.arr 3 0 true]⟩], slices_Compact_3_l1⟩
noncomputable def slices_Compact_3_lt : List (LE CT Try.prog) := [slices_Compact_3_e2, slices_Compact_3_e1]
theorem slices_Compact_3_e2_ok : LeOk slices_Compact_3_e2 (nthL (nthL (bodyOf Try.f42) 0) 0) := fun A env h k z hk => le_ok (E := slices_Compact_3_e2) (orcOf_ok slices_Compact_3_tb) (dr := slices_Compact_3_dr) (lps := lpsOf slices_Compact_3_lt) (no_loop (by kernel_rfl)) (fun a => by kernel_rfl) env h k z hk
theorem slices_Compact_3_e1_ok : LeOk slices_Compact_3_e1 (nthL (bodyOf Try.f42) 0) := fun A env h k z hk => le_ok (E := slices_Compact_3_e1) (orcOf_ok slices_Compact_3_tb) (dr := slices_Compact_3_dr) (lps := lpsOf slices_Compact_3_lt) (lps_of (n := 1) (by kernel_rfl) fun i hi => match i, hi with | 0, _ => lp_ok (E := slices_Compact_3_e2) (by kernel_rfl) slices_Compact_3_e2_ok) (fun a => by kernel_rfl) env h k z hk
noncomputable def slices_Compact_3 (x0 : Nat) (h0 : List (Int)) : Option ((Nat × Nat) × ((List (Int)) × Unit)) :=
  (bif (decide ((((x0 : Nat) : Int) : Int) < 2)) then
  some ((0, x0), (h0, ()))
  else
  (loopM slices_Compact_3_l1 ((x0, 1, ()), (h0, ()))).bind fun b1 =>
  (match b1 with
  | .inl b2 =>
  some ((b2.1.1.1, b2.1.1.2), (b2.2.1, ()))
  | .inr b3 =>
  some ((0, b3.1.1), (b3.2.1, ()))))
noncomputable def slices_Compact_3_ce : CE CT Try.prog where
  f := 42
  args := [.one (.asz 0 0)]
  hs := [.arr 3 0 true]
  res := .val (.one (.asu 0 0))
  outs := [.arr 3 0 true]
  m := fun d dh => slices_Compact_3 d.1 dh.1
  ok := ce_ok mixedP Try.func42 (by kernel_rfl) (orcOf_ok slices_Compact_3_tb) (dr := slices_Compact_3_dr) (lps := lpsOf slices_Compact_3_lt) (lps_fn (lps_of (n := 1) (by kernel_rfl) fun i hi => match i, hi with | 0, _ => lp_ok (E := slices_Compact_3_e1) (by kernel_rfl) slices_Compact_3_e1_ok)) (fun d dh => by kernel_rfl)

def shares_Groups_dr : Nat → DrA
  | _ => ⟨[], [], [], [], [], false⟩
noncomputable def shares_Groups_tb : List (CE CT Try.prog) := [shares_Right_ce, shares_Of_ce, slices_Sort_3_ce, slices_Compact_3_ce]
noncomputable def shares_Groups_l1 (a : ((Unit) × (Nat) × (List (List UInt8)) × (Int) × (Int) × Unit) × ((DShares) × (List (Int)) × Unit)) : Option ((((Unit) × (Nat) × (List (List UInt8)) × (Int) × (Int) × Unit) × ((DShares) × (List (Int)) × Unit)) ⊕ ((((Unit) × (Bool) × Unit) × ((DShares) × (Unit) × Unit)) ⊕ (((Nat) × Unit) × ((DShares) × (Unit) × (List (Int)) × Unit)))) :=
  (bif (decide ((a.1.2.2.2.2.1 : Int) < a.1.2.2.2.1)) then
  (getI a.1.2.2.1 a.1.2.2.2.2.1).bind fun e1 =>
  (shares_Of a.2.1 e1).bind fun r2 =>
  (bif (!r2.1.2.1) then
  some (.inr (.inl (((), false, ()), (a.2.1, (), ()))))
  else
  (if (a.1.2.1 + ([r2.1.1.group] : List (Int)).length) ≤ 140737488355328 ∧ (a.1.2.1 + ([r2.1.1.group] : List (Int)).length) * 8 ≤ 140737488355328 ∧ 0 + a.1.2.1 ≤ a.2.2.1.length then
  some (.inl (((), (a.1.2.1 + ([r2.1.1.group] : List (Int)).length), a.1.2.2.1, a.1.2.2.2.1, (IntKind.i64.wrap (a.1.2.2.2.2.1 + 1)), ()), (a.2.1, (a.2.2.1.take a.1.2.1 ++ ([r2.1.1.group] : List (Int))), ())))
  else none))
  else
  some (.inr (.inr ((a.1.2.1, ()), (a.2.1, (), a.2.2.1, ())))))
noncomputable def shares_Groups_e1 : LE CT Try.prog := ⟨5, [2, 6, 14, 15, 16], [.one (.ptr 0 0), .one (.asz 0 1), .one (.sl 2), .one (.int .i64), .one (.int .i64)], [.cobj 26 8, .arr 3 0 false], [⟨.ret, [4, 5], [.one (.nil), .one (.bool)], [.cobj 26 8, .dead]⟩, ⟨.exit 0, [6], [.one (.asz 0 2)], [.cobj 26 8, .dead, .arr 3 0 false]⟩], shares_Groups_l1⟩
noncomputable def shares_Groups_lt : List (LE CT Try.prog) := [shares_Groups_e1]
theorem shares_Groups_e1_ok : LeOk shares_Groups_e1 (nthL (bodyOf Try.f19) 0) := fun A env h k z hk => le_ok (E := shares_Groups_e1) (orcOf_ok shares_Groups_tb) (dr := shares_Groups_dr) (lps := lpsOf shares_Groups_lt) (no_loop (by kernel_rfl)) (fun a => by kernel_rfl) env h k z hk
noncomputable def shares_Groups (x0 : DShares) (x1 : List (List UInt8)) : Option (((Nat × Nat) × (Bool) × Unit) × ((List (Int)) × Unit)) :=
  (shares_Right x0).bind fun r1 =>
  (bif (!r1.1) then
  some (((0, 0), false, ()), ([], ()))
  else
  (loopM shares_Groups_l1 (((), 0, x1, (x1.length : Int), 0, ()), (x0, [], ()))).bind fun b2 =>
  (match b2 with
  | .inl b3 =>
  some (((0, 0), b3.1.2.1, ()), ([], ()))
  | .inr b4 =>
  (slices_Sort_3 b4.1.1 b4.2.2.2.1).bind fun r5 =>
  (slices_Compact_3 b4.1.1 r5.2.1).bind fun r6 =>
  some (((r6.1.1, r6.1.2), true, ()), (r6.2.1, ()))))
noncomputable def shares_Groups_ce : CE CT Try.prog where
  f := 19
  args := [.cod 8, .one (.sl 2)]
  hs := []
  res := .tup [.one (.asu 0 0), .one (.bool)]
  outs := [.arr 3 0 false]
  m := fun d dh => shares_Groups d.1 d.2.1
  ok := ce_ok mixedP Try.func19 (by kernel_rfl) (orcOf_ok shares_Groups_tb) (dr := shares_Groups_dr) (lps := lpsOf shares_Groups_lt) (lps_fn (lps_of (n := 1) (by kernel_rfl) fun i hi => match i, hi with | 0, _ => lp_ok (E := shares_Groups_e1) (by kernel_rfl) shares_Groups_e1_ok)) (fun d dh => by kernel_rfl)

def watershedlaw05_SharesKeys_dr : Nat → DrA
  | 15 => ⟨[0, 1, 2, 3, 4, 5, 7, 9, 6, 8, 10, 11, 12, 13, 14, 15, 16, 17, 18, 19, 21, 23, 20, 22, 24, 25, 26, 27, 28, 29, 30, 31, 32, 34, 33, 35, 36, 37, 38, 39], [[], [0], [0, 1], [0, 1, 2], [0, 1, 2, 3], [0, 1, 2, 3, 4], [0, 1, 2, 3, 4, 5], [0, 1, 2, 3], [0, 1, 2, 3, 7], [0, 1, 2, 3], [0, 1, 2, 3, 9], [0, 1, 2, 3, 7, 8, 9, 10], [0, 1, 2, 3, 4, 5, 6, 7, 8, 9, 10, 11], [0, 1, 2, 3, 4, 5, 6, 7, 8, 9, 10, 11, 12], [0, 1, 2, 3, 4, 5, 6, 7, 8, 9, 10, 11, 12, 13], [0, 1, 2, 3, 4, 5, 6, 7, 8, 9, 10, 11, 12, 13, 14], [0, 1, 2, 3, 4, 5, 6, 7, 8, 9, 10, 11, 12, 13, 14], [0, 1, 2, 3, 4, 5, 6, 7, 8, 9, 10, 11, 12, 13, 14, 16], [0, 1, 2, 3, 4, 5, 6, 7, 8, 9, 10, 11, 12, 13, 14, 16, 17], [0, 1, 2, 3, 4, 5, 6, 7, 8, 9, 10, 11, 12, 13, 14, 15, 16, 17, 18], [0, 1, 2, 3, 4, 5, 6, 7, 8, 9, 10, 11, 12, 13, 14, 15, 16, 17, 18, 19], [0, 1, 2, 3, 4, 5, 6, 7, 8, 9, 10, 11, 12, 13, 14], [0, 1, 2, 3, 4, 5, 6, 7, 8, 9, 10, 11, 12, 13, 14, 21], [0, 1, 2, 3, 4, 5, 6, 7, 8, 9, 10, 11, 12, 13, 14], [0, 1, 2, 3, 4, 5, 6, 7, 8, 9, 10, 11, 12, 13, 14, 23], [0, 1, 2, 3, 4, 5, 6, 7, 8, 9, 10, 11, 12, 13, 14, 21, 22, 23, 24], [0, 1, 2, 3, 4, 5, 6, 7, 8, 9, 10, 11, 12, 13, 14, 15, 16, 17, 18, 19, 20, 21, 22, 23, 24, 25], [0, 1, 2, 3, 4, 5, 6, 7, 8, 9, 10, 11, 12, 13, 14, 15, 16, 17, 18, 19, 20, 21, 22, 23, 24, 25, 26], [0, 1, 2, 3, 4, 5, 6, 7, 8, 9, 10, 11, 12, 13, 14, 15, 16, 17, 18, 19, 20, 21, 22, 23, 24, 25, 26, 27], [0, 1, 2, 3, 4, 5, 6, 7, 8, 9, 10, 11, 12, 13, 14, 15, 16, 17, 18, 19, 20, 21, 22, 23, 24, 25, 26, 27, 28], [0, 1, 2, 3, 4, 5, 6, 7, 8, 9, 10, 11, 12, 13, 14, 15, 16, 17, 18, 19, 20, 21, 22, 23, 24, 25, 26, 27, 28, 29], [0, 1, 2, 3, 4, 5, 6, 7, 8, 9, 10, 11, 12, 13, 14, 15, 16, 17, 18, 19, 20, 21, 22, 23, 24, 25, 26, 27, 28, 29, 30], [0, 1, 2, 3, 4, 5, 6, 7, 8, 9, 10, 11, 12, 13, 14, 15, 16, 17, 18, 19, 20, 21, 22, 23, 24, 25, 26, 27, 28], [0, 1, 2, 3, 4, 5, 6, 7, 8, 9, 10, 11, 12, 13, 14, 15, 16, 17, 18, 19, 20, 21, 22, 23, 24, 25, 26, 27, 28, 32], [0, 1, 2, 3, 4, 5, 6, 7, 8, 9, 10, 11, 12, 13, 14, 15, 16, 17, 18, 19, 20, 21, 22, 23, 24, 25, 26, 27, 28], [0, 1, 2, 3, 4, 5, 6, 7, 8, 9, 10, 11, 12, 13, 14, 15, 16, 17, 18, 19, 20, 21, 22, 23, 24, 25, 26, 27, 28, 34], [0, 1, 2, 3, 4, 5, 6, 7, 8, 9, 10, 11, 12, 13, 14, 15, 16, 17, 18, 19, 20, 21, 22, 23, 24, 25, 26, 27, 28, 32, 33, 34, 35], [0, 1, 2, 3, 4, 5, 6, 7, 8, 9, 10, 11, 12, 13, 14, 15, 16, 17, 18, 19, 20, 21, 22, 23, 24, 25, 26, 27, 28, 29, 30, 31, 32, 33, 34, 35, 36], [0, 1, 2, 3, 4, 5, 6, 7, 8, 9, 10, 11, 12, 13, 14, 15, 16, 17, 18, 19, 20, 21, 22, 23, 24, 25, 26, 27, 28, 29, 30, 31, 32, 33, 34, 35, 36, 37], [0, 1, 2, 3, 4, 5, 6, 7, 8, 9, 10, 11, 12, 13, 14, 15, 16, 17, 18, 19, 20, 21, 22, 23, 24, 25, 26, 27, 28, 29, 30, 31, 32, 33, 34, 35, 36, 37, 38]], [], [], [], false⟩
  | _ => ⟨[], [], [], [], [], false⟩
noncomputable def watershedlaw05_SharesKeys_tb : List (CE CT Try.prog) := [watershedlaw05_awake_ce, watershedlaw05_great_ce, shares_Of_ce, shares_In_ce, span_Has_ce, shares_Right_ce, span_Key_ce, span_Within_ce, shares_Groups_ce]
noncomputable def watershedlaw05_SharesKeys_lt : List (LE CT Try.prog) := []
noncomputable def watershedlaw05_SharesKeys (x0 : DShares) (x1 : DSpan) (x2 : List UInt8) (x3 : List UInt8) : Option ((Bool) × (Unit)) :=
  (watershedlaw05_awake).bind fun r1 =>
  (bif (!r1.1) then
  some (false, ())
  else
  (watershedlaw05_great x0 ([x1.lo, x1.hi, x2, x3] : List (List UInt8))).bind fun r2 =>
  (bif r2.1 then
  some (true, ())
  else
  (shares_Of x0 x2).bind fun r3 =>
  (shares_In x0 x1).bind fun r4 =>
  (bif r3.1.2.1 then
  (span_Has r3.1.1.span x2).bind fun r5 =>
  (bif (!r5.1) then
  some (false, ())
  else
  (shares_Right x0).bind fun r6 =>
  (bif r6.1 then
  (span_Key x2).bind fun r7 =>
  (bif (decide (r3.1.2.1 ≠ r7.1)) then
  some (false, ())
  else
  (bif r4.1.2.1 then
  (span_Has x1 x2).bind fun r8 =>
  (bif r8.1 then
  (bif (!(decide (r3.1.1.span.lo = r4.1.1.span.lo) && (decide (r3.1.1.span.hi = r4.1.1.span.hi) && (decide ((r3.1.1.group : Int) = r4.1.1.group) && (decide ((r3.1.1.epoch : Int) = r4.1.1.epoch) && true))))) then
  some (false, ())
  else
  (bif r4.1.2.1 then
  (span_Within x1 r4.1.1.span).bind fun r9 =>
  (bif (!r9.1) then
  some (false, ())
  else
  (shares_Of x0 x3).bind fun r10 =>
  (shares_Groups x0 ([x2, x3] : List (List UInt8))).bind fun r11 =>
  (bif r3.1.2.1 then
  (bif (decide (r11.1.2.1 ≠ r10.1.2.1)) then
  some (false, ())
  else
  (bif (!r11.1.2.1) then
  some ((decide ((((r11.1.1.2 : Nat) : Int) : Int) = 0)), ())
  else
  (bif (decide ((1 : Int) ≤ ((r11.1.1.2 : Nat) : Int))) then
  (if 0 ≤ (0 : Int) ∧ (0 : Int) < ((r11.1.1.2 : Nat) : Int) then
  (r11.2.1[(r11.1.1.1 + (0 : Int).toNat)]?).bind fun e12 =>
  let y13 : Int := (if (r10.1.1.group : Int) < r3.1.1.group then r10.1.1.group else r3.1.1.group)
  (bif (decide ((e12 : Int) = y13)) then
  (if 0 ≤ ((IntKind.i64.wrap (((r11.1.1.2 : Nat) : Int) - 1)) : Int) ∧ ((IntKind.i64.wrap (((r11.1.1.2 : Nat) : Int) - 1)) : Int) < ((r11.1.1.2 : Nat) : Int) then
  (r11.2.1[(r11.1.1.1 + ((IntKind.i64.wrap (((r11.1.1.2 : Nat) : Int) - 1)) : Int).toNat)]?).bind fun e14 =>
  let y15 : Int := (if (r3.1.1.group : Int) < r10.1.1.group then r10.1.1.group else r3.1.1.group)
  (bif (decide ((e14 : Int) = y15)) then
  let y16 : Bool := (decide ((decide ((((r11.1.1.2 : Nat) : Int) : Int) = 1)) = (decide ((r3.1.1.group : Int) = r10.1.1.group))))
  some (y16, ())
  else
  some (false, ()))
  else none)
  else
  some (false, ()))
  else none)
  else
  some (false, ()))))
  else
  (bif (decide (r11.1.2.1 ≠ false)) then
  some (false, ())
  else
  (bif (!r11.1.2.1) then
  some ((decide ((((r11.1.1.2 : Nat) : Int) : Int) = 0)), ())
  else
  (bif (decide ((1 : Int) ≤ ((r11.1.1.2 : Nat) : Int))) then
  (if 0 ≤ (0 : Int) ∧ (0 : Int) < ((r11.1.1.2 : Nat) : Int) then
  (r11.2.1[(r11.1.1.1 + (0 : Int).toNat)]?).bind fun e17 =>
  let y18 : Int := (if (r10.1.1.group : Int) < r3.1.1.group then r10.1.1.group else r3.1.1.group)
  (bif (decide ((e17 : Int) = y18)) then
  (if 0 ≤ ((IntKind.i64.wrap (((r11.1.1.2 : Nat) : Int) - 1)) : Int) ∧ ((IntKind.i64.wrap (((r11.1.1.2 : Nat) : Int) - 1)) : Int) < ((r11.1.1.2 : Nat) : Int) then
  (r11.2.1[(r11.1.1.1 + ((IntKind.i64.wrap (((r11.1.1.2 : Nat) : Int) - 1)) : Int).toNat)]?).bind fun e19 =>
  let y20 : Int := (if (r3.1.1.group : Int) < r10.1.1.group then r10.1.1.group else r3.1.1.group)
  (bif (decide ((e19 : Int) = y20)) then
  let y21 : Bool := (decide ((decide ((((r11.1.1.2 : Nat) : Int) : Int) = 1)) = (decide ((r3.1.1.group : Int) = r10.1.1.group))))
  some (y21, ())
  else
  some (false, ()))
  else none)
  else
  some (false, ()))
  else none)
  else
  some (false, ()))))))
  else
  (shares_Of x0 x3).bind fun r22 =>
  (shares_Groups x0 ([x2, x3] : List (List UInt8))).bind fun r23 =>
  (bif r3.1.2.1 then
  (bif (decide (r23.1.2.1 ≠ r22.1.2.1)) then
  some (false, ())
  else
  (bif (!r23.1.2.1) then
  some ((decide ((((r23.1.1.2 : Nat) : Int) : Int) = 0)), ())
  else
  (bif (decide ((1 : Int) ≤ ((r23.1.1.2 : Nat) : Int))) then
  (if 0 ≤ (0 : Int) ∧ (0 : Int) < ((r23.1.1.2 : Nat) : Int) then
  (r23.2.1[(r23.1.1.1 + (0 : Int).toNat)]?).bind fun e24 =>
  let y25 : Int := (if (r22.1.1.group : Int) < r3.1.1.group then r22.1.1.group else r3.1.1.group)
  (bif (decide ((e24 : Int) = y25)) then
  (if 0 ≤ ((IntKind.i64.wrap (((r23.1.1.2 : Nat) : Int) - 1)) : Int) ∧ ((IntKind.i64.wrap (((r23.1.1.2 : Nat) : Int) - 1)) : Int) < ((r23.1.1.2 : Nat) : Int) then
  (r23.2.1[(r23.1.1.1 + ((IntKind.i64.wrap (((r23.1.1.2 : Nat) : Int) - 1)) : Int).toNat)]?).bind fun e26 =>
  let y27 : Int := (if (r3.1.1.group : Int) < r22.1.1.group then r22.1.1.group else r3.1.1.group)
  (bif (decide ((e26 : Int) = y27)) then
  let y28 : Bool := (decide ((decide ((((r23.1.1.2 : Nat) : Int) : Int) = 1)) = (decide ((r3.1.1.group : Int) = r22.1.1.group))))
  some (y28, ())
  else
  some (false, ()))
  else none)
  else
  some (false, ()))
  else none)
  else
  some (false, ()))))
  else
  (bif (decide (r23.1.2.1 ≠ false)) then
  some (false, ())
  else
  (bif (!r23.1.2.1) then
  some ((decide ((((r23.1.1.2 : Nat) : Int) : Int) = 0)), ())
  else
  (bif (decide ((1 : Int) ≤ ((r23.1.1.2 : Nat) : Int))) then
  (if 0 ≤ (0 : Int) ∧ (0 : Int) < ((r23.1.1.2 : Nat) : Int) then
  (r23.2.1[(r23.1.1.1 + (0 : Int).toNat)]?).bind fun e29 =>
  let y30 : Int := (if (r22.1.1.group : Int) < r3.1.1.group then r22.1.1.group else r3.1.1.group)
  (bif (decide ((e29 : Int) = y30)) then
  (if 0 ≤ ((IntKind.i64.wrap (((r23.1.1.2 : Nat) : Int) - 1)) : Int) ∧ ((IntKind.i64.wrap (((r23.1.1.2 : Nat) : Int) - 1)) : Int) < ((r23.1.1.2 : Nat) : Int) then
  (r23.2.1[(r23.1.1.1 + ((IntKind.i64.wrap (((r23.1.1.2 : Nat) : Int) - 1)) : Int).toNat)]?).bind fun e31 =>
  let y32 : Int := (if (r3.1.1.group : Int) < r22.1.1.group then r22.1.1.group else r3.1.1.group)
  (bif (decide ((e31 : Int) = y32)) then
  let y33 : Bool := (decide ((decide ((((r23.1.1.2 : Nat) : Int) : Int) = 1)) = (decide ((r3.1.1.group : Int) = r22.1.1.group))))
  some (y33, ())
  else
  some (false, ()))
  else none)
  else
  some (false, ()))
  else none)
  else
  some (false, ())))))))
  else
  (bif r4.1.2.1 then
  (span_Within x1 r4.1.1.span).bind fun r34 =>
  (bif (!r34.1) then
  some (false, ())
  else
  (shares_Of x0 x3).bind fun r35 =>
  (shares_Groups x0 ([x2, x3] : List (List UInt8))).bind fun r36 =>
  (bif r3.1.2.1 then
  (bif (decide (r36.1.2.1 ≠ r35.1.2.1)) then
  some (false, ())
  else
  (bif (!r36.1.2.1) then
  some ((decide ((((r36.1.1.2 : Nat) : Int) : Int) = 0)), ())
  else
  (bif (decide ((1 : Int) ≤ ((r36.1.1.2 : Nat) : Int))) then
  (if 0 ≤ (0 : Int) ∧ (0 : Int) < ((r36.1.1.2 : Nat) : Int) then
  (r36.2.1[(r36.1.1.1 + (0 : Int).toNat)]?).bind fun e37 =>
  let y38 : Int := (if (r35.1.1.group : Int) < r3.1.1.group then r35.1.1.group else r3.1.1.group)
  (bif (decide ((e37 : Int) = y38)) then
  (if 0 ≤ ((IntKind.i64.wrap (((r36.1.1.2 : Nat) : Int) - 1)) : Int) ∧ ((IntKind.i64.wrap (((r36.1.1.2 : Nat) : Int) - 1)) : Int) < ((r36.1.1.2 : Nat) : Int) then
  (r36.2.1[(r36.1.1.1 + ((IntKind.i64.wrap (((r36.1.1.2 : Nat) : Int) - 1)) : Int).toNat)]?).bind fun e39 =>
  let y40 : Int := (if (r3.1.1.group : Int) < r35.1.1.group then r35.1.1.group else r3.1.1.group)
  (bif (decide ((e39 : Int) = y40)) then
  let y41 : Bool := (decide ((decide ((((r36.1.1.2 : Nat) : Int) : Int) = 1)) = (decide ((r3.1.1.group : Int) = r35.1.1.group))))
  some (y41, ())
  else
  some (false, ()))
  else none)
  else
  some (false, ()))
  else none)
  else
  some (false, ()))))
  else
  (bif (decide (r36.1.2.1 ≠ false)) then
  some (false, ())
  else
  (bif (!r36.1.2.1) then
  some ((decide ((((r36.1.1.2 : Nat) : Int) : Int) = 0)), ())
  else
  (bif (decide ((1 : Int) ≤ ((r36.1.1.2 : Nat) : Int))) then
  (if 0 ≤ (0 : Int) ∧ (0 : Int) < ((r36.1.1.2 : Nat) : Int) then
  (r36.2.1[(r36.1.1.1 + (0 : Int).toNat)]?).bind fun e42 =>
  let y43 : Int := (if (r35.1.1.group : Int) < r3.1.1.group then r35.1.1.group else r3.1.1.group)
  (bif (decide ((e42 : Int) = y43)) then
  (if 0 ≤ ((IntKind.i64.wrap (((r36.1.1.2 : Nat) : Int) - 1)) : Int) ∧ ((IntKind.i64.wrap (((r36.1.1.2 : Nat) : Int) - 1)) : Int) < ((r36.1.1.2 : Nat) : Int) then
  (r36.2.1[(r36.1.1.1 + ((IntKind.i64.wrap (((r36.1.1.2 : Nat) : Int) - 1)) : Int).toNat)]?).bind fun e44 =>
  let y45 : Int := (if (r3.1.1.group : Int) < r35.1.1.group then r35.1.1.group else r3.1.1.group)
  (bif (decide ((e44 : Int) = y45)) then
  let y46 : Bool := (decide ((decide ((((r36.1.1.2 : Nat) : Int) : Int) = 1)) = (decide ((r3.1.1.group : Int) = r35.1.1.group))))
  some (y46, ())
  else
  some (false, ()))
  else none)
  else
  some (false, ()))
  else none)
  else
  some (false, ()))))))
  else
  (shares_Of x0 x3).bind fun r47 =>
  (shares_Groups x0 ([x2, x3] : List (List UInt8))).bind fun r48 =>
  (bif r3.1.2.1 then
  (bif (decide (r48.1.2.1 ≠ r47.1.2.1)) then
  some (false, ())
  else
  (bif (!r48.1.2.1) then
  some ((decide ((((r48.1.1.2 : Nat) : Int) : Int) = 0)), ())
  else
  (bif (decide ((1 : Int) ≤ ((r48.1.1.2 : Nat) : Int))) then
  (if 0 ≤ (0 : Int) ∧ (0 : Int) < ((r48.1.1.2 : Nat) : Int) then
  (r48.2.1[(r48.1.1.1 + (0 : Int).toNat)]?).bind fun e49 =>
  let y50 : Int := (if (r47.1.1.group : Int) < r3.1.1.group then r47.1.1.group else r3.1.1.group)
  (bif (decide ((e49 : Int) = y50)) then
  (if 0 ≤ ((IntKind.i64.wrap (((r48.1.1.2 : Nat) : Int) - 1)) : Int) ∧ ((IntKind.i64.wrap (((r48.1.1.2 : Nat) : Int) - 1)) : Int) < ((r48.1.1.2 : Nat) : Int) then
  (r48.2.1[(r48.1.1.1 + ((IntKind.i64.wrap (((r48.1.1.2 : Nat) : Int) - 1)) : Int).toNat)]?).bind fun e51 =>
  let y52 : Int := (if (r3.1.1.group : Int) < r47.1.1.group then r47.1.1.group else r3.1.1.group)
  (bif (decide ((e51 : Int) = y52)) then
  let y53 : Bool := (decide ((decide ((((r48.1.1.2 : Nat) : Int) : Int) = 1)) = (decide ((r3.1.1.group : Int) = r47.1.1.group))))
  some (y53, ())
  else
  some (false, ()))
  else none)
  else
  some (false, ()))
  else none)
  else
  some (false, ()))))
  else
  (bif (decide (r48.1.2.1 ≠ false)) then
  some (false, ())
  else
  (bif (!r48.1.2.1) then
  some ((decide ((((r48.1.1.2 : Nat) : Int) : Int) = 0)), ())
  else
  (bif (decide ((1 : Int) ≤ ((r48.1.1.2 : Nat) : Int))) then
  (if 0 ≤ (0 : Int) ∧ (0 : Int) < ((r48.1.1.2 : Nat) : Int) then
  (r48.2.1[(r48.1.1.1 + (0 : Int).toNat)]?).bind fun e54 =>
  let y55 : Int := (if (r47.1.1.group : Int) < r3.1.1.group then r47.1.1.group else r3.1.1.group)
  (bif (decide ((e54 : Int) = y55)) then
  (if 0 ≤ ((IntKind.i64.wrap (((r48.1.1.2 : Nat) : Int) - 1)) : Int) ∧ ((IntKind.i64.wrap (((r48.1.1.2 : Nat) : Int) - 1)) : Int) < ((r48.1.1.2 : Nat) : Int) then
  (r48.2.1[(r48.1.1.1 + ((IntKind.i64.wrap (((r48.1.1.2 : Nat) : Int) - 1)) : Int).toNat)]?).bind fun e56 =>
  let y57 : Int := (if (r3.1.1.group : Int) < r47.1.1.group then r47.1.1.group else r3.1.1.group)
  (bif (decide ((e56 : Int) = y57)) then
  let y58 : Bool := (decide ((decide ((((r48.1.1.2 : Nat) : Int) : Int) = 1)) = (decide ((r3.1.1.group : Int) = r47.1.1.group))))
  some (y58, ())
  else
  some (false, ()))
  else none)
  else
  some (false, ()))
  else none)
  else
  some (false, ())))))))
  else
  (bif r4.1.2.1 then
  (span_Within x1 r4.1.1.span).bind fun r59 =>
  (bif (!r59.1) then
  some (false, ())
  else
  (shares_Of x0 x3).bind fun r60 =>
  (shares_Groups x0 ([x2, x3] : List (List UInt8))).bind fun r61 =>
  (bif r3.1.2.1 then
  (bif (decide (r61.1.2.1 ≠ r60.1.2.1)) then
  some (false, ())
  else
  (bif (!r61.1.2.1) then
  some ((decide ((((r61.1.1.2 : Nat) : Int) : Int) = 0)), ())
  else
  (bif (decide ((1 : Int) ≤ ((r61.1.1.2 : Nat) : Int))) then
  (if 0 ≤ (0 : Int) ∧ (0 : Int) < ((r61.1.1.2 : Nat) : Int) then
  (r61.2.1[(r61.1.1.1 + (0 : Int).toNat)]?).bind fun e62 =>
  let y63 : Int := (if (r60.1.1.group : Int) < r3.1.1.group then r60.1.1.group else r3.1.1.group)
  (bif (decide ((e62 : Int) = y63)) then
  (if 0 ≤ ((IntKind.i64.wrap (((r61.1.1.2 : Nat) : Int) - 1)) : Int) ∧ ((IntKind.i64.wrap (((r61.1.1.2 : Nat) : Int) - 1)) : Int) < ((r61.1.1.2 : Nat) : Int) then
  (r61.2.1[(r61.1.1.1 + ((IntKind.i64.wrap (((r61.1.1.2 : Nat) : Int) - 1)) : Int).toNat)]?).bind fun e64 =>
  let y65 : Int := (if (r3.1.1.group : Int) < r60.1.1.group then r60.1.1.group else r3.1.1.group)
  (bif (decide ((e64 : Int) = y65)) then
  let y66 : Bool := (decide ((decide ((((r61.1.1.2 : Nat) : Int) : Int) = 1)) = (decide ((r3.1.1.group : Int) = r60.1.1.group))))
  some (y66, ())
  else
  some (false, ()))
  else none)
  else
  some (false, ()))
  else none)
  else
  some (false, ()))))
  else
  (bif (decide (r61.1.2.1 ≠ false)) then
  some (false, ())
  else
  (bif (!r61.1.2.1) then
  some ((decide ((((r61.1.1.2 : Nat) : Int) : Int) = 0)), ())
  else
  (bif (decide ((1 : Int) ≤ ((r61.1.1.2 : Nat) : Int))) then
  (if 0 ≤ (0 : Int) ∧ (0 : Int) < ((r61.1.1.2 : Nat) : Int) then
  (r61.2.1[(r61.1.1.1 + (0 : Int).toNat)]?).bind fun e67 =>
  let y68 : Int := (if (r60.1.1.group : Int) < r3.1.1.group then r60.1.1.group else r3.1.1.group)
  (bif (decide ((e67 : Int) = y68)) then
  (if 0 ≤ ((IntKind.i64.wrap (((r61.1.1.2 : Nat) : Int) - 1)) : Int) ∧ ((IntKind.i64.wrap (((r61.1.1.2 : Nat) : Int) - 1)) : Int) < ((r61.1.1.2 : Nat) : Int) then
  (r61.2.1[(r61.1.1.1 + ((IntKind.i64.wrap (((r61.1.1.2 : Nat) : Int) - 1)) : Int).toNat)]?).bind fun e69 =>
  let y70 : Int := (if (r3.1.1.group : Int) < r60.1.1.group then r60.1.1.group else r3.1.1.group)
  (bif (decide ((e69 : Int) = y70)) then
  let y71 : Bool := (decide ((decide ((((r61.1.1.2 : Nat) : Int) : Int) = 1)) = (decide ((r3.1.1.group : Int) = r60.1.1.group))))
  some (y71, ())
  else
  some (false, ()))
  else none)
  else
  some (false, ()))
  else none)
  else
  some (false, ()))))))
  else
  (shares_Of x0 x3).bind fun r72 =>
  (shares_Groups x0 ([x2, x3] : List (List UInt8))).bind fun r73 =>
  (bif r3.1.2.1 then
  (bif (decide (r73.1.2.1 ≠ r72.1.2.1)) then
  some (false, ())
  else
  (bif (!r73.1.2.1) then
  some ((decide ((((r73.1.1.2 : Nat) : Int) : Int) = 0)), ())
  else
  (bif (decide ((1 : Int) ≤ ((r73.1.1.2 : Nat) : Int))) then
  (if 0 ≤ (0 : Int) ∧ (0 : Int) < ((r73.1.1.2 : Nat) : Int) then
  (r73.2.1[(r73.1.1.1 + (0 : Int).toNat)]?).bind fun e74 =>
  let y75 : Int := (if (r72.1.1.group : Int) < r3.1.1.group then r72.1.1.group else r3.1.1.group)
  (bif (decide ((e74 : Int) = y75)) then
  (if 0 ≤ ((IntKind.i64.wrap (((r73.1.1.2 : Nat) : Int) - 1)) : Int) ∧ ((IntKind.i64.wrap (((r73.1.1.2 : Nat) : Int) - 1)) : Int) < ((r73.1.1.2 : Nat) : Int) then
  (r73.2.1[(r73.1.1.1 + ((IntKind.i64.wrap (((r73.1.1.2 : Nat) : Int) - 1)) : Int).toNat)]?).bind fun e76 =>
  let y77 : Int := (if (r3.1.1.group : Int) < r72.1.1.group then r72.1.1.group else r3.1.1.group)
  (bif (decide ((e76 : Int) = y77)) then
  let y78 : Bool := (decide ((decide ((((r73.1.1.2 : Nat) : Int) : Int) = 1)) = (decide ((r3.1.1.group : Int) = r72.1.1.group))))
  some (y78, ())
  else
  some (false, ()))
  else none)
  else
  some (false, ()))
  else none)
  else
  some (false, ()))))
  else
  (bif (decide (r73.1.2.1 ≠ false)) then
  some (false, ())
  else
  (bif (!r73.1.2.1) then
  some ((decide ((((r73.1.1.2 : Nat) : Int) : Int) = 0)), ())
  else
  (bif (decide ((1 : Int) ≤ ((r73.1.1.2 : Nat) : Int))) then
  (if 0 ≤ (0 : Int) ∧ (0 : Int) < ((r73.1.1.2 : Nat) : Int) then
  (r73.2.1[(r73.1.1.1 + (0 : Int).toNat)]?).bind fun e79 =>
  let y80 : Int := (if (r72.1.1.group : Int) < r3.1.1.group then r72.1.1.group else r3.1.1.group)
  (bif (decide ((e79 : Int) = y80)) then
  (if 0 ≤ ((IntKind.i64.wrap (((r73.1.1.2 : Nat) : Int) - 1)) : Int) ∧ ((IntKind.i64.wrap (((r73.1.1.2 : Nat) : Int) - 1)) : Int) < ((r73.1.1.2 : Nat) : Int) then
  (r73.2.1[(r73.1.1.1 + ((IntKind.i64.wrap (((r73.1.1.2 : Nat) : Int) - 1)) : Int).toNat)]?).bind fun e81 =>
  let y82 : Int := (if (r3.1.1.group : Int) < r72.1.1.group then r72.1.1.group else r3.1.1.group)
  (bif (decide ((e81 : Int) = y82)) then
  let y83 : Bool := (decide ((decide ((((r73.1.1.2 : Nat) : Int) : Int) = 1)) = (decide ((r3.1.1.group : Int) = r72.1.1.group))))
  some (y83, ())
  else
  some (false, ()))
  else none)
  else
  some (false, ()))
  else none)
  else
  some (false, ()))))))))
  else
  (bif (decide (r3.1.2.1 ≠ false)) then
  some (false, ())
  else
  (bif r4.1.2.1 then
  (span_Has x1 x2).bind fun r84 =>
  (bif r84.1 then
  (bif (!(decide (r3.1.1.span.lo = r4.1.1.span.lo) && (decide (r3.1.1.span.hi = r4.1.1.span.hi) && (decide ((r3.1.1.group : Int) = r4.1.1.group) && (decide ((r3.1.1.epoch : Int) = r4.1.1.epoch) && true))))) then
  some (false, ())
  else
  (bif r4.1.2.1 then
  (span_Within x1 r4.1.1.span).bind fun r85 =>
  (bif (!r85.1) then
  some (false, ())
  else
  (shares_Of x0 x3).bind fun r86 =>
  (shares_Groups x0 ([x2, x3] : List (List UInt8))).bind fun r87 =>
  (bif r3.1.2.1 then
  (bif (decide (r87.1.2.1 ≠ r86.1.2.1)) then
  some (false, ())
  else
  (bif (!r87.1.2.1) then
  some ((decide ((((r87.1.1.2 : Nat) : Int) : Int) = 0)), ())
  else
  (bif (decide ((1 : Int) ≤ ((r87.1.1.2 : Nat) : Int))) then
  (if 0 ≤ (0 : Int) ∧ (0 : Int) < ((r87.1.1.2 : Nat) : Int) then
  (r87.2.1[(r87.1.1.1 + (0 : Int).toNat)]?).bind fun e88 =>
  let y89 : Int := (if (r86.1.1.group : Int) < r3.1.1.group then r86.1.1.group else r3.1.1.group)
  (bif (decide ((e88 : Int) = y89)) then
  (if 0 ≤ ((IntKind.i64.wrap (((r87.1.1.2 : Nat) : Int) - 1)) : Int) ∧ ((IntKind.i64.wrap (((r87.1.1.2 : Nat) : Int) - 1)) : Int) < ((r87.1.1.2 : Nat) : Int) then
  (r87.2.1[(r87.1.1.1 + ((IntKind.i64.wrap (((r87.1.1.2 : Nat) : Int) - 1)) : Int).toNat)]?).bind fun e90 =>
  let y91 : Int := (if (r3.1.1.group : Int) < r86.1.1.group then r86.1.1.group else r3.1.1.group)
  (bif (decide ((e90 : Int) = y91)) then
  let y92 : Bool := (decide ((decide ((((r87.1.1.2 : Nat) : Int) : Int) = 1)) = (decide ((r3.1.1.group : Int) = r86.1.1.group))))
  some (y92, ())
  else
  some (false, ()))
  else none)
  else
  some (false, ()))
  else none)
  else
  some (false, ()))))
  else
  (bif (decide (r87.1.2.1 ≠ false)) then
  some (false, ())
  else
  (bif (!r87.1.2.1) then
  some ((decide ((((r87.1.1.2 : Nat) : Int) : Int) = 0)), ())
  else
  (bif (decide ((1 : Int) ≤ ((r87.1.1.2 : Nat) : Int))) then
  (if 0 ≤ (0 : Int) ∧ (0 : Int) < ((r87.1.1.2 : Nat) : Int) then
  (r87.2.1[(r87.1.1.1 + (0 : Int).toNat)]?).bind fun e93 =>
  let y94 : Int := (if (r86.1.1.group : Int) < r3.1.1.group then r86.1.1.group else r3.1.1.group)
  (bif (decide ((e93 : Int) = y94)) then
  (if 0 ≤ ((IntKind.i64.wrap (((r87.1.1.2 : Nat) : Int) - 1)) : Int) ∧ ((IntKind.i64.wrap (((r87.1.1.2 : Nat) : Int) - 1)) : Int) < ((r87.1.1.2 : Nat) : Int) then
  (r87.2.1[(r87.1.1.1 + ((IntKind.i64.wrap (((r87.1.1.2 : Nat) : Int) - 1)) : Int).toNat)]?).bind fun e95 =>
  let y96 : Int := (if (r3.1.1.group : Int) < r86.1.1.group then r86.1.1.group else r3.1.1.group)
  (bif (decide ((e95 : Int) = y96)) then
  let y97 : Bool := (decide ((decide ((((r87.1.1.2 : Nat) : Int) : Int) = 1)) = (decide ((r3.1.1.group : Int) = r86.1.1.group))))
  some (y97, ())
  else
  some (false, ()))
  else none)
  else
  some (false, ()))
  else none)
  else
  some (false, ()))))))
  else
  (shares_Of x0 x3).bind fun r98 =>
  (shares_Groups x0 ([x2, x3] : List (List UInt8))).bind fun r99 =>
  (bif r3.1.2.1 then
  (bif (decide (r99.1.2.1 ≠ r98.1.2.1)) then
  some (false, ())
  else
  (bif (!r99.1.2.1) then
  some ((decide ((((r99.1.1.2 : Nat) : Int) : Int) = 0)), ())
  else
  (bif (decide ((1 : Int) ≤ ((r99.1.1.2 : Nat) : Int))) then
  (if 0 ≤ (0 : Int) ∧ (0 : Int) < ((r99.1.1.2 : Nat) : Int) then
  (r99.2.1[(r99.1.1.1 + (0 : Int).toNat)]?).bind fun e100 =>
  let y101 : Int := (if (r98.1.1.group : Int) < r3.1.1.group then r98.1.1.group else r3.1.1.group)
  (bif (decide ((e100 : Int) = y101)) then
  (if 0 ≤ ((IntKind.i64.wrap (((r99.1.1.2 : Nat) : Int) - 1)) : Int) ∧ ((IntKind.i64.wrap (((r99.1.1.2 : Nat) : Int) - 1)) : Int) < ((r99.1.1.2 : Nat) : Int) then
  (r99.2.1[(r99.1.1.1 + ((IntKind.i64.wrap (((r99.1.1.2 : Nat) : Int) - 1)) : Int).toNat)]?).bind fun e102 =>
  let y103 : Int := (if (r3.1.1.group : Int) < r98.1.1.group then r98.1.1.group else r3.1.1.group)
  (bif (decide ((e102 : Int) = y103)) then
  let y104 : Bool := (decide ((decide ((((r99.1.1.2 : Nat) : Int) : Int) = 1)) = (decide ((r3.1.1.group : Int) = r98.1.1.group))))
  some (y104, ())
  else
  some (false, ()))
  else none)
  else
  some (false, ()))
  else none)
  else
  some (false, ()))))
  else
  (bif (decide (r99.1.2.1 ≠ false)) then
  some (false, ())
  else
  (bif (!r99.1.2.1) then
  some ((decide ((((r99.1.1.2 : Nat) : Int) : Int) = 0)), ())
  else
  (bif (decide ((1 : Int) ≤ ((r99.1.1.2 : Nat) : Int))) then
  (if 0 ≤ (0 : Int) ∧ (0 : Int) < ((r99.1.1.2 : Nat) : Int) then
  (r99.2.1[(r99.1.1.1 + (0 : Int).toNat)]?).bind fun e105 =>
  let y106 : Int := (if (r98.1.1.group : Int) < r3.1.1.group then r98.1.1.group else r3.1.1.group)
  (bif (decide ((e105 : Int) = y106)) then
  (if 0 ≤ ((IntKind.i64.wrap (((r99.1.1.2 : Nat) : Int) - 1)) : Int) ∧ ((IntKind.i64.wrap (((r99.1.1.2 : Nat) : Int) - 1)) : Int) < ((r99.1.1.2 : Nat) : Int) then
  (r99.2.1[(r99.1.1.1 + ((IntKind.i64.wrap (((r99.1.1.2 : Nat) : Int) - 1)) : Int).toNat)]?).bind fun e107 =>
  let y108 : Int := (if (r3.1.1.group : Int) < r98.1.1.group then r98.1.1.group else r3.1.1.group)
  (bif (decide ((e107 : Int) = y108)) then
  let y109 : Bool := (decide ((decide ((((r99.1.1.2 : Nat) : Int) : Int) = 1)) = (decide ((r3.1.1.group : Int) = r98.1.1.group))))
  some (y109, ())
  else
  some (false, ()))
  else none)
  else
  some (false, ()))
  else none)
  else
  some (false, ())))))))
  else
  (bif r4.1.2.1 then
  (span_Within x1 r4.1.1.span).bind fun r110 =>
  (bif (!r110.1) then
  some (false, ())
  else
  (shares_Of x0 x3).bind fun r111 =>
  (shares_Groups x0 ([x2, x3] : List (List UInt8))).bind fun r112 =>
  (bif r3.1.2.1 then
  (bif (decide (r112.1.2.1 ≠ r111.1.2.1)) then
  some (false, ())
  else
  (bif (!r112.1.2.1) then
  some ((decide ((((r112.1.1.2 : Nat) : Int) : Int) = 0)), ())
  else
  (bif (decide ((1 : Int) ≤ ((r112.1.1.2 : Nat) : Int))) then
  (if 0 ≤ (0 : Int) ∧ (0 : Int) < ((r112.1.1.2 : Nat) : Int) then
  (r112.2.1[(r112.1.1.1 + (0 : Int).toNat)]?).bind fun e113 =>
  let y114 : Int := (if (r111.1.1.group : Int) < r3.1.1.group then r111.1.1.group else r3.1.1.group)
  (bif (decide ((e113 : Int) = y114)) then
  (if 0 ≤ ((IntKind.i64.wrap (((r112.1.1.2 : Nat) : Int) - 1)) : Int) ∧ ((IntKind.i64.wrap (((r112.1.1.2 : Nat) : Int) - 1)) : Int) < ((r112.1.1.2 : Nat) : Int) then
  (r112.2.1[(r112.1.1.1 + ((IntKind.i64.wrap (((r112.1.1.2 : Nat) : Int) - 1)) : Int).toNat)]?).bind fun e115 =>
  let y116 : Int := (if (r3.1.1.group : Int) < r111.1.1.group then r111.1.1.group else r3.1.1.group)
  (bif (decide ((e115 : Int) = y116)) then
  let y117 : Bool := (decide ((decide ((((r112.1.1.2 : Nat) : Int) : Int) = 1)) = (decide ((r3.1.1.group : Int) = r111.1.1.group))))
  some (y117, ())
  else
  some (false, ()))
  else none)
  else
  some (false, ()))
  else none)
  else
  some (false, ()))))
  else
  (bif (decide (r112.1.2.1 ≠ false)) then
  some (false, ())
  else
  (bif (!r112.1.2.1) then
  some ((decide ((((r112.1.1.2 : Nat) : Int) : Int) = 0)), ())
  else
  (bif (decide ((1 : Int) ≤ ((r112.1.1.2 : Nat) : Int))) then
  (if 0 ≤ (0 : Int) ∧ (0 : Int) < ((r112.1.1.2 : Nat) : Int) then
  (r112.2.1[(r112.1.1.1 + (0 : Int).toNat)]?).bind fun e118 =>
  let y119 : Int := (if (r111.1.1.group : Int) < r3.1.1.group then r111.1.1.group else r3.1.1.group)
  (bif (decide ((e118 : Int) = y119)) then
  (if 0 ≤ ((IntKind.i64.wrap (((r112.1.1.2 : Nat) : Int) - 1)) : Int) ∧ ((IntKind.i64.wrap (((r112.1.1.2 : Nat) : Int) - 1)) : Int) < ((r112.1.1.2 : Nat) : Int) then
  (r112.2.1[(r112.1.1.1 + ((IntKind.i64.wrap (((r112.1.1.2 : Nat) : Int) - 1)) : Int).toNat)]?).bind fun e120 =>
  let y121 : Int := (if (r3.1.1.group : Int) < r111.1.1.group then r111.1.1.group else r3.1.1.group)
  (bif (decide ((e120 : Int) = y121)) then
  let y122 : Bool := (decide ((decide ((((r112.1.1.2 : Nat) : Int) : Int) = 1)) = (decide ((r3.1.1.group : Int) = r111.1.1.group))))
  some (y122, ())
  else
  some (false, ()))
  else none)
  else
  some (false, ()))
  else none)
  else
  some (false, ()))))))
  else
  (shares_Of x0 x3).bind fun r123 =>
  (shares_Groups x0 ([x2, x3] : List (List UInt8))).bind fun r124 =>
  (bif r3.1.2.1 then
  (bif (decide (r124.1.2.1 ≠ r123.1.2.1)) then
  some (false, ())
  else
  (bif (!r124.1.2.1) then
  some ((decide ((((r124.1.1.2 : Nat) : Int) : Int) = 0)), ())
  else
  (bif (decide ((1 : Int) ≤ ((r124.1.1.2 : Nat) : Int))) then
  (if 0 ≤ (0 : Int) ∧ (0 : Int) < ((r124.1.1.2 : Nat) : Int) then
  (r124.2.1[(r124.1.1.1 + (0 : Int).toNat)]?).bind fun e125 =>
  let y126 : Int := (if (r123.1.1.group : Int) < r3.1.1.group then r123.1.1.group else r3.1.1.group)
  (bif (decide ((e125 : Int) = y126)) then
  (if 0 ≤ ((IntKind.i64.wrap (((r124.1.1.2 : Nat) : Int) - 1)) : Int) ∧ ((IntKind.i64.wrap (((r124.1.1.2 : Nat) : Int) - 1)) : Int) < ((r124.1.1.2 : Nat) : Int) then
  (r124.2.1[(r124.1.1.1 + ((IntKind.i64.wrap (((r124.1.1.2 : Nat) : Int) - 1)) : Int).toNat)]?).bind fun e127 =>
  let y128 : Int := (if (r3.1.1.group : Int) < r123.1.1.group then r123.1.1.group else r3.1.1.group)
  (bif (decide ((e127 : Int) = y128)) then
  let y129 : Bool := (decide ((decide ((((r124.1.1.2 : Nat) : Int) : Int) = 1)) = (decide ((r3.1.1.group : Int) = r123.1.1.group))))
  some (y129, ())
  else
  some (false, ()))
  else none)
  else
  some (false, ()))
  else none)
  else
  some (false, ()))))
  else
  (bif (decide (r124.1.2.1 ≠ false)) then
  some (false, ())
  else
  (bif (!r124.1.2.1) then
  some ((decide ((((r124.1.1.2 : Nat) : Int) : Int) = 0)), ())
  else
  (bif (decide ((1 : Int) ≤ ((r124.1.1.2 : Nat) : Int))) then
  (if 0 ≤ (0 : Int) ∧ (0 : Int) < ((r124.1.1.2 : Nat) : Int) then
  (r124.2.1[(r124.1.1.1 + (0 : Int).toNat)]?).bind fun e130 =>
  let y131 : Int := (if (r123.1.1.group : Int) < r3.1.1.group then r123.1.1.group else r3.1.1.group)
  (bif (decide ((e130 : Int) = y131)) then
  (if 0 ≤ ((IntKind.i64.wrap (((r124.1.1.2 : Nat) : Int) - 1)) : Int) ∧ ((IntKind.i64.wrap (((r124.1.1.2 : Nat) : Int) - 1)) : Int) < ((r124.1.1.2 : Nat) : Int) then
  (r124.2.1[(r124.1.1.1 + ((IntKind.i64.wrap (((r124.1.1.2 : Nat) : Int) - 1)) : Int).toNat)]?).bind fun e132 =>
  let y133 : Int := (if (r3.1.1.group : Int) < r123.1.1.group then r123.1.1.group else r3.1.1.group)
  (bif (decide ((e132 : Int) = y133)) then
  let y134 : Bool := (decide ((decide ((((r124.1.1.2 : Nat) : Int) : Int) = 1)) = (decide ((r3.1.1.group : Int) = r123.1.1.group))))
  some (y134, ())
  else
  some (false, ()))
  else none)
  else
  some (false, ()))
  else none)
  else
  some (false, ())))))))
  else
  (bif r4.1.2.1 then
  (span_Within x1 r4.1.1.span).bind fun r135 =>
  (bif (!r135.1) then
  some (false, ())
  else
  (shares_Of x0 x3).bind fun r136 =>
  (shares_Groups x0 ([x2, x3] : List (List UInt8))).bind fun r137 =>
  (bif r3.1.2.1 then
  (bif (decide (r137.1.2.1 ≠ r136.1.2.1)) then
  some (false, ())
  else
  (bif (!r137.1.2.1) then
  some ((decide ((((r137.1.1.2 : Nat) : Int) : Int) = 0)), ())
  else
  (bif (decide ((1 : Int) ≤ ((r137.1.1.2 : Nat) : Int))) then
  (if 0 ≤ (0 : Int) ∧ (0 : Int) < ((r137.1.1.2 : Nat) : Int) then
  (r137.2.1[(r137.1.1.1 + (0 : Int).toNat)]?).bind fun e138 =>
  let y139 : Int := (if (r136.1.1.group : Int) < r3.1.1.group then r136.1.1.group else r3.1.1.group)
  (bif (decide ((e138 : Int) = y139)) then
  (if 0 ≤ ((IntKind.i64.wrap (((r137.1.1.2 : Nat) : Int) - 1)) : Int) ∧ ((IntKind.i64.wrap (((r137.1.1.2 : Nat) : Int) - 1)) : Int) < ((r137.1.1.2 : Nat) : Int) then
  (r137.2.1[(r137.1.1.1 + ((IntKind.i64.wrap (((r137.1.1.2 : Nat) : Int) - 1)) : Int).toNat)]?).bind fun e140 =>
  let y141 : Int := (if (r3.1.1.group : Int) < r136.1.1.group then r136.1.1.group else r3.1.1.group)
  (bif (decide ((e140 : Int) = y141)) then
  let y142 : Bool := (decide ((decide ((((r137.1.1.2 : Nat) : Int) : Int) = 1)) = (decide ((r3.1.1.group : Int) = r136.1.1.group))))
  some (y142, ())
  else
  some (false, ()))
  else none)
  else
  some (false, ()))
  else none)
  else
  some (false, ()))))
  else
  (bif (decide (r137.1.2.1 ≠ false)) then
  some (false, ())
  else
  (bif (!r137.1.2.1) then
  some ((decide ((((r137.1.1.2 : Nat) : Int) : Int) = 0)), ())
  else
  (bif (decide ((1 : Int) ≤ ((r137.1.1.2 : Nat) : Int))) then
  (if 0 ≤ (0 : Int) ∧ (0 : Int) < ((r137.1.1.2 : Nat) : Int) then
  (r137.2.1[(r137.1.1.1 + (0 : Int).toNat)]?).bind fun e143 =>
  let y144 : Int := (if (r136.1.1.group : Int) < r3.1.1.group then r136.1.1.group else r3.1.1.group)
  (bif (decide ((e143 : Int) = y144)) then
  (if 0 ≤ ((IntKind.i64.wrap (((r137.1.1.2 : Nat) : Int) - 1)) : Int) ∧ ((IntKind.i64.wrap (((r137.1.1.2 : Nat) : Int) - 1)) : Int) < ((r137.1.1.2 : Nat) : Int) then
  (r137.2.1[(r137.1.1.1 + ((IntKind.i64.wrap (((r137.1.1.2 : Nat) : Int) - 1)) : Int).toNat)]?).bind fun e145 =>
  let y146 : Int := (if (r3.1.1.group : Int) < r136.1.1.group then r136.1.1.group else r3.1.1.group)
  (bif (decide ((e145 : Int) = y146)) then
  let y147 : Bool := (decide ((decide ((((r137.1.1.2 : Nat) : Int) : Int) = 1)) = (decide ((r3.1.1.group : Int) = r136.1.1.group))))
  some (y147, ())
  else
  some (false, ()))
  else none)
  else
  some (false, ()))
  else none)
  else
  some (false, ()))))))
  else
  (shares_Of x0 x3).bind fun r148 =>
  (shares_Groups x0 ([x2, x3] : List (List UInt8))).bind fun r149 =>
  (bif r3.1.2.1 then
  (bif (decide (r149.1.2.1 ≠ r148.1.2.1)) then
  some (false, ())
  else
  (bif (!r149.1.2.1) then
  some ((decide ((((r149.1.1.2 : Nat) : Int) : Int) = 0)), ())
  else
  (bif (decide ((1 : Int) ≤ ((r149.1.1.2 : Nat) : Int))) then
  (if 0 ≤ (0 : Int) ∧ (0 : Int) < ((r149.1.1.2 : Nat) : Int) then
  (r149.2.1[(r149.1.1.1 + (0 : Int).toNat)]?).bind fun e150 =>
  let y151 : Int := (if (r148.1.1.group : Int) < r3.1.1.group then r148.1.1.group else r3.1.1.group)
  (bif (decide ((e150 : Int) = y151)) then
  (if 0 ≤ ((IntKind.i64.wrap (((r149.1.1.2 : Nat) : Int) - 1)) : Int) ∧ ((IntKind.i64.wrap (((r149.1.1.2 : Nat) : Int) - 1)) : Int) < ((r149.1.1.2 : Nat) : Int) then
  (r149.2.1[(r149.1.1.1 + ((IntKind.i64.wrap (((r149.1.1.2 : Nat) : Int) - 1)) : Int).toNat)]?).bind fun e152 =>
  let y153 : Int := (if (r3.1.1.group : Int) < r148.1.1.group then r148.1.1.group else r3.1.1.group)
  (bif (decide ((e152 : Int) = y153)) then
  let y154 : Bool := (decide ((decide ((((r149.1.1.2 : Nat) : Int) : Int) = 1)) = (decide ((r3.1.1.group : Int) = r148.1.1.group))))
  some (y154, ())
  else
  some (false, ()))
  else none)
  else
  some (false, ()))
  else none)
  else
  some (false, ()))))
  else
  (bif (decide (r149.1.2.1 ≠ false)) then
  some (false, ())
  else
  (bif (!r149.1.2.1) then
  some ((decide ((((r149.1.1.2 : Nat) : Int) : Int) = 0)), ())
  else
  (bif (decide ((1 : Int) ≤ ((r149.1.1.2 : Nat) : Int))) then
  (if 0 ≤ (0 : Int) ∧ (0 : Int) < ((r149.1.1.2 : Nat) : Int) then
  (r149.2.1[(r149.1.1.1 + (0 : Int).toNat)]?).bind fun e155 =>
  let y156 : Int := (if (r148.1.1.group : Int) < r3.1.1.group then r148.1.1.group else r3.1.1.group)
  (bif (decide ((e155 : Int) = y156)) then
  (if 0 ≤ ((IntKind.i64.wrap (((r149.1.1.2 : Nat) : Int) - 1)) : Int) ∧ ((IntKind.i64.wrap (((r149.1.1.2 : Nat) : Int) - 1)) : Int) < ((r149.1.1.2 : Nat) : Int) then
  (r149.2.1[(r149.1.1.1 + ((IntKind.i64.wrap (((r149.1.1.2 : Nat) : Int) - 1)) : Int).toNat)]?).bind fun e157 =>
  let y158 : Int := (if (r3.1.1.group : Int) < r148.1.1.group then r148.1.1.group else r3.1.1.group)
  (bif (decide ((e157 : Int) = y158)) then
  let y159 : Bool := (decide ((decide ((((r149.1.1.2 : Nat) : Int) : Int) = 1)) = (decide ((r3.1.1.group : Int) = r148.1.1.group))))
  some (y159, ())
  else
  some (false, ()))
  else none)
  else
  some (false, ()))
  else none)
  else
  some (false, ()))))))))))
  else
  (shares_Right x0).bind fun r160 =>
  (bif r160.1 then
  (span_Key x2).bind fun r161 =>
  (bif (decide (r3.1.2.1 ≠ r161.1)) then
  some (false, ())
  else
  (bif r4.1.2.1 then
  (span_Has x1 x2).bind fun r162 =>
  (bif r162.1 then
  (bif (!(decide (r3.1.1.span.lo = r4.1.1.span.lo) && (decide (r3.1.1.span.hi = r4.1.1.span.hi) && (decide ((r3.1.1.group : Int) = r4.1.1.group) && (decide ((r3.1.1.epoch : Int) = r4.1.1.epoch) && true))))) then
  some (false, ())
  else
  (bif r4.1.2.1 then
  (span_Within x1 r4.1.1.span).bind fun r163 =>
  (bif (!r163.1) then
  some (false, ())
  else
  (shares_Of x0 x3).bind fun r164 =>
  (shares_Groups x0 ([x2, x3] : List (List UInt8))).bind fun r165 =>
  (bif r3.1.2.1 then
  (bif (decide (r165.1.2.1 ≠ r164.1.2.1)) then
  some (false, ())
  else
  (bif (!r165.1.2.1) then
  some ((decide ((((r165.1.1.2 : Nat) : Int) : Int) = 0)), ())
  else
  (bif (decide ((1 : Int) ≤ ((r165.1.1.2 : Nat) : Int))) then
  (if 0 ≤ (0 : Int) ∧ (0 : Int) < ((r165.1.1.2 : Nat) : Int) then
  (r165.2.1[(r165.1.1.1 + (0 : Int).toNat)]?).bind fun e166 =>
  let y167 : Int := (if (r164.1.1.group : Int) < r3.1.1.group then r164.1.1.group else r3.1.1.group)
  (bif (decide ((e166 : Int) = y167)) then
  (if 0 ≤ ((IntKind.i64.wrap (((r165.1.1.2 : Nat) : Int) - 1)) : Int) ∧ ((IntKind.i64.wrap (((r165.1.1.2 : Nat) : Int) - 1)) : Int) < ((r165.1.1.2 : Nat) : Int) then
  (r165.2.1[(r165.1.1.1 + ((IntKind.i64.wrap (((r165.1.1.2 : Nat) : Int) - 1)) : Int).toNat)]?).bind fun e168 =>
  let y169 : Int := (if (r3.1.1.group : Int) < r164.1.1.group then r164.1.1.group else r3.1.1.group)
  (bif (decide ((e168 : Int) = y169)) then
  let y170 : Bool := (decide ((decide ((((r165.1.1.2 : Nat) : Int) : Int) = 1)) = (decide ((r3.1.1.group : Int) = r164.1.1.group))))
  some (y170, ())
  else
  some (false, ()))
  else none)
  else
  some (false, ()))
  else none)
  else
  some (false, ()))))
  else
  (bif (decide (r165.1.2.1 ≠ false)) then
  some (false, ())
  else
  (bif (!r165.1.2.1) then
  some ((decide ((((r165.1.1.2 : Nat) : Int) : Int) = 0)), ())
  else
  (bif (decide ((1 : Int) ≤ ((r165.1.1.2 : Nat) : Int))) then
  (if 0 ≤ (0 : Int) ∧ (0 : Int) < ((r165.1.1.2 : Nat) : Int) then
  (r165.2.1[(r165.1.1.1 + (0 : Int).toNat)]?).bind fun e171 =>
  let y172 : Int := (if (r164.1.1.group : Int) < r3.1.1.group then r164.1.1.group else r3.1.1.group)
  (bif (decide ((e171 : Int) = y172)) then
  (if 0 ≤ ((IntKind.i64.wrap (((r165.1.1.2 : Nat) : Int) - 1)) : Int) ∧ ((IntKind.i64.wrap (((r165.1.1.2 : Nat) : Int) - 1)) : Int) < ((r165.1.1.2 : Nat) : Int) then
  (r165.2.1[(r165.1.1.1 + ((IntKind.i64.wrap (((r165.1.1.2 : Nat) : Int) - 1)) : Int).toNat)]?).bind fun e173 =>
  let y174 : Int := (if (r3.1.1.group : Int) < r164.1.1.group then r164.1.1.group else r3.1.1.group)
  (bif (decide ((e173 : Int) = y174)) then
  let y175 : Bool := (decide ((decide ((((r165.1.1.2 : Nat) : Int) : Int) = 1)) = (decide ((r3.1.1.group : Int) = r164.1.1.group))))
  some (y175, ())
  else
  some (false, ()))
  else none)
  else
  some (false, ()))
  else none)
  else
  some (false, ()))))))
  else
  (shares_Of x0 x3).bind fun r176 =>
  (shares_Groups x0 ([x2, x3] : List (List UInt8))).bind fun r177 =>
  (bif r3.1.2.1 then
  (bif (decide (r177.1.2.1 ≠ r176.1.2.1)) then
  some (false, ())
  else
  (bif (!r177.1.2.1) then
  some ((decide ((((r177.1.1.2 : Nat) : Int) : Int) = 0)), ())
  else
  (bif (decide ((1 : Int) ≤ ((r177.1.1.2 : Nat) : Int))) then
  (if 0 ≤ (0 : Int) ∧ (0 : Int) < ((r177.1.1.2 : Nat) : Int) then
  (r177.2.1[(r177.1.1.1 + (0 : Int).toNat)]?).bind fun e178 =>
  let y179 : Int := (if (r176.1.1.group : Int) < r3.1.1.group then r176.1.1.group else r3.1.1.group)
  (bif (decide ((e178 : Int) = y179)) then
  (if 0 ≤ ((IntKind.i64.wrap (((r177.1.1.2 : Nat) : Int) - 1)) : Int) ∧ ((IntKind.i64.wrap (((r177.1.1.2 : Nat) : Int) - 1)) : Int) < ((r177.1.1.2 : Nat) : Int) then
  (r177.2.1[(r177.1.1.1 + ((IntKind.i64.wrap (((r177.1.1.2 : Nat) : Int) - 1)) : Int).toNat)]?).bind fun e180 =>
  let y181 : Int := (if (r3.1.1.group : Int) < r176.1.1.group then r176.1.1.group else r3.1.1.group)
  (bif (decide ((e180 : Int) = y181)) then
  let y182 : Bool := (decide ((decide ((((r177.1.1.2 : Nat) : Int) : Int) = 1)) = (decide ((r3.1.1.group : Int) = r176.1.1.group))))
  some (y182, ())
  else
  some (false, ()))
  else none)
  else
  some (false, ()))
  else none)
  else
  some (false, ()))))
  else
  (bif (decide (r177.1.2.1 ≠ false)) then
  some (false, ())
  else
  (bif (!r177.1.2.1) then
  some ((decide ((((r177.1.1.2 : Nat) : Int) : Int) = 0)), ())
  else
  (bif (decide ((1 : Int) ≤ ((r177.1.1.2 : Nat) : Int))) then
  (if 0 ≤ (0 : Int) ∧ (0 : Int) < ((r177.1.1.2 : Nat) : Int) then
  (r177.2.1[(r177.1.1.1 + (0 : Int).toNat)]?).bind fun e183 =>
  let y184 : Int := (if (r176.1.1.group : Int) < r3.1.1.group then r176.1.1.group else r3.1.1.group)
  (bif (decide ((e183 : Int) = y184)) then
  (if 0 ≤ ((IntKind.i64.wrap (((r177.1.1.2 : Nat) : Int) - 1)) : Int) ∧ ((IntKind.i64.wrap (((r177.1.1.2 : Nat) : Int) - 1)) : Int) < ((r177.1.1.2 : Nat) : Int) then
  (r177.2.1[(r177.1.1.1 + ((IntKind.i64.wrap (((r177.1.1.2 : Nat) : Int) - 1)) : Int).toNat)]?).bind fun e185 =>
  let y186 : Int := (if (r3.1.1.group : Int) < r176.1.1.group then r176.1.1.group else r3.1.1.group)
  (bif (decide ((e185 : Int) = y186)) then
  let y187 : Bool := (decide ((decide ((((r177.1.1.2 : Nat) : Int) : Int) = 1)) = (decide ((r3.1.1.group : Int) = r176.1.1.group))))
  some (y187, ())
  else
  some (false, ()))
  else none)
  else
  some (false, ()))
  else none)
  else
  some (false, ())))))))
  else
  (bif r4.1.2.1 then
  (span_Within x1 r4.1.1.span).bind fun r188 =>
  (bif (!r188.1) then
  some (false, ())
  else
  (shares_Of x0 x3).bind fun r189 =>
  (shares_Groups x0 ([x2, x3] : List (List UInt8))).bind fun r190 =>
  (bif r3.1.2.1 then
  (bif (decide (r190.1.2.1 ≠ r189.1.2.1)) then
  some (false, ())
  else
  (bif (!r190.1.2.1) then
  some ((decide ((((r190.1.1.2 : Nat) : Int) : Int) = 0)), ())
  else
  (bif (decide ((1 : Int) ≤ ((r190.1.1.2 : Nat) : Int))) then
  (if 0 ≤ (0 : Int) ∧ (0 : Int) < ((r190.1.1.2 : Nat) : Int) then
  (r190.2.1[(r190.1.1.1 + (0 : Int).toNat)]?).bind fun e191 =>
  let y192 : Int := (if (r189.1.1.group : Int) < r3.1.1.group then r189.1.1.group else r3.1.1.group)
  (bif (decide ((e191 : Int) = y192)) then
  (if 0 ≤ ((IntKind.i64.wrap (((r190.1.1.2 : Nat) : Int) - 1)) : Int) ∧ ((IntKind.i64.wrap (((r190.1.1.2 : Nat) : Int) - 1)) : Int) < ((r190.1.1.2 : Nat) : Int) then
  (r190.2.1[(r190.1.1.1 + ((IntKind.i64.wrap (((r190.1.1.2 : Nat) : Int) - 1)) : Int).toNat)]?).bind fun e193 =>
  let y194 : Int := (if (r3.1.1.group : Int) < r189.1.1.group then r189.1.1.group else r3.1.1.group)
  (bif (decide ((e193 : Int) = y194)) then
  let y195 : Bool := (decide ((decide ((((r190.1.1.2 : Nat) : Int) : Int) = 1)) = (decide ((r3.1.1.group : Int) = r189.1.1.group))))
  some (y195, ())
  else
  some (false, ()))
  else none)
  else
  some (false, ()))
  else none)
  else
  some (false, ()))))
  else
  (bif (decide (r190.1.2.1 ≠ false)) then
  some (false, ())
  else
  (bif (!r190.1.2.1) then
  some ((decide ((((r190.1.1.2 : Nat) : Int) : Int) = 0)), ())
  else
  (bif (decide ((1 : Int) ≤ ((r190.1.1.2 : Nat) : Int))) then
  (if 0 ≤ (0 : Int) ∧ (0 : Int) < ((r190.1.1.2 : Nat) : Int) then
  (r190.2.1[(r190.1.1.1 + (0 : Int).toNat)]?).bind fun e196 =>
  let y197 : Int := (if (r189.1.1.group : Int) < r3.1.1.group then r189.1.1.group else r3.1.1.group)
  (bif (decide ((e196 : Int) = y197)) then
  (if 0 ≤ ((IntKind.i64.wrap (((r190.1.1.2 : Nat) : Int) - 1)) : Int) ∧ ((IntKind.i64.wrap (((r190.1.1.2 : Nat) : Int) - 1)) : Int) < ((r190.1.1.2 : Nat) : Int) then
  (r190.2.1[(r190.1.1.1 + ((IntKind.i64.wrap (((r190.1.1.2 : Nat) : Int) - 1)) : Int).toNat)]?).bind fun e198 =>
  let y199 : Int := (if (r3.1.1.group : Int) < r189.1.1.group then r189.1.1.group else r3.1.1.group)
  (bif (decide ((e198 : Int) = y199)) then
  let y200 : Bool := (decide ((decide ((((r190.1.1.2 : Nat) : Int) : Int) = 1)) = (decide ((r3.1.1.group : Int) = r189.1.1.group))))
  some (y200, ())
  else
  some (false, ()))
  else none)
  else
  some (false, ()))
  else none)
  else
  some (false, ()))))))
  else
  (shares_Of x0 x3).bind fun r201 =>
  (shares_Groups x0 ([x2, x3] : List (List UInt8))).bind fun r202 =>
  (bif r3.1.2.1 then
  (bif (decide (r202.1.2.1 ≠ r201.1.2.1)) then
  some (false, ())
  else
  (bif (!r202.1.2.1) then
  some ((decide ((((r202.1.1.2 : Nat) : Int) : Int) = 0)), ())
  else
  (bif (decide ((1 : Int) ≤ ((r202.1.1.2 : Nat) : Int))) then
  (if 0 ≤ (0 : Int) ∧ (0 : Int) < ((r202.1.1.2 : Nat) : Int) then
  (r202.2.1[(r202.1.1.1 + (0 : Int).toNat)]?).bind fun e203 =>
  let y204 : Int := (if (r201.1.1.group : Int) < r3.1.1.group then r201.1.1.group else r3.1.1.group)
  (bif (decide ((e203 : Int) = y204)) then
  (if 0 ≤ ((IntKind.i64.wrap (((r202.1.1.2 : Nat) : Int) - 1)) : Int) ∧ ((IntKind.i64.wrap (((r202.1.1.2 : Nat) : Int) - 1)) : Int) < ((r202.1.1.2 : Nat) : Int) then
  (r202.2.1[(r202.1.1.1 + ((IntKind.i64.wrap (((r202.1.1.2 : Nat) : Int) - 1)) : Int).toNat)]?).bind fun e205 =>
  let y206 : Int := (if (r3.1.1.group : Int) < r201.1.1.group then r201.1.1.group else r3.1.1.group)
  (bif (decide ((e205 : Int) = y206)) then
  let y207 : Bool := (decide ((decide ((((r202.1.1.2 : Nat) : Int) : Int) = 1)) = (decide ((r3.1.1.group : Int) = r201.1.1.group))))
  some (y207, ())
  else
  some (false, ()))
  else none)
  else
  some (false, ()))
  else none)
  else
  some (false, ()))))
  else
  (bif (decide (r202.1.2.1 ≠ false)) then
  some (false, ())
  else
  (bif (!r202.1.2.1) then
  some ((decide ((((r202.1.1.2 : Nat) : Int) : Int) = 0)), ())
  else
  (bif (decide ((1 : Int) ≤ ((r202.1.1.2 : Nat) : Int))) then
  (if 0 ≤ (0 : Int) ∧ (0 : Int) < ((r202.1.1.2 : Nat) : Int) then
  (r202.2.1[(r202.1.1.1 + (0 : Int).toNat)]?).bind fun e208 =>
  let y209 : Int := (if (r201.1.1.group : Int) < r3.1.1.group then r201.1.1.group else r3.1.1.group)
  (bif (decide ((e208 : Int) = y209)) then
  (if 0 ≤ ((IntKind.i64.wrap (((r202.1.1.2 : Nat) : Int) - 1)) : Int) ∧ ((IntKind.i64.wrap (((r202.1.1.2 : Nat) : Int) - 1)) : Int) < ((r202.1.1.2 : Nat) : Int) then
  (r202.2.1[(r202.1.1.1 + ((IntKind.i64.wrap (((r202.1.1.2 : Nat) : Int) - 1)) : Int).toNat)]?).bind fun e210 =>
  let y211 : Int := (if (r3.1.1.group : Int) < r201.1.1.group then r201.1.1.group else r3.1.1.group)
  (bif (decide ((e210 : Int) = y211)) then
  let y212 : Bool := (decide ((decide ((((r202.1.1.2 : Nat) : Int) : Int) = 1)) = (decide ((r3.1.1.group : Int) = r201.1.1.group))))
  some (y212, ())
  else
  some (false, ()))
  else none)
  else
  some (false, ()))
  else none)
  else
  some (false, ())))))))
  else
  (bif r4.1.2.1 then
  (span_Within x1 r4.1.1.span).bind fun r213 =>
  (bif (!r213.1) then
  some (false, ())
  else
  (shares_Of x0 x3).bind fun r214 =>
  (shares_Groups x0 ([x2, x3] : List (List UInt8))).bind fun r215 =>
  (bif r3.1.2.1 then
  (bif (decide (r215.1.2.1 ≠ r214.1.2.1)) then
  some (false, ())
  else
  (bif (!r215.1.2.1) then
  some ((decide ((((r215.1.1.2 : Nat) : Int) : Int) = 0)), ())
  else
  (bif (decide ((1 : Int) ≤ ((r215.1.1.2 : Nat) : Int))) then
  (if 0 ≤ (0 : Int) ∧ (0 : Int) < ((r215.1.1.2 : Nat) : Int) then
  (r215.2.1[(r215.1.1.1 + (0 : Int).toNat)]?).bind fun e216 =>
  let y217 : Int := (if (r214.1.1.group : Int) < r3.1.1.group then r214.1.1.group else r3.1.1.group)
  (bif (decide ((e216 : Int) = y217)) then
  (if 0 ≤ ((IntKind.i64.wrap (((r215.1.1.2 : Nat) : Int) - 1)) : Int) ∧ ((IntKind.i64.wrap (((r215.1.1.2 : Nat) : Int) - 1)) : Int) < ((r215.1.1.2 : Nat) : Int) then
  (r215.2.1[(r215.1.1.1 + ((IntKind.i64.wrap (((r215.1.1.2 : Nat) : Int) - 1)) : Int).toNat)]?).bind fun e218 =>
  let y219 : Int := (if (r3.1.1.group : Int) < r214.1.1.group then r214.1.1.group else r3.1.1.group)
  (bif (decide ((e218 : Int) = y219)) then
  let y220 : Bool := (decide ((decide ((((r215.1.1.2 : Nat) : Int) : Int) = 1)) = (decide ((r3.1.1.group : Int) = r214.1.1.group))))
  some (y220, ())
  else
  some (false, ()))
  else none)
  else
  some (false, ()))
  else none)
  else
  some (false, ()))))
  else
  (bif (decide (r215.1.2.1 ≠ false)) then
  some (false, ())
  else
  (bif (!r215.1.2.1) then
  some ((decide ((((r215.1.1.2 : Nat) : Int) : Int) = 0)), ())
  else
  (bif (decide ((1 : Int) ≤ ((r215.1.1.2 : Nat) : Int))) then
  (if 0 ≤ (0 : Int) ∧ (0 : Int) < ((r215.1.1.2 : Nat) : Int) then
  (r215.2.1[(r215.1.1.1 + (0 : Int).toNat)]?).bind fun e221 =>
  let y222 : Int := (if (r214.1.1.group : Int) < r3.1.1.group then r214.1.1.group else r3.1.1.group)
  (bif (decide ((e221 : Int) = y222)) then
  (if 0 ≤ ((IntKind.i64.wrap (((r215.1.1.2 : Nat) : Int) - 1)) : Int) ∧ ((IntKind.i64.wrap (((r215.1.1.2 : Nat) : Int) - 1)) : Int) < ((r215.1.1.2 : Nat) : Int) then
  (r215.2.1[(r215.1.1.1 + ((IntKind.i64.wrap (((r215.1.1.2 : Nat) : Int) - 1)) : Int).toNat)]?).bind fun e223 =>
  let y224 : Int := (if (r3.1.1.group : Int) < r214.1.1.group then r214.1.1.group else r3.1.1.group)
  (bif (decide ((e223 : Int) = y224)) then
  let y225 : Bool := (decide ((decide ((((r215.1.1.2 : Nat) : Int) : Int) = 1)) = (decide ((r3.1.1.group : Int) = r214.1.1.group))))
  some (y225, ())
  else
  some (false, ()))
  else none)
  else
  some (false, ()))
  else none)
  else
  some (false, ()))))))
  else
  (shares_Of x0 x3).bind fun r226 =>
  (shares_Groups x0 ([x2, x3] : List (List UInt8))).bind fun r227 =>
  (bif r3.1.2.1 then
  (bif (decide (r227.1.2.1 ≠ r226.1.2.1)) then
  some (false, ())
  else
  (bif (!r227.1.2.1) then
  some ((decide ((((r227.1.1.2 : Nat) : Int) : Int) = 0)), ())
  else
  (bif (decide ((1 : Int) ≤ ((r227.1.1.2 : Nat) : Int))) then
  (if 0 ≤ (0 : Int) ∧ (0 : Int) < ((r227.1.1.2 : Nat) : Int) then
  (r227.2.1[(r227.1.1.1 + (0 : Int).toNat)]?).bind fun e228 =>
  let y229 : Int := (if (r226.1.1.group : Int) < r3.1.1.group then r226.1.1.group else r3.1.1.group)
  (bif (decide ((e228 : Int) = y229)) then
  (if 0 ≤ ((IntKind.i64.wrap (((r227.1.1.2 : Nat) : Int) - 1)) : Int) ∧ ((IntKind.i64.wrap (((r227.1.1.2 : Nat) : Int) - 1)) : Int) < ((r227.1.1.2 : Nat) : Int) then
  (r227.2.1[(r227.1.1.1 + ((IntKind.i64.wrap (((r227.1.1.2 : Nat) : Int) - 1)) : Int).toNat)]?).bind fun e230 =>
  let y231 : Int := (if (r3.1.1.group : Int) < r226.1.1.group then r226.1.1.group else r3.1.1.group)
  (bif (decide ((e230 : Int) = y231)) then
  let y232 : Bool := (decide ((decide ((((r227.1.1.2 : Nat) : Int) : Int) = 1)) = (decide ((r3.1.1.group : Int) = r226.1.1.group))))
  some (y232, ())
  else
  some (false, ()))
  else none)
  else
  some (false, ()))
  else none)
  else
  some (false, ()))))
  else
  (bif (decide (r227.1.2.1 ≠ false)) then
  some (false, ())
  else
  (bif (!r227.1.2.1) then
  some ((decide ((((r227.1.1.2 : Nat) : Int) : Int) = 0)), ())
  else
  (bif (decide ((1 : Int) ≤ ((r227.1.1.2 : Nat) : Int))) then
  (if 0 ≤ (0 : Int) ∧ (0 : Int) < ((r227.1.1.2 : Nat) : Int) then
  (r227.2.1[(r227.1.1.1 + (0 : Int).toNat)]?).bind fun e233 =>
  let y234 : Int := (if (r226.1.1.group : Int) < r3.1.1.group then r226.1.1.group else r3.1.1.group)
  (bif (decide ((e233 : Int) = y234)) then
  (if 0 ≤ ((IntKind.i64.wrap (((r227.1.1.2 : Nat) : Int) - 1)) : Int) ∧ ((IntKind.i64.wrap (((r227.1.1.2 : Nat) : Int) - 1)) : Int) < ((r227.1.1.2 : Nat) : Int) then
  (r227.2.1[(r227.1.1.1 + ((IntKind.i64.wrap (((r227.1.1.2 : Nat) : Int) - 1)) : Int).toNat)]?).bind fun e235 =>
  let y236 : Int := (if (r3.1.1.group : Int) < r226.1.1.group then r226.1.1.group else r3.1.1.group)
  (bif (decide ((e235 : Int) = y236)) then
  let y237 : Bool := (decide ((decide ((((r227.1.1.2 : Nat) : Int) : Int) = 1)) = (decide ((r3.1.1.group : Int) = r226.1.1.group))))
  some (y237, ())
  else
  some (false, ()))
  else none)
  else
  some (false, ()))
  else none)
  else
  some (false, ()))))))))
  else
  (bif (decide (r3.1.2.1 ≠ false)) then
  some (false, ())
  else
  (bif r4.1.2.1 then
  (span_Has x1 x2).bind fun r238 =>
  (bif r238.1 then
  (bif (!(decide (r3.1.1.span.lo = r4.1.1.span.lo) && (decide (r3.1.1.span.hi = r4.1.1.span.hi) && (decide ((r3.1.1.group : Int) = r4.1.1.group) && (decide ((r3.1.1.epoch : Int) = r4.1.1.epoch) && true))))) then
  some (false, ())
  else
  (bif r4.1.2.1 then
  (span_Within x1 r4.1.1.span).bind fun r239 =>
  (bif (!r239.1) then
  some (false, ())
  else
  (shares_Of x0 x3).bind fun r240 =>
  (shares_Groups x0 ([x2, x3] : List (List UInt8))).bind fun r241 =>
  (bif r3.1.2.1 then
  (bif (decide (r241.1.2.1 ≠ r240.1.2.1)) then
  some (false, ())
  else
  (bif (!r241.1.2.1) then
  some ((decide ((((r241.1.1.2 : Nat) : Int) : Int) = 0)), ())
  else
  (bif (decide ((1 : Int) ≤ ((r241.1.1.2 : Nat) : Int))) then
  (if 0 ≤ (0 : Int) ∧ (0 : Int) < ((r241.1.1.2 : Nat) : Int) then
  (r241.2.1[(r241.1.1.1 + (0 : Int).toNat)]?).bind fun e242 =>
  let y243 : Int := (if (r240.1.1.group : Int) < r3.1.1.group then r240.1.1.group else r3.1.1.group)
  (bif (decide ((e242 : Int) = y243)) then
  (if 0 ≤ ((IntKind.i64.wrap (((r241.1.1.2 : Nat) : Int) - 1)) : Int) ∧ ((IntKind.i64.wrap (((r241.1.1.2 : Nat) : Int) - 1)) : Int) < ((r241.1.1.2 : Nat) : Int) then
  (r241.2.1[(r241.1.1.1 + ((IntKind.i64.wrap (((r241.1.1.2 : Nat) : Int) - 1)) : Int).toNat)]?).bind fun e244 =>
  let y245 : Int := (if (r3.1.1.group : Int) < r240.1.1.group then r240.1.1.group else r3.1.1.group)
  (bif (decide ((e244 : Int) = y245)) then
  let y246 : Bool := (decide ((decide ((((r241.1.1.2 : Nat) : Int) : Int) = 1)) = (decide ((r3.1.1.group : Int) = r240.1.1.group))))
  some (y246, ())
  else
  some (false, ()))
  else none)
  else
  some (false, ()))
  else none)
  else
  some (false, ()))))
  else
  (bif (decide (r241.1.2.1 ≠ false)) then
  some (false, ())
  else
  (bif (!r241.1.2.1) then
  some ((decide ((((r241.1.1.2 : Nat) : Int) : Int) = 0)), ())
  else
  (bif (decide ((1 : Int) ≤ ((r241.1.1.2 : Nat) : Int))) then
  (if 0 ≤ (0 : Int) ∧ (0 : Int) < ((r241.1.1.2 : Nat) : Int) then
  (r241.2.1[(r241.1.1.1 + (0 : Int).toNat)]?).bind fun e247 =>
  let y248 : Int := (if (r240.1.1.group : Int) < r3.1.1.group then r240.1.1.group else r3.1.1.group)
  (bif (decide ((e247 : Int) = y248)) then
  (if 0 ≤ ((IntKind.i64.wrap (((r241.1.1.2 : Nat) : Int) - 1)) : Int) ∧ ((IntKind.i64.wrap (((r241.1.1.2 : Nat) : Int) - 1)) : Int) < ((r241.1.1.2 : Nat) : Int) then
  (r241.2.1[(r241.1.1.1 + ((IntKind.i64.wrap (((r241.1.1.2 : Nat) : Int) - 1)) : Int).toNat)]?).bind fun e249 =>
  let y250 : Int := (if (r3.1.1.group : Int) < r240.1.1.group then r240.1.1.group else r3.1.1.group)
  (bif (decide ((e249 : Int) = y250)) then
  let y251 : Bool := (decide ((decide ((((r241.1.1.2 : Nat) : Int) : Int) = 1)) = (decide ((r3.1.1.group : Int) = r240.1.1.group))))
  some (y251, ())
  else
  some (false, ()))
  else none)
  else
  some (false, ()))
  else none)
  else
  some (false, ()))))))
  else
  (shares_Of x0 x3).bind fun r252 =>
  (shares_Groups x0 ([x2, x3] : List (List UInt8))).bind fun r253 =>
  (bif r3.1.2.1 then
  (bif (decide (r253.1.2.1 ≠ r252.1.2.1)) then
  some (false, ())
  else
  (bif (!r253.1.2.1) then
  some ((decide ((((r253.1.1.2 : Nat) : Int) : Int) = 0)), ())
  else
  (bif (decide ((1 : Int) ≤ ((r253.1.1.2 : Nat) : Int))) then
  (if 0 ≤ (0 : Int) ∧ (0 : Int) < ((r253.1.1.2 : Nat) : Int) then
  (r253.2.1[(r253.1.1.1 + (0 : Int).toNat)]?).bind fun e254 =>
  let y255 : Int := (if (r252.1.1.group : Int) < r3.1.1.group then r252.1.1.group else r3.1.1.group)
  (bif (decide ((e254 : Int) = y255)) then
  (if 0 ≤ ((IntKind.i64.wrap (((r253.1.1.2 : Nat) : Int) - 1)) : Int) ∧ ((IntKind.i64.wrap (((r253.1.1.2 : Nat) : Int) - 1)) : Int) < ((r253.1.1.2 : Nat) : Int) then
  (r253.2.1[(r253.1.1.1 + ((IntKind.i64.wrap (((r253.1.1.2 : Nat) : Int) - 1)) : Int).toNat)]?).bind fun e256 =>
  let y257 : Int := (if (r3.1.1.group : Int) < r252.1.1.group then r252.1.1.group else r3.1.1.group)
  (bif (decide ((e256 : Int) = y257)) then
  let y258 : Bool := (decide ((decide ((((r253.1.1.2 : Nat) : Int) : Int) = 1)) = (decide ((r3.1.1.group : Int) = r252.1.1.group))))
  some (y258, ())
  else
  some (false, ()))
  else none)
  else
  some (false, ()))
  else none)
  else
  some (false, ()))))
  else
  (bif (decide (r253.1.2.1 ≠ false)) then
  some (false, ())
  else
  (bif (!r253.1.2.1) then
  some ((decide ((((r253.1.1.2 : Nat) : Int) : Int) = 0)), ())
  else
  (bif (decide ((1 : Int) ≤ ((r253.1.1.2 : Nat) : Int))) then
  (if 0 ≤ (0 : Int) ∧ (0 : Int) < ((r253.1.1.2 : Nat) : Int) then
  (r253.2.1[(r253.1.1.1 + (0 : Int).toNat)]?).bind fun e259 =>
  let y260 : Int := (if (r252.1.1.group : Int) < r3.1.1.group then r252.1.1.group else r3.1.1.group)
  (bif (decide ((e259 : Int) = y260)) then
  (if 0 ≤ ((IntKind.i64.wrap (((r253.1.1.2 : Nat) : Int) - 1)) : Int) ∧ ((IntKind.i64.wrap (((r253.1.1.2 : Nat) : Int) - 1)) : Int) < ((r253.1.1.2 : Nat) : Int) then
  (r253.2.1[(r253.1.1.1 + ((IntKind.i64.wrap (((r253.1.1.2 : Nat) : Int) - 1)) : Int).toNat)]?).bind fun e261 =>
  let y262 : Int := (if (r3.1.1.group : Int) < r252.1.1.group then r252.1.1.group else r3.1.1.group)
  (bif (decide ((e261 : Int) = y262)) then
  let y263 : Bool := (decide ((decide ((((r253.1.1.2 : Nat) : Int) : Int) = 1)) = (decide ((r3.1.1.group : Int) = r252.1.1.group))))
  some (y263, ())
  else
  some (false, ()))
  else none)
  else
  some (false, ()))
  else none)
  else
  some (false, ())))))))
  else
  (bif r4.1.2.1 then
  (span_Within x1 r4.1.1.span).bind fun r264 =>
  (bif (!r264.1) then
  some (false, ())
  else
  (shares_Of x0 x3).bind fun r265 =>
  (shares_Groups x0 ([x2, x3] : List (List UInt8))).bind fun r266 =>
  (bif r3.1.2.1 then
  (bif (decide (r266.1.2.1 ≠ r265.1.2.1)) then
  some (false, ())
  else
  (bif (!r266.1.2.1) then
  some ((decide ((((r266.1.1.2 : Nat) : Int) : Int) = 0)), ())
  else
  (bif (decide ((1 : Int) ≤ ((r266.1.1.2 : Nat) : Int))) then
  (if 0 ≤ (0 : Int) ∧ (0 : Int) < ((r266.1.1.2 : Nat) : Int) then
  (r266.2.1[(r266.1.1.1 + (0 : Int).toNat)]?).bind fun e267 =>
  let y268 : Int := (if (r265.1.1.group : Int) < r3.1.1.group then r265.1.1.group else r3.1.1.group)
  (bif (decide ((e267 : Int) = y268)) then
  (if 0 ≤ ((IntKind.i64.wrap (((r266.1.1.2 : Nat) : Int) - 1)) : Int) ∧ ((IntKind.i64.wrap (((r266.1.1.2 : Nat) : Int) - 1)) : Int) < ((r266.1.1.2 : Nat) : Int) then
  (r266.2.1[(r266.1.1.1 + ((IntKind.i64.wrap (((r266.1.1.2 : Nat) : Int) - 1)) : Int).toNat)]?).bind fun e269 =>
  let y270 : Int := (if (r3.1.1.group : Int) < r265.1.1.group then r265.1.1.group else r3.1.1.group)
  (bif (decide ((e269 : Int) = y270)) then
  let y271 : Bool := (decide ((decide ((((r266.1.1.2 : Nat) : Int) : Int) = 1)) = (decide ((r3.1.1.group : Int) = r265.1.1.group))))
  some (y271, ())
  else
  some (false, ()))
  else none)
  else
  some (false, ()))
  else none)
  else
  some (false, ()))))
  else
  (bif (decide (r266.1.2.1 ≠ false)) then
  some (false, ())
  else
  (bif (!r266.1.2.1) then
  some ((decide ((((r266.1.1.2 : Nat) : Int) : Int) = 0)), ())
  else
  (bif (decide ((1 : Int) ≤ ((r266.1.1.2 : Nat) : Int))) then
  (if 0 ≤ (0 : Int) ∧ (0 : Int) < ((r266.1.1.2 : Nat) : Int) then
  (r266.2.1[(r266.1.1.1 + (0 : Int).toNat)]?).bind fun e272 =>
  let y273 : Int := (if (r265.1.1.group : Int) < r3.1.1.group then r265.1.1.group else r3.1.1.group)
  (bif (decide ((e272 : Int) = y273)) then
  (if 0 ≤ ((IntKind.i64.wrap (((r266.1.1.2 : Nat) : Int) - 1)) : Int) ∧ ((IntKind.i64.wrap (((r266.1.1.2 : Nat) : Int) - 1)) : Int) < ((r266.1.1.2 : Nat) : Int) then
  (r266.2.1[(r266.1.1.1 + ((IntKind.i64.wrap (((r266.1.1.2 : Nat) : Int) - 1)) : Int).toNat)]?).bind fun e274 =>
  let y275 : Int := (if (r3.1.1.group : Int) < r265.1.1.group then r265.1.1.group else r3.1.1.group)
  (bif (decide ((e274 : Int) = y275)) then
  let y276 : Bool := (decide ((decide ((((r266.1.1.2 : Nat) : Int) : Int) = 1)) = (decide ((r3.1.1.group : Int) = r265.1.1.group))))
  some (y276, ())
  else
  some (false, ()))
  else none)
  else
  some (false, ()))
  else none)
  else
  some (false, ()))))))
  else
  (shares_Of x0 x3).bind fun r277 =>
  (shares_Groups x0 ([x2, x3] : List (List UInt8))).bind fun r278 =>
  (bif r3.1.2.1 then
  (bif (decide (r278.1.2.1 ≠ r277.1.2.1)) then
  some (false, ())
  else
  (bif (!r278.1.2.1) then
  some ((decide ((((r278.1.1.2 : Nat) : Int) : Int) = 0)), ())
  else
  (bif (decide ((1 : Int) ≤ ((r278.1.1.2 : Nat) : Int))) then
  (if 0 ≤ (0 : Int) ∧ (0 : Int) < ((r278.1.1.2 : Nat) : Int) then
  (r278.2.1[(r278.1.1.1 + (0 : Int).toNat)]?).bind fun e279 =>
  let y280 : Int := (if (r277.1.1.group : Int) < r3.1.1.group then r277.1.1.group else r3.1.1.group)
  (bif (decide ((e279 : Int) = y280)) then
  (if 0 ≤ ((IntKind.i64.wrap (((r278.1.1.2 : Nat) : Int) - 1)) : Int) ∧ ((IntKind.i64.wrap (((r278.1.1.2 : Nat) : Int) - 1)) : Int) < ((r278.1.1.2 : Nat) : Int) then
  (r278.2.1[(r278.1.1.1 + ((IntKind.i64.wrap (((r278.1.1.2 : Nat) : Int) - 1)) : Int).toNat)]?).bind fun e281 =>
  let y282 : Int := (if (r3.1.1.group : Int) < r277.1.1.group then r277.1.1.group else r3.1.1.group)
  (bif (decide ((e281 : Int) = y282)) then
  let y283 : Bool := (decide ((decide ((((r278.1.1.2 : Nat) : Int) : Int) = 1)) = (decide ((r3.1.1.group : Int) = r277.1.1.group))))
  some (y283, ())
  else
  some (false, ()))
  else none)
  else
  some (false, ()))
  else none)
  else
  some (false, ()))))
  else
  (bif (decide (r278.1.2.1 ≠ false)) then
  some (false, ())
  else
  (bif (!r278.1.2.1) then
  some ((decide ((((r278.1.1.2 : Nat) : Int) : Int) = 0)), ())
  else
  (bif (decide ((1 : Int) ≤ ((r278.1.1.2 : Nat) : Int))) then
  (if 0 ≤ (0 : Int) ∧ (0 : Int) < ((r278.1.1.2 : Nat) : Int) then
  (r278.2.1[(r278.1.1.1 + (0 : Int).toNat)]?).bind fun e284 =>
  let y285 : Int := (if (r277.1.1.group : Int) < r3.1.1.group then r277.1.1.group else r3.1.1.group)
  (bif (decide ((e284 : Int) = y285)) then
  (if 0 ≤ ((IntKind.i64.wrap (((r278.1.1.2 : Nat) : Int) - 1)) : Int) ∧ ((IntKind.i64.wrap (((r278.1.1.2 : Nat) : Int) - 1)) : Int) < ((r278.1.1.2 : Nat) : Int) then
  (r278.2.1[(r278.1.1.1 + ((IntKind.i64.wrap (((r278.1.1.2 : Nat) : Int) - 1)) : Int).toNat)]?).bind fun e286 =>
  let y287 : Int := (if (r3.1.1.group : Int) < r277.1.1.group then r277.1.1.group else r3.1.1.group)
  (bif (decide ((e286 : Int) = y287)) then
  let y288 : Bool := (decide ((decide ((((r278.1.1.2 : Nat) : Int) : Int) = 1)) = (decide ((r3.1.1.group : Int) = r277.1.1.group))))
  some (y288, ())
  else
  some (false, ()))
  else none)
  else
  some (false, ()))
  else none)
  else
  some (false, ())))))))
  else
  (bif r4.1.2.1 then
  (span_Within x1 r4.1.1.span).bind fun r289 =>
  (bif (!r289.1) then
  some (false, ())
  else
  (shares_Of x0 x3).bind fun r290 =>
  (shares_Groups x0 ([x2, x3] : List (List UInt8))).bind fun r291 =>
  (bif r3.1.2.1 then
  (bif (decide (r291.1.2.1 ≠ r290.1.2.1)) then
  some (false, ())
  else
  (bif (!r291.1.2.1) then
  some ((decide ((((r291.1.1.2 : Nat) : Int) : Int) = 0)), ())
  else
  (bif (decide ((1 : Int) ≤ ((r291.1.1.2 : Nat) : Int))) then
  (if 0 ≤ (0 : Int) ∧ (0 : Int) < ((r291.1.1.2 : Nat) : Int) then
  (r291.2.1[(r291.1.1.1 + (0 : Int).toNat)]?).bind fun e292 =>
  let y293 : Int := (if (r290.1.1.group : Int) < r3.1.1.group then r290.1.1.group else r3.1.1.group)
  (bif (decide ((e292 : Int) = y293)) then
  (if 0 ≤ ((IntKind.i64.wrap (((r291.1.1.2 : Nat) : Int) - 1)) : Int) ∧ ((IntKind.i64.wrap (((r291.1.1.2 : Nat) : Int) - 1)) : Int) < ((r291.1.1.2 : Nat) : Int) then
  (r291.2.1[(r291.1.1.1 + ((IntKind.i64.wrap (((r291.1.1.2 : Nat) : Int) - 1)) : Int).toNat)]?).bind fun e294 =>
  let y295 : Int := (if (r3.1.1.group : Int) < r290.1.1.group then r290.1.1.group else r3.1.1.group)
  (bif (decide ((e294 : Int) = y295)) then
  let y296 : Bool := (decide ((decide ((((r291.1.1.2 : Nat) : Int) : Int) = 1)) = (decide ((r3.1.1.group : Int) = r290.1.1.group))))
  some (y296, ())
  else
  some (false, ()))
  else none)
  else
  some (false, ()))
  else none)
  else
  some (false, ()))))
  else
  (bif (decide (r291.1.2.1 ≠ false)) then
  some (false, ())
  else
  (bif (!r291.1.2.1) then
  some ((decide ((((r291.1.1.2 : Nat) : Int) : Int) = 0)), ())
  else
  (bif (decide ((1 : Int) ≤ ((r291.1.1.2 : Nat) : Int))) then
  (if 0 ≤ (0 : Int) ∧ (0 : Int) < ((r291.1.1.2 : Nat) : Int) then
  (r291.2.1[(r291.1.1.1 + (0 : Int).toNat)]?).bind fun e297 =>
  let y298 : Int := (if (r290.1.1.group : Int) < r3.1.1.group then r290.1.1.group else r3.1.1.group)
  (bif (decide ((e297 : Int) = y298)) then
  (if 0 ≤ ((IntKind.i64.wrap (((r291.1.1.2 : Nat) : Int) - 1)) : Int) ∧ ((IntKind.i64.wrap (((r291.1.1.2 : Nat) : Int) - 1)) : Int) < ((r291.1.1.2 : Nat) : Int) then
  (r291.2.1[(r291.1.1.1 + ((IntKind.i64.wrap (((r291.1.1.2 : Nat) : Int) - 1)) : Int).toNat)]?).bind fun e299 =>
  let y300 : Int := (if (r3.1.1.group : Int) < r290.1.1.group then r290.1.1.group else r3.1.1.group)
  (bif (decide ((e299 : Int) = y300)) then
  let y301 : Bool := (decide ((decide ((((r291.1.1.2 : Nat) : Int) : Int) = 1)) = (decide ((r3.1.1.group : Int) = r290.1.1.group))))
  some (y301, ())
  else
  some (false, ()))
  else none)
  else
  some (false, ()))
  else none)
  else
  some (false, ()))))))
  else
  (shares_Of x0 x3).bind fun r302 =>
  (shares_Groups x0 ([x2, x3] : List (List UInt8))).bind fun r303 =>
  (bif r3.1.2.1 then
  (bif (decide (r303.1.2.1 ≠ r302.1.2.1)) then
  some (false, ())
  else
  (bif (!r303.1.2.1) then
  some ((decide ((((r303.1.1.2 : Nat) : Int) : Int) = 0)), ())
  else
  (bif (decide ((1 : Int) ≤ ((r303.1.1.2 : Nat) : Int))) then
  (if 0 ≤ (0 : Int) ∧ (0 : Int) < ((r303.1.1.2 : Nat) : Int) then
  (r303.2.1[(r303.1.1.1 + (0 : Int).toNat)]?).bind fun e304 =>
  let y305 : Int := (if (r302.1.1.group : Int) < r3.1.1.group then r302.1.1.group else r3.1.1.group)
  (bif (decide ((e304 : Int) = y305)) then
  (if 0 ≤ ((IntKind.i64.wrap (((r303.1.1.2 : Nat) : Int) - 1)) : Int) ∧ ((IntKind.i64.wrap (((r303.1.1.2 : Nat) : Int) - 1)) : Int) < ((r303.1.1.2 : Nat) : Int) then
  (r303.2.1[(r303.1.1.1 + ((IntKind.i64.wrap (((r303.1.1.2 : Nat) : Int) - 1)) : Int).toNat)]?).bind fun e306 =>
  let y307 : Int := (if (r3.1.1.group : Int) < r302.1.1.group then r302.1.1.group else r3.1.1.group)
  (bif (decide ((e306 : Int) = y307)) then
  let y308 : Bool := (decide ((decide ((((r303.1.1.2 : Nat) : Int) : Int) = 1)) = (decide ((r3.1.1.group : Int) = r302.1.1.group))))
  some (y308, ())
  else
  some (false, ()))
  else none)
  else
  some (false, ()))
  else none)
  else
  some (false, ()))))
  else
  (bif (decide (r303.1.2.1 ≠ false)) then
  some (false, ())
  else
  (bif (!r303.1.2.1) then
  some ((decide ((((r303.1.1.2 : Nat) : Int) : Int) = 0)), ())
  else
  (bif (decide ((1 : Int) ≤ ((r303.1.1.2 : Nat) : Int))) then
  (if 0 ≤ (0 : Int) ∧ (0 : Int) < ((r303.1.1.2 : Nat) : Int) then
  (r303.2.1[(r303.1.1.1 + (0 : Int).toNat)]?).bind fun e309 =>
  let y310 : Int := (if (r302.1.1.group : Int) < r3.1.1.group then r302.1.1.group else r3.1.1.group)
  (bif (decide ((e309 : Int) = y310)) then
  (if 0 ≤ ((IntKind.i64.wrap (((r303.1.1.2 : Nat) : Int) - 1)) : Int) ∧ ((IntKind.i64.wrap (((r303.1.1.2 : Nat) : Int) - 1)) : Int) < ((r303.1.1.2 : Nat) : Int) then
  (r303.2.1[(r303.1.1.1 + ((IntKind.i64.wrap (((r303.1.1.2 : Nat) : Int) - 1)) : Int).toNat)]?).bind fun e311 =>
  let y312 : Int := (if (r3.1.1.group : Int) < r302.1.1.group then r302.1.1.group else r3.1.1.group)
  (bif (decide ((e311 : Int) = y312)) then
  let y313 : Bool := (decide ((decide ((((r303.1.1.2 : Nat) : Int) : Int) = 1)) = (decide ((r3.1.1.group : Int) = r302.1.1.group))))
  some (y313, ())
  else
  some (false, ()))
  else none)
  else
  some (false, ()))
  else none)
  else
  some (false, ()))))))))))))
noncomputable def watershedlaw05_SharesKeys_ce : CE CT Try.prog where
  f := 5
  args := [.cod 8, .cod 4, .one (.str), .one (.str)]
  hs := []
  res := .val (.one (.bool))
  outs := []
  m := fun d dh => watershedlaw05_SharesKeys d.1 d.2.1 d.2.2.1 d.2.2.2.1
  ok := ce_ok mixedP Try.func5 (by kernel_rfl) (orcOf_ok watershedlaw05_SharesKeys_tb) (dr := watershedlaw05_SharesKeys_dr) (lps := lpsOf watershedlaw05_SharesKeys_lt) (lps_fn (no_loop (by kernel_rfl))) (fun d dh => by kernel_rfl)

def watershedlaw05_SharesTurn_dr : Nat → DrA
  | 3 => ⟨[1, 3, 6, 0, 2, 4, 5, 7, 8], [[], [], [1], [], [3], [1, 2, 3, 4], [], [1, 2, 3, 4, 5, 6], [0, 1, 2, 3, 4, 5, 6, 7]], [0], [7], [0], false⟩
  | 13 => ⟨[1, 2, 3, 0, 4, 5, 6, 7, 8, 9, 10, 11], [[], [], [], [1, 2], [1, 2, 3], [0, 1, 2, 3, 4], [0, 1, 2, 3, 4, 5], [0, 1, 2, 3, 4, 5, 6], [0, 1, 2, 3, 4, 5, 6], [], [0, 1, 2, 3, 4, 5, 6, 7, 9], [0, 1, 2, 3, 4, 5, 6, 7, 8, 9, 10]], [], [], [], false⟩
  | 14 => ⟨[1, 2, 3, 0, 4, 5, 6, 7, 8, 9, 10, 11], [[], [], [], [1, 2], [1, 2, 3], [0, 1, 2, 3, 4], [0, 1, 2, 3, 4, 5], [0, 1, 2, 3, 4, 5, 6], [0, 1, 2, 3, 4, 5, 6], [], [0, 1, 2, 3, 4, 5, 6, 7, 9], [0, 1, 2, 3, 4, 5, 6, 7, 8, 9, 10]], [], [], [], false⟩
  | 19 => ⟨[0, 2, 6, 7, 8, 1, 3, 4, 5, 9, 10], [[], [0], [], [0, 1, 2], [0, 1, 2, 3], [0, 1, 2, 3, 4], [], [], [6, 7], [6, 7, 8], [0, 1, 2, 3, 4, 5, 6, 7, 8, 9]], [], [], [], false⟩
  | 24 => ⟨[1, 2, 3, 0, 4, 5], [[], [], [], [1, 2], [1, 2, 3], [0, 1, 2, 3, 4]], [], [], [], false⟩
  | _ => ⟨[], [], [], [], [], false⟩
noncomputable def watershedlaw05_SharesTurn_tb : List (CE CT Try.prog) := [watershedlaw05_awake_ce, watershedlaw05_great_ce, shares_Turn_ce, shares_Right_ce, shares_Of_ce, span_Has_ce, span_Key_ce]
noncomputable def watershedlaw05_SharesTurn_l2 (a : ((Int) × (List (List UInt8)) × (Unit) × (Unit) × (Unit) × (Int) × (Unit) × (Bool) × (Unit) × (Bool) × (Int) × (Int) × Unit) × ((DShares) × (DSpan) × (DShares) × (DShare) × (DShare) × Unit)) : Option ((((Int) × (List (List UInt8)) × (Unit) × (Unit) × (Unit) × (Int) × (Unit) × (Bool) × (Unit) × (Bool) × (Int) × (Int) × Unit) × ((DShares) × (DSpan) × (DShares) × (DShare) × (DShare) × Unit)) ⊕ ((((Int) × (List (List UInt8)) × (Unit) × (Unit) × (Unit) × (Int) × (Unit) × (Bool) × (Unit) × (Bool) × (Int) × Unit) × ((DShares) × (DSpan) × (DShares) × (DShare) × (DShare) × Unit)))) :=
  (bif (decide ((a.1.2.2.2.2.2.2.2.2.2.2.2.1 : Int) < (a.2.2.2.1.list.length : Int))) then
  (getI a.1.2.1 a.1.2.2.2.2.2.1).bind fun e1 =>
  (getI a.2.2.2.1.list a.1.2.2.2.2.2.2.2.2.2.2.2.1).bind fun e2 =>
  (span_Has e2.span e1).bind fun r3 =>
  (bif r3.1 then
  some (.inl ((a.1.1, a.1.2.1, (), (), (), a.1.2.2.2.2.2.1, (), a.1.2.2.2.2.2.2.2.1, (), a.1.2.2.2.2.2.2.2.2.2.1, (IntKind.i64.wrap (a.1.2.2.2.2.2.2.2.2.2.2.1 + 1)), (IntKind.i64.wrap (a.1.2.2.2.2.2.2.2.2.2.2.2.1 + 1)), ()), (a.2.1, a.2.2.1, a.2.2.2.1, a.2.2.2.2.1, a.2.2.2.2.2.1, ())))
  else
  some (.inl ((a.1.1, a.1.2.1, (), (), (), a.1.2.2.2.2.2.1, (), a.1.2.2.2.2.2.2.2.1, (), a.1.2.2.2.2.2.2.2.2.2.1, a.1.2.2.2.2.2.2.2.2.2.2.1, (IntKind.i64.wrap (a.1.2.2.2.2.2.2.2.2.2.2.2.1 + 1)), ()), (a.2.1, a.2.2.1, a.2.2.2.1, a.2.2.2.2.1, a.2.2.2.2.2.1, ()))))
  else
  some (.inr ((a.1.1, a.1.2.1, (), (), (), a.1.2.2.2.2.2.1, (), a.1.2.2.2.2.2.2.2.1, (), a.1.2.2.2.2.2.2.2.2.2.1, a.1.2.2.2.2.2.2.2.2.2.2.1, ()), (a.2.1, a.2.2.1, a.2.2.2.1, a.2.2.2.2.1, a.2.2.2.2.2.1, ()))))
noncomputable def watershedlaw05_SharesTurn_e2 : LE CT Try.prog := ⟨17, [2, 3, 4, 5, 9, 11, 12, 13, 14, 15, 16, 17], [.one (.int .i64), .one (.sl 2), .one (.ptr 0 0), .one (.ptr 1 0), .one (.ptr 2 0), .one (.int .i64), .one (.ptr 3 0), .one (.bool), .one (.ptr 4 0), .one (.bool), .one (.int .i64), .one (.int .i64)], [.cobj 26 8, .cobj 29 4, .cobj 26 8, .cobj 41 5, .cobj 41 5], [⟨.exit 2, [2, 3, 4, 5, 9, 11, 12, 13, 14, 15, 16], [.one (.int .i64), .one (.sl 2), .one (.ptr 0 0), .one (.ptr 1 0), .one (.ptr 2 0), .one (.int .i64), .one (.ptr 3 0), .one (.bool), .one (.ptr 4 0), .one (.bool), .one (.int .i64)], [.cobj 26 8, .cobj 29 4, .cobj 26 8, .cobj 41 5, .cobj 41 5]⟩], watershedlaw05_SharesTurn_l2⟩
noncomputable def watershedlaw05_SharesTurn_l1 (a : ((Int) × (List (List UInt8)) × (Unit) × (Unit) × (Unit) × (Int) × Unit) × ((DShares) × (DSpan) × (DShares) × Unit)) : Option ((((Int) × (List (List UInt8)) × (Unit) × (Unit) × (Unit) × (Int) × Unit) × ((DShares) × (DSpan) × (DShares) × Unit)) ⊕ ((((Bool) × Unit) × ((DShares) × (DSpan) × (DShares) × Unit)) ⊕ ((Unit) × ((DShares) × (DSpan) × (DShares) × Unit)))) :=
  (bif (decide ((a.1.2.2.2.2.2.1 : Int) < (a.1.2.1.length : Int))) then
  (getI a.1.2.1 a.1.2.2.2.2.2.1).bind fun e1 =>
  (shares_Of a.2.1 e1).bind fun r2 =>
  (getI a.1.2.1 a.1.2.2.2.2.2.1).bind fun e3 =>
  (shares_Of a.2.2.2.1 e3).bind fun r4 =>
  (loopM watershedlaw05_SharesTurn_l2 ((a.1.1, a.1.2.1, (), (), (), a.1.2.2.2.2.2.1, (), r2.1.2.1, (), r4.1.2.1, 0, 0, ()), (a.2.1, a.2.2.1, a.2.2.2.1, r2.1.1, r4.1.1, ()))).bind fun b5 =>
  (bif (decide (b5.1.2.2.2.2.2.2.2.1 ≠ b5.1.2.2.2.2.2.2.2.2.2.1)) then
  some (.inr (.inl ((false, ()), (b5.2.1, b5.2.2.1, b5.2.2.2.1, ()))))
  else
  (bif (decide (b5.1.2.2.2.2.2.2.2.1 ≠ (decide ((b5.1.2.2.2.2.2.2.2.2.2.2.1 : Int) = 1)))) then
  some (.inr (.inl ((false, ()), (b5.2.1, b5.2.2.1, b5.2.2.2.1, ()))))
  else
  (getI b5.1.2.1 b5.1.2.2.2.2.2.1).bind fun e6 =>
  (span_Key e6).bind fun r7 =>
  (bif (decide (b5.1.2.2.2.2.2.2.2.1 ≠ r7.1)) then
  some (.inr (.inl ((false, ()), (b5.2.1, b5.2.2.1, b5.2.2.2.1, ()))))
  else
  (bif (!b5.1.2.2.2.2.2.2.2.1) then
  some (.inl ((b5.1.1, b5.1.2.1, (), (), (), (IntKind.i64.wrap (b5.1.2.2.2.2.2.1 + 1)), ()), (b5.2.1, b5.2.2.1, b5.2.2.2.1, ())))
  else
  (getI b5.1.2.1 b5.1.2.2.2.2.2.1).bind fun e8 =>
  (span_Has b5.2.2.1 e8).bind fun r9 =>
  (bif r9.1 then
  (bif (decide ((b5.2.2.2.2.2.1.group : Int) ≠ b5.1.1)) then
  some (.inr (.inl ((false, ()), (b5.2.1, b5.2.2.1, b5.2.2.2.1, ()))))
  else
  (bif (decide ((b5.2.2.2.2.2.1.epoch : Int) ≠ b5.2.2.2.1.epoch)) then
  some (.inr (.inl ((false, ()), (b5.2.1, b5.2.2.1, b5.2.2.2.1, ()))))
  else
  (bif (decide ((b5.2.2.2.2.1.group : Int) = b5.1.1)) then
  some (.inr (.inl ((false, ()), (b5.2.1, b5.2.2.1, b5.2.2.2.1, ()))))
  else
  some (.inl ((b5.1.1, b5.1.2.1, (), (), (), (IntKind.i64.wrap (b5.1.2.2.2.2.2.1 + 1)), ()), (b5.2.1, b5.2.2.1, b5.2.2.2.1, ()))))))
  else
  (bif (decide ((b5.2.2.2.2.1.group : Int) ≠ b5.2.2.2.2.2.1.group)) then
  some (.inr (.inl ((false, ()), (b5.2.1, b5.2.2.1, b5.2.2.2.1, ()))))
  else
  (bif (decide ((b5.2.2.2.2.1.epoch : Int) ≠ b5.2.2.2.2.2.1.epoch)) then
  some (.inr (.inl ((false, ()), (b5.2.1, b5.2.2.1, b5.2.2.2.1, ()))))
  else
  some (.inl ((b5.1.1, b5.1.2.1, (), (), (), (IntKind.i64.wrap (b5.1.2.2.2.2.2.1 + 1)), ()), (b5.2.1, b5.2.2.1, b5.2.2.2.1, ()))))))))))
  else
  some (.inr (.inr ((), (a.2.1, a.2.2.1, a.2.2.2.1, ())))))
noncomputable def watershedlaw05_SharesTurn_e1 : LE CT Try.prog := ⟨11, [2, 3, 4, 5, 9, 11], [.one (.int .i64), .one (.sl 2), .one (.ptr 0 0), .one (.ptr 1 0), .one (.ptr 2 0), .one (.int .i64)], [.cobj 26 8, .cobj 29 4, .cobj 26 8], [⟨.ret, [8], [.one (.bool)], [.cobj 26 8, .cobj 29 4, .cobj 26 8]⟩, ⟨.exit 0, [], [], [.cobj 26 8, .cobj 29 4, .cobj 26 8]⟩], watershedlaw05_SharesTurn_l1⟩
noncomputable def watershedlaw05_SharesTurn_lt : List (LE CT Try.prog) := [watershedlaw05_SharesTurn_e2, watershedlaw05_SharesTurn_e1]
theorem watershedlaw05_SharesTurn_e2_ok : LeOk watershedlaw05_SharesTurn_e2 (nthL (nthL (bodyOf Try.f4) 0) 0) := fun A env h k z hk => le_ok (E := watershedlaw05_SharesTurn_e2) (orcOf_ok watershedlaw05_SharesTurn_tb) (dr := watershedlaw05_SharesTurn_dr) (lps := lpsOf watershedlaw05_SharesTurn_lt) (no_loop (by kernel_rfl)) (fun a => by kernel_rfl) env h k z hk
theorem watershedlaw05_SharesTurn_e1_ok : LeOk watershedlaw05_SharesTurn_e1 (nthL (bodyOf Try.f4) 0) := fun A env h k z hk => le_ok (E := watershedlaw05_SharesTurn_e1) (orcOf_ok watershedlaw05_SharesTurn_tb) (dr := watershedlaw05_SharesTurn_dr) (lps := lpsOf watershedlaw05_SharesTurn_lt) (lps_of (n := 1) (by kernel_rfl) fun i hi => match i, hi with | 0, _ => lp_ok (E := watershedlaw05_SharesTurn_e2) (by kernel_rfl) watershedlaw05_SharesTurn_e2_ok) (fun a => by kernel_rfl) env h k z hk
noncomputable def watershedlaw05_SharesTurn (x0 : DShares) (x1 : DSpan) (x2 : Int) (x3 : List (List UInt8)) : Option ((Bool) × (Unit)) :=
  (watershedlaw05_awake).bind fun r1 =>
  (bif (!r1.1) then
  some (false, ())
  else
  (if ([x1.lo, x1.hi] : List (List UInt8)).length + x3.length ≤ 140737488355328 ∧ (([x1.lo, x1.hi] : List (List UInt8)).length + x3.length) * 16 ≤ 140737488355328 then
  (watershedlaw05_great x0 (([x1.lo, x1.hi] : List (List UInt8)) ++ x3)).bind fun r2 =>
  (bif r2.1 then
  some (true, ())
  else
  (shares_Turn x0 x1 x2).bind fun r3 =>
  (bif (decide ((r3.1.2.1 : Int) ≠ 0)) then
  (bif (decide ((r3.1.1.epoch : Int) = 0)) then
  some ((decide (((r3.1.1.list.length : Int) : Int) = 0)), ())
  else
  some (false, ()))
  else
  (shares_Right x0).bind fun r4 =>
  (bif (!r4.1) then
  some (false, ())
  else
  (shares_Right r3.1.1).bind fun r5 =>
  (bif (!r5.1) then
  some (false, ())
  else
  (bif (decide ((r3.1.1.epoch : Int) ≠ (IntKind.i64.wrap (x0.epoch + 1)))) then
  some (false, ())
  else
  (loopM watershedlaw05_SharesTurn_l1 ((x2, x3, (), (), (), 0, ()), (x0, x1, r3.1.1, ()))).bind fun b6 =>
  (match b6 with
  | .inl b7 =>
  some (b7.1.1, ())
  | .inr b8 =>
  some (true, ())))))))
  else none))
noncomputable def watershedlaw05_SharesTurn_ce : CE CT Try.prog where
  f := 4
  args := [.cod 8, .cod 4, .one (.int .i64), .one (.sl 2)]
  hs := []
  res := .val (.one (.bool))
  outs := []
  m := fun d dh => watershedlaw05_SharesTurn d.1 d.2.1 d.2.2.1 d.2.2.2.1
  ok := ce_ok mixedP Try.func4 (by kernel_rfl) (orcOf_ok watershedlaw05_SharesTurn_tb) (dr := watershedlaw05_SharesTurn_dr) (lps := lpsOf watershedlaw05_SharesTurn_lt) (lps_fn (lps_of (n := 1) (by kernel_rfl) fun i hi => match i, hi with | 0, _ => lp_ok (E := watershedlaw05_SharesTurn_e1) (by kernel_rfl) watershedlaw05_SharesTurn_e1_ok)) (fun d dh => by kernel_rfl)

def watershedref05_First_dr : Nat → DrA
  | _ => ⟨[], [], [], [], [], false⟩
noncomputable def watershedref05_First_tb : List (CE CT Try.prog) := []
noncomputable def watershedref05_First_lt : List (LE CT Try.prog) := []
noncomputable def watershedref05_First (x0 : Int) : Option ((DShares) × (Unit)) :=
  (bif (decide ((x0 : Int) < 1)) then
  some ((⟨1, ([(⟨(⟨([] : List UInt8), ([] : List UInt8)⟩ : DSpan), 1, 1⟩ : DShare)] : List (DShare))⟩ : DShares), ())
  else
  (bif (decide ((4 : Int) < x0)) then
  some ((⟨1, ([(⟨(⟨([] : List UInt8), ([] : List UInt8)⟩ : DSpan), 1, 1⟩ : DShare)] : List (DShare))⟩ : DShares), ())
  else
  some ((⟨1, ([(⟨(⟨([] : List UInt8), ([] : List UInt8)⟩ : DSpan), x0, 1⟩ : DShare)] : List (DShare))⟩ : DShares), ())))
noncomputable def watershedref05_First_ce : CE CT Try.prog where
  f := 8
  args := [.one (.int .i64)]
  hs := []
  res := .val (.cod 8)
  outs := []
  m := fun d dh => watershedref05_First d.1
  ok := ce_ok mixedP Try.func8 (by kernel_rfl) (orcOf_ok watershedref05_First_tb) (dr := watershedref05_First_dr) (lps := lpsOf watershedref05_First_lt) (lps_fn (no_loop (by kernel_rfl))) (fun d dh => by kernel_rfl)

def watershedref04_Key_dr : Nat → DrA
  | _ => ⟨[], [], [], [], [], false⟩
noncomputable def watershedref04_Key_tb : List (CE CT Try.prog) := []
noncomputable def watershedref04_Key_l1 (a : ((List UInt8) × (Int) × Unit) × (Unit)) : Option ((((List UInt8) × (Int) × Unit) × (Unit)) ⊕ ((((Bool) × Unit) × (Unit)) ⊕ ((Unit) × (Unit)))) :=
  (bif (decide ((a.1.2.1 : Int) < (a.1.1.length : Int))) then
  (getI a.1.1 a.1.2.1).bind fun e1 =>
  (bif (decide ((97 : Int) ≤ (e1.toNat : Int))) then
  (getI a.1.1 a.1.2.1).bind fun e2 =>
  (bif (decide (((e2.toNat : Int) : Int) ≤ 122)) then
  some (.inl ((a.1.1, (IntKind.i64.wrap (a.1.2.1 + 1)), ()), ()))
  else
  (getI a.1.1 a.1.2.1).bind fun e3 =>
  (bif (decide ((48 : Int) ≤ (e3.toNat : Int))) then
  (getI a.1.1 a.1.2.1).bind fun e4 =>
  (bif (!(decide (((e4.toNat : Int) : Int) ≤ 57))) then
  some (.inr (.inl ((false, ()), ())))
  else
  some (.inl ((a.1.1, (IntKind.i64.wrap (a.1.2.1 + 1)), ()), ())))
  else
  some (.inr (.inl ((false, ()), ())))))
  else
  (getI a.1.1 a.1.2.1).bind fun e5 =>
  (bif (decide ((48 : Int) ≤ (e5.toNat : Int))) then
  (getI a.1.1 a.1.2.1).bind fun e6 =>
  (bif (!(decide (((e6.toNat : Int) : Int) ≤ 57))) then
  some (.inr (.inl ((false, ()), ())))
  else
  some (.inl ((a.1.1, (IntKind.i64.wrap (a.1.2.1 + 1)), ()), ())))
  else
  some (.inr (.inl ((false, ()), ())))))
  else
  some (.inr (.inr ((), ()))))
noncomputable def watershedref04_Key_e1 : LE CT Try.prog := ⟨4, [0, 3], [.one (.str), .one (.int .i64)], [], [⟨.ret, [2], [.one (.bool)], []⟩, ⟨.exit 0, [], [], []⟩], watershedref04_Key_l1⟩
noncomputable def watershedref04_Key_lt : List (LE CT Try.prog) := [watershedref04_Key_e1]
theorem watershedref04_Key_e1_ok : LeOk watershedref04_Key_e1 (nthL (bodyOf Try.f56) 0) := fun A env h k z hk => le_ok (E := watershedref04_Key_e1) (orcOf_ok watershedref04_Key_tb) (dr := watershedref04_Key_dr) (lps := lpsOf watershedref04_Key_lt) (no_loop (by kernel_rfl)) (fun a => by kernel_rfl) env h k z hk
noncomputable def watershedref04_Key (x0 : List UInt8) : Option ((Bool) × (Unit)) :=
  (bif (decide (((x0.length : Int) : Int) < 1)) then
  some (false, ())
  else
  (bif (decide ((20 : Int) < (x0.length : Int))) then
  some (false, ())
  else
  (loopM watershedref04_Key_l1 ((x0, 0, ()), ())).bind fun b1 =>
  (match b1 with
  | .inl b2 =>
  some (b2.1.1, ())
  | .inr b3 =>
  some (true, ()))))
noncomputable def watershedref04_Key_ce : CE CT Try.prog where
  f := 56
  args := [.one (.str)]
  hs := []
  res := .val (.one (.bool))
  outs := []
  m := fun d dh => watershedref04_Key d.1
  ok := ce_ok mixedP Try.func56 (by kernel_rfl) (orcOf_ok watershedref04_Key_tb) (dr := watershedref04_Key_dr) (lps := lpsOf watershedref04_Key_lt) (lps_fn (lps_of (n := 1) (by kernel_rfl) fun i hi => match i, hi with | 0, _ => lp_ok (E := watershedref04_Key_e1) (by kernel_rfl) watershedref04_Key_e1_ok)) (fun d dh => by kernel_rfl)

def watershedref04_Right_dr : Nat → DrA
  | _ => ⟨[], [], [], [], [], false⟩
noncomputable def watershedref04_Right_tb : List (CE CT Try.prog) := [watershedref04_Key_ce]
noncomputable def watershedref04_Right_lt : List (LE CT Try.prog) := []
noncomputable def watershedref04_Right (x0 : DSpan) : Option ((Bool) × (Unit)) :=
  (bif (decide (x0.lo ≠ ([] : List UInt8))) then
  (watershedref04_Key x0.lo).bind fun r1 =>
  (bif (!r1.1) then
  some (false, ())
  else
  (bif (decide (x0.hi = ([] : List UInt8))) then
  some (true, ())
  else
  (watershedref04_Key x0.hi).bind fun r2 =>
  (bif r2.1 then
  some ((decide (x0.lo < x0.hi)), ())
  else
  some (false, ()))))
  else
  (bif (decide (x0.hi = ([] : List UInt8))) then
  some (true, ())
  else
  (watershedref04_Key x0.hi).bind fun r3 =>
  (bif r3.1 then
  some ((decide (x0.lo < x0.hi)), ())
  else
  some (false, ()))))
noncomputable def watershedref04_Right_ce : CE CT Try.prog where
  f := 30
  args := [.cod 4]
  hs := []
  res := .val (.one (.bool))
  outs := []
  m := fun d dh => watershedref04_Right d.1
  ok := ce_ok mixedP Try.func30 (by kernel_rfl) (orcOf_ok watershedref04_Right_tb) (dr := watershedref04_Right_dr) (lps := lpsOf watershedref04_Right_lt) (lps_fn (no_loop (by kernel_rfl))) (fun d dh => by kernel_rfl)

def watershedref04_Parts_dr : Nat → DrA
  | 6 => ⟨[0, 1, 2, 3, 4, 5, 6, 7, 8, 9, 10, 11, 12, 13, 14, 15, 16, 17, 18, 19, 20, 21, 22, 24, 25, 26, 27, 23, 28, 29, 30, 31, 32], [[], [], [0, 1], [0, 1, 2], [0, 1, 2, 3], [0, 1, 2, 3, 4], [0, 1, 2, 3, 4, 5], [0, 1, 2, 3, 4, 5, 6], [0, 1, 2, 3, 4, 5, 6, 7], [0, 1, 2, 3, 4, 5, 6, 7, 8], [0, 1, 2, 3, 4, 5, 6, 7, 8, 9], [0, 1, 2, 3, 4, 5, 6, 7, 8, 9], [0, 1, 2, 3, 4, 5, 6, 7, 8, 9, 11], [0, 1, 2, 3, 4, 5, 6, 7, 8, 9, 10, 11, 12], [0, 1, 2, 3, 4, 5, 6, 7, 8, 9, 10, 11, 12, 13], [0, 1, 2, 3, 4, 5, 6, 7, 8, 9, 10, 11, 12, 13, 14], [0, 1, 2, 3, 4, 5, 6, 7, 8, 9, 10, 11, 12, 13, 14, 15], [0, 1, 2, 3, 4, 5, 6, 7, 8, 9, 10, 11, 12, 13, 14, 15, 16], [0, 1, 2, 3, 4, 5, 6, 7, 8, 9, 10, 11, 12, 13, 14, 15, 16, 17], [0, 1, 2, 3, 4, 5, 6, 7, 8, 9, 10, 11, 12, 13, 14, 15, 16, 17], [0, 1, 2, 3, 4, 5, 6, 7, 8, 9, 10, 11, 12, 13, 14, 15, 16, 17, 19], [0, 1, 2, 3, 4, 5, 6, 7, 8, 9, 10, 11, 12, 13, 14, 15, 16, 17, 18, 19, 20], [0, 1, 2, 3, 4, 5, 6, 7, 8, 9, 10, 11, 12, 13, 14, 15, 16, 17, 18, 19, 20, 21], [0, 1, 2, 3, 4, 5, 6, 7, 8, 9, 10, 11, 12, 13, 14, 15, 16, 17, 18, 19, 20, 21, 22], [0, 1, 2, 3, 4, 5, 6, 7, 8, 9, 10, 11, 12, 13, 14, 15, 16, 17], [0, 1, 2, 3, 4, 5, 6, 7, 8, 9, 10, 11, 12, 13, 14, 15, 16, 17], [0, 1, 2, 3, 4, 5, 6, 7, 8, 9, 10, 11, 12, 13, 14, 15, 16, 17, 24, 25], [0, 1, 2, 3, 4, 5, 6, 7, 8, 9, 10, 11, 12, 13, 14, 15, 16, 17, 24, 25, 26], [0, 1, 2, 3, 4, 5, 6, 7, 8, 9, 10, 11, 12, 13, 14, 15, 16, 17, 24, 25, 26, 27], [0, 1, 2, 3, 4, 5, 6, 7, 8, 9, 10, 11, 12, 13, 14, 15, 16, 17, 18, 19, 20, 21, 22, 23, 24, 25, 26, 27, 28], [0, 1, 2, 3, 4, 5, 6, 7, 8, 9, 10, 11, 12, 13, 14, 15, 16, 17, 18, 19, 20, 21, 22, 23, 24, 25, 26, 27, 28, 29], [0, 1, 2, 3, 4, 5, 6, 7, 8, 9, 10, 11, 12, 13, 14, 15, 16, 17, 18, 19, 20, 21, 22, 23, 24, 25, 26, 27, 28, 29, 30], [0, 1, 2, 3, 4, 5, 6, 7, 8, 9, 10, 11, 12, 13, 14, 15, 16, 17, 18, 19, 20, 21, 22, 23, 24, 25, 26, 27, 28, 29, 30, 31]], [], [], [], false⟩
  | _ => ⟨[], [], [], [], [], false⟩
noncomputable def watershedref04_Parts_tb : List (CE CT Try.prog) := [watershedref04_Right_ce]
noncomputable def watershedref04_Parts_l1 (a : ((List (DSpan)) × (Int) × Unit) × (Unit)) : Option ((((List (DSpan)) × (Int) × Unit) × (Unit)) ⊕ ((((Bool) × Unit) × (Unit)) ⊕ ((Unit) × (Unit)))) :=
  (bif (decide ((a.1.2.1 : Int) < (a.1.1.length : Int))) then
  (getI a.1.1 a.1.2.1).bind fun e1 =>
  (watershedref04_Right e1).bind fun r2 =>
  (bif (!r2.1) then
  some (.inr (.inl ((false, ()), ())))
  else
  (bif (decide ((0 : Int) < a.1.2.1)) then
  (getI a.1.1 (IntKind.i64.wrap (a.1.2.1 - 1))).bind fun e3 =>
  (bif (decide (e3.hi = ([] : List UInt8))) then
  some (.inr (.inl ((false, ()), ())))
  else
  (getI a.1.1 (IntKind.i64.wrap (a.1.2.1 - 1))).bind fun e4 =>
  (getI a.1.1 a.1.2.1).bind fun e5 =>
  (bif (decide (e4.hi ≠ e5.lo)) then
  some (.inr (.inl ((false, ()), ())))
  else
  some (.inl ((a.1.1, (IntKind.i64.wrap (a.1.2.1 + 1)), ()), ()))))
  else
  some (.inl ((a.1.1, (IntKind.i64.wrap (a.1.2.1 + 1)), ()), ()))))
  else
  some (.inr (.inr ((), ()))))
noncomputable def watershedref04_Parts_e1 : LE CT Try.prog := ⟨4, [0, 3], [.one (.sl 4), .one (.int .i64)], [], [⟨.ret, [2], [.one (.bool)], []⟩, ⟨.exit 0, [], [], []⟩], watershedref04_Parts_l1⟩
noncomputable def watershedref04_Parts_lt : List (LE CT Try.prog) := [watershedref04_Parts_e1]
theorem watershedref04_Parts_e1_ok : LeOk watershedref04_Parts_e1 (nthL (bodyOf Try.f55) 0) := fun A env h k z hk => le_ok (E := watershedref04_Parts_e1) (orcOf_ok watershedref04_Parts_tb) (dr := watershedref04_Parts_dr) (lps := lpsOf watershedref04_Parts_lt) (no_loop (by kernel_rfl)) (fun a => by kernel_rfl) env h k z hk
noncomputable def watershedref04_Parts (x0 : List (DSpan)) : Option ((Bool) × (Unit)) :=
  (bif (decide (((x0.length : Int) : Int) = 0)) then
  some (false, ())
  else
  (getI x0 0).bind fun e1 =>
  (bif (decide (e1.lo ≠ ([] : List UInt8))) then
  some (false, ())
  else
  (getI x0 (IntKind.i64.wrap ((x0.length : Int) - 1))).bind fun e2 =>
  (bif (decide (e2.hi ≠ ([] : List UInt8))) then
  some (false, ())
  else
  (loopM watershedref04_Parts_l1 ((x0, 0, ()), ())).bind fun b3 =>
  (match b3 with
  | .inl b4 =>
  some (b4.1.1, ())
  | .inr b5 =>
  some (true, ())))))
noncomputable def watershedref04_Parts_ce : CE CT Try.prog where
  f := 55
  args := [.one (.sl 4)]
  hs := []
  res := .val (.one (.bool))
  outs := []
  m := fun d dh => watershedref04_Parts d.1
  ok := ce_ok mixedP Try.func55 (by kernel_rfl) (orcOf_ok watershedref04_Parts_tb) (dr := watershedref04_Parts_dr) (lps := lpsOf watershedref04_Parts_lt) (lps_fn (lps_of (n := 1) (by kernel_rfl) fun i hi => match i, hi with | 0, _ => lp_ok (E := watershedref04_Parts_e1) (by kernel_rfl) watershedref04_Parts_e1_ok)) (fun d dh => by kernel_rfl)

def watershedref05_Right_dr : Nat → DrA
  | _ => ⟨[], [], [], [], [], false⟩
noncomputable def watershedref05_Right_tb : List (CE CT Try.prog) := [watershedref04_Parts_ce]
noncomputable def watershedref05_Right_l1 (a : ((Unit) × (List (DSpan)) × (Int) × Unit) × ((DShares) × (Unit) × Unit)) : Option ((((Unit) × (List (DSpan)) × (Int) × Unit) × ((DShares) × (Unit) × Unit)) ⊕ ((((Bool) × Unit) × ((DShares) × (Unit) × Unit)) ⊕ (((List (DSpan)) × Unit) × ((DShares) × (Unit) × (Unit) × Unit)))) :=
  (bif (decide ((a.1.2.2.1 : Int) < (a.2.1.list.length : Int))) then
  (getI a.2.1.list a.1.2.2.1).bind fun e1 =>
  (bif (decide ((e1.group : Int) < 1)) then
  some (.inr (.inl ((false, ()), (a.2.1, (), ()))))
  else
  (bif (decide ((4 : Int) < e1.group)) then
  some (.inr (.inl ((false, ()), (a.2.1, (), ()))))
  else
  (bif (decide ((e1.epoch : Int) < 1)) then
  some (.inr (.inl ((false, ()), (a.2.1, (), ()))))
  else
  (bif (decide ((a.2.1.epoch : Int) < e1.epoch)) then
  some (.inr (.inl ((false, ()), (a.2.1, (), ()))))
  else
  (if a.1.2.1.length + ([e1.span] : List (DSpan)).length ≤ 140737488355328 ∧ (a.1.2.1.length + ([e1.span] : List (DSpan)).length) * 32 ≤ 140737488355328 then
  some (.inl (((), (a.1.2.1 ++ ([e1.span] : List (DSpan))), (IntKind.i64.wrap (a.1.2.2.1 + 1)), ()), (a.2.1, (), ())))
  else none)))))
  else
  some (.inr (.inr ((a.1.2.1, ()), (a.2.1, (), (), ())))))
noncomputable def watershedref05_Right_e1 : LE CT Try.prog := ⟨5, [1, 3, 4], [.one (.ptr 0 0), .one (.own 4 1), .one (.int .i64)], [.cobj 26 8, .row 29 2], [⟨.ret, [2], [.one (.bool)], [.cobj 26 8, .dead]⟩, ⟨.exit 0, [3], [.one (.own 4 2)], [.cobj 26 8, .dead, .row 29 2]⟩], watershedref05_Right_l1⟩
noncomputable def watershedref05_Right_lt : List (LE CT Try.prog) := [watershedref05_Right_e1]
theorem watershedref05_Right_e1_ok : LeOk watershedref05_Right_e1 (nthL (bodyOf Try.f29) 0) := fun A env h k z hk => le_ok (E := watershedref05_Right_e1) (orcOf_ok watershedref05_Right_tb) (dr := watershedref05_Right_dr) (lps := lpsOf watershedref05_Right_lt) (no_loop (by kernel_rfl)) (fun a => by kernel_rfl) env h k z hk
noncomputable def watershedref05_Right (x0 : DShares) : Option ((Bool) × (Unit)) :=
  (bif (decide ((x0.epoch : Int) < 1)) then
  some (false, ())
  else
  (bif (decide ((1073741824 : Int) < x0.epoch)) then
  some (false, ())
  else
  (bif (decide ((40 : Int) < (x0.list.length : Int))) then
  some (false, ())
  else
  (loopM watershedref05_Right_l1 (((), [], 0, ()), (x0, (), ()))).bind fun b1 =>
  (match b1 with
  | .inl b2 =>
  some (b2.1.1, ())
  | .inr b3 =>
  (watershedref04_Parts b3.1.1).bind fun r4 =>
  some (r4.1, ())))))
noncomputable def watershedref05_Right_ce : CE CT Try.prog where
  f := 29
  args := [.cod 8]
  hs := []
  res := .val (.one (.bool))
  outs := []
  m := fun d dh => watershedref05_Right d.1
  ok := ce_ok mixedP Try.func29 (by kernel_rfl) (orcOf_ok watershedref05_Right_tb) (dr := watershedref05_Right_dr) (lps := lpsOf watershedref05_Right_lt) (lps_fn (lps_of (n := 1) (by kernel_rfl) fun i hi => match i, hi with | 0, _ => lp_ok (E := watershedref05_Right_e1) (by kernel_rfl) watershedref05_Right_e1_ok)) (fun d dh => by kernel_rfl)

def watershedref04_Within_dr : Nat → DrA
  | _ => ⟨[], [], [], [], [], false⟩
noncomputable def watershedref04_Within_tb : List (CE CT Try.prog) := [watershedref04_Right_ce]
noncomputable def watershedref04_Within_lt : List (LE CT Try.prog) := []
noncomputable def watershedref04_Within (x0 : DSpan) (x1 : DSpan) : Option ((Bool) × (Unit)) :=
  (watershedref04_Right x0).bind fun r1 =>
  (bif r1.1 then
  (watershedref04_Right x1).bind fun r2 =>
  (bif r2.1 then
  (bif (decide (x1.lo < x0.lo) || decide (x1.lo = x0.lo)) then
  (bif (decide (x1.hi = ([] : List UInt8))) then
  some (true, ())
  else
  (bif (decide (x0.hi ≠ ([] : List UInt8))) then
  some ((decide (x0.hi < x1.hi) || decide (x0.hi = x1.hi)), ())
  else
  some (false, ())))
  else
  some (false, ()))
  else
  some (false, ()))
  else
  some (false, ()))
noncomputable def watershedref04_Within_ce : CE CT Try.prog where
  f := 57
  args := [.cod 4, .cod 4]
  hs := []
  res := .val (.one (.bool))
  outs := []
  m := fun d dh => watershedref04_Within d.1 d.2.1
  ok := ce_ok mixedP Try.func57 (by kernel_rfl) (orcOf_ok watershedref04_Within_tb) (dr := watershedref04_Within_dr) (lps := lpsOf watershedref04_Within_lt) (lps_fn (no_loop (by kernel_rfl))) (fun d dh => by kernel_rfl)

def watershedref05_In_dr : Nat → DrA
  | 4 => ⟨[1, 3, 0, 2, 4, 5, 6, 7], [[], [], [1], [], [1, 2, 3], [1, 2, 3, 4], [1, 2, 3, 4, 5], [0, 1, 2, 3, 4, 5, 6]], [], [], [], false⟩
  | _ => ⟨[], [], [], [], [], false⟩
noncomputable def watershedref05_In_tb : List (CE CT Try.prog) := [watershedref05_Right_ce, watershedref04_Within_ce]
noncomputable def watershedref05_In_l1 (a : ((Unit) × (Unit) × (Unit) × (Int) × Unit) × ((DShares) × (DSpan) × (DShare) × Unit)) : Option ((((Unit) × (Unit) × (Unit) × (Int) × Unit) × ((DShares) × (DSpan) × (DShare) × Unit)) ⊕ ((((Unit) × (Bool) × Unit) × ((DShares) × (DSpan) × (DShare) × Unit)) ⊕ (((Unit) × Unit) × ((DShares) × (DSpan) × (DShare) × Unit)))) :=
  (bif (decide ((a.1.2.2.2.1 : Int) < (a.2.1.list.length : Int))) then
  (watershedref05_Right a.2.1).bind fun r1 =>
  (bif r1.1 then
  (getI a.2.1.list a.1.2.2.2.1).bind fun e2 =>
  (watershedref04_Within a.2.2.1 e2.span).bind fun r3 =>
  (bif r3.1 then
  (getI a.2.1.list a.1.2.2.2.1).bind fun e4 =>
  some (.inr (.inl (((), true, ()), (a.2.1, a.2.2.1, e4, ()))))
  else
  some (.inl (((), (), (), (IntKind.i64.wrap (a.1.2.2.2.1 + 1)), ()), (a.2.1, a.2.2.1, a.2.2.2.1, ()))))
  else
  some (.inr (.inr (((), ()), (a.2.1, a.2.2.1, a.2.2.2.1, ())))))
  else
  some (.inr (.inr (((), ()), (a.2.1, a.2.2.1, a.2.2.2.1, ())))))
noncomputable def watershedref05_In_e1 : LE CT Try.prog := ⟨2, [2, 3, 4, 6], [.one (.ptr 0 0), .one (.ptr 1 0), .one (.ptr 2 0), .one (.int .i64)], [.cobj 26 8, .cobj 29 4, .cobj 41 5], [⟨.ret, [4, 5], [.one (.ptr 2 0), .one (.bool)], [.cobj 26 8, .cobj 29 4, .cobj 41 5]⟩, ⟨.exit 0, [4], [.one (.ptr 2 0)], [.cobj 26 8, .cobj 29 4, .cobj 41 5]⟩], watershedref05_In_l1⟩
noncomputable def watershedref05_In_lt : List (LE CT Try.prog) := [watershedref05_In_e1]
theorem watershedref05_In_e1_ok : LeOk watershedref05_In_e1 (nthL (bodyOf Try.f31) 0) := fun A env h k z hk => le_ok (E := watershedref05_In_e1) (orcOf_ok watershedref05_In_tb) (dr := watershedref05_In_dr) (lps := lpsOf watershedref05_In_lt) (no_loop (by kernel_rfl)) (fun a => by kernel_rfl) env h k z hk
noncomputable def watershedref05_In (x0 : DShares) (x1 : DSpan) : Option (((DShare) × (Bool) × Unit) × (Unit)) :=
  (loopM watershedref05_In_l1 (((), (), (), 0, ()), (x0, x1, (⟨(⟨([] : List UInt8), ([] : List UInt8)⟩ : DSpan), 0, 0⟩ : DShare), ()))).bind fun b1 =>
  (match b1 with
  | .inl b2 =>
  some ((b2.2.2.2.1, b2.1.2.1, ()), ())
  | .inr b3 =>
  some (((⟨(⟨([] : List UInt8), ([] : List UInt8)⟩ : DSpan), 0, 0⟩ : DShare), false, ()), ()))
noncomputable def watershedref05_In_ce : CE CT Try.prog where
  f := 31
  args := [.cod 8, .cod 4]
  hs := []
  res := .tup [.cod 5, .one (.bool)]
  outs := []
  m := fun d dh => watershedref05_In d.1 d.2.1
  ok := ce_ok mixedP Try.func31 (by kernel_rfl) (orcOf_ok watershedref05_In_tb) (dr := watershedref05_In_dr) (lps := lpsOf watershedref05_In_lt) (lps_fn (lps_of (n := 1) (by kernel_rfl) fun i hi => match i, hi with | 0, _ => lp_ok (E := watershedref05_In_e1) (by kernel_rfl) watershedref05_In_e1_ok)) (fun d dh => by kernel_rfl)

def watershedref04_Has_dr : Nat → DrA
  | _ => ⟨[], [], [], [], [], false⟩
noncomputable def watershedref04_Has_tb : List (CE CT Try.prog) := [watershedref04_Right_ce, watershedref04_Key_ce]
noncomputable def watershedref04_Has_lt : List (LE CT Try.prog) := []
noncomputable def watershedref04_Has (x0 : DSpan) (x1 : List UInt8) : Option ((Bool) × (Unit)) :=
  (watershedref04_Right x0).bind fun r1 =>
  (bif r1.1 then
  (watershedref04_Key x1).bind fun r2 =>
  (bif r2.1 then
  (bif (decide (x0.lo < x1) || decide (x0.lo = x1)) then
  (bif (decide (x0.hi = ([] : List UInt8))) then
  some (true, ())
  else
  some ((decide (x1 < x0.hi)), ()))
  else
  some (false, ()))
  else
  some (false, ()))
  else
  some (false, ()))
noncomputable def watershedref04_Has_ce : CE CT Try.prog where
  f := 58
  args := [.cod 4, .one (.str)]
  hs := []
  res := .val (.one (.bool))
  outs := []
  m := fun d dh => watershedref04_Has d.1 d.2.1
  ok := ce_ok mixedP Try.func58 (by kernel_rfl) (orcOf_ok watershedref04_Has_tb) (dr := watershedref04_Has_dr) (lps := lpsOf watershedref04_Has_lt) (lps_fn (no_loop (by kernel_rfl))) (fun d dh => by kernel_rfl)

def watershedref04_Cut_dr : Nat → DrA
  | 3 => ⟨[], [], [], [], [], true⟩
  | 11 => ⟨[1, 2, 3, 0, 4, 5, 6, 7, 8, 9, 10, 12, 11, 13, 14, 15], [[], [], [], [1, 2], [1, 2, 3], [0, 1, 2, 3, 4], [0, 1, 2, 3, 4, 5], [0, 1, 2, 3, 4, 5, 6], [0, 1, 2, 3, 4, 5, 6, 7], [0, 1, 2, 3, 4, 5, 6, 7], [0, 1, 2, 3, 4, 5, 6, 7, 8, 9], [0, 1, 2, 3, 4, 5, 6, 7, 8, 9, 10], [0, 1, 2, 3, 4, 5, 6, 7], [0, 1, 2, 3, 4, 5, 6, 7, 12], [0, 1, 2, 3, 4, 5, 6, 7, 8, 9, 10, 11, 12, 13], [0, 1, 2, 3, 4, 5, 6, 7, 8, 9, 10, 11, 12, 13, 14]], [], [], [], false⟩
  | 12 => ⟨[], [], [], [], [], true⟩
  | 13 => ⟨[0, 1, 2, 3, 5, 6, 7, 10, 11, 12, 14, 19, 4, 8, 9, 13, 15, 16, 17, 18, 20, 21], [[], [], [0, 1], [], [3], [], [], [5, 6], [5, 6, 7], [3, 4, 5, 6, 7, 8], [], [], [10, 11], [10, 11, 12], [], [14], [10, 11, 12, 13, 14, 15], [3, 4, 5, 6, 7, 8, 9, 10, 11, 12, 13, 14, 15, 16], [0, 1, 2, 3, 4, 5, 6, 7, 8, 9, 10, 11, 12, 13, 14, 15, 16, 17], [], [0, 1, 2, 3, 4, 5, 6, 7, 8, 9, 10, 11, 12, 13, 14, 15, 16, 17, 18, 19], [0, 1, 2, 3, 4, 5, 6, 7, 8, 9, 10, 11, 12, 13, 14, 15, 16, 17, 18, 19, 20]], [], [], [], false⟩
  | _ => ⟨[], [], [], [], [], false⟩
noncomputable def watershedref04_Cut_tb : List (CE CT Try.prog) := [watershedref04_Right_ce, watershedref04_Has_ce]
noncomputable def watershedref04_Cut_l2 (a : ((List (List UInt8)) × (Nat) × (Int) × (Int) × Unit) × ((List (DSpan)) × Unit)) : Option ((((List (List UInt8)) × (Nat) × (Int) × (Int) × Unit) × ((List (DSpan)) × Unit)) ⊕ ((((List (List UInt8)) × (Nat) × (Int) × Unit) × ((Unit) × (List (DSpan)) × Unit)))) :=
  (bif (decide ((a.1.2.2.2.1 : Int) < ((a.1.2.1 : Nat) : Int))) then
  (if 0 ≤ (a.1.2.2.2.1 : Int) ∧ (a.1.2.2.2.1 : Int) < ((a.1.2.1 : Nat) : Int) then
  (a.2.1[(0 + (a.1.2.2.2.1 : Int).toNat)]?).bind fun e1 =>
  (getI a.1.1 a.1.2.2.1).bind fun e2 =>
  (watershedref04_Has e1 e2).bind fun r3 =>
  (bif (!r3.1) then
  some (.inl ((a.1.1, a.1.2.1, a.1.2.2.1, (IntKind.i64.wrap (a.1.2.2.2.1 + 1)), ()), (a.2.1, ())))
  else
  (getI a.1.1 a.1.2.2.1).bind fun e4 =>
  (bif (decide (e4 = e1.lo)) then
  some (.inl ((a.1.1, a.1.2.1, a.1.2.2.1, (IntKind.i64.wrap (a.1.2.2.2.1 + 1)), ()), (a.2.1, ())))
  else
  (if 0 ≤ ((IntKind.i64.wrap (a.1.2.2.2.1 + 1)) : Int) ∧ ((IntKind.i64.wrap (a.1.2.2.2.1 + 1)) : Int) ≤ ((a.1.2.1 : Nat) : Int) ∧ ((a.1.2.1 : Nat) : Int) ≤ ((a.1.2.1 : Nat) : Int) ∧ ((a.1.2.1 : Nat) : Int) ≤ 140737488355328 then
  (if (0 + ((IntKind.i64.wrap (a.1.2.2.2.1 + 1)) : Int).toNat) + (((a.1.2.1 : Nat) : Int).toNat - ((IntKind.i64.wrap (a.1.2.2.2.1 + 1)) : Int).toNat) ≤ a.2.1.length then
  let y5 : List (DSpan) := ((a.2.1.drop (0 + ((IntKind.i64.wrap (a.1.2.2.2.1 + 1)) : Int).toNat)).take (((a.1.2.1 : Nat) : Int).toNat - ((IntKind.i64.wrap (a.1.2.2.2.1 + 1)) : Int).toNat))
  (if (0 + y5.length) ≤ 140737488355328 ∧ (0 + y5.length) * 32 ≤ 140737488355328 ∧ 0 + 0 ≤ ([] : List (DSpan)).length then
  (if (0 + y5.length) ≤ 0 then
  let y6 : List (DSpan) := (([] : List (DSpan)).take (0 + 0) ++ y5 ++ ([] : List (DSpan)).drop (0 + 0 + y5.length))
  (if 0 ≤ (0 : Int) ∧ (0 : Int) ≤ (a.1.2.2.2.1 : Int) ∧ (a.1.2.2.2.1 : Int) ≤ ((a.1.2.1 : Nat) : Int) ∧ (a.1.2.2.2.1 : Int) ≤ 140737488355328 then
  (getI a.1.1 a.1.2.2.1).bind fun e7 =>
  (getI a.1.1 a.1.2.2.1).bind fun e8 =>
  (if (((a.1.2.2.2.1 : Int).toNat - (0 : Int).toNat) + ([(⟨e1.lo, e7⟩ : DSpan), (⟨e8, e1.hi⟩ : DSpan)] : List (DSpan)).length) ≤ 140737488355328 ∧ (((a.1.2.2.2.1 : Int).toNat - (0 : Int).toNat) + ([(⟨e1.lo, e7⟩ : DSpan), (⟨e8, e1.hi⟩ : DSpan)] : List (DSpan)).length) * 32 ≤ 140737488355328 ∧ 0 + ((a.1.2.2.2.1 : Int).toNat - (0 : Int).toNat) ≤ a.2.1.length then
  let y9 : List (DSpan) := (a.2.1.take ((a.1.2.2.2.1 : Int).toNat - (0 : Int).toNat) ++ ([(⟨e1.lo, e7⟩ : DSpan), (⟨e8, e1.hi⟩ : DSpan)] : List (DSpan)))
  (if 0 + (0 + y5.length) ≤ y6.length then
  (if ((((a.1.2.2.2.1 : Int).toNat - (0 : Int).toNat) + ([(⟨e1.lo, e7⟩ : DSpan), (⟨e8, e1.hi⟩ : DSpan)] : List (DSpan)).length) + ((y6.drop 0).take (0 + y5.length)).length) ≤ 140737488355328 ∧ ((((a.1.2.2.2.1 : Int).toNat - (0 : Int).toNat) + ([(⟨e1.lo, e7⟩ : DSpan), (⟨e8, e1.hi⟩ : DSpan)] : List (DSpan)).length) + ((y6.drop 0).take (0 + y5.length)).length) * 32 ≤ 140737488355328 ∧ 0 + (((a.1.2.2.2.1 : Int).toNat - (0 : Int).toNat) + ([(⟨e1.lo, e7⟩ : DSpan), (⟨e8, e1.hi⟩ : DSpan)] : List (DSpan)).length) ≤ y9.length then
  let y10 : List (DSpan) := (y9.take (((a.1.2.2.2.1 : Int).toNat - (0 : Int).toNat) + ([(⟨e1.lo, e7⟩ : DSpan), (⟨e8, e1.hi⟩ : DSpan)] : List (DSpan)).length) ++ ((y6.drop 0).take (0 + y5.length)))
  some (.inr ((a.1.1, ((((a.1.2.2.2.1 : Int).toNat - (0 : Int).toNat) + ([(⟨e1.lo, e7⟩ : DSpan), (⟨e8, e1.hi⟩ : DSpan)] : List (DSpan)).length) + ((y6.drop 0).take (0 + y5.length)).length), a.1.2.2.1, ()), ((), y10, ())))
  else none)
  else none)
  else none)
  else none)
  else
  (if 0 ≤ (0 : Int) ∧ (0 : Int) ≤ (a.1.2.2.2.1 : Int) ∧ (a.1.2.2.2.1 : Int) ≤ ((a.1.2.1 : Nat) : Int) ∧ (a.1.2.2.2.1 : Int) ≤ 140737488355328 then
  (getI a.1.1 a.1.2.2.1).bind fun e11 =>
  (getI a.1.1 a.1.2.2.1).bind fun e12 =>
  (if (((a.1.2.2.2.1 : Int).toNat - (0 : Int).toNat) + ([(⟨e1.lo, e11⟩ : DSpan), (⟨e12, e1.hi⟩ : DSpan)] : List (DSpan)).length) ≤ 140737488355328 ∧ (((a.1.2.2.2.1 : Int).toNat - (0 : Int).toNat) + ([(⟨e1.lo, e11⟩ : DSpan), (⟨e12, e1.hi⟩ : DSpan)] : List (DSpan)).length) * 32 ≤ 140737488355328 ∧ 0 + ((a.1.2.2.2.1 : Int).toNat - (0 : Int).toNat) ≤ a.2.1.length then
  let y13 : List (DSpan) := (a.2.1.take ((a.1.2.2.2.1 : Int).toNat - (0 : Int).toNat) ++ ([(⟨e1.lo, e11⟩ : DSpan), (⟨e12, e1.hi⟩ : DSpan)] : List (DSpan)))
  (if 0 + (0 + y5.length) ≤ ((([] : List (DSpan)).drop 0).take 0 ++ y5).length then
  let y14 : List (DSpan) := ((((([] : List (DSpan)).drop 0).take 0 ++ y5).drop 0).take (0 + y5.length))
  (if ((((a.1.2.2.2.1 : Int).toNat - (0 : Int).toNat) + ([(⟨e1.lo, e11⟩ : DSpan), (⟨e12, e1.hi⟩ : DSpan)] : List (DSpan)).length) + y14.length) ≤ 140737488355328 ∧ ((((a.1.2.2.2.1 : Int).toNat - (0 : Int).toNat) + ([(⟨e1.lo, e11⟩ : DSpan), (⟨e12, e1.hi⟩ : DSpan)] : List (DSpan)).length) + y14.length) * 32 ≤ 140737488355328 ∧ 0 + (((a.1.2.2.2.1 : Int).toNat - (0 : Int).toNat) + ([(⟨e1.lo, e11⟩ : DSpan), (⟨e12, e1.hi⟩ : DSpan)] : List (DSpan)).length) ≤ y13.length then
  let y15 : List (DSpan) := (y13.take (((a.1.2.2.2.1 : Int).toNat - (0 : Int).toNat) + ([(⟨e1.lo, e11⟩ : DSpan), (⟨e12, e1.hi⟩ : DSpan)] : List (DSpan)).length) ++ y14)
  some (.inr ((a.1.1, ((((a.1.2.2.2.1 : Int).toNat - (0 : Int).toNat) + ([(⟨e1.lo, e11⟩ : DSpan), (⟨e12, e1.hi⟩ : DSpan)] : List (DSpan)).length) + y14.length), a.1.2.2.1, ()), ((), y15, ())))
  else none)
  else none)
  else none)
  else none))
  else none)
  else none)
  else none)))
  else none)
  else
  some (.inr ((a.1.1, a.1.2.1, a.1.2.2.1, ()), ((), a.2.1, ()))))
noncomputable def watershedref04_Cut_e2 : LE CT Try.prog := ⟨8, [1, 5, 6, 7], [.one (.sl 2), .one (.asz 4 0), .one (.int .i64), .one (.int .i64)], [.arr 29 4 false], [⟨.exit 2, [1, 5, 6], [.one (.sl 2), .one (.asz 4 1), .one (.int .i64)], [.dead, .arr 29 4 false]⟩], watershedref04_Cut_l2⟩
noncomputable def watershedref04_Cut_l1 (a : ((List (List UInt8)) × (Nat) × (Int) × Unit) × ((List (DSpan)) × Unit)) : Option ((((List (List UInt8)) × (Nat) × (Int) × Unit) × ((List (DSpan)) × Unit)) ⊕ ((((Nat) × Unit) × ((Unit) × (List (DSpan)) × Unit)))) :=
  (bif (decide ((a.1.2.2.1 : Int) < (a.1.1.length : Int))) then
  (loopM watershedref04_Cut_l2 ((a.1.1, a.1.2.1, a.1.2.2.1, 0, ()), (a.2.1, ()))).bind fun b1 =>
  some (.inl ((b1.1.1, b1.1.2.1, (IntKind.i64.wrap (b1.1.2.2.1 + 1)), ()), (b1.2.2.1, ())))
  else
  some (.inr ((a.1.2.1, ()), ((), a.2.1, ()))))
noncomputable def watershedref04_Cut_e1 : LE CT Try.prog := ⟨5, [1, 5, 6], [.one (.sl 2), .one (.asz 4 0), .one (.int .i64)], [.arr 29 4 false], [⟨.exit 0, [5], [.one (.asz 4 1)], [.dead, .arr 29 4 false]⟩], watershedref04_Cut_l1⟩
noncomputable def watershedref04_Cut_lt : List (LE CT Try.prog) := [watershedref04_Cut_e2, watershedref04_Cut_e1]
theorem watershedref04_Cut_e2_ok : LeOk watershedref04_Cut_e2 (nthL (nthL (bodyOf Try.f32) 0) 0) := fun A env h k z hk => le_ok (E := watershedref04_Cut_e2) (orcOf_ok watershedref04_Cut_tb) (dr := watershedref04_Cut_dr) (lps := lpsOf watershedref04_Cut_lt) (no_loop (by kernel_rfl)) (fun a => by kernel_rfl) env h k z hk
theorem watershedref04_Cut_e1_ok : LeOk watershedref04_Cut_e1 (nthL (bodyOf Try.f32) 0) := fun A env h k z hk => le_ok (E := watershedref04_Cut_e1) (orcOf_ok watershedref04_Cut_tb) (dr := watershedref04_Cut_dr) (lps := lpsOf watershedref04_Cut_lt) (lps_of (n := 1) (by kernel_rfl) fun i hi => match i, hi with | 0, _ => lp_ok (E := watershedref04_Cut_e2) (by kernel_rfl) watershedref04_Cut_e2_ok) (fun a => by kernel_rfl) env h k z hk
noncomputable def watershedref04_Cut (x0 : DSpan) (x1 : List (List UInt8)) : Option ((Nat) × ((List (DSpan)) × Unit)) :=
  (watershedref04_Right x0).bind fun r1 =>
  (bif (!r1.1) then
  some (0, ([], ()))
  else
  (loopM watershedref04_Cut_l1 ((x1, 1, 0, ()), (([x0] : List (DSpan)), ()))).bind fun b2 =>
  some (b2.1.1, (b2.2.2.1, ())))
noncomputable def watershedref04_Cut_ce : CE CT Try.prog where
  f := 32
  args := [.cod 4, .one (.sl 2)]
  hs := []
  res := .val (.one (.asz 4 0))
  outs := [.arr 29 4 false]
  m := fun d dh => watershedref04_Cut d.1 d.2.1
  ok := ce_ok mixedP Try.func32 (by kernel_rfl) (orcOf_ok watershedref04_Cut_tb) (dr := watershedref04_Cut_dr) (lps := lpsOf watershedref04_Cut_lt) (lps_fn (lps_of (n := 1) (by kernel_rfl) fun i hi => match i, hi with | 0, _ => lp_ok (E := watershedref04_Cut_e1) (by kernel_rfl) watershedref04_Cut_e1_ok)) (fun d dh => by kernel_rfl)

def watershedref05_Turn_dr : Nat → DrA
  | 24 => ⟨[0, 1, 2, 4, 6, 3, 5, 7, 8, 9, 10], [[], [], [0, 1], [0, 1, 2], [], [4], [], [6], [0, 1, 2, 3, 4, 5, 6, 7], [], [0, 1, 2, 3, 4, 5, 6, 7, 8, 9]], [], [], [], false⟩
  | 25 => ⟨[0, 1, 2, 3, 4, 5], [[], [], [0, 1], [0, 1, 2], [], [0, 1, 2, 3, 4]], [], [], [], false⟩
  | _ => ⟨[], [], [], [], [], false⟩
noncomputable def watershedref05_Turn_tb : List (CE CT Try.prog) := [watershedref05_Right_ce, watershedref04_Right_ce, watershedref05_In_ce, watershedref04_Cut_ce]
noncomputable def watershedref05_Turn_l2 (a : ((Int) × (Unit) × (Unit) × (Unit) × (Unit) × (Unit) × (Int) × (Unit) × (Nat) × (Int) × Unit) × ((DShares) × (DSpan) × ((Int) × (List (DShare)) × Unit) × (DShare) × ((Int) × (List (DShare)) × Unit) × (DShare) × (List (DSpan)) × (Unit) × (Unit) × Unit)) : Option ((((Int) × (Unit) × (Unit) × (Unit) × (Unit) × (Unit) × (Int) × (Unit) × (Nat) × (Int) × Unit) × ((DShares) × (DSpan) × ((Int) × (List (DShare)) × Unit) × (DShare) × ((Int) × (List (DShare)) × Unit) × (DShare) × (List (DSpan)) × (Unit) × (Unit) × Unit)) ⊕ ((((Int) × (Unit) × (Unit) × (Unit) × (Unit) × (Unit) × (Int) × Unit) × ((DShares) × (DSpan) × ((Int) × (List (DShare)) × Unit) × (DShare) × ((Int) × (List (DShare)) × Unit) × (DShare) × (Unit) × (Unit) × (Unit) × (Unit) × (Unit) × Unit)))) :=
  (bif (decide ((a.1.2.2.2.2.2.2.2.2.2.1 : Int) < ((a.1.2.2.2.2.2.2.2.2.1 : Nat) : Int))) then
  (if 0 ≤ (a.1.2.2.2.2.2.2.2.2.2.1 : Int) ∧ (a.1.2.2.2.2.2.2.2.2.2.1 : Int) < ((a.1.2.2.2.2.2.2.2.2.1 : Nat) : Int) then
  (a.2.2.2.2.2.2.2.1[(0 + (a.1.2.2.2.2.2.2.2.2.2.1 : Int).toNat)]?).bind fun e1 =>
  (if 0 ≤ (a.1.2.2.2.2.2.2.2.2.2.1 : Int) ∧ (a.1.2.2.2.2.2.2.2.2.2.1 : Int) < ((a.1.2.2.2.2.2.2.2.2.1 : Nat) : Int) then
  (a.2.2.2.2.2.2.2.1[(0 + (a.1.2.2.2.2.2.2.2.2.2.1 : Int).toNat)]?).bind fun e2 =>
  (bif (decide (e2.lo = a.2.2.1.lo) && (decide (e2.hi = a.2.2.1.hi) && true)) then
  (if a.2.2.2.2.2.1.2.1.length + ([(⟨e1, a.1.1, a.2.2.2.2.2.1.1⟩ : DShare)] : List (DShare)).length ≤ 140737488355328 ∧ (a.2.2.2.2.2.1.2.1.length + ([(⟨e1, a.1.1, a.2.2.2.2.2.1.1⟩ : DShare)] : List (DShare)).length) * 48 ≤ 140737488355328 then
  let y3 : List (DShare) := (a.2.2.2.2.2.1.2.1 ++ ([(⟨e1, a.1.1, a.2.2.2.2.2.1.1⟩ : DShare)] : List (DShare)))
  some (.inl ((a.1.1, (), (), (), (), (), a.1.2.2.2.2.2.2.1, (), a.1.2.2.2.2.2.2.2.2.1, (IntKind.i64.wrap (a.1.2.2.2.2.2.2.2.2.2.1 + 1)), ()), (a.2.1, a.2.2.1, (a.2.2.2.1.1, a.2.2.2.1.2.1, ()), a.2.2.2.2.1, (a.2.2.2.2.2.1.1, y3, ()), a.2.2.2.2.2.2.1, a.2.2.2.2.2.2.2.1, (), (), ())))
  else none)
  else
  (if a.2.2.2.2.2.1.2.1.length + ([(⟨e1, a.2.2.2.2.2.2.1.group, a.2.2.2.2.2.2.1.epoch⟩ : DShare)] : List (DShare)).length ≤ 140737488355328 ∧ (a.2.2.2.2.2.1.2.1.length + ([(⟨e1, a.2.2.2.2.2.2.1.group, a.2.2.2.2.2.2.1.epoch⟩ : DShare)] : List (DShare)).length) * 48 ≤ 140737488355328 then
  let y4 : List (DShare) := (a.2.2.2.2.2.1.2.1 ++ ([(⟨e1, a.2.2.2.2.2.2.1.group, a.2.2.2.2.2.2.1.epoch⟩ : DShare)] : List (DShare)))
  some (.inl ((a.1.1, (), (), (), (), (), a.1.2.2.2.2.2.2.1, (), a.1.2.2.2.2.2.2.2.2.1, (IntKind.i64.wrap (a.1.2.2.2.2.2.2.2.2.2.1 + 1)), ()), (a.2.1, a.2.2.1, (a.2.2.2.1.1, a.2.2.2.1.2.1, ()), a.2.2.2.2.1, (a.2.2.2.2.2.1.1, y4, ()), a.2.2.2.2.2.2.1, a.2.2.2.2.2.2.2.1, (), (), ())))
  else none))
  else none)
  else none)
  else
  some (.inr ((a.1.1, (), (), (), (), (), a.1.2.2.2.2.2.2.1, ()), (a.2.1, a.2.2.1, (a.2.2.2.1.1, a.2.2.2.1.2.1, ()), a.2.2.2.2.1, (a.2.2.2.2.2.1.1, a.2.2.2.2.2.1.2.1, ()), a.2.2.2.2.2.2.1, (), (), (), (), (), ()))))
noncomputable def watershedref05_Turn_e2 : LE CT Try.prog := ⟨22, [2, 3, 4, 6, 8, 10, 11, 12, 14, 15], [.one (.int .i64), .one (.ptr 0 0), .one (.ptr 1 0), .one (.ptr 2 0), .one (.ptr 3 0), .one (.ptr 4 0), .one (.int .i64), .one (.ptr 5 0), .one (.asz 4 6), .one (.int .i64)], [.cobj 26 8, .cobj 29 4, .obj 26 [.int .i64, .own 5 7], .cobj 41 5, .obj 26 [.int .i64, .own 5 8], .cobj 41 5, .arr 29 4 false, .row 41 4, .row 41 4], [⟨.exit 2, [2, 3, 4, 6, 8, 10, 11], [.one (.int .i64), .one (.ptr 0 0), .one (.ptr 1 0), .one (.ptr 2 0), .one (.ptr 3 0), .one (.ptr 4 0), .one (.int .i64)], [.cobj 26 8, .cobj 29 4, .obj 26 [.int .i64, .own 5 9], .cobj 41 5, .obj 26 [.int .i64, .own 5 10], .cobj 41 5, .dead, .dead, .dead, .row 41 4, .row 41 4]⟩], watershedref05_Turn_l2⟩
noncomputable def watershedref05_Turn_l1 (a : ((Int) × (Unit) × (Unit) × (Unit) × (Unit) × (Unit) × (Int) × Unit) × ((DShares) × (DSpan) × ((Int) × (List (DShare)) × Unit) × (DShare) × ((Int) × (List (DShare)) × Unit) × (Unit) × (Unit) × Unit)) : Option ((((Int) × (Unit) × (Unit) × (Unit) × (Unit) × (Unit) × (Int) × Unit) × ((DShares) × (DSpan) × ((Int) × (List (DShare)) × Unit) × (DShare) × ((Int) × (List (DShare)) × Unit) × (Unit) × (Unit) × Unit)) ⊕ ((((Unit) × (Unit) × (Unit) × Unit) × ((DShares) × (DSpan) × ((Int) × (List (DShare)) × Unit) × (DShare) × ((Int) × (List (DShare)) × Unit) × (Unit) × (Unit) × (Unit) × (Unit) × Unit)))) :=
  (bif (decide ((a.1.2.2.2.2.2.2.1 : Int) < (a.2.1.list.length : Int))) then
  (getI a.2.1.list a.1.2.2.2.2.2.2.1).bind fun e1 =>
  (bif (!(decide (e1.span.lo = a.2.2.2.2.1.span.lo) && (decide (e1.span.hi = a.2.2.2.2.1.span.hi) && (decide ((e1.group : Int) = a.2.2.2.2.1.group) && (decide ((e1.epoch : Int) = a.2.2.2.2.1.epoch) && true))))) then
  (if a.2.2.2.2.2.1.2.1.length + ([e1] : List (DShare)).length ≤ 140737488355328 ∧ (a.2.2.2.2.2.1.2.1.length + ([e1] : List (DShare)).length) * 48 ≤ 140737488355328 then
  some (.inl ((a.1.1, (), (), (), (), (), (IntKind.i64.wrap (a.1.2.2.2.2.2.2.1 + 1)), ()), (a.2.1, a.2.2.1, (a.2.2.2.1.1, a.2.2.2.1.2.1, ()), a.2.2.2.2.1, (a.2.2.2.2.2.1.1, (a.2.2.2.2.2.1.2.1 ++ ([e1] : List (DShare))), ()), (), (), ())))
  else none)
  else
  (bif (decide (a.2.2.1.lo ≠ ([] : List UInt8))) then
  (if ([a.2.2.1.lo] : List (List UInt8)).length ≤ 140737488355328 ∧ ([a.2.2.1.lo] : List (List UInt8)).length * 16 ≤ 140737488355328 then
  (bif (decide (a.2.2.1.hi ≠ ([] : List UInt8))) then
  (if ([a.2.2.1.lo] : List (List UInt8)).length + ([a.2.2.1.hi] : List (List UInt8)).length ≤ 140737488355328 ∧ (([a.2.2.1.lo] : List (List UInt8)).length + ([a.2.2.1.hi] : List (List UInt8)).length) * 16 ≤ 140737488355328 then
  let y2 : List (List UInt8) := (([a.2.2.1.lo] : List (List UInt8)) ++ ([a.2.2.1.hi] : List (List UInt8)))
  (watershedref04_Cut e1.span y2).bind fun r3 =>
  (loopM watershedref05_Turn_l2 ((a.1.1, (), (), (), (), (), a.1.2.2.2.2.2.2.1, (), r3.1, 0, ()), (a.2.1, a.2.2.1, (a.2.2.2.1.1, a.2.2.2.1.2.1, ()), a.2.2.2.2.1, (a.2.2.2.2.2.1.1, a.2.2.2.2.2.1.2.1, ()), (⟨e1.span, e1.group, e1.epoch⟩ : DShare), r3.2.1, (), (), ()))).bind fun b4 =>
  some (.inl ((b4.1.1, (), (), (), (), (), (IntKind.i64.wrap (b4.1.2.2.2.2.2.2.1 + 1)), ()), (b4.2.1, b4.2.2.1, (b4.2.2.2.1.1, b4.2.2.2.1.2.1, ()), b4.2.2.2.2.1, (b4.2.2.2.2.2.1.1, b4.2.2.2.2.2.1.2.1, ()), (), (), ())))
  else none)
  else
  (watershedref04_Cut e1.span ([a.2.2.1.lo] : List (List UInt8))).bind fun r5 =>
  (loopM watershedref05_Turn_l2 ((a.1.1, (), (), (), (), (), a.1.2.2.2.2.2.2.1, (), r5.1, 0, ()), (a.2.1, a.2.2.1, (a.2.2.2.1.1, a.2.2.2.1.2.1, ()), a.2.2.2.2.1, (a.2.2.2.2.2.1.1, a.2.2.2.2.2.1.2.1, ()), (⟨e1.span, e1.group, e1.epoch⟩ : DShare), r5.2.1, (), (), ()))).bind fun b6 =>
  some (.inl ((b6.1.1, (), (), (), (), (), (IntKind.i64.wrap (b6.1.2.2.2.2.2.2.1 + 1)), ()), (b6.2.1, b6.2.2.1, (b6.2.2.2.1.1, b6.2.2.2.1.2.1, ()), b6.2.2.2.2.1, (b6.2.2.2.2.2.1.1, b6.2.2.2.2.2.1.2.1, ()), (), (), ()))))
  else none)
  else
  (bif (decide (a.2.2.1.hi ≠ ([] : List UInt8))) then
  (if ([a.2.2.1.hi] : List (List UInt8)).length ≤ 140737488355328 ∧ ([a.2.2.1.hi] : List (List UInt8)).length * 16 ≤ 140737488355328 then
  (watershedref04_Cut e1.span ([a.2.2.1.hi] : List (List UInt8))).bind fun r7 =>
  (loopM watershedref05_Turn_l2 ((a.1.1, (), (), (), (), (), a.1.2.2.2.2.2.2.1, (), r7.1, 0, ()), (a.2.1, a.2.2.1, (a.2.2.2.1.1, a.2.2.2.1.2.1, ()), a.2.2.2.2.1, (a.2.2.2.2.2.1.1, a.2.2.2.2.2.1.2.1, ()), (⟨e1.span, e1.group, e1.epoch⟩ : DShare), r7.2.1, (), (), ()))).bind fun b8 =>
  some (.inl ((b8.1.1, (), (), (), (), (), (IntKind.i64.wrap (b8.1.2.2.2.2.2.2.1 + 1)), ()), (b8.2.1, b8.2.2.1, (b8.2.2.2.1.1, b8.2.2.2.1.2.1, ()), b8.2.2.2.2.1, (b8.2.2.2.2.2.1.1, b8.2.2.2.2.2.1.2.1, ()), (), (), ())))
  else none)
  else
  (watershedref04_Cut e1.span []).bind fun r9 =>
  (loopM watershedref05_Turn_l2 ((a.1.1, (), (), (), (), (), a.1.2.2.2.2.2.2.1, (), r9.1, 0, ()), (a.2.1, a.2.2.1, (a.2.2.2.1.1, a.2.2.2.1.2.1, ()), a.2.2.2.2.1, (a.2.2.2.2.2.1.1, a.2.2.2.2.2.1.2.1, ()), (⟨e1.span, e1.group, e1.epoch⟩ : DShare), r9.2.1, (), (), ()))).bind fun b10 =>
  some (.inl ((b10.1.1, (), (), (), (), (), (IntKind.i64.wrap (b10.1.2.2.2.2.2.2.1 + 1)), ()), (b10.2.1, b10.2.2.1, (b10.2.2.2.1.1, b10.2.2.2.1.2.1, ()), b10.2.2.2.2.1, (b10.2.2.2.2.2.1.1, b10.2.2.2.2.2.1.2.1, ()), (), (), ()))))))
  else
  some (.inr (((), (), (), ()), (a.2.1, a.2.2.1, (a.2.2.2.1.1, a.2.2.2.1.2.1, ()), a.2.2.2.2.1, (a.2.2.2.2.2.1.1, a.2.2.2.2.2.1.2.1, ()), (), (), (), (), ()))))
noncomputable def watershedref05_Turn_e1 : LE CT Try.prog := ⟨10, [2, 3, 4, 6, 8, 10, 11], [.one (.int .i64), .one (.ptr 0 0), .one (.ptr 1 0), .one (.ptr 2 0), .one (.ptr 3 0), .one (.ptr 4 0), .one (.int .i64)], [.cobj 26 8, .cobj 29 4, .obj 26 [.int .i64, .own 5 5], .cobj 41 5, .obj 26 [.int .i64, .own 5 6], .row 41 4, .row 41 4], [⟨.exit 0, [3, 6, 10], [.one (.ptr 0 0), .one (.ptr 2 0), .one (.ptr 4 0)], [.cobj 26 8, .cobj 29 4, .obj 26 [.int .i64, .own 5 7], .cobj 41 5, .obj 26 [.int .i64, .own 5 8], .dead, .dead, .row 41 4, .row 41 4]⟩], watershedref05_Turn_l1⟩
noncomputable def watershedref05_Turn_lt : List (LE CT Try.prog) := [watershedref05_Turn_e2, watershedref05_Turn_e1]
theorem watershedref05_Turn_e2_ok : LeOk watershedref05_Turn_e2 (nthL (nthL (bodyOf Try.f10) 0) 0) := fun A env h k z hk => le_ok (E := watershedref05_Turn_e2) (orcOf_ok watershedref05_Turn_tb) (dr := watershedref05_Turn_dr) (lps := lpsOf watershedref05_Turn_lt) (no_loop (by kernel_rfl)) (fun a => by kernel_rfl) env h k z hk
theorem watershedref05_Turn_e1_ok : LeOk watershedref05_Turn_e1 (nthL (bodyOf Try.f10) 0) := fun A env h k z hk => le_ok (E := watershedref05_Turn_e1) (orcOf_ok watershedref05_Turn_tb) (dr := watershedref05_Turn_dr) (lps := lpsOf watershedref05_Turn_lt) (lps_of (n := 1) (by kernel_rfl) fun i hi => match i, hi with | 0, _ => lp_ok (E := watershedref05_Turn_e2) (by kernel_rfl) watershedref05_Turn_e2_ok) (fun a => by kernel_rfl) env h k z hk
noncomputable def watershedref05_Turn (x0 : DShares) (x1 : DSpan) (x2 : Int) : Option (((DShares) × (Int) × Unit) × (Unit)) :=
  (watershedref05_Right x0).bind fun r1 =>
  (bif (!r1.1) then
  some (((⟨0, []⟩ : DShares), 2, ()), ())
  else
  (watershedref04_Right x1).bind fun r2 =>
  (bif (!r2.1) then
  some (((⟨0, []⟩ : DShares), 2, ()), ())
  else
  (bif (decide ((x2 : Int) < 1)) then
  some (((⟨0, []⟩ : DShares), 2, ()), ())
  else
  (bif (decide ((4 : Int) < x2)) then
  some (((⟨0, []⟩ : DShares), 2, ()), ())
  else
  (watershedref05_In x0 x1).bind fun r3 =>
  (bif (!r3.1.2.1) then
  some (((⟨0, []⟩ : DShares), 6, ()), ())
  else
  (bif (decide ((r3.1.1.group : Int) = x2)) then
  some (((⟨0, []⟩ : DShares), 7, ()), ())
  else
  (loopM watershedref05_Turn_l1 ((x2, (), (), (), (), (), 0, ()), (x0, x1, (0, [], ()), r3.1.1, ((IntKind.i64.wrap (x0.epoch + 1)), [], ()), (), (), ()))).bind fun b4 =>
  (bif (decide ((b4.2.1.epoch : Int) = 1073741824)) then
  some (((⟨0, []⟩ : DShares), 8, ()), ())
  else
  (bif (decide ((40 : Int) < (b4.2.2.2.2.2.1.2.1.length : Int))) then
  some (((⟨0, []⟩ : DShares), 8, ()), ())
  else
  some (((⟨b4.2.2.2.2.2.1.1, b4.2.2.2.2.2.1.2.1⟩ : DShares), 0, ()), ())))))))))
noncomputable def watershedref05_Turn_ce : CE CT Try.prog where
  f := 10
  args := [.cod 8, .cod 4, .one (.int .i64)]
  hs := []
  res := .tup [.cod 8, .one (.int .i64)]
  outs := []
  m := fun d dh => watershedref05_Turn d.1 d.2.1 d.2.2.1
  ok := ce_ok mixedP Try.func10 (by kernel_rfl) (orcOf_ok watershedref05_Turn_tb) (dr := watershedref05_Turn_dr) (lps := lpsOf watershedref05_Turn_lt) (lps_fn (lps_of (n := 1) (by kernel_rfl) fun i hi => match i, hi with | 0, _ => lp_ok (E := watershedref05_Turn_e1) (by kernel_rfl) watershedref05_Turn_e1_ok)) (fun d dh => by kernel_rfl)

def watershedkit_SameShareRows_dr : Nat → DrA
  | 6 => ⟨[0, 1, 2, 4, 5, 6, 3, 7, 8], [[], [], [0, 1], [0, 1, 2], [], [], [4, 5], [4, 5, 6], [0, 1, 2, 3, 4, 5, 6, 7]], [], [], [], false⟩
  | _ => ⟨[], [], [], [], [], false⟩
noncomputable def watershedkit_SameShareRows_tb : List (CE CT Try.prog) := []
noncomputable def watershedkit_SameShareRows_l1 (a : ((List (DShare)) × (List (DShare)) × (Int) × Unit) × (Unit)) : Option ((((List (DShare)) × (List (DShare)) × (Int) × Unit) × (Unit)) ⊕ ((((Bool) × Unit) × (Unit)) ⊕ ((Unit) × (Unit)))) :=
  (bif (decide ((a.1.2.2.1 : Int) < (a.1.1.length : Int))) then
  (getI a.1.1 a.1.2.2.1).bind fun e1 =>
  (getI a.1.2.1 a.1.2.2.1).bind fun e2 =>
  (bif (!(decide (e1.span.lo = e2.span.lo) && (decide (e1.span.hi = e2.span.hi) && (decide ((e1.group : Int) = e2.group) && (decide ((e1.epoch : Int) = e2.epoch) && true))))) then
  some (.inr (.inl ((false, ()), ())))
  else
  some (.inl ((a.1.1, a.1.2.1, (IntKind.i64.wrap (a.1.2.2.1 + 1)), ()), ())))
  else
  some (.inr (.inr ((), ()))))
noncomputable def watershedkit_SameShareRows_e1 : LE CT Try.prog := ⟨4, [0, 1, 5], [.one (.sl 5), .one (.sl 5), .one (.int .i64)], [], [⟨.ret, [4], [.one (.bool)], []⟩, ⟨.exit 0, [], [], []⟩], watershedkit_SameShareRows_l1⟩
noncomputable def watershedkit_SameShareRows_lt : List (LE CT Try.prog) := [watershedkit_SameShareRows_e1]
theorem watershedkit_SameShareRows_e1_ok : LeOk watershedkit_SameShareRows_e1 (nthL (bodyOf Try.f33) 0) := fun A env h k z hk => le_ok (E := watershedkit_SameShareRows_e1) (orcOf_ok watershedkit_SameShareRows_tb) (dr := watershedkit_SameShareRows_dr) (lps := lpsOf watershedkit_SameShareRows_lt) (no_loop (by kernel_rfl)) (fun a => by kernel_rfl) env h k z hk
noncomputable def watershedkit_SameShareRows (x0 : List (DShare)) (x1 : List (DShare)) : Option ((Bool) × (Unit)) :=
  (bif (decide (((x0.length : Int) : Int) ≠ (x1.length : Int))) then
  some (false, ())
  else
  (loopM watershedkit_SameShareRows_l1 ((x0, x1, 0, ()), ())).bind fun b1 =>
  (match b1 with
  | .inl b2 =>
  some (b2.1.1, ())
  | .inr b3 =>
  some (true, ())))
noncomputable def watershedkit_SameShareRows_ce : CE CT Try.prog where
  f := 33
  args := [.one (.sl 5), .one (.sl 5)]
  hs := []
  res := .val (.one (.bool))
  outs := []
  m := fun d dh => watershedkit_SameShareRows d.1 d.2.1
  ok := ce_ok mixedP Try.func33 (by kernel_rfl) (orcOf_ok watershedkit_SameShareRows_tb) (dr := watershedkit_SameShareRows_dr) (lps := lpsOf watershedkit_SameShareRows_lt) (lps_fn (lps_of (n := 1) (by kernel_rfl) fun i hi => match i, hi with | 0, _ => lp_ok (E := watershedkit_SameShareRows_e1) (by kernel_rfl) watershedkit_SameShareRows_e1_ok)) (fun d dh => by kernel_rfl)

def watershedkit_SameShares_dr : Nat → DrA
  | _ => ⟨[], [], [], [], [], false⟩
noncomputable def watershedkit_SameShares_tb : List (CE CT Try.prog) := [watershedkit_SameShareRows_ce]
noncomputable def watershedkit_SameShares_lt : List (LE CT Try.prog) := []
noncomputable def watershedkit_SameShares (x0 : DShares) (x1 : DShares) : Option ((Bool) × (Unit)) :=
  (bif (decide ((x0.epoch : Int) = x1.epoch)) then
  (watershedkit_SameShareRows x0.list x1.list).bind fun r1 =>
  some (r1.1, ())
  else
  some (false, ()))
noncomputable def watershedkit_SameShares_ce : CE CT Try.prog where
  f := 11
  args := [.cod 8, .cod 8]
  hs := []
  res := .val (.one (.bool))
  outs := []
  m := fun d dh => watershedkit_SameShares d.1 d.2.1
  ok := ce_ok mixedP Try.func11 (by kernel_rfl) (orcOf_ok watershedkit_SameShares_tb) (dr := watershedkit_SameShares_dr) (lps := lpsOf watershedkit_SameShares_lt) (lps_fn (no_loop (by kernel_rfl))) (fun d dh => by kernel_rfl)

def watershedlaw05_SharesRuns_dr : Nat → DrA
  | 9 => ⟨[0, 1, 2, 3, 4, 7, 8, 9, 10, 11, 5, 6, 12, 13, 14, 15], [[], [], [0, 1], [0, 1, 2], [0, 1, 2, 3], [0, 1, 2, 3, 4], [0, 1, 2, 3, 4, 5], [], [], [7, 8], [7, 8, 9], [7, 8, 9, 10], [7, 8, 9, 10, 11], [7, 8, 9, 10, 11, 12], [0, 1, 2, 3, 4, 5, 6, 7, 8, 9, 10, 11, 12, 13], [0, 1, 2, 3, 4, 5, 6, 7, 8, 9, 10, 11, 12, 13, 14]], [], [], [], false⟩
  | 11 => ⟨[1, 2, 3, 4, 6, 7, 8, 9, 0, 5, 10, 11, 12, 13, 14, 15, 16, 17], [[], [], [], [1, 2], [1, 2, 3], [1, 2, 3, 4], [], [], [6, 7], [6, 7, 8], [6, 7, 8, 9], [0, 1, 2, 3, 4, 5, 6, 7, 8, 9, 10], [0, 1, 2, 3, 4, 5, 6, 7, 8, 9, 10, 11], [0, 1, 2, 3, 4, 5, 6, 7, 8, 9, 10, 11, 12], [0, 1, 2, 3, 4, 5, 6, 7, 8, 9, 10, 11, 12], [], [0, 1, 2, 3, 4, 5, 6, 7, 8, 9, 10, 11, 12, 13, 15], [0, 1, 2, 3, 4, 5, 6, 7, 8, 9, 10, 11, 12, 13, 14, 15, 16]], [], [], [], false⟩
  | 12 => ⟨[1, 2, 3, 4, 6, 7, 8, 9, 0, 5, 10, 11, 12, 13, 14, 15, 16, 17], [[], [], [], [1, 2], [1, 2, 3], [1, 2, 3, 4], [], [], [6, 7], [6, 7, 8], [6, 7, 8, 9], [0, 1, 2, 3, 4, 5, 6, 7, 8, 9, 10], [0, 1, 2, 3, 4, 5, 6, 7, 8, 9, 10, 11], [0, 1, 2, 3, 4, 5, 6, 7, 8, 9, 10, 11, 12], [0, 1, 2, 3, 4, 5, 6, 7, 8, 9, 10, 11, 12], [], [0, 1, 2, 3, 4, 5, 6, 7, 8, 9, 10, 11, 12, 13, 15], [0, 1, 2, 3, 4, 5, 6, 7, 8, 9, 10, 11, 12, 13, 14, 15, 16]], [], [], [], false⟩
  | _ => ⟨[], [], [], [], [], false⟩
noncomputable def watershedlaw05_SharesRuns_tb : List (CE CT Try.prog) := [watershedlaw05_awake_ce, shares_First_ce, watershedref05_First_ce, shares_Turn_ce, watershedref05_Turn_ce, watershedkit_SameShares_ce]
noncomputable def watershedlaw05_SharesRuns_l1 (a : ((List (DStep)) × (Unit) × (Unit) × (Int) × Unit) × ((DShares) × (DShares) × Unit)) : Option ((((List (DStep)) × (Unit) × (Unit) × (Int) × Unit) × ((DShares) × (DShares) × Unit)) ⊕ ((((Bool) × Unit) × ((DShares) × (DShares) × Unit)) ⊕ ((Unit) × ((DShares) × (DShares) × Unit)))) :=
  (bif (decide ((a.1.2.2.2.1 : Int) < (a.1.1.length : Int))) then
  (getI a.1.1 a.1.2.2.2.1).bind fun e1 =>
  (getI a.1.1 a.1.2.2.2.1).bind fun e2 =>
  (bif (decide ((100 : Int) < (IntKind.i64.wrap ((e1.in_.lo.length : Int) + (e2.in_.hi.length : Int))))) then
  some (.inr (.inl ((true, ()), (a.2.1, a.2.2.1, ()))))
  else
  (getI a.1.1 a.1.2.2.2.1).bind fun e3 =>
  (getI a.1.1 a.1.2.2.2.1).bind fun e4 =>
  (shares_Turn a.2.1 e3.in_ e4.group).bind fun r5 =>
  (getI a.1.1 a.1.2.2.2.1).bind fun e6 =>
  (getI a.1.1 a.1.2.2.2.1).bind fun e7 =>
  (watershedref05_Turn a.2.2.1 e6.in_ e7.group).bind fun r8 =>
  (bif (decide ((r5.1.2.1 : Int) ≠ r8.1.2.1)) then
  some (.inr (.inl ((false, ()), (a.2.1, a.2.2.1, ()))))
  else
  (bif (decide ((r5.1.2.1 : Int) = 0)) then
  (watershedkit_SameShares r5.1.1 r8.1.1).bind fun r9 =>
  (bif (!r9.1) then
  some (.inr (.inl ((false, ()), (r5.1.1, r8.1.1, ()))))
  else
  some (.inl ((a.1.1, (), (), (IntKind.i64.wrap (a.1.2.2.2.1 + 1)), ()), (r5.1.1, r8.1.1, ()))))
  else
  (watershedkit_SameShares a.2.1 a.2.2.1).bind fun r10 =>
  (bif (!r10.1) then
  some (.inr (.inl ((false, ()), (a.2.1, a.2.2.1, ()))))
  else
  some (.inl ((a.1.1, (), (), (IntKind.i64.wrap (a.1.2.2.2.1 + 1)), ()), (a.2.1, a.2.2.1, ())))))))
  else
  some (.inr (.inr ((), (a.2.1, a.2.2.1, ())))))
noncomputable def watershedlaw05_SharesRuns_e1 : LE CT Try.prog := ⟨7, [1, 5, 6, 7], [.one (.sl 13), .one (.ptr 0 0), .one (.ptr 1 0), .one (.int .i64)], [.cobj 26 8, .cobj 26 8], [⟨.ret, [4], [.one (.bool)], [.cobj 26 8, .cobj 26 8]⟩, ⟨.exit 0, [], [], [.cobj 26 8, .cobj 26 8]⟩], watershedlaw05_SharesRuns_l1⟩
noncomputable def watershedlaw05_SharesRuns_lt : List (LE CT Try.prog) := [watershedlaw05_SharesRuns_e1]
theorem watershedlaw05_SharesRuns_e1_ok : LeOk watershedlaw05_SharesRuns_e1 (nthL (bodyOf Try.f3) 0) := fun A env h k z hk => le_ok (E := watershedlaw05_SharesRuns_e1) (orcOf_ok watershedlaw05_SharesRuns_tb) (dr := watershedlaw05_SharesRuns_dr) (lps := lpsOf watershedlaw05_SharesRuns_lt) (no_loop (by kernel_rfl)) (fun a => by kernel_rfl) env h k z hk
noncomputable def watershedlaw05_SharesRuns (x0 : Int) (x1 : List (DStep)) : Option ((Bool) × (Unit)) :=
  (watershedlaw05_awake).bind fun r1 =>
  (bif (!r1.1) then
  some (false, ())
  else
  (bif (decide ((60 : Int) < (x1.length : Int))) then
  some (true, ())
  else
  (shares_First x0).bind fun r2 =>
  (watershedref05_First x0).bind fun r3 =>
  (loopM watershedlaw05_SharesRuns_l1 ((x1, (), (), 0, ()), (r2.1, r3.1, ()))).bind fun b4 =>
  (match b4 with
  | .inl b5 =>
  some (b5.1.1, ())
  | .inr b6 =>
  some (true, ()))))
noncomputable def watershedlaw05_SharesRuns_ce : CE CT Try.prog where
  f := 3
  args := [.one (.int .i64), .one (.sl 13)]
  hs := []
  res := .val (.one (.bool))
  outs := []
  m := fun d dh => watershedlaw05_SharesRuns d.1 d.2.1
  ok := ce_ok mixedP Try.func3 (by kernel_rfl) (orcOf_ok watershedlaw05_SharesRuns_tb) (dr := watershedlaw05_SharesRuns_dr) (lps := lpsOf watershedlaw05_SharesRuns_lt) (lps_fn (lps_of (n := 1) (by kernel_rfl) fun i hi => match i, hi with | 0, _ => lp_ok (E := watershedlaw05_SharesRuns_e1) (by kernel_rfl) watershedlaw05_SharesRuns_e1_ok)) (fun d dh => by kernel_rfl)
end Go.Proofs.Ytnmimignbgdfgaa
