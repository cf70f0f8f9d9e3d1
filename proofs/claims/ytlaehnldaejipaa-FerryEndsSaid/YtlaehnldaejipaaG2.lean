/- The laws. -/
import Derived.Test.YtlaehnldaejipaaG1
namespace Go.Proofs.Ytlaehnldaejipaa
noncomputable section
open Go.RowKit
set_option maxRecDepth 100000
set_option linter.unusedVariables false
def wl_FerryEnds_dr : Nat → Nat → DrA
  | 13, _ => ⟨[1, 2, 3, 0, 4, 5, 6, 7], [[], [], [], [1, 2], [1, 2, 3], (List.range 5), [], (List.range 7)], [], [], [], false, []⟩
  | 24, _ => ⟨[0, 1, 2, 3, 5, 6, 8, 9, 4, 7, 10, 11, 12, 13], [[], [0], [0, 1], [0, 1, 2], [0, 1, 2, 3], [0, 1, 2, 3], [0, 1, 2, 3, 5], (List.range 7), [0, 1, 2, 3], [0, 1, 2, 3, 8], (List.range 10), (List.range 11), (List.range 12), (List.range 13)], [], [], [], false, []⟩
  | _, _ => ⟨[], [], [], [], [], false, []⟩
def wl_FerryEnds_tb : List (CEp) := [wl_awake_ce, wl_plain_ce, wl_asks_ce, wl_FerryTells_ce, ferry_Fill_3_ce, wl_FerryTakes_ce]
def wl_FerryEnds_l2 (a : (LI × Int × Unit × (List (DLetter)) × LI × Int × Unit) × ((DImage) × Unit × Unit × Unit × Unit)) : Option (((LI × Int × Unit × (List (DLetter)) × LI × Int × Unit) × ((DImage) × Unit × Unit × Unit × Unit)) ⊕ (((Bool × Unit) × ((DImage) × Unit × Unit × Unit × Unit)) ⊕ ((LI × Int × (List (DLetter)) × Unit) × ((DImage) × Unit × Unit × Unit × Unit × Unit × Unit)))) :=
  (bif (decide ((a.1.2.2.2.2.2.1 : Int) < (a.1.2.2.2.2.1.length : Int))) then
  (getI a.1.2.2.2.2.1 a.1.2.2.2.2.2.1).bind fun e1 =>
  (wl_asks a.2.1 e1).bind fun r2 =>
  (wl_FerryTells r2.1 a.2.1).bind fun r3 =>
  (bif (!r3.1) then
  some (.inr (.inl ((false, ()), (a.2.1, (), (), (), ()))))
  else
  (ferry_Fill_3 r2.1 a.2.1).bind fun r4 =>
  (bif (!r4.1.2.1) then
  (if a.1.2.2.2.1.length + ([r2.1, (⟨r2.1.kind, r2.1.group, r2.1.from_, r2.1.to_, 5, r2.1.index, r2.1.logTerm, r2.1.commit, r2.1.ok, r2.1.entries, r2.1.base, r2.1.size, r2.1.at_, r2.1.tag, r2.1.bytes⟩ : DLetter), (⟨r2.1.kind, r2.1.group, r2.1.from_, r2.1.to_, r2.1.term_, r2.1.index, r2.1.logTerm, r2.1.commit, r2.1.ok, r2.1.entries, r2.1.base, (IntKind.i64.wrap (r2.1.size + 1)), r2.1.at_, r2.1.tag, r2.1.bytes⟩ : DLetter), r2.1] : List (DLetter)).length ≤ 140737488355328 ∧ (a.1.2.2.2.1.length + ([r2.1, (⟨r2.1.kind, r2.1.group, r2.1.from_, r2.1.to_, 5, r2.1.index, r2.1.logTerm, r2.1.commit, r2.1.ok, r2.1.entries, r2.1.base, r2.1.size, r2.1.at_, r2.1.tag, r2.1.bytes⟩ : DLetter), (⟨r2.1.kind, r2.1.group, r2.1.from_, r2.1.to_, r2.1.term_, r2.1.index, r2.1.logTerm, r2.1.commit, r2.1.ok, r2.1.entries, r2.1.base, (IntKind.i64.wrap (r2.1.size + 1)), r2.1.at_, r2.1.tag, r2.1.bytes⟩ : DLetter), r2.1] : List (DLetter)).length) * 256 ≤ 140737488355328 then
  let y5 : List (DLetter) := (a.1.2.2.2.1 ++ ([r2.1, (⟨r2.1.kind, r2.1.group, r2.1.from_, r2.1.to_, 5, r2.1.index, r2.1.logTerm, r2.1.commit, r2.1.ok, r2.1.entries, r2.1.base, r2.1.size, r2.1.at_, r2.1.tag, r2.1.bytes⟩ : DLetter), (⟨r2.1.kind, r2.1.group, r2.1.from_, r2.1.to_, r2.1.term_, r2.1.index, r2.1.logTerm, r2.1.commit, r2.1.ok, r2.1.entries, r2.1.base, (IntKind.i64.wrap (r2.1.size + 1)), r2.1.at_, r2.1.tag, r2.1.bytes⟩ : DLetter), r2.1] : List (DLetter)))
  some (.inl ((a.1.1, a.1.2.1, (), y5, a.1.2.2.2.2.1, (IntKind.i64.wrap (a.1.2.2.2.2.2.1 + 1)), ()), (a.2.1, (), (), (), ())))
  else none)
  else
  (if a.1.2.2.2.1.length + ([r4.1.1, (⟨r4.1.1.kind, r4.1.1.group, r4.1.1.from_, r4.1.1.to_, 5, r4.1.1.index, r4.1.1.logTerm, r4.1.1.commit, r4.1.1.ok, r4.1.1.entries, r4.1.1.base, r4.1.1.size, r4.1.1.at_, r4.1.1.tag, r4.1.1.bytes⟩ : DLetter), (⟨r4.1.1.kind, r4.1.1.group, r4.1.1.from_, r4.1.1.to_, r4.1.1.term_, r4.1.1.index, r4.1.1.logTerm, r4.1.1.commit, r4.1.1.ok, r4.1.1.entries, r4.1.1.base, (IntKind.i64.wrap (r4.1.1.size + 1)), r4.1.1.at_, r4.1.1.tag, r4.1.1.bytes⟩ : DLetter), r4.1.1] : List (DLetter)).length ≤ 140737488355328 ∧ (a.1.2.2.2.1.length + ([r4.1.1, (⟨r4.1.1.kind, r4.1.1.group, r4.1.1.from_, r4.1.1.to_, 5, r4.1.1.index, r4.1.1.logTerm, r4.1.1.commit, r4.1.1.ok, r4.1.1.entries, r4.1.1.base, r4.1.1.size, r4.1.1.at_, r4.1.1.tag, r4.1.1.bytes⟩ : DLetter), (⟨r4.1.1.kind, r4.1.1.group, r4.1.1.from_, r4.1.1.to_, r4.1.1.term_, r4.1.1.index, r4.1.1.logTerm, r4.1.1.commit, r4.1.1.ok, r4.1.1.entries, r4.1.1.base, (IntKind.i64.wrap (r4.1.1.size + 1)), r4.1.1.at_, r4.1.1.tag, r4.1.1.bytes⟩ : DLetter), r4.1.1] : List (DLetter)).length) * 256 ≤ 140737488355328 then
  let y6 : List (DLetter) := (a.1.2.2.2.1 ++ ([r4.1.1, (⟨r4.1.1.kind, r4.1.1.group, r4.1.1.from_, r4.1.1.to_, 5, r4.1.1.index, r4.1.1.logTerm, r4.1.1.commit, r4.1.1.ok, r4.1.1.entries, r4.1.1.base, r4.1.1.size, r4.1.1.at_, r4.1.1.tag, r4.1.1.bytes⟩ : DLetter), (⟨r4.1.1.kind, r4.1.1.group, r4.1.1.from_, r4.1.1.to_, r4.1.1.term_, r4.1.1.index, r4.1.1.logTerm, r4.1.1.commit, r4.1.1.ok, r4.1.1.entries, r4.1.1.base, (IntKind.i64.wrap (r4.1.1.size + 1)), r4.1.1.at_, r4.1.1.tag, r4.1.1.bytes⟩ : DLetter), r4.1.1] : List (DLetter)))
  some (.inl ((a.1.1, a.1.2.1, (), y6, a.1.2.2.2.2.1, (IntKind.i64.wrap (a.1.2.2.2.2.2.1 + 1)), ()), (a.2.1, (), (), (), ())))
  else none)))
  else
  some (.inr (.inr ((a.1.1, a.1.2.1, a.1.2.2.2.1, ()), (a.2.1, (), (), (), (), (), ())))))
def wl_FerryEnds_e2 : LEp := ⟨11, [1, 2, 3, 4, 5, 6], [.one (.own 0 1), .one (.int .i64), .one (.ptr 0 0), .one (.own 20 2), .one (.own 0 3), .one (.int .i64)], [.cobj 33 16, .row 3 1, .row 31 20, .row 3 1], [⟨.ret, [0], [.one (.bool)], [.cobj 33 16, .dead, .dead, .dead]⟩, ⟨.exit 2, [1, 2, 4], [.one (.own 0 4), .one (.int .i64), .one (.own 20 5)], [.cobj 33 16, .dead, .dead, .dead, .row 3 1, .row 31 20]⟩], wl_FerryEnds_l2⟩
def wl_FerryEnds_l1 (a : (LI × Int × Unit) × (Unit × Unit)) : Option (((LI × Int × Unit) × (Unit × Unit)) ⊕ (((Bool × Unit) × (Unit × Unit)) ⊕ (Unit × (Unit × Unit)))) :=
  (bif (decide ((a.1.2.1 : Int) < (a.1.1.length : Int))) then
  (getI a.1.1 a.1.2.1).bind fun e1 =>
  (wl_plain e1).bind fun r2 =>
  (loopM wl_FerryEnds_l2 ((a.1.1, a.1.2.1, (), [], ([(-1), 0, 0, 1, 599, 600, 601, 1200, 1201, 1202] : LI), 0, ()), ((⟨r2.1.base, r2.1.bytes⟩ : DImage), (), (), (), ()))).bind fun b3 =>
  (match b3 with
  | .inl b4 =>
  some (.inr (.inl ((b4.1.1, ()), ((), ()))))
  | .inr b5 =>
  (wl_FerryTakes b5.1.2.2.1 7).bind fun r6 =>
  (bif (!r6.1) then
  some (.inr (.inl ((false, ()), ((), ()))))
  else
  (if 0 ≤ (4 : Int) ∧ (4 : Int) ≤ (b5.1.2.2.1.length : Int) ∧ (b5.1.2.2.1.length : Int) ≤ (b5.1.2.2.1.length : Int) then
  let y7 : List (DLetter) := ((b5.1.2.2.1.drop (4 : Int).toNat).take (((b5.1.2.2.1.length : Int) : Int).toNat - (4 : Int).toNat))
  (if 0 ≤ ((0 : Int) : Int) ∧ ((0 : Int) : Int) ≤ 4 ∧ 4 ≤ (b5.1.2.2.1.length : Int) then
  let y8 : List (DLetter) := ((b5.1.2.2.1.drop ((0 : Int) : Int).toNat).take ((4 : Int).toNat - ((0 : Int) : Int).toNat))
  (if ([] : List (DLetter)).length + y7.length ≤ 140737488355328 ∧ (([] : List (DLetter)).length + y7.length) * 256 ≤ 140737488355328 then
  (if (([] : List (DLetter)) ++ y7).length + y8.length ≤ 140737488355328 ∧ ((([] : List (DLetter)) ++ y7).length + y8.length) * 256 ≤ 140737488355328 then
  (wl_FerryTakes ((([] : List (DLetter)) ++ y7) ++ y8) (-1)).bind fun r9 =>
  (bif (!r9.1) then
  some (.inr (.inl ((false, ()), ((), ()))))
  else
  some (.inl ((b5.1.1, (IntKind.i64.wrap (b5.1.2.1 + 1)), ()), ((), ()))))
  else none)
  else none)
  else none)
  else none)))
  else
  some (.inr (.inr ((), ((), ())))))
def wl_FerryEnds_e1 : LEp := ⟨5, [1, 2], [.one (.own 0 0), .one (.int .i64)], [.row 3 1], [⟨.ret, [0], [.one (.bool)], [.dead]⟩, ⟨.exit 0, [], [], [.dead]⟩], wl_FerryEnds_l1⟩
def wl_FerryEnds_lt : List (LEp) := [wl_FerryEnds_e2, wl_FerryEnds_e1]
theorem wl_FerryEnds_e2_ok : LeOk wl_FerryEnds_e2 (nthL (nthL (bodyOf Try.f5) 0) 0) := fun A env h k z hk => le_ok (E := wl_FerryEnds_e2) (orcOf_ok wl_FerryEnds_tb) (dr := wl_FerryEnds_dr) (lps := lpsOf wl_FerryEnds_lt) (no_loop (by kernel_rfl)) (fun a => by kernel_rfl) env h k z hk
theorem wl_FerryEnds_e1_ok : LeOk wl_FerryEnds_e1 (nthL (bodyOf Try.f5) 0) := fun A env h k z hk => le_ok (E := wl_FerryEnds_e1) (orcOf_ok wl_FerryEnds_tb) (dr := wl_FerryEnds_dr) (lps := lpsOf wl_FerryEnds_lt) (lps_of (n := 1) (by kernel_rfl) fun i hi => match i, hi with | 0, _ => lp_ok (E := wl_FerryEnds_e2) (by kernel_rfl) wl_FerryEnds_e2_ok) (fun a => by kernel_rfl) env h k z hk
def wl_FerryEnds  : Option (Bool × Unit) :=
  (wl_awake).bind fun r1 =>
  (bif (!r1.1) then
  some (false, ())
  else
  (loopM wl_FerryEnds_l1 ((([0, 1, 599, 600, 601, 1200, 1201] : LI), 0, ()), ((), ()))).bind fun b2 =>
  (match b2 with
  | .inl b3 =>
  some (b3.1.1, ())
  | .inr b4 =>
  (wl_plain 5).bind fun r5 =>
  (wl_asks r5.1 0).bind fun r6 =>
  (wl_FerryTakes ([(⟨r6.1.kind, r6.1.group, r6.1.from_, r6.1.to_, r6.1.term_, r6.1.index, r6.1.logTerm, r6.1.commit, r6.1.ok, r6.1.entries, r6.1.base, 131072, r6.1.at_, r6.1.tag, r6.1.bytes⟩ : DLetter), (⟨r6.1.kind, r6.1.group, r6.1.from_, r6.1.to_, r6.1.term_, r6.1.index, r6.1.logTerm, r6.1.commit, r6.1.ok, r6.1.entries, r6.1.base, 131073, r6.1.at_, r6.1.tag, r6.1.bytes⟩ : DLetter), (⟨6, r6.1.group, r6.1.from_, r6.1.to_, r6.1.term_, r6.1.index, r6.1.logTerm, r6.1.commit, r6.1.ok, r6.1.entries, r6.1.base, 131072, r6.1.at_, r6.1.tag, r6.1.bytes⟩ : DLetter)] : List (DLetter)) (-1)).bind fun r7 =>
  some (r7.1, ())))
def wl_FerryEnds_ce : CEp where
  f := 5
  args := []
  hs := []
  res := .val (.one (.bool))
  outs := []
  m := fun d dh => wl_FerryEnds
  ok := ce_ok mixedP Try.func5 (by kernel_rfl) (orcOf_ok wl_FerryEnds_tb) (dr := wl_FerryEnds_dr) (lps := lpsOf wl_FerryEnds_lt) (lps_fn (lps_of (n := 1) (by kernel_rfl) fun i hi => match i, hi with | 0, _ => lp_ok (E := wl_FerryEnds_e1) (by kernel_rfl) wl_FerryEnds_e1_ok)) (fun d dh => by kernel_rfl)
end
end Go.Proofs.Ytlaehnldaejipaa
