/- Models, by program. -/
import Derived.Test.YtfgcknjlncognaaSeqT
import Derived.Test.YtfgcknjlncognaaWr
import Derived.Test.YtfgcknjlncognaaSl
import Derived.Test.YtfgcknjlncognaaFx
namespace Go.Proofs.Ytfgcknjlncognaa
open Go.RowKit
set_option maxRecDepth 100000
set_option linter.unusedVariables false
noncomputable def appendSeq (h0 : List (List UInt8)) : Option ((Nat × Nat) × ((List (List UInt8)) × (List (List UInt8)) × Unit)) :=
  if h0.length ≤ 8796093022208 then some ((0, h0.length), (h0, h0, ())) else none
noncomputable def appendSeq_ce : CE CT Try.prog where
  f := 42
  args := [.one .nil, .one (.clo 40 [0])]
  hs := [.cobj 24 3]
  res := .val (.one (.asu 2 1))
  outs := [.cobj 24 3, .arr 9 2 true]
  m := fun d dh => appendSeq dh.1
  ok := fun d dh r hr => by
    unfold appendSeq at hr
    split at hr
    · rename_i hc
      injection hr with hr
      subst hr
      by_cases h0 : dh.1 = []
      · obtain ⟨xs, u⟩ := dh
        dsimp only at h0
        subst h0
        exact appendSeq_tr0
      · exact appendSeq_tr dh.1 (fun h => h0 (List.eq_nil_of_length_eq_zero h)) hc
    · cases hr

theorem sortT_cells {N : Nat} {ρ : Nat → AV} : ∀ {xs : List (List UInt8)} {cells : List AV}, SVs CT N ρ (xs.flatMap (CT.enc 2)) cells → cells.map AV.val = xs.map Go.Proofs.encStr
  | [], cells, h => by rw [SVs_nil.1 h]; rfl
  | x :: xs, cells, h => by
    change SVs CT N ρ (.str x :: xs.flatMap (CT.enc 2)) cells at h
    obtain ⟨a, bs, rfl, h1, h2⟩ := h.to
    rw [sv_str.1 h1, List.map_cons, sortT_cells h2, AV.val_raw]
    rfl
theorem sortT_svs {N : Nat} {ρ : Nat → AV} : ∀ (xs : List (List UInt8)), SVs CT N ρ (xs.flatMap (CT.enc 2)) (xs.map fun d => AV.raw (Go.Proofs.encStr d))
  | [] => .none
  | x :: xs => by
    change SVs CT N ρ (.str x :: xs.flatMap (CT.enc 2)) (AV.raw (Go.Proofs.encStr x) :: xs.map fun d => AV.raw (Go.Proofs.encStr d))
    exact .cons (sv_str.2 rfl) (sortT_svs xs)
noncomputable def sortT (x0 : Nat × Nat) (h0 : List (List UInt8)) : Option (Unit × ((List (List UInt8)) × Unit)) :=
  if x0.1 = 0 ∧ x0.2 = h0.length ∧ h0.length < 4611686018427387904 then some ((), (h0.mergeSort (fun x y => decide (x ≤ y)), ())) else none
noncomputable def sortT_ce : CE CT Try.prog where
  f := 39
  args := [.one (.asu 2 0)]
  hs := [.arr 9 2 true]
  res := .tup []
  outs := [.arr 9 2 true]
  m := fun d dh => sortT d.1 dh.1
  ok := fun d dh r hr => by
    obtain ⟨⟨lo, n⟩, u⟩ := d
    obtain ⟨xs, u2⟩ := dh
    unfold sortT at hr
    split at hr
    · rename_i hc
      injection hr with hr
      subst hr
      obtain ⟨rfl, rfl, hc⟩ := hc
      dsimp only at hc
      exact sortedA_tr Go.Proofs.encStr xs xs (List.mergeSort (α := List UInt8) xs fun x y => decide (x ≤ y)) true rfl rfl (fun N ρ cs h => sortT_cells h) (List.mergeSort (α := List UInt8) xs fun x y => decide (x ≤ y)) (List.length_mergeSort (α := List UInt8) xs) (fun N ρ => sortT_svs _) (by kernel_rfl) rfl (fun h => by subst h; exact List.mergeSort_nil)
        (fun blk cap w h1 h2 => Try.slices_Sort_string blk 0 cap xs w h1 h2 hc) (fun p cap w => Try.slices_Sort_string_none p cap w)
    · cases hr

def span_All_dr : Nat → DrA
  | _ => ⟨[], [], [], [], [], false⟩
noncomputable def span_All_tb : List (CE CT Try.prog) := []
noncomputable def span_All_lt : List (LE CT Try.prog) := []
noncomputable def span_All  : Option ((DSpan) × (Unit)) :=
  some ((⟨([] : List UInt8), ([] : List UInt8)⟩ : DSpan), ())
noncomputable def span_All_ce : CE CT Try.prog where
  f := 27
  args := []
  hs := []
  res := .val (.cod 4)
  outs := []
  m := fun d dh => span_All
  ok := ce_ok mixedP Try.func27 (by kernel_rfl) (orcOf_ok span_All_tb) (dr := span_All_dr) (lps := lpsOf span_All_lt) (lps_fn (no_loop (by kernel_rfl))) (fun d dh => by kernel_rfl)

def span_ends_dr : Nat → DrA
  | 1 => ⟨[0, 4, 1, 2, 3, 5, 6, 7, 8, 9], [[], [0], [0, 1], [0, 1, 2], [], [4], [4, 5], [4, 5, 6], [0, 1, 2, 3], [0, 1, 2, 3, 4, 5, 6, 7, 8]], [5], [8], [0], false⟩
  | _ => ⟨[], [], [], [], [], false⟩
noncomputable def span_ends_tb : List (CE CT Try.prog) := []
noncomputable def span_ends_lt : List (LE CT Try.prog) := []
noncomputable def span_ends (x0 : DSpan) : Option (((DLow) × (DHigh) × Unit) × (Unit)) :=
  some (((⟨(⟨x0.lo⟩ : DText)⟩ : DLow), (⟨(⟨x0.hi⟩ : DText)⟩ : DHigh), ()), ())
noncomputable def span_ends_ce : CE CT Try.prog where
  f := 28
  args := [.cod 4]
  hs := []
  res := .tup [.cod 6, .cod 7]
  outs := []
  m := fun d dh => span_ends d.1
  ok := ce_ok mixedP Try.func28 (by kernel_rfl) (orcOf_ok span_ends_tb) (dr := span_ends_dr) (lps := lpsOf span_ends_lt) (lps_fn (no_loop (by kernel_rfl))) (fun d dh => by kernel_rfl)

def span_none_dr : Nat → DrA
  | _ => ⟨[], [], [], [], [], false⟩
noncomputable def span_none_tb : List (CE CT Try.prog) := []
noncomputable def span_none_lt : List (LE CT Try.prog) := []
noncomputable def span_none (x0 : DText) : Option ((Bool) × (Unit)) :=
  some ((decide (x0.s = ([] : List UInt8))), ())
noncomputable def span_none_ce : CE CT Try.prog where
  f := 31
  args := [.cod 5]
  hs := []
  res := .val (.one (.bool))
  outs := []
  m := fun d dh => span_none d.1
  ok := ce_ok mixedP Try.func31 (by kernel_rfl) (orcOf_ok span_none_tb) (dr := span_none_dr) (lps := lpsOf span_none_lt) (lps_fn (no_loop (by kernel_rfl))) (fun d dh => by kernel_rfl)

def cmp_isNaN_dr : Nat → DrA
  | _ => ⟨[], [], [], [], [], false⟩
noncomputable def cmp_isNaN_tb : List (CE CT Try.prog) := []
noncomputable def cmp_isNaN_lt : List (LE CT Try.prog) := []
noncomputable def cmp_isNaN (x0 : List UInt8) : Option ((Bool) × (Unit)) :=
  some ((decide (x0 ≠ x0)), ())
noncomputable def cmp_isNaN_ce : CE CT Try.prog where
  f := 41
  args := [.one (.str)]
  hs := []
  res := .val (.one (.bool))
  outs := []
  m := fun d dh => cmp_isNaN d.1
  ok := ce_ok mixedP Try.func41 (by kernel_rfl) (orcOf_ok cmp_isNaN_tb) (dr := cmp_isNaN_dr) (lps := lpsOf cmp_isNaN_lt) (lps_fn (no_loop (by kernel_rfl))) (fun d dh => by kernel_rfl)

def cmp_Compare_dr : Nat → DrA
  | _ => ⟨[], [], [], [], [], false⟩
noncomputable def cmp_Compare_tb : List (CE CT Try.prog) := [cmp_isNaN_ce]
noncomputable def cmp_Compare_lt : List (LE CT Try.prog) := []
noncomputable def cmp_Compare (x0 : List UInt8) (x1 : List UInt8) : Option ((Int) × (Unit)) :=
  (cmp_isNaN x0).bind fun r1 =>
  (cmp_isNaN x1).bind fun r2 =>
  (bif r1.1 then
  (bif r2.1 then
  some (0, ())
  else
  some ((-1), ()))
  else
  (bif r2.1 then
  some (1, ())
  else
  (bif (decide (x0 < x1)) then
  some ((-1), ())
  else
  (bif (!(decide (x0 < x1) || decide (x0 = x1))) then
  some (1, ())
  else
  some (0, ())))))
noncomputable def cmp_Compare_ce : CE CT Try.prog where
  f := 37
  args := [.one (.str), .one (.str)]
  hs := []
  res := .val (.one (.int .i64))
  outs := []
  m := fun d dh => cmp_Compare d.1 d.2.1
  ok := ce_ok mixedP Try.func37 (by kernel_rfl) (orcOf_ok cmp_Compare_tb) (dr := cmp_Compare_dr) (lps := lpsOf cmp_Compare_lt) (lps_fn (no_loop (by kernel_rfl))) (fun d dh => by kernel_rfl)

def span_compare_dr : Nat → DrA
  | _ => ⟨[], [], [], [], [], false⟩
noncomputable def span_compare_tb : List (CE CT Try.prog) := [cmp_Compare_ce]
noncomputable def span_compare_lt : List (LE CT Try.prog) := []
noncomputable def span_compare (x0 : DText) (x1 : DText) : Option ((Int) × (Unit)) :=
  (cmp_Compare x0.s x1.s).bind fun r1 =>
  some (r1.1, ())
noncomputable def span_compare_ce : CE CT Try.prog where
  f := 30
  args := [.cod 5, .cod 5]
  hs := []
  res := .val (.one (.int .i64))
  outs := []
  m := fun d dh => span_compare d.1 d.2.1
  ok := ce_ok mixedP Try.func30 (by kernel_rfl) (orcOf_ok span_compare_tb) (dr := span_compare_dr) (lps := lpsOf span_compare_lt) (lps_fn (no_loop (by kernel_rfl))) (fun d dh => by kernel_rfl)

def span_above_dr : Nat → DrA
  | _ => ⟨[], [], [], [], [], false⟩
noncomputable def span_above_tb : List (CE CT Try.prog) := [span_none_ce, span_compare_ce]
noncomputable def span_above_lt : List (LE CT Try.prog) := []
noncomputable def span_above (x0 : DHigh) (x1 : DText) : Option ((Bool) × (Unit)) :=
  (span_none x0.text).bind fun r1 =>
  (bif r1.1 then
  some (true, ())
  else
  (span_compare x0.text x1).bind fun r2 =>
  some ((decide ((0 : Int) < r2.1)), ()))
noncomputable def span_above_ce : CE CT Try.prog where
  f := 32
  args := [.cod 7, .cod 5]
  hs := []
  res := .val (.one (.bool))
  outs := []
  m := fun d dh => span_above d.1 d.2.1
  ok := ce_ok mixedP Try.func32 (by kernel_rfl) (orcOf_ok span_above_tb) (dr := span_above_dr) (lps := lpsOf span_above_lt) (lps_fn (no_loop (by kernel_rfl))) (fun d dh => by kernel_rfl)

def span_Key_dr : Nat → DrA
  | _ => ⟨[], [], [], [], [], false⟩
noncomputable def span_Key_tb : List (CE CT Try.prog) := []
noncomputable def span_Key_l1 (a : ((List UInt8) × (Int) × (Int) × Unit) × (Unit)) : Option ((((List UInt8) × (Int) × (Int) × Unit) × (Unit)) ⊕ ((((Bool) × Unit) × (Unit)) ⊕ ((Unit) × (Unit)))) :=
  (bif (decide ((a.1.2.2.1 : Int) < a.1.2.1)) then
  (getI a.1.1 a.1.2.2.1).bind fun e1 =>
  (bif (decide ((97 : Int) ≤ (e1.toNat : Int))) then
  (bif (decide (((e1.toNat : Int) : Int) ≤ 122)) then
  some (.inl ((a.1.1, a.1.2.1, (IntKind.i64.wrap (a.1.2.2.1 + 1)), ()), ()))
  else
  (bif (decide ((48 : Int) ≤ (e1.toNat : Int))) then
  (bif (!(decide (((e1.toNat : Int) : Int) ≤ 57))) then
  some (.inr (.inl ((false, ()), ())))
  else
  some (.inl ((a.1.1, a.1.2.1, (IntKind.i64.wrap (a.1.2.2.1 + 1)), ()), ())))
  else
  some (.inr (.inl ((false, ()), ())))))
  else
  (bif (decide ((48 : Int) ≤ (e1.toNat : Int))) then
  (bif (!(decide (((e1.toNat : Int) : Int) ≤ 57))) then
  some (.inr (.inl ((false, ()), ())))
  else
  some (.inl ((a.1.1, a.1.2.1, (IntKind.i64.wrap (a.1.2.2.1 + 1)), ()), ())))
  else
  some (.inr (.inl ((false, ()), ())))))
  else
  some (.inr (.inr ((), ()))))
noncomputable def span_Key_e1 : LE CT Try.prog := ⟨4, [0, 13, 14], [.one (.str), .one (.int .i64), .one (.int .i64)], [], [⟨.ret, [2], [.one (.bool)], []⟩, ⟨.exit 0, [], [], []⟩], span_Key_l1⟩
noncomputable def span_Key_lt : List (LE CT Try.prog) := [span_Key_e1]
theorem span_Key_e1_ok : LeOk span_Key_e1 (nthL (bodyOf Try.f18) 0) := fun A env h k z hk => le_ok (E := span_Key_e1) (orcOf_ok span_Key_tb) (dr := span_Key_dr) (lps := lpsOf span_Key_lt) (no_loop (by kernel_rfl)) (fun a => by kernel_rfl) env h k z hk
noncomputable def span_Key (x0 : List UInt8) : Option ((Bool) × (Unit)) :=
  (bif (decide (x0 = ([] : List UInt8))) then
  some (false, ())
  else
  (bif (decide ((20 : Int) < (x0.length : Int))) then
  some (false, ())
  else
  (loopM span_Key_l1 ((x0, (x0.length : Int), 0, ()), ())).bind fun b1 =>
  (match b1 with
  | .inl b2 =>
  some (b2.1.1, ())
  | .inr b3 =>
  some (true, ()))))
noncomputable def span_Key_ce : CE CT Try.prog where
  f := 18
  args := [.one (.str)]
  hs := []
  res := .val (.one (.bool))
  outs := []
  m := fun d dh => span_Key d.1
  ok := ce_ok mixedP Try.func18 (by kernel_rfl) (orcOf_ok span_Key_tb) (dr := span_Key_dr) (lps := lpsOf span_Key_lt) (lps_fn (lps_of (n := 1) (by kernel_rfl) fun i hi => match i, hi with | 0, _ => lp_ok (E := span_Key_e1) (by kernel_rfl) span_Key_e1_ok)) (fun d dh => by kernel_rfl)

def span_Right_dr : Nat → DrA
  | _ => ⟨[], [], [], [], [], false⟩
noncomputable def span_Right_tb : List (CE CT Try.prog) := [span_ends_ce, span_none_ce, span_above_ce, span_Key_ce]
noncomputable def span_Right_lt : List (LE CT Try.prog) := []
noncomputable def span_Right (x0 : DSpan) : Option ((Bool) × (Unit)) :=
  (span_ends x0).bind fun r1 =>
  (span_none r1.1.1.text).bind fun r2 =>
  (bif r2.1 then
  (span_none r1.1.2.1.text).bind fun r3 =>
  (bif r3.1 then
  (span_above r1.1.2.1 r1.1.1.text).bind fun r4 =>
  some (r4.1, ())
  else
  (span_Key x0.hi).bind fun r5 =>
  (bif r5.1 then
  (span_above r1.1.2.1 r1.1.1.text).bind fun r6 =>
  some (r6.1, ())
  else
  some (false, ())))
  else
  (span_Key x0.lo).bind fun r7 =>
  (bif r7.1 then
  (span_none r1.1.2.1.text).bind fun r8 =>
  (bif r8.1 then
  (span_above r1.1.2.1 r1.1.1.text).bind fun r9 =>
  some (r9.1, ())
  else
  (span_Key x0.hi).bind fun r10 =>
  (bif r10.1 then
  (span_above r1.1.2.1 r1.1.1.text).bind fun r11 =>
  some (r11.1, ())
  else
  some (false, ())))
  else
  some (false, ())))
noncomputable def span_Right_ce : CE CT Try.prog where
  f := 16
  args := [.cod 4]
  hs := []
  res := .val (.one (.bool))
  outs := []
  m := fun d dh => span_Right d.1
  ok := ce_ok mixedP Try.func16 (by kernel_rfl) (orcOf_ok span_Right_tb) (dr := span_Right_dr) (lps := lpsOf span_Right_lt) (lps_fn (no_loop (by kernel_rfl))) (fun d dh => by kernel_rfl)

def slices_Values_dr : Nat → DrA
  | _ => ⟨[], [], [], [], [], false⟩
noncomputable def slices_Values_tb : List (CE CT Try.prog) := []
noncomputable def slices_Values_lt : List (LE CT Try.prog) := []
noncomputable def slices_Values (x0 : List (List UInt8)) : Option ((Unit) × ((List (List UInt8)) × Unit)) :=
  some ((), (x0, ()))
noncomputable def slices_Values_ce : CE CT Try.prog where
  f := 36
  args := [.one (.sl 2)]
  hs := []
  res := .val (.one (.clo 40 [0]))
  outs := [.cobj 24 3]
  m := fun d dh => slices_Values d.1
  ok := ce_ok mixedP Try.func36 (by kernel_rfl) (orcOf_ok slices_Values_tb) (dr := slices_Values_dr) (lps := lpsOf slices_Values_lt) (lps_fn (no_loop (by kernel_rfl))) (fun d dh => by kernel_rfl)

def slices_Collect_dr : Nat → DrA
  | _ => ⟨[], [], [], [], [], false⟩
noncomputable def slices_Collect_tb : List (CE CT Try.prog) := [appendSeq_ce]
noncomputable def slices_Collect_lt : List (LE CT Try.prog) := []
noncomputable def slices_Collect (h0 : List (List UInt8)) : Option ((Nat × Nat) × ((List (List UInt8)) × (List (List UInt8)) × Unit)) :=
  (appendSeq h0).bind fun r1 =>
  some ((r1.1.1, r1.1.2), (r1.2.1, r1.2.2.1, ()))
noncomputable def slices_Collect_ce : CE CT Try.prog where
  f := 38
  args := [.one (.clo 40 [0])]
  hs := [.cobj 24 3]
  res := .val (.one (.asu 2 1))
  outs := [.cobj 24 3, .arr 9 2 false]
  m := fun d dh => slices_Collect dh.1
  ok := ce_ok mixedP Try.func38 (by kernel_rfl) (orcOf_ok slices_Collect_tb) (dr := slices_Collect_dr) (lps := lpsOf slices_Collect_lt) (lps_fn (no_loop (by kernel_rfl))) (fun d dh => by kernel_rfl)

def slices_Sorted_dr : Nat → DrA
  | _ => ⟨[], [], [], [], [], false⟩
noncomputable def slices_Sorted_tb : List (CE CT Try.prog) := [slices_Collect_ce, sortT_ce]
noncomputable def slices_Sorted_lt : List (LE CT Try.prog) := []
noncomputable def slices_Sorted (h0 : List (List UInt8)) : Option ((Nat × Nat) × ((List (List UInt8)) × (List (List UInt8)) × Unit)) :=
  (slices_Collect h0).bind fun r1 =>
  (sortT (r1.1.1, r1.1.2) r1.2.2.1).bind fun r2 =>
  some ((r1.1.1, r1.1.2), (r1.2.1, r2.2.1, ()))
noncomputable def slices_Sorted_ce : CE CT Try.prog where
  f := 35
  args := [.one (.clo 40 [0])]
  hs := [.cobj 24 3]
  res := .val (.one (.asu 2 1))
  outs := [.cobj 24 3, .arr 9 2 false]
  m := fun d dh => slices_Sorted dh.1
  ok := ce_ok mixedP Try.func35 (by kernel_rfl) (orcOf_ok slices_Sorted_tb) (dr := slices_Sorted_dr) (lps := lpsOf slices_Sorted_lt) (lps_fn (no_loop (by kernel_rfl))) (fun d dh => by kernel_rfl)

def slices_Compact_dr : Nat → DrA
  | 6 => ⟨[0, 1, 2, 4, 5, 6, 7, 3, 8, 9], [[], [], [0, 1], [0, 1, 2], [], [], [5], [4, 5, 6], [4, 5, 6, 7], [0, 1, 2, 3, 4, 5, 6, 7, 8]], [], [], [], false⟩
  | 11 => ⟨[0, 1, 2, 4, 5, 6, 7, 3, 8, 9], [[], [], [0, 1], [0, 1, 2], [], [], [5], [4, 5, 6], [4, 5, 6, 7], [0, 1, 2, 3, 4, 5, 6, 7, 8]], [], [], [], false⟩
  | _ => ⟨[], [], [], [], [], false⟩
noncomputable def slices_Compact_tb : List (CE CT Try.prog) := []
noncomputable def slices_Compact_l2 (a : ((Nat × Nat) × (Int) × (Nat × Nat) × (Int) × Unit) × ((List (List UInt8)) × Unit)) : Option ((((Nat × Nat) × (Int) × (Nat × Nat) × (Int) × Unit) × ((List (List UInt8)) × Unit)) ⊕ ((((Nat × Nat) × (Int) × Unit) × ((List (List UInt8)) × Unit)))) :=
  (bif (decide ((a.1.2.2.2.1 : Int) < ((a.1.2.2.1.2 : Nat) : Int))) then
  (if 0 ≤ (a.1.2.2.2.1 : Int) ∧ (a.1.2.2.2.1 : Int) < ((a.1.2.2.1.2 : Nat) : Int) then
  (if 0 ≤ ((IntKind.i64.wrap (a.1.2.2.2.1 - 1)) : Int) ∧ ((IntKind.i64.wrap (a.1.2.2.2.1 - 1)) : Int) < ((a.1.2.2.1.2 : Nat) : Int) then
  (a.2.1[(a.1.2.2.1.1 + (a.1.2.2.2.1 : Int).toNat)]?).bind fun e1 =>
  (a.2.1[(a.1.2.2.1.1 + ((IntKind.i64.wrap (a.1.2.2.2.1 - 1)) : Int).toNat)]?).bind fun e2 =>
  (bif (decide (e1 ≠ e2)) then
  (if 0 ≤ (a.1.2.2.2.1 : Int) ∧ (a.1.2.2.2.1 : Int) < ((a.1.2.2.1.2 : Nat) : Int) then
  (a.2.1[(a.1.2.2.1.1 + (a.1.2.2.2.1 : Int).toNat)]?).bind fun e3 =>
  (if 0 ≤ (a.1.2.1 : Int) ∧ (a.1.2.1 : Int) < ((a.1.1.2 : Nat) : Int) then
  (a.2.1[(a.1.1.1 + (a.1.2.1 : Int).toNat)]?).bind fun e4 =>
  some (.inl (((a.1.1.1, a.1.1.2), (IntKind.i64.wrap (a.1.2.1 + 1)), (a.1.2.2.1.1, a.1.2.2.1.2), (IntKind.i64.wrap (a.1.2.2.2.1 + 1)), ()), ((a.2.1.set (a.1.1.1 + (a.1.2.1 : Int).toNat) e3), ())))
  else none)
  else none)
  else
  some (.inl (((a.1.1.1, a.1.1.2), a.1.2.1, (a.1.2.2.1.1, a.1.2.2.1.2), (IntKind.i64.wrap (a.1.2.2.2.1 + 1)), ()), (a.2.1, ()))))
  else none)
  else none)
  else
  some (.inr (((a.1.1.1, a.1.1.2), a.1.2.1, ()), (a.2.1, ()))))
noncomputable def slices_Compact_e2 : LE CT Try.prog := ⟨9, [0, 3, 4, 5], [.one (.asu 2 0), .one (.int .i64), .one (.asu 2 0), .one (.int .i64)], [.arr 9 2 true], [⟨.exit 2, [0, 3], [.one (.asu 2 0), .one (.int .i64)], [.arr 9 2 true]⟩], slices_Compact_l2⟩
noncomputable def slices_Compact_l1 (a : ((Nat × Nat) × (Int) × Unit) × ((List (List UInt8)) × Unit)) : Option ((((Nat × Nat) × (Int) × Unit) × ((List (List UInt8)) × Unit)) ⊕ ((((Nat × Nat) × Unit) × ((List (List UInt8)) × Unit)) ⊕ (((Nat × Nat) × Unit) × ((List (List UInt8)) × Unit)))) :=
  (bif (decide ((a.1.2.1 : Int) < ((a.1.1.2 : Nat) : Int))) then
  (if 0 ≤ (a.1.2.1 : Int) ∧ (a.1.2.1 : Int) < ((a.1.1.2 : Nat) : Int) then
  (if 0 ≤ ((IntKind.i64.wrap (a.1.2.1 - 1)) : Int) ∧ ((IntKind.i64.wrap (a.1.2.1 - 1)) : Int) < ((a.1.1.2 : Nat) : Int) then
  (a.2.1[(a.1.1.1 + (a.1.2.1 : Int).toNat)]?).bind fun e1 =>
  (a.2.1[(a.1.1.1 + ((IntKind.i64.wrap (a.1.2.1 - 1)) : Int).toNat)]?).bind fun e2 =>
  (bif (decide (e1 = e2)) then
  (if 0 ≤ (a.1.2.1 : Int) ∧ (a.1.2.1 : Int) ≤ ((a.1.1.2 : Nat) : Int) ∧ ((a.1.1.2 : Nat) : Int) ≤ ((a.1.1.2 : Nat) : Int) ∧ ((a.1.1.2 : Nat) : Int) ≤ 140737488355328 then
  (loopM slices_Compact_l2 (((a.1.1.1, a.1.1.2), a.1.2.1, ((a.1.1.1 + (a.1.2.1 : Int).toNat), (((a.1.1.2 : Nat) : Int).toNat - (a.1.2.1 : Int).toNat)), 1, ()), (a.2.1, ()))).bind fun b3 =>
  (if 0 ≤ (b3.1.2.1 : Int) ∧ (b3.1.2.1 : Int) ≤ ((b3.1.1.2 : Nat) : Int) ∧ ((b3.1.1.2 : Nat) : Int) ≤ ((b3.1.1.2 : Nat) : Int) ∧ ((b3.1.1.2 : Nat) : Int) ≤ 140737488355328 then
  (if (b3.1.1.1 + (b3.1.2.1 : Int).toNat) ≤ b3.2.1.length then
  let y4 : List (List UInt8) := (b3.2.1.take (b3.1.1.1 + (b3.1.2.1 : Int).toNat) ++ List.replicate (((b3.1.1.2 : Nat) : Int).toNat - (b3.1.2.1 : Int).toNat) (([] : List UInt8) : List UInt8) ++ b3.2.1.drop ((b3.1.1.1 + (b3.1.2.1 : Int).toNat) + (((b3.1.1.2 : Nat) : Int).toNat - (b3.1.2.1 : Int).toNat)))
  (if 0 ≤ (0 : Int) ∧ (0 : Int) ≤ (b3.1.2.1 : Int) ∧ (b3.1.2.1 : Int) ≤ ((b3.1.1.2 : Nat) : Int) ∧ (b3.1.2.1 : Int) ≤ 140737488355328 then
  some (.inr (.inl ((((b3.1.1.1 + (0 : Int).toNat), ((b3.1.2.1 : Int).toNat - (0 : Int).toNat)), ()), (y4, ()))))
  else none)
  else none)
  else none)
  else none)
  else
  some (.inl (((a.1.1.1, a.1.1.2), (IntKind.i64.wrap (a.1.2.1 + 1)), ()), (a.2.1, ()))))
  else none)
  else none)
  else
  some (.inr (.inr (((a.1.1.1, a.1.1.2), ()), (a.2.1, ())))))
noncomputable def slices_Compact_e1 : LE CT Try.prog := ⟨4, [0, 3], [.one (.asu 2 0), .one (.int .i64)], [.arr 9 2 true], [⟨.ret, [2], [.one (.asu 2 0)], [.arr 9 2 true]⟩, ⟨.exit 0, [0], [.one (.asu 2 0)], [.arr 9 2 true]⟩], slices_Compact_l1⟩
noncomputable def slices_Compact_lt : List (LE CT Try.prog) := [slices_Compact_e2, slices_Compact_e1]
theorem slices_Compact_e2_ok : LeOk slices_Compact_e2 (nthL (nthL (bodyOf Try.f34) 0) 0) := fun A env h k z hk => le_ok (E := slices_Compact_e2) (orcOf_ok slices_Compact_tb) (dr := slices_Compact_dr) (lps := lpsOf slices_Compact_lt) (no_loop (by kernel_rfl)) (fun a => by kernel_rfl) env h k z hk
theorem slices_Compact_e1_ok : LeOk slices_Compact_e1 (nthL (bodyOf Try.f34) 0) := fun A env h k z hk => le_ok (E := slices_Compact_e1) (orcOf_ok slices_Compact_tb) (dr := slices_Compact_dr) (lps := lpsOf slices_Compact_lt) (lps_of (n := 1) (by kernel_rfl) fun i hi => match i, hi with | 0, _ => lp_ok (E := slices_Compact_e2) (by kernel_rfl) slices_Compact_e2_ok) (fun a => by kernel_rfl) env h k z hk
noncomputable def slices_Compact (x0 : Nat × Nat) (h0 : List (List UInt8)) : Option ((Nat × Nat) × ((List (List UInt8)) × Unit)) :=
  (bif (decide ((((x0.2 : Nat) : Int) : Int) < 2)) then
  some ((x0.1, x0.2), (h0, ()))
  else
  (loopM slices_Compact_l1 (((x0.1, x0.2), 1, ()), (h0, ()))).bind fun b1 =>
  (match b1 with
  | .inl b2 =>
  some ((b2.1.1.1, b2.1.1.2), (b2.2.1, ()))
  | .inr b3 =>
  some ((b3.1.1.1, b3.1.1.2), (b3.2.1, ()))))
noncomputable def slices_Compact_ce : CE CT Try.prog where
  f := 34
  args := [.one (.asu 2 0)]
  hs := [.arr 9 2 true]
  res := .val (.one (.asu 2 0))
  outs := [.arr 9 2 true]
  m := fun d dh => slices_Compact d.1 dh.1
  ok := ce_ok mixedP Try.func34 (by kernel_rfl) (orcOf_ok slices_Compact_tb) (dr := slices_Compact_dr) (lps := lpsOf slices_Compact_lt) (lps_fn (lps_of (n := 1) (by kernel_rfl) fun i hi => match i, hi with | 0, _ => lp_ok (E := slices_Compact_e1) (by kernel_rfl) slices_Compact_e1_ok)) (fun d dh => by kernel_rfl)

def span_Has_dr : Nat → DrA
  | _ => ⟨[], [], [], [], [], false⟩
noncomputable def span_Has_tb : List (CE CT Try.prog) := [span_ends_ce, span_Right_ce, span_Key_ce, span_compare_ce, span_above_ce]
noncomputable def span_Has_lt : List (LE CT Try.prog) := []
noncomputable def span_Has (x0 : DSpan) (x1 : List UInt8) : Option ((Bool) × (Unit)) :=
  (span_ends x0).bind fun r1 =>
  (span_Right x0).bind fun r2 =>
  (bif r2.1 then
  (span_Key x1).bind fun r3 =>
  (bif r3.1 then
  (span_compare r1.1.1.text (⟨x1⟩ : DText)).bind fun r4 =>
  (bif (decide ((r4.1 : Int) ≤ 0)) then
  (span_above r1.1.2.1 (⟨x1⟩ : DText)).bind fun r5 =>
  some (r5.1, ())
  else
  some (false, ()))
  else
  some (false, ()))
  else
  some (false, ()))
noncomputable def span_Has_ce : CE CT Try.prog where
  f := 20
  args := [.cod 4, .one (.str)]
  hs := []
  res := .val (.one (.bool))
  outs := []
  m := fun d dh => span_Has d.1 d.2.1
  ok := ce_ok mixedP Try.func20 (by kernel_rfl) (orcOf_ok span_Has_tb) (dr := span_Has_dr) (lps := lpsOf span_Has_lt) (lps_fn (no_loop (by kernel_rfl))) (fun d dh => by kernel_rfl)

def span_Cut_dr : Nat → DrA
  | _ => ⟨[], [], [], [], [], false⟩
noncomputable def span_Cut_tb : List (CE CT Try.prog) := [span_Right_ce, slices_Values_ce, slices_Sorted_ce, slices_Compact_ce, span_Has_ce]
noncomputable def span_Cut_l1 (a : ((Unit) × (List (DSpan)) × (Nat × Nat) × (Int) × (Int) × Unit) × ((DSpan) × (List (List UInt8)) × (Unit) × Unit)) : Option ((((Unit) × (List (DSpan)) × (Nat × Nat) × (Int) × (Int) × Unit) × ((DSpan) × (List (List UInt8)) × (Unit) × Unit)) ⊕ ((((Unit) × (List (DSpan)) × Unit) × ((DSpan) × (List (List UInt8)) × (Unit) × (Unit) × Unit)))) :=
  (bif (decide ((a.1.2.2.2.2.1 : Int) < a.1.2.2.2.1)) then
  (if 0 ≤ (a.1.2.2.2.2.1 : Int) ∧ (a.1.2.2.2.2.1 : Int) < ((a.1.2.2.1.2 : Nat) : Int) then
  (a.2.2.1[(a.1.2.2.1.1 + (a.1.2.2.2.2.1 : Int).toNat)]?).bind fun e1 =>
  (span_Has a.2.1 e1).bind fun r2 =>
  (bif (!r2.1) then
  some (.inl (((), a.1.2.1, (a.1.2.2.1.1, a.1.2.2.1.2), a.1.2.2.2.1, (IntKind.i64.wrap (a.1.2.2.2.2.1 + 1)), ()), (a.2.1, a.2.2.1, (), ())))
  else
  (bif (decide (e1 = a.2.1.lo)) then
  some (.inl (((), a.1.2.1, (a.1.2.2.1.1, a.1.2.2.1.2), a.1.2.2.2.1, (IntKind.i64.wrap (a.1.2.2.2.2.1 + 1)), ()), (a.2.1, a.2.2.1, (), ())))
  else
  (if a.1.2.1.length + ([(⟨a.2.1.lo, e1⟩ : DSpan)] : List (DSpan)).length ≤ 140737488355328 ∧ (a.1.2.1.length + ([(⟨a.2.1.lo, e1⟩ : DSpan)] : List (DSpan)).length) * 32 ≤ 140737488355328 then
  some (.inl (((), (a.1.2.1 ++ ([(⟨a.2.1.lo, e1⟩ : DSpan)] : List (DSpan))), (a.1.2.2.1.1, a.1.2.2.1.2), a.1.2.2.2.1, (IntKind.i64.wrap (a.1.2.2.2.2.1 + 1)), ()), ((⟨e1, a.2.1.hi⟩ : DSpan), a.2.2.1, (), ())))
  else none)))
  else none)
  else
  some (.inr (((), a.1.2.1, ()), (a.2.1, a.2.2.1, (), (), ()))))
noncomputable def span_Cut_e1 : LE CT Try.prog := ⟨5, [2, 5, 14, 15, 16], [.one (.ptr 0 0), .one (.own 4 2), .one (.asu 2 1), .one (.int .i64), .one (.int .i64)], [.cobj 26 4, .arr 9 2 true, .row 26 2], [⟨.exit 0, [2, 5], [.one (.ptr 0 0), .one (.own 4 3)], [.cobj 26 4, .arr 9 2 true, .dead, .row 26 2]⟩], span_Cut_l1⟩
noncomputable def span_Cut_lt : List (LE CT Try.prog) := [span_Cut_e1]
theorem span_Cut_e1_ok : LeOk span_Cut_e1 (nthL (bodyOf Try.f24) 0) := fun A env h k z hk => le_ok (E := span_Cut_e1) (orcOf_ok span_Cut_tb) (dr := span_Cut_dr) (lps := lpsOf span_Cut_lt) (no_loop (by kernel_rfl)) (fun a => by kernel_rfl) env h k z hk
noncomputable def span_Cut (x0 : DSpan) (x1 : List (List UInt8)) : Option ((List (DSpan)) × ((Unit) × Unit)) :=
  (span_Right x0).bind fun r1 =>
  (bif (!r1.1) then
  some ([], ((), ()))
  else
  (slices_Values x1).bind fun r2 =>
  (slices_Sorted r2.2.1).bind fun r3 =>
  (slices_Compact (r3.1.1, r3.1.2) r3.2.2.1).bind fun r4 =>
  (loopM span_Cut_l1 (((), [], (r4.1.1, r4.1.2), ((r4.1.2 : Nat) : Int), 0, ()), (x0, r4.2.1, (), ()))).bind fun b5 =>
  (if b5.1.2.1.length + ([b5.2.1] : List (DSpan)).length ≤ 140737488355328 ∧ (b5.1.2.1.length + ([b5.2.1] : List (DSpan)).length) * 32 ≤ 140737488355328 then
  some ((b5.1.2.1 ++ ([b5.2.1] : List (DSpan))), ((), ()))
  else none))
noncomputable def span_Cut_ce : CE CT Try.prog where
  f := 24
  args := [.cod 4, .one (.sl 2)]
  hs := []
  res := .val (.one (.own 4 0))
  outs := [.row 26 2]
  m := fun d dh => span_Cut d.1 d.2.1
  ok := ce_ok mixedP Try.func24 (by kernel_rfl) (orcOf_ok span_Cut_tb) (dr := span_Cut_dr) (lps := lpsOf span_Cut_lt) (lps_fn (lps_of (n := 1) (by kernel_rfl) fun i hi => match i, hi with | 0, _ => lp_ok (E := span_Cut_e1) (by kernel_rfl) span_Cut_e1_ok)) (fun d dh => by kernel_rfl)

def span_over_dr : Nat → DrA
  | _ => ⟨[], [], [], [], [], false⟩
noncomputable def span_over_tb : List (CE CT Try.prog) := [span_none_ce, span_compare_ce]
noncomputable def span_over_lt : List (LE CT Try.prog) := []
noncomputable def span_over (x0 : DHigh) (x1 : DHigh) : Option ((Bool) × (Unit)) :=
  (span_none x0.text).bind fun r1 =>
  (bif r1.1 then
  some (true, ())
  else
  (span_none x1.text).bind fun r2 =>
  (bif (!r2.1) then
  (span_compare x0.text x1.text).bind fun r3 =>
  some ((decide ((0 : Int) ≤ r3.1)), ())
  else
  some (false, ())))
noncomputable def span_over_ce : CE CT Try.prog where
  f := 29
  args := [.cod 7, .cod 7]
  hs := []
  res := .val (.one (.bool))
  outs := []
  m := fun d dh => span_over d.1 d.2.1
  ok := ce_ok mixedP Try.func29 (by kernel_rfl) (orcOf_ok span_over_tb) (dr := span_over_dr) (lps := lpsOf span_over_lt) (lps_fn (no_loop (by kernel_rfl))) (fun d dh => by kernel_rfl)

def span_Meet_dr : Nat → DrA
  | _ => ⟨[], [], [], [], [], false⟩
noncomputable def span_Meet_tb : List (CE CT Try.prog) := [span_ends_ce, span_over_ce, span_Right_ce]
noncomputable def span_Meet_lt : List (LE CT Try.prog) := []
noncomputable def span_Meet (x0 : DSpan) (x1 : DSpan) : Option (((DSpan) × (Bool) × Unit) × (Unit)) :=
  (span_ends x0).bind fun r1 =>
  (span_ends x1).bind fun r2 =>
  (span_over r1.1.2.1 r2.1.2.1).bind fun r3 =>
  (bif r3.1 then
  (span_Right x0).bind fun r4 =>
  (bif (!r4.1) then
  some (((⟨([] : List UInt8), ([] : List UInt8)⟩ : DSpan), false, ()), ())
  else
  (span_Right x1).bind fun r5 =>
  (bif (!r5.1) then
  some (((⟨([] : List UInt8), ([] : List UInt8)⟩ : DSpan), false, ()), ())
  else
  (span_Right (⟨(bif !decide (x0.lo < x1.lo) then x0.lo else x1.lo), x1.hi⟩ : DSpan)).bind fun r6 =>
  (bif (!r6.1) then
  some (((⟨([] : List UInt8), ([] : List UInt8)⟩ : DSpan), false, ()), ())
  else
  some (((⟨(bif !decide (x0.lo < x1.lo) then x0.lo else x1.lo), x1.hi⟩ : DSpan), true, ()), ()))))
  else
  (span_Right x0).bind fun r7 =>
  (bif (!r7.1) then
  some (((⟨([] : List UInt8), ([] : List UInt8)⟩ : DSpan), false, ()), ())
  else
  (span_Right x1).bind fun r8 =>
  (bif (!r8.1) then
  some (((⟨([] : List UInt8), ([] : List UInt8)⟩ : DSpan), false, ()), ())
  else
  (span_Right (⟨(bif !decide (x0.lo < x1.lo) then x0.lo else x1.lo), x0.hi⟩ : DSpan)).bind fun r9 =>
  (bif (!r9.1) then
  some (((⟨([] : List UInt8), ([] : List UInt8)⟩ : DSpan), false, ()), ())
  else
  some (((⟨(bif !decide (x0.lo < x1.lo) then x0.lo else x1.lo), x0.hi⟩ : DSpan), true, ()), ())))))
noncomputable def span_Meet_ce : CE CT Try.prog where
  f := 12
  args := [.cod 4, .cod 4]
  hs := []
  res := .tup [.cod 4, .one (.bool)]
  outs := []
  m := fun d dh => span_Meet d.1 d.2.1
  ok := ce_ok mixedP Try.func12 (by kernel_rfl) (orcOf_ok span_Meet_tb) (dr := span_Meet_dr) (lps := lpsOf span_Meet_lt) (lps_fn (no_loop (by kernel_rfl))) (fun d dh => by kernel_rfl)

def span_Parts_dr : Nat → DrA
  | 7 => ⟨[0, 2, 1, 5, 3, 4, 6], [[], [0], [], [2], [2, 3], [0, 1], [0, 1, 2, 3, 4, 5]], [], [], [], false⟩
  | _ => ⟨[], [], [], [], [], false⟩
noncomputable def span_Parts_tb : List (CE CT Try.prog) := [span_Right_ce]
noncomputable def span_Parts_l1 (a : ((List (DSpan)) × (List UInt8) × (Bool) × (List (DSpan)) × (Int) × (Int) × Unit) × (Unit)) : Option ((((List (DSpan)) × (List UInt8) × (Bool) × (List (DSpan)) × (Int) × (Int) × Unit) × (Unit)) ⊕ ((((Bool) × Unit) × (Unit)) ⊕ (((Bool) × Unit) × (Unit)))) :=
  (bif (decide ((a.1.2.2.2.2.2.1 : Int) < a.1.2.2.2.2.1)) then
  (getI a.1.2.2.2.1 a.1.2.2.2.2.2.1).bind fun e1 =>
  (span_Right e1).bind fun r2 =>
  (bif (!r2.1) then
  some (.inr (.inl ((false, ()), ())))
  else
  (bif (decide (e1.lo ≠ a.1.2.1)) then
  some (.inr (.inl ((false, ()), ())))
  else
  (bif a.1.2.2.1 then
  some (.inr (.inl ((false, ()), ())))
  else
  (bif (decide (e1.hi = ([] : List UInt8))) then
  (bif (decide ((a.1.2.2.2.2.2.1 : Int) < (IntKind.i64.wrap ((a.1.1.length : Int) - 1)))) then
  some (.inr (.inl ((false, ()), ())))
  else
  some (.inl ((a.1.1, e1.hi, (decide (e1.hi = ([] : List UInt8))), a.1.2.2.2.1, a.1.2.2.2.2.1, (IntKind.i64.wrap (a.1.2.2.2.2.2.1 + 1)), ()), ())))
  else
  some (.inl ((a.1.1, e1.hi, (decide (e1.hi = ([] : List UInt8))), a.1.2.2.2.1, a.1.2.2.2.2.1, (IntKind.i64.wrap (a.1.2.2.2.2.2.1 + 1)), ()), ()))))))
  else
  some (.inr (.inr ((a.1.2.2.1, ()), ()))))
noncomputable def span_Parts_e1 : LE CT Try.prog := ⟨3, [0, 3, 4, 7, 8, 9], [.one (.sl 4), .one (.str), .one (.bool), .one (.sl 4), .one (.int .i64), .one (.int .i64)], [], [⟨.ret, [2], [.one (.bool)], []⟩, ⟨.exit 0, [4], [.one (.bool)], []⟩], span_Parts_l1⟩
noncomputable def span_Parts_lt : List (LE CT Try.prog) := [span_Parts_e1]
theorem span_Parts_e1_ok : LeOk span_Parts_e1 (nthL (bodyOf Try.f10) 0) := fun A env h k z hk => le_ok (E := span_Parts_e1) (orcOf_ok span_Parts_tb) (dr := span_Parts_dr) (lps := lpsOf span_Parts_lt) (no_loop (by kernel_rfl)) (fun a => by kernel_rfl) env h k z hk
noncomputable def span_Parts (x0 : List (DSpan)) : Option ((Bool) × (Unit)) :=
  (loopM span_Parts_l1 ((x0, ([] : List UInt8), false, x0, (x0.length : Int), 0, ()), ())).bind fun b1 =>
  (match b1 with
  | .inl b2 =>
  some (b2.1.1, ())
  | .inr b3 =>
  some (b3.1.1, ()))
noncomputable def span_Parts_ce : CE CT Try.prog where
  f := 10
  args := [.one (.sl 4)]
  hs := []
  res := .val (.one (.bool))
  outs := []
  m := fun d dh => span_Parts d.1
  ok := ce_ok mixedP Try.func10 (by kernel_rfl) (orcOf_ok span_Parts_tb) (dr := span_Parts_dr) (lps := lpsOf span_Parts_lt) (lps_fn (lps_of (n := 1) (by kernel_rfl) fun i hi => match i, hi with | 0, _ => lp_ok (E := span_Parts_e1) (by kernel_rfl) span_Parts_e1_ok)) (fun d dh => by kernel_rfl)

def watershedlaw04_awake_dr : Nat → DrA
  | _ => ⟨[], [], [], [], [], false⟩
noncomputable def watershedlaw04_awake_tb : List (CE CT Try.prog) := [span_All_ce, span_Cut_ce, span_Meet_ce, span_Parts_ce, span_Key_ce]
noncomputable def watershedlaw04_awake_lt : List (LE CT Try.prog) := []
noncomputable def watershedlaw04_awake  : Option ((Bool) × (Unit)) :=
  (span_All).bind fun r1 =>
  (span_Cut r1.1 ([([109] : List UInt8)] : List (List UInt8))).bind fun r2 =>
  (span_Meet (⟨([97] : List UInt8), ([99] : List UInt8)⟩ : DSpan) (⟨([98] : List UInt8), ([] : List UInt8)⟩ : DSpan)).bind fun r3 =>
  (bif (decide (((r2.1.length : Int) : Int) = 2)) then
  (getI r2.1 0).bind fun e4 =>
  (bif (decide (e4.lo = ([] : List UInt8)) && (decide (e4.hi = ([109] : List UInt8)) && true)) then
  (getI r2.1 1).bind fun e5 =>
  (bif (decide (e5.lo = ([109] : List UInt8)) && (decide (e5.hi = ([] : List UInt8)) && true)) then
  (bif r3.1.2.1 then
  (bif (decide (r3.1.1.lo = ([98] : List UInt8)) && (decide (r3.1.1.hi = ([99] : List UInt8)) && true)) then
  (span_Parts r2.1).bind fun r6 =>
  (bif r6.1 then
  (span_Key ([97, 49] : List UInt8)).bind fun r7 =>
  (bif r7.1 then
  (span_Key ([65] : List UInt8)).bind fun r8 =>
  some ((!r8.1), ())
  else
  some (false, ()))
  else
  some (false, ()))
  else
  some (false, ()))
  else
  some (false, ()))
  else
  some (false, ()))
  else
  some (false, ()))
  else
  some (false, ()))
noncomputable def watershedlaw04_awake_ce : CE CT Try.prog where
  f := 8
  args := []
  hs := []
  res := .val (.one (.bool))
  outs := []
  m := fun d dh => watershedlaw04_awake
  ok := ce_ok mixedP Try.func8 (by kernel_rfl) (orcOf_ok watershedlaw04_awake_tb) (dr := watershedlaw04_awake_dr) (lps := lpsOf watershedlaw04_awake_lt) (lps_fn (no_loop (by kernel_rfl))) (fun d dh => by kernel_rfl)

def watershedlaw04_few_dr : Nat → DrA
  | _ => ⟨[], [], [], [], [], false⟩
noncomputable def watershedlaw04_few_tb : List (CE CT Try.prog) := []
noncomputable def watershedlaw04_few_l1 (a : ((List (List UInt8)) × (Int) × Unit) × (Unit)) : Option ((((List (List UInt8)) × (Int) × Unit) × (Unit)) ⊕ ((((Bool) × Unit) × (Unit)) ⊕ (((List (List UInt8)) × Unit) × (Unit)))) :=
  (bif (decide ((a.1.2.1 : Int) < (a.1.1.length : Int))) then
  (bif (decide ((a.1.2.1 : Int) < 61)) then
  (getI a.1.1 a.1.2.1).bind fun e1 =>
  (bif (decide ((40 : Int) < (e1.length : Int))) then
  some (.inr (.inl ((false, ()), ())))
  else
  some (.inl ((a.1.1, (IntKind.i64.wrap (a.1.2.1 + 1)), ()), ())))
  else
  some (.inr (.inr ((a.1.1, ()), ()))))
  else
  some (.inr (.inr ((a.1.1, ()), ()))))
noncomputable def watershedlaw04_few_e1 : LE CT Try.prog := ⟨2, [0, 3], [.one (.sl 2), .one (.int .i64)], [], [⟨.ret, [2], [.one (.bool)], []⟩, ⟨.exit 0, [0], [.one (.sl 2)], []⟩], watershedlaw04_few_l1⟩
noncomputable def watershedlaw04_few_lt : List (LE CT Try.prog) := [watershedlaw04_few_e1]
theorem watershedlaw04_few_e1_ok : LeOk watershedlaw04_few_e1 (nthL (bodyOf Try.f9) 0) := fun A env h k z hk => le_ok (E := watershedlaw04_few_e1) (orcOf_ok watershedlaw04_few_tb) (dr := watershedlaw04_few_dr) (lps := lpsOf watershedlaw04_few_lt) (no_loop (by kernel_rfl)) (fun a => by kernel_rfl) env h k z hk
noncomputable def watershedlaw04_few (x0 : List (List UInt8)) : Option ((Bool) × (Unit)) :=
  (loopM watershedlaw04_few_l1 ((x0, 0, ()), ())).bind fun b1 =>
  (match b1 with
  | .inl b2 =>
  some (b2.1.1, ())
  | .inr b3 =>
  some ((decide (((b3.1.1.length : Int) : Int) ≤ 60)), ()))
noncomputable def watershedlaw04_few_ce : CE CT Try.prog where
  f := 9
  args := [.one (.sl 2)]
  hs := []
  res := .val (.one (.bool))
  outs := []
  m := fun d dh => watershedlaw04_few d.1
  ok := ce_ok mixedP Try.func9 (by kernel_rfl) (orcOf_ok watershedlaw04_few_tb) (dr := watershedlaw04_few_dr) (lps := lpsOf watershedlaw04_few_lt) (lps_fn (lps_of (n := 1) (by kernel_rfl) fun i hi => match i, hi with | 0, _ => lp_ok (E := watershedlaw04_few_e1) (by kernel_rfl) watershedlaw04_few_e1_ok)) (fun d dh => by kernel_rfl)

def watershedref04_Key_dr : Nat → DrA
  | _ => ⟨[], [], [], [], [], false⟩
noncomputable def watershedref04_Key_tb : List (CE CT Try.prog) := []
noncomputable def watershedref04_Key_l1 (a : ((List UInt8) × (Int) × Unit) × (Unit)) : Option ((((List UInt8) × (Int) × Unit) × (Unit)) ⊕ ((((Bool) × Unit) × (Unit)) ⊕ ((Unit) × (Unit)))) :=
  (bif (decide ((a.1.2.1 : Int) < (a.1.1.length : Int))) then
  (getI a.1.1 a.1.2.1).bind fun e1 =>
  (bif (decide ((97 : Int) ≤ (e1.toNat : Int))) then
  (getI a.1.1 a.1.2.1).bind fun e2 =>
  (bif (decide (((e2.toNat : Int) : Int) ≤ 122)) then
  some (.inl ((a.1.1, (IntKind.i64.wrap (a.1.2.1 + 1)), ()), ()))
  else
  (getI a.1.1 a.1.2.1).bind fun e3 =>
  (bif (decide ((48 : Int) ≤ (e3.toNat : Int))) then
  (getI a.1.1 a.1.2.1).bind fun e4 =>
  (bif (!(decide (((e4.toNat : Int) : Int) ≤ 57))) then
  some (.inr (.inl ((false, ()), ())))
  else
  some (.inl ((a.1.1, (IntKind.i64.wrap (a.1.2.1 + 1)), ()), ())))
  else
  some (.inr (.inl ((false, ()), ())))))
  else
  (getI a.1.1 a.1.2.1).bind fun e5 =>
  (bif (decide ((48 : Int) ≤ (e5.toNat : Int))) then
  (getI a.1.1 a.1.2.1).bind fun e6 =>
  (bif (!(decide (((e6.toNat : Int) : Int) ≤ 57))) then
  some (.inr (.inl ((false, ()), ())))
  else
  some (.inl ((a.1.1, (IntKind.i64.wrap (a.1.2.1 + 1)), ()), ())))
  else
  some (.inr (.inl ((false, ()), ())))))
  else
  some (.inr (.inr ((), ()))))
noncomputable def watershedref04_Key_e1 : LE CT Try.prog := ⟨4, [0, 3], [.one (.str), .one (.int .i64)], [], [⟨.ret, [2], [.one (.bool)], []⟩, ⟨.exit 0, [], [], []⟩], watershedref04_Key_l1⟩
noncomputable def watershedref04_Key_lt : List (LE CT Try.prog) := [watershedref04_Key_e1]
theorem watershedref04_Key_e1_ok : LeOk watershedref04_Key_e1 (nthL (bodyOf Try.f19) 0) := fun A env h k z hk => le_ok (E := watershedref04_Key_e1) (orcOf_ok watershedref04_Key_tb) (dr := watershedref04_Key_dr) (lps := lpsOf watershedref04_Key_lt) (no_loop (by kernel_rfl)) (fun a => by kernel_rfl) env h k z hk
noncomputable def watershedref04_Key (x0 : List UInt8) : Option ((Bool) × (Unit)) :=
  (bif (decide (((x0.length : Int) : Int) < 1)) then
  some (false, ())
  else
  (bif (decide ((20 : Int) < (x0.length : Int))) then
  some (false, ())
  else
  (loopM watershedref04_Key_l1 ((x0, 0, ()), ())).bind fun b1 =>
  (match b1 with
  | .inl b2 =>
  some (b2.1.1, ())
  | .inr b3 =>
  some (true, ()))))
noncomputable def watershedref04_Key_ce : CE CT Try.prog where
  f := 19
  args := [.one (.str)]
  hs := []
  res := .val (.one (.bool))
  outs := []
  m := fun d dh => watershedref04_Key d.1
  ok := ce_ok mixedP Try.func19 (by kernel_rfl) (orcOf_ok watershedref04_Key_tb) (dr := watershedref04_Key_dr) (lps := lpsOf watershedref04_Key_lt) (lps_fn (lps_of (n := 1) (by kernel_rfl) fun i hi => match i, hi with | 0, _ => lp_ok (E := watershedref04_Key_e1) (by kernel_rfl) watershedref04_Key_e1_ok)) (fun d dh => by kernel_rfl)

def watershedref04_Right_dr : Nat → DrA
  | _ => ⟨[], [], [], [], [], false⟩
noncomputable def watershedref04_Right_tb : List (CE CT Try.prog) := [watershedref04_Key_ce]
noncomputable def watershedref04_Right_lt : List (LE CT Try.prog) := []
noncomputable def watershedref04_Right (x0 : DSpan) : Option ((Bool) × (Unit)) :=
  (bif (decide (x0.lo ≠ ([] : List UInt8))) then
  (watershedref04_Key x0.lo).bind fun r1 =>
  (bif (!r1.1) then
  some (false, ())
  else
  (bif (decide (x0.hi = ([] : List UInt8))) then
  some (true, ())
  else
  (watershedref04_Key x0.hi).bind fun r2 =>
  (bif r2.1 then
  some ((decide (x0.lo < x0.hi)), ())
  else
  some (false, ()))))
  else
  (bif (decide (x0.hi = ([] : List UInt8))) then
  some (true, ())
  else
  (watershedref04_Key x0.hi).bind fun r3 =>
  (bif r3.1 then
  some ((decide (x0.lo < x0.hi)), ())
  else
  some (false, ()))))
noncomputable def watershedref04_Right_ce : CE CT Try.prog where
  f := 17
  args := [.cod 4]
  hs := []
  res := .val (.one (.bool))
  outs := []
  m := fun d dh => watershedref04_Right d.1
  ok := ce_ok mixedP Try.func17 (by kernel_rfl) (orcOf_ok watershedref04_Right_tb) (dr := watershedref04_Right_dr) (lps := lpsOf watershedref04_Right_lt) (lps_fn (no_loop (by kernel_rfl))) (fun d dh => by kernel_rfl)

def watershedref04_Meet_dr : Nat → DrA
  | _ => ⟨[], [], [], [], [], false⟩
noncomputable def watershedref04_Meet_tb : List (CE CT Try.prog) := [watershedref04_Right_ce]
noncomputable def watershedref04_Meet_lt : List (LE CT Try.prog) := []
noncomputable def watershedref04_Meet (x0 : DSpan) (x1 : DSpan) : Option (((DSpan) × (Bool) × Unit) × (Unit)) :=
  (bif (decide (x0.hi = ([] : List UInt8))) then
  (watershedref04_Right x0).bind fun r1 =>
  (bif (!r1.1) then
  some (((⟨([] : List UInt8), ([] : List UInt8)⟩ : DSpan), false, ()), ())
  else
  (watershedref04_Right x1).bind fun r2 =>
  (bif (!r2.1) then
  some (((⟨([] : List UInt8), ([] : List UInt8)⟩ : DSpan), false, ()), ())
  else
  (watershedref04_Right (⟨(bif !decide (x0.lo < x1.lo) then x0.lo else x1.lo), x1.hi⟩ : DSpan)).bind fun r3 =>
  (bif (!r3.1) then
  some (((⟨([] : List UInt8), ([] : List UInt8)⟩ : DSpan), false, ()), ())
  else
  some (((⟨(bif !decide (x0.lo < x1.lo) then x0.lo else x1.lo), x1.hi⟩ : DSpan), true, ()), ()))))
  else
  (bif (decide (x1.hi ≠ ([] : List UInt8))) then
  (bif (decide (x1.hi < x0.hi)) then
  (watershedref04_Right x0).bind fun r4 =>
  (bif (!r4.1) then
  some (((⟨([] : List UInt8), ([] : List UInt8)⟩ : DSpan), false, ()), ())
  else
  (watershedref04_Right x1).bind fun r5 =>
  (bif (!r5.1) then
  some (((⟨([] : List UInt8), ([] : List UInt8)⟩ : DSpan), false, ()), ())
  else
  (watershedref04_Right (⟨(bif !decide (x0.lo < x1.lo) then x0.lo else x1.lo), x1.hi⟩ : DSpan)).bind fun r6 =>
  (bif (!r6.1) then
  some (((⟨([] : List UInt8), ([] : List UInt8)⟩ : DSpan), false, ()), ())
  else
  some (((⟨(bif !decide (x0.lo < x1.lo) then x0.lo else x1.lo), x1.hi⟩ : DSpan), true, ()), ()))))
  else
  (watershedref04_Right x0).bind fun r7 =>
  (bif (!r7.1) then
  some (((⟨([] : List UInt8), ([] : List UInt8)⟩ : DSpan), false, ()), ())
  else
  (watershedref04_Right x1).bind fun r8 =>
  (bif (!r8.1) then
  some (((⟨([] : List UInt8), ([] : List UInt8)⟩ : DSpan), false, ()), ())
  else
  (watershedref04_Right (⟨(bif !decide (x0.lo < x1.lo) then x0.lo else x1.lo), x0.hi⟩ : DSpan)).bind fun r9 =>
  (bif (!r9.1) then
  some (((⟨([] : List UInt8), ([] : List UInt8)⟩ : DSpan), false, ()), ())
  else
  some (((⟨(bif !decide (x0.lo < x1.lo) then x0.lo else x1.lo), x0.hi⟩ : DSpan), true, ()), ())))))
  else
  (watershedref04_Right x0).bind fun r10 =>
  (bif (!r10.1) then
  some (((⟨([] : List UInt8), ([] : List UInt8)⟩ : DSpan), false, ()), ())
  else
  (watershedref04_Right x1).bind fun r11 =>
  (bif (!r11.1) then
  some (((⟨([] : List UInt8), ([] : List UInt8)⟩ : DSpan), false, ()), ())
  else
  (watershedref04_Right (⟨(bif !decide (x0.lo < x1.lo) then x0.lo else x1.lo), x0.hi⟩ : DSpan)).bind fun r12 =>
  (bif (!r12.1) then
  some (((⟨([] : List UInt8), ([] : List UInt8)⟩ : DSpan), false, ()), ())
  else
  some (((⟨(bif !decide (x0.lo < x1.lo) then x0.lo else x1.lo), x0.hi⟩ : DSpan), true, ()), ()))))))
noncomputable def watershedref04_Meet_ce : CE CT Try.prog where
  f := 13
  args := [.cod 4, .cod 4]
  hs := []
  res := .tup [.cod 4, .one (.bool)]
  outs := []
  m := fun d dh => watershedref04_Meet d.1 d.2.1
  ok := ce_ok mixedP Try.func13 (by kernel_rfl) (orcOf_ok watershedref04_Meet_tb) (dr := watershedref04_Meet_dr) (lps := lpsOf watershedref04_Meet_lt) (lps_fn (no_loop (by kernel_rfl))) (fun d dh => by kernel_rfl)

def span_Within_dr : Nat → DrA
  | _ => ⟨[], [], [], [], [], false⟩
noncomputable def span_Within_tb : List (CE CT Try.prog) := [span_ends_ce, span_Right_ce, span_compare_ce, span_over_ce]
noncomputable def span_Within_lt : List (LE CT Try.prog) := []
noncomputable def span_Within (x0 : DSpan) (x1 : DSpan) : Option ((Bool) × (Unit)) :=
  (span_ends x0).bind fun r1 =>
  (span_ends x1).bind fun r2 =>
  (span_Right x0).bind fun r3 =>
  (bif r3.1 then
  (span_Right x1).bind fun r4 =>
  (bif r4.1 then
  (span_compare r2.1.1.text r1.1.1.text).bind fun r5 =>
  (bif (decide ((r5.1 : Int) ≤ 0)) then
  (span_over r2.1.2.1 r1.1.2.1).bind fun r6 =>
  some (r6.1, ())
  else
  some (false, ()))
  else
  some (false, ()))
  else
  some (false, ()))
noncomputable def span_Within_ce : CE CT Try.prog where
  f := 14
  args := [.cod 4, .cod 4]
  hs := []
  res := .val (.one (.bool))
  outs := []
  m := fun d dh => span_Within d.1 d.2.1
  ok := ce_ok mixedP Try.func14 (by kernel_rfl) (orcOf_ok span_Within_tb) (dr := span_Within_dr) (lps := lpsOf span_Within_lt) (lps_fn (no_loop (by kernel_rfl))) (fun d dh => by kernel_rfl)

def watershedref04_Within_dr : Nat → DrA
  | _ => ⟨[], [], [], [], [], false⟩
noncomputable def watershedref04_Within_tb : List (CE CT Try.prog) := [watershedref04_Right_ce]
noncomputable def watershedref04_Within_lt : List (LE CT Try.prog) := []
noncomputable def watershedref04_Within (x0 : DSpan) (x1 : DSpan) : Option ((Bool) × (Unit)) :=
  (watershedref04_Right x0).bind fun r1 =>
  (bif r1.1 then
  (watershedref04_Right x1).bind fun r2 =>
  (bif r2.1 then
  (bif (decide (x1.lo < x0.lo) || decide (x1.lo = x0.lo)) then
  (bif (decide (x1.hi = ([] : List UInt8))) then
  some (true, ())
  else
  (bif (decide (x0.hi ≠ ([] : List UInt8))) then
  some ((decide (x0.hi < x1.hi) || decide (x0.hi = x1.hi)), ())
  else
  some (false, ())))
  else
  some (false, ()))
  else
  some (false, ()))
  else
  some (false, ()))
noncomputable def watershedref04_Within_ce : CE CT Try.prog where
  f := 15
  args := [.cod 4, .cod 4]
  hs := []
  res := .val (.one (.bool))
  outs := []
  m := fun d dh => watershedref04_Within d.1 d.2.1
  ok := ce_ok mixedP Try.func15 (by kernel_rfl) (orcOf_ok watershedref04_Within_tb) (dr := watershedref04_Within_dr) (lps := lpsOf watershedref04_Within_lt) (lps_fn (no_loop (by kernel_rfl))) (fun d dh => by kernel_rfl)

def watershedref04_Has_dr : Nat → DrA
  | _ => ⟨[], [], [], [], [], false⟩
noncomputable def watershedref04_Has_tb : List (CE CT Try.prog) := [watershedref04_Right_ce, watershedref04_Key_ce]
noncomputable def watershedref04_Has_lt : List (LE CT Try.prog) := []
noncomputable def watershedref04_Has (x0 : DSpan) (x1 : List UInt8) : Option ((Bool) × (Unit)) :=
  (watershedref04_Right x0).bind fun r1 =>
  (bif r1.1 then
  (watershedref04_Key x1).bind fun r2 =>
  (bif r2.1 then
  (bif (decide (x0.lo < x1) || decide (x0.lo = x1)) then
  (bif (decide (x0.hi = ([] : List UInt8))) then
  some (true, ())
  else
  some ((decide (x1 < x0.hi)), ()))
  else
  some (false, ()))
  else
  some (false, ()))
  else
  some (false, ()))
noncomputable def watershedref04_Has_ce : CE CT Try.prog where
  f := 21
  args := [.cod 4, .one (.str)]
  hs := []
  res := .val (.one (.bool))
  outs := []
  m := fun d dh => watershedref04_Has d.1 d.2.1
  ok := ce_ok mixedP Try.func21 (by kernel_rfl) (orcOf_ok watershedref04_Has_tb) (dr := watershedref04_Has_dr) (lps := lpsOf watershedref04_Has_lt) (lps_fn (no_loop (by kernel_rfl))) (fun d dh => by kernel_rfl)

def watershedkit_markText_dr : Nat → DrA
  | _ => ⟨[], [], [], [], [], false⟩
noncomputable def watershedkit_markText_tb : List (CE CT Try.prog) := []
noncomputable def watershedkit_markText_lt : List (LE CT Try.prog) := []
noncomputable def watershedkit_markText (x0 : Int) (x1 : Int) : Option ((List UInt8) × (Unit)) :=
  (b8 35).bind fun u1 =>
  (b8 (IntKind.u8.wrap x0)).bind fun u2 =>
  (b8 (IntKind.u8.wrap ((x0 : Int).fdiv (2 ^ min (8 : Int).toNat (IntKind.i64.bits))))).bind fun u3 =>
  (b8 (IntKind.u8.wrap ((x0 : Int).fdiv (2 ^ min (16 : Int).toNat (IntKind.i64.bits))))).bind fun u4 =>
  (b8 47).bind fun u5 =>
  (b8 (IntKind.u8.wrap x1)).bind fun u6 =>
  (b8 (IntKind.u8.wrap ((x1 : Int).fdiv (2 ^ min (8 : Int).toNat (IntKind.i64.bits))))).bind fun u7 =>
  (b8 (IntKind.u8.wrap ((x1 : Int).fdiv (2 ^ min (16 : Int).toNat (IntKind.i64.bits))))).bind fun u8 =>
  some (([u1, u2, u3, u4, u5, u6, u7, u8] : List (UInt8)), ())
noncomputable def watershedkit_markText_ce : CE CT Try.prog where
  f := 33
  args := [.one (.int .i64), .one (.int .i64)]
  hs := []
  res := .val (.one (.str))
  outs := []
  m := fun d dh => watershedkit_markText d.1 d.2.1
  ok := ce_ok mixedP Try.func33 (by kernel_rfl) (orcOf_ok watershedkit_markText_tb) (dr := watershedkit_markText_dr) (lps := lpsOf watershedkit_markText_lt) (lps_fn (no_loop (by kernel_rfl))) (fun d dh => by kernel_rfl)

def watershedkit_LentTexts_dr : Nat → DrA
  | _ => ⟨[], [], [], [], [], false⟩
noncomputable def watershedkit_LentTexts_tb : List (CE CT Try.prog) := [watershedkit_markText_ce]
noncomputable def watershedkit_LentTexts_l1 (a : ((List (List UInt8)) × (Nat × Nat × Nat) × (Int) × Unit) × ((List (List UInt8)) × Unit)) : Option ((((List (List UInt8)) × (Nat × Nat × Nat) × (Int) × Unit) × ((List (List UInt8)) × Unit)) ⊕ ((((List (List UInt8)) × (Nat × Nat × Nat) × Unit) × ((List (List UInt8)) × Unit)))) :=
  (bif (decide ((a.1.2.2.1 : Int) < 12)) then
  (watershedkit_markText 1 a.1.2.2.1).bind fun r1 =>
  (if (a.1.2.1.2.1 + ([r1.1] : List (List UInt8)).length) ≤ 140737488355328 ∧ (a.1.2.1.2.1 + ([r1.1] : List (List UInt8)).length) * 16 ≤ 140737488355328 ∧ a.1.2.1.1 + a.1.2.1.2.1 ≤ a.2.1.length then
  (if (a.1.2.1.2.1 + ([r1.1] : List (List UInt8)).length) ≤ a.1.2.1.2.2 then
  let y2 : List (List UInt8) := (a.2.1.take (a.1.2.1.1 + a.1.2.1.2.1) ++ ([r1.1] : List (List UInt8)) ++ a.2.1.drop (a.1.2.1.1 + a.1.2.1.2.1 + ([r1.1] : List (List UInt8)).length))
  some (.inl ((a.1.1, (a.1.2.1.1, (a.1.2.1.2.1 + ([r1.1] : List (List UInt8)).length), a.1.2.1.2.2), (IntKind.i64.wrap (a.1.2.2.1 + 1)), ()), (y2, ())))
  else none)
  else none)
  else
  some (.inr ((a.1.1, (a.1.2.1.1, a.1.2.1.2.1, a.1.2.1.2.2), ()), (a.2.1, ()))))
noncomputable def watershedkit_LentTexts_e1 : LE CT Try.prog := ⟨4, [0, 3, 4], [.one (.sl 2), .one (.as 2 0), .one (.int .i64)], [.arr 9 2 true], [⟨.exit 0, [0, 3], [.one (.sl 2), .one (.as 2 0)], [.arr 9 2 true]⟩], watershedkit_LentTexts_l1⟩
noncomputable def watershedkit_LentTexts_lt : List (LE CT Try.prog) := [watershedkit_LentTexts_e1]
theorem watershedkit_LentTexts_e1_ok : LeOk watershedkit_LentTexts_e1 (nthL (bodyOf Try.f22) 0) := fun A env h k z hk => le_ok (E := watershedkit_LentTexts_e1) (orcOf_ok watershedkit_LentTexts_tb) (dr := watershedkit_LentTexts_dr) (lps := lpsOf watershedkit_LentTexts_lt) (no_loop (by kernel_rfl)) (fun a => by kernel_rfl) env h k z hk
noncomputable def watershedkit_LentTexts (x0 : List (List UInt8)) : Option ((Nat × Nat × Nat) × ((List (List UInt8)) × Unit)) :=
  (if 0 ≤ (0 : Int) ∧ (0 : Int) ≤ (IntKind.i64.wrap ((x0.length : Int) + 12)) ∧ ((IntKind.i64.wrap ((x0.length : Int) + 12)) : Int) ≤ 140737488355328 ∧ ((16 : Nat) : Int) * (IntKind.i64.wrap ((x0.length : Int) + 12)) ≤ 140737488355328 then
  let y1 : List (List UInt8) := (List.replicate ((IntKind.i64.wrap ((x0.length : Int) + 12)) : Int).toNat (([] : List UInt8) : List UInt8))
  (if ((0 : Int).toNat + x0.length) ≤ 140737488355328 ∧ ((0 : Int).toNat + x0.length) * 16 ≤ 140737488355328 ∧ 0 + (0 : Int).toNat ≤ y1.length then
  (if ((0 : Int).toNat + x0.length) ≤ ((IntKind.i64.wrap ((x0.length : Int) + 12)) : Int).toNat then
  let y2 : List (List UInt8) := (y1.take (0 + (0 : Int).toNat) ++ x0 ++ y1.drop (0 + (0 : Int).toNat + x0.length))
  (loopM watershedkit_LentTexts_l1 ((x0, (0, ((0 : Int).toNat + x0.length), ((IntKind.i64.wrap ((x0.length : Int) + 12)) : Int).toNat), 0, ()), (y2, ()))).bind fun b3 =>
  (if 0 ≤ (0 : Int) ∧ (0 : Int) ≤ ((b3.1.1.length : Int) : Int) ∧ ((b3.1.1.length : Int) : Int) ≤ ((b3.1.2.1.2.2 : Nat) : Int) ∧ ((b3.1.1.length : Int) : Int) ≤ 140737488355328 then
  some (((b3.1.2.1.1 + (0 : Int).toNat), (((b3.1.1.length : Int) : Int).toNat - (0 : Int).toNat), (b3.1.2.1.2.2 - (0 : Int).toNat)), (b3.2.1, ()))
  else none)
  else none)
  else none)
  else none)
noncomputable def watershedkit_LentTexts_ce : CE CT Try.prog where
  f := 22
  args := [.one (.sl 2)]
  hs := []
  res := .val (.one (.as 2 0))
  outs := [.arr 9 2 false]
  m := fun d dh => watershedkit_LentTexts d.1
  ok := ce_ok mixedP Try.func22 (by kernel_rfl) (orcOf_ok watershedkit_LentTexts_tb) (dr := watershedkit_LentTexts_dr) (lps := lpsOf watershedkit_LentTexts_lt) (lps_fn (lps_of (n := 1) (by kernel_rfl) fun i hi => match i, hi with | 0, _ => lp_ok (E := watershedkit_LentTexts_e1) (by kernel_rfl) watershedkit_LentTexts_e1_ok)) (fun d dh => by kernel_rfl)

noncomputable def watershedkit_LentTexts_x (x0 : List (List UInt8)) : Option ((List (List UInt8) × List (List UInt8)) × Unit) :=
  (watershedkit_LentTexts x0).bind fun r => if r.1.1 = 0 ∧ r.1.2.1 ≤ r.2.1.length ∧ r.2.1.length ≤ 140737488355328 then some ((r.2.1.take r.1.2.1, r.2.1.drop r.1.2.1), ()) else none
noncomputable def watershedkit_LentTexts_x_ce : CE CT Try.prog where
  f := 22
  args := [.one (.sl 2)]
  hs := []
  res := .val (.one (.slx 2))
  outs := []
  m := fun d dh => watershedkit_LentTexts_x d.1
  ok := fun d dh r hr => by
    unfold watershedkit_LentTexts_x at hr
    obtain ⟨⟨⟨lo, n, c⟩, xs, u⟩, h1, h2⟩ := bind_some' hr
    dsimp only at h2
    split at h2
    · rename_i hc
      injection h2 with h2
      subst h2
      obtain ⟨rfl, hc2, hc3⟩ := hc
      exact Tr.freezeX hc2 hc3 (watershedkit_LentTexts_ce.ok d dh _ h1)
    · cases h2

def watershedref04_Cut_dr : Nat → DrA
  | 3 => ⟨[], [], [], [], [], true⟩
  | 11 => ⟨[1, 2, 3, 0, 4, 5, 6, 7, 8, 9, 10, 12, 11, 13, 14, 15], [[], [], [], [1, 2], [1, 2, 3], [0, 1, 2, 3, 4], [0, 1, 2, 3, 4, 5], [0, 1, 2, 3, 4, 5, 6], [0, 1, 2, 3, 4, 5, 6, 7], [0, 1, 2, 3, 4, 5, 6, 7], [0, 1, 2, 3, 4, 5, 6, 7, 8, 9], [0, 1, 2, 3, 4, 5, 6, 7, 8, 9, 10], [0, 1, 2, 3, 4, 5, 6, 7], [0, 1, 2, 3, 4, 5, 6, 7, 12], [0, 1, 2, 3, 4, 5, 6, 7, 8, 9, 10, 11, 12, 13], [0, 1, 2, 3, 4, 5, 6, 7, 8, 9, 10, 11, 12, 13, 14]], [], [], [], false⟩
  | 12 => ⟨[], [], [], [], [], true⟩
  | 13 => ⟨[0, 1, 2, 3, 5, 6, 7, 10, 11, 12, 14, 19, 4, 8, 9, 13, 15, 16, 17, 18, 20, 21], [[], [], [0, 1], [], [3], [], [], [5, 6], [5, 6, 7], [3, 4, 5, 6, 7, 8], [], [], [10, 11], [10, 11, 12], [], [14], [10, 11, 12, 13, 14, 15], [3, 4, 5, 6, 7, 8, 9, 10, 11, 12, 13, 14, 15, 16], [0, 1, 2, 3, 4, 5, 6, 7, 8, 9, 10, 11, 12, 13, 14, 15, 16, 17], [], [0, 1, 2, 3, 4, 5, 6, 7, 8, 9, 10, 11, 12, 13, 14, 15, 16, 17, 18, 19], [0, 1, 2, 3, 4, 5, 6, 7, 8, 9, 10, 11, 12, 13, 14, 15, 16, 17, 18, 19, 20]], [], [], [], false⟩
  | _ => ⟨[], [], [], [], [], false⟩
noncomputable def watershedref04_Cut_tb : List (CE CT Try.prog) := [watershedref04_Right_ce, watershedref04_Has_ce]
noncomputable def watershedref04_Cut_l2 (a : ((List (List UInt8)) × (Nat) × (Int) × (Int) × Unit) × ((List (DSpan)) × Unit)) : Option ((((List (List UInt8)) × (Nat) × (Int) × (Int) × Unit) × ((List (DSpan)) × Unit)) ⊕ ((((List (List UInt8)) × (Nat) × (Int) × Unit) × ((Unit) × (List (DSpan)) × Unit)))) :=
  (bif (decide ((a.1.2.2.2.1 : Int) < ((a.1.2.1 : Nat) : Int))) then
  (if 0 ≤ (a.1.2.2.2.1 : Int) ∧ (a.1.2.2.2.1 : Int) < ((a.1.2.1 : Nat) : Int) then
  (a.2.1[(0 + (a.1.2.2.2.1 : Int).toNat)]?).bind fun e1 =>
  (getI a.1.1 a.1.2.2.1).bind fun e2 =>
  (watershedref04_Has e1 e2).bind fun r3 =>
  (bif (!r3.1) then
  some (.inl ((a.1.1, a.1.2.1, a.1.2.2.1, (IntKind.i64.wrap (a.1.2.2.2.1 + 1)), ()), (a.2.1, ())))
  else
  (getI a.1.1 a.1.2.2.1).bind fun e4 =>
  (bif (decide (e4 = e1.lo)) then
  some (.inl ((a.1.1, a.1.2.1, a.1.2.2.1, (IntKind.i64.wrap (a.1.2.2.2.1 + 1)), ()), (a.2.1, ())))
  else
  (if 0 ≤ ((IntKind.i64.wrap (a.1.2.2.2.1 + 1)) : Int) ∧ ((IntKind.i64.wrap (a.1.2.2.2.1 + 1)) : Int) ≤ ((a.1.2.1 : Nat) : Int) ∧ ((a.1.2.1 : Nat) : Int) ≤ ((a.1.2.1 : Nat) : Int) ∧ ((a.1.2.1 : Nat) : Int) ≤ 140737488355328 then
  (if (0 + ((IntKind.i64.wrap (a.1.2.2.2.1 + 1)) : Int).toNat) + (((a.1.2.1 : Nat) : Int).toNat - ((IntKind.i64.wrap (a.1.2.2.2.1 + 1)) : Int).toNat) ≤ a.2.1.length then
  let y5 : List (DSpan) := ((a.2.1.drop (0 + ((IntKind.i64.wrap (a.1.2.2.2.1 + 1)) : Int).toNat)).take (((a.1.2.1 : Nat) : Int).toNat - ((IntKind.i64.wrap (a.1.2.2.2.1 + 1)) : Int).toNat))
  (if (0 + y5.length) ≤ 140737488355328 ∧ (0 + y5.length) * 32 ≤ 140737488355328 ∧ 0 + 0 ≤ ([] : List (DSpan)).length then
  (if (0 + y5.length) ≤ 0 then
  let y6 : List (DSpan) := (([] : List (DSpan)).take (0 + 0) ++ y5 ++ ([] : List (DSpan)).drop (0 + 0 + y5.length))
  (if 0 ≤ (0 : Int) ∧ (0 : Int) ≤ (a.1.2.2.2.1 : Int) ∧ (a.1.2.2.2.1 : Int) ≤ ((a.1.2.1 : Nat) : Int) ∧ (a.1.2.2.2.1 : Int) ≤ 140737488355328 then
  (getI a.1.1 a.1.2.2.1).bind fun e7 =>
  (getI a.1.1 a.1.2.2.1).bind fun e8 =>
  (if (((a.1.2.2.2.1 : Int).toNat - (0 : Int).toNat) + ([(⟨e1.lo, e7⟩ : DSpan), (⟨e8, e1.hi⟩ : DSpan)] : List (DSpan)).length) ≤ 140737488355328 ∧ (((a.1.2.2.2.1 : Int).toNat - (0 : Int).toNat) + ([(⟨e1.lo, e7⟩ : DSpan), (⟨e8, e1.hi⟩ : DSpan)] : List (DSpan)).length) * 32 ≤ 140737488355328 ∧ 0 + ((a.1.2.2.2.1 : Int).toNat - (0 : Int).toNat) ≤ a.2.1.length then
  let y9 : List (DSpan) := (a.2.1.take ((a.1.2.2.2.1 : Int).toNat - (0 : Int).toNat) ++ ([(⟨e1.lo, e7⟩ : DSpan), (⟨e8, e1.hi⟩ : DSpan)] : List (DSpan)))
  (if 0 + (0 + y5.length) ≤ y6.length then
  (if ((((a.1.2.2.2.1 : Int).toNat - (0 : Int).toNat) + ([(⟨e1.lo, e7⟩ : DSpan), (⟨e8, e1.hi⟩ : DSpan)] : List (DSpan)).length) + ((y6.drop 0).take (0 + y5.length)).length) ≤ 140737488355328 ∧ ((((a.1.2.2.2.1 : Int).toNat - (0 : Int).toNat) + ([(⟨e1.lo, e7⟩ : DSpan), (⟨e8, e1.hi⟩ : DSpan)] : List (DSpan)).length) + ((y6.drop 0).take (0 + y5.length)).length) * 32 ≤ 140737488355328 ∧ 0 + (((a.1.2.2.2.1 : Int).toNat - (0 : Int).toNat) + ([(⟨e1.lo, e7⟩ : DSpan), (⟨e8, e1.hi⟩ : DSpan)] : List (DSpan)).length) ≤ y9.length then
  let y10 : List (DSpan) := (y9.take (((a.1.2.2.2.1 : Int).toNat - (0 : Int).toNat) + ([(⟨e1.lo, e7⟩ : DSpan), (⟨e8, e1.hi⟩ : DSpan)] : List (DSpan)).length) ++ ((y6.drop 0).take (0 + y5.length)))
  some (.inr ((a.1.1, ((((a.1.2.2.2.1 : Int).toNat - (0 : Int).toNat) + ([(⟨e1.lo, e7⟩ : DSpan), (⟨e8, e1.hi⟩ : DSpan)] : List (DSpan)).length) + ((y6.drop 0).take (0 + y5.length)).length), a.1.2.2.1, ()), ((), y10, ())))
  else none)
  else none)
  else none)
  else none)
  else
  (if 0 ≤ (0 : Int) ∧ (0 : Int) ≤ (a.1.2.2.2.1 : Int) ∧ (a.1.2.2.2.1 : Int) ≤ ((a.1.2.1 : Nat) : Int) ∧ (a.1.2.2.2.1 : Int) ≤ 140737488355328 then
  (getI a.1.1 a.1.2.2.1).bind fun e11 =>
  (getI a.1.1 a.1.2.2.1).bind fun e12 =>
  (if (((a.1.2.2.2.1 : Int).toNat - (0 : Int).toNat) + ([(⟨e1.lo, e11⟩ : DSpan), (⟨e12, e1.hi⟩ : DSpan)] : List (DSpan)).length) ≤ 140737488355328 ∧ (((a.1.2.2.2.1 : Int).toNat - (0 : Int).toNat) + ([(⟨e1.lo, e11⟩ : DSpan), (⟨e12, e1.hi⟩ : DSpan)] : List (DSpan)).length) * 32 ≤ 140737488355328 ∧ 0 + ((a.1.2.2.2.1 : Int).toNat - (0 : Int).toNat) ≤ a.2.1.length then
  let y13 : List (DSpan) := (a.2.1.take ((a.1.2.2.2.1 : Int).toNat - (0 : Int).toNat) ++ ([(⟨e1.lo, e11⟩ : DSpan), (⟨e12, e1.hi⟩ : DSpan)] : List (DSpan)))
  (if 0 + (0 + y5.length) ≤ ((([] : List (DSpan)).drop 0).take 0 ++ y5).length then
  let y14 : List (DSpan) := ((((([] : List (DSpan)).drop 0).take 0 ++ y5).drop 0).take (0 + y5.length))
  (if ((((a.1.2.2.2.1 : Int).toNat - (0 : Int).toNat) + ([(⟨e1.lo, e11⟩ : DSpan), (⟨e12, e1.hi⟩ : DSpan)] : List (DSpan)).length) + y14.length) ≤ 140737488355328 ∧ ((((a.1.2.2.2.1 : Int).toNat - (0 : Int).toNat) + ([(⟨e1.lo, e11⟩ : DSpan), (⟨e12, e1.hi⟩ : DSpan)] : List (DSpan)).length) + y14.length) * 32 ≤ 140737488355328 ∧ 0 + (((a.1.2.2.2.1 : Int).toNat - (0 : Int).toNat) + ([(⟨e1.lo, e11⟩ : DSpan), (⟨e12, e1.hi⟩ : DSpan)] : List (DSpan)).length) ≤ y13.length then
  let y15 : List (DSpan) := (y13.take (((a.1.2.2.2.1 : Int).toNat - (0 : Int).toNat) + ([(⟨e1.lo, e11⟩ : DSpan), (⟨e12, e1.hi⟩ : DSpan)] : List (DSpan)).length) ++ y14)
  some (.inr ((a.1.1, ((((a.1.2.2.2.1 : Int).toNat - (0 : Int).toNat) + ([(⟨e1.lo, e11⟩ : DSpan), (⟨e12, e1.hi⟩ : DSpan)] : List (DSpan)).length) + y14.length), a.1.2.2.1, ()), ((), y15, ())))
  else none)
  else none)
  else none)
  else none))
  else none)
  else none)
  else none)))
  else none)
  else
  some (.inr ((a.1.1, a.1.2.1, a.1.2.2.1, ()), ((), a.2.1, ()))))
noncomputable def watershedref04_Cut_e2 : LE CT Try.prog := ⟨8, [1, 5, 6, 7], [.one (.sl 2), .one (.asz 4 0), .one (.int .i64), .one (.int .i64)], [.arr 26 4 false], [⟨.exit 2, [1, 5, 6], [.one (.sl 2), .one (.asz 4 1), .one (.int .i64)], [.dead, .arr 26 4 false]⟩], watershedref04_Cut_l2⟩
noncomputable def watershedref04_Cut_l1 (a : ((List (List UInt8)) × (Nat) × (Int) × Unit) × ((List (DSpan)) × Unit)) : Option ((((List (List UInt8)) × (Nat) × (Int) × Unit) × ((List (DSpan)) × Unit)) ⊕ ((((Nat) × Unit) × ((Unit) × (List (DSpan)) × Unit)))) :=
  (bif (decide ((a.1.2.2.1 : Int) < (a.1.1.length : Int))) then
  (loopM watershedref04_Cut_l2 ((a.1.1, a.1.2.1, a.1.2.2.1, 0, ()), (a.2.1, ()))).bind fun b1 =>
  some (.inl ((b1.1.1, b1.1.2.1, (IntKind.i64.wrap (b1.1.2.2.1 + 1)), ()), (b1.2.2.1, ())))
  else
  some (.inr ((a.1.2.1, ()), ((), a.2.1, ()))))
noncomputable def watershedref04_Cut_e1 : LE CT Try.prog := ⟨5, [1, 5, 6], [.one (.sl 2), .one (.asz 4 0), .one (.int .i64)], [.arr 26 4 false], [⟨.exit 0, [5], [.one (.asz 4 1)], [.dead, .arr 26 4 false]⟩], watershedref04_Cut_l1⟩
noncomputable def watershedref04_Cut_lt : List (LE CT Try.prog) := [watershedref04_Cut_e2, watershedref04_Cut_e1]
theorem watershedref04_Cut_e2_ok : LeOk watershedref04_Cut_e2 (nthL (nthL (bodyOf Try.f25) 0) 0) := fun A env h k z hk => le_ok (E := watershedref04_Cut_e2) (orcOf_ok watershedref04_Cut_tb) (dr := watershedref04_Cut_dr) (lps := lpsOf watershedref04_Cut_lt) (no_loop (by kernel_rfl)) (fun a => by kernel_rfl) env h k z hk
theorem watershedref04_Cut_e1_ok : LeOk watershedref04_Cut_e1 (nthL (bodyOf Try.f25) 0) := fun A env h k z hk => le_ok (E := watershedref04_Cut_e1) (orcOf_ok watershedref04_Cut_tb) (dr := watershedref04_Cut_dr) (lps := lpsOf watershedref04_Cut_lt) (lps_of (n := 1) (by kernel_rfl) fun i hi => match i, hi with | 0, _ => lp_ok (E := watershedref04_Cut_e2) (by kernel_rfl) watershedref04_Cut_e2_ok) (fun a => by kernel_rfl) env h k z hk
noncomputable def watershedref04_Cut (x0 : DSpan) (x1 : List (List UInt8)) : Option ((Nat) × ((List (DSpan)) × Unit)) :=
  (watershedref04_Right x0).bind fun r1 =>
  (bif (!r1.1) then
  some (0, ([], ()))
  else
  (loopM watershedref04_Cut_l1 ((x1, 1, 0, ()), (([x0] : List (DSpan)), ()))).bind fun b2 =>
  some (b2.1.1, (b2.2.2.1, ())))
noncomputable def watershedref04_Cut_ce : CE CT Try.prog where
  f := 25
  args := [.cod 4, .one (.sl 2)]
  hs := []
  res := .val (.one (.asz 4 0))
  outs := [.arr 26 4 false]
  m := fun d dh => watershedref04_Cut d.1 d.2.1
  ok := ce_ok mixedP Try.func25 (by kernel_rfl) (orcOf_ok watershedref04_Cut_tb) (dr := watershedref04_Cut_dr) (lps := lpsOf watershedref04_Cut_lt) (lps_fn (lps_of (n := 1) (by kernel_rfl) fun i hi => match i, hi with | 0, _ => lp_ok (E := watershedref04_Cut_e1) (by kernel_rfl) watershedref04_Cut_e1_ok)) (fun d dh => by kernel_rfl)

def watershedlaw04_same_dr : Nat → DrA
  | 6 => ⟨[0, 1, 2, 4, 5, 6, 3, 7, 8], [[], [], [0, 1], [0, 1, 2], [], [], [4, 5], [4, 5, 6], [0, 1, 2, 3, 4, 5, 6, 7]], [], [], [], false⟩
  | _ => ⟨[], [], [], [], [], false⟩
noncomputable def watershedlaw04_same_tb : List (CE CT Try.prog) := []
noncomputable def watershedlaw04_same_l1 (a : ((List (DSpan)) × (Nat) × (Int) × Unit) × ((List (DSpan)) × Unit)) : Option ((((List (DSpan)) × (Nat) × (Int) × Unit) × ((List (DSpan)) × Unit)) ⊕ ((((Bool) × Unit) × ((List (DSpan)) × Unit)) ⊕ ((Unit) × ((List (DSpan)) × Unit)))) :=
  (bif (decide ((a.1.2.2.1 : Int) < (a.1.1.length : Int))) then
  (getI a.1.1 a.1.2.2.1).bind fun e1 =>
  (if 0 ≤ (a.1.2.2.1 : Int) ∧ (a.1.2.2.1 : Int) < ((a.1.2.1 : Nat) : Int) then
  (a.2.1[(0 + (a.1.2.2.1 : Int).toNat)]?).bind fun e2 =>
  (bif (!(decide (e1.lo = e2.lo) && (decide (e1.hi = e2.hi) && true))) then
  some (.inr (.inl ((false, ()), (a.2.1, ()))))
  else
  some (.inl ((a.1.1, a.1.2.1, (IntKind.i64.wrap (a.1.2.2.1 + 1)), ()), (a.2.1, ()))))
  else none)
  else
  some (.inr (.inr ((), (a.2.1, ())))))
noncomputable def watershedlaw04_same_e1 : LE CT Try.prog := ⟨4, [0, 1, 5], [.one (.sl 4), .one (.asz 4 0), .one (.int .i64)], [.arr 26 4 true], [⟨.ret, [4], [.one (.bool)], [.arr 26 4 true]⟩, ⟨.exit 0, [], [], [.arr 26 4 true]⟩], watershedlaw04_same_l1⟩
noncomputable def watershedlaw04_same_lt : List (LE CT Try.prog) := [watershedlaw04_same_e1]
theorem watershedlaw04_same_e1_ok : LeOk watershedlaw04_same_e1 (nthL (bodyOf Try.f23) 0) := fun A env h k z hk => le_ok (E := watershedlaw04_same_e1) (orcOf_ok watershedlaw04_same_tb) (dr := watershedlaw04_same_dr) (lps := lpsOf watershedlaw04_same_lt) (no_loop (by kernel_rfl)) (fun a => by kernel_rfl) env h k z hk
noncomputable def watershedlaw04_same (x0 : List (DSpan)) (x1 : Nat) (h0 : List (DSpan)) : Option ((Bool) × ((List (DSpan)) × Unit)) :=
  (bif (decide (((x0.length : Int) : Int) ≠ ((x1 : Nat) : Int))) then
  some (false, (h0, ()))
  else
  (loopM watershedlaw04_same_l1 ((x0, x1, 0, ()), (h0, ()))).bind fun b1 =>
  (match b1 with
  | .inl b2 =>
  some (b2.1.1, (b2.2.1, ()))
  | .inr b3 =>
  some (true, (b3.2.1, ()))))
noncomputable def watershedlaw04_same_ce : CE CT Try.prog where
  f := 23
  args := [.one (.sl 4), .one (.asz 4 0)]
  hs := [.arr 26 4 true]
  res := .val (.one (.bool))
  outs := [.arr 26 4 true]
  m := fun d dh => watershedlaw04_same d.1 d.2.1 dh.1
  ok := ce_ok mixedP Try.func23 (by kernel_rfl) (orcOf_ok watershedlaw04_same_tb) (dr := watershedlaw04_same_dr) (lps := lpsOf watershedlaw04_same_lt) (lps_fn (lps_of (n := 1) (by kernel_rfl) fun i hi => match i, hi with | 0, _ => lp_ok (E := watershedlaw04_same_e1) (by kernel_rfl) watershedlaw04_same_e1_ok)) (fun d dh => by kernel_rfl)

def watershedkit_KeptTexts_dr : Nat → DrA
  | 7 => ⟨[0, 1, 2, 3, 4, 5, 6, 7, 9, 10, 11, 8, 12, 13, 14, 15, 16, 17, 18, 19, 20, 21, 22, 23, 24, 26, 27, 28, 29, 25, 30, 31, 32, 33, 34], [[], [], [1], [0, 1, 2], [0, 1, 2, 3], [0, 1, 2, 3, 4], [0, 1, 2, 3, 4], [0, 1, 2, 3, 4, 5, 6], [0, 1, 2, 3, 4, 5, 6, 7], [0, 1, 2, 3, 4], [0, 1, 2, 3, 4], [0, 1, 2, 3, 4, 9, 10], [0, 1, 2, 3, 4, 9, 10, 11], [0, 1, 2, 3, 4, 5, 6, 7, 8, 9, 10, 11, 12], [0, 1, 2, 3, 4, 5, 6, 7, 8, 9, 10, 11, 12, 13], [0, 1, 2, 3, 4, 5, 6, 7, 8, 9, 10, 11, 12, 13, 14], [0, 1, 2, 3, 4, 5, 6, 7, 8, 9, 10, 11, 12, 13, 14, 15], [0, 1, 2, 3, 4, 5, 6, 7, 8, 9, 10, 11, 12, 13, 14, 15, 16], [0, 1, 2, 3, 4, 5, 6, 7, 8, 9, 10, 11, 12, 13, 14, 15, 16], [0, 1, 2, 3, 4, 5, 6, 7, 8, 9, 10, 11, 12, 13, 14, 15, 16, 18], [0, 1, 2, 3, 4, 5, 6, 7, 8, 9, 10, 11, 12, 13, 14, 15, 16, 17, 18, 19], [0, 1, 2, 3, 4, 5, 6, 7, 8, 9, 10, 11, 12, 13, 14, 15, 16, 17, 18, 19, 20], [0, 1, 2, 3, 4, 5, 6, 7, 8, 9, 10, 11, 12, 13, 14, 15, 16, 17, 18, 19, 20, 21], [0, 1, 2, 3, 4, 5, 6, 7, 8, 9, 10, 11, 12, 13, 14, 15, 16, 17, 18, 19, 20, 21], [0, 1, 2, 3, 4, 5, 6, 7, 8, 9, 10, 11, 12, 13, 14, 15, 16, 17, 18, 19, 20, 21, 22, 23], [0, 1, 2, 3, 4, 5, 6, 7, 8, 9, 10, 11, 12, 13, 14, 15, 16, 17, 18, 19, 20, 21, 22, 23, 24], [0, 1, 2, 3, 4, 5, 6, 7, 8, 9, 10, 11, 12, 13, 14, 15, 16, 17, 18, 19, 20, 21], [0, 1, 2, 3, 4, 5, 6, 7, 8, 9, 10, 11, 12, 13, 14, 15, 16, 17, 18, 19, 20, 21], [0, 1, 2, 3, 4, 5, 6, 7, 8, 9, 10, 11, 12, 13, 14, 15, 16, 17, 18, 19, 20, 21, 27], [0, 1, 2, 3, 4, 5, 6, 7, 8, 9, 10, 11, 12, 13, 14, 15, 16, 17, 18, 19, 20, 21, 26, 27, 28], [0, 1, 2, 3, 4, 5, 6, 7, 8, 9, 10, 11, 12, 13, 14, 15, 16, 17, 18, 19, 20, 21, 26, 27, 28, 29], [0, 1, 2, 3, 4, 5, 6, 7, 8, 9, 10, 11, 12, 13, 14, 15, 16, 17, 18, 19, 20, 21, 22, 23, 24, 25, 26, 27, 28, 29, 30], [0, 1, 2, 3, 4, 5, 6, 7, 8, 9, 10, 11, 12, 13, 14, 15, 16, 17, 18, 19, 20, 21, 22, 23, 24, 25, 26, 27, 28, 29, 30, 31], [0, 1, 2, 3, 4, 5, 6, 7, 8, 9, 10, 11, 12, 13, 14, 15, 16, 17, 18, 19, 20, 21, 22, 23, 24, 25, 26, 27, 28, 29, 30, 31, 32], [0, 1, 2, 3, 4, 5, 6, 7, 8, 9, 10, 11, 12, 13, 14, 15, 16, 17, 18, 19, 20, 21, 22, 23, 24, 25, 26, 27, 28, 29, 30, 31, 32, 33]], [25], [30], [], false⟩
  | _ => ⟨[], [], [], [], [], false⟩
noncomputable def watershedkit_KeptTexts_tb : List (CE CT Try.prog) := [watershedkit_markText_ce]
noncomputable def watershedkit_KeptTexts_l1 (a : ((List (List UInt8)) × (List (List UInt8)) × (Int) × Unit) × (Unit)) : Option ((((List (List UInt8)) × (List (List UInt8)) × (Int) × Unit) × (Unit)) ⊕ ((((Bool) × Unit) × (Unit)) ⊕ ((Unit) × (Unit)))) :=
  (bif (decide ((a.1.2.2.1 : Int) < (a.1.2.1.length : Int))) then
  (bif (decide ((a.1.2.2.1 : Int) < (a.1.1.length : Int))) then
  (getI a.1.2.1 a.1.2.2.1).bind fun e1 =>
  (getI a.1.1 a.1.2.2.1).bind fun e2 =>
  (bif (!(decide (e1 = e2))) then
  some (.inr (.inl ((false, ()), ())))
  else
  (bif (decide (((a.1.1.length : Int) : Int) ≤ a.1.2.2.1)) then
  (getI a.1.2.1 a.1.2.2.1).bind fun e3 =>
  (watershedkit_markText 1 (IntKind.i64.wrap (a.1.2.2.1 - (a.1.1.length : Int)))).bind fun r4 =>
  (bif (!(decide (e3 = r4.1))) then
  some (.inr (.inl ((false, ()), ())))
  else
  some (.inl ((a.1.1, a.1.2.1, (IntKind.i64.wrap (a.1.2.2.1 + 1)), ()), ())))
  else
  some (.inl ((a.1.1, a.1.2.1, (IntKind.i64.wrap (a.1.2.2.1 + 1)), ()), ()))))
  else
  (bif (decide (((a.1.1.length : Int) : Int) ≤ a.1.2.2.1)) then
  (getI a.1.2.1 a.1.2.2.1).bind fun e5 =>
  (watershedkit_markText 1 (IntKind.i64.wrap (a.1.2.2.1 - (a.1.1.length : Int)))).bind fun r6 =>
  (bif (!(decide (e5 = r6.1))) then
  some (.inr (.inl ((false, ()), ())))
  else
  some (.inl ((a.1.1, a.1.2.1, (IntKind.i64.wrap (a.1.2.2.1 + 1)), ()), ())))
  else
  some (.inl ((a.1.1, a.1.2.1, (IntKind.i64.wrap (a.1.2.2.1 + 1)), ()), ()))))
  else
  some (.inr (.inr ((), ()))))
noncomputable def watershedkit_KeptTexts_e1 : LE CT Try.prog := ⟨5, [1, 5, 6], [.one (.sl 2), .one (.sl 2), .one (.int .i64)], [], [⟨.ret, [4], [.one (.bool)], []⟩, ⟨.exit 0, [], [], []⟩], watershedkit_KeptTexts_l1⟩
noncomputable def watershedkit_KeptTexts_lt : List (LE CT Try.prog) := [watershedkit_KeptTexts_e1]
theorem watershedkit_KeptTexts_e1_ok : LeOk watershedkit_KeptTexts_e1 (nthL (bodyOf Try.f26) 0) := fun A env h k z hk => le_ok (E := watershedkit_KeptTexts_e1) (orcOf_ok watershedkit_KeptTexts_tb) (dr := watershedkit_KeptTexts_dr) (lps := lpsOf watershedkit_KeptTexts_lt) (no_loop (by kernel_rfl)) (fun a => by kernel_rfl) env h k z hk
noncomputable def watershedkit_KeptTexts (x0 : List (List UInt8) × List (List UInt8)) (x1 : List (List UInt8)) : Option ((Bool) × (Unit)) :=
  (bif (decide (((x0.1.length : Int) : Int) ≠ (x1.length : Int))) then
  some (false, ())
  else
  (if 0 ≤ (0 : Int) ∧ (0 : Int) ≤ (IntKind.i64.wrap ((x1.length : Int) + 12)) ∧ (IntKind.i64.wrap ((x1.length : Int) + 12)) ≤ ((x0.1 ++ x0.2).length : Int) then
  let y1 : List (List UInt8) := (((x0.1 ++ x0.2).drop ((0 : Int) : Int).toNat).take (((IntKind.i64.wrap ((x1.length : Int) + 12)) : Int).toNat - ((0 : Int) : Int).toNat))
  (loopM watershedkit_KeptTexts_l1 ((x1, y1, 0, ()), ())).bind fun b2 =>
  (match b2 with
  | .inl b3 =>
  some (b3.1.1, ())
  | .inr b4 =>
  some (true, ()))
  else none))
noncomputable def watershedkit_KeptTexts_ce : CE CT Try.prog where
  f := 26
  args := [.one (.slx 2), .one (.sl 2)]
  hs := []
  res := .val (.one (.bool))
  outs := []
  m := fun d dh => watershedkit_KeptTexts d.1 d.2.1
  ok := ce_ok mixedP Try.func26 (by kernel_rfl) (orcOf_ok watershedkit_KeptTexts_tb) (dr := watershedkit_KeptTexts_dr) (lps := lpsOf watershedkit_KeptTexts_lt) (lps_fn (lps_of (n := 1) (by kernel_rfl) fun i hi => match i, hi with | 0, _ => lp_ok (E := watershedkit_KeptTexts_e1) (by kernel_rfl) watershedkit_KeptTexts_e1_ok)) (fun d dh => by kernel_rfl)

def watershedlaw04_SpanTells_dr : Nat → DrA
  | 7 => ⟨[0, 1, 2, 3, 4, 5, 6, 7, 8, 9, 10, 12, 13, 11, 14, 15, 16, 17, 18, 20, 19, 21, 22, 23], [[], [], [0, 1], [0, 1, 2], [0, 1, 2, 3], [0, 1, 2, 3], [0, 1, 2, 3, 4, 5], [0, 1, 2, 3, 4, 5, 6], [0, 1, 2, 3, 4, 5, 6, 7], [0, 1, 2, 3, 4, 5, 6, 7, 8], [0, 1, 2, 3, 4, 5, 6, 7, 8], [0, 1, 2, 3, 4, 5, 6, 7, 8, 9, 10], [0, 1, 2, 3, 4, 5, 6, 7, 8], [0, 1, 2, 3, 4, 5, 6, 7, 8], [0, 1, 2, 3, 4, 5, 6, 7, 8, 9, 10, 11, 12, 13], [0, 1, 2, 3, 4, 5, 6, 7, 8, 9, 10, 11, 12, 13, 14], [0, 1, 2, 3, 4, 5, 6, 7, 8, 9, 10, 11, 12, 13, 14, 15], [0, 1, 2, 3, 4, 5, 6, 7, 8, 9, 10, 11, 12, 13, 14, 15, 16], [0, 1, 2, 3, 4, 5, 6, 7, 8, 9, 10, 11, 12, 13, 14, 15, 16, 17], [0, 1, 2, 3, 4, 5, 6, 7, 8, 9, 10, 11, 12, 13, 14, 15, 16, 17, 18], [0, 1, 2, 3, 4, 5, 6, 7, 8, 9, 10, 11, 12, 13, 14, 15, 16, 17], [0, 1, 2, 3, 4, 5, 6, 7, 8, 9, 10, 11, 12, 13, 14, 15, 16, 17, 18, 19, 20], [0, 1, 2, 3, 4, 5, 6, 7, 8, 9, 10, 11, 12, 13, 14, 15, 16, 17, 18, 19, 20, 21], [0, 1, 2, 3, 4, 5, 6, 7, 8, 9, 10, 11, 12, 13, 14, 15, 16, 17, 18, 19, 20, 21, 22]], [12, 13, 20], [11, 19], [0, 1], false⟩
  | 12 => ⟨[0, 1, 2, 5, 6, 7, 3, 8, 4, 9, 10, 11, 13, 14, 15, 19, 20, 21, 12, 16, 18, 22, 17, 23, 24, 25], [[], [], [0, 1], [0, 1, 2], [0, 1, 2, 3], [], [], [5, 6], [5, 6, 7], [0, 1, 2, 3, 4, 5, 6, 7, 8], [0, 1, 2, 3, 4, 5, 6, 7, 8, 9], [0, 1, 2, 3, 4, 5, 6, 7, 8, 9, 10], [0, 1, 2, 3, 4, 5, 6, 7, 8, 9, 10, 11], [0, 1, 2, 3, 4, 5, 6, 7, 8, 9, 10, 11], [0, 1, 2, 3, 4, 5, 6, 7, 8, 9, 10, 11], [0, 1, 2, 3, 4, 5, 6, 7, 8, 9, 10, 11, 13, 14], [0, 1, 2, 3, 4, 5, 6, 7, 8, 9, 10, 11, 13, 14, 15], [0, 1, 2, 3, 4, 5, 6, 7, 8, 9, 10, 11, 12, 13, 14, 15, 16], [0, 1, 2, 3, 4, 5, 6, 7, 8, 9, 10, 11], [0, 1, 2, 3, 4, 5, 6, 7, 8, 9, 10, 11], [0, 1, 2, 3, 4, 5, 6, 7, 8, 9, 10, 11], [0, 1, 2, 3, 4, 5, 6, 7, 8, 9, 10, 11, 19, 20], [0, 1, 2, 3, 4, 5, 6, 7, 8, 9, 10, 11, 19, 20, 21], [0, 1, 2, 3, 4, 5, 6, 7, 8, 9, 10, 11, 12, 13, 14, 15, 16, 17, 18, 19, 20, 21, 22], [0, 1, 2, 3, 4, 5, 6, 7, 8, 9, 10, 11, 12, 13, 14, 15, 16, 17, 18, 19, 20, 21, 22, 23], [0, 1, 2, 3, 4, 5, 6, 7, 8, 9, 10, 11, 12, 13, 14, 15, 16, 17, 18, 19, 20, 21, 22, 23, 24]], [8, 18, 22], [4, 17], [0], false⟩
  | 15 => ⟨[1, 4, 0, 3, 2, 5, 6, 7, 8, 9, 10, 11, 12], [[], [], [0, 1], [], [], [0, 1, 2, 3, 4], [0, 1, 2, 3, 4, 5], [0, 1, 2, 3, 4, 5, 6], [0, 1, 2, 3, 4, 5, 6, 7], [0, 1, 2, 3, 4, 5, 6, 7], [0, 1, 2, 3, 4, 5, 6, 7, 8, 9], [0, 1, 2, 3, 4, 5, 6, 7, 8, 9, 10], [0, 1, 2, 3, 4, 5, 6, 7, 8, 9, 10, 11]], [3], [2], [0], false⟩
  | _ => ⟨[], [], [], [], [], false⟩
noncomputable def watershedlaw04_SpanTells_tb : List (CE CT Try.prog) := [watershedlaw04_awake_ce, watershedlaw04_few_ce, span_Meet_ce, watershedref04_Meet_ce, span_Within_ce, watershedref04_Within_ce, span_Right_ce, watershedref04_Right_ce, span_Key_ce, watershedref04_Key_ce, span_Has_ce, watershedref04_Has_ce, watershedkit_LentTexts_x_ce, span_Cut_ce, watershedref04_Cut_ce, watershedlaw04_same_ce, watershedkit_KeptTexts_ce]
noncomputable def watershedlaw04_SpanTells_l1 (a : ((List (List UInt8)) × (Unit) × (Int) × Unit) × ((DSpan) × Unit)) : Option ((((List (List UInt8)) × (Unit) × (Int) × Unit) × ((DSpan) × Unit)) ⊕ ((((Bool) × Unit) × ((DSpan) × Unit)) ⊕ (((List (List UInt8)) × (Unit) × Unit) × ((DSpan) × Unit)))) :=
  (bif (decide ((a.1.2.2.1 : Int) < (a.1.1.length : Int))) then
  (getI a.1.1 a.1.2.2.1).bind fun e1 =>
  (getI a.1.1 a.1.2.2.1).bind fun e2 =>
  (span_Key e1).bind fun r3 =>
  (watershedref04_Key e2).bind fun r4 =>
  (bif (decide (r3.1 ≠ r4.1)) then
  some (.inr (.inl ((false, ()), (a.2.1, ()))))
  else
  (getI a.1.1 a.1.2.2.1).bind fun e5 =>
  (getI a.1.1 a.1.2.2.1).bind fun e6 =>
  (span_Has a.2.1 e5).bind fun r7 =>
  (watershedref04_Has a.2.1 e6).bind fun r8 =>
  (bif (decide (r7.1 ≠ r8.1)) then
  some (.inr (.inl ((false, ()), (a.2.1, ()))))
  else
  some (.inl ((a.1.1, (), (IntKind.i64.wrap (a.1.2.2.1 + 1)), ()), (a.2.1, ())))))
  else
  some (.inr (.inr ((a.1.1, (), ()), (a.2.1, ())))))
noncomputable def watershedlaw04_SpanTells_e1 : LE CT Try.prog := ⟨10, [2, 3, 11], [.one (.sl 2), .one (.ptr 0 0), .one (.int .i64)], [.cobj 26 4], [⟨.ret, [6], [.one (.bool)], [.cobj 26 4]⟩, ⟨.exit 0, [2, 3], [.one (.sl 2), .one (.ptr 0 0)], [.cobj 26 4]⟩], watershedlaw04_SpanTells_l1⟩
noncomputable def watershedlaw04_SpanTells_lt : List (LE CT Try.prog) := [watershedlaw04_SpanTells_e1]
theorem watershedlaw04_SpanTells_e1_ok : LeOk watershedlaw04_SpanTells_e1 (nthL (bodyOf Try.f4) 0) := fun A env h k z hk => le_ok (E := watershedlaw04_SpanTells_e1) (orcOf_ok watershedlaw04_SpanTells_tb) (dr := watershedlaw04_SpanTells_dr) (lps := lpsOf watershedlaw04_SpanTells_lt) (no_loop (by kernel_rfl)) (fun a => by kernel_rfl) env h k z hk
noncomputable def watershedlaw04_SpanTells (x0 : DSpan) (x1 : DSpan) (x2 : List (List UInt8)) : Option ((Bool) × (Unit)) :=
  (watershedlaw04_awake).bind fun r1 =>
  (bif (!r1.1) then
  some (false, ())
  else
  (if ([x0.lo, x0.hi, x1.lo, x1.hi] : List (List UInt8)).length + x2.length ≤ 140737488355328 ∧ (([x0.lo, x0.hi, x1.lo, x1.hi] : List (List UInt8)).length + x2.length) * 16 ≤ 140737488355328 then
  (watershedlaw04_few (([x0.lo, x0.hi, x1.lo, x1.hi] : List (List UInt8)) ++ x2)).bind fun r2 =>
  (bif (!r2.1) then
  some (true, ())
  else
  (span_Meet x0 x1).bind fun r3 =>
  (watershedref04_Meet x0 x1).bind fun r4 =>
  (bif (!(decide (r3.1.1.lo = r4.1.1.lo) && (decide (r3.1.1.hi = r4.1.1.hi) && true))) then
  some (false, ())
  else
  (bif (decide (r3.1.2.1 ≠ r4.1.2.1)) then
  some (false, ())
  else
  (span_Within x0 x1).bind fun r5 =>
  (watershedref04_Within x0 x1).bind fun r6 =>
  (bif (decide (r5.1 ≠ r6.1)) then
  some (false, ())
  else
  (span_Right x0).bind fun r7 =>
  (watershedref04_Right x0).bind fun r8 =>
  (bif (decide (r7.1 ≠ r8.1)) then
  some (false, ())
  else
  (loopM watershedlaw04_SpanTells_l1 ((x2, (), 0, ()), (x0, ()))).bind fun b9 =>
  (match b9 with
  | .inl b10 =>
  some (b10.1.1, ())
  | .inr b11 =>
  (watershedkit_LentTexts_x b11.1.1).bind fun r12 =>
  (span_Cut b11.2.1 r12.1.1).bind fun r13 =>
  (watershedref04_Cut b11.2.1 b11.1.1).bind fun r14 =>
  (watershedlaw04_same r13.1 r14.1 r14.2.1).bind fun r15 =>
  (bif r15.1 then
  (watershedkit_KeptTexts (r12.1.1, r12.1.2) b11.1.1).bind fun r16 =>
  some (r16.1, ())
  else
  some (false, ()))))))))
  else none))
noncomputable def watershedlaw04_SpanTells_ce : CE CT Try.prog where
  f := 4
  args := [.cod 4, .cod 4, .one (.sl 2)]
  hs := []
  res := .val (.one (.bool))
  outs := []
  m := fun d dh => watershedlaw04_SpanTells d.1 d.2.1 d.2.2.1
  ok := ce_ok mixedP Try.func4 (by kernel_rfl) (orcOf_ok watershedlaw04_SpanTells_tb) (dr := watershedlaw04_SpanTells_dr) (lps := lpsOf watershedlaw04_SpanTells_lt) (lps_fn (lps_of (n := 1) (by kernel_rfl) fun i hi => match i, hi with | 0, _ => lp_ok (E := watershedlaw04_SpanTells_e1) (by kernel_rfl) watershedlaw04_SpanTells_e1_ok)) (fun d dh => by kernel_rfl)

def watershedref04_Parts_dr : Nat → DrA
  | 6 => ⟨[0, 1, 2, 3, 4, 5, 6, 7, 8, 9, 10, 11, 12, 13, 14, 15, 16, 17, 18, 19, 20, 21, 22, 24, 25, 26, 27, 23, 28, 29, 30, 31, 32], [[], [], [0, 1], [0, 1, 2], [0, 1, 2, 3], [0, 1, 2, 3, 4], [0, 1, 2, 3, 4, 5], [0, 1, 2, 3, 4, 5, 6], [0, 1, 2, 3, 4, 5, 6, 7], [0, 1, 2, 3, 4, 5, 6, 7, 8], [0, 1, 2, 3, 4, 5, 6, 7, 8, 9], [0, 1, 2, 3, 4, 5, 6, 7, 8, 9], [0, 1, 2, 3, 4, 5, 6, 7, 8, 9, 11], [0, 1, 2, 3, 4, 5, 6, 7, 8, 9, 10, 11, 12], [0, 1, 2, 3, 4, 5, 6, 7, 8, 9, 10, 11, 12, 13], [0, 1, 2, 3, 4, 5, 6, 7, 8, 9, 10, 11, 12, 13, 14], [0, 1, 2, 3, 4, 5, 6, 7, 8, 9, 10, 11, 12, 13, 14, 15], [0, 1, 2, 3, 4, 5, 6, 7, 8, 9, 10, 11, 12, 13, 14, 15, 16], [0, 1, 2, 3, 4, 5, 6, 7, 8, 9, 10, 11, 12, 13, 14, 15, 16, 17], [0, 1, 2, 3, 4, 5, 6, 7, 8, 9, 10, 11, 12, 13, 14, 15, 16, 17], [0, 1, 2, 3, 4, 5, 6, 7, 8, 9, 10, 11, 12, 13, 14, 15, 16, 17, 19], [0, 1, 2, 3, 4, 5, 6, 7, 8, 9, 10, 11, 12, 13, 14, 15, 16, 17, 18, 19, 20], [0, 1, 2, 3, 4, 5, 6, 7, 8, 9, 10, 11, 12, 13, 14, 15, 16, 17, 18, 19, 20, 21], [0, 1, 2, 3, 4, 5, 6, 7, 8, 9, 10, 11, 12, 13, 14, 15, 16, 17, 18, 19, 20, 21, 22], [0, 1, 2, 3, 4, 5, 6, 7, 8, 9, 10, 11, 12, 13, 14, 15, 16, 17], [0, 1, 2, 3, 4, 5, 6, 7, 8, 9, 10, 11, 12, 13, 14, 15, 16, 17], [0, 1, 2, 3, 4, 5, 6, 7, 8, 9, 10, 11, 12, 13, 14, 15, 16, 17, 24, 25], [0, 1, 2, 3, 4, 5, 6, 7, 8, 9, 10, 11, 12, 13, 14, 15, 16, 17, 24, 25, 26], [0, 1, 2, 3, 4, 5, 6, 7, 8, 9, 10, 11, 12, 13, 14, 15, 16, 17, 24, 25, 26, 27], [0, 1, 2, 3, 4, 5, 6, 7, 8, 9, 10, 11, 12, 13, 14, 15, 16, 17, 18, 19, 20, 21, 22, 23, 24, 25, 26, 27, 28], [0, 1, 2, 3, 4, 5, 6, 7, 8, 9, 10, 11, 12, 13, 14, 15, 16, 17, 18, 19, 20, 21, 22, 23, 24, 25, 26, 27, 28, 29], [0, 1, 2, 3, 4, 5, 6, 7, 8, 9, 10, 11, 12, 13, 14, 15, 16, 17, 18, 19, 20, 21, 22, 23, 24, 25, 26, 27, 28, 29, 30], [0, 1, 2, 3, 4, 5, 6, 7, 8, 9, 10, 11, 12, 13, 14, 15, 16, 17, 18, 19, 20, 21, 22, 23, 24, 25, 26, 27, 28, 29, 30, 31]], [], [], [], false⟩
  | _ => ⟨[], [], [], [], [], false⟩
noncomputable def watershedref04_Parts_tb : List (CE CT Try.prog) := [watershedref04_Right_ce]
noncomputable def watershedref04_Parts_l1 (a : ((List (DSpan)) × (Int) × Unit) × (Unit)) : Option ((((List (DSpan)) × (Int) × Unit) × (Unit)) ⊕ ((((Bool) × Unit) × (Unit)) ⊕ ((Unit) × (Unit)))) :=
  (bif (decide ((a.1.2.1 : Int) < (a.1.1.length : Int))) then
  (getI a.1.1 a.1.2.1).bind fun e1 =>
  (watershedref04_Right e1).bind fun r2 =>
  (bif (!r2.1) then
  some (.inr (.inl ((false, ()), ())))
  else
  (bif (decide ((0 : Int) < a.1.2.1)) then
  (getI a.1.1 (IntKind.i64.wrap (a.1.2.1 - 1))).bind fun e3 =>
  (bif (decide (e3.hi = ([] : List UInt8))) then
  some (.inr (.inl ((false, ()), ())))
  else
  (getI a.1.1 (IntKind.i64.wrap (a.1.2.1 - 1))).bind fun e4 =>
  (getI a.1.1 a.1.2.1).bind fun e5 =>
  (bif (decide (e4.hi ≠ e5.lo)) then
  some (.inr (.inl ((false, ()), ())))
  else
  some (.inl ((a.1.1, (IntKind.i64.wrap (a.1.2.1 + 1)), ()), ()))))
  else
  some (.inl ((a.1.1, (IntKind.i64.wrap (a.1.2.1 + 1)), ()), ()))))
  else
  some (.inr (.inr ((), ()))))
noncomputable def watershedref04_Parts_e1 : LE CT Try.prog := ⟨4, [0, 3], [.one (.sl 4), .one (.int .i64)], [], [⟨.ret, [2], [.one (.bool)], []⟩, ⟨.exit 0, [], [], []⟩], watershedref04_Parts_l1⟩
noncomputable def watershedref04_Parts_lt : List (LE CT Try.prog) := [watershedref04_Parts_e1]
theorem watershedref04_Parts_e1_ok : LeOk watershedref04_Parts_e1 (nthL (bodyOf Try.f11) 0) := fun A env h k z hk => le_ok (E := watershedref04_Parts_e1) (orcOf_ok watershedref04_Parts_tb) (dr := watershedref04_Parts_dr) (lps := lpsOf watershedref04_Parts_lt) (no_loop (by kernel_rfl)) (fun a => by kernel_rfl) env h k z hk
noncomputable def watershedref04_Parts (x0 : List (DSpan)) : Option ((Bool) × (Unit)) :=
  (bif (decide (((x0.length : Int) : Int) = 0)) then
  some (false, ())
  else
  (getI x0 0).bind fun e1 =>
  (bif (decide (e1.lo ≠ ([] : List UInt8))) then
  some (false, ())
  else
  (getI x0 (IntKind.i64.wrap ((x0.length : Int) - 1))).bind fun e2 =>
  (bif (decide (e2.hi ≠ ([] : List UInt8))) then
  some (false, ())
  else
  (loopM watershedref04_Parts_l1 ((x0, 0, ()), ())).bind fun b3 =>
  (match b3 with
  | .inl b4 =>
  some (b4.1.1, ())
  | .inr b5 =>
  some (true, ())))))
noncomputable def watershedref04_Parts_ce : CE CT Try.prog where
  f := 11
  args := [.one (.sl 4)]
  hs := []
  res := .val (.one (.bool))
  outs := []
  m := fun d dh => watershedref04_Parts d.1
  ok := ce_ok mixedP Try.func11 (by kernel_rfl) (orcOf_ok watershedref04_Parts_tb) (dr := watershedref04_Parts_dr) (lps := lpsOf watershedref04_Parts_lt) (lps_fn (lps_of (n := 1) (by kernel_rfl) fun i hi => match i, hi with | 0, _ => lp_ok (E := watershedref04_Parts_e1) (by kernel_rfl) watershedref04_Parts_e1_ok)) (fun d dh => by kernel_rfl)

def watershedlaw04_SpanParts_dr : Nat → DrA
  | 7 => ⟨[0, 1, 2, 3, 4, 6, 7, 8, 9, 5, 10, 11, 12, 13], [[], [], [], [1, 2], [1, 2, 3], [1, 2, 3, 4], [], [], [6, 7], [6, 7, 8], [6, 7, 8, 9], [1, 2, 3, 4, 5, 6, 7, 8, 9, 10], [0, 1, 2, 3, 4, 5, 6, 7, 8, 9, 10, 11], [0, 1, 2, 3, 4, 5, 6, 7, 8, 9, 10, 11, 12]], [], [], [], false⟩
  | _ => ⟨[], [], [], [], [], false⟩
noncomputable def watershedlaw04_SpanParts_tb : List (CE CT Try.prog) := [watershedlaw04_awake_ce, watershedlaw04_few_ce, span_Parts_ce, watershedref04_Parts_ce]
noncomputable def watershedlaw04_SpanParts_l1 (a : ((List (DSpan)) × (List (List UInt8)) × (Int) × Unit) × ((Unit) × Unit)) : Option ((((List (DSpan)) × (List (List UInt8)) × (Int) × Unit) × ((Unit) × Unit)) ⊕ ((((List (DSpan)) × (List (List UInt8)) × Unit) × ((Unit) × (Unit) × Unit)))) :=
  (bif (decide ((a.1.2.2.1 : Int) < (a.1.1.length : Int))) then
  (bif (decide ((a.1.2.2.1 : Int) < 31)) then
  (getI a.1.1 a.1.2.2.1).bind fun e1 =>
  (getI a.1.1 a.1.2.2.1).bind fun e2 =>
  (if a.1.2.1.length + ([e1.lo, e2.hi] : List (List UInt8)).length ≤ 140737488355328 ∧ (a.1.2.1.length + ([e1.lo, e2.hi] : List (List UInt8)).length) * 16 ≤ 140737488355328 then
  some (.inl ((a.1.1, (a.1.2.1 ++ ([e1.lo, e2.hi] : List (List UInt8))), (IntKind.i64.wrap (a.1.2.2.1 + 1)), ()), ((), ())))
  else none)
  else
  some (.inr ((a.1.1, a.1.2.1, ()), ((), (), ()))))
  else
  some (.inr ((a.1.1, a.1.2.1, ()), ((), (), ()))))
noncomputable def watershedlaw04_SpanParts_e1 : LE CT Try.prog := ⟨5, [0, 3, 4], [.one (.sl 4), .one (.own 2 0), .one (.int .i64)], [.row 9 1], [⟨.exit 0, [0, 3], [.one (.sl 4), .one (.own 2 1)], [.dead, .row 9 1]⟩], watershedlaw04_SpanParts_l1⟩
noncomputable def watershedlaw04_SpanParts_lt : List (LE CT Try.prog) := [watershedlaw04_SpanParts_e1]
theorem watershedlaw04_SpanParts_e1_ok : LeOk watershedlaw04_SpanParts_e1 (nthL (bodyOf Try.f3) 0) := fun A env h k z hk => le_ok (E := watershedlaw04_SpanParts_e1) (orcOf_ok watershedlaw04_SpanParts_tb) (dr := watershedlaw04_SpanParts_dr) (lps := lpsOf watershedlaw04_SpanParts_lt) (no_loop (by kernel_rfl)) (fun a => by kernel_rfl) env h k z hk
noncomputable def watershedlaw04_SpanParts (x0 : List (DSpan)) : Option ((Bool) × (Unit)) :=
  (watershedlaw04_awake).bind fun r1 =>
  (bif (!r1.1) then
  some (false, ())
  else
  (loopM watershedlaw04_SpanParts_l1 ((x0, [], 0, ()), ((), ()))).bind fun b2 =>
  (watershedlaw04_few b2.1.2.1).bind fun r3 =>
  (bif (!r3.1) then
  some (true, ())
  else
  (bif (decide ((30 : Int) < (b2.1.1.length : Int))) then
  some (true, ())
  else
  (span_Parts b2.1.1).bind fun r4 =>
  (watershedref04_Parts b2.1.1).bind fun r5 =>
  some ((decide (r4.1 = r5.1)), ()))))
noncomputable def watershedlaw04_SpanParts_ce : CE CT Try.prog where
  f := 3
  args := [.one (.sl 4)]
  hs := []
  res := .val (.one (.bool))
  outs := []
  m := fun d dh => watershedlaw04_SpanParts d.1
  ok := ce_ok mixedP Try.func3 (by kernel_rfl) (orcOf_ok watershedlaw04_SpanParts_tb) (dr := watershedlaw04_SpanParts_dr) (lps := lpsOf watershedlaw04_SpanParts_lt) (lps_fn (lps_of (n := 1) (by kernel_rfl) fun i hi => match i, hi with | 0, _ => lp_ok (E := watershedlaw04_SpanParts_e1) (by kernel_rfl) watershedlaw04_SpanParts_e1_ok)) (fun d dh => by kernel_rfl)

def watershedlaw04_SpanEnds_dr : Nat → DrA
  | 13 => ⟨[0, 1, 2, 4, 5, 6, 9, 10, 11, 13, 14, 15, 16, 17, 18, 19, 20, 23, 3, 7, 8, 12, 21, 22, 24, 25, 26, 27, 28, 29, 31, 32, 33, 36, 37, 38, 40, 41, 42, 45, 46, 47, 30, 34, 35, 39, 43, 44, 48, 49, 50, 51, 52, 53, 54, 55, 56, 57, 60, 61, 62, 64, 65, 66, 69, 70, 71, 58, 59, 63, 67, 68, 72, 73, 74, 75, 76, 77], [[], [], [0, 1], [0, 1, 2], [], [], [4, 5], [4, 5, 6], [0, 1, 2, 3, 4, 5, 6, 7], [], [], [9, 10], [9, 10, 11], [], [], [], [14, 15], [], [17], [14, 15, 16, 17, 18], [13, 14, 15, 16, 17, 18, 19], [13, 14, 15, 16, 17, 18, 19, 20], [9, 10, 11, 12, 13, 14, 15, 16, 17, 18, 19, 20, 21], [], [0, 1, 2, 3, 4, 5, 6, 7, 8, 9, 10, 11, 12, 13, 14, 15, 16, 17, 18, 19, 20, 21, 22, 23], [0, 1, 2, 3, 4, 5, 6, 7, 8, 9, 10, 11, 12, 13, 14, 15, 16, 17, 18, 19, 20, 21, 22, 23, 24], [0, 1, 2, 3, 4, 5, 6, 7, 8, 9, 10, 11, 12, 13, 14, 15, 16, 17, 18, 19, 20, 21, 22, 23, 24, 25], [0, 1, 2, 3, 4, 5, 6, 7, 8, 9, 10, 11, 12, 13, 14, 15, 16, 17, 18, 19, 20, 21, 22, 23, 24, 25, 26], [0, 1, 2, 3, 4, 5, 6, 7, 8, 9, 10, 11, 12, 13, 14, 15, 16, 17, 18, 19, 20, 21, 22, 23, 24, 25, 26], [0, 1, 2, 3, 4, 5, 6, 7, 8, 9, 10, 11, 12, 13, 14, 15, 16, 17, 18, 19, 20, 21, 22, 23, 24, 25, 26, 27, 28], [0, 1, 2, 3, 4, 5, 6, 7, 8, 9, 10, 11, 12, 13, 14, 15, 16, 17, 18, 19, 20, 21, 22, 23, 24, 25, 26, 27, 28, 29], [0, 1, 2, 3, 4, 5, 6, 7, 8, 9, 10, 11, 12, 13, 14, 15, 16, 17, 18, 19, 20, 21, 22, 23, 24, 25, 26], [0, 1, 2, 3, 4, 5, 6, 7, 8, 9, 10, 11, 12, 13, 14, 15, 16, 17, 18, 19, 20, 21, 22, 23, 24, 25, 26], [0, 1, 2, 3, 4, 5, 6, 7, 8, 9, 10, 11, 12, 13, 14, 15, 16, 17, 18, 19, 20, 21, 22, 23, 24, 25, 26, 31, 32], [0, 1, 2, 3, 4, 5, 6, 7, 8, 9, 10, 11, 12, 13, 14, 15, 16, 17, 18, 19, 20, 21, 22, 23, 24, 25, 26, 31, 32, 33], [0, 1, 2, 3, 4, 5, 6, 7, 8, 9, 10, 11, 12, 13, 14, 15, 16, 17, 18, 19, 20, 21, 22, 23, 24, 25, 26, 27, 28, 29, 30, 31, 32, 33, 34], [0, 1, 2, 3, 4, 5, 6, 7, 8, 9, 10, 11, 12, 13, 14, 15, 16, 17, 18, 19, 20, 21, 22, 23, 24, 25, 26], [0, 1, 2, 3, 4, 5, 6, 7, 8, 9, 10, 11, 12, 13, 14, 15, 16, 17, 18, 19, 20, 21, 22, 23, 24, 25, 26], [0, 1, 2, 3, 4, 5, 6, 7, 8, 9, 10, 11, 12, 13, 14, 15, 16, 17, 18, 19, 20, 21, 22, 23, 24, 25, 26, 36, 37], [0, 1, 2, 3, 4, 5, 6, 7, 8, 9, 10, 11, 12, 13, 14, 15, 16, 17, 18, 19, 20, 21, 22, 23, 24, 25, 26, 36, 37, 38], [0, 1, 2, 3, 4, 5, 6, 7, 8, 9, 10, 11, 12, 13, 14, 15, 16, 17, 18, 19, 20, 21, 22, 23, 24, 25, 26], [0, 1, 2, 3, 4, 5, 6, 7, 8, 9, 10, 11, 12, 13, 14, 15, 16, 17, 18, 19, 20, 21, 22, 23, 24, 25, 26], [0, 1, 2, 3, 4, 5, 6, 7, 8, 9, 10, 11, 12, 13, 14, 15, 16, 17, 18, 19, 20, 21, 22, 23, 24, 25, 26, 40, 41], [0, 1, 2, 3, 4, 5, 6, 7, 8, 9, 10, 11, 12, 13, 14, 15, 16, 17, 18, 19, 20, 21, 22, 23, 24, 25, 26, 40, 41, 42], [0, 1, 2, 3, 4, 5, 6, 7, 8, 9, 10, 11, 12, 13, 14, 15, 16, 17, 18, 19, 20, 21, 22, 23, 24, 25, 26, 36, 37, 38, 39, 40, 41, 42, 43], [0, 1, 2, 3, 4, 5, 6, 7, 8, 9, 10, 11, 12, 13, 14, 15, 16, 17, 18, 19, 20, 21, 22, 23, 24, 25, 26], [0, 1, 2, 3, 4, 5, 6, 7, 8, 9, 10, 11, 12, 13, 14, 15, 16, 17, 18, 19, 20, 21, 22, 23, 24, 25, 26], [0, 1, 2, 3, 4, 5, 6, 7, 8, 9, 10, 11, 12, 13, 14, 15, 16, 17, 18, 19, 20, 21, 22, 23, 24, 25, 26, 45, 46], [0, 1, 2, 3, 4, 5, 6, 7, 8, 9, 10, 11, 12, 13, 14, 15, 16, 17, 18, 19, 20, 21, 22, 23, 24, 25, 26, 45, 46, 47], [0, 1, 2, 3, 4, 5, 6, 7, 8, 9, 10, 11, 12, 13, 14, 15, 16, 17, 18, 19, 20, 21, 22, 23, 24, 25, 26, 45, 46, 47, 48], [0, 1, 2, 3, 4, 5, 6, 7, 8, 9, 10, 11, 12, 13, 14, 15, 16, 17, 18, 19, 20, 21, 22, 23, 24, 25, 26, 27, 28, 29, 30, 31, 32, 33, 34, 35, 36, 37, 38, 39, 40, 41, 42, 43, 44, 45, 46, 47, 48, 49], [0, 1, 2, 3, 4, 5, 6, 7, 8, 9, 10, 11, 12, 13, 14, 15, 16, 17, 18, 19, 20, 21, 22, 23, 24, 25, 26, 27, 28, 29, 30, 31, 32, 33, 34, 35, 36, 37, 38, 39, 40, 41, 42, 43, 44, 45, 46, 47, 48, 49, 50], [0, 1, 2, 3, 4, 5, 6, 7, 8, 9, 10, 11, 12, 13, 14, 15, 16, 17, 18, 19, 20, 21, 22, 23, 24, 25, 26, 27, 28, 29, 30, 31, 32, 33, 34, 35, 36, 37, 38, 39, 40, 41, 42, 43, 44, 45, 46, 47, 48, 49, 50, 51], [0, 1, 2, 3, 4, 5, 6, 7, 8, 9, 10, 11, 12, 13, 14, 15, 16, 17, 18, 19, 20, 21, 22, 23, 24, 25, 26, 27, 28, 29, 30, 31, 32, 33, 34, 35, 36, 37, 38, 39, 40, 41, 42, 43, 44, 45, 46, 47, 48, 49, 50, 51, 52], [0, 1, 2, 3, 4, 5, 6, 7, 8, 9, 10, 11, 12, 13, 14, 15, 16, 17, 18, 19, 20, 21, 22, 23, 24, 25, 26, 27, 28, 29, 30, 31, 32, 33, 34, 35, 36, 37, 38, 39, 40, 41, 42, 43, 44, 45, 46, 47, 48, 49, 50, 51, 52, 53], [0, 1, 2, 3, 4, 5, 6, 7, 8, 9, 10, 11, 12, 13, 14, 15, 16, 17, 18, 19, 20, 21, 22, 23, 24, 25, 26, 27, 28, 29, 30, 31, 32, 33, 34, 35, 36, 37, 38, 39, 40, 41, 42, 43, 44, 45, 46, 47, 48, 49, 50, 51, 52, 53, 54], [0, 1, 2, 3, 4, 5, 6, 7, 8, 9, 10, 11, 12, 13, 14, 15, 16, 17, 18, 19, 20, 21, 22, 23, 24, 25, 26, 27, 28, 29, 30, 31, 32, 33, 34, 35, 36, 37, 38, 39, 40, 41, 42, 43, 44, 45, 46, 47, 48, 49, 50, 51, 52, 53, 54], [0, 1, 2, 3, 4, 5, 6, 7, 8, 9, 10, 11, 12, 13, 14, 15, 16, 17, 18, 19, 20, 21, 22, 23, 24, 25, 26, 27, 28, 29, 30, 31, 32, 33, 34, 35, 36, 37, 38, 39, 40, 41, 42, 43, 44, 45, 46, 47, 48, 49, 50, 51, 52, 53, 54, 55, 56], [0, 1, 2, 3, 4, 5, 6, 7, 8, 9, 10, 11, 12, 13, 14, 15, 16, 17, 18, 19, 20, 21, 22, 23, 24, 25, 26, 27, 28, 29, 30, 31, 32, 33, 34, 35, 36, 37, 38, 39, 40, 41, 42, 43, 44, 45, 46, 47, 48, 49, 50, 51, 52, 53, 54, 55, 56, 57], [0, 1, 2, 3, 4, 5, 6, 7, 8, 9, 10, 11, 12, 13, 14, 15, 16, 17, 18, 19, 20, 21, 22, 23, 24, 25, 26, 27, 28, 29, 30, 31, 32, 33, 34, 35, 36, 37, 38, 39, 40, 41, 42, 43, 44, 45, 46, 47, 48, 49, 50, 51, 52, 53, 54, 55, 56, 57, 58], [0, 1, 2, 3, 4, 5, 6, 7, 8, 9, 10, 11, 12, 13, 14, 15, 16, 17, 18, 19, 20, 21, 22, 23, 24, 25, 26, 27, 28, 29, 30, 31, 32, 33, 34, 35, 36, 37, 38, 39, 40, 41, 42, 43, 44, 45, 46, 47, 48, 49, 50, 51, 52, 53, 54], [0, 1, 2, 3, 4, 5, 6, 7, 8, 9, 10, 11, 12, 13, 14, 15, 16, 17, 18, 19, 20, 21, 22, 23, 24, 25, 26, 27, 28, 29, 30, 31, 32, 33, 34, 35, 36, 37, 38, 39, 40, 41, 42, 43, 44, 45, 46, 47, 48, 49, 50, 51, 52, 53, 54], [0, 1, 2, 3, 4, 5, 6, 7, 8, 9, 10, 11, 12, 13, 14, 15, 16, 17, 18, 19, 20, 21, 22, 23, 24, 25, 26, 27, 28, 29, 30, 31, 32, 33, 34, 35, 36, 37, 38, 39, 40, 41, 42, 43, 44, 45, 46, 47, 48, 49, 50, 51, 52, 53, 54, 60, 61], [0, 1, 2, 3, 4, 5, 6, 7, 8, 9, 10, 11, 12, 13, 14, 15, 16, 17, 18, 19, 20, 21, 22, 23, 24, 25, 26, 27, 28, 29, 30, 31, 32, 33, 34, 35, 36, 37, 38, 39, 40, 41, 42, 43, 44, 45, 46, 47, 48, 49, 50, 51, 52, 53, 54, 60, 61, 62], [0, 1, 2, 3, 4, 5, 6, 7, 8, 9, 10, 11, 12, 13, 14, 15, 16, 17, 18, 19, 20, 21, 22, 23, 24, 25, 26, 27, 28, 29, 30, 31, 32, 33, 34, 35, 36, 37, 38, 39, 40, 41, 42, 43, 44, 45, 46, 47, 48, 49, 50, 51, 52, 53, 54], [0, 1, 2, 3, 4, 5, 6, 7, 8, 9, 10, 11, 12, 13, 14, 15, 16, 17, 18, 19, 20, 21, 22, 23, 24, 25, 26, 27, 28, 29, 30, 31, 32, 33, 34, 35, 36, 37, 38, 39, 40, 41, 42, 43, 44, 45, 46, 47, 48, 49, 50, 51, 52, 53, 54], [0, 1, 2, 3, 4, 5, 6, 7, 8, 9, 10, 11, 12, 13, 14, 15, 16, 17, 18, 19, 20, 21, 22, 23, 24, 25, 26, 27, 28, 29, 30, 31, 32, 33, 34, 35, 36, 37, 38, 39, 40, 41, 42, 43, 44, 45, 46, 47, 48, 49, 50, 51, 52, 53, 54, 64, 65], [0, 1, 2, 3, 4, 5, 6, 7, 8, 9, 10, 11, 12, 13, 14, 15, 16, 17, 18, 19, 20, 21, 22, 23, 24, 25, 26, 27, 28, 29, 30, 31, 32, 33, 34, 35, 36, 37, 38, 39, 40, 41, 42, 43, 44, 45, 46, 47, 48, 49, 50, 51, 52, 53, 54, 64, 65, 66], [0, 1, 2, 3, 4, 5, 6, 7, 8, 9, 10, 11, 12, 13, 14, 15, 16, 17, 18, 19, 20, 21, 22, 23, 24, 25, 26, 27, 28, 29, 30, 31, 32, 33, 34, 35, 36, 37, 38, 39, 40, 41, 42, 43, 44, 45, 46, 47, 48, 49, 50, 51, 52, 53, 54, 60, 61, 62, 63, 64, 65, 66, 67], [0, 1, 2, 3, 4, 5, 6, 7, 8, 9, 10, 11, 12, 13, 14, 15, 16, 17, 18, 19, 20, 21, 22, 23, 24, 25, 26, 27, 28, 29, 30, 31, 32, 33, 34, 35, 36, 37, 38, 39, 40, 41, 42, 43, 44, 45, 46, 47, 48, 49, 50, 51, 52, 53, 54], [0, 1, 2, 3, 4, 5, 6, 7, 8, 9, 10, 11, 12, 13, 14, 15, 16, 17, 18, 19, 20, 21, 22, 23, 24, 25, 26, 27, 28, 29, 30, 31, 32, 33, 34, 35, 36, 37, 38, 39, 40, 41, 42, 43, 44, 45, 46, 47, 48, 49, 50, 51, 52, 53, 54], [0, 1, 2, 3, 4, 5, 6, 7, 8, 9, 10, 11, 12, 13, 14, 15, 16, 17, 18, 19, 20, 21, 22, 23, 24, 25, 26, 27, 28, 29, 30, 31, 32, 33, 34, 35, 36, 37, 38, 39, 40, 41, 42, 43, 44, 45, 46, 47, 48, 49, 50, 51, 52, 53, 54, 69, 70], [0, 1, 2, 3, 4, 5, 6, 7, 8, 9, 10, 11, 12, 13, 14, 15, 16, 17, 18, 19, 20, 21, 22, 23, 24, 25, 26, 27, 28, 29, 30, 31, 32, 33, 34, 35, 36, 37, 38, 39, 40, 41, 42, 43, 44, 45, 46, 47, 48, 49, 50, 51, 52, 53, 54, 69, 70, 71], [0, 1, 2, 3, 4, 5, 6, 7, 8, 9, 10, 11, 12, 13, 14, 15, 16, 17, 18, 19, 20, 21, 22, 23, 24, 25, 26, 27, 28, 29, 30, 31, 32, 33, 34, 35, 36, 37, 38, 39, 40, 41, 42, 43, 44, 45, 46, 47, 48, 49, 50, 51, 52, 53, 54, 69, 70, 71, 72], [0, 1, 2, 3, 4, 5, 6, 7, 8, 9, 10, 11, 12, 13, 14, 15, 16, 17, 18, 19, 20, 21, 22, 23, 24, 25, 26, 27, 28, 29, 30, 31, 32, 33, 34, 35, 36, 37, 38, 39, 40, 41, 42, 43, 44, 45, 46, 47, 48, 49, 50, 51, 52, 53, 54, 55, 56, 57, 58, 59, 60, 61, 62, 63, 64, 65, 66, 67, 68, 69, 70, 71, 72, 73], [0, 1, 2, 3, 4, 5, 6, 7, 8, 9, 10, 11, 12, 13, 14, 15, 16, 17, 18, 19, 20, 21, 22, 23, 24, 25, 26, 27, 28, 29, 30, 31, 32, 33, 34, 35, 36, 37, 38, 39, 40, 41, 42, 43, 44, 45, 46, 47, 48, 49, 50, 51, 52, 53, 54, 55, 56, 57, 58, 59, 60, 61, 62, 63, 64, 65, 66, 67, 68, 69, 70, 71, 72, 73, 74], [0, 1, 2, 3, 4, 5, 6, 7, 8, 9, 10, 11, 12, 13, 14, 15, 16, 17, 18, 19, 20, 21, 22, 23, 24, 25, 26, 27, 28, 29, 30, 31, 32, 33, 34, 35, 36, 37, 38, 39, 40, 41, 42, 43, 44, 45, 46, 47, 48, 49, 50, 51, 52, 53, 54, 55, 56, 57, 58, 59, 60, 61, 62, 63, 64, 65, 66, 67, 68, 69, 70, 71, 72, 73, 74, 75], [0, 1, 2, 3, 4, 5, 6, 7, 8, 9, 10, 11, 12, 13, 14, 15, 16, 17, 18, 19, 20, 21, 22, 23, 24, 25, 26, 27, 28, 29, 30, 31, 32, 33, 34, 35, 36, 37, 38, 39, 40, 41, 42, 43, 44, 45, 46, 47, 48, 49, 50, 51, 52, 53, 54, 55, 56, 57, 58, 59, 60, 61, 62, 63, 64, 65, 66, 67, 68, 69, 70, 71, 72, 73, 74, 75, 76]], [], [], [], false⟩
  | _ => ⟨[], [], [], [], [], false⟩
noncomputable def watershedlaw04_SpanEnds_tb : List (CE CT Try.prog) := [watershedlaw04_awake_ce, watershedlaw04_SpanTells_ce, watershedlaw04_SpanParts_ce]
noncomputable def watershedlaw04_SpanEnds_l3 (a : ((List (List UInt8)) × (Int) × (Int) × (Int) × Unit) × ((Unit) × Unit)) : Option ((((List (List UInt8)) × (Int) × (Int) × (Int) × Unit) × ((Unit) × Unit)) ⊕ ((((Bool) × Unit) × ((Unit) × Unit)) ⊕ (((List (List UInt8)) × (Int) × (Int) × Unit) × ((Unit) × (Unit) × Unit)))) :=
  (bif (decide ((a.1.2.2.2.1 : Int) < (a.1.1.length : Int))) then
  (getI a.1.1 a.1.2.1).bind fun e1 =>
  (getI a.1.1 a.1.2.2.1).bind fun e2 =>
  (getI a.1.1 a.1.2.2.2.1).bind fun e3 =>
  (if ((a.1.1.length : Int) : Int) = 0 then none else
  (getI a.1.1 (((IntKind.i64.wrap (a.1.2.1 + a.1.2.2.1)) : Int).tmod (a.1.1.length : Int))).bind fun e4 =>
  (watershedlaw04_SpanTells (⟨e1, e2⟩ : DSpan) (⟨e3, e4⟩ : DSpan) a.1.1).bind fun r5 =>
  (bif (!r5.1) then
  some (.inr (.inl ((false, ()), ((), ()))))
  else
  (getI a.1.1 a.1.2.2.2.1).bind fun e6 =>
  (getI a.1.1 a.1.2.1).bind fun e7 =>
  (getI a.1.1 a.1.2.1).bind fun e8 =>
  (getI a.1.1 a.1.2.2.1).bind fun e9 =>
  (getI a.1.1 a.1.2.2.1).bind fun e10 =>
  (watershedlaw04_SpanParts ([(⟨e6, e7⟩ : DSpan), (⟨e8, e9⟩ : DSpan), (⟨e10, ([] : List UInt8)⟩ : DSpan)] : List (DSpan))).bind fun r11 =>
  (bif (!r11.1) then
  some (.inr (.inl ((false, ()), ((), ()))))
  else
  (getI a.1.1 a.1.2.1).bind fun e12 =>
  (getI a.1.1 a.1.2.1).bind fun e13 =>
  (getI a.1.1 a.1.2.2.1).bind fun e14 =>
  (getI a.1.1 a.1.2.2.1).bind fun e15 =>
  (watershedlaw04_SpanParts ([(⟨([] : List UInt8), e12⟩ : DSpan), (⟨e13, e14⟩ : DSpan), (⟨e15, ([] : List UInt8)⟩ : DSpan)] : List (DSpan))).bind fun r16 =>
  (bif (!r16.1) then
  some (.inr (.inl ((false, ()), ((), ()))))
  else
  some (.inl ((a.1.1, a.1.2.1, a.1.2.2.1, (IntKind.i64.wrap (a.1.2.2.2.1 + 1)), ()), ((), ())))))))
  else
  some (.inr (.inr ((a.1.1, a.1.2.1, a.1.2.2.1, ()), ((), (), ())))))
noncomputable def watershedlaw04_SpanEnds_e3 : LE CT Try.prog := ⟨11, [1, 2, 3, 4], [.one (.own 2 0), .one (.int .i64), .one (.int .i64), .one (.int .i64)], [.row 9 1], [⟨.ret, [0], [.one (.bool)], [.dead]⟩, ⟨.exit 4, [1, 2, 3], [.one (.own 2 1), .one (.int .i64), .one (.int .i64)], [.dead, .row 9 1]⟩], watershedlaw04_SpanEnds_l3⟩
noncomputable def watershedlaw04_SpanEnds_l2 (a : ((List (List UInt8)) × (Int) × (Int) × Unit) × ((Unit) × Unit)) : Option ((((List (List UInt8)) × (Int) × (Int) × Unit) × ((Unit) × Unit)) ⊕ ((((Bool) × Unit) × ((Unit) × Unit)) ⊕ (((List (List UInt8)) × (Int) × Unit) × ((Unit) × (Unit) × Unit)))) :=
  (bif (decide ((a.1.2.2.1 : Int) < (a.1.1.length : Int))) then
  (loopM watershedlaw04_SpanEnds_l3 ((a.1.1, a.1.2.1, a.1.2.2.1, 0, ()), ((), ()))).bind fun b1 =>
  (match b1 with
  | .inl b2 =>
  some (.inr (.inl ((b2.1.1, ()), ((), ()))))
  | .inr b3 =>
  some (.inl ((b3.1.1, b3.1.2.1, (IntKind.i64.wrap (b3.1.2.2.1 + 1)), ()), ((), ()))))
  else
  some (.inr (.inr ((a.1.1, a.1.2.1, ()), ((), (), ())))))
noncomputable def watershedlaw04_SpanEnds_e2 : LE CT Try.prog := ⟨8, [1, 2, 3], [.one (.own 2 0), .one (.int .i64), .one (.int .i64)], [.row 9 1], [⟨.ret, [0], [.one (.bool)], [.dead]⟩, ⟨.exit 2, [1, 2], [.one (.own 2 1), .one (.int .i64)], [.dead, .row 9 1]⟩], watershedlaw04_SpanEnds_l2⟩
noncomputable def watershedlaw04_SpanEnds_l1 (a : ((List (List UInt8)) × (Int) × Unit) × ((Unit) × Unit)) : Option ((((List (List UInt8)) × (Int) × Unit) × ((Unit) × Unit)) ⊕ ((((Bool) × Unit) × ((Unit) × Unit)) ⊕ ((Unit) × ((Unit) × Unit)))) :=
  (bif (decide ((a.1.2.1 : Int) < (a.1.1.length : Int))) then
  (loopM watershedlaw04_SpanEnds_l2 ((a.1.1, a.1.2.1, 0, ()), ((), ()))).bind fun b1 =>
  (match b1 with
  | .inl b2 =>
  some (.inr (.inl ((b2.1.1, ()), ((), ()))))
  | .inr b3 =>
  some (.inl ((b3.1.1, (IntKind.i64.wrap (b3.1.2.1 + 1)), ()), ((), ()))))
  else
  some (.inr (.inr ((), ((), ())))))
noncomputable def watershedlaw04_SpanEnds_e1 : LE CT Try.prog := ⟨5, [1, 2], [.one (.own 2 0), .one (.int .i64)], [.row 9 1], [⟨.ret, [0], [.one (.bool)], [.dead]⟩, ⟨.exit 0, [], [], [.dead]⟩], watershedlaw04_SpanEnds_l1⟩
noncomputable def watershedlaw04_SpanEnds_lt : List (LE CT Try.prog) := [watershedlaw04_SpanEnds_e3, watershedlaw04_SpanEnds_e2, watershedlaw04_SpanEnds_e1]
theorem watershedlaw04_SpanEnds_e3_ok : LeOk watershedlaw04_SpanEnds_e3 (nthL (nthL (nthL (bodyOf Try.f5) 0) 0) 0) := fun A env h k z hk => le_ok (E := watershedlaw04_SpanEnds_e3) (orcOf_ok watershedlaw04_SpanEnds_tb) (dr := watershedlaw04_SpanEnds_dr) (lps := lpsOf watershedlaw04_SpanEnds_lt) (no_loop (by kernel_rfl)) (fun a => by kernel_rfl) env h k z hk
theorem watershedlaw04_SpanEnds_e2_ok : LeOk watershedlaw04_SpanEnds_e2 (nthL (nthL (bodyOf Try.f5) 0) 0) := fun A env h k z hk => le_ok (E := watershedlaw04_SpanEnds_e2) (orcOf_ok watershedlaw04_SpanEnds_tb) (dr := watershedlaw04_SpanEnds_dr) (lps := lpsOf watershedlaw04_SpanEnds_lt) (lps_of (n := 1) (by kernel_rfl) fun i hi => match i, hi with | 0, _ => lp_ok (E := watershedlaw04_SpanEnds_e3) (by kernel_rfl) watershedlaw04_SpanEnds_e3_ok) (fun a => by kernel_rfl) env h k z hk
theorem watershedlaw04_SpanEnds_e1_ok : LeOk watershedlaw04_SpanEnds_e1 (nthL (bodyOf Try.f5) 0) := fun A env h k z hk => le_ok (E := watershedlaw04_SpanEnds_e1) (orcOf_ok watershedlaw04_SpanEnds_tb) (dr := watershedlaw04_SpanEnds_dr) (lps := lpsOf watershedlaw04_SpanEnds_lt) (lps_of (n := 1) (by kernel_rfl) fun i hi => match i, hi with | 0, _ => lp_ok (E := watershedlaw04_SpanEnds_e2) (by kernel_rfl) watershedlaw04_SpanEnds_e2_ok) (fun a => by kernel_rfl) env h k z hk
noncomputable def watershedlaw04_SpanEnds  : Option ((Bool) × (Unit)) :=
  (watershedlaw04_awake).bind fun r1 =>
  (bif (!r1.1) then
  some (false, ())
  else
  let y2 : List (List UInt8) := ([([] : List UInt8), ([97] : List UInt8), ([97, 97] : List UInt8), ([97, 98] : List UInt8), ([98] : List UInt8), ([122] : List UInt8), ([48] : List UInt8), ([57] : List UInt8), ([65] : List UInt8), ([97, 45] : List UInt8), ([122, 122, 122, 122, 122, 122, 122, 122, 122, 122, 122, 122, 122, 122, 122, 122, 122, 122, 122, 122] : List UInt8), ([122, 122, 122, 122, 122, 122, 122, 122, 122, 122, 122, 122, 122, 122, 122, 122, 122, 122, 122, 122, 122] : List UInt8)] : List (List UInt8))
  (loopM watershedlaw04_SpanEnds_l1 ((y2, 0, ()), ((), ()))).bind fun b3 =>
  (match b3 with
  | .inl b4 =>
  some (b4.1.1, ())
  | .inr b5 =>
  (watershedlaw04_SpanParts []).bind fun r6 =>
  (bif r6.1 then
  (watershedlaw04_SpanParts ([(⟨([] : List UInt8), ([] : List UInt8)⟩ : DSpan)] : List (DSpan))).bind fun r7 =>
  (bif r7.1 then
  (watershedlaw04_SpanParts ([(⟨([] : List UInt8), ([] : List UInt8)⟩ : DSpan), (⟨([] : List UInt8), ([] : List UInt8)⟩ : DSpan)] : List (DSpan))).bind fun r8 =>
  some (r8.1, ())
  else
  some (false, ()))
  else
  some (false, ()))))
noncomputable def watershedlaw04_SpanEnds_ce : CE CT Try.prog where
  f := 5
  args := []
  hs := []
  res := .val (.one (.bool))
  outs := []
  m := fun d dh => watershedlaw04_SpanEnds
  ok := ce_ok mixedP Try.func5 (by kernel_rfl) (orcOf_ok watershedlaw04_SpanEnds_tb) (dr := watershedlaw04_SpanEnds_dr) (lps := lpsOf watershedlaw04_SpanEnds_lt) (lps_fn (lps_of (n := 1) (by kernel_rfl) fun i hi => match i, hi with | 0, _ => lp_ok (E := watershedlaw04_SpanEnds_e1) (by kernel_rfl) watershedlaw04_SpanEnds_e1_ok)) (fun d dh => by kernel_rfl)
end Go.Proofs.Ytfgcknjlncognaa
