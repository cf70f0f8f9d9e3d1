/- Models, by program. -/
import Derived.Test.YtnmimignbgdfgaaGreatRp
import Derived.Test.YtnmimignbgdfgaaGreatOsh
import Derived.Test.YtnmimignbgdfgaaGreatOa
import Derived.Test.YtnmimignbgdfgaaGreatTw
import Derived.Test.YtnmimignbgdfgaaGreatWr
import Derived.Test.YtnmimignbgdfgaaGreatSl
import Derived.Test.YtnmimignbgdfgaaGreatFx
namespace Go.Proofs.YtnmimignbgdfgaaGreat
open Go.RowKit
set_option maxRecDepth 100000
set_option linter.unusedVariables false
noncomputable def appendSeq (h0 : List (List UInt8)) : Option ((Nat × Nat) × ((List (List UInt8)) × (List (List UInt8)) × Unit)) :=
  if h0.length ≤ 8796093022208 then some ((0, h0.length), (h0, h0, ())) else none
noncomputable def appendSeq_ce : CE CT Tryz.prog where
  f := 98
  args := [.one .nil, .one (.clo 91 [0])]
  hs := [.cobj 27 3]
  res := .val (.one (.asu 2 1))
  outs := [.cobj 27 3, .arr 9 2 true]
  m := fun d dh => appendSeq dh.1
  ok := fun d dh r hr => by
    unfold appendSeq at hr
    split at hr
    · rename_i hc
      injection hr with hr
      subst hr
      by_cases h0 : dh.1 = []
      · obtain ⟨xs, u⟩ := dh
        dsimp only at h0
        subst h0
        exact appendSeq_tr0
      · exact appendSeq_tr dh.1 (fun h => h0 (List.eq_nil_of_length_eq_zero h)) hc
    · cases hr

theorem sortT_cells {N : Nat} {ρ : Nat → AV} : ∀ {xs : List (List UInt8)} {cells : List AV}, SVs CT N ρ (xs.flatMap (CT.enc 2)) cells → cells.map AV.val = xs.map Go.Proofs.encStr
  | [], cells, h => by rw [SVs_nil.1 h]; rfl
  | x :: xs, cells, h => by
    change SVs CT N ρ (.str x :: xs.flatMap (CT.enc 2)) cells at h
    obtain ⟨a, bs, rfl, h1, h2⟩ := h.to
    rw [sv_str.1 h1, List.map_cons, sortT_cells h2, AV.val_raw]
    rfl
theorem sortT_svs {N : Nat} {ρ : Nat → AV} : ∀ (xs : List (List UInt8)), SVs CT N ρ (xs.flatMap (CT.enc 2)) (xs.map fun d => AV.raw (Go.Proofs.encStr d))
  | [] => .none
  | x :: xs => by
    change SVs CT N ρ (.str x :: xs.flatMap (CT.enc 2)) (AV.raw (Go.Proofs.encStr x) :: xs.map fun d => AV.raw (Go.Proofs.encStr d))
    exact .cons (sv_str.2 rfl) (sortT_svs xs)
noncomputable def sortT (x0 : Nat × Nat) (h0 : List (List UInt8)) : Option (Unit × ((List (List UInt8)) × Unit)) :=
  if x0.1 = 0 ∧ x0.2 = h0.length ∧ h0.length < 4611686018427387904 then some ((), (h0.mergeSort (fun x y => decide (x ≤ y)), ())) else none
noncomputable def sortT_ce : CE CT Tryz.prog where
  f := 90
  args := [.one (.asu 2 0)]
  hs := [.arr 9 2 true]
  res := .tup []
  outs := [.arr 9 2 true]
  m := fun d dh => sortT d.1 dh.1
  ok := fun d dh r hr => by
    obtain ⟨⟨lo, n⟩, u⟩ := d
    obtain ⟨xs, u2⟩ := dh
    unfold sortT at hr
    split at hr
    · rename_i hc
      injection hr with hr
      subst hr
      obtain ⟨rfl, rfl, hc⟩ := hc
      dsimp only at hc
      exact sortedA_tr Go.Proofs.encStr xs xs (List.mergeSort (α := List UInt8) xs fun x y => decide (x ≤ y)) true rfl rfl (fun N ρ cs h => sortT_cells h) (List.mergeSort (α := List UInt8) xs fun x y => decide (x ≤ y)) (List.length_mergeSort (α := List UInt8) xs) (fun N ρ => sortT_svs _) (by kernel_rfl) rfl (fun h => by subst h; exact List.mergeSort_nil)
        (fun blk cap w h1 h2 => Tryz.slices_Sort_string blk 0 cap xs w h1 h2 hc) (fun p cap w => Tryz.slices_Sort_string_none p cap w)
    · cases hr

theorem sortI_cells {N : Nat} {ρ : Nat → AV} : ∀ {xs : List (Int)} {cells : List AV}, SVs CT N ρ (xs.flatMap (CT.enc 0)) cells → cells.map AV.val = xs.map (Value.int .i64)
  | [], cells, h => by rw [SVs_nil.1 h]; rfl
  | x :: xs, cells, h => by
    change SVs CT N ρ (.int .i64 x :: xs.flatMap (CT.enc 0)) cells at h
    obtain ⟨a, bs, rfl, h1, h2⟩ := h.to
    rw [sv_int.1 h1, List.map_cons, sortI_cells h2, AV.val_raw]
    rfl
theorem sortI_svs {N : Nat} {ρ : Nat → AV} : ∀ (xs : List (Int)), SVs CT N ρ (xs.flatMap (CT.enc 0)) (xs.map fun d => AV.raw ((Value.int .i64) d))
  | [] => .none
  | x :: xs => by
    change SVs CT N ρ (.int .i64 x :: xs.flatMap (CT.enc 0)) (AV.raw ((Value.int .i64) x) :: xs.map fun d => AV.raw ((Value.int .i64) d))
    exact .cons (sv_int.2 rfl) (sortI_svs xs)
noncomputable def sortI (x0 : Nat) (h0 : List (Int)) : Option (Unit × ((List (Int)) × Unit)) :=
  if x0 = h0.length ∧ h0.length < 4611686018427387904 then some ((), (h0.mergeSort (fun x y => decide (x ≤ y)), ())) else none
noncomputable def sortI_ce : CE CT Tryz.prog where
  f := 39
  args := [.one (.asz 0 0)]
  hs := [.arr 3 0 true]
  res := .tup []
  outs := [.arr 3 0 true]
  m := fun d dh => sortI d.1 dh.1
  ok := fun d dh r hr => by
    obtain ⟨n, u⟩ := d
    obtain ⟨xs, u2⟩ := dh
    unfold sortI at hr
    split at hr
    · rename_i hc
      injection hr with hr
      subst hr
      obtain ⟨rfl, hc⟩ := hc
      dsimp only at hc
      exact sortedA_tr (Value.int .i64) xs xs (List.mergeSort (α := Int) xs fun x y => decide (x ≤ y)) true rfl rfl (fun N ρ cs h => sortI_cells h) (List.mergeSort (α := Int) xs fun x y => decide (x ≤ y)) (List.length_mergeSort (α := Int) xs) (fun N ρ => sortI_svs _) (by kernel_rfl) rfl (fun h => by subst h; exact List.mergeSort_nil)
        (fun blk cap w h1 h2 => Tryz.slices_Sort_int blk 0 cap xs w h1 h2 hc) (fun p cap w => Tryz.slices_Sort_int_none p cap w)
    · cases hr

noncomputable def replace (n : Nat) (i j : Int) (ys xs : List (DShare)) : Option (List (DShare) × (Unit × Unit × Unit)) :=
  if ReplaceOk n i j ys xs then some (xs.take i.toNat ++ ys ++ xs.drop j.toNat, ((), (), ())) else none
noncomputable def replace_ce : CE CT Tryz.prog where
  f := 31
  args := [.one (.asz 6 0), .one (.int .i64), .one (.int .i64), .one (.sl 5)]
  hs := [.arr 35 6 true]
  res := .val (.one (.own 5 1))
  outs := [.dead, .row 35 4]
  m := fun d dh => replace d.1 d.2.1 d.2.2.1 d.2.2.2.1 dh.1
  ok := fun d dh r hr => by
    unfold replace at hr
    split at hr
    · rename_i hc
      injection hr with hr
      subst hr
      exact replace_tr hc
    · cases hr

noncomputable def watershedkit_OverShareRows_v (n : Nat) (xs : List (DShare)) : Option (Unit × (List (DShare) × Unit)) := if n ≤ 1000000 then some ((), ([], ())) else none
noncomputable def watershedkit_OverShareRows_v_ce : CE CT Tryz.prog where
  f := 47
  args := [.one (.asz 5 0)]
  hs := [.arr 35 5 true]
  res := .tup []
  outs := [.arr 35 5 true]
  m := fun d dh => watershedkit_OverShareRows_v d.1 dh.1
  ok := fun d dh r hr => by
    unfold watershedkit_OverShareRows_v at hr
    split at hr
    · rename_i hn
      injection hr with hr
      subst hr
      exact Tr.overA (S := 7) rfl rfl rfl (fun c h1 h2 h3 => by
        obtain ⟨ys, hy⟩ := watershedkit_OverShareRows_all d.1 c h1 h2 hn
        exact ⟨ys, watershedkit_OverShareRows_ce.ok ((0, d.1, c), ()) ([], ()) _ hy⟩)
    · cases hr

def shares_within_dr : Nat → DrA
  | _ => ⟨[], [], [], [], [], false⟩
noncomputable def shares_within_tb : List (CE CT Tryz.prog) := []
noncomputable def shares_within_lt : List (LE CT Tryz.prog) := []
noncomputable def shares_within (x0 : Int) (x1 : Int) (x2 : Int) : Option ((Bool) × (Unit)) :=
  (bif (decide ((x1 : Int) ≤ x0)) then
  some ((decide ((x0 : Int) ≤ x2)), ())
  else
  some (false, ()))
noncomputable def shares_within_ce : CE CT Tryz.prog where
  f := 30
  args := [.one (.int .i64), .one (.int .i64), .one (.int .i64)]
  hs := []
  res := .val (.one (.bool))
  outs := []
  m := fun d dh => shares_within d.1 d.2.1 d.2.2.1
  ok := ce_ok mixedP Tryz.func30 (by kernel_rfl) (orcOf_ok shares_within_tb) (dr := shares_within_dr) (lps := lpsOf shares_within_lt) (lps_fn (no_loop (by kernel_rfl))) (fun d dh => by kernel_rfl)

def span_All_dr : Nat → DrA
  | _ => ⟨[], [], [], [], [], false⟩
noncomputable def span_All_tb : List (CE CT Tryz.prog) := []
noncomputable def span_All_lt : List (LE CT Tryz.prog) := []
noncomputable def span_All  : Option ((DSpan) × (Unit)) :=
  some ((⟨([] : List UInt8), ([] : List UInt8)⟩ : DSpan), ())
noncomputable def span_All_ce : CE CT Tryz.prog where
  f := 43
  args := []
  hs := []
  res := .val (.cod 4)
  outs := []
  m := fun d dh => span_All
  ok := ce_ok mixedP Tryz.func43 (by kernel_rfl) (orcOf_ok span_All_tb) (dr := span_All_dr) (lps := lpsOf span_All_lt) (lps_fn (no_loop (by kernel_rfl))) (fun d dh => by kernel_rfl)

def shares_First_dr : Nat → DrA
  | _ => ⟨[], [], [], [], [], false⟩
noncomputable def shares_First_tb : List (CE CT Tryz.prog) := [shares_within_ce, span_All_ce]
noncomputable def shares_First_lt : List (LE CT Tryz.prog) := []
noncomputable def shares_First (x0 : Int) : Option ((DShares) × (Unit)) :=
  (shares_within x0 1 4).bind fun r1 =>
  (bif (!r1.1) then
  (span_All).bind fun r2 =>
  some ((⟨1, ([(⟨r2.1, 1, 1⟩ : DShare)] : List (DShare))⟩ : DShares), ())
  else
  (span_All).bind fun r3 =>
  some ((⟨1, ([(⟨r3.1, x0, 1⟩ : DShare)] : List (DShare))⟩ : DShares), ()))
noncomputable def shares_First_ce : CE CT Tryz.prog where
  f := 18
  args := [.one (.int .i64)]
  hs := []
  res := .val (.cod 9)
  outs := []
  m := fun d dh => shares_First d.1
  ok := ce_ok mixedP Tryz.func18 (by kernel_rfl) (orcOf_ok shares_First_tb) (dr := shares_First_dr) (lps := lpsOf shares_First_lt) (lps_fn (no_loop (by kernel_rfl))) (fun d dh => by kernel_rfl)

def shares_right1_dr : Nat → DrA
  | _ => ⟨[], [], [], [], [], false⟩
noncomputable def shares_right1_tb : List (CE CT Tryz.prog) := [shares_within_ce]
noncomputable def shares_right1_lt : List (LE CT Tryz.prog) := []
noncomputable def shares_right1 (x0 : DShare) (h0 : DWork) : Option ((Bool) × ((DWork) × Unit)) :=
  (shares_within x0.group 1 4).bind fun r1 =>
  (bif (!r1.1) then
  some (true, (h0, ()))
  else
  (shares_within x0.epoch 1 h0.shares.epoch).bind fun r2 =>
  some ((!r2.1), (h0, ())))
noncomputable def shares_right1_ce : CE CT Tryz.prog where
  f := 56
  args := [.cod 5, .one (.ptr 0 0)]
  hs := [.cobj 52 10]
  res := .val (.one (.bool))
  outs := [.cobj 52 10]
  m := fun d dh => shares_right1 d.1 dh.1
  ok := ce_ok mixedP Tryz.func56 (by kernel_rfl) (orcOf_ok shares_right1_tb) (dr := shares_right1_dr) (lps := lpsOf shares_right1_lt) (lps_fn (no_loop (by kernel_rfl))) (fun d dh => by kernel_rfl)

def slices_IndexFunc_dr : Nat → DrA
  | _ => ⟨[], [], [], [], [], false⟩
noncomputable def slices_IndexFunc_tb : List (CE CT Tryz.prog) := [shares_right1_ce]
noncomputable def slices_IndexFunc_l1 (a : ((List (DShare)) × (Unit) × (Int) × (Int) × Unit) × ((DWork) × Unit)) : Option ((((List (DShare)) × (Unit) × (Int) × (Int) × Unit) × ((DWork) × Unit)) ⊕ ((((Int) × Unit) × ((DWork) × Unit)) ⊕ ((Unit) × ((DWork) × Unit)))) :=
  (bif (decide ((a.1.2.2.2.1 : Int) < a.1.2.2.1)) then
  (getI a.1.1 a.1.2.2.2.1).bind fun e1 =>
  (shares_right1 e1 a.2.1).bind fun r2 =>
  (bif r2.1 then
  some (.inr (.inl ((a.1.2.2.2.1, ()), (r2.2.1, ()))))
  else
  some (.inl ((a.1.1, (), a.1.2.2.1, (IntKind.i64.wrap (a.1.2.2.2.1 + 1)), ()), (r2.2.1, ()))))
  else
  some (.inr (.inr ((), (a.2.1, ())))))
noncomputable def slices_IndexFunc_e1 : LE CT Tryz.prog := ⟨2, [0, 1, 7, 8], [.one (.sl 5), .one (.clo 56 [0]), .one (.int .i64), .one (.int .i64)], [.cobj 52 10], [⟨.ret, [4], [.one (.int .i64)], [.cobj 52 10]⟩, ⟨.exit 0, [], [], [.cobj 52 10]⟩], slices_IndexFunc_l1⟩
noncomputable def slices_IndexFunc_lt : List (LE CT Tryz.prog) := [slices_IndexFunc_e1]
theorem slices_IndexFunc_e1_ok : LeOk slices_IndexFunc_e1 (nthL (bodyOf Tryz.f50) 0) := fun A env h k z hk => le_ok (E := slices_IndexFunc_e1) (orcOf_ok slices_IndexFunc_tb) (dr := slices_IndexFunc_dr) (lps := lpsOf slices_IndexFunc_lt) (no_loop (by kernel_rfl)) (fun a => by kernel_rfl) env h k z hk
noncomputable def slices_IndexFunc (x0 : List (DShare)) (h0 : DWork) : Option ((Int) × ((DWork) × Unit)) :=
  (loopM slices_IndexFunc_l1 ((x0, (), (x0.length : Int), 0, ()), (h0, ()))).bind fun b1 =>
  (match b1 with
  | .inl b2 =>
  some (b2.1.1, (b2.2.1, ()))
  | .inr b3 =>
  some ((-1), (b3.2.1, ())))
noncomputable def slices_IndexFunc_ce : CE CT Tryz.prog where
  f := 50
  args := [.one (.sl 5), .one (.clo 56 [0])]
  hs := [.cobj 52 10]
  res := .val (.one (.int .i64))
  outs := [.cobj 52 10]
  m := fun d dh => slices_IndexFunc d.1 dh.1
  ok := ce_ok mixedP Tryz.func50 (by kernel_rfl) (orcOf_ok slices_IndexFunc_tb) (dr := slices_IndexFunc_dr) (lps := lpsOf slices_IndexFunc_lt) (lps_fn (lps_of (n := 1) (by kernel_rfl) fun i hi => match i, hi with | 0, _ => lp_ok (E := slices_IndexFunc_e1) (by kernel_rfl) slices_IndexFunc_e1_ok)) (fun d dh => by kernel_rfl)

def slices_ContainsFunc_dr : Nat → DrA
  | _ => ⟨[], [], [], [], [], false⟩
noncomputable def slices_ContainsFunc_tb : List (CE CT Tryz.prog) := [slices_IndexFunc_ce]
noncomputable def slices_ContainsFunc_lt : List (LE CT Tryz.prog) := []
noncomputable def slices_ContainsFunc (x0 : List (DShare)) (h0 : DWork) : Option ((Bool) × ((DWork) × Unit)) :=
  (slices_IndexFunc x0 h0).bind fun r1 =>
  some ((decide ((0 : Int) ≤ r1.1)), (r1.2.1, ()))
noncomputable def slices_ContainsFunc_ce : CE CT Tryz.prog where
  f := 55
  args := [.one (.sl 5), .one (.clo 56 [0])]
  hs := [.cobj 52 10]
  res := .val (.one (.bool))
  outs := [.cobj 52 10]
  m := fun d dh => slices_ContainsFunc d.1 dh.1
  ok := ce_ok mixedP Tryz.func55 (by kernel_rfl) (orcOf_ok slices_ContainsFunc_tb) (dr := slices_ContainsFunc_dr) (lps := lpsOf slices_ContainsFunc_lt) (lps_fn (no_loop (by kernel_rfl))) (fun d dh => by kernel_rfl)

def shares_spans_dr : Nat → DrA
  | _ => ⟨[], [], [], [], [], false⟩
noncomputable def shares_spans_tb : List (CE CT Tryz.prog) := []
noncomputable def shares_spans_l1 (a : ((List (DSpan)) × (List (DShare)) × (Int) × (Int) × Unit) × ((Unit) × Unit)) : Option ((((List (DSpan)) × (List (DShare)) × (Int) × (Int) × Unit) × ((Unit) × Unit)) ⊕ ((((List (DSpan)) × Unit) × ((Unit) × (Unit) × Unit)))) :=
  (bif (decide ((a.1.2.2.2.1 : Int) < a.1.2.2.1)) then
  (getI a.1.2.1 a.1.2.2.2.1).bind fun e1 =>
  (if a.1.1.length + ([e1.span] : List (DSpan)).length ≤ 140737488355328 ∧ (a.1.1.length + ([e1.span] : List (DSpan)).length) * 32 ≤ 140737488355328 then
  some (.inl (((a.1.1 ++ ([e1.span] : List (DSpan))), a.1.2.1, a.1.2.2.1, (IntKind.i64.wrap (a.1.2.2.2.1 + 1)), ()), ((), ())))
  else none)
  else
  some (.inr ((a.1.1, ()), ((), (), ()))))
noncomputable def shares_spans_e1 : LE CT Tryz.prog := ⟨3, [3, 8, 9, 10], [.one (.own 4 0), .one (.sl 5), .one (.int .i64), .one (.int .i64)], [.row 26 2], [⟨.exit 0, [3], [.one (.own 4 1)], [.dead, .row 26 2]⟩], shares_spans_l1⟩
noncomputable def shares_spans_lt : List (LE CT Tryz.prog) := [shares_spans_e1]
theorem shares_spans_e1_ok : LeOk shares_spans_e1 (nthL (bodyOf Tryz.f58) 0) := fun A env h k z hk => le_ok (E := shares_spans_e1) (orcOf_ok shares_spans_tb) (dr := shares_spans_dr) (lps := lpsOf shares_spans_lt) (no_loop (by kernel_rfl)) (fun a => by kernel_rfl) env h k z hk
noncomputable def shares_spans (x0 : DWork) : Option ((List (DSpan)) × ((Unit) × Unit)) :=
  (loopM shares_spans_l1 (([], x0.shares.list, (x0.shares.list.length : Int), 0, ()), ((), ()))).bind fun b1 =>
  some (b1.1.1, ((), ()))
noncomputable def shares_spans_ce : CE CT Tryz.prog where
  f := 58
  args := [.cod 10]
  hs := []
  res := .val (.one (.own 4 0))
  outs := [.row 26 2]
  m := fun d dh => shares_spans d.1
  ok := ce_ok mixedP Tryz.func58 (by kernel_rfl) (orcOf_ok shares_spans_tb) (dr := shares_spans_dr) (lps := lpsOf shares_spans_lt) (lps_fn (lps_of (n := 1) (by kernel_rfl) fun i hi => match i, hi with | 0, _ => lp_ok (E := shares_spans_e1) (by kernel_rfl) shares_spans_e1_ok)) (fun d dh => by kernel_rfl)

def span_ends_dr : Nat → DrA
  | 1 => ⟨[0, 4, 1, 2, 3, 5, 6, 7, 8, 9], [[], [0], [0, 1], [0, 1, 2], [], [4], [4, 5], [4, 5, 6], [0, 1, 2, 3], [0, 1, 2, 3, 4, 5, 6, 7, 8]], [5], [8], [0], false⟩
  | _ => ⟨[], [], [], [], [], false⟩
noncomputable def span_ends_tb : List (CE CT Tryz.prog) := []
noncomputable def span_ends_lt : List (LE CT Tryz.prog) := []
noncomputable def span_ends (x0 : DSpan) : Option (((DLow) × (DHigh) × Unit) × (Unit)) :=
  some (((⟨(⟨x0.lo⟩ : DText)⟩ : DLow), (⟨(⟨x0.hi⟩ : DText)⟩ : DHigh), ()), ())
noncomputable def span_ends_ce : CE CT Tryz.prog where
  f := 52
  args := [.cod 4]
  hs := []
  res := .tup [.cod 12, .cod 13]
  outs := []
  m := fun d dh => span_ends d.1
  ok := ce_ok mixedP Tryz.func52 (by kernel_rfl) (orcOf_ok span_ends_tb) (dr := span_ends_dr) (lps := lpsOf span_ends_lt) (lps_fn (no_loop (by kernel_rfl))) (fun d dh => by kernel_rfl)

def span_none_dr : Nat → DrA
  | _ => ⟨[], [], [], [], [], false⟩
noncomputable def span_none_tb : List (CE CT Tryz.prog) := []
noncomputable def span_none_lt : List (LE CT Tryz.prog) := []
noncomputable def span_none (x0 : DText) : Option ((Bool) × (Unit)) :=
  some ((decide (x0.s = ([] : List UInt8))), ())
noncomputable def span_none_ce : CE CT Tryz.prog where
  f := 59
  args := [.cod 11]
  hs := []
  res := .val (.one (.bool))
  outs := []
  m := fun d dh => span_none d.1
  ok := ce_ok mixedP Tryz.func59 (by kernel_rfl) (orcOf_ok span_none_tb) (dr := span_none_dr) (lps := lpsOf span_none_lt) (lps_fn (no_loop (by kernel_rfl))) (fun d dh => by kernel_rfl)

def cmp_isNaN_dr : Nat → DrA
  | _ => ⟨[], [], [], [], [], false⟩
noncomputable def cmp_isNaN_tb : List (CE CT Tryz.prog) := []
noncomputable def cmp_isNaN_lt : List (LE CT Tryz.prog) := []
noncomputable def cmp_isNaN (x0 : List UInt8) : Option ((Bool) × (Unit)) :=
  some ((decide (x0 ≠ x0)), ())
noncomputable def cmp_isNaN_ce : CE CT Tryz.prog where
  f := 87
  args := [.one (.str)]
  hs := []
  res := .val (.one (.bool))
  outs := []
  m := fun d dh => cmp_isNaN d.1
  ok := ce_ok mixedP Tryz.func87 (by kernel_rfl) (orcOf_ok cmp_isNaN_tb) (dr := cmp_isNaN_dr) (lps := lpsOf cmp_isNaN_lt) (lps_fn (no_loop (by kernel_rfl))) (fun d dh => by kernel_rfl)

def cmp_Compare_dr : Nat → DrA
  | _ => ⟨[], [], [], [], [], false⟩
noncomputable def cmp_Compare_tb : List (CE CT Tryz.prog) := [cmp_isNaN_ce]
noncomputable def cmp_Compare_lt : List (LE CT Tryz.prog) := []
noncomputable def cmp_Compare (x0 : List UInt8) (x1 : List UInt8) : Option ((Int) × (Unit)) :=
  (cmp_isNaN x0).bind fun r1 =>
  (cmp_isNaN x1).bind fun r2 =>
  (bif r1.1 then
  (bif r2.1 then
  some (0, ())
  else
  some ((-1), ()))
  else
  (bif r2.1 then
  some (1, ())
  else
  (bif (decide (x0 < x1)) then
  some ((-1), ())
  else
  (bif (!(decide (x0 < x1) || decide (x0 = x1))) then
  some (1, ())
  else
  some (0, ())))))
noncomputable def cmp_Compare_ce : CE CT Tryz.prog where
  f := 71
  args := [.one (.str), .one (.str)]
  hs := []
  res := .val (.one (.int .i64))
  outs := []
  m := fun d dh => cmp_Compare d.1 d.2.1
  ok := ce_ok mixedP Tryz.func71 (by kernel_rfl) (orcOf_ok cmp_Compare_tb) (dr := cmp_Compare_dr) (lps := lpsOf cmp_Compare_lt) (lps_fn (no_loop (by kernel_rfl))) (fun d dh => by kernel_rfl)

def span_compare_dr : Nat → DrA
  | _ => ⟨[], [], [], [], [], false⟩
noncomputable def span_compare_tb : List (CE CT Tryz.prog) := [cmp_Compare_ce]
noncomputable def span_compare_lt : List (LE CT Tryz.prog) := []
noncomputable def span_compare (x0 : DText) (x1 : DText) : Option ((Int) × (Unit)) :=
  (cmp_Compare x0.s x1.s).bind fun r1 =>
  some (r1.1, ())
noncomputable def span_compare_ce : CE CT Tryz.prog where
  f := 53
  args := [.cod 11, .cod 11]
  hs := []
  res := .val (.one (.int .i64))
  outs := []
  m := fun d dh => span_compare d.1 d.2.1
  ok := ce_ok mixedP Tryz.func53 (by kernel_rfl) (orcOf_ok span_compare_tb) (dr := span_compare_dr) (lps := lpsOf span_compare_lt) (lps_fn (no_loop (by kernel_rfl))) (fun d dh => by kernel_rfl)

def span_above_dr : Nat → DrA
  | _ => ⟨[], [], [], [], [], false⟩
noncomputable def span_above_tb : List (CE CT Tryz.prog) := [span_none_ce, span_compare_ce]
noncomputable def span_above_lt : List (LE CT Tryz.prog) := []
noncomputable def span_above (x0 : DHigh) (x1 : DText) : Option ((Bool) × (Unit)) :=
  (span_none x0.text).bind fun r1 =>
  (bif r1.1 then
  some (true, ())
  else
  (span_compare x0.text x1).bind fun r2 =>
  some ((decide ((0 : Int) < r2.1)), ()))
noncomputable def span_above_ce : CE CT Tryz.prog where
  f := 61
  args := [.cod 13, .cod 11]
  hs := []
  res := .val (.one (.bool))
  outs := []
  m := fun d dh => span_above d.1 d.2.1
  ok := ce_ok mixedP Tryz.func61 (by kernel_rfl) (orcOf_ok span_above_tb) (dr := span_above_dr) (lps := lpsOf span_above_lt) (lps_fn (no_loop (by kernel_rfl))) (fun d dh => by kernel_rfl)

def span_Key_dr : Nat → DrA
  | _ => ⟨[], [], [], [], [], false⟩
noncomputable def span_Key_tb : List (CE CT Tryz.prog) := []
noncomputable def span_Key_l1 (a : ((List UInt8) × (Int) × (Int) × Unit) × (Unit)) : Option ((((List UInt8) × (Int) × (Int) × Unit) × (Unit)) ⊕ ((((Bool) × Unit) × (Unit)) ⊕ ((Unit) × (Unit)))) :=
  (bif (decide ((a.1.2.2.1 : Int) < a.1.2.1)) then
  (getI a.1.1 a.1.2.2.1).bind fun e1 =>
  (bif (decide ((97 : Int) ≤ (e1.toNat : Int))) then
  (bif (decide (((e1.toNat : Int) : Int) ≤ 122)) then
  some (.inl ((a.1.1, a.1.2.1, (IntKind.i64.wrap (a.1.2.2.1 + 1)), ()), ()))
  else
  (bif (decide ((48 : Int) ≤ (e1.toNat : Int))) then
  (bif (!(decide (((e1.toNat : Int) : Int) ≤ 57))) then
  some (.inr (.inl ((false, ()), ())))
  else
  some (.inl ((a.1.1, a.1.2.1, (IntKind.i64.wrap (a.1.2.2.1 + 1)), ()), ())))
  else
  some (.inr (.inl ((false, ()), ())))))
  else
  (bif (decide ((48 : Int) ≤ (e1.toNat : Int))) then
  (bif (!(decide (((e1.toNat : Int) : Int) ≤ 57))) then
  some (.inr (.inl ((false, ()), ())))
  else
  some (.inl ((a.1.1, a.1.2.1, (IntKind.i64.wrap (a.1.2.2.1 + 1)), ()), ())))
  else
  some (.inr (.inl ((false, ()), ())))))
  else
  some (.inr (.inr ((), ()))))
noncomputable def span_Key_e1 : LE CT Tryz.prog := ⟨4, [0, 13, 14], [.one (.str), .one (.int .i64), .one (.int .i64)], [], [⟨.ret, [2], [.one (.bool)], []⟩, ⟨.exit 0, [], [], []⟩], span_Key_l1⟩
noncomputable def span_Key_lt : List (LE CT Tryz.prog) := [span_Key_e1]
theorem span_Key_e1_ok : LeOk span_Key_e1 (nthL (bodyOf Tryz.f60) 0) := fun A env h k z hk => le_ok (E := span_Key_e1) (orcOf_ok span_Key_tb) (dr := span_Key_dr) (lps := lpsOf span_Key_lt) (no_loop (by kernel_rfl)) (fun a => by kernel_rfl) env h k z hk
noncomputable def span_Key (x0 : List UInt8) : Option ((Bool) × (Unit)) :=
  (bif (decide (x0 = ([] : List UInt8))) then
  some (false, ())
  else
  (bif (decide ((20 : Int) < (x0.length : Int))) then
  some (false, ())
  else
  (loopM span_Key_l1 ((x0, (x0.length : Int), 0, ()), ())).bind fun b1 =>
  (match b1 with
  | .inl b2 =>
  some (b2.1.1, ())
  | .inr b3 =>
  some (true, ()))))
noncomputable def span_Key_ce : CE CT Tryz.prog where
  f := 60
  args := [.one (.str)]
  hs := []
  res := .val (.one (.bool))
  outs := []
  m := fun d dh => span_Key d.1
  ok := ce_ok mixedP Tryz.func60 (by kernel_rfl) (orcOf_ok span_Key_tb) (dr := span_Key_dr) (lps := lpsOf span_Key_lt) (lps_fn (lps_of (n := 1) (by kernel_rfl) fun i hi => match i, hi with | 0, _ => lp_ok (E := span_Key_e1) (by kernel_rfl) span_Key_e1_ok)) (fun d dh => by kernel_rfl)

def span_Right_dr : Nat → DrA
  | _ => ⟨[], [], [], [], [], false⟩
noncomputable def span_Right_tb : List (CE CT Tryz.prog) := [span_ends_ce, span_none_ce, span_above_ce, span_Key_ce]
noncomputable def span_Right_lt : List (LE CT Tryz.prog) := []
noncomputable def span_Right (x0 : DSpan) : Option ((Bool) × (Unit)) :=
  (span_ends x0).bind fun r1 =>
  (span_none r1.1.1.text).bind fun r2 =>
  (bif r2.1 then
  (span_none r1.1.2.1.text).bind fun r3 =>
  (bif r3.1 then
  (span_above r1.1.2.1 r1.1.1.text).bind fun r4 =>
  some (r4.1, ())
  else
  (span_Key x0.hi).bind fun r5 =>
  (bif r5.1 then
  (span_above r1.1.2.1 r1.1.1.text).bind fun r6 =>
  some (r6.1, ())
  else
  some (false, ())))
  else
  (span_Key x0.lo).bind fun r7 =>
  (bif r7.1 then
  (span_none r1.1.2.1.text).bind fun r8 =>
  (bif r8.1 then
  (span_above r1.1.2.1 r1.1.1.text).bind fun r9 =>
  some (r9.1, ())
  else
  (span_Key x0.hi).bind fun r10 =>
  (bif r10.1 then
  (span_above r1.1.2.1 r1.1.1.text).bind fun r11 =>
  some (r11.1, ())
  else
  some (false, ())))
  else
  some (false, ())))
noncomputable def span_Right_ce : CE CT Tryz.prog where
  f := 29
  args := [.cod 4]
  hs := []
  res := .val (.one (.bool))
  outs := []
  m := fun d dh => span_Right d.1
  ok := ce_ok mixedP Tryz.func29 (by kernel_rfl) (orcOf_ok span_Right_tb) (dr := span_Right_dr) (lps := lpsOf span_Right_lt) (lps_fn (no_loop (by kernel_rfl))) (fun d dh => by kernel_rfl)

def span_Parts_dr : Nat → DrA
  | 7 => ⟨[0, 2, 1, 5, 3, 4, 6], [[], [0], [], [2], [2, 3], [0, 1], [0, 1, 2, 3, 4, 5]], [], [], [], false⟩
  | _ => ⟨[], [], [], [], [], false⟩
noncomputable def span_Parts_tb : List (CE CT Tryz.prog) := [span_Right_ce]
noncomputable def span_Parts_l1 (a : ((List (DSpan)) × (List UInt8) × (Bool) × (List (DSpan)) × (Int) × (Int) × Unit) × (Unit)) : Option ((((List (DSpan)) × (List UInt8) × (Bool) × (List (DSpan)) × (Int) × (Int) × Unit) × (Unit)) ⊕ ((((Bool) × Unit) × (Unit)) ⊕ (((Bool) × Unit) × (Unit)))) :=
  (bif (decide ((a.1.2.2.2.2.2.1 : Int) < a.1.2.2.2.2.1)) then
  (getI a.1.2.2.2.1 a.1.2.2.2.2.2.1).bind fun e1 =>
  (span_Right e1).bind fun r2 =>
  (bif (!r2.1) then
  some (.inr (.inl ((false, ()), ())))
  else
  (bif (decide (e1.lo ≠ a.1.2.1)) then
  some (.inr (.inl ((false, ()), ())))
  else
  (bif a.1.2.2.1 then
  some (.inr (.inl ((false, ()), ())))
  else
  (bif (decide (e1.hi = ([] : List UInt8))) then
  (bif (decide ((a.1.2.2.2.2.2.1 : Int) < (IntKind.i64.wrap ((a.1.1.length : Int) - 1)))) then
  some (.inr (.inl ((false, ()), ())))
  else
  some (.inl ((a.1.1, e1.hi, (decide (e1.hi = ([] : List UInt8))), a.1.2.2.2.1, a.1.2.2.2.2.1, (IntKind.i64.wrap (a.1.2.2.2.2.2.1 + 1)), ()), ())))
  else
  some (.inl ((a.1.1, e1.hi, (decide (e1.hi = ([] : List UInt8))), a.1.2.2.2.1, a.1.2.2.2.2.1, (IntKind.i64.wrap (a.1.2.2.2.2.2.1 + 1)), ()), ()))))))
  else
  some (.inr (.inr ((a.1.2.2.1, ()), ()))))
noncomputable def span_Parts_e1 : LE CT Tryz.prog := ⟨3, [0, 3, 4, 7, 8, 9], [.one (.sl 4), .one (.str), .one (.bool), .one (.sl 4), .one (.int .i64), .one (.int .i64)], [], [⟨.ret, [2], [.one (.bool)], []⟩, ⟨.exit 0, [4], [.one (.bool)], []⟩], span_Parts_l1⟩
noncomputable def span_Parts_lt : List (LE CT Tryz.prog) := [span_Parts_e1]
theorem span_Parts_e1_ok : LeOk span_Parts_e1 (nthL (bodyOf Tryz.f57) 0) := fun A env h k z hk => le_ok (E := span_Parts_e1) (orcOf_ok span_Parts_tb) (dr := span_Parts_dr) (lps := lpsOf span_Parts_lt) (no_loop (by kernel_rfl)) (fun a => by kernel_rfl) env h k z hk
noncomputable def span_Parts (x0 : List (DSpan)) : Option ((Bool) × (Unit)) :=
  (loopM span_Parts_l1 ((x0, ([] : List UInt8), false, x0, (x0.length : Int), 0, ()), ())).bind fun b1 =>
  (match b1 with
  | .inl b2 =>
  some (b2.1.1, ())
  | .inr b3 =>
  some (b3.1.1, ()))
noncomputable def span_Parts_ce : CE CT Tryz.prog where
  f := 57
  args := [.one (.sl 4)]
  hs := []
  res := .val (.one (.bool))
  outs := []
  m := fun d dh => span_Parts d.1
  ok := ce_ok mixedP Tryz.func57 (by kernel_rfl) (orcOf_ok span_Parts_tb) (dr := span_Parts_dr) (lps := lpsOf span_Parts_lt) (lps_fn (lps_of (n := 1) (by kernel_rfl) fun i hi => match i, hi with | 0, _ => lp_ok (E := span_Parts_e1) (by kernel_rfl) span_Parts_e1_ok)) (fun d dh => by kernel_rfl)

def shares_right_dr : Nat → DrA
  | _ => ⟨[], [], [], [], [], false⟩
noncomputable def shares_right_tb : List (CE CT Tryz.prog) := [slices_ContainsFunc_ce, shares_within_ce, shares_spans_ce, span_Parts_ce]
noncomputable def shares_right_lt : List (LE CT Tryz.prog) := []
noncomputable def shares_right (x0 : DWork) : Option ((Bool) × (Unit)) :=
  (slices_ContainsFunc x0.shares.list x0).bind fun r1 =>
  (shares_within r1.2.1.shares.epoch 1 1073741824).bind fun r2 =>
  (bif r2.1 then
  (bif (decide (((r1.2.1.shares.list.length : Int) : Int) ≤ 40)) then
  (bif (!r1.1) then
  (shares_spans r1.2.1).bind fun r3 =>
  (span_Parts r3.1).bind fun r4 =>
  some (r4.1, ())
  else
  some (false, ()))
  else
  some (false, ()))
  else
  some (false, ()))
noncomputable def shares_right_ce : CE CT Tryz.prog where
  f := 28
  args := [.cod 10]
  hs := []
  res := .val (.one (.bool))
  outs := []
  m := fun d dh => shares_right d.1
  ok := ce_ok mixedP Tryz.func28 (by kernel_rfl) (orcOf_ok shares_right_tb) (dr := shares_right_dr) (lps := lpsOf shares_right_lt) (lps_fn (no_loop (by kernel_rfl))) (fun d dh => by kernel_rfl)

def span_over_dr : Nat → DrA
  | _ => ⟨[], [], [], [], [], false⟩
noncomputable def span_over_tb : List (CE CT Tryz.prog) := [span_none_ce, span_compare_ce]
noncomputable def span_over_lt : List (LE CT Tryz.prog) := []
noncomputable def span_over (x0 : DHigh) (x1 : DHigh) : Option ((Bool) × (Unit)) :=
  (span_none x0.text).bind fun r1 =>
  (bif r1.1 then
  some (true, ())
  else
  (span_none x1.text).bind fun r2 =>
  (bif (!r2.1) then
  (span_compare x0.text x1.text).bind fun r3 =>
  some ((decide ((0 : Int) ≤ r3.1)), ())
  else
  some (false, ())))
noncomputable def span_over_ce : CE CT Tryz.prog where
  f := 54
  args := [.cod 13, .cod 13]
  hs := []
  res := .val (.one (.bool))
  outs := []
  m := fun d dh => span_over d.1 d.2.1
  ok := ce_ok mixedP Tryz.func54 (by kernel_rfl) (orcOf_ok span_over_tb) (dr := span_over_dr) (lps := lpsOf span_over_lt) (lps_fn (no_loop (by kernel_rfl))) (fun d dh => by kernel_rfl)

def span_Within_dr : Nat → DrA
  | _ => ⟨[], [], [], [], [], false⟩
noncomputable def span_Within_tb : List (CE CT Tryz.prog) := [span_ends_ce, span_Right_ce, span_compare_ce, span_over_ce]
noncomputable def span_Within_lt : List (LE CT Tryz.prog) := []
noncomputable def span_Within (x0 : DSpan) (x1 : DSpan) : Option ((Bool) × (Unit)) :=
  (span_ends x0).bind fun r1 =>
  (span_ends x1).bind fun r2 =>
  (span_Right x0).bind fun r3 =>
  (bif r3.1 then
  (span_Right x1).bind fun r4 =>
  (bif r4.1 then
  (span_compare r2.1.1.text r1.1.1.text).bind fun r5 =>
  (bif (decide ((r5.1 : Int) ≤ 0)) then
  (span_over r2.1.2.1 r1.1.2.1).bind fun r6 =>
  some (r6.1, ())
  else
  some (false, ()))
  else
  some (false, ()))
  else
  some (false, ()))
noncomputable def span_Within_ce : CE CT Tryz.prog where
  f := 27
  args := [.cod 4, .cod 4]
  hs := []
  res := .val (.one (.bool))
  outs := []
  m := fun d dh => span_Within d.1 d.2.1
  ok := ce_ok mixedP Tryz.func27 (by kernel_rfl) (orcOf_ok span_Within_tb) (dr := span_Within_dr) (lps := lpsOf span_Within_lt) (lps_fn (no_loop (by kernel_rfl))) (fun d dh => by kernel_rfl)

def shares_Turn1_dr : Nat → DrA
  | _ => ⟨[], [], [], [], [], false⟩
noncomputable def shares_Turn1_tb : List (CE CT Tryz.prog) := [span_Within_ce]
noncomputable def shares_Turn1_lt : List (LE CT Tryz.prog) := []
noncomputable def shares_Turn1 (x0 : DSpan) (h0 : DSpan) : Option ((Bool) × ((DSpan) × Unit)) :=
  (span_Within h0 x0).bind fun r1 =>
  some (r1.1, (h0, ()))
noncomputable def shares_Turn1_ce : CE CT Tryz.prog where
  f := 26
  args := [.cod 4, .one (.ptr 0 0)]
  hs := [.cobj 26 4]
  res := .val (.one (.bool))
  outs := [.cobj 26 4]
  m := fun d dh => shares_Turn1 d.1 dh.1
  ok := ce_ok mixedP Tryz.func26 (by kernel_rfl) (orcOf_ok shares_Turn1_tb) (dr := shares_Turn1_dr) (lps := lpsOf shares_Turn1_lt) (lps_fn (no_loop (by kernel_rfl))) (fun d dh => by kernel_rfl)

def shares_at1_dr : Nat → DrA
  | _ => ⟨[], [], [], [], [], false⟩
noncomputable def shares_at1_tb : List (CE CT Tryz.prog) := [shares_Turn1_ce]
noncomputable def shares_at1_lt : List (LE CT Tryz.prog) := []
noncomputable def shares_at1 (x0 : DShare) (h0 : (Unit) × Unit) (h1 : DSpan) : Option ((Bool) × (((Unit) × Unit) × (DSpan) × Unit)) :=
  (shares_Turn1 x0.span h1).bind fun r1 =>
  some (r1.1, (((), ()), r1.2.1, ()))
noncomputable def shares_at1_ce : CE CT Tryz.prog where
  f := 51
  args := [.cod 5, .one (.ptr 0 0)]
  hs := [.obj 55 [.clo 26 [1]], .cobj 26 4]
  res := .val (.one (.bool))
  outs := [.obj 55 [.clo 26 [1]], .cobj 26 4]
  m := fun d dh => shares_at1 d.1 dh.1 dh.2.1
  ok := ce_ok mixedP Tryz.func51 (by kernel_rfl) (orcOf_ok shares_at1_tb) (dr := shares_at1_dr) (lps := lpsOf shares_at1_lt) (lps_fn (no_loop (by kernel_rfl))) (fun d dh => by kernel_rfl)

def slices_IndexFunc_2_dr : Nat → DrA
  | _ => ⟨[], [], [], [], [], false⟩
noncomputable def slices_IndexFunc_2_tb : List (CE CT Tryz.prog) := [shares_at1_ce]
noncomputable def slices_IndexFunc_2_l1 (a : ((List (DShare)) × (Unit) × (Int) × (Int) × Unit) × (((Unit) × Unit) × (DSpan) × Unit)) : Option ((((List (DShare)) × (Unit) × (Int) × (Int) × Unit) × (((Unit) × Unit) × (DSpan) × Unit)) ⊕ ((((Int) × Unit) × (((Unit) × Unit) × (DSpan) × Unit)) ⊕ ((Unit) × (((Unit) × Unit) × (DSpan) × Unit)))) :=
  (bif (decide ((a.1.2.2.2.1 : Int) < a.1.2.2.1)) then
  (getI a.1.1 a.1.2.2.2.1).bind fun e1 =>
  (shares_at1 e1 ((), ()) a.2.2.1).bind fun r2 =>
  (bif r2.1 then
  some (.inr (.inl ((a.1.2.2.2.1, ()), (((), ()), r2.2.2.1, ()))))
  else
  some (.inl ((a.1.1, (), a.1.2.2.1, (IntKind.i64.wrap (a.1.2.2.2.1 + 1)), ()), (((), ()), r2.2.2.1, ()))))
  else
  some (.inr (.inr ((), (((), ()), a.2.2.1, ())))))
noncomputable def slices_IndexFunc_2_e1 : LE CT Tryz.prog := ⟨2, [0, 1, 7, 8], [.one (.sl 5), .one (.clo 51 [0]), .one (.int .i64), .one (.int .i64)], [.obj 55 [.clo 26 [1]], .cobj 26 4], [⟨.ret, [4], [.one (.int .i64)], [.obj 55 [.clo 26 [1]], .cobj 26 4]⟩, ⟨.exit 0, [], [], [.obj 55 [.clo 26 [1]], .cobj 26 4]⟩], slices_IndexFunc_2_l1⟩
noncomputable def slices_IndexFunc_2_lt : List (LE CT Tryz.prog) := [slices_IndexFunc_2_e1]
theorem slices_IndexFunc_2_e1_ok : LeOk slices_IndexFunc_2_e1 (nthL (bodyOf Tryz.f50) 0) := fun A env h k z hk => le_ok (E := slices_IndexFunc_2_e1) (orcOf_ok slices_IndexFunc_2_tb) (dr := slices_IndexFunc_2_dr) (lps := lpsOf slices_IndexFunc_2_lt) (no_loop (by kernel_rfl)) (fun a => by kernel_rfl) env h k z hk
noncomputable def slices_IndexFunc_2 (x0 : List (DShare)) (h0 : (Unit) × Unit) (h1 : DSpan) : Option ((Int) × (((Unit) × Unit) × (DSpan) × Unit)) :=
  (loopM slices_IndexFunc_2_l1 ((x0, (), (x0.length : Int), 0, ()), (((), ()), h1, ()))).bind fun b1 =>
  (match b1 with
  | .inl b2 =>
  some (b2.1.1, (((), ()), b2.2.2.1, ()))
  | .inr b3 =>
  some ((-1), (((), ()), b3.2.2.1, ())))
noncomputable def slices_IndexFunc_2_ce : CE CT Tryz.prog where
  f := 50
  args := [.one (.sl 5), .one (.clo 51 [0])]
  hs := [.obj 55 [.clo 26 [1]], .cobj 26 4]
  res := .val (.one (.int .i64))
  outs := [.obj 55 [.clo 26 [1]], .cobj 26 4]
  m := fun d dh => slices_IndexFunc_2 d.1 dh.1 dh.2.1
  ok := ce_ok mixedP Tryz.func50 (by kernel_rfl) (orcOf_ok slices_IndexFunc_2_tb) (dr := slices_IndexFunc_2_dr) (lps := lpsOf slices_IndexFunc_2_lt) (lps_fn (lps_of (n := 1) (by kernel_rfl) fun i hi => match i, hi with | 0, _ => lp_ok (E := slices_IndexFunc_2_e1) (by kernel_rfl) slices_IndexFunc_2_e1_ok)) (fun d dh => by kernel_rfl)

def shares_at_dr : Nat → DrA
  | _ => ⟨[], [], [], [], [], false⟩
noncomputable def shares_at_tb : List (CE CT Tryz.prog) := [shares_right_ce, slices_IndexFunc_2_ce]
noncomputable def shares_at_lt : List (LE CT Tryz.prog) := []
noncomputable def shares_at (x0 : DWork) (h0 : DSpan) : Option ((Int) × ((DSpan) × Unit)) :=
  (shares_right x0).bind fun r1 =>
  (bif (!r1.1) then
  some ((-1), (h0, ()))
  else
  (slices_IndexFunc_2 x0.shares.list ((), ()) h0).bind fun r2 =>
  some (r2.1, (r2.2.2.1, ())))
noncomputable def shares_at_ce : CE CT Tryz.prog where
  f := 25
  args := [.cod 10, .one (.clo 26 [0])]
  hs := [.cobj 26 4]
  res := .val (.one (.int .i64))
  outs := [.cobj 26 4]
  m := fun d dh => shares_at d.1 dh.1
  ok := ce_ok mixedP Tryz.func25 (by kernel_rfl) (orcOf_ok shares_at_tb) (dr := shares_at_dr) (lps := lpsOf shares_at_lt) (lps_fn (no_loop (by kernel_rfl))) (fun d dh => by kernel_rfl)

noncomputable def cloneA32 (x : List (DShare)) : Option (Nat × ((List (DShare)) × Unit)) :=
  if x.length ≠ 0 ∧ x.length ≤ 140737488355328 ∧ x.length * 48 ≤ 140737488355328 then some (x.length, (x, ())) else none
noncomputable def cloneA32_ce : CE CT Tryz.prog where
  f := 32
  args := [.one (.sl 5)]
  hs := []
  res := .val (.one (.asz 6 0))
  outs := [.arr 35 6 true]
  m := fun d dh => cloneA32 d.1
  ok := fun d dh r hr => by
    unfold cloneA32 at hr
    split at hr
    · rename_i hroom
      injection hr with hr
      subst hr
      exact cloneF_tr mixedP Tryz.func32 (by kernel_rfl) rfl rfl (zv := .agg #[.string ⟨#[]⟩, .string ⟨#[]⟩, .int .i64 0, .int .i64 0]) (he := by kernel_rfl) (hsz := by kernel_rfl) (hz := by kernel_rfl) (hby := by kernel_rfl) rfl rfl (F := 6) (zt := ((⟨(⟨([] : List UInt8), ([] : List UInt8)⟩ : DSpan), 0, 0⟩ : DShare) : DShare)) d.1 d.1 (by kernel_rfl) rfl rfl (fun _ _ _ h => h) hroom.1 hroom.2
    · cases hr

def slices_Values_dr : Nat → DrA
  | _ => ⟨[], [], [], [], [], false⟩
noncomputable def slices_Values_tb : List (CE CT Tryz.prog) := []
noncomputable def slices_Values_lt : List (LE CT Tryz.prog) := []
noncomputable def slices_Values (x0 : List (List UInt8)) : Option ((Unit) × ((List (List UInt8)) × Unit)) :=
  some ((), (x0, ()))
noncomputable def slices_Values_ce : CE CT Tryz.prog where
  f := 75
  args := [.one (.sl 2)]
  hs := []
  res := .val (.one (.clo 91 [0]))
  outs := [.cobj 27 3]
  m := fun d dh => slices_Values d.1
  ok := ce_ok mixedP Tryz.func75 (by kernel_rfl) (orcOf_ok slices_Values_tb) (dr := slices_Values_dr) (lps := lpsOf slices_Values_lt) (lps_fn (no_loop (by kernel_rfl))) (fun d dh => by kernel_rfl)

def slices_Collect_dr : Nat → DrA
  | _ => ⟨[], [], [], [], [], false⟩
noncomputable def slices_Collect_tb : List (CE CT Tryz.prog) := [appendSeq_ce]
noncomputable def slices_Collect_lt : List (LE CT Tryz.prog) := []
noncomputable def slices_Collect (h0 : List (List UInt8)) : Option ((Nat × Nat) × ((List (List UInt8)) × (List (List UInt8)) × Unit)) :=
  (appendSeq h0).bind fun r1 =>
  some ((r1.1.1, r1.1.2), (r1.2.1, r1.2.2.1, ()))
noncomputable def slices_Collect_ce : CE CT Tryz.prog where
  f := 89
  args := [.one (.clo 91 [0])]
  hs := [.cobj 27 3]
  res := .val (.one (.asu 2 1))
  outs := [.cobj 27 3, .arr 9 2 false]
  m := fun d dh => slices_Collect dh.1
  ok := ce_ok mixedP Tryz.func89 (by kernel_rfl) (orcOf_ok slices_Collect_tb) (dr := slices_Collect_dr) (lps := lpsOf slices_Collect_lt) (lps_fn (no_loop (by kernel_rfl))) (fun d dh => by kernel_rfl)

def slices_Sorted_dr : Nat → DrA
  | _ => ⟨[], [], [], [], [], false⟩
noncomputable def slices_Sorted_tb : List (CE CT Tryz.prog) := [slices_Collect_ce, sortT_ce]
noncomputable def slices_Sorted_lt : List (LE CT Tryz.prog) := []
noncomputable def slices_Sorted (h0 : List (List UInt8)) : Option ((Nat × Nat) × ((List (List UInt8)) × (List (List UInt8)) × Unit)) :=
  (slices_Collect h0).bind fun r1 =>
  (sortT (r1.1.1, r1.1.2) r1.2.2.1).bind fun r2 =>
  some ((r1.1.1, r1.1.2), (r1.2.1, r2.2.1, ()))
noncomputable def slices_Sorted_ce : CE CT Tryz.prog where
  f := 74
  args := [.one (.clo 91 [0])]
  hs := [.cobj 27 3]
  res := .val (.one (.asu 2 1))
  outs := [.cobj 27 3, .arr 9 2 false]
  m := fun d dh => slices_Sorted dh.1
  ok := ce_ok mixedP Tryz.func74 (by kernel_rfl) (orcOf_ok slices_Sorted_tb) (dr := slices_Sorted_dr) (lps := lpsOf slices_Sorted_lt) (lps_fn (no_loop (by kernel_rfl))) (fun d dh => by kernel_rfl)

def slices_Compact_dr : Nat → DrA
  | 6 => ⟨[0, 1, 2, 4, 5, 6, 7, 3, 8, 9], [[], [], [0, 1], [0, 1, 2], [], [], [5], [4, 5, 6], [4, 5, 6, 7], [0, 1, 2, 3, 4, 5, 6, 7, 8]], [], [], [], false⟩
  | 11 => ⟨[0, 1, 2, 4, 5, 6, 7, 3, 8, 9], [[], [], [0, 1], [0, 1, 2], [], [], [5], [4, 5, 6], [4, 5, 6, 7], [0, 1, 2, 3, 4, 5, 6, 7, 8]], [], [], [], false⟩
  | _ => ⟨[], [], [], [], [], false⟩
noncomputable def slices_Compact_tb : List (CE CT Tryz.prog) := []
noncomputable def slices_Compact_l2 (a : ((Nat × Nat) × (Int) × (Nat × Nat) × (Int) × Unit) × ((List (List UInt8)) × Unit)) : Option ((((Nat × Nat) × (Int) × (Nat × Nat) × (Int) × Unit) × ((List (List UInt8)) × Unit)) ⊕ ((((Nat × Nat) × (Int) × Unit) × ((List (List UInt8)) × Unit)))) :=
  (bif (decide ((a.1.2.2.2.1 : Int) < ((a.1.2.2.1.2 : Nat) : Int))) then
  (if 0 ≤ (a.1.2.2.2.1 : Int) ∧ (a.1.2.2.2.1 : Int) < ((a.1.2.2.1.2 : Nat) : Int) then
  (if 0 ≤ ((IntKind.i64.wrap (a.1.2.2.2.1 - 1)) : Int) ∧ ((IntKind.i64.wrap (a.1.2.2.2.1 - 1)) : Int) < ((a.1.2.2.1.2 : Nat) : Int) then
  (a.2.1[(a.1.2.2.1.1 + (a.1.2.2.2.1 : Int).toNat)]?).bind fun e1 =>
  (a.2.1[(a.1.2.2.1.1 + ((IntKind.i64.wrap (a.1.2.2.2.1 - 1)) : Int).toNat)]?).bind fun e2 =>
  (bif (decide (e1 ≠ e2)) then
  (if 0 ≤ (a.1.2.2.2.1 : Int) ∧ (a.1.2.2.2.1 : Int) < ((a.1.2.2.1.2 : Nat) : Int) then
  (a.2.1[(a.1.2.2.1.1 + (a.1.2.2.2.1 : Int).toNat)]?).bind fun e3 =>
  (if 0 ≤ (a.1.2.1 : Int) ∧ (a.1.2.1 : Int) < ((a.1.1.2 : Nat) : Int) then
  (a.2.1[(a.1.1.1 + (a.1.2.1 : Int).toNat)]?).bind fun e4 =>
  some (.inl (((a.1.1.1, a.1.1.2), (IntKind.i64.wrap (a.1.2.1 + 1)), (a.1.2.2.1.1, a.1.2.2.1.2), (IntKind.i64.wrap (a.1.2.2.2.1 + 1)), ()), ((a.2.1.set (a.1.1.1 + (a.1.2.1 : Int).toNat) e3), ())))
  else none)
  else none)
  else
  some (.inl (((a.1.1.1, a.1.1.2), a.1.2.1, (a.1.2.2.1.1, a.1.2.2.1.2), (IntKind.i64.wrap (a.1.2.2.2.1 + 1)), ()), (a.2.1, ()))))
  else none)
  else none)
  else
  some (.inr (((a.1.1.1, a.1.1.2), a.1.2.1, ()), (a.2.1, ()))))
noncomputable def slices_Compact_e2 : LE CT Tryz.prog := ⟨9, [0, 3, 4, 5], [.one (.asu 2 0), .one (.int .i64), .one (.asu 2 0), .one (.int .i64)], [.arr 9 2 true], [⟨.exit 2, [0, 3], [.one (.asu 2 0), .one (.int .i64)], [.arr 9 2 true]⟩], slices_Compact_l2⟩
noncomputable def slices_Compact_l1 (a : ((Nat × Nat) × (Int) × Unit) × ((List (List UInt8)) × Unit)) : Option ((((Nat × Nat) × (Int) × Unit) × ((List (List UInt8)) × Unit)) ⊕ ((((Nat × Nat) × Unit) × ((List (List UInt8)) × Unit)) ⊕ (((Nat × Nat) × Unit) × ((List (List UInt8)) × Unit)))) :=
  (bif (decide ((a.1.2.1 : Int) < ((a.1.1.2 : Nat) : Int))) then
  (if 0 ≤ (a.1.2.1 : Int) ∧ (a.1.2.1 : Int) < ((a.1.1.2 : Nat) : Int) then
  (if 0 ≤ ((IntKind.i64.wrap (a.1.2.1 - 1)) : Int) ∧ ((IntKind.i64.wrap (a.1.2.1 - 1)) : Int) < ((a.1.1.2 : Nat) : Int) then
  (a.2.1[(a.1.1.1 + (a.1.2.1 : Int).toNat)]?).bind fun e1 =>
  (a.2.1[(a.1.1.1 + ((IntKind.i64.wrap (a.1.2.1 - 1)) : Int).toNat)]?).bind fun e2 =>
  (bif (decide (e1 = e2)) then
  (if 0 ≤ (a.1.2.1 : Int) ∧ (a.1.2.1 : Int) ≤ ((a.1.1.2 : Nat) : Int) ∧ ((a.1.1.2 : Nat) : Int) ≤ ((a.1.1.2 : Nat) : Int) ∧ ((a.1.1.2 : Nat) : Int) ≤ 140737488355328 then
  (loopM slices_Compact_l2 (((a.1.1.1, a.1.1.2), a.1.2.1, ((a.1.1.1 + (a.1.2.1 : Int).toNat), (((a.1.1.2 : Nat) : Int).toNat - (a.1.2.1 : Int).toNat)), 1, ()), (a.2.1, ()))).bind fun b3 =>
  (if 0 ≤ (b3.1.2.1 : Int) ∧ (b3.1.2.1 : Int) ≤ ((b3.1.1.2 : Nat) : Int) ∧ ((b3.1.1.2 : Nat) : Int) ≤ ((b3.1.1.2 : Nat) : Int) ∧ ((b3.1.1.2 : Nat) : Int) ≤ 140737488355328 then
  (if (b3.1.1.1 + (b3.1.2.1 : Int).toNat) ≤ b3.2.1.length then
  let y4 : List (List UInt8) := (b3.2.1.take (b3.1.1.1 + (b3.1.2.1 : Int).toNat) ++ List.replicate (((b3.1.1.2 : Nat) : Int).toNat - (b3.1.2.1 : Int).toNat) (([] : List UInt8) : List UInt8) ++ b3.2.1.drop ((b3.1.1.1 + (b3.1.2.1 : Int).toNat) + (((b3.1.1.2 : Nat) : Int).toNat - (b3.1.2.1 : Int).toNat)))
  (if 0 ≤ (0 : Int) ∧ (0 : Int) ≤ (b3.1.2.1 : Int) ∧ (b3.1.2.1 : Int) ≤ ((b3.1.1.2 : Nat) : Int) ∧ (b3.1.2.1 : Int) ≤ 140737488355328 then
  some (.inr (.inl ((((b3.1.1.1 + (0 : Int).toNat), ((b3.1.2.1 : Int).toNat - (0 : Int).toNat)), ()), (y4, ()))))
  else none)
  else none)
  else none)
  else none)
  else
  some (.inl (((a.1.1.1, a.1.1.2), (IntKind.i64.wrap (a.1.2.1 + 1)), ()), (a.2.1, ()))))
  else none)
  else none)
  else
  some (.inr (.inr (((a.1.1.1, a.1.1.2), ()), (a.2.1, ())))))
noncomputable def slices_Compact_e1 : LE CT Tryz.prog := ⟨4, [0, 3], [.one (.asu 2 0), .one (.int .i64)], [.arr 9 2 true], [⟨.ret, [2], [.one (.asu 2 0)], [.arr 9 2 true]⟩, ⟨.exit 0, [0], [.one (.asu 2 0)], [.arr 9 2 true]⟩], slices_Compact_l1⟩
noncomputable def slices_Compact_lt : List (LE CT Tryz.prog) := [slices_Compact_e2, slices_Compact_e1]
theorem slices_Compact_e2_ok : LeOk slices_Compact_e2 (nthL (nthL (bodyOf Tryz.f73) 0) 0) := fun A env h k z hk => le_ok (E := slices_Compact_e2) (orcOf_ok slices_Compact_tb) (dr := slices_Compact_dr) (lps := lpsOf slices_Compact_lt) (no_loop (by kernel_rfl)) (fun a => by kernel_rfl) env h k z hk
theorem slices_Compact_e1_ok : LeOk slices_Compact_e1 (nthL (bodyOf Tryz.f73) 0) := fun A env h k z hk => le_ok (E := slices_Compact_e1) (orcOf_ok slices_Compact_tb) (dr := slices_Compact_dr) (lps := lpsOf slices_Compact_lt) (lps_of (n := 1) (by kernel_rfl) fun i hi => match i, hi with | 0, _ => lp_ok (E := slices_Compact_e2) (by kernel_rfl) slices_Compact_e2_ok) (fun a => by kernel_rfl) env h k z hk
noncomputable def slices_Compact (x0 : Nat × Nat) (h0 : List (List UInt8)) : Option ((Nat × Nat) × ((List (List UInt8)) × Unit)) :=
  (bif (decide ((((x0.2 : Nat) : Int) : Int) < 2)) then
  some ((x0.1, x0.2), (h0, ()))
  else
  (loopM slices_Compact_l1 (((x0.1, x0.2), 1, ()), (h0, ()))).bind fun b1 =>
  (match b1 with
  | .inl b2 =>
  some ((b2.1.1.1, b2.1.1.2), (b2.2.1, ()))
  | .inr b3 =>
  some ((b3.1.1.1, b3.1.1.2), (b3.2.1, ()))))
noncomputable def slices_Compact_ce : CE CT Tryz.prog where
  f := 73
  args := [.one (.asu 2 0)]
  hs := [.arr 9 2 true]
  res := .val (.one (.asu 2 0))
  outs := [.arr 9 2 true]
  m := fun d dh => slices_Compact d.1 dh.1
  ok := ce_ok mixedP Tryz.func73 (by kernel_rfl) (orcOf_ok slices_Compact_tb) (dr := slices_Compact_dr) (lps := lpsOf slices_Compact_lt) (lps_fn (lps_of (n := 1) (by kernel_rfl) fun i hi => match i, hi with | 0, _ => lp_ok (E := slices_Compact_e1) (by kernel_rfl) slices_Compact_e1_ok)) (fun d dh => by kernel_rfl)

def span_Has_dr : Nat → DrA
  | _ => ⟨[], [], [], [], [], false⟩
noncomputable def span_Has_tb : List (CE CT Tryz.prog) := [span_ends_ce, span_Right_ce, span_Key_ce, span_compare_ce, span_above_ce]
noncomputable def span_Has_lt : List (LE CT Tryz.prog) := []
noncomputable def span_Has (x0 : DSpan) (x1 : List UInt8) : Option ((Bool) × (Unit)) :=
  (span_ends x0).bind fun r1 =>
  (span_Right x0).bind fun r2 =>
  (bif r2.1 then
  (span_Key x1).bind fun r3 =>
  (bif r3.1 then
  (span_compare r1.1.1.text (⟨x1⟩ : DText)).bind fun r4 =>
  (bif (decide ((r4.1 : Int) ≤ 0)) then
  (span_above r1.1.2.1 (⟨x1⟩ : DText)).bind fun r5 =>
  some (r5.1, ())
  else
  some (false, ()))
  else
  some (false, ()))
  else
  some (false, ()))
noncomputable def span_Has_ce : CE CT Tryz.prog where
  f := 45
  args := [.cod 4, .one (.str)]
  hs := []
  res := .val (.one (.bool))
  outs := []
  m := fun d dh => span_Has d.1 d.2.1
  ok := ce_ok mixedP Tryz.func45 (by kernel_rfl) (orcOf_ok span_Has_tb) (dr := span_Has_dr) (lps := lpsOf span_Has_lt) (lps_fn (no_loop (by kernel_rfl))) (fun d dh => by kernel_rfl)

def span_Cut_dr : Nat → DrA
  | _ => ⟨[], [], [], [], [], false⟩
noncomputable def span_Cut_tb : List (CE CT Tryz.prog) := [span_Right_ce, slices_Values_ce, slices_Sorted_ce, slices_Compact_ce, span_Has_ce]
noncomputable def span_Cut_l1 (a : ((Unit) × (List (DSpan)) × (Nat × Nat) × (Int) × (Int) × Unit) × ((DSpan) × (List (List UInt8)) × (Unit) × Unit)) : Option ((((Unit) × (List (DSpan)) × (Nat × Nat) × (Int) × (Int) × Unit) × ((DSpan) × (List (List UInt8)) × (Unit) × Unit)) ⊕ ((((Unit) × (List (DSpan)) × Unit) × ((DSpan) × (List (List UInt8)) × (Unit) × (Unit) × Unit)))) :=
  (bif (decide ((a.1.2.2.2.2.1 : Int) < a.1.2.2.2.1)) then
  (if 0 ≤ (a.1.2.2.2.2.1 : Int) ∧ (a.1.2.2.2.2.1 : Int) < ((a.1.2.2.1.2 : Nat) : Int) then
  (a.2.2.1[(a.1.2.2.1.1 + (a.1.2.2.2.2.1 : Int).toNat)]?).bind fun e1 =>
  (span_Has a.2.1 e1).bind fun r2 =>
  (bif (!r2.1) then
  some (.inl (((), a.1.2.1, (a.1.2.2.1.1, a.1.2.2.1.2), a.1.2.2.2.1, (IntKind.i64.wrap (a.1.2.2.2.2.1 + 1)), ()), (a.2.1, a.2.2.1, (), ())))
  else
  (bif (decide (e1 = a.2.1.lo)) then
  some (.inl (((), a.1.2.1, (a.1.2.2.1.1, a.1.2.2.1.2), a.1.2.2.2.1, (IntKind.i64.wrap (a.1.2.2.2.2.1 + 1)), ()), (a.2.1, a.2.2.1, (), ())))
  else
  (if a.1.2.1.length + ([(⟨a.2.1.lo, e1⟩ : DSpan)] : List (DSpan)).length ≤ 140737488355328 ∧ (a.1.2.1.length + ([(⟨a.2.1.lo, e1⟩ : DSpan)] : List (DSpan)).length) * 32 ≤ 140737488355328 then
  some (.inl (((), (a.1.2.1 ++ ([(⟨a.2.1.lo, e1⟩ : DSpan)] : List (DSpan))), (a.1.2.2.1.1, a.1.2.2.1.2), a.1.2.2.2.1, (IntKind.i64.wrap (a.1.2.2.2.2.1 + 1)), ()), ((⟨e1, a.2.1.hi⟩ : DSpan), a.2.2.1, (), ())))
  else none)))
  else none)
  else
  some (.inr (((), a.1.2.1, ()), (a.2.1, a.2.2.1, (), (), ()))))
noncomputable def span_Cut_e1 : LE CT Tryz.prog := ⟨5, [2, 5, 14, 15, 16], [.one (.ptr 0 0), .one (.own 4 2), .one (.asu 2 1), .one (.int .i64), .one (.int .i64)], [.cobj 26 4, .arr 9 2 true, .row 26 2], [⟨.exit 0, [2, 5], [.one (.ptr 0 0), .one (.own 4 3)], [.cobj 26 4, .arr 9 2 true, .dead, .row 26 2]⟩], span_Cut_l1⟩
noncomputable def span_Cut_lt : List (LE CT Tryz.prog) := [span_Cut_e1]
theorem span_Cut_e1_ok : LeOk span_Cut_e1 (nthL (bodyOf Tryz.f66) 0) := fun A env h k z hk => le_ok (E := span_Cut_e1) (orcOf_ok span_Cut_tb) (dr := span_Cut_dr) (lps := lpsOf span_Cut_lt) (no_loop (by kernel_rfl)) (fun a => by kernel_rfl) env h k z hk
noncomputable def span_Cut (x0 : DSpan) (x1 : List (List UInt8)) : Option ((List (DSpan)) × ((Unit) × Unit)) :=
  (span_Right x0).bind fun r1 =>
  (bif (!r1.1) then
  some ([], ((), ()))
  else
  (slices_Values x1).bind fun r2 =>
  (slices_Sorted r2.2.1).bind fun r3 =>
  (slices_Compact (r3.1.1, r3.1.2) r3.2.2.1).bind fun r4 =>
  (loopM span_Cut_l1 (((), [], (r4.1.1, r4.1.2), ((r4.1.2 : Nat) : Int), 0, ()), (x0, r4.2.1, (), ()))).bind fun b5 =>
  (if b5.1.2.1.length + ([b5.2.1] : List (DSpan)).length ≤ 140737488355328 ∧ (b5.1.2.1.length + ([b5.2.1] : List (DSpan)).length) * 32 ≤ 140737488355328 then
  some ((b5.1.2.1 ++ ([b5.2.1] : List (DSpan))), ((), ()))
  else none))
noncomputable def span_Cut_ce : CE CT Tryz.prog where
  f := 66
  args := [.cod 4, .one (.sl 2)]
  hs := []
  res := .val (.one (.own 4 0))
  outs := [.row 26 2]
  m := fun d dh => span_Cut d.1 d.2.1
  ok := ce_ok mixedP Tryz.func66 (by kernel_rfl) (orcOf_ok span_Cut_tb) (dr := span_Cut_dr) (lps := lpsOf span_Cut_lt) (lps_fn (lps_of (n := 1) (by kernel_rfl) fun i hi => match i, hi with | 0, _ => lp_ok (E := span_Cut_e1) (by kernel_rfl) span_Cut_e1_ok)) (fun d dh => by kernel_rfl)

def shares_parted_dr : Nat → DrA
  | _ => ⟨[], [], [], [], [], false⟩
noncomputable def shares_parted_tb : List (CE CT Tryz.prog) := [span_Cut_ce]
noncomputable def shares_parted_l1 (a : ((Int) × (Int) × (Unit) × (Unit) × (List (DShare)) × (List (DSpan)) × (Int) × (Int) × Unit) × ((DShare) × (DSpan) × (Unit) × (Unit) × Unit)) : Option ((((Int) × (Int) × (Unit) × (Unit) × (List (DShare)) × (List (DSpan)) × (Int) × (Int) × Unit) × ((DShare) × (DSpan) × (Unit) × (Unit) × Unit)) ⊕ ((((List (DShare)) × Unit) × ((DShare) × (DSpan) × (Unit) × (Unit) × (Unit) × Unit)))) :=
  (bif (decide ((a.1.2.2.2.2.2.2.2.1 : Int) < a.1.2.2.2.2.2.2.1)) then
  (getI a.1.2.2.2.2.2.1 a.1.2.2.2.2.2.2.2.1).bind fun e1 =>
  (bif (decide (e1.lo = a.2.2.1.lo) && (decide (e1.hi = a.2.2.1.hi) && true)) then
  (if a.1.2.2.2.2.1.length + ([(⟨e1, a.1.1, a.1.2.1⟩ : DShare)] : List (DShare)).length ≤ 140737488355328 ∧ (a.1.2.2.2.2.1.length + ([(⟨e1, a.1.1, a.1.2.1⟩ : DShare)] : List (DShare)).length) * 48 ≤ 140737488355328 then
  some (.inl ((a.1.1, a.1.2.1, (), (), (a.1.2.2.2.2.1 ++ ([(⟨e1, a.1.1, a.1.2.1⟩ : DShare)] : List (DShare))), a.1.2.2.2.2.2.1, a.1.2.2.2.2.2.2.1, (IntKind.i64.wrap (a.1.2.2.2.2.2.2.2.1 + 1)), ()), (a.2.1, a.2.2.1, (), (), ())))
  else none)
  else
  (if a.1.2.2.2.2.1.length + ([(⟨e1, a.2.1.group, a.2.1.epoch⟩ : DShare)] : List (DShare)).length ≤ 140737488355328 ∧ (a.1.2.2.2.2.1.length + ([(⟨e1, a.2.1.group, a.2.1.epoch⟩ : DShare)] : List (DShare)).length) * 48 ≤ 140737488355328 then
  let y2 : List (DShare) := (a.1.2.2.2.2.1 ++ ([(⟨e1, a.2.1.group, a.2.1.epoch⟩ : DShare)] : List (DShare)))
  some (.inl ((a.1.1, a.1.2.1, (), (), y2, a.1.2.2.2.2.2.1, a.1.2.2.2.2.2.2.1, (IntKind.i64.wrap (a.1.2.2.2.2.2.2.2.1 + 1)), ()), (a.2.1, a.2.2.1, (), (), ())))
  else none))
  else
  some (.inr ((a.1.2.2.2.2.1, ()), (a.2.1, a.2.2.1, (), (), (), ()))))
noncomputable def shares_parted_e1 : LE CT Tryz.prog := ⟨3, [2, 3, 4, 5, 9, 20, 21, 22], [.one (.int .i64), .one (.int .i64), .one (.ptr 0 0), .one (.ptr 1 0), .one (.own 5 2), .one (.own 4 3), .one (.int .i64), .one (.int .i64)], [.cobj 35 5, .cobj 26 4, .row 35 4, .row 26 2], [⟨.exit 0, [9], [.one (.own 5 4)], [.cobj 35 5, .cobj 26 4, .dead, .dead, .row 35 4]⟩], shares_parted_l1⟩
noncomputable def shares_parted_lt : List (LE CT Tryz.prog) := [shares_parted_e1]
theorem shares_parted_e1_ok : LeOk shares_parted_e1 (nthL (bodyOf Tryz.f33) 0) := fun A env h k z hk => le_ok (E := shares_parted_e1) (orcOf_ok shares_parted_tb) (dr := shares_parted_dr) (lps := lpsOf shares_parted_lt) (no_loop (by kernel_rfl)) (fun a => by kernel_rfl) env h k z hk
noncomputable def shares_parted (x0 : DShare) (x1 : DSpan) (x2 : Int) (x3 : Int) : Option ((List (DShare)) × ((Unit) × Unit)) :=
  (span_Cut x0.span ([x1.lo, x1.hi] : List (List UInt8))).bind fun r1 =>
  (loopM shares_parted_l1 ((x2, x3, (), (), [], r1.1, (r1.1.length : Int), 0, ()), (x0, x1, (), (), ()))).bind fun b2 =>
  some (b2.1.1, ((), ()))
noncomputable def shares_parted_ce : CE CT Tryz.prog where
  f := 33
  args := [.cod 5, .cod 4, .one (.int .i64), .one (.int .i64)]
  hs := []
  res := .val (.one (.own 5 0))
  outs := [.row 35 4]
  m := fun d dh => shares_parted d.1 d.2.1 d.2.2.1 d.2.2.2.1
  ok := ce_ok mixedP Tryz.func33 (by kernel_rfl) (orcOf_ok shares_parted_tb) (dr := shares_parted_dr) (lps := lpsOf shares_parted_lt) (lps_fn (lps_of (n := 1) (by kernel_rfl) fun i hi => match i, hi with | 0, _ => lp_ok (E := shares_parted_e1) (by kernel_rfl) shares_parted_e1_ok)) (fun d dh => by kernel_rfl)

def shares_Turn_dr : Nat → DrA
  | 11 => ⟨[0, 1, 4, 5, 6, 7, 8, 10, 14, 15, 16, 2, 9, 11, 12, 13, 17, 18, 3, 19, 20, 21], [[], [0], [0, 1], [0, 1, 2], [], [], [5], [], [7], [7, 8], [], [7, 8, 9, 10], [7, 8, 9, 10, 11], [], [], [], [15], [15, 16], [15, 16, 17], [0, 1, 2, 3, 7, 8, 9, 10, 11, 12, 13, 14, 15, 16, 17, 18], [0, 1, 2, 3, 4, 5, 6, 7, 8, 9, 10, 11, 12, 13, 14, 15, 16, 17, 18, 19], [0, 1, 2, 3, 4, 5, 6, 7, 8, 9, 10, 11, 12, 13, 14, 15, 16, 17, 18, 19, 20]], [9, 12, 13, 17], [3], [1, 3], false⟩
  | _ => ⟨[], [], [], [], [], false⟩
noncomputable def shares_Turn_tb : List (CE CT Tryz.prog) := [shares_at_ce, shares_right_ce, span_Right_ce, shares_within_ce, cloneA32_ce, shares_parted_ce, replace_ce]
noncomputable def shares_Turn_lt : List (LE CT Tryz.prog) := []
noncomputable def shares_Turn (x0 : DShares) (x1 : DSpan) (x2 : Int) : Option ((((Int) × (List (DShare)) × Unit) × (Int) × Unit) × ((Unit) × Unit)) :=
  (shares_at (⟨x0⟩ : DWork) x1).bind fun r1 =>
  (shares_right (⟨x0⟩ : DWork)).bind fun r2 =>
  (bif (!r2.1) then
  some (((0, [], ()), 2, ()), ((), ()))
  else
  (span_Right r1.2.1).bind fun r3 =>
  (bif (!r3.1) then
  some (((0, [], ()), 2, ()), ((), ()))
  else
  (shares_within x2 1 4).bind fun r4 =>
  (bif (!r4.1) then
  some (((0, [], ()), 2, ()), ((), ()))
  else
  (bif (decide ((r1.1 : Int) < 0)) then
  some (((0, [], ()), 6, ()), ((), ()))
  else
  (getI x0.list r1.1).bind fun e5 =>
  (bif (decide ((e5.group : Int) = x2)) then
  some (((0, [], ()), 7, ()), ((), ()))
  else
  (getI x0.list r1.1).bind fun e6 =>
  (cloneA32 x0.list).bind fun r7 =>
  (shares_parted e6 r1.2.1 x2 (IntKind.i64.wrap (x0.epoch + 1))).bind fun r8 =>
  (replace r7.1 r1.1 (IntKind.i64.wrap (r1.1 + 1)) r8.1 r7.2.1).bind fun r9 =>
  (bif (decide ((x0.epoch : Int) = 1073741824)) then
  some (((0, [], ()), 8, ()), ((), ()))
  else
  (bif (decide ((40 : Int) < (r9.1.length : Int))) then
  some (((0, [], ()), 8, ()), ((), ()))
  else
  some ((((IntKind.i64.wrap (x0.epoch + 1)), r9.1, ()), 0, ()), ((), ())))))))))
noncomputable def shares_Turn_ce : CE CT Tryz.prog where
  f := 8
  args := [.cod 9, .cod 4, .one (.int .i64)]
  hs := []
  res := .tup [.agg [.int .i64, .own 5 0], .one (.int .i64)]
  outs := [.row 35 4]
  m := fun d dh => shares_Turn d.1 d.2.1 d.2.2.1
  ok := ce_ok mixedP Tryz.func8 (by kernel_rfl) (orcOf_ok shares_Turn_tb) (dr := shares_Turn_dr) (lps := lpsOf shares_Turn_lt) (lps_fn (no_loop (by kernel_rfl))) (fun d dh => by kernel_rfl)

def watershedlaw05_awake_dr : Nat → DrA
  | _ => ⟨[], [], [], [], [], false⟩
noncomputable def watershedlaw05_awake_tb : List (CE CT Tryz.prog) := [shares_First_ce, shares_Turn_ce]
noncomputable def watershedlaw05_awake_lt : List (LE CT Tryz.prog) := []
noncomputable def watershedlaw05_awake  : Option ((Bool) × (Unit)) :=
  (shares_First 1).bind fun r1 =>
  (shares_Turn r1.1 (⟨([109] : List UInt8), ([] : List UInt8)⟩ : DSpan) 2).bind fun r2 =>
  (bif (decide ((r2.1.2.1 : Int) = 0)) then
  (bif (decide ((r2.1.1.1 : Int) = 2)) then
  (bif (decide (((r2.1.1.2.1.length : Int) : Int) = 2)) then
  (getI r2.1.1.2.1 0).bind fun e3 =>
  (bif (decide (e3.span.lo = ([] : List UInt8)) && (decide (e3.span.hi = ([109] : List UInt8)) && (decide ((e3.group : Int) = 1) && (decide ((e3.epoch : Int) = 1) && true)))) then
  (getI r2.1.1.2.1 1).bind fun e4 =>
  let y5 : Bool := (decide (e4.span.lo = ([109] : List UInt8)) && (decide (e4.span.hi = ([] : List UInt8)) && (decide ((e4.group : Int) = 2) && (decide ((e4.epoch : Int) = 2) && true))))
  some (y5, ())
  else
  some (false, ()))
  else
  some (false, ()))
  else
  some (false, ()))
  else
  some (false, ()))
noncomputable def watershedlaw05_awake_ce : CE CT Tryz.prog where
  f := 5
  args := []
  hs := []
  res := .val (.one (.bool))
  outs := []
  m := fun d dh => watershedlaw05_awake
  ok := ce_ok mixedP Tryz.func5 (by kernel_rfl) (orcOf_ok watershedlaw05_awake_tb) (dr := watershedlaw05_awake_dr) (lps := lpsOf watershedlaw05_awake_lt) (lps_fn (no_loop (by kernel_rfl))) (fun d dh => by kernel_rfl)

def watershedlaw05_great_dr : Nat → DrA
  | 6 => ⟨[0, 2, 8, 10, 1, 3, 4, 5, 6, 7, 9, 11, 12, 13, 14, 15, 16, 17], [[], [0], [], [0, 1, 2], [0, 1, 2, 3], [0, 1, 2, 3, 4], [0, 1, 2, 3, 4, 5], [0, 1, 2, 3, 4, 5, 6], [], [8], [], [8, 9, 10], [8, 9, 10, 11], [8, 9, 10, 11, 12], [8, 9, 10, 11, 12, 13], [8, 9, 10, 11, 12, 13, 14], [0, 1, 2, 3, 4, 5, 6, 7, 8, 9, 10, 11, 12, 13, 14, 15], [0, 1, 2, 3, 4, 5, 6, 7, 8, 9, 10, 11, 12, 13, 14, 15, 16]], [], [], [], false⟩
  | _ => ⟨[], [], [], [], [], false⟩
noncomputable def watershedlaw05_great_tb : List (CE CT Tryz.prog) := []
noncomputable def watershedlaw05_great_l1 (a : ((List (List UInt8)) × (Unit) × (Int) × Unit) × ((DShares) × Unit)) : Option ((((List (List UInt8)) × (Unit) × (Int) × Unit) × ((DShares) × Unit)) ⊕ ((((Bool) × Unit) × ((DShares) × Unit)) ⊕ (((List (List UInt8)) × Unit) × ((DShares) × Unit)))) :=
  (bif (decide ((a.1.2.2.1 : Int) < (a.2.1.list.length : Int))) then
  (getI a.2.1.list a.1.2.2.1).bind fun e1 =>
  (getI a.2.1.list a.1.2.2.1).bind fun e2 =>
  (bif (decide ((100 : Int) < (IntKind.i64.wrap ((e1.span.lo.length : Int) + (e2.span.hi.length : Int))))) then
  some (.inr (.inl ((true, ()), (a.2.1, ()))))
  else
  some (.inl ((a.1.1, (), (IntKind.i64.wrap (a.1.2.2.1 + 1)), ()), (a.2.1, ()))))
  else
  some (.inr (.inr ((a.1.1, ()), (a.2.1, ())))))
noncomputable def watershedlaw05_great_e1 : LE CT Tryz.prog := ⟨4, [1, 2, 5], [.one (.sl 2), .one (.ptr 0 0), .one (.int .i64)], [.cobj 24 9], [⟨.ret, [4], [.one (.bool)], [.cobj 24 9]⟩, ⟨.exit 0, [1], [.one (.sl 2)], [.cobj 24 9]⟩], watershedlaw05_great_l1⟩
noncomputable def watershedlaw05_great_l2 (a : ((List (List UInt8)) × (Int) × Unit) × (Unit)) : Option ((((List (List UInt8)) × (Int) × Unit) × (Unit)) ⊕ ((((Bool) × Unit) × (Unit)) ⊕ ((Unit) × (Unit)))) :=
  (bif (decide ((a.1.2.1 : Int) < (a.1.1.length : Int))) then
  (getI a.1.1 a.1.2.1).bind fun e1 =>
  (bif (decide ((100 : Int) < (e1.length : Int))) then
  some (.inr (.inl ((true, ()), ())))
  else
  some (.inl ((a.1.1, (IntKind.i64.wrap (a.1.2.1 + 1)), ()), ())))
  else
  some (.inr (.inr ((), ()))))
noncomputable def watershedlaw05_great_e2 : LE CT Tryz.prog := ⟨9, [1, 6], [.one (.sl 2), .one (.int .i64)], [], [⟨.ret, [4], [.one (.bool)], []⟩, ⟨.exit 2, [], [], []⟩], watershedlaw05_great_l2⟩
noncomputable def watershedlaw05_great_lt : List (LE CT Tryz.prog) := [watershedlaw05_great_e1, watershedlaw05_great_e2]
theorem watershedlaw05_great_e1_ok : LeOk watershedlaw05_great_e1 (nthL (bodyOf Tryz.f6) 0) := fun A env h k z hk => le_ok (E := watershedlaw05_great_e1) (orcOf_ok watershedlaw05_great_tb) (dr := watershedlaw05_great_dr) (lps := lpsOf watershedlaw05_great_lt) (no_loop (by kernel_rfl)) (fun a => by kernel_rfl) env h k z hk
theorem watershedlaw05_great_e2_ok : LeOk watershedlaw05_great_e2 (nthL (bodyOf Tryz.f6) 1) := fun A env h k z hk => le_ok (E := watershedlaw05_great_e2) (orcOf_ok watershedlaw05_great_tb) (dr := watershedlaw05_great_dr) (lps := lpsOf watershedlaw05_great_lt) (no_loop (by kernel_rfl)) (fun a => by kernel_rfl) env h k z hk
noncomputable def watershedlaw05_great (x0 : DShares) (x1 : List (List UInt8)) : Option ((Bool) × (Unit)) :=
  (bif (decide ((60 : Int) < (x0.list.length : Int))) then
  some (true, ())
  else
  (bif (decide ((60 : Int) < (x1.length : Int))) then
  some (true, ())
  else
  (loopM watershedlaw05_great_l1 ((x1, (), 0, ()), (x0, ()))).bind fun b1 =>
  (match b1 with
  | .inl b2 =>
  some (b2.1.1, ())
  | .inr b3 =>
  (loopM watershedlaw05_great_l2 ((b3.1.1, 0, ()), ())).bind fun b4 =>
  (match b4 with
  | .inl b5 =>
  some (b5.1.1, ())
  | .inr b6 =>
  some (false, ())))))
noncomputable def watershedlaw05_great_ce : CE CT Tryz.prog where
  f := 6
  args := [.cod 9, .one (.sl 2)]
  hs := []
  res := .val (.one (.bool))
  outs := []
  m := fun d dh => watershedlaw05_great d.1 d.2.1
  ok := ce_ok mixedP Tryz.func6 (by kernel_rfl) (orcOf_ok watershedlaw05_great_tb) (dr := watershedlaw05_great_dr) (lps := lpsOf watershedlaw05_great_lt) (lps_fn (lps_of (n := 2) (by kernel_rfl) fun i hi => match i, hi with | 0, _ => lp_ok (E := watershedlaw05_great_e1) (by kernel_rfl) watershedlaw05_great_e1_ok | 1, _ => lp_ok (E := watershedlaw05_great_e2) (by kernel_rfl) watershedlaw05_great_e2_ok)) (fun d dh => by kernel_rfl)

def watershedkit_LentShareRows_dr : Nat → DrA
  | _ => ⟨[], [], [], [], [], false⟩
noncomputable def watershedkit_LentShareRows_tb : List (CE CT Tryz.prog) := [watershedkit_markShare_ce]
noncomputable def watershedkit_LentShareRows_l1 (a : ((List (DShare)) × (Nat × Nat × Nat) × (Int) × Unit) × ((List (DShare)) × Unit)) : Option ((((List (DShare)) × (Nat × Nat × Nat) × (Int) × Unit) × ((List (DShare)) × Unit)) ⊕ ((((List (DShare)) × (Nat × Nat × Nat) × Unit) × ((List (DShare)) × Unit)))) :=
  (bif (decide ((a.1.2.2.1 : Int) < 12)) then
  (watershedkit_markShare 1 a.1.2.2.1).bind fun r1 =>
  (if (a.1.2.1.2.1 + ([r1.1] : List (DShare)).length) ≤ 140737488355328 ∧ (a.1.2.1.2.1 + ([r1.1] : List (DShare)).length) * 48 ≤ 140737488355328 ∧ a.1.2.1.1 + a.1.2.1.2.1 ≤ a.2.1.length then
  (if (a.1.2.1.2.1 + ([r1.1] : List (DShare)).length) ≤ a.1.2.1.2.2 then
  let y2 : List (DShare) := (a.2.1.take (a.1.2.1.1 + a.1.2.1.2.1) ++ ([r1.1] : List (DShare)) ++ a.2.1.drop (a.1.2.1.1 + a.1.2.1.2.1 + ([r1.1] : List (DShare)).length))
  some (.inl ((a.1.1, (a.1.2.1.1, (a.1.2.1.2.1 + ([r1.1] : List (DShare)).length), a.1.2.1.2.2), (IntKind.i64.wrap (a.1.2.2.1 + 1)), ()), (y2, ())))
  else none)
  else none)
  else
  some (.inr ((a.1.1, (a.1.2.1.1, a.1.2.1.2.1, a.1.2.1.2.2), ()), (a.2.1, ()))))
noncomputable def watershedkit_LentShareRows_e1 : LE CT Tryz.prog := ⟨4, [0, 3, 4], [.one (.sl 5), .one (.as 5 0), .one (.int .i64)], [.arr 35 5 true], [⟨.exit 0, [0, 3], [.one (.sl 5), .one (.as 5 0)], [.arr 35 5 true]⟩], watershedkit_LentShareRows_l1⟩
noncomputable def watershedkit_LentShareRows_lt : List (LE CT Tryz.prog) := [watershedkit_LentShareRows_e1]
theorem watershedkit_LentShareRows_e1_ok : LeOk watershedkit_LentShareRows_e1 (nthL (bodyOf Tryz.f24) 0) := fun A env h k z hk => le_ok (E := watershedkit_LentShareRows_e1) (orcOf_ok watershedkit_LentShareRows_tb) (dr := watershedkit_LentShareRows_dr) (lps := lpsOf watershedkit_LentShareRows_lt) (no_loop (by kernel_rfl)) (fun a => by kernel_rfl) env h k z hk
noncomputable def watershedkit_LentShareRows (x0 : List (DShare)) : Option ((Nat × Nat × Nat) × ((List (DShare)) × Unit)) :=
  (if 0 ≤ (0 : Int) ∧ (0 : Int) ≤ (IntKind.i64.wrap ((x0.length : Int) + 12)) ∧ ((IntKind.i64.wrap ((x0.length : Int) + 12)) : Int) ≤ 140737488355328 ∧ ((48 : Nat) : Int) * (IntKind.i64.wrap ((x0.length : Int) + 12)) ≤ 140737488355328 then
  let y1 : List (DShare) := (List.replicate ((IntKind.i64.wrap ((x0.length : Int) + 12)) : Int).toNat ((⟨(⟨([] : List UInt8), ([] : List UInt8)⟩ : DSpan), 0, 0⟩ : DShare) : DShare))
  (if ((0 : Int).toNat + x0.length) ≤ 140737488355328 ∧ ((0 : Int).toNat + x0.length) * 48 ≤ 140737488355328 ∧ 0 + (0 : Int).toNat ≤ y1.length then
  (if ((0 : Int).toNat + x0.length) ≤ ((IntKind.i64.wrap ((x0.length : Int) + 12)) : Int).toNat then
  let y2 : List (DShare) := (y1.take (0 + (0 : Int).toNat) ++ x0 ++ y1.drop (0 + (0 : Int).toNat + x0.length))
  (loopM watershedkit_LentShareRows_l1 ((x0, (0, ((0 : Int).toNat + x0.length), ((IntKind.i64.wrap ((x0.length : Int) + 12)) : Int).toNat), 0, ()), (y2, ()))).bind fun b3 =>
  (if 0 ≤ (0 : Int) ∧ (0 : Int) ≤ ((b3.1.1.length : Int) : Int) ∧ ((b3.1.1.length : Int) : Int) ≤ ((b3.1.2.1.2.2 : Nat) : Int) ∧ ((b3.1.1.length : Int) : Int) ≤ 140737488355328 then
  some (((b3.1.2.1.1 + (0 : Int).toNat), (((b3.1.1.length : Int) : Int).toNat - (0 : Int).toNat), (b3.1.2.1.2.2 - (0 : Int).toNat)), (b3.2.1, ()))
  else none)
  else none)
  else none)
  else none)
noncomputable def watershedkit_LentShareRows_ce : CE CT Tryz.prog where
  f := 24
  args := [.one (.sl 5)]
  hs := []
  res := .val (.one (.as 5 0))
  outs := [.arr 35 5 false]
  m := fun d dh => watershedkit_LentShareRows d.1
  ok := ce_ok mixedP Tryz.func24 (by kernel_rfl) (orcOf_ok watershedkit_LentShareRows_tb) (dr := watershedkit_LentShareRows_dr) (lps := lpsOf watershedkit_LentShareRows_lt) (lps_fn (lps_of (n := 1) (by kernel_rfl) fun i hi => match i, hi with | 0, _ => lp_ok (E := watershedkit_LentShareRows_e1) (by kernel_rfl) watershedkit_LentShareRows_e1_ok)) (fun d dh => by kernel_rfl)

noncomputable def watershedkit_LentShareRows_x (x0 : List (DShare)) : Option ((List (DShare) × List (DShare)) × Unit) :=
  (watershedkit_LentShareRows x0).bind fun r => if r.1.1 = 0 ∧ r.1.2.1 ≤ r.2.1.length ∧ r.2.1.length ≤ 140737488355328 then some ((r.2.1.take r.1.2.1, r.2.1.drop r.1.2.1), ()) else none
noncomputable def watershedkit_LentShareRows_x_ce : CE CT Tryz.prog where
  f := 24
  args := [.one (.sl 5)]
  hs := []
  res := .val (.one (.slx 5))
  outs := []
  m := fun d dh => watershedkit_LentShareRows_x d.1
  ok := fun d dh r hr => by
    unfold watershedkit_LentShareRows_x at hr
    obtain ⟨⟨⟨lo, n, c⟩, xs, u⟩, h1, h2⟩ := bind_some' hr
    dsimp only at h2
    split at h2
    · rename_i hc
      injection h2 with h2
      subst h2
      obtain ⟨rfl, hc2, hc3⟩ := hc
      exact Tr.freezeX hc2 hc3 (watershedkit_LentShareRows_ce.ok d dh _ h1)
    · cases h2

def watershedkit_LentShares_dr : Nat → DrA
  | _ => ⟨[], [], [], [], [], false⟩
noncomputable def watershedkit_LentShares_tb : List (CE CT Tryz.prog) := [watershedkit_LentShareRows_x_ce]
noncomputable def watershedkit_LentShares_lt : List (LE CT Tryz.prog) := []
noncomputable def watershedkit_LentShares (x0 : DShares) : Option (((Int) × (List (DShare) × List (DShare)) × Unit) × (Unit)) :=
  (watershedkit_LentShareRows_x x0.list).bind fun r1 =>
  some ((x0.epoch, (r1.1.1, r1.1.2), ()), ())
noncomputable def watershedkit_LentShares_ce : CE CT Tryz.prog where
  f := 7
  args := [.cod 9]
  hs := []
  res := .val (.agg [.int .i64, .slx 5])
  outs := []
  m := fun d dh => watershedkit_LentShares d.1
  ok := ce_ok mixedP Tryz.func7 (by kernel_rfl) (orcOf_ok watershedkit_LentShares_tb) (dr := watershedkit_LentShares_dr) (lps := lpsOf watershedkit_LentShares_lt) (lps_fn (no_loop (by kernel_rfl))) (fun d dh => by kernel_rfl)

noncomputable def shares_Turn_ar (x0 : DShares) (x1 : DSpan) (x2 : Int) : Option ((((Int) × (Nat) × Unit) × (Int) × Unit) × ((List (DShare)) × Unit)) :=
  (shares_Turn x0 x1 x2).bind fun r => some (((r.1.1.1, r.1.1.2.1.length, ()), r.1.2.1, ()), (r.1.1.2.1, ()))
noncomputable def shares_Turn_ar_ce : CE CT Tryz.prog where
  f := 8
  args := [.cod 9, .cod 4, .one (.int .i64)]
  hs := []
  res := .tup [.agg [.int .i64, .asz 5 0], .one (.int .i64)]
  outs := [.arr 35 5 true]
  m := fun d dh => shares_Turn_ar d.1 d.2.1 d.2.2.1
  ok := fun d dh r2 hr => by
    unfold shares_Turn_ar at hr
    obtain ⟨r, h1, h2⟩ := bind_some' hr
    injection h2 with h2
    subst h2
    exact Tr.asArr (shares_Turn_ce.ok d dh r h1) rfl rfl (fun i x hx => match i, hx with | 0, hx => ⟨35, 5, r.1.1.2.1, by injection hx with hx; exact hx.symm, rfl, ⟨_, .head _, ⟨_, .tail _ (.head _), rfl, rfl⟩⟩, fun y => rfl, rfl⟩ | i + 1, hx => by cases hx)

def watershedref04_Key_dr : Nat → DrA
  | _ => ⟨[], [], [], [], [], false⟩
noncomputable def watershedref04_Key_tb : List (CE CT Tryz.prog) := []
noncomputable def watershedref04_Key_l1 (a : ((List UInt8) × (Int) × Unit) × (Unit)) : Option ((((List UInt8) × (Int) × Unit) × (Unit)) ⊕ ((((Bool) × Unit) × (Unit)) ⊕ ((Unit) × (Unit)))) :=
  (bif (decide ((a.1.2.1 : Int) < (a.1.1.length : Int))) then
  (getI a.1.1 a.1.2.1).bind fun e1 =>
  (bif (decide ((97 : Int) ≤ (e1.toNat : Int))) then
  (getI a.1.1 a.1.2.1).bind fun e2 =>
  (bif (decide (((e2.toNat : Int) : Int) ≤ 122)) then
  some (.inl ((a.1.1, (IntKind.i64.wrap (a.1.2.1 + 1)), ()), ()))
  else
  (getI a.1.1 a.1.2.1).bind fun e3 =>
  (bif (decide ((48 : Int) ≤ (e3.toNat : Int))) then
  (getI a.1.1 a.1.2.1).bind fun e4 =>
  (bif (!(decide (((e4.toNat : Int) : Int) ≤ 57))) then
  some (.inr (.inl ((false, ()), ())))
  else
  some (.inl ((a.1.1, (IntKind.i64.wrap (a.1.2.1 + 1)), ()), ())))
  else
  some (.inr (.inl ((false, ()), ())))))
  else
  (getI a.1.1 a.1.2.1).bind fun e5 =>
  (bif (decide ((48 : Int) ≤ (e5.toNat : Int))) then
  (getI a.1.1 a.1.2.1).bind fun e6 =>
  (bif (!(decide (((e6.toNat : Int) : Int) ≤ 57))) then
  some (.inr (.inl ((false, ()), ())))
  else
  some (.inl ((a.1.1, (IntKind.i64.wrap (a.1.2.1 + 1)), ()), ())))
  else
  some (.inr (.inl ((false, ()), ())))))
  else
  some (.inr (.inr ((), ()))))
noncomputable def watershedref04_Key_e1 : LE CT Tryz.prog := ⟨4, [0, 3], [.one (.str), .one (.int .i64)], [], [⟨.ret, [2], [.one (.bool)], []⟩, ⟨.exit 0, [], [], []⟩], watershedref04_Key_l1⟩
noncomputable def watershedref04_Key_lt : List (LE CT Tryz.prog) := [watershedref04_Key_e1]
theorem watershedref04_Key_e1_ok : LeOk watershedref04_Key_e1 (nthL (bodyOf Tryz.f67) 0) := fun A env h k z hk => le_ok (E := watershedref04_Key_e1) (orcOf_ok watershedref04_Key_tb) (dr := watershedref04_Key_dr) (lps := lpsOf watershedref04_Key_lt) (no_loop (by kernel_rfl)) (fun a => by kernel_rfl) env h k z hk
noncomputable def watershedref04_Key (x0 : List UInt8) : Option ((Bool) × (Unit)) :=
  (bif (decide (((x0.length : Int) : Int) < 1)) then
  some (false, ())
  else
  (bif (decide ((20 : Int) < (x0.length : Int))) then
  some (false, ())
  else
  (loopM watershedref04_Key_l1 ((x0, 0, ()), ())).bind fun b1 =>
  (match b1 with
  | .inl b2 =>
  some (b2.1.1, ())
  | .inr b3 =>
  some (true, ()))))
noncomputable def watershedref04_Key_ce : CE CT Tryz.prog where
  f := 67
  args := [.one (.str)]
  hs := []
  res := .val (.one (.bool))
  outs := []
  m := fun d dh => watershedref04_Key d.1
  ok := ce_ok mixedP Tryz.func67 (by kernel_rfl) (orcOf_ok watershedref04_Key_tb) (dr := watershedref04_Key_dr) (lps := lpsOf watershedref04_Key_lt) (lps_fn (lps_of (n := 1) (by kernel_rfl) fun i hi => match i, hi with | 0, _ => lp_ok (E := watershedref04_Key_e1) (by kernel_rfl) watershedref04_Key_e1_ok)) (fun d dh => by kernel_rfl)

def watershedref04_Right_dr : Nat → DrA
  | _ => ⟨[], [], [], [], [], false⟩
noncomputable def watershedref04_Right_tb : List (CE CT Tryz.prog) := [watershedref04_Key_ce]
noncomputable def watershedref04_Right_lt : List (LE CT Tryz.prog) := []
noncomputable def watershedref04_Right (x0 : DSpan) : Option ((Bool) × (Unit)) :=
  (bif (decide (x0.lo ≠ ([] : List UInt8))) then
  (watershedref04_Key x0.lo).bind fun r1 =>
  (bif (!r1.1) then
  some (false, ())
  else
  (bif (decide (x0.hi = ([] : List UInt8))) then
  some (true, ())
  else
  (watershedref04_Key x0.hi).bind fun r2 =>
  (bif r2.1 then
  some ((decide (x0.lo < x0.hi)), ())
  else
  some (false, ()))))
  else
  (bif (decide (x0.hi = ([] : List UInt8))) then
  some (true, ())
  else
  (watershedref04_Key x0.hi).bind fun r3 =>
  (bif r3.1 then
  some ((decide (x0.lo < x0.hi)), ())
  else
  some (false, ()))))
noncomputable def watershedref04_Right_ce : CE CT Tryz.prog where
  f := 34
  args := [.cod 4]
  hs := []
  res := .val (.one (.bool))
  outs := []
  m := fun d dh => watershedref04_Right d.1
  ok := ce_ok mixedP Tryz.func34 (by kernel_rfl) (orcOf_ok watershedref04_Right_tb) (dr := watershedref04_Right_dr) (lps := lpsOf watershedref04_Right_lt) (lps_fn (no_loop (by kernel_rfl))) (fun d dh => by kernel_rfl)

def watershedref04_Parts_dr : Nat → DrA
  | 6 => ⟨[0, 1, 2, 3, 4, 5, 6, 7, 8, 9, 10, 11, 12, 13, 14, 15, 16, 17, 18, 19, 20, 21, 22, 24, 25, 26, 27, 23, 28, 29, 30, 31, 32], [[], [], [0, 1], [0, 1, 2], [0, 1, 2, 3], [0, 1, 2, 3, 4], [0, 1, 2, 3, 4, 5], [0, 1, 2, 3, 4, 5, 6], [0, 1, 2, 3, 4, 5, 6, 7], [0, 1, 2, 3, 4, 5, 6, 7, 8], [0, 1, 2, 3, 4, 5, 6, 7, 8, 9], [0, 1, 2, 3, 4, 5, 6, 7, 8, 9], [0, 1, 2, 3, 4, 5, 6, 7, 8, 9, 11], [0, 1, 2, 3, 4, 5, 6, 7, 8, 9, 10, 11, 12], [0, 1, 2, 3, 4, 5, 6, 7, 8, 9, 10, 11, 12, 13], [0, 1, 2, 3, 4, 5, 6, 7, 8, 9, 10, 11, 12, 13, 14], [0, 1, 2, 3, 4, 5, 6, 7, 8, 9, 10, 11, 12, 13, 14, 15], [0, 1, 2, 3, 4, 5, 6, 7, 8, 9, 10, 11, 12, 13, 14, 15, 16], [0, 1, 2, 3, 4, 5, 6, 7, 8, 9, 10, 11, 12, 13, 14, 15, 16, 17], [0, 1, 2, 3, 4, 5, 6, 7, 8, 9, 10, 11, 12, 13, 14, 15, 16, 17], [0, 1, 2, 3, 4, 5, 6, 7, 8, 9, 10, 11, 12, 13, 14, 15, 16, 17, 19], [0, 1, 2, 3, 4, 5, 6, 7, 8, 9, 10, 11, 12, 13, 14, 15, 16, 17, 18, 19, 20], [0, 1, 2, 3, 4, 5, 6, 7, 8, 9, 10, 11, 12, 13, 14, 15, 16, 17, 18, 19, 20, 21], [0, 1, 2, 3, 4, 5, 6, 7, 8, 9, 10, 11, 12, 13, 14, 15, 16, 17, 18, 19, 20, 21, 22], [0, 1, 2, 3, 4, 5, 6, 7, 8, 9, 10, 11, 12, 13, 14, 15, 16, 17], [0, 1, 2, 3, 4, 5, 6, 7, 8, 9, 10, 11, 12, 13, 14, 15, 16, 17], [0, 1, 2, 3, 4, 5, 6, 7, 8, 9, 10, 11, 12, 13, 14, 15, 16, 17, 24, 25], [0, 1, 2, 3, 4, 5, 6, 7, 8, 9, 10, 11, 12, 13, 14, 15, 16, 17, 24, 25, 26], [0, 1, 2, 3, 4, 5, 6, 7, 8, 9, 10, 11, 12, 13, 14, 15, 16, 17, 24, 25, 26, 27], [0, 1, 2, 3, 4, 5, 6, 7, 8, 9, 10, 11, 12, 13, 14, 15, 16, 17, 18, 19, 20, 21, 22, 23, 24, 25, 26, 27, 28], [0, 1, 2, 3, 4, 5, 6, 7, 8, 9, 10, 11, 12, 13, 14, 15, 16, 17, 18, 19, 20, 21, 22, 23, 24, 25, 26, 27, 28, 29], [0, 1, 2, 3, 4, 5, 6, 7, 8, 9, 10, 11, 12, 13, 14, 15, 16, 17, 18, 19, 20, 21, 22, 23, 24, 25, 26, 27, 28, 29, 30], [0, 1, 2, 3, 4, 5, 6, 7, 8, 9, 10, 11, 12, 13, 14, 15, 16, 17, 18, 19, 20, 21, 22, 23, 24, 25, 26, 27, 28, 29, 30, 31]], [], [], [], false⟩
  | _ => ⟨[], [], [], [], [], false⟩
noncomputable def watershedref04_Parts_tb : List (CE CT Tryz.prog) := [watershedref04_Right_ce]
noncomputable def watershedref04_Parts_l1 (a : ((List (DSpan)) × (Int) × Unit) × (Unit)) : Option ((((List (DSpan)) × (Int) × Unit) × (Unit)) ⊕ ((((Bool) × Unit) × (Unit)) ⊕ ((Unit) × (Unit)))) :=
  (bif (decide ((a.1.2.1 : Int) < (a.1.1.length : Int))) then
  (getI a.1.1 a.1.2.1).bind fun e1 =>
  (watershedref04_Right e1).bind fun r2 =>
  (bif (!r2.1) then
  some (.inr (.inl ((false, ()), ())))
  else
  (bif (decide ((0 : Int) < a.1.2.1)) then
  (getI a.1.1 (IntKind.i64.wrap (a.1.2.1 - 1))).bind fun e3 =>
  (bif (decide (e3.hi = ([] : List UInt8))) then
  some (.inr (.inl ((false, ()), ())))
  else
  (getI a.1.1 (IntKind.i64.wrap (a.1.2.1 - 1))).bind fun e4 =>
  (getI a.1.1 a.1.2.1).bind fun e5 =>
  (bif (decide (e4.hi ≠ e5.lo)) then
  some (.inr (.inl ((false, ()), ())))
  else
  some (.inl ((a.1.1, (IntKind.i64.wrap (a.1.2.1 + 1)), ()), ()))))
  else
  some (.inl ((a.1.1, (IntKind.i64.wrap (a.1.2.1 + 1)), ()), ()))))
  else
  some (.inr (.inr ((), ()))))
noncomputable def watershedref04_Parts_e1 : LE CT Tryz.prog := ⟨4, [0, 3], [.one (.sl 4), .one (.int .i64)], [], [⟨.ret, [2], [.one (.bool)], []⟩, ⟨.exit 0, [], [], []⟩], watershedref04_Parts_l1⟩
noncomputable def watershedref04_Parts_lt : List (LE CT Tryz.prog) := [watershedref04_Parts_e1]
theorem watershedref04_Parts_e1_ok : LeOk watershedref04_Parts_e1 (nthL (bodyOf Tryz.f42) 0) := fun A env h k z hk => le_ok (E := watershedref04_Parts_e1) (orcOf_ok watershedref04_Parts_tb) (dr := watershedref04_Parts_dr) (lps := lpsOf watershedref04_Parts_lt) (no_loop (by kernel_rfl)) (fun a => by kernel_rfl) env h k z hk
noncomputable def watershedref04_Parts (x0 : List (DSpan)) : Option ((Bool) × (Unit)) :=
  (bif (decide (((x0.length : Int) : Int) = 0)) then
  some (false, ())
  else
  (getI x0 0).bind fun e1 =>
  (bif (decide (e1.lo ≠ ([] : List UInt8))) then
  some (false, ())
  else
  (getI x0 (IntKind.i64.wrap ((x0.length : Int) - 1))).bind fun e2 =>
  (bif (decide (e2.hi ≠ ([] : List UInt8))) then
  some (false, ())
  else
  (loopM watershedref04_Parts_l1 ((x0, 0, ()), ())).bind fun b3 =>
  (match b3 with
  | .inl b4 =>
  some (b4.1.1, ())
  | .inr b5 =>
  some (true, ())))))
noncomputable def watershedref04_Parts_ce : CE CT Tryz.prog where
  f := 42
  args := [.one (.sl 4)]
  hs := []
  res := .val (.one (.bool))
  outs := []
  m := fun d dh => watershedref04_Parts d.1
  ok := ce_ok mixedP Tryz.func42 (by kernel_rfl) (orcOf_ok watershedref04_Parts_tb) (dr := watershedref04_Parts_dr) (lps := lpsOf watershedref04_Parts_lt) (lps_fn (lps_of (n := 1) (by kernel_rfl) fun i hi => match i, hi with | 0, _ => lp_ok (E := watershedref04_Parts_e1) (by kernel_rfl) watershedref04_Parts_e1_ok)) (fun d dh => by kernel_rfl)

def watershedref05_Right_dr : Nat → DrA
  | _ => ⟨[], [], [], [], [], false⟩
noncomputable def watershedref05_Right_tb : List (CE CT Tryz.prog) := [watershedref04_Parts_ce]
noncomputable def watershedref05_Right_l1 (a : ((Unit) × (List (DSpan)) × (Int) × Unit) × ((DShares) × (Unit) × Unit)) : Option ((((Unit) × (List (DSpan)) × (Int) × Unit) × ((DShares) × (Unit) × Unit)) ⊕ ((((Bool) × Unit) × ((DShares) × (Unit) × Unit)) ⊕ (((List (DSpan)) × Unit) × ((DShares) × (Unit) × (Unit) × Unit)))) :=
  (bif (decide ((a.1.2.2.1 : Int) < (a.2.1.list.length : Int))) then
  (getI a.2.1.list a.1.2.2.1).bind fun e1 =>
  (bif (decide ((e1.group : Int) < 1)) then
  some (.inr (.inl ((false, ()), (a.2.1, (), ()))))
  else
  (bif (decide ((4 : Int) < e1.group)) then
  some (.inr (.inl ((false, ()), (a.2.1, (), ()))))
  else
  (bif (decide ((e1.epoch : Int) < 1)) then
  some (.inr (.inl ((false, ()), (a.2.1, (), ()))))
  else
  (bif (decide ((a.2.1.epoch : Int) < e1.epoch)) then
  some (.inr (.inl ((false, ()), (a.2.1, (), ()))))
  else
  (if a.1.2.1.length + ([e1.span] : List (DSpan)).length ≤ 140737488355328 ∧ (a.1.2.1.length + ([e1.span] : List (DSpan)).length) * 32 ≤ 140737488355328 then
  some (.inl (((), (a.1.2.1 ++ ([e1.span] : List (DSpan))), (IntKind.i64.wrap (a.1.2.2.1 + 1)), ()), (a.2.1, (), ())))
  else none)))))
  else
  some (.inr (.inr ((a.1.2.1, ()), (a.2.1, (), (), ())))))
noncomputable def watershedref05_Right_e1 : LE CT Tryz.prog := ⟨5, [1, 3, 4], [.one (.ptr 0 0), .one (.own 4 1), .one (.int .i64)], [.cobj 24 9, .row 26 2], [⟨.ret, [2], [.one (.bool)], [.cobj 24 9, .dead]⟩, ⟨.exit 0, [3], [.one (.own 4 2)], [.cobj 24 9, .dead, .row 26 2]⟩], watershedref05_Right_l1⟩
noncomputable def watershedref05_Right_lt : List (LE CT Tryz.prog) := [watershedref05_Right_e1]
theorem watershedref05_Right_e1_ok : LeOk watershedref05_Right_e1 (nthL (bodyOf Tryz.f17) 0) := fun A env h k z hk => le_ok (E := watershedref05_Right_e1) (orcOf_ok watershedref05_Right_tb) (dr := watershedref05_Right_dr) (lps := lpsOf watershedref05_Right_lt) (no_loop (by kernel_rfl)) (fun a => by kernel_rfl) env h k z hk
noncomputable def watershedref05_Right (x0 : DShares) : Option ((Bool) × (Unit)) :=
  (bif (decide ((x0.epoch : Int) < 1)) then
  some (false, ())
  else
  (bif (decide ((1073741824 : Int) < x0.epoch)) then
  some (false, ())
  else
  (bif (decide ((40 : Int) < (x0.list.length : Int))) then
  some (false, ())
  else
  (loopM watershedref05_Right_l1 (((), [], 0, ()), (x0, (), ()))).bind fun b1 =>
  (match b1 with
  | .inl b2 =>
  some (b2.1.1, ())
  | .inr b3 =>
  (watershedref04_Parts b3.1.1).bind fun r4 =>
  some (r4.1, ())))))
noncomputable def watershedref05_Right_ce : CE CT Tryz.prog where
  f := 17
  args := [.cod 9]
  hs := []
  res := .val (.one (.bool))
  outs := []
  m := fun d dh => watershedref05_Right d.1
  ok := ce_ok mixedP Tryz.func17 (by kernel_rfl) (orcOf_ok watershedref05_Right_tb) (dr := watershedref05_Right_dr) (lps := lpsOf watershedref05_Right_lt) (lps_fn (lps_of (n := 1) (by kernel_rfl) fun i hi => match i, hi with | 0, _ => lp_ok (E := watershedref05_Right_e1) (by kernel_rfl) watershedref05_Right_e1_ok)) (fun d dh => by kernel_rfl)

def watershedref04_Within_dr : Nat → DrA
  | _ => ⟨[], [], [], [], [], false⟩
noncomputable def watershedref04_Within_tb : List (CE CT Tryz.prog) := [watershedref04_Right_ce]
noncomputable def watershedref04_Within_lt : List (LE CT Tryz.prog) := []
noncomputable def watershedref04_Within (x0 : DSpan) (x1 : DSpan) : Option ((Bool) × (Unit)) :=
  (watershedref04_Right x0).bind fun r1 =>
  (bif r1.1 then
  (watershedref04_Right x1).bind fun r2 =>
  (bif r2.1 then
  (bif (decide (x1.lo < x0.lo) || decide (x1.lo = x0.lo)) then
  (bif (decide (x1.hi = ([] : List UInt8))) then
  some (true, ())
  else
  (bif (decide (x0.hi ≠ ([] : List UInt8))) then
  some ((decide (x0.hi < x1.hi) || decide (x0.hi = x1.hi)), ())
  else
  some (false, ())))
  else
  some (false, ()))
  else
  some (false, ()))
  else
  some (false, ()))
noncomputable def watershedref04_Within_ce : CE CT Tryz.prog where
  f := 38
  args := [.cod 4, .cod 4]
  hs := []
  res := .val (.one (.bool))
  outs := []
  m := fun d dh => watershedref04_Within d.1 d.2.1
  ok := ce_ok mixedP Tryz.func38 (by kernel_rfl) (orcOf_ok watershedref04_Within_tb) (dr := watershedref04_Within_dr) (lps := lpsOf watershedref04_Within_lt) (lps_fn (no_loop (by kernel_rfl))) (fun d dh => by kernel_rfl)

def watershedref05_In_dr : Nat → DrA
  | 4 => ⟨[1, 3, 0, 2, 4, 5, 6, 7], [[], [], [1], [], [1, 2, 3], [1, 2, 3, 4], [1, 2, 3, 4, 5], [0, 1, 2, 3, 4, 5, 6]], [], [], [], false⟩
  | _ => ⟨[], [], [], [], [], false⟩
noncomputable def watershedref05_In_tb : List (CE CT Tryz.prog) := [watershedref05_Right_ce, watershedref04_Within_ce]
noncomputable def watershedref05_In_l1 (a : ((Unit) × (Unit) × (Unit) × (Int) × Unit) × ((DShares) × (DSpan) × (DShare) × Unit)) : Option ((((Unit) × (Unit) × (Unit) × (Int) × Unit) × ((DShares) × (DSpan) × (DShare) × Unit)) ⊕ ((((Unit) × (Bool) × Unit) × ((DShares) × (DSpan) × (DShare) × Unit)) ⊕ (((Unit) × Unit) × ((DShares) × (DSpan) × (DShare) × Unit)))) :=
  (bif (decide ((a.1.2.2.2.1 : Int) < (a.2.1.list.length : Int))) then
  (watershedref05_Right a.2.1).bind fun r1 =>
  (bif r1.1 then
  (getI a.2.1.list a.1.2.2.2.1).bind fun e2 =>
  (watershedref04_Within a.2.2.1 e2.span).bind fun r3 =>
  (bif r3.1 then
  (getI a.2.1.list a.1.2.2.2.1).bind fun e4 =>
  some (.inr (.inl (((), true, ()), (a.2.1, a.2.2.1, e4, ()))))
  else
  some (.inl (((), (), (), (IntKind.i64.wrap (a.1.2.2.2.1 + 1)), ()), (a.2.1, a.2.2.1, a.2.2.2.1, ()))))
  else
  some (.inr (.inr (((), ()), (a.2.1, a.2.2.1, a.2.2.2.1, ())))))
  else
  some (.inr (.inr (((), ()), (a.2.1, a.2.2.1, a.2.2.2.1, ())))))
noncomputable def watershedref05_In_e1 : LE CT Tryz.prog := ⟨2, [2, 3, 4, 6], [.one (.ptr 0 0), .one (.ptr 1 0), .one (.ptr 2 0), .one (.int .i64)], [.cobj 24 9, .cobj 26 4, .cobj 35 5], [⟨.ret, [4, 5], [.one (.ptr 2 0), .one (.bool)], [.cobj 24 9, .cobj 26 4, .cobj 35 5]⟩, ⟨.exit 0, [4], [.one (.ptr 2 0)], [.cobj 24 9, .cobj 26 4, .cobj 35 5]⟩], watershedref05_In_l1⟩
noncomputable def watershedref05_In_lt : List (LE CT Tryz.prog) := [watershedref05_In_e1]
theorem watershedref05_In_e1_ok : LeOk watershedref05_In_e1 (nthL (bodyOf Tryz.f11) 0) := fun A env h k z hk => le_ok (E := watershedref05_In_e1) (orcOf_ok watershedref05_In_tb) (dr := watershedref05_In_dr) (lps := lpsOf watershedref05_In_lt) (no_loop (by kernel_rfl)) (fun a => by kernel_rfl) env h k z hk
noncomputable def watershedref05_In (x0 : DShares) (x1 : DSpan) : Option (((DShare) × (Bool) × Unit) × (Unit)) :=
  (loopM watershedref05_In_l1 (((), (), (), 0, ()), (x0, x1, (⟨(⟨([] : List UInt8), ([] : List UInt8)⟩ : DSpan), 0, 0⟩ : DShare), ()))).bind fun b1 =>
  (match b1 with
  | .inl b2 =>
  some ((b2.2.2.2.1, b2.1.2.1, ()), ())
  | .inr b3 =>
  some (((⟨(⟨([] : List UInt8), ([] : List UInt8)⟩ : DSpan), 0, 0⟩ : DShare), false, ()), ()))
noncomputable def watershedref05_In_ce : CE CT Tryz.prog where
  f := 11
  args := [.cod 9, .cod 4]
  hs := []
  res := .tup [.cod 5, .one (.bool)]
  outs := []
  m := fun d dh => watershedref05_In d.1 d.2.1
  ok := ce_ok mixedP Tryz.func11 (by kernel_rfl) (orcOf_ok watershedref05_In_tb) (dr := watershedref05_In_dr) (lps := lpsOf watershedref05_In_lt) (lps_fn (lps_of (n := 1) (by kernel_rfl) fun i hi => match i, hi with | 0, _ => lp_ok (E := watershedref05_In_e1) (by kernel_rfl) watershedref05_In_e1_ok)) (fun d dh => by kernel_rfl)

def watershedref04_Has_dr : Nat → DrA
  | _ => ⟨[], [], [], [], [], false⟩
noncomputable def watershedref04_Has_tb : List (CE CT Tryz.prog) := [watershedref04_Right_ce, watershedref04_Key_ce]
noncomputable def watershedref04_Has_lt : List (LE CT Tryz.prog) := []
noncomputable def watershedref04_Has (x0 : DSpan) (x1 : List UInt8) : Option ((Bool) × (Unit)) :=
  (watershedref04_Right x0).bind fun r1 =>
  (bif r1.1 then
  (watershedref04_Key x1).bind fun r2 =>
  (bif r2.1 then
  (bif (decide (x0.lo < x1) || decide (x0.lo = x1)) then
  (bif (decide (x0.hi = ([] : List UInt8))) then
  some (true, ())
  else
  some ((decide (x1 < x0.hi)), ()))
  else
  some (false, ()))
  else
  some (false, ()))
  else
  some (false, ()))
noncomputable def watershedref04_Has_ce : CE CT Tryz.prog where
  f := 46
  args := [.cod 4, .one (.str)]
  hs := []
  res := .val (.one (.bool))
  outs := []
  m := fun d dh => watershedref04_Has d.1 d.2.1
  ok := ce_ok mixedP Tryz.func46 (by kernel_rfl) (orcOf_ok watershedref04_Has_tb) (dr := watershedref04_Has_dr) (lps := lpsOf watershedref04_Has_lt) (lps_fn (no_loop (by kernel_rfl))) (fun d dh => by kernel_rfl)

def watershedref04_Cut_dr : Nat → DrA
  | 3 => ⟨[], [], [], [], [], true⟩
  | 11 => ⟨[1, 2, 3, 0, 4, 5, 6, 7, 8, 9, 10, 12, 11, 13, 14, 15], [[], [], [], [1, 2], [1, 2, 3], [0, 1, 2, 3, 4], [0, 1, 2, 3, 4, 5], [0, 1, 2, 3, 4, 5, 6], [0, 1, 2, 3, 4, 5, 6, 7], [0, 1, 2, 3, 4, 5, 6, 7], [0, 1, 2, 3, 4, 5, 6, 7, 8, 9], [0, 1, 2, 3, 4, 5, 6, 7, 8, 9, 10], [0, 1, 2, 3, 4, 5, 6, 7], [0, 1, 2, 3, 4, 5, 6, 7, 12], [0, 1, 2, 3, 4, 5, 6, 7, 8, 9, 10, 11, 12, 13], [0, 1, 2, 3, 4, 5, 6, 7, 8, 9, 10, 11, 12, 13, 14]], [], [], [], false⟩
  | 12 => ⟨[], [], [], [], [], true⟩
  | 13 => ⟨[0, 1, 2, 3, 5, 6, 7, 10, 11, 12, 14, 19, 4, 8, 9, 13, 15, 16, 17, 18, 20, 21], [[], [], [0, 1], [], [3], [], [], [5, 6], [5, 6, 7], [3, 4, 5, 6, 7, 8], [], [], [10, 11], [10, 11, 12], [], [14], [10, 11, 12, 13, 14, 15], [3, 4, 5, 6, 7, 8, 9, 10, 11, 12, 13, 14, 15, 16], [0, 1, 2, 3, 4, 5, 6, 7, 8, 9, 10, 11, 12, 13, 14, 15, 16, 17], [], [0, 1, 2, 3, 4, 5, 6, 7, 8, 9, 10, 11, 12, 13, 14, 15, 16, 17, 18, 19], [0, 1, 2, 3, 4, 5, 6, 7, 8, 9, 10, 11, 12, 13, 14, 15, 16, 17, 18, 19, 20]], [], [], [], false⟩
  | _ => ⟨[], [], [], [], [], false⟩
noncomputable def watershedref04_Cut_tb : List (CE CT Tryz.prog) := [watershedref04_Right_ce, watershedref04_Has_ce]
noncomputable def watershedref04_Cut_l2 (a : ((List (List UInt8)) × (Nat) × (Int) × (Int) × Unit) × ((List (DSpan)) × Unit)) : Option ((((List (List UInt8)) × (Nat) × (Int) × (Int) × Unit) × ((List (DSpan)) × Unit)) ⊕ ((((List (List UInt8)) × (Nat) × (Int) × Unit) × ((Unit) × (List (DSpan)) × Unit)))) :=
  (bif (decide ((a.1.2.2.2.1 : Int) < ((a.1.2.1 : Nat) : Int))) then
  (if 0 ≤ (a.1.2.2.2.1 : Int) ∧ (a.1.2.2.2.1 : Int) < ((a.1.2.1 : Nat) : Int) then
  (a.2.1[(0 + (a.1.2.2.2.1 : Int).toNat)]?).bind fun e1 =>
  (getI a.1.1 a.1.2.2.1).bind fun e2 =>
  (watershedref04_Has e1 e2).bind fun r3 =>
  (bif (!r3.1) then
  some (.inl ((a.1.1, a.1.2.1, a.1.2.2.1, (IntKind.i64.wrap (a.1.2.2.2.1 + 1)), ()), (a.2.1, ())))
  else
  (getI a.1.1 a.1.2.2.1).bind fun e4 =>
  (bif (decide (e4 = e1.lo)) then
  some (.inl ((a.1.1, a.1.2.1, a.1.2.2.1, (IntKind.i64.wrap (a.1.2.2.2.1 + 1)), ()), (a.2.1, ())))
  else
  (if 0 ≤ ((IntKind.i64.wrap (a.1.2.2.2.1 + 1)) : Int) ∧ ((IntKind.i64.wrap (a.1.2.2.2.1 + 1)) : Int) ≤ ((a.1.2.1 : Nat) : Int) ∧ ((a.1.2.1 : Nat) : Int) ≤ ((a.1.2.1 : Nat) : Int) ∧ ((a.1.2.1 : Nat) : Int) ≤ 140737488355328 then
  (if (0 + ((IntKind.i64.wrap (a.1.2.2.2.1 + 1)) : Int).toNat) + (((a.1.2.1 : Nat) : Int).toNat - ((IntKind.i64.wrap (a.1.2.2.2.1 + 1)) : Int).toNat) ≤ a.2.1.length then
  let y5 : List (DSpan) := ((a.2.1.drop (0 + ((IntKind.i64.wrap (a.1.2.2.2.1 + 1)) : Int).toNat)).take (((a.1.2.1 : Nat) : Int).toNat - ((IntKind.i64.wrap (a.1.2.2.2.1 + 1)) : Int).toNat))
  (if (0 + y5.length) ≤ 140737488355328 ∧ (0 + y5.length) * 32 ≤ 140737488355328 ∧ 0 + 0 ≤ ([] : List (DSpan)).length then
  (if (0 + y5.length) ≤ 0 then
  let y6 : List (DSpan) := (([] : List (DSpan)).take (0 + 0) ++ y5 ++ ([] : List (DSpan)).drop (0 + 0 + y5.length))
  (if 0 ≤ (0 : Int) ∧ (0 : Int) ≤ (a.1.2.2.2.1 : Int) ∧ (a.1.2.2.2.1 : Int) ≤ ((a.1.2.1 : Nat) : Int) ∧ (a.1.2.2.2.1 : Int) ≤ 140737488355328 then
  (getI a.1.1 a.1.2.2.1).bind fun e7 =>
  (getI a.1.1 a.1.2.2.1).bind fun e8 =>
  (if (((a.1.2.2.2.1 : Int).toNat - (0 : Int).toNat) + ([(⟨e1.lo, e7⟩ : DSpan), (⟨e8, e1.hi⟩ : DSpan)] : List (DSpan)).length) ≤ 140737488355328 ∧ (((a.1.2.2.2.1 : Int).toNat - (0 : Int).toNat) + ([(⟨e1.lo, e7⟩ : DSpan), (⟨e8, e1.hi⟩ : DSpan)] : List (DSpan)).length) * 32 ≤ 140737488355328 ∧ 0 + ((a.1.2.2.2.1 : Int).toNat - (0 : Int).toNat) ≤ a.2.1.length then
  let y9 : List (DSpan) := (a.2.1.take ((a.1.2.2.2.1 : Int).toNat - (0 : Int).toNat) ++ ([(⟨e1.lo, e7⟩ : DSpan), (⟨e8, e1.hi⟩ : DSpan)] : List (DSpan)))
  (if 0 + (0 + y5.length) ≤ y6.length then
  (if ((((a.1.2.2.2.1 : Int).toNat - (0 : Int).toNat) + ([(⟨e1.lo, e7⟩ : DSpan), (⟨e8, e1.hi⟩ : DSpan)] : List (DSpan)).length) + ((y6.drop 0).take (0 + y5.length)).length) ≤ 140737488355328 ∧ ((((a.1.2.2.2.1 : Int).toNat - (0 : Int).toNat) + ([(⟨e1.lo, e7⟩ : DSpan), (⟨e8, e1.hi⟩ : DSpan)] : List (DSpan)).length) + ((y6.drop 0).take (0 + y5.length)).length) * 32 ≤ 140737488355328 ∧ 0 + (((a.1.2.2.2.1 : Int).toNat - (0 : Int).toNat) + ([(⟨e1.lo, e7⟩ : DSpan), (⟨e8, e1.hi⟩ : DSpan)] : List (DSpan)).length) ≤ y9.length then
  let y10 : List (DSpan) := (y9.take (((a.1.2.2.2.1 : Int).toNat - (0 : Int).toNat) + ([(⟨e1.lo, e7⟩ : DSpan), (⟨e8, e1.hi⟩ : DSpan)] : List (DSpan)).length) ++ ((y6.drop 0).take (0 + y5.length)))
  some (.inr ((a.1.1, ((((a.1.2.2.2.1 : Int).toNat - (0 : Int).toNat) + ([(⟨e1.lo, e7⟩ : DSpan), (⟨e8, e1.hi⟩ : DSpan)] : List (DSpan)).length) + ((y6.drop 0).take (0 + y5.length)).length), a.1.2.2.1, ()), ((), y10, ())))
  else none)
  else none)
  else none)
  else none)
  else
  (if 0 ≤ (0 : Int) ∧ (0 : Int) ≤ (a.1.2.2.2.1 : Int) ∧ (a.1.2.2.2.1 : Int) ≤ ((a.1.2.1 : Nat) : Int) ∧ (a.1.2.2.2.1 : Int) ≤ 140737488355328 then
  (getI a.1.1 a.1.2.2.1).bind fun e11 =>
  (getI a.1.1 a.1.2.2.1).bind fun e12 =>
  (if (((a.1.2.2.2.1 : Int).toNat - (0 : Int).toNat) + ([(⟨e1.lo, e11⟩ : DSpan), (⟨e12, e1.hi⟩ : DSpan)] : List (DSpan)).length) ≤ 140737488355328 ∧ (((a.1.2.2.2.1 : Int).toNat - (0 : Int).toNat) + ([(⟨e1.lo, e11⟩ : DSpan), (⟨e12, e1.hi⟩ : DSpan)] : List (DSpan)).length) * 32 ≤ 140737488355328 ∧ 0 + ((a.1.2.2.2.1 : Int).toNat - (0 : Int).toNat) ≤ a.2.1.length then
  let y13 : List (DSpan) := (a.2.1.take ((a.1.2.2.2.1 : Int).toNat - (0 : Int).toNat) ++ ([(⟨e1.lo, e11⟩ : DSpan), (⟨e12, e1.hi⟩ : DSpan)] : List (DSpan)))
  (if 0 + (0 + y5.length) ≤ ((([] : List (DSpan)).drop 0).take 0 ++ y5).length then
  let y14 : List (DSpan) := ((((([] : List (DSpan)).drop 0).take 0 ++ y5).drop 0).take (0 + y5.length))
  (if ((((a.1.2.2.2.1 : Int).toNat - (0 : Int).toNat) + ([(⟨e1.lo, e11⟩ : DSpan), (⟨e12, e1.hi⟩ : DSpan)] : List (DSpan)).length) + y14.length) ≤ 140737488355328 ∧ ((((a.1.2.2.2.1 : Int).toNat - (0 : Int).toNat) + ([(⟨e1.lo, e11⟩ : DSpan), (⟨e12, e1.hi⟩ : DSpan)] : List (DSpan)).length) + y14.length) * 32 ≤ 140737488355328 ∧ 0 + (((a.1.2.2.2.1 : Int).toNat - (0 : Int).toNat) + ([(⟨e1.lo, e11⟩ : DSpan), (⟨e12, e1.hi⟩ : DSpan)] : List (DSpan)).length) ≤ y13.length then
  let y15 : List (DSpan) := (y13.take (((a.1.2.2.2.1 : Int).toNat - (0 : Int).toNat) + ([(⟨e1.lo, e11⟩ : DSpan), (⟨e12, e1.hi⟩ : DSpan)] : List (DSpan)).length) ++ y14)
  some (.inr ((a.1.1, ((((a.1.2.2.2.1 : Int).toNat - (0 : Int).toNat) + ([(⟨e1.lo, e11⟩ : DSpan), (⟨e12, e1.hi⟩ : DSpan)] : List (DSpan)).length) + y14.length), a.1.2.2.1, ()), ((), y15, ())))
  else none)
  else none)
  else none)
  else none))
  else none)
  else none)
  else none)))
  else none)
  else
  some (.inr ((a.1.1, a.1.2.1, a.1.2.2.1, ()), ((), a.2.1, ()))))
noncomputable def watershedref04_Cut_e2 : LE CT Tryz.prog := ⟨8, [1, 5, 6, 7], [.one (.sl 2), .one (.asz 4 0), .one (.int .i64), .one (.int .i64)], [.arr 26 4 false], [⟨.exit 2, [1, 5, 6], [.one (.sl 2), .one (.asz 4 1), .one (.int .i64)], [.dead, .arr 26 4 false]⟩], watershedref04_Cut_l2⟩
noncomputable def watershedref04_Cut_l1 (a : ((List (List UInt8)) × (Nat) × (Int) × Unit) × ((List (DSpan)) × Unit)) : Option ((((List (List UInt8)) × (Nat) × (Int) × Unit) × ((List (DSpan)) × Unit)) ⊕ ((((Nat) × Unit) × ((Unit) × (List (DSpan)) × Unit)))) :=
  (bif (decide ((a.1.2.2.1 : Int) < (a.1.1.length : Int))) then
  (loopM watershedref04_Cut_l2 ((a.1.1, a.1.2.1, a.1.2.2.1, 0, ()), (a.2.1, ()))).bind fun b1 =>
  some (.inl ((b1.1.1, b1.1.2.1, (IntKind.i64.wrap (b1.1.2.2.1 + 1)), ()), (b1.2.2.1, ())))
  else
  some (.inr ((a.1.2.1, ()), ((), a.2.1, ()))))
noncomputable def watershedref04_Cut_e1 : LE CT Tryz.prog := ⟨5, [1, 5, 6], [.one (.sl 2), .one (.asz 4 0), .one (.int .i64)], [.arr 26 4 false], [⟨.exit 0, [5], [.one (.asz 4 1)], [.dead, .arr 26 4 false]⟩], watershedref04_Cut_l1⟩
noncomputable def watershedref04_Cut_lt : List (LE CT Tryz.prog) := [watershedref04_Cut_e2, watershedref04_Cut_e1]
theorem watershedref04_Cut_e2_ok : LeOk watershedref04_Cut_e2 (nthL (nthL (bodyOf Tryz.f35) 0) 0) := fun A env h k z hk => le_ok (E := watershedref04_Cut_e2) (orcOf_ok watershedref04_Cut_tb) (dr := watershedref04_Cut_dr) (lps := lpsOf watershedref04_Cut_lt) (no_loop (by kernel_rfl)) (fun a => by kernel_rfl) env h k z hk
theorem watershedref04_Cut_e1_ok : LeOk watershedref04_Cut_e1 (nthL (bodyOf Tryz.f35) 0) := fun A env h k z hk => le_ok (E := watershedref04_Cut_e1) (orcOf_ok watershedref04_Cut_tb) (dr := watershedref04_Cut_dr) (lps := lpsOf watershedref04_Cut_lt) (lps_of (n := 1) (by kernel_rfl) fun i hi => match i, hi with | 0, _ => lp_ok (E := watershedref04_Cut_e2) (by kernel_rfl) watershedref04_Cut_e2_ok) (fun a => by kernel_rfl) env h k z hk
noncomputable def watershedref04_Cut (x0 : DSpan) (x1 : List (List UInt8)) : Option ((Nat) × ((List (DSpan)) × Unit)) :=
  (watershedref04_Right x0).bind fun r1 =>
  (bif (!r1.1) then
  some (0, ([], ()))
  else
  (loopM watershedref04_Cut_l1 ((x1, 1, 0, ()), (([x0] : List (DSpan)), ()))).bind fun b2 =>
  some (b2.1.1, (b2.2.2.1, ())))
noncomputable def watershedref04_Cut_ce : CE CT Tryz.prog where
  f := 35
  args := [.cod 4, .one (.sl 2)]
  hs := []
  res := .val (.one (.asz 4 0))
  outs := [.arr 26 4 false]
  m := fun d dh => watershedref04_Cut d.1 d.2.1
  ok := ce_ok mixedP Tryz.func35 (by kernel_rfl) (orcOf_ok watershedref04_Cut_tb) (dr := watershedref04_Cut_dr) (lps := lpsOf watershedref04_Cut_lt) (lps_fn (lps_of (n := 1) (by kernel_rfl) fun i hi => match i, hi with | 0, _ => lp_ok (E := watershedref04_Cut_e1) (by kernel_rfl) watershedref04_Cut_e1_ok)) (fun d dh => by kernel_rfl)

def watershedref05_Turn_dr : Nat → DrA
  | 24 => ⟨[0, 1, 2, 4, 6, 3, 5, 7, 8, 9, 10], [[], [], [0, 1], [0, 1, 2], [], [4], [], [6], [0, 1, 2, 3, 4, 5, 6, 7], [], [0, 1, 2, 3, 4, 5, 6, 7, 8, 9]], [], [], [], false⟩
  | 25 => ⟨[0, 1, 2, 3, 4, 5], [[], [], [0, 1], [0, 1, 2], [], [0, 1, 2, 3, 4]], [], [], [], false⟩
  | _ => ⟨[], [], [], [], [], false⟩
noncomputable def watershedref05_Turn_tb : List (CE CT Tryz.prog) := [watershedref05_Right_ce, watershedref04_Right_ce, watershedref05_In_ce, watershedref04_Cut_ce]
noncomputable def watershedref05_Turn_l2 (a : ((Int) × (Unit) × (Unit) × (Unit) × (Unit) × (Unit) × (Int) × (Unit) × (Nat) × (Int) × Unit) × ((DShares) × (DSpan) × ((Int) × (List (DShare)) × Unit) × (DShare) × ((Int) × (List (DShare)) × Unit) × (DShare) × (List (DSpan)) × (Unit) × (Unit) × Unit)) : Option ((((Int) × (Unit) × (Unit) × (Unit) × (Unit) × (Unit) × (Int) × (Unit) × (Nat) × (Int) × Unit) × ((DShares) × (DSpan) × ((Int) × (List (DShare)) × Unit) × (DShare) × ((Int) × (List (DShare)) × Unit) × (DShare) × (List (DSpan)) × (Unit) × (Unit) × Unit)) ⊕ ((((Int) × (Unit) × (Unit) × (Unit) × (Unit) × (Unit) × (Int) × Unit) × ((DShares) × (DSpan) × ((Int) × (List (DShare)) × Unit) × (DShare) × ((Int) × (List (DShare)) × Unit) × (DShare) × (Unit) × (Unit) × (Unit) × (Unit) × (Unit) × Unit)))) :=
  (bif (decide ((a.1.2.2.2.2.2.2.2.2.2.1 : Int) < ((a.1.2.2.2.2.2.2.2.2.1 : Nat) : Int))) then
  (if 0 ≤ (a.1.2.2.2.2.2.2.2.2.2.1 : Int) ∧ (a.1.2.2.2.2.2.2.2.2.2.1 : Int) < ((a.1.2.2.2.2.2.2.2.2.1 : Nat) : Int) then
  (a.2.2.2.2.2.2.2.1[(0 + (a.1.2.2.2.2.2.2.2.2.2.1 : Int).toNat)]?).bind fun e1 =>
  (if 0 ≤ (a.1.2.2.2.2.2.2.2.2.2.1 : Int) ∧ (a.1.2.2.2.2.2.2.2.2.2.1 : Int) < ((a.1.2.2.2.2.2.2.2.2.1 : Nat) : Int) then
  (a.2.2.2.2.2.2.2.1[(0 + (a.1.2.2.2.2.2.2.2.2.2.1 : Int).toNat)]?).bind fun e2 =>
  (bif (decide (e2.lo = a.2.2.1.lo) && (decide (e2.hi = a.2.2.1.hi) && true)) then
  (if a.2.2.2.2.2.1.2.1.length + ([(⟨e1, a.1.1, a.2.2.2.2.2.1.1⟩ : DShare)] : List (DShare)).length ≤ 140737488355328 ∧ (a.2.2.2.2.2.1.2.1.length + ([(⟨e1, a.1.1, a.2.2.2.2.2.1.1⟩ : DShare)] : List (DShare)).length) * 48 ≤ 140737488355328 then
  let y3 : List (DShare) := (a.2.2.2.2.2.1.2.1 ++ ([(⟨e1, a.1.1, a.2.2.2.2.2.1.1⟩ : DShare)] : List (DShare)))
  some (.inl ((a.1.1, (), (), (), (), (), a.1.2.2.2.2.2.2.1, (), a.1.2.2.2.2.2.2.2.2.1, (IntKind.i64.wrap (a.1.2.2.2.2.2.2.2.2.2.1 + 1)), ()), (a.2.1, a.2.2.1, (a.2.2.2.1.1, a.2.2.2.1.2.1, ()), a.2.2.2.2.1, (a.2.2.2.2.2.1.1, y3, ()), a.2.2.2.2.2.2.1, a.2.2.2.2.2.2.2.1, (), (), ())))
  else none)
  else
  (if a.2.2.2.2.2.1.2.1.length + ([(⟨e1, a.2.2.2.2.2.2.1.group, a.2.2.2.2.2.2.1.epoch⟩ : DShare)] : List (DShare)).length ≤ 140737488355328 ∧ (a.2.2.2.2.2.1.2.1.length + ([(⟨e1, a.2.2.2.2.2.2.1.group, a.2.2.2.2.2.2.1.epoch⟩ : DShare)] : List (DShare)).length) * 48 ≤ 140737488355328 then
  let y4 : List (DShare) := (a.2.2.2.2.2.1.2.1 ++ ([(⟨e1, a.2.2.2.2.2.2.1.group, a.2.2.2.2.2.2.1.epoch⟩ : DShare)] : List (DShare)))
  some (.inl ((a.1.1, (), (), (), (), (), a.1.2.2.2.2.2.2.1, (), a.1.2.2.2.2.2.2.2.2.1, (IntKind.i64.wrap (a.1.2.2.2.2.2.2.2.2.2.1 + 1)), ()), (a.2.1, a.2.2.1, (a.2.2.2.1.1, a.2.2.2.1.2.1, ()), a.2.2.2.2.1, (a.2.2.2.2.2.1.1, y4, ()), a.2.2.2.2.2.2.1, a.2.2.2.2.2.2.2.1, (), (), ())))
  else none))
  else none)
  else none)
  else
  some (.inr ((a.1.1, (), (), (), (), (), a.1.2.2.2.2.2.2.1, ()), (a.2.1, a.2.2.1, (a.2.2.2.1.1, a.2.2.2.1.2.1, ()), a.2.2.2.2.1, (a.2.2.2.2.2.1.1, a.2.2.2.2.2.1.2.1, ()), a.2.2.2.2.2.2.1, (), (), (), (), (), ()))))
noncomputable def watershedref05_Turn_e2 : LE CT Tryz.prog := ⟨22, [2, 3, 4, 6, 8, 10, 11, 12, 14, 15], [.one (.int .i64), .one (.ptr 0 0), .one (.ptr 1 0), .one (.ptr 2 0), .one (.ptr 3 0), .one (.ptr 4 0), .one (.int .i64), .one (.ptr 5 0), .one (.asz 4 6), .one (.int .i64)], [.cobj 24 9, .cobj 26 4, .obj 24 [.int .i64, .own 5 7], .cobj 35 5, .obj 24 [.int .i64, .own 5 8], .cobj 35 5, .arr 26 4 false, .row 35 4, .row 35 4], [⟨.exit 2, [2, 3, 4, 6, 8, 10, 11], [.one (.int .i64), .one (.ptr 0 0), .one (.ptr 1 0), .one (.ptr 2 0), .one (.ptr 3 0), .one (.ptr 4 0), .one (.int .i64)], [.cobj 24 9, .cobj 26 4, .obj 24 [.int .i64, .own 5 9], .cobj 35 5, .obj 24 [.int .i64, .own 5 10], .cobj 35 5, .dead, .dead, .dead, .row 35 4, .row 35 4]⟩], watershedref05_Turn_l2⟩
noncomputable def watershedref05_Turn_l1 (a : ((Int) × (Unit) × (Unit) × (Unit) × (Unit) × (Unit) × (Int) × Unit) × ((DShares) × (DSpan) × ((Int) × (List (DShare)) × Unit) × (DShare) × ((Int) × (List (DShare)) × Unit) × (Unit) × (Unit) × Unit)) : Option ((((Int) × (Unit) × (Unit) × (Unit) × (Unit) × (Unit) × (Int) × Unit) × ((DShares) × (DSpan) × ((Int) × (List (DShare)) × Unit) × (DShare) × ((Int) × (List (DShare)) × Unit) × (Unit) × (Unit) × Unit)) ⊕ ((((Unit) × (Unit) × (Unit) × Unit) × ((DShares) × (DSpan) × ((Int) × (List (DShare)) × Unit) × (DShare) × ((Int) × (List (DShare)) × Unit) × (Unit) × (Unit) × (Unit) × (Unit) × Unit)))) :=
  (bif (decide ((a.1.2.2.2.2.2.2.1 : Int) < (a.2.1.list.length : Int))) then
  (getI a.2.1.list a.1.2.2.2.2.2.2.1).bind fun e1 =>
  (bif (!(decide (e1.span.lo = a.2.2.2.2.1.span.lo) && (decide (e1.span.hi = a.2.2.2.2.1.span.hi) && (decide ((e1.group : Int) = a.2.2.2.2.1.group) && (decide ((e1.epoch : Int) = a.2.2.2.2.1.epoch) && true))))) then
  (if a.2.2.2.2.2.1.2.1.length + ([e1] : List (DShare)).length ≤ 140737488355328 ∧ (a.2.2.2.2.2.1.2.1.length + ([e1] : List (DShare)).length) * 48 ≤ 140737488355328 then
  some (.inl ((a.1.1, (), (), (), (), (), (IntKind.i64.wrap (a.1.2.2.2.2.2.2.1 + 1)), ()), (a.2.1, a.2.2.1, (a.2.2.2.1.1, a.2.2.2.1.2.1, ()), a.2.2.2.2.1, (a.2.2.2.2.2.1.1, (a.2.2.2.2.2.1.2.1 ++ ([e1] : List (DShare))), ()), (), (), ())))
  else none)
  else
  (bif (decide (a.2.2.1.lo ≠ ([] : List UInt8))) then
  (if ([a.2.2.1.lo] : List (List UInt8)).length ≤ 140737488355328 ∧ ([a.2.2.1.lo] : List (List UInt8)).length * 16 ≤ 140737488355328 then
  (bif (decide (a.2.2.1.hi ≠ ([] : List UInt8))) then
  (if ([a.2.2.1.lo] : List (List UInt8)).length + ([a.2.2.1.hi] : List (List UInt8)).length ≤ 140737488355328 ∧ (([a.2.2.1.lo] : List (List UInt8)).length + ([a.2.2.1.hi] : List (List UInt8)).length) * 16 ≤ 140737488355328 then
  let y2 : List (List UInt8) := (([a.2.2.1.lo] : List (List UInt8)) ++ ([a.2.2.1.hi] : List (List UInt8)))
  (watershedref04_Cut e1.span y2).bind fun r3 =>
  (loopM watershedref05_Turn_l2 ((a.1.1, (), (), (), (), (), a.1.2.2.2.2.2.2.1, (), r3.1, 0, ()), (a.2.1, a.2.2.1, (a.2.2.2.1.1, a.2.2.2.1.2.1, ()), a.2.2.2.2.1, (a.2.2.2.2.2.1.1, a.2.2.2.2.2.1.2.1, ()), (⟨e1.span, e1.group, e1.epoch⟩ : DShare), r3.2.1, (), (), ()))).bind fun b4 =>
  some (.inl ((b4.1.1, (), (), (), (), (), (IntKind.i64.wrap (b4.1.2.2.2.2.2.2.1 + 1)), ()), (b4.2.1, b4.2.2.1, (b4.2.2.2.1.1, b4.2.2.2.1.2.1, ()), b4.2.2.2.2.1, (b4.2.2.2.2.2.1.1, b4.2.2.2.2.2.1.2.1, ()), (), (), ())))
  else none)
  else
  (watershedref04_Cut e1.span ([a.2.2.1.lo] : List (List UInt8))).bind fun r5 =>
  (loopM watershedref05_Turn_l2 ((a.1.1, (), (), (), (), (), a.1.2.2.2.2.2.2.1, (), r5.1, 0, ()), (a.2.1, a.2.2.1, (a.2.2.2.1.1, a.2.2.2.1.2.1, ()), a.2.2.2.2.1, (a.2.2.2.2.2.1.1, a.2.2.2.2.2.1.2.1, ()), (⟨e1.span, e1.group, e1.epoch⟩ : DShare), r5.2.1, (), (), ()))).bind fun b6 =>
  some (.inl ((b6.1.1, (), (), (), (), (), (IntKind.i64.wrap (b6.1.2.2.2.2.2.2.1 + 1)), ()), (b6.2.1, b6.2.2.1, (b6.2.2.2.1.1, b6.2.2.2.1.2.1, ()), b6.2.2.2.2.1, (b6.2.2.2.2.2.1.1, b6.2.2.2.2.2.1.2.1, ()), (), (), ()))))
  else none)
  else
  (bif (decide (a.2.2.1.hi ≠ ([] : List UInt8))) then
  (if ([a.2.2.1.hi] : List (List UInt8)).length ≤ 140737488355328 ∧ ([a.2.2.1.hi] : List (List UInt8)).length * 16 ≤ 140737488355328 then
  (watershedref04_Cut e1.span ([a.2.2.1.hi] : List (List UInt8))).bind fun r7 =>
  (loopM watershedref05_Turn_l2 ((a.1.1, (), (), (), (), (), a.1.2.2.2.2.2.2.1, (), r7.1, 0, ()), (a.2.1, a.2.2.1, (a.2.2.2.1.1, a.2.2.2.1.2.1, ()), a.2.2.2.2.1, (a.2.2.2.2.2.1.1, a.2.2.2.2.2.1.2.1, ()), (⟨e1.span, e1.group, e1.epoch⟩ : DShare), r7.2.1, (), (), ()))).bind fun b8 =>
  some (.inl ((b8.1.1, (), (), (), (), (), (IntKind.i64.wrap (b8.1.2.2.2.2.2.2.1 + 1)), ()), (b8.2.1, b8.2.2.1, (b8.2.2.2.1.1, b8.2.2.2.1.2.1, ()), b8.2.2.2.2.1, (b8.2.2.2.2.2.1.1, b8.2.2.2.2.2.1.2.1, ()), (), (), ())))
  else none)
  else
  (watershedref04_Cut e1.span []).bind fun r9 =>
  (loopM watershedref05_Turn_l2 ((a.1.1, (), (), (), (), (), a.1.2.2.2.2.2.2.1, (), r9.1, 0, ()), (a.2.1, a.2.2.1, (a.2.2.2.1.1, a.2.2.2.1.2.1, ()), a.2.2.2.2.1, (a.2.2.2.2.2.1.1, a.2.2.2.2.2.1.2.1, ()), (⟨e1.span, e1.group, e1.epoch⟩ : DShare), r9.2.1, (), (), ()))).bind fun b10 =>
  some (.inl ((b10.1.1, (), (), (), (), (), (IntKind.i64.wrap (b10.1.2.2.2.2.2.2.1 + 1)), ()), (b10.2.1, b10.2.2.1, (b10.2.2.2.1.1, b10.2.2.2.1.2.1, ()), b10.2.2.2.2.1, (b10.2.2.2.2.2.1.1, b10.2.2.2.2.2.1.2.1, ()), (), (), ()))))))
  else
  some (.inr (((), (), (), ()), (a.2.1, a.2.2.1, (a.2.2.2.1.1, a.2.2.2.1.2.1, ()), a.2.2.2.2.1, (a.2.2.2.2.2.1.1, a.2.2.2.2.2.1.2.1, ()), (), (), (), (), ()))))
noncomputable def watershedref05_Turn_e1 : LE CT Tryz.prog := ⟨10, [2, 3, 4, 6, 8, 10, 11], [.one (.int .i64), .one (.ptr 0 0), .one (.ptr 1 0), .one (.ptr 2 0), .one (.ptr 3 0), .one (.ptr 4 0), .one (.int .i64)], [.cobj 24 9, .cobj 26 4, .obj 24 [.int .i64, .own 5 5], .cobj 35 5, .obj 24 [.int .i64, .own 5 6], .row 35 4, .row 35 4], [⟨.exit 0, [3, 6, 10], [.one (.ptr 0 0), .one (.ptr 2 0), .one (.ptr 4 0)], [.cobj 24 9, .cobj 26 4, .obj 24 [.int .i64, .own 5 7], .cobj 35 5, .obj 24 [.int .i64, .own 5 8], .dead, .dead, .row 35 4, .row 35 4]⟩], watershedref05_Turn_l1⟩
noncomputable def watershedref05_Turn_lt : List (LE CT Tryz.prog) := [watershedref05_Turn_e2, watershedref05_Turn_e1]
theorem watershedref05_Turn_e2_ok : LeOk watershedref05_Turn_e2 (nthL (nthL (bodyOf Tryz.f9) 0) 0) := fun A env h k z hk => le_ok (E := watershedref05_Turn_e2) (orcOf_ok watershedref05_Turn_tb) (dr := watershedref05_Turn_dr) (lps := lpsOf watershedref05_Turn_lt) (no_loop (by kernel_rfl)) (fun a => by kernel_rfl) env h k z hk
theorem watershedref05_Turn_e1_ok : LeOk watershedref05_Turn_e1 (nthL (bodyOf Tryz.f9) 0) := fun A env h k z hk => le_ok (E := watershedref05_Turn_e1) (orcOf_ok watershedref05_Turn_tb) (dr := watershedref05_Turn_dr) (lps := lpsOf watershedref05_Turn_lt) (lps_of (n := 1) (by kernel_rfl) fun i hi => match i, hi with | 0, _ => lp_ok (E := watershedref05_Turn_e2) (by kernel_rfl) watershedref05_Turn_e2_ok) (fun a => by kernel_rfl) env h k z hk
noncomputable def watershedref05_Turn (x0 : DShares) (x1 : DSpan) (x2 : Int) : Option (((DShares) × (Int) × Unit) × (Unit)) :=
  (watershedref05_Right x0).bind fun r1 =>
  (bif (!r1.1) then
  some (((⟨0, []⟩ : DShares), 2, ()), ())
  else
  (watershedref04_Right x1).bind fun r2 =>
  (bif (!r2.1) then
  some (((⟨0, []⟩ : DShares), 2, ()), ())
  else
  (bif (decide ((x2 : Int) < 1)) then
  some (((⟨0, []⟩ : DShares), 2, ()), ())
  else
  (bif (decide ((4 : Int) < x2)) then
  some (((⟨0, []⟩ : DShares), 2, ()), ())
  else
  (watershedref05_In x0 x1).bind fun r3 =>
  (bif (!r3.1.2.1) then
  some (((⟨0, []⟩ : DShares), 6, ()), ())
  else
  (bif (decide ((r3.1.1.group : Int) = x2)) then
  some (((⟨0, []⟩ : DShares), 7, ()), ())
  else
  (loopM watershedref05_Turn_l1 ((x2, (), (), (), (), (), 0, ()), (x0, x1, (0, [], ()), r3.1.1, ((IntKind.i64.wrap (x0.epoch + 1)), [], ()), (), (), ()))).bind fun b4 =>
  (bif (decide ((b4.2.1.epoch : Int) = 1073741824)) then
  some (((⟨0, []⟩ : DShares), 8, ()), ())
  else
  (bif (decide ((40 : Int) < (b4.2.2.2.2.2.1.2.1.length : Int))) then
  some (((⟨0, []⟩ : DShares), 8, ()), ())
  else
  some (((⟨b4.2.2.2.2.2.1.1, b4.2.2.2.2.2.1.2.1⟩ : DShares), 0, ()), ())))))))))
noncomputable def watershedref05_Turn_ce : CE CT Tryz.prog where
  f := 9
  args := [.cod 9, .cod 4, .one (.int .i64)]
  hs := []
  res := .tup [.cod 9, .one (.int .i64)]
  outs := []
  m := fun d dh => watershedref05_Turn d.1 d.2.1 d.2.2.1
  ok := ce_ok mixedP Tryz.func9 (by kernel_rfl) (orcOf_ok watershedref05_Turn_tb) (dr := watershedref05_Turn_dr) (lps := lpsOf watershedref05_Turn_lt) (lps_fn (lps_of (n := 1) (by kernel_rfl) fun i hi => match i, hi with | 0, _ => lp_ok (E := watershedref05_Turn_e1) (by kernel_rfl) watershedref05_Turn_e1_ok)) (fun d dh => by kernel_rfl)

def shares_In1_dr : Nat → DrA
  | _ => ⟨[], [], [], [], [], false⟩
noncomputable def shares_In1_tb : List (CE CT Tryz.prog) := [span_Within_ce]
noncomputable def shares_In1_lt : List (LE CT Tryz.prog) := []
noncomputable def shares_In1 (x0 : DSpan) (h0 : DSpan) : Option ((Bool) × ((DSpan) × Unit)) :=
  (span_Within h0 x0).bind fun r1 =>
  some (r1.1, (h0, ()))
noncomputable def shares_In1_ce : CE CT Tryz.prog where
  f := 37
  args := [.cod 4, .one (.ptr 0 0)]
  hs := [.cobj 26 4]
  res := .val (.one (.bool))
  outs := [.cobj 26 4]
  m := fun d dh => shares_In1 d.1 dh.1
  ok := ce_ok mixedP Tryz.func37 (by kernel_rfl) (orcOf_ok shares_In1_tb) (dr := shares_In1_dr) (lps := lpsOf shares_In1_lt) (lps_fn (no_loop (by kernel_rfl))) (fun d dh => by kernel_rfl)

def shares_at1_2_dr : Nat → DrA
  | _ => ⟨[], [], [], [], [], false⟩
noncomputable def shares_at1_2_tb : List (CE CT Tryz.prog) := [shares_In1_ce]
noncomputable def shares_at1_2_lt : List (LE CT Tryz.prog) := []
noncomputable def shares_at1_2 (x0 : DShare) (h0 : (Unit) × Unit) (h1 : DSpan) : Option ((Bool) × (((Unit) × Unit) × (DSpan) × Unit)) :=
  (shares_In1 x0.span h1).bind fun r1 =>
  some (r1.1, (((), ()), r1.2.1, ()))
noncomputable def shares_at1_2_ce : CE CT Tryz.prog where
  f := 51
  args := [.cod 5, .one (.ptr 0 0)]
  hs := [.obj 55 [.clo 37 [1]], .cobj 26 4]
  res := .val (.one (.bool))
  outs := [.obj 55 [.clo 37 [1]], .cobj 26 4]
  m := fun d dh => shares_at1_2 d.1 dh.1 dh.2.1
  ok := ce_ok mixedP Tryz.func51 (by kernel_rfl) (orcOf_ok shares_at1_2_tb) (dr := shares_at1_2_dr) (lps := lpsOf shares_at1_2_lt) (lps_fn (no_loop (by kernel_rfl))) (fun d dh => by kernel_rfl)

def slices_IndexFunc_3_dr : Nat → DrA
  | _ => ⟨[], [], [], [], [], false⟩
noncomputable def slices_IndexFunc_3_tb : List (CE CT Tryz.prog) := [shares_at1_2_ce]
noncomputable def slices_IndexFunc_3_l1 (a : ((List (DShare)) × (Unit) × (Int) × (Int) × Unit) × (((Unit) × Unit) × (DSpan) × Unit)) : Option ((((List (DShare)) × (Unit) × (Int) × (Int) × Unit) × (((Unit) × Unit) × (DSpan) × Unit)) ⊕ ((((Int) × Unit) × (((Unit) × Unit) × (DSpan) × Unit)) ⊕ ((Unit) × (((Unit) × Unit) × (DSpan) × Unit)))) :=
  (bif (decide ((a.1.2.2.2.1 : Int) < a.1.2.2.1)) then
  (getI a.1.1 a.1.2.2.2.1).bind fun e1 =>
  (shares_at1_2 e1 ((), ()) a.2.2.1).bind fun r2 =>
  (bif r2.1 then
  some (.inr (.inl ((a.1.2.2.2.1, ()), (((), ()), r2.2.2.1, ()))))
  else
  some (.inl ((a.1.1, (), a.1.2.2.1, (IntKind.i64.wrap (a.1.2.2.2.1 + 1)), ()), (((), ()), r2.2.2.1, ()))))
  else
  some (.inr (.inr ((), (((), ()), a.2.2.1, ())))))
noncomputable def slices_IndexFunc_3_e1 : LE CT Tryz.prog := ⟨2, [0, 1, 7, 8], [.one (.sl 5), .one (.clo 51 [0]), .one (.int .i64), .one (.int .i64)], [.obj 55 [.clo 37 [1]], .cobj 26 4], [⟨.ret, [4], [.one (.int .i64)], [.obj 55 [.clo 37 [1]], .cobj 26 4]⟩, ⟨.exit 0, [], [], [.obj 55 [.clo 37 [1]], .cobj 26 4]⟩], slices_IndexFunc_3_l1⟩
noncomputable def slices_IndexFunc_3_lt : List (LE CT Tryz.prog) := [slices_IndexFunc_3_e1]
theorem slices_IndexFunc_3_e1_ok : LeOk slices_IndexFunc_3_e1 (nthL (bodyOf Tryz.f50) 0) := fun A env h k z hk => le_ok (E := slices_IndexFunc_3_e1) (orcOf_ok slices_IndexFunc_3_tb) (dr := slices_IndexFunc_3_dr) (lps := lpsOf slices_IndexFunc_3_lt) (no_loop (by kernel_rfl)) (fun a => by kernel_rfl) env h k z hk
noncomputable def slices_IndexFunc_3 (x0 : List (DShare)) (h0 : (Unit) × Unit) (h1 : DSpan) : Option ((Int) × (((Unit) × Unit) × (DSpan) × Unit)) :=
  (loopM slices_IndexFunc_3_l1 ((x0, (), (x0.length : Int), 0, ()), (((), ()), h1, ()))).bind fun b1 =>
  (match b1 with
  | .inl b2 =>
  some (b2.1.1, (((), ()), b2.2.2.1, ()))
  | .inr b3 =>
  some ((-1), (((), ()), b3.2.2.1, ())))
noncomputable def slices_IndexFunc_3_ce : CE CT Tryz.prog where
  f := 50
  args := [.one (.sl 5), .one (.clo 51 [0])]
  hs := [.obj 55 [.clo 37 [1]], .cobj 26 4]
  res := .val (.one (.int .i64))
  outs := [.obj 55 [.clo 37 [1]], .cobj 26 4]
  m := fun d dh => slices_IndexFunc_3 d.1 dh.1 dh.2.1
  ok := ce_ok mixedP Tryz.func50 (by kernel_rfl) (orcOf_ok slices_IndexFunc_3_tb) (dr := slices_IndexFunc_3_dr) (lps := lpsOf slices_IndexFunc_3_lt) (lps_fn (lps_of (n := 1) (by kernel_rfl) fun i hi => match i, hi with | 0, _ => lp_ok (E := slices_IndexFunc_3_e1) (by kernel_rfl) slices_IndexFunc_3_e1_ok)) (fun d dh => by kernel_rfl)

def shares_at_2_dr : Nat → DrA
  | _ => ⟨[], [], [], [], [], false⟩
noncomputable def shares_at_2_tb : List (CE CT Tryz.prog) := [shares_right_ce, slices_IndexFunc_3_ce]
noncomputable def shares_at_2_lt : List (LE CT Tryz.prog) := []
noncomputable def shares_at_2 (x0 : DWork) (h0 : DSpan) : Option ((Int) × ((DSpan) × Unit)) :=
  (shares_right x0).bind fun r1 =>
  (bif (!r1.1) then
  some ((-1), (h0, ()))
  else
  (slices_IndexFunc_3 x0.shares.list ((), ()) h0).bind fun r2 =>
  some (r2.1, (r2.2.2.1, ())))
noncomputable def shares_at_2_ce : CE CT Tryz.prog where
  f := 25
  args := [.cod 10, .one (.clo 37 [0])]
  hs := [.cobj 26 4]
  res := .val (.one (.int .i64))
  outs := [.cobj 26 4]
  m := fun d dh => shares_at_2 d.1 dh.1
  ok := ce_ok mixedP Tryz.func25 (by kernel_rfl) (orcOf_ok shares_at_2_tb) (dr := shares_at_2_dr) (lps := lpsOf shares_at_2_lt) (lps_fn (no_loop (by kernel_rfl))) (fun d dh => by kernel_rfl)

def shares_share_dr : Nat → DrA
  | _ => ⟨[], [], [], [], [], false⟩
noncomputable def shares_share_tb : List (CE CT Tryz.prog) := []
noncomputable def shares_share_lt : List (LE CT Tryz.prog) := []
noncomputable def shares_share (x0 : DWork) (x1 : Int) : Option (((DShare) × (Bool) × Unit) × (Unit)) :=
  (bif (decide ((x1 : Int) < 0)) then
  some (((⟨(⟨([] : List UInt8), ([] : List UInt8)⟩ : DSpan), 0, 0⟩ : DShare), false, ()), ())
  else
  (getI x0.shares.list x1).bind fun e1 =>
  some ((e1, true, ()), ()))
noncomputable def shares_share_ce : CE CT Tryz.prog where
  f := 36
  args := [.cod 10, .one (.int .i64)]
  hs := []
  res := .tup [.cod 5, .one (.bool)]
  outs := []
  m := fun d dh => shares_share d.1 d.2.1
  ok := ce_ok mixedP Tryz.func36 (by kernel_rfl) (orcOf_ok shares_share_tb) (dr := shares_share_dr) (lps := lpsOf shares_share_lt) (lps_fn (no_loop (by kernel_rfl))) (fun d dh => by kernel_rfl)

def shares_In_dr : Nat → DrA
  | 2 => ⟨[2, 0, 1, 3, 4, 5, 6, 7, 8], [[], [], [], [1, 2], [0, 1, 2, 3], [0, 1, 2, 3, 4], [0, 1, 2, 3, 4], [0, 1, 2, 3, 4, 5, 6], [0, 1, 2, 3, 4, 5, 6, 7]], [0], [3], [3], false⟩
  | _ => ⟨[], [], [], [], [], false⟩
noncomputable def shares_In_tb : List (CE CT Tryz.prog) := [shares_at_2_ce, shares_share_ce]
noncomputable def shares_In_lt : List (LE CT Tryz.prog) := []
noncomputable def shares_In (x0 : DShares) (x1 : DSpan) : Option (((DShare) × (Bool) × Unit) × (Unit)) :=
  (shares_at_2 (⟨x0⟩ : DWork) x1).bind fun r1 =>
  (shares_share (⟨x0⟩ : DWork) r1.1).bind fun r2 =>
  some ((r2.1.1, r2.1.2.1, ()), ())
noncomputable def shares_In_ce : CE CT Tryz.prog where
  f := 10
  args := [.cod 9, .cod 4]
  hs := []
  res := .tup [.cod 5, .one (.bool)]
  outs := []
  m := fun d dh => shares_In d.1 d.2.1
  ok := ce_ok mixedP Tryz.func10 (by kernel_rfl) (orcOf_ok shares_In_tb) (dr := shares_In_dr) (lps := lpsOf shares_In_lt) (lps_fn (no_loop (by kernel_rfl))) (fun d dh => by kernel_rfl)

def shares_Right_dr : Nat → DrA
  | _ => ⟨[], [], [], [], [], false⟩
noncomputable def shares_Right_tb : List (CE CT Tryz.prog) := [shares_right_ce]
noncomputable def shares_Right_lt : List (LE CT Tryz.prog) := []
noncomputable def shares_Right (x0 : DShares) : Option ((Bool) × (Unit)) :=
  (shares_right (⟨x0⟩ : DWork)).bind fun r1 =>
  some (r1.1, ())
noncomputable def shares_Right_ce : CE CT Tryz.prog where
  f := 16
  args := [.cod 9]
  hs := []
  res := .val (.one (.bool))
  outs := []
  m := fun d dh => shares_Right d.1
  ok := ce_ok mixedP Tryz.func16 (by kernel_rfl) (orcOf_ok shares_Right_tb) (dr := shares_Right_dr) (lps := lpsOf shares_Right_lt) (lps_fn (no_loop (by kernel_rfl))) (fun d dh => by kernel_rfl)

def shares_Of1_dr : Nat → DrA
  | _ => ⟨[], [], [], [], [], false⟩
noncomputable def shares_Of1_tb : List (CE CT Tryz.prog) := [span_Has_ce]
noncomputable def shares_Of1_lt : List (LE CT Tryz.prog) := []
noncomputable def shares_Of1 (x0 : DSpan) (h0 : List UInt8) : Option ((Bool) × ((List UInt8) × Unit)) :=
  (span_Has x0 h0).bind fun r1 =>
  some (r1.1, (h0, ()))
noncomputable def shares_Of1_ce : CE CT Tryz.prog where
  f := 44
  args := [.cod 4, .one (.ptr 0 0)]
  hs := [.cobj 9 2]
  res := .val (.one (.bool))
  outs := [.cobj 9 2]
  m := fun d dh => shares_Of1 d.1 dh.1
  ok := ce_ok mixedP Tryz.func44 (by kernel_rfl) (orcOf_ok shares_Of1_tb) (dr := shares_Of1_dr) (lps := lpsOf shares_Of1_lt) (lps_fn (no_loop (by kernel_rfl))) (fun d dh => by kernel_rfl)

def shares_at1_3_dr : Nat → DrA
  | _ => ⟨[], [], [], [], [], false⟩
noncomputable def shares_at1_3_tb : List (CE CT Tryz.prog) := [shares_Of1_ce]
noncomputable def shares_at1_3_lt : List (LE CT Tryz.prog) := []
noncomputable def shares_at1_3 (x0 : DShare) (h0 : (Unit) × Unit) (h1 : List UInt8) : Option ((Bool) × (((Unit) × Unit) × (List UInt8) × Unit)) :=
  (shares_Of1 x0.span h1).bind fun r1 =>
  some (r1.1, (((), ()), r1.2.1, ()))
noncomputable def shares_at1_3_ce : CE CT Tryz.prog where
  f := 51
  args := [.cod 5, .one (.ptr 0 0)]
  hs := [.obj 55 [.clo 44 [1]], .cobj 9 2]
  res := .val (.one (.bool))
  outs := [.obj 55 [.clo 44 [1]], .cobj 9 2]
  m := fun d dh => shares_at1_3 d.1 dh.1 dh.2.1
  ok := ce_ok mixedP Tryz.func51 (by kernel_rfl) (orcOf_ok shares_at1_3_tb) (dr := shares_at1_3_dr) (lps := lpsOf shares_at1_3_lt) (lps_fn (no_loop (by kernel_rfl))) (fun d dh => by kernel_rfl)

def slices_IndexFunc_4_dr : Nat → DrA
  | _ => ⟨[], [], [], [], [], false⟩
noncomputable def slices_IndexFunc_4_tb : List (CE CT Tryz.prog) := [shares_at1_3_ce]
noncomputable def slices_IndexFunc_4_l1 (a : ((List (DShare)) × (Unit) × (Int) × (Int) × Unit) × (((Unit) × Unit) × (List UInt8) × Unit)) : Option ((((List (DShare)) × (Unit) × (Int) × (Int) × Unit) × (((Unit) × Unit) × (List UInt8) × Unit)) ⊕ ((((Int) × Unit) × (((Unit) × Unit) × (List UInt8) × Unit)) ⊕ ((Unit) × (((Unit) × Unit) × (List UInt8) × Unit)))) :=
  (bif (decide ((a.1.2.2.2.1 : Int) < a.1.2.2.1)) then
  (getI a.1.1 a.1.2.2.2.1).bind fun e1 =>
  (shares_at1_3 e1 ((), ()) a.2.2.1).bind fun r2 =>
  (bif r2.1 then
  some (.inr (.inl ((a.1.2.2.2.1, ()), (((), ()), r2.2.2.1, ()))))
  else
  some (.inl ((a.1.1, (), a.1.2.2.1, (IntKind.i64.wrap (a.1.2.2.2.1 + 1)), ()), (((), ()), r2.2.2.1, ()))))
  else
  some (.inr (.inr ((), (((), ()), a.2.2.1, ())))))
noncomputable def slices_IndexFunc_4_e1 : LE CT Tryz.prog := ⟨2, [0, 1, 7, 8], [.one (.sl 5), .one (.clo 51 [0]), .one (.int .i64), .one (.int .i64)], [.obj 55 [.clo 44 [1]], .cobj 9 2], [⟨.ret, [4], [.one (.int .i64)], [.obj 55 [.clo 44 [1]], .cobj 9 2]⟩, ⟨.exit 0, [], [], [.obj 55 [.clo 44 [1]], .cobj 9 2]⟩], slices_IndexFunc_4_l1⟩
noncomputable def slices_IndexFunc_4_lt : List (LE CT Tryz.prog) := [slices_IndexFunc_4_e1]
theorem slices_IndexFunc_4_e1_ok : LeOk slices_IndexFunc_4_e1 (nthL (bodyOf Tryz.f50) 0) := fun A env h k z hk => le_ok (E := slices_IndexFunc_4_e1) (orcOf_ok slices_IndexFunc_4_tb) (dr := slices_IndexFunc_4_dr) (lps := lpsOf slices_IndexFunc_4_lt) (no_loop (by kernel_rfl)) (fun a => by kernel_rfl) env h k z hk
noncomputable def slices_IndexFunc_4 (x0 : List (DShare)) (h0 : (Unit) × Unit) (h1 : List UInt8) : Option ((Int) × (((Unit) × Unit) × (List UInt8) × Unit)) :=
  (loopM slices_IndexFunc_4_l1 ((x0, (), (x0.length : Int), 0, ()), (((), ()), h1, ()))).bind fun b1 =>
  (match b1 with
  | .inl b2 =>
  some (b2.1.1, (((), ()), b2.2.2.1, ()))
  | .inr b3 =>
  some ((-1), (((), ()), b3.2.2.1, ())))
noncomputable def slices_IndexFunc_4_ce : CE CT Tryz.prog where
  f := 50
  args := [.one (.sl 5), .one (.clo 51 [0])]
  hs := [.obj 55 [.clo 44 [1]], .cobj 9 2]
  res := .val (.one (.int .i64))
  outs := [.obj 55 [.clo 44 [1]], .cobj 9 2]
  m := fun d dh => slices_IndexFunc_4 d.1 dh.1 dh.2.1
  ok := ce_ok mixedP Tryz.func50 (by kernel_rfl) (orcOf_ok slices_IndexFunc_4_tb) (dr := slices_IndexFunc_4_dr) (lps := lpsOf slices_IndexFunc_4_lt) (lps_fn (lps_of (n := 1) (by kernel_rfl) fun i hi => match i, hi with | 0, _ => lp_ok (E := slices_IndexFunc_4_e1) (by kernel_rfl) slices_IndexFunc_4_e1_ok)) (fun d dh => by kernel_rfl)

def shares_at_3_dr : Nat → DrA
  | _ => ⟨[], [], [], [], [], false⟩
noncomputable def shares_at_3_tb : List (CE CT Tryz.prog) := [shares_right_ce, slices_IndexFunc_4_ce]
noncomputable def shares_at_3_lt : List (LE CT Tryz.prog) := []
noncomputable def shares_at_3 (x0 : DWork) (h0 : List UInt8) : Option ((Int) × ((List UInt8) × Unit)) :=
  (shares_right x0).bind fun r1 =>
  (bif (!r1.1) then
  some ((-1), (h0, ()))
  else
  (slices_IndexFunc_4 x0.shares.list ((), ()) h0).bind fun r2 =>
  some (r2.1, (r2.2.2.1, ())))
noncomputable def shares_at_3_ce : CE CT Tryz.prog where
  f := 25
  args := [.cod 10, .one (.clo 44 [0])]
  hs := [.cobj 9 2]
  res := .val (.one (.int .i64))
  outs := [.cobj 9 2]
  m := fun d dh => shares_at_3 d.1 dh.1
  ok := ce_ok mixedP Tryz.func25 (by kernel_rfl) (orcOf_ok shares_at_3_tb) (dr := shares_at_3_dr) (lps := lpsOf shares_at_3_lt) (lps_fn (no_loop (by kernel_rfl))) (fun d dh => by kernel_rfl)

def shares_Of_dr : Nat → DrA
  | 2 => ⟨[2, 0, 1, 3, 4, 5, 6, 7, 8], [[], [], [], [1, 2], [0, 1, 2, 3], [0, 1, 2, 3, 4], [0, 1, 2, 3, 4], [0, 1, 2, 3, 4, 5, 6], [0, 1, 2, 3, 4, 5, 6, 7]], [0], [3], [3], false⟩
  | _ => ⟨[], [], [], [], [], false⟩
noncomputable def shares_Of_tb : List (CE CT Tryz.prog) := [shares_at_3_ce, shares_share_ce]
noncomputable def shares_Of_lt : List (LE CT Tryz.prog) := []
noncomputable def shares_Of (x0 : DShares) (x1 : List UInt8) : Option (((DShare) × (Bool) × Unit) × (Unit)) :=
  (shares_at_3 (⟨x0⟩ : DWork) x1).bind fun r1 =>
  (shares_share (⟨x0⟩ : DWork) r1.1).bind fun r2 =>
  some ((r2.1.1, r2.1.2.1, ()), ())
noncomputable def shares_Of_ce : CE CT Tryz.prog where
  f := 20
  args := [.cod 9, .one (.str)]
  hs := []
  res := .tup [.cod 5, .one (.bool)]
  outs := []
  m := fun d dh => shares_Of d.1 d.2.1
  ok := ce_ok mixedP Tryz.func20 (by kernel_rfl) (orcOf_ok shares_Of_tb) (dr := shares_Of_dr) (lps := lpsOf shares_Of_lt) (lps_fn (no_loop (by kernel_rfl))) (fun d dh => by kernel_rfl)

def slices_Compact_2_dr : Nat → DrA
  | 6 => ⟨[0, 1, 2, 4, 5, 6, 7, 3, 8, 9], [[], [], [0, 1], [0, 1, 2], [], [], [5], [4, 5, 6], [4, 5, 6, 7], [0, 1, 2, 3, 4, 5, 6, 7, 8]], [], [], [], false⟩
  | 11 => ⟨[0, 1, 2, 4, 5, 6, 7, 3, 8, 9], [[], [], [0, 1], [0, 1, 2], [], [], [5], [4, 5, 6], [4, 5, 6, 7], [0, 1, 2, 3, 4, 5, 6, 7, 8]], [], [], [], false⟩
  | _ => ⟨[], [], [], [], [], false⟩
noncomputable def slices_Compact_2_tb : List (CE CT Tryz.prog) := []
noncomputable def slices_Compact_2_l2 (a : ((Nat) × (Int) × (Nat × Nat) × (Int) × Unit) × ((List (Int)) × Unit)) : Option ((((Nat) × (Int) × (Nat × Nat) × (Int) × Unit) × ((List (Int)) × Unit)) ⊕ ((((Nat) × (Int) × Unit) × ((List (Int)) × Unit)))) :=
  (bif (decide ((a.1.2.2.2.1 : Int) < ((a.1.2.2.1.2 : Nat) : Int))) then
  (if 0 ≤ (a.1.2.2.2.1 : Int) ∧ (a.1.2.2.2.1 : Int) < ((a.1.2.2.1.2 : Nat) : Int) then
  (if 0 ≤ ((IntKind.i64.wrap (a.1.2.2.2.1 - 1)) : Int) ∧ ((IntKind.i64.wrap (a.1.2.2.2.1 - 1)) : Int) < ((a.1.2.2.1.2 : Nat) : Int) then
  (a.2.1[(a.1.2.2.1.1 + (a.1.2.2.2.1 : Int).toNat)]?).bind fun e1 =>
  (a.2.1[(a.1.2.2.1.1 + ((IntKind.i64.wrap (a.1.2.2.2.1 - 1)) : Int).toNat)]?).bind fun e2 =>
  (bif (decide ((e1 : Int) ≠ e2)) then
  (if 0 ≤ (a.1.2.2.2.1 : Int) ∧ (a.1.2.2.2.1 : Int) < ((a.1.2.2.1.2 : Nat) : Int) then
  (a.2.1[(a.1.2.2.1.1 + (a.1.2.2.2.1 : Int).toNat)]?).bind fun e3 =>
  (if 0 ≤ (a.1.2.1 : Int) ∧ (a.1.2.1 : Int) < ((a.1.1 : Nat) : Int) then
  (a.2.1[(0 + (a.1.2.1 : Int).toNat)]?).bind fun e4 =>
  some (.inl ((a.1.1, (IntKind.i64.wrap (a.1.2.1 + 1)), (a.1.2.2.1.1, a.1.2.2.1.2), (IntKind.i64.wrap (a.1.2.2.2.1 + 1)), ()), ((a.2.1.set (0 + (a.1.2.1 : Int).toNat) e3), ())))
  else none)
  else none)
  else
  some (.inl ((a.1.1, a.1.2.1, (a.1.2.2.1.1, a.1.2.2.1.2), (IntKind.i64.wrap (a.1.2.2.2.1 + 1)), ()), (a.2.1, ()))))
  else none)
  else none)
  else
  some (.inr ((a.1.1, a.1.2.1, ()), (a.2.1, ()))))
noncomputable def slices_Compact_2_e2 : LE CT Tryz.prog := ⟨9, [0, 3, 4, 5], [.one (.asz 0 0), .one (.int .i64), .one (.asu 0 0), .one (.int .i64)], [.arr 3 0 true], [⟨.exit 2, [0, 3], [.one (.asz 0 0), .one (.int .i64)], [.arr 3 0 true]⟩], slices_Compact_2_l2⟩
noncomputable def slices_Compact_2_l1 (a : ((Nat) × (Int) × Unit) × ((List (Int)) × Unit)) : Option ((((Nat) × (Int) × Unit) × ((List (Int)) × Unit)) ⊕ ((((Nat × Nat) × Unit) × ((List (Int)) × Unit)) ⊕ (((Nat) × Unit) × ((List (Int)) × Unit)))) :=
  (bif (decide ((a.1.2.1 : Int) < ((a.1.1 : Nat) : Int))) then
  (if 0 ≤ (a.1.2.1 : Int) ∧ (a.1.2.1 : Int) < ((a.1.1 : Nat) : Int) then
  (if 0 ≤ ((IntKind.i64.wrap (a.1.2.1 - 1)) : Int) ∧ ((IntKind.i64.wrap (a.1.2.1 - 1)) : Int) < ((a.1.1 : Nat) : Int) then
  (a.2.1[(0 + (a.1.2.1 : Int).toNat)]?).bind fun e1 =>
  (a.2.1[(0 + ((IntKind.i64.wrap (a.1.2.1 - 1)) : Int).toNat)]?).bind fun e2 =>
  (bif (decide ((e1 : Int) = e2)) then
  (if 0 ≤ (a.1.2.1 : Int) ∧ (a.1.2.1 : Int) ≤ ((a.1.1 : Nat) : Int) ∧ ((a.1.1 : Nat) : Int) ≤ ((a.1.1 : Nat) : Int) ∧ ((a.1.1 : Nat) : Int) ≤ 140737488355328 then
  (loopM slices_Compact_2_l2 ((a.1.1, a.1.2.1, ((0 + (a.1.2.1 : Int).toNat), (((a.1.1 : Nat) : Int).toNat - (a.1.2.1 : Int).toNat)), 1, ()), (a.2.1, ()))).bind fun b3 =>
  (if 0 ≤ (b3.1.2.1 : Int) ∧ (b3.1.2.1 : Int) ≤ ((b3.1.1 : Nat) : Int) ∧ ((b3.1.1 : Nat) : Int) ≤ ((b3.1.1 : Nat) : Int) ∧ ((b3.1.1 : Nat) : Int) ≤ 140737488355328 then
  (if (0 + (b3.1.2.1 : Int).toNat) ≤ b3.2.1.length then
  let y4 : List (Int) := (b3.2.1.take (0 + (b3.1.2.1 : Int).toNat) ++ List.replicate (((b3.1.1 : Nat) : Int).toNat - (b3.1.2.1 : Int).toNat) (0 : Int) ++ b3.2.1.drop ((0 + (b3.1.2.1 : Int).toNat) + (((b3.1.1 : Nat) : Int).toNat - (b3.1.2.1 : Int).toNat)))
  (if 0 ≤ (0 : Int) ∧ (0 : Int) ≤ (b3.1.2.1 : Int) ∧ (b3.1.2.1 : Int) ≤ ((b3.1.1 : Nat) : Int) ∧ (b3.1.2.1 : Int) ≤ 140737488355328 then
  some (.inr (.inl ((((0 + (0 : Int).toNat), ((b3.1.2.1 : Int).toNat - (0 : Int).toNat)), ()), (y4, ()))))
  else none)
  else none)
  else none)
  else none)
  else
  some (.inl ((a.1.1, (IntKind.i64.wrap (a.1.2.1 + 1)), ()), (a.2.1, ()))))
  else none)
  else none)
  else
  some (.inr (.inr ((a.1.1, ()), (a.2.1, ())))))
noncomputable def slices_Compact_2_e1 : LE CT Tryz.prog := ⟨4, [0, 3], [.one (.asz 0 0), .one (.int .i64)], [.arr 3 0 true], [⟨.ret, [2], [.one (.asu 0 0)], [.arr 3 0 true]⟩, ⟨.exit 0, [0], [.one (.asz 0 0)], [.arr 3 0 true]⟩], slices_Compact_2_l1⟩
noncomputable def slices_Compact_2_lt : List (LE CT Tryz.prog) := [slices_Compact_2_e2, slices_Compact_2_e1]
theorem slices_Compact_2_e2_ok : LeOk slices_Compact_2_e2 (nthL (nthL (bodyOf Tryz.f40) 0) 0) := fun A env h k z hk => le_ok (E := slices_Compact_2_e2) (orcOf_ok slices_Compact_2_tb) (dr := slices_Compact_2_dr) (lps := lpsOf slices_Compact_2_lt) (no_loop (by kernel_rfl)) (fun a => by kernel_rfl) env h k z hk
theorem slices_Compact_2_e1_ok : LeOk slices_Compact_2_e1 (nthL (bodyOf Tryz.f40) 0) := fun A env h k z hk => le_ok (E := slices_Compact_2_e1) (orcOf_ok slices_Compact_2_tb) (dr := slices_Compact_2_dr) (lps := lpsOf slices_Compact_2_lt) (lps_of (n := 1) (by kernel_rfl) fun i hi => match i, hi with | 0, _ => lp_ok (E := slices_Compact_2_e2) (by kernel_rfl) slices_Compact_2_e2_ok) (fun a => by kernel_rfl) env h k z hk
noncomputable def slices_Compact_2 (x0 : Nat) (h0 : List (Int)) : Option ((Nat × Nat) × ((List (Int)) × Unit)) :=
  (bif (decide ((((x0 : Nat) : Int) : Int) < 2)) then
  some ((0, x0), (h0, ()))
  else
  (loopM slices_Compact_2_l1 ((x0, 1, ()), (h0, ()))).bind fun b1 =>
  (match b1 with
  | .inl b2 =>
  some ((b2.1.1.1, b2.1.1.2), (b2.2.1, ()))
  | .inr b3 =>
  some ((0, b3.1.1), (b3.2.1, ()))))
noncomputable def slices_Compact_2_ce : CE CT Tryz.prog where
  f := 40
  args := [.one (.asz 0 0)]
  hs := [.arr 3 0 true]
  res := .val (.one (.asu 0 0))
  outs := [.arr 3 0 true]
  m := fun d dh => slices_Compact_2 d.1 dh.1
  ok := ce_ok mixedP Tryz.func40 (by kernel_rfl) (orcOf_ok slices_Compact_2_tb) (dr := slices_Compact_2_dr) (lps := lpsOf slices_Compact_2_lt) (lps_fn (lps_of (n := 1) (by kernel_rfl) fun i hi => match i, hi with | 0, _ => lp_ok (E := slices_Compact_2_e1) (by kernel_rfl) slices_Compact_2_e1_ok)) (fun d dh => by kernel_rfl)

def shares_Groups_dr : Nat → DrA
  | _ => ⟨[], [], [], [], [], false⟩
noncomputable def shares_Groups_tb : List (CE CT Tryz.prog) := [shares_Right_ce, shares_Of_ce, sortI_ce, slices_Compact_2_ce]
noncomputable def shares_Groups_l1 (a : ((Unit) × (Nat) × (List (List UInt8)) × (Int) × (Int) × Unit) × ((DShares) × (List (Int)) × Unit)) : Option ((((Unit) × (Nat) × (List (List UInt8)) × (Int) × (Int) × Unit) × ((DShares) × (List (Int)) × Unit)) ⊕ ((((Unit) × (Bool) × Unit) × ((DShares) × (Unit) × Unit)) ⊕ (((Nat) × Unit) × ((DShares) × (Unit) × (List (Int)) × Unit)))) :=
  (bif (decide ((a.1.2.2.2.2.1 : Int) < a.1.2.2.2.1)) then
  (getI a.1.2.2.1 a.1.2.2.2.2.1).bind fun e1 =>
  (shares_Of a.2.1 e1).bind fun r2 =>
  (bif (!r2.1.2.1) then
  some (.inr (.inl (((), false, ()), (a.2.1, (), ()))))
  else
  (if (a.1.2.1 + ([r2.1.1.group] : List (Int)).length) ≤ 140737488355328 ∧ (a.1.2.1 + ([r2.1.1.group] : List (Int)).length) * 8 ≤ 140737488355328 ∧ 0 + a.1.2.1 ≤ a.2.2.1.length then
  some (.inl (((), (a.1.2.1 + ([r2.1.1.group] : List (Int)).length), a.1.2.2.1, a.1.2.2.2.1, (IntKind.i64.wrap (a.1.2.2.2.2.1 + 1)), ()), (a.2.1, (a.2.2.1.take a.1.2.1 ++ ([r2.1.1.group] : List (Int))), ())))
  else none))
  else
  some (.inr (.inr ((a.1.2.1, ()), (a.2.1, (), a.2.2.1, ())))))
noncomputable def shares_Groups_e1 : LE CT Tryz.prog := ⟨5, [2, 6, 14, 15, 16], [.one (.ptr 0 0), .one (.asz 0 1), .one (.sl 2), .one (.int .i64), .one (.int .i64)], [.cobj 24 9, .arr 3 0 false], [⟨.ret, [4, 5], [.one (.nil), .one (.bool)], [.cobj 24 9, .dead]⟩, ⟨.exit 0, [6], [.one (.asz 0 2)], [.cobj 24 9, .dead, .arr 3 0 false]⟩], shares_Groups_l1⟩
noncomputable def shares_Groups_lt : List (LE CT Tryz.prog) := [shares_Groups_e1]
theorem shares_Groups_e1_ok : LeOk shares_Groups_e1 (nthL (bodyOf Tryz.f12) 0) := fun A env h k z hk => le_ok (E := shares_Groups_e1) (orcOf_ok shares_Groups_tb) (dr := shares_Groups_dr) (lps := lpsOf shares_Groups_lt) (no_loop (by kernel_rfl)) (fun a => by kernel_rfl) env h k z hk
noncomputable def shares_Groups (x0 : DShares) (x1 : List (List UInt8)) : Option (((Nat × Nat) × (Bool) × Unit) × ((List (Int)) × Unit)) :=
  (shares_Right x0).bind fun r1 =>
  (bif (!r1.1) then
  some (((0, 0), false, ()), ([], ()))
  else
  (loopM shares_Groups_l1 (((), 0, x1, (x1.length : Int), 0, ()), (x0, [], ()))).bind fun b2 =>
  (match b2 with
  | .inl b3 =>
  some (((0, 0), b3.1.2.1, ()), ([], ()))
  | .inr b4 =>
  (sortI b4.1.1 b4.2.2.2.1).bind fun r5 =>
  (slices_Compact_2 b4.1.1 r5.2.1).bind fun r6 =>
  some (((r6.1.1, r6.1.2), true, ()), (r6.2.1, ()))))
noncomputable def shares_Groups_ce : CE CT Tryz.prog where
  f := 12
  args := [.cod 9, .one (.sl 2)]
  hs := []
  res := .tup [.one (.asu 0 0), .one (.bool)]
  outs := [.arr 3 0 false]
  m := fun d dh => shares_Groups d.1 d.2.1
  ok := ce_ok mixedP Tryz.func12 (by kernel_rfl) (orcOf_ok shares_Groups_tb) (dr := shares_Groups_dr) (lps := lpsOf shares_Groups_lt) (lps_fn (lps_of (n := 1) (by kernel_rfl) fun i hi => match i, hi with | 0, _ => lp_ok (E := shares_Groups_e1) (by kernel_rfl) shares_Groups_e1_ok)) (fun d dh => by kernel_rfl)

def watershedref05_Of_dr : Nat → DrA
  | _ => ⟨[], [], [], [], [], false⟩
noncomputable def watershedref05_Of_tb : List (CE CT Tryz.prog) := [watershedref05_Right_ce, watershedref04_Has_ce]
noncomputable def watershedref05_Of_l1 (a : ((List UInt8) × (Unit) × (Unit) × (Int) × Unit) × ((DShares) × (DShare) × Unit)) : Option ((((List UInt8) × (Unit) × (Unit) × (Int) × Unit) × ((DShares) × (DShare) × Unit)) ⊕ ((((Unit) × (Bool) × Unit) × ((DShares) × (DShare) × Unit)) ⊕ (((Unit) × Unit) × ((DShares) × (DShare) × Unit)))) :=
  (bif (decide ((a.1.2.2.2.1 : Int) < (a.2.1.list.length : Int))) then
  (watershedref05_Right a.2.1).bind fun r1 =>
  (bif r1.1 then
  (getI a.2.1.list a.1.2.2.2.1).bind fun e2 =>
  (watershedref04_Has e2.span a.1.1).bind fun r3 =>
  (bif r3.1 then
  (getI a.2.1.list a.1.2.2.2.1).bind fun e4 =>
  some (.inr (.inl (((), true, ()), (a.2.1, e4, ()))))
  else
  some (.inl ((a.1.1, (), (), (IntKind.i64.wrap (a.1.2.2.2.1 + 1)), ()), (a.2.1, a.2.2.1, ()))))
  else
  some (.inr (.inr (((), ()), (a.2.1, a.2.2.1, ())))))
  else
  some (.inr (.inr (((), ()), (a.2.1, a.2.2.1, ())))))
noncomputable def watershedref05_Of_e1 : LE CT Tryz.prog := ⟨2, [1, 2, 4, 6], [.one (.str), .one (.ptr 0 0), .one (.ptr 1 0), .one (.int .i64)], [.cobj 24 9, .cobj 35 5], [⟨.ret, [4, 5], [.one (.ptr 1 0), .one (.bool)], [.cobj 24 9, .cobj 35 5]⟩, ⟨.exit 0, [4], [.one (.ptr 1 0)], [.cobj 24 9, .cobj 35 5]⟩], watershedref05_Of_l1⟩
noncomputable def watershedref05_Of_lt : List (LE CT Tryz.prog) := [watershedref05_Of_e1]
theorem watershedref05_Of_e1_ok : LeOk watershedref05_Of_e1 (nthL (bodyOf Tryz.f21) 0) := fun A env h k z hk => le_ok (E := watershedref05_Of_e1) (orcOf_ok watershedref05_Of_tb) (dr := watershedref05_Of_dr) (lps := lpsOf watershedref05_Of_lt) (no_loop (by kernel_rfl)) (fun a => by kernel_rfl) env h k z hk
noncomputable def watershedref05_Of (x0 : DShares) (x1 : List UInt8) : Option (((DShare) × (Bool) × Unit) × (Unit)) :=
  (loopM watershedref05_Of_l1 ((x1, (), (), 0, ()), (x0, (⟨(⟨([] : List UInt8), ([] : List UInt8)⟩ : DSpan), 0, 0⟩ : DShare), ()))).bind fun b1 =>
  (match b1 with
  | .inl b2 =>
  some ((b2.2.2.1, b2.1.2.1, ()), ())
  | .inr b3 =>
  some (((⟨(⟨([] : List UInt8), ([] : List UInt8)⟩ : DSpan), 0, 0⟩ : DShare), false, ()), ()))
noncomputable def watershedref05_Of_ce : CE CT Tryz.prog where
  f := 21
  args := [.cod 9, .one (.str)]
  hs := []
  res := .tup [.cod 5, .one (.bool)]
  outs := []
  m := fun d dh => watershedref05_Of d.1 d.2.1
  ok := ce_ok mixedP Tryz.func21 (by kernel_rfl) (orcOf_ok watershedref05_Of_tb) (dr := watershedref05_Of_dr) (lps := lpsOf watershedref05_Of_lt) (lps_fn (lps_of (n := 1) (by kernel_rfl) fun i hi => match i, hi with | 0, _ => lp_ok (E := watershedref05_Of_e1) (by kernel_rfl) watershedref05_Of_e1_ok)) (fun d dh => by kernel_rfl)

def watershedref05_Groups_dr : Nat → DrA
  | 7 => ⟨[1, 2, 3, 0, 4, 5, 6, 7, 8, 9, 10, 11], [[], [], [], [1, 2], [1, 2, 3], [0, 1, 2, 3, 4], [0, 1, 2, 3, 4, 5], [0, 1, 2, 3, 4, 5, 6], [0, 1, 2, 3, 4, 5, 6], [], [0, 1, 2, 3, 4, 5, 6, 7, 9], [0, 1, 2, 3, 4, 5, 6, 7, 8, 9, 10]], [], [], [], false⟩
  | _ => ⟨[], [], [], [], [], false⟩
noncomputable def watershedref05_Groups_tb : List (CE CT Tryz.prog) := [watershedref05_Right_ce, watershedref05_Of_ce]
noncomputable def watershedref05_Groups_l1 (a : ((List (List UInt8)) × (Unit) × (Unit) × (Int) × Unit) × ((DShares) × ((Bool) × (Bool) × (Bool) × (Bool) × (Bool) × Unit) × Unit)) : Option ((((List (List UInt8)) × (Unit) × (Unit) × (Int) × Unit) × ((DShares) × ((Bool) × (Bool) × (Bool) × (Bool) × (Bool) × Unit) × Unit)) ⊕ ((((Unit) × (Bool) × Unit) × ((DShares) × ((Bool) × (Bool) × (Bool) × (Bool) × (Bool) × Unit) × Unit)) ⊕ (((Unit) × Unit) × ((DShares) × ((Bool) × (Bool) × (Bool) × (Bool) × (Bool) × Unit) × Unit)))) :=
  (bif (decide ((a.1.2.2.2.1 : Int) < (a.1.1.length : Int))) then
  (getI a.1.1 a.1.2.2.2.1).bind fun e1 =>
  (watershedref05_Of a.2.1 e1).bind fun r2 =>
  (bif (!r2.1.2.1) then
  some (.inr (.inl (((), false, ()), (a.2.1, (a.2.2.1.1, a.2.2.1.2.1, a.2.2.1.2.2.1, a.2.2.1.2.2.2.1, a.2.2.1.2.2.2.2.1, ()), ()))))
  else
  (if (r2.1.1.group : Int) = ((0 : Nat) : Int) then
  some (.inl ((a.1.1, (), (), (IntKind.i64.wrap (a.1.2.2.2.1 + 1)), ()), (a.2.1, (true, a.2.2.1.2.1, a.2.2.1.2.2.1, a.2.2.1.2.2.2.1, a.2.2.1.2.2.2.2.1, ()), ())))
  else (if (r2.1.1.group : Int) = ((1 : Nat) : Int) then
  some (.inl ((a.1.1, (), (), (IntKind.i64.wrap (a.1.2.2.2.1 + 1)), ()), (a.2.1, (a.2.2.1.1, true, a.2.2.1.2.2.1, a.2.2.1.2.2.2.1, a.2.2.1.2.2.2.2.1, ()), ())))
  else (if (r2.1.1.group : Int) = ((2 : Nat) : Int) then
  some (.inl ((a.1.1, (), (), (IntKind.i64.wrap (a.1.2.2.2.1 + 1)), ()), (a.2.1, (a.2.2.1.1, a.2.2.1.2.1, true, a.2.2.1.2.2.2.1, a.2.2.1.2.2.2.2.1, ()), ())))
  else (if (r2.1.1.group : Int) = ((3 : Nat) : Int) then
  some (.inl ((a.1.1, (), (), (IntKind.i64.wrap (a.1.2.2.2.1 + 1)), ()), (a.2.1, (a.2.2.1.1, a.2.2.1.2.1, a.2.2.1.2.2.1, true, a.2.2.1.2.2.2.2.1, ()), ())))
  else (if (r2.1.1.group : Int) = ((4 : Nat) : Int) then
  some (.inl ((a.1.1, (), (), (IntKind.i64.wrap (a.1.2.2.2.1 + 1)), ()), (a.2.1, (a.2.2.1.1, a.2.2.1.2.1, a.2.2.1.2.2.1, a.2.2.1.2.2.2.1, true, ()), ())))
  else none))))))
  else
  some (.inr (.inr (((), ()), (a.2.1, (a.2.2.1.1, a.2.2.1.2.1, a.2.2.1.2.2.1, a.2.2.1.2.2.2.1, a.2.2.1.2.2.2.2.1, ()), ())))))
noncomputable def watershedref05_Groups_e1 : LE CT Tryz.prog := ⟨5, [1, 2, 6, 7], [.one (.sl 2), .one (.ptr 0 0), .one (.ptr 1 0), .one (.int .i64)], [.cobj 24 9, .obj 64 [.bool, .bool, .bool, .bool, .bool]], [⟨.ret, [4, 5], [.one (.nil), .one (.bool)], [.cobj 24 9, .obj 64 [.bool, .bool, .bool, .bool, .bool]]⟩, ⟨.exit 0, [6], [.one (.ptr 1 0)], [.cobj 24 9, .obj 64 [.bool, .bool, .bool, .bool, .bool]]⟩], watershedref05_Groups_l1⟩
noncomputable def watershedref05_Groups_l2 (a : ((Unit) × (Nat) × (Int) × Unit) × (((Bool) × (Bool) × (Bool) × (Bool) × (Bool) × Unit) × (List (Int)) × Unit)) : Option ((((Unit) × (Nat) × (Int) × Unit) × (((Bool) × (Bool) × (Bool) × (Bool) × (Bool) × Unit) × (List (Int)) × Unit)) ⊕ ((((Nat) × Unit) × (((Bool) × (Bool) × (Bool) × (Bool) × (Bool) × Unit) × (Unit) × (List (Int)) × Unit)))) :=
  (bif (decide ((a.1.2.2.1 : Int) ≤ 4)) then
  (if (a.1.2.2.1 : Int) = ((0 : Nat) : Int) then
  (bif a.2.1.1 then
  (if (a.1.2.1 + ([a.1.2.2.1] : List (Int)).length) ≤ 140737488355328 ∧ (a.1.2.1 + ([a.1.2.2.1] : List (Int)).length) * 8 ≤ 140737488355328 ∧ 0 + a.1.2.1 ≤ a.2.2.1.length then
  some (.inl (((), (a.1.2.1 + ([a.1.2.2.1] : List (Int)).length), (IntKind.i64.wrap (a.1.2.2.1 + 1)), ()), ((a.2.1.1, a.2.1.2.1, a.2.1.2.2.1, a.2.1.2.2.2.1, a.2.1.2.2.2.2.1, ()), (a.2.2.1.take a.1.2.1 ++ ([a.1.2.2.1] : List (Int))), ())))
  else none)
  else
  some (.inl (((), a.1.2.1, (IntKind.i64.wrap (a.1.2.2.1 + 1)), ()), ((a.2.1.1, a.2.1.2.1, a.2.1.2.2.1, a.2.1.2.2.2.1, a.2.1.2.2.2.2.1, ()), a.2.2.1, ()))))
  else (if (a.1.2.2.1 : Int) = ((1 : Nat) : Int) then
  (bif a.2.1.2.1 then
  (if (a.1.2.1 + ([a.1.2.2.1] : List (Int)).length) ≤ 140737488355328 ∧ (a.1.2.1 + ([a.1.2.2.1] : List (Int)).length) * 8 ≤ 140737488355328 ∧ 0 + a.1.2.1 ≤ a.2.2.1.length then
  some (.inl (((), (a.1.2.1 + ([a.1.2.2.1] : List (Int)).length), (IntKind.i64.wrap (a.1.2.2.1 + 1)), ()), ((a.2.1.1, a.2.1.2.1, a.2.1.2.2.1, a.2.1.2.2.2.1, a.2.1.2.2.2.2.1, ()), (a.2.2.1.take a.1.2.1 ++ ([a.1.2.2.1] : List (Int))), ())))
  else none)
  else
  some (.inl (((), a.1.2.1, (IntKind.i64.wrap (a.1.2.2.1 + 1)), ()), ((a.2.1.1, a.2.1.2.1, a.2.1.2.2.1, a.2.1.2.2.2.1, a.2.1.2.2.2.2.1, ()), a.2.2.1, ()))))
  else (if (a.1.2.2.1 : Int) = ((2 : Nat) : Int) then
  (bif a.2.1.2.2.1 then
  (if (a.1.2.1 + ([a.1.2.2.1] : List (Int)).length) ≤ 140737488355328 ∧ (a.1.2.1 + ([a.1.2.2.1] : List (Int)).length) * 8 ≤ 140737488355328 ∧ 0 + a.1.2.1 ≤ a.2.2.1.length then
  some (.inl (((), (a.1.2.1 + ([a.1.2.2.1] : List (Int)).length), (IntKind.i64.wrap (a.1.2.2.1 + 1)), ()), ((a.2.1.1, a.2.1.2.1, a.2.1.2.2.1, a.2.1.2.2.2.1, a.2.1.2.2.2.2.1, ()), (a.2.2.1.take a.1.2.1 ++ ([a.1.2.2.1] : List (Int))), ())))
  else none)
  else
  some (.inl (((), a.1.2.1, (IntKind.i64.wrap (a.1.2.2.1 + 1)), ()), ((a.2.1.1, a.2.1.2.1, a.2.1.2.2.1, a.2.1.2.2.2.1, a.2.1.2.2.2.2.1, ()), a.2.2.1, ()))))
  else (if (a.1.2.2.1 : Int) = ((3 : Nat) : Int) then
  (bif a.2.1.2.2.2.1 then
  (if (a.1.2.1 + ([a.1.2.2.1] : List (Int)).length) ≤ 140737488355328 ∧ (a.1.2.1 + ([a.1.2.2.1] : List (Int)).length) * 8 ≤ 140737488355328 ∧ 0 + a.1.2.1 ≤ a.2.2.1.length then
  some (.inl (((), (a.1.2.1 + ([a.1.2.2.1] : List (Int)).length), (IntKind.i64.wrap (a.1.2.2.1 + 1)), ()), ((a.2.1.1, a.2.1.2.1, a.2.1.2.2.1, a.2.1.2.2.2.1, a.2.1.2.2.2.2.1, ()), (a.2.2.1.take a.1.2.1 ++ ([a.1.2.2.1] : List (Int))), ())))
  else none)
  else
  some (.inl (((), a.1.2.1, (IntKind.i64.wrap (a.1.2.2.1 + 1)), ()), ((a.2.1.1, a.2.1.2.1, a.2.1.2.2.1, a.2.1.2.2.2.1, a.2.1.2.2.2.2.1, ()), a.2.2.1, ()))))
  else (if (a.1.2.2.1 : Int) = ((4 : Nat) : Int) then
  (bif a.2.1.2.2.2.2.1 then
  (if (a.1.2.1 + ([a.1.2.2.1] : List (Int)).length) ≤ 140737488355328 ∧ (a.1.2.1 + ([a.1.2.2.1] : List (Int)).length) * 8 ≤ 140737488355328 ∧ 0 + a.1.2.1 ≤ a.2.2.1.length then
  some (.inl (((), (a.1.2.1 + ([a.1.2.2.1] : List (Int)).length), (IntKind.i64.wrap (a.1.2.2.1 + 1)), ()), ((a.2.1.1, a.2.1.2.1, a.2.1.2.2.1, a.2.1.2.2.2.1, a.2.1.2.2.2.2.1, ()), (a.2.2.1.take a.1.2.1 ++ ([a.1.2.2.1] : List (Int))), ())))
  else none)
  else
  some (.inl (((), a.1.2.1, (IntKind.i64.wrap (a.1.2.2.1 + 1)), ()), ((a.2.1.1, a.2.1.2.1, a.2.1.2.2.1, a.2.1.2.2.2.1, a.2.1.2.2.2.2.1, ()), a.2.2.1, ()))))
  else none)))))
  else
  some (.inr ((a.1.2.1, ()), ((a.2.1.1, a.2.1.2.1, a.2.1.2.2.1, a.2.1.2.2.2.1, a.2.1.2.2.2.2.1, ()), (), a.2.2.1, ()))))
noncomputable def watershedref05_Groups_e2 : LE CT Tryz.prog := ⟨13, [6, 10, 11], [.one (.ptr 0 0), .one (.asz 0 1), .one (.int .i64)], [.obj 64 [.bool, .bool, .bool, .bool, .bool], .arr 3 0 false], [⟨.exit 2, [10], [.one (.asz 0 2)], [.obj 64 [.bool, .bool, .bool, .bool, .bool], .dead, .arr 3 0 false]⟩], watershedref05_Groups_l2⟩
noncomputable def watershedref05_Groups_lt : List (LE CT Tryz.prog) := [watershedref05_Groups_e1, watershedref05_Groups_e2]
theorem watershedref05_Groups_e1_ok : LeOk watershedref05_Groups_e1 (nthL (bodyOf Tryz.f13) 0) := fun A env h k z hk => le_ok (E := watershedref05_Groups_e1) (orcOf_ok watershedref05_Groups_tb) (dr := watershedref05_Groups_dr) (lps := lpsOf watershedref05_Groups_lt) (no_loop (by kernel_rfl)) (fun a => by kernel_rfl) env h k z hk
theorem watershedref05_Groups_e2_ok : LeOk watershedref05_Groups_e2 (nthL (bodyOf Tryz.f13) 1) := fun A env h k z hk => le_ok (E := watershedref05_Groups_e2) (orcOf_ok watershedref05_Groups_tb) (dr := watershedref05_Groups_dr) (lps := lpsOf watershedref05_Groups_lt) (no_loop (by kernel_rfl)) (fun a => by kernel_rfl) env h k z hk
noncomputable def watershedref05_Groups (x0 : DShares) (x1 : List (List UInt8)) : Option (((Nat) × (Bool) × Unit) × ((List (Int)) × Unit)) :=
  (watershedref05_Right x0).bind fun r1 =>
  (bif (!r1.1) then
  some ((0, false, ()), ([], ()))
  else
  (loopM watershedref05_Groups_l1 ((x1, (), (), 0, ()), (x0, (false, false, false, false, false, ()), ()))).bind fun b2 =>
  (match b2 with
  | .inl b3 =>
  some ((0, b3.1.2.1, ()), ([], ()))
  | .inr b4 =>
  (loopM watershedref05_Groups_l2 (((), 0, 1, ()), ((b4.2.2.1.1, b4.2.2.1.2.1, b4.2.2.1.2.2.1, b4.2.2.1.2.2.2.1, b4.2.2.1.2.2.2.2.1, ()), [], ()))).bind fun b5 =>
  some ((b5.1.1, true, ()), (b5.2.2.2.1, ()))))
noncomputable def watershedref05_Groups_ce : CE CT Tryz.prog where
  f := 13
  args := [.cod 9, .one (.sl 2)]
  hs := []
  res := .tup [.one (.asz 0 0), .one (.bool)]
  outs := [.arr 3 0 false]
  m := fun d dh => watershedref05_Groups d.1 d.2.1
  ok := ce_ok mixedP Tryz.func13 (by kernel_rfl) (orcOf_ok watershedref05_Groups_tb) (dr := watershedref05_Groups_dr) (lps := lpsOf watershedref05_Groups_lt) (lps_fn (lps_of (n := 2) (by kernel_rfl) fun i hi => match i, hi with | 0, _ => lp_ok (E := watershedref05_Groups_e1) (by kernel_rfl) watershedref05_Groups_e1_ok | 1, _ => lp_ok (E := watershedref05_Groups_e2) (by kernel_rfl) watershedref05_Groups_e2_ok)) (fun d dh => by kernel_rfl)

def watershedkit_SameShareRows_dr : Nat → DrA
  | 6 => ⟨[0, 1, 2, 4, 5, 6, 3, 7, 8], [[], [], [0, 1], [0, 1, 2], [], [], [4, 5], [4, 5, 6], [0, 1, 2, 3, 4, 5, 6, 7]], [], [], [], false⟩
  | _ => ⟨[], [], [], [], [], false⟩
noncomputable def watershedkit_SameShareRows_tb : List (CE CT Tryz.prog) := []
noncomputable def watershedkit_SameShareRows_l1 (a : ((Nat) × (List (DShare)) × (Int) × Unit) × ((List (DShare)) × Unit)) : Option ((((Nat) × (List (DShare)) × (Int) × Unit) × ((List (DShare)) × Unit)) ⊕ ((((Bool) × Unit) × ((List (DShare)) × Unit)) ⊕ ((Unit) × ((List (DShare)) × Unit)))) :=
  (bif (decide ((a.1.2.2.1 : Int) < ((a.1.1 : Nat) : Int))) then
  (if 0 ≤ (a.1.2.2.1 : Int) ∧ (a.1.2.2.1 : Int) < ((a.1.1 : Nat) : Int) then
  (getI a.1.2.1 a.1.2.2.1).bind fun e1 =>
  (a.2.1[(0 + (a.1.2.2.1 : Int).toNat)]?).bind fun e2 =>
  (bif (!(decide (e2.span.lo = e1.span.lo) && (decide (e2.span.hi = e1.span.hi) && (decide ((e2.group : Int) = e1.group) && (decide ((e2.epoch : Int) = e1.epoch) && true))))) then
  some (.inr (.inl ((false, ()), (a.2.1, ()))))
  else
  some (.inl ((a.1.1, a.1.2.1, (IntKind.i64.wrap (a.1.2.2.1 + 1)), ()), (a.2.1, ()))))
  else none)
  else
  some (.inr (.inr ((), (a.2.1, ())))))
noncomputable def watershedkit_SameShareRows_e1 : LE CT Tryz.prog := ⟨4, [0, 1, 5], [.one (.asz 5 0), .one (.sl 5), .one (.int .i64)], [.arr 35 5 true], [⟨.ret, [4], [.one (.bool)], [.arr 35 5 true]⟩, ⟨.exit 0, [], [], [.arr 35 5 true]⟩], watershedkit_SameShareRows_l1⟩
noncomputable def watershedkit_SameShareRows_lt : List (LE CT Tryz.prog) := [watershedkit_SameShareRows_e1]
theorem watershedkit_SameShareRows_e1_ok : LeOk watershedkit_SameShareRows_e1 (nthL (bodyOf Tryz.f41) 0) := fun A env h k z hk => le_ok (E := watershedkit_SameShareRows_e1) (orcOf_ok watershedkit_SameShareRows_tb) (dr := watershedkit_SameShareRows_dr) (lps := lpsOf watershedkit_SameShareRows_lt) (no_loop (by kernel_rfl)) (fun a => by kernel_rfl) env h k z hk
noncomputable def watershedkit_SameShareRows (x0 : Nat) (x1 : List (DShare)) (h0 : List (DShare)) : Option ((Bool) × ((List (DShare)) × Unit)) :=
  (bif (decide ((((x0 : Nat) : Int) : Int) ≠ (x1.length : Int))) then
  some (false, (h0, ()))
  else
  (loopM watershedkit_SameShareRows_l1 ((x0, x1, 0, ()), (h0, ()))).bind fun b1 =>
  (match b1 with
  | .inl b2 =>
  some (b2.1.1, (b2.2.1, ()))
  | .inr b3 =>
  some (true, (b3.2.1, ()))))
noncomputable def watershedkit_SameShareRows_ce : CE CT Tryz.prog where
  f := 41
  args := [.one (.asz 5 0), .one (.sl 5)]
  hs := [.arr 35 5 true]
  res := .val (.one (.bool))
  outs := [.arr 35 5 true]
  m := fun d dh => watershedkit_SameShareRows d.1 d.2.1 dh.1
  ok := ce_ok mixedP Tryz.func41 (by kernel_rfl) (orcOf_ok watershedkit_SameShareRows_tb) (dr := watershedkit_SameShareRows_dr) (lps := lpsOf watershedkit_SameShareRows_lt) (lps_fn (lps_of (n := 1) (by kernel_rfl) fun i hi => match i, hi with | 0, _ => lp_ok (E := watershedkit_SameShareRows_e1) (by kernel_rfl) watershedkit_SameShareRows_e1_ok)) (fun d dh => by kernel_rfl)

def watershedkit_SameShares_dr : Nat → DrA
  | _ => ⟨[], [], [], [], [], false⟩
noncomputable def watershedkit_SameShares_tb : List (CE CT Tryz.prog) := [watershedkit_SameShareRows_ce]
noncomputable def watershedkit_SameShares_lt : List (LE CT Tryz.prog) := []
noncomputable def watershedkit_SameShares (x0 : (Int) × (Nat) × Unit) (x1 : DShares) (h0 : List (DShare)) : Option ((Bool) × ((List (DShare)) × Unit)) :=
  (bif (decide ((x0.1 : Int) = x1.epoch)) then
  (watershedkit_SameShareRows x0.2.1 x1.list h0).bind fun r1 =>
  some (r1.1, (r1.2.1, ()))
  else
  some (false, (h0, ())))
noncomputable def watershedkit_SameShares_ce : CE CT Tryz.prog where
  f := 14
  args := [.agg [.int .i64, .asz 5 0], .cod 9]
  hs := [.arr 35 5 true]
  res := .val (.one (.bool))
  outs := [.arr 35 5 true]
  m := fun d dh => watershedkit_SameShares d.1 d.2.1 dh.1
  ok := ce_ok mixedP Tryz.func14 (by kernel_rfl) (orcOf_ok watershedkit_SameShares_tb) (dr := watershedkit_SameShares_dr) (lps := lpsOf watershedkit_SameShares_lt) (lps_fn (no_loop (by kernel_rfl))) (fun d dh => by kernel_rfl)

def watershedkit_SameInts_dr : Nat → DrA
  | 6 => ⟨[0, 1, 2, 4, 5, 6, 3, 7, 8], [[], [], [0, 1], [0, 1, 2], [], [], [4, 5], [4, 5, 6], [0, 1, 2, 3, 4, 5, 6, 7]], [], [], [], false⟩
  | _ => ⟨[], [], [], [], [], false⟩
noncomputable def watershedkit_SameInts_tb : List (CE CT Tryz.prog) := []
noncomputable def watershedkit_SameInts_l1 (a : ((Nat × Nat) × (Nat) × (Int) × Unit) × ((List (Int)) × (List (Int)) × Unit)) : Option ((((Nat × Nat) × (Nat) × (Int) × Unit) × ((List (Int)) × (List (Int)) × Unit)) ⊕ ((((Bool) × Unit) × ((List (Int)) × (List (Int)) × Unit)) ⊕ ((Unit) × ((List (Int)) × (List (Int)) × Unit)))) :=
  (bif (decide ((a.1.2.2.1 : Int) < ((a.1.1.2 : Nat) : Int))) then
  (if 0 ≤ (a.1.2.2.1 : Int) ∧ (a.1.2.2.1 : Int) < ((a.1.1.2 : Nat) : Int) then
  (if 0 ≤ (a.1.2.2.1 : Int) ∧ (a.1.2.2.1 : Int) < ((a.1.2.1 : Nat) : Int) then
  (a.2.1[(a.1.1.1 + (a.1.2.2.1 : Int).toNat)]?).bind fun e1 =>
  (a.2.2.1[(0 + (a.1.2.2.1 : Int).toNat)]?).bind fun e2 =>
  (bif (decide ((e1 : Int) ≠ e2)) then
  some (.inr (.inl ((false, ()), (a.2.1, a.2.2.1, ()))))
  else
  some (.inl (((a.1.1.1, a.1.1.2), a.1.2.1, (IntKind.i64.wrap (a.1.2.2.1 + 1)), ()), (a.2.1, a.2.2.1, ()))))
  else none)
  else none)
  else
  some (.inr (.inr ((), (a.2.1, a.2.2.1, ())))))
noncomputable def watershedkit_SameInts_e1 : LE CT Tryz.prog := ⟨4, [0, 1, 5], [.one (.asu 0 0), .one (.asz 0 1), .one (.int .i64)], [.arr 3 0 true, .arr 3 0 true], [⟨.ret, [4], [.one (.bool)], [.arr 3 0 true, .arr 3 0 true]⟩, ⟨.exit 0, [], [], [.arr 3 0 true, .arr 3 0 true]⟩], watershedkit_SameInts_l1⟩
noncomputable def watershedkit_SameInts_lt : List (LE CT Tryz.prog) := [watershedkit_SameInts_e1]
theorem watershedkit_SameInts_e1_ok : LeOk watershedkit_SameInts_e1 (nthL (bodyOf Tryz.f15) 0) := fun A env h k z hk => le_ok (E := watershedkit_SameInts_e1) (orcOf_ok watershedkit_SameInts_tb) (dr := watershedkit_SameInts_dr) (lps := lpsOf watershedkit_SameInts_lt) (no_loop (by kernel_rfl)) (fun a => by kernel_rfl) env h k z hk
noncomputable def watershedkit_SameInts (x0 : Nat × Nat) (x1 : Nat) (h0 : List (Int)) (h1 : List (Int)) : Option ((Bool) × ((List (Int)) × (List (Int)) × Unit)) :=
  (bif (decide ((((x0.2 : Nat) : Int) : Int) ≠ ((x1 : Nat) : Int))) then
  some (false, (h0, h1, ()))
  else
  (loopM watershedkit_SameInts_l1 (((x0.1, x0.2), x1, 0, ()), (h0, h1, ()))).bind fun b1 =>
  (match b1 with
  | .inl b2 =>
  some (b2.1.1, (b2.2.1, b2.2.2.1, ()))
  | .inr b3 =>
  some (true, (b3.2.1, b3.2.2.1, ()))))
noncomputable def watershedkit_SameInts_ce : CE CT Tryz.prog where
  f := 15
  args := [.one (.asu 0 0), .one (.asz 0 1)]
  hs := [.arr 3 0 true, .arr 3 0 true]
  res := .val (.one (.bool))
  outs := [.arr 3 0 true, .arr 3 0 true]
  m := fun d dh => watershedkit_SameInts d.1 d.2.1 dh.1 dh.2.1
  ok := ce_ok mixedP Tryz.func15 (by kernel_rfl) (orcOf_ok watershedkit_SameInts_tb) (dr := watershedkit_SameInts_dr) (lps := lpsOf watershedkit_SameInts_lt) (lps_fn (lps_of (n := 1) (by kernel_rfl) fun i hi => match i, hi with | 0, _ => lp_ok (E := watershedkit_SameInts_e1) (by kernel_rfl) watershedkit_SameInts_e1_ok)) (fun d dh => by kernel_rfl)

def watershedref05_First_dr : Nat → DrA
  | _ => ⟨[], [], [], [], [], false⟩
noncomputable def watershedref05_First_tb : List (CE CT Tryz.prog) := []
noncomputable def watershedref05_First_lt : List (LE CT Tryz.prog) := []
noncomputable def watershedref05_First (x0 : Int) : Option ((DShares) × (Unit)) :=
  (bif (decide ((x0 : Int) < 1)) then
  some ((⟨1, ([(⟨(⟨([] : List UInt8), ([] : List UInt8)⟩ : DSpan), 1, 1⟩ : DShare)] : List (DShare))⟩ : DShares), ())
  else
  (bif (decide ((4 : Int) < x0)) then
  some ((⟨1, ([(⟨(⟨([] : List UInt8), ([] : List UInt8)⟩ : DSpan), 1, 1⟩ : DShare)] : List (DShare))⟩ : DShares), ())
  else
  some ((⟨1, ([(⟨(⟨([] : List UInt8), ([] : List UInt8)⟩ : DSpan), x0, 1⟩ : DShare)] : List (DShare))⟩ : DShares), ())))
noncomputable def watershedref05_First_ce : CE CT Tryz.prog where
  f := 19
  args := [.one (.int .i64)]
  hs := []
  res := .val (.cod 9)
  outs := []
  m := fun d dh => watershedref05_First d.1
  ok := ce_ok mixedP Tryz.func19 (by kernel_rfl) (orcOf_ok watershedref05_First_tb) (dr := watershedref05_First_dr) (lps := lpsOf watershedref05_First_lt) (lps_fn (no_loop (by kernel_rfl))) (fun d dh => by kernel_rfl)

def watershedkit_SameShareRows_2_dr : Nat → DrA
  | 6 => ⟨[0, 1, 2, 4, 5, 6, 3, 7, 8], [[], [], [0, 1], [0, 1, 2], [], [], [4, 5], [4, 5, 6], [0, 1, 2, 3, 4, 5, 6, 7]], [], [], [], false⟩
  | _ => ⟨[], [], [], [], [], false⟩
noncomputable def watershedkit_SameShareRows_2_tb : List (CE CT Tryz.prog) := []
noncomputable def watershedkit_SameShareRows_2_l1 (a : ((List (DShare)) × (List (DShare)) × (Int) × Unit) × (Unit)) : Option ((((List (DShare)) × (List (DShare)) × (Int) × Unit) × (Unit)) ⊕ ((((Bool) × Unit) × (Unit)) ⊕ ((Unit) × (Unit)))) :=
  (bif (decide ((a.1.2.2.1 : Int) < (a.1.1.length : Int))) then
  (getI a.1.1 a.1.2.2.1).bind fun e1 =>
  (getI a.1.2.1 a.1.2.2.1).bind fun e2 =>
  (bif (!(decide (e1.span.lo = e2.span.lo) && (decide (e1.span.hi = e2.span.hi) && (decide ((e1.group : Int) = e2.group) && (decide ((e1.epoch : Int) = e2.epoch) && true))))) then
  some (.inr (.inl ((false, ()), ())))
  else
  some (.inl ((a.1.1, a.1.2.1, (IntKind.i64.wrap (a.1.2.2.1 + 1)), ()), ())))
  else
  some (.inr (.inr ((), ()))))
noncomputable def watershedkit_SameShareRows_2_e1 : LE CT Tryz.prog := ⟨4, [0, 1, 5], [.one (.sl 5), .one (.sl 5), .one (.int .i64)], [], [⟨.ret, [4], [.one (.bool)], []⟩, ⟨.exit 0, [], [], []⟩], watershedkit_SameShareRows_2_l1⟩
noncomputable def watershedkit_SameShareRows_2_lt : List (LE CT Tryz.prog) := [watershedkit_SameShareRows_2_e1]
theorem watershedkit_SameShareRows_2_e1_ok : LeOk watershedkit_SameShareRows_2_e1 (nthL (bodyOf Tryz.f41) 0) := fun A env h k z hk => le_ok (E := watershedkit_SameShareRows_2_e1) (orcOf_ok watershedkit_SameShareRows_2_tb) (dr := watershedkit_SameShareRows_2_dr) (lps := lpsOf watershedkit_SameShareRows_2_lt) (no_loop (by kernel_rfl)) (fun a => by kernel_rfl) env h k z hk
noncomputable def watershedkit_SameShareRows_2 (x0 : List (DShare)) (x1 : List (DShare)) : Option ((Bool) × (Unit)) :=
  (bif (decide (((x0.length : Int) : Int) ≠ (x1.length : Int))) then
  some (false, ())
  else
  (loopM watershedkit_SameShareRows_2_l1 ((x0, x1, 0, ()), ())).bind fun b1 =>
  (match b1 with
  | .inl b2 =>
  some (b2.1.1, ())
  | .inr b3 =>
  some (true, ())))
noncomputable def watershedkit_SameShareRows_2_ce : CE CT Tryz.prog where
  f := 41
  args := [.one (.sl 5), .one (.sl 5)]
  hs := []
  res := .val (.one (.bool))
  outs := []
  m := fun d dh => watershedkit_SameShareRows_2 d.1 d.2.1
  ok := ce_ok mixedP Tryz.func41 (by kernel_rfl) (orcOf_ok watershedkit_SameShareRows_2_tb) (dr := watershedkit_SameShareRows_2_dr) (lps := lpsOf watershedkit_SameShareRows_2_lt) (lps_fn (lps_of (n := 1) (by kernel_rfl) fun i hi => match i, hi with | 0, _ => lp_ok (E := watershedkit_SameShareRows_2_e1) (by kernel_rfl) watershedkit_SameShareRows_2_e1_ok)) (fun d dh => by kernel_rfl)

def watershedkit_SameShares_2_dr : Nat → DrA
  | _ => ⟨[], [], [], [], [], false⟩
noncomputable def watershedkit_SameShares_2_tb : List (CE CT Tryz.prog) := [watershedkit_SameShareRows_2_ce]
noncomputable def watershedkit_SameShares_2_lt : List (LE CT Tryz.prog) := []
noncomputable def watershedkit_SameShares_2 (x0 : DShares) (x1 : DShares) : Option ((Bool) × (Unit)) :=
  (bif (decide ((x0.epoch : Int) = x1.epoch)) then
  (watershedkit_SameShareRows_2 x0.list x1.list).bind fun r1 =>
  some (r1.1, ())
  else
  some (false, ()))
noncomputable def watershedkit_SameShares_2_ce : CE CT Tryz.prog where
  f := 14
  args := [.cod 9, .cod 9]
  hs := []
  res := .val (.one (.bool))
  outs := []
  m := fun d dh => watershedkit_SameShares_2 d.1 d.2.1
  ok := ce_ok mixedP Tryz.func14 (by kernel_rfl) (orcOf_ok watershedkit_SameShares_2_tb) (dr := watershedkit_SameShares_2_dr) (lps := lpsOf watershedkit_SameShares_2_lt) (lps_fn (no_loop (by kernel_rfl))) (fun d dh => by kernel_rfl)

def watershedkit_OverShares_dr : Nat → DrA
  | _ => ⟨[], [], [], [], [], false⟩
noncomputable def watershedkit_OverShares_tb : List (CE CT Tryz.prog) := [watershedkit_OverShareRows_v_ce]
noncomputable def watershedkit_OverShares_lt : List (LE CT Tryz.prog) := []
noncomputable def watershedkit_OverShares (x0 : (Int) × (Nat) × Unit) (h0 : List (DShare)) : Option ((Unit) × ((List (DShare)) × Unit)) :=
  (watershedkit_OverShareRows_v x0.2.1 h0).bind fun r1 =>
  some ((), (r1.2.1, ()))
noncomputable def watershedkit_OverShares_ce : CE CT Tryz.prog where
  f := 22
  args := [.agg [.int .i64, .asz 5 0]]
  hs := [.arr 35 5 true]
  res := .tup []
  outs := [.arr 35 5 true]
  m := fun d dh => watershedkit_OverShares d.1 dh.1
  ok := ce_ok mixedP Tryz.func22 (by kernel_rfl) (orcOf_ok watershedkit_OverShares_tb) (dr := watershedkit_OverShares_dr) (lps := lpsOf watershedkit_OverShares_lt) (lps_fn (no_loop (by kernel_rfl))) (fun d dh => by kernel_rfl)

def watershedkit_KeptShareRows_dr : Nat → DrA
  | 7 => ⟨[0, 1, 2, 3, 4, 5, 6, 7, 9, 10, 11, 8, 12, 13, 14, 15, 16, 17, 18, 19, 20, 21, 22, 23, 24, 26, 27, 28, 29, 25, 30, 31, 32, 33, 34], [[], [], [1], [0, 1, 2], [0, 1, 2, 3], [0, 1, 2, 3, 4], [0, 1, 2, 3, 4], [0, 1, 2, 3, 4, 5, 6], [0, 1, 2, 3, 4, 5, 6, 7], [0, 1, 2, 3, 4], [0, 1, 2, 3, 4], [0, 1, 2, 3, 4, 9, 10], [0, 1, 2, 3, 4, 9, 10, 11], [0, 1, 2, 3, 4, 5, 6, 7, 8, 9, 10, 11, 12], [0, 1, 2, 3, 4, 5, 6, 7, 8, 9, 10, 11, 12, 13], [0, 1, 2, 3, 4, 5, 6, 7, 8, 9, 10, 11, 12, 13, 14], [0, 1, 2, 3, 4, 5, 6, 7, 8, 9, 10, 11, 12, 13, 14, 15], [0, 1, 2, 3, 4, 5, 6, 7, 8, 9, 10, 11, 12, 13, 14, 15, 16], [0, 1, 2, 3, 4, 5, 6, 7, 8, 9, 10, 11, 12, 13, 14, 15, 16], [0, 1, 2, 3, 4, 5, 6, 7, 8, 9, 10, 11, 12, 13, 14, 15, 16, 18], [0, 1, 2, 3, 4, 5, 6, 7, 8, 9, 10, 11, 12, 13, 14, 15, 16, 17, 18, 19], [0, 1, 2, 3, 4, 5, 6, 7, 8, 9, 10, 11, 12, 13, 14, 15, 16, 17, 18, 19, 20], [0, 1, 2, 3, 4, 5, 6, 7, 8, 9, 10, 11, 12, 13, 14, 15, 16, 17, 18, 19, 20, 21], [0, 1, 2, 3, 4, 5, 6, 7, 8, 9, 10, 11, 12, 13, 14, 15, 16, 17, 18, 19, 20, 21], [0, 1, 2, 3, 4, 5, 6, 7, 8, 9, 10, 11, 12, 13, 14, 15, 16, 17, 18, 19, 20, 21, 22, 23], [0, 1, 2, 3, 4, 5, 6, 7, 8, 9, 10, 11, 12, 13, 14, 15, 16, 17, 18, 19, 20, 21, 22, 23, 24], [0, 1, 2, 3, 4, 5, 6, 7, 8, 9, 10, 11, 12, 13, 14, 15, 16, 17, 18, 19, 20, 21], [0, 1, 2, 3, 4, 5, 6, 7, 8, 9, 10, 11, 12, 13, 14, 15, 16, 17, 18, 19, 20, 21], [0, 1, 2, 3, 4, 5, 6, 7, 8, 9, 10, 11, 12, 13, 14, 15, 16, 17, 18, 19, 20, 21, 27], [0, 1, 2, 3, 4, 5, 6, 7, 8, 9, 10, 11, 12, 13, 14, 15, 16, 17, 18, 19, 20, 21, 26, 27, 28], [0, 1, 2, 3, 4, 5, 6, 7, 8, 9, 10, 11, 12, 13, 14, 15, 16, 17, 18, 19, 20, 21, 26, 27, 28, 29], [0, 1, 2, 3, 4, 5, 6, 7, 8, 9, 10, 11, 12, 13, 14, 15, 16, 17, 18, 19, 20, 21, 22, 23, 24, 25, 26, 27, 28, 29, 30], [0, 1, 2, 3, 4, 5, 6, 7, 8, 9, 10, 11, 12, 13, 14, 15, 16, 17, 18, 19, 20, 21, 22, 23, 24, 25, 26, 27, 28, 29, 30, 31], [0, 1, 2, 3, 4, 5, 6, 7, 8, 9, 10, 11, 12, 13, 14, 15, 16, 17, 18, 19, 20, 21, 22, 23, 24, 25, 26, 27, 28, 29, 30, 31, 32], [0, 1, 2, 3, 4, 5, 6, 7, 8, 9, 10, 11, 12, 13, 14, 15, 16, 17, 18, 19, 20, 21, 22, 23, 24, 25, 26, 27, 28, 29, 30, 31, 32, 33]], [25], [30], [], false⟩
  | _ => ⟨[], [], [], [], [], false⟩
noncomputable def watershedkit_KeptShareRows_tb : List (CE CT Tryz.prog) := [watershedkit_markShare_ce]
noncomputable def watershedkit_KeptShareRows_l1 (a : ((List (DShare)) × (List (DShare)) × (Int) × Unit) × (Unit)) : Option ((((List (DShare)) × (List (DShare)) × (Int) × Unit) × (Unit)) ⊕ ((((Bool) × Unit) × (Unit)) ⊕ ((Unit) × (Unit)))) :=
  (bif (decide ((a.1.2.2.1 : Int) < (a.1.2.1.length : Int))) then
  (bif (decide ((a.1.2.2.1 : Int) < (a.1.1.length : Int))) then
  (getI a.1.2.1 a.1.2.2.1).bind fun e1 =>
  (getI a.1.1 a.1.2.2.1).bind fun e2 =>
  (bif (!(decide (e1.span.lo = e2.span.lo) && (decide (e1.span.hi = e2.span.hi) && (decide ((e1.group : Int) = e2.group) && (decide ((e1.epoch : Int) = e2.epoch) && true))))) then
  some (.inr (.inl ((false, ()), ())))
  else
  (bif (decide (((a.1.1.length : Int) : Int) ≤ a.1.2.2.1)) then
  (getI a.1.2.1 a.1.2.2.1).bind fun e3 =>
  (watershedkit_markShare 1 (IntKind.i64.wrap (a.1.2.2.1 - (a.1.1.length : Int)))).bind fun r4 =>
  (bif (!(decide (e3.span.lo = r4.1.span.lo) && (decide (e3.span.hi = r4.1.span.hi) && (decide ((e3.group : Int) = r4.1.group) && (decide ((e3.epoch : Int) = r4.1.epoch) && true))))) then
  some (.inr (.inl ((false, ()), ())))
  else
  some (.inl ((a.1.1, a.1.2.1, (IntKind.i64.wrap (a.1.2.2.1 + 1)), ()), ())))
  else
  some (.inl ((a.1.1, a.1.2.1, (IntKind.i64.wrap (a.1.2.2.1 + 1)), ()), ()))))
  else
  (bif (decide (((a.1.1.length : Int) : Int) ≤ a.1.2.2.1)) then
  (getI a.1.2.1 a.1.2.2.1).bind fun e5 =>
  (watershedkit_markShare 1 (IntKind.i64.wrap (a.1.2.2.1 - (a.1.1.length : Int)))).bind fun r6 =>
  (bif (!(decide (e5.span.lo = r6.1.span.lo) && (decide (e5.span.hi = r6.1.span.hi) && (decide ((e5.group : Int) = r6.1.group) && (decide ((e5.epoch : Int) = r6.1.epoch) && true))))) then
  some (.inr (.inl ((false, ()), ())))
  else
  some (.inl ((a.1.1, a.1.2.1, (IntKind.i64.wrap (a.1.2.2.1 + 1)), ()), ())))
  else
  some (.inl ((a.1.1, a.1.2.1, (IntKind.i64.wrap (a.1.2.2.1 + 1)), ()), ()))))
  else
  some (.inr (.inr ((), ()))))
noncomputable def watershedkit_KeptShareRows_e1 : LE CT Tryz.prog := ⟨5, [1, 5, 6], [.one (.sl 5), .one (.sl 5), .one (.int .i64)], [], [⟨.ret, [4], [.one (.bool)], []⟩, ⟨.exit 0, [], [], []⟩], watershedkit_KeptShareRows_l1⟩
noncomputable def watershedkit_KeptShareRows_lt : List (LE CT Tryz.prog) := [watershedkit_KeptShareRows_e1]
theorem watershedkit_KeptShareRows_e1_ok : LeOk watershedkit_KeptShareRows_e1 (nthL (bodyOf Tryz.f48) 0) := fun A env h k z hk => le_ok (E := watershedkit_KeptShareRows_e1) (orcOf_ok watershedkit_KeptShareRows_tb) (dr := watershedkit_KeptShareRows_dr) (lps := lpsOf watershedkit_KeptShareRows_lt) (no_loop (by kernel_rfl)) (fun a => by kernel_rfl) env h k z hk
noncomputable def watershedkit_KeptShareRows (x0 : List (DShare) × List (DShare)) (x1 : List (DShare)) : Option ((Bool) × (Unit)) :=
  (bif (decide (((x0.1.length : Int) : Int) ≠ (x1.length : Int))) then
  some (false, ())
  else
  (if 0 ≤ (0 : Int) ∧ (0 : Int) ≤ (IntKind.i64.wrap ((x1.length : Int) + 12)) ∧ (IntKind.i64.wrap ((x1.length : Int) + 12)) ≤ ((x0.1 ++ x0.2).length : Int) then
  let y1 : List (DShare) := (((x0.1 ++ x0.2).drop ((0 : Int) : Int).toNat).take (((IntKind.i64.wrap ((x1.length : Int) + 12)) : Int).toNat - ((0 : Int) : Int).toNat))
  (loopM watershedkit_KeptShareRows_l1 ((x1, y1, 0, ()), ())).bind fun b2 =>
  (match b2 with
  | .inl b3 =>
  some (b3.1.1, ())
  | .inr b4 =>
  some (true, ()))
  else none))
noncomputable def watershedkit_KeptShareRows_ce : CE CT Tryz.prog where
  f := 48
  args := [.one (.slx 5), .one (.sl 5)]
  hs := []
  res := .val (.one (.bool))
  outs := []
  m := fun d dh => watershedkit_KeptShareRows d.1 d.2.1
  ok := ce_ok mixedP Tryz.func48 (by kernel_rfl) (orcOf_ok watershedkit_KeptShareRows_tb) (dr := watershedkit_KeptShareRows_dr) (lps := lpsOf watershedkit_KeptShareRows_lt) (lps_fn (lps_of (n := 1) (by kernel_rfl) fun i hi => match i, hi with | 0, _ => lp_ok (E := watershedkit_KeptShareRows_e1) (by kernel_rfl) watershedkit_KeptShareRows_e1_ok)) (fun d dh => by kernel_rfl)

def watershedkit_KeptShares_dr : Nat → DrA
  | _ => ⟨[], [], [], [], [], false⟩
noncomputable def watershedkit_KeptShares_tb : List (CE CT Tryz.prog) := [watershedkit_SameShares_2_ce, watershedkit_KeptShareRows_ce]
noncomputable def watershedkit_KeptShares_lt : List (LE CT Tryz.prog) := []
noncomputable def watershedkit_KeptShares (x0 : (Int) × (List (DShare) × List (DShare)) × Unit) (x1 : DShares) : Option ((Bool) × (Unit)) :=
  (watershedkit_SameShares_2 (⟨x0.1, x0.2.1.1⟩ : DShares) x1).bind fun r1 =>
  (bif r1.1 then
  (watershedkit_KeptShareRows (x0.2.1.1, x0.2.1.2) x1.list).bind fun r2 =>
  some (r2.1, ())
  else
  some (false, ()))
noncomputable def watershedkit_KeptShares_ce : CE CT Tryz.prog where
  f := 23
  args := [.agg [.int .i64, .slx 5], .cod 9]
  hs := []
  res := .val (.one (.bool))
  outs := []
  m := fun d dh => watershedkit_KeptShares d.1 d.2.1
  ok := ce_ok mixedP Tryz.func23 (by kernel_rfl) (orcOf_ok watershedkit_KeptShares_tb) (dr := watershedkit_KeptShares_dr) (lps := lpsOf watershedkit_KeptShares_lt) (lps_fn (no_loop (by kernel_rfl))) (fun d dh => by kernel_rfl)
end Go.Proofs.YtnmimignbgdfgaaGreat
