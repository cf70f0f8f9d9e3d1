/- Models, by program. -/
import Derived.Test.YtlmmpfbdgiokmaaIn
import Derived.Test.YtlmmpfbdgiokmaaOa
import Derived.Test.YtlmmpfbdgiokmaaTw
import Derived.Test.YtlmmpfbdgiokmaaWr
import Derived.Test.YtlmmpfbdgiokmaaSl
import Derived.Test.YtlmmpfbdgiokmaaFx
import Derived.Test.YtlmmpfbdgiokmaaUn
import Derived.Test.YtlmmpfbdgiokmaaFt
namespace Go.Proofs.Ytlmmpfbdgiokmaa
open Go.RowKit
set_option maxRecDepth 100000
set_option linter.unusedVariables false
noncomputable def appendSeq (h0 : List (List UInt8)) : Option ((Nat × Nat) × ((List (List UInt8)) × (List (List UInt8)) × Unit)) :=
  if h0.length ≤ 8796093022208 then some ((0, h0.length), (h0, h0, ())) else none
noncomputable def appendSeq_ce : CE CT Try.prog where
  f := 89
  args := [.one .nil, .one (.clo 81 [0])]
  hs := [.cobj 59 4]
  res := .val (.one (.asu 2 1))
  outs := [.cobj 59 4, .arr 9 2 true]
  m := fun d dh => appendSeq dh.1
  ok := fun d dh r hr => by
    unfold appendSeq at hr
    split at hr
    · rename_i hc
      injection hr with hr
      subst hr
      by_cases h0 : dh.1 = []
      · obtain ⟨xs, u⟩ := dh
        dsimp only at h0
        subst h0
        exact appendSeq_tr0
      · exact appendSeq_tr dh.1 (fun h => h0 (List.eq_nil_of_length_eq_zero h)) hc
    · cases hr

theorem sortT_cells {N : Nat} {ρ : Nat → AV} : ∀ {xs : List (List UInt8)} {cells : List AV}, SVs CT N ρ (xs.flatMap (CT.enc 2)) cells → cells.map AV.val = xs.map Go.Proofs.encStr
  | [], cells, h => by rw [SVs_nil.1 h]; rfl
  | x :: xs, cells, h => by
    change SVs CT N ρ (.str x :: xs.flatMap (CT.enc 2)) cells at h
    obtain ⟨a, bs, rfl, h1, h2⟩ := h.to
    rw [sv_str.1 h1, List.map_cons, sortT_cells h2, AV.val_raw]
    rfl
theorem sortT_svs {N : Nat} {ρ : Nat → AV} : ∀ (xs : List (List UInt8)), SVs CT N ρ (xs.flatMap (CT.enc 2)) (xs.map fun d => AV.raw (Go.Proofs.encStr d))
  | [] => .none
  | x :: xs => by
    change SVs CT N ρ (.str x :: xs.flatMap (CT.enc 2)) (AV.raw (Go.Proofs.encStr x) :: xs.map fun d => AV.raw (Go.Proofs.encStr d))
    exact .cons (sv_str.2 rfl) (sortT_svs xs)
noncomputable def sortT (x0 : Nat × Nat) (h0 : List (List UInt8)) : Option (Unit × ((List (List UInt8)) × Unit)) :=
  if x0.1 = 0 ∧ x0.2 = h0.length ∧ h0.length < 4611686018427387904 then some ((), (h0.mergeSort (fun x y => decide (x ≤ y)), ())) else none
noncomputable def sortT_ce : CE CT Try.prog where
  f := 80
  args := [.one (.asu 2 0)]
  hs := [.arr 9 2 true]
  res := .tup []
  outs := [.arr 9 2 true]
  m := fun d dh => sortT d.1 dh.1
  ok := fun d dh r hr => by
    obtain ⟨⟨lo, n⟩, u⟩ := d
    obtain ⟨xs, u2⟩ := dh
    unfold sortT at hr
    split at hr
    · rename_i hc
      injection hr with hr
      subst hr
      obtain ⟨rfl, rfl, hc⟩ := hc
      dsimp only at hc
      exact sortedA_tr Go.Proofs.encStr xs xs (List.mergeSort (α := List UInt8) xs fun x y => decide (x ≤ y)) true rfl rfl (fun N ρ cs h => sortT_cells h) (List.mergeSort (α := List UInt8) xs fun x y => decide (x ≤ y)) (List.length_mergeSort (α := List UInt8) xs) (fun N ρ => sortT_svs _) (by kernel_rfl) rfl (fun h => by subst h; exact List.mergeSort_nil)
        (fun blk cap w h1 h2 => Try.slices_Sort_string blk 0 cap xs w h1 h2 hc) (fun p cap w => Try.slices_Sort_string_none p cap w)
    · cases hr

noncomputable def cmpstr (x y : List UInt8) : Option (Int × Unit) := some (Lib.compareBytes x y, ())
noncomputable def cmpstr_ce : CE CT Try.prog where
  f := 106
  args := [.one .str, .one .str]
  hs := []
  res := .val (.one (.int .i64))
  outs := []
  m := fun d dh => cmpstr d.1 d.2.1
  ok := fun d dh r hr => by
    unfold cmpstr at hr
    injection hr with hr
    subst hr
    exact cmpstr_tr Try.func106 (by kernel_rfl) (by kernel_rfl) (by kernel_rfl) (by kernel_rfl)

noncomputable def insert (n : Nat) (i : Int) (m : Nat × Nat × Nat) (xs ys : List (DRow)) : Option (Nat × (Unit × Unit × List (DRow) × Unit)) :=
  if InsertOk n i m.1 m.2.1 m.2.2 xs ys then some (n + m.2.1, ((), (), xs.take i.toNat ++ ys ++ xs.drop i.toNat, ())) else none
noncomputable def insert_ce : CE CT Try.prog where
  f := 65
  args := [.one (.asz 3 0), .one (.int .i64), .one (.as 3 1)]
  hs := [.arr 32 3 true, .arr 32 3 true]
  res := .val (.one (.asz 3 2))
  outs := [.dead, .dead, .arr 32 3 false]
  m := fun d dh => insert d.1 d.2.1 d.2.2.1 dh.1 dh.2.1
  ok := fun d dh r hr => by
    unfold insert at hr
    split at hr
    · rename_i hc
      injection hr with hr
      subst hr
      exact insert_tr hc
    · cases hr

noncomputable def delete (n : Nat) (i j : Int) (xs : List (DRow)) : Option (Nat × (Unit × List (DRow) × Unit)) :=
  if DeleteOk n i j xs then some (n - (j.toNat - i.toNat), ((), xs.take i.toNat ++ xs.drop j.toNat, ())) else none
noncomputable def delete_ce : CE CT Try.prog where
  f := 54
  args := [.one (.asz 3 0), .one (.int .i64), .one (.int .i64)]
  hs := [.arr 32 3 true]
  res := .val (.one (.asz 3 1))
  outs := [.dead, .arr 32 3 false]
  m := fun d dh => delete d.1 d.2.1 d.2.2.1 dh.1
  ok := fun d dh r hr => by
    unfold delete at hr
    split at hr
    · rename_i hc
      injection hr with hr
      subst hr
      exact delete_tr hc
    · cases hr

def watershedkit_LinesOf_dr : Nat → DrA
  | 5 => ⟨[0, 1, 2, 3, 4, 5, 10, 11, 12, 13, 6, 7, 8, 9, 14, 15, 16, 17, 18], [[], [0], [], [], [2, 3], [2, 3, 4], [2, 3, 4, 5], [2, 3, 4, 5, 6], [2, 3, 4, 5, 6, 7], [0, 1, 2, 3, 4, 5, 6, 7, 8], [], [], [10, 11], [10, 11, 12], [10, 11, 12, 13], [10, 11, 12, 13, 14], [10, 11, 12, 13, 14, 15], [0, 1, 2, 3, 4, 5, 6, 7, 8, 9, 10, 11, 12, 13, 14, 15, 16], [0, 1, 2, 3, 4, 5, 6, 7, 8, 9, 10, 11, 12, 13, 14, 15, 16, 17]], [], [], [], false, []⟩
  | _ => ⟨[], [], [], [], [], false, []⟩
noncomputable def watershedkit_LinesOf_tb : List (CE CT Try.prog) := []
noncomputable def watershedkit_LinesOf_l1 (a : ((List (DRow)) × (Int) × (Int) × (Int) × Unit) × (Unit)) : Option ((((List (DRow)) × (Int) × (Int) × (Int) × Unit) × (Unit)) ⊕ ((((Int) × Unit) × (Unit)))) :=
  (bif (decide ((a.1.2.2.2.1 : Int) < (a.1.1.length : Int))) then
  (bif (decide ((a.1.2.2.1 : Int) ≤ a.1.2.1)) then
  (getI a.1.1 a.1.2.2.2.1).bind fun e1 =>
  (getI a.1.1 a.1.2.2.2.1).bind fun e2 =>
  let y3 : Int := (IntKind.i64.wrap ((IntKind.i64.wrap ((IntKind.i64.wrap (a.1.2.2.1 + 1)) + (IntKind.i64.wrap (((e1.key.length : Int) : Int).tdiv 8)))) + (IntKind.i64.wrap (((e2.value.length : Int) : Int).tdiv 8))))
  some (.inl ((a.1.1, a.1.2.1, y3, (IntKind.i64.wrap (a.1.2.2.2.1 + 1)), ()), ()))
  else
  some (.inr ((a.1.2.2.1, ()), ())))
  else
  some (.inr ((a.1.2.2.1, ()), ())))
noncomputable def watershedkit_LinesOf_e1 : LE CT Try.prog := ⟨3, [0, 1, 5, 6], [.one (.sl 3), .one (.int .i64), .one (.int .i64), .one (.int .i64)], [], [⟨.exit 0, [5], [.one (.int .i64)], []⟩], watershedkit_LinesOf_l1⟩
noncomputable def watershedkit_LinesOf_lt : List (LE CT Try.prog) := [watershedkit_LinesOf_e1]
theorem watershedkit_LinesOf_e1_ok : LeOk watershedkit_LinesOf_e1 (nthL (bodyOf Try.f7) 0) := fun A env h k z hk => le_ok (E := watershedkit_LinesOf_e1) (orcOf_ok watershedkit_LinesOf_tb) (dr := watershedkit_LinesOf_dr) (lps := lpsOf watershedkit_LinesOf_lt) (no_loop (by kernel_rfl)) (fun a => by kernel_rfl) env h k z hk
noncomputable def watershedkit_LinesOf (x0 : List (DRow)) (x1 : Int) : Option ((Int) × (Unit)) :=
  (loopM watershedkit_LinesOf_l1 ((x0, x1, 0, 0, ()), ())).bind fun b1 =>
  some (b1.1.1, ())
noncomputable def watershedkit_LinesOf_ce : CE CT Try.prog where
  f := 7
  args := [.one (.sl 3), .one (.int .i64)]
  hs := []
  res := .val (.one (.int .i64))
  outs := []
  m := fun d dh => watershedkit_LinesOf d.1 d.2.1
  ok := ce_ok mixedP Try.func7 (by kernel_rfl) (orcOf_ok watershedkit_LinesOf_tb) (dr := watershedkit_LinesOf_dr) (lps := lpsOf watershedkit_LinesOf_lt) (lps_fn (lps_of (n := 1) (by kernel_rfl) fun i hi => match i, hi with | 0, _ => lp_ok (E := watershedkit_LinesOf_e1) (by kernel_rfl) watershedkit_LinesOf_e1_ok)) (fun d dh => by kernel_rfl)

def rows_New_dr : Nat → DrA
  | _ => ⟨[], [], [], [], [], false, []⟩
noncomputable def rows_New_tb : List (CE CT Try.prog) := []
noncomputable def rows_New_lt : List (LE CT Try.prog) := []
noncomputable def rows_New  : Option ((Unit) × (((Nat) × (Bool) × Unit) × (List (DRow)) × Unit)) :=
  some ((), ((0, true, ()), [], ()))
noncomputable def rows_New_ce : CE CT Try.prog where
  f := 8
  args := []
  hs := []
  res := .val (.one (.ptr 0 0))
  outs := [.obj 73 [.asz 3 1, .bool], .arr 32 3 false]
  m := fun d dh => rows_New
  ok := ce_ok mixedP Try.func8 (by kernel_rfl) (orcOf_ok rows_New_tb) (dr := rows_New_dr) (lps := lpsOf rows_New_lt) (lps_fn (no_loop (by kernel_rfl))) (fun d dh => by kernel_rfl)

def rows_known_dr : Nat → DrA
  | _ => ⟨[], [], [], [], [], false, []⟩
noncomputable def rows_known_tb : List (CE CT Try.prog) := []
noncomputable def rows_known_lt : List (LE CT Try.prog) := []
noncomputable def rows_known (h0 : (Nat) × (Bool) × Unit) (h1 : List (DRow)) : Option ((Bool) × (((Nat) × (Bool) × Unit) × (List (DRow)) × Unit)) :=
  some (h0.2.1, ((h0.1, h0.2.1, ()), h1, ()))
noncomputable def rows_known_ce : CE CT Try.prog where
  f := 31
  args := [.one (.ptr 0 0)]
  hs := [.obj 73 [.asz 3 1, .bool], .arr 32 3 true]
  res := .val (.one (.bool))
  outs := [.obj 73 [.asz 3 1, .bool], .arr 32 3 true]
  m := fun d dh => rows_known dh.1 dh.2.1
  ok := ce_ok mixedP Try.func31 (by kernel_rfl) (orcOf_ok rows_known_tb) (dr := rows_known_dr) (lps := lpsOf rows_known_lt) (lps_fn (no_loop (by kernel_rfl))) (fun d dh => by kernel_rfl)

def span_Key_dr : Nat → DrA
  | _ => ⟨[], [], [], [], [], false, []⟩
noncomputable def span_Key_tb : List (CE CT Try.prog) := []
noncomputable def span_Key_l1 (a : ((List UInt8) × (Int) × (Int) × Unit) × (Unit)) : Option ((((List UInt8) × (Int) × (Int) × Unit) × (Unit)) ⊕ ((((Bool) × Unit) × (Unit)) ⊕ ((Unit) × (Unit)))) :=
  (bif (decide ((a.1.2.2.1 : Int) < a.1.2.1)) then
  (getI a.1.1 a.1.2.2.1).bind fun e1 =>
  (bif (decide ((97 : Int) ≤ (e1.toNat : Int))) then
  (bif (decide (((e1.toNat : Int) : Int) ≤ 122)) then
  some (.inl ((a.1.1, a.1.2.1, (IntKind.i64.wrap (a.1.2.2.1 + 1)), ()), ()))
  else
  (bif (decide ((48 : Int) ≤ (e1.toNat : Int))) then
  (bif (!(decide (((e1.toNat : Int) : Int) ≤ 57))) then
  some (.inr (.inl ((false, ()), ())))
  else
  some (.inl ((a.1.1, a.1.2.1, (IntKind.i64.wrap (a.1.2.2.1 + 1)), ()), ())))
  else
  some (.inr (.inl ((false, ()), ())))))
  else
  (bif (decide ((48 : Int) ≤ (e1.toNat : Int))) then
  (bif (!(decide (((e1.toNat : Int) : Int) ≤ 57))) then
  some (.inr (.inl ((false, ()), ())))
  else
  some (.inl ((a.1.1, a.1.2.1, (IntKind.i64.wrap (a.1.2.2.1 + 1)), ()), ())))
  else
  some (.inr (.inl ((false, ()), ())))))
  else
  some (.inr (.inr ((), ()))))
noncomputable def span_Key_e1 : LE CT Try.prog := ⟨4, [0, 13, 14], [.one (.str), .one (.int .i64), .one (.int .i64)], [], [⟨.ret, [2], [.one (.bool)], []⟩, ⟨.exit 0, [], [], []⟩], span_Key_l1⟩
noncomputable def span_Key_lt : List (LE CT Try.prog) := [span_Key_e1]
theorem span_Key_e1_ok : LeOk span_Key_e1 (nthL (bodyOf Try.f61) 0) := fun A env h k z hk => le_ok (E := span_Key_e1) (orcOf_ok span_Key_tb) (dr := span_Key_dr) (lps := lpsOf span_Key_lt) (no_loop (by kernel_rfl)) (fun a => by kernel_rfl) env h k z hk
noncomputable def span_Key (x0 : List UInt8) : Option ((Bool) × (Unit)) :=
  (bif (decide (x0 = ([] : List UInt8))) then
  some (false, ())
  else
  (bif (decide ((20 : Int) < (x0.length : Int))) then
  some (false, ())
  else
  (loopM span_Key_l1 ((x0, (x0.length : Int), 0, ()), ())).bind fun b1 =>
  (match b1 with
  | .inl b2 =>
  some (b2.1.1, ())
  | .inr b3 =>
  some (true, ()))))
noncomputable def span_Key_ce : CE CT Try.prog where
  f := 61
  args := [.one (.str)]
  hs := []
  res := .val (.one (.bool))
  outs := []
  m := fun d dh => span_Key d.1
  ok := ce_ok mixedP Try.func61 (by kernel_rfl) (orcOf_ok span_Key_tb) (dr := span_Key_dr) (lps := lpsOf span_Key_lt) (lps_fn (lps_of (n := 1) (by kernel_rfl) fun i hi => match i, hi with | 0, _ => lp_ok (E := span_Key_e1) (by kernel_rfl) span_Key_e1_ok)) (fun d dh => by kernel_rfl)

def rows_right_dr : Nat → DrA
  | _ => ⟨[], [], [], [], [], false, []⟩
noncomputable def rows_right_tb : List (CE CT Try.prog) := [span_Key_ce]
noncomputable def rows_right_lt : List (LE CT Try.prog) := []
noncomputable def rows_right (x0 : DRow) : Option ((Bool) × (Unit)) :=
  (span_Key x0.key).bind fun r1 =>
  (bif r1.1 then
  some ((decide (((x0.value.length : Int) : Int) ≤ 20)), ())
  else
  some (false, ()))
noncomputable def rows_right_ce : CE CT Try.prog where
  f := 34
  args := [.cod 3]
  hs := []
  res := .val (.one (.bool))
  outs := []
  m := fun d dh => rows_right d.1
  ok := ce_ok mixedP Try.func34 (by kernel_rfl) (orcOf_ok rows_right_tb) (dr := rows_right_dr) (lps := lpsOf rows_right_lt) (lps_fn (no_loop (by kernel_rfl))) (fun d dh => by kernel_rfl)

def rows_Put1_dr : Nat → DrA
  | _ => ⟨[], [], [], [], [], false, []⟩
noncomputable def rows_Put1_tb : List (CE CT Try.prog) := [rows_right_ce]
noncomputable def rows_Put1_lt : List (LE CT Try.prog) := []
noncomputable def rows_Put1 (x0 : DRow) : Option ((Bool) × (Unit)) :=
  (rows_right x0).bind fun r1 =>
  some ((!r1.1), ())
noncomputable def rows_Put1_ce : CE CT Try.prog where
  f := 33
  args := [.cod 3]
  hs := []
  res := .val (.one (.bool))
  outs := []
  m := fun d dh => rows_Put1 d.1
  ok := ce_ok mixedP Try.func33 (by kernel_rfl) (orcOf_ok rows_Put1_tb) (dr := rows_Put1_dr) (lps := lpsOf rows_Put1_lt) (lps_fn (no_loop (by kernel_rfl))) (fun d dh => by kernel_rfl)

def slices_IndexFunc_dr : Nat → DrA
  | _ => ⟨[], [], [], [], [], false, []⟩
noncomputable def slices_IndexFunc_tb : List (CE CT Try.prog) := [rows_Put1_ce]
noncomputable def slices_IndexFunc_l1 (a : ((List (DRow)) × (Unit) × (Int) × (Int) × Unit) × (Unit)) : Option ((((List (DRow)) × (Unit) × (Int) × (Int) × Unit) × (Unit)) ⊕ ((((Int) × Unit) × (Unit)) ⊕ ((Unit) × (Unit)))) :=
  (bif (decide ((a.1.2.2.2.1 : Int) < a.1.2.2.1)) then
  (getI a.1.1 a.1.2.2.2.1).bind fun e1 =>
  (rows_Put1 e1).bind fun r2 =>
  (bif r2.1 then
  some (.inr (.inl ((a.1.2.2.2.1, ()), ())))
  else
  some (.inl ((a.1.1, (), a.1.2.2.1, (IntKind.i64.wrap (a.1.2.2.2.1 + 1)), ()), ())))
  else
  some (.inr (.inr ((), ()))))
noncomputable def slices_IndexFunc_e1 : LE CT Try.prog := ⟨2, [0, 1, 7, 8], [.one (.sl 3), .one (.fn 33), .one (.int .i64), .one (.int .i64)], [], [⟨.ret, [4], [.one (.int .i64)], []⟩, ⟨.exit 0, [], [], []⟩], slices_IndexFunc_l1⟩
noncomputable def slices_IndexFunc_lt : List (LE CT Try.prog) := [slices_IndexFunc_e1]
theorem slices_IndexFunc_e1_ok : LeOk slices_IndexFunc_e1 (nthL (bodyOf Try.f64) 0) := fun A env h k z hk => le_ok (E := slices_IndexFunc_e1) (orcOf_ok slices_IndexFunc_tb) (dr := slices_IndexFunc_dr) (lps := lpsOf slices_IndexFunc_lt) (no_loop (by kernel_rfl)) (fun a => by kernel_rfl) env h k z hk
noncomputable def slices_IndexFunc (x0 : List (DRow)) : Option ((Int) × (Unit)) :=
  (loopM slices_IndexFunc_l1 ((x0, (), (x0.length : Int), 0, ()), ())).bind fun b1 =>
  (match b1 with
  | .inl b2 =>
  some (b2.1.1, ())
  | .inr b3 =>
  some ((-1), ()))
noncomputable def slices_IndexFunc_ce : CE CT Try.prog where
  f := 64
  args := [.one (.sl 3), .one (.fn 33)]
  hs := []
  res := .val (.one (.int .i64))
  outs := []
  m := fun d dh => slices_IndexFunc d.1
  ok := ce_ok mixedP Try.func64 (by kernel_rfl) (orcOf_ok slices_IndexFunc_tb) (dr := slices_IndexFunc_dr) (lps := lpsOf slices_IndexFunc_lt) (lps_fn (lps_of (n := 1) (by kernel_rfl) fun i hi => match i, hi with | 0, _ => lp_ok (E := slices_IndexFunc_e1) (by kernel_rfl) slices_IndexFunc_e1_ok)) (fun d dh => by kernel_rfl)

def slices_ContainsFunc_dr : Nat → DrA
  | _ => ⟨[], [], [], [], [], false, []⟩
noncomputable def slices_ContainsFunc_tb : List (CE CT Try.prog) := [slices_IndexFunc_ce]
noncomputable def slices_ContainsFunc_lt : List (LE CT Try.prog) := []
noncomputable def slices_ContainsFunc (x0 : List (DRow)) : Option ((Bool) × (Unit)) :=
  (slices_IndexFunc x0).bind fun r1 =>
  some ((decide ((0 : Int) ≤ r1.1)), ())
noncomputable def slices_ContainsFunc_ce : CE CT Try.prog where
  f := 32
  args := [.one (.sl 3), .one (.fn 33)]
  hs := []
  res := .val (.one (.bool))
  outs := []
  m := fun d dh => slices_ContainsFunc d.1
  ok := ce_ok mixedP Try.func32 (by kernel_rfl) (orcOf_ok slices_ContainsFunc_tb) (dr := slices_ContainsFunc_dr) (lps := lpsOf slices_ContainsFunc_lt) (lps_fn (no_loop (by kernel_rfl))) (fun d dh => by kernel_rfl)

noncomputable def cloneEz35 (x0 : Nat) (h0 : List (DRow)) : Option (Nat × (List (DRow) × List (DRow) × Unit)) :=
  if x0 ≤ h0.length ∧ (h0.take x0).length ≤ 140737488355328 ∧ (h0.take x0).length * 32 ≤ 140737488355328 then some ((h0.take x0).length, (h0, (h0.take x0), ())) else none
noncomputable def cloneEz35_ce : CE CT Try.prog where
  f := 35
  args := [.one (.asz 3 0)]
  hs := [.arr 32 3 true]
  res := .val (.one (.asz 3 1))
  outs := [.arr 32 3 true, .arr 32 3 false]
  m := fun d dh => cloneEz35 d.1 dh.1
  ok := fun d dh r hr => by
    unfold cloneEz35 at hr
    split at hr
    · rename_i hc
      injection hr with hr
      subst hr
      have hroom := hc.2
      exact Tr.lendArr (fun x => rfl) (U0 := fun _ => True) (Tr.kp0 (cloneE_tr mixedP Try.func35 (by kernel_rfl) rfl rfl (zv := .agg #[.string ⟨#[]⟩, .string ⟨#[]⟩]) (he := by kernel_rfl) (hsz := by kernel_rfl) (hz := by kernel_rfl) (hby := by kernel_rfl) rfl rfl (zt := ((⟨([] : List UInt8), ([] : List UInt8)⟩ : DRow) : DRow)) (dh.1.take d.1) (by kernel_rfl) hroom)) (lend_as (Nat.le_trans (Nat.le_of_eq (Nat.zero_add _)) hc.1)) rfl
    · cases hr

def bytealg_CompareString_dr : Nat → DrA
  | _ => ⟨[], [], [], [], [], false, []⟩
noncomputable def bytealg_CompareString_tb : List (CE CT Try.prog) := [cmpstr_ce]
noncomputable def bytealg_CompareString_lt : List (LE CT Try.prog) := []
noncomputable def bytealg_CompareString (x0 : List UInt8) (x1 : List UInt8) : Option ((Int) × (Unit)) :=
  (cmpstr x0 x1).bind fun r1 =>
  some (r1.1, ())
noncomputable def bytealg_CompareString_ce : CE CT Try.prog where
  f := 92
  args := [.one (.str), .one (.str)]
  hs := []
  res := .val (.one (.int .i64))
  outs := []
  m := fun d dh => bytealg_CompareString d.1 d.2.1
  ok := ce_ok mixedP Try.func92 (by kernel_rfl) (orcOf_ok bytealg_CompareString_tb) (dr := bytealg_CompareString_dr) (lps := lpsOf bytealg_CompareString_lt) (lps_fn (no_loop (by kernel_rfl))) (fun d dh => by kernel_rfl)

def strings_Compare_dr : Nat → DrA
  | _ => ⟨[], [], [], [], [], false, []⟩
noncomputable def strings_Compare_tb : List (CE CT Try.prog) := [bytealg_CompareString_ce]
noncomputable def strings_Compare_lt : List (LE CT Try.prog) := []
noncomputable def strings_Compare (x0 : List UInt8) (x1 : List UInt8) : Option ((Int) × (Unit)) :=
  (bytealg_CompareString x0 x1).bind fun r1 =>
  some (r1.1, ())
noncomputable def strings_Compare_ce : CE CT Try.prog where
  f := 84
  args := [.one (.str), .one (.str)]
  hs := []
  res := .val (.one (.int .i64))
  outs := []
  m := fun d dh => strings_Compare d.1 d.2.1
  ok := ce_ok mixedP Try.func84 (by kernel_rfl) (orcOf_ok strings_Compare_tb) (dr := strings_Compare_dr) (lps := lpsOf strings_Compare_lt) (lps_fn (no_loop (by kernel_rfl))) (fun d dh => by kernel_rfl)

def rows_at1_dr : Nat → DrA
  | _ => ⟨[], [], [], [], [], false, []⟩
noncomputable def rows_at1_tb : List (CE CT Try.prog) := [strings_Compare_ce]
noncomputable def rows_at1_lt : List (LE CT Try.prog) := []
noncomputable def rows_at1 (x0 : DRow) (x1 : List UInt8) : Option ((Int) × (Unit)) :=
  (strings_Compare x0.key x1).bind fun r1 =>
  some (r1.1, ())
noncomputable def rows_at1_ce : CE CT Try.prog where
  f := 83
  args := [.cod 3, .one (.str)]
  hs := []
  res := .val (.one (.int .i64))
  outs := []
  m := fun d dh => rows_at1 d.1 d.2.1
  ok := ce_ok mixedP Try.func83 (by kernel_rfl) (orcOf_ok rows_at1_tb) (dr := rows_at1_dr) (lps := lpsOf rows_at1_lt) (lps_fn (no_loop (by kernel_rfl))) (fun d dh => by kernel_rfl)

def slices_BinarySearchFunc_dr : Nat → DrA
  | _ => ⟨[], [], [], [], [], false, []⟩
noncomputable def slices_BinarySearchFunc_tb : List (CE CT Try.prog) := [rows_at1_ce]
noncomputable def slices_BinarySearchFunc_l1 (a : ((Nat) × (List UInt8) × (Unit) × (Int) × (Int) × (Int) × Unit) × ((List (DRow)) × Unit)) : Option ((((Nat) × (List UInt8) × (Unit) × (Int) × (Int) × (Int) × Unit) × ((List (DRow)) × Unit)) ⊕ ((((Nat) × (List UInt8) × (Unit) × (Int) × (Int) × Unit) × ((List (DRow)) × Unit)))) :=
  (bif (decide ((a.1.2.2.2.2.1 : Int) < a.1.2.2.2.2.2.1)) then
  let y1 : Int := (IntKind.i64.wrap (((IntKind.u64.wrap (IntKind.i64.wrap (a.1.2.2.2.2.1 + a.1.2.2.2.2.2.1))) : Int).fdiv (2 ^ min (1 : Int).toNat (IntKind.u64.bits))))
  (if 0 ≤ (y1 : Int) ∧ (y1 : Int) < ((a.1.1 : Nat) : Int) then
  (a.2.1[(0 + (y1 : Int).toNat)]?).bind fun e2 =>
  (rows_at1 e2 a.1.2.1).bind fun r3 =>
  (bif (decide ((r3.1 : Int) < 0)) then
  some (.inl ((a.1.1, a.1.2.1, (), a.1.2.2.2.1, (IntKind.i64.wrap (y1 + 1)), a.1.2.2.2.2.2.1, ()), (a.2.1, ())))
  else
  some (.inl ((a.1.1, a.1.2.1, (), a.1.2.2.2.1, a.1.2.2.2.2.1, y1, ()), (a.2.1, ()))))
  else none)
  else
  some (.inr ((a.1.1, a.1.2.1, (), a.1.2.2.2.1, a.1.2.2.2.2.1, ()), (a.2.1, ()))))
noncomputable def slices_BinarySearchFunc_e1 : LE CT Try.prog := ⟨3, [0, 1, 2, 8, 9, 10], [.one (.asz 3 0), .one (.str), .one (.fn 83), .one (.int .i64), .one (.int .i64), .one (.int .i64)], [.arr 32 3 true], [⟨.exit 0, [0, 1, 2, 8, 9], [.one (.asz 3 0), .one (.str), .one (.fn 83), .one (.int .i64), .one (.int .i64)], [.arr 32 3 true]⟩], slices_BinarySearchFunc_l1⟩
noncomputable def slices_BinarySearchFunc_lt : List (LE CT Try.prog) := [slices_BinarySearchFunc_e1]
theorem slices_BinarySearchFunc_e1_ok : LeOk slices_BinarySearchFunc_e1 (nthL (bodyOf Try.f82) 0) := fun A env h k z hk => le_ok (E := slices_BinarySearchFunc_e1) (orcOf_ok slices_BinarySearchFunc_tb) (dr := slices_BinarySearchFunc_dr) (lps := lpsOf slices_BinarySearchFunc_lt) (no_loop (by kernel_rfl)) (fun a => by kernel_rfl) env h k z hk
noncomputable def slices_BinarySearchFunc (x0 : Nat) (x1 : List UInt8) (h0 : List (DRow)) : Option (((Int) × (Bool) × Unit) × ((List (DRow)) × Unit)) :=
  (loopM slices_BinarySearchFunc_l1 ((x0, x1, (), ((x0 : Nat) : Int), 0, ((x0 : Nat) : Int), ()), (h0, ()))).bind fun b1 =>
  (bif (decide ((b1.1.2.2.2.2.1 : Int) < b1.1.2.2.2.1)) then
  (if 0 ≤ (b1.1.2.2.2.2.1 : Int) ∧ (b1.1.2.2.2.2.1 : Int) < ((b1.1.1 : Nat) : Int) then
  (b1.2.1[(0 + (b1.1.2.2.2.2.1 : Int).toNat)]?).bind fun e2 =>
  (rows_at1 e2 b1.1.2.1).bind fun r3 =>
  some ((b1.1.2.2.2.2.1, (decide ((r3.1 : Int) = 0)), ()), (b1.2.1, ()))
  else none)
  else
  some ((b1.1.2.2.2.2.1, false, ()), (b1.2.1, ())))
noncomputable def slices_BinarySearchFunc_ce : CE CT Try.prog where
  f := 82
  args := [.one (.asz 3 0), .one (.str), .one (.fn 83)]
  hs := [.arr 32 3 true]
  res := .tup [.one (.int .i64), .one (.bool)]
  outs := [.arr 32 3 true]
  m := fun d dh => slices_BinarySearchFunc d.1 d.2.1 dh.1
  ok := ce_ok mixedP Try.func82 (by kernel_rfl) (orcOf_ok slices_BinarySearchFunc_tb) (dr := slices_BinarySearchFunc_dr) (lps := lpsOf slices_BinarySearchFunc_lt) (lps_fn (lps_of (n := 1) (by kernel_rfl) fun i hi => match i, hi with | 0, _ => lp_ok (E := slices_BinarySearchFunc_e1) (by kernel_rfl) slices_BinarySearchFunc_e1_ok)) (fun d dh => by kernel_rfl)

def rows_at_dr : Nat → DrA
  | _ => ⟨[], [], [], [], [], false, []⟩
noncomputable def rows_at_tb : List (CE CT Try.prog) := [slices_BinarySearchFunc_ce]
noncomputable def rows_at_lt : List (LE CT Try.prog) := []
noncomputable def rows_at (x1 : List UInt8) (h0 : (Nat) × Unit) (h1 : List (DRow)) : Option (((Int) × (Bool) × Unit) × (((Nat) × Unit) × (List (DRow)) × Unit)) :=
  (slices_BinarySearchFunc h0.1 x1 h1).bind fun r1 =>
  some ((r1.1.1, r1.1.2.1, ()), ((h0.1, ()), r1.2.1, ()))
noncomputable def rows_at_ce : CE CT Try.prog where
  f := 59
  args := [.one (.ptr 0 0), .one (.str)]
  hs := [.obj 71 [.asz 3 1], .arr 32 3 true]
  res := .tup [.one (.int .i64), .one (.bool)]
  outs := [.obj 71 [.asz 3 1], .arr 32 3 true]
  m := fun d dh => rows_at d.2.1 dh.1 dh.2.1
  ok := ce_ok mixedP Try.func59 (by kernel_rfl) (orcOf_ok rows_at_tb) (dr := rows_at_dr) (lps := lpsOf rows_at_lt) (lps_fn (no_loop (by kernel_rfl))) (fun d dh => by kernel_rfl)

def rows_put_dr : Nat → DrA
  | 3 => ⟨[0, 1, 2, 4, 3, 5, 6, 7], [[], [0], [0, 1], [0, 1, 2], [], [], [0, 1, 2, 3, 4, 5], [0, 1, 2, 3, 4, 5, 6]], [], [], [], false, []⟩
  | 4 => ⟨[0, 1, 2, 3, 5, 4, 6, 7, 8, 9, 10, 11], [[], [], [1], [1, 2], [1, 2, 3], [], [], [6], [1, 2, 3, 4, 5, 6, 7], [0, 1, 2, 3, 4, 5, 6, 7, 8], [0, 1, 2, 3, 4, 5, 6, 7, 8, 9], [0, 1, 2, 3, 4, 5, 6, 7, 8, 9, 10]], [], [], [], false, [7]⟩
  | _ => ⟨[], [], [], [], [], false, []⟩
noncomputable def rows_put_tb : List (CE CT Try.prog) := [rows_at_ce, insert_ce]
noncomputable def rows_put_lt : List (LE CT Try.prog) := []
noncomputable def rows_put (x1 : DRow) (h0 : (Nat) × Unit) (h1 : List (DRow)) : Option ((Unit) × (((Nat) × Unit) × (Unit) × (List (DRow)) × Unit)) :=
  (rows_at x1.key (h0.1, ()) h1).bind fun r1 =>
  (bif r1.1.2.1 then
  (if 0 ≤ (r1.1.1 : Int) ∧ (r1.1.1 : Int) < ((r1.2.1.1 : Nat) : Int) then
  (r1.2.2.1[(0 + (r1.1.1 : Int).toNat)]?).bind fun e2 =>
  some ((), ((r1.2.1.1, ()), (), (r1.2.2.1.set (0 + (r1.1.1 : Int).toNat) x1), ()))
  else none)
  else
  (insert r1.2.1.1 r1.1.1 (0, 1, 1) r1.2.2.1 ([x1] : List (DRow))).bind fun r3 =>
  some ((), ((r3.1, ()), (), r3.2.2.2.1, ())))
noncomputable def rows_put_ce : CE CT Try.prog where
  f := 36
  args := [.one (.ptr 0 0), .cod 3]
  hs := [.obj 71 [.asz 3 1], .arr 32 3 false]
  res := .tup []
  outs := [.obj 71 [.asz 3 2], .dead, .arr 32 3 false]
  m := fun d dh => rows_put d.2.1 dh.1 dh.2.1
  ok := ce_ok mixedP Try.func36 (by kernel_rfl) (orcOf_ok rows_put_tb) (dr := rows_put_dr) (lps := lpsOf rows_put_lt) (lps_fn (no_loop (by kernel_rfl))) (fun d dh => by kernel_rfl)

def rows_Put_dr : Nat → DrA
  | _ => ⟨[], [], [], [], [], false, []⟩
noncomputable def rows_Put_tb : List (CE CT Try.prog) := [rows_known_ce, slices_ContainsFunc_ce, cloneEz35_ce, rows_put_ce]
noncomputable def rows_Put_l1 (a : ((Unit) × (Unit) × (List (DRow)) × (Int) × (Int) × Unit) × (((Nat) × (Bool) × Unit) × ((Nat) × Unit) × (List (DRow)) × (List (DRow)) × Unit)) : Option ((((Unit) × (Unit) × (List (DRow)) × (Int) × (Int) × Unit) × (((Nat) × (Bool) × Unit) × ((Nat) × Unit) × (List (DRow)) × (List (DRow)) × Unit)) ⊕ ((((Unit) × (Unit) × Unit) × (((Nat) × (Bool) × Unit) × ((Nat) × Unit) × (Unit) × (Unit) × (List (DRow)) × (List (DRow)) × Unit)))) :=
  (bif (decide ((a.1.2.2.2.2.1 : Int) < a.1.2.2.2.1)) then
  (getI a.1.2.2.1 a.1.2.2.2.2.1).bind fun e1 =>
  (rows_put e1 (a.2.2.1.1, ()) a.2.2.2.2.1).bind fun r2 =>
  some (.inl (((), (), a.1.2.2.1, a.1.2.2.2.1, (IntKind.i64.wrap (a.1.2.2.2.2.1 + 1)), ()), ((a.2.1.1, a.2.1.2.1, ()), (r2.2.1.1, ()), a.2.2.2.1, r2.2.2.2.1, ())))
  else
  some (.inr (((), (), ()), ((a.2.1.1, a.2.1.2.1, ()), (a.2.2.1.1, ()), (), (), a.2.2.2.1, a.2.2.2.2.1, ()))))
noncomputable def rows_Put_e1 : LE CT Try.prog := ⟨7, [0, 5, 22, 23, 24], [.one (.ptr 0 0), .one (.ptr 1 0), .one (.sl 3), .one (.int .i64), .one (.int .i64)], [.obj 73 [.asz 3 2, .bool], .obj 71 [.asz 3 3], .arr 32 3 false, .arr 32 3 false], [⟨.exit 1, [0, 5], [.one (.ptr 0 0), .one (.ptr 1 0)], [.obj 73 [.asz 3 4, .bool], .obj 71 [.asz 3 5], .dead, .dead, .arr 32 3 false, .arr 32 3 false]⟩], rows_Put_l1⟩
noncomputable def rows_Put_lt : List (LE CT Try.prog) := [rows_Put_e1]
theorem rows_Put_e1_ok : LeOk rows_Put_e1 (nthL (bodyOf Try.f9) 0) := fun A env h k z hk => le_ok (E := rows_Put_e1) (orcOf_ok rows_Put_tb) (dr := rows_Put_dr) (lps := lpsOf rows_Put_lt) (no_loop (by kernel_rfl)) (fun a => by kernel_rfl) env h k z hk
noncomputable def rows_Put (x1 : List (DRow)) (h0 : (Nat) × (Bool) × Unit) (h1 : List (DRow)) : Option ((Int) × (((Nat) × (Bool) × Unit) × (Unit) × (List (DRow)) × Unit)) :=
  (rows_known (h0.1, h0.2.1, ()) h1).bind fun r1 =>
  (bif (!r1.1) then
  some (1, ((r1.2.1.1, r1.2.1.2.1, ()), (), r1.2.2.1, ()))
  else
  (slices_ContainsFunc x1).bind fun r2 =>
  (bif r2.1 then
  some (2, ((r1.2.1.1, r1.2.1.2.1, ()), (), r1.2.2.1, ()))
  else
  (cloneEz35 r1.2.1.1 r1.2.2.1).bind fun r3 =>
  (loopM rows_Put_l1 (((), (), x1, (x1.length : Int), 0, ()), ((r1.2.1.1, r1.2.1.2.1, ()), (r3.1, ()), r3.2.1, r3.2.2.1, ()))).bind fun b4 =>
  (bif (decide ((400 : Int) < ((b4.2.2.1.1 : Nat) : Int))) then
  some (8, ((b4.2.1.1, b4.2.1.2.1, ()), (), b4.2.2.2.2.2.1, ()))
  else
  some (0, ((b4.2.2.1.1, b4.2.1.2.1, ()), (), b4.2.2.2.2.2.2.1, ())))))
noncomputable def rows_Put_ce : CE CT Try.prog where
  f := 9
  args := [.one (.ptr 0 0), .one (.sl 3)]
  hs := [.obj 73 [.asz 3 1, .bool], .arr 32 3 false]
  res := .val (.one (.int .i64))
  outs := [.obj 73 [.asz 3 2, .bool], .dead, .arr 32 3 false]
  m := fun d dh => rows_Put d.2.1 dh.1 dh.2.1
  ok := ce_ok mixedP Try.func9 (by kernel_rfl) (orcOf_ok rows_Put_tb) (dr := rows_Put_dr) (lps := lpsOf rows_Put_lt) (lps_fn (lps_of (n := 1) (by kernel_rfl) fun i hi => match i, hi with | 0, _ => lp_ok (E := rows_Put_e1) (by kernel_rfl) rows_Put_e1_ok)) (fun d dh => by kernel_rfl)

def span_ends_dr : Nat → DrA
  | 1 => ⟨[0, 4, 1, 2, 3, 5, 6, 7, 8, 9], [[], [0], [0, 1], [0, 1, 2], [], [4], [4, 5], [4, 5, 6], [0, 1, 2, 3], [0, 1, 2, 3, 4, 5, 6, 7, 8]], [5], [8], [0], false, []⟩
  | _ => ⟨[], [], [], [], [], false, []⟩
noncomputable def span_ends_tb : List (CE CT Try.prog) := []
noncomputable def span_ends_lt : List (LE CT Try.prog) := []
noncomputable def span_ends (x0 : DSpan) : Option (((DLow) × (DHigh) × Unit) × (Unit)) :=
  some (((⟨(⟨x0.lo⟩ : DText)⟩ : DLow), (⟨(⟨x0.hi⟩ : DText)⟩ : DHigh), ()), ())
noncomputable def span_ends_ce : CE CT Try.prog where
  f := 60
  args := [.cod 5]
  hs := []
  res := .tup [.cod 7, .cod 8]
  outs := []
  m := fun d dh => span_ends d.1
  ok := ce_ok mixedP Try.func60 (by kernel_rfl) (orcOf_ok span_ends_tb) (dr := span_ends_dr) (lps := lpsOf span_ends_lt) (lps_fn (no_loop (by kernel_rfl))) (fun d dh => by kernel_rfl)

def span_none_dr : Nat → DrA
  | _ => ⟨[], [], [], [], [], false, []⟩
noncomputable def span_none_tb : List (CE CT Try.prog) := []
noncomputable def span_none_lt : List (LE CT Try.prog) := []
noncomputable def span_none (x0 : DText) : Option ((Bool) × (Unit)) :=
  some ((decide (x0.s = ([] : List UInt8))), ())
noncomputable def span_none_ce : CE CT Try.prog where
  f := 78
  args := [.cod 6]
  hs := []
  res := .val (.one (.bool))
  outs := []
  m := fun d dh => span_none d.1
  ok := ce_ok mixedP Try.func78 (by kernel_rfl) (orcOf_ok span_none_tb) (dr := span_none_dr) (lps := lpsOf span_none_lt) (lps_fn (no_loop (by kernel_rfl))) (fun d dh => by kernel_rfl)

def cmp_isNaN_dr : Nat → DrA
  | _ => ⟨[], [], [], [], [], false, []⟩
noncomputable def cmp_isNaN_tb : List (CE CT Try.prog) := []
noncomputable def cmp_isNaN_lt : List (LE CT Try.prog) := []
noncomputable def cmp_isNaN (x0 : List UInt8) : Option ((Bool) × (Unit)) :=
  some ((decide (x0 ≠ x0)), ())
noncomputable def cmp_isNaN_ce : CE CT Try.prog where
  f := 93
  args := [.one (.str)]
  hs := []
  res := .val (.one (.bool))
  outs := []
  m := fun d dh => cmp_isNaN d.1
  ok := ce_ok mixedP Try.func93 (by kernel_rfl) (orcOf_ok cmp_isNaN_tb) (dr := cmp_isNaN_dr) (lps := lpsOf cmp_isNaN_lt) (lps_fn (no_loop (by kernel_rfl))) (fun d dh => by kernel_rfl)

def cmp_Compare_dr : Nat → DrA
  | _ => ⟨[], [], [], [], [], false, []⟩
noncomputable def cmp_Compare_tb : List (CE CT Try.prog) := [cmp_isNaN_ce]
noncomputable def cmp_Compare_lt : List (LE CT Try.prog) := []
noncomputable def cmp_Compare (x0 : List UInt8) (x1 : List UInt8) : Option ((Int) × (Unit)) :=
  (cmp_isNaN x0).bind fun r1 =>
  (cmp_isNaN x1).bind fun r2 =>
  (bif r1.1 then
  (bif r2.1 then
  some (0, ())
  else
  some ((-1), ()))
  else
  (bif r2.1 then
  some (1, ())
  else
  (bif (decide (x0 < x1)) then
  some ((-1), ())
  else
  (bif (!(decide (x0 < x1) || decide (x0 = x1))) then
  some (1, ())
  else
  some (0, ())))))
noncomputable def cmp_Compare_ce : CE CT Try.prog where
  f := 85
  args := [.one (.str), .one (.str)]
  hs := []
  res := .val (.one (.int .i64))
  outs := []
  m := fun d dh => cmp_Compare d.1 d.2.1
  ok := ce_ok mixedP Try.func85 (by kernel_rfl) (orcOf_ok cmp_Compare_tb) (dr := cmp_Compare_dr) (lps := lpsOf cmp_Compare_lt) (lps_fn (no_loop (by kernel_rfl))) (fun d dh => by kernel_rfl)

def span_compare_dr : Nat → DrA
  | _ => ⟨[], [], [], [], [], false, []⟩
noncomputable def span_compare_tb : List (CE CT Try.prog) := [cmp_Compare_ce]
noncomputable def span_compare_lt : List (LE CT Try.prog) := []
noncomputable def span_compare (x0 : DText) (x1 : DText) : Option ((Int) × (Unit)) :=
  (cmp_Compare x0.s x1.s).bind fun r1 =>
  some (r1.1, ())
noncomputable def span_compare_ce : CE CT Try.prog where
  f := 62
  args := [.cod 6, .cod 6]
  hs := []
  res := .val (.one (.int .i64))
  outs := []
  m := fun d dh => span_compare d.1 d.2.1
  ok := ce_ok mixedP Try.func62 (by kernel_rfl) (orcOf_ok span_compare_tb) (dr := span_compare_dr) (lps := lpsOf span_compare_lt) (lps_fn (no_loop (by kernel_rfl))) (fun d dh => by kernel_rfl)

def span_above_dr : Nat → DrA
  | _ => ⟨[], [], [], [], [], false, []⟩
noncomputable def span_above_tb : List (CE CT Try.prog) := [span_none_ce, span_compare_ce]
noncomputable def span_above_lt : List (LE CT Try.prog) := []
noncomputable def span_above (x0 : DHigh) (x1 : DText) : Option ((Bool) × (Unit)) :=
  (span_none x0.text).bind fun r1 =>
  (bif r1.1 then
  some (true, ())
  else
  (span_compare x0.text x1).bind fun r2 =>
  some ((decide ((0 : Int) < r2.1)), ()))
noncomputable def span_above_ce : CE CT Try.prog where
  f := 63
  args := [.cod 8, .cod 6]
  hs := []
  res := .val (.one (.bool))
  outs := []
  m := fun d dh => span_above d.1 d.2.1
  ok := ce_ok mixedP Try.func63 (by kernel_rfl) (orcOf_ok span_above_tb) (dr := span_above_dr) (lps := lpsOf span_above_lt) (lps_fn (no_loop (by kernel_rfl))) (fun d dh => by kernel_rfl)

def span_Right_dr : Nat → DrA
  | _ => ⟨[], [], [], [], [], false, []⟩
noncomputable def span_Right_tb : List (CE CT Try.prog) := [span_ends_ce, span_none_ce, span_above_ce, span_Key_ce]
noncomputable def span_Right_lt : List (LE CT Try.prog) := []
noncomputable def span_Right (x0 : DSpan) : Option ((Bool) × (Unit)) :=
  (span_ends x0).bind fun r1 =>
  (span_none r1.1.1.text).bind fun r2 =>
  (bif r2.1 then
  (span_none r1.1.2.1.text).bind fun r3 =>
  (bif r3.1 then
  (span_above r1.1.2.1 r1.1.1.text).bind fun r4 =>
  some (r4.1, ())
  else
  (span_Key x0.hi).bind fun r5 =>
  (bif r5.1 then
  (span_above r1.1.2.1 r1.1.1.text).bind fun r6 =>
  some (r6.1, ())
  else
  some (false, ())))
  else
  (span_Key x0.lo).bind fun r7 =>
  (bif r7.1 then
  (span_none r1.1.2.1.text).bind fun r8 =>
  (bif r8.1 then
  (span_above r1.1.2.1 r1.1.1.text).bind fun r9 =>
  some (r9.1, ())
  else
  (span_Key x0.hi).bind fun r10 =>
  (bif r10.1 then
  (span_above r1.1.2.1 r1.1.1.text).bind fun r11 =>
  some (r11.1, ())
  else
  some (false, ())))
  else
  some (false, ())))
noncomputable def span_Right_ce : CE CT Try.prog where
  f := 55
  args := [.cod 5]
  hs := []
  res := .val (.one (.bool))
  outs := []
  m := fun d dh => span_Right d.1
  ok := ce_ok mixedP Try.func55 (by kernel_rfl) (orcOf_ok span_Right_tb) (dr := span_Right_dr) (lps := lpsOf span_Right_lt) (lps_fn (no_loop (by kernel_rfl))) (fun d dh => by kernel_rfl)

def rows_at_2_dr : Nat → DrA
  | _ => ⟨[], [], [], [], [], false, []⟩
noncomputable def rows_at_2_tb : List (CE CT Try.prog) := [slices_BinarySearchFunc_ce]
noncomputable def rows_at_2_lt : List (LE CT Try.prog) := []
noncomputable def rows_at_2 (x1 : List UInt8) (h0 : (Nat) × (Bool) × Unit) (h1 : List (DRow)) : Option (((Int) × (Bool) × Unit) × (((Nat) × (Bool) × Unit) × (List (DRow)) × Unit)) :=
  (slices_BinarySearchFunc h0.1 x1 h1).bind fun r1 =>
  some ((r1.1.1, r1.1.2.1, ()), ((h0.1, h0.2.1, ()), r1.2.1, ()))
noncomputable def rows_at_2_ce : CE CT Try.prog where
  f := 59
  args := [.one (.ptr 0 0), .one (.str)]
  hs := [.obj 73 [.asz 3 1, .bool], .arr 32 3 true]
  res := .tup [.one (.int .i64), .one (.bool)]
  outs := [.obj 73 [.asz 3 1, .bool], .arr 32 3 true]
  m := fun d dh => rows_at_2 d.2.1 dh.1 dh.2.1
  ok := ce_ok mixedP Try.func59 (by kernel_rfl) (orcOf_ok rows_at_2_tb) (dr := rows_at_2_dr) (lps := lpsOf rows_at_2_lt) (lps_fn (no_loop (by kernel_rfl))) (fun d dh => by kernel_rfl)

def rows_bounds_dr : Nat → DrA
  | _ => ⟨[], [], [], [], [], false, []⟩
noncomputable def rows_bounds_tb : List (CE CT Try.prog) := [span_Right_ce, rows_at_2_ce]
noncomputable def rows_bounds_lt : List (LE CT Try.prog) := []
noncomputable def rows_bounds (x1 : DSpan) (h0 : (Nat) × (Bool) × Unit) (h1 : List (DRow)) : Option (((Int) × (Int) × Unit) × (((Nat) × (Bool) × Unit) × (List (DRow)) × Unit)) :=
  (span_Right x1).bind fun r1 =>
  (bif (!r1.1) then
  some ((0, 0, ()), ((h0.1, h0.2.1, ()), h1, ()))
  else
  (rows_at_2 x1.lo (h0.1, h0.2.1, ()) h1).bind fun r2 =>
  (bif (decide (x1.hi ≠ ([] : List UInt8))) then
  (rows_at_2 x1.hi (r2.2.1.1, r2.2.1.2.1, ()) r2.2.2.1).bind fun r3 =>
  some ((r2.1.1, r3.1.1, ()), ((r3.2.1.1, r3.2.1.2.1, ()), r3.2.2.1, ()))
  else
  some ((r2.1.1, ((r2.2.1.1 : Nat) : Int), ()), ((r2.2.1.1, r2.2.1.2.1, ()), r2.2.2.1, ()))))
noncomputable def rows_bounds_ce : CE CT Try.prog where
  f := 37
  args := [.one (.ptr 0 0), .cod 5]
  hs := [.obj 73 [.asz 3 1, .bool], .arr 32 3 true]
  res := .tup [.one (.int .i64), .one (.int .i64)]
  outs := [.obj 73 [.asz 3 1, .bool], .arr 32 3 true]
  m := fun d dh => rows_bounds d.2.1 dh.1 dh.2.1
  ok := ce_ok mixedP Try.func37 (by kernel_rfl) (orcOf_ok rows_bounds_tb) (dr := rows_bounds_dr) (lps := lpsOf rows_bounds_lt) (lps_fn (no_loop (by kernel_rfl))) (fun d dh => by kernel_rfl)

noncomputable def cloneRu35 (x0 : Nat × Nat) (h0 : List (DRow)) : Option (List (DRow) × (List (DRow) × Unit × Unit)) :=
  if x0.1 + x0.2 ≤ h0.length ∧ ((h0.drop x0.1).take x0.2).length ≤ 140737488355328 ∧ ((h0.drop x0.1).take x0.2).length * 32 ≤ 140737488355328 then some (((h0.drop x0.1).take x0.2), (h0, (), ())) else none
noncomputable def cloneRu35_ce : CE CT Try.prog where
  f := 35
  args := [.one (.asu 3 0)]
  hs := [.arr 32 3 true]
  res := .val (.one (.own 3 1))
  outs := [.arr 32 3 true, .row 32 2]
  m := fun d dh => cloneRu35 d.1 dh.1
  ok := fun d dh r hr => by
    unfold cloneRu35 at hr
    split at hr
    · rename_i hc
      injection hr with hr
      subst hr
      have hroom := hc.2
      exact Tr.lendRow (fun x => rfl) rfl (U0 := fun _ => True) (clone_tr mixedP Try.func35 (by kernel_rfl) rfl rfl (zv := .agg #[.string ⟨#[]⟩, .string ⟨#[]⟩]) (he := by kernel_rfl) (hsz := by kernel_rfl) (hz := by kernel_rfl) (hby := by kernel_rfl) rfl rfl ((dh.1.drop d.1.1).take d.1.2) hroom) (lend_as (Nat.le_trans (Nat.le_of_eq rfl) hc.1)) 
    · cases hr

def rows_In_dr : Nat → DrA
  | 3 => ⟨[0, 1, 2, 3, 4, 5, 6, 7, 8, 9], [[], [0], [0, 1], [], [0, 1, 2, 3], [0, 1, 2, 3, 4], [0, 1, 2, 3, 4, 5], [0, 1, 2, 3, 4, 5], [0, 1, 2, 3, 4, 5, 6], [0, 1, 2, 3, 4, 5, 6, 7, 8]], [], [], [], false, []⟩
  | _ => ⟨[], [], [], [], [], false, []⟩
noncomputable def rows_In_tb : List (CE CT Try.prog) := [rows_known_ce, rows_bounds_ce, cloneRu35_ce]
noncomputable def rows_In_lt : List (LE CT Try.prog) := []
noncomputable def rows_In (x1 : DSpan) (h0 : (Nat) × (Bool) × Unit) (h1 : List (DRow)) : Option ((List (DRow)) × (((Nat) × (Bool) × Unit) × (List (DRow)) × (Unit) × Unit)) :=
  (rows_known (h0.1, h0.2.1, ()) h1).bind fun r1 =>
  (bif (!r1.1) then
  some ([], ((r1.2.1.1, r1.2.1.2.1, ()), r1.2.2.1, (), ()))
  else
  (rows_bounds x1 (r1.2.1.1, r1.2.1.2.1, ()) r1.2.2.1).bind fun r2 =>
  (if 0 ≤ ((r2.1.1 : Int) : Int) ∧ ((r2.1.1 : Int) : Int) ≤ (r2.1.2.1 : Int) ∧ (r2.1.2.1 : Int) ≤ ((r2.2.1.1 : Nat) : Int) ∧ (r2.1.2.1 : Int) ≤ 140737488355328 then
  (cloneRu35 ((0 + (r2.1.1 : Int).toNat), ((r2.1.2.1 : Int).toNat - (r2.1.1 : Int).toNat)) r2.2.2.1).bind fun r3 =>
  some (r3.1, ((r2.2.1.1, r2.2.1.2.1, ()), r3.2.1, (), ()))
  else none))
noncomputable def rows_In_ce : CE CT Try.prog where
  f := 11
  args := [.one (.ptr 0 0), .cod 5]
  hs := [.obj 73 [.asz 3 1, .bool], .arr 32 3 true]
  res := .val (.one (.own 3 2))
  outs := [.obj 73 [.asz 3 1, .bool], .arr 32 3 true, .row 32 2]
  m := fun d dh => rows_In d.2.1 dh.1 dh.2.1
  ok := ce_ok mixedP Try.func11 (by kernel_rfl) (orcOf_ok rows_In_tb) (dr := rows_In_dr) (lps := lpsOf rows_In_lt) (lps_fn (no_loop (by kernel_rfl))) (fun d dh => by kernel_rfl)

def rows_Take_dr : Nat → DrA
  | 3 => ⟨[0, 1, 2, 3, 4, 5, 6, 7, 8, 9], [[], [0], [0, 1], [], [0, 1, 2, 3], [0, 1, 2, 3, 4], [0, 1, 2, 3, 4, 5], [0, 1, 2, 3, 4, 5], [0, 1, 2, 3, 4, 5, 6], [0, 1, 2, 3, 4, 5, 6, 7, 8]], [], [], [], false, []⟩
  | _ => ⟨[], [], [], [], [], false, []⟩
noncomputable def rows_Take_tb : List (CE CT Try.prog) := [rows_In_ce, rows_known_ce, rows_bounds_ce, delete_ce]
noncomputable def rows_Take_lt : List (LE CT Try.prog) := []
noncomputable def rows_Take (x1 : DSpan) (h0 : (Nat) × (Bool) × Unit) (h1 : List (DRow)) : Option ((List (DRow)) × (((Nat) × (Bool) × Unit) × (Unit) × (Unit) × (List (DRow)) × Unit)) :=
  (rows_In x1 (h0.1, h0.2.1, ()) h1).bind fun r1 =>
  (rows_known (r1.2.1.1, r1.2.1.2.1, ()) r1.2.2.1).bind fun r2 =>
  (bif r2.1 then
  (rows_bounds x1 (r2.2.1.1, r2.2.1.2.1, ()) r2.2.2.1).bind fun r3 =>
  (delete r3.2.1.1 r3.1.1 r3.1.2.1 r3.2.2.1).bind fun r4 =>
  some (r1.1, ((r4.1, r3.2.1.2.1, ()), (), (), r4.2.2.1, ()))
  else
  some (r1.1, ((r2.2.1.1, r2.2.1.2.1, ()), (), (), r2.2.2.1, ())))
noncomputable def rows_Take_ce : CE CT Try.prog where
  f := 27
  args := [.one (.ptr 0 0), .cod 5]
  hs := [.obj 73 [.asz 3 1, .bool], .arr 32 3 false]
  res := .val (.one (.own 3 2))
  outs := [.obj 73 [.asz 3 3, .bool], .dead, .row 32 2, .arr 32 3 false]
  m := fun d dh => rows_Take d.2.1 dh.1 dh.2.1
  ok := ce_ok mixedP Try.func27 (by kernel_rfl) (orcOf_ok rows_Take_tb) (dr := rows_Take_dr) (lps := lpsOf rows_Take_lt) (lps_fn (no_loop (by kernel_rfl))) (fun d dh => by kernel_rfl)

def watershedkit_SameLines_dr : Nat → DrA
  | 6 => ⟨[0, 1, 2, 4, 5, 6, 3, 7, 8], [[], [], [0, 1], [0, 1, 2], [], [], [4, 5], [4, 5, 6], [0, 1, 2, 3, 4, 5, 6, 7]], [], [], [], false, []⟩
  | _ => ⟨[], [], [], [], [], false, []⟩
noncomputable def watershedkit_SameLines_tb : List (CE CT Try.prog) := []
noncomputable def watershedkit_SameLines_l1 (a : ((List (DRow)) × (List (DRow)) × (Int) × Unit) × (Unit)) : Option ((((List (DRow)) × (List (DRow)) × (Int) × Unit) × (Unit)) ⊕ ((((Bool) × Unit) × (Unit)) ⊕ ((Unit) × (Unit)))) :=
  (bif (decide ((a.1.2.2.1 : Int) < (a.1.1.length : Int))) then
  (getI a.1.1 a.1.2.2.1).bind fun e1 =>
  (getI a.1.2.1 a.1.2.2.1).bind fun e2 =>
  (bif (!(decide (e1.key = e2.key) && (decide (e1.value = e2.value) && true))) then
  some (.inr (.inl ((false, ()), ())))
  else
  some (.inl ((a.1.1, a.1.2.1, (IntKind.i64.wrap (a.1.2.2.1 + 1)), ()), ())))
  else
  some (.inr (.inr ((), ()))))
noncomputable def watershedkit_SameLines_e1 : LE CT Try.prog := ⟨4, [0, 1, 5], [.one (.sl 3), .one (.sl 3), .one (.int .i64)], [], [⟨.ret, [4], [.one (.bool)], []⟩, ⟨.exit 0, [], [], []⟩], watershedkit_SameLines_l1⟩
noncomputable def watershedkit_SameLines_lt : List (LE CT Try.prog) := [watershedkit_SameLines_e1]
theorem watershedkit_SameLines_e1_ok : LeOk watershedkit_SameLines_e1 (nthL (bodyOf Try.f13) 0) := fun A env h k z hk => le_ok (E := watershedkit_SameLines_e1) (orcOf_ok watershedkit_SameLines_tb) (dr := watershedkit_SameLines_dr) (lps := lpsOf watershedkit_SameLines_lt) (no_loop (by kernel_rfl)) (fun a => by kernel_rfl) env h k z hk
noncomputable def watershedkit_SameLines (x0 : List (DRow)) (x1 : List (DRow)) : Option ((Bool) × (Unit)) :=
  (bif (decide (((x0.length : Int) : Int) ≠ (x1.length : Int))) then
  some (false, ())
  else
  (loopM watershedkit_SameLines_l1 ((x0, x1, 0, ()), ())).bind fun b1 =>
  (match b1 with
  | .inl b2 =>
  some (b2.1.1, ())
  | .inr b3 =>
  some (true, ())))
noncomputable def watershedkit_SameLines_ce : CE CT Try.prog where
  f := 13
  args := [.one (.sl 3), .one (.sl 3)]
  hs := []
  res := .val (.one (.bool))
  outs := []
  m := fun d dh => watershedkit_SameLines d.1 d.2.1
  ok := ce_ok mixedP Try.func13 (by kernel_rfl) (orcOf_ok watershedkit_SameLines_tb) (dr := watershedkit_SameLines_dr) (lps := lpsOf watershedkit_SameLines_lt) (lps_fn (lps_of (n := 1) (by kernel_rfl) fun i hi => match i, hi with | 0, _ => lp_ok (E := watershedkit_SameLines_e1) (by kernel_rfl) watershedkit_SameLines_e1_ok)) (fun d dh => by kernel_rfl)

def rows_Many_dr : Nat → DrA
  | _ => ⟨[], [], [], [], [], false, []⟩
noncomputable def rows_Many_tb : List (CE CT Try.prog) := [rows_known_ce]
noncomputable def rows_Many_lt : List (LE CT Try.prog) := []
noncomputable def rows_Many (h0 : (Nat) × (Bool) × Unit) (h1 : List (DRow)) : Option ((Int) × (((Nat) × (Bool) × Unit) × (List (DRow)) × Unit)) :=
  (rows_known (h0.1, h0.2.1, ()) h1).bind fun r1 =>
  (bif (!r1.1) then
  some (0, ((r1.2.1.1, r1.2.1.2.1, ()), r1.2.2.1, ()))
  else
  some (((r1.2.1.1 : Nat) : Int), ((r1.2.1.1, r1.2.1.2.1, ()), r1.2.2.1, ())))
noncomputable def rows_Many_ce : CE CT Try.prog where
  f := 10
  args := [.one (.ptr 0 0)]
  hs := [.obj 73 [.asz 3 1, .bool], .arr 32 3 true]
  res := .val (.one (.int .i64))
  outs := [.obj 73 [.asz 3 1, .bool], .arr 32 3 true]
  m := fun d dh => rows_Many dh.1 dh.2.1
  ok := ce_ok mixedP Try.func10 (by kernel_rfl) (orcOf_ok rows_Many_tb) (dr := rows_Many_dr) (lps := lpsOf rows_Many_lt) (lps_fn (no_loop (by kernel_rfl))) (fun d dh => by kernel_rfl)

def watershedlaw15_awake_dr : Nat → DrA
  | _ => ⟨[], [], [], [], [], false, []⟩
noncomputable def watershedlaw15_awake_tb : List (CE CT Try.prog) := [rows_New_ce, rows_Put_ce, rows_In_ce, rows_Take_ce, watershedkit_SameLines_ce, rows_Many_ce]
noncomputable def watershedlaw15_awake_lt : List (LE CT Try.prog) := []
noncomputable def watershedlaw15_awake  : Option ((Bool) × (Unit)) :=
  (rows_New).bind fun r1 =>
  (rows_Put ([(⟨([98] : List UInt8), ([49] : List UInt8)⟩ : DRow), (⟨([97] : List UInt8), ([50] : List UInt8)⟩ : DRow), (⟨([98] : List UInt8), ([51] : List UInt8)⟩ : DRow)] : List (DRow)) (r1.2.1.1, r1.2.1.2.1, ()) r1.2.2.1).bind fun r2 =>
  (rows_In (⟨([] : List UInt8), ([] : List UInt8)⟩ : DSpan) (r2.2.1.1, r2.2.1.2.1, ()) r2.2.2.2.1).bind fun r3 =>
  (rows_Take (⟨([97] : List UInt8), ([98] : List UInt8)⟩ : DSpan) (r3.2.1.1, r3.2.1.2.1, ()) r3.2.2.1).bind fun r4 =>
  (bif (decide ((r2.1 : Int) = 0)) then
  (watershedkit_SameLines r3.1 ([(⟨([97] : List UInt8), ([50] : List UInt8)⟩ : DRow), (⟨([98] : List UInt8), ([51] : List UInt8)⟩ : DRow)] : List (DRow))).bind fun r5 =>
  (bif r5.1 then
  (watershedkit_SameLines r4.1 ([(⟨([97] : List UInt8), ([50] : List UInt8)⟩ : DRow)] : List (DRow))).bind fun r6 =>
  (bif r6.1 then
  (rows_Many (r4.2.1.1, r4.2.1.2.1, ()) r4.2.2.2.2.1).bind fun r7 =>
  some ((decide ((r7.1 : Int) = 1)), ())
  else
  some (false, ()))
  else
  some (false, ()))
  else
  some (false, ()))
noncomputable def watershedlaw15_awake_ce : CE CT Try.prog where
  f := 6
  args := []
  hs := []
  res := .val (.one (.bool))
  outs := []
  m := fun d dh => watershedlaw15_awake
  ok := ce_ok mixedP Try.func6 (by kernel_rfl) (orcOf_ok watershedlaw15_awake_tb) (dr := watershedlaw15_awake_dr) (lps := lpsOf watershedlaw15_awake_lt) (lps_fn (no_loop (by kernel_rfl))) (fun d dh => by kernel_rfl)

def watershedkit_markText_dr : Nat → DrA
  | _ => ⟨[], [], [], [], [], false, []⟩
noncomputable def watershedkit_markText_tb : List (CE CT Try.prog) := []
noncomputable def watershedkit_markText_lt : List (LE CT Try.prog) := []
noncomputable def watershedkit_markText (x0 : Int) (x1 : Int) : Option ((List UInt8) × (Unit)) :=
  (b8 35).bind fun u1 =>
  (b8 (IntKind.u8.wrap x0)).bind fun u2 =>
  (b8 (IntKind.u8.wrap ((x0 : Int).fdiv (2 ^ min (8 : Int).toNat (IntKind.i64.bits))))).bind fun u3 =>
  (b8 (IntKind.u8.wrap ((x0 : Int).fdiv (2 ^ min (16 : Int).toNat (IntKind.i64.bits))))).bind fun u4 =>
  (b8 47).bind fun u5 =>
  (b8 (IntKind.u8.wrap x1)).bind fun u6 =>
  (b8 (IntKind.u8.wrap ((x1 : Int).fdiv (2 ^ min (8 : Int).toNat (IntKind.i64.bits))))).bind fun u7 =>
  (b8 (IntKind.u8.wrap ((x1 : Int).fdiv (2 ^ min (16 : Int).toNat (IntKind.i64.bits))))).bind fun u8 =>
  some (([u1, u2, u3, u4, u5, u6, u7, u8] : List (UInt8)), ())
noncomputable def watershedkit_markText_ce : CE CT Try.prog where
  f := 66
  args := [.one (.int .i64), .one (.int .i64)]
  hs := []
  res := .val (.one (.str))
  outs := []
  m := fun d dh => watershedkit_markText d.1 d.2.1
  ok := ce_ok mixedP Try.func66 (by kernel_rfl) (orcOf_ok watershedkit_markText_tb) (dr := watershedkit_markText_dr) (lps := lpsOf watershedkit_markText_lt) (lps_fn (no_loop (by kernel_rfl))) (fun d dh => by kernel_rfl)

def watershedkit_markRow_dr : Nat → DrA
  | _ => ⟨[], [], [], [], [], false, []⟩
noncomputable def watershedkit_markRow_tb : List (CE CT Try.prog) := [watershedkit_markText_ce]
noncomputable def watershedkit_markRow_lt : List (LE CT Try.prog) := []
noncomputable def watershedkit_markRow (x0 : Int) (x1 : Int) : Option ((DRow) × (Unit)) :=
  (watershedkit_markText x0 x1).bind fun r1 =>
  some ((⟨r1.1, ([] : List UInt8)⟩ : DRow), ())
noncomputable def watershedkit_markRow_ce : CE CT Try.prog where
  f := 38
  args := [.one (.int .i64), .one (.int .i64)]
  hs := []
  res := .val (.cod 3)
  outs := []
  m := fun d dh => watershedkit_markRow d.1 d.2.1
  ok := ce_ok mixedP Try.func38 (by kernel_rfl) (orcOf_ok watershedkit_markRow_tb) (dr := watershedkit_markRow_dr) (lps := lpsOf watershedkit_markRow_lt) (lps_fn (no_loop (by kernel_rfl))) (fun d dh => by kernel_rfl)

def watershedkit_LentLines_dr : Nat → DrA
  | _ => ⟨[], [], [], [], [], false, []⟩
noncomputable def watershedkit_LentLines_tb : List (CE CT Try.prog) := [watershedkit_markRow_ce]
noncomputable def watershedkit_LentLines_l1 (a : ((List (DRow)) × (Nat × Nat × Nat) × (Int) × Unit) × ((List (DRow)) × Unit)) : Option ((((List (DRow)) × (Nat × Nat × Nat) × (Int) × Unit) × ((List (DRow)) × Unit)) ⊕ ((((List (DRow)) × (Nat × Nat × Nat) × Unit) × ((List (DRow)) × Unit)))) :=
  (bif (decide ((a.1.2.2.1 : Int) < 12)) then
  (watershedkit_markRow 1 a.1.2.2.1).bind fun r1 =>
  (if (a.1.2.1.2.1 + ([r1.1] : List (DRow)).length) ≤ 140737488355328 ∧ (a.1.2.1.2.1 + ([r1.1] : List (DRow)).length) * 32 ≤ 140737488355328 ∧ a.1.2.1.1 + a.1.2.1.2.1 ≤ a.2.1.length then
  (if (a.1.2.1.2.1 + ([r1.1] : List (DRow)).length) ≤ a.1.2.1.2.2 then
  let y2 : List (DRow) := (a.2.1.take (a.1.2.1.1 + a.1.2.1.2.1) ++ ([r1.1] : List (DRow)) ++ a.2.1.drop (a.1.2.1.1 + a.1.2.1.2.1 + ([r1.1] : List (DRow)).length))
  some (.inl ((a.1.1, (a.1.2.1.1, (a.1.2.1.2.1 + ([r1.1] : List (DRow)).length), a.1.2.1.2.2), (IntKind.i64.wrap (a.1.2.2.1 + 1)), ()), (y2, ())))
  else none)
  else none)
  else
  some (.inr ((a.1.1, (a.1.2.1.1, a.1.2.1.2.1, a.1.2.1.2.2), ()), (a.2.1, ()))))
noncomputable def watershedkit_LentLines_e1 : LE CT Try.prog := ⟨4, [0, 3, 4], [.one (.sl 3), .one (.as 3 0), .one (.int .i64)], [.arr 32 3 true], [⟨.exit 0, [0, 3], [.one (.sl 3), .one (.as 3 0)], [.arr 32 3 true]⟩], watershedkit_LentLines_l1⟩
noncomputable def watershedkit_LentLines_lt : List (LE CT Try.prog) := [watershedkit_LentLines_e1]
theorem watershedkit_LentLines_e1_ok : LeOk watershedkit_LentLines_e1 (nthL (bodyOf Try.f14) 0) := fun A env h k z hk => le_ok (E := watershedkit_LentLines_e1) (orcOf_ok watershedkit_LentLines_tb) (dr := watershedkit_LentLines_dr) (lps := lpsOf watershedkit_LentLines_lt) (no_loop (by kernel_rfl)) (fun a => by kernel_rfl) env h k z hk
noncomputable def watershedkit_LentLines (x0 : List (DRow)) : Option ((Nat × Nat × Nat) × ((List (DRow)) × Unit)) :=
  (if 0 ≤ (0 : Int) ∧ (0 : Int) ≤ (IntKind.i64.wrap ((x0.length : Int) + 12)) ∧ ((IntKind.i64.wrap ((x0.length : Int) + 12)) : Int) ≤ 140737488355328 ∧ ((32 : Nat) : Int) * (IntKind.i64.wrap ((x0.length : Int) + 12)) ≤ 140737488355328 then
  let y1 : List (DRow) := (List.replicate ((IntKind.i64.wrap ((x0.length : Int) + 12)) : Int).toNat ((⟨([] : List UInt8), ([] : List UInt8)⟩ : DRow) : DRow))
  (if ((0 : Int).toNat + x0.length) ≤ 140737488355328 ∧ ((0 : Int).toNat + x0.length) * 32 ≤ 140737488355328 ∧ 0 + (0 : Int).toNat ≤ y1.length then
  (if ((0 : Int).toNat + x0.length) ≤ ((IntKind.i64.wrap ((x0.length : Int) + 12)) : Int).toNat then
  let y2 : List (DRow) := (y1.take (0 + (0 : Int).toNat) ++ x0 ++ y1.drop (0 + (0 : Int).toNat + x0.length))
  (loopM watershedkit_LentLines_l1 ((x0, (0, ((0 : Int).toNat + x0.length), ((IntKind.i64.wrap ((x0.length : Int) + 12)) : Int).toNat), 0, ()), (y2, ()))).bind fun b3 =>
  (if 0 ≤ ((0 : Int) : Int) ∧ ((0 : Int) : Int) ≤ ((b3.1.1.length : Int) : Int) ∧ ((b3.1.1.length : Int) : Int) ≤ ((b3.1.2.1.2.2 : Nat) : Int) ∧ ((b3.1.1.length : Int) : Int) ≤ 140737488355328 then
  some (((b3.1.2.1.1 + (0 : Int).toNat), (((b3.1.1.length : Int) : Int).toNat - (0 : Int).toNat), (b3.1.2.1.2.2 - (0 : Int).toNat)), (b3.2.1, ()))
  else none)
  else none)
  else none)
  else none)
noncomputable def watershedkit_LentLines_ce : CE CT Try.prog where
  f := 14
  args := [.one (.sl 3)]
  hs := []
  res := .val (.one (.as 3 0))
  outs := [.arr 32 3 false]
  m := fun d dh => watershedkit_LentLines d.1
  ok := ce_ok mixedP Try.func14 (by kernel_rfl) (orcOf_ok watershedkit_LentLines_tb) (dr := watershedkit_LentLines_dr) (lps := lpsOf watershedkit_LentLines_lt) (lps_fn (lps_of (n := 1) (by kernel_rfl) fun i hi => match i, hi with | 0, _ => lp_ok (E := watershedkit_LentLines_e1) (by kernel_rfl) watershedkit_LentLines_e1_ok)) (fun d dh => by kernel_rfl)

noncomputable def watershedkit_LentLines_x (x0 : List (DRow)) : Option ((List (DRow) × List (DRow)) × Unit) :=
  (watershedkit_LentLines x0).bind fun r => if r.1.1 = 0 ∧ r.1.2.1 ≤ r.2.1.length ∧ r.2.1.length ≤ 140737488355328 then some ((r.2.1.take r.1.2.1, r.2.1.drop r.1.2.1), ()) else none
noncomputable def watershedkit_LentLines_x_ce : CE CT Try.prog where
  f := 14
  args := [.one (.sl 3)]
  hs := []
  res := .val (.one (.slx 3))
  outs := []
  m := fun d dh => watershedkit_LentLines_x d.1
  ok := fun d dh r hr => by
    unfold watershedkit_LentLines_x at hr
    obtain ⟨⟨⟨lo, n, c⟩, xs, u⟩, h1, h2⟩ := bind_some' hr
    dsimp only at h2
    split at h2
    · rename_i hc
      injection h2 with h2
      subst h2
      obtain ⟨rfl, hc2, hc3⟩ := hc
      exact Tr.freezeX hc2 hc3 (watershedkit_LentLines_ce.ok d dh _ h1)
    · cases h2

def wire_NewWriter_dr : Nat → DrA
  | _ => ⟨[], [], [], [], [], false, []⟩
noncomputable def wire_NewWriter_tb : List (CE CT Try.prog) := []
noncomputable def wire_NewWriter_lt : List (LE CT Try.prog) := []
noncomputable def wire_NewWriter  : Option ((Unit) × (((Bool) × (Bool) × (List (UInt8)) × Unit) × (Unit) × Unit)) :=
  some ((), ((true, false, [], ()), (), ()))
noncomputable def wire_NewWriter_ce : CE CT Try.prog where
  f := 16
  args := []
  hs := []
  res := .val (.one (.ptr 0 0))
  outs := [.obj 85 [.bool, .bool, .own 1 1], .row 5 1]
  m := fun d dh => wire_NewWriter
  ok := ce_ok mixedP Try.func16 (by kernel_rfl) (orcOf_ok wire_NewWriter_tb) (dr := wire_NewWriter_dr) (lps := lpsOf wire_NewWriter_lt) (lps_fn (no_loop (by kernel_rfl))) (fun d dh => by kernel_rfl)

def wire_known_dr : Nat → DrA
  | _ => ⟨[], [], [], [], [], false, []⟩
noncomputable def wire_known_tb : List (CE CT Try.prog) := []
noncomputable def wire_known_lt : List (LE CT Try.prog) := []
noncomputable def wire_known (h0 : (Bool) × (Bool) × (List (UInt8)) × Unit) : Option ((Bool) × (((Bool) × (Bool) × (List (UInt8)) × Unit) × (Unit) × (Unit) × Unit)) :=
  some (h0.1, ((h0.1, h0.2.1, h0.2.2.1, ()), (), (), ()))
noncomputable def wire_known_ce : CE CT Try.prog where
  f := 41
  args := [.one (.ptr 0 0)]
  hs := [.obj 85 [.bool, .bool, .own 1 1], .row 5 1]
  res := .val (.one (.bool))
  outs := [.obj 85 [.bool, .bool, .own 1 2], .dead, .row 5 1]
  m := fun d dh => wire_known dh.1
  ok := ce_ok mixedP Try.func41 (by kernel_rfl) (orcOf_ok wire_known_tb) (dr := wire_known_dr) (lps := lpsOf wire_known_lt) (lps_fn (no_loop (by kernel_rfl))) (fun d dh => by kernel_rfl)

def wire_put_dr : Nat → DrA
  | _ => ⟨[], [], [], [], [], false, []⟩
noncomputable def wire_put_tb : List (CE CT Try.prog) := []
noncomputable def wire_put_lt : List (LE CT Try.prog) := []
noncomputable def wire_put (x1 : List (UInt8)) (h0 : (Bool) × (Bool) × (List (UInt8)) × Unit) : Option ((Unit) × (((Bool) × (Bool) × (List (UInt8)) × Unit) × (Unit) × (Unit) × Unit)) :=
  (bif h0.1 then
  (if h0.2.2.1.length + x1.length ≤ 140737488355328 ∧ (h0.2.2.1.length + x1.length) * 1 ≤ 140737488355328 then
  some ((), ((h0.1, h0.2.1, (h0.2.2.1 ++ x1), ()), (), (), ()))
  else none)
  else
  some ((), ((h0.1, h0.2.1, h0.2.2.1, ()), (), (), ())))
noncomputable def wire_put_ce : CE CT Try.prog where
  f := 88
  args := [.one (.ptr 0 0), .one (.sl 1)]
  hs := [.obj 85 [.bool, .bool, .own 1 1], .row 5 1]
  res := .tup []
  outs := [.obj 85 [.bool, .bool, .own 1 2], .dead, .row 5 1]
  m := fun d dh => wire_put d.2.1 dh.1
  ok := ce_ok mixedP Try.func88 (by kernel_rfl) (orcOf_ok wire_put_tb) (dr := wire_put_dr) (lps := lpsOf wire_put_lt) (lps_fn (no_loop (by kernel_rfl))) (fun d dh => by kernel_rfl)

def wire_number_dr : Nat → DrA
  | _ => ⟨[], [], [], [], [], false, []⟩
noncomputable def wire_number_tb : List (CE CT Try.prog) := [wire_put_ce]
noncomputable def wire_number_l1 (a : ((Unit) × (Int) × Unit) × (((Bool) × (Bool) × (List (UInt8)) × Unit) × (Unit) × Unit)) : Option ((((Unit) × (Int) × Unit) × (((Bool) × (Bool) × (List (UInt8)) × Unit) × (Unit) × Unit)) ⊕ ((((Unit) × (Int) × Unit) × (((Bool) × (Bool) × (List (UInt8)) × Unit) × (Unit) × (Unit) × Unit)))) :=
  (bif (decide ((127 : Int) < a.1.2.1)) then
  (b8 (IntKind.u8.wrap ((BitVec.ofInt (IntKind.u8.bits) (IntKind.u8.wrap a.1.2.1) ||| BitVec.ofInt (IntKind.u8.bits) 128).toNat))).bind fun u1 =>
  (wire_put ([u1] : List (UInt8)) (a.2.1.1, a.2.1.2.1, a.2.1.2.2.1, ())).bind fun r2 =>
  some (.inl (((), ((a.1.2.1 : Int).fdiv (2 ^ min (7 : Int).toNat (IntKind.i64.bits))), ()), ((r2.2.1.1, r2.2.1.2.1, r2.2.1.2.2.1, ()), (), ())))
  else
  some (.inr (((), a.1.2.1, ()), ((a.2.1.1, a.2.1.2.1, a.2.1.2.2.1, ()), (), (), ()))))
noncomputable def wire_number_e1 : LE CT Try.prog := ⟨2, [0, 1], [.one (.ptr 0 0), .one (.int .i64)], [.obj 85 [.bool, .bool, .own 1 1], .row 5 1], [⟨.exit 0, [0, 1], [.one (.ptr 0 0), .one (.int .i64)], [.obj 85 [.bool, .bool, .own 1 2], .dead, .row 5 1]⟩], wire_number_l1⟩
noncomputable def wire_number_lt : List (LE CT Try.prog) := [wire_number_e1]
theorem wire_number_e1_ok : LeOk wire_number_e1 (nthL (bodyOf Try.f67) 0) := fun A env h k z hk => le_ok (E := wire_number_e1) (orcOf_ok wire_number_tb) (dr := wire_number_dr) (lps := lpsOf wire_number_lt) (no_loop (by kernel_rfl)) (fun a => by kernel_rfl) env h k z hk
noncomputable def wire_number (x1 : Int) (h0 : (Bool) × (Bool) × (List (UInt8)) × Unit) : Option ((Unit) × (((Bool) × (Bool) × (List (UInt8)) × Unit) × (Unit) × (Unit) × Unit)) :=
  (bif (decide ((x1 : Int) < 0)) then
  some ((), ((h0.1, true, h0.2.2.1, ()), (), (), ()))
  else
  (bif (decide ((4611686018427387903 : Int) < x1)) then
  some ((), ((h0.1, true, h0.2.2.1, ()), (), (), ()))
  else
  (loopM wire_number_l1 (((), x1, ()), ((h0.1, h0.2.1, h0.2.2.1, ()), (), ()))).bind fun b1 =>
  (b8 (IntKind.u8.wrap b1.1.2.1)).bind fun u2 =>
  (wire_put ([u2] : List (UInt8)) (b1.2.1.1, b1.2.1.2.1, b1.2.1.2.2.1, ())).bind fun r3 =>
  some ((), ((r3.2.1.1, r3.2.1.2.1, r3.2.1.2.2.1, ()), (), (), ()))))
noncomputable def wire_number_ce : CE CT Try.prog where
  f := 67
  args := [.one (.ptr 0 0), .one (.int .i64)]
  hs := [.obj 85 [.bool, .bool, .own 1 1], .row 5 1]
  res := .tup []
  outs := [.obj 85 [.bool, .bool, .own 1 2], .dead, .row 5 1]
  m := fun d dh => wire_number d.2.1 dh.1
  ok := ce_ok mixedP Try.func67 (by kernel_rfl) (orcOf_ok wire_number_tb) (dr := wire_number_dr) (lps := lpsOf wire_number_lt) (lps_fn (lps_of (n := 1) (by kernel_rfl) fun i hi => match i, hi with | 0, _ => lp_ok (E := wire_number_e1) (by kernel_rfl) wire_number_e1_ok)) (fun d dh => by kernel_rfl)

def wire_Numbers_dr : Nat → DrA
  | _ => ⟨[], [], [], [], [], false, []⟩
noncomputable def wire_Numbers_tb : List (CE CT Try.prog) := [wire_known_ce, wire_number_ce]
noncomputable def wire_Numbers_l1 (a : ((Unit) × (List (Int)) × (Int) × (Int) × Unit) × (((Bool) × (Bool) × (List (UInt8)) × Unit) × (Unit) × Unit)) : Option ((((Unit) × (List (Int)) × (Int) × (Int) × Unit) × (((Bool) × (Bool) × (List (UInt8)) × Unit) × (Unit) × Unit)) ⊕ ((((Unit) × Unit) × (((Bool) × (Bool) × (List (UInt8)) × Unit) × (Unit) × (Unit) × Unit)))) :=
  (bif (decide ((a.1.2.2.2.1 : Int) < a.1.2.2.1)) then
  (getI a.1.2.1 a.1.2.2.2.1).bind fun e1 =>
  (wire_number e1 (a.2.1.1, a.2.1.2.1, a.2.1.2.2.1, ())).bind fun r2 =>
  some (.inl (((), a.1.2.1, a.1.2.2.1, (IntKind.i64.wrap (a.1.2.2.2.1 + 1)), ()), ((r2.2.1.1, r2.2.1.2.1, r2.2.1.2.2.1, ()), (), ())))
  else
  some (.inr (((), ()), ((a.2.1.1, a.2.1.2.1, a.2.1.2.2.1, ()), (), (), ()))))
noncomputable def wire_Numbers_e1 : LE CT Try.prog := ⟨3, [0, 9, 10, 11], [.one (.ptr 0 0), .one (.sl 0), .one (.int .i64), .one (.int .i64)], [.obj 85 [.bool, .bool, .own 1 1], .row 5 1], [⟨.exit 0, [0], [.one (.ptr 0 0)], [.obj 85 [.bool, .bool, .own 1 2], .dead, .row 5 1]⟩], wire_Numbers_l1⟩
noncomputable def wire_Numbers_lt : List (LE CT Try.prog) := [wire_Numbers_e1]
theorem wire_Numbers_e1_ok : LeOk wire_Numbers_e1 (nthL (bodyOf Try.f39) 0) := fun A env h k z hk => le_ok (E := wire_Numbers_e1) (orcOf_ok wire_Numbers_tb) (dr := wire_Numbers_dr) (lps := lpsOf wire_Numbers_lt) (no_loop (by kernel_rfl)) (fun a => by kernel_rfl) env h k z hk
noncomputable def wire_Numbers (x1 : List (Int)) (h0 : (Bool) × (Bool) × (List (UInt8)) × Unit) : Option ((Unit) × (((Bool) × (Bool) × (List (UInt8)) × Unit) × (Unit) × (Unit) × Unit)) :=
  (wire_known (h0.1, h0.2.1, h0.2.2.1, ())).bind fun r1 =>
  (bif r1.1 then
  (loopM wire_Numbers_l1 (((), x1, (x1.length : Int), 0, ()), ((r1.2.1.1, r1.2.1.2.1, r1.2.1.2.2.1, ()), (), ()))).bind fun b2 =>
  some ((), ((b2.2.1.1, b2.2.1.2.1, b2.2.1.2.2.1, ()), (), (), ()))
  else
  some ((), ((r1.2.1.1, r1.2.1.2.1, r1.2.1.2.2.1, ()), (), (), ())))
noncomputable def wire_Numbers_ce : CE CT Try.prog where
  f := 39
  args := [.one (.ptr 0 0), .one (.sl 0)]
  hs := [.obj 85 [.bool, .bool, .own 1 1], .row 5 1]
  res := .val (.one (.ptr 0 0))
  outs := [.obj 85 [.bool, .bool, .own 1 2], .dead, .row 5 1]
  m := fun d dh => wire_Numbers d.2.1 dh.1
  ok := ce_ok mixedP Try.func39 (by kernel_rfl) (orcOf_ok wire_Numbers_tb) (dr := wire_Numbers_dr) (lps := lpsOf wire_Numbers_lt) (lps_fn (lps_of (n := 1) (by kernel_rfl) fun i hi => match i, hi with | 0, _ => lp_ok (E := wire_Numbers_e1) (by kernel_rfl) wire_Numbers_e1_ok)) (fun d dh => by kernel_rfl)

def wire_Rows_dr : Nat → DrA
  | _ => ⟨[], [], [], [], [], false, []⟩
noncomputable def wire_Rows_tb : List (CE CT Try.prog) := [wire_known_ce, wire_number_ce, wire_put_ce]
noncomputable def wire_Rows_l1 (a : ((Unit) × (List (List (UInt8))) × (Int) × (Int) × Unit) × (((Bool) × (Bool) × (List (UInt8)) × Unit) × (Unit) × Unit)) : Option ((((Unit) × (List (List (UInt8))) × (Int) × (Int) × Unit) × (((Bool) × (Bool) × (List (UInt8)) × Unit) × (Unit) × Unit)) ⊕ ((((Unit) × Unit) × (((Bool) × (Bool) × (List (UInt8)) × Unit) × (Unit) × (Unit) × Unit)))) :=
  (bif (decide ((a.1.2.2.2.1 : Int) < a.1.2.2.1)) then
  (getI a.1.2.1 a.1.2.2.2.1).bind fun e1 =>
  (wire_number (e1.length : Int) (a.2.1.1, a.2.1.2.1, a.2.1.2.2.1, ())).bind fun r2 =>
  (wire_put e1 (r2.2.1.1, r2.2.1.2.1, r2.2.1.2.2.1, ())).bind fun r3 =>
  some (.inl (((), a.1.2.1, a.1.2.2.1, (IntKind.i64.wrap (a.1.2.2.2.1 + 1)), ()), ((r3.2.1.1, r3.2.1.2.1, r3.2.1.2.2.1, ()), (), ())))
  else
  some (.inr (((), ()), ((a.2.1.1, a.2.1.2.1, a.2.1.2.2.1, ()), (), (), ()))))
noncomputable def wire_Rows_e1 : LE CT Try.prog := ⟨3, [0, 9, 10, 11], [.one (.ptr 0 0), .one (.sl 10), .one (.int .i64), .one (.int .i64)], [.obj 85 [.bool, .bool, .own 1 1], .row 5 1], [⟨.exit 0, [0], [.one (.ptr 0 0)], [.obj 85 [.bool, .bool, .own 1 2], .dead, .row 5 1]⟩], wire_Rows_l1⟩
noncomputable def wire_Rows_lt : List (LE CT Try.prog) := [wire_Rows_e1]
theorem wire_Rows_e1_ok : LeOk wire_Rows_e1 (nthL (bodyOf Try.f68) 0) := fun A env h k z hk => le_ok (E := wire_Rows_e1) (orcOf_ok wire_Rows_tb) (dr := wire_Rows_dr) (lps := lpsOf wire_Rows_lt) (no_loop (by kernel_rfl)) (fun a => by kernel_rfl) env h k z hk
noncomputable def wire_Rows (x1 : List (List (UInt8))) (h0 : (Bool) × (Bool) × (List (UInt8)) × Unit) : Option ((Unit) × (((Bool) × (Bool) × (List (UInt8)) × Unit) × (Unit) × (Unit) × Unit)) :=
  (wire_known (h0.1, h0.2.1, h0.2.2.1, ())).bind fun r1 =>
  (bif r1.1 then
  (loopM wire_Rows_l1 (((), x1, (x1.length : Int), 0, ()), ((r1.2.1.1, r1.2.1.2.1, r1.2.1.2.2.1, ()), (), ()))).bind fun b2 =>
  some ((), ((b2.2.1.1, b2.2.1.2.1, b2.2.1.2.2.1, ()), (), (), ()))
  else
  some ((), ((r1.2.1.1, r1.2.1.2.1, r1.2.1.2.2.1, ()), (), (), ())))
noncomputable def wire_Rows_ce : CE CT Try.prog where
  f := 68
  args := [.one (.ptr 0 0), .one (.sl 10)]
  hs := [.obj 85 [.bool, .bool, .own 1 1], .row 5 1]
  res := .val (.one (.ptr 0 0))
  outs := [.obj 85 [.bool, .bool, .own 1 2], .dead, .row 5 1]
  m := fun d dh => wire_Rows d.2.1 dh.1
  ok := ce_ok mixedP Try.func68 (by kernel_rfl) (orcOf_ok wire_Rows_tb) (dr := wire_Rows_dr) (lps := lpsOf wire_Rows_lt) (lps_fn (lps_of (n := 1) (by kernel_rfl) fun i hi => match i, hi with | 0, _ => lp_ok (E := wire_Rows_e1) (by kernel_rfl) wire_Rows_e1_ok)) (fun d dh => by kernel_rfl)

def wire_Texts_dr : Nat → DrA
  | _ => ⟨[], [], [], [], [], false, []⟩
noncomputable def wire_Texts_tb : List (CE CT Try.prog) := [wire_known_ce, wire_Rows_ce]
noncomputable def wire_Texts_l1 (a : ((Unit) × (List (List UInt8)) × (Int) × (Int) × Unit) × (((Bool) × (Bool) × (List (UInt8)) × Unit) × (Unit) × Unit)) : Option ((((Unit) × (List (List UInt8)) × (Int) × (Int) × Unit) × (((Bool) × (Bool) × (List (UInt8)) × Unit) × (Unit) × Unit)) ⊕ ((((Unit) × Unit) × (((Bool) × (Bool) × (List (UInt8)) × Unit) × (Unit) × (Unit) × Unit)))) :=
  (bif (decide ((a.1.2.2.2.1 : Int) < a.1.2.2.1)) then
  (getI a.1.2.1 a.1.2.2.2.1).bind fun e1 =>
  (if e1.length ≤ 140737488355328 then
  (wire_Rows ([e1] : List (List (UInt8))) (a.2.1.1, a.2.1.2.1, a.2.1.2.2.1, ())).bind fun r2 =>
  some (.inl (((), a.1.2.1, a.1.2.2.1, (IntKind.i64.wrap (a.1.2.2.2.1 + 1)), ()), ((r2.2.1.1, r2.2.1.2.1, r2.2.1.2.2.1, ()), (), ())))
  else none)
  else
  some (.inr (((), ()), ((a.2.1.1, a.2.1.2.1, a.2.1.2.2.1, ()), (), (), ()))))
noncomputable def wire_Texts_e1 : LE CT Try.prog := ⟨3, [0, 9, 10, 11], [.one (.ptr 0 0), .one (.sl 2), .one (.int .i64), .one (.int .i64)], [.obj 85 [.bool, .bool, .own 1 1], .row 5 1], [⟨.exit 0, [0], [.one (.ptr 0 0)], [.obj 85 [.bool, .bool, .own 1 2], .dead, .row 5 1]⟩], wire_Texts_l1⟩
noncomputable def wire_Texts_lt : List (LE CT Try.prog) := [wire_Texts_e1]
theorem wire_Texts_e1_ok : LeOk wire_Texts_e1 (nthL (bodyOf Try.f40) 0) := fun A env h k z hk => le_ok (E := wire_Texts_e1) (orcOf_ok wire_Texts_tb) (dr := wire_Texts_dr) (lps := lpsOf wire_Texts_lt) (no_loop (by kernel_rfl)) (fun a => by kernel_rfl) env h k z hk
noncomputable def wire_Texts (x1 : List (List UInt8)) (h0 : (Bool) × (Bool) × (List (UInt8)) × Unit) : Option ((Unit) × (((Bool) × (Bool) × (List (UInt8)) × Unit) × (Unit) × (Unit) × Unit)) :=
  (wire_known (h0.1, h0.2.1, h0.2.2.1, ())).bind fun r1 =>
  (bif r1.1 then
  (loopM wire_Texts_l1 (((), x1, (x1.length : Int), 0, ()), ((r1.2.1.1, r1.2.1.2.1, r1.2.1.2.2.1, ()), (), ()))).bind fun b2 =>
  some ((), ((b2.2.1.1, b2.2.1.2.1, b2.2.1.2.2.1, ()), (), (), ()))
  else
  some ((), ((r1.2.1.1, r1.2.1.2.1, r1.2.1.2.2.1, ()), (), (), ())))
noncomputable def wire_Texts_ce : CE CT Try.prog where
  f := 40
  args := [.one (.ptr 0 0), .one (.sl 2)]
  hs := [.obj 85 [.bool, .bool, .own 1 1], .row 5 1]
  res := .val (.one (.ptr 0 0))
  outs := [.obj 85 [.bool, .bool, .own 1 2], .dead, .row 5 1]
  m := fun d dh => wire_Texts d.2.1 dh.1
  ok := ce_ok mixedP Try.func40 (by kernel_rfl) (orcOf_ok wire_Texts_tb) (dr := wire_Texts_dr) (lps := lpsOf wire_Texts_lt) (lps_fn (lps_of (n := 1) (by kernel_rfl) fun i hi => match i, hi with | 0, _ => lp_ok (E := wire_Texts_e1) (by kernel_rfl) wire_Texts_e1_ok)) (fun d dh => by kernel_rfl)

def rows_Write_dr : Nat → DrA
  | _ => ⟨[], [], [], [], [], false, []⟩
noncomputable def rows_Write_tb : List (CE CT Try.prog) := [wire_Numbers_ce, wire_Texts_ce]
noncomputable def rows_Write_l1 (a : ((Unit) × (List (DRow)) × (Int) × (Int) × Unit) × (((Bool) × (Bool) × (List (UInt8)) × Unit) × (Unit) × Unit)) : Option ((((Unit) × (List (DRow)) × (Int) × (Int) × Unit) × (((Bool) × (Bool) × (List (UInt8)) × Unit) × (Unit) × Unit)) ⊕ ((((Unit) × Unit) × (((Bool) × (Bool) × (List (UInt8)) × Unit) × (Unit) × (Unit) × Unit)))) :=
  (bif (decide ((a.1.2.2.2.1 : Int) < a.1.2.2.1)) then
  (getI a.1.2.1 a.1.2.2.2.1).bind fun e1 =>
  (wire_Texts ([e1.key, e1.value] : List (List UInt8)) (a.2.1.1, a.2.1.2.1, a.2.1.2.2.1, ())).bind fun r2 =>
  some (.inl (((), a.1.2.1, a.1.2.2.1, (IntKind.i64.wrap (a.1.2.2.2.1 + 1)), ()), ((r2.2.1.1, r2.2.1.2.1, r2.2.1.2.2.1, ()), (), ())))
  else
  some (.inr (((), ()), ((a.2.1.1, a.2.1.2.1, a.2.1.2.2.1, ()), (), (), ()))))
noncomputable def rows_Write_e1 : LE CT Try.prog := ⟨3, [0, 12, 13, 14], [.one (.ptr 0 0), .one (.sl 3), .one (.int .i64), .one (.int .i64)], [.obj 85 [.bool, .bool, .own 1 1], .row 5 1], [⟨.exit 0, [0], [.one (.ptr 0 0)], [.obj 85 [.bool, .bool, .own 1 2], .dead, .row 5 1]⟩], rows_Write_l1⟩
noncomputable def rows_Write_lt : List (LE CT Try.prog) := [rows_Write_e1]
theorem rows_Write_e1_ok : LeOk rows_Write_e1 (nthL (bodyOf Try.f15) 0) := fun A env h k z hk => le_ok (E := rows_Write_e1) (orcOf_ok rows_Write_tb) (dr := rows_Write_dr) (lps := lpsOf rows_Write_lt) (no_loop (by kernel_rfl)) (fun a => by kernel_rfl) env h k z hk
noncomputable def rows_Write (x1 : List (DRow)) (h0 : (Bool) × (Bool) × (List (UInt8)) × Unit) : Option ((Unit) × (((Bool) × (Bool) × (List (UInt8)) × Unit) × (Unit) × (Unit) × Unit)) :=
  (wire_Numbers ([(x1.length : Int)] : List (Int)) (h0.1, h0.2.1, h0.2.2.1, ())).bind fun r1 =>
  (loopM rows_Write_l1 (((), x1, (x1.length : Int), 0, ()), ((r1.2.1.1, r1.2.1.2.1, r1.2.1.2.2.1, ()), (), ()))).bind fun b2 =>
  some ((), ((b2.2.1.1, b2.2.1.2.1, b2.2.1.2.2.1, ()), (), (), ()))
noncomputable def rows_Write_ce : CE CT Try.prog where
  f := 15
  args := [.one (.ptr 0 0), .one (.sl 3)]
  hs := [.obj 85 [.bool, .bool, .own 1 1], .row 5 1]
  res := .val (.one (.ptr 0 0))
  outs := [.obj 85 [.bool, .bool, .own 1 2], .dead, .row 5 1]
  m := fun d dh => rows_Write d.2.1 dh.1
  ok := ce_ok mixedP Try.func15 (by kernel_rfl) (orcOf_ok rows_Write_tb) (dr := rows_Write_dr) (lps := lpsOf rows_Write_lt) (lps_fn (lps_of (n := 1) (by kernel_rfl) fun i hi => match i, hi with | 0, _ => lp_ok (E := rows_Write_e1) (by kernel_rfl) rows_Write_e1_ok)) (fun d dh => by kernel_rfl)

noncomputable def clone42 (x : List (UInt8)) : Option ((List (UInt8)) × (Unit × Unit)) :=
  if x.length ≤ 140737488355328 ∧ x.length * 1 ≤ 140737488355328 then some (x, ((), ())) else none
noncomputable def clone42_ce : CE CT Try.prog where
  f := 42
  args := [.one (.sl 1)]
  hs := []
  res := .val (.one (.own 1 0))
  outs := [.row 5 1]
  m := fun d dh => clone42 d.1
  ok := fun d dh r hr => by
    unfold clone42 at hr
    split at hr
    · rename_i hroom
      injection hr with hr
      subst hr
      exact clone_tr mixedP Try.func42 (by kernel_rfl) rfl rfl (zv := .int .u8 0) (he := by kernel_rfl) (hsz := by kernel_rfl) (hz := by kernel_rfl) (hby := by kernel_rfl) rfl rfl d.1 hroom
    · cases hr

def wire_Done_dr : Nat → DrA
  | _ => ⟨[], [], [], [], [], false, []⟩
noncomputable def wire_Done_tb : List (CE CT Try.prog) := [wire_known_ce, clone42_ce]
noncomputable def wire_Done_lt : List (LE CT Try.prog) := []
noncomputable def wire_Done (h0 : (Bool) × (Bool) × (List (UInt8)) × Unit) : Option (((List (UInt8)) × (Int) × Unit) × (((Bool) × (Bool) × (List (UInt8)) × Unit) × (Unit) × (Unit) × (Unit) × Unit)) :=
  (wire_known (h0.1, h0.2.1, h0.2.2.1, ())).bind fun r1 =>
  (bif (!r1.1) then
  some (([], 1, ()), ((r1.2.1.1, r1.2.1.2.1, r1.2.1.2.2.1, ()), (), (), (), ()))
  else
  (bif r1.2.1.2.1 then
  some (([], 2, ()), ((r1.2.1.1, r1.2.1.2.1, r1.2.1.2.2.1, ()), (), (), (), ()))
  else
  (clone42 r1.2.1.2.2.1).bind fun r2 =>
  some ((r2.1, 0, ()), ((r1.2.1.1, r1.2.1.2.1, r1.2.1.2.2.1, ()), (), (), (), ()))))
noncomputable def wire_Done_ce : CE CT Try.prog where
  f := 17
  args := [.one (.ptr 0 0)]
  hs := [.obj 85 [.bool, .bool, .own 1 1], .row 5 1]
  res := .tup [.one (.own 1 2), .one (.int .i64)]
  outs := [.obj 85 [.bool, .bool, .own 1 3], .dead, .row 5 1, .row 5 1]
  m := fun d dh => wire_Done dh.1
  ok := ce_ok mixedP Try.func17 (by kernel_rfl) (orcOf_ok wire_Done_tb) (dr := wire_Done_dr) (lps := lpsOf wire_Done_lt) (lps_fn (no_loop (by kernel_rfl))) (fun d dh => by kernel_rfl)

def watershedref02_Number_dr : Nat → DrA
  | 3 => ⟨[], [], [], [], [], true, []⟩
  | _ => ⟨[], [], [], [], [], false, []⟩
noncomputable def watershedref02_Number_tb : List (CE CT Try.prog) := []
noncomputable def watershedref02_Number_l1 (a : ((Int) × (Nat) × Unit) × ((List (UInt8)) × Unit)) : Option ((((Int) × (Nat) × Unit) × ((List (UInt8)) × Unit)) ⊕ ((((Nat) × Unit) × ((Unit) × (List (UInt8)) × Unit)))) :=
  (bif (decide ((0 : Int) < a.1.1)) then
  (if 0 ≤ ((IntKind.i64.wrap (((a.1.2.1 : Nat) : Int) - 1)) : Int) ∧ ((IntKind.i64.wrap (((a.1.2.1 : Nat) : Int) - 1)) : Int) < ((a.1.2.1 : Nat) : Int) then
  (a.2.1[(0 + ((IntKind.i64.wrap (((a.1.2.1 : Nat) : Int) - 1)) : Int).toNat)]?).bind fun e1 =>
  (if 0 ≤ ((IntKind.i64.wrap (((a.1.2.1 : Nat) : Int) - 1)) : Int) ∧ ((IntKind.i64.wrap (((a.1.2.1 : Nat) : Int) - 1)) : Int) < ((a.1.2.1 : Nat) : Int) then
  (a.2.1[(0 + ((IntKind.i64.wrap (((a.1.2.1 : Nat) : Int) - 1)) : Int).toNat)]?).bind fun e2 =>
  (b8 (IntKind.u8.wrap ((BitVec.ofInt (IntKind.u8.bits) (e1.toNat : Int) ||| BitVec.ofInt (IntKind.u8.bits) 128).toNat))).bind fun u3 =>
  let y4 : List (UInt8) := (a.2.1.set (0 + ((IntKind.i64.wrap (((a.1.2.1 : Nat) : Int) - 1)) : Int).toNat) u3)
  (b8 (IntKind.u8.wrap (IntKind.i64.wrap ((BitVec.ofInt (IntKind.i64.bits) a.1.1 &&& BitVec.ofInt (IntKind.i64.bits) 127).toNat)))).bind fun u5 =>
  (if (a.1.2.1 + ([u5] : List (UInt8)).length) ≤ 140737488355328 ∧ (a.1.2.1 + ([u5] : List (UInt8)).length) * 1 ≤ 140737488355328 ∧ 0 + a.1.2.1 ≤ y4.length then
  some (.inl ((((a.1.1 : Int).fdiv (2 ^ min (7 : Int).toNat (IntKind.i64.bits))), (a.1.2.1 + ([u5] : List (UInt8)).length), ()), ((y4.take a.1.2.1 ++ ([u5] : List (UInt8))), ())))
  else none)
  else none)
  else none)
  else
  some (.inr ((a.1.2.1, ()), ((), a.2.1, ()))))
noncomputable def watershedref02_Number_e1 : LE CT Try.prog := ⟨5, [0, 4], [.one (.int .i64), .one (.asz 1 0)], [.arr 5 1 false], [⟨.exit 0, [4], [.one (.asz 1 1)], [.dead, .arr 5 1 false]⟩], watershedref02_Number_l1⟩
noncomputable def watershedref02_Number_lt : List (LE CT Try.prog) := [watershedref02_Number_e1]
theorem watershedref02_Number_e1_ok : LeOk watershedref02_Number_e1 (nthL (bodyOf Try.f69) 0) := fun A env h k z hk => le_ok (E := watershedref02_Number_e1) (orcOf_ok watershedref02_Number_tb) (dr := watershedref02_Number_dr) (lps := lpsOf watershedref02_Number_lt) (no_loop (by kernel_rfl)) (fun a => by kernel_rfl) env h k z hk
noncomputable def watershedref02_Number (x0 : Int) : Option (((Nat) × (Bool) × Unit) × ((List (UInt8)) × Unit)) :=
  (bif (decide ((x0 : Int) < 0)) then
  some ((0, false, ()), ([], ()))
  else
  (bif (decide ((4611686018427387903 : Int) < x0)) then
  some ((0, false, ()), ([], ()))
  else
  (b8 (IntKind.u8.wrap (IntKind.i64.wrap ((BitVec.ofInt (IntKind.i64.bits) x0 &&& BitVec.ofInt (IntKind.i64.bits) 127).toNat)))).bind fun u1 =>
  (loopM watershedref02_Number_l1 ((((x0 : Int).fdiv (2 ^ min (7 : Int).toNat (IntKind.i64.bits))), 1, ()), (([u1] : List (UInt8)), ()))).bind fun b2 =>
  some ((b2.1.1, true, ()), (b2.2.2.1, ()))))
noncomputable def watershedref02_Number_ce : CE CT Try.prog where
  f := 69
  args := [.one (.int .i64)]
  hs := []
  res := .tup [.one (.asz 1 0), .one (.bool)]
  outs := [.arr 5 1 false]
  m := fun d dh => watershedref02_Number d.1
  ok := ce_ok mixedP Try.func69 (by kernel_rfl) (orcOf_ok watershedref02_Number_tb) (dr := watershedref02_Number_dr) (lps := lpsOf watershedref02_Number_lt) (lps_fn (lps_of (n := 1) (by kernel_rfl) fun i hi => match i, hi with | 0, _ => lp_ok (E := watershedref02_Number_e1) (by kernel_rfl) watershedref02_Number_e1_ok)) (fun d dh => by kernel_rfl)

noncomputable def watershedref02_Number_n (x0 : Int) := (watershedref02_Number x0).bind fun r => if r.1.1 ≤ r.2.1.length then some ((r.2.1.take r.1.1, r.1.2), ()) else none
noncomputable def watershedref02_Number_n_ce : CE CT Try.prog where
  f := 69
  args := [.one (.int .i64)]
  hs := []
  res := .tup [.one (.sl 1), .one (.bool)]
  outs := []
  m := fun d dh => watershedref02_Number_n d.1
  ok := fun d dh r hr => by
    unfold watershedref02_Number_n at hr
    obtain ⟨⟨n, xs, u⟩, h1, h2⟩ := bind_some' hr
    dsimp only at h2
    split at h2
    · rename_i hc
      injection h2 with h2
      subst h2
      exact Tr.tellT hc rfl (watershedref02_Number_ce.ok d dh _ h1)
    · cases h2

def watershedref02_Flag_dr : Nat → DrA
  | _ => ⟨[], [], [], [], [], false, []⟩
noncomputable def watershedref02_Flag_tb : List (CE CT Try.prog) := []
noncomputable def watershedref02_Flag_lt : List (LE CT Try.prog) := []
noncomputable def watershedref02_Flag (x0 : Bool) : Option ((List (UInt8)) × ((Unit) × Unit)) :=
  (bif x0 then
  (b8 1).bind fun u1 =>
  some (([u1] : List (UInt8)), ((), ()))
  else
  (b8 0).bind fun u2 =>
  some (([u2] : List (UInt8)), ((), ())))
noncomputable def watershedref02_Flag_ce : CE CT Try.prog where
  f := 70
  args := [.one (.bool)]
  hs := []
  res := .val (.one (.own 1 0))
  outs := [.row 5 1]
  m := fun d dh => watershedref02_Flag d.1
  ok := ce_ok mixedP Try.func70 (by kernel_rfl) (orcOf_ok watershedref02_Flag_tb) (dr := watershedref02_Flag_dr) (lps := lpsOf watershedref02_Flag_lt) (lps_fn (no_loop (by kernel_rfl))) (fun d dh => by kernel_rfl)

def watershedref02_Row_dr : Nat → DrA
  | _ => ⟨[], [], [], [], [], false, []⟩
noncomputable def watershedref02_Row_tb : List (CE CT Try.prog) := [watershedref02_Number_ce]
noncomputable def watershedref02_Row_lt : List (LE CT Try.prog) := []
noncomputable def watershedref02_Row (x0 : List (UInt8)) : Option ((Nat) × ((List (UInt8)) × Unit)) :=
  (watershedref02_Number (x0.length : Int)).bind fun r1 =>
  (if (r1.1.1 + x0.length) ≤ 140737488355328 ∧ (r1.1.1 + x0.length) * 1 ≤ 140737488355328 ∧ 0 + r1.1.1 ≤ r1.2.1.length then
  some ((r1.1.1 + x0.length), ((r1.2.1.take r1.1.1 ++ x0), ()))
  else none)
noncomputable def watershedref02_Row_ce : CE CT Try.prog where
  f := 71
  args := [.one (.sl 1)]
  hs := []
  res := .val (.one (.asz 1 0))
  outs := [.arr 5 1 false]
  m := fun d dh => watershedref02_Row d.1
  ok := ce_ok mixedP Try.func71 (by kernel_rfl) (orcOf_ok watershedref02_Row_tb) (dr := watershedref02_Row_dr) (lps := lpsOf watershedref02_Row_lt) (lps_fn (no_loop (by kernel_rfl))) (fun d dh => by kernel_rfl)

noncomputable def watershedref02_Row_n (x0 : List (UInt8)) := (watershedref02_Row x0).bind fun r => if r.1 ≤ r.2.1.length then some (r.2.1.take r.1, ()) else none
noncomputable def watershedref02_Row_n_ce : CE CT Try.prog where
  f := 71
  args := [.one (.sl 1)]
  hs := []
  res := .val (.one (.sl 1))
  outs := []
  m := fun d dh => watershedref02_Row_n d.1
  ok := fun d dh r hr => by
    unfold watershedref02_Row_n at hr
    obtain ⟨⟨n, xs, u⟩, h1, h2⟩ := bind_some' hr
    dsimp only at h2
    split at h2
    · rename_i hc
      injection h2 with h2
      subst h2
      exact Tr.tellS hc (watershedref02_Row_ce.ok d dh _ h1)
    · cases h2

def watershedref02_Write_dr : Nat → DrA
  | _ => ⟨[], [], [], [], [], false, []⟩
noncomputable def watershedref02_Write_tb : List (CE CT Try.prog) := [watershedref02_Number_n_ce, watershedref02_Flag_ce, watershedref02_Row_n_ce]
noncomputable def watershedref02_Write_l1 (a : ((List (Int)) × (List (Bool)) × (List (List UInt8)) × (List (List (UInt8))) × (List (UInt8)) × (Int) × Unit) × ((Unit) × Unit)) : Option ((((List (Int)) × (List (Bool)) × (List (List UInt8)) × (List (List (UInt8))) × (List (UInt8)) × (Int) × Unit) × ((Unit) × Unit)) ⊕ ((((Unit) × (Int) × Unit) × ((Unit) × Unit)) ⊕ (((List (Bool)) × (List (List UInt8)) × (List (List (UInt8))) × (List (UInt8)) × Unit) × ((Unit) × (Unit) × Unit)))) :=
  (bif (decide ((a.1.2.2.2.2.2.1 : Int) < (a.1.1.length : Int))) then
  (getI a.1.1 a.1.2.2.2.2.2.1).bind fun e1 =>
  (watershedref02_Number_n e1).bind fun r2 =>
  (bif (!r2.1.2.1) then
  some (.inr (.inl (((), 2, ()), ((), ()))))
  else
  (if a.1.2.2.2.2.1.length + r2.1.1.length ≤ 140737488355328 ∧ (a.1.2.2.2.2.1.length + r2.1.1.length) * 1 ≤ 140737488355328 then
  some (.inl ((a.1.1, a.1.2.1, a.1.2.2.1, a.1.2.2.2.1, (a.1.2.2.2.2.1 ++ r2.1.1), (IntKind.i64.wrap (a.1.2.2.2.2.2.1 + 1)), ()), ((), ())))
  else none))
  else
  some (.inr (.inr ((a.1.2.1, a.1.2.2.1, a.1.2.2.2.1, a.1.2.2.2.2.1, ()), ((), (), ())))))
noncomputable def watershedref02_Write_e1 : LE CT Try.prog := ⟨3, [0, 1, 2, 3, 10, 11], [.one (.sl 0), .one (.sl 11), .one (.sl 2), .one (.sl 10), .one (.own 1 0), .one (.int .i64)], [.row 5 1], [⟨.ret, [8, 9], [.one (.nil), .one (.int .i64)], [.dead]⟩, ⟨.exit 0, [1, 2, 3, 10], [.one (.sl 11), .one (.sl 2), .one (.sl 10), .one (.own 1 1)], [.dead, .row 5 1]⟩], watershedref02_Write_l1⟩
noncomputable def watershedref02_Write_l2 (a : ((List (Bool)) × (List (List UInt8)) × (List (List (UInt8))) × (List (UInt8)) × (Int) × Unit) × ((Unit) × Unit)) : Option ((((List (Bool)) × (List (List UInt8)) × (List (List (UInt8))) × (List (UInt8)) × (Int) × Unit) × ((Unit) × Unit)) ⊕ ((((List (List UInt8)) × (List (List (UInt8))) × (List (UInt8)) × Unit) × ((Unit) × (Unit) × Unit)))) :=
  (bif (decide ((a.1.2.2.2.2.1 : Int) < (a.1.1.length : Int))) then
  (getI a.1.1 a.1.2.2.2.2.1).bind fun e1 =>
  (watershedref02_Flag e1).bind fun r2 =>
  (if a.1.2.2.2.1.length + r2.1.length ≤ 140737488355328 ∧ (a.1.2.2.2.1.length + r2.1.length) * 1 ≤ 140737488355328 then
  some (.inl ((a.1.1, a.1.2.1, a.1.2.2.1, (a.1.2.2.2.1 ++ r2.1), (IntKind.i64.wrap (a.1.2.2.2.2.1 + 1)), ()), ((), ())))
  else none)
  else
  some (.inr ((a.1.2.1, a.1.2.2.1, a.1.2.2.2.1, ()), ((), (), ()))))
noncomputable def watershedref02_Write_e2 : LE CT Try.prog := ⟨10, [1, 2, 3, 10, 14], [.one (.sl 11), .one (.sl 2), .one (.sl 10), .one (.own 1 0), .one (.int .i64)], [.row 5 1], [⟨.exit 2, [2, 3, 10], [.one (.sl 2), .one (.sl 10), .one (.own 1 1)], [.dead, .row 5 1]⟩], watershedref02_Write_l2⟩
noncomputable def watershedref02_Write_l3 (a : ((List (List UInt8)) × (List (List (UInt8))) × (List (UInt8)) × (Int) × Unit) × ((Unit) × Unit)) : Option ((((List (List UInt8)) × (List (List (UInt8))) × (List (UInt8)) × (Int) × Unit) × ((Unit) × Unit)) ⊕ ((((List (List (UInt8))) × (List (UInt8)) × Unit) × ((Unit) × (Unit) × Unit)))) :=
  (bif (decide ((a.1.2.2.2.1 : Int) < (a.1.1.length : Int))) then
  (getI a.1.1 a.1.2.2.2.1).bind fun e1 =>
  (if e1.length ≤ 140737488355328 then
  (watershedref02_Row_n e1).bind fun r2 =>
  (if a.1.2.2.1.length + r2.1.length ≤ 140737488355328 ∧ (a.1.2.2.1.length + r2.1.length) * 1 ≤ 140737488355328 then
  some (.inl ((a.1.1, a.1.2.1, (a.1.2.2.1 ++ r2.1), (IntKind.i64.wrap (a.1.2.2.2.1 + 1)), ()), ((), ())))
  else none)
  else none)
  else
  some (.inr ((a.1.2.1, a.1.2.2.1, ()), ((), (), ()))))
noncomputable def watershedref02_Write_e3 : LE CT Try.prog := ⟨14, [2, 3, 10, 15], [.one (.sl 2), .one (.sl 10), .one (.own 1 0), .one (.int .i64)], [.row 5 1], [⟨.exit 4, [3, 10], [.one (.sl 10), .one (.own 1 1)], [.dead, .row 5 1]⟩], watershedref02_Write_l3⟩
noncomputable def watershedref02_Write_l4 (a : ((List (List (UInt8))) × (List (UInt8)) × (Int) × Unit) × ((Unit) × Unit)) : Option ((((List (List (UInt8))) × (List (UInt8)) × (Int) × Unit) × ((Unit) × Unit)) ⊕ ((((List (UInt8)) × Unit) × ((Unit) × (Unit) × Unit)))) :=
  (bif (decide ((a.1.2.2.1 : Int) < (a.1.1.length : Int))) then
  (getI a.1.1 a.1.2.2.1).bind fun e1 =>
  (watershedref02_Row_n e1).bind fun r2 =>
  (if a.1.2.1.length + r2.1.length ≤ 140737488355328 ∧ (a.1.2.1.length + r2.1.length) * 1 ≤ 140737488355328 then
  some (.inl ((a.1.1, (a.1.2.1 ++ r2.1), (IntKind.i64.wrap (a.1.2.2.1 + 1)), ()), ((), ())))
  else none)
  else
  some (.inr ((a.1.2.1, ()), ((), (), ()))))
noncomputable def watershedref02_Write_e4 : LE CT Try.prog := ⟨18, [3, 10, 16], [.one (.sl 10), .one (.own 1 0), .one (.int .i64)], [.row 5 1], [⟨.exit 6, [10], [.one (.own 1 1)], [.dead, .row 5 1]⟩], watershedref02_Write_l4⟩
noncomputable def watershedref02_Write_lt : List (LE CT Try.prog) := [watershedref02_Write_e1, watershedref02_Write_e2, watershedref02_Write_e3, watershedref02_Write_e4]
theorem watershedref02_Write_e1_ok : LeOk watershedref02_Write_e1 (nthL (bodyOf Try.f43) 0) := fun A env h k z hk => le_ok (E := watershedref02_Write_e1) (orcOf_ok watershedref02_Write_tb) (dr := watershedref02_Write_dr) (lps := lpsOf watershedref02_Write_lt) (no_loop (by kernel_rfl)) (fun a => by kernel_rfl) env h k z hk
theorem watershedref02_Write_e2_ok : LeOk watershedref02_Write_e2 (nthL (bodyOf Try.f43) 1) := fun A env h k z hk => le_ok (E := watershedref02_Write_e2) (orcOf_ok watershedref02_Write_tb) (dr := watershedref02_Write_dr) (lps := lpsOf watershedref02_Write_lt) (no_loop (by kernel_rfl)) (fun a => by kernel_rfl) env h k z hk
theorem watershedref02_Write_e3_ok : LeOk watershedref02_Write_e3 (nthL (bodyOf Try.f43) 2) := fun A env h k z hk => le_ok (E := watershedref02_Write_e3) (orcOf_ok watershedref02_Write_tb) (dr := watershedref02_Write_dr) (lps := lpsOf watershedref02_Write_lt) (no_loop (by kernel_rfl)) (fun a => by kernel_rfl) env h k z hk
theorem watershedref02_Write_e4_ok : LeOk watershedref02_Write_e4 (nthL (bodyOf Try.f43) 3) := fun A env h k z hk => le_ok (E := watershedref02_Write_e4) (orcOf_ok watershedref02_Write_tb) (dr := watershedref02_Write_dr) (lps := lpsOf watershedref02_Write_lt) (no_loop (by kernel_rfl)) (fun a => by kernel_rfl) env h k z hk
noncomputable def watershedref02_Write (x0 : List (Int)) (x1 : List (Bool)) (x2 : List (List UInt8)) (x3 : List (List (UInt8))) : Option (((List (UInt8)) × (Int) × Unit) × ((Unit) × Unit)) :=
  (loopM watershedref02_Write_l1 ((x0, x1, x2, x3, [], 0, ()), ((), ()))).bind fun b1 =>
  (match b1 with
  | .inl b2 =>
  some (([], b2.1.2.1, ()), ((), ()))
  | .inr b3 =>
  (loopM watershedref02_Write_l2 ((b3.1.1, b3.1.2.1, b3.1.2.2.1, b3.1.2.2.2.1, 0, ()), ((), ()))).bind fun b4 =>
  (loopM watershedref02_Write_l3 ((b4.1.1, b4.1.2.1, b4.1.2.2.1, 0, ()), ((), ()))).bind fun b5 =>
  (loopM watershedref02_Write_l4 ((b5.1.1, b5.1.2.1, 0, ()), ((), ()))).bind fun b6 =>
  some ((b6.1.1, 0, ()), ((), ())))
noncomputable def watershedref02_Write_ce : CE CT Try.prog where
  f := 43
  args := [.one (.sl 0), .one (.sl 11), .one (.sl 2), .one (.sl 10)]
  hs := []
  res := .tup [.one (.own 1 0), .one (.int .i64)]
  outs := [.row 5 1]
  m := fun d dh => watershedref02_Write d.1 d.2.1 d.2.2.1 d.2.2.2.1
  ok := ce_ok mixedP Try.func43 (by kernel_rfl) (orcOf_ok watershedref02_Write_tb) (dr := watershedref02_Write_dr) (lps := lpsOf watershedref02_Write_lt) (lps_fn (lps_of (n := 4) (by kernel_rfl) fun i hi => match i, hi with | 0, _ => lp_ok (E := watershedref02_Write_e1) (by kernel_rfl) watershedref02_Write_e1_ok | 1, _ => lp_ok (E := watershedref02_Write_e2) (by kernel_rfl) watershedref02_Write_e2_ok | 2, _ => lp_ok (E := watershedref02_Write_e3) (by kernel_rfl) watershedref02_Write_e3_ok | 3, _ => lp_ok (E := watershedref02_Write_e4) (by kernel_rfl) watershedref02_Write_e4_ok)) (fun d dh => by kernel_rfl)

def watershedref15_Bytes_dr : Nat → DrA
  | 5 => ⟨[0, 1, 2, 3, 5, 6, 7, 8, 4, 9, 10, 11, 12, 13, 14, 15, 16], [[], [], [0, 1], [0, 1, 2], [0, 1, 2, 3], [], [], [5, 6], [5, 6, 7], [5, 6, 7, 8], [0, 1, 2, 3, 4, 5, 6, 7, 8, 9], [0, 1, 2, 3, 4, 5, 6, 7, 8, 9, 10], [0, 1, 2, 3, 4, 5, 6, 7, 8, 9, 10, 11], [0, 1, 2, 3, 4, 5, 6, 7, 8, 9, 10, 11, 12], [0, 1, 2, 3, 4, 5, 6, 7, 8, 9, 10, 11, 12], [0, 1, 2, 3, 4, 5, 6, 7, 8, 9, 10, 11, 12, 13], [0, 1, 2, 3, 4, 5, 6, 7, 8, 9, 10, 11, 12, 13, 14, 15]], [], [], [], false, []⟩
  | _ => ⟨[], [], [], [], [], false, []⟩
noncomputable def watershedref15_Bytes_tb : List (CE CT Try.prog) := [watershedref02_Write_ce]
noncomputable def watershedref15_Bytes_l1 (a : ((List (DRow)) × (List (UInt8)) × (Int) × Unit) × ((Unit) × Unit)) : Option ((((List (DRow)) × (List (UInt8)) × (Int) × Unit) × ((Unit) × Unit)) ⊕ ((((List (UInt8)) × Unit) × ((Unit) × (Unit) × Unit)))) :=
  (bif (decide ((a.1.2.2.1 : Int) < (a.1.1.length : Int))) then
  (getI a.1.1 a.1.2.2.1).bind fun e1 =>
  (getI a.1.1 a.1.2.2.1).bind fun e2 =>
  (watershedref02_Write [] [] ([e1.key, e2.value] : List (List UInt8)) []).bind fun r3 =>
  (if a.1.2.1.length + r3.1.1.length ≤ 140737488355328 ∧ (a.1.2.1.length + r3.1.1.length) * 1 ≤ 140737488355328 then
  some (.inl ((a.1.1, (a.1.2.1 ++ r3.1.1), (IntKind.i64.wrap (a.1.2.2.1 + 1)), ()), ((), ())))
  else none)
  else
  some (.inr ((a.1.2.1, ()), ((), (), ()))))
noncomputable def watershedref15_Bytes_e1 : LE CT Try.prog := ⟨3, [0, 3, 5], [.one (.sl 3), .one (.own 1 0), .one (.int .i64)], [.row 5 1], [⟨.exit 0, [3], [.one (.own 1 1)], [.dead, .row 5 1]⟩], watershedref15_Bytes_l1⟩
noncomputable def watershedref15_Bytes_lt : List (LE CT Try.prog) := [watershedref15_Bytes_e1]
theorem watershedref15_Bytes_e1_ok : LeOk watershedref15_Bytes_e1 (nthL (bodyOf Try.f19) 0) := fun A env h k z hk => le_ok (E := watershedref15_Bytes_e1) (orcOf_ok watershedref15_Bytes_tb) (dr := watershedref15_Bytes_dr) (lps := lpsOf watershedref15_Bytes_lt) (no_loop (by kernel_rfl)) (fun a => by kernel_rfl) env h k z hk
noncomputable def watershedref15_Bytes (x0 : List (DRow)) : Option ((List (UInt8)) × ((Unit) × Unit)) :=
  (watershedref02_Write ([(x0.length : Int)] : List (Int)) [] [] []).bind fun r1 =>
  (loopM watershedref15_Bytes_l1 ((x0, r1.1.1, 0, ()), ((), ()))).bind fun b2 =>
  some (b2.1.1, ((), ()))
noncomputable def watershedref15_Bytes_ce : CE CT Try.prog where
  f := 19
  args := [.one (.sl 3)]
  hs := []
  res := .val (.one (.own 1 0))
  outs := [.row 5 1]
  m := fun d dh => watershedref15_Bytes d.1
  ok := ce_ok mixedP Try.func19 (by kernel_rfl) (orcOf_ok watershedref15_Bytes_tb) (dr := watershedref15_Bytes_dr) (lps := lpsOf watershedref15_Bytes_lt) (lps_fn (lps_of (n := 1) (by kernel_rfl) fun i hi => match i, hi with | 0, _ => lp_ok (E := watershedref15_Bytes_e1) (by kernel_rfl) watershedref15_Bytes_e1_ok)) (fun d dh => by kernel_rfl)

def watershedkit_SameBytes_dr : Nat → DrA
  | 6 => ⟨[0, 1, 2, 4, 5, 6, 3, 7, 8], [[], [], [0, 1], [0, 1, 2], [], [], [4, 5], [4, 5, 6], [0, 1, 2, 3, 4, 5, 6, 7]], [], [], [], false, []⟩
  | _ => ⟨[], [], [], [], [], false, []⟩
noncomputable def watershedkit_SameBytes_tb : List (CE CT Try.prog) := []
noncomputable def watershedkit_SameBytes_l1 (a : ((List (UInt8)) × (List (UInt8)) × (Int) × Unit) × (Unit)) : Option ((((List (UInt8)) × (List (UInt8)) × (Int) × Unit) × (Unit)) ⊕ ((((Bool) × Unit) × (Unit)) ⊕ ((Unit) × (Unit)))) :=
  (bif (decide ((a.1.2.2.1 : Int) < (a.1.1.length : Int))) then
  (getI a.1.1 a.1.2.2.1).bind fun e1 =>
  (getI a.1.2.1 a.1.2.2.1).bind fun e2 =>
  (bif (decide (((e1.toNat : Int) : Int) ≠ (e2.toNat : Int))) then
  some (.inr (.inl ((false, ()), ())))
  else
  some (.inl ((a.1.1, a.1.2.1, (IntKind.i64.wrap (a.1.2.2.1 + 1)), ()), ())))
  else
  some (.inr (.inr ((), ()))))
noncomputable def watershedkit_SameBytes_e1 : LE CT Try.prog := ⟨4, [0, 1, 5], [.one (.sl 1), .one (.sl 1), .one (.int .i64)], [], [⟨.ret, [4], [.one (.bool)], []⟩, ⟨.exit 0, [], [], []⟩], watershedkit_SameBytes_l1⟩
noncomputable def watershedkit_SameBytes_lt : List (LE CT Try.prog) := [watershedkit_SameBytes_e1]
theorem watershedkit_SameBytes_e1_ok : LeOk watershedkit_SameBytes_e1 (nthL (bodyOf Try.f18) 0) := fun A env h k z hk => le_ok (E := watershedkit_SameBytes_e1) (orcOf_ok watershedkit_SameBytes_tb) (dr := watershedkit_SameBytes_dr) (lps := lpsOf watershedkit_SameBytes_lt) (no_loop (by kernel_rfl)) (fun a => by kernel_rfl) env h k z hk
noncomputable def watershedkit_SameBytes (x0 : List (UInt8)) (x1 : List (UInt8)) : Option ((Bool) × (Unit)) :=
  (bif (decide (((x0.length : Int) : Int) ≠ (x1.length : Int))) then
  some (false, ())
  else
  (loopM watershedkit_SameBytes_l1 ((x0, x1, 0, ()), ())).bind fun b1 =>
  (match b1 with
  | .inl b2 =>
  some (b2.1.1, ())
  | .inr b3 =>
  some (true, ())))
noncomputable def watershedkit_SameBytes_ce : CE CT Try.prog where
  f := 18
  args := [.one (.sl 1), .one (.sl 1)]
  hs := []
  res := .val (.one (.bool))
  outs := []
  m := fun d dh => watershedkit_SameBytes d.1 d.2.1
  ok := ce_ok mixedP Try.func18 (by kernel_rfl) (orcOf_ok watershedkit_SameBytes_tb) (dr := watershedkit_SameBytes_dr) (lps := lpsOf watershedkit_SameBytes_lt) (lps_fn (lps_of (n := 1) (by kernel_rfl) fun i hi => match i, hi with | 0, _ => lp_ok (E := watershedkit_SameBytes_e1) (by kernel_rfl) watershedkit_SameBytes_e1_ok)) (fun d dh => by kernel_rfl)

def watershedkit_KeptLines_dr : Nat → DrA
  | 7 => ⟨[0, 1, 2, 3, 4, 5, 6, 7, 9, 10, 11, 8, 12, 13, 14, 15, 16, 17, 18, 19, 20, 21, 22, 23, 24, 26, 27, 28, 29, 25, 30, 31, 32, 33, 34], [[], [], [1], [0, 1, 2], [0, 1, 2, 3], [0, 1, 2, 3, 4], [0, 1, 2, 3, 4], [0, 1, 2, 3, 4, 5, 6], [0, 1, 2, 3, 4, 5, 6, 7], [0, 1, 2, 3, 4], [0, 1, 2, 3, 4], [0, 1, 2, 3, 4, 9, 10], [0, 1, 2, 3, 4, 9, 10, 11], [0, 1, 2, 3, 4, 5, 6, 7, 8, 9, 10, 11, 12], [0, 1, 2, 3, 4, 5, 6, 7, 8, 9, 10, 11, 12, 13], [0, 1, 2, 3, 4, 5, 6, 7, 8, 9, 10, 11, 12, 13, 14], [0, 1, 2, 3, 4, 5, 6, 7, 8, 9, 10, 11, 12, 13, 14, 15], [0, 1, 2, 3, 4, 5, 6, 7, 8, 9, 10, 11, 12, 13, 14, 15, 16], [0, 1, 2, 3, 4, 5, 6, 7, 8, 9, 10, 11, 12, 13, 14, 15, 16], [0, 1, 2, 3, 4, 5, 6, 7, 8, 9, 10, 11, 12, 13, 14, 15, 16, 18], [0, 1, 2, 3, 4, 5, 6, 7, 8, 9, 10, 11, 12, 13, 14, 15, 16, 17, 18, 19], [0, 1, 2, 3, 4, 5, 6, 7, 8, 9, 10, 11, 12, 13, 14, 15, 16, 17, 18, 19, 20], [0, 1, 2, 3, 4, 5, 6, 7, 8, 9, 10, 11, 12, 13, 14, 15, 16, 17, 18, 19, 20, 21], [0, 1, 2, 3, 4, 5, 6, 7, 8, 9, 10, 11, 12, 13, 14, 15, 16, 17, 18, 19, 20, 21], [0, 1, 2, 3, 4, 5, 6, 7, 8, 9, 10, 11, 12, 13, 14, 15, 16, 17, 18, 19, 20, 21, 22, 23], [0, 1, 2, 3, 4, 5, 6, 7, 8, 9, 10, 11, 12, 13, 14, 15, 16, 17, 18, 19, 20, 21, 22, 23, 24], [0, 1, 2, 3, 4, 5, 6, 7, 8, 9, 10, 11, 12, 13, 14, 15, 16, 17, 18, 19, 20, 21], [0, 1, 2, 3, 4, 5, 6, 7, 8, 9, 10, 11, 12, 13, 14, 15, 16, 17, 18, 19, 20, 21], [0, 1, 2, 3, 4, 5, 6, 7, 8, 9, 10, 11, 12, 13, 14, 15, 16, 17, 18, 19, 20, 21, 27], [0, 1, 2, 3, 4, 5, 6, 7, 8, 9, 10, 11, 12, 13, 14, 15, 16, 17, 18, 19, 20, 21, 26, 27, 28], [0, 1, 2, 3, 4, 5, 6, 7, 8, 9, 10, 11, 12, 13, 14, 15, 16, 17, 18, 19, 20, 21, 26, 27, 28, 29], [0, 1, 2, 3, 4, 5, 6, 7, 8, 9, 10, 11, 12, 13, 14, 15, 16, 17, 18, 19, 20, 21, 22, 23, 24, 25, 26, 27, 28, 29, 30], [0, 1, 2, 3, 4, 5, 6, 7, 8, 9, 10, 11, 12, 13, 14, 15, 16, 17, 18, 19, 20, 21, 22, 23, 24, 25, 26, 27, 28, 29, 30, 31], [0, 1, 2, 3, 4, 5, 6, 7, 8, 9, 10, 11, 12, 13, 14, 15, 16, 17, 18, 19, 20, 21, 22, 23, 24, 25, 26, 27, 28, 29, 30, 31, 32], [0, 1, 2, 3, 4, 5, 6, 7, 8, 9, 10, 11, 12, 13, 14, 15, 16, 17, 18, 19, 20, 21, 22, 23, 24, 25, 26, 27, 28, 29, 30, 31, 32, 33]], [25], [30], [], false, []⟩
  | _ => ⟨[], [], [], [], [], false, []⟩
noncomputable def watershedkit_KeptLines_tb : List (CE CT Try.prog) := [watershedkit_markRow_ce]
noncomputable def watershedkit_KeptLines_l1 (a : ((List (DRow)) × (List (DRow)) × (Int) × Unit) × (Unit)) : Option ((((List (DRow)) × (List (DRow)) × (Int) × Unit) × (Unit)) ⊕ ((((Bool) × Unit) × (Unit)) ⊕ ((Unit) × (Unit)))) :=
  (bif (decide ((a.1.2.2.1 : Int) < (a.1.2.1.length : Int))) then
  (bif (decide ((a.1.2.2.1 : Int) < (a.1.1.length : Int))) then
  (getI a.1.2.1 a.1.2.2.1).bind fun e1 =>
  (getI a.1.1 a.1.2.2.1).bind fun e2 =>
  (bif (!(decide (e1.key = e2.key) && (decide (e1.value = e2.value) && true))) then
  some (.inr (.inl ((false, ()), ())))
  else
  (bif (decide (((a.1.1.length : Int) : Int) ≤ a.1.2.2.1)) then
  (getI a.1.2.1 a.1.2.2.1).bind fun e3 =>
  (watershedkit_markRow 1 (IntKind.i64.wrap (a.1.2.2.1 - (a.1.1.length : Int)))).bind fun r4 =>
  (bif (!(decide (e3.key = r4.1.key) && (decide (e3.value = r4.1.value) && true))) then
  some (.inr (.inl ((false, ()), ())))
  else
  some (.inl ((a.1.1, a.1.2.1, (IntKind.i64.wrap (a.1.2.2.1 + 1)), ()), ())))
  else
  some (.inl ((a.1.1, a.1.2.1, (IntKind.i64.wrap (a.1.2.2.1 + 1)), ()), ()))))
  else
  (bif (decide (((a.1.1.length : Int) : Int) ≤ a.1.2.2.1)) then
  (getI a.1.2.1 a.1.2.2.1).bind fun e5 =>
  (watershedkit_markRow 1 (IntKind.i64.wrap (a.1.2.2.1 - (a.1.1.length : Int)))).bind fun r6 =>
  (bif (!(decide (e5.key = r6.1.key) && (decide (e5.value = r6.1.value) && true))) then
  some (.inr (.inl ((false, ()), ())))
  else
  some (.inl ((a.1.1, a.1.2.1, (IntKind.i64.wrap (a.1.2.2.1 + 1)), ()), ())))
  else
  some (.inl ((a.1.1, a.1.2.1, (IntKind.i64.wrap (a.1.2.2.1 + 1)), ()), ()))))
  else
  some (.inr (.inr ((), ()))))
noncomputable def watershedkit_KeptLines_e1 : LE CT Try.prog := ⟨5, [1, 5, 6], [.one (.sl 3), .one (.sl 3), .one (.int .i64)], [], [⟨.ret, [4], [.one (.bool)], []⟩, ⟨.exit 0, [], [], []⟩], watershedkit_KeptLines_l1⟩
noncomputable def watershedkit_KeptLines_lt : List (LE CT Try.prog) := [watershedkit_KeptLines_e1]
theorem watershedkit_KeptLines_e1_ok : LeOk watershedkit_KeptLines_e1 (nthL (bodyOf Try.f20) 0) := fun A env h k z hk => le_ok (E := watershedkit_KeptLines_e1) (orcOf_ok watershedkit_KeptLines_tb) (dr := watershedkit_KeptLines_dr) (lps := lpsOf watershedkit_KeptLines_lt) (no_loop (by kernel_rfl)) (fun a => by kernel_rfl) env h k z hk
noncomputable def watershedkit_KeptLines (x0 : List (DRow) × List (DRow)) (x1 : List (DRow)) : Option ((Bool) × (Unit)) :=
  (bif (decide (((x0.1.length : Int) : Int) ≠ (x1.length : Int))) then
  some (false, ())
  else
  (if 0 ≤ ((0 : Int) : Int) ∧ ((0 : Int) : Int) ≤ (IntKind.i64.wrap ((x1.length : Int) + 12)) ∧ (IntKind.i64.wrap ((x1.length : Int) + 12)) ≤ ((x0.1 ++ x0.2).length : Int) then
  let y1 : List (DRow) := (((x0.1 ++ x0.2).drop ((0 : Int) : Int).toNat).take (((IntKind.i64.wrap ((x1.length : Int) + 12)) : Int).toNat - ((0 : Int) : Int).toNat))
  (loopM watershedkit_KeptLines_l1 ((x1, y1, 0, ()), ())).bind fun b2 =>
  (match b2 with
  | .inl b3 =>
  some (b3.1.1, ())
  | .inr b4 =>
  some (true, ()))
  else none))
noncomputable def watershedkit_KeptLines_ce : CE CT Try.prog where
  f := 20
  args := [.one (.slx 3), .one (.sl 3)]
  hs := []
  res := .val (.one (.bool))
  outs := []
  m := fun d dh => watershedkit_KeptLines d.1 d.2.1
  ok := ce_ok mixedP Try.func20 (by kernel_rfl) (orcOf_ok watershedkit_KeptLines_tb) (dr := watershedkit_KeptLines_dr) (lps := lpsOf watershedkit_KeptLines_lt) (lps_fn (lps_of (n := 1) (by kernel_rfl) fun i hi => match i, hi with | 0, _ => lp_ok (E := watershedkit_KeptLines_e1) (by kernel_rfl) watershedkit_KeptLines_e1_ok)) (fun d dh => by kernel_rfl)

def wire_NewReader_dr : Nat → DrA
  | _ => ⟨[], [], [], [], [], false, []⟩
noncomputable def wire_NewReader_tb : List (CE CT Try.prog) := [clone42_ce]
noncomputable def wire_NewReader_lt : List (LE CT Try.prog) := []
noncomputable def wire_NewReader (x0 : List (UInt8)) : Option ((Unit) × (((Bool) × (Bool) × (List (UInt8)) × Unit) × (Unit) × Unit)) :=
  (clone42 x0).bind fun r1 =>
  some ((), ((true, false, r1.1, ()), (), ()))
noncomputable def wire_NewReader_ce : CE CT Try.prog where
  f := 21
  args := [.one (.sl 1)]
  hs := []
  res := .val (.one (.ptr 0 0))
  outs := [.obj 92 [.bool, .bool, .own 1 1], .row 5 1]
  m := fun d dh => wire_NewReader d.1
  ok := ce_ok mixedP Try.func21 (by kernel_rfl) (orcOf_ok wire_NewReader_tb) (dr := wire_NewReader_dr) (lps := lpsOf wire_NewReader_lt) (lps_fn (no_loop (by kernel_rfl))) (fun d dh => by kernel_rfl)

def wire_on_dr : Nat → DrA
  | _ => ⟨[], [], [], [], [], false, []⟩
noncomputable def wire_on_tb : List (CE CT Try.prog) := []
noncomputable def wire_on_lt : List (LE CT Try.prog) := []
noncomputable def wire_on (h0 : (Bool) × (Bool) × (List (UInt8)) × Unit) : Option ((Bool) × (((Bool) × (Bool) × (List (UInt8)) × Unit) × (Unit) × (Unit) × Unit)) :=
  (bif h0.1 then
  some ((!h0.2.1), ((h0.1, h0.2.1, h0.2.2.1, ()), (), (), ()))
  else
  some (false, ((h0.1, h0.2.1, h0.2.2.1, ()), (), (), ())))
noncomputable def wire_on_ce : CE CT Try.prog where
  f := 53
  args := [.one (.ptr 0 0)]
  hs := [.obj 92 [.bool, .bool, .own 1 1], .row 5 1]
  res := .val (.one (.bool))
  outs := [.obj 92 [.bool, .bool, .own 1 2], .dead, .row 5 1]
  m := fun d dh => wire_on dh.1
  ok := ce_ok mixedP Try.func53 (by kernel_rfl) (orcOf_ok wire_on_tb) (dr := wire_on_dr) (lps := lpsOf wire_on_lt) (lps_fn (no_loop (by kernel_rfl))) (fun d dh => by kernel_rfl)

def wire_fail_2_dr : Nat → DrA
  | _ => ⟨[], [], [], [], [], false, []⟩
noncomputable def wire_fail_2_tb : List (CE CT Try.prog) := []
noncomputable def wire_fail_2_lt : List (LE CT Try.prog) := []
noncomputable def wire_fail_2 (h0 : DReader) : Option ((Unit) × (((Bool) × (Bool) × (List (UInt8)) × Unit) × (Unit) × Unit)) :=
  some ((), ((h0.place.made, true, [], ()), (), ()))
noncomputable def wire_fail_2_ce : CE CT Try.prog where
  f := 73
  args := [.one (.ptr 0 0)]
  hs := [.cobj 92 13]
  res := .tup []
  outs := [.obj 92 [.bool, .bool, .own 1 1], .row 5 1]
  m := fun d dh => wire_fail_2 dh.1
  ok := ce_ok mixedP Try.func73 (by kernel_rfl) (orcOf_ok wire_fail_2_tb) (dr := wire_fail_2_dr) (lps := lpsOf wire_fail_2_lt) (lps_fn (no_loop (by kernel_rfl))) (fun d dh => by kernel_rfl)

def wire_take_2_dr : Nat → DrA
  | _ => ⟨[], [], [], [], [], false, []⟩
noncomputable def wire_take_2_tb : List (CE CT Try.prog) := [wire_fail_2_ce]
noncomputable def wire_take_2_lt : List (LE CT Try.prog) := []
noncomputable def wire_take_2 (x1 : Int) (h0 : DReader) : Option ((List (UInt8)) × ((DReader) × Unit)) :=
  (bif (decide (((h0.place.left.length : Int) : Int) < x1)) then
  (wire_fail_2 h0).bind fun r1 =>
  some ([], ((⟨(⟨r1.2.1.1, r1.2.1.2.1, r1.2.1.2.2.1⟩ : DPlace)⟩ : DReader), ()))
  else
  (if 0 ≤ ((0 : Int) : Int) ∧ ((0 : Int) : Int) ≤ x1 ∧ (x1 : Int) ≤ x1 ∧ x1 ≤ (h0.place.left.length : Int) then
  let y2 : List (UInt8) := ((h0.place.left.drop ((0 : Int) : Int).toNat).take ((x1 : Int).toNat - ((0 : Int) : Int).toNat))
  (if 0 ≤ (x1 : Int) ∧ (x1 : Int) ≤ (h0.place.left.length : Int) ∧ (h0.place.left.length : Int) ≤ (h0.place.left.length : Int) then
  let y3 : List (UInt8) := ((h0.place.left.drop (x1 : Int).toNat).take (((h0.place.left.length : Int) : Int).toNat - (x1 : Int).toNat))
  some (y2, ((⟨(⟨h0.place.made, h0.place.failed, y3⟩ : DPlace)⟩ : DReader), ()))
  else none)
  else none))
noncomputable def wire_take_2_ce : CE CT Try.prog where
  f := 72
  args := [.one (.ptr 0 0), .one (.int .i64)]
  hs := [.cobj 92 13]
  res := .val (.one (.sl 1))
  outs := [.cobj 92 13]
  m := fun d dh => wire_take_2 d.2.1 dh.1
  ok := ce_ok mixedP Try.func72 (by kernel_rfl) (orcOf_ok wire_take_2_tb) (dr := wire_take_2_dr) (lps := lpsOf wire_take_2_lt) (lps_fn (no_loop (by kernel_rfl))) (fun d dh => by kernel_rfl)

def wire_Number_dr : Nat → DrA
  | _ => ⟨[], [], [], [], [], false, []⟩
noncomputable def wire_Number_tb : List (CE CT Try.prog) := [wire_on_ce, wire_take_2_ce, wire_fail_2_ce]
noncomputable def wire_Number_l1 (a : ((Unit) × (Int) × (Int) × (Int) × Unit) × ((DReader) × Unit)) : Option ((((Unit) × (Int) × (Int) × (Int) × Unit) × ((DReader) × Unit)) ⊕ ((((Int) × Unit) × ((DReader) × Unit)) ⊕ (((Unit) × Unit) × ((DReader) × Unit)))) :=
  (bif (decide ((a.1.2.2.2.1 : Int) < 63)) then
  (wire_take_2 1 a.2.1).bind fun r1 =>
  (bif r1.2.1.place.failed then
  some (.inr (.inl ((0, ()), (r1.2.1, ()))))
  else
  (getI r1.1 0).bind fun e2 =>
  (if (a.1.2.2.2.1 : Int) < 0 then none else
  let y3 : Int := (IntKind.i64.wrap ((BitVec.ofInt (IntKind.i64.bits) a.1.2.2.1 ||| BitVec.ofInt (IntKind.i64.bits) (IntKind.i64.wrap ((IntKind.i64.wrap (IntKind.u8.wrap ((BitVec.ofInt (IntKind.u8.bits) (e2.toNat : Int) &&& BitVec.ofInt (IntKind.u8.bits) 127).toNat))) * 2 ^ min (a.1.2.2.2.1 : Int).toNat (IntKind.i64.bits)))).toNat))
  (getI r1.1 0).bind fun e4 =>
  (bif (decide (((e4.toNat : Int) : Int) < 128)) then
  (bif (decide ((0 : Int) < a.1.2.2.2.1)) then
  (getI r1.1 0).bind fun e5 =>
  (bif (decide (((e5.toNat : Int) : Int) = 0)) then
  (wire_fail_2 r1.2.1).bind fun r6 =>
  some (.inr (.inl ((0, ()), ((⟨(⟨r6.2.1.1, r6.2.1.2.1, r6.2.1.2.2.1⟩ : DPlace)⟩ : DReader), ()))))
  else
  (bif (decide ((4611686018427387903 : Int) < y3)) then
  (wire_fail_2 r1.2.1).bind fun r7 =>
  some (.inr (.inl ((0, ()), ((⟨(⟨r7.2.1.1, r7.2.1.2.1, r7.2.1.2.2.1⟩ : DPlace)⟩ : DReader), ()))))
  else
  (bif (decide ((a.1.2.1 : Int) < y3)) then
  (wire_fail_2 r1.2.1).bind fun r8 =>
  some (.inr (.inl ((0, ()), ((⟨(⟨r8.2.1.1, r8.2.1.2.1, r8.2.1.2.2.1⟩ : DPlace)⟩ : DReader), ()))))
  else
  some (.inr (.inl ((y3, ()), (r1.2.1, ())))))))
  else
  (bif (decide ((4611686018427387903 : Int) < y3)) then
  (wire_fail_2 r1.2.1).bind fun r9 =>
  some (.inr (.inl ((0, ()), ((⟨(⟨r9.2.1.1, r9.2.1.2.1, r9.2.1.2.2.1⟩ : DPlace)⟩ : DReader), ()))))
  else
  (bif (decide ((a.1.2.1 : Int) < y3)) then
  (wire_fail_2 r1.2.1).bind fun r10 =>
  some (.inr (.inl ((0, ()), ((⟨(⟨r10.2.1.1, r10.2.1.2.1, r10.2.1.2.2.1⟩ : DPlace)⟩ : DReader), ()))))
  else
  some (.inr (.inl ((y3, ()), (r1.2.1, ())))))))
  else
  some (.inl (((), a.1.2.1, y3, (IntKind.i64.wrap (a.1.2.2.2.1 + 7)), ()), (r1.2.1, ()))))))
  else
  some (.inr (.inr (((), ()), (a.2.1, ())))))
noncomputable def wire_Number_e1 : LE CT Try.prog := ⟨5, [0, 1, 5, 6], [.one (.ptr 0 0), .one (.int .i64), .one (.int .i64), .one (.int .i64)], [.cobj 92 13], [⟨.ret, [4], [.one (.int .i64)], [.cobj 92 13]⟩, ⟨.exit 0, [0], [.one (.ptr 0 0)], [.cobj 92 13]⟩], wire_Number_l1⟩
noncomputable def wire_Number_lt : List (LE CT Try.prog) := [wire_Number_e1]
theorem wire_Number_e1_ok : LeOk wire_Number_e1 (nthL (bodyOf Try.f44) 0) := fun A env h k z hk => le_ok (E := wire_Number_e1) (orcOf_ok wire_Number_tb) (dr := wire_Number_dr) (lps := lpsOf wire_Number_lt) (no_loop (by kernel_rfl)) (fun a => by kernel_rfl) env h k z hk
noncomputable def wire_Number (x1 : Int) (h0 : (Bool) × (Bool) × (List (UInt8)) × Unit) : Option ((Int) × ((DReader) × (Unit) × Unit)) :=
  (wire_on (h0.1, h0.2.1, h0.2.2.1, ())).bind fun r1 =>
  (bif (!r1.1) then
  some (0, ((⟨(⟨r1.2.1.1, r1.2.1.2.1, r1.2.1.2.2.1⟩ : DPlace)⟩ : DReader), (), ()))
  else
  (loopM wire_Number_l1 (((), x1, 0, 0, ()), ((⟨(⟨r1.2.1.1, r1.2.1.2.1, r1.2.1.2.2.1⟩ : DPlace)⟩ : DReader), ()))).bind fun b2 =>
  (match b2 with
  | .inl b3 =>
  some (b3.1.1, (b3.2.1, (), ()))
  | .inr b4 =>
  (wire_fail_2 b4.2.1).bind fun r5 =>
  some (0, ((⟨(⟨r5.2.1.1, r5.2.1.2.1, r5.2.1.2.2.1⟩ : DPlace)⟩ : DReader), (), ()))))
noncomputable def wire_Number_ce : CE CT Try.prog where
  f := 44
  args := [.one (.ptr 0 0), .one (.int .i64)]
  hs := [.obj 92 [.bool, .bool, .own 1 1], .row 5 1]
  res := .val (.one (.int .i64))
  outs := [.cobj 92 13, .dead]
  m := fun d dh => wire_Number d.2.1 dh.1
  ok := ce_ok mixedP Try.func44 (by kernel_rfl) (orcOf_ok wire_Number_tb) (dr := wire_Number_dr) (lps := lpsOf wire_Number_lt) (lps_fn (lps_of (n := 1) (by kernel_rfl) fun i hi => match i, hi with | 0, _ => lp_ok (E := wire_Number_e1) (by kernel_rfl) wire_Number_e1_ok)) (fun d dh => by kernel_rfl)

def wire_on_2_dr : Nat → DrA
  | _ => ⟨[], [], [], [], [], false, []⟩
noncomputable def wire_on_2_tb : List (CE CT Try.prog) := []
noncomputable def wire_on_2_lt : List (LE CT Try.prog) := []
noncomputable def wire_on_2 (h0 : DReader) : Option ((Bool) × ((DReader) × Unit)) :=
  (bif h0.place.made then
  some ((!h0.place.failed), (h0, ()))
  else
  some (false, (h0, ())))
noncomputable def wire_on_2_ce : CE CT Try.prog where
  f := 53
  args := [.one (.ptr 0 0)]
  hs := [.cobj 92 13]
  res := .val (.one (.bool))
  outs := [.cobj 92 13]
  m := fun d dh => wire_on_2 dh.1
  ok := ce_ok mixedP Try.func53 (by kernel_rfl) (orcOf_ok wire_on_2_tb) (dr := wire_on_2_dr) (lps := lpsOf wire_on_2_lt) (lps_fn (no_loop (by kernel_rfl))) (fun d dh => by kernel_rfl)

def wire_Left_dr : Nat → DrA
  | _ => ⟨[], [], [], [], [], false, []⟩
noncomputable def wire_Left_tb : List (CE CT Try.prog) := [wire_on_2_ce]
noncomputable def wire_Left_lt : List (LE CT Try.prog) := []
noncomputable def wire_Left (h0 : DReader) : Option ((Int) × ((DReader) × Unit)) :=
  (wire_on_2 h0).bind fun r1 =>
  (bif (!r1.1) then
  some (0, (r1.2.1, ()))
  else
  some ((r1.2.1.place.left.length : Int), (r1.2.1, ())))
noncomputable def wire_Left_ce : CE CT Try.prog where
  f := 24
  args := [.one (.ptr 0 0)]
  hs := [.cobj 92 13]
  res := .val (.one (.int .i64))
  outs := [.cobj 92 13]
  m := fun d dh => wire_Left dh.1
  ok := ce_ok mixedP Try.func24 (by kernel_rfl) (orcOf_ok wire_Left_tb) (dr := wire_Left_dr) (lps := lpsOf wire_Left_lt) (lps_fn (no_loop (by kernel_rfl))) (fun d dh => by kernel_rfl)

def wire_End_dr : Nat → DrA
  | _ => ⟨[], [], [], [], [], false, []⟩
noncomputable def wire_End_tb : List (CE CT Try.prog) := []
noncomputable def wire_End_lt : List (LE CT Try.prog) := []
noncomputable def wire_End (h0 : DReader) : Option ((Int) × ((DReader) × Unit)) :=
  (bif (!h0.place.made) then
  some (1, (h0, ()))
  else
  (bif h0.place.failed then
  some (4, (h0, ()))
  else
  (bif (decide ((0 : Int) < (h0.place.left.length : Int))) then
  some (4, (h0, ()))
  else
  some (0, (h0, ())))))
noncomputable def wire_End_ce : CE CT Try.prog where
  f := 46
  args := [.one (.ptr 0 0)]
  hs := [.cobj 92 13]
  res := .val (.one (.int .i64))
  outs := [.cobj 92 13]
  m := fun d dh => wire_End dh.1
  ok := ce_ok mixedP Try.func46 (by kernel_rfl) (orcOf_ok wire_End_tb) (dr := wire_End_dr) (lps := lpsOf wire_End_lt) (lps_fn (no_loop (by kernel_rfl))) (fun d dh => by kernel_rfl)

def rows_Read1_dr : Nat → DrA
  | _ => ⟨[], [], [], [], [], false, []⟩
noncomputable def rows_Read1_tb : List (CE CT Try.prog) := [wire_Left_ce, wire_End_ce]
noncomputable def rows_Read1_lt : List (LE CT Try.prog) := []
noncomputable def rows_Read1 (h0 : (Unit) × Unit) (h1 : DReader) : Option ((Bool) × (((Unit) × Unit) × (DReader) × Unit)) :=
  (wire_Left h1).bind fun r1 =>
  (bif (decide ((r1.1 : Int) = 0)) then
  (wire_End r1.2.1).bind fun r2 =>
  some ((decide ((r2.1 : Int) ≠ 0)), (((), ()), r2.2.1, ()))
  else
  some (false, (((), ()), r1.2.1, ())))
noncomputable def rows_Read1_ce : CE CT Try.prog where
  f := 45
  args := [.one (.ptr 0 0)]
  hs := [.obj 49 [.ptr 1 0], .cobj 92 13]
  res := .val (.one (.bool))
  outs := [.obj 49 [.ptr 1 0], .cobj 92 13]
  m := fun d dh => rows_Read1 dh.1 dh.2.1
  ok := ce_ok mixedP Try.func45 (by kernel_rfl) (orcOf_ok rows_Read1_tb) (dr := rows_Read1_dr) (lps := lpsOf rows_Read1_lt) (lps_fn (no_loop (by kernel_rfl))) (fun d dh => by kernel_rfl)

def wire_Number_2_dr : Nat → DrA
  | _ => ⟨[], [], [], [], [], false, []⟩
noncomputable def wire_Number_2_tb : List (CE CT Try.prog) := [wire_on_2_ce, wire_take_2_ce, wire_fail_2_ce]
noncomputable def wire_Number_2_l1 (a : ((Unit) × (Int) × (Int) × (Int) × Unit) × ((DReader) × Unit)) : Option ((((Unit) × (Int) × (Int) × (Int) × Unit) × ((DReader) × Unit)) ⊕ ((((Int) × Unit) × ((DReader) × Unit)) ⊕ (((Unit) × Unit) × ((DReader) × Unit)))) :=
  (bif (decide ((a.1.2.2.2.1 : Int) < 63)) then
  (wire_take_2 1 a.2.1).bind fun r1 =>
  (bif r1.2.1.place.failed then
  some (.inr (.inl ((0, ()), (r1.2.1, ()))))
  else
  (getI r1.1 0).bind fun e2 =>
  (if (a.1.2.2.2.1 : Int) < 0 then none else
  let y3 : Int := (IntKind.i64.wrap ((BitVec.ofInt (IntKind.i64.bits) a.1.2.2.1 ||| BitVec.ofInt (IntKind.i64.bits) (IntKind.i64.wrap ((IntKind.i64.wrap (IntKind.u8.wrap ((BitVec.ofInt (IntKind.u8.bits) (e2.toNat : Int) &&& BitVec.ofInt (IntKind.u8.bits) 127).toNat))) * 2 ^ min (a.1.2.2.2.1 : Int).toNat (IntKind.i64.bits)))).toNat))
  (getI r1.1 0).bind fun e4 =>
  (bif (decide (((e4.toNat : Int) : Int) < 128)) then
  (bif (decide ((0 : Int) < a.1.2.2.2.1)) then
  (getI r1.1 0).bind fun e5 =>
  (bif (decide (((e5.toNat : Int) : Int) = 0)) then
  (wire_fail_2 r1.2.1).bind fun r6 =>
  some (.inr (.inl ((0, ()), ((⟨(⟨r6.2.1.1, r6.2.1.2.1, r6.2.1.2.2.1⟩ : DPlace)⟩ : DReader), ()))))
  else
  (bif (decide ((4611686018427387903 : Int) < y3)) then
  (wire_fail_2 r1.2.1).bind fun r7 =>
  some (.inr (.inl ((0, ()), ((⟨(⟨r7.2.1.1, r7.2.1.2.1, r7.2.1.2.2.1⟩ : DPlace)⟩ : DReader), ()))))
  else
  (bif (decide ((a.1.2.1 : Int) < y3)) then
  (wire_fail_2 r1.2.1).bind fun r8 =>
  some (.inr (.inl ((0, ()), ((⟨(⟨r8.2.1.1, r8.2.1.2.1, r8.2.1.2.2.1⟩ : DPlace)⟩ : DReader), ()))))
  else
  some (.inr (.inl ((y3, ()), (r1.2.1, ())))))))
  else
  (bif (decide ((4611686018427387903 : Int) < y3)) then
  (wire_fail_2 r1.2.1).bind fun r9 =>
  some (.inr (.inl ((0, ()), ((⟨(⟨r9.2.1.1, r9.2.1.2.1, r9.2.1.2.2.1⟩ : DPlace)⟩ : DReader), ()))))
  else
  (bif (decide ((a.1.2.1 : Int) < y3)) then
  (wire_fail_2 r1.2.1).bind fun r10 =>
  some (.inr (.inl ((0, ()), ((⟨(⟨r10.2.1.1, r10.2.1.2.1, r10.2.1.2.2.1⟩ : DPlace)⟩ : DReader), ()))))
  else
  some (.inr (.inl ((y3, ()), (r1.2.1, ())))))))
  else
  some (.inl (((), a.1.2.1, y3, (IntKind.i64.wrap (a.1.2.2.2.1 + 7)), ()), (r1.2.1, ()))))))
  else
  some (.inr (.inr (((), ()), (a.2.1, ())))))
noncomputable def wire_Number_2_e1 : LE CT Try.prog := ⟨5, [0, 1, 5, 6], [.one (.ptr 0 0), .one (.int .i64), .one (.int .i64), .one (.int .i64)], [.cobj 92 13], [⟨.ret, [4], [.one (.int .i64)], [.cobj 92 13]⟩, ⟨.exit 0, [0], [.one (.ptr 0 0)], [.cobj 92 13]⟩], wire_Number_2_l1⟩
noncomputable def wire_Number_2_lt : List (LE CT Try.prog) := [wire_Number_2_e1]
theorem wire_Number_2_e1_ok : LeOk wire_Number_2_e1 (nthL (bodyOf Try.f44) 0) := fun A env h k z hk => le_ok (E := wire_Number_2_e1) (orcOf_ok wire_Number_2_tb) (dr := wire_Number_2_dr) (lps := lpsOf wire_Number_2_lt) (no_loop (by kernel_rfl)) (fun a => by kernel_rfl) env h k z hk
noncomputable def wire_Number_2 (x1 : Int) (h0 : DReader) : Option ((Int) × ((DReader) × Unit)) :=
  (wire_on_2 h0).bind fun r1 =>
  (bif (!r1.1) then
  some (0, (r1.2.1, ()))
  else
  (loopM wire_Number_2_l1 (((), x1, 0, 0, ()), (r1.2.1, ()))).bind fun b2 =>
  (match b2 with
  | .inl b3 =>
  some (b3.1.1, (b3.2.1, ()))
  | .inr b4 =>
  (wire_fail_2 b4.2.1).bind fun r5 =>
  some (0, ((⟨(⟨r5.2.1.1, r5.2.1.2.1, r5.2.1.2.2.1⟩ : DPlace)⟩ : DReader), ()))))
noncomputable def wire_Number_2_ce : CE CT Try.prog where
  f := 44
  args := [.one (.ptr 0 0), .one (.int .i64)]
  hs := [.cobj 92 13]
  res := .val (.one (.int .i64))
  outs := [.cobj 92 13]
  m := fun d dh => wire_Number_2 d.2.1 dh.1
  ok := ce_ok mixedP Try.func44 (by kernel_rfl) (orcOf_ok wire_Number_2_tb) (dr := wire_Number_2_dr) (lps := lpsOf wire_Number_2_lt) (lps_fn (lps_of (n := 1) (by kernel_rfl) fun i hi => match i, hi with | 0, _ => lp_ok (E := wire_Number_2_e1) (by kernel_rfl) wire_Number_2_e1_ok)) (fun d dh => by kernel_rfl)

def wire_Row_dr : Nat → DrA
  | _ => ⟨[], [], [], [], [], false, []⟩
noncomputable def wire_Row_tb : List (CE CT Try.prog) := [wire_Number_2_ce, wire_on_2_ce, wire_take_2_ce, clone42_ce]
noncomputable def wire_Row_lt : List (LE CT Try.prog) := []
noncomputable def wire_Row (x1 : Int) (h0 : DReader) : Option ((List (UInt8)) × ((DReader) × (Unit) × Unit)) :=
  (wire_Number_2 x1 h0).bind fun r1 =>
  (wire_on_2 r1.2.1).bind fun r2 =>
  (bif (!r2.1) then
  some ([], (r2.2.1, (), ()))
  else
  (wire_take_2 r1.1 r2.2.1).bind fun r3 =>
  (clone42 r3.1).bind fun r4 =>
  some (r4.1, (r3.2.1, (), ())))
noncomputable def wire_Row_ce : CE CT Try.prog where
  f := 74
  args := [.one (.ptr 0 0), .one (.int .i64)]
  hs := [.cobj 92 13]
  res := .val (.one (.own 1 1))
  outs := [.cobj 92 13, .row 5 1]
  m := fun d dh => wire_Row d.2.1 dh.1
  ok := ce_ok mixedP Try.func74 (by kernel_rfl) (orcOf_ok wire_Row_tb) (dr := wire_Row_dr) (lps := lpsOf wire_Row_lt) (lps_fn (no_loop (by kernel_rfl))) (fun d dh => by kernel_rfl)

def wire_Text_dr : Nat → DrA
  | _ => ⟨[], [], [], [], [], false, []⟩
noncomputable def wire_Text_tb : List (CE CT Try.prog) := [wire_Row_ce]
noncomputable def wire_Text_lt : List (LE CT Try.prog) := []
noncomputable def wire_Text (x1 : Int) (h0 : DReader) : Option ((List UInt8) × ((DReader) × Unit)) :=
  (wire_Row x1 h0).bind fun r1 =>
  some (r1.1, (r1.2.1, ()))
noncomputable def wire_Text_ce : CE CT Try.prog where
  f := 49
  args := [.one (.ptr 0 0), .one (.int .i64)]
  hs := [.cobj 92 13]
  res := .val (.one (.str))
  outs := [.cobj 92 13]
  m := fun d dh => wire_Text d.2.1 dh.1
  ok := ce_ok mixedP Try.func49 (by kernel_rfl) (orcOf_ok wire_Text_tb) (dr := wire_Text_dr) (lps := lpsOf wire_Text_lt) (lps_fn (no_loop (by kernel_rfl))) (fun d dh => by kernel_rfl)

def rows_Read2_dr : Nat → DrA
  | 4 => ⟨[0, 1, 2, 3, 4, 5, 6, 7, 8, 9], [[], [], [1], [1, 2], [1, 2, 3], [1, 2, 3, 4], [1, 2, 3, 4, 5], [1, 2, 3, 4, 5, 6], [0, 1, 2, 3, 4, 5, 6], [0, 1, 2, 3, 4, 5, 6, 7, 8]], [0], [2, 6], [4], false, []⟩
  | _ => ⟨[], [], [], [], [], false, []⟩
noncomputable def rows_Read2_tb : List (CE CT Try.prog) := [wire_Text_ce, rows_Read1_ce, rows_right_ce]
noncomputable def rows_Read2_lt : List (LE CT Try.prog) := []
noncomputable def rows_Read2 (h0 : (Unit) × Unit) (h1 : (Unit) × Unit) (h2 : DReader) : Option (((DRow) × (Bool) × Unit) × (((Unit) × Unit) × ((Unit) × Unit) × (DReader) × Unit)) :=
  (wire_Text 20 h2).bind fun r1 =>
  (wire_Text 20 r1.2.1).bind fun r2 =>
  (rows_Read1 ((), ()) r2.2.1).bind fun r3 =>
  (bif (!r3.1) then
  (rows_right (⟨r1.1, r2.1⟩ : DRow)).bind fun r4 =>
  some (((⟨r1.1, r2.1⟩ : DRow), r4.1, ()), (((), ()), ((), ()), r3.2.2.1, ()))
  else
  some (((⟨r1.1, r2.1⟩ : DRow), false, ()), (((), ()), ((), ()), r3.2.2.1, ())))
noncomputable def rows_Read2_ce : CE CT Try.prog where
  f := 48
  args := [.one (.ptr 0 0), .one (.ptr 1 0)]
  hs := [.obj 49 [.ptr 2 0], .obj 23 [.clo 45 [0]], .cobj 92 13]
  res := .tup [.cod 3, .one (.bool)]
  outs := [.obj 49 [.ptr 2 0], .obj 23 [.clo 45 [0]], .cobj 92 13]
  m := fun d dh => rows_Read2 dh.1 dh.2.1 dh.2.2.1
  ok := ce_ok mixedP Try.func48 (by kernel_rfl) (orcOf_ok rows_Read2_tb) (dr := rows_Read2_dr) (lps := lpsOf rows_Read2_lt) (lps_fn (no_loop (by kernel_rfl))) (fun d dh => by kernel_rfl)

def rows_read_dr : Nat → DrA
  | 5 => ⟨[0, 1, 2, 3, 4, 5, 6, 7, 8, 9, 10, 11, 12, 14, 13, 15, 16, 17, 18], [[], [0], [0, 1], [0, 1, 2], [0, 1, 2, 3], [0, 1, 2, 3, 4], [0, 1, 2, 3, 4, 5], [0, 1, 2, 3, 4, 5, 6], [0, 1, 2, 3, 4, 5, 6], [0, 1, 2, 3, 4, 5, 6, 8], [0, 1, 2, 3, 4, 5, 6, 8, 9], [0, 1, 2, 3, 4, 5, 6, 7, 8, 9, 10], [0, 1, 2, 3, 4, 5, 6, 7, 8, 9, 10, 11], [0, 1, 2, 3, 4, 5, 6, 7, 8, 9, 10, 11, 12], [0, 1, 2, 3, 4, 5, 6], [0, 1, 2, 3, 4, 5, 6, 14], [0, 1, 2, 3, 4, 5, 6, 7, 8, 9, 10, 11, 12, 13, 14, 15], [0, 1, 2, 3, 4, 5, 6, 7, 8, 9, 10, 11, 12, 13, 14, 15, 16], [0, 1, 2, 3, 4, 5, 6, 7, 8, 9, 10, 11, 12, 13, 14, 15, 16, 17]], [], [], [], false, []⟩
  | _ => ⟨[], [], [], [], [], false, []⟩
noncomputable def rows_read_tb : List (CE CT Try.prog) := [rows_Read2_ce]
noncomputable def rows_read_l1 (a : ((Unit) × (List (DRow)) × (Int) × (Int) × Unit) × (((Unit) × Unit) × ((Unit) × Unit) × (DReader) × (Unit) × Unit)) : Option ((((Unit) × (List (DRow)) × (Int) × (Int) × Unit) × (((Unit) × Unit) × ((Unit) × Unit) × (DReader) × (Unit) × Unit)) ⊕ ((((Unit) × (Bool) × Unit) × (((Unit) × Unit) × ((Unit) × Unit) × (DReader) × (Unit) × Unit)) ⊕ (((List (DRow)) × Unit) × (((Unit) × Unit) × ((Unit) × Unit) × (DReader) × (Unit) × (Unit) × Unit)))) :=
  (bif (decide ((a.1.2.2.2.1 : Int) < a.1.2.2.1)) then
  (rows_Read2 ((), ()) ((), ()) a.2.2.2.1).bind fun r1 =>
  (bif (!r1.1.2.1) then
  some (.inr (.inl (((), false, ()), (((), ()), ((), ()), r1.2.2.2.1, (), ()))))
  else
  (bif (decide ((0 : Int) < (a.1.2.1.length : Int))) then
  (getI a.1.2.1 (IntKind.i64.wrap ((a.1.2.1.length : Int) - 1))).bind fun e2 =>
  (bif (!decide (e2.key < r1.1.1.key)) then
  some (.inr (.inl (((), false, ()), (((), ()), ((), ()), r1.2.2.2.1, (), ()))))
  else
  (if a.1.2.1.length + ([r1.1.1] : List (DRow)).length ≤ 140737488355328 ∧ (a.1.2.1.length + ([r1.1.1] : List (DRow)).length) * 32 ≤ 140737488355328 then
  some (.inl (((), (a.1.2.1 ++ ([r1.1.1] : List (DRow))), a.1.2.2.1, (IntKind.i64.wrap (a.1.2.2.2.1 + 1)), ()), (((), ()), ((), ()), r1.2.2.2.1, (), ())))
  else none))
  else
  (if a.1.2.1.length + ([r1.1.1] : List (DRow)).length ≤ 140737488355328 ∧ (a.1.2.1.length + ([r1.1.1] : List (DRow)).length) * 32 ≤ 140737488355328 then
  some (.inl (((), (a.1.2.1 ++ ([r1.1.1] : List (DRow))), a.1.2.2.1, (IntKind.i64.wrap (a.1.2.2.2.1 + 1)), ()), (((), ()), ((), ()), r1.2.2.2.1, (), ())))
  else none)))
  else
  some (.inr (.inr ((a.1.2.1, ()), (((), ()), ((), ()), a.2.2.2.1, (), (), ())))))
noncomputable def rows_read_e1 : LE CT Try.prog := ⟨3, [1, 6, 9, 10], [.one (.clo 48 [0, 1]), .one (.own 3 3), .one (.int .i64), .one (.int .i64)], [.obj 49 [.ptr 2 0], .obj 23 [.clo 45 [0]], .cobj 92 13, .row 32 2], [⟨.ret, [4, 5], [.one (.nil), .one (.bool)], [.obj 49 [.ptr 2 0], .obj 23 [.clo 45 [0]], .cobj 92 13, .dead]⟩, ⟨.exit 0, [6], [.one (.own 3 4)], [.obj 49 [.ptr 2 0], .obj 23 [.clo 45 [0]], .cobj 92 13, .dead, .row 32 2]⟩], rows_read_l1⟩
noncomputable def rows_read_lt : List (LE CT Try.prog) := [rows_read_e1]
theorem rows_read_e1_ok : LeOk rows_read_e1 (nthL (bodyOf Try.f47) 0) := fun A env h k z hk => le_ok (E := rows_read_e1) (orcOf_ok rows_read_tb) (dr := rows_read_dr) (lps := lpsOf rows_read_lt) (no_loop (by kernel_rfl)) (fun a => by kernel_rfl) env h k z hk
noncomputable def rows_read (x0 : Int) (h0 : (Unit) × Unit) (h1 : (Unit) × Unit) (h2 : DReader) : Option (((List (DRow)) × (Bool) × Unit) × (((Unit) × Unit) × ((Unit) × Unit) × (DReader) × (Unit) × Unit)) :=
  (loopM rows_read_l1 (((), [], x0, 0, ()), (((), ()), ((), ()), h2, (), ()))).bind fun b1 =>
  (match b1 with
  | .inl b2 =>
  some (([], b2.1.2.1, ()), (((), ()), ((), ()), b2.2.2.2.1, (), ()))
  | .inr b3 =>
  some ((b3.1.1, true, ()), (((), ()), ((), ()), b3.2.2.2.1, (), ())))
noncomputable def rows_read_ce : CE CT Try.prog where
  f := 47
  args := [.one (.int .i64), .one (.clo 48 [0, 1])]
  hs := [.obj 49 [.ptr 2 0], .obj 23 [.clo 45 [0]], .cobj 92 13]
  res := .tup [.one (.own 3 3), .one (.bool)]
  outs := [.obj 49 [.ptr 2 0], .obj 23 [.clo 45 [0]], .cobj 92 13, .row 32 2]
  m := fun d dh => rows_read d.1 dh.1 dh.2.1 dh.2.2.1
  ok := ce_ok mixedP Try.func47 (by kernel_rfl) (orcOf_ok rows_read_tb) (dr := rows_read_dr) (lps := lpsOf rows_read_lt) (lps_fn (lps_of (n := 1) (by kernel_rfl) fun i hi => match i, hi with | 0, _ => lp_ok (E := rows_read_e1) (by kernel_rfl) rows_read_e1_ok)) (fun d dh => by kernel_rfl)

def rows_Read_dr : Nat → DrA
  | _ => ⟨[], [], [], [], [], false, []⟩
noncomputable def rows_Read_tb : List (CE CT Try.prog) := [wire_Number_ce, rows_Read1_ce, rows_read_ce]
noncomputable def rows_Read_lt : List (LE CT Try.prog) := []
noncomputable def rows_Read (h0 : (Bool) × (Bool) × (List (UInt8)) × Unit) : Option (((List (DRow)) × (Bool) × Unit) × ((DReader) × (Unit) × (Unit) × Unit)) :=
  (wire_Number 400 (h0.1, h0.2.1, h0.2.2.1, ())).bind fun r1 =>
  (rows_Read1 ((), ()) r1.2.1).bind fun r2 =>
  (bif r2.1 then
  some (([], false, ()), (r2.2.2.1, (), (), ()))
  else
  (rows_read r1.1 ((), ()) ((), ()) r2.2.2.1).bind fun r3 =>
  some ((r3.1.1, r3.1.2.1, ()), (r3.2.2.2.1, (), (), ())))
noncomputable def rows_Read_ce : CE CT Try.prog where
  f := 22
  args := [.one (.ptr 0 0)]
  hs := [.obj 92 [.bool, .bool, .own 1 1], .row 5 1]
  res := .tup [.one (.own 3 2), .one (.bool)]
  outs := [.cobj 92 13, .dead, .row 32 2]
  m := fun d dh => rows_Read dh.1
  ok := ce_ok mixedP Try.func22 (by kernel_rfl) (orcOf_ok rows_Read_tb) (dr := rows_Read_dr) (lps := lpsOf rows_Read_lt) (lps_fn (no_loop (by kernel_rfl))) (fun d dh => by kernel_rfl)

def watershedref02_Get_dr : Nat → DrA
  | _ => ⟨[], [], [], [], [], false, []⟩
noncomputable def watershedref02_Get_tb : List (CE CT Try.prog) := []
noncomputable def watershedref02_Get_l1 (a : ((List (UInt8)) × (Int) × (Int) × Unit) × (Unit)) : Option ((((List (UInt8)) × (Int) × (Int) × Unit) × (Unit)) ⊕ ((((Int) × (Int) × Unit) × (Unit)) ⊕ ((Unit) × (Unit)))) :=
  (bif (decide ((a.1.2.2.1 : Int) < (a.1.1.length : Int))) then
  (bif (decide ((a.1.2.2.1 : Int) < 9)) then
  (getI a.1.1 a.1.2.2.1).bind fun e1 =>
  (if ((IntKind.u64.wrap (IntKind.i64.wrap (7 * a.1.2.2.1))) : Int) < 0 then none else
  let y2 : Int := (IntKind.i64.wrap ((BitVec.ofInt (IntKind.i64.bits) a.1.2.1 ||| BitVec.ofInt (IntKind.i64.bits) (IntKind.i64.wrap ((IntKind.i64.wrap (IntKind.u8.wrap ((BitVec.ofInt (IntKind.u8.bits) (e1.toNat : Int) &&& BitVec.ofInt (IntKind.u8.bits) 127).toNat))) * 2 ^ min ((IntKind.u64.wrap (IntKind.i64.wrap (7 * a.1.2.2.1))) : Int).toNat (IntKind.i64.bits)))).toNat))
  (getI a.1.1 a.1.2.2.1).bind fun e3 =>
  (bif (decide (((e3.toNat : Int) : Int) < 128)) then
  (bif (decide ((0 : Int) < a.1.2.2.1)) then
  (getI a.1.1 a.1.2.2.1).bind fun e4 =>
  (bif (decide (((e4.toNat : Int) : Int) = 0)) then
  some (.inr (.inl ((0, 0, ()), ())))
  else
  (bif (decide ((4611686018427387903 : Int) < y2)) then
  some (.inr (.inl ((0, 0, ()), ())))
  else
  (bif (decide ((y2 : Int) < 0)) then
  some (.inr (.inl ((0, 0, ()), ())))
  else
  some (.inr (.inl ((y2, (IntKind.i64.wrap (a.1.2.2.1 + 1)), ()), ()))))))
  else
  (bif (decide ((4611686018427387903 : Int) < y2)) then
  some (.inr (.inl ((0, 0, ()), ())))
  else
  (bif (decide ((y2 : Int) < 0)) then
  some (.inr (.inl ((0, 0, ()), ())))
  else
  some (.inr (.inl ((y2, (IntKind.i64.wrap (a.1.2.2.1 + 1)), ()), ()))))))
  else
  some (.inl ((a.1.1, y2, (IntKind.i64.wrap (a.1.2.2.1 + 1)), ()), ()))))
  else
  some (.inr (.inr ((), ()))))
  else
  some (.inr (.inr ((), ()))))
noncomputable def watershedref02_Get_e1 : LE CT Try.prog := ⟨3, [0, 4, 5], [.one (.sl 1), .one (.int .i64), .one (.int .i64)], [], [⟨.ret, [2, 3], [.one (.int .i64), .one (.int .i64)], []⟩, ⟨.exit 0, [], [], []⟩], watershedref02_Get_l1⟩
noncomputable def watershedref02_Get_lt : List (LE CT Try.prog) := [watershedref02_Get_e1]
theorem watershedref02_Get_e1_ok : LeOk watershedref02_Get_e1 (nthL (bodyOf Try.f75) 0) := fun A env h k z hk => le_ok (E := watershedref02_Get_e1) (orcOf_ok watershedref02_Get_tb) (dr := watershedref02_Get_dr) (lps := lpsOf watershedref02_Get_lt) (no_loop (by kernel_rfl)) (fun a => by kernel_rfl) env h k z hk
noncomputable def watershedref02_Get (x0 : List (UInt8)) : Option (((Int) × (Int) × Unit) × (Unit)) :=
  (loopM watershedref02_Get_l1 ((x0, 0, 0, ()), ())).bind fun b1 =>
  (match b1 with
  | .inl b2 =>
  some ((b2.1.1, b2.1.2.1, ()), ())
  | .inr b3 =>
  some ((0, 0, ()), ()))
noncomputable def watershedref02_Get_ce : CE CT Try.prog where
  f := 75
  args := [.one (.sl 1)]
  hs := []
  res := .tup [.one (.int .i64), .one (.int .i64)]
  outs := []
  m := fun d dh => watershedref02_Get d.1
  ok := ce_ok mixedP Try.func75 (by kernel_rfl) (orcOf_ok watershedref02_Get_tb) (dr := watershedref02_Get_dr) (lps := lpsOf watershedref02_Get_lt) (lps_fn (lps_of (n := 1) (by kernel_rfl) fun i hi => match i, hi with | 0, _ => lp_ok (E := watershedref02_Get_e1) (by kernel_rfl) watershedref02_Get_e1_ok)) (fun d dh => by kernel_rfl)

def watershedref02_fail_dr : Nat → DrA
  | _ => ⟨[], [], [], [], [], false, []⟩
noncomputable def watershedref02_fail_tb : List (CE CT Try.prog) := []
noncomputable def watershedref02_fail_lt : List (LE CT Try.prog) := []
noncomputable def watershedref02_fail (h0 : DReader2) : Option ((Unit) × (((List (UInt8)) × (Bool) × Unit) × (Unit) × Unit)) :=
  some ((), (([], true, ()), (), ()))
noncomputable def watershedref02_fail_ce : CE CT Try.prog where
  f := 76
  args := [.one (.ptr 0 0)]
  hs := [.cobj 53 14]
  res := .tup []
  outs := [.obj 53 [.own 1 1, .bool], .row 5 1]
  m := fun d dh => watershedref02_fail dh.1
  ok := ce_ok mixedP Try.func76 (by kernel_rfl) (orcOf_ok watershedref02_fail_tb) (dr := watershedref02_fail_dr) (lps := lpsOf watershedref02_fail_lt) (lps_fn (no_loop (by kernel_rfl))) (fun d dh => by kernel_rfl)

def watershedref02_Number_2_dr : Nat → DrA
  | _ => ⟨[], [], [], [], [], false, []⟩
noncomputable def watershedref02_Number_2_tb : List (CE CT Try.prog) := [watershedref02_Get_ce, watershedref02_fail_ce]
noncomputable def watershedref02_Number_2_lt : List (LE CT Try.prog) := []
noncomputable def watershedref02_Number_2 (x1 : Int) (h0 : DReader2) : Option ((Int) × ((DReader2) × Unit)) :=
  (bif h0.failed then
  some (0, (h0, ()))
  else
  (watershedref02_Get h0.left).bind fun r1 =>
  (bif (decide ((r1.1.2.1 : Int) = 0)) then
  (watershedref02_fail h0).bind fun r2 =>
  some (0, ((⟨r2.2.1.1, r2.2.1.2.1⟩ : DReader2), ()))
  else
  (bif (decide ((x1 : Int) < r1.1.1)) then
  (watershedref02_fail h0).bind fun r3 =>
  some (0, ((⟨r3.2.1.1, r3.2.1.2.1⟩ : DReader2), ()))
  else
  (if 0 ≤ (r1.1.2.1 : Int) ∧ (r1.1.2.1 : Int) ≤ (h0.left.length : Int) ∧ (h0.left.length : Int) ≤ (h0.left.length : Int) then
  let y4 : List (UInt8) := ((h0.left.drop (r1.1.2.1 : Int).toNat).take (((h0.left.length : Int) : Int).toNat - (r1.1.2.1 : Int).toNat))
  some (r1.1.1, ((⟨y4, h0.failed⟩ : DReader2), ()))
  else none))))
noncomputable def watershedref02_Number_2_ce : CE CT Try.prog where
  f := 50
  args := [.one (.ptr 0 0), .one (.int .i64)]
  hs := [.cobj 53 14]
  res := .val (.one (.int .i64))
  outs := [.cobj 53 14]
  m := fun d dh => watershedref02_Number_2 d.2.1 dh.1
  ok := ce_ok mixedP Try.func50 (by kernel_rfl) (orcOf_ok watershedref02_Number_2_tb) (dr := watershedref02_Number_2_dr) (lps := lpsOf watershedref02_Number_2_lt) (lps_fn (no_loop (by kernel_rfl))) (fun d dh => by kernel_rfl)

def watershedref02_Row_2_dr : Nat → DrA
  | _ => ⟨[], [], [], [], [], false, []⟩
noncomputable def watershedref02_Row_2_tb : List (CE CT Try.prog) := [watershedref02_Number_2_ce, watershedref02_fail_ce]
noncomputable def watershedref02_Row_2_lt : List (LE CT Try.prog) := []
noncomputable def watershedref02_Row_2 (x1 : Int) (h0 : DReader2) : Option ((List (UInt8)) × ((DReader2) × (Unit) × Unit)) :=
  (watershedref02_Number_2 x1 h0).bind fun r1 =>
  (bif r1.2.1.failed then
  some ([], (r1.2.1, (), ()))
  else
  (bif (decide (((r1.2.1.left.length : Int) : Int) < r1.1)) then
  (watershedref02_fail r1.2.1).bind fun r2 =>
  some ([], ((⟨r2.2.1.1, r2.2.1.2.1⟩ : DReader2), (), ()))
  else
  (if 0 ≤ ((0 : Int) : Int) ∧ ((0 : Int) : Int) ≤ r1.1 ∧ r1.1 ≤ (r1.2.1.left.length : Int) then
  let y3 : List (UInt8) := ((r1.2.1.left.drop ((0 : Int) : Int).toNat).take ((r1.1 : Int).toNat - ((0 : Int) : Int).toNat))
  (if ([] : List (UInt8)).length + y3.length ≤ 140737488355328 ∧ (([] : List (UInt8)).length + y3.length) * 1 ≤ 140737488355328 then
  (if 0 ≤ (r1.1 : Int) ∧ (r1.1 : Int) ≤ (r1.2.1.left.length : Int) ∧ (r1.2.1.left.length : Int) ≤ (r1.2.1.left.length : Int) then
  let y4 : List (UInt8) := ((r1.2.1.left.drop (r1.1 : Int).toNat).take (((r1.2.1.left.length : Int) : Int).toNat - (r1.1 : Int).toNat))
  some ((([] : List (UInt8)) ++ y3), ((⟨y4, r1.2.1.failed⟩ : DReader2), (), ()))
  else none)
  else none)
  else none)))
noncomputable def watershedref02_Row_2_ce : CE CT Try.prog where
  f := 51
  args := [.one (.ptr 0 0), .one (.int .i64)]
  hs := [.cobj 53 14]
  res := .val (.one (.own 1 1))
  outs := [.cobj 53 14, .row 5 1]
  m := fun d dh => watershedref02_Row_2 d.2.1 dh.1
  ok := ce_ok mixedP Try.func51 (by kernel_rfl) (orcOf_ok watershedref02_Row_2_tb) (dr := watershedref02_Row_2_dr) (lps := lpsOf watershedref02_Row_2_lt) (lps_fn (no_loop (by kernel_rfl))) (fun d dh => by kernel_rfl)

def watershedref04_Key_dr : Nat → DrA
  | _ => ⟨[], [], [], [], [], false, []⟩
noncomputable def watershedref04_Key_tb : List (CE CT Try.prog) := []
noncomputable def watershedref04_Key_l1 (a : ((List UInt8) × (Int) × Unit) × (Unit)) : Option ((((List UInt8) × (Int) × Unit) × (Unit)) ⊕ ((((Bool) × Unit) × (Unit)) ⊕ ((Unit) × (Unit)))) :=
  (bif (decide ((a.1.2.1 : Int) < (a.1.1.length : Int))) then
  (getI a.1.1 a.1.2.1).bind fun e1 =>
  (bif (decide ((97 : Int) ≤ (e1.toNat : Int))) then
  (getI a.1.1 a.1.2.1).bind fun e2 =>
  (bif (decide (((e2.toNat : Int) : Int) ≤ 122)) then
  some (.inl ((a.1.1, (IntKind.i64.wrap (a.1.2.1 + 1)), ()), ()))
  else
  (getI a.1.1 a.1.2.1).bind fun e3 =>
  (bif (decide ((48 : Int) ≤ (e3.toNat : Int))) then
  (getI a.1.1 a.1.2.1).bind fun e4 =>
  (bif (!(decide (((e4.toNat : Int) : Int) ≤ 57))) then
  some (.inr (.inl ((false, ()), ())))
  else
  some (.inl ((a.1.1, (IntKind.i64.wrap (a.1.2.1 + 1)), ()), ())))
  else
  some (.inr (.inl ((false, ()), ())))))
  else
  (getI a.1.1 a.1.2.1).bind fun e5 =>
  (bif (decide ((48 : Int) ≤ (e5.toNat : Int))) then
  (getI a.1.1 a.1.2.1).bind fun e6 =>
  (bif (!(decide (((e6.toNat : Int) : Int) ≤ 57))) then
  some (.inr (.inl ((false, ()), ())))
  else
  some (.inl ((a.1.1, (IntKind.i64.wrap (a.1.2.1 + 1)), ()), ())))
  else
  some (.inr (.inl ((false, ()), ())))))
  else
  some (.inr (.inr ((), ()))))
noncomputable def watershedref04_Key_e1 : LE CT Try.prog := ⟨4, [0, 3], [.one (.str), .one (.int .i64)], [], [⟨.ret, [2], [.one (.bool)], []⟩, ⟨.exit 0, [], [], []⟩], watershedref04_Key_l1⟩
noncomputable def watershedref04_Key_lt : List (LE CT Try.prog) := [watershedref04_Key_e1]
theorem watershedref04_Key_e1_ok : LeOk watershedref04_Key_e1 (nthL (bodyOf Try.f77) 0) := fun A env h k z hk => le_ok (E := watershedref04_Key_e1) (orcOf_ok watershedref04_Key_tb) (dr := watershedref04_Key_dr) (lps := lpsOf watershedref04_Key_lt) (no_loop (by kernel_rfl)) (fun a => by kernel_rfl) env h k z hk
noncomputable def watershedref04_Key (x0 : List UInt8) : Option ((Bool) × (Unit)) :=
  (bif (decide (((x0.length : Int) : Int) < 1)) then
  some (false, ())
  else
  (bif (decide ((20 : Int) < (x0.length : Int))) then
  some (false, ())
  else
  (loopM watershedref04_Key_l1 ((x0, 0, ()), ())).bind fun b1 =>
  (match b1 with
  | .inl b2 =>
  some (b2.1.1, ())
  | .inr b3 =>
  some (true, ()))))
noncomputable def watershedref04_Key_ce : CE CT Try.prog where
  f := 77
  args := [.one (.str)]
  hs := []
  res := .val (.one (.bool))
  outs := []
  m := fun d dh => watershedref04_Key d.1
  ok := ce_ok mixedP Try.func77 (by kernel_rfl) (orcOf_ok watershedref04_Key_tb) (dr := watershedref04_Key_dr) (lps := lpsOf watershedref04_Key_lt) (lps_fn (lps_of (n := 1) (by kernel_rfl) fun i hi => match i, hi with | 0, _ => lp_ok (E := watershedref04_Key_e1) (by kernel_rfl) watershedref04_Key_e1_ok)) (fun d dh => by kernel_rfl)

def watershedref15_Right_dr : Nat → DrA
  | _ => ⟨[], [], [], [], [], false, []⟩
noncomputable def watershedref15_Right_tb : List (CE CT Try.prog) := [watershedref04_Key_ce]
noncomputable def watershedref15_Right_lt : List (LE CT Try.prog) := []
noncomputable def watershedref15_Right (x0 : DRow) : Option ((Bool) × (Unit)) :=
  (watershedref04_Key x0.key).bind fun r1 =>
  (bif r1.1 then
  some ((decide (((x0.value.length : Int) : Int) ≤ 20)), ())
  else
  some (false, ()))
noncomputable def watershedref15_Right_ce : CE CT Try.prog where
  f := 52
  args := [.cod 3]
  hs := []
  res := .val (.one (.bool))
  outs := []
  m := fun d dh => watershedref15_Right d.1
  ok := ce_ok mixedP Try.func52 (by kernel_rfl) (orcOf_ok watershedref15_Right_tb) (dr := watershedref15_Right_dr) (lps := lpsOf watershedref15_Right_lt) (lps_fn (no_loop (by kernel_rfl))) (fun d dh => by kernel_rfl)

def watershedref15_Read_dr : Nat → DrA
  | _ => ⟨[], [], [], [], [], false, []⟩
noncomputable def watershedref15_Read_tb : List (CE CT Try.prog) := [watershedref02_Number_2_ce, watershedref02_Row_2_ce, watershedref15_Right_ce]
noncomputable def watershedref15_Read_l1 (a : ((Unit) × (Int) × (List (DRow)) × (Int) × Unit) × ((DReader2) × (Unit) × Unit)) : Option ((((Unit) × (Int) × (List (DRow)) × (Int) × Unit) × ((DReader2) × (Unit) × Unit)) ⊕ ((((Unit) × (Bool) × Unit) × ((DReader2) × (Unit) × Unit)) ⊕ (((Unit) × (List (DRow)) × Unit) × ((DReader2) × (Unit) × (Unit) × Unit)))) :=
  (bif (decide ((a.1.2.2.2.1 : Int) < a.1.2.1)) then
  (watershedref02_Row_2 20 a.2.1).bind fun r1 =>
  (watershedref02_Row_2 20 r1.2.1).bind fun r2 =>
  (bif r2.2.1.failed then
  some (.inr (.inl (((), false, ()), (r2.2.1, (), ()))))
  else
  (watershedref15_Right (⟨r1.1, r2.1⟩ : DRow)).bind fun r3 =>
  (bif (!r3.1) then
  some (.inr (.inl (((), false, ()), (r2.2.1, (), ()))))
  else
  (bif (decide ((0 : Int) < a.1.2.2.2.1)) then
  (getI a.1.2.2.1 (IntKind.i64.wrap (a.1.2.2.2.1 - 1))).bind fun e4 =>
  (bif (!decide (e4.key < r1.1)) then
  some (.inr (.inl (((), false, ()), (r2.2.1, (), ()))))
  else
  (if a.1.2.2.1.length + ([(⟨r1.1, r2.1⟩ : DRow)] : List (DRow)).length ≤ 140737488355328 ∧ (a.1.2.2.1.length + ([(⟨r1.1, r2.1⟩ : DRow)] : List (DRow)).length) * 32 ≤ 140737488355328 then
  some (.inl (((), a.1.2.1, (a.1.2.2.1 ++ ([(⟨r1.1, r2.1⟩ : DRow)] : List (DRow))), (IntKind.i64.wrap (a.1.2.2.2.1 + 1)), ()), (r2.2.1, (), ())))
  else none))
  else
  (if a.1.2.2.1.length + ([(⟨r1.1, r2.1⟩ : DRow)] : List (DRow)).length ≤ 140737488355328 ∧ (a.1.2.2.1.length + ([(⟨r1.1, r2.1⟩ : DRow)] : List (DRow)).length) * 32 ≤ 140737488355328 then
  some (.inl (((), a.1.2.1, (a.1.2.2.1 ++ ([(⟨r1.1, r2.1⟩ : DRow)] : List (DRow))), (IntKind.i64.wrap (a.1.2.2.2.1 + 1)), ()), (r2.2.1, (), ())))
  else none))))
  else
  some (.inr (.inr (((), a.1.2.2.1, ()), (a.2.1, (), (), ())))))
noncomputable def watershedref15_Read_e1 : LE CT Try.prog := ⟨4, [0, 4, 5, 6], [.one (.ptr 0 0), .one (.int .i64), .one (.own 3 1), .one (.int .i64)], [.cobj 53 14, .row 32 2], [⟨.ret, [2, 3], [.one (.nil), .one (.bool)], [.cobj 53 14, .dead]⟩, ⟨.exit 0, [0, 5], [.one (.ptr 0 0), .one (.own 3 2)], [.cobj 53 14, .dead, .row 32 2]⟩], watershedref15_Read_l1⟩
noncomputable def watershedref15_Read_lt : List (LE CT Try.prog) := [watershedref15_Read_e1]
theorem watershedref15_Read_e1_ok : LeOk watershedref15_Read_e1 (nthL (bodyOf Try.f23) 0) := fun A env h k z hk => le_ok (E := watershedref15_Read_e1) (orcOf_ok watershedref15_Read_tb) (dr := watershedref15_Read_dr) (lps := lpsOf watershedref15_Read_lt) (no_loop (by kernel_rfl)) (fun a => by kernel_rfl) env h k z hk
noncomputable def watershedref15_Read (h0 : DReader2) : Option (((List (DRow)) × (Bool) × Unit) × ((DReader2) × (Unit) × Unit)) :=
  (watershedref02_Number_2 400 h0).bind fun r1 =>
  (loopM watershedref15_Read_l1 (((), r1.1, [], 0, ()), (r1.2.1, (), ()))).bind fun b2 =>
  (match b2 with
  | .inl b3 =>
  some (([], b3.1.2.1, ()), (b3.2.1, (), ()))
  | .inr b4 =>
  (bif b4.2.1.failed then
  some (([], false, ()), (b4.2.1, (), ()))
  else
  some ((b4.1.2.1, true, ()), (b4.2.1, (), ()))))
noncomputable def watershedref15_Read_ce : CE CT Try.prog where
  f := 23
  args := [.one (.ptr 0 0)]
  hs := [.cobj 53 14]
  res := .tup [.one (.own 3 1), .one (.bool)]
  outs := [.cobj 53 14, .row 32 2]
  m := fun d dh => watershedref15_Read dh.1
  ok := ce_ok mixedP Try.func23 (by kernel_rfl) (orcOf_ok watershedref15_Read_tb) (dr := watershedref15_Read_dr) (lps := lpsOf watershedref15_Read_lt) (lps_fn (lps_of (n := 1) (by kernel_rfl) fun i hi => match i, hi with | 0, _ => lp_ok (E := watershedref15_Read_e1) (by kernel_rfl) watershedref15_Read_e1_ok)) (fun d dh => by kernel_rfl)

def watershedlaw15_light_dr : Nat → DrA
  | 5 => ⟨[0, 1, 2, 3, 4, 8, 9, 10, 11, 12, 17, 18, 19, 20, 21, 5, 13, 14, 15, 22, 23, 24, 6, 7, 16, 25, 26], [[], [], [], [1, 2], [1, 2, 3], [1, 2, 3, 4], [1, 2, 3, 4, 5], [0, 1, 2, 3, 4, 5, 6], [], [], [8, 9], [8, 9, 10], [8, 9, 10, 11], [8, 9, 10, 11, 12], [8, 9, 10, 11, 12, 13], [8, 9, 10, 11, 12, 13, 14], [0, 1, 2, 3, 4, 5, 6, 7, 8, 9, 10, 11, 12, 13, 14, 15], [], [], [17, 18], [17, 18, 19], [17, 18, 19, 20], [17, 18, 19, 20, 21], [17, 18, 19, 20, 21, 22], [17, 18, 19, 20, 21, 22, 23], [0, 1, 2, 3, 4, 5, 6, 7, 8, 9, 10, 11, 12, 13, 14, 15, 16, 17, 18, 19, 20, 21, 22, 23, 24], [0, 1, 2, 3, 4, 5, 6, 7, 8, 9, 10, 11, 12, 13, 14, 15, 16, 17, 18, 19, 20, 21, 22, 23, 24, 25]], [13, 22], [6], [], false, []⟩
  | _ => ⟨[], [], [], [], [], false, []⟩
noncomputable def watershedlaw15_light_tb : List (CE CT Try.prog) := [watershedkit_LinesOf_ce]
noncomputable def watershedlaw15_light_l1 (a : ((List (DDeed)) × (Int) × (Int) × Unit) × (Unit)) : Option ((((List (DDeed)) × (Int) × (Int) × Unit) × (Unit)) ⊕ ((((List (DDeed)) × (Int) × Unit) × (Unit)))) :=
  (bif (decide ((a.1.2.2.1 : Int) < (a.1.1.length : Int))) then
  (bif (decide ((a.1.2.1 : Int) ≤ 1200)) then
  (getI a.1.1 a.1.2.2.1).bind fun e1 =>
  (getI a.1.1 a.1.2.2.1).bind fun e2 =>
  (getI a.1.1 a.1.2.2.1).bind fun e3 =>
  (watershedkit_LinesOf e1.rows 1200).bind fun r4 =>
  let y5 : Int := (IntKind.i64.wrap ((IntKind.i64.wrap ((IntKind.i64.wrap (a.1.2.1 + r4.1)) + (IntKind.i64.wrap (((e2.span.lo.length : Int) : Int).tdiv 8)))) + (IntKind.i64.wrap (((e3.span.hi.length : Int) : Int).tdiv 8))))
  some (.inl ((a.1.1, y5, (IntKind.i64.wrap (a.1.2.2.1 + 1)), ()), ()))
  else
  some (.inr ((a.1.1, a.1.2.1, ()), ())))
  else
  some (.inr ((a.1.1, a.1.2.1, ()), ())))
noncomputable def watershedlaw15_eight_e1 : LE CT Try.prog := ⟨3, [0, 3, 4], [.one (.sl 16), .one (.int .i64), .one (.int .i64)], [], [⟨.exit 0, [0, 3], [.one (.sl 16), .one (.int .i64)], []⟩], watershedlaw15_light_l1⟩
noncomputable def watershedlaw15_light_lt : List (LE CT Try.prog) := [watershedlaw15_eight_e1]
theorem watershedlaw15_eight_e1_ok : LeOk watershedlaw15_eight_e1 (nthL (bodyOf Try.f25) 0) := fun A env h k z hk => le_ok (E := watershedlaw15_eight_e1) (orcOf_ok watershedlaw15_light_tb) (dr := watershedlaw15_light_dr) (lps := lpsOf watershedlaw15_light_lt) (no_loop (by kernel_rfl)) (fun a => by kernel_rfl) env h k z hk
noncomputable def watershedlaw15_light (x0 : List (DDeed)) : Option ((Bool) × (Unit)) :=
  (loopM watershedlaw15_light_l1 ((x0, (x0.length : Int), 0, ()), ())).bind fun b1 =>
  (bif (decide ((b1.1.2.1 : Int) ≤ 1200)) then
  some ((decide (((b1.1.1.length : Int) : Int) ≤ 60)), ())
  else
  some (false, ()))
noncomputable def watershedlaw15_light_ce : CE CT Try.prog where
  f := 25
  args := [.one (.sl 16)]
  hs := []
  res := .val (.one (.bool))
  outs := []
  m := fun d dh => watershedlaw15_light d.1
  ok := ce_ok mixedP Try.func25 (by kernel_rfl) (orcOf_ok watershedlaw15_light_tb) (dr := watershedlaw15_light_dr) (lps := lpsOf watershedlaw15_light_lt) (lps_fn (lps_of (n := 1) (by kernel_rfl) fun i hi => match i, hi with | 0, _ => lp_ok (E := watershedlaw15_eight_e1) (by kernel_rfl) watershedlaw15_eight_e1_ok)) (fun d dh => by kernel_rfl)

def watershedkit_Pick_dr : Nat → DrA
  | _ => ⟨[], [], [], [], [], false, []⟩
noncomputable def watershedkit_Pick_tb : List (CE CT Try.prog) := []
noncomputable def watershedkit_Pick_lt : List (LE CT Try.prog) := []
noncomputable def watershedkit_Pick (x0 : Int) (x1 : Int) : Option ((Int) × (Unit)) :=
  (bif (decide ((x1 : Int) < 1)) then
  some (0, ())
  else
  (if (x1 : Int) = 0 then none else
  (bif (decide ((((x0 : Int).tmod x1) : Int) < 0)) then
  some ((IntKind.i64.wrap (((x0 : Int).tmod x1) + x1)), ())
  else
  some (((x0 : Int).tmod x1), ()))))
noncomputable def watershedkit_Pick_ce : CE CT Try.prog where
  f := 26
  args := [.one (.int .i64), .one (.int .i64)]
  hs := []
  res := .val (.one (.int .i64))
  outs := []
  m := fun d dh => watershedkit_Pick d.1 d.2.1
  ok := ce_ok mixedP Try.func26 (by kernel_rfl) (orcOf_ok watershedkit_Pick_tb) (dr := watershedkit_Pick_dr) (lps := lpsOf watershedkit_Pick_lt) (lps_fn (no_loop (by kernel_rfl))) (fun d dh => by kernel_rfl)

def span_All_dr : Nat → DrA
  | _ => ⟨[], [], [], [], [], false, []⟩
noncomputable def span_All_tb : List (CE CT Try.prog) := []
noncomputable def span_All_lt : List (LE CT Try.prog) := []
noncomputable def span_All  : Option ((DSpan) × (Unit)) :=
  some ((⟨([] : List UInt8), ([] : List UInt8)⟩ : DSpan), ())
noncomputable def span_All_ce : CE CT Try.prog where
  f := 12
  args := []
  hs := []
  res := .val (.cod 5)
  outs := []
  m := fun d dh => span_All
  ok := ce_ok mixedP Try.func12 (by kernel_rfl) (orcOf_ok span_All_tb) (dr := span_All_dr) (lps := lpsOf span_All_lt) (lps_fn (no_loop (by kernel_rfl))) (fun d dh => by kernel_rfl)

def slices_Values_dr : Nat → DrA
  | _ => ⟨[], [], [], [], [], false, []⟩
noncomputable def slices_Values_tb : List (CE CT Try.prog) := []
noncomputable def slices_Values_lt : List (LE CT Try.prog) := []
noncomputable def slices_Values (x0 : List (List UInt8)) : Option ((Unit) × ((List (List UInt8)) × Unit)) :=
  some ((), (x0, ()))
noncomputable def slices_Values_ce : CE CT Try.prog where
  f := 58
  args := [.one (.sl 2)]
  hs := []
  res := .val (.one (.clo 81 [0]))
  outs := [.cobj 59 4]
  m := fun d dh => slices_Values d.1
  ok := ce_ok mixedP Try.func58 (by kernel_rfl) (orcOf_ok slices_Values_tb) (dr := slices_Values_dr) (lps := lpsOf slices_Values_lt) (lps_fn (no_loop (by kernel_rfl))) (fun d dh => by kernel_rfl)

def slices_Collect_dr : Nat → DrA
  | _ => ⟨[], [], [], [], [], false, []⟩
noncomputable def slices_Collect_tb : List (CE CT Try.prog) := [appendSeq_ce]
noncomputable def slices_Collect_lt : List (LE CT Try.prog) := []
noncomputable def slices_Collect (h0 : List (List UInt8)) : Option ((Nat × Nat) × ((List (List UInt8)) × (List (List UInt8)) × Unit)) :=
  (appendSeq h0).bind fun r1 =>
  some ((r1.1.1, r1.1.2), (r1.2.1, r1.2.2.1, ()))
noncomputable def slices_Collect_ce : CE CT Try.prog where
  f := 79
  args := [.one (.clo 81 [0])]
  hs := [.cobj 59 4]
  res := .val (.one (.asu 2 1))
  outs := [.cobj 59 4, .arr 9 2 false]
  m := fun d dh => slices_Collect dh.1
  ok := ce_ok mixedP Try.func79 (by kernel_rfl) (orcOf_ok slices_Collect_tb) (dr := slices_Collect_dr) (lps := lpsOf slices_Collect_lt) (lps_fn (no_loop (by kernel_rfl))) (fun d dh => by kernel_rfl)

def slices_Sorted_dr : Nat → DrA
  | _ => ⟨[], [], [], [], [], false, []⟩
noncomputable def slices_Sorted_tb : List (CE CT Try.prog) := [slices_Collect_ce, sortT_ce]
noncomputable def slices_Sorted_lt : List (LE CT Try.prog) := []
noncomputable def slices_Sorted (h0 : List (List UInt8)) : Option ((Nat × Nat) × ((List (List UInt8)) × (List (List UInt8)) × Unit)) :=
  (slices_Collect h0).bind fun r1 =>
  (sortT (r1.1.1, r1.1.2) r1.2.2.1).bind fun r2 =>
  some ((r1.1.1, r1.1.2), (r1.2.1, r2.2.1, ()))
noncomputable def slices_Sorted_ce : CE CT Try.prog where
  f := 57
  args := [.one (.clo 81 [0])]
  hs := [.cobj 59 4]
  res := .val (.one (.asu 2 1))
  outs := [.cobj 59 4, .arr 9 2 false]
  m := fun d dh => slices_Sorted dh.1
  ok := ce_ok mixedP Try.func57 (by kernel_rfl) (orcOf_ok slices_Sorted_tb) (dr := slices_Sorted_dr) (lps := lpsOf slices_Sorted_lt) (lps_fn (no_loop (by kernel_rfl))) (fun d dh => by kernel_rfl)

def slices_Compact_dr : Nat → DrA
  | 6 => ⟨[0, 1, 2, 4, 5, 6, 7, 3, 8, 9], [[], [], [0, 1], [0, 1, 2], [], [], [5], [4, 5, 6], [4, 5, 6, 7], [0, 1, 2, 3, 4, 5, 6, 7, 8]], [], [], [], false, []⟩
  | 11 => ⟨[0, 1, 2, 4, 5, 6, 7, 3, 8, 9], [[], [], [0, 1], [0, 1, 2], [], [], [5], [4, 5, 6], [4, 5, 6, 7], [0, 1, 2, 3, 4, 5, 6, 7, 8]], [], [], [], false, []⟩
  | _ => ⟨[], [], [], [], [], false, []⟩
noncomputable def slices_Compact_tb : List (CE CT Try.prog) := []
noncomputable def slices_Compact_l2 (a : ((Nat × Nat) × (Int) × (Nat × Nat) × (Int) × Unit) × ((List (List UInt8)) × Unit)) : Option ((((Nat × Nat) × (Int) × (Nat × Nat) × (Int) × Unit) × ((List (List UInt8)) × Unit)) ⊕ ((((Nat × Nat) × (Int) × Unit) × ((List (List UInt8)) × Unit)))) :=
  (bif (decide ((a.1.2.2.2.1 : Int) < ((a.1.2.2.1.2 : Nat) : Int))) then
  (if 0 ≤ (a.1.2.2.2.1 : Int) ∧ (a.1.2.2.2.1 : Int) < ((a.1.2.2.1.2 : Nat) : Int) then
  (if 0 ≤ ((IntKind.i64.wrap (a.1.2.2.2.1 - 1)) : Int) ∧ ((IntKind.i64.wrap (a.1.2.2.2.1 - 1)) : Int) < ((a.1.2.2.1.2 : Nat) : Int) then
  (a.2.1[(a.1.2.2.1.1 + (a.1.2.2.2.1 : Int).toNat)]?).bind fun e1 =>
  (a.2.1[(a.1.2.2.1.1 + ((IntKind.i64.wrap (a.1.2.2.2.1 - 1)) : Int).toNat)]?).bind fun e2 =>
  (bif (decide (e1 ≠ e2)) then
  (if 0 ≤ (a.1.2.2.2.1 : Int) ∧ (a.1.2.2.2.1 : Int) < ((a.1.2.2.1.2 : Nat) : Int) then
  (a.2.1[(a.1.2.2.1.1 + (a.1.2.2.2.1 : Int).toNat)]?).bind fun e3 =>
  (if 0 ≤ (a.1.2.1 : Int) ∧ (a.1.2.1 : Int) < ((a.1.1.2 : Nat) : Int) then
  (a.2.1[(a.1.1.1 + (a.1.2.1 : Int).toNat)]?).bind fun e4 =>
  some (.inl (((a.1.1.1, a.1.1.2), (IntKind.i64.wrap (a.1.2.1 + 1)), (a.1.2.2.1.1, a.1.2.2.1.2), (IntKind.i64.wrap (a.1.2.2.2.1 + 1)), ()), ((a.2.1.set (a.1.1.1 + (a.1.2.1 : Int).toNat) e3), ())))
  else none)
  else none)
  else
  some (.inl (((a.1.1.1, a.1.1.2), a.1.2.1, (a.1.2.2.1.1, a.1.2.2.1.2), (IntKind.i64.wrap (a.1.2.2.2.1 + 1)), ()), (a.2.1, ()))))
  else none)
  else none)
  else
  some (.inr (((a.1.1.1, a.1.1.2), a.1.2.1, ()), (a.2.1, ()))))
noncomputable def slices_Compact_e2 : LE CT Try.prog := ⟨9, [0, 3, 4, 5], [.one (.asu 2 0), .one (.int .i64), .one (.asu 2 0), .one (.int .i64)], [.arr 9 2 true], [⟨.exit 2, [0, 3], [.one (.asu 2 0), .one (.int .i64)], [.arr 9 2 true]⟩], slices_Compact_l2⟩
noncomputable def slices_Compact_l1 (a : ((Nat × Nat) × (Int) × Unit) × ((List (List UInt8)) × Unit)) : Option ((((Nat × Nat) × (Int) × Unit) × ((List (List UInt8)) × Unit)) ⊕ ((((Nat × Nat) × Unit) × ((List (List UInt8)) × Unit)) ⊕ (((Nat × Nat) × Unit) × ((List (List UInt8)) × Unit)))) :=
  (bif (decide ((a.1.2.1 : Int) < ((a.1.1.2 : Nat) : Int))) then
  (if 0 ≤ (a.1.2.1 : Int) ∧ (a.1.2.1 : Int) < ((a.1.1.2 : Nat) : Int) then
  (if 0 ≤ ((IntKind.i64.wrap (a.1.2.1 - 1)) : Int) ∧ ((IntKind.i64.wrap (a.1.2.1 - 1)) : Int) < ((a.1.1.2 : Nat) : Int) then
  (a.2.1[(a.1.1.1 + (a.1.2.1 : Int).toNat)]?).bind fun e1 =>
  (a.2.1[(a.1.1.1 + ((IntKind.i64.wrap (a.1.2.1 - 1)) : Int).toNat)]?).bind fun e2 =>
  (bif (decide (e1 = e2)) then
  (if 0 ≤ ((a.1.2.1 : Int) : Int) ∧ ((a.1.2.1 : Int) : Int) ≤ ((a.1.1.2 : Nat) : Int) ∧ ((a.1.1.2 : Nat) : Int) ≤ ((a.1.1.2 : Nat) : Int) ∧ ((a.1.1.2 : Nat) : Int) ≤ 140737488355328 then
  (loopM slices_Compact_l2 (((a.1.1.1, a.1.1.2), a.1.2.1, ((a.1.1.1 + (a.1.2.1 : Int).toNat), (((a.1.1.2 : Nat) : Int).toNat - (a.1.2.1 : Int).toNat)), 1, ()), (a.2.1, ()))).bind fun b3 =>
  (if 0 ≤ ((b3.1.2.1 : Int) : Int) ∧ ((b3.1.2.1 : Int) : Int) ≤ ((b3.1.1.2 : Nat) : Int) ∧ ((b3.1.1.2 : Nat) : Int) ≤ ((b3.1.1.2 : Nat) : Int) ∧ ((b3.1.1.2 : Nat) : Int) ≤ 140737488355328 then
  (if (b3.1.1.1 + (b3.1.2.1 : Int).toNat) ≤ b3.2.1.length then
  let y4 : List (List UInt8) := (b3.2.1.take (b3.1.1.1 + (b3.1.2.1 : Int).toNat) ++ List.replicate (((b3.1.1.2 : Nat) : Int).toNat - (b3.1.2.1 : Int).toNat) (([] : List UInt8) : List UInt8) ++ b3.2.1.drop ((b3.1.1.1 + (b3.1.2.1 : Int).toNat) + (((b3.1.1.2 : Nat) : Int).toNat - (b3.1.2.1 : Int).toNat)))
  (if 0 ≤ ((0 : Int) : Int) ∧ ((0 : Int) : Int) ≤ (b3.1.2.1 : Int) ∧ (b3.1.2.1 : Int) ≤ ((b3.1.1.2 : Nat) : Int) ∧ (b3.1.2.1 : Int) ≤ 140737488355328 then
  some (.inr (.inl ((((b3.1.1.1 + (0 : Int).toNat), ((b3.1.2.1 : Int).toNat - (0 : Int).toNat)), ()), (y4, ()))))
  else none)
  else none)
  else none)
  else none)
  else
  some (.inl (((a.1.1.1, a.1.1.2), (IntKind.i64.wrap (a.1.2.1 + 1)), ()), (a.2.1, ()))))
  else none)
  else none)
  else
  some (.inr (.inr (((a.1.1.1, a.1.1.2), ()), (a.2.1, ())))))
noncomputable def slices_Compact_e1 : LE CT Try.prog := ⟨4, [0, 3], [.one (.asu 2 0), .one (.int .i64)], [.arr 9 2 true], [⟨.ret, [2], [.one (.asu 2 0)], [.arr 9 2 true]⟩, ⟨.exit 0, [0], [.one (.asu 2 0)], [.arr 9 2 true]⟩], slices_Compact_l1⟩
noncomputable def slices_Compact_lt : List (LE CT Try.prog) := [slices_Compact_e2, slices_Compact_e1]
theorem slices_Compact_e2_ok : LeOk slices_Compact_e2 (nthL (nthL (bodyOf Try.f56) 0) 0) := fun A env h k z hk => le_ok (E := slices_Compact_e2) (orcOf_ok slices_Compact_tb) (dr := slices_Compact_dr) (lps := lpsOf slices_Compact_lt) (no_loop (by kernel_rfl)) (fun a => by kernel_rfl) env h k z hk
theorem slices_Compact_e1_ok : LeOk slices_Compact_e1 (nthL (bodyOf Try.f56) 0) := fun A env h k z hk => le_ok (E := slices_Compact_e1) (orcOf_ok slices_Compact_tb) (dr := slices_Compact_dr) (lps := lpsOf slices_Compact_lt) (lps_of (n := 1) (by kernel_rfl) fun i hi => match i, hi with | 0, _ => lp_ok (E := slices_Compact_e2) (by kernel_rfl) slices_Compact_e2_ok) (fun a => by kernel_rfl) env h k z hk
noncomputable def slices_Compact (x0 : Nat × Nat) (h0 : List (List UInt8)) : Option ((Nat × Nat) × ((List (List UInt8)) × Unit)) :=
  (bif (decide ((((x0.2 : Nat) : Int) : Int) < 2)) then
  some ((x0.1, x0.2), (h0, ()))
  else
  (loopM slices_Compact_l1 (((x0.1, x0.2), 1, ()), (h0, ()))).bind fun b1 =>
  (match b1 with
  | .inl b2 =>
  some ((b2.1.1.1, b2.1.1.2), (b2.2.1, ()))
  | .inr b3 =>
  some ((b3.1.1.1, b3.1.1.2), (b3.2.1, ()))))
noncomputable def slices_Compact_ce : CE CT Try.prog where
  f := 56
  args := [.one (.asu 2 0)]
  hs := [.arr 9 2 true]
  res := .val (.one (.asu 2 0))
  outs := [.arr 9 2 true]
  m := fun d dh => slices_Compact d.1 dh.1
  ok := ce_ok mixedP Try.func56 (by kernel_rfl) (orcOf_ok slices_Compact_tb) (dr := slices_Compact_dr) (lps := lpsOf slices_Compact_lt) (lps_fn (lps_of (n := 1) (by kernel_rfl) fun i hi => match i, hi with | 0, _ => lp_ok (E := slices_Compact_e1) (by kernel_rfl) slices_Compact_e1_ok)) (fun d dh => by kernel_rfl)

def span_Has_dr : Nat → DrA
  | _ => ⟨[], [], [], [], [], false, []⟩
noncomputable def span_Has_tb : List (CE CT Try.prog) := [span_ends_ce, span_Right_ce, span_Key_ce, span_compare_ce, span_above_ce]
noncomputable def span_Has_lt : List (LE CT Try.prog) := []
noncomputable def span_Has (x0 : DSpan) (x1 : List UInt8) : Option ((Bool) × (Unit)) :=
  (span_ends x0).bind fun r1 =>
  (span_Right x0).bind fun r2 =>
  (bif r2.1 then
  (span_Key x1).bind fun r3 =>
  (bif r3.1 then
  (span_compare r1.1.1.text (⟨x1⟩ : DText)).bind fun r4 =>
  (bif (decide ((r4.1 : Int) ≤ 0)) then
  (span_above r1.1.2.1 (⟨x1⟩ : DText)).bind fun r5 =>
  some (r5.1, ())
  else
  some (false, ()))
  else
  some (false, ()))
  else
  some (false, ()))
noncomputable def span_Has_ce : CE CT Try.prog where
  f := 30
  args := [.cod 5, .one (.str)]
  hs := []
  res := .val (.one (.bool))
  outs := []
  m := fun d dh => span_Has d.1 d.2.1
  ok := ce_ok mixedP Try.func30 (by kernel_rfl) (orcOf_ok span_Has_tb) (dr := span_Has_dr) (lps := lpsOf span_Has_lt) (lps_fn (no_loop (by kernel_rfl))) (fun d dh => by kernel_rfl)

def span_Cut_dr : Nat → DrA
  | _ => ⟨[], [], [], [], [], false, []⟩
noncomputable def span_Cut_tb : List (CE CT Try.prog) := [span_Right_ce, slices_Values_ce, slices_Sorted_ce, slices_Compact_ce, span_Has_ce]
noncomputable def span_Cut_l1 (a : ((Unit) × (List (DSpan)) × (Nat × Nat) × (Int) × (Int) × Unit) × ((DSpan) × (List (List UInt8)) × (Unit) × Unit)) : Option ((((Unit) × (List (DSpan)) × (Nat × Nat) × (Int) × (Int) × Unit) × ((DSpan) × (List (List UInt8)) × (Unit) × Unit)) ⊕ ((((Unit) × (List (DSpan)) × Unit) × ((DSpan) × (List (List UInt8)) × (Unit) × (Unit) × Unit)))) :=
  (bif (decide ((a.1.2.2.2.2.1 : Int) < a.1.2.2.2.1)) then
  (if 0 ≤ (a.1.2.2.2.2.1 : Int) ∧ (a.1.2.2.2.2.1 : Int) < ((a.1.2.2.1.2 : Nat) : Int) then
  (a.2.2.1[(a.1.2.2.1.1 + (a.1.2.2.2.2.1 : Int).toNat)]?).bind fun e1 =>
  (span_Has a.2.1 e1).bind fun r2 =>
  (bif (!r2.1) then
  some (.inl (((), a.1.2.1, (a.1.2.2.1.1, a.1.2.2.1.2), a.1.2.2.2.1, (IntKind.i64.wrap (a.1.2.2.2.2.1 + 1)), ()), (a.2.1, a.2.2.1, (), ())))
  else
  (bif (decide (e1 = a.2.1.lo)) then
  some (.inl (((), a.1.2.1, (a.1.2.2.1.1, a.1.2.2.1.2), a.1.2.2.2.1, (IntKind.i64.wrap (a.1.2.2.2.2.1 + 1)), ()), (a.2.1, a.2.2.1, (), ())))
  else
  (if a.1.2.1.length + ([(⟨a.2.1.lo, e1⟩ : DSpan)] : List (DSpan)).length ≤ 140737488355328 ∧ (a.1.2.1.length + ([(⟨a.2.1.lo, e1⟩ : DSpan)] : List (DSpan)).length) * 32 ≤ 140737488355328 then
  some (.inl (((), (a.1.2.1 ++ ([(⟨a.2.1.lo, e1⟩ : DSpan)] : List (DSpan))), (a.1.2.2.1.1, a.1.2.2.1.2), a.1.2.2.2.1, (IntKind.i64.wrap (a.1.2.2.2.2.1 + 1)), ()), ((⟨e1, a.2.1.hi⟩ : DSpan), a.2.2.1, (), ())))
  else none)))
  else none)
  else
  some (.inr (((), a.1.2.1, ()), (a.2.1, a.2.2.1, (), (), ()))))
noncomputable def span_Cut_e1 : LE CT Try.prog := ⟨5, [2, 5, 14, 15, 16], [.one (.ptr 0 0), .one (.own 5 2), .one (.asu 2 1), .one (.int .i64), .one (.int .i64)], [.cobj 35 5, .arr 9 2 true, .row 35 2], [⟨.exit 0, [2, 5], [.one (.ptr 0 0), .one (.own 5 3)], [.cobj 35 5, .arr 9 2 true, .dead, .row 35 2]⟩], span_Cut_l1⟩
noncomputable def span_Cut_lt : List (LE CT Try.prog) := [span_Cut_e1]
theorem span_Cut_e1_ok : LeOk span_Cut_e1 (nthL (bodyOf Try.f28) 0) := fun A env h k z hk => le_ok (E := span_Cut_e1) (orcOf_ok span_Cut_tb) (dr := span_Cut_dr) (lps := lpsOf span_Cut_lt) (no_loop (by kernel_rfl)) (fun a => by kernel_rfl) env h k z hk
noncomputable def span_Cut (x0 : DSpan) (x1 : List (List UInt8)) : Option ((List (DSpan)) × ((Unit) × Unit)) :=
  (span_Right x0).bind fun r1 =>
  (bif (!r1.1) then
  some ([], ((), ()))
  else
  (slices_Values x1).bind fun r2 =>
  (slices_Sorted r2.2.1).bind fun r3 =>
  (slices_Compact (r3.1.1, r3.1.2) r3.2.2.1).bind fun r4 =>
  (loopM span_Cut_l1 (((), [], (r4.1.1, r4.1.2), ((r4.1.2 : Nat) : Int), 0, ()), (x0, r4.2.1, (), ()))).bind fun b5 =>
  (if b5.1.2.1.length + ([b5.2.1] : List (DSpan)).length ≤ 140737488355328 ∧ (b5.1.2.1.length + ([b5.2.1] : List (DSpan)).length) * 32 ≤ 140737488355328 then
  some ((b5.1.2.1 ++ ([b5.2.1] : List (DSpan))), ((), ()))
  else none))
noncomputable def span_Cut_ce : CE CT Try.prog where
  f := 28
  args := [.cod 5, .one (.sl 2)]
  hs := []
  res := .val (.one (.own 5 0))
  outs := [.row 35 2]
  m := fun d dh => span_Cut d.1 d.2.1
  ok := ce_ok mixedP Try.func28 (by kernel_rfl) (orcOf_ok span_Cut_tb) (dr := span_Cut_dr) (lps := lpsOf span_Cut_lt) (lps_fn (lps_of (n := 1) (by kernel_rfl) fun i hi => match i, hi with | 0, _ => lp_ok (E := span_Cut_e1) (by kernel_rfl) span_Cut_e1_ok)) (fun d dh => by kernel_rfl)

def rows_Get_dr : Nat → DrA
  | _ => ⟨[], [], [], [], [], false, []⟩
noncomputable def rows_Get_tb : List (CE CT Try.prog) := [rows_known_ce, rows_at_2_ce]
noncomputable def rows_Get_lt : List (LE CT Try.prog) := []
noncomputable def rows_Get (x1 : List UInt8) (h0 : (Nat) × (Bool) × Unit) (h1 : List (DRow)) : Option (((List UInt8) × (Bool) × Unit) × (((Nat) × (Bool) × Unit) × (List (DRow)) × Unit)) :=
  (rows_known (h0.1, h0.2.1, ()) h1).bind fun r1 =>
  (bif (!r1.1) then
  some ((([] : List UInt8), false, ()), ((r1.2.1.1, r1.2.1.2.1, ()), r1.2.2.1, ()))
  else
  (rows_at_2 x1 (r1.2.1.1, r1.2.1.2.1, ()) r1.2.2.1).bind fun r2 =>
  (bif (!r2.1.2.1) then
  some ((([] : List UInt8), false, ()), ((r2.2.1.1, r2.2.1.2.1, ()), r2.2.2.1, ()))
  else
  (if 0 ≤ (r2.1.1 : Int) ∧ (r2.1.1 : Int) < ((r2.2.1.1 : Nat) : Int) then
  (r2.2.2.1[(0 + (r2.1.1 : Int).toNat)]?).bind fun e3 =>
  some ((e3.value, true, ()), ((r2.2.1.1, r2.2.1.2.1, ()), r2.2.2.1, ()))
  else none)))
noncomputable def rows_Get_ce : CE CT Try.prog where
  f := 29
  args := [.one (.ptr 0 0), .one (.str)]
  hs := [.obj 73 [.asz 3 1, .bool], .arr 32 3 true]
  res := .tup [.one (.str), .one (.bool)]
  outs := [.obj 73 [.asz 3 1, .bool], .arr 32 3 true]
  m := fun d dh => rows_Get d.2.1 dh.1 dh.2.1
  ok := ce_ok mixedP Try.func29 (by kernel_rfl) (orcOf_ok rows_Get_tb) (dr := rows_Get_dr) (lps := lpsOf rows_Get_lt) (lps_fn (no_loop (by kernel_rfl))) (fun d dh => by kernel_rfl)
end Go.Proofs.Ytlmmpfbdgiokmaa
