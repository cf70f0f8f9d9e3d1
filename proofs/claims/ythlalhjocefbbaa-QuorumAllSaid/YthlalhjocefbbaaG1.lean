/- Models, by program. -/
import Derived.Test.YthlalhjocefbbaaOi
import Derived.Test.YthlalhjocefbbaaOa
import Derived.Test.YthlalhjocefbbaaTw
import Derived.Test.YthlalhjocefbbaaGw
import Derived.Test.YthlalhjocefbbaaSl
import Derived.Test.YthlalhjocefbbaaFx
namespace Go.Proofs.Ythlalhjocefbbaa
open Go.RowKit
set_option maxRecDepth 100000
set_option linter.unusedVariables false
theorem sortI_cells {N : Nat} {ρ : Nat → AV} : ∀ {xs : List (Int)} {cells : List AV}, SVs CT N ρ (xs.flatMap (CT.enc 0)) cells → cells.map AV.val = xs.map (Value.int .i64)
  | [], cells, h => by rw [SVs_nil.1 h]; rfl
  | x :: xs, cells, h => by
    change SVs CT N ρ (.int .i64 x :: xs.flatMap (CT.enc 0)) cells at h
    obtain ⟨a, bs, rfl, h1, h2⟩ := h.to
    rw [sv_int.1 h1, List.map_cons, sortI_cells h2, AV.val_raw]
    rfl
theorem sortI_svs {N : Nat} {ρ : Nat → AV} : ∀ (xs : List (Int)), SVs CT N ρ (xs.flatMap (CT.enc 0)) (xs.map fun d => AV.raw ((Value.int .i64) d))
  | [] => .none
  | x :: xs => by
    change SVs CT N ρ (.int .i64 x :: xs.flatMap (CT.enc 0)) (AV.raw ((Value.int .i64) x) :: xs.map fun d => AV.raw ((Value.int .i64) d))
    exact .cons (sv_int.2 rfl) (sortI_svs xs)
noncomputable def sortI (x0 : Nat) (h0 : List (Int)) : Option (Unit × ((List (Int)) × Unit)) :=
  if x0 = h0.length ∧ h0.length < 4611686018427387904 then some ((), (h0.mergeSort (fun x y => decide (x ≤ y)), ())) else none
noncomputable def sortI_ce : CE CT Try.prog where
  f := 49
  args := [.one (.asz 0 0)]
  hs := [.arr 3 0 true]
  res := .tup []
  outs := [.arr 3 0 true]
  m := fun d dh => sortI d.1 dh.1
  ok := fun d dh r hr => by
    obtain ⟨n, u⟩ := d
    obtain ⟨xs, u2⟩ := dh
    unfold sortI at hr
    split at hr
    · rename_i hc
      injection hr with hr
      subst hr
      obtain ⟨rfl, hc⟩ := hc
      dsimp only at hc
      exact sortedA_tr (Value.int .i64) xs xs (List.mergeSort (α := Int) xs fun x y => decide (x ≤ y)) true rfl rfl (fun N ρ cs h => sortI_cells h) (List.mergeSort (α := Int) xs fun x y => decide (x ≤ y)) (List.length_mergeSort (α := Int) xs) (fun N ρ => sortI_svs _) (by kernel_rfl) rfl (fun h => by subst h; exact List.mergeSort_nil)
        (fun blk cap w h1 h2 => Try.slices_Sort_int blk 0 cap xs w h1 h2 hc) (fun p cap w => Try.slices_Sort_int_none p cap w)
    · cases hr

noncomputable def growN55 (n : Int) : Option (Nat × ((List (Int)) × Unit)) := if 0 ≤ n ∧ n ≤ 140737488355328 ∧ n * ((8 : Nat) : Int) ≤ 140737488355328 then some (0, ([], ())) else none
noncomputable def growN55_ce : CE CT Try.prog where
  f := 55
  args := [.one .nil, .one (.int .i64)]
  hs := []
  res := .val (.one (.asz 0 0))
  outs := [.arr 3 0 false]
  m := fun d dh => growN55 d.2.1
  ok := fun d dh r hr => by
    unfold growN55 at hr
    split at hr
    · rename_i hn
      injection hr with hr
      subst hr
      exact growNil_tr Try.growLay55 rfl rfl (zv := .int .i64 0) false (hsz := by kernel_rfl) (hz := by kernel_rfl) (hby := by kernel_rfl) rfl rfl rfl (by kernel_rfl) d.2.1 hn.1 hn.2.1 hn.2.2
    · cases hr

noncomputable def watershedkit_OverInts_v (n : Nat) (xs : List (Int)) : Option (Unit × (List (Int) × Unit)) := if n ≤ 1000000 then some ((), ([], ())) else none
noncomputable def watershedkit_OverInts_v_ce : CE CT Try.prog where
  f := 51
  args := [.one (.asz 0 0)]
  hs := [.arr 3 0 true]
  res := .tup []
  outs := [.arr 3 0 true]
  m := fun d dh => watershedkit_OverInts_v d.1 dh.1
  ok := fun d dh r hr => by
    unfold watershedkit_OverInts_v at hr
    split at hr
    · rename_i hn
      injection hr with hr
      subst hr
      exact Tr.overA (S := 3) rfl rfl rfl (fun c h1 h2 h3 => by
        obtain ⟨ys, hy⟩ := watershedkit_OverInts_all d.1 c h1 h2 hn
        exact ⟨ys, watershedkit_OverInts_ce.ok ((0, d.1, c), ()) ([], ()) _ hy⟩)
    · cases hr

def quorum_rise1_dr : Nat → DrA
  | _ => ⟨[], [], [], [], [], false⟩
noncomputable def quorum_rise1_tb : List (CE CT Try.prog) := []
noncomputable def quorum_rise1_l1 (a : ((List (Int)) × (List (Int)) × (Int) × (Int) × Unit) × (Unit)) : Option ((((List (Int)) × (List (Int)) × (Int) × (Int) × Unit) × (Unit)) ⊕ ((((Bool) × Unit) × (Unit)) ⊕ ((Unit) × (Unit)))) :=
  (bif (decide ((a.1.2.2.2.1 : Int) < a.1.2.2.1)) then
  (getI a.1.2.1 a.1.2.2.2.1).bind fun e1 =>
  (bif (decide ((e1 : Int) < 1)) then
  some (.inr (.inl ((true, ()), ())))
  else
  (bif (decide ((5 : Int) < e1)) then
  some (.inr (.inl ((true, ()), ())))
  else
  (bif (decide ((0 : Int) < a.1.2.2.2.1)) then
  (getI a.1.1 (IntKind.i64.wrap (a.1.2.2.2.1 - 1))).bind fun e2 =>
  (bif (decide ((e1 : Int) ≤ e2)) then
  some (.inr (.inl ((true, ()), ())))
  else
  some (.inl ((a.1.1, a.1.2.1, a.1.2.2.1, (IntKind.i64.wrap (a.1.2.2.2.1 + 1)), ()), ())))
  else
  some (.inl ((a.1.1, a.1.2.1, a.1.2.2.1, (IntKind.i64.wrap (a.1.2.2.2.1 + 1)), ()), ())))))
  else
  some (.inr (.inr ((), ()))))
noncomputable def quorum_rise1_e1 : LE CT Try.prog := ⟨2, [0, 5, 6, 7], [.one (.sl 0), .one (.sl 0), .one (.int .i64), .one (.int .i64)], [], [⟨.ret, [2], [.one (.bool)], []⟩, ⟨.exit 0, [], [], []⟩], quorum_rise1_l1⟩
noncomputable def quorum_rise1_lt : List (LE CT Try.prog) := [quorum_rise1_e1]
theorem quorum_rise1_e1_ok : LeOk quorum_rise1_e1 (nthL (bodyOf Try.f53) 0) := fun A env h k z hk => le_ok (E := quorum_rise1_e1) (orcOf_ok quorum_rise1_tb) (dr := quorum_rise1_dr) (lps := lpsOf quorum_rise1_lt) (no_loop (by kernel_rfl)) (fun a => by kernel_rfl) env h k z hk
noncomputable def quorum_rise1 (x0 : List (Int)) : Option ((Bool) × (Unit)) :=
  (loopM quorum_rise1_l1 ((x0, x0, (x0.length : Int), 0, ()), ())).bind fun b1 =>
  (match b1 with
  | .inl b2 =>
  some (b2.1.1, ())
  | .inr b3 =>
  some (false, ()))
noncomputable def quorum_rise1_ce : CE CT Try.prog where
  f := 53
  args := [.one (.sl 0)]
  hs := []
  res := .val (.one (.bool))
  outs := []
  m := fun d dh => quorum_rise1 d.1
  ok := ce_ok mixedP Try.func53 (by kernel_rfl) (orcOf_ok quorum_rise1_tb) (dr := quorum_rise1_dr) (lps := lpsOf quorum_rise1_lt) (lps_fn (lps_of (n := 1) (by kernel_rfl) fun i hi => match i, hi with | 0, _ => lp_ok (E := quorum_rise1_e1) (by kernel_rfl) quorum_rise1_e1_ok)) (fun d dh => by kernel_rfl)

def slices_IndexFunc_dr : Nat → DrA
  | _ => ⟨[], [], [], [], [], false⟩
noncomputable def slices_IndexFunc_tb : List (CE CT Try.prog) := [quorum_rise1_ce]
noncomputable def slices_IndexFunc_l1 (a : ((List (List (Int))) × (Unit) × (Int) × (Int) × Unit) × (Unit)) : Option ((((List (List (Int))) × (Unit) × (Int) × (Int) × Unit) × (Unit)) ⊕ ((((Int) × Unit) × (Unit)) ⊕ ((Unit) × (Unit)))) :=
  (bif (decide ((a.1.2.2.2.1 : Int) < a.1.2.2.1)) then
  (getI a.1.1 a.1.2.2.2.1).bind fun e1 =>
  (quorum_rise1 e1).bind fun r2 =>
  (bif r2.1 then
  some (.inr (.inl ((a.1.2.2.2.1, ()), ())))
  else
  some (.inl ((a.1.1, (), a.1.2.2.1, (IntKind.i64.wrap (a.1.2.2.2.1 + 1)), ()), ())))
  else
  some (.inr (.inr ((), ()))))
noncomputable def slices_IndexFunc_e1 : LE CT Try.prog := ⟨2, [0, 1, 7, 8], [.one (.sl 4), .one (.fn 53), .one (.int .i64), .one (.int .i64)], [], [⟨.ret, [4], [.one (.int .i64)], []⟩, ⟨.exit 0, [], [], []⟩], slices_IndexFunc_l1⟩
noncomputable def slices_IndexFunc_lt : List (LE CT Try.prog) := [slices_IndexFunc_e1]
theorem slices_IndexFunc_e1_ok : LeOk slices_IndexFunc_e1 (nthL (bodyOf Try.f58) 0) := fun A env h k z hk => le_ok (E := slices_IndexFunc_e1) (orcOf_ok slices_IndexFunc_tb) (dr := slices_IndexFunc_dr) (lps := lpsOf slices_IndexFunc_lt) (no_loop (by kernel_rfl)) (fun a => by kernel_rfl) env h k z hk
noncomputable def slices_IndexFunc (x0 : List (List (Int))) : Option ((Int) × (Unit)) :=
  (loopM slices_IndexFunc_l1 ((x0, (), (x0.length : Int), 0, ()), ())).bind fun b1 =>
  (match b1 with
  | .inl b2 =>
  some (b2.1.1, ())
  | .inr b3 =>
  some ((-1), ()))
noncomputable def slices_IndexFunc_ce : CE CT Try.prog where
  f := 58
  args := [.one (.sl 4), .one (.fn 53)]
  hs := []
  res := .val (.one (.int .i64))
  outs := []
  m := fun d dh => slices_IndexFunc d.1
  ok := ce_ok mixedP Try.func58 (by kernel_rfl) (orcOf_ok slices_IndexFunc_tb) (dr := slices_IndexFunc_dr) (lps := lpsOf slices_IndexFunc_lt) (lps_fn (lps_of (n := 1) (by kernel_rfl) fun i hi => match i, hi with | 0, _ => lp_ok (E := slices_IndexFunc_e1) (by kernel_rfl) slices_IndexFunc_e1_ok)) (fun d dh => by kernel_rfl)

def slices_ContainsFunc_dr : Nat → DrA
  | _ => ⟨[], [], [], [], [], false⟩
noncomputable def slices_ContainsFunc_tb : List (CE CT Try.prog) := [slices_IndexFunc_ce]
noncomputable def slices_ContainsFunc_lt : List (LE CT Try.prog) := []
noncomputable def slices_ContainsFunc (x0 : List (List (Int))) : Option ((Bool) × (Unit)) :=
  (slices_IndexFunc x0).bind fun r1 =>
  some ((decide ((0 : Int) ≤ r1.1)), ())
noncomputable def slices_ContainsFunc_ce : CE CT Try.prog where
  f := 52
  args := [.one (.sl 4), .one (.fn 53)]
  hs := []
  res := .val (.one (.bool))
  outs := []
  m := fun d dh => slices_ContainsFunc d.1
  ok := ce_ok mixedP Try.func52 (by kernel_rfl) (orcOf_ok slices_ContainsFunc_tb) (dr := slices_ContainsFunc_dr) (lps := lpsOf slices_ContainsFunc_lt) (lps_fn (no_loop (by kernel_rfl))) (fun d dh => by kernel_rfl)

def quorum_rise_dr : Nat → DrA
  | _ => ⟨[], [], [], [], [], false⟩
noncomputable def quorum_rise_tb : List (CE CT Try.prog) := [slices_ContainsFunc_ce]
noncomputable def quorum_rise_lt : List (LE CT Try.prog) := []
noncomputable def quorum_rise (x0 : List (List (Int))) : Option ((Bool) × (Unit)) :=
  (slices_ContainsFunc x0).bind fun r1 =>
  some ((!r1.1), ())
noncomputable def quorum_rise_ce : CE CT Try.prog where
  f := 38
  args := [.one (.sl 4)]
  hs := []
  res := .val (.one (.bool))
  outs := []
  m := fun d dh => quorum_rise d.1
  ok := ce_ok mixedP Try.func38 (by kernel_rfl) (orcOf_ok quorum_rise_tb) (dr := quorum_rise_dr) (lps := lpsOf quorum_rise_lt) (lps_fn (no_loop (by kernel_rfl))) (fun d dh => by kernel_rfl)

def quorum_joint_dr : Nat → DrA
  | _ => ⟨[], [], [], [], [], false⟩
noncomputable def quorum_joint_tb : List (CE CT Try.prog) := []
noncomputable def quorum_joint_lt : List (LE CT Try.prog) := []
noncomputable def quorum_joint (x0 : DGroup) : Option ((Bool) × (Unit)) :=
  some ((decide ((0 : Int) < (x0.config.old.length : Int))), ())
noncomputable def quorum_joint_ce : CE CT Try.prog where
  f := 35
  args := [.cod 6]
  hs := []
  res := .val (.one (.bool))
  outs := []
  m := fun d dh => quorum_joint d.1
  ok := ce_ok mixedP Try.func35 (by kernel_rfl) (orcOf_ok quorum_joint_tb) (dr := quorum_joint_dr) (lps := lpsOf quorum_joint_lt) (lps_fn (no_loop (by kernel_rfl))) (fun d dh => by kernel_rfl)

def slices_Equal_dr : Nat → DrA
  | 6 => ⟨[0, 1, 2, 4, 5, 6, 3, 7, 8], [[], [], [0, 1], [0, 1, 2], [], [], [4, 5], [4, 5, 6], [0, 1, 2, 3, 4, 5, 6, 7]], [], [], [], false⟩
  | _ => ⟨[], [], [], [], [], false⟩
noncomputable def slices_Equal_tb : List (CE CT Try.prog) := []
noncomputable def slices_Equal_l1 (a : ((List (Int)) × (List (Int)) × (Int) × (Int) × Unit) × (Unit)) : Option ((((List (Int)) × (List (Int)) × (Int) × (Int) × Unit) × (Unit)) ⊕ ((((Bool) × Unit) × (Unit)) ⊕ ((Unit) × (Unit)))) :=
  (bif (decide ((a.1.2.2.2.1 : Int) < a.1.2.2.1)) then
  (getI a.1.1 a.1.2.2.2.1).bind fun e1 =>
  (getI a.1.2.1 a.1.2.2.2.1).bind fun e2 =>
  (bif (decide ((e1 : Int) ≠ e2)) then
  some (.inr (.inl ((false, ()), ())))
  else
  some (.inl ((a.1.1, a.1.2.1, a.1.2.2.1, (IntKind.i64.wrap (a.1.2.2.2.1 + 1)), ()), ())))
  else
  some (.inr (.inr ((), ()))))
noncomputable def slices_Equal_e1 : LE CT Try.prog := ⟨4, [0, 1, 12, 13], [.one (.sl 0), .one (.sl 0), .one (.int .i64), .one (.int .i64)], [], [⟨.ret, [4], [.one (.bool)], []⟩, ⟨.exit 0, [], [], []⟩], slices_Equal_l1⟩
noncomputable def slices_Equal_lt : List (LE CT Try.prog) := [slices_Equal_e1]
theorem slices_Equal_e1_ok : LeOk slices_Equal_e1 (nthL (bodyOf Try.f39) 0) := fun A env h k z hk => le_ok (E := slices_Equal_e1) (orcOf_ok slices_Equal_tb) (dr := slices_Equal_dr) (lps := lpsOf slices_Equal_lt) (no_loop (by kernel_rfl)) (fun a => by kernel_rfl) env h k z hk
noncomputable def slices_Equal (x0 : List (Int)) (x1 : List (Int)) : Option ((Bool) × (Unit)) :=
  (bif (decide (((x0.length : Int) : Int) ≠ (x1.length : Int))) then
  some (false, ())
  else
  (loopM slices_Equal_l1 ((x0, x1, (x0.length : Int), 0, ()), ())).bind fun b1 =>
  (match b1 with
  | .inl b2 =>
  some (b2.1.1, ())
  | .inr b3 =>
  some (true, ())))
noncomputable def slices_Equal_ce : CE CT Try.prog where
  f := 39
  args := [.one (.sl 0), .one (.sl 0)]
  hs := []
  res := .val (.one (.bool))
  outs := []
  m := fun d dh => slices_Equal d.1 d.2.1
  ok := ce_ok mixedP Try.func39 (by kernel_rfl) (orcOf_ok slices_Equal_tb) (dr := slices_Equal_dr) (lps := lpsOf slices_Equal_lt) (lps_fn (lps_of (n := 1) (by kernel_rfl) fun i hi => match i, hi with | 0, _ => lp_ok (E := slices_Equal_e1) (by kernel_rfl) slices_Equal_e1_ok)) (fun d dh => by kernel_rfl)

def quorum_changes_dr : Nat → DrA
  | _ => ⟨[], [], [], [], [], false⟩
noncomputable def quorum_changes_tb : List (CE CT Try.prog) := []
noncomputable def quorum_changes_lt : List (LE CT Try.prog) := []
noncomputable def quorum_changes (x0 : DGroup) : Option ((Bool) × (Unit)) :=
  some ((decide ((0 : Int) < (x0.config.want.length : Int))), ())
noncomputable def quorum_changes_ce : CE CT Try.prog where
  f := 36
  args := [.cod 6]
  hs := []
  res := .val (.one (.bool))
  outs := []
  m := fun d dh => quorum_changes d.1
  ok := ce_ok mixedP Try.func36 (by kernel_rfl) (orcOf_ok quorum_changes_tb) (dr := quorum_changes_dr) (lps := lpsOf quorum_changes_lt) (lps_fn (no_loop (by kernel_rfl))) (fun d dh => by kernel_rfl)

def slices_Index_dr : Nat → DrA
  | _ => ⟨[], [], [], [], [], false⟩
noncomputable def slices_Index_tb : List (CE CT Try.prog) := []
noncomputable def slices_Index_l1 (a : ((List (Int)) × (Int) × (Int) × (Int) × Unit) × (Unit)) : Option ((((List (Int)) × (Int) × (Int) × (Int) × Unit) × (Unit)) ⊕ ((((Int) × Unit) × (Unit)) ⊕ ((Unit) × (Unit)))) :=
  (bif (decide ((a.1.2.2.2.1 : Int) < a.1.2.2.1)) then
  (getI a.1.1 a.1.2.2.2.1).bind fun e1 =>
  (bif (decide ((a.1.2.1 : Int) = e1)) then
  some (.inr (.inl ((a.1.2.2.2.1, ()), ())))
  else
  some (.inl ((a.1.1, a.1.2.1, a.1.2.2.1, (IntKind.i64.wrap (a.1.2.2.2.1 + 1)), ()), ())))
  else
  some (.inr (.inr ((), ()))))
noncomputable def slices_Index_e1 : LE CT Try.prog := ⟨2, [0, 1, 7, 8], [.one (.sl 0), .one (.int .i64), .one (.int .i64), .one (.int .i64)], [], [⟨.ret, [4], [.one (.int .i64)], []⟩, ⟨.exit 0, [], [], []⟩], slices_Index_l1⟩
noncomputable def slices_Index_lt : List (LE CT Try.prog) := [slices_Index_e1]
theorem slices_Index_e1_ok : LeOk slices_Index_e1 (nthL (bodyOf Try.f54) 0) := fun A env h k z hk => le_ok (E := slices_Index_e1) (orcOf_ok slices_Index_tb) (dr := slices_Index_dr) (lps := lpsOf slices_Index_lt) (no_loop (by kernel_rfl)) (fun a => by kernel_rfl) env h k z hk
noncomputable def slices_Index (x0 : List (Int)) (x1 : Int) : Option ((Int) × (Unit)) :=
  (loopM slices_Index_l1 ((x0, x1, (x0.length : Int), 0, ()), ())).bind fun b1 =>
  (match b1 with
  | .inl b2 =>
  some (b2.1.1, ())
  | .inr b3 =>
  some ((-1), ()))
noncomputable def slices_Index_ce : CE CT Try.prog where
  f := 54
  args := [.one (.sl 0), .one (.int .i64)]
  hs := []
  res := .val (.one (.int .i64))
  outs := []
  m := fun d dh => slices_Index d.1 d.2.1
  ok := ce_ok mixedP Try.func54 (by kernel_rfl) (orcOf_ok slices_Index_tb) (dr := slices_Index_dr) (lps := lpsOf slices_Index_lt) (lps_fn (lps_of (n := 1) (by kernel_rfl) fun i hi => match i, hi with | 0, _ => lp_ok (E := slices_Index_e1) (by kernel_rfl) slices_Index_e1_ok)) (fun d dh => by kernel_rfl)

def slices_Contains_dr : Nat → DrA
  | _ => ⟨[], [], [], [], [], false⟩
noncomputable def slices_Contains_tb : List (CE CT Try.prog) := [slices_Index_ce]
noncomputable def slices_Contains_lt : List (LE CT Try.prog) := []
noncomputable def slices_Contains (x0 : List (Int)) (x1 : Int) : Option ((Bool) × (Unit)) :=
  (slices_Index x0 x1).bind fun r1 =>
  some ((decide ((0 : Int) ≤ r1.1)), ())
noncomputable def slices_Contains_ce : CE CT Try.prog where
  f := 41
  args := [.one (.sl 0), .one (.int .i64)]
  hs := []
  res := .val (.one (.bool))
  outs := []
  m := fun d dh => slices_Contains d.1 d.2.1
  ok := ce_ok mixedP Try.func41 (by kernel_rfl) (orcOf_ok slices_Contains_tb) (dr := slices_Contains_dr) (lps := lpsOf slices_Contains_lt) (lps_fn (no_loop (by kernel_rfl))) (fun d dh => by kernel_rfl)

def quorum_without_dr : Nat → DrA
  | _ => ⟨[], [], [], [], [], false⟩
noncomputable def quorum_without_tb : List (CE CT Try.prog) := [slices_Contains_ce]
noncomputable def quorum_without_l1 (a : ((List (Int)) × (List (Int)) × (List (Int)) × (Int) × (Int) × Unit) × ((Unit) × Unit)) : Option ((((List (Int)) × (List (Int)) × (List (Int)) × (Int) × (Int) × Unit) × ((Unit) × Unit)) ⊕ ((((List (Int)) × Unit) × ((Unit) × (Unit) × Unit)))) :=
  (bif (decide ((a.1.2.2.2.2.1 : Int) < a.1.2.2.2.1)) then
  (getI a.1.2.2.1 a.1.2.2.2.2.1).bind fun e1 =>
  (slices_Contains a.1.1 e1).bind fun r2 =>
  (bif (!r2.1) then
  (if a.1.2.1.length + ([e1] : List (Int)).length ≤ 140737488355328 ∧ (a.1.2.1.length + ([e1] : List (Int)).length) * 8 ≤ 140737488355328 then
  some (.inl ((a.1.1, (a.1.2.1 ++ ([e1] : List (Int))), a.1.2.2.1, a.1.2.2.2.1, (IntKind.i64.wrap (a.1.2.2.2.2.1 + 1)), ()), ((), ())))
  else none)
  else
  some (.inl ((a.1.1, a.1.2.1, a.1.2.2.1, a.1.2.2.2.1, (IntKind.i64.wrap (a.1.2.2.2.2.1 + 1)), ()), ((), ()))))
  else
  some (.inr ((a.1.2.1, ()), ((), (), ()))))
noncomputable def quorum_without_e1 : LE CT Try.prog := ⟨3, [1, 5, 8, 9, 10], [.one (.sl 0), .one (.own 0 0), .one (.sl 0), .one (.int .i64), .one (.int .i64)], [.row 3 1], [⟨.exit 0, [5], [.one (.own 0 1)], [.dead, .row 3 1]⟩], quorum_without_l1⟩
noncomputable def quorum_without_lt : List (LE CT Try.prog) := [quorum_without_e1]
theorem quorum_without_e1_ok : LeOk quorum_without_e1 (nthL (bodyOf Try.f40) 0) := fun A env h k z hk => le_ok (E := quorum_without_e1) (orcOf_ok quorum_without_tb) (dr := quorum_without_dr) (lps := lpsOf quorum_without_lt) (no_loop (by kernel_rfl)) (fun a => by kernel_rfl) env h k z hk
noncomputable def quorum_without (x0 : List (Int)) (x1 : List (Int)) : Option ((List (Int)) × ((Unit) × Unit)) :=
  (loopM quorum_without_l1 ((x1, [], x0, (x0.length : Int), 0, ()), ((), ()))).bind fun b1 =>
  some (b1.1.1, ((), ()))
noncomputable def quorum_without_ce : CE CT Try.prog where
  f := 40
  args := [.one (.sl 0), .one (.sl 0)]
  hs := []
  res := .val (.one (.own 0 0))
  outs := [.row 3 1]
  m := fun d dh => quorum_without d.1 d.2.1
  ok := ce_ok mixedP Try.func40 (by kernel_rfl) (orcOf_ok quorum_without_tb) (dr := quorum_without_dr) (lps := lpsOf quorum_without_lt) (lps_fn (lps_of (n := 1) (by kernel_rfl) fun i hi => match i, hi with | 0, _ => lp_ok (E := quorum_without_e1) (by kernel_rfl) quorum_without_e1_ok)) (fun d dh => by kernel_rfl)

def quorum_right_dr : Nat → DrA
  | 8 => ⟨[0, 1, 3, 4, 2, 5, 6, 7, 8, 9, 10, 12, 13, 15, 16, 11, 14, 17, 18, 19, 20, 21], [[], [0], [0, 1], [], [3], [3, 4], [0, 1, 2, 3, 4, 5], [0, 1, 2, 3, 4, 5, 6], [0, 1, 2, 3, 4, 5, 6, 7], [0, 1, 2, 3, 4, 5, 6, 7, 8], [0, 1, 2, 3, 4, 5, 6, 7, 8, 9], [0, 1, 2, 3, 4, 5, 6, 7, 8, 9, 10], [0, 1, 2, 3, 4, 5, 6, 7, 8], [0, 1, 2, 3, 4, 5, 6, 7, 8, 12], [0, 1, 2, 3, 4, 5, 6, 7, 8, 12, 13], [0, 1, 2, 3, 4, 5, 6, 7, 8], [0, 1, 2, 3, 4, 5, 6, 7, 8, 15], [0, 1, 2, 3, 4, 5, 6, 7, 8, 15, 16], [0, 1, 2, 3, 4, 5, 6, 7, 8, 12, 13, 14, 15, 16, 17], [0, 1, 2, 3, 4, 5, 6, 7, 8, 9, 10, 11, 12, 13, 14, 15, 16, 17, 18], [0, 1, 2, 3, 4, 5, 6, 7, 8, 9, 10, 11, 12, 13, 14, 15, 16, 17, 18, 19], [0, 1, 2, 3, 4, 5, 6, 7, 8, 9, 10, 11, 12, 13, 14, 15, 16, 17, 18, 19, 20]], [11], [18], [0], false⟩
  | _ => ⟨[], [], [], [], [], false⟩
noncomputable def quorum_right_tb : List (CE CT Try.prog) := [quorum_rise_ce, quorum_joint_ce, slices_Equal_ce, quorum_changes_ce, quorum_without_ce]
noncomputable def quorum_right_lt : List (LE CT Try.prog) := []
noncomputable def quorum_right (x0 : DGroup) : Option ((Bool) × (Unit)) :=
  (quorum_rise ([x0.config.voters, x0.config.old, x0.config.learners, x0.config.want] : List (List (Int)))).bind fun r1 =>
  (bif (!r1.1) then
  some (false, ())
  else
  (bif (decide (((x0.config.voters.length : Int) : Int) = 0)) then
  let y2 : Bool := (decide (((IntKind.i64.wrap ((IntKind.i64.wrap ((x0.config.old.length : Int) + (x0.config.learners.length : Int))) + (x0.config.want.length : Int))) : Int) = 0))
  some (y2, ())
  else
  (quorum_joint x0).bind fun r3 =>
  (bif r3.1 then
  (slices_Equal x0.config.want x0.config.voters).bind fun r4 =>
  (bif r4.1 then
  some ((decide (((x0.config.learners.length : Int) : Int) = 0)), ())
  else
  some (false, ()))
  else
  (quorum_changes x0).bind fun r5 =>
  (bif r5.1 then
  (slices_Equal x0.config.want x0.config.voters).bind fun r6 =>
  (bif (!r6.1) then
  (quorum_without x0.config.want x0.config.voters).bind fun r7 =>
  (slices_Equal x0.config.learners r7.1).bind fun r8 =>
  some (r8.1, ())
  else
  some (false, ()))
  else
  some ((decide (((x0.config.learners.length : Int) : Int) = 0)), ())))))
noncomputable def quorum_right_ce : CE CT Try.prog where
  f := 33
  args := [.cod 6]
  hs := []
  res := .val (.one (.bool))
  outs := []
  m := fun d dh => quorum_right d.1
  ok := ce_ok mixedP Try.func33 (by kernel_rfl) (orcOf_ok quorum_right_tb) (dr := quorum_right_dr) (lps := lpsOf quorum_right_lt) (lps_fn (no_loop (by kernel_rfl))) (fun d dh => by kernel_rfl)

noncomputable def clone37 (x : List (Int)) : Option ((List (Int)) × (Unit × Unit)) :=
  if x.length ≤ 140737488355328 ∧ x.length * 8 ≤ 140737488355328 then some (x, ((), ())) else none
noncomputable def clone37_ce : CE CT Try.prog where
  f := 37
  args := [.one (.sl 0)]
  hs := []
  res := .val (.one (.own 0 0))
  outs := [.row 3 1]
  m := fun d dh => clone37 d.1
  ok := fun d dh r hr => by
    unfold clone37 at hr
    split at hr
    · rename_i hroom
      injection hr with hr
      subst hr
      exact clone_tr mixedP Try.func37 (by kernel_rfl) rfl rfl (zv := .int .i64 0) (he := by kernel_rfl) (hsz := by kernel_rfl) (hz := by kernel_rfl) (hby := by kernel_rfl) rfl rfl d.1 hroom
    · cases hr

def quorum_Begin_dr : Nat → DrA
  | 11 => ⟨[0, 1, 4, 5, 6, 9, 2, 7, 3, 8, 10, 11, 12, 13], [[], [0], [0, 1], [0, 1, 2], [], [], [5], [5, 6], [0, 1, 2, 3, 4, 5, 6, 7], [], [0, 1, 2, 3, 4, 5, 6, 7, 8, 9], [0, 1, 2, 3, 4, 5, 6, 7, 8, 9, 10], [0, 1, 2, 3, 4, 5, 6, 7, 8, 9, 10, 11], [0, 1, 2, 3, 4, 5, 6, 7, 8, 9, 10, 11, 12]], [7], [3], [2], false⟩
  | _ => ⟨[], [], [], [], [], false⟩
noncomputable def quorum_Begin_tb : List (CE CT Try.prog) := [quorum_right_ce, quorum_rise_ce, quorum_changes_ce, slices_Equal_ce, clone37_ce, quorum_without_ce]
noncomputable def quorum_Begin_lt : List (LE CT Try.prog) := []
noncomputable def quorum_Begin (x0 : DConfig) (x1 : List (Int)) : Option ((((List (Int)) × (List (Int)) × (List (Int)) × (List (Int)) × Unit) × (Int) × Unit) × ((Unit) × (Unit) × (Unit) × (Unit) × Unit)) :=
  (quorum_right (⟨x0⟩ : DGroup)).bind fun r1 =>
  (bif (!r1.1) then
  some ((([], [], [], [], ()), 2, ()), ((), (), (), (), ()))
  else
  (bif (decide (((x0.voters.length : Int) : Int) = 0)) then
  some ((([], [], [], [], ()), 2, ()), ((), (), (), (), ()))
  else
  (quorum_rise ([x1] : List (List (Int)))).bind fun r2 =>
  (bif (!r2.1) then
  some ((([], [], [], [], ()), 2, ()), ((), (), (), (), ()))
  else
  (bif (decide (((x1.length : Int) : Int) = 0)) then
  some ((([], [], [], [], ()), 2, ()), ((), (), (), (), ()))
  else
  (quorum_changes (⟨x0⟩ : DGroup)).bind fun r3 =>
  (bif r3.1 then
  some ((([], [], [], [], ()), 25, ()), ((), (), (), (), ()))
  else
  (slices_Equal x1 x0.voters).bind fun r4 =>
  (bif r4.1 then
  some ((([], [], [], [], ()), 7, ()), ((), (), (), (), ()))
  else
  (clone37 x0.voters).bind fun r5 =>
  (quorum_without x1 x0.voters).bind fun r6 =>
  (clone37 x1).bind fun r7 =>
  some (((r5.1, [], r6.1, r7.1, ()), 0, ()), ((), (), (), (), ()))))))))
noncomputable def quorum_Begin_ce : CE CT Try.prog where
  f := 12
  args := [.cod 5, .one (.sl 0)]
  hs := []
  res := .tup [.agg [.own 0 0, .own 0 1, .own 0 2, .own 0 3], .one (.int .i64)]
  outs := [.row 3 1, .row 3 1, .row 3 1, .row 3 1]
  m := fun d dh => quorum_Begin d.1 d.2.1
  ok := ce_ok mixedP Try.func12 (by kernel_rfl) (orcOf_ok quorum_Begin_tb) (dr := quorum_Begin_dr) (lps := lpsOf quorum_Begin_lt) (lps_fn (no_loop (by kernel_rfl))) (fun d dh => by kernel_rfl)

def quorum_Next_dr : Nat → DrA
  | 7 => ⟨[0, 1, 4, 5, 8, 9, 2, 6, 10, 3, 7, 11, 12, 13, 14], [[], [0], [0, 1], [0, 1, 2], [], [4], [4, 5], [0, 1, 2, 3, 4, 5, 6], [], [8], [8, 9], [0, 1, 2, 3, 4, 5, 6, 7, 8, 9, 10], [0, 1, 2, 3, 4, 5, 6, 7, 8, 9, 10, 11], [0, 1, 2, 3, 4, 5, 6, 7, 8, 9, 10, 11, 12], [0, 1, 2, 3, 4, 5, 6, 7, 8, 9, 10, 11, 12, 13]], [6, 10], [3, 7], [2], false⟩
  | _ => ⟨[], [], [], [], [], false⟩
noncomputable def quorum_Next_tb : List (CE CT Try.prog) := [quorum_right_ce, quorum_changes_ce, quorum_joint_ce, clone37_ce]
noncomputable def quorum_Next_lt : List (LE CT Try.prog) := []
noncomputable def quorum_Next (x0 : DConfig) : Option ((((List (Int)) × (List (Int)) × (List (Int)) × (List (Int)) × Unit) × (Bool) × Unit) × ((Unit) × (Unit) × (Unit) × (Unit) × Unit)) :=
  (quorum_right (⟨x0⟩ : DGroup)).bind fun r1 =>
  (bif (!r1.1) then
  some ((([], [], [], [], ()), false, ()), ((), (), (), (), ()))
  else
  (quorum_changes (⟨x0⟩ : DGroup)).bind fun r2 =>
  (bif (!r2.1) then
  some ((([], [], [], [], ()), false, ()), ((), (), (), (), ()))
  else
  (quorum_joint (⟨x0⟩ : DGroup)).bind fun r3 =>
  (bif r3.1 then
  (clone37 x0.voters).bind fun r4 =>
  some (((r4.1, [], [], [], ()), true, ()), ((), (), (), (), ()))
  else
  (clone37 x0.want).bind fun r5 =>
  (clone37 x0.voters).bind fun r6 =>
  (clone37 x0.want).bind fun r7 =>
  some (((r5.1, r6.1, [], r7.1, ()), true, ()), ((), (), (), (), ())))))
noncomputable def quorum_Next_ce : CE CT Try.prog where
  f := 11
  args := [.cod 5]
  hs := []
  res := .tup [.agg [.own 0 0, .own 0 1, .own 0 2, .own 0 3], .one (.bool)]
  outs := [.row 3 1, .row 3 1, .row 3 1, .row 3 1]
  m := fun d dh => quorum_Next d.1
  ok := ce_ok mixedP Try.func11 (by kernel_rfl) (orcOf_ok quorum_Next_tb) (dr := quorum_Next_dr) (lps := lpsOf quorum_Next_lt) (lps_fn (no_loop (by kernel_rfl))) (fun d dh => by kernel_rfl)

def watershedkit_SameInts_dr : Nat → DrA
  | 6 => ⟨[0, 1, 2, 4, 5, 6, 3, 7, 8], [[], [], [0, 1], [0, 1, 2], [], [], [4, 5], [4, 5, 6], [0, 1, 2, 3, 4, 5, 6, 7]], [], [], [], false⟩
  | _ => ⟨[], [], [], [], [], false⟩
noncomputable def watershedkit_SameInts_tb : List (CE CT Try.prog) := []
noncomputable def watershedkit_SameInts_l1 (a : ((List (Int)) × (List (Int)) × (Int) × Unit) × (Unit)) : Option ((((List (Int)) × (List (Int)) × (Int) × Unit) × (Unit)) ⊕ ((((Bool) × Unit) × (Unit)) ⊕ ((Unit) × (Unit)))) :=
  (bif (decide ((a.1.2.2.1 : Int) < (a.1.1.length : Int))) then
  (getI a.1.1 a.1.2.2.1).bind fun e1 =>
  (getI a.1.2.1 a.1.2.2.1).bind fun e2 =>
  (bif (decide ((e1 : Int) ≠ e2)) then
  some (.inr (.inl ((false, ()), ())))
  else
  some (.inl ((a.1.1, a.1.2.1, (IntKind.i64.wrap (a.1.2.2.1 + 1)), ()), ())))
  else
  some (.inr (.inr ((), ()))))
noncomputable def watershedkit_SameInts_e1 : LE CT Try.prog := ⟨4, [0, 1, 5], [.one (.sl 0), .one (.sl 0), .one (.int .i64)], [], [⟨.ret, [4], [.one (.bool)], []⟩, ⟨.exit 0, [], [], []⟩], watershedkit_SameInts_l1⟩
noncomputable def watershedkit_SameInts_lt : List (LE CT Try.prog) := [watershedkit_SameInts_e1]
theorem watershedkit_SameInts_e1_ok : LeOk watershedkit_SameInts_e1 (nthL (bodyOf Try.f15) 0) := fun A env h k z hk => le_ok (E := watershedkit_SameInts_e1) (orcOf_ok watershedkit_SameInts_tb) (dr := watershedkit_SameInts_dr) (lps := lpsOf watershedkit_SameInts_lt) (no_loop (by kernel_rfl)) (fun a => by kernel_rfl) env h k z hk
noncomputable def watershedkit_SameInts (x0 : List (Int)) (x1 : List (Int)) : Option ((Bool) × (Unit)) :=
  (bif (decide (((x0.length : Int) : Int) ≠ (x1.length : Int))) then
  some (false, ())
  else
  (loopM watershedkit_SameInts_l1 ((x0, x1, 0, ()), ())).bind fun b1 =>
  (match b1 with
  | .inl b2 =>
  some (b2.1.1, ())
  | .inr b3 =>
  some (true, ())))
noncomputable def watershedkit_SameInts_ce : CE CT Try.prog where
  f := 15
  args := [.one (.sl 0), .one (.sl 0)]
  hs := []
  res := .val (.one (.bool))
  outs := []
  m := fun d dh => watershedkit_SameInts d.1 d.2.1
  ok := ce_ok mixedP Try.func15 (by kernel_rfl) (orcOf_ok watershedkit_SameInts_tb) (dr := watershedkit_SameInts_dr) (lps := lpsOf watershedkit_SameInts_lt) (lps_fn (lps_of (n := 1) (by kernel_rfl) fun i hi => match i, hi with | 0, _ => lp_ok (E := watershedkit_SameInts_e1) (by kernel_rfl) watershedkit_SameInts_e1_ok)) (fun d dh => by kernel_rfl)

def watershedkit_SameConfig_dr : Nat → DrA
  | _ => ⟨[], [], [], [], [], false⟩
noncomputable def watershedkit_SameConfig_tb : List (CE CT Try.prog) := [watershedkit_SameInts_ce]
noncomputable def watershedkit_SameConfig_lt : List (LE CT Try.prog) := []
noncomputable def watershedkit_SameConfig (x0 : DConfig) (x1 : DConfig) : Option ((Bool) × (Unit)) :=
  (watershedkit_SameInts x0.voters x1.voters).bind fun r1 =>
  (bif r1.1 then
  (watershedkit_SameInts x0.old x1.old).bind fun r2 =>
  (bif r2.1 then
  (watershedkit_SameInts x0.learners x1.learners).bind fun r3 =>
  (bif r3.1 then
  (watershedkit_SameInts x0.want x1.want).bind fun r4 =>
  some (r4.1, ())
  else
  some (false, ()))
  else
  some (false, ()))
  else
  some (false, ()))
noncomputable def watershedkit_SameConfig_ce : CE CT Try.prog where
  f := 13
  args := [.cod 5, .cod 5]
  hs := []
  res := .val (.one (.bool))
  outs := []
  m := fun d dh => watershedkit_SameConfig d.1 d.2.1
  ok := ce_ok mixedP Try.func13 (by kernel_rfl) (orcOf_ok watershedkit_SameConfig_tb) (dr := watershedkit_SameConfig_dr) (lps := lpsOf watershedkit_SameConfig_lt) (lps_fn (no_loop (by kernel_rfl))) (fun d dh => by kernel_rfl)

def watershedlaw06_same_dr : Nat → DrA
  | _ => ⟨[], [], [], [], [], false⟩
noncomputable def watershedlaw06_same_tb : List (CE CT Try.prog) := [watershedkit_SameConfig_ce]
noncomputable def watershedlaw06_same_lt : List (LE CT Try.prog) := []
noncomputable def watershedlaw06_same (x0 : DConfig) (x1 : DConfig) : Option ((Bool) × (Unit)) :=
  (watershedkit_SameConfig x0 x1).bind fun r1 =>
  some (r1.1, ())
noncomputable def watershedlaw06_same_ce : CE CT Try.prog where
  f := 22
  args := [.cod 5, .cod 5]
  hs := []
  res := .val (.one (.bool))
  outs := []
  m := fun d dh => watershedlaw06_same d.1 d.2.1
  ok := ce_ok mixedP Try.func22 (by kernel_rfl) (orcOf_ok watershedlaw06_same_tb) (dr := watershedlaw06_same_dr) (lps := lpsOf watershedlaw06_same_lt) (lps_fn (no_loop (by kernel_rfl))) (fun d dh => by kernel_rfl)

def watershedlaw06_awake_dr : Nat → DrA
  | _ => ⟨[], [], [], [], [], false⟩
noncomputable def watershedlaw06_awake_tb : List (CE CT Try.prog) := [quorum_Begin_ce, quorum_Next_ce, watershedlaw06_same_ce]
noncomputable def watershedlaw06_awake_lt : List (LE CT Try.prog) := []
noncomputable def watershedlaw06_awake  : Option ((Bool) × (Unit)) :=
  (quorum_Begin (⟨([1, 2, 3] : List (Int)), [], [], []⟩ : DConfig) ([3, 4] : List (Int))).bind fun r1 =>
  (quorum_Next (⟨r1.1.1.1, r1.1.1.2.1, r1.1.1.2.2.1, r1.1.1.2.2.2.1⟩ : DConfig)).bind fun r2 =>
  (quorum_Next (⟨r2.1.1.1, r2.1.1.2.1, r2.1.1.2.2.1, r2.1.1.2.2.2.1⟩ : DConfig)).bind fun r3 =>
  (bif (decide ((r1.1.2.1 : Int) = 0)) then
  (bif r2.1.2.1 then
  (bif r3.1.2.1 then
  (watershedlaw06_same (⟨r1.1.1.1, r1.1.1.2.1, r1.1.1.2.2.1, r1.1.1.2.2.2.1⟩ : DConfig) (⟨([1, 2, 3] : List (Int)), [], ([4] : List (Int)), ([3, 4] : List (Int))⟩ : DConfig)).bind fun r4 =>
  (bif r4.1 then
  (watershedlaw06_same (⟨r2.1.1.1, r2.1.1.2.1, r2.1.1.2.2.1, r2.1.1.2.2.2.1⟩ : DConfig) (⟨([3, 4] : List (Int)), ([1, 2, 3] : List (Int)), [], ([3, 4] : List (Int))⟩ : DConfig)).bind fun r5 =>
  (bif r5.1 then
  (watershedlaw06_same (⟨r3.1.1.1, r3.1.1.2.1, r3.1.1.2.2.1, r3.1.1.2.2.2.1⟩ : DConfig) (⟨([3, 4] : List (Int)), [], [], []⟩ : DConfig)).bind fun r6 =>
  some (r6.1, ())
  else
  some (false, ()))
  else
  some (false, ()))
  else
  some (false, ()))
  else
  some (false, ()))
  else
  some (false, ()))
noncomputable def watershedlaw06_awake_ce : CE CT Try.prog where
  f := 7
  args := []
  hs := []
  res := .val (.one (.bool))
  outs := []
  m := fun d dh => watershedlaw06_awake
  ok := ce_ok mixedP Try.func7 (by kernel_rfl) (orcOf_ok watershedlaw06_awake_tb) (dr := watershedlaw06_awake_dr) (lps := lpsOf watershedlaw06_awake_lt) (lps_fn (no_loop (by kernel_rfl))) (fun d dh => by kernel_rfl)

def watershedlaw06_great_dr : Nat → DrA
  | _ => ⟨[], [], [], [], [], false⟩
noncomputable def watershedlaw06_great_tb : List (CE CT Try.prog) := []
noncomputable def watershedlaw06_great_lt : List (LE CT Try.prog) := []
noncomputable def watershedlaw06_great (x0 : DConfig) (x1 : List (Int)) : Option ((Bool) × (Unit)) :=
  (bif (decide ((40 : Int) < (x0.voters.length : Int))) then
  some (true, ())
  else
  (bif (decide ((40 : Int) < (x0.old.length : Int))) then
  some (true, ())
  else
  (bif (decide ((40 : Int) < (x0.learners.length : Int))) then
  some (true, ())
  else
  (bif (decide ((40 : Int) < (x0.want.length : Int))) then
  some (true, ())
  else
  some ((decide ((40 : Int) < (x1.length : Int))), ())))))
noncomputable def watershedlaw06_great_ce : CE CT Try.prog where
  f := 8
  args := [.cod 5, .one (.sl 0)]
  hs := []
  res := .val (.one (.bool))
  outs := []
  m := fun d dh => watershedlaw06_great d.1 d.2.1
  ok := ce_ok mixedP Try.func8 (by kernel_rfl) (orcOf_ok watershedlaw06_great_tb) (dr := watershedlaw06_great_dr) (lps := lpsOf watershedlaw06_great_lt) (lps_fn (no_loop (by kernel_rfl))) (fun d dh => by kernel_rfl)

def watershedkit_LentInts_dr : Nat → DrA
  | _ => ⟨[], [], [], [], [], false⟩
noncomputable def watershedkit_LentInts_tb : List (CE CT Try.prog) := [watershedkit_mark_ce]
noncomputable def watershedkit_LentInts_l1 (a : ((List (Int)) × (Nat × Nat × Nat) × (Int) × Unit) × ((List (Int)) × Unit)) : Option ((((List (Int)) × (Nat × Nat × Nat) × (Int) × Unit) × ((List (Int)) × Unit)) ⊕ ((((List (Int)) × (Nat × Nat × Nat) × Unit) × ((List (Int)) × Unit)))) :=
  (bif (decide ((a.1.2.2.1 : Int) < 12)) then
  (watershedkit_mark 1 a.1.2.2.1).bind fun r1 =>
  (if (a.1.2.1.2.1 + ([r1.1] : List (Int)).length) ≤ 140737488355328 ∧ (a.1.2.1.2.1 + ([r1.1] : List (Int)).length) * 8 ≤ 140737488355328 ∧ a.1.2.1.1 + a.1.2.1.2.1 ≤ a.2.1.length then
  (if (a.1.2.1.2.1 + ([r1.1] : List (Int)).length) ≤ a.1.2.1.2.2 then
  let y2 : List (Int) := (a.2.1.take (a.1.2.1.1 + a.1.2.1.2.1) ++ ([r1.1] : List (Int)) ++ a.2.1.drop (a.1.2.1.1 + a.1.2.1.2.1 + ([r1.1] : List (Int)).length))
  some (.inl ((a.1.1, (a.1.2.1.1, (a.1.2.1.2.1 + ([r1.1] : List (Int)).length), a.1.2.1.2.2), (IntKind.i64.wrap (a.1.2.2.1 + 1)), ()), (y2, ())))
  else none)
  else none)
  else
  some (.inr ((a.1.1, (a.1.2.1.1, a.1.2.1.2.1, a.1.2.1.2.2), ()), (a.2.1, ()))))
noncomputable def watershedkit_LentInts_e1 : LE CT Try.prog := ⟨4, [0, 3, 4], [.one (.sl 0), .one (.as 0 0), .one (.int .i64)], [.arr 3 0 true], [⟨.exit 0, [0, 3], [.one (.sl 0), .one (.as 0 0)], [.arr 3 0 true]⟩], watershedkit_LentInts_l1⟩
noncomputable def watershedkit_LentInts_lt : List (LE CT Try.prog) := [watershedkit_LentInts_e1]
theorem watershedkit_LentInts_e1_ok : LeOk watershedkit_LentInts_e1 (nthL (bodyOf Try.f19) 0) := fun A env h k z hk => le_ok (E := watershedkit_LentInts_e1) (orcOf_ok watershedkit_LentInts_tb) (dr := watershedkit_LentInts_dr) (lps := lpsOf watershedkit_LentInts_lt) (no_loop (by kernel_rfl)) (fun a => by kernel_rfl) env h k z hk
noncomputable def watershedkit_LentInts (x0 : List (Int)) : Option ((Nat × Nat × Nat) × ((List (Int)) × Unit)) :=
  (if 0 ≤ (0 : Int) ∧ (0 : Int) ≤ (IntKind.i64.wrap ((x0.length : Int) + 12)) ∧ ((IntKind.i64.wrap ((x0.length : Int) + 12)) : Int) ≤ 140737488355328 ∧ ((8 : Nat) : Int) * (IntKind.i64.wrap ((x0.length : Int) + 12)) ≤ 140737488355328 then
  let y1 : List (Int) := (List.replicate ((IntKind.i64.wrap ((x0.length : Int) + 12)) : Int).toNat (0 : Int))
  (if ((0 : Int).toNat + x0.length) ≤ 140737488355328 ∧ ((0 : Int).toNat + x0.length) * 8 ≤ 140737488355328 ∧ 0 + (0 : Int).toNat ≤ y1.length then
  (if ((0 : Int).toNat + x0.length) ≤ ((IntKind.i64.wrap ((x0.length : Int) + 12)) : Int).toNat then
  let y2 : List (Int) := (y1.take (0 + (0 : Int).toNat) ++ x0 ++ y1.drop (0 + (0 : Int).toNat + x0.length))
  (loopM watershedkit_LentInts_l1 ((x0, (0, ((0 : Int).toNat + x0.length), ((IntKind.i64.wrap ((x0.length : Int) + 12)) : Int).toNat), 0, ()), (y2, ()))).bind fun b3 =>
  (if 0 ≤ (0 : Int) ∧ (0 : Int) ≤ ((b3.1.1.length : Int) : Int) ∧ ((b3.1.1.length : Int) : Int) ≤ ((b3.1.2.1.2.2 : Nat) : Int) ∧ ((b3.1.1.length : Int) : Int) ≤ 140737488355328 then
  some (((b3.1.2.1.1 + (0 : Int).toNat), (((b3.1.1.length : Int) : Int).toNat - (0 : Int).toNat), (b3.1.2.1.2.2 - (0 : Int).toNat)), (b3.2.1, ()))
  else none)
  else none)
  else none)
  else none)
noncomputable def watershedkit_LentInts_ce : CE CT Try.prog where
  f := 19
  args := [.one (.sl 0)]
  hs := []
  res := .val (.one (.as 0 0))
  outs := [.arr 3 0 false]
  m := fun d dh => watershedkit_LentInts d.1
  ok := ce_ok mixedP Try.func19 (by kernel_rfl) (orcOf_ok watershedkit_LentInts_tb) (dr := watershedkit_LentInts_dr) (lps := lpsOf watershedkit_LentInts_lt) (lps_fn (lps_of (n := 1) (by kernel_rfl) fun i hi => match i, hi with | 0, _ => lp_ok (E := watershedkit_LentInts_e1) (by kernel_rfl) watershedkit_LentInts_e1_ok)) (fun d dh => by kernel_rfl)

noncomputable def watershedkit_LentInts_x (x0 : List (Int)) : Option ((List (Int) × List (Int)) × Unit) :=
  (watershedkit_LentInts x0).bind fun r => if r.1.1 = 0 ∧ r.1.2.1 ≤ r.2.1.length ∧ r.2.1.length ≤ 140737488355328 then some ((r.2.1.take r.1.2.1, r.2.1.drop r.1.2.1), ()) else none
noncomputable def watershedkit_LentInts_x_ce : CE CT Try.prog where
  f := 19
  args := [.one (.sl 0)]
  hs := []
  res := .val (.one (.slx 0))
  outs := []
  m := fun d dh => watershedkit_LentInts_x d.1
  ok := fun d dh r hr => by
    unfold watershedkit_LentInts_x at hr
    obtain ⟨⟨⟨lo, n, c⟩, xs, u⟩, h1, h2⟩ := bind_some' hr
    dsimp only at h2
    split at h2
    · rename_i hc
      injection h2 with h2
      subst h2
      obtain ⟨rfl, hc2, hc3⟩ := hc
      exact Tr.freezeX hc2 hc3 (watershedkit_LentInts_ce.ok d dh _ h1)
    · cases h2

def watershedkit_LentConfig_dr : Nat → DrA
  | _ => ⟨[], [], [], [], [], false⟩
noncomputable def watershedkit_LentConfig_tb : List (CE CT Try.prog) := [watershedkit_LentInts_x_ce]
noncomputable def watershedkit_LentConfig_lt : List (LE CT Try.prog) := []
noncomputable def watershedkit_LentConfig (x0 : DConfig) : Option (((List (Int) × List (Int)) × (List (Int) × List (Int)) × (List (Int) × List (Int)) × (List (Int) × List (Int)) × Unit) × (Unit)) :=
  (watershedkit_LentInts_x x0.voters).bind fun r1 =>
  (watershedkit_LentInts_x x0.old).bind fun r2 =>
  (watershedkit_LentInts_x x0.learners).bind fun r3 =>
  (watershedkit_LentInts_x x0.want).bind fun r4 =>
  some (((r1.1.1, r1.1.2), (r2.1.1, r2.1.2), (r3.1.1, r3.1.2), (r4.1.1, r4.1.2), ()), ())
noncomputable def watershedkit_LentConfig_ce : CE CT Try.prog where
  f := 18
  args := [.cod 5]
  hs := []
  res := .val (.agg [.slx 0, .slx 0, .slx 0, .slx 0])
  outs := []
  m := fun d dh => watershedkit_LentConfig d.1
  ok := ce_ok mixedP Try.func18 (by kernel_rfl) (orcOf_ok watershedkit_LentConfig_tb) (dr := watershedkit_LentConfig_dr) (lps := lpsOf watershedkit_LentConfig_lt) (lps_fn (no_loop (by kernel_rfl))) (fun d dh => by kernel_rfl)

noncomputable def quorum_Begin_ar (x0 : DConfig) (x1 : List (Int)) : Option ((((Nat) × (Nat) × (Nat) × (Nat) × Unit) × (Int) × Unit) × ((List (Int)) × (List (Int)) × (List (Int)) × (List (Int)) × Unit)) :=
  (quorum_Begin x0 x1).bind fun r => some (((r.1.1.1.length, r.1.1.2.1.length, r.1.1.2.2.1.length, r.1.1.2.2.2.1.length, ()), r.1.2.1, ()), (r.1.1.1, r.1.1.2.1, r.1.1.2.2.1, r.1.1.2.2.2.1, ()))
noncomputable def quorum_Begin_ar_ce : CE CT Try.prog where
  f := 12
  args := [.cod 5, .one (.sl 0)]
  hs := []
  res := .tup [.agg [.asz 0 0, .asz 0 1, .asz 0 2, .asz 0 3], .one (.int .i64)]
  outs := [.arr 3 0 true, .arr 3 0 true, .arr 3 0 true, .arr 3 0 true]
  m := fun d dh => quorum_Begin_ar d.1 d.2.1
  ok := fun d dh r2 hr => by
    unfold quorum_Begin_ar at hr
    obtain ⟨r, h1, h2⟩ := bind_some' hr
    injection h2 with h2
    subst h2
    exact Tr.asArr (quorum_Begin_ce.ok d dh r h1) rfl rfl (fun i x hx => match i, hx with | 0, hx => ⟨3, 0, r.1.1.1, by injection hx with hx; exact hx.symm, rfl, ⟨_, .head _, ⟨_, .head _, rfl, rfl⟩⟩, fun y => rfl, rfl⟩ | 1, hx => ⟨3, 0, r.1.1.2.1, by injection hx with hx; exact hx.symm, rfl, ⟨_, .head _, ⟨_, .tail _ (.head _), rfl, rfl⟩⟩, fun y => rfl, rfl⟩ | 2, hx => ⟨3, 0, r.1.1.2.2.1, by injection hx with hx; exact hx.symm, rfl, ⟨_, .head _, ⟨_, .tail _ (.tail _ (.head _)), rfl, rfl⟩⟩, fun y => rfl, rfl⟩ | 3, hx => ⟨3, 0, r.1.1.2.2.2.1, by injection hx with hx; exact hx.symm, rfl, ⟨_, .head _, ⟨_, .tail _ (.tail _ (.tail _ (.head _))), rfl, rfl⟩⟩, fun y => rfl, rfl⟩ | i + 4, hx => by cases hx)

def watershedref06_row_dr : Nat → DrA
  | 4 => ⟨[0, 1, 2, 3, 4, 5, 6, 7, 8, 9, 10, 11, 12, 13, 14, 15, 16, 17, 18, 19, 21, 22, 23, 20, 24, 25, 26, 27], [[], [], [0, 1], [0, 1, 2], [0, 1, 2, 3], [0, 1, 2, 3, 4], [0, 1, 2, 3, 4, 5], [0, 1, 2, 3, 4, 5], [0, 1, 2, 3, 4, 5, 6, 7], [0, 1, 2, 3, 4, 5, 6, 7, 8], [0, 1, 2, 3, 4, 5, 6, 7, 8, 9], [0, 1, 2, 3, 4, 5, 6, 7, 8, 9, 10], [0, 1, 2, 3, 4, 5, 6, 7, 8, 9, 10, 11], [0, 1, 2, 3, 4, 5, 6, 7, 8, 9, 10, 11, 12], [0, 1, 2, 3, 4, 5, 6, 7, 8, 9, 10, 11, 12, 13], [0, 1, 2, 3, 4, 5, 6, 7, 8, 9, 10, 11, 12, 13, 14], [0, 1, 2, 3, 4, 5, 6, 7, 8, 9, 10, 11, 12, 13, 14, 15], [0, 1, 2, 3, 4, 5, 6, 7, 8, 9, 10, 11, 12, 13, 14, 15], [0, 1, 2, 3, 4, 5, 6, 7, 8, 9, 10, 11, 12, 13, 14, 15, 17], [0, 1, 2, 3, 4, 5, 6, 7, 8, 9, 10, 11, 12, 13, 14, 15, 16, 17, 18], [0, 1, 2, 3, 4, 5, 6, 7, 8, 9, 10, 11, 12, 13, 14, 15, 16, 17, 18, 19], [0, 1, 2, 3, 4, 5, 6, 7, 8, 9, 10, 11, 12, 13, 14, 15], [0, 1, 2, 3, 4, 5, 6, 7, 8, 9, 10, 11, 12, 13, 14, 15], [0, 1, 2, 3, 4, 5, 6, 7, 8, 9, 10, 11, 12, 13, 14, 15, 21, 22], [0, 1, 2, 3, 4, 5, 6, 7, 8, 9, 10, 11, 12, 13, 14, 15, 21, 22, 23], [0, 1, 2, 3, 4, 5, 6, 7, 8, 9, 10, 11, 12, 13, 14, 15, 16, 17, 18, 19, 20, 21, 22, 23, 24], [0, 1, 2, 3, 4, 5, 6, 7, 8, 9, 10, 11, 12, 13, 14, 15, 16, 17, 18, 19, 20, 21, 22, 23, 24, 25], [0, 1, 2, 3, 4, 5, 6, 7, 8, 9, 10, 11, 12, 13, 14, 15, 16, 17, 18, 19, 20, 21, 22, 23, 24, 25, 26]], [], [], [], false⟩
  | _ => ⟨[], [], [], [], [], false⟩
noncomputable def watershedref06_row_tb : List (CE CT Try.prog) := []
noncomputable def watershedref06_row_l1 (a : ((List (Int)) × (Int) × Unit) × (Unit)) : Option ((((List (Int)) × (Int) × Unit) × (Unit)) ⊕ ((((Bool) × Unit) × (Unit)) ⊕ ((Unit) × (Unit)))) :=
  (bif (decide ((a.1.2.1 : Int) < (a.1.1.length : Int))) then
  (getI a.1.1 a.1.2.1).bind fun e1 =>
  (bif (decide ((e1 : Int) < 1)) then
  some (.inr (.inl ((false, ()), ())))
  else
  (getI a.1.1 a.1.2.1).bind fun e2 =>
  (bif (decide ((5 : Int) < e2)) then
  some (.inr (.inl ((false, ()), ())))
  else
  (bif (decide ((0 : Int) < a.1.2.1)) then
  (getI a.1.1 (IntKind.i64.wrap (a.1.2.1 - 1))).bind fun e3 =>
  (getI a.1.1 a.1.2.1).bind fun e4 =>
  (bif (decide ((e4 : Int) ≤ e3)) then
  some (.inr (.inl ((false, ()), ())))
  else
  some (.inl ((a.1.1, (IntKind.i64.wrap (a.1.2.1 + 1)), ()), ())))
  else
  some (.inl ((a.1.1, (IntKind.i64.wrap (a.1.2.1 + 1)), ()), ())))))
  else
  some (.inr (.inr ((), ()))))
noncomputable def watershedref06_row_e1 : LE CT Try.prog := ⟨2, [0, 3], [.one (.sl 0), .one (.int .i64)], [], [⟨.ret, [2], [.one (.bool)], []⟩, ⟨.exit 0, [], [], []⟩], watershedref06_row_l1⟩
noncomputable def watershedref06_row_lt : List (LE CT Try.prog) := [watershedref06_row_e1]
theorem watershedref06_row_e1_ok : LeOk watershedref06_row_e1 (nthL (bodyOf Try.f43) 0) := fun A env h k z hk => le_ok (E := watershedref06_row_e1) (orcOf_ok watershedref06_row_tb) (dr := watershedref06_row_dr) (lps := lpsOf watershedref06_row_lt) (no_loop (by kernel_rfl)) (fun a => by kernel_rfl) env h k z hk
noncomputable def watershedref06_row (x0 : List (Int)) : Option ((Bool) × (Unit)) :=
  (loopM watershedref06_row_l1 ((x0, 0, ()), ())).bind fun b1 =>
  (match b1 with
  | .inl b2 =>
  some (b2.1.1, ())
  | .inr b3 =>
  some (true, ()))
noncomputable def watershedref06_row_ce : CE CT Try.prog where
  f := 43
  args := [.one (.sl 0)]
  hs := []
  res := .val (.one (.bool))
  outs := []
  m := fun d dh => watershedref06_row d.1
  ok := ce_ok mixedP Try.func43 (by kernel_rfl) (orcOf_ok watershedref06_row_tb) (dr := watershedref06_row_dr) (lps := lpsOf watershedref06_row_lt) (lps_fn (lps_of (n := 1) (by kernel_rfl) fun i hi => match i, hi with | 0, _ => lp_ok (E := watershedref06_row_e1) (by kernel_rfl) watershedref06_row_e1_ok)) (fun d dh => by kernel_rfl)

def watershedref06_in_dr : Nat → DrA
  | _ => ⟨[], [], [], [], [], false⟩
noncomputable def watershedref06_in_tb : List (CE CT Try.prog) := []
noncomputable def watershedref06_in_l1 (a : ((List (Int)) × (Int) × (Int) × Unit) × (Unit)) : Option ((((List (Int)) × (Int) × (Int) × Unit) × (Unit)) ⊕ ((((Bool) × Unit) × (Unit)) ⊕ ((Unit) × (Unit)))) :=
  (bif (decide ((a.1.2.2.1 : Int) < (a.1.1.length : Int))) then
  (getI a.1.1 a.1.2.2.1).bind fun e1 =>
  (bif (decide ((e1 : Int) = a.1.2.1)) then
  some (.inr (.inl ((true, ()), ())))
  else
  some (.inl ((a.1.1, a.1.2.1, (IntKind.i64.wrap (a.1.2.2.1 + 1)), ()), ())))
  else
  some (.inr (.inr ((), ()))))
noncomputable def watershedref06_in_e1 : LE CT Try.prog := ⟨2, [0, 1, 5], [.one (.sl 0), .one (.int .i64), .one (.int .i64)], [], [⟨.ret, [4], [.one (.bool)], []⟩, ⟨.exit 0, [], [], []⟩], watershedref06_in_l1⟩
noncomputable def watershedref06_in_lt : List (LE CT Try.prog) := [watershedref06_in_e1]
theorem watershedref06_in_e1_ok : LeOk watershedref06_in_e1 (nthL (bodyOf Try.f46) 0) := fun A env h k z hk => le_ok (E := watershedref06_in_e1) (orcOf_ok watershedref06_in_tb) (dr := watershedref06_in_dr) (lps := lpsOf watershedref06_in_lt) (no_loop (by kernel_rfl)) (fun a => by kernel_rfl) env h k z hk
noncomputable def watershedref06_in (x0 : List (Int)) (x1 : Int) : Option ((Bool) × (Unit)) :=
  (loopM watershedref06_in_l1 ((x0, x1, 0, ()), ())).bind fun b1 =>
  (match b1 with
  | .inl b2 =>
  some (b2.1.1, ())
  | .inr b3 =>
  some (false, ()))
noncomputable def watershedref06_in_ce : CE CT Try.prog where
  f := 46
  args := [.one (.sl 0), .one (.int .i64)]
  hs := []
  res := .val (.one (.bool))
  outs := []
  m := fun d dh => watershedref06_in d.1 d.2.1
  ok := ce_ok mixedP Try.func46 (by kernel_rfl) (orcOf_ok watershedref06_in_tb) (dr := watershedref06_in_dr) (lps := lpsOf watershedref06_in_lt) (lps_fn (lps_of (n := 1) (by kernel_rfl) fun i hi => match i, hi with | 0, _ => lp_ok (E := watershedref06_in_e1) (by kernel_rfl) watershedref06_in_e1_ok)) (fun d dh => by kernel_rfl)

def watershedref06_less_dr : Nat → DrA
  | _ => ⟨[], [], [], [], [], false⟩
noncomputable def watershedref06_less_tb : List (CE CT Try.prog) := [watershedref06_in_ce]
noncomputable def watershedref06_less_l1 (a : ((List (Int)) × (List (Int)) × (List (Int)) × (Int) × Unit) × ((Unit) × Unit)) : Option ((((List (Int)) × (List (Int)) × (List (Int)) × (Int) × Unit) × ((Unit) × Unit)) ⊕ ((((List (Int)) × Unit) × ((Unit) × (Unit) × Unit)))) :=
  (bif (decide ((a.1.2.2.2.1 : Int) < (a.1.1.length : Int))) then
  (getI a.1.1 a.1.2.2.2.1).bind fun e1 =>
  (watershedref06_in a.1.2.1 e1).bind fun r2 =>
  (bif (!r2.1) then
  (getI a.1.1 a.1.2.2.2.1).bind fun e3 =>
  (if a.1.2.2.1.length + ([e3] : List (Int)).length ≤ 140737488355328 ∧ (a.1.2.2.1.length + ([e3] : List (Int)).length) * 8 ≤ 140737488355328 then
  some (.inl ((a.1.1, a.1.2.1, (a.1.2.2.1 ++ ([e3] : List (Int))), (IntKind.i64.wrap (a.1.2.2.2.1 + 1)), ()), ((), ())))
  else none)
  else
  some (.inl ((a.1.1, a.1.2.1, a.1.2.2.1, (IntKind.i64.wrap (a.1.2.2.2.1 + 1)), ()), ((), ()))))
  else
  some (.inr ((a.1.2.2.1, ()), ((), (), ()))))
noncomputable def watershedref06_eess_e1 : LE CT Try.prog := ⟨3, [0, 1, 5, 6], [.one (.sl 0), .one (.sl 0), .one (.own 0 0), .one (.int .i64)], [.row 3 1], [⟨.exit 0, [5], [.one (.own 0 1)], [.dead, .row 3 1]⟩], watershedref06_less_l1⟩
noncomputable def watershedref06_less_lt : List (LE CT Try.prog) := [watershedref06_eess_e1]
theorem watershedref06_eess_e1_ok : LeOk watershedref06_eess_e1 (nthL (bodyOf Try.f45) 0) := fun A env h k z hk => le_ok (E := watershedref06_eess_e1) (orcOf_ok watershedref06_less_tb) (dr := watershedref06_less_dr) (lps := lpsOf watershedref06_less_lt) (no_loop (by kernel_rfl)) (fun a => by kernel_rfl) env h k z hk
noncomputable def watershedref06_less (x0 : List (Int)) (x1 : List (Int)) : Option ((List (Int)) × ((Unit) × Unit)) :=
  (loopM watershedref06_less_l1 ((x0, x1, [], 0, ()), ((), ()))).bind fun b1 =>
  some (b1.1.1, ((), ()))
noncomputable def watershedref06_less_ce : CE CT Try.prog where
  f := 45
  args := [.one (.sl 0), .one (.sl 0)]
  hs := []
  res := .val (.one (.own 0 0))
  outs := [.row 3 1]
  m := fun d dh => watershedref06_less d.1 d.2.1
  ok := ce_ok mixedP Try.func45 (by kernel_rfl) (orcOf_ok watershedref06_less_tb) (dr := watershedref06_less_dr) (lps := lpsOf watershedref06_less_lt) (lps_fn (lps_of (n := 1) (by kernel_rfl) fun i hi => match i, hi with | 0, _ => lp_ok (E := watershedref06_eess_e1) (by kernel_rfl) watershedref06_eess_e1_ok)) (fun d dh => by kernel_rfl)

def watershedref06_Right_dr : Nat → DrA
  | 8 => ⟨[0, 2, 4, 1, 3, 5, 6, 7], [[], [0], [], [2], [], [2, 3, 4], [2, 3, 4, 5], [0, 1, 2, 3, 4, 5, 6]], [], [], [], false⟩
  | 14 => ⟨[0, 2, 1, 3, 4, 5, 6, 7, 9, 11, 8, 10, 12, 13, 14, 15, 16], [[], [0], [], [2], [0, 1, 2, 3], [0, 1, 2, 3, 4], [0, 1, 2, 3, 4, 5], [0, 1, 2, 3, 4, 5, 6], [0, 1, 2, 3, 4, 5, 6, 7], [0, 1, 2, 3, 4, 5, 6], [0, 1, 2, 3, 4, 5, 6, 9], [0, 1, 2, 3, 4, 5, 6], [0, 1, 2, 3, 4, 5, 6, 11], [0, 1, 2, 3, 4, 5, 6, 9, 10, 11, 12], [0, 1, 2, 3, 4, 5, 6, 7, 8, 9, 10, 11, 12, 13], [0, 1, 2, 3, 4, 5, 6, 7, 8, 9, 10, 11, 12, 13, 14], [0, 1, 2, 3, 4, 5, 6, 7, 8, 9, 10, 11, 12, 13, 14, 15]], [8], [13], [0], false⟩
  | _ => ⟨[], [], [], [], [], false⟩
noncomputable def watershedref06_Right_tb : List (CE CT Try.prog) := [watershedref06_row_ce, watershedref06_in_ce, watershedkit_SameInts_ce, watershedref06_less_ce]
noncomputable def watershedref06_Right_l1 (a : ((Unit) × (Int) × Unit) × ((DConfig) × Unit)) : Option ((((Unit) × (Int) × Unit) × ((DConfig) × Unit)) ⊕ ((((Bool) × Unit) × ((DConfig) × Unit)) ⊕ (((Unit) × Unit) × ((DConfig) × Unit)))) :=
  (bif (decide ((a.1.2.1 : Int) < (a.2.1.learners.length : Int))) then
  (getI a.2.1.learners a.1.2.1).bind fun e1 =>
  (watershedref06_in a.2.1.voters e1).bind fun r2 =>
  (bif r2.1 then
  some (.inr (.inl ((false, ()), (a.2.1, ()))))
  else
  some (.inl (((), (IntKind.i64.wrap (a.1.2.1 + 1)), ()), (a.2.1, ()))))
  else
  some (.inr (.inr (((), ()), (a.2.1, ())))))
noncomputable def watershedref06_Right_e1 : LE CT Try.prog := ⟨6, [1, 3], [.one (.ptr 0 0), .one (.int .i64)], [.cobj 24 5], [⟨.ret, [2], [.one (.bool)], [.cobj 24 5]⟩, ⟨.exit 0, [1], [.one (.ptr 0 0)], [.cobj 24 5]⟩], watershedref06_Right_l1⟩
noncomputable def watershedref06_Right_lt : List (LE CT Try.prog) := [watershedref06_Right_e1]
theorem watershedref06_Right_e1_ok : LeOk watershedref06_Right_e1 (nthL (bodyOf Try.f23) 0) := fun A env h k z hk => le_ok (E := watershedref06_Right_e1) (orcOf_ok watershedref06_Right_tb) (dr := watershedref06_Right_dr) (lps := lpsOf watershedref06_Right_lt) (no_loop (by kernel_rfl)) (fun a => by kernel_rfl) env h k z hk
noncomputable def watershedref06_Right (x0 : DConfig) : Option ((Bool) × (Unit)) :=
  (watershedref06_row x0.voters).bind fun r1 =>
  (bif (!r1.1) then
  some (false, ())
  else
  (watershedref06_row x0.old).bind fun r2 =>
  (bif (!r2.1) then
  some (false, ())
  else
  (watershedref06_row x0.learners).bind fun r3 =>
  (bif (!r3.1) then
  some (false, ())
  else
  (watershedref06_row x0.want).bind fun r4 =>
  (bif (!r4.1) then
  some (false, ())
  else
  (bif (decide (((x0.voters.length : Int) : Int) = 0)) then
  let y5 : Bool := (decide (((IntKind.i64.wrap ((IntKind.i64.wrap ((x0.old.length : Int) + (x0.learners.length : Int))) + (x0.want.length : Int))) : Int) = 0))
  some (y5, ())
  else
  (loopM watershedref06_Right_l1 (((), 0, ()), (x0, ()))).bind fun b6 =>
  (match b6 with
  | .inl b7 =>
  some (b7.1.1, ())
  | .inr b8 =>
  (bif (decide ((0 : Int) < (b8.2.1.old.length : Int))) then
  (watershedkit_SameInts b8.2.1.want b8.2.1.voters).bind fun r9 =>
  (bif r9.1 then
  some ((decide (((b8.2.1.learners.length : Int) : Int) = 0)), ())
  else
  some (false, ()))
  else
  (bif (decide (((b8.2.1.want.length : Int) : Int) = 0)) then
  some ((decide (((b8.2.1.learners.length : Int) : Int) = 0)), ())
  else
  (watershedkit_SameInts b8.2.1.want b8.2.1.voters).bind fun r10 =>
  (bif (!r10.1) then
  (watershedref06_less b8.2.1.want b8.2.1.voters).bind fun r11 =>
  (watershedkit_SameInts b8.2.1.learners r11.1).bind fun r12 =>
  some (r12.1, ())
  else
  some (false, ()))))))))))
noncomputable def watershedref06_Right_ce : CE CT Try.prog where
  f := 23
  args := [.cod 5]
  hs := []
  res := .val (.one (.bool))
  outs := []
  m := fun d dh => watershedref06_Right d.1
  ok := ce_ok mixedP Try.func23 (by kernel_rfl) (orcOf_ok watershedref06_Right_tb) (dr := watershedref06_Right_dr) (lps := lpsOf watershedref06_Right_lt) (lps_fn (lps_of (n := 1) (by kernel_rfl) fun i hi => match i, hi with | 0, _ => lp_ok (E := watershedref06_Right_e1) (by kernel_rfl) watershedref06_Right_e1_ok)) (fun d dh => by kernel_rfl)

def watershedkit_CopyInts_dr : Nat → DrA
  | _ => ⟨[], [], [], [], [], false⟩
noncomputable def watershedkit_CopyInts_tb : List (CE CT Try.prog) := []
noncomputable def watershedkit_CopyInts_lt : List (LE CT Try.prog) := []
noncomputable def watershedkit_CopyInts (x0 : List (Int)) : Option ((List (Int)) × ((Unit) × Unit)) :=
  (if x0.length ≤ 140737488355328 ∧ x0.length * 8 ≤ 140737488355328 then
  some (x0, ((), ()))
  else none)
noncomputable def watershedkit_CopyInts_ce : CE CT Try.prog where
  f := 44
  args := [.one (.sl 0)]
  hs := []
  res := .val (.one (.own 0 0))
  outs := [.row 3 1]
  m := fun d dh => watershedkit_CopyInts d.1
  ok := ce_ok mixedP Try.func44 (by kernel_rfl) (orcOf_ok watershedkit_CopyInts_tb) (dr := watershedkit_CopyInts_dr) (lps := lpsOf watershedkit_CopyInts_lt) (lps_fn (no_loop (by kernel_rfl))) (fun d dh => by kernel_rfl)

def watershedref06_Begin_dr : Nat → DrA
  | 7 => ⟨[0, 3, 4, 7, 1, 5, 2, 6, 8, 9, 10, 11], [[], [0], [0, 1], [], [], [4], [0, 1, 2, 3, 4, 5], [], [0, 1, 2, 3, 4, 5, 6, 7], [0, 1, 2, 3, 4, 5, 6, 7, 8], [0, 1, 2, 3, 4, 5, 6, 7, 8, 9], [0, 1, 2, 3, 4, 5, 6, 7, 8, 9, 10]], [5], [2], [0], false⟩
  | _ => ⟨[], [], [], [], [], false⟩
noncomputable def watershedref06_Begin_tb : List (CE CT Try.prog) := [watershedref06_Right_ce, watershedref06_row_ce, watershedkit_SameInts_ce, watershedkit_CopyInts_ce, watershedref06_less_ce]
noncomputable def watershedref06_Begin_lt : List (LE CT Try.prog) := []
noncomputable def watershedref06_Begin (x0 : DConfig) (x1 : List (Int)) : Option (((DConfig) × (Int) × Unit) × (Unit)) :=
  (watershedref06_Right x0).bind fun r1 =>
  (bif (!r1.1) then
  some (((⟨[], [], [], []⟩ : DConfig), 2, ()), ())
  else
  (bif (decide (((x0.voters.length : Int) : Int) = 0)) then
  some (((⟨[], [], [], []⟩ : DConfig), 2, ()), ())
  else
  (watershedref06_row x1).bind fun r2 =>
  (bif (!r2.1) then
  some (((⟨[], [], [], []⟩ : DConfig), 2, ()), ())
  else
  (bif (decide (((x1.length : Int) : Int) = 0)) then
  some (((⟨[], [], [], []⟩ : DConfig), 2, ()), ())
  else
  (bif (decide ((0 : Int) < (x0.want.length : Int))) then
  some (((⟨[], [], [], []⟩ : DConfig), 25, ()), ())
  else
  (watershedkit_SameInts x1 x0.voters).bind fun r3 =>
  (bif r3.1 then
  some (((⟨[], [], [], []⟩ : DConfig), 7, ()), ())
  else
  (watershedkit_CopyInts x0.voters).bind fun r4 =>
  (watershedref06_less x1 x0.voters).bind fun r5 =>
  (watershedkit_CopyInts x1).bind fun r6 =>
  some (((⟨r4.1, [], r5.1, r6.1⟩ : DConfig), 0, ()), ())))))))
noncomputable def watershedref06_Begin_ce : CE CT Try.prog where
  f := 20
  args := [.cod 5, .one (.sl 0)]
  hs := []
  res := .tup [.cod 5, .one (.int .i64)]
  outs := []
  m := fun d dh => watershedref06_Begin d.1 d.2.1
  ok := ce_ok mixedP Try.func20 (by kernel_rfl) (orcOf_ok watershedref06_Begin_tb) (dr := watershedref06_Begin_dr) (lps := lpsOf watershedref06_Begin_lt) (lps_fn (no_loop (by kernel_rfl))) (fun d dh => by kernel_rfl)

noncomputable def quorum_Next_ar (x0 : DConfig) : Option ((((Nat) × (Nat) × (Nat) × (Nat) × Unit) × (Bool) × Unit) × ((List (Int)) × (List (Int)) × (List (Int)) × (List (Int)) × Unit)) :=
  (quorum_Next x0).bind fun r => some (((r.1.1.1.length, r.1.1.2.1.length, r.1.1.2.2.1.length, r.1.1.2.2.2.1.length, ()), r.1.2.1, ()), (r.1.1.1, r.1.1.2.1, r.1.1.2.2.1, r.1.1.2.2.2.1, ()))
noncomputable def quorum_Next_ar_ce : CE CT Try.prog where
  f := 11
  args := [.cod 5]
  hs := []
  res := .tup [.agg [.asz 0 0, .asz 0 1, .asz 0 2, .asz 0 3], .one (.bool)]
  outs := [.arr 3 0 true, .arr 3 0 true, .arr 3 0 true, .arr 3 0 true]
  m := fun d dh => quorum_Next_ar d.1
  ok := fun d dh r2 hr => by
    unfold quorum_Next_ar at hr
    obtain ⟨r, h1, h2⟩ := bind_some' hr
    injection h2 with h2
    subst h2
    exact Tr.asArr (quorum_Next_ce.ok d dh r h1) rfl rfl (fun i x hx => match i, hx with | 0, hx => ⟨3, 0, r.1.1.1, by injection hx with hx; exact hx.symm, rfl, ⟨_, .head _, ⟨_, .head _, rfl, rfl⟩⟩, fun y => rfl, rfl⟩ | 1, hx => ⟨3, 0, r.1.1.2.1, by injection hx with hx; exact hx.symm, rfl, ⟨_, .head _, ⟨_, .tail _ (.head _), rfl, rfl⟩⟩, fun y => rfl, rfl⟩ | 2, hx => ⟨3, 0, r.1.1.2.2.1, by injection hx with hx; exact hx.symm, rfl, ⟨_, .head _, ⟨_, .tail _ (.tail _ (.head _)), rfl, rfl⟩⟩, fun y => rfl, rfl⟩ | 3, hx => ⟨3, 0, r.1.1.2.2.2.1, by injection hx with hx; exact hx.symm, rfl, ⟨_, .head _, ⟨_, .tail _ (.tail _ (.tail _ (.head _))), rfl, rfl⟩⟩, fun y => rfl, rfl⟩ | i + 4, hx => by cases hx)

def watershedref06_Next_dr : Nat → DrA
  | 5 => ⟨[0, 3, 6, 1, 4, 7, 2, 5, 8, 9, 10, 11], [[], [0], [0, 1], [], [3], [0, 1, 2, 3, 4], [], [6], [0, 1, 2, 3, 4, 5, 6, 7], [0, 1, 2, 3, 4, 5, 6, 7, 8], [0, 1, 2, 3, 4, 5, 6, 7, 8, 9], [0, 1, 2, 3, 4, 5, 6, 7, 8, 9, 10]], [4, 7], [2, 5], [0], false⟩
  | _ => ⟨[], [], [], [], [], false⟩
noncomputable def watershedref06_Next_tb : List (CE CT Try.prog) := [watershedref06_Right_ce, watershedkit_CopyInts_ce]
noncomputable def watershedref06_Next_lt : List (LE CT Try.prog) := []
noncomputable def watershedref06_Next (x0 : DConfig) : Option (((DConfig) × (Bool) × Unit) × (Unit)) :=
  (watershedref06_Right x0).bind fun r1 =>
  (bif (!r1.1) then
  some (((⟨[], [], [], []⟩ : DConfig), false, ()), ())
  else
  (bif (decide (((x0.want.length : Int) : Int) = 0)) then
  some (((⟨[], [], [], []⟩ : DConfig), false, ()), ())
  else
  (bif (decide ((0 : Int) < (x0.old.length : Int))) then
  (watershedkit_CopyInts x0.voters).bind fun r2 =>
  some (((⟨r2.1, [], [], []⟩ : DConfig), true, ()), ())
  else
  (watershedkit_CopyInts x0.want).bind fun r3 =>
  (watershedkit_CopyInts x0.voters).bind fun r4 =>
  (watershedkit_CopyInts x0.want).bind fun r5 =>
  some (((⟨r3.1, r4.1, [], r5.1⟩ : DConfig), true, ()), ()))))
noncomputable def watershedref06_Next_ce : CE CT Try.prog where
  f := 21
  args := [.cod 5]
  hs := []
  res := .tup [.cod 5, .one (.bool)]
  outs := []
  m := fun d dh => watershedref06_Next d.1
  ok := ce_ok mixedP Try.func21 (by kernel_rfl) (orcOf_ok watershedref06_Next_tb) (dr := watershedref06_Next_dr) (lps := lpsOf watershedref06_Next_lt) (lps_fn (no_loop (by kernel_rfl))) (fun d dh => by kernel_rfl)

def watershedkit_SameInts_2_dr : Nat → DrA
  | 6 => ⟨[0, 1, 2, 4, 5, 6, 3, 7, 8], [[], [], [0, 1], [0, 1, 2], [], [], [4, 5], [4, 5, 6], [0, 1, 2, 3, 4, 5, 6, 7]], [], [], [], false⟩
  | _ => ⟨[], [], [], [], [], false⟩
noncomputable def watershedkit_SameInts_2_tb : List (CE CT Try.prog) := []
noncomputable def watershedkit_SameInts_2_l1 (a : ((Nat) × (List (Int)) × (Int) × Unit) × ((List (Int)) × Unit)) : Option ((((Nat) × (List (Int)) × (Int) × Unit) × ((List (Int)) × Unit)) ⊕ ((((Bool) × Unit) × ((List (Int)) × Unit)) ⊕ ((Unit) × ((List (Int)) × Unit)))) :=
  (bif (decide ((a.1.2.2.1 : Int) < ((a.1.1 : Nat) : Int))) then
  (if 0 ≤ (a.1.2.2.1 : Int) ∧ (a.1.2.2.1 : Int) < ((a.1.1 : Nat) : Int) then
  (getI a.1.2.1 a.1.2.2.1).bind fun e1 =>
  (a.2.1[(0 + (a.1.2.2.1 : Int).toNat)]?).bind fun e2 =>
  (bif (decide ((e2 : Int) ≠ e1)) then
  some (.inr (.inl ((false, ()), (a.2.1, ()))))
  else
  some (.inl ((a.1.1, a.1.2.1, (IntKind.i64.wrap (a.1.2.2.1 + 1)), ()), (a.2.1, ()))))
  else none)
  else
  some (.inr (.inr ((), (a.2.1, ())))))
noncomputable def watershedkit_SameInts_2_e1 : LE CT Try.prog := ⟨4, [0, 1, 5], [.one (.asz 0 0), .one (.sl 0), .one (.int .i64)], [.arr 3 0 true], [⟨.ret, [4], [.one (.bool)], [.arr 3 0 true]⟩, ⟨.exit 0, [], [], [.arr 3 0 true]⟩], watershedkit_SameInts_2_l1⟩
noncomputable def watershedkit_SameInts_2_lt : List (LE CT Try.prog) := [watershedkit_SameInts_2_e1]
theorem watershedkit_SameInts_2_e1_ok : LeOk watershedkit_SameInts_2_e1 (nthL (bodyOf Try.f15) 0) := fun A env h k z hk => le_ok (E := watershedkit_SameInts_2_e1) (orcOf_ok watershedkit_SameInts_2_tb) (dr := watershedkit_SameInts_2_dr) (lps := lpsOf watershedkit_SameInts_2_lt) (no_loop (by kernel_rfl)) (fun a => by kernel_rfl) env h k z hk
noncomputable def watershedkit_SameInts_2 (x0 : Nat) (x1 : List (Int)) (h0 : List (Int)) : Option ((Bool) × ((List (Int)) × Unit)) :=
  (bif (decide ((((x0 : Nat) : Int) : Int) ≠ (x1.length : Int))) then
  some (false, (h0, ()))
  else
  (loopM watershedkit_SameInts_2_l1 ((x0, x1, 0, ()), (h0, ()))).bind fun b1 =>
  (match b1 with
  | .inl b2 =>
  some (b2.1.1, (b2.2.1, ()))
  | .inr b3 =>
  some (true, (b3.2.1, ()))))
noncomputable def watershedkit_SameInts_2_ce : CE CT Try.prog where
  f := 15
  args := [.one (.asz 0 0), .one (.sl 0)]
  hs := [.arr 3 0 true]
  res := .val (.one (.bool))
  outs := [.arr 3 0 true]
  m := fun d dh => watershedkit_SameInts_2 d.1 d.2.1 dh.1
  ok := ce_ok mixedP Try.func15 (by kernel_rfl) (orcOf_ok watershedkit_SameInts_2_tb) (dr := watershedkit_SameInts_2_dr) (lps := lpsOf watershedkit_SameInts_2_lt) (lps_fn (lps_of (n := 1) (by kernel_rfl) fun i hi => match i, hi with | 0, _ => lp_ok (E := watershedkit_SameInts_2_e1) (by kernel_rfl) watershedkit_SameInts_2_e1_ok)) (fun d dh => by kernel_rfl)

def watershedkit_SameConfig_2_dr : Nat → DrA
  | _ => ⟨[], [], [], [], [], false⟩
noncomputable def watershedkit_SameConfig_2_tb : List (CE CT Try.prog) := [watershedkit_SameInts_2_ce]
noncomputable def watershedkit_SameConfig_2_lt : List (LE CT Try.prog) := []
noncomputable def watershedkit_SameConfig_2 (x0 : (Nat) × (Nat) × (Nat) × (Nat) × Unit) (x1 : DConfig) (h0 : List (Int)) (h1 : List (Int)) (h2 : List (Int)) (h3 : List (Int)) : Option ((Bool) × ((List (Int)) × (List (Int)) × (List (Int)) × (List (Int)) × Unit)) :=
  (watershedkit_SameInts_2 x0.1 x1.voters h0).bind fun r1 =>
  (bif r1.1 then
  (watershedkit_SameInts_2 x0.2.1 x1.old h1).bind fun r2 =>
  (bif r2.1 then
  (watershedkit_SameInts_2 x0.2.2.1 x1.learners h2).bind fun r3 =>
  (bif r3.1 then
  (watershedkit_SameInts_2 x0.2.2.2.1 x1.want h3).bind fun r4 =>
  some (r4.1, (r1.2.1, r2.2.1, r3.2.1, r4.2.1, ()))
  else
  some (false, (r1.2.1, r2.2.1, r3.2.1, h3, ())))
  else
  some (false, (r1.2.1, r2.2.1, h2, h3, ())))
  else
  some (false, (r1.2.1, h1, h2, h3, ())))
noncomputable def watershedkit_SameConfig_2_ce : CE CT Try.prog where
  f := 13
  args := [.agg [.asz 0 0, .asz 0 1, .asz 0 2, .asz 0 3], .cod 5]
  hs := [.arr 3 0 true, .arr 3 0 true, .arr 3 0 true, .arr 3 0 true]
  res := .val (.one (.bool))
  outs := [.arr 3 0 true, .arr 3 0 true, .arr 3 0 true, .arr 3 0 true]
  m := fun d dh => watershedkit_SameConfig_2 d.1 d.2.1 dh.1 dh.2.1 dh.2.2.1 dh.2.2.2.1
  ok := ce_ok mixedP Try.func13 (by kernel_rfl) (orcOf_ok watershedkit_SameConfig_2_tb) (dr := watershedkit_SameConfig_2_dr) (lps := lpsOf watershedkit_SameConfig_2_lt) (lps_fn (no_loop (by kernel_rfl))) (fun d dh => by kernel_rfl)

def watershedlaw06_same_2_dr : Nat → DrA
  | _ => ⟨[], [], [], [], [], false⟩
noncomputable def watershedlaw06_same_2_tb : List (CE CT Try.prog) := [watershedkit_SameConfig_2_ce]
noncomputable def watershedlaw06_same_2_lt : List (LE CT Try.prog) := []
noncomputable def watershedlaw06_same_2 (x0 : (Nat) × (Nat) × (Nat) × (Nat) × Unit) (x1 : DConfig) (h0 : List (Int)) (h1 : List (Int)) (h2 : List (Int)) (h3 : List (Int)) : Option ((Bool) × ((List (Int)) × (List (Int)) × (List (Int)) × (List (Int)) × Unit)) :=
  (watershedkit_SameConfig_2 (x0.1, x0.2.1, x0.2.2.1, x0.2.2.2.1, ()) x1 h0 h1 h2 h3).bind fun r1 =>
  some (r1.1, (r1.2.1, r1.2.2.1, r1.2.2.2.1, r1.2.2.2.2.1, ()))
noncomputable def watershedlaw06_same_2_ce : CE CT Try.prog where
  f := 22
  args := [.agg [.asz 0 0, .asz 0 1, .asz 0 2, .asz 0 3], .cod 5]
  hs := [.arr 3 0 true, .arr 3 0 true, .arr 3 0 true, .arr 3 0 true]
  res := .val (.one (.bool))
  outs := [.arr 3 0 true, .arr 3 0 true, .arr 3 0 true, .arr 3 0 true]
  m := fun d dh => watershedlaw06_same_2 d.1 d.2.1 dh.1 dh.2.1 dh.2.2.1 dh.2.2.2.1
  ok := ce_ok mixedP Try.func22 (by kernel_rfl) (orcOf_ok watershedlaw06_same_2_tb) (dr := watershedlaw06_same_2_dr) (lps := lpsOf watershedlaw06_same_2_lt) (lps_fn (no_loop (by kernel_rfl))) (fun d dh => by kernel_rfl)

def quorum_Right_dr : Nat → DrA
  | _ => ⟨[], [], [], [], [], false⟩
noncomputable def quorum_Right_tb : List (CE CT Try.prog) := [quorum_right_ce]
noncomputable def quorum_Right_lt : List (LE CT Try.prog) := []
noncomputable def quorum_Right (x0 : DConfig) : Option ((Bool) × (Unit)) :=
  (quorum_right (⟨x0⟩ : DGroup)).bind fun r1 =>
  some (r1.1, ())
noncomputable def quorum_Right_ce : CE CT Try.prog where
  f := 14
  args := [.cod 5]
  hs := []
  res := .val (.one (.bool))
  outs := []
  m := fun d dh => quorum_Right d.1
  ok := ce_ok mixedP Try.func14 (by kernel_rfl) (orcOf_ok quorum_Right_tb) (dr := quorum_Right_dr) (lps := lpsOf quorum_Right_lt) (lps_fn (no_loop (by kernel_rfl))) (fun d dh => by kernel_rfl)

def quorum_most_dr : Nat → DrA
  | _ => ⟨[], [], [], [], [], false⟩
noncomputable def quorum_most_tb : List (CE CT Try.prog) := [quorum_without_ce]
noncomputable def quorum_most_lt : List (LE CT Try.prog) := []
noncomputable def quorum_most (x0 : List (Int)) (x1 : List (Int)) : Option ((Bool) × (Unit)) :=
  (quorum_without x0 x1).bind fun r1 =>
  let y2 : Bool := (decide (((x0.length : Int) : Int) < (IntKind.i64.wrap (2 * (IntKind.i64.wrap ((x0.length : Int) - (r1.1.length : Int)))))))
  some (y2, ())
noncomputable def quorum_most_ce : CE CT Try.prog where
  f := 34
  args := [.one (.sl 0), .one (.sl 0)]
  hs := []
  res := .val (.one (.bool))
  outs := []
  m := fun d dh => quorum_most d.1 d.2.1
  ok := ce_ok mixedP Try.func34 (by kernel_rfl) (orcOf_ok quorum_most_tb) (dr := quorum_most_dr) (lps := lpsOf quorum_most_lt) (lps_fn (no_loop (by kernel_rfl))) (fun d dh => by kernel_rfl)

def quorum_Agrees_dr : Nat → DrA
  | _ => ⟨[], [], [], [], [], false⟩
noncomputable def quorum_Agrees_tb : List (CE CT Try.prog) := [quorum_right_ce, quorum_most_ce, quorum_joint_ce]
noncomputable def quorum_Agrees_lt : List (LE CT Try.prog) := []
noncomputable def quorum_Agrees (x0 : DConfig) (x1 : List (Int)) : Option ((Bool) × (Unit)) :=
  (quorum_right (⟨x0⟩ : DGroup)).bind fun r1 =>
  (bif r1.1 then
  (quorum_most x0.voters x1).bind fun r2 =>
  (bif r2.1 then
  (quorum_joint (⟨x0⟩ : DGroup)).bind fun r3 =>
  (bif (!r3.1) then
  some (true, ())
  else
  (quorum_most x0.old x1).bind fun r4 =>
  some (r4.1, ()))
  else
  some (false, ()))
  else
  some (false, ()))
noncomputable def quorum_Agrees_ce : CE CT Try.prog where
  f := 9
  args := [.cod 5, .one (.sl 0)]
  hs := []
  res := .val (.one (.bool))
  outs := []
  m := fun d dh => quorum_Agrees d.1 d.2.1
  ok := ce_ok mixedP Try.func9 (by kernel_rfl) (orcOf_ok quorum_Agrees_tb) (dr := quorum_Agrees_dr) (lps := lpsOf quorum_Agrees_lt) (lps_fn (no_loop (by kernel_rfl))) (fun d dh => by kernel_rfl)

def watershedref06_half_dr : Nat → DrA
  | _ => ⟨[], [], [], [], [], false⟩
noncomputable def watershedref06_half_tb : List (CE CT Try.prog) := [watershedref06_in_ce]
noncomputable def watershedref06_half_l1 (a : ((List (Int)) × (List (Int)) × (Int) × (Int) × Unit) × (Unit)) : Option ((((List (Int)) × (List (Int)) × (Int) × (Int) × Unit) × (Unit)) ⊕ ((((List (Int)) × (Int) × Unit) × (Unit)))) :=
  (bif (decide ((a.1.2.2.2.1 : Int) < (a.1.1.length : Int))) then
  (getI a.1.1 a.1.2.2.2.1).bind fun e1 =>
  (watershedref06_in a.1.2.1 e1).bind fun r2 =>
  (bif r2.1 then
  some (.inl ((a.1.1, a.1.2.1, (IntKind.i64.wrap (a.1.2.2.1 + 1)), (IntKind.i64.wrap (a.1.2.2.2.1 + 1)), ()), ()))
  else
  some (.inl ((a.1.1, a.1.2.1, a.1.2.2.1, (IntKind.i64.wrap (a.1.2.2.2.1 + 1)), ()), ())))
  else
  some (.inr ((a.1.1, a.1.2.2.1, ()), ())))
noncomputable def watershedref06_half_e1 : LE CT Try.prog := ⟨3, [0, 1, 5, 6], [.one (.sl 0), .one (.sl 0), .one (.int .i64), .one (.int .i64)], [], [⟨.exit 0, [0, 5], [.one (.sl 0), .one (.int .i64)], []⟩], watershedref06_half_l1⟩
noncomputable def watershedref06_half_lt : List (LE CT Try.prog) := [watershedref06_half_e1]
theorem watershedref06_half_e1_ok : LeOk watershedref06_half_e1 (nthL (bodyOf Try.f47) 0) := fun A env h k z hk => le_ok (E := watershedref06_half_e1) (orcOf_ok watershedref06_half_tb) (dr := watershedref06_half_dr) (lps := lpsOf watershedref06_half_lt) (no_loop (by kernel_rfl)) (fun a => by kernel_rfl) env h k z hk
noncomputable def watershedref06_half (x0 : List (Int)) (x1 : List (Int)) : Option ((Bool) × (Unit)) :=
  (loopM watershedref06_half_l1 ((x0, x1, 0, 0, ()), ())).bind fun b1 =>
  let y2 : Bool := (decide (((b1.1.1.length : Int) : Int) < (IntKind.i64.wrap (2 * b1.1.2.1))))
  some (y2, ())
noncomputable def watershedref06_half_ce : CE CT Try.prog where
  f := 47
  args := [.one (.sl 0), .one (.sl 0)]
  hs := []
  res := .val (.one (.bool))
  outs := []
  m := fun d dh => watershedref06_half d.1 d.2.1
  ok := ce_ok mixedP Try.func47 (by kernel_rfl) (orcOf_ok watershedref06_half_tb) (dr := watershedref06_half_dr) (lps := lpsOf watershedref06_half_lt) (lps_fn (lps_of (n := 1) (by kernel_rfl) fun i hi => match i, hi with | 0, _ => lp_ok (E := watershedref06_half_e1) (by kernel_rfl) watershedref06_half_e1_ok)) (fun d dh => by kernel_rfl)

def watershedref06_Agrees_dr : Nat → DrA
  | _ => ⟨[], [], [], [], [], false⟩
noncomputable def watershedref06_Agrees_tb : List (CE CT Try.prog) := [watershedref06_Right_ce, watershedref06_half_ce]
noncomputable def watershedref06_Agrees_lt : List (LE CT Try.prog) := []
noncomputable def watershedref06_Agrees (x0 : DConfig) (x1 : List (Int)) : Option ((Bool) × (Unit)) :=
  (watershedref06_Right x0).bind fun r1 =>
  (bif r1.1 then
  (bif (decide ((0 : Int) < (x0.voters.length : Int))) then
  (watershedref06_half x0.voters x1).bind fun r2 =>
  (bif r2.1 then
  (bif (decide (((x0.old.length : Int) : Int) = 0)) then
  some (true, ())
  else
  (watershedref06_half x0.old x1).bind fun r3 =>
  some (r3.1, ()))
  else
  some (false, ()))
  else
  some (false, ()))
  else
  some (false, ()))
noncomputable def watershedref06_Agrees_ce : CE CT Try.prog where
  f := 24
  args := [.cod 5, .one (.sl 0)]
  hs := []
  res := .val (.one (.bool))
  outs := []
  m := fun d dh => watershedref06_Agrees d.1 d.2.1
  ok := ce_ok mixedP Try.func24 (by kernel_rfl) (orcOf_ok watershedref06_Agrees_tb) (dr := watershedref06_Agrees_dr) (lps := lpsOf watershedref06_Agrees_lt) (lps_fn (no_loop (by kernel_rfl))) (fun d dh => by kernel_rfl)

def quorum_Votes_dr : Nat → DrA
  | _ => ⟨[], [], [], [], [], false⟩
noncomputable def quorum_Votes_tb : List (CE CT Try.prog) := [slices_Contains_ce]
noncomputable def quorum_Votes_lt : List (LE CT Try.prog) := []
noncomputable def quorum_Votes (x0 : DConfig) (x1 : Int) : Option ((Bool) × (Unit)) :=
  (slices_Contains x0.voters x1).bind fun r1 =>
  (bif r1.1 then
  some (true, ())
  else
  (slices_Contains x0.old x1).bind fun r2 =>
  some (r2.1, ()))
noncomputable def quorum_Votes_ce : CE CT Try.prog where
  f := 17
  args := [.cod 5, .one (.int .i64)]
  hs := []
  res := .val (.one (.bool))
  outs := []
  m := fun d dh => quorum_Votes d.1 d.2.1
  ok := ce_ok mixedP Try.func17 (by kernel_rfl) (orcOf_ok quorum_Votes_tb) (dr := quorum_Votes_dr) (lps := lpsOf quorum_Votes_lt) (lps_fn (no_loop (by kernel_rfl))) (fun d dh => by kernel_rfl)

def watershedref06_Votes_dr : Nat → DrA
  | _ => ⟨[], [], [], [], [], false⟩
noncomputable def watershedref06_Votes_tb : List (CE CT Try.prog) := [watershedref06_in_ce]
noncomputable def watershedref06_Votes_lt : List (LE CT Try.prog) := []
noncomputable def watershedref06_Votes (x0 : DConfig) (x1 : Int) : Option ((Bool) × (Unit)) :=
  (watershedref06_in x0.voters x1).bind fun r1 =>
  (bif r1.1 then
  some (true, ())
  else
  (watershedref06_in x0.old x1).bind fun r2 =>
  some (r2.1, ()))
noncomputable def watershedref06_Votes_ce : CE CT Try.prog where
  f := 25
  args := [.cod 5, .one (.int .i64)]
  hs := []
  res := .val (.one (.bool))
  outs := []
  m := fun d dh => watershedref06_Votes d.1 d.2.1
  ok := ce_ok mixedP Try.func25 (by kernel_rfl) (orcOf_ok watershedref06_Votes_tb) (dr := watershedref06_Votes_dr) (lps := lpsOf watershedref06_Votes_lt) (lps_fn (no_loop (by kernel_rfl))) (fun d dh => by kernel_rfl)

def quorum_Has_dr : Nat → DrA
  | _ => ⟨[], [], [], [], [], false⟩
noncomputable def quorum_Has_tb : List (CE CT Try.prog) := [quorum_Votes_ce, slices_Contains_ce]
noncomputable def quorum_Has_lt : List (LE CT Try.prog) := []
noncomputable def quorum_Has (x0 : DConfig) (x1 : Int) : Option ((Bool) × (Unit)) :=
  (quorum_Votes x0 x1).bind fun r1 =>
  (bif r1.1 then
  some (true, ())
  else
  (slices_Contains x0.learners x1).bind fun r2 =>
  some (r2.1, ()))
noncomputable def quorum_Has_ce : CE CT Try.prog where
  f := 16
  args := [.cod 5, .one (.int .i64)]
  hs := []
  res := .val (.one (.bool))
  outs := []
  m := fun d dh => quorum_Has d.1 d.2.1
  ok := ce_ok mixedP Try.func16 (by kernel_rfl) (orcOf_ok quorum_Has_tb) (dr := quorum_Has_dr) (lps := lpsOf quorum_Has_lt) (lps_fn (no_loop (by kernel_rfl))) (fun d dh => by kernel_rfl)

def watershedref06_Has_dr : Nat → DrA
  | _ => ⟨[], [], [], [], [], false⟩
noncomputable def watershedref06_Has_tb : List (CE CT Try.prog) := [watershedref06_Votes_ce, watershedref06_in_ce]
noncomputable def watershedref06_Has_lt : List (LE CT Try.prog) := []
noncomputable def watershedref06_Has (x0 : DConfig) (x1 : Int) : Option ((Bool) × (Unit)) :=
  (watershedref06_Votes x0 x1).bind fun r1 =>
  (bif r1.1 then
  some (true, ())
  else
  (watershedref06_in x0.learners x1).bind fun r2 =>
  some (r2.1, ()))
noncomputable def watershedref06_Has_ce : CE CT Try.prog where
  f := 26
  args := [.cod 5, .one (.int .i64)]
  hs := []
  res := .val (.one (.bool))
  outs := []
  m := fun d dh => watershedref06_Has d.1 d.2.1
  ok := ce_ok mixedP Try.func26 (by kernel_rfl) (orcOf_ok watershedref06_Has_tb) (dr := watershedref06_Has_dr) (lps := lpsOf watershedref06_Has_lt) (lps_fn (no_loop (by kernel_rfl))) (fun d dh => by kernel_rfl)

def slices_Concat_dr : Nat → DrA
  | _ => ⟨[], [], [], [], [], false⟩
noncomputable def slices_Concat_tb : List (CE CT Try.prog) := [growN55_ce]
noncomputable def slices_Concat_l1 (a : ((List (List (Int))) × (Int) × (List (List (Int))) × (Int) × (Int) × Unit) × (Unit)) : Option ((((List (List (Int))) × (Int) × (List (List (Int))) × (Int) × (Int) × Unit) × (Unit)) ⊕ ((((List (List (Int))) × (Int) × Unit) × (Unit)))) :=
  (bif (decide ((a.1.2.2.2.2.1 : Int) < a.1.2.2.2.1)) then
  (getI a.1.2.2.1 a.1.2.2.2.2.1).bind fun e1 =>
  (bif (decide (((IntKind.i64.wrap (a.1.2.1 + (e1.length : Int))) : Int) < 0)) then
  none
  else
  some (.inl ((a.1.1, (IntKind.i64.wrap (a.1.2.1 + (e1.length : Int))), a.1.2.2.1, a.1.2.2.2.1, (IntKind.i64.wrap (a.1.2.2.2.2.1 + 1)), ()), ())))
  else
  some (.inr ((a.1.1, a.1.2.1, ()), ())))
noncomputable def slices_Concat_e1 : LE CT Try.prog := ⟨3, [0, 3, 9, 10, 11], [.one (.sl 4), .one (.int .i64), .one (.sl 4), .one (.int .i64), .one (.int .i64)], [], [⟨.exit 0, [0, 3], [.one (.sl 4), .one (.int .i64)], []⟩], slices_Concat_l1⟩
noncomputable def slices_Concat_l2 (a : ((Nat) × (List (List (Int))) × (Int) × (Int) × Unit) × ((List (Int)) × Unit)) : Option ((((Nat) × (List (List (Int))) × (Int) × (Int) × Unit) × ((List (Int)) × Unit)) ⊕ ((((Nat) × Unit) × ((Unit) × (List (Int)) × Unit)))) :=
  (bif (decide ((a.1.2.2.2.1 : Int) < a.1.2.2.1)) then
  (getI a.1.2.1 a.1.2.2.2.1).bind fun e1 =>
  (if (a.1.1 + e1.length) ≤ 140737488355328 ∧ (a.1.1 + e1.length) * 8 ≤ 140737488355328 ∧ 0 + a.1.1 ≤ a.2.1.length then
  some (.inl (((a.1.1 + e1.length), a.1.2.1, a.1.2.2.1, (IntKind.i64.wrap (a.1.2.2.2.1 + 1)), ()), ((a.2.1.take a.1.1 ++ e1), ())))
  else none)
  else
  some (.inr ((a.1.1, ()), ((), a.2.1, ()))))
noncomputable def slices_Concat_e2 : LE CT Try.prog := ⟨11, [6, 25, 26, 27], [.one (.asz 0 0), .one (.sl 4), .one (.int .i64), .one (.int .i64)], [.arr 3 0 false], [⟨.exit 2, [6], [.one (.asz 0 1)], [.dead, .arr 3 0 false]⟩], slices_Concat_l2⟩
noncomputable def slices_Concat_lt : List (LE CT Try.prog) := [slices_Concat_e1, slices_Concat_e2]
theorem slices_Concat_e1_ok : LeOk slices_Concat_e1 (nthL (bodyOf Try.f48) 0) := fun A env h k z hk => le_ok (E := slices_Concat_e1) (orcOf_ok slices_Concat_tb) (dr := slices_Concat_dr) (lps := lpsOf slices_Concat_lt) (no_loop (by kernel_rfl)) (fun a => by kernel_rfl) env h k z hk
theorem slices_Concat_e2_ok : LeOk slices_Concat_e2 (nthL (bodyOf Try.f48) 1) := fun A env h k z hk => le_ok (E := slices_Concat_e2) (orcOf_ok slices_Concat_tb) (dr := slices_Concat_dr) (lps := lpsOf slices_Concat_lt) (no_loop (by kernel_rfl)) (fun a => by kernel_rfl) env h k z hk
noncomputable def slices_Concat (x0 : List (List (Int))) : Option ((Nat) × ((List (Int)) × Unit)) :=
  (loopM slices_Concat_l1 ((x0, 0, x0, (x0.length : Int), 0, ()), ())).bind fun b1 =>
  (growN55 b1.1.2.1).bind fun r2 =>
  (loopM slices_Concat_l2 ((r2.1, b1.1.1, (b1.1.1.length : Int), 0, ()), (r2.2.1, ()))).bind fun b3 =>
  some (b3.1.1, (b3.2.2.1, ()))
noncomputable def slices_Concat_ce : CE CT Try.prog where
  f := 48
  args := [.one (.sl 4)]
  hs := []
  res := .val (.one (.asz 0 0))
  outs := [.arr 3 0 false]
  m := fun d dh => slices_Concat d.1
  ok := ce_ok mixedP Try.func48 (by kernel_rfl) (orcOf_ok slices_Concat_tb) (dr := slices_Concat_dr) (lps := lpsOf slices_Concat_lt) (lps_fn (lps_of (n := 2) (by kernel_rfl) fun i hi => match i, hi with | 0, _ => lp_ok (E := slices_Concat_e1) (by kernel_rfl) slices_Concat_e1_ok | 1, _ => lp_ok (E := slices_Concat_e2) (by kernel_rfl) slices_Concat_e2_ok)) (fun d dh => by kernel_rfl)

def slices_Compact_dr : Nat → DrA
  | 6 => ⟨[0, 1, 2, 4, 5, 6, 7, 3, 8, 9], [[], [], [0, 1], [0, 1, 2], [], [], [5], [4, 5, 6], [4, 5, 6, 7], [0, 1, 2, 3, 4, 5, 6, 7, 8]], [], [], [], false⟩
  | 11 => ⟨[0, 1, 2, 4, 5, 6, 7, 3, 8, 9], [[], [], [0, 1], [0, 1, 2], [], [], [5], [4, 5, 6], [4, 5, 6, 7], [0, 1, 2, 3, 4, 5, 6, 7, 8]], [], [], [], false⟩
  | _ => ⟨[], [], [], [], [], false⟩
noncomputable def slices_Compact_tb : List (CE CT Try.prog) := []
noncomputable def slices_Compact_l2 (a : ((Nat) × (Int) × (Nat × Nat) × (Int) × Unit) × ((List (Int)) × Unit)) : Option ((((Nat) × (Int) × (Nat × Nat) × (Int) × Unit) × ((List (Int)) × Unit)) ⊕ ((((Nat) × (Int) × Unit) × ((List (Int)) × Unit)))) :=
  (bif (decide ((a.1.2.2.2.1 : Int) < ((a.1.2.2.1.2 : Nat) : Int))) then
  (if 0 ≤ (a.1.2.2.2.1 : Int) ∧ (a.1.2.2.2.1 : Int) < ((a.1.2.2.1.2 : Nat) : Int) then
  (if 0 ≤ ((IntKind.i64.wrap (a.1.2.2.2.1 - 1)) : Int) ∧ ((IntKind.i64.wrap (a.1.2.2.2.1 - 1)) : Int) < ((a.1.2.2.1.2 : Nat) : Int) then
  (a.2.1[(a.1.2.2.1.1 + (a.1.2.2.2.1 : Int).toNat)]?).bind fun e1 =>
  (a.2.1[(a.1.2.2.1.1 + ((IntKind.i64.wrap (a.1.2.2.2.1 - 1)) : Int).toNat)]?).bind fun e2 =>
  (bif (decide ((e1 : Int) ≠ e2)) then
  (if 0 ≤ (a.1.2.2.2.1 : Int) ∧ (a.1.2.2.2.1 : Int) < ((a.1.2.2.1.2 : Nat) : Int) then
  (a.2.1[(a.1.2.2.1.1 + (a.1.2.2.2.1 : Int).toNat)]?).bind fun e3 =>
  (if 0 ≤ (a.1.2.1 : Int) ∧ (a.1.2.1 : Int) < ((a.1.1 : Nat) : Int) then
  (a.2.1[(0 + (a.1.2.1 : Int).toNat)]?).bind fun e4 =>
  some (.inl ((a.1.1, (IntKind.i64.wrap (a.1.2.1 + 1)), (a.1.2.2.1.1, a.1.2.2.1.2), (IntKind.i64.wrap (a.1.2.2.2.1 + 1)), ()), ((a.2.1.set (0 + (a.1.2.1 : Int).toNat) e3), ())))
  else none)
  else none)
  else
  some (.inl ((a.1.1, a.1.2.1, (a.1.2.2.1.1, a.1.2.2.1.2), (IntKind.i64.wrap (a.1.2.2.2.1 + 1)), ()), (a.2.1, ()))))
  else none)
  else none)
  else
  some (.inr ((a.1.1, a.1.2.1, ()), (a.2.1, ()))))
noncomputable def slices_Compact_e2 : LE CT Try.prog := ⟨9, [0, 3, 4, 5], [.one (.asz 0 0), .one (.int .i64), .one (.asu 0 0), .one (.int .i64)], [.arr 3 0 true], [⟨.exit 2, [0, 3], [.one (.asz 0 0), .one (.int .i64)], [.arr 3 0 true]⟩], slices_Compact_l2⟩
noncomputable def slices_Compact_l1 (a : ((Nat) × (Int) × Unit) × ((List (Int)) × Unit)) : Option ((((Nat) × (Int) × Unit) × ((List (Int)) × Unit)) ⊕ ((((Nat × Nat) × Unit) × ((List (Int)) × Unit)) ⊕ (((Nat) × Unit) × ((List (Int)) × Unit)))) :=
  (bif (decide ((a.1.2.1 : Int) < ((a.1.1 : Nat) : Int))) then
  (if 0 ≤ (a.1.2.1 : Int) ∧ (a.1.2.1 : Int) < ((a.1.1 : Nat) : Int) then
  (if 0 ≤ ((IntKind.i64.wrap (a.1.2.1 - 1)) : Int) ∧ ((IntKind.i64.wrap (a.1.2.1 - 1)) : Int) < ((a.1.1 : Nat) : Int) then
  (a.2.1[(0 + (a.1.2.1 : Int).toNat)]?).bind fun e1 =>
  (a.2.1[(0 + ((IntKind.i64.wrap (a.1.2.1 - 1)) : Int).toNat)]?).bind fun e2 =>
  (bif (decide ((e1 : Int) = e2)) then
  (if 0 ≤ (a.1.2.1 : Int) ∧ (a.1.2.1 : Int) ≤ ((a.1.1 : Nat) : Int) ∧ ((a.1.1 : Nat) : Int) ≤ ((a.1.1 : Nat) : Int) ∧ ((a.1.1 : Nat) : Int) ≤ 140737488355328 then
  (loopM slices_Compact_l2 ((a.1.1, a.1.2.1, ((0 + (a.1.2.1 : Int).toNat), (((a.1.1 : Nat) : Int).toNat - (a.1.2.1 : Int).toNat)), 1, ()), (a.2.1, ()))).bind fun b3 =>
  (if 0 ≤ (b3.1.2.1 : Int) ∧ (b3.1.2.1 : Int) ≤ ((b3.1.1 : Nat) : Int) ∧ ((b3.1.1 : Nat) : Int) ≤ ((b3.1.1 : Nat) : Int) ∧ ((b3.1.1 : Nat) : Int) ≤ 140737488355328 then
  (if (0 + (b3.1.2.1 : Int).toNat) ≤ b3.2.1.length then
  let y4 : List (Int) := (b3.2.1.take (0 + (b3.1.2.1 : Int).toNat) ++ List.replicate (((b3.1.1 : Nat) : Int).toNat - (b3.1.2.1 : Int).toNat) (0 : Int) ++ b3.2.1.drop ((0 + (b3.1.2.1 : Int).toNat) + (((b3.1.1 : Nat) : Int).toNat - (b3.1.2.1 : Int).toNat)))
  (if 0 ≤ (0 : Int) ∧ (0 : Int) ≤ (b3.1.2.1 : Int) ∧ (b3.1.2.1 : Int) ≤ ((b3.1.1 : Nat) : Int) ∧ (b3.1.2.1 : Int) ≤ 140737488355328 then
  some (.inr (.inl ((((0 + (0 : Int).toNat), ((b3.1.2.1 : Int).toNat - (0 : Int).toNat)), ()), (y4, ()))))
  else none)
  else none)
  else none)
  else none)
  else
  some (.inl ((a.1.1, (IntKind.i64.wrap (a.1.2.1 + 1)), ()), (a.2.1, ()))))
  else none)
  else none)
  else
  some (.inr (.inr ((a.1.1, ()), (a.2.1, ())))))
noncomputable def slices_Compact_e1 : LE CT Try.prog := ⟨4, [0, 3], [.one (.asz 0 0), .one (.int .i64)], [.arr 3 0 true], [⟨.ret, [2], [.one (.asu 0 0)], [.arr 3 0 true]⟩, ⟨.exit 0, [0], [.one (.asz 0 0)], [.arr 3 0 true]⟩], slices_Compact_l1⟩
noncomputable def slices_Compact_lt : List (LE CT Try.prog) := [slices_Compact_e2, slices_Compact_e1]
theorem slices_Compact_e2_ok : LeOk slices_Compact_e2 (nthL (nthL (bodyOf Try.f50) 0) 0) := fun A env h k z hk => le_ok (E := slices_Compact_e2) (orcOf_ok slices_Compact_tb) (dr := slices_Compact_dr) (lps := lpsOf slices_Compact_lt) (no_loop (by kernel_rfl)) (fun a => by kernel_rfl) env h k z hk
theorem slices_Compact_e1_ok : LeOk slices_Compact_e1 (nthL (bodyOf Try.f50) 0) := fun A env h k z hk => le_ok (E := slices_Compact_e1) (orcOf_ok slices_Compact_tb) (dr := slices_Compact_dr) (lps := lpsOf slices_Compact_lt) (lps_of (n := 1) (by kernel_rfl) fun i hi => match i, hi with | 0, _ => lp_ok (E := slices_Compact_e2) (by kernel_rfl) slices_Compact_e2_ok) (fun a => by kernel_rfl) env h k z hk
noncomputable def slices_Compact (x0 : Nat) (h0 : List (Int)) : Option ((Nat × Nat) × ((List (Int)) × Unit)) :=
  (bif (decide ((((x0 : Nat) : Int) : Int) < 2)) then
  some ((0, x0), (h0, ()))
  else
  (loopM slices_Compact_l1 ((x0, 1, ()), (h0, ()))).bind fun b1 =>
  (match b1 with
  | .inl b2 =>
  some ((b2.1.1.1, b2.1.1.2), (b2.2.1, ()))
  | .inr b3 =>
  some ((0, b3.1.1), (b3.2.1, ()))))
noncomputable def slices_Compact_ce : CE CT Try.prog where
  f := 50
  args := [.one (.asz 0 0)]
  hs := [.arr 3 0 true]
  res := .val (.one (.asu 0 0))
  outs := [.arr 3 0 true]
  m := fun d dh => slices_Compact d.1 dh.1
  ok := ce_ok mixedP Try.func50 (by kernel_rfl) (orcOf_ok slices_Compact_tb) (dr := slices_Compact_dr) (lps := lpsOf slices_Compact_lt) (lps_fn (lps_of (n := 1) (by kernel_rfl) fun i hi => match i, hi with | 0, _ => lp_ok (E := slices_Compact_e1) (by kernel_rfl) slices_Compact_e1_ok)) (fun d dh => by kernel_rfl)

def quorum_Nodes_dr : Nat → DrA
  | _ => ⟨[], [], [], [], [], false⟩
noncomputable def quorum_Nodes_tb : List (CE CT Try.prog) := [slices_Concat_ce, sortI_ce, slices_Compact_ce]
noncomputable def quorum_Nodes_lt : List (LE CT Try.prog) := []
noncomputable def quorum_Nodes (x0 : DConfig) : Option ((Nat × Nat) × ((List (Int)) × Unit)) :=
  (slices_Concat ([x0.voters, x0.old, x0.learners] : List (List (Int)))).bind fun r1 =>
  (sortI r1.1 r1.2.1).bind fun r2 =>
  (slices_Compact r1.1 r2.2.1).bind fun r3 =>
  some ((r3.1.1, r3.1.2), (r3.2.1, ()))
noncomputable def quorum_Nodes_ce : CE CT Try.prog where
  f := 27
  args := [.cod 5]
  hs := []
  res := .val (.one (.asu 0 0))
  outs := [.arr 3 0 false]
  m := fun d dh => quorum_Nodes d.1
  ok := ce_ok mixedP Try.func27 (by kernel_rfl) (orcOf_ok quorum_Nodes_tb) (dr := quorum_Nodes_dr) (lps := lpsOf quorum_Nodes_lt) (lps_fn (no_loop (by kernel_rfl))) (fun d dh => by kernel_rfl)

def watershedref06_Nodes_dr : Nat → DrA
  | 1 => ⟨[1, 4, 7, 2, 5, 8, 0, 3, 6, 9, 10], [[], [], [1], [0, 1, 2], [], [4], [0, 1, 2, 3, 4, 5], [], [7], [0, 1, 2, 3, 4, 5, 6, 7, 8], [0, 1, 2, 3, 4, 5, 6, 7, 8, 9]], [5, 8], [3, 6], [0], false⟩
  | _ => ⟨[], [], [], [], [], false⟩
noncomputable def watershedref06_Nodes_tb : List (CE CT Try.prog) := [watershedref06_less_ce]
noncomputable def watershedref06_Nodes_l2 (a : ((List (Int)) × (List (Int)) × (Int) × (Int) × Unit) × ((Unit) × (Unit) × Unit)) : Option ((((List (Int)) × (List (Int)) × (Int) × (Int) × Unit) × ((Unit) × (Unit) × Unit)) ⊕ ((((List (Int)) × (List (Int)) × (Int) × Unit) × ((Unit) × (Unit) × (Unit) × (Unit) × Unit)))) :=
  (bif (decide ((a.1.2.2.2.1 : Int) < (a.1.1.length : Int))) then
  (getI a.1.1 a.1.2.2.2.1).bind fun e1 =>
  some (.inl ((a.1.1, a.1.2.1, (if (e1 : Int) < a.1.2.2.1 then e1 else a.1.2.2.1), (IntKind.i64.wrap (a.1.2.2.2.1 + 1)), ()), ((), (), ())))
  else
  some (.inr ((a.1.1, a.1.2.1, a.1.2.2.1, ()), ((), (), (), (), ()))))
noncomputable def watershedref06_Nodes_e2 : LE CT Try.prog := ⟨6, [3, 4, 5, 6], [.one (.own 0 0), .one (.own 0 1), .one (.int .i64), .one (.int .i64)], [.row 3 1, .row 3 1], [⟨.exit 2, [3, 4, 5], [.one (.own 0 2), .one (.own 0 3), .one (.int .i64)], [.dead, .dead, .row 3 1, .row 3 1]⟩], watershedref06_Nodes_l2⟩
noncomputable def watershedref06_Nodes_l1 (a : ((List (Int)) × (List (Int)) × Unit) × ((Unit) × (Unit) × Unit)) : Option ((((List (Int)) × (List (Int)) × Unit) × ((Unit) × (Unit) × Unit)) ⊕ ((((List (Int)) × Unit) × ((Unit) × (Unit) × (Unit) × Unit)))) :=
  (bif (decide ((0 : Int) < (a.1.1.length : Int))) then
  (getI a.1.1 0).bind fun e1 =>
  (loopM watershedref06_Nodes_l2 ((a.1.1, a.1.2.1, e1, 0, ()), ((), (), ()))).bind fun b2 =>
  (if b2.1.2.1.length + ([b2.1.2.2.1] : List (Int)).length ≤ 140737488355328 ∧ (b2.1.2.1.length + ([b2.1.2.2.1] : List (Int)).length) * 8 ≤ 140737488355328 then
  (watershedref06_less b2.1.1 ([b2.1.2.2.1] : List (Int))).bind fun r3 =>
  some (.inl ((r3.1, (b2.1.2.1 ++ ([b2.1.2.2.1] : List (Int))), ()), ((), (), ())))
  else none)
  else
  some (.inr ((a.1.2.1, ()), ((), (), (), ()))))
noncomputable def watershedref06_Nodes_e1 : LE CT Try.prog := ⟨3, [3, 4], [.one (.own 0 0), .one (.own 0 1)], [.row 3 1, .row 3 1], [⟨.exit 0, [4], [.one (.own 0 2)], [.dead, .dead, .row 3 1]⟩], watershedref06_Nodes_l1⟩
noncomputable def watershedref06_Nodes_lt : List (LE CT Try.prog) := [watershedref06_Nodes_e2, watershedref06_Nodes_e1]
theorem watershedref06_Nodes_e2_ok : LeOk watershedref06_Nodes_e2 (nthL (nthL (bodyOf Try.f28) 0) 0) := fun A env h k z hk => le_ok (E := watershedref06_Nodes_e2) (orcOf_ok watershedref06_Nodes_tb) (dr := watershedref06_Nodes_dr) (lps := lpsOf watershedref06_Nodes_lt) (no_loop (by kernel_rfl)) (fun a => by kernel_rfl) env h k z hk
theorem watershedref06_Nodes_e1_ok : LeOk watershedref06_Nodes_e1 (nthL (bodyOf Try.f28) 0) := fun A env h k z hk => le_ok (E := watershedref06_Nodes_e1) (orcOf_ok watershedref06_Nodes_tb) (dr := watershedref06_Nodes_dr) (lps := lpsOf watershedref06_Nodes_lt) (lps_of (n := 1) (by kernel_rfl) fun i hi => match i, hi with | 0, _ => lp_ok (E := watershedref06_Nodes_e2) (by kernel_rfl) watershedref06_Nodes_e2_ok) (fun a => by kernel_rfl) env h k z hk
noncomputable def watershedref06_Nodes (x0 : DConfig) : Option ((List (Int)) × ((Unit) × Unit)) :=
  (if ([] : List (Int)).length + x0.voters.length ≤ 140737488355328 ∧ (([] : List (Int)).length + x0.voters.length) * 8 ≤ 140737488355328 then
  (if (([] : List (Int)) ++ x0.voters).length + x0.old.length ≤ 140737488355328 ∧ ((([] : List (Int)) ++ x0.voters).length + x0.old.length) * 8 ≤ 140737488355328 then
  (if ((([] : List (Int)) ++ x0.voters) ++ x0.old).length + x0.learners.length ≤ 140737488355328 ∧ (((([] : List (Int)) ++ x0.voters) ++ x0.old).length + x0.learners.length) * 8 ≤ 140737488355328 then
  (loopM watershedref06_Nodes_l1 (((((([] : List (Int)) ++ x0.voters) ++ x0.old) ++ x0.learners), [], ()), ((), (), ()))).bind fun b1 =>
  some (b1.1.1, ((), ()))
  else none)
  else none)
  else none)
noncomputable def watershedref06_Nodes_ce : CE CT Try.prog where
  f := 28
  args := [.cod 5]
  hs := []
  res := .val (.one (.own 0 0))
  outs := [.row 3 1]
  m := fun d dh => watershedref06_Nodes d.1
  ok := ce_ok mixedP Try.func28 (by kernel_rfl) (orcOf_ok watershedref06_Nodes_tb) (dr := watershedref06_Nodes_dr) (lps := lpsOf watershedref06_Nodes_lt) (lps_fn (lps_of (n := 1) (by kernel_rfl) fun i hi => match i, hi with | 0, _ => lp_ok (E := watershedref06_Nodes_e1) (by kernel_rfl) watershedref06_Nodes_e1_ok)) (fun d dh => by kernel_rfl)

def watershedkit_SameInts_3_dr : Nat → DrA
  | 6 => ⟨[0, 1, 2, 4, 5, 6, 3, 7, 8], [[], [], [0, 1], [0, 1, 2], [], [], [4, 5], [4, 5, 6], [0, 1, 2, 3, 4, 5, 6, 7]], [], [], [], false⟩
  | _ => ⟨[], [], [], [], [], false⟩
noncomputable def watershedkit_SameInts_3_tb : List (CE CT Try.prog) := []
noncomputable def watershedkit_SameInts_3_l1 (a : ((Nat × Nat) × (List (Int)) × (Int) × Unit) × ((List (Int)) × Unit)) : Option ((((Nat × Nat) × (List (Int)) × (Int) × Unit) × ((List (Int)) × Unit)) ⊕ ((((Bool) × Unit) × ((List (Int)) × Unit)) ⊕ ((Unit) × ((List (Int)) × Unit)))) :=
  (bif (decide ((a.1.2.2.1 : Int) < ((a.1.1.2 : Nat) : Int))) then
  (if 0 ≤ (a.1.2.2.1 : Int) ∧ (a.1.2.2.1 : Int) < ((a.1.1.2 : Nat) : Int) then
  (getI a.1.2.1 a.1.2.2.1).bind fun e1 =>
  (a.2.1[(a.1.1.1 + (a.1.2.2.1 : Int).toNat)]?).bind fun e2 =>
  (bif (decide ((e2 : Int) ≠ e1)) then
  some (.inr (.inl ((false, ()), (a.2.1, ()))))
  else
  some (.inl (((a.1.1.1, a.1.1.2), a.1.2.1, (IntKind.i64.wrap (a.1.2.2.1 + 1)), ()), (a.2.1, ()))))
  else none)
  else
  some (.inr (.inr ((), (a.2.1, ())))))
noncomputable def watershedkit_SameInts_3_e1 : LE CT Try.prog := ⟨4, [0, 1, 5], [.one (.asu 0 0), .one (.sl 0), .one (.int .i64)], [.arr 3 0 true], [⟨.ret, [4], [.one (.bool)], [.arr 3 0 true]⟩, ⟨.exit 0, [], [], [.arr 3 0 true]⟩], watershedkit_SameInts_3_l1⟩
noncomputable def watershedkit_SameInts_3_lt : List (LE CT Try.prog) := [watershedkit_SameInts_3_e1]
theorem watershedkit_SameInts_3_e1_ok : LeOk watershedkit_SameInts_3_e1 (nthL (bodyOf Try.f15) 0) := fun A env h k z hk => le_ok (E := watershedkit_SameInts_3_e1) (orcOf_ok watershedkit_SameInts_3_tb) (dr := watershedkit_SameInts_3_dr) (lps := lpsOf watershedkit_SameInts_3_lt) (no_loop (by kernel_rfl)) (fun a => by kernel_rfl) env h k z hk
noncomputable def watershedkit_SameInts_3 (x0 : Nat × Nat) (x1 : List (Int)) (h0 : List (Int)) : Option ((Bool) × ((List (Int)) × Unit)) :=
  (bif (decide ((((x0.2 : Nat) : Int) : Int) ≠ (x1.length : Int))) then
  some (false, (h0, ()))
  else
  (loopM watershedkit_SameInts_3_l1 (((x0.1, x0.2), x1, 0, ()), (h0, ()))).bind fun b1 =>
  (match b1 with
  | .inl b2 =>
  some (b2.1.1, (b2.2.1, ()))
  | .inr b3 =>
  some (true, (b3.2.1, ()))))
noncomputable def watershedkit_SameInts_3_ce : CE CT Try.prog where
  f := 15
  args := [.one (.asu 0 0), .one (.sl 0)]
  hs := [.arr 3 0 true]
  res := .val (.one (.bool))
  outs := [.arr 3 0 true]
  m := fun d dh => watershedkit_SameInts_3 d.1 d.2.1 dh.1
  ok := ce_ok mixedP Try.func15 (by kernel_rfl) (orcOf_ok watershedkit_SameInts_3_tb) (dr := watershedkit_SameInts_3_dr) (lps := lpsOf watershedkit_SameInts_3_lt) (lps_fn (lps_of (n := 1) (by kernel_rfl) fun i hi => match i, hi with | 0, _ => lp_ok (E := watershedkit_SameInts_3_e1) (by kernel_rfl) watershedkit_SameInts_3_e1_ok)) (fun d dh => by kernel_rfl)

def watershedkit_OverConfig_dr : Nat → DrA
  | _ => ⟨[], [], [], [], [], false⟩
noncomputable def watershedkit_OverConfig_tb : List (CE CT Try.prog) := [watershedkit_OverInts_v_ce]
noncomputable def watershedkit_OverConfig_lt : List (LE CT Try.prog) := []
noncomputable def watershedkit_OverConfig (x0 : (Nat) × (Nat) × (Nat) × (Nat) × Unit) (h0 : List (Int)) (h1 : List (Int)) (h2 : List (Int)) (h3 : List (Int)) : Option ((Unit) × ((List (Int)) × (List (Int)) × (List (Int)) × (List (Int)) × Unit)) :=
  (watershedkit_OverInts_v x0.1 h0).bind fun r1 =>
  (watershedkit_OverInts_v x0.2.1 h1).bind fun r2 =>
  (watershedkit_OverInts_v x0.2.2.1 h2).bind fun r3 =>
  (watershedkit_OverInts_v x0.2.2.2.1 h3).bind fun r4 =>
  some ((), (r1.2.1, r2.2.1, r3.2.1, r4.2.1, ()))
noncomputable def watershedkit_OverConfig_ce : CE CT Try.prog where
  f := 29
  args := [.agg [.asz 0 0, .asz 0 1, .asz 0 2, .asz 0 3]]
  hs := [.arr 3 0 true, .arr 3 0 true, .arr 3 0 true, .arr 3 0 true]
  res := .tup []
  outs := [.arr 3 0 true, .arr 3 0 true, .arr 3 0 true, .arr 3 0 true]
  m := fun d dh => watershedkit_OverConfig d.1 dh.1 dh.2.1 dh.2.2.1 dh.2.2.2.1
  ok := ce_ok mixedP Try.func29 (by kernel_rfl) (orcOf_ok watershedkit_OverConfig_tb) (dr := watershedkit_OverConfig_dr) (lps := lpsOf watershedkit_OverConfig_lt) (lps_fn (no_loop (by kernel_rfl))) (fun d dh => by kernel_rfl)

def watershedkit_KeptInts_dr : Nat → DrA
  | 7 => ⟨[0, 1, 2, 3, 4, 5, 6, 7, 9, 10, 11, 8, 12, 13, 14, 15, 16, 17, 18, 19, 20, 21, 22, 23, 24, 26, 27, 28, 29, 25, 30, 31, 32, 33, 34], [[], [], [1], [0, 1, 2], [0, 1, 2, 3], [0, 1, 2, 3, 4], [0, 1, 2, 3, 4], [0, 1, 2, 3, 4, 5, 6], [0, 1, 2, 3, 4, 5, 6, 7], [0, 1, 2, 3, 4], [0, 1, 2, 3, 4], [0, 1, 2, 3, 4, 9, 10], [0, 1, 2, 3, 4, 9, 10, 11], [0, 1, 2, 3, 4, 5, 6, 7, 8, 9, 10, 11, 12], [0, 1, 2, 3, 4, 5, 6, 7, 8, 9, 10, 11, 12, 13], [0, 1, 2, 3, 4, 5, 6, 7, 8, 9, 10, 11, 12, 13, 14], [0, 1, 2, 3, 4, 5, 6, 7, 8, 9, 10, 11, 12, 13, 14, 15], [0, 1, 2, 3, 4, 5, 6, 7, 8, 9, 10, 11, 12, 13, 14, 15, 16], [0, 1, 2, 3, 4, 5, 6, 7, 8, 9, 10, 11, 12, 13, 14, 15, 16], [0, 1, 2, 3, 4, 5, 6, 7, 8, 9, 10, 11, 12, 13, 14, 15, 16, 18], [0, 1, 2, 3, 4, 5, 6, 7, 8, 9, 10, 11, 12, 13, 14, 15, 16, 17, 18, 19], [0, 1, 2, 3, 4, 5, 6, 7, 8, 9, 10, 11, 12, 13, 14, 15, 16, 17, 18, 19, 20], [0, 1, 2, 3, 4, 5, 6, 7, 8, 9, 10, 11, 12, 13, 14, 15, 16, 17, 18, 19, 20, 21], [0, 1, 2, 3, 4, 5, 6, 7, 8, 9, 10, 11, 12, 13, 14, 15, 16, 17, 18, 19, 20, 21], [0, 1, 2, 3, 4, 5, 6, 7, 8, 9, 10, 11, 12, 13, 14, 15, 16, 17, 18, 19, 20, 21, 22, 23], [0, 1, 2, 3, 4, 5, 6, 7, 8, 9, 10, 11, 12, 13, 14, 15, 16, 17, 18, 19, 20, 21, 22, 23, 24], [0, 1, 2, 3, 4, 5, 6, 7, 8, 9, 10, 11, 12, 13, 14, 15, 16, 17, 18, 19, 20, 21], [0, 1, 2, 3, 4, 5, 6, 7, 8, 9, 10, 11, 12, 13, 14, 15, 16, 17, 18, 19, 20, 21], [0, 1, 2, 3, 4, 5, 6, 7, 8, 9, 10, 11, 12, 13, 14, 15, 16, 17, 18, 19, 20, 21, 27], [0, 1, 2, 3, 4, 5, 6, 7, 8, 9, 10, 11, 12, 13, 14, 15, 16, 17, 18, 19, 20, 21, 26, 27, 28], [0, 1, 2, 3, 4, 5, 6, 7, 8, 9, 10, 11, 12, 13, 14, 15, 16, 17, 18, 19, 20, 21, 26, 27, 28, 29], [0, 1, 2, 3, 4, 5, 6, 7, 8, 9, 10, 11, 12, 13, 14, 15, 16, 17, 18, 19, 20, 21, 22, 23, 24, 25, 26, 27, 28, 29, 30], [0, 1, 2, 3, 4, 5, 6, 7, 8, 9, 10, 11, 12, 13, 14, 15, 16, 17, 18, 19, 20, 21, 22, 23, 24, 25, 26, 27, 28, 29, 30, 31], [0, 1, 2, 3, 4, 5, 6, 7, 8, 9, 10, 11, 12, 13, 14, 15, 16, 17, 18, 19, 20, 21, 22, 23, 24, 25, 26, 27, 28, 29, 30, 31, 32], [0, 1, 2, 3, 4, 5, 6, 7, 8, 9, 10, 11, 12, 13, 14, 15, 16, 17, 18, 19, 20, 21, 22, 23, 24, 25, 26, 27, 28, 29, 30, 31, 32, 33]], [25], [30], [], false⟩
  | _ => ⟨[], [], [], [], [], false⟩
noncomputable def watershedkit_KeptInts_tb : List (CE CT Try.prog) := [watershedkit_mark_ce]
noncomputable def watershedkit_KeptInts_l1 (a : ((List (Int)) × (List (Int)) × (Int) × Unit) × (Unit)) : Option ((((List (Int)) × (List (Int)) × (Int) × Unit) × (Unit)) ⊕ ((((Bool) × Unit) × (Unit)) ⊕ ((Unit) × (Unit)))) :=
  (bif (decide ((a.1.2.2.1 : Int) < (a.1.2.1.length : Int))) then
  (bif (decide ((a.1.2.2.1 : Int) < (a.1.1.length : Int))) then
  (getI a.1.2.1 a.1.2.2.1).bind fun e1 =>
  (getI a.1.1 a.1.2.2.1).bind fun e2 =>
  (bif (!(decide ((e1 : Int) = e2))) then
  some (.inr (.inl ((false, ()), ())))
  else
  (bif (decide (((a.1.1.length : Int) : Int) ≤ a.1.2.2.1)) then
  (getI a.1.2.1 a.1.2.2.1).bind fun e3 =>
  (watershedkit_mark 1 (IntKind.i64.wrap (a.1.2.2.1 - (a.1.1.length : Int)))).bind fun r4 =>
  (bif (!(decide ((e3 : Int) = r4.1))) then
  some (.inr (.inl ((false, ()), ())))
  else
  some (.inl ((a.1.1, a.1.2.1, (IntKind.i64.wrap (a.1.2.2.1 + 1)), ()), ())))
  else
  some (.inl ((a.1.1, a.1.2.1, (IntKind.i64.wrap (a.1.2.2.1 + 1)), ()), ()))))
  else
  (bif (decide (((a.1.1.length : Int) : Int) ≤ a.1.2.2.1)) then
  (getI a.1.2.1 a.1.2.2.1).bind fun e5 =>
  (watershedkit_mark 1 (IntKind.i64.wrap (a.1.2.2.1 - (a.1.1.length : Int)))).bind fun r6 =>
  (bif (!(decide ((e5 : Int) = r6.1))) then
  some (.inr (.inl ((false, ()), ())))
  else
  some (.inl ((a.1.1, a.1.2.1, (IntKind.i64.wrap (a.1.2.2.1 + 1)), ()), ())))
  else
  some (.inl ((a.1.1, a.1.2.1, (IntKind.i64.wrap (a.1.2.2.1 + 1)), ()), ()))))
  else
  some (.inr (.inr ((), ()))))
noncomputable def watershedkit_KeptInts_e1 : LE CT Try.prog := ⟨5, [1, 5, 6], [.one (.sl 0), .one (.sl 0), .one (.int .i64)], [], [⟨.ret, [4], [.one (.bool)], []⟩, ⟨.exit 0, [], [], []⟩], watershedkit_KeptInts_l1⟩
noncomputable def watershedkit_KeptInts_lt : List (LE CT Try.prog) := [watershedkit_KeptInts_e1]
theorem watershedkit_KeptInts_e1_ok : LeOk watershedkit_KeptInts_e1 (nthL (bodyOf Try.f31) 0) := fun A env h k z hk => le_ok (E := watershedkit_KeptInts_e1) (orcOf_ok watershedkit_KeptInts_tb) (dr := watershedkit_KeptInts_dr) (lps := lpsOf watershedkit_KeptInts_lt) (no_loop (by kernel_rfl)) (fun a => by kernel_rfl) env h k z hk
noncomputable def watershedkit_KeptInts (x0 : List (Int) × List (Int)) (x1 : List (Int)) : Option ((Bool) × (Unit)) :=
  (bif (decide (((x0.1.length : Int) : Int) ≠ (x1.length : Int))) then
  some (false, ())
  else
  (if 0 ≤ (0 : Int) ∧ (0 : Int) ≤ (IntKind.i64.wrap ((x1.length : Int) + 12)) ∧ (IntKind.i64.wrap ((x1.length : Int) + 12)) ≤ ((x0.1 ++ x0.2).length : Int) then
  let y1 : List (Int) := (((x0.1 ++ x0.2).drop ((0 : Int) : Int).toNat).take (((IntKind.i64.wrap ((x1.length : Int) + 12)) : Int).toNat - ((0 : Int) : Int).toNat))
  (loopM watershedkit_KeptInts_l1 ((x1, y1, 0, ()), ())).bind fun b2 =>
  (match b2 with
  | .inl b3 =>
  some (b3.1.1, ())
  | .inr b4 =>
  some (true, ()))
  else none))
noncomputable def watershedkit_KeptInts_ce : CE CT Try.prog where
  f := 31
  args := [.one (.slx 0), .one (.sl 0)]
  hs := []
  res := .val (.one (.bool))
  outs := []
  m := fun d dh => watershedkit_KeptInts d.1 d.2.1
  ok := ce_ok mixedP Try.func31 (by kernel_rfl) (orcOf_ok watershedkit_KeptInts_tb) (dr := watershedkit_KeptInts_dr) (lps := lpsOf watershedkit_KeptInts_lt) (lps_fn (lps_of (n := 1) (by kernel_rfl) fun i hi => match i, hi with | 0, _ => lp_ok (E := watershedkit_KeptInts_e1) (by kernel_rfl) watershedkit_KeptInts_e1_ok)) (fun d dh => by kernel_rfl)

def watershedkit_KeptConfig_dr : Nat → DrA
  | _ => ⟨[], [], [], [], [], false⟩
noncomputable def watershedkit_KeptConfig_tb : List (CE CT Try.prog) := [watershedkit_SameConfig_ce, watershedkit_KeptInts_ce]
noncomputable def watershedkit_KeptConfig_lt : List (LE CT Try.prog) := []
noncomputable def watershedkit_KeptConfig (x0 : (List (Int) × List (Int)) × (List (Int) × List (Int)) × (List (Int) × List (Int)) × (List (Int) × List (Int)) × Unit) (x1 : DConfig) : Option ((Bool) × (Unit)) :=
  (watershedkit_SameConfig (⟨x0.1.1, x0.2.1.1, x0.2.2.1.1, x0.2.2.2.1.1⟩ : DConfig) x1).bind fun r1 =>
  (bif r1.1 then
  (watershedkit_KeptInts (x0.1.1, x0.1.2) x1.voters).bind fun r2 =>
  (bif r2.1 then
  (watershedkit_KeptInts (x0.2.1.1, x0.2.1.2) x1.old).bind fun r3 =>
  (bif r3.1 then
  (watershedkit_KeptInts (x0.2.2.1.1, x0.2.2.1.2) x1.learners).bind fun r4 =>
  (bif r4.1 then
  (watershedkit_KeptInts (x0.2.2.2.1.1, x0.2.2.2.1.2) x1.want).bind fun r5 =>
  some (r5.1, ())
  else
  some (false, ()))
  else
  some (false, ()))
  else
  some (false, ()))
  else
  some (false, ()))
noncomputable def watershedkit_KeptConfig_ce : CE CT Try.prog where
  f := 30
  args := [.agg [.slx 0, .slx 0, .slx 0, .slx 0], .cod 5]
  hs := []
  res := .val (.one (.bool))
  outs := []
  m := fun d dh => watershedkit_KeptConfig d.1 d.2.1
  ok := ce_ok mixedP Try.func30 (by kernel_rfl) (orcOf_ok watershedkit_KeptConfig_tb) (dr := watershedkit_KeptConfig_dr) (lps := lpsOf watershedkit_KeptConfig_lt) (lps_fn (no_loop (by kernel_rfl))) (fun d dh => by kernel_rfl)

def watershedlaw06_row_dr : Nat → DrA
  | _ => ⟨[], [], [], [], [], false⟩
noncomputable def watershedlaw06_row_tb : List (CE CT Try.prog) := []
noncomputable def watershedlaw06_row_l1 (a : ((Int) × (List (Int)) × (Int) × Unit) × ((Unit) × Unit)) : Option ((((Int) × (List (Int)) × (Int) × Unit) × ((Unit) × Unit)) ⊕ ((((List (Int)) × Unit) × ((Unit) × (Unit) × Unit)))) :=
  (bif (decide ((a.1.2.2.1 : Int) < 4)) then
  (if ((IntKind.u64.wrap a.1.2.2.1) : Int) < 0 then none else
  (bif (decide (((IntKind.i64.wrap ((BitVec.ofInt (IntKind.i64.bits) ((a.1.1 : Int).fdiv (2 ^ min ((IntKind.u64.wrap a.1.2.2.1) : Int).toNat (IntKind.i64.bits))) &&& BitVec.ofInt (IntKind.i64.bits) 1).toNat)) : Int) = 1)) then
  (if a.1.2.1.length + ([(IntKind.i64.wrap (a.1.2.2.1 + 1))] : List (Int)).length ≤ 140737488355328 ∧ (a.1.2.1.length + ([(IntKind.i64.wrap (a.1.2.2.1 + 1))] : List (Int)).length) * 8 ≤ 140737488355328 then
  some (.inl ((a.1.1, (a.1.2.1 ++ ([(IntKind.i64.wrap (a.1.2.2.1 + 1))] : List (Int))), (IntKind.i64.wrap (a.1.2.2.1 + 1)), ()), ((), ())))
  else none)
  else
  some (.inl ((a.1.1, a.1.2.1, (IntKind.i64.wrap (a.1.2.2.1 + 1)), ()), ((), ())))))
  else
  some (.inr ((a.1.2.1, ()), ((), (), ()))))
noncomputable def watershedlaw06_row_e1 : LE CT Try.prog := ⟨3, [0, 3, 4], [.one (.int .i64), .one (.own 0 0), .one (.int .i64)], [.row 3 1], [⟨.exit 0, [3], [.one (.own 0 1)], [.dead, .row 3 1]⟩], watershedlaw06_row_l1⟩
noncomputable def watershedlaw06_row_lt : List (LE CT Try.prog) := [watershedlaw06_row_e1]
theorem watershedlaw06_row_e1_ok : LeOk watershedlaw06_row_e1 (nthL (bodyOf Try.f32) 0) := fun A env h k z hk => le_ok (E := watershedlaw06_row_e1) (orcOf_ok watershedlaw06_row_tb) (dr := watershedlaw06_row_dr) (lps := lpsOf watershedlaw06_row_lt) (no_loop (by kernel_rfl)) (fun a => by kernel_rfl) env h k z hk
noncomputable def watershedlaw06_row (x0 : Int) : Option ((List (Int)) × ((Unit) × Unit)) :=
  (loopM watershedlaw06_row_l1 ((x0, [], 0, ()), ((), ()))).bind fun b1 =>
  some (b1.1.1, ((), ()))
noncomputable def watershedlaw06_row_ce : CE CT Try.prog where
  f := 32
  args := [.one (.int .i64)]
  hs := []
  res := .val (.one (.own 0 0))
  outs := [.row 3 1]
  m := fun d dh => watershedlaw06_row d.1
  ok := ce_ok mixedP Try.func32 (by kernel_rfl) (orcOf_ok watershedlaw06_row_tb) (dr := watershedlaw06_row_dr) (lps := lpsOf watershedlaw06_row_lt) (lps_fn (lps_of (n := 1) (by kernel_rfl) fun i hi => match i, hi with | 0, _ => lp_ok (E := watershedlaw06_row_e1) (by kernel_rfl) watershedlaw06_row_e1_ok)) (fun d dh => by kernel_rfl)
end Go.Proofs.Ythlalhjocefbbaa
