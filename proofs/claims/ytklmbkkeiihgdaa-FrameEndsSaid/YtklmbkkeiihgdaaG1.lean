/- Models, by program. -/
import Derived.Test.YtklmbkkeiihgdaaG0
import Derived.Test.YtklmbkkeiihgdaaFo
namespace Go.Proofs.Ytklmbkkeiihgdaa
open Go.RowKit
set_option maxRecDepth 100000
set_option linter.unusedVariables false
noncomputable def growN35 (n : Int) : Option (Nat × ((List (UInt8)) × Unit)) := if 0 ≤ n ∧ n ≤ 140737488355328 ∧ n * ((1 : Nat) : Int) ≤ 140737488355328 then some (0, ([], ())) else none
noncomputable def growN35_ce : CE CT Try.prog where
  f := 35
  args := [.one .nil, .one (.int .i64)]
  hs := []
  res := .val (.one (.asz 1 0))
  outs := [.arr 5 1 false]
  m := fun d dh => growN35 d.2.1
  ok := fun d dh r hr => by
    unfold growN35 at hr
    split at hr
    · rename_i hn
      injection hr with hr
      subst hr
      exact growNil_tr Try.growLay35 rfl rfl (zv := .int .u8 0) false (hsz := by kernel_rfl) (hz := by kernel_rfl) (hby := by kernel_rfl) rfl rfl rfl (by kernel_rfl) d.2.1 hn.1 hn.2.1 hn.2.2
    · cases hr

noncomputable def refOne (x0 : DFrame2) : Option ((List UInt8) × (Unit × Unit)) := if 0 ≤ x0.kind ∧ x0.kind ≤ 255 ∧ x0.data.length ≤ 1000000 then some (code (x0.kind, x0.data), ((), ())) else none
noncomputable def refOne_ce : CE CT Try.prog where
  f := 19
  args := [.cod 7]
  hs := []
  res := .val (.one (.own 1 0))
  outs := [.row 5 1]
  m := fun d dh => refOne d.1
  ok := fun d dh r hr => by
    unfold refOne at hr
    split at hr
    · rename_i hc
      injection hr with hr
      subst hr
      exact refOne_tr d.1 hc
    · cases hr

def watershedlaw03_great_dr : Nat → Nat → DrA
  | _, _ => ⟨[], [], [], [], [], false, []⟩
noncomputable def watershedlaw03_great_tb : List (CE CT Try.prog) := []
noncomputable def watershedlaw03_great_l1 (a : ((List (DFrame)) × (Int) × (Int) × Unit) × (Unit)) : Option ((((List (DFrame)) × (Int) × (Int) × Unit) × (Unit)) ⊕ ((((Int) × Unit) × (Unit)))) :=
  (bif (decide ((a.1.2.2.1 : Int) < (a.1.1.length : Int))) then
  (bif (decide ((a.1.2.1 : Int) ≤ 8000)) then
  (getI a.1.1 a.1.2.2.1).bind fun e1 =>
  some (.inl ((a.1.1, (IntKind.i64.wrap (a.1.2.1 + (e1.data.length : Int))), (IntKind.i64.wrap (a.1.2.2.1 + 1)), ()), ()))
  else
  some (.inr ((a.1.2.1, ()), ())))
  else
  some (.inr ((a.1.2.1, ()), ())))
noncomputable def watershedlaw03_great_e1 : LE CT Try.prog := ⟨3, [0, 3, 4], [.one (.sl 6), .one (.int .i64), .one (.int .i64)], [], [⟨.exit 0, [3], [.one (.int .i64)], []⟩], watershedlaw03_great_l1⟩
noncomputable def watershedlaw03_great_lt : List (LE CT Try.prog) := [watershedlaw03_great_e1]
theorem watershedlaw03_great_e1_ok : LeOk watershedlaw03_great_e1 (nthL (bodyOf Try.f7) 0) := fun A env h k z hk => le_ok (E := watershedlaw03_great_e1) (orcOf_ok watershedlaw03_great_tb) (dr := watershedlaw03_great_dr) (lps := lpsOf watershedlaw03_great_lt) (no_loop (by kernel_rfl)) (fun a => by kernel_rfl) env h k z hk
noncomputable def watershedlaw03_great (x0 : List (DFrame)) : Option ((Bool) × (Unit)) :=
  (loopM watershedlaw03_great_l1 ((x0, (x0.length : Int), 0, ()), ())).bind fun b1 =>
  some ((decide ((8000 : Int) < b1.1.1)), ())
noncomputable def watershedlaw03_great_ce : CE CT Try.prog where
  f := 7
  args := [.one (.sl 6)]
  hs := []
  res := .val (.one (.bool))
  outs := []
  m := fun d dh => watershedlaw03_great d.1
  ok := ce_ok mixedP Try.func7 (by kernel_rfl) (orcOf_ok watershedlaw03_great_tb) (dr := watershedlaw03_great_dr) (lps := lpsOf watershedlaw03_great_lt) (lps_fn (lps_of (n := 1) (by kernel_rfl) fun i hi => match i, hi with | 0, _ => lp_ok (E := watershedlaw03_great_e1) (by kernel_rfl) watershedlaw03_great_e1_ok)) (fun d dh => by kernel_rfl)

def watershedkit_mark_dr : Nat → Nat → DrA
  | _, _ => ⟨[], [], [], [], [], false, []⟩
noncomputable def watershedkit_mark_tb : List (CE CT Try.prog) := []
noncomputable def watershedkit_mark_lt : List (LE CT Try.prog) := []
noncomputable def watershedkit_mark (x0 : Int) (x1 : Int) : Option ((Int) × (Unit)) :=
  let y1 : Int := (IntKind.i64.wrap ((IntKind.i64.wrap (1000003 * (IntKind.i64.wrap (x0 + 7)))) + x1))
  some (y1, ())
noncomputable def watershedkit_mark_ce : CE CT Try.prog where
  f := 34
  args := [.one (.int .i64), .one (.int .i64)]
  hs := []
  res := .val (.one (.int .i64))
  outs := []
  m := fun d dh => watershedkit_mark d.1 d.2.1
  ok := ce_ok mixedP Try.func34 (by kernel_rfl) (orcOf_ok watershedkit_mark_tb) (dr := watershedkit_mark_dr) (lps := lpsOf watershedkit_mark_lt) (lps_fn (no_loop (by kernel_rfl))) (fun d dh => by kernel_rfl)

def watershedkit_markByte_dr : Nat → Nat → DrA
  | _, _ => ⟨[], [], [], [], [], false, []⟩
noncomputable def watershedkit_markByte_tb : List (CE CT Try.prog) := [watershedkit_mark_ce]
noncomputable def watershedkit_markByte_lt : List (LE CT Try.prog) := []
noncomputable def watershedkit_markByte (x0 : Int) (x1 : Int) : Option ((Int) × (Unit)) :=
  (watershedkit_mark x0 x1).bind fun r1 =>
  let y2 : Int := (IntKind.u8.wrap (((IntKind.u64.wrap ((IntKind.u64.wrap r1.1) * 11400714819323198485)) : Int).fdiv (2 ^ min (56 : Int).toNat (IntKind.u64.bits))))
  some (y2, ())
noncomputable def watershedkit_markByte_ce : CE CT Try.prog where
  f := 23
  args := [.one (.int .i64), .one (.int .i64)]
  hs := []
  res := .val (.one (.int .u8))
  outs := []
  m := fun d dh => watershedkit_markByte d.1 d.2.1
  ok := ce_ok mixedP Try.func23 (by kernel_rfl) (orcOf_ok watershedkit_markByte_tb) (dr := watershedkit_markByte_dr) (lps := lpsOf watershedkit_markByte_lt) (lps_fn (no_loop (by kernel_rfl))) (fun d dh => by kernel_rfl)

def watershedkit_LentBytes_dr : Nat → Nat → DrA
  | _, _ => ⟨[], [], [], [], [], false, []⟩
noncomputable def watershedkit_LentBytes_tb : List (CE CT Try.prog) := [watershedkit_markByte_ce]
noncomputable def watershedkit_LentBytes_l1 (a : ((List (UInt8)) × (Nat × Nat × Nat) × (Int) × Unit) × ((List (UInt8)) × Unit)) : Option ((((List (UInt8)) × (Nat × Nat × Nat) × (Int) × Unit) × ((List (UInt8)) × Unit)) ⊕ ((((List (UInt8)) × (Nat × Nat × Nat) × Unit) × ((List (UInt8)) × Unit)))) :=
  (bif (decide ((a.1.2.2.1 : Int) < 12)) then
  (watershedkit_markByte 1 a.1.2.2.1).bind fun r1 =>
  (b8 r1.1).bind fun u2 =>
  (if (a.1.2.1.2.1 + ([u2] : List (UInt8)).length) ≤ 140737488355328 ∧ (a.1.2.1.2.1 + ([u2] : List (UInt8)).length) * 1 ≤ 140737488355328 ∧ a.1.2.1.1 + a.1.2.1.2.1 ≤ a.2.1.length then
  (if (a.1.2.1.2.1 + ([u2] : List (UInt8)).length) ≤ a.1.2.1.2.2 then
  let y3 : List (UInt8) := (a.2.1.take (a.1.2.1.1 + a.1.2.1.2.1) ++ ([u2] : List (UInt8)) ++ a.2.1.drop (a.1.2.1.1 + a.1.2.1.2.1 + ([u2] : List (UInt8)).length))
  some (.inl ((a.1.1, (a.1.2.1.1, (a.1.2.1.2.1 + ([u2] : List (UInt8)).length), a.1.2.1.2.2), (IntKind.i64.wrap (a.1.2.2.1 + 1)), ()), (y3, ())))
  else none)
  else none)
  else
  some (.inr ((a.1.1, (a.1.2.1.1, a.1.2.1.2.1, a.1.2.1.2.2), ()), (a.2.1, ()))))
noncomputable def watershedkit_LentBytes_e1 : LE CT Try.prog := ⟨4, [0, 3, 4], [.one (.sl 1), .one (.as 1 0), .one (.int .i64)], [.arr 5 1 true], [⟨.exit 0, [0, 3], [.one (.sl 1), .one (.as 1 0)], [.arr 5 1 true]⟩], watershedkit_LentBytes_l1⟩
noncomputable def watershedkit_LentBytes_lt : List (LE CT Try.prog) := [watershedkit_LentBytes_e1]
theorem watershedkit_LentBytes_e1_ok : LeOk watershedkit_LentBytes_e1 (nthL (bodyOf Try.f9) 0) := fun A env h k z hk => le_ok (E := watershedkit_LentBytes_e1) (orcOf_ok watershedkit_LentBytes_tb) (dr := watershedkit_LentBytes_dr) (lps := lpsOf watershedkit_LentBytes_lt) (no_loop (by kernel_rfl)) (fun a => by kernel_rfl) env h k z hk
noncomputable def watershedkit_LentBytes (x0 : List (UInt8)) : Option ((Nat × Nat × Nat) × ((List (UInt8)) × Unit)) :=
  (if 0 ≤ (0 : Int) ∧ (0 : Int) ≤ (IntKind.i64.wrap ((x0.length : Int) + 12)) ∧ ((IntKind.i64.wrap ((x0.length : Int) + 12)) : Int) ≤ 140737488355328 ∧ ((1 : Nat) : Int) * (IntKind.i64.wrap ((x0.length : Int) + 12)) ≤ 140737488355328 then
  let y1 : List (UInt8) := (List.replicate ((IntKind.i64.wrap ((x0.length : Int) + 12)) : Int).toNat (0 : UInt8))
  (if ((0 : Int).toNat + x0.length) ≤ 140737488355328 ∧ ((0 : Int).toNat + x0.length) * 1 ≤ 140737488355328 ∧ 0 + (0 : Int).toNat ≤ y1.length then
  (if ((0 : Int).toNat + x0.length) ≤ ((IntKind.i64.wrap ((x0.length : Int) + 12)) : Int).toNat then
  let y2 : List (UInt8) := (y1.take (0 + (0 : Int).toNat) ++ x0 ++ y1.drop (0 + (0 : Int).toNat + x0.length))
  (loopM watershedkit_LentBytes_l1 ((x0, (0, ((0 : Int).toNat + x0.length), ((IntKind.i64.wrap ((x0.length : Int) + 12)) : Int).toNat), 0, ()), (y2, ()))).bind fun b3 =>
  (if 0 ≤ ((0 : Int) : Int) ∧ ((0 : Int) : Int) ≤ ((b3.1.1.length : Int) : Int) ∧ ((b3.1.1.length : Int) : Int) ≤ ((b3.1.2.1.2.2 : Nat) : Int) ∧ ((b3.1.1.length : Int) : Int) ≤ 140737488355328 then
  some (((b3.1.2.1.1 + (0 : Int).toNat), (((b3.1.1.length : Int) : Int).toNat - (0 : Int).toNat), (b3.1.2.1.2.2 - (0 : Int).toNat)), (b3.2.1, ()))
  else none)
  else none)
  else none)
  else none)
noncomputable def watershedkit_LentBytes_ce : CE CT Try.prog where
  f := 9
  args := [.one (.sl 1)]
  hs := []
  res := .val (.one (.as 1 0))
  outs := [.arr 5 1 false]
  m := fun d dh => watershedkit_LentBytes d.1
  ok := ce_ok mixedP Try.func9 (by kernel_rfl) (orcOf_ok watershedkit_LentBytes_tb) (dr := watershedkit_LentBytes_dr) (lps := lpsOf watershedkit_LentBytes_lt) (lps_fn (lps_of (n := 1) (by kernel_rfl) fun i hi => match i, hi with | 0, _ => lp_ok (E := watershedkit_LentBytes_e1) (by kernel_rfl) watershedkit_LentBytes_e1_ok)) (fun d dh => by kernel_rfl)

noncomputable def watershedkit_LentBytes_x (x0 : List (UInt8)) : Option ((List (UInt8) × List (UInt8)) × Unit) :=
  (watershedkit_LentBytes x0).bind fun r => if r.1.1 = 0 ∧ r.1.2.1 ≤ r.2.1.length ∧ r.2.1.length ≤ 140737488355328 then some ((r.2.1.take r.1.2.1, r.2.1.drop r.1.2.1), ()) else none
noncomputable def watershedkit_LentBytes_x_ce : CE CT Try.prog where
  f := 9
  args := [.one (.sl 1)]
  hs := []
  res := .val (.one (.slx 1))
  outs := []
  m := fun d dh => watershedkit_LentBytes_x d.1
  ok := fun d dh r hr => by
    unfold watershedkit_LentBytes_x at hr
    obtain ⟨⟨⟨lo, n, c⟩, xs, u⟩, h1, h2⟩ := bind_some' hr
    dsimp only at h2
    split at h2
    · rename_i hc
      injection h2 with h2
      subst h2
      obtain ⟨rfl, hc2, hc3⟩ := hc
      exact Tr.freezeX hc2 hc3 (watershedkit_LentBytes_ce.ok d dh _ h1)
    · cases h2

def frame_four_dr : Nat → Nat → DrA
  | 1, _ => ⟨[], [], [], [], [], true, []⟩
  | _, _ => ⟨[], [], [], [], [], false, []⟩
noncomputable def frame_four_tb : List (CE CT Try.prog) := []
noncomputable def frame_four_lt : List (LE CT Try.prog) := []
noncomputable def frame_four (x0 : Int) : Option ((Nat) × ((List (UInt8)) × Unit)) :=
  (b8 (IntKind.u8.wrap x0)).bind fun u1 =>
  (b8 (IntKind.u8.wrap ((x0 : Int).fdiv (2 ^ min (8 : Int).toNat (IntKind.u32.bits))))).bind fun u2 =>
  (b8 (IntKind.u8.wrap ((x0 : Int).fdiv (2 ^ min (16 : Int).toNat (IntKind.u32.bits))))).bind fun u3 =>
  (b8 (IntKind.u8.wrap ((x0 : Int).fdiv (2 ^ min (24 : Int).toNat (IntKind.u32.bits))))).bind fun u4 =>
  some (4, (([u1, u2, u3, u4] : List (UInt8)), ()))
noncomputable def frame_four_ce : CE CT Try.prog where
  f := 26
  args := [.one (.int .u32)]
  hs := []
  res := .val (.one (.asz 1 0))
  outs := [.arr 5 1 false]
  m := fun d dh => frame_four d.1
  ok := ce_ok mixedP Try.func26 (by kernel_rfl) (orcOf_ok frame_four_tb) (dr := frame_four_dr) (lps := lpsOf frame_four_lt) (lps_fn (no_loop (by kernel_rfl))) (fun d dh => by kernel_rfl)

def frame_head_dr : Nat → Nat → DrA
  | 1, _ => ⟨[0, 5, 1, 2, 3, 6, 7, 4, 8, 9, 10], [[], [0], [0, 1], [0, 1, 2], [0, 1, 2, 3], [], [5], [5, 6], [5, 6, 7], (List.range 9), (List.range 10)], [6], [4], [0], false, [8]⟩
  | _, _ => ⟨[], [], [], [], [], false, []⟩
noncomputable def frame_head_tb : List (CE CT Try.prog) := [frame_four_ce]
noncomputable def frame_head_lt : List (LE CT Try.prog) := []
noncomputable def frame_head (x0 : DFrame) : Option ((Nat) × ((List (UInt8)) × Unit)) :=
  (frame_four (IntKind.u32.wrap (x0.data.length : Int))).bind fun r1 =>
  (b8 (IntKind.u8.wrap x0.kind)).bind fun u2 =>
  (if 0 + 1 ≤ ([u2] : List (UInt8)).length then
  (if (r1.1 + ((([u2] : List (UInt8)).drop 0).take 1).length) ≤ 140737488355328 ∧ (r1.1 + ((([u2] : List (UInt8)).drop 0).take 1).length) * 1 ≤ 140737488355328 ∧ 0 + r1.1 ≤ r1.2.1.length then
  some ((r1.1 + ((([u2] : List (UInt8)).drop 0).take 1).length), ((r1.2.1.take r1.1 ++ ((([u2] : List (UInt8)).drop 0).take 1)), ()))
  else none)
  else none)
noncomputable def frame_head_ce : CE CT Try.prog where
  f := 24
  args := [.cod 6]
  hs := []
  res := .val (.one (.asz 1 0))
  outs := [.arr 5 1 false]
  m := fun d dh => frame_head d.1
  ok := ce_ok mixedP Try.func24 (by kernel_rfl) (orcOf_ok frame_head_tb) (dr := frame_head_dr) (lps := lpsOf frame_head_lt) (lps_fn (no_loop (by kernel_rfl))) (fun d dh => by kernel_rfl)

noncomputable def frame_head_t (x0 : DFrame) : Option ((List (UInt8)) × (Unit × Unit)) :=
  (frame_head x0).bind fun r => if r.1 ≠ 0 ∧ r.1 ≤ r.2.1.length then some (r.2.1.take r.1, ((), ())) else none
noncomputable def frame_head_t_ce : CE CT Try.prog where
  f := 24
  args := [.cod 6]
  hs := []
  res := .val (.one (.own 1 0))
  outs := [.row 5 1]
  m := fun d dh => frame_head_t d.1
  ok := fun d dh r hr => by
    unfold frame_head_t at hr
    obtain ⟨⟨n, xs, u⟩, h1, h2⟩ := bind_some' hr
    dsimp only at h2
    split at h2
    · rename_i hc
      injection h2 with h2
      subst h2
      exact Tr.freezeO hc.1 hc.2 (frame_head_ce.ok d dh _ h1)
    · cases h2

noncomputable def frame_four_t (x0 : Int) : Option ((List (UInt8)) × (Unit × Unit)) :=
  (frame_four x0).bind fun r => if r.1 ≠ 0 ∧ r.1 ≤ r.2.1.length then some (r.2.1.take r.1, ((), ())) else none
noncomputable def frame_four_t_ce : CE CT Try.prog where
  f := 26
  args := [.one (.int .u32)]
  hs := []
  res := .val (.one (.own 1 0))
  outs := [.row 5 1]
  m := fun d dh => frame_four_t d.1
  ok := fun d dh r hr => by
    unfold frame_four_t at hr
    obtain ⟨⟨n, xs, u⟩, h1, h2⟩ := bind_some' hr
    dsimp only at h2
    split at h2
    · rename_i hc
      injection h2 with h2
      subst h2
      exact Tr.freezeO hc.1 hc.2 (frame_four_ce.ok d dh _ h1)
    · cases h2

def slices_Concat_dr : Nat → Nat → DrA
  | _, _ => ⟨[], [], [], [], [], false, []⟩
noncomputable def slices_Concat_tb : List (CE CT Try.prog) := [growN35_ce]
noncomputable def slices_Concat_l1 (a : ((List (List (UInt8))) × (Int) × (List (List (UInt8))) × (Int) × (Int) × Unit) × (Unit)) : Option ((((List (List (UInt8))) × (Int) × (List (List (UInt8))) × (Int) × (Int) × Unit) × (Unit)) ⊕ ((((List (List (UInt8))) × (Int) × Unit) × (Unit)))) :=
  (bif (decide ((a.1.2.2.2.2.1 : Int) < a.1.2.2.2.1)) then
  (getI a.1.2.2.1 a.1.2.2.2.2.1).bind fun e1 =>
  (bif (decide (((IntKind.i64.wrap (a.1.2.1 + (e1.length : Int))) : Int) < 0)) then
  none
  else
  some (.inl ((a.1.1, (IntKind.i64.wrap (a.1.2.1 + (e1.length : Int))), a.1.2.2.1, a.1.2.2.2.1, (IntKind.i64.wrap (a.1.2.2.2.2.1 + 1)), ()), ())))
  else
  some (.inr ((a.1.1, a.1.2.1, ()), ())))
noncomputable def slices_Concat_e1 : LE CT Try.prog := ⟨3, [0, 3, 9, 10, 11], [.one (.sl 3), .one (.int .i64), .one (.sl 3), .one (.int .i64), .one (.int .i64)], [], [⟨.exit 0, [0, 3], [.one (.sl 3), .one (.int .i64)], []⟩], slices_Concat_l1⟩
noncomputable def slices_Concat_l2 (a : ((Nat) × (List (List (UInt8))) × (Int) × (Int) × Unit) × ((List (UInt8)) × Unit)) : Option ((((Nat) × (List (List (UInt8))) × (Int) × (Int) × Unit) × ((List (UInt8)) × Unit)) ⊕ ((((Nat) × Unit) × ((Unit) × (List (UInt8)) × Unit)))) :=
  (bif (decide ((a.1.2.2.2.1 : Int) < a.1.2.2.1)) then
  (getI a.1.2.1 a.1.2.2.2.1).bind fun e1 =>
  (if (a.1.1 + e1.length) ≤ 140737488355328 ∧ (a.1.1 + e1.length) * 1 ≤ 140737488355328 ∧ 0 + a.1.1 ≤ a.2.1.length then
  some (.inl (((a.1.1 + e1.length), a.1.2.1, a.1.2.2.1, (IntKind.i64.wrap (a.1.2.2.2.1 + 1)), ()), ((a.2.1.take a.1.1 ++ e1), ())))
  else none)
  else
  some (.inr ((a.1.1, ()), ((), a.2.1, ()))))
noncomputable def slices_Concat_e2 : LE CT Try.prog := ⟨11, [6, 25, 26, 27], [.one (.asz 1 0), .one (.sl 3), .one (.int .i64), .one (.int .i64)], [.arr 5 1 false], [⟨.exit 2, [6], [.one (.asz 1 1)], [.dead, .arr 5 1 false]⟩], slices_Concat_l2⟩
noncomputable def slices_Concat_lt : List (LE CT Try.prog) := [slices_Concat_e1, slices_Concat_e2]
theorem slices_Concat_e1_ok : LeOk slices_Concat_e1 (nthL (bodyOf Try.f25) 0) := fun A env h k z hk => le_ok (E := slices_Concat_e1) (orcOf_ok slices_Concat_tb) (dr := slices_Concat_dr) (lps := lpsOf slices_Concat_lt) (no_loop (by kernel_rfl)) (fun a => by kernel_rfl) env h k z hk
theorem slices_Concat_e2_ok : LeOk slices_Concat_e2 (nthL (bodyOf Try.f25) 1) := fun A env h k z hk => le_ok (E := slices_Concat_e2) (orcOf_ok slices_Concat_tb) (dr := slices_Concat_dr) (lps := lpsOf slices_Concat_lt) (no_loop (by kernel_rfl)) (fun a => by kernel_rfl) env h k z hk
noncomputable def slices_Concat (x0 : List (List (UInt8))) : Option ((Nat) × ((List (UInt8)) × Unit)) :=
  (loopM slices_Concat_l1 ((x0, 0, x0, (x0.length : Int), 0, ()), ())).bind fun b1 =>
  (growN35 b1.1.2.1).bind fun r2 =>
  (loopM slices_Concat_l2 ((r2.1, b1.1.1, (b1.1.1.length : Int), 0, ()), (r2.2.1, ()))).bind fun b3 =>
  some (b3.1.1, (b3.2.2.1, ()))
noncomputable def slices_Concat_ce : CE CT Try.prog where
  f := 25
  args := [.one (.sl 3)]
  hs := []
  res := .val (.one (.asz 1 0))
  outs := [.arr 5 1 false]
  m := fun d dh => slices_Concat d.1
  ok := ce_ok mixedP Try.func25 (by kernel_rfl) (orcOf_ok slices_Concat_tb) (dr := slices_Concat_dr) (lps := lpsOf slices_Concat_lt) (lps_fn (lps_of (n := 2) (by kernel_rfl) fun i hi => match i, hi with | 0, _ => lp_ok (E := slices_Concat_e1) (by kernel_rfl) slices_Concat_e1_ok | 1, _ => lp_ok (E := slices_Concat_e2) (by kernel_rfl) slices_Concat_e2_ok)) (fun d dh => by kernel_rfl)

noncomputable def slices_Concat_t (x0 : List (List (UInt8))) : Option ((List (UInt8)) × (Unit × Unit)) :=
  (slices_Concat x0).bind fun r => if r.1 ≠ 0 ∧ r.1 ≤ r.2.1.length then some (r.2.1.take r.1, ((), ())) else none
noncomputable def slices_Concat_t_ce : CE CT Try.prog where
  f := 25
  args := [.one (.sl 3)]
  hs := []
  res := .val (.one (.own 1 0))
  outs := [.row 5 1]
  m := fun d dh => slices_Concat_t d.1
  ok := fun d dh r hr => by
    unfold slices_Concat_t at hr
    obtain ⟨⟨n, xs, u⟩, h1, h2⟩ := bind_some' hr
    dsimp only at h2
    split at h2
    · rename_i hc
      injection h2 with h2
      subst h2
      exact Tr.freezeO hc.1 hc.2 (slices_Concat_ce.ok d dh _ h1)
    · cases h2

def frame_Put_dr : Nat → Nat → DrA
  | 10, _ => ⟨[0, 1, 2, 3, 8, 4, 9, 5, 6, 7, 10, 11, 12], [[], [], [], [], [3], [2, 3, 4], [2, 3, 4, 5], [2, 3, 4, 5, 6], [], [8], (List.range 10), (List.range 11), (List.range 12)], [9], [6, 7], [1], false, []⟩
  | _, _ => ⟨[], [], [], [], [], false, []⟩
noncomputable def frame_Put_tb : List (CE CT Try.prog) := [frame_head_t_ce, sumT_ce, frame_four_t_ce, slices_Concat_t_ce]
noncomputable def frame_Put_l1 (a : ((List (UInt8)) × (List (DFrame)) × (Int) × (Int) × Unit) × ((Unit) × Unit)) : Option ((((List (UInt8)) × (List (DFrame)) × (Int) × (Int) × Unit) × ((Unit) × Unit)) ⊕ ((((Unit) × (Int) × Unit) × ((Unit) × Unit)) ⊕ (((List (UInt8)) × Unit) × ((Unit) × (Unit) × Unit)))) :=
  (bif (decide ((a.1.2.2.2.1 : Int) < a.1.2.2.1)) then
  (getI a.1.2.1 a.1.2.2.2.1).bind fun e1 =>
  (bif (decide ((e1.kind : Int) < 0)) then
  some (.inr (.inl (((), 2, ()), ((), ()))))
  else
  (bif (decide ((255 : Int) < e1.kind)) then
  some (.inr (.inl (((), 2, ()), ((), ()))))
  else
  (bif (decide ((262144 : Int) < (e1.data.length : Int))) then
  some (.inr (.inl (((), 3, ()), ((), ()))))
  else
  (frame_head_t e1).bind fun r2 =>
  (sumT ([r2.1, e1.data] : List (List (UInt8)))).bind fun r3 =>
  (frame_four_t r3.1).bind fun r4 =>
  (slices_Concat_t ([a.1.1, r2.1, r4.1, e1.data] : List (List (UInt8)))).bind fun r5 =>
  some (.inl ((r5.1, a.1.2.1, a.1.2.2.1, (IntKind.i64.wrap (a.1.2.2.2.1 + 1)), ()), ((), ()))))))
  else
  some (.inr (.inr ((a.1.1, ()), ((), (), ())))))
noncomputable def frame_Put_e1 : LE CT Try.prog := ⟨3, [4, 8, 9, 10], [.one (.own 1 0), .one (.sl 6), .one (.int .i64), .one (.int .i64)], [.row 5 1], [⟨.ret, [2, 3], [.one (.nil), .one (.int .i64)], [.dead]⟩, ⟨.exit 0, [4], [.one (.own 1 1)], [.dead, .row 5 1]⟩], frame_Put_l1⟩
noncomputable def frame_Put_lt : List (LE CT Try.prog) := [frame_Put_e1]
theorem frame_Put_e1_ok : LeOk frame_Put_e1 (nthL (bodyOf Try.f10) 0) := fun A env h k z hk => le_ok (E := frame_Put_e1) (orcOf_ok frame_Put_tb) (dr := frame_Put_dr) (lps := lpsOf frame_Put_lt) (no_loop (by kernel_rfl)) (fun a => by kernel_rfl) env h k z hk
noncomputable def frame_Put (x0 : List (DFrame)) : Option (((List (UInt8)) × (Int) × Unit) × ((Unit) × Unit)) :=
  (loopM frame_Put_l1 (([], x0, (x0.length : Int), 0, ()), ((), ()))).bind fun b1 =>
  (match b1 with
  | .inl b2 =>
  some (([], b2.1.2.1, ()), ((), ()))
  | .inr b3 =>
  some ((b3.1.1, 0, ()), ((), ())))
noncomputable def frame_Put_ce : CE CT Try.prog where
  f := 10
  args := [.one (.sl 6)]
  hs := []
  res := .tup [.one (.own 1 0), .one (.int .i64)]
  outs := [.row 5 1]
  m := fun d dh => frame_Put d.1
  ok := ce_ok mixedP Try.func10 (by kernel_rfl) (orcOf_ok frame_Put_tb) (dr := frame_Put_dr) (lps := lpsOf frame_Put_lt) (lps_fn (lps_of (n := 1) (by kernel_rfl) fun i hi => match i, hi with | 0, _ => lp_ok (E := frame_Put_e1) (by kernel_rfl) frame_Put_e1_ok)) (fun d dh => by kernel_rfl)

noncomputable def frame_Put_ar (x0 : List (DFrame)) : Option (((Nat) × (Int) × Unit) × ((List (UInt8)) × Unit)) :=
  (frame_Put x0).bind fun r => some ((r.1.1.length, r.1.2.1, ()), (r.1.1, ()))
noncomputable def frame_Put_ar_ce : CE CT Try.prog where
  f := 10
  args := [.one (.sl 6)]
  hs := []
  res := .tup [.one (.asz 1 0), .one (.int .i64)]
  outs := [.arr 5 1 true]
  m := fun d dh => frame_Put_ar d.1
  ok := fun d dh r2 hr => by
    unfold frame_Put_ar at hr
    obtain ⟨r, h1, h2⟩ := bind_some' hr
    injection h2 with h2
    subst h2
    exact Tr.asArr (frame_Put_ce.ok d dh r h1) rfl rfl (fun i x hx => match i, hx with | 0, hx => ⟨5, 1, r.1.1, by injection hx with hx; exact hx.symm, rfl, ⟨_, .head _, ⟨rfl, rfl⟩⟩, fun y => rfl, rfl⟩ | i + 1, hx => by cases hx)

def watershedlaw03_turned_dr : Nat → Nat → DrA
  | 5, _ => ⟨(List.range 5 ++ [6, 7, 8, 9, 5, 10, 11, 12, 13, 14]), [[], [], [], [1, 2], [1, 2, 3], [1, 2, 3, 4], [], [], [6, 7], [6, 7, 8], [6, 7, 8, 9], [1, 2, 3, 4, 5, 6, 7, 8, 9, 10], [1, 2, 3, 4, 5, 6, 7, 8, 9, 10, 11], (List.range 13), (List.range 14)], [], [], [], false, []⟩
  | _, _ => ⟨[], [], [], [], [], false, []⟩
noncomputable def watershedlaw03_turned_tb : List (CE CT Try.prog) := []
noncomputable def watershedlaw03_turned_l1 (a : ((List (DFrame)) × (List (DFrame2)) × (Int) × Unit) × ((Unit) × Unit)) : Option ((((List (DFrame)) × (List (DFrame2)) × (Int) × Unit) × ((Unit) × Unit)) ⊕ ((((List (DFrame2)) × Unit) × ((Unit) × (Unit) × Unit)))) :=
  (bif (decide ((a.1.2.2.1 : Int) < (a.1.1.length : Int))) then
  (getI a.1.1 a.1.2.2.1).bind fun e1 =>
  (getI a.1.1 a.1.2.2.1).bind fun e2 =>
  (if a.1.2.1.length + ([(⟨e1.kind, e2.data⟩ : DFrame2)] : List (DFrame2)).length ≤ 140737488355328 ∧ (a.1.2.1.length + ([(⟨e1.kind, e2.data⟩ : DFrame2)] : List (DFrame2)).length) * 32 ≤ 140737488355328 then
  some (.inl ((a.1.1, (a.1.2.1 ++ ([(⟨e1.kind, e2.data⟩ : DFrame2)] : List (DFrame2))), (IntKind.i64.wrap (a.1.2.2.1 + 1)), ()), ((), ())))
  else none)
  else
  some (.inr ((a.1.2.1, ()), ((), (), ()))))
noncomputable def watershedlaw03_turned_e1 : LE CT Try.prog := ⟨3, [0, 3, 4], [.one (.sl 6), .one (.own 7 0), .one (.int .i64)], [.row 45 2], [⟨.exit 0, [3], [.one (.own 7 1)], [.dead, .row 45 2]⟩], watershedlaw03_turned_l1⟩
noncomputable def watershedlaw03_turned_lt : List (LE CT Try.prog) := [watershedlaw03_turned_e1]
theorem watershedlaw03_turned_e1_ok : LeOk watershedlaw03_turned_e1 (nthL (bodyOf Try.f12) 0) := fun A env h k z hk => le_ok (E := watershedlaw03_turned_e1) (orcOf_ok watershedlaw03_turned_tb) (dr := watershedlaw03_turned_dr) (lps := lpsOf watershedlaw03_turned_lt) (no_loop (by kernel_rfl)) (fun a => by kernel_rfl) env h k z hk
noncomputable def watershedlaw03_turned (x0 : List (DFrame)) : Option ((List (DFrame2)) × ((Unit) × Unit)) :=
  (loopM watershedlaw03_turned_l1 ((x0, [], 0, ()), ((), ()))).bind fun b1 =>
  some (b1.1.1, ((), ()))
noncomputable def watershedlaw03_turned_ce : CE CT Try.prog where
  f := 12
  args := [.one (.sl 6)]
  hs := []
  res := .val (.one (.own 7 0))
  outs := [.row 45 2]
  m := fun d dh => watershedlaw03_turned d.1
  ok := ce_ok mixedP Try.func12 (by kernel_rfl) (orcOf_ok watershedlaw03_turned_tb) (dr := watershedlaw03_turned_dr) (lps := lpsOf watershedlaw03_turned_lt) (lps_fn (lps_of (n := 1) (by kernel_rfl) fun i hi => match i, hi with | 0, _ => lp_ok (E := watershedlaw03_turned_e1) (by kernel_rfl) watershedlaw03_turned_e1_ok)) (fun d dh => by kernel_rfl)

def watershedref03_Put_dr : Nat → Nat → DrA
  | _, _ => ⟨[], [], [], [], [], false, []⟩
noncomputable def watershedref03_Put_tb : List (CE CT Try.prog) := [refOne_ce]
noncomputable def watershedref03_Put_l1 (a : ((List (DFrame2)) × (List (UInt8)) × (Int) × Unit) × ((Unit) × Unit)) : Option ((((List (DFrame2)) × (List (UInt8)) × (Int) × Unit) × ((Unit) × Unit)) ⊕ ((((Unit) × (Int) × Unit) × ((Unit) × Unit)) ⊕ (((List (UInt8)) × Unit) × ((Unit) × (Unit) × Unit)))) :=
  (bif (decide ((a.1.2.2.1 : Int) < (a.1.1.length : Int))) then
  (getI a.1.1 a.1.2.2.1).bind fun e1 =>
  (bif (decide ((e1.kind : Int) < 0)) then
  some (.inr (.inl (((), 2, ()), ((), ()))))
  else
  (getI a.1.1 a.1.2.2.1).bind fun e2 =>
  (bif (decide ((255 : Int) < e2.kind)) then
  some (.inr (.inl (((), 2, ()), ((), ()))))
  else
  (getI a.1.1 a.1.2.2.1).bind fun e3 =>
  (bif (decide ((262144 : Int) < (e3.data.length : Int))) then
  some (.inr (.inl (((), 3, ()), ((), ()))))
  else
  (getI a.1.1 a.1.2.2.1).bind fun e4 =>
  (refOne e4).bind fun r5 =>
  (if a.1.2.1.length + r5.1.length ≤ 140737488355328 ∧ (a.1.2.1.length + r5.1.length) * 1 ≤ 140737488355328 then
  some (.inl ((a.1.1, (a.1.2.1 ++ r5.1), (IntKind.i64.wrap (a.1.2.2.1 + 1)), ()), ((), ())))
  else none))))
  else
  some (.inr (.inr ((a.1.2.1, ()), ((), (), ())))))
noncomputable def watershedref03_Put_e1 : LE CT Try.prog := ⟨3, [0, 4, 5], [.one (.sl 7), .one (.own 1 0), .one (.int .i64)], [.row 5 1], [⟨.ret, [2, 3], [.one (.nil), .one (.int .i64)], [.dead]⟩, ⟨.exit 0, [4], [.one (.own 1 1)], [.dead, .row 5 1]⟩], watershedref03_Put_l1⟩
noncomputable def watershedref03_Put_lt : List (LE CT Try.prog) := [watershedref03_Put_e1]
theorem watershedref03_Put_e1_ok : LeOk watershedref03_Put_e1 (nthL (bodyOf Try.f11) 0) := fun A env h k z hk => le_ok (E := watershedref03_Put_e1) (orcOf_ok watershedref03_Put_tb) (dr := watershedref03_Put_dr) (lps := lpsOf watershedref03_Put_lt) (no_loop (by kernel_rfl)) (fun a => by kernel_rfl) env h k z hk
noncomputable def watershedref03_Put (x0 : List (DFrame2)) : Option (((List (UInt8)) × (Int) × Unit) × ((Unit) × Unit)) :=
  (loopM watershedref03_Put_l1 ((x0, [], 0, ()), ((), ()))).bind fun b1 =>
  (match b1 with
  | .inl b2 =>
  some (([], b2.1.2.1, ()), ((), ()))
  | .inr b3 =>
  some ((b3.1.1, 0, ()), ((), ())))
noncomputable def watershedref03_Put_ce : CE CT Try.prog where
  f := 11
  args := [.one (.sl 7)]
  hs := []
  res := .tup [.one (.own 1 0), .one (.int .i64)]
  outs := [.row 5 1]
  m := fun d dh => watershedref03_Put d.1
  ok := ce_ok mixedP Try.func11 (by kernel_rfl) (orcOf_ok watershedref03_Put_tb) (dr := watershedref03_Put_dr) (lps := lpsOf watershedref03_Put_lt) (lps_fn (lps_of (n := 1) (by kernel_rfl) fun i hi => match i, hi with | 0, _ => lp_ok (E := watershedref03_Put_e1) (by kernel_rfl) watershedref03_Put_e1_ok)) (fun d dh => by kernel_rfl)

def watershedref03_begins_dr : Nat → Nat → DrA
  | 3, _ => ⟨[0, 1, 4, 5, 10, 11, 16, 17, 2, 3, 6, 7, 8, 9, 12, 13, 14, 15, 18, 19, 20, 21, 22], [[], [0], [0, 1], [0, 1, 2], [], [4], [4, 5], [4, 5, 6], [4, 5, 6, 7], (List.range 9), [], [10], [10, 11], [10, 11, 12], [10, 11, 12, 13], (List.range 15), [], [16], [16, 17], [16, 17, 18], [16, 17, 18, 19], (List.range 21), (List.range 22)], [], [], [], false, []⟩
  | 6, _ => ⟨[0, 1, 5, 6, 7, 8, 2, 3, 4, 9, 10, 11, 12], [[], [0], [0, 1], [0, 1, 2], [], [], [], [6], [5, 6, 7], [4, 5, 6, 7, 8], (List.range 10), [], (List.range 12)], [2], [9], [], false, []⟩
  | 11, _ => ⟨[0, 1, 2, 4, 5, 6, 3, 7, 8], [[], [], [0, 1], [0, 1, 2], [], [], [4, 5], [4, 5, 6], (List.range 8)], [], [], [], false, []⟩
  | _, _ => ⟨[], [], [], [], [], false, []⟩
noncomputable def watershedref03_begins_tb : List (CE CT Try.prog) := [refOne_ce]
noncomputable def watershedref03_begins_l1 (a : ((List (UInt8)) × (Unit) × (Unit) × (List (UInt8)) × (Int) × Unit) × (((Int) × (List (UInt8)) × Unit) × ((Int) × (List (UInt8)) × Unit) × (Unit) × (Unit) × (Unit) × Unit)) : Option ((((List (UInt8)) × (Unit) × (Unit) × (List (UInt8)) × (Int) × Unit) × (((Int) × (List (UInt8)) × Unit) × ((Int) × (List (UInt8)) × Unit) × (Unit) × (Unit) × (Unit) × Unit)) ⊕ ((((Unit) × (Bool) × Unit) × (((Int) × (List (UInt8)) × Unit) × ((Int) × (List (UInt8)) × Unit) × (Unit) × (Unit) × (Unit) × (Unit) × (Unit) × Unit)) ⊕ (((Unit) × (Unit) × Unit) × (((Int) × (List (UInt8)) × Unit) × ((Int) × (List (UInt8)) × Unit) × (Unit) × (Unit) × (Unit) × (Unit) × (Unit) × Unit)))) :=
  (bif (decide ((a.1.2.2.2.2.1 : Int) < (a.1.2.2.2.1.length : Int))) then
  (getI a.1.2.2.2.1 a.1.2.2.2.2.1).bind fun e1 =>
  (getI a.1.1 a.1.2.2.2.2.1).bind fun e2 =>
  (bif (decide (((e1.toNat : Int) : Int) ≠ (e2.toNat : Int))) then
  some (.inr (.inl (((), false, ()), ((0, [], ()), (a.2.2.1.1, a.2.2.1.2.1, ()), (), (), (), (), (), ()))))
  else
  some (.inl ((a.1.1, (), (), a.1.2.2.2.1, (IntKind.i64.wrap (a.1.2.2.2.2.1 + 1)), ()), ((a.2.1.1, a.2.1.2.1, ()), (a.2.2.1.1, a.2.2.1.2.1, ()), (), (), (), ()))))
  else
  some (.inr (.inr (((), (), ()), ((a.2.1.1, a.2.1.2.1, ()), (a.2.2.1.1, a.2.2.1.2.1, ()), (), (), (), (), (), ())))))
noncomputable def watershedref03_begins_e1 : LE CT Try.prog := ⟨9, [0, 2, 5, 6, 7], [.one (.sl 1), .one (.ptr 0 0), .one (.ptr 1 0), .one (.own 1 2), .one (.int .i64)], [.obj 45 [.int .i64, .own 1 3], .obj 45 [.int .i64, .own 1 4], .row 5 1, .row 5 1, .row 5 1], [⟨.ret, [2, 3], [.one (.ptr 0 0), .one (.bool)], [.obj 45 [.int .i64, .own 1 5], .obj 45 [.int .i64, .own 1 6], .dead, .dead, .dead, .row 5 1, .row 5 1]⟩, ⟨.exit 0, [2, 5], [.one (.ptr 0 0), .one (.ptr 1 0)], [.obj 45 [.int .i64, .own 1 5], .obj 45 [.int .i64, .own 1 6], .dead, .dead, .dead, .row 5 1, .row 5 1]⟩], watershedref03_begins_l1⟩
noncomputable def watershedref03_begins_lt : List (LE CT Try.prog) := [watershedref03_begins_e1]
theorem watershedref03_begins_e1_ok : LeOk watershedref03_begins_e1 (nthL (bodyOf Try.f28) 0) := fun A env h k z hk => le_ok (E := watershedref03_begins_e1) (orcOf_ok watershedref03_begins_tb) (dr := watershedref03_begins_dr) (lps := lpsOf watershedref03_begins_lt) (no_loop (by kernel_rfl)) (fun a => by kernel_rfl) env h k z hk
noncomputable def watershedref03_begins (x0 : List (UInt8)) : Option (((DFrame2) × (Bool) × Unit) × (Unit)) :=
  (bif (decide (((x0.length : Int) : Int) < 9)) then
  some (((⟨0, []⟩ : DFrame2), false, ()), ())
  else
  (getI x0 0).bind fun e1 =>
  (getI x0 1).bind fun e2 =>
  (getI x0 2).bind fun e3 =>
  (getI x0 3).bind fun e4 =>
  let y5 : Int := (IntKind.i64.wrap ((IntKind.i64.wrap ((IntKind.i64.wrap ((IntKind.i64.wrap (e1.toNat : Int)) + (IntKind.i64.wrap ((IntKind.i64.wrap (e2.toNat : Int)) * 2 ^ min (8 : Int).toNat (IntKind.i64.bits))))) + (IntKind.i64.wrap ((IntKind.i64.wrap (e3.toNat : Int)) * 2 ^ min (16 : Int).toNat (IntKind.i64.bits))))) + (IntKind.i64.wrap ((IntKind.i64.wrap (e4.toNat : Int)) * 2 ^ min (24 : Int).toNat (IntKind.i64.bits)))))
  (bif (decide ((262144 : Int) < y5)) then
  some (((⟨0, []⟩ : DFrame2), false, ()), ())
  else
  (bif (decide (((IntKind.i64.wrap ((x0.length : Int) - 9)) : Int) < y5)) then
  some (((⟨0, []⟩ : DFrame2), false, ()), ())
  else
  (getI x0 4).bind fun e6 =>
  (if 0 ≤ (9 : Int) ∧ (9 : Int) ≤ (IntKind.i64.wrap (9 + y5)) ∧ (IntKind.i64.wrap (9 + y5)) ≤ (x0.length : Int) then
  let y7 : List (UInt8) := ((x0.drop (9 : Int).toNat).take (((IntKind.i64.wrap (9 + y5)) : Int).toNat - (9 : Int).toNat))
  (if ([] : List (UInt8)).length + y7.length ≤ 140737488355328 ∧ (([] : List (UInt8)).length + y7.length) * 1 ≤ 140737488355328 then
  (refOne (⟨(IntKind.i64.wrap (e6.toNat : Int)), (([] : List (UInt8)) ++ y7)⟩ : DFrame2)).bind fun r8 =>
  (loopM watershedref03_begins_l1 ((x0, (), (), r8.1, 0, ()), ((0, [], ()), ((IntKind.i64.wrap (e6.toNat : Int)), (([] : List (UInt8)) ++ y7), ()), (), (), (), ()))).bind fun b9 =>
  (match b9 with
  | .inl b10 =>
  some (((⟨b10.2.1.1, b10.2.1.2.1⟩ : DFrame2), b10.1.2.1, ()), ())
  | .inr b11 =>
  some (((⟨b11.2.2.1.1, b11.2.2.1.2.1⟩ : DFrame2), true, ()), ()))
  else none)
  else none))))
noncomputable def watershedref03_begins_ce : CE CT Try.prog where
  f := 28
  args := [.one (.sl 1)]
  hs := []
  res := .tup [.cod 7, .one (.bool)]
  outs := []
  m := fun d dh => watershedref03_begins d.1
  ok := ce_ok mixedP Try.func28 (by kernel_rfl) (orcOf_ok watershedref03_begins_tb) (dr := watershedref03_begins_dr) (lps := lpsOf watershedref03_begins_lt) (lps_fn (lps_of (n := 1) (by kernel_rfl) fun i hi => match i, hi with | 0, _ => lp_ok (E := watershedref03_begins_e1) (by kernel_rfl) watershedref03_begins_e1_ok)) (fun d dh => by kernel_rfl)

def watershedref03_Get_dr : Nat → Nat → DrA
  | _, _ => ⟨[], [], [], [], [], false, []⟩
noncomputable def watershedref03_Get_tb : List (CE CT Try.prog) := [watershedref03_begins_ce]
noncomputable def watershedref03_Get_l1 (a : ((List (UInt8)) × (List (DFrame2)) × (Int) × (Unit) × (Bool) × Unit) × ((DFrame2) × (Unit) × Unit)) : Option ((((List (UInt8)) × (List (DFrame2)) × (Int) × (Unit) × (Bool) × Unit) × ((DFrame2) × (Unit) × Unit)) ⊕ ((((List (DFrame2)) × (Int) × Unit) × ((DFrame2) × (Unit) × (Unit) × Unit)))) :=
  (bif a.1.2.2.2.2.1 then
  (if a.1.2.1.length + ([a.2.1] : List (DFrame2)).length ≤ 140737488355328 ∧ (a.1.2.1.length + ([a.2.1] : List (DFrame2)).length) * 32 ≤ 140737488355328 then
  let y1 : Int := (IntKind.i64.wrap ((IntKind.i64.wrap (a.1.2.2.1 + 9)) + (a.2.1.data.length : Int)))
  (if 0 ≤ (y1 : Int) ∧ (y1 : Int) ≤ (a.1.1.length : Int) ∧ (a.1.1.length : Int) ≤ (a.1.1.length : Int) then
  let y2 : List (UInt8) := ((a.1.1.drop (y1 : Int).toNat).take (((a.1.1.length : Int) : Int).toNat - (y1 : Int).toNat))
  (watershedref03_begins y2).bind fun r3 =>
  some (.inl ((a.1.1, (a.1.2.1 ++ ([a.2.1] : List (DFrame2))), y1, (), r3.1.2.1, ()), (r3.1.1, (), ())))
  else none)
  else none)
  else
  some (.inr ((a.1.2.1, a.1.2.2.1, ()), (a.2.1, (), (), ()))))
noncomputable def watershedref03_Get_e1 : LE CT Try.prog := ⟨4, [0, 4, 5, 6, 7], [.one (.sl 1), .one (.own 7 1), .one (.int .i64), .one (.ptr 0 0), .one (.bool)], [.cobj 45 7, .row 45 2], [⟨.exit 0, [4, 5], [.one (.own 7 2), .one (.int .i64)], [.cobj 45 7, .dead, .row 45 2]⟩], watershedref03_Get_l1⟩
noncomputable def watershedref03_Get_lt : List (LE CT Try.prog) := [watershedref03_Get_e1]
theorem watershedref03_Get_e1_ok : LeOk watershedref03_Get_e1 (nthL (bodyOf Try.f14) 0) := fun A env h k z hk => le_ok (E := watershedref03_Get_e1) (orcOf_ok watershedref03_Get_tb) (dr := watershedref03_Get_dr) (lps := lpsOf watershedref03_Get_lt) (no_loop (by kernel_rfl)) (fun a => by kernel_rfl) env h k z hk
noncomputable def watershedref03_Get (x0 : List (UInt8)) : Option (((List (DFrame2)) × (Int) × Unit) × ((Unit) × Unit)) :=
  (watershedref03_begins x0).bind fun r1 =>
  (loopM watershedref03_Get_l1 ((x0, [], 0, (), r1.1.2.1, ()), (r1.1.1, (), ()))).bind fun b2 =>
  some ((b2.1.1, b2.1.2.1, ()), ((), ()))
noncomputable def watershedref03_Get_ce : CE CT Try.prog where
  f := 14
  args := [.one (.sl 1)]
  hs := []
  res := .tup [.one (.own 7 0), .one (.int .i64)]
  outs := [.row 45 2]
  m := fun d dh => watershedref03_Get d.1
  ok := ce_ok mixedP Try.func14 (by kernel_rfl) (orcOf_ok watershedref03_Get_tb) (dr := watershedref03_Get_dr) (lps := lpsOf watershedref03_Get_lt) (lps_fn (lps_of (n := 1) (by kernel_rfl) fun i hi => match i, hi with | 0, _ => lp_ok (E := watershedref03_Get_e1) (by kernel_rfl) watershedref03_Get_e1_ok)) (fun d dh => by kernel_rfl)

def watershedkit_SameBytes_dr : Nat → Nat → DrA
  | 6, _ => ⟨[0, 1, 2, 4, 5, 6, 3, 7, 8], [[], [], [0, 1], [0, 1, 2], [], [], [4, 5], [4, 5, 6], (List.range 8)], [], [], [], false, []⟩
  | _, _ => ⟨[], [], [], [], [], false, []⟩
noncomputable def watershedkit_SameBytes_tb : List (CE CT Try.prog) := []
noncomputable def watershedkit_SameBytes_l1 (a : ((List (UInt8)) × (List (UInt8)) × (Int) × Unit) × (Unit)) : Option ((((List (UInt8)) × (List (UInt8)) × (Int) × Unit) × (Unit)) ⊕ ((((Bool) × Unit) × (Unit)) ⊕ ((Unit) × (Unit)))) :=
  (bif (decide ((a.1.2.2.1 : Int) < (a.1.1.length : Int))) then
  (getI a.1.1 a.1.2.2.1).bind fun e1 =>
  (getI a.1.2.1 a.1.2.2.1).bind fun e2 =>
  (bif (decide (((e1.toNat : Int) : Int) ≠ (e2.toNat : Int))) then
  some (.inr (.inl ((false, ()), ())))
  else
  some (.inl ((a.1.1, a.1.2.1, (IntKind.i64.wrap (a.1.2.2.1 + 1)), ()), ())))
  else
  some (.inr (.inr ((), ()))))
noncomputable def watershedkit_SameBytes_e1 : LE CT Try.prog := ⟨4, [0, 1, 5], [.one (.sl 1), .one (.sl 1), .one (.int .i64)], [], [⟨.ret, [4], [.one (.bool)], []⟩, ⟨.exit 0, [], [], []⟩], watershedkit_SameBytes_l1⟩
noncomputable def watershedkit_SameBytes_lt : List (LE CT Try.prog) := [watershedkit_SameBytes_e1]
theorem watershedkit_SameBytes_e1_ok : LeOk watershedkit_SameBytes_e1 (nthL (bodyOf Try.f15) 0) := fun A env h k z hk => le_ok (E := watershedkit_SameBytes_e1) (orcOf_ok watershedkit_SameBytes_tb) (dr := watershedkit_SameBytes_dr) (lps := lpsOf watershedkit_SameBytes_lt) (no_loop (by kernel_rfl)) (fun a => by kernel_rfl) env h k z hk
noncomputable def watershedkit_SameBytes (x0 : List (UInt8)) (x1 : List (UInt8)) : Option ((Bool) × (Unit)) :=
  (bif (decide (((x0.length : Int) : Int) ≠ (x1.length : Int))) then
  some (false, ())
  else
  (loopM watershedkit_SameBytes_l1 ((x0, x1, 0, ()), ())).bind fun b1 =>
  (match b1 with
  | .inl b2 =>
  some (b2.1.1, ())
  | .inr b3 =>
  some (true, ())))
noncomputable def watershedkit_SameBytes_ce : CE CT Try.prog where
  f := 15
  args := [.one (.sl 1), .one (.sl 1)]
  hs := []
  res := .val (.one (.bool))
  outs := []
  m := fun d dh => watershedkit_SameBytes d.1 d.2.1
  ok := ce_ok mixedP Try.func15 (by kernel_rfl) (orcOf_ok watershedkit_SameBytes_tb) (dr := watershedkit_SameBytes_dr) (lps := lpsOf watershedkit_SameBytes_lt) (lps_fn (lps_of (n := 1) (by kernel_rfl) fun i hi => match i, hi with | 0, _ => lp_ok (E := watershedkit_SameBytes_e1) (by kernel_rfl) watershedkit_SameBytes_e1_ok)) (fun d dh => by kernel_rfl)

def watershedlaw03_same_dr : Nat → Nat → DrA
  | 6, _ => ⟨[0, 1, 2, 3, 5, 6, 7, 8, 4, 9, 10, 11, 12, 13, 14, 15, 17, 18, 19, 20, 16, 21, 22, 23, 24], [[], [], [0, 1], [0, 1, 2], [0, 1, 2, 3], [], [], [5, 6], [5, 6, 7], [5, 6, 7, 8], (List.range 10), (List.range 11), (List.range 12), (List.range 12), (List.range 14), (List.range 15), (List.range 16), (List.range 12), (List.range 12), (List.range 12 ++ [17, 18]), (List.range 12 ++ [17, 18, 19]), (List.range 12 ++ [17, 18, 19, 20]), (List.range 22), (List.range 23), (List.range 24)], [], [], [], false, []⟩
  | _, _ => ⟨[], [], [], [], [], false, []⟩
noncomputable def watershedlaw03_same_tb : List (CE CT Try.prog) := [watershedkit_SameBytes_ce]
noncomputable def watershedlaw03_same_l1 (a : ((List (DFrame)) × (List (DFrame2)) × (Int) × Unit) × (Unit)) : Option ((((List (DFrame)) × (List (DFrame2)) × (Int) × Unit) × (Unit)) ⊕ ((((Bool) × Unit) × (Unit)) ⊕ ((Unit) × (Unit)))) :=
  (bif (decide ((a.1.2.2.1 : Int) < (a.1.1.length : Int))) then
  (getI a.1.1 a.1.2.2.1).bind fun e1 =>
  (getI a.1.2.1 a.1.2.2.1).bind fun e2 =>
  (bif (decide ((e1.kind : Int) ≠ e2.kind)) then
  some (.inr (.inl ((false, ()), ())))
  else
  (getI a.1.1 a.1.2.2.1).bind fun e3 =>
  (getI a.1.2.1 a.1.2.2.1).bind fun e4 =>
  (watershedkit_SameBytes e3.data e4.data).bind fun r5 =>
  (bif (!r5.1) then
  some (.inr (.inl ((false, ()), ())))
  else
  some (.inl ((a.1.1, a.1.2.1, (IntKind.i64.wrap (a.1.2.2.1 + 1)), ()), ()))))
  else
  some (.inr (.inr ((), ()))))
noncomputable def watershedlaw03_same_e1 : LE CT Try.prog := ⟨4, [0, 1, 5], [.one (.sl 6), .one (.sl 7), .one (.int .i64)], [], [⟨.ret, [4], [.one (.bool)], []⟩, ⟨.exit 0, [], [], []⟩], watershedlaw03_same_l1⟩
noncomputable def watershedlaw03_same_lt : List (LE CT Try.prog) := [watershedlaw03_same_e1]
theorem watershedlaw03_same_e1_ok : LeOk watershedlaw03_same_e1 (nthL (bodyOf Try.f16) 0) := fun A env h k z hk => le_ok (E := watershedlaw03_same_e1) (orcOf_ok watershedlaw03_same_tb) (dr := watershedlaw03_same_dr) (lps := lpsOf watershedlaw03_same_lt) (no_loop (by kernel_rfl)) (fun a => by kernel_rfl) env h k z hk
noncomputable def watershedlaw03_same (x0 : List (DFrame)) (x1 : List (DFrame2)) : Option ((Bool) × (Unit)) :=
  (bif (decide (((x0.length : Int) : Int) ≠ (x1.length : Int))) then
  some (false, ())
  else
  (loopM watershedlaw03_same_l1 ((x0, x1, 0, ()), ())).bind fun b1 =>
  (match b1 with
  | .inl b2 =>
  some (b2.1.1, ())
  | .inr b3 =>
  some (true, ())))
noncomputable def watershedlaw03_same_ce : CE CT Try.prog where
  f := 16
  args := [.one (.sl 6), .one (.sl 7)]
  hs := []
  res := .val (.one (.bool))
  outs := []
  m := fun d dh => watershedlaw03_same d.1 d.2.1
  ok := ce_ok mixedP Try.func16 (by kernel_rfl) (orcOf_ok watershedlaw03_same_tb) (dr := watershedlaw03_same_dr) (lps := lpsOf watershedlaw03_same_lt) (lps_fn (lps_of (n := 1) (by kernel_rfl) fun i hi => match i, hi with | 0, _ => lp_ok (E := watershedlaw03_same_e1) (by kernel_rfl) watershedlaw03_same_e1_ok)) (fun d dh => by kernel_rfl)

def watershedkit_KeptBytes_dr : Nat → Nat → DrA
  | 7, _ => ⟨(List.range 8 ++ [9, 10, 11, 8, 12, 13, 14, 15, 16, 17, 18, 19, 20, 21, 22, 23, 24, 26, 27, 28, 29, 25, 30, 31, 32, 33, 34]), [[], [], [1], [0, 1, 2], [0, 1, 2, 3], (List.range 5), (List.range 5), (List.range 7), (List.range 8), (List.range 5), (List.range 5), (List.range 5 ++ [9, 10]), (List.range 5 ++ [9, 10, 11]), (List.range 13), (List.range 14), (List.range 15), (List.range 16), (List.range 17), (List.range 17), (List.range 17 ++ [18]), (List.range 20), (List.range 21), (List.range 22), (List.range 22), (List.range 24), (List.range 25), (List.range 22), (List.range 22), (List.range 22 ++ [27]), (List.range 22 ++ [26, 27, 28]), (List.range 22 ++ [26, 27, 28, 29]), (List.range 31), (List.range 32), (List.range 33), (List.range 34)], [25], [30], [], false, []⟩
  | _, _ => ⟨[], [], [], [], [], false, []⟩
noncomputable def watershedkit_KeptBytes_tb : List (CE CT Try.prog) := [watershedkit_markByte_ce]
noncomputable def watershedkit_KeptBytes_l1 (a : ((List (UInt8)) × (List (UInt8)) × (Int) × Unit) × (Unit)) : Option ((((List (UInt8)) × (List (UInt8)) × (Int) × Unit) × (Unit)) ⊕ ((((Bool) × Unit) × (Unit)) ⊕ ((Unit) × (Unit)))) :=
  (bif (decide ((a.1.2.2.1 : Int) < (a.1.2.1.length : Int))) then
  (bif (decide ((a.1.2.2.1 : Int) < (a.1.1.length : Int))) then
  (getI a.1.2.1 a.1.2.2.1).bind fun e1 =>
  (getI a.1.1 a.1.2.2.1).bind fun e2 =>
  (bif (!(decide (((e1.toNat : Int) : Int) = (e2.toNat : Int)))) then
  some (.inr (.inl ((false, ()), ())))
  else
  (bif (decide (((a.1.1.length : Int) : Int) ≤ a.1.2.2.1)) then
  (getI a.1.2.1 a.1.2.2.1).bind fun e3 =>
  (watershedkit_markByte 1 (IntKind.i64.wrap (a.1.2.2.1 - (a.1.1.length : Int)))).bind fun r4 =>
  (bif (!(decide (((e3.toNat : Int) : Int) = r4.1))) then
  some (.inr (.inl ((false, ()), ())))
  else
  some (.inl ((a.1.1, a.1.2.1, (IntKind.i64.wrap (a.1.2.2.1 + 1)), ()), ())))
  else
  some (.inl ((a.1.1, a.1.2.1, (IntKind.i64.wrap (a.1.2.2.1 + 1)), ()), ()))))
  else
  (bif (decide (((a.1.1.length : Int) : Int) ≤ a.1.2.2.1)) then
  (getI a.1.2.1 a.1.2.2.1).bind fun e5 =>
  (watershedkit_markByte 1 (IntKind.i64.wrap (a.1.2.2.1 - (a.1.1.length : Int)))).bind fun r6 =>
  (bif (!(decide (((e5.toNat : Int) : Int) = r6.1))) then
  some (.inr (.inl ((false, ()), ())))
  else
  some (.inl ((a.1.1, a.1.2.1, (IntKind.i64.wrap (a.1.2.2.1 + 1)), ()), ())))
  else
  some (.inl ((a.1.1, a.1.2.1, (IntKind.i64.wrap (a.1.2.2.1 + 1)), ()), ()))))
  else
  some (.inr (.inr ((), ()))))
noncomputable def watershedkit_KeptBytes_e1 : LE CT Try.prog := ⟨5, [1, 5, 6], [.one (.sl 1), .one (.sl 1), .one (.int .i64)], [], [⟨.ret, [4], [.one (.bool)], []⟩, ⟨.exit 0, [], [], []⟩], watershedkit_KeptBytes_l1⟩
noncomputable def watershedkit_KeptBytes_lt : List (LE CT Try.prog) := [watershedkit_KeptBytes_e1]
theorem watershedkit_KeptBytes_e1_ok : LeOk watershedkit_KeptBytes_e1 (nthL (bodyOf Try.f17) 0) := fun A env h k z hk => le_ok (E := watershedkit_KeptBytes_e1) (orcOf_ok watershedkit_KeptBytes_tb) (dr := watershedkit_KeptBytes_dr) (lps := lpsOf watershedkit_KeptBytes_lt) (no_loop (by kernel_rfl)) (fun a => by kernel_rfl) env h k z hk
noncomputable def watershedkit_KeptBytes (x0 : List (UInt8) × List (UInt8)) (x1 : List (UInt8)) : Option ((Bool) × (Unit)) :=
  (bif (decide (((x0.1.length : Int) : Int) ≠ (x1.length : Int))) then
  some (false, ())
  else
  (if 0 ≤ ((0 : Int) : Int) ∧ ((0 : Int) : Int) ≤ (IntKind.i64.wrap ((x1.length : Int) + 12)) ∧ (IntKind.i64.wrap ((x1.length : Int) + 12)) ≤ ((x0.1 ++ x0.2).length : Int) then
  let y1 : List (UInt8) := (((x0.1 ++ x0.2).drop ((0 : Int) : Int).toNat).take (((IntKind.i64.wrap ((x1.length : Int) + 12)) : Int).toNat - ((0 : Int) : Int).toNat))
  (loopM watershedkit_KeptBytes_l1 ((x1, y1, 0, ()), ())).bind fun b2 =>
  (match b2 with
  | .inl b3 =>
  some (b3.1.1, ())
  | .inr b4 =>
  some (true, ()))
  else none))
noncomputable def watershedkit_KeptBytes_ce : CE CT Try.prog where
  f := 17
  args := [.one (.slx 1), .one (.sl 1)]
  hs := []
  res := .val (.one (.bool))
  outs := []
  m := fun d dh => watershedkit_KeptBytes d.1 d.2.1
  ok := ce_ok mixedP Try.func17 (by kernel_rfl) (orcOf_ok watershedkit_KeptBytes_tb) (dr := watershedkit_KeptBytes_dr) (lps := lpsOf watershedkit_KeptBytes_lt) (lps_fn (lps_of (n := 1) (by kernel_rfl) fun i hi => match i, hi with | 0, _ => lp_ok (E := watershedkit_KeptBytes_e1) (by kernel_rfl) watershedkit_KeptBytes_e1_ok)) (fun d dh => by kernel_rfl)

def watershedlaw03_awake_dr : Nat → Nat → DrA
  | _, _ => ⟨[], [], [], [], [], false, []⟩
noncomputable def watershedlaw03_awake_tb : List (CE CT Try.prog) := [frame_Put_ce, sumT_ce, watershedkit_SameBytes_ce]
noncomputable def watershedlaw03_awake_lt : List (LE CT Try.prog) := []
noncomputable def watershedlaw03_awake  : Option ((Bool) × (Unit)) :=
  (frame_Put ([(⟨7, []⟩ : DFrame)] : List (DFrame))).bind fun r1 =>
  (b8 0).bind fun u2 =>
  (b8 0).bind fun u3 =>
  (b8 0).bind fun u4 =>
  (b8 0).bind fun u5 =>
  (b8 7).bind fun u6 =>
  (sumT ([([u2, u3, u4, u5, u6] : List (UInt8))] : List (List (UInt8)))).bind fun r7 =>
  (bif (decide ((r1.1.2.1 : Int) = 0)) then
  (bif (decide ((r7.1 : Int) ≠ 0)) then
  (b8 0).bind fun u8 =>
  (b8 0).bind fun u9 =>
  (b8 0).bind fun u10 =>
  (b8 0).bind fun u11 =>
  (b8 7).bind fun u12 =>
  (b8 (IntKind.u8.wrap r7.1)).bind fun u13 =>
  (b8 (IntKind.u8.wrap ((r7.1 : Int).fdiv (2 ^ min (8 : Int).toNat (IntKind.u32.bits))))).bind fun u14 =>
  (b8 (IntKind.u8.wrap ((r7.1 : Int).fdiv (2 ^ min (16 : Int).toNat (IntKind.u32.bits))))).bind fun u15 =>
  (b8 (IntKind.u8.wrap ((r7.1 : Int).fdiv (2 ^ min (24 : Int).toNat (IntKind.u32.bits))))).bind fun u16 =>
  (watershedkit_SameBytes r1.1.1 ([u8, u9, u10, u11, u12, u13, u14, u15, u16] : List (UInt8))).bind fun r17 =>
  some (r17.1, ())
  else
  some (false, ()))
  else
  some (false, ()))
noncomputable def watershedlaw03_awake_ce : CE CT Try.prog where
  f := 8
  args := []
  hs := []
  res := .val (.one (.bool))
  outs := []
  m := fun d dh => watershedlaw03_awake
  ok := ce_ok mixedP Try.func8 (by kernel_rfl) (orcOf_ok watershedlaw03_awake_tb) (dr := watershedlaw03_awake_dr) (lps := lpsOf watershedlaw03_awake_lt) (lps_fn (no_loop (by kernel_rfl))) (fun d dh => by kernel_rfl)
end Go.Proofs.Ytklmbkkeiihgdaa
