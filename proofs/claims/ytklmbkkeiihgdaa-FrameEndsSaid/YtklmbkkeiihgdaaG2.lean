/- The laws. -/
import Derived.Test.YtklmbkkeiihgdaaMc
namespace Go.Proofs.Ytklmbkkeiihgdaa
open Go.RowKit
set_option maxRecDepth 100000
set_option linter.unusedVariables false
noncomputable def sumT_a (x0 : Nat × Nat × Nat) (h0 : List (List UInt8)) : Option (Int × ((List (List UInt8)) × Unit)) := if x0.1 + x0.2.1 ≤ h0.length then (sumT ((h0.drop x0.1).take x0.2.1)).bind fun r => some (r.1, (h0, ())) else none
theorem sumT_a_tr {U : Nat → Prop} (d : VsD Ty [.one (.as 3 0)]) (dh : HsD Ty [.arr 23 3 true]) (r : Int × ((List (List UInt8)) × Unit)) (hr : sumT_a d.1 dh.1 = some r) : Tr CT Try.prog U 22 (stVs CT [.one (.as 3 0)] d) (stHs CT [.arr 23 3 true] dh) (.int .u32 r.1) (stHs CT [.arr 23 3 true] r.2) := by
  unfold sumT_a at hr
  split at hr
  · rename_i hc
    obtain ⟨⟨g, u⟩, h1, h2⟩ := bind_some' hr
    injection h2 with h2
    subst h2
    have := sumT_ce.ok ((dh.1.drop d.1.1).take d.1.2.1, ()) () (g, u) h1
    exact Tr.lend (h := [.arr 23 3 true dh.1]) this (by
      show (Nat.beq 3 3 && Nat.ble (d.1.1 + d.1.2.1) dh.1.length && true) = true
      rw [Nat.beq_refl, Nat.ble_eq_true_of_le hc]; rfl) rfl
  · cases hr
noncomputable def sumT_a_ce : CE CT Try.prog where
  f := 22
  args := [.one (.as 3 0)]
  hs := [.arr 23 3 true]
  res := .val (.one (.int .u32))
  outs := [.arr 23 3 true]
  m := fun d dh => sumT_a d.1 dh.1
  ok := fun d dh r hr => sumT_a_tr d dh r hr
  ro := true
  roOk := fun _ d dh r hr => sumT_a_tr d dh r hr

noncomputable def frameTells (x0 : List DFrame) (x1 : List UInt8) : Option (Bool × Unit) := open Classical in if x0.length ≤ 140737488355328 ∧ (∀ f ∈ x0, f.data.length ≤ 140737488355328) ∧ x1.length ≤ 140737488355328 then some (true, ()) else none
noncomputable def frameTells_ce : CE CT Try.prog where
  f := 3
  args := [.one (.sl 6), .one (.sl 1)]
  hs := []
  res := .val (.one .bool)
  outs := []
  m := fun d dh => frameTells d.1 d.2.1
  ok := fun d dh r hr => by
    unfold frameTells at hr
    split at hr
    · rename_i hc
      injection hr with hr
      subst hr
      exact frameTells_tr d.1 d.2.1 hc.1 hc.2.1 hc.2.2
    · cases hr

noncomputable def frameTells_a (x0 : List DFrame) (x1 : Nat × Nat × Nat) (h0 : List UInt8) : Option (Bool × (List UInt8 × Unit)) := if x1.1 + x1.2.1 ≤ h0.length then (frameTells x0 ((h0.drop x1.1).take x1.2.1)).bind fun r => some (r.1, (h0, ())) else none
theorem frameTells_a_tr {U : Nat → Prop} (d : VsD Ty [.one (.sl 6), .one (.as 1 0)]) (dh : HsD Ty [.arr 5 1 true]) (r : Bool × (List UInt8 × Unit)) (hr : frameTells_a d.1 d.2.1 dh.1 = some r) : Tr CT Try.prog U 3 (stVs CT [.one (.sl 6), .one (.as 1 0)] d) (stHs CT [.arr 5 1 true] dh) (.bool r.1) (stHs CT [.arr 5 1 true] r.2) := by
  unfold frameTells_a at hr
  split at hr
  · rename_i hc
    obtain ⟨⟨g, u⟩, h1, h2⟩ := bind_some' hr
    injection h2 with h2
    subst h2
    have := frameTells_ce.ok (d.1, ((dh.1.drop d.2.1.1).take d.2.1.2.1), ()) () (g, u) h1
    exact Tr.lend (h := [.arr 5 1 true dh.1]) this (by
      show (true && (Nat.beq 1 1 && Nat.ble (d.2.1.1 + d.2.1.2.1) dh.1.length && true)) = true
      rw [Nat.beq_refl, Nat.ble_eq_true_of_le hc]; rfl) rfl
  · cases hr
noncomputable def frameTells_a_ce : CE CT Try.prog where
  f := 3
  args := [.one (.sl 6), .one (.as 1 0)]
  hs := [.arr 5 1 true]
  res := .val (.one .bool)
  outs := [.arr 5 1 true]
  m := fun d dh => frameTells_a d.1 d.2.1 dh.1
  ok := fun d dh r hr => frameTells_a_tr d dh r hr
  ro := true
  roOk := fun _ d dh r hr => frameTells_a_tr d dh r hr

noncomputable def frameTells_z (x0 : List DFrame) (x1 : Nat) (h0 : List UInt8) : Option (Bool × (List UInt8 × Unit)) := if 0 + x1 ≤ h0.length then (frameTells x0 ((h0.drop 0).take x1)).bind fun r => some (r.1, (h0, ())) else none
theorem frameTells_z_tr {U : Nat → Prop} (d : VsD Ty [.one (.sl 6), .one (.asz 1 0)]) (dh : HsD Ty [.arr 5 1 true]) (r : Bool × (List UInt8 × Unit)) (hr : frameTells_z d.1 d.2.1 dh.1 = some r) : Tr CT Try.prog U 3 (stVs CT [.one (.sl 6), .one (.asz 1 0)] d) (stHs CT [.arr 5 1 true] dh) (.bool r.1) (stHs CT [.arr 5 1 true] r.2) := by
  unfold frameTells_z at hr
  split at hr
  · rename_i hc
    obtain ⟨⟨g, u⟩, h1, h2⟩ := bind_some' hr
    injection h2 with h2
    subst h2
    have := frameTells_ce.ok (d.1, ((dh.1.drop 0).take d.2.1), ()) () (g, u) h1
    exact Tr.lend (h := [.arr 5 1 true dh.1]) this (by
      show (true && (Nat.beq 1 1 && Nat.ble (0 + d.2.1) dh.1.length && true)) = true
      rw [Nat.beq_refl, Nat.ble_eq_true_of_le hc]; rfl) rfl
  · cases hr
noncomputable def frameTells_z_ce : CE CT Try.prog where
  f := 3
  args := [.one (.sl 6), .one (.asz 1 0)]
  hs := [.arr 5 1 true]
  res := .val (.one .bool)
  outs := [.arr 5 1 true]
  m := fun d dh => frameTells_z d.1 d.2.1 dh.1
  ok := fun d dh r hr => frameTells_z_tr d dh r hr
  ro := true
  roOk := fun _ d dh r hr => frameTells_z_tr d dh r hr

noncomputable def clone37 (x : List (UInt8)) : Option ((List (UInt8)) × (Unit × Unit)) :=
  if x.length ≤ 140737488355328 ∧ x.length * 1 ≤ 140737488355328 then some (x, ((), ())) else none
noncomputable def clone37_ce : CE CT Try.prog where
  f := 37
  args := [.one (.sl 1)]
  hs := []
  res := .val (.one (.own 1 0))
  outs := [.row 5 1]
  m := fun d dh => clone37 d.1
  ok := fun d dh r hr => by
    unfold clone37 at hr
    split at hr
    · rename_i hroom
      injection hr with hr
      subst hr
      exact clone_tr mixedP Try.func37 (by kernel_rfl) rfl rfl (zv := .int .u8 0) (he := by kernel_rfl) (hsz := by kernel_rfl) (hz := by kernel_rfl) (hby := by kernel_rfl) rfl rfl d.1 hroom
    · cases hr

def frame_next_dr : Nat → Nat → DrA
  | 6, _ => ⟨[0, 1, 2, 3, 8, 9, 10, 11, 13, 14, 4, 5, 6, 7, 12, 15, 16, 17, 18, 19], [[], [0], [0, 1], [0, 1, 2], [0, 1, 2, 3], (List.range 5), (List.range 6), (List.range 7), [], [8], [8, 9], [8, 9, 10], [8, 9, 10, 11], [], [13], [8, 9, 10, 11, 12, 13, 14], [8, 9, 10, 11, 12, 13, 14, 15], (List.range 17), [], (List.range 19)], [4, 6], [16], [0], false, []⟩
  | 7, _ => ⟨[0, 1, 2, 4, 5, 6, 7, 10, 8, 9, 11, 3, 12, 13, 14], [[], [0], [0, 1], [0, 1, 2], [], [4], [4, 5], [4, 5, 6], [4, 5, 6, 7], [4, 5, 6, 7, 8], [], [10], [4, 5, 6, 7, 8, 9, 10, 11], (List.range 13), (List.range 14)], [8, 11], [3], [0, 3], false, [12]⟩
  | 9, _ => ⟨(List.range 6 ++ [7, 8, 10, 11, 12, 15, 6, 9, 13, 14, 16, 17, 18, 19, 20, 21, 22, 23]), [[], [], [], [2], [2, 3], [2, 3, 4], [2, 3, 4, 5], [], [7], [2, 3, 4, 5, 6, 7, 8], [], [10], [10, 11], [10, 11, 12], [10, 11, 12, 13], [], [10, 11, 12, 13, 14, 15], [0, 2, 3, 4, 5, 6, 7, 8, 9, 10, 11, 12, 13], [0, 2, 3, 4, 5, 6, 7, 8, 9, 10, 11, 12, 13, 17], [0, 2, 3, 4, 5, 6, 7, 8, 9, 10, 11, 12, 13, 17, 18], [0, 2, 3, 4, 5, 6, 7, 8, 9, 10, 11, 12, 13, 17, 18, 19], (List.range 21), (List.range 22), (List.range 23)], [], [], [], false, []⟩
  | _, _ => ⟨[], [], [], [], [], false, []⟩
noncomputable def frame_next_tb : List (CE CT Try.prog) := [numberT_ce, clone37_ce, sumT_a_ce]
noncomputable def frame_next_lt : List (LE CT Try.prog) := []
noncomputable def frame_next (h0 : DReader) : Option (((DFrame) × (Bool) × Unit) × ((DReader) × Unit)) :=
  (bif (decide (((h0.rest.b.length : Int) : Int) < 9)) then
  some (((⟨0, []⟩ : DFrame), false, ()), (h0, ()))
  else
  (numberT 0 h0).bind fun r1 =>
  (bif (decide ((262144 : Int) < (IntKind.i64.wrap r1.1))) then
  some (((⟨0, []⟩ : DFrame), false, ()), (r1.2.1, ()))
  else
  (bif (decide (((IntKind.i64.wrap ((r1.2.1.rest.b.length : Int) - 9)) : Int) < (IntKind.i64.wrap r1.1))) then
  some (((⟨0, []⟩ : DFrame), false, ()), (r1.2.1, ()))
  else
  (getI r1.2.1.rest.b 4).bind fun e2 =>
  (if 0 ≤ (9 : Int) ∧ (9 : Int) ≤ (IntKind.i64.wrap (9 + (IntKind.i64.wrap r1.1))) ∧ (IntKind.i64.wrap (9 + (IntKind.i64.wrap r1.1))) ≤ (r1.2.1.rest.b.length : Int) then
  let y3 : List (UInt8) := ((r1.2.1.rest.b.drop (9 : Int).toNat).take (((IntKind.i64.wrap (9 + (IntKind.i64.wrap r1.1))) : Int).toNat - (9 : Int).toNat))
  (clone37 y3).bind fun r4 =>
  (if 0 ≤ ((0 : Int) : Int) ∧ ((0 : Int) : Int) ≤ 5 ∧ 5 ≤ (r1.2.1.rest.b.length : Int) then
  let y5 : List (UInt8) := ((r1.2.1.rest.b.drop ((0 : Int) : Int).toNat).take ((5 : Int).toNat - ((0 : Int) : Int).toNat))
  (numberT 5 r1.2.1).bind fun r6 =>
  (sumT_a (0, 2, 2) ([y5, r4.1] : List (List (UInt8)))).bind fun r7 =>
  (bif (decide ((r6.1 : Int) ≠ r7.1)) then
  some (((⟨0, []⟩ : DFrame), false, ()), (r6.2.1, ()))
  else
  (if 0 ≤ ((IntKind.i64.wrap (9 + (IntKind.i64.wrap r1.1))) : Int) ∧ ((IntKind.i64.wrap (9 + (IntKind.i64.wrap r1.1))) : Int) ≤ (r6.2.1.rest.b.length : Int) ∧ (r6.2.1.rest.b.length : Int) ≤ (r6.2.1.rest.b.length : Int) then
  let y8 : List (UInt8) := ((r6.2.1.rest.b.drop ((IntKind.i64.wrap (9 + (IntKind.i64.wrap r1.1))) : Int).toNat).take (((r6.2.1.rest.b.length : Int) : Int).toNat - ((IntKind.i64.wrap (9 + (IntKind.i64.wrap r1.1))) : Int).toNat))
  let y9 : Int := (IntKind.i64.wrap ((IntKind.i64.wrap (r6.2.1.at_ + 9)) + (IntKind.i64.wrap r1.1)))
  some (((⟨(IntKind.i64.wrap (e2.toNat : Int)), r4.1⟩ : DFrame), true, ()), ((⟨(⟨y8⟩ : DRest), y9⟩ : DReader), ()))
  else none))
  else none)
  else none))))
noncomputable def frame_next_ce : CE CT Try.prog where
  f := 27
  args := [.one (.ptr 0 0)]
  hs := [.cobj 61 5]
  res := .tup [.cod 6, .one (.bool)]
  outs := [.cobj 61 5]
  m := fun d dh => frame_next dh.1
  ok := ce_ok mixedP Try.func27 (by kernel_rfl) (orcOf_ok frame_next_tb) (dr := frame_next_dr) (lps := lpsOf frame_next_lt) (lps_fn (no_loop (by kernel_rfl))) (fun d dh => by kernel_rfl)

def frame_Get_dr : Nat → Nat → DrA
  | 5, _ => ⟨[0, 1, 2, 3, 5, 4, 6], [[], [], [1], [1, 2], [1, 2, 3], [0], (List.range 6)], [], [], [], false, []⟩
  | _, _ => ⟨[], [], [], [], [], false, []⟩
noncomputable def frame_Get_tb : List (CE CT Try.prog) := [frame_next_ce]
noncomputable def frame_Get_l1 (a : ((List (DFrame)) × (Unit) × Unit) × ((DReader) × (Unit) × Unit)) : Option ((((List (DFrame)) × (Unit) × Unit) × ((DReader) × (Unit) × Unit)) ⊕ ((((List (DFrame)) × (Int) × Unit) × ((DReader) × (Unit) × (Unit) × Unit)))) :=
  (frame_next a.2.1).bind fun r1 =>
  (bif (!r1.1.2.1) then
  some (.inr ((a.1.1, r1.2.1.at_, ()), (r1.2.1, (), (), ())))
  else
  (if a.1.1.length + ([r1.1.1] : List (DFrame)).length ≤ 140737488355328 ∧ (a.1.1.length + ([r1.1.1] : List (DFrame)).length) * 32 ≤ 140737488355328 then
  some (.inl (((a.1.1 ++ ([r1.1.1] : List (DFrame))), (), ()), (r1.2.1, (), ())))
  else none))
noncomputable def frame_Get_e1 : LE CT Try.prog := ⟨3, [4, 5], [.one (.own 6 1), .one (.ptr 0 0)], [.cobj 61 5, .row 28 2], [⟨.ret, [2, 3], [.one (.own 6 2), .one (.int .i64)], [.cobj 61 5, .dead, .row 28 2]⟩], frame_Get_l1⟩
noncomputable def frame_Get_lt : List (LE CT Try.prog) := [frame_Get_e1]
theorem frame_Get_e1_ok : LeOk frame_Get_e1 (nthL (bodyOf Try.f13) 0) := fun A env h k z hk => le_ok (E := frame_Get_e1) (orcOf_ok frame_Get_tb) (dr := frame_Get_dr) (lps := lpsOf frame_Get_lt) (no_loop (by kernel_rfl)) (fun a => by kernel_rfl) env h k z hk
noncomputable def frame_Get (x0 : List (UInt8)) : Option (((List (DFrame)) × (Int) × Unit) × ((Unit) × Unit)) :=
  (loopM frame_Get_l1 (([], (), ()), ((⟨(⟨x0⟩ : DRest), 0⟩ : DReader), (), ()))).bind fun b1 =>
  some ((b1.1.1, b1.1.2.1, ()), ((), ()))
noncomputable def frame_Get_ce : CE CT Try.prog where
  f := 13
  args := [.one (.sl 1)]
  hs := []
  res := .tup [.one (.own 6 0), .one (.int .i64)]
  outs := [.row 28 2]
  m := fun d dh => frame_Get d.1
  ok := ce_ok mixedP Try.func13 (by kernel_rfl) (orcOf_ok frame_Get_tb) (dr := frame_Get_dr) (lps := lpsOf frame_Get_lt) (lps_fn (lps_of (n := 1) (by kernel_rfl) fun i hi => match i, hi with | 0, _ => lp_ok (E := frame_Get_e1) (by kernel_rfl) frame_Get_e1_ok)) (fun d dh => by kernel_rfl)

def watershedlaw03_FrameEnds_dr : Nat → Nat → DrA
  | 4, _ => ⟨[], [], [], [], [], true, []⟩
  | 11, _ => ⟨[2, 3, 4, 6, 7, 8, 9, 5, 10, 0, 1, 11, 12], [[], [0], [], [], [2, 3], [2, 3, 4], [], [], [7], [6, 7, 8], [2, 3, 4, 5, 6, 7, 8, 9], (List.range 11), (List.range 12)], [], [], [], false, []⟩
  | 25, _ => ⟨[], [], [], [], [], true, []⟩
  | _, _ => ⟨[], [], [], [], [], false, []⟩
noncomputable def watershedlaw03_FrameEnds_tb : List (CE CT Try.prog) := [watershedlaw03_awake_ce, frame_Put_ce, watershedlaw03_turned_ce, watershedref03_Put_ce, watershedkit_SameBytes_ce, frameTells_ce, frameTells_a_ce, frameTells_z_ce, refOne_ce, frame_Get_ce]
noncomputable def watershedlaw03_FrameEnds_l2 (a : ((List (Int)) × (List (UInt8)) × (Int) × (Int) × Unit) × ((Unit) × Unit)) : Option ((((List (Int)) × (List (UInt8)) × (Int) × (Int) × Unit) × ((Unit) × Unit)) ⊕ ((((Bool) × Unit) × ((Unit) × Unit)) ⊕ (((List (Int)) × (List (UInt8)) × (Int) × Unit) × ((Unit) × (Unit) × Unit)))) :=
  (bif (decide ((a.1.2.2.2.1 : Int) < 2)) then
  (getI a.1.1 a.1.2.2.1).bind fun e1 =>
  (if 0 ≤ ((0 : Int) : Int) ∧ ((0 : Int) : Int) ≤ (IntKind.i64.wrap (262144 + a.1.2.2.2.1)) ∧ (IntKind.i64.wrap (262144 + a.1.2.2.2.1)) ≤ (a.1.2.1.length : Int) then
  let y2 : List (UInt8) := ((a.1.2.1.drop ((0 : Int) : Int).toNat).take (((IntKind.i64.wrap (262144 + a.1.2.2.2.1)) : Int).toNat - ((0 : Int) : Int).toNat))
  (b8 1).bind fun u3 =>
  (b8 2).bind fun u4 =>
  let y5 : List (DFrame) := ([(⟨3, ([u3, u4] : List (UInt8))⟩ : DFrame), (⟨e1, y2⟩ : DFrame)] : List (DFrame))
  (frame_Put y5).bind fun r6 =>
  (watershedlaw03_turned y5).bind fun r7 =>
  (watershedref03_Put r7.1).bind fun r8 =>
  (bif (decide ((r6.1.2.1 : Int) ≠ r8.1.2.1)) then
  some (.inr (.inl ((false, ()), ((), ()))))
  else
  (watershedkit_SameBytes r6.1.1 r8.1.1).bind fun r9 =>
  (bif (!r9.1) then
  some (.inr (.inl ((false, ()), ((), ()))))
  else
  some (.inl ((a.1.1, a.1.2.1, a.1.2.2.1, (IntKind.i64.wrap (a.1.2.2.2.1 + 1)), ()), ((), ())))))
  else none)
  else
  some (.inr (.inr ((a.1.1, a.1.2.1, a.1.2.2.1, ()), ((), (), ())))))
noncomputable def watershedlaw03_FrameEnds_e2 : LE CT Try.prog := ⟨9, [1, 2, 3, 4], [.one (.own 0 0), .one (.sl 1), .one (.int .i64), .one (.int .i64)], [.row 3 1], [⟨.ret, [0], [.one (.bool)], [.dead]⟩, ⟨.exit 2, [1, 2, 3], [.one (.own 0 1), .one (.sl 1), .one (.int .i64)], [.dead, .row 3 1]⟩], watershedlaw03_FrameEnds_l2⟩
noncomputable def watershedlaw03_FrameEnds_l1 (a : ((List (Int)) × (List (UInt8)) × (Int) × Unit) × ((Unit) × Unit)) : Option ((((List (Int)) × (List (UInt8)) × (Int) × Unit) × ((Unit) × Unit)) ⊕ ((((Bool) × Unit) × ((Unit) × Unit)) ⊕ (((List (UInt8)) × Unit) × ((Unit) × Unit)))) :=
  (bif (decide ((a.1.2.2.1 : Int) < (a.1.1.length : Int))) then
  (loopM watershedlaw03_FrameEnds_l2 ((a.1.1, a.1.2.1, a.1.2.2.1, 0, ()), ((), ()))).bind fun b1 =>
  (match b1 with
  | .inl b2 =>
  some (.inr (.inl ((b2.1.1, ()), ((), ()))))
  | .inr b3 =>
  some (.inl ((b3.1.1, b3.1.2.1, (IntKind.i64.wrap (b3.1.2.2.1 + 1)), ()), ((), ()))))
  else
  some (.inr (.inr ((a.1.2.1, ()), ((), ())))))
noncomputable def watershedlaw03_FrameEnds_e1 : LE CT Try.prog := ⟨6, [1, 2, 3], [.one (.own 0 0), .one (.sl 1), .one (.int .i64)], [.row 3 1], [⟨.ret, [0], [.one (.bool)], [.dead]⟩, ⟨.exit 0, [2], [.one (.sl 1)], [.dead]⟩], watershedlaw03_FrameEnds_l1⟩
noncomputable def watershedlaw03_FrameEnds_l4 (a : ((List (UInt8)) × (List (UInt8)) × (Int) × (Int) × Unit) × ((Unit) × Unit)) : Option ((((List (UInt8)) × (List (UInt8)) × (Int) × (Int) × Unit) × ((Unit) × Unit)) ⊕ ((((Bool) × Unit) × ((Unit) × Unit)) ⊕ (((List (UInt8)) × (List (UInt8)) × (Int) × Unit) × ((Unit) × (Unit) × Unit)))) :=
  (bif (decide ((a.1.2.2.2.1 : Int) < 256)) then
  (bif (decide ((a.1.2.2.1 : Int) < (a.1.2.1.length : Int))) then
  (if (0 + a.1.2.1.length) ≤ 140737488355328 ∧ (0 + a.1.2.1.length) * 1 ≤ 140737488355328 ∧ 0 + 0 ≤ ([] : List (UInt8)).length then
  (if (0 + a.1.2.1.length) ≤ 0 then
  let y1 : List (UInt8) := (([] : List (UInt8)).take (0 + 0) ++ a.1.2.1 ++ ([] : List (UInt8)).drop (0 + 0 + a.1.2.1.length))
  (if 0 ≤ (a.1.2.2.1 : Int) ∧ (a.1.2.2.1 : Int) < (((0 + a.1.2.1.length) : Nat) : Int) then
  (y1[(0 + (a.1.2.2.1 : Int).toNat)]?).bind fun e2 =>
  (b8 (IntKind.u8.wrap a.1.2.2.2.1)).bind fun u3 =>
  (frameTells_a [] (0, (0 + a.1.2.1.length), 0) (y1.set (0 + (a.1.2.2.1 : Int).toNat) u3)).bind fun r4 =>
  (bif (!r4.1) then
  some (.inr (.inl ((false, ()), ((), ()))))
  else
  some (.inl ((a.1.1, a.1.2.1, a.1.2.2.1, (IntKind.i64.wrap (a.1.2.2.2.1 + 1)), ()), ((), ()))))
  else none)
  else
  (if 0 ≤ (a.1.2.2.1 : Int) ∧ (a.1.2.2.1 : Int) < (((0 + a.1.2.1.length) : Nat) : Int) then
  (((([] : List (UInt8)).drop 0).take 0 ++ a.1.2.1)[(0 + (a.1.2.2.1 : Int).toNat)]?).bind fun e5 =>
  (b8 (IntKind.u8.wrap a.1.2.2.2.1)).bind fun u6 =>
  let y7 : List (UInt8) := (((([] : List (UInt8)).drop 0).take 0 ++ a.1.2.1).set (0 + (a.1.2.2.1 : Int).toNat) u6)
  (frameTells_z [] (0 + a.1.2.1.length) y7).bind fun r8 =>
  (bif (!r8.1) then
  some (.inr (.inl ((false, ()), ((), ()))))
  else
  some (.inl ((a.1.1, a.1.2.1, a.1.2.2.1, (IntKind.i64.wrap (a.1.2.2.2.1 + 1)), ()), ((), ()))))
  else none))
  else none)
  else
  some (.inr (.inr ((a.1.1, a.1.2.1, a.1.2.2.1, ()), ((), (), ())))))
  else
  some (.inr (.inr ((a.1.1, a.1.2.1, a.1.2.2.1, ()), ((), (), ())))))
noncomputable def watershedlaw03_FrameEnds_e4 : LE CT Try.prog := ⟨23, [2, 10, 12, 13], [.one (.sl 1), .one (.own 1 0), .one (.int .i64), .one (.int .i64)], [.row 5 1], [⟨.ret, [0], [.one (.bool)], [.dead]⟩, ⟨.exit 6, [2, 10, 12], [.one (.sl 1), .one (.own 1 1), .one (.int .i64)], [.dead, .row 5 1]⟩], watershedlaw03_FrameEnds_l4⟩
noncomputable def watershedlaw03_FrameEnds_l3 (a : ((List (UInt8)) × (List (UInt8)) × (Int) × Unit) × ((Unit) × Unit)) : Option ((((List (UInt8)) × (List (UInt8)) × (Int) × Unit) × ((Unit) × Unit)) ⊕ ((((Bool) × Unit) × ((Unit) × Unit)) ⊕ (((List (UInt8)) × Unit) × ((Unit) × Unit)))) :=
  (bif (decide ((a.1.2.2.1 : Int) ≤ (a.1.2.1.length : Int))) then
  (if 0 ≤ ((0 : Int) : Int) ∧ ((0 : Int) : Int) ≤ a.1.2.2.1 ∧ a.1.2.2.1 ≤ (a.1.2.1.length : Int) then
  let y1 : List (UInt8) := ((a.1.2.1.drop ((0 : Int) : Int).toNat).take ((a.1.2.2.1 : Int).toNat - ((0 : Int) : Int).toNat))
  (frameTells [] y1).bind fun r2 =>
  (bif (!r2.1) then
  some (.inr (.inl ((false, ()), ((), ()))))
  else
  (if 0 ≤ (a.1.2.2.1 : Int) ∧ (a.1.2.2.1 : Int) ≤ (a.1.2.1.length : Int) ∧ (a.1.2.1.length : Int) ≤ (a.1.2.1.length : Int) then
  let y3 : List (UInt8) := ((a.1.2.1.drop (a.1.2.2.1 : Int).toNat).take (((a.1.2.1.length : Int) : Int).toNat - (a.1.2.2.1 : Int).toNat))
  (if ([] : List (UInt8)).length + y3.length ≤ 140737488355328 ∧ (([] : List (UInt8)).length + y3.length) * 1 ≤ 140737488355328 then
  (if (([] : List (UInt8)) ++ y3).length + a.1.2.1.length ≤ 140737488355328 ∧ ((([] : List (UInt8)) ++ y3).length + a.1.2.1.length) * 1 ≤ 140737488355328 then
  (frameTells [] ((([] : List (UInt8)) ++ y3) ++ a.1.2.1)).bind fun r4 =>
  (bif (!r4.1) then
  some (.inr (.inl ((false, ()), ((), ()))))
  else
  (loopM watershedlaw03_FrameEnds_l4 ((a.1.1, a.1.2.1, a.1.2.2.1, 0, ()), ((), ()))).bind fun b5 =>
  (match b5 with
  | .inl b6 =>
  some (.inr (.inl ((b6.1.1, ()), ((), ()))))
  | .inr b7 =>
  some (.inl ((b7.1.1, b7.1.2.1, (IntKind.i64.wrap (b7.1.2.2.1 + 1)), ()), ((), ())))))
  else none)
  else none)
  else none))
  else none)
  else
  some (.inr (.inr ((a.1.1, ()), ((), ())))))
noncomputable def watershedlaw03_FrameEnds_e3 : LE CT Try.prog := ⟨18, [2, 10, 12], [.one (.sl 1), .one (.own 1 0), .one (.int .i64)], [.row 5 1], [⟨.ret, [0], [.one (.bool)], [.dead]⟩, ⟨.exit 4, [2], [.one (.sl 1)], [.dead]⟩], watershedlaw03_FrameEnds_l3⟩
noncomputable def watershedlaw03_FrameEnds_lt : List (LE CT Try.prog) := [watershedlaw03_FrameEnds_e2, watershedlaw03_FrameEnds_e1, watershedlaw03_FrameEnds_e4, watershedlaw03_FrameEnds_e3]
theorem watershedlaw03_FrameEnds_e2_ok : LeOk watershedlaw03_FrameEnds_e2 (nthL (nthL (bodyOf Try.f4) 0) 0) := fun A env h k z hk => le_ok (E := watershedlaw03_FrameEnds_e2) (orcOf_ok watershedlaw03_FrameEnds_tb) (dr := watershedlaw03_FrameEnds_dr) (lps := lpsOf watershedlaw03_FrameEnds_lt) (no_loop (by kernel_rfl)) (fun a => by kernel_rfl) env h k z hk
theorem watershedlaw03_FrameEnds_e1_ok : LeOk watershedlaw03_FrameEnds_e1 (nthL (bodyOf Try.f4) 0) := fun A env h k z hk => le_ok (E := watershedlaw03_FrameEnds_e1) (orcOf_ok watershedlaw03_FrameEnds_tb) (dr := watershedlaw03_FrameEnds_dr) (lps := lpsOf watershedlaw03_FrameEnds_lt) (lps_of (n := 1) (by kernel_rfl) fun i hi => match i, hi with | 0, _ => lp_ok (E := watershedlaw03_FrameEnds_e2) (by kernel_rfl) watershedlaw03_FrameEnds_e2_ok) (fun a => by kernel_rfl) env h k z hk
theorem watershedlaw03_FrameEnds_e4_ok : LeOk watershedlaw03_FrameEnds_e4 (nthL (nthL (bodyOf Try.f4) 1) 0) := fun A env h k z hk => le_ok (E := watershedlaw03_FrameEnds_e4) (orcOf_ok watershedlaw03_FrameEnds_tb) (dr := watershedlaw03_FrameEnds_dr) (lps := lpsOf watershedlaw03_FrameEnds_lt) (no_loop (by kernel_rfl)) (fun a => by kernel_rfl) env h k z hk
theorem watershedlaw03_FrameEnds_e3_ok : LeOk watershedlaw03_FrameEnds_e3 (nthL (bodyOf Try.f4) 1) := fun A env h k z hk => le_ok (E := watershedlaw03_FrameEnds_e3) (orcOf_ok watershedlaw03_FrameEnds_tb) (dr := watershedlaw03_FrameEnds_dr) (lps := lpsOf watershedlaw03_FrameEnds_lt) (lps_of (n := 1) (by kernel_rfl) fun i hi => match i, hi with | 0, _ => lp_ok (E := watershedlaw03_FrameEnds_e4) (by kernel_rfl) watershedlaw03_FrameEnds_e4_ok) (fun a => by kernel_rfl) env h k z hk
noncomputable def watershedlaw03_FrameEnds  : Option ((Bool) × (Unit)) :=
  (watershedlaw03_awake).bind fun r1 =>
  (bif (!r1.1) then
  some (false, ())
  else
  (if (262145 : Int) = 262145 ∧ 0 ≤ (262145 : Int) ∧ (262145 : Int) ≤ 140737488355328 ∧ ((1 : Nat) : Int) * 262145 ≤ 140737488355328 then
  (loopM watershedlaw03_FrameEnds_l1 ((([(-1), 0, 1, 255, 256] : List (Int)), (List.replicate (262145 : Int).toNat (0 : UInt8)), 0, ()), ((), ()))).bind fun b2 =>
  (match b2 with
  | .inl b3 =>
  some (b3.1.1, ())
  | .inr b4 =>
  (b8 5).bind fun u5 =>
  (b8 0).bind fun u6 =>
  (b8 7).bind fun u7 =>
  (b8 0).bind fun u8 =>
  (frame_Put ([(⟨1, ([u5, u6, u7] : List (UInt8))⟩ : DFrame), (⟨255, []⟩ : DFrame), (⟨0, ([u8] : List (UInt8))⟩ : DFrame)] : List (DFrame))).bind fun r9 =>
  (loopM watershedlaw03_FrameEnds_l3 ((b4.1.1, r9.1.1, 0, ()), ((), ()))).bind fun b10 =>
  (match b10 with
  | .inl b11 =>
  some (b11.1.1, ())
  | .inr b12 =>
  (if 0 ≤ ((0 : Int) : Int) ∧ ((0 : Int) : Int) ≤ 262144 ∧ 262144 ≤ (b12.1.1.length : Int) then
  let y13 : List (UInt8) := ((b12.1.1.drop ((0 : Int) : Int).toNat).take ((262144 : Int).toNat - ((0 : Int) : Int).toNat))
  (watershedref03_Put ([(⟨0, y13⟩ : DFrame2)] : List (DFrame2))).bind fun r14 =>
  (refOne (⟨0, b12.1.1⟩ : DFrame2)).bind fun r15 =>
  (frame_Get r14.1.1).bind fun r16 =>
  (frame_Get r15.1).bind fun r17 =>
  (bif (decide (((r16.1.1.length : Int) : Int) = 1)) then
  (bif (decide ((r16.1.2.1 : Int) = 262153)) then
  (bif (decide (((r17.1.1.length : Int) : Int) = 0)) then
  (bif (decide ((r17.1.2.1 : Int) = 0)) then
  (watershedlaw03_awake).bind fun r18 =>
  some (r18.1, ())
  else
  some (false, ()))
  else
  some (false, ()))
  else
  some (false, ()))
  else
  some (false, ()))
  else none)))
  else none))
noncomputable def watershedlaw03_FrameEnds_ce : CE CT Try.prog where
  f := 4
  args := []
  hs := []
  res := .val (.one (.bool))
  outs := []
  m := fun d dh => watershedlaw03_FrameEnds
  ok := ce_ok mixedP Try.func4 (by kernel_rfl) (orcOf_ok watershedlaw03_FrameEnds_tb) (dr := watershedlaw03_FrameEnds_dr) (lps := lpsOf watershedlaw03_FrameEnds_lt) (lps_fn (lps_of (n := 2) (by kernel_rfl) fun i hi => match i, hi with | 0, _ => lp_ok (E := watershedlaw03_FrameEnds_e1) (by kernel_rfl) watershedlaw03_FrameEnds_e1_ok | 1, _ => lp_ok (E := watershedlaw03_FrameEnds_e3) (by kernel_rfl) watershedlaw03_FrameEnds_e3_ok)) (fun d dh => by kernel_rfl)
end Go.Proofs.Ytklmbkkeiihgdaa
