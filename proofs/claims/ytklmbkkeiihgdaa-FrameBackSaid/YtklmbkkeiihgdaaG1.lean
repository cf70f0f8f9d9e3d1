/- Models, by program. -/
import Derived.Test.YtklmbkkeiihgdaaTb
import Derived.Test.YtklmbkkeiihgdaaOa
import Derived.Test.YtklmbkkeiihgdaaTw
import Derived.Test.YtklmbkkeiihgdaaGw
import Derived.Test.YtklmbkkeiihgdaaSl
import Derived.Test.YtklmbkkeiihgdaaFx
import Derived.Test.YtklmbkkeiihgdaaSm
import Derived.Test.YtklmbkkeiihgdaaSumM
import Derived.Test.YtklmbkkeiihgdaaFn
import Derived.Test.YtklmbkkeiihgdaaFa
namespace Go.Proofs.Ytklmbkkeiihgdaa
open Go.RowKit
set_option maxRecDepth 100000
set_option linter.unusedVariables false
noncomputable def sumT (rs : List (List UInt8)) : Option (Int × Unit) := if True then some (((Crc.more 0#32 rs.flatten).toNat : Int), ()) else none
noncomputable def sumT_ce : CE CT Try.prog where
  f := 22
  args := [.one (.sl 3)]
  hs := []
  res := .val (.one (.int .u32))
  outs := []
  m := fun d dh => sumT d.1
  ok := fun d dh r hr => by
    unfold sumT at hr
    split at hr
    · rename_i hc
      injection hr with hr
      subst hr
      refine Tr.sum (C := CT) (Eb := 1) (tb := fun x => x) (fun x => rfl) (Er := 3) (tr := fun x => x) (fun x => rfl) (by kernel_rfl) fun A n c w hR => ?_
      replace hR := (congrArg (fun l => Rep (fun _ => True) w (dRows l) (.slice A n c)) (map_id2 (α := UInt8) d.1)).mp hR
      exact Sum_any _ d.1 A n c w hR
    · cases hr

noncomputable def sumT_a (x0 : Nat × Nat × Nat) (h0 : List (List UInt8)) : Option (Int × ((List (List UInt8)) × Unit)) := if x0.1 + x0.2.1 ≤ h0.length then (sumT ((h0.drop x0.1).take x0.2.1)).bind fun r => some (r.1, (h0, ())) else none
theorem sumT_a_tr {U : Nat → Prop} (d : VsD Ty [.one (.as 3 0)]) (dh : HsD Ty [.arr 23 3 true]) (r : Int × ((List (List UInt8)) × Unit)) (hr : sumT_a d.1 dh.1 = some r) : Tr CT Try.prog U 22 (stVs CT [.one (.as 3 0)] d) (stHs CT [.arr 23 3 true] dh) (.int .u32 r.1) (stHs CT [.arr 23 3 true] r.2) := by
  unfold sumT_a at hr
  split at hr
  · rename_i hc
    obtain ⟨⟨g, u⟩, h1, h2⟩ := bind_some' hr
    injection h2 with h2
    subst h2
    have := sumT_ce.ok ((dh.1.drop d.1.1).take d.1.2.1, ()) () (g, u) h1
    exact Tr.lend (h := [.arr 23 3 true dh.1]) this (by
      show (Nat.beq 3 3 && Nat.ble (d.1.1 + d.1.2.1) dh.1.length && true) = true
      rw [Nat.beq_refl, Nat.ble_eq_true_of_le hc]; rfl) rfl
  · cases hr
noncomputable def sumT_a_ce : CE CT Try.prog where
  f := 22
  args := [.one (.as 3 0)]
  hs := [.arr 23 3 true]
  res := .val (.one (.int .u32))
  outs := [.arr 23 3 true]
  m := fun d dh => sumT_a d.1 dh.1
  ok := fun d dh r hr => sumT_a_tr d dh r hr
  ro := true
  roOk := fun _ d dh r hr => sumT_a_tr d dh r hr

noncomputable def growN35 (n : Int) : Option (Nat × ((List (UInt8)) × Unit)) := if 0 ≤ n ∧ n ≤ 140737488355328 ∧ n * ((1 : Nat) : Int) ≤ 140737488355328 then some (0, ([], ())) else none
noncomputable def growN35_ce : CE CT Try.prog where
  f := 35
  args := [.one .nil, .one (.int .i64)]
  hs := []
  res := .val (.one (.asz 1 0))
  outs := [.arr 5 1 false]
  m := fun d dh => growN35 d.2.1
  ok := fun d dh r hr => by
    unfold growN35 at hr
    split at hr
    · rename_i hn
      injection hr with hr
      subst hr
      exact growNil_tr Try.growLay35 rfl rfl (zv := .int .u8 0) false (hsz := by kernel_rfl) (hz := by kernel_rfl) (hby := by kernel_rfl) rfl rfl rfl (by kernel_rfl) d.2.1 hn.1 hn.2.1 hn.2.2
    · cases hr

noncomputable def numberT (x1 : Int) (h0 : DReader) : Option (Int × (DReader × Unit)) := if 0 ≤ x1 ∧ x1.toNat + 4 ≤ h0.rest.b.length then some ((num h0.rest.b x1.toNat : Int), (h0, ())) else none
theorem numberT_tr {U : Nat → Prop} (d : VsD Ty [.one (.ptr 0 0), .one (.int .i64)]) (dh : HsD Ty [.cobj 61 5]) (r : Int × (DReader × Unit)) (hr : numberT d.2.1 dh.1 = some r) : Tr CT Try.prog U 36 (stVs CT [.one (.ptr 0 0), .one (.int .i64)] d) (stHs CT [.cobj 61 5] dh) (.int .u32 r.1) (stHs CT [.cobj 61 5] r.2) := by
  unfold numberT at hr
  split at hr
  · rename_i hc
    injection hr with hr
    subst hr
    exact Tr.numb (C := CT) (Eb := 1) (tb := fun x => x) (fun x => rfl) (xs := dh.1.rest.b) (by kernel_rfl) fun b A c w h1 h2 h3 => number_calls hc.1 hc.2 b A c w h1 h2 ((congrArg (fun l => Rep (fun _ => True) w (dBytes l) (.slice A dh.1.rest.b.length c)) (map_id1 (α := UInt8) dh.1.rest.b)).mp h3)
  · cases hr
noncomputable def numberT_ce : CE CT Try.prog where
  f := 36
  args := [.one (.ptr 0 0), .one (.int .i64)]
  hs := [.cobj 61 5]
  res := .val (.one (.int .u32))
  outs := [.cobj 61 5]
  m := fun d dh => numberT d.2.1 dh.1
  ok := fun d dh r hr => numberT_tr d dh r hr
  ro := true
  roOk := fun _ d dh r hr => numberT_tr d dh r hr

def frame_four_dr : Nat → DrA
  | 1 => ⟨[], [], [], [], [], true, []⟩
  | _ => ⟨[], [], [], [], [], false, []⟩
noncomputable def frame_four_tb : List (CE CT Try.prog) := []
noncomputable def frame_four_lt : List (LE CT Try.prog) := []
noncomputable def frame_four (x0 : Int) : Option ((Nat) × ((List (UInt8)) × Unit)) :=
  (b8 (IntKind.u8.wrap x0)).bind fun u1 =>
  (b8 (IntKind.u8.wrap ((x0 : Int).fdiv (2 ^ min (8 : Int).toNat (IntKind.u32.bits))))).bind fun u2 =>
  (b8 (IntKind.u8.wrap ((x0 : Int).fdiv (2 ^ min (16 : Int).toNat (IntKind.u32.bits))))).bind fun u3 =>
  (b8 (IntKind.u8.wrap ((x0 : Int).fdiv (2 ^ min (24 : Int).toNat (IntKind.u32.bits))))).bind fun u4 =>
  some (4, (([u1, u2, u3, u4] : List (UInt8)), ()))
noncomputable def frame_four_ce : CE CT Try.prog where
  f := 26
  args := [.one (.int .u32)]
  hs := []
  res := .val (.one (.asz 1 0))
  outs := [.arr 5 1 false]
  m := fun d dh => frame_four d.1
  ok := ce_ok mixedP Try.func26 (by kernel_rfl) (orcOf_ok frame_four_tb) (dr := frame_four_dr) (lps := lpsOf frame_four_lt) (lps_fn (no_loop (by kernel_rfl))) (fun d dh => by kernel_rfl)

def frame_head_dr : Nat → DrA
  | 1 => ⟨[0, 5, 1, 2, 3, 6, 7, 4, 8, 9, 10], [[], [0], [0, 1], [0, 1, 2], [0, 1, 2, 3], [], [5], [5, 6], [5, 6, 7], [0, 1, 2, 3, 4, 5, 6, 7, 8], [0, 1, 2, 3, 4, 5, 6, 7, 8, 9]], [6], [4], [0], false, [8]⟩
  | _ => ⟨[], [], [], [], [], false, []⟩
noncomputable def frame_head_tb : List (CE CT Try.prog) := [frame_four_ce]
noncomputable def frame_head_lt : List (LE CT Try.prog) := []
noncomputable def frame_head (x0 : DFrame) : Option ((Nat) × ((List (UInt8)) × Unit)) :=
  (frame_four (IntKind.u32.wrap (x0.data.length : Int))).bind fun r1 =>
  (b8 (IntKind.u8.wrap x0.kind)).bind fun u2 =>
  (if 0 + 1 ≤ ([u2] : List (UInt8)).length then
  (if (r1.1 + ((([u2] : List (UInt8)).drop 0).take 1).length) ≤ 140737488355328 ∧ (r1.1 + ((([u2] : List (UInt8)).drop 0).take 1).length) * 1 ≤ 140737488355328 ∧ 0 + r1.1 ≤ r1.2.1.length then
  some ((r1.1 + ((([u2] : List (UInt8)).drop 0).take 1).length), ((r1.2.1.take r1.1 ++ ((([u2] : List (UInt8)).drop 0).take 1)), ()))
  else none)
  else none)
noncomputable def frame_head_ce : CE CT Try.prog where
  f := 24
  args := [.cod 6]
  hs := []
  res := .val (.one (.asz 1 0))
  outs := [.arr 5 1 false]
  m := fun d dh => frame_head d.1
  ok := ce_ok mixedP Try.func24 (by kernel_rfl) (orcOf_ok frame_head_tb) (dr := frame_head_dr) (lps := lpsOf frame_head_lt) (lps_fn (no_loop (by kernel_rfl))) (fun d dh => by kernel_rfl)

noncomputable def frame_head_t (x0 : DFrame) : Option ((List (UInt8)) × (Unit × Unit)) :=
  (frame_head x0).bind fun r => if r.1 ≠ 0 ∧ r.1 ≤ r.2.1.length then some (r.2.1.take r.1, ((), ())) else none
noncomputable def frame_head_t_ce : CE CT Try.prog where
  f := 24
  args := [.cod 6]
  hs := []
  res := .val (.one (.own 1 0))
  outs := [.row 5 1]
  m := fun d dh => frame_head_t d.1
  ok := fun d dh r hr => by
    unfold frame_head_t at hr
    obtain ⟨⟨n, xs, u⟩, h1, h2⟩ := bind_some' hr
    dsimp only at h2
    split at h2
    · rename_i hc
      injection h2 with h2
      subst h2
      exact Tr.freezeO hc.1 hc.2 (frame_head_ce.ok d dh _ h1)
    · cases h2

noncomputable def frame_four_t (x0 : Int) : Option ((List (UInt8)) × (Unit × Unit)) :=
  (frame_four x0).bind fun r => if r.1 ≠ 0 ∧ r.1 ≤ r.2.1.length then some (r.2.1.take r.1, ((), ())) else none
noncomputable def frame_four_t_ce : CE CT Try.prog where
  f := 26
  args := [.one (.int .u32)]
  hs := []
  res := .val (.one (.own 1 0))
  outs := [.row 5 1]
  m := fun d dh => frame_four_t d.1
  ok := fun d dh r hr => by
    unfold frame_four_t at hr
    obtain ⟨⟨n, xs, u⟩, h1, h2⟩ := bind_some' hr
    dsimp only at h2
    split at h2
    · rename_i hc
      injection h2 with h2
      subst h2
      exact Tr.freezeO hc.1 hc.2 (frame_four_ce.ok d dh _ h1)
    · cases h2

def slices_Concat_dr : Nat → DrA
  | _ => ⟨[], [], [], [], [], false, []⟩
noncomputable def slices_Concat_tb : List (CE CT Try.prog) := [growN35_ce]
noncomputable def slices_Concat_l1 (a : ((List (List (UInt8))) × (Int) × (List (List (UInt8))) × (Int) × (Int) × Unit) × (Unit)) : Option ((((List (List (UInt8))) × (Int) × (List (List (UInt8))) × (Int) × (Int) × Unit) × (Unit)) ⊕ ((((List (List (UInt8))) × (Int) × Unit) × (Unit)))) :=
  (bif (decide ((a.1.2.2.2.2.1 : Int) < a.1.2.2.2.1)) then
  (getI a.1.2.2.1 a.1.2.2.2.2.1).bind fun e1 =>
  (bif (decide (((IntKind.i64.wrap (a.1.2.1 + (e1.length : Int))) : Int) < 0)) then
  none
  else
  some (.inl ((a.1.1, (IntKind.i64.wrap (a.1.2.1 + (e1.length : Int))), a.1.2.2.1, a.1.2.2.2.1, (IntKind.i64.wrap (a.1.2.2.2.2.1 + 1)), ()), ())))
  else
  some (.inr ((a.1.1, a.1.2.1, ()), ())))
noncomputable def slices_Concat_e1 : LE CT Try.prog := ⟨3, [0, 3, 9, 10, 11], [.one (.sl 3), .one (.int .i64), .one (.sl 3), .one (.int .i64), .one (.int .i64)], [], [⟨.exit 0, [0, 3], [.one (.sl 3), .one (.int .i64)], []⟩], slices_Concat_l1⟩
noncomputable def slices_Concat_l2 (a : ((Nat) × (List (List (UInt8))) × (Int) × (Int) × Unit) × ((List (UInt8)) × Unit)) : Option ((((Nat) × (List (List (UInt8))) × (Int) × (Int) × Unit) × ((List (UInt8)) × Unit)) ⊕ ((((Nat) × Unit) × ((Unit) × (List (UInt8)) × Unit)))) :=
  (bif (decide ((a.1.2.2.2.1 : Int) < a.1.2.2.1)) then
  (getI a.1.2.1 a.1.2.2.2.1).bind fun e1 =>
  (if (a.1.1 + e1.length) ≤ 140737488355328 ∧ (a.1.1 + e1.length) * 1 ≤ 140737488355328 ∧ 0 + a.1.1 ≤ a.2.1.length then
  some (.inl (((a.1.1 + e1.length), a.1.2.1, a.1.2.2.1, (IntKind.i64.wrap (a.1.2.2.2.1 + 1)), ()), ((a.2.1.take a.1.1 ++ e1), ())))
  else none)
  else
  some (.inr ((a.1.1, ()), ((), a.2.1, ()))))
noncomputable def slices_Concat_e2 : LE CT Try.prog := ⟨11, [6, 25, 26, 27], [.one (.asz 1 0), .one (.sl 3), .one (.int .i64), .one (.int .i64)], [.arr 5 1 false], [⟨.exit 2, [6], [.one (.asz 1 1)], [.dead, .arr 5 1 false]⟩], slices_Concat_l2⟩
noncomputable def slices_Concat_lt : List (LE CT Try.prog) := [slices_Concat_e1, slices_Concat_e2]
theorem slices_Concat_e1_ok : LeOk slices_Concat_e1 (nthL (bodyOf Try.f25) 0) := fun A env h k z hk => le_ok (E := slices_Concat_e1) (orcOf_ok slices_Concat_tb) (dr := slices_Concat_dr) (lps := lpsOf slices_Concat_lt) (no_loop (by kernel_rfl)) (fun a => by kernel_rfl) env h k z hk
theorem slices_Concat_e2_ok : LeOk slices_Concat_e2 (nthL (bodyOf Try.f25) 1) := fun A env h k z hk => le_ok (E := slices_Concat_e2) (orcOf_ok slices_Concat_tb) (dr := slices_Concat_dr) (lps := lpsOf slices_Concat_lt) (no_loop (by kernel_rfl)) (fun a => by kernel_rfl) env h k z hk
noncomputable def slices_Concat (x0 : List (List (UInt8))) : Option ((Nat) × ((List (UInt8)) × Unit)) :=
  (loopM slices_Concat_l1 ((x0, 0, x0, (x0.length : Int), 0, ()), ())).bind fun b1 =>
  (growN35 b1.1.2.1).bind fun r2 =>
  (loopM slices_Concat_l2 ((r2.1, b1.1.1, (b1.1.1.length : Int), 0, ()), (r2.2.1, ()))).bind fun b3 =>
  some (b3.1.1, (b3.2.2.1, ()))
noncomputable def slices_Concat_ce : CE CT Try.prog where
  f := 25
  args := [.one (.sl 3)]
  hs := []
  res := .val (.one (.asz 1 0))
  outs := [.arr 5 1 false]
  m := fun d dh => slices_Concat d.1
  ok := ce_ok mixedP Try.func25 (by kernel_rfl) (orcOf_ok slices_Concat_tb) (dr := slices_Concat_dr) (lps := lpsOf slices_Concat_lt) (lps_fn (lps_of (n := 2) (by kernel_rfl) fun i hi => match i, hi with | 0, _ => lp_ok (E := slices_Concat_e1) (by kernel_rfl) slices_Concat_e1_ok | 1, _ => lp_ok (E := slices_Concat_e2) (by kernel_rfl) slices_Concat_e2_ok)) (fun d dh => by kernel_rfl)

noncomputable def slices_Concat_t (x0 : List (List (UInt8))) : Option ((List (UInt8)) × (Unit × Unit)) :=
  (slices_Concat x0).bind fun r => if r.1 ≠ 0 ∧ r.1 ≤ r.2.1.length then some (r.2.1.take r.1, ((), ())) else none
noncomputable def slices_Concat_t_ce : CE CT Try.prog where
  f := 25
  args := [.one (.sl 3)]
  hs := []
  res := .val (.one (.own 1 0))
  outs := [.row 5 1]
  m := fun d dh => slices_Concat_t d.1
  ok := fun d dh r hr => by
    unfold slices_Concat_t at hr
    obtain ⟨⟨n, xs, u⟩, h1, h2⟩ := bind_some' hr
    dsimp only at h2
    split at h2
    · rename_i hc
      injection h2 with h2
      subst h2
      exact Tr.freezeO hc.1 hc.2 (slices_Concat_ce.ok d dh _ h1)
    · cases h2

def frame_Put_dr : Nat → DrA
  | 10 => ⟨[0, 1, 2, 3, 8, 4, 9, 5, 6, 7, 10, 11, 12], [[], [], [], [], [3], [2, 3, 4], [2, 3, 4, 5], [2, 3, 4, 5, 6], [], [8], [0, 1, 2, 3, 4, 5, 6, 7, 8, 9], [0, 1, 2, 3, 4, 5, 6, 7, 8, 9, 10], [0, 1, 2, 3, 4, 5, 6, 7, 8, 9, 10, 11]], [9], [6, 7], [1], false, []⟩
  | _ => ⟨[], [], [], [], [], false, []⟩
noncomputable def frame_Put_tb : List (CE CT Try.prog) := [frame_head_t_ce, sumT_ce, frame_four_t_ce, slices_Concat_t_ce]
noncomputable def frame_Put_l1 (a : ((List (UInt8)) × (List (DFrame)) × (Int) × (Int) × Unit) × ((Unit) × Unit)) : Option ((((List (UInt8)) × (List (DFrame)) × (Int) × (Int) × Unit) × ((Unit) × Unit)) ⊕ ((((Unit) × (Int) × Unit) × ((Unit) × Unit)) ⊕ (((List (UInt8)) × Unit) × ((Unit) × (Unit) × Unit)))) :=
  (bif (decide ((a.1.2.2.2.1 : Int) < a.1.2.2.1)) then
  (getI a.1.2.1 a.1.2.2.2.1).bind fun e1 =>
  (bif (decide ((e1.kind : Int) < 0)) then
  some (.inr (.inl (((), 2, ()), ((), ()))))
  else
  (bif (decide ((255 : Int) < e1.kind)) then
  some (.inr (.inl (((), 2, ()), ((), ()))))
  else
  (bif (decide ((262144 : Int) < (e1.data.length : Int))) then
  some (.inr (.inl (((), 3, ()), ((), ()))))
  else
  (frame_head_t e1).bind fun r2 =>
  (sumT ([r2.1, e1.data] : List (List (UInt8)))).bind fun r3 =>
  (frame_four_t r3.1).bind fun r4 =>
  (slices_Concat_t ([a.1.1, r2.1, r4.1, e1.data] : List (List (UInt8)))).bind fun r5 =>
  some (.inl ((r5.1, a.1.2.1, a.1.2.2.1, (IntKind.i64.wrap (a.1.2.2.2.1 + 1)), ()), ((), ()))))))
  else
  some (.inr (.inr ((a.1.1, ()), ((), (), ())))))
noncomputable def frame_Put_e1 : LE CT Try.prog := ⟨3, [4, 8, 9, 10], [.one (.own 1 0), .one (.sl 6), .one (.int .i64), .one (.int .i64)], [.row 5 1], [⟨.ret, [2, 3], [.one (.nil), .one (.int .i64)], [.dead]⟩, ⟨.exit 0, [4], [.one (.own 1 1)], [.dead, .row 5 1]⟩], frame_Put_l1⟩
noncomputable def frame_Put_lt : List (LE CT Try.prog) := [frame_Put_e1]
theorem frame_Put_e1_ok : LeOk frame_Put_e1 (nthL (bodyOf Try.f10) 0) := fun A env h k z hk => le_ok (E := frame_Put_e1) (orcOf_ok frame_Put_tb) (dr := frame_Put_dr) (lps := lpsOf frame_Put_lt) (no_loop (by kernel_rfl)) (fun a => by kernel_rfl) env h k z hk
noncomputable def frame_Put (x0 : List (DFrame)) : Option (((List (UInt8)) × (Int) × Unit) × ((Unit) × Unit)) :=
  (loopM frame_Put_l1 (([], x0, (x0.length : Int), 0, ()), ((), ()))).bind fun b1 =>
  (match b1 with
  | .inl b2 =>
  some (([], b2.1.2.1, ()), ((), ()))
  | .inr b3 =>
  some ((b3.1.1, 0, ()), ((), ())))
noncomputable def frame_Put_ce : CE CT Try.prog where
  f := 10
  args := [.one (.sl 6)]
  hs := []
  res := .tup [.one (.own 1 0), .one (.int .i64)]
  outs := [.row 5 1]
  m := fun d dh => frame_Put d.1
  ok := ce_ok mixedP Try.func10 (by kernel_rfl) (orcOf_ok frame_Put_tb) (dr := frame_Put_dr) (lps := lpsOf frame_Put_lt) (lps_fn (lps_of (n := 1) (by kernel_rfl) fun i hi => match i, hi with | 0, _ => lp_ok (E := frame_Put_e1) (by kernel_rfl) frame_Put_e1_ok)) (fun d dh => by kernel_rfl)

def watershedkit_SameBytes_dr : Nat → DrA
  | 6 => ⟨[0, 1, 2, 4, 5, 6, 3, 7, 8], [[], [], [0, 1], [0, 1, 2], [], [], [4, 5], [4, 5, 6], [0, 1, 2, 3, 4, 5, 6, 7]], [], [], [], false, []⟩
  | _ => ⟨[], [], [], [], [], false, []⟩
noncomputable def watershedkit_SameBytes_tb : List (CE CT Try.prog) := []
noncomputable def watershedkit_SameBytes_l1 (a : ((List (UInt8)) × (List (UInt8)) × (Int) × Unit) × (Unit)) : Option ((((List (UInt8)) × (List (UInt8)) × (Int) × Unit) × (Unit)) ⊕ ((((Bool) × Unit) × (Unit)) ⊕ ((Unit) × (Unit)))) :=
  (bif (decide ((a.1.2.2.1 : Int) < (a.1.1.length : Int))) then
  (getI a.1.1 a.1.2.2.1).bind fun e1 =>
  (getI a.1.2.1 a.1.2.2.1).bind fun e2 =>
  (bif (decide (((e1.toNat : Int) : Int) ≠ (e2.toNat : Int))) then
  some (.inr (.inl ((false, ()), ())))
  else
  some (.inl ((a.1.1, a.1.2.1, (IntKind.i64.wrap (a.1.2.2.1 + 1)), ()), ())))
  else
  some (.inr (.inr ((), ()))))
noncomputable def watershedkit_SameBytes_e1 : LE CT Try.prog := ⟨4, [0, 1, 5], [.one (.sl 1), .one (.sl 1), .one (.int .i64)], [], [⟨.ret, [4], [.one (.bool)], []⟩, ⟨.exit 0, [], [], []⟩], watershedkit_SameBytes_l1⟩
noncomputable def watershedkit_SameBytes_lt : List (LE CT Try.prog) := [watershedkit_SameBytes_e1]
theorem watershedkit_SameBytes_e1_ok : LeOk watershedkit_SameBytes_e1 (nthL (bodyOf Try.f15) 0) := fun A env h k z hk => le_ok (E := watershedkit_SameBytes_e1) (orcOf_ok watershedkit_SameBytes_tb) (dr := watershedkit_SameBytes_dr) (lps := lpsOf watershedkit_SameBytes_lt) (no_loop (by kernel_rfl)) (fun a => by kernel_rfl) env h k z hk
noncomputable def watershedkit_SameBytes (x0 : List (UInt8)) (x1 : List (UInt8)) : Option ((Bool) × (Unit)) :=
  (bif (decide (((x0.length : Int) : Int) ≠ (x1.length : Int))) then
  some (false, ())
  else
  (loopM watershedkit_SameBytes_l1 ((x0, x1, 0, ()), ())).bind fun b1 =>
  (match b1 with
  | .inl b2 =>
  some (b2.1.1, ())
  | .inr b3 =>
  some (true, ())))
noncomputable def watershedkit_SameBytes_ce : CE CT Try.prog where
  f := 15
  args := [.one (.sl 1), .one (.sl 1)]
  hs := []
  res := .val (.one (.bool))
  outs := []
  m := fun d dh => watershedkit_SameBytes d.1 d.2.1
  ok := ce_ok mixedP Try.func15 (by kernel_rfl) (orcOf_ok watershedkit_SameBytes_tb) (dr := watershedkit_SameBytes_dr) (lps := lpsOf watershedkit_SameBytes_lt) (lps_fn (lps_of (n := 1) (by kernel_rfl) fun i hi => match i, hi with | 0, _ => lp_ok (E := watershedkit_SameBytes_e1) (by kernel_rfl) watershedkit_SameBytes_e1_ok)) (fun d dh => by kernel_rfl)

def watershedlaw03_awake_dr : Nat → DrA
  | _ => ⟨[], [], [], [], [], false, []⟩
noncomputable def watershedlaw03_awake_tb : List (CE CT Try.prog) := [frame_Put_ce, sumT_ce, watershedkit_SameBytes_ce]
noncomputable def watershedlaw03_awake_lt : List (LE CT Try.prog) := []
noncomputable def watershedlaw03_awake  : Option ((Bool) × (Unit)) :=
  (frame_Put ([(⟨7, []⟩ : DFrame)] : List (DFrame))).bind fun r1 =>
  (b8 0).bind fun u2 =>
  (b8 0).bind fun u3 =>
  (b8 0).bind fun u4 =>
  (b8 0).bind fun u5 =>
  (b8 7).bind fun u6 =>
  (sumT ([([u2, u3, u4, u5, u6] : List (UInt8))] : List (List (UInt8)))).bind fun r7 =>
  (bif (decide ((r1.1.2.1 : Int) = 0)) then
  (bif (decide ((r7.1 : Int) ≠ 0)) then
  (b8 0).bind fun u8 =>
  (b8 0).bind fun u9 =>
  (b8 0).bind fun u10 =>
  (b8 0).bind fun u11 =>
  (b8 7).bind fun u12 =>
  (b8 (IntKind.u8.wrap r7.1)).bind fun u13 =>
  (b8 (IntKind.u8.wrap ((r7.1 : Int).fdiv (2 ^ min (8 : Int).toNat (IntKind.u32.bits))))).bind fun u14 =>
  (b8 (IntKind.u8.wrap ((r7.1 : Int).fdiv (2 ^ min (16 : Int).toNat (IntKind.u32.bits))))).bind fun u15 =>
  (b8 (IntKind.u8.wrap ((r7.1 : Int).fdiv (2 ^ min (24 : Int).toNat (IntKind.u32.bits))))).bind fun u16 =>
  (watershedkit_SameBytes r1.1.1 ([u8, u9, u10, u11, u12, u13, u14, u15, u16] : List (UInt8))).bind fun r17 =>
  some (r17.1, ())
  else
  some (false, ()))
  else
  some (false, ()))
noncomputable def watershedlaw03_awake_ce : CE CT Try.prog where
  f := 8
  args := []
  hs := []
  res := .val (.one (.bool))
  outs := []
  m := fun d dh => watershedlaw03_awake
  ok := ce_ok mixedP Try.func8 (by kernel_rfl) (orcOf_ok watershedlaw03_awake_tb) (dr := watershedlaw03_awake_dr) (lps := lpsOf watershedlaw03_awake_lt) (lps_fn (no_loop (by kernel_rfl))) (fun d dh => by kernel_rfl)

def watershedlaw03_great_dr : Nat → DrA
  | _ => ⟨[], [], [], [], [], false, []⟩
noncomputable def watershedlaw03_great_tb : List (CE CT Try.prog) := []
noncomputable def watershedlaw03_great_l1 (a : ((List (DFrame)) × (Int) × (Int) × Unit) × (Unit)) : Option ((((List (DFrame)) × (Int) × (Int) × Unit) × (Unit)) ⊕ ((((Int) × Unit) × (Unit)))) :=
  (bif (decide ((a.1.2.2.1 : Int) < (a.1.1.length : Int))) then
  (bif (decide ((a.1.2.1 : Int) ≤ 8000)) then
  (getI a.1.1 a.1.2.2.1).bind fun e1 =>
  some (.inl ((a.1.1, (IntKind.i64.wrap (a.1.2.1 + (e1.data.length : Int))), (IntKind.i64.wrap (a.1.2.2.1 + 1)), ()), ()))
  else
  some (.inr ((a.1.2.1, ()), ())))
  else
  some (.inr ((a.1.2.1, ()), ())))
noncomputable def watershedlaw03_great_e1 : LE CT Try.prog := ⟨3, [0, 3, 4], [.one (.sl 6), .one (.int .i64), .one (.int .i64)], [], [⟨.exit 0, [3], [.one (.int .i64)], []⟩], watershedlaw03_great_l1⟩
noncomputable def watershedlaw03_great_lt : List (LE CT Try.prog) := [watershedlaw03_great_e1]
theorem watershedlaw03_great_e1_ok : LeOk watershedlaw03_great_e1 (nthL (bodyOf Try.f7) 0) := fun A env h k z hk => le_ok (E := watershedlaw03_great_e1) (orcOf_ok watershedlaw03_great_tb) (dr := watershedlaw03_great_dr) (lps := lpsOf watershedlaw03_great_lt) (no_loop (by kernel_rfl)) (fun a => by kernel_rfl) env h k z hk
noncomputable def watershedlaw03_great (x0 : List (DFrame)) : Option ((Bool) × (Unit)) :=
  (loopM watershedlaw03_great_l1 ((x0, (x0.length : Int), 0, ()), ())).bind fun b1 =>
  some ((decide ((8000 : Int) < b1.1.1)), ())
noncomputable def watershedlaw03_great_ce : CE CT Try.prog where
  f := 7
  args := [.one (.sl 6)]
  hs := []
  res := .val (.one (.bool))
  outs := []
  m := fun d dh => watershedlaw03_great d.1
  ok := ce_ok mixedP Try.func7 (by kernel_rfl) (orcOf_ok watershedlaw03_great_tb) (dr := watershedlaw03_great_dr) (lps := lpsOf watershedlaw03_great_lt) (lps_fn (lps_of (n := 1) (by kernel_rfl) fun i hi => match i, hi with | 0, _ => lp_ok (E := watershedlaw03_great_e1) (by kernel_rfl) watershedlaw03_great_e1_ok)) (fun d dh => by kernel_rfl)

noncomputable def clone37 (x : List (UInt8)) : Option ((List (UInt8)) × (Unit × Unit)) :=
  if x.length ≤ 140737488355328 ∧ x.length * 1 ≤ 140737488355328 then some (x, ((), ())) else none
noncomputable def clone37_ce : CE CT Try.prog where
  f := 37
  args := [.one (.sl 1)]
  hs := []
  res := .val (.one (.own 1 0))
  outs := [.row 5 1]
  m := fun d dh => clone37 d.1
  ok := fun d dh r hr => by
    unfold clone37 at hr
    split at hr
    · rename_i hroom
      injection hr with hr
      subst hr
      exact clone_tr mixedP Try.func37 (by kernel_rfl) rfl rfl (zv := .int .u8 0) (he := by kernel_rfl) (hsz := by kernel_rfl) (hz := by kernel_rfl) (hby := by kernel_rfl) rfl rfl d.1 hroom
    · cases hr

def frame_next_dr : Nat → DrA
  | 6 => ⟨[0, 1, 2, 3, 8, 9, 10, 11, 13, 14, 4, 5, 6, 7, 12, 15, 16, 17, 18, 19], [[], [0], [0, 1], [0, 1, 2], [0, 1, 2, 3], [0, 1, 2, 3, 4], [0, 1, 2, 3, 4, 5], [0, 1, 2, 3, 4, 5, 6], [], [8], [8, 9], [8, 9, 10], [8, 9, 10, 11], [], [13], [8, 9, 10, 11, 12, 13, 14], [8, 9, 10, 11, 12, 13, 14, 15], [0, 1, 2, 3, 4, 5, 6, 7, 8, 9, 10, 11, 12, 13, 14, 15, 16], [], [0, 1, 2, 3, 4, 5, 6, 7, 8, 9, 10, 11, 12, 13, 14, 15, 16, 17, 18]], [4, 6], [16], [0], false, []⟩
  | 7 => ⟨[0, 1, 2, 4, 5, 6, 7, 10, 8, 9, 11, 3, 12, 13, 14], [[], [0], [0, 1], [0, 1, 2], [], [4], [4, 5], [4, 5, 6], [4, 5, 6, 7], [4, 5, 6, 7, 8], [], [10], [4, 5, 6, 7, 8, 9, 10, 11], [0, 1, 2, 3, 4, 5, 6, 7, 8, 9, 10, 11, 12], [0, 1, 2, 3, 4, 5, 6, 7, 8, 9, 10, 11, 12, 13]], [8, 11], [3], [0, 3], false, [12]⟩
  | 9 => ⟨[0, 1, 2, 3, 4, 5, 7, 8, 10, 11, 12, 15, 6, 9, 13, 14, 16, 17, 18, 19, 20, 21, 22, 23], [[], [], [], [2], [2, 3], [2, 3, 4], [2, 3, 4, 5], [], [7], [2, 3, 4, 5, 6, 7, 8], [], [10], [10, 11], [10, 11, 12], [10, 11, 12, 13], [], [10, 11, 12, 13, 14, 15], [0, 2, 3, 4, 5, 6, 7, 8, 9, 10, 11, 12, 13], [0, 2, 3, 4, 5, 6, 7, 8, 9, 10, 11, 12, 13, 17], [0, 2, 3, 4, 5, 6, 7, 8, 9, 10, 11, 12, 13, 17, 18], [0, 2, 3, 4, 5, 6, 7, 8, 9, 10, 11, 12, 13, 17, 18, 19], [0, 1, 2, 3, 4, 5, 6, 7, 8, 9, 10, 11, 12, 13, 14, 15, 16, 17, 18, 19, 20], [0, 1, 2, 3, 4, 5, 6, 7, 8, 9, 10, 11, 12, 13, 14, 15, 16, 17, 18, 19, 20, 21], [0, 1, 2, 3, 4, 5, 6, 7, 8, 9, 10, 11, 12, 13, 14, 15, 16, 17, 18, 19, 20, 21, 22]], [], [], [], false, []⟩
  | _ => ⟨[], [], [], [], [], false, []⟩
noncomputable def frame_next_tb : List (CE CT Try.prog) := [numberT_ce, clone37_ce, sumT_a_ce]
noncomputable def frame_next_lt : List (LE CT Try.prog) := []
noncomputable def frame_next (h0 : DReader) : Option (((DFrame) × (Bool) × Unit) × ((DReader) × Unit)) :=
  (bif (decide (((h0.rest.b.length : Int) : Int) < 9)) then
  some (((⟨0, []⟩ : DFrame), false, ()), (h0, ()))
  else
  (numberT 0 h0).bind fun r1 =>
  (bif (decide ((262144 : Int) < (IntKind.i64.wrap r1.1))) then
  some (((⟨0, []⟩ : DFrame), false, ()), (r1.2.1, ()))
  else
  (bif (decide (((IntKind.i64.wrap ((r1.2.1.rest.b.length : Int) - 9)) : Int) < (IntKind.i64.wrap r1.1))) then
  some (((⟨0, []⟩ : DFrame), false, ()), (r1.2.1, ()))
  else
  (getI r1.2.1.rest.b 4).bind fun e2 =>
  (if 0 ≤ (9 : Int) ∧ (9 : Int) ≤ (IntKind.i64.wrap (9 + (IntKind.i64.wrap r1.1))) ∧ (IntKind.i64.wrap (9 + (IntKind.i64.wrap r1.1))) ≤ (r1.2.1.rest.b.length : Int) then
  let y3 : List (UInt8) := ((r1.2.1.rest.b.drop (9 : Int).toNat).take (((IntKind.i64.wrap (9 + (IntKind.i64.wrap r1.1))) : Int).toNat - (9 : Int).toNat))
  (clone37 y3).bind fun r4 =>
  (if 0 ≤ ((0 : Int) : Int) ∧ ((0 : Int) : Int) ≤ 5 ∧ 5 ≤ (r1.2.1.rest.b.length : Int) then
  let y5 : List (UInt8) := ((r1.2.1.rest.b.drop ((0 : Int) : Int).toNat).take ((5 : Int).toNat - ((0 : Int) : Int).toNat))
  (numberT 5 r1.2.1).bind fun r6 =>
  (sumT_a (0, 2, 2) ([y5, r4.1] : List (List (UInt8)))).bind fun r7 =>
  (bif (decide ((r6.1 : Int) ≠ r7.1)) then
  some (((⟨0, []⟩ : DFrame), false, ()), (r6.2.1, ()))
  else
  (if 0 ≤ ((IntKind.i64.wrap (9 + (IntKind.i64.wrap r1.1))) : Int) ∧ ((IntKind.i64.wrap (9 + (IntKind.i64.wrap r1.1))) : Int) ≤ (r6.2.1.rest.b.length : Int) ∧ (r6.2.1.rest.b.length : Int) ≤ (r6.2.1.rest.b.length : Int) then
  let y8 : List (UInt8) := ((r6.2.1.rest.b.drop ((IntKind.i64.wrap (9 + (IntKind.i64.wrap r1.1))) : Int).toNat).take (((r6.2.1.rest.b.length : Int) : Int).toNat - ((IntKind.i64.wrap (9 + (IntKind.i64.wrap r1.1))) : Int).toNat))
  let y9 : Int := (IntKind.i64.wrap ((IntKind.i64.wrap (r6.2.1.at_ + 9)) + (IntKind.i64.wrap r1.1)))
  some (((⟨(IntKind.i64.wrap (e2.toNat : Int)), r4.1⟩ : DFrame), true, ()), ((⟨(⟨y8⟩ : DRest), y9⟩ : DReader), ()))
  else none))
  else none)
  else none))))
noncomputable def frame_next_ce : CE CT Try.prog where
  f := 27
  args := [.one (.ptr 0 0)]
  hs := [.cobj 61 5]
  res := .tup [.cod 6, .one (.bool)]
  outs := [.cobj 61 5]
  m := fun d dh => frame_next dh.1
  ok := ce_ok mixedP Try.func27 (by kernel_rfl) (orcOf_ok frame_next_tb) (dr := frame_next_dr) (lps := lpsOf frame_next_lt) (lps_fn (no_loop (by kernel_rfl))) (fun d dh => by kernel_rfl)

def frame_Get_dr : Nat → DrA
  | 5 => ⟨[0, 1, 2, 3, 5, 4, 6], [[], [], [1], [1, 2], [1, 2, 3], [0], [0, 1, 2, 3, 4, 5]], [], [], [], false, []⟩
  | _ => ⟨[], [], [], [], [], false, []⟩
noncomputable def frame_Get_tb : List (CE CT Try.prog) := [frame_next_ce]
noncomputable def frame_Get_l1 (a : ((List (DFrame)) × (Unit) × Unit) × ((DReader) × (Unit) × Unit)) : Option ((((List (DFrame)) × (Unit) × Unit) × ((DReader) × (Unit) × Unit)) ⊕ ((((List (DFrame)) × (Int) × Unit) × ((DReader) × (Unit) × (Unit) × Unit)))) :=
  (frame_next a.2.1).bind fun r1 =>
  (bif (!r1.1.2.1) then
  some (.inr ((a.1.1, r1.2.1.at_, ()), (r1.2.1, (), (), ())))
  else
  (if a.1.1.length + ([r1.1.1] : List (DFrame)).length ≤ 140737488355328 ∧ (a.1.1.length + ([r1.1.1] : List (DFrame)).length) * 32 ≤ 140737488355328 then
  some (.inl (((a.1.1 ++ ([r1.1.1] : List (DFrame))), (), ()), (r1.2.1, (), ())))
  else none))
noncomputable def frame_Get_e1 : LE CT Try.prog := ⟨3, [4, 5], [.one (.own 6 1), .one (.ptr 0 0)], [.cobj 61 5, .row 28 2], [⟨.ret, [2, 3], [.one (.own 6 2), .one (.int .i64)], [.cobj 61 5, .dead, .row 28 2]⟩], frame_Get_l1⟩
noncomputable def frame_Get_lt : List (LE CT Try.prog) := [frame_Get_e1]
theorem frame_Get_e1_ok : LeOk frame_Get_e1 (nthL (bodyOf Try.f13) 0) := fun A env h k z hk => le_ok (E := frame_Get_e1) (orcOf_ok frame_Get_tb) (dr := frame_Get_dr) (lps := lpsOf frame_Get_lt) (no_loop (by kernel_rfl)) (fun a => by kernel_rfl) env h k z hk
noncomputable def frame_Get (x0 : List (UInt8)) : Option (((List (DFrame)) × (Int) × Unit) × ((Unit) × Unit)) :=
  (loopM frame_Get_l1 (([], (), ()), ((⟨(⟨x0⟩ : DRest), 0⟩ : DReader), (), ()))).bind fun b1 =>
  some ((b1.1.1, b1.1.2.1, ()), ((), ()))
noncomputable def frame_Get_ce : CE CT Try.prog where
  f := 13
  args := [.one (.sl 1)]
  hs := []
  res := .tup [.one (.own 6 0), .one (.int .i64)]
  outs := [.row 28 2]
  m := fun d dh => frame_Get d.1
  ok := ce_ok mixedP Try.func13 (by kernel_rfl) (orcOf_ok frame_Get_tb) (dr := frame_Get_dr) (lps := lpsOf frame_Get_lt) (lps_fn (lps_of (n := 1) (by kernel_rfl) fun i hi => match i, hi with | 0, _ => lp_ok (E := frame_Get_e1) (by kernel_rfl) frame_Get_e1_ok)) (fun d dh => by kernel_rfl)

def watershedlaw03_equal_dr : Nat → DrA
  | 6 => ⟨[0, 1, 2, 3, 5, 6, 7, 8, 4, 9, 10, 11, 12, 13, 14, 15, 17, 18, 19, 20, 16, 21, 22, 23, 24], [[], [], [0, 1], [0, 1, 2], [0, 1, 2, 3], [], [], [5, 6], [5, 6, 7], [5, 6, 7, 8], [0, 1, 2, 3, 4, 5, 6, 7, 8, 9], [0, 1, 2, 3, 4, 5, 6, 7, 8, 9, 10], [0, 1, 2, 3, 4, 5, 6, 7, 8, 9, 10, 11], [0, 1, 2, 3, 4, 5, 6, 7, 8, 9, 10, 11], [0, 1, 2, 3, 4, 5, 6, 7, 8, 9, 10, 11, 12, 13], [0, 1, 2, 3, 4, 5, 6, 7, 8, 9, 10, 11, 12, 13, 14], [0, 1, 2, 3, 4, 5, 6, 7, 8, 9, 10, 11, 12, 13, 14, 15], [0, 1, 2, 3, 4, 5, 6, 7, 8, 9, 10, 11], [0, 1, 2, 3, 4, 5, 6, 7, 8, 9, 10, 11], [0, 1, 2, 3, 4, 5, 6, 7, 8, 9, 10, 11, 17, 18], [0, 1, 2, 3, 4, 5, 6, 7, 8, 9, 10, 11, 17, 18, 19], [0, 1, 2, 3, 4, 5, 6, 7, 8, 9, 10, 11, 17, 18, 19, 20], [0, 1, 2, 3, 4, 5, 6, 7, 8, 9, 10, 11, 12, 13, 14, 15, 16, 17, 18, 19, 20, 21], [0, 1, 2, 3, 4, 5, 6, 7, 8, 9, 10, 11, 12, 13, 14, 15, 16, 17, 18, 19, 20, 21, 22], [0, 1, 2, 3, 4, 5, 6, 7, 8, 9, 10, 11, 12, 13, 14, 15, 16, 17, 18, 19, 20, 21, 22, 23]], [], [], [], false, []⟩
  | _ => ⟨[], [], [], [], [], false, []⟩
noncomputable def watershedlaw03_equal_tb : List (CE CT Try.prog) := [watershedkit_SameBytes_ce]
noncomputable def watershedlaw03_equal_l1 (a : ((List (DFrame)) × (List (DFrame)) × (Int) × Unit) × (Unit)) : Option ((((List (DFrame)) × (List (DFrame)) × (Int) × Unit) × (Unit)) ⊕ ((((Bool) × Unit) × (Unit)) ⊕ ((Unit) × (Unit)))) :=
  (bif (decide ((a.1.2.2.1 : Int) < (a.1.1.length : Int))) then
  (getI a.1.1 a.1.2.2.1).bind fun e1 =>
  (getI a.1.2.1 a.1.2.2.1).bind fun e2 =>
  (bif (decide ((e1.kind : Int) ≠ e2.kind)) then
  some (.inr (.inl ((false, ()), ())))
  else
  (getI a.1.1 a.1.2.2.1).bind fun e3 =>
  (getI a.1.2.1 a.1.2.2.1).bind fun e4 =>
  (watershedkit_SameBytes e3.data e4.data).bind fun r5 =>
  (bif (!r5.1) then
  some (.inr (.inl ((false, ()), ())))
  else
  some (.inl ((a.1.1, a.1.2.1, (IntKind.i64.wrap (a.1.2.2.1 + 1)), ()), ()))))
  else
  some (.inr (.inr ((), ()))))
noncomputable def watershedlaw03_equal_e1 : LE CT Try.prog := ⟨4, [0, 1, 5], [.one (.sl 6), .one (.sl 6), .one (.int .i64)], [], [⟨.ret, [4], [.one (.bool)], []⟩, ⟨.exit 0, [], [], []⟩], watershedlaw03_equal_l1⟩
noncomputable def watershedlaw03_equal_lt : List (LE CT Try.prog) := [watershedlaw03_equal_e1]
theorem watershedlaw03_equal_e1_ok : LeOk watershedlaw03_equal_e1 (nthL (bodyOf Try.f20) 0) := fun A env h k z hk => le_ok (E := watershedlaw03_equal_e1) (orcOf_ok watershedlaw03_equal_tb) (dr := watershedlaw03_equal_dr) (lps := lpsOf watershedlaw03_equal_lt) (no_loop (by kernel_rfl)) (fun a => by kernel_rfl) env h k z hk
noncomputable def watershedlaw03_equal (x0 : List (DFrame)) (x1 : List (DFrame)) : Option ((Bool) × (Unit)) :=
  (bif (decide (((x0.length : Int) : Int) ≠ (x1.length : Int))) then
  some (false, ())
  else
  (loopM watershedlaw03_equal_l1 ((x0, x1, 0, ()), ())).bind fun b1 =>
  (match b1 with
  | .inl b2 =>
  some (b2.1.1, ())
  | .inr b3 =>
  some (true, ())))
noncomputable def watershedlaw03_equal_ce : CE CT Try.prog where
  f := 20
  args := [.one (.sl 6), .one (.sl 6)]
  hs := []
  res := .val (.one (.bool))
  outs := []
  m := fun d dh => watershedlaw03_equal d.1 d.2.1
  ok := ce_ok mixedP Try.func20 (by kernel_rfl) (orcOf_ok watershedlaw03_equal_tb) (dr := watershedlaw03_equal_dr) (lps := lpsOf watershedlaw03_equal_lt) (lps_fn (lps_of (n := 1) (by kernel_rfl) fun i hi => match i, hi with | 0, _ => lp_ok (E := watershedlaw03_equal_e1) (by kernel_rfl) watershedlaw03_equal_e1_ok)) (fun d dh => by kernel_rfl)

def watershedkit_Pick_dr : Nat → DrA
  | _ => ⟨[], [], [], [], [], false, []⟩
noncomputable def watershedkit_Pick_tb : List (CE CT Try.prog) := []
noncomputable def watershedkit_Pick_lt : List (LE CT Try.prog) := []
noncomputable def watershedkit_Pick (x0 : Int) (x1 : Int) : Option ((Int) × (Unit)) :=
  (bif (decide ((x1 : Int) < 1)) then
  some (0, ())
  else
  (if (x1 : Int) = 0 then none else
  (bif (decide ((((x0 : Int).tmod x1) : Int) < 0)) then
  some ((IntKind.i64.wrap (((x0 : Int).tmod x1) + x1)), ())
  else
  some (((x0 : Int).tmod x1), ()))))
noncomputable def watershedkit_Pick_ce : CE CT Try.prog where
  f := 21
  args := [.one (.int .i64), .one (.int .i64)]
  hs := []
  res := .val (.one (.int .i64))
  outs := []
  m := fun d dh => watershedkit_Pick d.1 d.2.1
  ok := ce_ok mixedP Try.func21 (by kernel_rfl) (orcOf_ok watershedkit_Pick_tb) (dr := watershedkit_Pick_dr) (lps := lpsOf watershedkit_Pick_lt) (lps_fn (no_loop (by kernel_rfl))) (fun d dh => by kernel_rfl)

noncomputable def frame_Get_g (x0 : Nat × Nat × Nat) (h0 : List (UInt8)) := if x0.1 = 0 ∧ x0.2.1 ≠ 0 ∧ x0.2.1 ≤ h0.length then (frame_Get (h0.take x0.2.1)).bind fun r => some (r.1, ((), r.2)) else none
noncomputable def frame_Get_g_ce : CE CT Try.prog where
  f := 13
  args := [.one (.as 1 0)]
  hs := [.arr 5 1 true]
  res := .tup [.one (.own 6 1), .one (.int .i64)]
  outs := [.dead, .row 28 2]
  m := fun d dh => frame_Get_g d.1 dh.1
  ok := fun d dh r hr => by
    unfold frame_Get_g at hr
    split at hr
    · rename_i hc
      obtain ⟨⟨a, b⟩, h1, h2⟩ := bind_some' hr
      injection h2 with h2
      subst h2
      have h0 : stVs CT [.one (.as 1 0)] d = [.as 1 0 0 d.1.2.1 (some d.1.2.2)] := by
        show [XV.as 1 0 d.1.1 d.1.2.1 (some d.1.2.2)] = _
        rw [hc.1]
      rw [h0]
      exact Tr.freezeA hc.2.1 hc.2.2 (by
        intro x hx
        rcases List.mem_cons.1 hx with rfl | hx
        · exact ⟨_, _, rfl⟩
        cases hx) (frame_Get_ce.ok (dh.1.take d.1.2.1, ()) () _ h1)
    · cases hr

noncomputable def frame_Get_f (x0 : Nat) (h0 : List (UInt8)) := if x0 ≠ 0 ∧ x0 ≤ h0.length then (frame_Get (h0.take x0)).bind fun r => some (r.1, ((), r.2)) else none
noncomputable def frame_Get_f_ce : CE CT Try.prog where
  f := 13
  args := [.one (.asz 1 0)]
  hs := [.arr 5 1 true]
  res := .tup [.one (.own 6 1), .one (.int .i64)]
  outs := [.dead, .row 28 2]
  m := fun d dh => frame_Get_f d.1 dh.1
  ok := fun d dh r hr => by
    unfold frame_Get_f at hr
    split at hr
    · rename_i hc
      obtain ⟨⟨a, b⟩, h1, h2⟩ := bind_some' hr
      injection h2 with h2
      subst h2
      exact Tr.freezeA hc.1 hc.2 (by
        intro x hx
        rcases List.mem_cons.1 hx with rfl | hx
        · exact ⟨_, _, rfl⟩
        cases hx) (frame_Get_ce.ok (dh.1.take d.1, ()) () _ h1)
    · cases hr
end Go.Proofs.Ytklmbkkeiihgdaa
