/- Models of what is called first. -/
import Derived.Test.YtklmbkkeiihgdaaTb
import Derived.Test.YtklmbkkeiihgdaaOa
import Derived.Test.YtklmbkkeiihgdaaTw
import Derived.Test.YtklmbkkeiihgdaaGw
import Derived.Test.YtklmbkkeiihgdaaSl
import Derived.Test.YtklmbkkeiihgdaaFx
import Derived.Test.YtklmbkkeiihgdaaSm
import Derived.Test.YtklmbkkeiihgdaaSumM
import Derived.Test.YtklmbkkeiihgdaaSumRS
import Derived.Test.YtklmbkkeiihgdaaFn
import Derived.Test.YtklmbkkeiihgdaaLe
namespace Go.Proofs.Ytklmbkkeiihgdaa
open Go.RowKit
set_option maxRecDepth 100000
set_option linter.unusedVariables false
noncomputable def sumT (rs : List (List UInt8)) : Option (Int × Unit) := if True then some (((Crc.more 0#32 rs.flatten).toNat : Int), ()) else none
noncomputable def sumT_ce : CE CT Try.prog where
  f := 22
  args := [.one (.sl 3)]
  hs := []
  res := .val (.one (.int .u32))
  outs := []
  m := fun d dh => sumT d.1
  ok := fun d dh r hr => by
    unfold sumT at hr
    split at hr
    · rename_i hc
      injection hr with hr
      subst hr
      refine Tr.sum (C := CT) (Eb := 1) (tb := fun x => x) (fun x => rfl) (Er := 3) (tr := fun x => x) (fun x => rfl) (by kernel_rfl) fun A n c w hR => ?_
      replace hR := (congrArg (fun l => Rep (fun _ => True) w (dRows l) (.slice A n c)) (map_id2 (α := UInt8) d.1)).mp hR
      exact Sum_any _ d.1 A n c w hR
    · cases hr

noncomputable def numberT (x1 : Int) (h0 : DReader) : Option (Int × (DReader × Unit)) := if 0 ≤ x1 ∧ x1.toNat + 4 ≤ h0.rest.b.length then some ((num h0.rest.b x1.toNat : Int), (h0, ())) else none
theorem numberT_tr {U : Nat → Prop} (d : VsD Ty [.one (.ptr 0 0), .one (.int .i64)]) (dh : HsD Ty [.cobj 61 5]) (r : Int × (DReader × Unit)) (hr : numberT d.2.1 dh.1 = some r) : Tr CT Try.prog U 36 (stVs CT [.one (.ptr 0 0), .one (.int .i64)] d) (stHs CT [.cobj 61 5] dh) (.int .u32 r.1) (stHs CT [.cobj 61 5] r.2) := by
  unfold numberT at hr
  split at hr
  · rename_i hc
    injection hr with hr
    subst hr
    exact Tr.numb (C := CT) (Eb := 1) (tb := fun x => x) (fun x => rfl) (xs := dh.1.rest.b) (by kernel_rfl) fun b A c w h1 h2 h3 => number_calls hc.1 hc.2 b A c w h1 h2 ((congrArg (fun l => Rep (fun _ => True) w (dBytes l) (.slice A dh.1.rest.b.length c)) (map_id1 (α := UInt8) dh.1.rest.b)).mp h3)
  · cases hr
noncomputable def numberT_ce : CE CT Try.prog where
  f := 36
  args := [.one (.ptr 0 0), .one (.int .i64)]
  hs := [.cobj 61 5]
  res := .val (.one (.int .u32))
  outs := [.cobj 61 5]
  m := fun d dh => numberT d.2.1 dh.1
  ok := fun d dh r hr => numberT_tr d dh r hr
  ro := true
  roOk := fun _ d dh r hr => numberT_tr d dh r hr

noncomputable def refSumT (rs : List (List UInt8)) : Option (Int × Unit) := if rs.flatten.length ≤ 1000000000 then some (((Crc.more 0#32 rs.flatten).toNat : Int), ()) else none
noncomputable def refSumT_ce : CE CT Try.prog where
  f := 32
  args := [.one (.sl 3)]
  hs := []
  res := .val (.one (.int .u32))
  outs := []
  m := fun d dh => refSumT d.1
  ok := fun d dh r hr => by
    unfold refSumT at hr
    split at hr
    · rename_i hc
      injection hr with hr
      subst hr
      refine Tr.sum (C := CT) (Eb := 1) (tb := fun x => x) (fun x => rfl) (Er := 3) (tr := fun x => x) (fun x => rfl) (by kernel_rfl) fun A n c w hR => ?_
      replace hR := (congrArg (fun l => Rep (fun _ => True) w (dRows l) (.slice A n c)) (map_id2 (α := UInt8) d.1)).mp hR
      exact rSum_any _ d.1 A n c w hR hc
    · cases hr

noncomputable def cloneE37 (x0 : List (UInt8)) : Option (Nat × (List (UInt8) × Unit)) :=
  if x0.length ≤ 140737488355328 ∧ x0.length * 1 ≤ 140737488355328 then some (x0.length, (x0, ())) else none
noncomputable def cloneE37_ce : CE CT Try.prog where
  f := 37
  args := [.one (.sl 1)]
  hs := []
  res := .val (.one (.asz 1 0))
  outs := [.arr 5 1 false]
  m := fun d dh => cloneE37 d.1
  ok := fun d dh r hr => by
    unfold cloneE37 at hr
    split at hr
    · rename_i hc
      injection hr with hr
      subst hr
      have hroom := hc
      exact Tr.kp0 (cloneE_tr mixedP Try.func37 (by kernel_rfl) rfl rfl (zv := .int .u8 0) (he := by kernel_rfl) (hsz := by kernel_rfl) (hz := by kernel_rfl) (hby := by kernel_rfl) rfl rfl (zt := (0 : UInt8)) d.1 (by kernel_rfl) hroom)
    · cases hr

def watershedref03_four_dr : Nat → Nat → DrA
  | 1, _ => ⟨[], [], [], [], [], true, []⟩
  | _, _ => ⟨[], [], [], [], [], false, []⟩
noncomputable def watershedref03_four_tb : List (CE CT Try.prog) := []
noncomputable def watershedref03_four_lt : List (LE CT Try.prog) := []
noncomputable def watershedref03_four (x0 : Int) : Option ((Nat) × ((List (UInt8)) × Unit)) :=
  (b8 (IntKind.u8.wrap x0)).bind fun u1 =>
  (b8 (IntKind.u8.wrap ((x0 : Int).fdiv (2 ^ min (8 : Int).toNat (IntKind.u32.bits))))).bind fun u2 =>
  (b8 (IntKind.u8.wrap ((x0 : Int).fdiv (2 ^ min (16 : Int).toNat (IntKind.u32.bits))))).bind fun u3 =>
  (b8 (IntKind.u8.wrap ((x0 : Int).fdiv (2 ^ min (24 : Int).toNat (IntKind.u32.bits))))).bind fun u4 =>
  some (4, (([u1, u2, u3, u4] : List (UInt8)), ()))
noncomputable def watershedref03_four_ce : CE CT Try.prog where
  f := 31
  args := [.one (.int .u32)]
  hs := []
  res := .val (.one (.asz 1 0))
  outs := [.arr 5 1 false]
  m := fun d dh => watershedref03_four d.1
  ok := ce_ok mixedP Try.func31 (by kernel_rfl) (orcOf_ok watershedref03_four_tb) (dr := watershedref03_four_dr) (lps := lpsOf watershedref03_four_lt) (lps_fn (no_loop (by kernel_rfl))) (fun d dh => by kernel_rfl)
end Go.Proofs.Ytklmbkkeiihgdaa
