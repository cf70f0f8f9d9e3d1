/- Models of what the document calls. -/
import Derived.Test.YteempnebenjkmaaGreatDoorG1
import Derived.Test.YteempnebenjkmaaGreatDoorMk
namespace Go.Proofs.YteempnebenjkmaaGreatDoor
noncomputable section
open Go.RowKit
set_option maxRecDepth 100000
set_option linter.unusedVariables false
def Zoo (rs : List (List UInt8)) : Option (Int × Unit) := if rs.flatten.length <= 1000000000 then some (((Crc.more 0#32 rs.flatten).toNat : Int), ()) else none
def Ztx : CEp where
 f := 36
 args := [.one (.sl 3)]
 hs := []
 res := .val (.one (.int .u32))
 outs := []
 m := fun d dh => Zoo d.1
 ok := fun d dh r hr => by
  unfold Zoo at hr
  split at hr
  ·rename_i hc
   injection hr with hr
   subst hr
   refine Tr.sum (C := CT) (Eb := 1) (tb := fun x => x) (fun x => rfl) (Er := 3) (tr := fun x => x) (fun x => rfl) (by kernel_rfl) fun A n c w hR => ?_
   replace hR := (congrArg (fun l => Rep (fun _ => True) w (ZmA l) (.slice A n c)) (Zvf (α := UInt8) d.1)).mp hR
   exact ZxG _ d.1 A n c w hR hc
  ·cases hr
def Zq6 : Nat -> Nat -> DrA
 | 1, _ => ⟨[], [], [], [], [], true, []⟩
 | _, _ => ⟨[], [], [], [], [], false, []⟩
def Zq7 : List (CEp) := []
def Zop (x0 : Int) : Option (Nat × (LB × Unit)) :=
 (b8 (IntKind.u8.wrap x0)).bind fun u1 =>
 (b8 (IntKind.u8.wrap ((x0 : Int).fdiv (2 ^ min (8 : Int).toNat (IntKind.u32.bits))))).bind fun u2 =>
 (b8 (IntKind.u8.wrap ((x0 : Int).fdiv (2 ^ min (16 : Int).toNat (IntKind.u32.bits))))).bind fun u3 =>
 (b8 (IntKind.u8.wrap ((x0 : Int).fdiv (2 ^ min (24 : Int).toNat (IntKind.u32.bits))))).bind fun u4 =>
 some (4, (([u1, u2, u3, u4] : LB), ()))
def Zq8 : CEp where
 f := 35
 args := [.one (.int .u32)]
 hs := []
 res := .val (.one (.asz 1 0))
 outs := [.arr 5 1 false]
 m := fun d dh => Zop d.1
 ok := ZdE ZbI Tryz.func35 (by kernel_rfl) (Zau Zq7) (dr := Zq6) (lps := Zbj lt0) (ZbP (Zbc (by kernel_rfl))) (fun d dh => by kernel_rfl)
end
end Go.Proofs.YteempnebenjkmaaGreatDoor
