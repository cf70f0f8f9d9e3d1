/- Models, by program. -/
import Derived.Test.YteempnebenjkmaaGreatDoorTb
import Derived.Test.YteempnebenjkmaaGreatDoorGw
import Derived.Test.YteempnebenjkmaaGreatDoorSl
import Derived.Test.YteempnebenjkmaaGreatDoorSumM
import Derived.Test.YteempnebenjkmaaGreatDoorFn
import Derived.Test.YteempnebenjkmaaGreatDoorUn
import Derived.Test.YteempnebenjkmaaGreatDoorOa
import Derived.Test.YteempnebenjkmaaGreatDoorTw
import Derived.Test.YteempnebenjkmaaGreatDoorWr
import Derived.Test.YteempnebenjkmaaGreatDoorFx
import Derived.Test.YteempnebenjkmaaGreatDoorSm
import Derived.Test.YteempnebenjkmaaGreatDoorCl
import Derived.Test.YteempnebenjkmaaGreatDoorFt
namespace Go.Proofs.YteempnebenjkmaaGreatDoor
open Go.RowKit
set_option maxRecDepth 100000
set_option linter.unusedVariables false
noncomputable def ZyT (rs : List (List UInt8)) : Option (Int × Unit) := if True then some (((Crc.more 0#32 rs.flatten).toNat : Int), ()) else none
noncomputable def ZuZ : CE CT Tryz.prog where
 f := 103
 args := [.one (.sl 3)]
 hs := []
 res := .val (.one (.int .u32))
 outs := []
 m := fun d dh => ZyT d.1
 ok := fun d dh r hr => by
  unfold ZyT at hr
  split at hr
  ·rename_i hc
   injection hr with hr
   subst hr
   refine Tr.sum (C := CT) (Eb := 1) (tb := fun x => x) (fun x => rfl) (Er := 3) (tr := fun x => x) (fun x => rfl) (by kernel_rfl) fun A n c w hR => ?_
   replace hR := (congrArg (fun l => Rep (fun _ => True) w (Zoj l) (.slice A n c)) (ZyL (α := UInt8) d.1)).mp hR
   exact ZyS _ d.1 A n c w hR
  ·cases hr
noncomputable def Zm5 (x0 : Nat × Nat × Nat) (h0 : List (List UInt8)) : Option (Int × ((List (List UInt8)) × Unit)) := if x0.1 + x0.2.1 <= h0.length then (ZyT ((h0.drop x0.1).take x0.2.1)).bind fun r => some (r.1, (h0, ())) else none
theorem Zpb {U : Nat -> Prop} (d : VsD Ty [.one (.as 3 0)]) (dh : HsD Ty [.arr 22 3 true]) (r : Int × ((List (List UInt8)) × Unit)) (hr : Zm5 d.1 dh.1 = some r) : Tr CT Tryz.prog U 103 (Zmf CT [.one (.as 3 0)] d) (Zeo CT [.arr 22 3 true] dh) (.int .u32 r.1) (Zeo CT [.arr 22 3 true] r.2) := by
 unfold Zm5 at hr
 split at hr
 ·rename_i hc
  obtain ⟨⟨g, u⟩, h1, h2⟩ := Zal hr
  injection h2 with h2
  subst h2
  have := ZuZ.ok ((dh.1.drop d.1.1).take d.1.2.1, ()) () (g, u) h1
  exact Tr.lend (h := [.arr 22 3 true dh.1]) this (by
   show (Nat.beq 3 3 && Nat.ble (d.1.1 + d.1.2.1) dh.1.length && true) = true
   rw [Nat.beq_refl, Nat.ble_eq_true_of_le hc]; rfl) rfl
 ·cases hr
noncomputable def Zu0 : CE CT Tryz.prog where
 f := 103
 args := [.one (.as 3 0)]
 hs := [.arr 22 3 true]
 res := .val (.one (.int .u32))
 outs := [.arr 22 3 true]
 m := fun d dh => Zm5 d.1 dh.1
 ok := fun d dh r hr => Zpb d dh r hr
 ro := true
 roOk := fun _ d dh r hr => Zpb d dh r hr
noncomputable def ZnN (n : Int) : Option (Nat × ((List (UInt8)) × Unit)) := if 0 <= n /\ n <= 140737488355328 /\ n * ((1 : Nat) : Int) <= 140737488355328 then some (0, ([], ())) else none
noncomputable def Zs2 : CE CT Tryz.prog where
 f := 84
 args := [.one .nil, .one (.int .i64)]
 hs := []
 res := .val (.one (.asz 1 0))
 outs := [.arr 5 1 false]
 m := fun d dh => ZnN d.2.1
 ok := fun d dh r hr => by
  unfold ZnN at hr
  split at hr
  ·rename_i hn
   injection hr with hr
   subst hr
   exact Zm3 Tryz.growLay84 rfl rfl (zv := .int .u8 0) false (hsz := by kernel_rfl) (hz := by kernel_rfl) (hby := by kernel_rfl) rfl rfl rfl (by kernel_rfl) d.2.1 hn.1 hn.2.1 hn.2.2
  ·cases hr
noncomputable def Zie (x1 : Int) (h0 : ZdK) : Option (Int × (ZdK × Unit)) := if 0 <= x1 /\ x1.toNat + 4 <= h0.rest.b.length then some ((num h0.rest.b x1.toNat : Int), (h0, ())) else none
theorem Zm6 {U : Nat -> Prop} (d : VsD Ty [.one (.ptr 0 0), .one (.int .i64)]) (dh : HsD Ty [.cobj 169 5]) (r : Int × (ZdK × Unit)) (hr : Zie d.2.1 dh.1 = some r) : Tr CT Tryz.prog U 153 (Zmf CT [.one (.ptr 0 0), .one (.int .i64)] d) (Zeo CT [.cobj 169 5] dh) (.int .u32 r.1) (Zeo CT [.cobj 169 5] r.2) := by
 unfold Zie at hr
 split at hr
 ·rename_i hc
  injection hr with hr
  subst hr
  exact Tr.numb (C := CT) (Eb := 1) (tb := fun x => x) (fun x => rfl) (xs := dh.1.rest.b) (by kernel_rfl) fun b A c w h1 h2 h3 => Zpa hc.1 hc.2 b A c w h1 h2 ((congrArg (fun l => Rep (fun _ => True) w (Zeq l) (.slice A dh.1.rest.b.length c)) (ZyK (α := UInt8) dh.1.rest.b)).mp h3)
 ·cases hr
noncomputable def Zs3 : CE CT Tryz.prog where
 f := 153
 args := [.one (.ptr 0 0), .one (.int .i64)]
 hs := [.cobj 169 5]
 res := .val (.one (.int .u32))
 outs := [.cobj 169 5]
 m := fun d dh => Zie d.2.1 dh.1
 ok := fun d dh r hr => Zm6 d dh r hr
 ro := true
 roOk := fun _ d dh r hr => Zm6 d dh r hr
def ZnO : Nat -> Nat -> DrA
 | 1, _ => ⟨[], [], [], [], [], true, []⟩
 | _, _ => ⟨[], [], [], [], [], false, []⟩
noncomputable def ZnP : List (CE CT Tryz.prog) := []
noncomputable def ZnQ : List (LE CT Tryz.prog) := []
noncomputable def Zfz (x0 : Int) : Option ((Nat) × ((List (UInt8)) × Unit)) :=
 (b8 (IntKind.u8.wrap x0)).bind fun u1 =>
 (b8 (IntKind.u8.wrap ((x0 : Int).fdiv (2 ^ min (8 : Int).toNat (IntKind.u32.bits))))).bind fun u2 =>
 (b8 (IntKind.u8.wrap ((x0 : Int).fdiv (2 ^ min (16 : Int).toNat (IntKind.u32.bits))))).bind fun u3 =>
 (b8 (IntKind.u8.wrap ((x0 : Int).fdiv (2 ^ min (24 : Int).toNat (IntKind.u32.bits))))).bind fun u4 =>
 some (4, (([u1, u2, u3, u4] : List (UInt8)), ()))
noncomputable def ZiQ : CE CT Tryz.prog where
 f := 102
 args := [.one (.int .u32)]
 hs := []
 res := .val (.one (.asz 1 0))
 outs := [.arr 5 1 false]
 m := fun d dh => Zfz d.1
 ok := ZbS Za2 Tryz.func102 (by kernel_rfl) (Zao ZnP) (dr := ZnO) (lps := Za8 ZnQ) (Za4 (ZaL (by kernel_rfl))) (fun d dh => by kernel_rfl)
def ZnR : Nat -> Nat -> DrA
 | 1, _ => ⟨[0, 5, 1, 2, 3, 6, 7, 4, 8, 9, 10], [[], [0], [0, 1], [0, 1, 2], [0, 1, 2, 3], [], [5], [5, 6], [5, 6, 7], (List.range 9), (List.range 10)], [6], [4], [0], false, [8]⟩
 | _, _ => ⟨[], [], [], [], [], false, []⟩
noncomputable def ZnS : List (CE CT Tryz.prog) := [ZiQ]
noncomputable def ZnT : List (LE CT Tryz.prog) := []
noncomputable def Zhk (x0 : ZbW) : Option ((Nat) × ((List (UInt8)) × Unit)) :=
 (Zfz (IntKind.u32.wrap (x0.data.length : Int))).bind fun r1 =>
 (b8 (IntKind.u8.wrap x0.kind)).bind fun u2 =>
 (if 0 + 1 <= ([u2] : List (UInt8)).length then
 (if (r1.1 + ((([u2] : List (UInt8)).drop 0).take 1).length) <= 140737488355328 /\ (r1.1 + ((([u2] : List (UInt8)).drop 0).take 1).length) * 1 <= 140737488355328 /\ 0 + r1.1 <= r1.2.1.length then
 some ((r1.1 + ((([u2] : List (UInt8)).drop 0).take 1).length), ((r1.2.1.take r1.1 ++ ((([u2] : List (UInt8)).drop 0).take 1)), ()))
 else none)
 else none)
noncomputable def ZnU : CE CT Tryz.prog where
 f := 101
 args := [.cod 6]
 hs := []
 res := .val (.one (.asz 1 0))
 outs := [.arr 5 1 false]
 m := fun d dh => Zhk d.1
 ok := ZbS Za2 Tryz.func101 (by kernel_rfl) (Zao ZnS) (dr := ZnR) (lps := Za8 ZnT) (Za4 (ZaL (by kernel_rfl))) (fun d dh => by kernel_rfl)
noncomputable def ZdY (x0 : ZbW) : Option ((List (UInt8)) × (Unit × Unit)) :=
 (Zhk x0).bind fun r => if r.1 ≠ 0 /\ r.1 <= r.2.1.length then some (r.2.1.take r.1, ((), ())) else none
noncomputable def ZlP : CE CT Tryz.prog where
 f := 101
 args := [.cod 6]
 hs := []
 res := .val (.one (.own 1 0))
 outs := [.row 5 1]
 m := fun d dh => ZdY d.1
 ok := fun d dh r hr => by
  unfold ZdY at hr
  obtain ⟨⟨n, xs, u⟩, h1, h2⟩ := Zal hr
  dsimp only at h2
  split at h2
  ·rename_i hc
   injection h2 with h2
   subst h2
   exact Tr.freezeO hc.1 hc.2 (ZnU.ok d dh _ h1)
  ·cases h2
noncomputable def ZdZ (x0 : Int) : Option ((List (UInt8)) × (Unit × Unit)) :=
 (Zfz x0).bind fun r => if r.1 ≠ 0 /\ r.1 <= r.2.1.length then some (r.2.1.take r.1, ((), ())) else none
noncomputable def ZlQ : CE CT Tryz.prog where
 f := 102
 args := [.one (.int .u32)]
 hs := []
 res := .val (.one (.own 1 0))
 outs := [.row 5 1]
 m := fun d dh => ZdZ d.1
 ok := fun d dh r hr => by
  unfold ZdZ at hr
  obtain ⟨⟨n, xs, u⟩, h1, h2⟩ := Zal hr
  dsimp only at h2
  split at h2
  ·rename_i hc
   injection h2 with h2
   subst h2
   exact Tr.freezeO hc.1 hc.2 (ZiQ.ok d dh _ h1)
  ·cases h2
def Zd8 : Nat -> Nat -> DrA
 | _, _ => ⟨[], [], [], [], [], false, []⟩
noncomputable def Zd9 : List (CE CT Tryz.prog) := [Zs2]
noncomputable def ZbJ (a : ((List (List (UInt8))) × (Int) × (List (List (UInt8))) × (Int) × (Int) × Unit) × (Unit)) : Option ((((List (List (UInt8))) × (Int) × (List (List (UInt8))) × (Int) × (Int) × Unit) × (Unit)) ⊕ ((((List (List (UInt8))) × (Int) × Unit) × (Unit)))) :=
 (bif (decide ((a.1.2.2.2.2.1 : Int) < a.1.2.2.2.1)) then
 (Ziz a.1.2.2.1 a.1.2.2.2.2.1).bind fun e1 =>
 (bif (decide (((IntKind.i64.wrap (a.1.2.1 + (e1.length : Int))) : Int) < 0)) then
 none
 else
 some (.inl ((a.1.1, (IntKind.i64.wrap (a.1.2.1 + (e1.length : Int))), a.1.2.2.1, a.1.2.2.2.1, (IntKind.i64.wrap (a.1.2.2.2.2.1 + 1)), ()), ())))
 else
 some (.inr ((a.1.1, a.1.2.1, ()), ())))
noncomputable def Zc3 : LE CT Tryz.prog := ⟨3, [0, 3, 9, 10, 11], [.one (.sl 3), .one (.int .i64), .one (.sl 3), .one (.int .i64), .one (.int .i64)], [], [⟨.exit 0, [0, 3], [.one (.sl 3), .one (.int .i64)], []⟩], ZbJ⟩
noncomputable def ZbK (a : ((Nat) × (List (List (UInt8))) × (Int) × (Int) × Unit) × ((List (UInt8)) × Unit)) : Option ((((Nat) × (List (List (UInt8))) × (Int) × (Int) × Unit) × ((List (UInt8)) × Unit)) ⊕ ((((Nat) × Unit) × ((Unit) × (List (UInt8)) × Unit)))) :=
 (bif (decide ((a.1.2.2.2.1 : Int) < a.1.2.2.1)) then
 (Ziz a.1.2.1 a.1.2.2.2.1).bind fun e1 =>
 (if (a.1.1 + e1.length) <= 140737488355328 /\ (a.1.1 + e1.length) * 1 <= 140737488355328 /\ 0 + a.1.1 <= a.2.1.length then
 some (.inl (((a.1.1 + e1.length), a.1.2.1, a.1.2.2.1, (IntKind.i64.wrap (a.1.2.2.2.1 + 1)), ()), ((a.2.1.take a.1.1 ++ e1), ())))
 else none)
 else
 some (.inr ((a.1.1, ()), ((), a.2.1, ()))))
noncomputable def Zc4 : LE CT Tryz.prog := ⟨11, [6, 25, 26, 27], [.one (.asz 1 0), .one (.sl 3), .one (.int .i64), .one (.int .i64)], [.arr 5 1 false], [⟨.exit 2, [6], [.one (.asz 1 1)], [.dead, .arr 5 1 false]⟩], ZbK⟩
noncomputable def Zea : List (LE CT Tryz.prog) := [Zc3, Zc4]
theorem Zif : ZpU Zc3 (Zoh (ZdX Tryz.f39) 0) := fun A env h k z hk => Zh9 (E := Zc3) (Zao Zd9) (dr := Zd8) (lps := Za8 Zea) (ZaL (by kernel_rfl)) (fun a => by kernel_rfl) env h k z hk
theorem Zig : ZpU Zc4 (Zoh (ZdX Tryz.f39) 1) := fun A env h k z hk => Zh9 (E := Zc4) (Zao Zd9) (dr := Zd8) (lps := Za8 Zea) (ZaL (by kernel_rfl)) (fun a => by kernel_rfl) env h k z hk
noncomputable def Zek (x0 : List (List (UInt8))) : Option ((Nat) × ((List (UInt8)) × Unit)) :=
 (Zbm ZbJ ((x0, 0, x0, (x0.length : Int), 0, ()), ())).bind fun b1 =>
 (ZnN b1.1.2.1).bind fun r2 =>
 (Zbm ZbK ((r2.1, b1.1.1, (b1.1.1.length : Int), 0, ()), (r2.2.1, ()))).bind fun b3 =>
 some (b3.1.1, (b3.2.2.1, ()))
noncomputable def ZkB : CE CT Tryz.prog where
 f := 39
 args := [.one (.sl 3)]
 hs := []
 res := .val (.one (.asz 1 0))
 outs := [.arr 5 1 false]
 m := fun d dh => Zek d.1
 ok := ZbS Za2 Tryz.func39 (by kernel_rfl) (Zao Zd9) (dr := Zd8) (lps := Za8 Zea) (Za4 (Zez (n := 2) (by kernel_rfl) fun i hi => match i, hi with | 0, _ => Zia (E := Zc3) (by kernel_rfl) Zif | 1, _ => Zia (E := Zc4) (by kernel_rfl) Zig)) (fun d dh => by kernel_rfl)
noncomputable def Zb4 (x0 : List (List (UInt8))) : Option ((List (UInt8)) × (Unit × Unit)) :=
 (Zek x0).bind fun r => if r.1 ≠ 0 /\ r.1 <= r.2.1.length then some (r.2.1.take r.1, ((), ())) else none
noncomputable def ZiR : CE CT Tryz.prog where
 f := 39
 args := [.one (.sl 3)]
 hs := []
 res := .val (.one (.own 1 0))
 outs := [.row 5 1]
 m := fun d dh => Zb4 d.1
 ok := fun d dh r hr => by
  unfold Zb4 at hr
  obtain ⟨⟨n, xs, u⟩, h1, h2⟩ := Zal hr
  dsimp only at h2
  split at h2
  ·rename_i hc
   injection h2 with h2
   subst h2
   exact Tr.freezeO hc.1 hc.2 (ZkB.ok d dh _ h1)
  ·cases h2
def Zkj : Nat -> Nat -> DrA
 | 10, _ => ⟨[0, 1, 2, 3, 8, 4, 9, 5, 6, 7, 10, 11, 12], [[], [], [], [], [3], [2, 3, 4], [2, 3, 4, 5], [2, 3, 4, 5, 6], [], [8], (List.range 10), (List.range 11), (List.range 12)], [9], [6, 7], [1], false, []⟩
 | _, _ => ⟨[], [], [], [], [], false, []⟩
noncomputable def Zkk : List (CE CT Tryz.prog) := [ZlP, ZuZ, ZlQ, ZiR]
noncomputable def Ze0 (a : ((List (UInt8)) × (List (ZbW)) × (Int) × (Int) × Unit) × ((Unit) × Unit)) : Option ((((List (UInt8)) × (List (ZbW)) × (Int) × (Int) × Unit) × ((Unit) × Unit)) ⊕ ((((Unit) × (Int) × Unit) × ((Unit) × Unit)) ⊕ (((List (UInt8)) × Unit) × ((Unit) × (Unit) × Unit)))) :=
 (bif (decide ((a.1.2.2.2.1 : Int) < a.1.2.2.1)) then
 (Ziz a.1.2.1 a.1.2.2.2.1).bind fun e1 =>
 (bif (decide ((e1.kind : Int) < 0)) then
 some (.inr (.inl (((), 2, ()), ((), ()))))
 else
 (bif (decide ((255 : Int) < e1.kind)) then
 some (.inr (.inl (((), 2, ()), ((), ()))))
 else
 (bif (decide ((262144 : Int) < (e1.data.length : Int))) then
 some (.inr (.inl (((), 3, ()), ((), ()))))
 else
 (ZdY e1).bind fun r2 =>
 (ZyT ([r2.1, e1.data] : List (List (UInt8)))).bind fun r3 =>
 (ZdZ r3.1).bind fun r4 =>
 (Zb4 ([a.1.1, r2.1, r4.1, e1.data] : List (List (UInt8)))).bind fun r5 =>
 some (.inl ((r5.1, a.1.2.1, a.1.2.2.1, (IntKind.i64.wrap (a.1.2.2.2.1 + 1)), ()), ((), ()))))))
 else
 some (.inr (.inr ((a.1.1, ()), ((), (), ())))))
noncomputable def Ze1 : LE CT Tryz.prog := ⟨3, [4, 8, 9, 10], [.one (.own 1 0), .one (.sl 6), .one (.int .i64), .one (.int .i64)], [.row 5 1], [⟨.ret, [2, 3], [.one (.nil), .one (.int .i64)], [.dead]⟩, ⟨.exit 0, [4], [.one (.own 1 1)], [.dead, .row 5 1]⟩], Ze0⟩
noncomputable def Zkl : List (LE CT Tryz.prog) := [Ze1]
theorem ZlR : ZpU Ze1 (Zoh (ZdX Tryz.f59) 0) := fun A env h k z hk => Zh9 (E := Ze1) (Zao Zkk) (dr := Zkj) (lps := Za8 Zkl) (ZaL (by kernel_rfl)) (fun a => by kernel_rfl) env h k z hk
noncomputable def Zdv (x0 : List (ZbW)) : Option (((List (UInt8)) × (Int) × Unit) × ((Unit) × Unit)) :=
 (Zbm Ze0 (([], x0, (x0.length : Int), 0, ()), ((), ()))).bind fun b1 =>
 (match b1 with
 | .inl b2 =>
 some (([], b2.1.2.1, ()), ((), ()))
 | .inr b3 =>
 some ((b3.1.1, 0, ()), ((), ())))
noncomputable def Zpc : CE CT Tryz.prog where
 f := 59
 args := [.one (.sl 6)]
 hs := []
 res := .tup [.one (.own 1 0), .one (.int .i64)]
 outs := [.row 5 1]
 m := fun d dh => Zdv d.1
 ok := ZbS Za2 Tryz.func59 (by kernel_rfl) (Zao Zkk) (dr := Zkj) (lps := Za8 Zkl) (Za4 (Zez (n := 1) (by kernel_rfl) fun i hi => match i, hi with | 0, _ => Zia (E := Ze1) (by kernel_rfl) ZlR)) (fun d dh => by kernel_rfl)
noncomputable def Zfa (x : List (UInt8)) : Option ((List (UInt8)) × (Unit × Unit)) :=
 if x.length <= 140737488355328 /\ x.length * 1 <= 140737488355328 then some (x, ((), ())) else none
noncomputable def Zhl : CE CT Tryz.prog where
 f := 80
 args := [.one (.sl 1)]
 hs := []
 res := .val (.one (.own 1 0))
 outs := [.row 5 1]
 m := fun d dh => Zfa d.1
 ok := fun d dh r hr => by
  unfold Zfa at hr
  split at hr
  ·rename_i hroom
   injection hr with hr
   subst hr
   exact Zwf Za2 Tryz.func80 (by kernel_rfl) rfl rfl (zv := .int .u8 0) (he := by kernel_rfl) (hsz := by kernel_rfl) (hz := by kernel_rfl) (hby := by kernel_rfl) rfl rfl d.1 hroom
  ·cases hr
def ZnV : Nat -> Nat -> DrA
 | 6, _ => ⟨[0, 1, 2, 3, 8, 9, 10, 11, 13, 14, 4, 5, 6, 7, 12, 15, 16, 17, 18, 19], [[], [0], [0, 1], [0, 1, 2], [0, 1, 2, 3], (List.range 5), (List.range 6), (List.range 7), [], [8], [8, 9], [8, 9, 10], [8, 9, 10, 11], [], [13], [8, 9, 10, 11, 12, 13, 14], [8, 9, 10, 11, 12, 13, 14, 15], (List.range 17), [], (List.range 19)], [4, 6], [16], [0], false, []⟩
 | 7, _ => ⟨[0, 1, 2, 4, 5, 6, 7, 10, 8, 9, 11, 3, 12, 13, 14], [[], [0], [0, 1], [0, 1, 2], [], [4], [4, 5], [4, 5, 6], [4, 5, 6, 7], [4, 5, 6, 7, 8], [], [10], [4, 5, 6, 7, 8, 9, 10, 11], (List.range 13), (List.range 14)], [8, 11], [3], [0, 3], false, [12]⟩
 | 9, _ => ⟨(List.range 6 ++ [7, 8, 10, 11, 12, 15, 6, 9, 13, 14, 16, 17, 18, 19, 20, 21, 22, 23]), [[], [], [], [2], [2, 3], [2, 3, 4], [2, 3, 4, 5], [], [7], [2, 3, 4, 5, 6, 7, 8], [], [10], [10, 11], [10, 11, 12], [10, 11, 12, 13], [], [10, 11, 12, 13, 14, 15], [0, 2, 3, 4, 5, 6, 7, 8, 9, 10, 11, 12, 13], [0, 2, 3, 4, 5, 6, 7, 8, 9, 10, 11, 12, 13, 17], [0, 2, 3, 4, 5, 6, 7, 8, 9, 10, 11, 12, 13, 17, 18], [0, 2, 3, 4, 5, 6, 7, 8, 9, 10, 11, 12, 13, 17, 18, 19], (List.range 21), (List.range 22), (List.range 23)], [], [], [], false, []⟩
 | _, _ => ⟨[], [], [], [], [], false, []⟩
noncomputable def ZnW : List (CE CT Tryz.prog) := [Zs3, Zhl, Zu0]
noncomputable def ZnX : List (LE CT Tryz.prog) := []
noncomputable def Zhm (h0 : ZdK) : Option (((ZbW) × (Bool) × Unit) × ((ZdK) × Unit)) :=
 (bif (decide (((h0.rest.b.length : Int) : Int) < 9)) then
 some (((⟨0, []⟩ : ZbW), false, ()), (h0, ()))
 else
 (Zie 0 h0).bind fun r1 =>
 (bif (decide ((262144 : Int) < (IntKind.i64.wrap r1.1))) then
 some (((⟨0, []⟩ : ZbW), false, ()), (r1.2.1, ()))
 else
 (bif (decide (((IntKind.i64.wrap ((r1.2.1.rest.b.length : Int) - 9)) : Int) < (IntKind.i64.wrap r1.1))) then
 some (((⟨0, []⟩ : ZbW), false, ()), (r1.2.1, ()))
 else
 (Ziz r1.2.1.rest.b 4).bind fun e2 =>
 (if 0 <= (9 : Int) /\ (9 : Int) <= (IntKind.i64.wrap (9 + (IntKind.i64.wrap r1.1))) /\ (IntKind.i64.wrap (9 + (IntKind.i64.wrap r1.1))) <= (r1.2.1.rest.b.length : Int) then
 let y3 : List (UInt8) := ((r1.2.1.rest.b.drop (9 : Int).toNat).take (((IntKind.i64.wrap (9 + (IntKind.i64.wrap r1.1))) : Int).toNat - (9 : Int).toNat))
 (Zfa y3).bind fun r4 =>
 (if 0 <= ((0 : Int) : Int) /\ ((0 : Int) : Int) <= 5 /\ 5 <= (r1.2.1.rest.b.length : Int) then
 let y5 : List (UInt8) := ((r1.2.1.rest.b.drop ((0 : Int) : Int).toNat).take ((5 : Int).toNat - ((0 : Int) : Int).toNat))
 (Zie 5 r1.2.1).bind fun r6 =>
 (Zm5 (0, 2, 2) ([y5, r4.1] : List (List (UInt8)))).bind fun r7 =>
 (bif (decide ((r6.1 : Int) ≠ r7.1)) then
 some (((⟨0, []⟩ : ZbW), false, ()), (r6.2.1, ()))
 else
 (if 0 <= ((IntKind.i64.wrap (9 + (IntKind.i64.wrap r1.1))) : Int) /\ ((IntKind.i64.wrap (9 + (IntKind.i64.wrap r1.1))) : Int) <= (r6.2.1.rest.b.length : Int) /\ (r6.2.1.rest.b.length : Int) <= (r6.2.1.rest.b.length : Int) then
 let y8 : List (UInt8) := ((r6.2.1.rest.b.drop ((IntKind.i64.wrap (9 + (IntKind.i64.wrap r1.1))) : Int).toNat).take (((r6.2.1.rest.b.length : Int) : Int).toNat - ((IntKind.i64.wrap (9 + (IntKind.i64.wrap r1.1))) : Int).toNat))
 let y9 : Int := (IntKind.i64.wrap ((IntKind.i64.wrap (r6.2.1.at_ + 9)) + (IntKind.i64.wrap r1.1)))
 some (((⟨(IntKind.i64.wrap (e2.toNat : Int)), r4.1⟩ : ZbW), true, ()), ((⟨(⟨y8⟩ : ZsP), y9⟩ : ZdK), ()))
 else none))
 else none)
 else none))))
noncomputable def ZnY : CE CT Tryz.prog where
 f := 87
 args := [.one (.ptr 0 0)]
 hs := [.cobj 169 5]
 res := .tup [.cod 6, .one (.bool)]
 outs := [.cobj 169 5]
 m := fun d dh => Zhm dh.1
 ok := ZbS Za2 Tryz.func87 (by kernel_rfl) (Zao ZnW) (dr := ZnV) (lps := Za8 ZnX) (Za4 (ZaL (by kernel_rfl))) (fun d dh => by kernel_rfl)
def Zkm : Nat -> Nat -> DrA
 | 5, _ => ⟨[0, 1, 2, 3, 5, 4, 6], [[], [], [1], [1, 2], [1, 2, 3], [0], (List.range 6)], [], [], [], false, []⟩
 | _, _ => ⟨[], [], [], [], [], false, []⟩
noncomputable def Zkn : List (CE CT Tryz.prog) := [ZnY]
noncomputable def Ze2 (a : ((List (ZbW)) × (Unit) × Unit) × ((ZdK) × (Unit) × Unit)) : Option ((((List (ZbW)) × (Unit) × Unit) × ((ZdK) × (Unit) × Unit)) ⊕ ((((List (ZbW)) × (Int) × Unit) × ((ZdK) × (Unit) × (Unit) × Unit)))) :=
 (Zhm a.2.1).bind fun r1 =>
 (bif (!r1.1.2.1) then
 some (.inr ((a.1.1, r1.2.1.at_, ()), (r1.2.1, (), (), ())))
 else
 (if a.1.1.length + ([r1.1.1] : List (ZbW)).length <= 140737488355328 /\ (a.1.1.length + ([r1.1.1] : List (ZbW)).length) * 32 <= 140737488355328 then
 some (.inl (((a.1.1 ++ ([r1.1.1] : List (ZbW))), (), ()), (r1.2.1, (), ())))
 else none))
noncomputable def Ze3 : LE CT Tryz.prog := ⟨3, [4, 5], [.one (.own 6 1), .one (.ptr 0 0)], [.cobj 169 5, .row 102 2], [⟨.ret, [2, 3], [.one (.own 6 2), .one (.int .i64)], [.cobj 169 5, .dead, .row 102 2]⟩], Ze2⟩
noncomputable def Zko : List (LE CT Tryz.prog) := [Ze3]
theorem ZlS : ZpU Ze3 (Zoh (ZdX Tryz.f44) 0) := fun A env h k z hk => Zh9 (E := Ze3) (Zao Zkn) (dr := Zkm) (lps := Za8 Zko) (ZaL (by kernel_rfl)) (fun a => by kernel_rfl) env h k z hk
noncomputable def ZeF (x0 : List (UInt8)) : Option (((List (ZbW)) × (Int) × Unit) × ((Unit) × Unit)) :=
 (Zbm Ze2 (([], (), ()), ((⟨(⟨x0⟩ : ZsP), 0⟩ : ZdK), (), ()))).bind fun b1 =>
 some ((b1.1.1, b1.1.2.1, ()), ((), ()))
noncomputable def Zpd : CE CT Tryz.prog where
 f := 44
 args := [.one (.sl 1)]
 hs := []
 res := .tup [.one (.own 6 0), .one (.int .i64)]
 outs := [.row 102 2]
 m := fun d dh => ZeF d.1
 ok := ZbS Za2 Tryz.func44 (by kernel_rfl) (Zao Zkn) (dr := Zkm) (lps := Za8 Zko) (Za4 (Zez (n := 1) (by kernel_rfl) fun i hi => match i, hi with | 0, _ => Zia (E := Ze3) (by kernel_rfl) ZlS)) (fun d dh => by kernel_rfl)
def ZjE : Nat -> Nat -> DrA
 | _, _ => ⟨[], [], [], [], [], false, []⟩
noncomputable def ZjF : List (CE CT Tryz.prog) := []
noncomputable def ZjG : List (LE CT Tryz.prog) := []
noncomputable def Zfb  : Option ((Unit) × (((Bool) × (Bool) × (List (UInt8)) × Unit) × (Unit) × Unit)) :=
 some ((), ((true, false, [], ()), (), ()))
noncomputable def ZfA : CE CT Tryz.prog where
 f := 72
 args := []
 hs := []
 res := .val (.one (.ptr 0 0))
 outs := [.obj 218 [.bool, .bool, .own 1 1], .row 5 1]
 m := fun d dh => Zfb
 ok := ZbS Za2 Tryz.func72 (by kernel_rfl) (Zao ZjF) (dr := ZjE) (lps := Za8 ZjG) (Za4 (ZaL (by kernel_rfl))) (fun d dh => by kernel_rfl)
def ZnZ : Nat -> Nat -> DrA
 | _, _ => ⟨[], [], [], [], [], false, []⟩
noncomputable def Zn0 : List (CE CT Tryz.prog) := []
noncomputable def Zn1 : List (LE CT Tryz.prog) := []
noncomputable def Zhn (h0 : (Bool) × (Bool) × (List (UInt8)) × Unit) : Option ((Bool) × (((Bool) × (Bool) × (List (UInt8)) × Unit) × (Unit) × (Unit) × Unit)) :=
 some (h0.1, ((h0.1, h0.2.1, h0.2.2.1, ()), (), (), ()))
noncomputable def Zgm : CE CT Tryz.prog where
 f := 139
 args := [.one (.ptr 0 0)]
 hs := [.obj 218 [.bool, .bool, .own 1 1], .row 5 1]
 res := .val (.one (.bool))
 outs := [.obj 218 [.bool, .bool, .own 1 2], .dead, .row 5 1]
 m := fun d dh => Zhn dh.1
 ok := ZbS Za2 Tryz.func139 (by kernel_rfl) (Zao Zn0) (dr := ZnZ) (lps := Za8 Zn1) (Za4 (ZaL (by kernel_rfl))) (fun d dh => by kernel_rfl)
def ZqH : Nat -> Nat -> DrA
 | _, _ => ⟨[], [], [], [], [], false, []⟩
noncomputable def ZqI : List (CE CT Tryz.prog) := []
noncomputable def ZqJ : List (LE CT Tryz.prog) := []
noncomputable def Zho (x1 : List (UInt8)) (h0 : (Bool) × (Bool) × (List (UInt8)) × Unit) : Option ((Unit) × (((Bool) × (Bool) × (List (UInt8)) × Unit) × (Unit) × (Unit) × Unit)) :=
 (bif h0.1 then
 (if h0.2.2.1.length + x1.length <= 140737488355328 /\ (h0.2.2.1.length + x1.length) * 1 <= 140737488355328 then
 some ((), ((h0.1, h0.2.1, (h0.2.2.1 ++ x1), ()), (), (), ()))
 else none)
 else
 some ((), ((h0.1, h0.2.1, h0.2.2.1, ()), (), (), ())))
noncomputable def ZlT : CE CT Tryz.prog where
 f := 141
 args := [.one (.ptr 0 0), .one (.sl 1)]
 hs := [.obj 218 [.bool, .bool, .own 1 1], .row 5 1]
 res := .tup []
 outs := [.obj 218 [.bool, .bool, .own 1 2], .dead, .row 5 1]
 m := fun d dh => Zho d.2.1 dh.1
 ok := ZbS Za2 Tryz.func141 (by kernel_rfl) (Zao ZqI) (dr := ZqH) (lps := Za8 ZqJ) (Za4 (ZaL (by kernel_rfl))) (fun d dh => by kernel_rfl)
def ZhS : Nat -> Nat -> DrA
 | _, _ => ⟨[], [], [], [], [], false, []⟩
noncomputable def ZhT : List (CE CT Tryz.prog) := [ZlT]
noncomputable def ZcQ (a : ((Unit) × (Int) × Unit) × (((Bool) × (Bool) × (List (UInt8)) × Unit) × (Unit) × Unit)) : Option ((((Unit) × (Int) × Unit) × (((Bool) × (Bool) × (List (UInt8)) × Unit) × (Unit) × Unit)) ⊕ ((((Unit) × (Int) × Unit) × (((Bool) × (Bool) × (List (UInt8)) × Unit) × (Unit) × (Unit) × Unit)))) :=
 (bif (decide ((127 : Int) < a.1.2.1)) then
 (b8 (IntKind.u8.wrap ((BitVec.ofInt (IntKind.u8.bits) (IntKind.u8.wrap a.1.2.1) ||| BitVec.ofInt (IntKind.u8.bits) 128).toNat))).bind fun u1 =>
 (Zho ([u1] : List (UInt8)) (a.2.1.1, a.2.1.2.1, a.2.1.2.2.1, ())).bind fun r2 =>
 some (.inl (((), ((a.1.2.1 : Int).fdiv (2 ^ min (7 : Int).toNat (IntKind.i64.bits))), ()), ((r2.2.1.1, r2.2.1.2.1, r2.2.1.2.2.1, ()), (), ())))
 else
 some (.inr (((), a.1.2.1, ()), ((a.2.1.1, a.2.1.2.1, a.2.1.2.2.1, ()), (), (), ()))))
noncomputable def ZdP : LE CT Tryz.prog := ⟨2, [0, 1], [.one (.ptr 0 0), .one (.int .i64)], [.obj 218 [.bool, .bool, .own 1 1], .row 5 1], [⟨.exit 0, [0, 1], [.one (.ptr 0 0), .one (.int .i64)], [.obj 218 [.bool, .bool, .own 1 2], .dead, .row 5 1]⟩], ZcQ⟩
noncomputable def ZhU : List (LE CT Tryz.prog) := [ZdP]
theorem ZjH : ZpU ZdP (Zoh (ZdX Tryz.f140) 0) := fun A env h k z hk => Zh9 (E := ZdP) (Zao ZhT) (dr := ZhS) (lps := Za8 ZhU) (ZaL (by kernel_rfl)) (fun a => by kernel_rfl) env h k z hk
noncomputable def ZdL (x1 : Int) (h0 : (Bool) × (Bool) × (List (UInt8)) × Unit) : Option ((Unit) × (((Bool) × (Bool) × (List (UInt8)) × Unit) × (Unit) × (Unit) × Unit)) :=
 (bif (decide ((x1 : Int) < 0)) then
 some ((), ((h0.1, true, h0.2.2.1, ()), (), (), ()))
 else
 (bif (decide ((4611686018427387903 : Int) < x1)) then
 some ((), ((h0.1, true, h0.2.2.1, ()), (), (), ()))
 else
 (Zbm ZcQ (((), x1, ()), ((h0.1, h0.2.1, h0.2.2.1, ()), (), ()))).bind fun b1 =>
 (b8 (IntKind.u8.wrap b1.1.2.1)).bind fun u2 =>
 (Zho ([u2] : List (UInt8)) (b1.2.1.1, b1.2.1.2.1, b1.2.1.2.2.1, ())).bind fun r3 =>
 some ((), ((r3.2.1.1, r3.2.1.2.1, r3.2.1.2.2.1, ()), (), (), ()))))
noncomputable def ZhV : CE CT Tryz.prog where
 f := 140
 args := [.one (.ptr 0 0), .one (.int .i64)]
 hs := [.obj 218 [.bool, .bool, .own 1 1], .row 5 1]
 res := .tup []
 outs := [.obj 218 [.bool, .bool, .own 1 2], .dead, .row 5 1]
 m := fun d dh => ZdL d.2.1 dh.1
 ok := ZbS Za2 Tryz.func140 (by kernel_rfl) (Zao ZhT) (dr := ZhS) (lps := Za8 ZhU) (Za4 (Zez (n := 1) (by kernel_rfl) fun i hi => match i, hi with | 0, _ => Zia (E := ZdP) (by kernel_rfl) ZjH)) (fun d dh => by kernel_rfl)
def Zg4 : Nat -> Nat -> DrA
 | _, _ => ⟨[], [], [], [], [], false, []⟩
noncomputable def Zg5 : List (CE CT Tryz.prog) := [Zgm, ZhV]
noncomputable def Zcw (a : ((Unit) × (List (Int)) × (Int) × (Int) × Unit) × (((Bool) × (Bool) × (List (UInt8)) × Unit) × (Unit) × Unit)) : Option ((((Unit) × (List (Int)) × (Int) × (Int) × Unit) × (((Bool) × (Bool) × (List (UInt8)) × Unit) × (Unit) × Unit)) ⊕ ((((Unit) × Unit) × (((Bool) × (Bool) × (List (UInt8)) × Unit) × (Unit) × (Unit) × Unit)))) :=
 (bif (decide ((a.1.2.2.2.1 : Int) < a.1.2.2.1)) then
 (Ziz a.1.2.1 a.1.2.2.2.1).bind fun e1 =>
 (ZdL e1 (a.2.1.1, a.2.1.2.1, a.2.1.2.2.1, ())).bind fun r2 =>
 some (.inl (((), a.1.2.1, a.1.2.2.1, (IntKind.i64.wrap (a.1.2.2.2.1 + 1)), ()), ((r2.2.1.1, r2.2.1.2.1, r2.2.1.2.2.1, ()), (), ())))
 else
 some (.inr (((), ()), ((a.2.1.1, a.2.1.2.1, a.2.1.2.2.1, ()), (), (), ()))))
noncomputable def Zdw : LE CT Tryz.prog := ⟨3, [0, 9, 10, 11], [.one (.ptr 0 0), .one (.sl 0), .one (.int .i64), .one (.int .i64)], [.obj 218 [.bool, .bool, .own 1 1], .row 5 1], [⟨.exit 0, [0], [.one (.ptr 0 0)], [.obj 218 [.bool, .bool, .own 1 2], .dead, .row 5 1]⟩], Zcw⟩
noncomputable def Zg6 : List (LE CT Tryz.prog) := [Zdw]
theorem ZiS : ZpU Zdw (Zoh (ZdX Tryz.f137) 0) := fun A env h k z hk => Zh9 (E := Zdw) (Zao Zg5) (dr := Zg4) (lps := Za8 Zg6) (ZaL (by kernel_rfl)) (fun a => by kernel_rfl) env h k z hk
noncomputable def Zdf (x1 : List (Int)) (h0 : (Bool) × (Bool) × (List (UInt8)) × Unit) : Option ((Unit) × (((Bool) × (Bool) × (List (UInt8)) × Unit) × (Unit) × (Unit) × Unit)) :=
 (Zhn (h0.1, h0.2.1, h0.2.2.1, ())).bind fun r1 =>
 (bif r1.1 then
 (Zbm Zcw (((), x1, (x1.length : Int), 0, ()), ((r1.2.1.1, r1.2.1.2.1, r1.2.1.2.2.1, ()), (), ()))).bind fun b2 =>
 some ((), ((b2.2.1.1, b2.2.1.2.1, b2.2.1.2.2.1, ()), (), (), ()))
 else
 some ((), ((r1.2.1.1, r1.2.1.2.1, r1.2.1.2.2.1, ()), (), (), ())))
noncomputable def Zg7 : CE CT Tryz.prog where
 f := 137
 args := [.one (.ptr 0 0), .one (.sl 0)]
 hs := [.obj 218 [.bool, .bool, .own 1 1], .row 5 1]
 res := .val (.one (.ptr 0 0))
 outs := [.obj 218 [.bool, .bool, .own 1 2], .dead, .row 5 1]
 m := fun d dh => Zdf d.2.1 dh.1
 ok := ZbS Za2 Tryz.func137 (by kernel_rfl) (Zao Zg5) (dr := Zg4) (lps := Za8 Zg6) (Za4 (Zez (n := 1) (by kernel_rfl) fun i hi => match i, hi with | 0, _ => Zia (E := Zdw) (by kernel_rfl) ZiS)) (fun d dh => by kernel_rfl)
def ZiT : Nat -> Nat -> DrA
 | _, _ => ⟨[], [], [], [], [], false, []⟩
noncomputable def ZiU : List (CE CT Tryz.prog) := [Zg7]
noncomputable def ZiV : List (LE CT Tryz.prog) := []
noncomputable def Zdx (x1 : List (Int)) (h0 : (Bool) × (Bool) × (List (UInt8)) × Unit) : Option ((Unit) × (((Bool) × (Bool) × (List (UInt8)) × Unit) × (Unit) × (Unit) × Unit)) :=
 (Zdf ([(x1.length : Int)] : List (Int)) (h0.1, h0.2.1, h0.2.2.1, ())).bind fun r1 =>
 (Zdf x1 (r1.2.1.1, r1.2.1.2.1, r1.2.1.2.2.1, ())).bind fun r2 =>
 some ((), ((r2.2.1.1, r2.2.1.2.1, r2.2.1.2.2.1, ()), (), (), ()))
noncomputable def ZiW : CE CT Tryz.prog where
 f := 191
 args := [.one (.ptr 0 0), .one (.sl 0)]
 hs := [.obj 218 [.bool, .bool, .own 1 1], .row 5 1]
 res := .tup []
 outs := [.obj 218 [.bool, .bool, .own 1 2], .dead, .row 5 1]
 m := fun d dh => Zdx d.2.1 dh.1
 ok := ZbS Za2 Tryz.func191 (by kernel_rfl) (Zao ZiU) (dr := ZiT) (lps := Za8 ZiV) (Za4 (ZaL (by kernel_rfl))) (fun d dh => by kernel_rfl)
def ZfB : Nat -> Nat -> DrA
 | _, _ => ⟨[], [], [], [], [], false, []⟩
noncomputable def ZfC : List (CE CT Tryz.prog) := [ZiW]
noncomputable def ZdM (a : ((Unit) × (List (List (Int))) × (Int) × (Int) × Unit) × (((Bool) × (Bool) × (List (UInt8)) × Unit) × (Unit) × (Unit) × Unit)) : Option ((((Unit) × (List (List (Int))) × (Int) × (Int) × Unit) × (((Bool) × (Bool) × (List (UInt8)) × Unit) × (Unit) × (Unit) × Unit)) ⊕ (((Unit) × (((Bool) × (Bool) × (List (UInt8)) × Unit) × (Unit) × (Unit) × (Unit) × Unit)))) :=
 (bif (decide ((a.1.2.2.2.1 : Int) < a.1.2.2.1)) then
 (Ziz a.1.2.1 a.1.2.2.2.1).bind fun e1 =>
 (Zdx e1 (a.2.1.1, a.2.1.2.1, a.2.1.2.2.1, ())).bind fun r2 =>
 some (.inl (((), a.1.2.1, a.1.2.2.1, (IntKind.i64.wrap (a.1.2.2.2.1 + 1)), ()), ((r2.2.1.1, r2.2.1.2.1, r2.2.1.2.2.1, ()), (), (), ())))
 else
 some (.inr ((), ((a.2.1.1, a.2.1.2.1, a.2.1.2.2.1, ()), (), (), (), ()))))
noncomputable def ZcI : LE CT Tryz.prog := ⟨2, [0, 14, 15, 16], [.one (.ptr 0 0), .one (.own 7 1), .one (.int .i64), .one (.int .i64)], [.obj 218 [.bool, .bool, .own 1 2], .row 38 1, .row 5 1], [⟨.exit 0, [], [], [.obj 218 [.bool, .bool, .own 1 3], .dead, .dead, .row 5 1]⟩], ZdM⟩
noncomputable def ZfD : List (LE CT Tryz.prog) := [ZcI]
theorem Zhz : ZpU ZcI (Zoh (ZdX Tryz.f138) 0) := fun A env h k z hk => Zh9 (E := ZcI) (Zao ZfC) (dr := ZfB) (lps := Za8 ZfD) (ZaL (by kernel_rfl)) (fun a => by kernel_rfl) env h k z hk
noncomputable def ZdQ (x1 : Zck) (h0 : (Bool) × (Bool) × (List (UInt8)) × Unit) : Option ((Unit) × (((Bool) × (Bool) × (List (UInt8)) × Unit) × (Unit) × (Unit) × Unit)) :=
 (Zbm ZdM (((), ([x1.voters, x1.old, x1.learners, x1.want] : List (List (Int))), (([x1.voters, x1.old, x1.learners, x1.want] : List (List (Int))).length : Int), 0, ()), ((h0.1, h0.2.1, h0.2.2.1, ()), (), (), ()))).bind fun b1 =>
 some ((), ((b1.2.1.1, b1.2.1.2.1, b1.2.1.2.2.1, ()), (), (), ()))
noncomputable def ZjI : CE CT Tryz.prog where
 f := 138
 args := [.one (.ptr 0 0), .cod 8]
 hs := [.obj 218 [.bool, .bool, .own 1 1], .row 5 1]
 res := .tup []
 outs := [.obj 218 [.bool, .bool, .own 1 2], .dead, .row 5 1]
 m := fun d dh => ZdQ d.2.1 dh.1
 ok := ZbS Za2 Tryz.func138 (by kernel_rfl) (Zao ZfC) (dr := ZfB) (lps := Za8 ZfD) (Za4 (Zez (n := 1) (by kernel_rfl) fun i hi => match i, hi with | 0, _ => Zia (E := ZcI) (by kernel_rfl) Zhz)) (fun d dh => by kernel_rfl)
def ZhA : Nat -> Nat -> DrA
 | _, _ => ⟨[], [], [], [], [], false, []⟩
noncomputable def ZhB : List (CE CT Tryz.prog) := [Zg7, ZjI]
noncomputable def ZhC : List (LE CT Tryz.prog) := []
noncomputable def Zb5 (x1 : ZeC) (h0 : (Bool) × (Bool) × (List (UInt8)) × Unit) : Option ((Unit) × (((Bool) × (Bool) × (List (UInt8)) × Unit) × (Unit) × (Unit) × Unit)) :=
 (Zdf ([x1.index, x1.term_] : List (Int)) (h0.1, h0.2.1, h0.2.2.1, ())).bind fun r1 =>
 (ZdQ x1.config (r1.2.1.1, r1.2.1.2.1, r1.2.1.2.2.1, ())).bind fun r2 =>
 some ((), ((r2.2.1.1, r2.2.1.2.1, r2.2.1.2.2.1, ()), (), (), ()))
noncomputable def Zec : CE CT Tryz.prog where
 f := 71
 args := [.one (.ptr 0 0), .cod 9]
 hs := [.obj 218 [.bool, .bool, .own 1 1], .row 5 1]
 res := .val (.one (.ptr 0 0))
 outs := [.obj 218 [.bool, .bool, .own 1 2], .dead, .row 5 1]
 m := fun d dh => Zb5 d.2.1 dh.1
 ok := ZbS Za2 Tryz.func71 (by kernel_rfl) (Zao ZhB) (dr := ZhA) (lps := Za8 ZhC) (Za4 (ZaL (by kernel_rfl))) (fun d dh => by kernel_rfl)
def Zpe : Nat -> Nat -> DrA
 | _, _ => ⟨[], [], [], [], [], false, []⟩
noncomputable def Zpf : List (CE CT Tryz.prog) := [Zgm, Zhl]
noncomputable def Zpg : List (LE CT Tryz.prog) := []
noncomputable def ZfE (h0 : (Bool) × (Bool) × (List (UInt8)) × Unit) : Option (((List (UInt8)) × (Int) × Unit) × (((Bool) × (Bool) × (List (UInt8)) × Unit) × (Unit) × (Unit) × (Unit) × Unit)) :=
 (Zhn (h0.1, h0.2.1, h0.2.2.1, ())).bind fun r1 =>
 (bif (!r1.1) then
 some (([], 1, ()), ((r1.2.1.1, r1.2.1.2.1, r1.2.1.2.2.1, ()), (), (), (), ()))
 else
 (bif r1.2.1.2.1 then
 some (([], 2, ()), ((r1.2.1.1, r1.2.1.2.1, r1.2.1.2.2.1, ()), (), (), (), ()))
 else
 (Zfa r1.2.1.2.2.1).bind fun r2 =>
 some ((r2.1, 0, ()), ((r1.2.1.1, r1.2.1.2.1, r1.2.1.2.2.1, ()), (), (), (), ()))))
noncomputable def Zkp : CE CT Tryz.prog where
 f := 74
 args := [.one (.ptr 0 0)]
 hs := [.obj 218 [.bool, .bool, .own 1 1], .row 5 1]
 res := .tup [.one (.own 1 2), .one (.int .i64)]
 outs := [.obj 218 [.bool, .bool, .own 1 3], .dead, .row 5 1, .row 5 1]
 m := fun d dh => ZfE dh.1
 ok := ZbS Za2 Tryz.func74 (by kernel_rfl) (Zao Zpf) (dr := Zpe) (lps := Za8 Zpg) (Za4 (ZaL (by kernel_rfl))) (fun d dh => by kernel_rfl)
def ZjJ : Nat -> Nat -> DrA
 | _, _ => ⟨[], [], [], [], [], false, []⟩
noncomputable def ZjK : List (CE CT Tryz.prog) := [Zhl]
noncomputable def ZjL : List (LE CT Tryz.prog) := []
noncomputable def ZcR (x0 : List (UInt8)) : Option ((Unit) × (((Bool) × (Bool) × (List (UInt8)) × Unit) × (Unit) × Unit)) :=
 (Zfa x0).bind fun r1 =>
 some ((), ((true, false, r1.1, ()), (), ()))
noncomputable def ZfF : CE CT Tryz.prog where
 f := 50
 args := [.one (.sl 1)]
 hs := []
 res := .val (.one (.ptr 0 0))
 outs := [.obj 180 [.bool, .bool, .own 1 1], .row 5 1]
 m := fun d dh => ZcR d.1
 ok := ZbS Za2 Tryz.func50 (by kernel_rfl) (Zao ZjK) (dr := ZjJ) (lps := Za8 ZjL) (Za4 (ZaL (by kernel_rfl))) (fun d dh => by kernel_rfl)
def Zs4 : Nat -> Nat -> DrA
 | _, _ => ⟨[], [], [], [], [], false, []⟩
noncomputable def Zs5 : List (CE CT Tryz.prog) := []
noncomputable def Zs6 : List (LE CT Tryz.prog) := []
noncomputable def Zu1 (h0 : (Bool) × (Bool) × (List (UInt8)) × Unit) : Option ((Bool) × (((Bool) × (Bool) × (List (UInt8)) × Unit) × (Unit) × (Unit) × Unit)) :=
 (bif h0.1 then
 some ((!h0.2.1), ((h0.1, h0.2.1, h0.2.2.1, ()), (), (), ()))
 else
 some (false, ((h0.1, h0.2.1, h0.2.2.1, ()), (), (), ())))
noncomputable def Zs7 : CE CT Tryz.prog where
 f := 95
 args := [.one (.ptr 0 0)]
 hs := [.obj 180 [.bool, .bool, .own 1 1], .row 5 1]
 res := .val (.one (.bool))
 outs := [.obj 180 [.bool, .bool, .own 1 2], .dead, .row 5 1]
 m := fun d dh => Zu1 dh.1
 ok := ZbS Za2 Tryz.func95 (by kernel_rfl) (Zao Zs5) (dr := Zs4) (lps := Za8 Zs6) (Za4 (ZaL (by kernel_rfl))) (fun d dh => by kernel_rfl)
def Zmo : Nat -> Nat -> DrA
 | _, _ => ⟨[], [], [], [], [], false, []⟩
noncomputable def Zmp : List (CE CT Tryz.prog) := []
noncomputable def Zmq : List (LE CT Tryz.prog) := []
noncomputable def Zba (h0 : Zap) : Option ((Unit) × (((Bool) × (Bool) × (List (UInt8)) × Unit) × (Unit) × Unit)) :=
 some ((), ((h0.place.made, true, [], ()), (), ()))
noncomputable def Zfc : CE CT Tryz.prog where
 f := 155
 args := [.one (.ptr 0 0)]
 hs := [.cobj 180 14]
 res := .tup []
 outs := [.obj 180 [.bool, .bool, .own 1 1], .row 5 1]
 m := fun d dh => Zba dh.1
 ok := ZbS Za2 Tryz.func155 (by kernel_rfl) (Zao Zmp) (dr := Zmo) (lps := Za8 Zmq) (Za4 (ZaL (by kernel_rfl))) (fun d dh => by kernel_rfl)
def Zmr : Nat -> Nat -> DrA
 | _, _ => ⟨[], [], [], [], [], false, []⟩
noncomputable def Zms : List (CE CT Tryz.prog) := [Zfc]
noncomputable def Zmt : List (LE CT Tryz.prog) := []
noncomputable def ZbT (x1 : Int) (h0 : Zap) : Option ((List (UInt8)) × ((Zap) × Unit)) :=
 (bif (decide (((h0.place.left.length : Int) : Int) < x1)) then
 (Zba h0).bind fun r1 =>
 some ([], ((⟨(⟨r1.2.1.1, r1.2.1.2.1, r1.2.1.2.2.1⟩ : ZdE)⟩ : Zap), ()))
 else
 (if 0 <= ((0 : Int) : Int) /\ ((0 : Int) : Int) <= x1 /\ (x1 : Int) <= x1 /\ x1 <= (h0.place.left.length : Int) then
 let y2 : List (UInt8) := ((h0.place.left.drop ((0 : Int) : Int).toNat).take ((x1 : Int).toNat - ((0 : Int) : Int).toNat))
 (if 0 <= (x1 : Int) /\ (x1 : Int) <= (h0.place.left.length : Int) /\ (h0.place.left.length : Int) <= (h0.place.left.length : Int) then
 let y3 : List (UInt8) := ((h0.place.left.drop (x1 : Int).toNat).take (((h0.place.left.length : Int) : Int).toNat - (x1 : Int).toNat))
 some (y2, ((⟨(⟨h0.place.made, h0.place.failed, y3⟩ : ZdE)⟩ : Zap), ()))
 else none)
 else none))
noncomputable def Zfd : CE CT Tryz.prog where
 f := 96
 args := [.one (.ptr 0 0), .one (.int .i64)]
 hs := [.cobj 180 14]
 res := .val (.one (.sl 1))
 outs := [.cobj 180 14]
 m := fun d dh => ZbT d.2.1 dh.1
 ok := ZbS Za2 Tryz.func96 (by kernel_rfl) (Zao Zms) (dr := Zmr) (lps := Za8 Zmt) (Za4 (ZaL (by kernel_rfl))) (fun d dh => by kernel_rfl)
def ZhW : Nat -> Nat -> DrA
 | _, _ => ⟨[], [], [], [], [], false, []⟩
noncomputable def ZhX : List (CE CT Tryz.prog) := [Zs7, Zfd, Zfc]
noncomputable def Zfe (a : ((Unit) × (Int) × (Int) × (Int) × Unit) × ((Zap) × Unit)) : Option ((((Unit) × (Int) × (Int) × (Int) × Unit) × ((Zap) × Unit)) ⊕ ((((Int) × Unit) × ((Zap) × Unit)) ⊕ (((Unit) × Unit) × ((Zap) × Unit)))) :=
 (bif (decide ((a.1.2.2.2.1 : Int) < 63)) then
 (ZbT 1 a.2.1).bind fun r1 =>
 (bif r1.2.1.place.failed then
 some (.inr (.inl ((0, ()), (r1.2.1, ()))))
 else
 (Ziz r1.1 0).bind fun e2 =>
 (if (a.1.2.2.2.1 : Int) < 0 then none else
 let y3 : Int := (IntKind.i64.wrap ((BitVec.ofInt (IntKind.i64.bits) a.1.2.2.1 ||| BitVec.ofInt (IntKind.i64.bits) (IntKind.i64.wrap ((IntKind.i64.wrap (IntKind.u8.wrap ((BitVec.ofInt (IntKind.u8.bits) (e2.toNat : Int) &&& BitVec.ofInt (IntKind.u8.bits) 127).toNat))) * 2 ^ min (a.1.2.2.2.1 : Int).toNat (IntKind.i64.bits)))).toNat))
 (Ziz r1.1 0).bind fun e4 =>
 (bif (decide (((e4.toNat : Int) : Int) < 128)) then
 (bif (decide ((0 : Int) < a.1.2.2.2.1)) then
 (Ziz r1.1 0).bind fun e5 =>
 (bif (decide (((e5.toNat : Int) : Int) = 0)) then
 (Zba r1.2.1).bind fun r6 =>
 some (.inr (.inl ((0, ()), ((⟨(⟨r6.2.1.1, r6.2.1.2.1, r6.2.1.2.2.1⟩ : ZdE)⟩ : Zap), ()))))
 else
 (bif (decide ((4611686018427387903 : Int) < y3)) then
 (Zba r1.2.1).bind fun r7 =>
 some (.inr (.inl ((0, ()), ((⟨(⟨r7.2.1.1, r7.2.1.2.1, r7.2.1.2.2.1⟩ : ZdE)⟩ : Zap), ()))))
 else
 (bif (decide ((a.1.2.1 : Int) < y3)) then
 (Zba r1.2.1).bind fun r8 =>
 some (.inr (.inl ((0, ()), ((⟨(⟨r8.2.1.1, r8.2.1.2.1, r8.2.1.2.2.1⟩ : ZdE)⟩ : Zap), ()))))
 else
 some (.inr (.inl ((y3, ()), (r1.2.1, ())))))))
 else
 (bif (decide ((4611686018427387903 : Int) < y3)) then
 (Zba r1.2.1).bind fun r9 =>
 some (.inr (.inl ((0, ()), ((⟨(⟨r9.2.1.1, r9.2.1.2.1, r9.2.1.2.2.1⟩ : ZdE)⟩ : Zap), ()))))
 else
 (bif (decide ((a.1.2.1 : Int) < y3)) then
 (Zba r1.2.1).bind fun r10 =>
 some (.inr (.inl ((0, ()), ((⟨(⟨r10.2.1.1, r10.2.1.2.1, r10.2.1.2.2.1⟩ : ZdE)⟩ : Zap), ()))))
 else
 some (.inr (.inl ((y3, ()), (r1.2.1, ())))))))
 else
 some (.inl (((), a.1.2.1, y3, (IntKind.i64.wrap (a.1.2.2.2.1 + 7)), ()), (r1.2.1, ()))))))
 else
 some (.inr (.inr (((), ()), (a.2.1, ())))))
noncomputable def ZdR : LE CT Tryz.prog := ⟨5, [0, 1, 5, 6], [.one (.ptr 0 0), .one (.int .i64), .one (.int .i64), .one (.int .i64)], [.cobj 180 14], [⟨.ret, [4], [.one (.int .i64)], [.cobj 180 14]⟩, ⟨.exit 0, [0], [.one (.ptr 0 0)], [.cobj 180 14]⟩], Zfe⟩
noncomputable def ZhY : List (LE CT Tryz.prog) := [ZdR]
theorem ZjM : ZpU ZdR (Zoh (ZdX Tryz.f91) 0) := fun A env h k z hk => Zh9 (E := ZdR) (Zao ZhX) (dr := ZhW) (lps := Za8 ZhY) (ZaL (by kernel_rfl)) (fun a => by kernel_rfl) env h k z hk
noncomputable def Zgn (x1 : Int) (h0 : (Bool) × (Bool) × (List (UInt8)) × Unit) : Option ((Int) × ((Zap) × (Unit) × Unit)) :=
 (Zu1 (h0.1, h0.2.1, h0.2.2.1, ())).bind fun r1 =>
 (bif (!r1.1) then
 some (0, ((⟨(⟨r1.2.1.1, r1.2.1.2.1, r1.2.1.2.2.1⟩ : ZdE)⟩ : Zap), (), ()))
 else
 (Zbm Zfe (((), x1, 0, 0, ()), ((⟨(⟨r1.2.1.1, r1.2.1.2.1, r1.2.1.2.2.1⟩ : ZdE)⟩ : Zap), ()))).bind fun b2 =>
 (match b2 with
 | .inl b3 =>
 some (b3.1.1, (b3.2.1, (), ()))
 | .inr b4 =>
 (Zba b4.2.1).bind fun r5 =>
 some (0, ((⟨(⟨r5.2.1.1, r5.2.1.2.1, r5.2.1.2.2.1⟩ : ZdE)⟩ : Zap), (), ()))))
noncomputable def Zmu : CE CT Tryz.prog where
 f := 91
 args := [.one (.ptr 0 0), .one (.int .i64)]
 hs := [.obj 180 [.bool, .bool, .own 1 1], .row 5 1]
 res := .val (.one (.int .i64))
 outs := [.cobj 180 14, .dead]
 m := fun d dh => Zgn d.2.1 dh.1
 ok := ZbS Za2 Tryz.func91 (by kernel_rfl) (Zao ZhX) (dr := ZhW) (lps := Za8 ZhY) (Za4 (Zez (n := 1) (by kernel_rfl) fun i hi => match i, hi with | 0, _ => Zia (E := ZdR) (by kernel_rfl) ZjM)) (fun d dh => by kernel_rfl)
def Zph : Nat -> Nat -> DrA
 | _, _ => ⟨[], [], [], [], [], false, []⟩
noncomputable def Zpi : List (CE CT Tryz.prog) := []
noncomputable def Zpj : List (LE CT Tryz.prog) := []
noncomputable def ZiX (h0 : Zap) : Option ((Bool) × ((Zap) × Unit)) :=
 (bif h0.place.made then
 some ((!h0.place.failed), (h0, ()))
 else
 some (false, (h0, ())))
noncomputable def Zg8 : CE CT Tryz.prog where
 f := 95
 args := [.one (.ptr 0 0)]
 hs := [.cobj 180 14]
 res := .val (.one (.bool))
 outs := [.cobj 180 14]
 m := fun d dh => ZiX dh.1
 ok := ZbS Za2 Tryz.func95 (by kernel_rfl) (Zao Zpi) (dr := Zph) (lps := Za8 Zpj) (Za4 (ZaL (by kernel_rfl))) (fun d dh => by kernel_rfl)
def ZgC : Nat -> Nat -> DrA
 | _, _ => ⟨[], [], [], [], [], false, []⟩
noncomputable def ZgD : List (CE CT Tryz.prog) := [Zg8, Zfd, Zfc]
noncomputable def Zc5 (a : ((Unit) × (Int) × (Int) × (Int) × Unit) × ((Zap) × Unit)) : Option ((((Unit) × (Int) × (Int) × (Int) × Unit) × ((Zap) × Unit)) ⊕ ((((Int) × Unit) × ((Zap) × Unit)) ⊕ (((Unit) × Unit) × ((Zap) × Unit)))) :=
 (bif (decide ((a.1.2.2.2.1 : Int) < 63)) then
 (ZbT 1 a.2.1).bind fun r1 =>
 (bif r1.2.1.place.failed then
 some (.inr (.inl ((0, ()), (r1.2.1, ()))))
 else
 (Ziz r1.1 0).bind fun e2 =>
 (if (a.1.2.2.2.1 : Int) < 0 then none else
 let y3 : Int := (IntKind.i64.wrap ((BitVec.ofInt (IntKind.i64.bits) a.1.2.2.1 ||| BitVec.ofInt (IntKind.i64.bits) (IntKind.i64.wrap ((IntKind.i64.wrap (IntKind.u8.wrap ((BitVec.ofInt (IntKind.u8.bits) (e2.toNat : Int) &&& BitVec.ofInt (IntKind.u8.bits) 127).toNat))) * 2 ^ min (a.1.2.2.2.1 : Int).toNat (IntKind.i64.bits)))).toNat))
 (Ziz r1.1 0).bind fun e4 =>
 (bif (decide (((e4.toNat : Int) : Int) < 128)) then
 (bif (decide ((0 : Int) < a.1.2.2.2.1)) then
 (Ziz r1.1 0).bind fun e5 =>
 (bif (decide (((e5.toNat : Int) : Int) = 0)) then
 (Zba r1.2.1).bind fun r6 =>
 some (.inr (.inl ((0, ()), ((⟨(⟨r6.2.1.1, r6.2.1.2.1, r6.2.1.2.2.1⟩ : ZdE)⟩ : Zap), ()))))
 else
 (bif (decide ((4611686018427387903 : Int) < y3)) then
 (Zba r1.2.1).bind fun r7 =>
 some (.inr (.inl ((0, ()), ((⟨(⟨r7.2.1.1, r7.2.1.2.1, r7.2.1.2.2.1⟩ : ZdE)⟩ : Zap), ()))))
 else
 (bif (decide ((a.1.2.1 : Int) < y3)) then
 (Zba r1.2.1).bind fun r8 =>
 some (.inr (.inl ((0, ()), ((⟨(⟨r8.2.1.1, r8.2.1.2.1, r8.2.1.2.2.1⟩ : ZdE)⟩ : Zap), ()))))
 else
 some (.inr (.inl ((y3, ()), (r1.2.1, ())))))))
 else
 (bif (decide ((4611686018427387903 : Int) < y3)) then
 (Zba r1.2.1).bind fun r9 =>
 some (.inr (.inl ((0, ()), ((⟨(⟨r9.2.1.1, r9.2.1.2.1, r9.2.1.2.2.1⟩ : ZdE)⟩ : Zap), ()))))
 else
 (bif (decide ((a.1.2.1 : Int) < y3)) then
 (Zba r1.2.1).bind fun r10 =>
 some (.inr (.inl ((0, ()), ((⟨(⟨r10.2.1.1, r10.2.1.2.1, r10.2.1.2.2.1⟩ : ZdE)⟩ : Zap), ()))))
 else
 some (.inr (.inl ((y3, ()), (r1.2.1, ())))))))
 else
 some (.inl (((), a.1.2.1, y3, (IntKind.i64.wrap (a.1.2.2.2.1 + 7)), ()), (r1.2.1, ()))))))
 else
 some (.inr (.inr (((), ()), (a.2.1, ())))))
noncomputable def Zc6 : LE CT Tryz.prog := ⟨5, [0, 1, 5, 6], [.one (.ptr 0 0), .one (.int .i64), .one (.int .i64), .one (.int .i64)], [.cobj 180 14], [⟨.ret, [4], [.one (.int .i64)], [.cobj 180 14]⟩, ⟨.exit 0, [0], [.one (.ptr 0 0)], [.cobj 180 14]⟩], Zc5⟩
noncomputable def ZgE : List (LE CT Tryz.prog) := [Zc6]
theorem Zih : ZpU Zc6 (Zoh (ZdX Tryz.f91) 0) := fun A env h k z hk => Zh9 (E := Zc6) (Zao ZgD) (dr := ZgC) (lps := Za8 ZgE) (ZaL (by kernel_rfl)) (fun a => by kernel_rfl) env h k z hk
noncomputable def Zbj (x1 : Int) (h0 : Zap) : Option ((Int) × ((Zap) × Unit)) :=
 (ZiX h0).bind fun r1 =>
 (bif (!r1.1) then
 some (0, (r1.2.1, ()))
 else
 (Zbm Zc5 (((), x1, 0, 0, ()), (r1.2.1, ()))).bind fun b2 =>
 (match b2 with
 | .inl b3 =>
 some (b3.1.1, (b3.2.1, ()))
 | .inr b4 =>
 (Zba b4.2.1).bind fun r5 =>
 some (0, ((⟨(⟨r5.2.1.1, r5.2.1.2.1, r5.2.1.2.2.1⟩ : ZdE)⟩ : Zap), ()))))
noncomputable def Zeb : CE CT Tryz.prog where
 f := 91
 args := [.one (.ptr 0 0), .one (.int .i64)]
 hs := [.cobj 180 14]
 res := .val (.one (.int .i64))
 outs := [.cobj 180 14]
 m := fun d dh => Zbj d.2.1 dh.1
 ok := ZbS Za2 Tryz.func91 (by kernel_rfl) (Zao ZgD) (dr := ZgC) (lps := Za8 ZgE) (Za4 (Zez (n := 1) (by kernel_rfl) fun i hi => match i, hi with | 0, _ => Zia (E := Zc6) (by kernel_rfl) Zih)) (fun d dh => by kernel_rfl)
def Zcx : Nat -> Nat -> DrA
 | 7, _ => ⟨[0, 1, 2, 4, 3, 5, 6, 7, 8, 9], [[], [], [1], [1, 2], [], [4], [4, 5], [1, 2, 3, 4, 5, 6], (List.range 8), (List.range 9)], [3], [5], [2], false, []⟩
 | _, _ => ⟨[], [], [], [], [], false, []⟩
noncomputable def Zcy : List (CE CT Tryz.prog) := [Zeb]
noncomputable def Zai (a : ((Unit) × (Unit) × (Unit) × (Int) × (Int) × (Int) × (Int) × Unit) × ((Zap) × ((List (Int)) × (List (Int)) × (List (Int)) × (List (Int)) × Unit) × ((Nat) × (Nat) × (Nat) × (Nat) × Unit) × (Unit) × (Unit) × (Unit) × (Unit) × (List (Int)) × (List (Int)) × (List (Int)) × (List (Int)) × Unit)) : Option ((((Unit) × (Unit) × (Unit) × (Int) × (Int) × (Int) × (Int) × Unit) × ((Zap) × ((List (Int)) × (List (Int)) × (List (Int)) × (List (Int)) × Unit) × ((Nat) × (Nat) × (Nat) × (Nat) × Unit) × (Unit) × (Unit) × (Unit) × (Unit) × (List (Int)) × (List (Int)) × (List (Int)) × (List (Int)) × Unit)) ⊕ ((((Unit) × (Unit) × (Unit) × (Int) × Unit) × ((Zap) × ((List (Int)) × (List (Int)) × (List (Int)) × (List (Int)) × Unit) × ((Nat) × (Nat) × (Nat) × (Nat) × Unit) × (Unit) × (Unit) × (Unit) × (Unit) × (Unit) × (Unit) × (Unit) × (Unit) × (Unit) × (Unit) × (Unit) × (Unit) × (List (Int)) × (List (Int)) × (List (Int)) × (List (Int)) × Unit)))) :=
 (bif (decide ((a.1.2.2.2.2.2.2.1 : Int) < a.1.2.2.2.2.2.1)) then
 (if (a.1.2.2.2.1 : Int) = ((0 : Nat) : Int) then
 (Zbj 5 a.2.1).bind fun r6 =>
 (if (a.2.2.2.1.1 + ([r6.1] : List (Int)).length) <= 140737488355328 /\ (a.2.2.2.1.1 + ([r6.1] : List (Int)).length) * 8 <= 140737488355328 /\ 0 + a.2.2.2.1.1 <= a.2.2.2.2.2.2.2.2.1.length then
 (if (a.1.2.2.2.1 : Int) = ((0 : Nat) : Int) then
 some (.inl (((), (), (), a.1.2.2.2.1, a.1.2.2.2.2.1, a.1.2.2.2.2.2.1, (IntKind.i64.wrap (a.1.2.2.2.2.2.2.1 + 1)), ()), (r6.2.1, (a.2.2.1.1, a.2.2.1.2.1, a.2.2.1.2.2.1, a.2.2.1.2.2.2.1, ()), ((a.2.2.2.1.1 + ([r6.1] : List (Int)).length), a.2.2.2.1.2.1, a.2.2.2.1.2.2.1, a.2.2.2.1.2.2.2.1, ()), (), (), (), (), (a.2.2.2.2.2.2.2.2.1.take a.2.2.2.1.1 ++ ([r6.1] : List (Int))), a.2.2.2.2.2.2.2.2.2.1, a.2.2.2.2.2.2.2.2.2.2.1, a.2.2.2.2.2.2.2.2.2.2.2.1, ())))
 else (if (a.1.2.2.2.1 : Int) = ((1 : Nat) : Int) then
 none
 else (if (a.1.2.2.2.1 : Int) = ((2 : Nat) : Int) then
 none
 else (if (a.1.2.2.2.1 : Int) = ((3 : Nat) : Int) then
 none
 else none))))
 else none)
 else (if (a.1.2.2.2.1 : Int) = ((1 : Nat) : Int) then
 (Zbj 5 a.2.1).bind fun r5 =>
 (if (a.2.2.2.1.2.1 + ([r5.1] : List (Int)).length) <= 140737488355328 /\ (a.2.2.2.1.2.1 + ([r5.1] : List (Int)).length) * 8 <= 140737488355328 /\ 0 + a.2.2.2.1.2.1 <= a.2.2.2.2.2.2.2.2.2.1.length then
 (if (a.1.2.2.2.1 : Int) = ((0 : Nat) : Int) then
 none
 else (if (a.1.2.2.2.1 : Int) = ((1 : Nat) : Int) then
 some (.inl (((), (), (), a.1.2.2.2.1, a.1.2.2.2.2.1, a.1.2.2.2.2.2.1, (IntKind.i64.wrap (a.1.2.2.2.2.2.2.1 + 1)), ()), (r5.2.1, (a.2.2.1.1, a.2.2.1.2.1, a.2.2.1.2.2.1, a.2.2.1.2.2.2.1, ()), (a.2.2.2.1.1, (a.2.2.2.1.2.1 + ([r5.1] : List (Int)).length), a.2.2.2.1.2.2.1, a.2.2.2.1.2.2.2.1, ()), (), (), (), (), a.2.2.2.2.2.2.2.2.1, (a.2.2.2.2.2.2.2.2.2.1.take a.2.2.2.1.2.1 ++ ([r5.1] : List (Int))), a.2.2.2.2.2.2.2.2.2.2.1, a.2.2.2.2.2.2.2.2.2.2.2.1, ())))
 else (if (a.1.2.2.2.1 : Int) = ((2 : Nat) : Int) then
 none
 else (if (a.1.2.2.2.1 : Int) = ((3 : Nat) : Int) then
 none
 else none))))
 else none)
 else (if (a.1.2.2.2.1 : Int) = ((2 : Nat) : Int) then
 (Zbj 5 a.2.1).bind fun r3 =>
 (if (a.2.2.2.1.2.2.1 + ([r3.1] : List (Int)).length) <= 140737488355328 /\ (a.2.2.2.1.2.2.1 + ([r3.1] : List (Int)).length) * 8 <= 140737488355328 /\ 0 + a.2.2.2.1.2.2.1 <= a.2.2.2.2.2.2.2.2.2.2.1.length then
 let y4 : List (Int) := (a.2.2.2.2.2.2.2.2.2.2.1.take a.2.2.2.1.2.2.1 ++ ([r3.1] : List (Int)))
 (if (a.1.2.2.2.1 : Int) = ((0 : Nat) : Int) then
 none
 else (if (a.1.2.2.2.1 : Int) = ((1 : Nat) : Int) then
 none
 else (if (a.1.2.2.2.1 : Int) = ((2 : Nat) : Int) then
 some (.inl (((), (), (), a.1.2.2.2.1, a.1.2.2.2.2.1, a.1.2.2.2.2.2.1, (IntKind.i64.wrap (a.1.2.2.2.2.2.2.1 + 1)), ()), (r3.2.1, (a.2.2.1.1, a.2.2.1.2.1, a.2.2.1.2.2.1, a.2.2.1.2.2.2.1, ()), (a.2.2.2.1.1, a.2.2.2.1.2.1, (a.2.2.2.1.2.2.1 + ([r3.1] : List (Int)).length), a.2.2.2.1.2.2.2.1, ()), (), (), (), (), a.2.2.2.2.2.2.2.2.1, a.2.2.2.2.2.2.2.2.2.1, y4, a.2.2.2.2.2.2.2.2.2.2.2.1, ())))
 else (if (a.1.2.2.2.1 : Int) = ((3 : Nat) : Int) then
 none
 else none))))
 else none)
 else (if (a.1.2.2.2.1 : Int) = ((3 : Nat) : Int) then
 (Zbj 5 a.2.1).bind fun r1 =>
 (if (a.2.2.2.1.2.2.2.1 + ([r1.1] : List (Int)).length) <= 140737488355328 /\ (a.2.2.2.1.2.2.2.1 + ([r1.1] : List (Int)).length) * 8 <= 140737488355328 /\ 0 + a.2.2.2.1.2.2.2.1 <= a.2.2.2.2.2.2.2.2.2.2.2.1.length then
 let y2 : List (Int) := (a.2.2.2.2.2.2.2.2.2.2.2.1.take a.2.2.2.1.2.2.2.1 ++ ([r1.1] : List (Int)))
 (if (a.1.2.2.2.1 : Int) = ((0 : Nat) : Int) then
 none
 else (if (a.1.2.2.2.1 : Int) = ((1 : Nat) : Int) then
 none
 else (if (a.1.2.2.2.1 : Int) = ((2 : Nat) : Int) then
 none
 else (if (a.1.2.2.2.1 : Int) = ((3 : Nat) : Int) then
 some (.inl (((), (), (), a.1.2.2.2.1, a.1.2.2.2.2.1, a.1.2.2.2.2.2.1, (IntKind.i64.wrap (a.1.2.2.2.2.2.2.1 + 1)), ()), (r1.2.1, (a.2.2.1.1, a.2.2.1.2.1, a.2.2.1.2.2.1, a.2.2.1.2.2.2.1, ()), (a.2.2.2.1.1, a.2.2.2.1.2.1, a.2.2.2.1.2.2.1, (a.2.2.2.1.2.2.2.1 + ([r1.1] : List (Int)).length), ()), (), (), (), (), a.2.2.2.2.2.2.2.2.1, a.2.2.2.2.2.2.2.2.2.1, a.2.2.2.2.2.2.2.2.2.2.1, y2, ())))
 else none))))
 else none)
 else none))))
 else
 some (.inr (((), (), (), a.1.2.2.2.2.1, ()), (a.2.1, (a.2.2.1.1, a.2.2.1.2.1, a.2.2.1.2.2.1, a.2.2.1.2.2.2.1, ()), (a.2.2.2.1.1, a.2.2.2.1.2.1, a.2.2.2.1.2.2.1, a.2.2.2.1.2.2.2.1, ()), (), (), (), (), (), (), (), (), (), (), (), (), a.2.2.2.2.2.2.2.2.1, a.2.2.2.2.2.2.2.2.2.1, a.2.2.2.2.2.2.2.2.2.2.1, a.2.2.2.2.2.2.2.2.2.2.2.1, ()))))
noncomputable def ZbM : LE CT Tryz.prog := ⟨6, [0, 2, 3, 4, 5, 9, 10], [.one (.ptr 0 0), .one (.ptr 1 0), .one (.ptr 2 0), .one (.int .i64), .one (.int .i64), .one (.int .i64), .one (.int .i64)], [.cobj 180 14, .obj 40 [.own 0 3, .own 0 4, .own 0 5, .own 0 6], .obj 230 [.asz 0 7, .asz 0 8, .asz 0 9, .asz 0 10], .row 3 1, .row 3 1, .row 3 1, .row 3 1, .arr 3 0 false, .arr 3 0 false, .arr 3 0 false, .arr 3 0 false], [⟨.exit 2, [0, 2, 3, 5], [.one (.ptr 0 0), .one (.ptr 1 0), .one (.ptr 2 0), .one (.int .i64)], [.cobj 180 14, .obj 40 [.own 0 11, .own 0 12, .own 0 13, .own 0 14], .obj 230 [.asz 0 15, .asz 0 16, .asz 0 17, .asz 0 18], .dead, .dead, .dead, .dead, .dead, .dead, .dead, .dead, .row 3 1, .row 3 1, .row 3 1, .row 3 1, .arr 3 0 false, .arr 3 0 false, .arr 3 0 false, .arr 3 0 false]⟩], Zai⟩
noncomputable def ZaD (a : ((Unit) × (Unit) × (Unit) × (Int) × Unit) × ((Zap) × ((List (Int)) × (List (Int)) × (List (Int)) × (List (Int)) × Unit) × ((Nat) × (Nat) × (Nat) × (Nat) × Unit) × (Unit) × (Unit) × (Unit) × (Unit) × (List (Int)) × (List (Int)) × (List (Int)) × (List (Int)) × Unit)) : Option ((((Unit) × (Unit) × (Unit) × (Int) × Unit) × ((Zap) × ((List (Int)) × (List (Int)) × (List (Int)) × (List (Int)) × Unit) × ((Nat) × (Nat) × (Nat) × (Nat) × Unit) × (Unit) × (Unit) × (Unit) × (Unit) × (List (Int)) × (List (Int)) × (List (Int)) × (List (Int)) × Unit)) ⊕ ((((Unit) × (Unit) × Unit) × ((Zap) × ((List (Int)) × (List (Int)) × (List (Int)) × (List (Int)) × Unit) × ((Nat) × (Nat) × (Nat) × (Nat) × Unit) × (Unit) × (Unit) × (Unit) × (Unit) × (Unit) × (Unit) × (Unit) × (Unit) × (Unit) × (Unit) × (Unit) × (Unit) × (List (Int)) × (List (Int)) × (List (Int)) × (List (Int)) × Unit)))) :=
 (bif (decide ((a.1.2.2.2.1 : Int) < 4)) then
 (Zbj 5 a.2.1).bind fun r1 =>
 (Zbm Zai (((), (), (), a.1.2.2.2.1, a.1.2.2.2.1, r1.1, 0, ()), (r1.2.1, (a.2.2.1.1, a.2.2.1.2.1, a.2.2.1.2.2.1, a.2.2.1.2.2.2.1, ()), (a.2.2.2.1.1, a.2.2.2.1.2.1, a.2.2.2.1.2.2.1, a.2.2.2.1.2.2.2.1, ()), (), (), (), (), a.2.2.2.2.2.2.2.2.1, a.2.2.2.2.2.2.2.2.2.1, a.2.2.2.2.2.2.2.2.2.2.1, a.2.2.2.2.2.2.2.2.2.2.2.1, ()))).bind fun b2 =>
 some (.inl (((), (), (), (IntKind.i64.wrap (b2.1.2.2.2.1 + 1)), ()), (b2.2.1, (b2.2.2.1.1, b2.2.2.1.2.1, b2.2.2.1.2.2.1, b2.2.2.1.2.2.2.1, ()), (b2.2.2.2.1.1, b2.2.2.2.1.2.1, b2.2.2.2.1.2.2.1, b2.2.2.2.1.2.2.2.1, ()), (), (), (), (), b2.2.2.2.2.2.2.2.2.2.2.2.2.2.2.2.2.1, b2.2.2.2.2.2.2.2.2.2.2.2.2.2.2.2.2.2.1, b2.2.2.2.2.2.2.2.2.2.2.2.2.2.2.2.2.2.2.1, b2.2.2.2.2.2.2.2.2.2.2.2.2.2.2.2.2.2.2.2.1, ())))
 else
 some (.inr (((), (), ()), (a.2.1, (a.2.2.1.1, a.2.2.1.2.1, a.2.2.1.2.2.1, a.2.2.1.2.2.2.1, ()), (a.2.2.2.1.1, a.2.2.2.1.2.1, a.2.2.2.1.2.2.1, a.2.2.2.1.2.2.2.1, ()), (), (), (), (), (), (), (), (), (), (), (), (), a.2.2.2.2.2.2.2.2.1, a.2.2.2.2.2.2.2.2.2.1, a.2.2.2.2.2.2.2.2.2.2.1, a.2.2.2.2.2.2.2.2.2.2.2.1, ()))))
noncomputable def ZbN : LE CT Tryz.prog := ⟨3, [0, 2, 3, 5], [.one (.ptr 0 0), .one (.ptr 1 0), .one (.ptr 2 0), .one (.int .i64)], [.cobj 180 14, .obj 40 [.own 0 3, .own 0 4, .own 0 5, .own 0 6], .obj 230 [.asz 0 7, .asz 0 8, .asz 0 9, .asz 0 10], .row 3 1, .row 3 1, .row 3 1, .row 3 1, .arr 3 0 false, .arr 3 0 false, .arr 3 0 false, .arr 3 0 false], [⟨.exit 0, [2, 3], [.one (.ptr 1 0), .one (.ptr 2 0)], [.cobj 180 14, .obj 40 [.own 0 11, .own 0 12, .own 0 13, .own 0 14], .obj 230 [.asz 0 15, .asz 0 16, .asz 0 17, .asz 0 18], .dead, .dead, .dead, .dead, .dead, .dead, .dead, .dead, .row 3 1, .row 3 1, .row 3 1, .row 3 1, .arr 3 0 false, .arr 3 0 false, .arr 3 0 false, .arr 3 0 false]⟩], ZaD⟩
noncomputable def Zcz : List (LE CT Tryz.prog) := [ZbM, ZbN]
theorem ZfG : ZpU ZbM (Zoh (Zoh (ZdX Tryz.f92) 0) 0) := fun A env h k z hk => Zh9 (E := ZbM) (Zao Zcy) (dr := Zcx) (lps := Za8 Zcz) (ZaL (by kernel_rfl)) (fun a => by kernel_rfl) env h k z hk
theorem ZfH : ZpU ZbN (Zoh (ZdX Tryz.f92) 0) := fun A env h k z hk => Zh9 (E := ZbN) (Zao Zcy) (dr := Zcx) (lps := Za8 Zcz) (Zez (n := 1) (by kernel_rfl) fun i hi => match i, hi with | 0, _ => Zia (E := ZbM) (by kernel_rfl) ZfG) (fun a => by kernel_rfl) env h k z hk
noncomputable def Zcn (h0 : Zap) : Option (((Nat) × (Nat) × (Nat) × (Nat) × Unit) × ((Zap) × (List (Int)) × (List (Int)) × (List (Int)) × (List (Int)) × Unit)) :=
 (Zbm ZaD (((), (), (), 0, ()), (h0, ([], [], [], [], ()), (0, 0, 0, 0, ()), (), (), (), (), [], [], [], [], ()))).bind fun b1 =>
 some ((b1.2.2.2.1.1, b1.2.2.2.1.2.1, b1.2.2.2.1.2.2.1, b1.2.2.2.1.2.2.2.1, ()), (b1.2.1, b1.2.2.2.2.2.2.2.2.2.2.2.2.2.2.2.2.1, b1.2.2.2.2.2.2.2.2.2.2.2.2.2.2.2.2.2.1, b1.2.2.2.2.2.2.2.2.2.2.2.2.2.2.2.2.2.2.1, b1.2.2.2.2.2.2.2.2.2.2.2.2.2.2.2.2.2.2.2.1, ()))
noncomputable def Zg9 : CE CT Tryz.prog where
 f := 92
 args := [.one (.ptr 0 0)]
 hs := [.cobj 180 14]
 res := .val (.agg [.asz 0 1, .asz 0 2, .asz 0 3, .asz 0 4])
 outs := [.cobj 180 14, .arr 3 0 false, .arr 3 0 false, .arr 3 0 false, .arr 3 0 false]
 m := fun d dh => Zcn dh.1
 ok := ZbS Za2 Tryz.func92 (by kernel_rfl) (Zao Zcy) (dr := Zcx) (lps := Za8 Zcz) (Za4 (Zez (n := 1) (by kernel_rfl) fun i hi => match i, hi with | 0, _ => Zia (E := ZbN) (by kernel_rfl) ZfH)) (fun d dh => by kernel_rfl)
def Zpk : Nat -> Nat -> DrA
 | _, _ => ⟨[], [], [], [], [], false, []⟩
noncomputable def Zpl : List (CE CT Tryz.prog) := [Zg8]
noncomputable def Zpm : List (LE CT Tryz.prog) := []
noncomputable def Zpn (h0 : Zap) : Option ((Int) × ((Zap) × Unit)) :=
 (ZiX h0).bind fun r1 =>
 (bif (!r1.1) then
 some (0, (r1.2.1, ()))
 else
 some ((r1.2.1.place.left.length : Int), (r1.2.1, ())))
noncomputable def Zpo : CE CT Tryz.prog where
 f := 156
 args := [.one (.ptr 0 0)]
 hs := [.cobj 180 14]
 res := .val (.one (.int .i64))
 outs := [.cobj 180 14]
 m := fun d dh => Zpn dh.1
 ok := ZbS Za2 Tryz.func156 (by kernel_rfl) (Zao Zpl) (dr := Zpk) (lps := Za8 Zpm) (Za4 (ZaL (by kernel_rfl))) (fun d dh => by kernel_rfl)
def ZqK : Nat -> Nat -> DrA
 | _, _ => ⟨[], [], [], [], [], false, []⟩
noncomputable def ZqL : List (CE CT Tryz.prog) := []
noncomputable def ZqM : List (LE CT Tryz.prog) := []
noncomputable def ZiY (h0 : Zap) : Option ((Int) × ((Zap) × Unit)) :=
 (bif (!h0.place.made) then
 some (1, (h0, ()))
 else
 (bif h0.place.failed then
 some (4, (h0, ()))
 else
 (bif (decide ((0 : Int) < (h0.place.left.length : Int))) then
 some (4, (h0, ()))
 else
 some (0, (h0, ())))))
noncomputable def ZlU : CE CT Tryz.prog where
 f := 53
 args := [.one (.ptr 0 0)]
 hs := [.cobj 180 14]
 res := .val (.one (.int .i64))
 outs := [.cobj 180 14]
 m := fun d dh => ZiY dh.1
 ok := ZbS Za2 Tryz.func53 (by kernel_rfl) (Zao ZqL) (dr := ZqK) (lps := Za8 ZqM) (Za4 (ZaL (by kernel_rfl))) (fun d dh => by kernel_rfl)
def ZjN : Nat -> Nat -> DrA
 | _, _ => ⟨[], [], [], [], [], false, []⟩
noncomputable def ZjO : List (CE CT Tryz.prog) := [Zpo, ZlU]
noncomputable def ZjP : List (LE CT Tryz.prog) := []
noncomputable def ZdS (h0 : Zap) : Option ((Bool) × ((Zap) × Unit)) :=
 (Zpn h0).bind fun r1 =>
 (bif (decide ((r1.1 : Int) = 0)) then
 (ZiY r1.2.1).bind fun r2 =>
 some ((decide ((r2.1 : Int) ≠ 0)), (r2.2.1, ()))
 else
 some (false, (r1.2.1, ())))
noncomputable def ZjQ : CE CT Tryz.prog where
 f := 93
 args := [.one (.ptr 0 0)]
 hs := [.cobj 180 14]
 res := .val (.one (.bool))
 outs := [.cobj 180 14]
 m := fun d dh => ZdS dh.1
 ok := ZbS Za2 Tryz.func93 (by kernel_rfl) (Zao ZjO) (dr := ZjN) (lps := Za8 ZjP) (Za4 (ZaL (by kernel_rfl))) (fun d dh => by kernel_rfl)
def ZjR : Nat -> Nat -> DrA
 | _, _ => ⟨[], [], [], [], [], false, []⟩
noncomputable def ZjS : List (CE CT Tryz.prog) := []
noncomputable def ZjT : List (LE CT Tryz.prog) := []
noncomputable def ZcS (x0 : Int) (x1 : Int) : Option ((Bool) × (Unit)) :=
 (bif (decide ((0 : Int) <= x0)) then
 some ((decide ((x0 : Int) <= x1)), ())
 else
 some (false, ()))
noncomputable def ZjU : CE CT Tryz.prog where
 f := 157
 args := [.one (.int .i64), .one (.int .i64)]
 hs := []
 res := .val (.one (.bool))
 outs := []
 m := fun d dh => ZcS d.1 d.2.1
 ok := ZbS Za2 Tryz.func157 (by kernel_rfl) (Zao ZjS) (dr := ZjR) (lps := Za8 ZjT) (Za4 (ZaL (by kernel_rfl))) (fun d dh => by kernel_rfl)
def ZgF : Nat -> Nat -> DrA
 | _, _ => ⟨[], [], [], [], [], false, []⟩
noncomputable def ZgG : List (CE CT Tryz.prog) := []
noncomputable def Zc7 (a : ((Nat) × (Nat) × (Int) × (Int) × Unit) × ((List (Int)) × Unit)) : Option ((((Nat) × (Nat) × (Int) × (Int) × Unit) × ((List (Int)) × Unit)) ⊕ ((((Bool) × Unit) × ((List (Int)) × Unit)) ⊕ ((Unit) × ((List (Int)) × Unit)))) :=
 (bif (decide ((a.1.2.2.2.1 : Int) < a.1.2.2.1)) then
 (if 0 <= (a.1.2.2.2.1 : Int) /\ (a.1.2.2.2.1 : Int) < ((a.1.2.1 : Nat) : Int) then
 (a.2.1[(0 + (a.1.2.2.2.1 : Int).toNat)]?).bind fun e1 =>
 (bif (decide ((e1 : Int) < 1)) then
 some (.inr (.inl ((false, ()), (a.2.1, ()))))
 else
 (bif (decide ((5 : Int) < e1)) then
 some (.inr (.inl ((false, ()), (a.2.1, ()))))
 else
 (bif (decide ((0 : Int) < a.1.2.2.2.1)) then
 (if 0 <= ((IntKind.i64.wrap (a.1.2.2.2.1 - 1)) : Int) /\ ((IntKind.i64.wrap (a.1.2.2.2.1 - 1)) : Int) < ((a.1.1 : Nat) : Int) then
 (a.2.1[(0 + ((IntKind.i64.wrap (a.1.2.2.2.1 - 1)) : Int).toNat)]?).bind fun e2 =>
 (bif (decide ((e1 : Int) <= e2)) then
 some (.inr (.inl ((false, ()), (a.2.1, ()))))
 else
 some (.inl ((a.1.1, a.1.2.1, a.1.2.2.1, (IntKind.i64.wrap (a.1.2.2.2.1 + 1)), ()), (a.2.1, ()))))
 else none)
 else
 some (.inl ((a.1.1, a.1.2.1, a.1.2.2.1, (IntKind.i64.wrap (a.1.2.2.2.1 + 1)), ()), (a.2.1, ()))))))
 else none)
 else
 some (.inr (.inr ((), (a.2.1, ())))))
noncomputable def Zc8 : LE CT Tryz.prog := ⟨2, [0, 5, 6, 7], [.one (.asz 0 0), .one (.asz 0 0), .one (.int .i64), .one (.int .i64)], [.arr 3 0 true], [⟨.ret, [2], [.one (.bool)], [.arr 3 0 true]⟩, ⟨.exit 0, [], [], [.arr 3 0 true]⟩], Zc7⟩
noncomputable def ZgH : List (LE CT Tryz.prog) := [Zc8]
theorem Zii : ZpU Zc8 (Zoh (ZdX Tryz.f199) 0) := fun A env h k z hk => Zh9 (E := Zc8) (Zao ZgG) (dr := ZgF) (lps := Za8 ZgH) (ZaL (by kernel_rfl)) (fun a => by kernel_rfl) env h k z hk
noncomputable def ZbO (x0 : Nat) (h0 : List (Int)) : Option ((Bool) × ((List (Int)) × Unit)) :=
 (Zbm Zc7 ((x0, x0, ((x0 : Nat) : Int), 0, ()), (h0, ()))).bind fun b1 =>
 (match b1 with
 | .inl b2 =>
 some (b2.1.1, (b2.2.1, ()))
 | .inr b3 =>
 some (true, (b3.2.1, ())))
noncomputable def ZkC : CE CT Tryz.prog where
 f := 199
 args := [.one (.asz 0 0)]
 hs := [.arr 3 0 true]
 res := .val (.one (.bool))
 outs := [.arr 3 0 true]
 m := fun d dh => ZbO d.1 dh.1
 ok := ZbS Za2 Tryz.func199 (by kernel_rfl) (Zao ZgG) (dr := ZgF) (lps := Za8 ZgH) (Za4 (Zez (n := 1) (by kernel_rfl) fun i hi => match i, hi with | 0, _ => Zia (E := Zc8) (by kernel_rfl) Zii)) (fun d dh => by kernel_rfl)
def ZjV : Nat -> Nat -> DrA
 | _, _ => ⟨[], [], [], [], [], false, []⟩
noncomputable def ZjW : List (CE CT Tryz.prog) := [ZkC]
noncomputable def ZjX : List (LE CT Tryz.prog) := []
noncomputable def ZdT (x0 : (Nat) × (Nat) × (Nat) × (Nat) × Unit) (h0 : List (Int)) (h1 : List (Int)) (h2 : List (Int)) (h3 : List (Int)) : Option ((Bool) × ((List (Int)) × (List (Int)) × (List (Int)) × (List (Int)) × Unit)) :=
 (ZbO x0.1 h0).bind fun r1 =>
 (bif r1.1 then
 (ZbO x0.2.1 h1).bind fun r2 =>
 (bif r2.1 then
 (ZbO x0.2.2.1 h2).bind fun r3 =>
 (bif r3.1 then
 (ZbO x0.2.2.2.1 h3).bind fun r4 =>
 some (r4.1, (r1.2.1, r2.2.1, r3.2.1, r4.2.1, ()))
 else
 some (false, (r1.2.1, r2.2.1, r3.2.1, h3, ())))
 else
 some (false, (r1.2.1, r2.2.1, h2, h3, ())))
 else
 some (false, (r1.2.1, h1, h2, h3, ())))
noncomputable def ZjY : CE CT Tryz.prog where
 f := 158
 args := [.agg [.asz 0 0, .asz 0 1, .asz 0 2, .asz 0 3]]
 hs := [.arr 3 0 true, .arr 3 0 true, .arr 3 0 true, .arr 3 0 true]
 res := .val (.one (.bool))
 outs := [.arr 3 0 true, .arr 3 0 true, .arr 3 0 true, .arr 3 0 true]
 m := fun d dh => ZdT d.1 dh.1 dh.2.1 dh.2.2.1 dh.2.2.2.1
 ok := ZbS Za2 Tryz.func158 (by kernel_rfl) (Zao ZjW) (dr := ZjV) (lps := Za8 ZjX) (Za4 (ZaL (by kernel_rfl))) (fun d dh => by kernel_rfl)
def ZlV : Nat -> Nat -> DrA
 | _, _ => ⟨[], [], [], [], [], false, []⟩
noncomputable def ZlW : List (CE CT Tryz.prog) := [ZjU, ZjY]
noncomputable def ZlX : List (LE CT Tryz.prog) := []
noncomputable def Ze4 (x0 : (Int) × (Int) × (Nat) × (Nat) × (Nat) × (Nat) × Unit) (h0 : List (Int)) (h1 : List (Int)) (h2 : List (Int)) (h3 : List (Int)) : Option ((Bool) × ((List (Int)) × (List (Int)) × (List (Int)) × (List (Int)) × Unit)) :=
 (ZcS x0.1 1073741824).bind fun r1 =>
 (bif r1.1 then
 (ZcS x0.2.1 1073741824).bind fun r2 =>
 (bif r2.1 then
 (ZdT (x0.2.2.1, x0.2.2.2.1, x0.2.2.2.2.1, x0.2.2.2.2.2.1, ()) h0 h1 h2 h3).bind fun r3 =>
 some (r3.1, (r3.2.1, r3.2.2.1, r3.2.2.2.1, r3.2.2.2.2.1, ()))
 else
 some (false, (h0, h1, h2, h3, ())))
 else
 some (false, (h0, h1, h2, h3, ())))
noncomputable def ZlY : CE CT Tryz.prog where
 f := 94
 args := [.agg [.int .i64, .int .i64, .asz 0 0, .asz 0 1, .asz 0 2, .asz 0 3]]
 hs := [.arr 3 0 true, .arr 3 0 true, .arr 3 0 true, .arr 3 0 true]
 res := .val (.one (.bool))
 outs := [.arr 3 0 true, .arr 3 0 true, .arr 3 0 true, .arr 3 0 true]
 m := fun d dh => Ze4 d.1 dh.1 dh.2.1 dh.2.2.1 dh.2.2.2.1
 ok := ZbS Za2 Tryz.func94 (by kernel_rfl) (Zao ZlW) (dr := ZlV) (lps := Za8 ZlX) (Za4 (ZaL (by kernel_rfl))) (fun d dh => by kernel_rfl)
def Zij : Nat -> Nat -> DrA
 | _, _ => ⟨[], [], [], [], [], false, []⟩
noncomputable def Zik : List (CE CT Tryz.prog) := [Zmu, Zeb, Zg9, ZjQ, ZlY]
noncomputable def Zil : List (LE CT Tryz.prog) := []
noncomputable def Zcg (h0 : (Bool) × (Bool) × (List (UInt8)) × Unit) : Option ((((Int) × (Int) × (Nat) × (Nat) × (Nat) × (Nat) × Unit) × (Bool) × Unit) × ((Zap) × (Unit) × (List (Int)) × (List (Int)) × (List (Int)) × (List (Int)) × Unit)) :=
 (Zgn 1073741824 (h0.1, h0.2.1, h0.2.2.1, ())).bind fun r1 =>
 (Zbj 1073741824 r1.2.1).bind fun r2 =>
 (Zcn r2.2.1).bind fun r3 =>
 (ZdS r3.2.1).bind fun r4 =>
 (bif r4.1 then
 some (((0, 0, 0, 0, 0, 0, ()), false, ()), (r4.2.1, (), [], [], [], [], ()))
 else
 (Ze4 (r1.1, r2.1, r3.1.1, r3.1.2.1, r3.1.2.2.1, r3.1.2.2.2.1, ()) r3.2.2.1 r3.2.2.2.1 r3.2.2.2.2.1 r3.2.2.2.2.2.1).bind fun r5 =>
 (bif (!r5.1) then
 some (((0, 0, 0, 0, 0, 0, ()), false, ()), (r4.2.1, (), [], [], [], [], ()))
 else
 some (((r1.1, r2.1, r3.1.1, r3.1.2.1, r3.1.2.2.1, r3.1.2.2.2.1, ()), true, ()), (r4.2.1, (), r5.2.1, r5.2.2.1, r5.2.2.2.1, r5.2.2.2.2.1, ()))))
noncomputable def ZeG : CE CT Tryz.prog where
 f := 51
 args := [.one (.ptr 0 0)]
 hs := [.obj 180 [.bool, .bool, .own 1 1], .row 5 1]
 res := .tup [.agg [.int .i64, .int .i64, .asz 0 2, .asz 0 3, .asz 0 4, .asz 0 5], .one (.bool)]
 outs := [.cobj 180 14, .dead, .arr 3 0 false, .arr 3 0 false, .arr 3 0 false, .arr 3 0 false]
 m := fun d dh => Zcg dh.1
 ok := ZbS Za2 Tryz.func51 (by kernel_rfl) (Zao Zik) (dr := Zij) (lps := Za8 Zil) (Za4 (ZaL (by kernel_rfl))) (fun d dh => by kernel_rfl)
def Zmv : Nat -> Nat -> DrA
 | 1, _ => ⟨[1, 0, 2, 3, 4, 5, 6, 7, 8], [[], [], [0, 1], [0, 1, 2], [0, 1, 2, 3], (List.range 5), (List.range 5), (List.range 6), (List.range 8)], [1], [0], [0], false, []⟩
 | _, _ => ⟨[], [], [], [], [], false, []⟩
noncomputable def Zmw : List (CE CT Tryz.prog) := [ZfA, Zec, Zkp, ZfF, ZeG]
noncomputable def Zmx : List (LE CT Tryz.prog) := []
noncomputable def Zgo (x0 : ZeC) : Option ((Bool) × (Unit)) :=
 (Zfb).bind fun r1 =>
 (Zb5 x0 (r1.2.1.1, r1.2.1.2.1, r1.2.1.2.2.1, ())).bind fun r2 =>
 (ZfE (r2.2.1.1, r2.2.1.2.1, r2.2.1.2.2.1, ())).bind fun r3 =>
 (bif (decide ((r3.1.2.1 : Int) ≠ 0)) then
 some (false, ())
 else
 (ZcR r3.1.1).bind fun r4 =>
 (Zcg (r4.2.1.1, r4.2.1.2.1, r4.2.1.2.2.1, ())).bind fun r5 =>
 some (r5.1.2.1, ()))
noncomputable def Zmy : CE CT Tryz.prog where
 f := 70
 args := [.cod 9]
 hs := []
 res := .val (.one (.bool))
 outs := []
 m := fun d dh => Zgo d.1
 ok := ZbS Za2 Tryz.func70 (by kernel_rfl) (Zao Zmw) (dr := Zmv) (lps := Za8 Zmx) (Za4 (ZaL (by kernel_rfl))) (fun d dh => by kernel_rfl)
def Zkq : Nat -> Nat -> DrA
 | _, _ => ⟨[], [], [], [], [], false, []⟩
noncomputable def Zkr : List (CE CT Tryz.prog) := [Zgm, ZhV, ZlT]
noncomputable def Ze5 (a : ((Unit) × (Nat × Nat × Nat) × (Int) × (Int) × Unit) × (((Bool) × (Bool) × (List (UInt8)) × Unit) × (List (List (UInt8))) × (Unit) × Unit)) : Option ((((Unit) × (Nat × Nat × Nat) × (Int) × (Int) × Unit) × (((Bool) × (Bool) × (List (UInt8)) × Unit) × (List (List (UInt8))) × (Unit) × Unit)) ⊕ ((((Unit) × Unit) × (((Bool) × (Bool) × (List (UInt8)) × Unit) × (List (List (UInt8))) × (Unit) × (Unit) × Unit)))) :=
 (bif (decide ((a.1.2.2.2.1 : Int) < a.1.2.2.1)) then
 (if 0 <= (a.1.2.2.2.1 : Int) /\ (a.1.2.2.2.1 : Int) < ((a.1.2.1.2.1 : Nat) : Int) then
 (a.2.2.1[(a.1.2.1.1 + (a.1.2.2.2.1 : Int).toNat)]?).bind fun e1 =>
 (ZdL (e1.length : Int) (a.2.1.1, a.2.1.2.1, a.2.1.2.2.1, ())).bind fun r2 =>
 (Zho e1 (r2.2.1.1, r2.2.1.2.1, r2.2.1.2.2.1, ())).bind fun r3 =>
 some (.inl (((), (a.1.2.1.1, a.1.2.1.2.1, a.1.2.1.2.2), a.1.2.2.1, (IntKind.i64.wrap (a.1.2.2.2.1 + 1)), ()), ((r3.2.1.1, r3.2.1.2.1, r3.2.1.2.2.1, ()), a.2.2.1, (), ())))
 else none)
 else
 some (.inr (((), ()), ((a.2.1.1, a.2.1.2.1, a.2.1.2.2.1, ()), a.2.2.1, (), (), ()))))
noncomputable def Ze6 : LE CT Tryz.prog := ⟨3, [0, 9, 10, 11], [.one (.ptr 0 0), .one (.as 3 1), .one (.int .i64), .one (.int .i64)], [.obj 218 [.bool, .bool, .own 1 2], .arr 22 3 true, .row 5 1], [⟨.exit 0, [0], [.one (.ptr 0 0)], [.obj 218 [.bool, .bool, .own 1 3], .arr 22 3 true, .dead, .row 5 1]⟩], Ze5⟩
noncomputable def Zks : List (LE CT Tryz.prog) := [Ze6]
theorem ZlZ : ZpU Ze6 (Zoh (ZdX Tryz.f73) 0) := fun A env h k z hk => Zh9 (E := Ze6) (Zao Zkr) (dr := Zkq) (lps := Za8 Zks) (ZaL (by kernel_rfl)) (fun a => by kernel_rfl) env h k z hk
noncomputable def ZiZ (x1 : Nat × Nat × Nat) (h0 : (Bool) × (Bool) × (List (UInt8)) × Unit) (h1 : List (List (UInt8))) : Option ((Unit) × (((Bool) × (Bool) × (List (UInt8)) × Unit) × (List (List (UInt8))) × (Unit) × (Unit) × Unit)) :=
 (Zhn (h0.1, h0.2.1, h0.2.2.1, ())).bind fun r1 =>
 (bif r1.1 then
 (Zbm Ze5 (((), (x1.1, x1.2.1, x1.2.2), ((x1.2.1 : Nat) : Int), 0, ()), ((r1.2.1.1, r1.2.1.2.1, r1.2.1.2.2.1, ()), h1, (), ()))).bind fun b2 =>
 some ((), ((b2.2.1.1, b2.2.1.2.1, b2.2.1.2.2.1, ()), b2.2.2.1, (), (), ()))
 else
 some ((), ((r1.2.1.1, r1.2.1.2.1, r1.2.1.2.2.1, ()), h1, (), (), ())))
noncomputable def Zpp : CE CT Tryz.prog where
 f := 73
 args := [.one (.ptr 0 0), .one (.as 3 1)]
 hs := [.obj 218 [.bool, .bool, .own 1 2], .arr 22 3 true, .row 5 1]
 res := .val (.one (.ptr 0 0))
 outs := [.obj 218 [.bool, .bool, .own 1 3], .arr 22 3 true, .dead, .row 5 1]
 m := fun d dh => ZiZ d.2.1 dh.1 dh.2.1
 ok := ZbS Za2 Tryz.func73 (by kernel_rfl) (Zao Zkr) (dr := Zkq) (lps := Za8 Zks) (Za4 (Zez (n := 1) (by kernel_rfl) fun i hi => match i, hi with | 0, _ => Zia (E := Ze6) (by kernel_rfl) ZlZ)) (fun d dh => by kernel_rfl)
def Zmz : Nat -> Nat -> DrA
 | 5, _ => ⟨[1, 4, 2, 5, 0, 3, 6, 7, 8, 9, 10, 11, 12], [[], [], [1], [0, 1, 2], [], [4], [4, 5], (List.range 7), (List.range 8), (List.range 9), (List.range 9), (List.range 11), (List.range 12)], [2, 5], [0, 3], [0], false, [6]⟩
 | _, _ => ⟨[], [], [], [], [], false, []⟩
noncomputable def ZmA : List (CE CT Tryz.prog) := [Zmy, ZfA, Zec, Zpp, Zkp]
noncomputable def ZmB : List (LE CT Tryz.prog) := []
noncomputable def Zda (x0 : Zbe) : Option (((List (UInt8)) × (Int) × Unit) × ((Unit) × Unit)) :=
 (Zgo x0.base).bind fun r1 =>
 (bif (!r1.1) then
 some (([], 2, ()), ((), ()))
 else
 (bif (decide ((131072 : Int) < (x0.bytes.length : Int))) then
 some (([], 3, ()), ((), ()))
 else
 (Zfb).bind fun r2 =>
 (Zb5 x0.base (r2.2.1.1, r2.2.1.2.1, r2.2.1.2.2.1, ())).bind fun r3 =>
 (ZiZ (0, 1, 1) (r3.2.1.1, r3.2.1.2.1, r3.2.1.2.2.1, ()) ([x0.bytes] : List (List (UInt8)))).bind fun r4 =>
 (ZfE (r4.2.1.1, r4.2.1.2.1, r4.2.1.2.2.1, ())).bind fun r5 =>
 some ((r5.1.1, r5.1.2.1, ()), ((), ()))))
noncomputable def ZmC : CE CT Tryz.prog where
 f := 26
 args := [.cod 10]
 hs := []
 res := .tup [.one (.own 1 0), .one (.int .i64)]
 outs := [.row 5 1]
 m := fun d dh => Zda d.1
 ok := ZbS Za2 Tryz.func26 (by kernel_rfl) (Zao ZmA) (dr := Zmz) (lps := Za8 ZmB) (Za4 (ZaL (by kernel_rfl))) (fun d dh => by kernel_rfl)
def ZqN : Nat -> Nat -> DrA
 | _, _ => ⟨[], [], [], [], [], false, []⟩
noncomputable def ZqO : List (CE CT Tryz.prog) := [Zeb, Zg8, Zfd, Zhl]
noncomputable def ZqP : List (LE CT Tryz.prog) := []
noncomputable def ZkV (x1 : Int) (h0 : Zap) : Option ((List (UInt8)) × ((Zap) × (Unit) × Unit)) :=
 (Zbj x1 h0).bind fun r1 =>
 (ZiX r1.2.1).bind fun r2 =>
 (bif (!r2.1) then
 some ([], (r2.2.1, (), ()))
 else
 (ZbT r1.1 r2.2.1).bind fun r3 =>
 (Zfa r3.1).bind fun r4 =>
 some (r4.1, (r3.2.1, (), ())))
noncomputable def ZqQ : CE CT Tryz.prog where
 f := 52
 args := [.one (.ptr 0 0), .one (.int .i64)]
 hs := [.cobj 180 14]
 res := .val (.one (.own 1 1))
 outs := [.cobj 180 14, .row 5 1]
 m := fun d dh => ZkV d.2.1 dh.1
 ok := ZbS Za2 Tryz.func52 (by kernel_rfl) (Zao ZqO) (dr := ZqN) (lps := Za8 ZqP) (Za4 (ZaL (by kernel_rfl))) (fun d dh => by kernel_rfl)
def Zpq : Nat -> Nat -> DrA
 | 3, _ => ⟨[1, 0, 2, 3, 4, 5], [[], [], [1], [0, 1, 2], [], (List.range 5)], [0], [2], [7], false, []⟩
 | _, _ => ⟨[], [], [], [], [], false, []⟩
noncomputable def Zpr : List (CE CT Tryz.prog) := [ZfF, ZeG, ZqQ, ZlU]
noncomputable def Zps : List (LE CT Tryz.prog) := []
noncomputable def ZfI (x0 : List (UInt8)) : Option ((((Int) × (Int) × (Nat) × (Nat) × (Nat) × (Nat) × (List (UInt8)) × Unit) × (Bool) × Unit) × ((List (Int)) × (List (Int)) × (List (Int)) × (List (Int)) × Unit)) :=
 (ZcR x0).bind fun r1 =>
 (Zcg (r1.2.1.1, r1.2.1.2.1, r1.2.1.2.2.1, ())).bind fun r2 =>
 (ZkV 131072 r2.2.1).bind fun r3 =>
 (bif (!r2.1.2.1) then
 some (((0, 0, 0, 0, 0, 0, [], ()), false, ()), ([], [], [], [], ()))
 else
 (ZiY r3.2.1).bind fun r4 =>
 (bif (decide ((r4.1 : Int) ≠ 0)) then
 some (((0, 0, 0, 0, 0, 0, [], ()), false, ()), ([], [], [], [], ()))
 else
 some (((r2.1.1.1, r2.1.1.2.1, r2.1.1.2.2.1, r2.1.1.2.2.2.1, r2.1.1.2.2.2.2.1, r2.1.1.2.2.2.2.2.1, r3.1, ()), true, ()), (r2.2.2.2.1, r2.2.2.2.2.1, r2.2.2.2.2.2.1, r2.2.2.2.2.2.2.1, ()))))
noncomputable def Zpt : CE CT Tryz.prog where
 f := 16
 args := [.one (.sl 1)]
 hs := []
 res := .tup [.agg [.int .i64, .int .i64, .asz 0 0, .asz 0 1, .asz 0 2, .asz 0 3, .sl 1], .one (.bool)]
 outs := [.arr 3 0 false, .arr 3 0 false, .arr 3 0 false, .arr 3 0 false]
 m := fun d dh => ZfI d.1
 ok := ZbS Za2 Tryz.func16 (by kernel_rfl) (Zao Zpr) (dr := Zpq) (lps := Za8 Zps) (Za4 (ZaL (by kernel_rfl))) (fun d dh => by kernel_rfl)
def Zdg : Nat -> Nat -> DrA
 | 6, _ => ⟨[0, 1, 2, 4, 5, 6, 3, 7, 8], [[], [], [0, 1], [0, 1, 2], [], [], [4, 5], [4, 5, 6], (List.range 8)], [], [], [], false, []⟩
 | _, _ => ⟨[], [], [], [], [], false, []⟩
noncomputable def Zdh : List (CE CT Tryz.prog) := []
noncomputable def Za6 (a : ((List (Int)) × (List (Int)) × (Int) × Unit) × (Unit)) : Option ((((List (Int)) × (List (Int)) × (Int) × Unit) × (Unit)) ⊕ ((((Bool) × Unit) × (Unit)) ⊕ ((Unit) × (Unit)))) :=
 (bif (decide ((a.1.2.2.1 : Int) < (a.1.1.length : Int))) then
 (Ziz a.1.1 a.1.2.2.1).bind fun e1 =>
 (Ziz a.1.2.1 a.1.2.2.1).bind fun e2 =>
 (bif (decide ((e1 : Int) ≠ e2)) then
 some (.inr (.inl ((false, ()), ())))
 else
 some (.inl ((a.1.1, a.1.2.1, (IntKind.i64.wrap (a.1.2.2.1 + 1)), ()), ())))
 else
 some (.inr (.inr ((), ()))))
noncomputable def Zbo : LE CT Tryz.prog := ⟨4, [0, 1, 5], [.one (.sl 0), .one (.sl 0), .one (.int .i64)], [], [⟨.ret, [4], [.one (.bool)], []⟩, ⟨.exit 0, [], [], []⟩], Za6⟩
noncomputable def Zdi : List (LE CT Tryz.prog) := [Zbo]
theorem ZeH : ZpU Zbo (Zoh (ZdX Tryz.f154) 0) := fun A env h k z hk => Zh9 (E := Zbo) (Zao Zdh) (dr := Zdg) (lps := Za8 Zdi) (ZaL (by kernel_rfl)) (fun a => by kernel_rfl) env h k z hk
noncomputable def ZaZ (x0 : List (Int)) (x1 : List (Int)) : Option ((Bool) × (Unit)) :=
 (bif (decide (((x0.length : Int) : Int) ≠ (x1.length : Int))) then
 some (false, ())
 else
 (Zbm Za6 ((x0, x1, 0, ()), ())).bind fun b1 =>
 (match b1 with
 | .inl b2 =>
 some (b2.1.1, ())
 | .inr b3 =>
 some (true, ())))
noncomputable def ZfJ : CE CT Tryz.prog where
 f := 154
 args := [.one (.sl 0), .one (.sl 0)]
 hs := []
 res := .val (.one (.bool))
 outs := []
 m := fun d dh => ZaZ d.1 d.2.1
 ok := ZbS Za2 Tryz.func154 (by kernel_rfl) (Zao Zdh) (dr := Zdg) (lps := Za8 Zdi) (Za4 (Zez (n := 1) (by kernel_rfl) fun i hi => match i, hi with | 0, _ => Zia (E := Zbo) (by kernel_rfl) ZeH)) (fun d dh => by kernel_rfl)
def ZeM : Nat -> Nat -> DrA
 | _, _ => ⟨[], [], [], [], [], false, []⟩
noncomputable def ZeN : List (CE CT Tryz.prog) := [ZfJ]
noncomputable def ZeO : List (LE CT Tryz.prog) := []
noncomputable def Zbu (x0 : Zck) (x1 : Zck) : Option ((Bool) × (Unit)) :=
 (ZaZ x0.voters x1.voters).bind fun r1 =>
 (bif r1.1 then
 (ZaZ x0.old x1.old).bind fun r2 =>
 (bif r2.1 then
 (ZaZ x0.learners x1.learners).bind fun r3 =>
 (bif r3.1 then
 (ZaZ x0.want x1.want).bind fun r4 =>
 some (r4.1, ())
 else
 some (false, ()))
 else
 some (false, ()))
 else
 some (false, ()))
noncomputable def ZeP : CE CT Tryz.prog where
 f := 89
 args := [.cod 8, .cod 8]
 hs := []
 res := .val (.one (.bool))
 outs := []
 m := fun d dh => Zbu d.1 d.2.1
 ok := ZbS Za2 Tryz.func89 (by kernel_rfl) (Zao ZeN) (dr := ZeM) (lps := Za8 ZeO) (Za4 (ZaL (by kernel_rfl))) (fun d dh => by kernel_rfl)
def ZfK : Nat -> Nat -> DrA
 | _, _ => ⟨[], [], [], [], [], false, []⟩
noncomputable def ZfL : List (CE CT Tryz.prog) := [ZeP]
noncomputable def ZfM : List (LE CT Tryz.prog) := []
noncomputable def ZbP (x0 : ZeC) (x1 : ZeC) : Option ((Bool) × (Unit)) :=
 (bif (decide ((x0.index : Int) = x1.index)) then
 (bif (decide ((x0.term_ : Int) = x1.term_)) then
 (Zbu x0.config x1.config).bind fun r1 =>
 some (r1.1, ())
 else
 some (false, ()))
 else
 some (false, ()))
noncomputable def ZfN : CE CT Tryz.prog where
 f := 48
 args := [.cod 9, .cod 9]
 hs := []
 res := .val (.one (.bool))
 outs := []
 m := fun d dh => ZbP d.1 d.2.1
 ok := ZbS Za2 Tryz.func48 (by kernel_rfl) (Zao ZfL) (dr := ZfK) (lps := Za8 ZfM) (Za4 (ZaL (by kernel_rfl))) (fun d dh => by kernel_rfl)
def ZcT : Nat -> Nat -> DrA
 | 6, _ => ⟨[0, 1, 2, 4, 5, 6, 3, 7, 8], [[], [], [0, 1], [0, 1, 2], [], [], [4, 5], [4, 5, 6], (List.range 8)], [], [], [], false, []⟩
 | _, _ => ⟨[], [], [], [], [], false, []⟩
noncomputable def ZcU : List (CE CT Tryz.prog) := []
noncomputable def ZaU (a : ((List (UInt8)) × (List (UInt8)) × (Int) × Unit) × (Unit)) : Option ((((List (UInt8)) × (List (UInt8)) × (Int) × Unit) × (Unit)) ⊕ ((((Bool) × Unit) × (Unit)) ⊕ ((Unit) × (Unit)))) :=
 (bif (decide ((a.1.2.2.1 : Int) < (a.1.1.length : Int))) then
 (Ziz a.1.1 a.1.2.2.1).bind fun e1 =>
 (Ziz a.1.2.1 a.1.2.2.1).bind fun e2 =>
 (bif (decide (((e1.toNat : Int) : Int) ≠ (e2.toNat : Int))) then
 some (.inr (.inl ((false, ()), ())))
 else
 some (.inl ((a.1.1, a.1.2.1, (IntKind.i64.wrap (a.1.2.2.1 + 1)), ()), ())))
 else
 some (.inr (.inr ((), ()))))
noncomputable def Zbk : LE CT Tryz.prog := ⟨4, [0, 1, 5], [.one (.sl 1), .one (.sl 1), .one (.int .i64)], [], [⟨.ret, [4], [.one (.bool)], []⟩, ⟨.exit 0, [], [], []⟩], ZaU⟩
noncomputable def ZcV : List (LE CT Tryz.prog) := [Zbk]
theorem Zel : ZpU Zbk (Zoh (ZdX Tryz.f28) 0) := fun A env h k z hk => Zh9 (E := Zbk) (Zao ZcU) (dr := ZcT) (lps := Za8 ZcV) (ZaL (by kernel_rfl)) (fun a => by kernel_rfl) env h k z hk
noncomputable def ZbD (x0 : List (UInt8)) (x1 : List (UInt8)) : Option ((Bool) × (Unit)) :=
 (bif (decide (((x0.length : Int) : Int) ≠ (x1.length : Int))) then
 some (false, ())
 else
 (Zbm ZaU ((x0, x1, 0, ()), ())).bind fun b1 =>
 (match b1 with
 | .inl b2 =>
 some (b2.1.1, ())
 | .inr b3 =>
 some (true, ())))
noncomputable def ZcW : CE CT Tryz.prog where
 f := 28
 args := [.one (.sl 1), .one (.sl 1)]
 hs := []
 res := .val (.one (.bool))
 outs := []
 m := fun d dh => ZbD d.1 d.2.1
 ok := ZbS Za2 Tryz.func28 (by kernel_rfl) (Zao ZcU) (dr := ZcT) (lps := Za8 ZcV) (Za4 (Zez (n := 1) (by kernel_rfl) fun i hi => match i, hi with | 0, _ => Zia (E := Zbk) (by kernel_rfl) Zel)) (fun d dh => by kernel_rfl)
def Zff : Nat -> Nat -> DrA
 | _, _ => ⟨[], [], [], [], [], false, []⟩
noncomputable def Zfg : List (CE CT Tryz.prog) := [ZfN, ZcW]
noncomputable def Zfh : List (LE CT Tryz.prog) := []
noncomputable def Zbf (x0 : Zbe) (x1 : Zbe) : Option ((Bool) × (Unit)) :=
 (ZbP x0.base x1.base).bind fun r1 =>
 (bif r1.1 then
 (ZbD x0.bytes x1.bytes).bind fun r2 =>
 some (r2.1, ())
 else
 some (false, ()))
noncomputable def Zfi : CE CT Tryz.prog where
 f := 14
 args := [.cod 10, .cod 10]
 hs := []
 res := .val (.one (.bool))
 outs := []
 m := fun d dh => Zbf d.1 d.2.1
 ok := ZbS Za2 Tryz.func14 (by kernel_rfl) (Zao Zfg) (dr := Zff) (lps := Za8 Zfh) (Za4 (ZaL (by kernel_rfl))) (fun d dh => by kernel_rfl)
def ZfO : Nat -> Nat -> DrA
 | _, _ => ⟨[], [], [], [], [], false, []⟩
noncomputable def ZfP : List (CE CT Tryz.prog) := []
noncomputable def ZfQ : List (LE CT Tryz.prog) := []
noncomputable def Zd0 (x0 : Zck) : Option ((Int) × (Unit)) :=
 let y1 : Int := (IntKind.i64.wrap ((IntKind.i64.wrap ((IntKind.i64.wrap ((IntKind.i64.wrap (1 + (x0.voters.length : Int))) + (x0.old.length : Int))) + (x0.learners.length : Int))) + (x0.want.length : Int)))
 some (y1, ())
noncomputable def ZfR : CE CT Tryz.prog where
 f := 57
 args := [.cod 8]
 hs := []
 res := .val (.one (.int .i64))
 outs := []
 m := fun d dh => Zd0 d.1
 ok := ZbS Za2 Tryz.func57 (by kernel_rfl) (Zao ZfP) (dr := ZfO) (lps := Za8 ZfQ) (Za4 (ZaL (by kernel_rfl))) (fun d dh => by kernel_rfl)
def Zgp : Nat -> Nat -> DrA
 | _, _ => ⟨[], [], [], [], [], false, []⟩
noncomputable def Zgq : List (CE CT Tryz.prog) := [ZfR]
noncomputable def Zgr : List (LE CT Tryz.prog) := []
noncomputable def Zb0 (x0 : Zbe) : Option ((Bool) × (Unit)) :=
 (bif (decide ((5000 : Int) < (x0.bytes.length : Int))) then
 some (true, ())
 else
 (Zd0 x0.base.config).bind fun r1 =>
 some ((decide ((5000 : Int) < r1.1)), ()))
noncomputable def Zgs : CE CT Tryz.prog where
 f := 19
 args := [.cod 10]
 hs := []
 res := .val (.one (.bool))
 outs := []
 m := fun d dh => Zb0 d.1
 ok := ZbS Za2 Tryz.func19 (by kernel_rfl) (Zao Zgq) (dr := Zgp) (lps := Za8 Zgr) (Za4 (ZaL (by kernel_rfl))) (fun d dh => by kernel_rfl)
end Go.Proofs.YteempnebenjkmaaGreatDoor
