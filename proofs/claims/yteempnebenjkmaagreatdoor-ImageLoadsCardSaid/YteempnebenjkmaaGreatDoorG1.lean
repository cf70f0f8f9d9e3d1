/- Models, by program. -/
import Derived.Test.YteempnebenjkmaaGreatDoorTb
import Derived.Test.YteempnebenjkmaaGreatDoorMm
import Derived.Test.YteempnebenjkmaaGreatDoorSl
import Derived.Test.YteempnebenjkmaaGreatDoorSumM
import Derived.Test.YteempnebenjkmaaGreatDoorFn
import Derived.Test.YteempnebenjkmaaGreatDoorUn
import Derived.Test.YteempnebenjkmaaGreatDoorOa
import Derived.Test.YteempnebenjkmaaGreatDoorMd
import Derived.Test.YteempnebenjkmaaGreatDoorFt
namespace Go.Proofs.YteempnebenjkmaaGreatDoor
noncomputable section
open Go.RowKit
set_option maxRecDepth 100000
set_option linter.unusedVariables false
def ZzH (rs : List (List UInt8)) : Option (Int × Unit) := if True then some (((Crc.more 0#32 rs.flatten).toNat : Int), ()) else none
def ZvB : CEp where
 f := 103
 args := [.one (.sl 3)]
 hs := []
 res := .val (.one (.int .u32))
 outs := []
 m := fun d dh => ZzH d.1
 ok := fun d dh r hr => by
  unfold ZzH at hr
  split at hr
  ·rename_i hc
   injection hr with hr
   subst hr
   refine Tr.sum (C := CT) (Eb := 1) (tb := fun x => x) (fun x => rfl) (Er := 3) (tr := fun x => x) (fun x => rfl) (by kernel_rfl) fun A n c w hR => ?_
   replace hR := (congrArg (fun l => Rep (fun _ => True) w (ZmA l) (.slice A n c)) (Zvf (α := UInt8) d.1)).mp hR
   exact ZzG _ d.1 A n c w hR
  ·cases hr
def Znl (x0 : Nat × Nat × Nat) (h0 : List (List UInt8)) : Option (Int × ((List (List UInt8)) × Unit)) := if x0.1 + x0.2.1 <= h0.length then (ZzH ((h0.drop x0.1).take x0.2.1)).bind fun r => some (r.1, (h0, ())) else none
theorem ZpI {U : Nat -> Prop} (d : VsD Ty [.one (.as 3 0)]) (dh : HsD Ty [.arr 22 3 true]) (r : Int × ((List (List UInt8)) × Unit)) (hr : Znl d.1 dh.1 = some r) : Tr CT Tryz.prog U 103 (ZkY CT [.one (.as 3 0)] d) (Zed CT [.arr 22 3 true] dh) (.int .u32 r.1) (Zed CT [.arr 22 3 true] r.2) := by
 unfold Znl at hr
 split at hr
 ·rename_i hc
  obtain ⟨⟨g, u⟩, h1, h2⟩ := Zaj hr
  injection h2 with h2
  subst h2
  have := ZvB.ok ((dh.1.drop d.1.1).take d.1.2.1, ()) () (g, u) h1
  exact Tr.lend (h := [.arr 22 3 true dh.1]) this (by
   show (Nat.beq 3 3 && Nat.ble (d.1.1 + d.1.2.1) dh.1.length && true) = true
   rw [Nat.beq_refl, Nat.ble_eq_true_of_le hc]; rfl) rfl
 ·cases hr
def ZvC : CEp where
 f := 103
 args := [.one (.as 3 0)]
 hs := [.arr 22 3 true]
 res := .val (.one (.int .u32))
 outs := [.arr 22 3 true]
 m := fun d dh => Znl d.1 dh.1
 ok := fun d dh r hr => ZpI d dh r hr
 ro := true
 roOk := fun _ d dh r hr => ZpI d dh r hr
def Zn9 (n : Int) : Option (Nat × (LB × Unit)) := if 0 <= n /\ n <= 140737488355328 /\ n * ((1 : Nat) : Int) <= 140737488355328 then some (0, ([], ())) else none
def Ztq : CEp where
 f := 84
 args := [.one .nil, .one (.int .i64)]
 hs := []
 res := .val (.one (.asz 1 0))
 outs := [.arr 5 1 false]
 m := fun d dh => Zn9 d.2.1
 ok := fun d dh r hr => by
  unfold Zn9 at hr
  split at hr
  ·rename_i hn
   injection hr with hr
   subst hr
   exact Zni Tryz.growLay84 rfl rfl (zv := .int .u8 0) false (hsz := by kernel_rfl) (hz := by kernel_rfl) (hby := by kernel_rfl) rfl rfl rfl (by kernel_rfl) d.2.1 hn.1 hn.2.1 hn.2.2
  ·cases hr
def Zin (x1 : Int) (h0 : ZdN) : Option (Int × (ZdN × Unit)) := if 0 <= x1 /\ x1.toNat + 4 <= h0.rest.b.length then some ((num h0.rest.b x1.toNat : Int), (h0, ())) else none
theorem Znm {U : Nat -> Prop} (d : VsD Ty [.one (.ptr 0 0), .one (.int .i64)]) (dh : HsD Ty [.cobj 169 5]) (r : Int × (ZdN × Unit)) (hr : Zin d.2.1 dh.1 = some r) : Tr CT Tryz.prog U 153 (ZkY CT [.one (.ptr 0 0), .one (.int .i64)] d) (Zed CT [.cobj 169 5] dh) (.int .u32 r.1) (Zed CT [.cobj 169 5] r.2) := by
 unfold Zin at hr
 split at hr
 ·rename_i hc
  injection hr with hr
  subst hr
  exact Tr.numb (C := CT) (Eb := 1) (tb := fun x => x) (fun x => rfl) (xs := dh.1.rest.b) (by kernel_rfl) fun b A c w h1 h2 h3 => ZpH hc.1 hc.2 b A c w h1 h2 ((congrArg (fun l => Rep (fun _ => True) w (Zey l) (.slice A dh.1.rest.b.length c)) (Zzw (α := UInt8) dh.1.rest.b)).mp h3)
 ·cases hr
def Ztr : CEp where
 f := 153
 args := [.one (.ptr 0 0), .one (.int .i64)]
 hs := [.cobj 169 5]
 res := .val (.one (.int .u32))
 outs := [.cobj 169 5]
 m := fun d dh => Zin d.2.1 dh.1
 ok := fun d dh r hr => Znm d dh r hr
 ro := true
 roOk := fun _ d dh r hr => Znm d dh r hr
def Zoa : Nat -> Nat -> DrA
 | 1, _ => ⟨[], [], [], [], [], true, []⟩
 | _, _ => ⟨[], [], [], [], [], false, []⟩
def Zob : List (CEp) := []
def ZfP (x0 : Int) : Option (Nat × (LB × Unit)) :=
 (b8 (IntKind.u8.wrap x0)).bind fun u1 =>
 (b8 (IntKind.u8.wrap ((x0 : Int).fdiv (2 ^ min (8 : Int).toNat (IntKind.u32.bits))))).bind fun u2 =>
 (b8 (IntKind.u8.wrap ((x0 : Int).fdiv (2 ^ min (16 : Int).toNat (IntKind.u32.bits))))).bind fun u3 =>
 (b8 (IntKind.u8.wrap ((x0 : Int).fdiv (2 ^ min (24 : Int).toNat (IntKind.u32.bits))))).bind fun u4 =>
 some (4, (([u1, u2, u3, u4] : LB), ()))
def ZiV : CEp where
 f := 102
 args := [.one (.int .u32)]
 hs := []
 res := .val (.one (.asz 1 0))
 outs := [.arr 5 1 false]
 m := fun d dh => ZfP d.1
 ok := ZdE ZbI Tryz.func102 (by kernel_rfl) (Zau Zob) (dr := Zoa) (lps := Zbj lt0) (ZbP (Zbc (by kernel_rfl))) (fun d dh => by kernel_rfl)
def Zoc : Nat -> Nat -> DrA
 | 1, _ => ⟨[0, 5, 1, 2, 3, 6, 7, 4, 8, 9, 10], [[], [0], [0, 1], [0, 1, 2], [0, 1, 2, 3], [], [5], [5, 6], [5, 6, 7], (List.range 9), (List.range 10)], [6], [4], [0], false, [8]⟩
 | _, _ => ⟨[], [], [], [], [], false, []⟩
def Zod : List (CEp) := [ZiV]
def Zht (x0 : ZbH) : Option (Nat × (LB × Unit)) :=
 (ZfP (IntKind.u32.wrap (x0.data.length : Int))).bind fun r1 =>
 (b8 (IntKind.u8.wrap x0.kind)).bind fun u2 =>
 (if 0 + 1 <= ([u2] : LB).length then
 (if (r1.1 + ((([u2] : LB).drop 0).take 1).length) <= 140737488355328 /\ (r1.1 + ((([u2] : LB).drop 0).take 1).length) * 1 <= 140737488355328 /\ 0 + r1.1 <= r1.2.1.length then
 some ((r1.1 + ((([u2] : LB).drop 0).take 1).length), ((r1.2.1.take r1.1 ++ ((([u2] : LB).drop 0).take 1)), ()))
 else none)
 else none)
def Zoe : CEp where
 f := 101
 args := [.cod 6]
 hs := []
 res := .val (.one (.asz 1 0))
 outs := [.arr 5 1 false]
 m := fun d dh => Zht d.1
 ok := ZdE ZbI Tryz.func101 (by kernel_rfl) (Zau Zod) (dr := Zoc) (lps := Zbj lt0) (ZbP (Zbc (by kernel_rfl))) (fun d dh => by kernel_rfl)
def Zd7 (x0 : ZbH) : Option (LB × (Unit × Unit)) :=
 (Zht x0).bind fun r => if r.1 ≠ 0 /\ r.1 <= r.2.1.length then some (r.2.1.take r.1, ((), ())) else none
def Zl3 : CEp where
 f := 101
 args := [.cod 6]
 hs := []
 res := .val (.one (.own 1 0))
 outs := [.row 5 1]
 m := fun d dh => Zd7 d.1
 ok := fun d dh r hr => by
  unfold Zd7 at hr
  obtain ⟨⟨n, xs, u⟩, h1, h2⟩ := Zaj hr
  dsimp only at h2
  split at h2
  ·rename_i hc
   injection h2 with h2
   subst h2
   exact Tr.freezeO hc.1 hc.2 (Zoe.ok d dh _ h1)
  ·cases h2
def Zd8 (x0 : Int) : Option (LB × (Unit × Unit)) :=
 (ZfP x0).bind fun r => if r.1 ≠ 0 /\ r.1 <= r.2.1.length then some (r.2.1.take r.1, ((), ())) else none
def Zl4 : CEp where
 f := 102
 args := [.one (.int .u32)]
 hs := []
 res := .val (.one (.own 1 0))
 outs := [.row 5 1]
 m := fun d dh => Zd8 d.1
 ok := fun d dh r hr => by
  unfold Zd8 at hr
  obtain ⟨⟨n, xs, u⟩, h1, h2⟩ := Zaj hr
  dsimp only at h2
  split at h2
  ·rename_i hc
   injection h2 with h2
   subst h2
   exact Tr.freezeO hc.1 hc.2 (ZiV.ok d dh _ h1)
  ·cases h2
def Zeg : List (CEp) := [Ztq]
def ZbC (a : ((List LB) × Int × (List LB) × Int × Int × Unit) × Unit) : Option ((((List LB) × Int × (List LB) × Int × Int × Unit) × Unit) ⊕ ((((List LB) × Int × Unit) × Unit))) :=
 (bif (decide ((a.1.2.2.2.2.1 : Int) < a.1.2.2.2.1)) then
 (Ze1 a.1.2.2.1 a.1.2.2.2.2.1).bind fun e1 =>
 (bif (decide (((IntKind.i64.wrap (a.1.2.1 + (e1.length : Int))) : Int) < 0)) then
 none
 else
 some (.inl ((a.1.1, (IntKind.i64.wrap (a.1.2.1 + (e1.length : Int))), a.1.2.2.1, a.1.2.2.2.1, (IntKind.i64.wrap (a.1.2.2.2.2.1 + 1)), ()), ())))
 else
 some (.inr ((a.1.1, a.1.2.1, ()), ())))
def Zc3 : LEp := ⟨3, [0, 3, 9, 10, 11], [.one (.sl 3), .one (.int .i64), .one (.sl 3), .one (.int .i64), .one (.int .i64)], [], [⟨.exit 0, [0, 3], [.one (.sl 3), .one (.int .i64)], []⟩], ZbC⟩
def ZbD (a : (Nat × (List LB) × Int × Int × Unit) × (LB × Unit)) : Option (((Nat × (List LB) × Int × Int × Unit) × (LB × Unit)) ⊕ (((Nat × Unit) × (Unit × LB × Unit)))) :=
 (bif (decide ((a.1.2.2.2.1 : Int) < a.1.2.2.1)) then
 (Ze1 a.1.2.1 a.1.2.2.2.1).bind fun e1 =>
 (if (a.1.1 + e1.length) <= 140737488355328 /\ (a.1.1 + e1.length) * 1 <= 140737488355328 /\ 0 + a.1.1 <= a.2.1.length then
 some (.inl (((a.1.1 + e1.length), a.1.2.1, a.1.2.2.1, (IntKind.i64.wrap (a.1.2.2.2.1 + 1)), ()), ((a.2.1.take a.1.1 ++ e1), ())))
 else none)
 else
 some (.inr ((a.1.1, ()), ((), a.2.1, ()))))
def Zc4 : LEp := ⟨11, [6, 25, 26, 27], [.one (.asz 1 0), .one (.sl 3), .one (.int .i64), .one (.int .i64)], [.arr 5 1 false], [⟨.exit 2, [6], [.one (.asz 1 1)], [.dead, .arr 5 1 false]⟩], ZbD⟩
def Zeh : List (LEp) := [Zc3, Zc4]
theorem Zio : ZlI Zc3 (ZkJ (Zcf Tryz.f39) 0) := fun A env h k z hk => Ze2 (E := Zc3) (Zau Zeg) (dr := dr0) (lps := Zbj Zeh) (Zbc (by kernel_rfl)) (fun a => by kernel_rfl) env h k z hk
theorem Zip : ZlI Zc4 (ZkJ (Zcf Tryz.f39) 1) := fun A env h k z hk => Ze2 (E := Zc4) (Zau Zeg) (dr := dr0) (lps := Zbj Zeh) (Zbc (by kernel_rfl)) (fun a => by kernel_rfl) env h k z hk
def Zes (x0 : List LB) : Option (Nat × (LB × Unit)) :=
 (Za2 ZbC ((x0, 0, x0, (x0.length : Int), 0, ()), ())).bind fun b1 =>
 (Zn9 b1.1.2.1).bind fun r2 =>
 (Za2 ZbD ((r2.1, b1.1.1, (b1.1.1.length : Int), 0, ()), (r2.2.1, ()))).bind fun b3 =>
 some (b3.1.1, (b3.2.2.1, ()))
def ZkM : CEp where
 f := 39
 args := [.one (.sl 3)]
 hs := []
 res := .val (.one (.asz 1 0))
 outs := [.arr 5 1 false]
 m := fun d dh => Zes d.1
 ok := ZdE ZbI Tryz.func39 (by kernel_rfl) (Zau Zeg) (dr := dr0) (lps := Zbj Zeh) (ZbP (ZcG (n := 2) (by kernel_rfl) fun i hi => match i, hi with | 0, _ => Ze3 (E := Zc3) (by kernel_rfl) Zio | 1, _ => Ze3 (E := Zc4) (by kernel_rfl) Zip)) (fun d dh => by kernel_rfl)
def ZbY (x0 : List LB) : Option (LB × (Unit × Unit)) :=
 (Zes x0).bind fun r => if r.1 ≠ 0 /\ r.1 <= r.2.1.length then some (r.2.1.take r.1, ((), ())) else none
def ZiW : CEp where
 f := 39
 args := [.one (.sl 3)]
 hs := []
 res := .val (.one (.own 1 0))
 outs := [.row 5 1]
 m := fun d dh => ZbY d.1
 ok := fun d dh r hr => by
  unfold ZbY at hr
  obtain ⟨⟨n, xs, u⟩, h1, h2⟩ := Zaj hr
  dsimp only at h2
  split at h2
  ·rename_i hc
   injection h2 with h2
   subst h2
   exact Tr.freezeO hc.1 hc.2 (ZkM.ok d dh _ h1)
  ·cases h2
def Zkr : Nat -> Nat -> DrA
 | 10, _ => ⟨[0, 1, 2, 3, 8, 4, 9, 5, 6, 7, 10, 11, 12], [[], [], [], [], [3], [2, 3, 4], [2, 3, 4, 5], [2, 3, 4, 5, 6], [], [8], (List.range 10), (List.range 11), (List.range 12)], [9], [6, 7], [1], false, []⟩
 | _, _ => ⟨[], [], [], [], [], false, []⟩
def Zks : List (CEp) := [Zl3, ZvB, Zl4, ZiW]
def Zfc (a : (LB × (List (ZbH)) × Int × Int × Unit) × (Unit × Unit)) : Option (((LB × (List (ZbH)) × Int × Int × Unit) × (Unit × Unit)) ⊕ (((Unit × Int × Unit) × (Unit × Unit)) ⊕ ((LB × Unit) × (Unit × Unit × Unit)))) :=
 (bif (decide ((a.1.2.2.2.1 : Int) < a.1.2.2.1)) then
 (Ze1 a.1.2.1 a.1.2.2.2.1).bind fun e1 =>
 (bif (decide ((e1.kind : Int) < 0)) then
 some (.inr (.inl (((), 2, ()), ((), ()))))
 else
 (bif (decide ((255 : Int) < e1.kind)) then
 some (.inr (.inl (((), 2, ()), ((), ()))))
 else
 (bif (decide ((262144 : Int) < (e1.data.length : Int))) then
 some (.inr (.inl (((), 3, ()), ((), ()))))
 else
 (Zd7 e1).bind fun r2 =>
 (ZzH ([r2.1, e1.data] : List LB)).bind fun r3 =>
 (Zd8 r3.1).bind fun r4 =>
 (ZbY ([a.1.1, r2.1, r4.1, e1.data] : List LB)).bind fun r5 =>
 some (.inl ((r5.1, a.1.2.1, a.1.2.2.1, (IntKind.i64.wrap (a.1.2.2.2.1 + 1)), ()), ((), ()))))))
 else
 some (.inr (.inr ((a.1.1, ()), ((), (), ())))))
def Zfd : LEp := ⟨3, [4, 8, 9, 10], [.one (.own 1 0), .one (.sl 6), .one (.int .i64), .one (.int .i64)], [.row 5 1], [⟨.ret, [2, 3], [.one (.nil), .one (.int .i64)], [.dead]⟩, ⟨.exit 0, [4], [.one (.own 1 1)], [.dead, .row 5 1]⟩], Zfc⟩
def Zkt : List (LEp) := [Zfd]
theorem Zl5 : ZlI Zfd (ZkJ (Zcf Tryz.f59) 0) := fun A env h k z hk => Ze2 (E := Zfd) (Zau Zks) (dr := Zkr) (lps := Zbj Zkt) (Zbc (by kernel_rfl)) (fun a => by kernel_rfl) env h k z hk
def Zdt (x0 : List (ZbH)) : Option ((LB × Int × Unit) × (Unit × Unit)) :=
 (Za2 Zfc (([], x0, (x0.length : Int), 0, ()), ((), ()))).bind fun b1 =>
 (match b1 with
 | .inl b2 =>
 some (([], b2.1.2.1, ()), ((), ()))
 | .inr b3 =>
 some ((b3.1.1, 0, ()), ((), ())))
def ZpJ : CEp where
 f := 59
 args := [.one (.sl 6)]
 hs := []
 res := .tup [.one (.own 1 0), .one (.int .i64)]
 outs := [.row 5 1]
 m := fun d dh => Zdt d.1
 ok := ZdE ZbI Tryz.func59 (by kernel_rfl) (Zau Zks) (dr := Zkr) (lps := Zbj Zkt) (ZbP (ZcG (n := 1) (by kernel_rfl) fun i hi => match i, hi with | 0, _ => Ze3 (E := Zfd) (by kernel_rfl) Zl5)) (fun d dh => by kernel_rfl)
def Zfv (x : LB) : Option (LB × (Unit × Unit)) :=
 if x.length <= 140737488355328 /\ x.length * 1 <= 140737488355328 then some (x, ((), ())) else none
def Zhu : CEp where
 f := 80
 args := [.one (.sl 1)]
 hs := []
 res := .val (.one (.own 1 0))
 outs := [.row 5 1]
 m := fun d dh => Zfv d.1
 ok := fun d dh r hr => by
  unfold Zfv at hr
  split at hr
  ·rename_i hroom
   injection hr with hr
   subst hr
   exact Zw5 ZbI Tryz.func80 (by kernel_rfl) rfl rfl (zv := .int .u8 0) (he := by kernel_rfl) (hsz := by kernel_rfl) (hz := by kernel_rfl) (hby := by kernel_rfl) rfl rfl d.1 hroom
  ·cases hr
def Zof : Nat -> Nat -> DrA
 | 6, _ => ⟨[0, 1, 2, 3, 8, 9, 10, 11, 13, 14, 4, 5, 6, 7, 12, 15, 16, 17, 18, 19], [[], [0], [0, 1], [0, 1, 2], [0, 1, 2, 3], (List.range 5), (List.range 6), (List.range 7), [], [8], [8, 9], [8, 9, 10], [8, 9, 10, 11], [], [13], [8, 9, 10, 11, 12, 13, 14], [8, 9, 10, 11, 12, 13, 14, 15], (List.range 17), [], (List.range 19)], [4, 6], [16], [0], false, []⟩
 | 7, _ => ⟨[0, 1, 2, 4, 5, 6, 7, 10, 8, 9, 11, 3, 12, 13, 14], [[], [0], [0, 1], [0, 1, 2], [], [4], [4, 5], [4, 5, 6], [4, 5, 6, 7], [4, 5, 6, 7, 8], [], [10], [4, 5, 6, 7, 8, 9, 10, 11], (List.range 13), (List.range 14)], [8, 11], [3], [0, 3], false, [12]⟩
 | 9, _ => ⟨(List.range 6 ++ [7, 8, 10, 11, 12, 15, 6, 9, 13, 14, 16, 17, 18, 19, 20, 21, 22, 23]), [[], [], [], [2], [2, 3], [2, 3, 4], [2, 3, 4, 5], [], [7], [2, 3, 4, 5, 6, 7, 8], [], [10], [10, 11], [10, 11, 12], [10, 11, 12, 13], [], [10, 11, 12, 13, 14, 15], [0, 2, 3, 4, 5, 6, 7, 8, 9, 10, 11, 12, 13], [0, 2, 3, 4, 5, 6, 7, 8, 9, 10, 11, 12, 13, 17], [0, 2, 3, 4, 5, 6, 7, 8, 9, 10, 11, 12, 13, 17, 18], [0, 2, 3, 4, 5, 6, 7, 8, 9, 10, 11, 12, 13, 17, 18, 19], (List.range 21), (List.range 22), (List.range 23)], [], [], [], false, []⟩
 | _, _ => ⟨[], [], [], [], [], false, []⟩
def Zog : List (CEp) := [Ztr, Zhu, ZvC]
def Zhv (h0 : ZdN) : Option (((ZbH) × Bool × Unit) × ((ZdN) × Unit)) :=
 (bif (decide (((h0.rest.b.length : Int) : Int) < 9)) then
 some (((⟨0, []⟩ : ZbH), false, ()), (h0, ()))
 else
 (Zin 0 h0).bind fun r1 =>
 (bif (decide ((262144 : Int) < (IntKind.i64.wrap r1.1))) then
 some (((⟨0, []⟩ : ZbH), false, ()), (r1.2.1, ()))
 else
 (bif (decide (((IntKind.i64.wrap ((r1.2.1.rest.b.length : Int) - 9)) : Int) < (IntKind.i64.wrap r1.1))) then
 some (((⟨0, []⟩ : ZbH), false, ()), (r1.2.1, ()))
 else
 (Ze1 r1.2.1.rest.b 4).bind fun e2 =>
 (if 0 <= (9 : Int) /\ (9 : Int) <= (IntKind.i64.wrap (9 + (IntKind.i64.wrap r1.1))) /\ (IntKind.i64.wrap (9 + (IntKind.i64.wrap r1.1))) <= (r1.2.1.rest.b.length : Int) then
 let y3 : LB := ((r1.2.1.rest.b.drop (9 : Int).toNat).take (((IntKind.i64.wrap (9 + (IntKind.i64.wrap r1.1))) : Int).toNat - (9 : Int).toNat))
 (Zfv y3).bind fun r4 =>
 (if 0 <= ((0 : Int) : Int) /\ ((0 : Int) : Int) <= 5 /\ 5 <= (r1.2.1.rest.b.length : Int) then
 let y5 : LB := ((r1.2.1.rest.b.drop ((0 : Int) : Int).toNat).take ((5 : Int).toNat - ((0 : Int) : Int).toNat))
 (Zin 5 r1.2.1).bind fun r6 =>
 (Znl (0, 2, 2) ([y5, r4.1] : List LB)).bind fun r7 =>
 (bif (decide ((r6.1 : Int) ≠ r7.1)) then
 some (((⟨0, []⟩ : ZbH), false, ()), (r6.2.1, ()))
 else
 (if 0 <= ((IntKind.i64.wrap (9 + (IntKind.i64.wrap r1.1))) : Int) /\ ((IntKind.i64.wrap (9 + (IntKind.i64.wrap r1.1))) : Int) <= (r6.2.1.rest.b.length : Int) /\ (r6.2.1.rest.b.length : Int) <= (r6.2.1.rest.b.length : Int) then
 let y8 : LB := ((r6.2.1.rest.b.drop ((IntKind.i64.wrap (9 + (IntKind.i64.wrap r1.1))) : Int).toNat).take (((r6.2.1.rest.b.length : Int) : Int).toNat - ((IntKind.i64.wrap (9 + (IntKind.i64.wrap r1.1))) : Int).toNat))
 let y9 : Int := (IntKind.i64.wrap ((IntKind.i64.wrap (r6.2.1.at_ + 9)) + (IntKind.i64.wrap r1.1)))
 some (((⟨(IntKind.i64.wrap (e2.toNat : Int)), r4.1⟩ : ZbH), true, ()), ((⟨(⟨y8⟩ : Ztf), y9⟩ : ZdN), ()))
 else none))
 else none)
 else none))))
def Zoh : CEp where
 f := 87
 args := [.one (.ptr 0 0)]
 hs := [.cobj 169 5]
 res := .tup [.cod 6, .one (.bool)]
 outs := [.cobj 169 5]
 m := fun d dh => Zhv dh.1
 ok := ZdE ZbI Tryz.func87 (by kernel_rfl) (Zau Zog) (dr := Zof) (lps := Zbj lt0) (ZbP (Zbc (by kernel_rfl))) (fun d dh => by kernel_rfl)
def Zku : Nat -> Nat -> DrA
 | 5, _ => ⟨[0, 1, 2, 3, 5, 4, 6], [[], [], [1], [1, 2], [1, 2, 3], [0], (List.range 6)], [], [], [], false, []⟩
 | _, _ => ⟨[], [], [], [], [], false, []⟩
def Zkv : List (CEp) := [Zoh]
def Zfe (a : ((List (ZbH)) × Unit × Unit) × ((ZdN) × Unit × Unit)) : Option ((((List (ZbH)) × Unit × Unit) × ((ZdN) × Unit × Unit)) ⊕ ((((List (ZbH)) × Int × Unit) × ((ZdN) × Unit × Unit × Unit)))) :=
 (Zhv a.2.1).bind fun r1 =>
 (bif (!r1.1.2.1) then
 some (.inr ((a.1.1, r1.2.1.at_, ()), (r1.2.1, (), (), ())))
 else
 (if a.1.1.length + ([r1.1.1] : List (ZbH)).length <= 140737488355328 /\ (a.1.1.length + ([r1.1.1] : List (ZbH)).length) * 32 <= 140737488355328 then
 some (.inl (((a.1.1 ++ ([r1.1.1] : List (ZbH))), (), ()), (r1.2.1, (), ())))
 else none))
def Zff : LEp := ⟨3, [4, 5], [.one (.own 6 1), .one (.ptr 0 0)], [.cobj 169 5, .row 102 2], [⟨.ret, [2, 3], [.one (.own 6 2), .one (.int .i64)], [.cobj 169 5, .dead, .row 102 2]⟩], Zfe⟩
def Zkw : List (LEp) := [Zff]
theorem Zl6 : ZlI Zff (ZkJ (Zcf Tryz.f44) 0) := fun A env h k z hk => Ze2 (E := Zff) (Zau Zkv) (dr := Zku) (lps := Zbj Zkw) (Zbc (by kernel_rfl)) (fun a => by kernel_rfl) env h k z hk
def ZiX (x0 : LB) : Option (((List (ZbH)) × Int × Unit) × (Unit × Unit)) :=
 (Za2 Zfe (([], (), ()), ((⟨(⟨x0⟩ : Ztf), 0⟩ : ZdN), (), ()))).bind fun b1 =>
 some ((b1.1.1, b1.1.2.1, ()), ((), ()))
def ZpK : CEp where
 f := 44
 args := [.one (.sl 1)]
 hs := []
 res := .tup [.one (.own 6 0), .one (.int .i64)]
 outs := [.row 102 2]
 m := fun d dh => ZiX d.1
 ok := ZdE ZbI Tryz.func44 (by kernel_rfl) (Zau Zkv) (dr := Zku) (lps := Zbj Zkw) (ZbP (ZcG (n := 1) (by kernel_rfl) fun i hi => match i, hi with | 0, _ => Ze3 (E := Zff) (by kernel_rfl) Zl6)) (fun d dh => by kernel_rfl)
def ZjQ : List (CEp) := []
def Zfw  : Option (Unit × ((Bool × Bool × LB × Unit) × Unit × Unit)) :=
 some ((), ((true, false, [], ()), (), ()))
def ZfQ : CEp where
 f := 72
 args := []
 hs := []
 res := .val (.one (.ptr 0 0))
 outs := [.obj 218 [.bool, .bool, .own 1 1], .row 5 1]
 m := fun d dh => Zfw
 ok := ceO Tryz.func72 (by kernel_rfl) ZjQ (by kernel_rfl) fun d dh => by kernel_rfl
def Zoi : List (CEp) := []
def Zhw (h0 : Bool × Bool × LB × Unit) : Option (Bool × ((Bool × Bool × LB × Unit) × Unit × Unit × Unit)) :=
 some (h0.1, (h0, (), (), ()))
def Zgj : CEp where
 f := 139
 args := [.one (.ptr 0 0)]
 hs := [.obj 218 [.bool, .bool, .own 1 1], .row 5 1]
 res := .val (.one (.bool))
 outs := [.obj 218 [.bool, .bool, .own 1 2], .dead, .row 5 1]
 m := fun d dh => Zhw dh.1
 ok := ceO Tryz.func139 (by kernel_rfl) Zoi (by kernel_rfl) fun d dh => by kernel_rfl
def Zq0 : List (CEp) := []
def Zhx (x1 : LB) (h0 : Bool × Bool × LB × Unit) : Option (Unit × ((Bool × Bool × LB × Unit) × Unit × Unit × Unit)) :=
 (bif h0.1 then
 (if h0.2.2.1.length + x1.length <= 140737488355328 /\ (h0.2.2.1.length + x1.length) * 1 <= 140737488355328 then
 some ((), ((h0.1, h0.2.1, (h0.2.2.1 ++ x1), ()), (), (), ()))
 else none)
 else
 some ((), (h0, (), (), ())))
def Zl7 : CEp where
 f := 141
 args := [.one (.ptr 0 0), .one (.sl 1)]
 hs := [.obj 218 [.bool, .bool, .own 1 1], .row 5 1]
 res := .tup []
 outs := [.obj 218 [.bool, .bool, .own 1 2], .dead, .row 5 1]
 m := fun d dh => Zhx d.2.1 dh.1
 ok := ceO Tryz.func141 (by kernel_rfl) Zq0 (by kernel_rfl) fun d dh => by kernel_rfl
def Zh0 : List (CEp) := [Zl7]
def ZcR (a : (Unit × Int × Unit) × ((Bool × Bool × LB × Unit) × Unit × Unit)) : Option (((Unit × Int × Unit) × ((Bool × Bool × LB × Unit) × Unit × Unit)) ⊕ (((Unit × Int × Unit) × ((Bool × Bool × LB × Unit) × Unit × Unit × Unit)))) :=
 (bif (decide ((127 : Int) < a.1.2.1)) then
 (b8 (IntKind.u8.wrap ((BitVec.ofInt (IntKind.u8.bits) (IntKind.u8.wrap a.1.2.1) ||| BitVec.ofInt (IntKind.u8.bits) 128).toNat))).bind fun u1 =>
 (Zhx ([u1] : LB) a.2.1).bind fun r2 =>
 some (.inl (((), ((a.1.2.1 : Int).fdiv (2 ^ min (7 : Int).toNat (IntKind.i64.bits))), ()), (r2.2.1, (), ())))
 else
 some (.inr (((), a.1.2.1, ()), (a.2.1, (), (), ()))))
def ZdW : LEp := ⟨2, [0, 1], [.one (.ptr 0 0), .one (.int .i64)], [.obj 218 [.bool, .bool, .own 1 1], .row 5 1], [⟨.exit 0, [0, 1], [.one (.ptr 0 0), .one (.int .i64)], [.obj 218 [.bool, .bool, .own 1 2], .dead, .row 5 1]⟩], ZcR⟩
def Zh1 : List (LEp) := [ZdW]
theorem ZjR : ZlI ZdW (ZkJ (Zcf Tryz.f140) 0) := fun A env h k z hk => Ze2 (E := ZdW) (Zau Zh0) (dr := dr0) (lps := Zbj Zh1) (Zbc (by kernel_rfl)) (fun a => by kernel_rfl) env h k z hk
def ZdO (x1 : Int) (h0 : Bool × Bool × LB × Unit) : Option (Unit × ((Bool × Bool × LB × Unit) × Unit × Unit × Unit)) :=
 (bif (decide ((x1 : Int) < 0)) then
 some ((), ((h0.1, true, h0.2.2.1, ()), (), (), ()))
 else
 (bif (decide ((4611686018427387903 : Int) < x1)) then
 some ((), ((h0.1, true, h0.2.2.1, ()), (), (), ()))
 else
 (Za2 ZcR (((), x1, ()), (h0, (), ()))).bind fun b1 =>
 (b8 (IntKind.u8.wrap b1.1.2.1)).bind fun u2 =>
 (Zhx ([u2] : LB) b1.2.1).bind fun r3 =>
 some ((), (r3.2.1, (), (), ()))))
def Zh2 : CEp where
 f := 140
 args := [.one (.ptr 0 0), .one (.int .i64)]
 hs := [.obj 218 [.bool, .bool, .own 1 1], .row 5 1]
 res := .tup []
 outs := [.obj 218 [.bool, .bool, .own 1 2], .dead, .row 5 1]
 m := fun d dh => ZdO d.2.1 dh.1
 ok := ZdE ZbI Tryz.func140 (by kernel_rfl) (Zau Zh0) (dr := dr0) (lps := Zbj Zh1) (ZbP (ZcG (n := 1) (by kernel_rfl) fun i hi => match i, hi with | 0, _ => Ze3 (E := ZdW) (by kernel_rfl) ZjR)) (fun d dh => by kernel_rfl)
def ZgV : List (CEp) := [Zgj, Zh2]
def Zcv (a : (Unit × LI × Int × Int × Unit) × ((Bool × Bool × LB × Unit) × Unit × Unit)) : Option (((Unit × LI × Int × Int × Unit) × ((Bool × Bool × LB × Unit) × Unit × Unit)) ⊕ (((Unit × Unit) × ((Bool × Bool × LB × Unit) × Unit × Unit × Unit)))) :=
 (bif (decide ((a.1.2.2.2.1 : Int) < a.1.2.2.1)) then
 (Ze1 a.1.2.1 a.1.2.2.2.1).bind fun e1 =>
 (ZdO e1 a.2.1).bind fun r2 =>
 some (.inl (((), a.1.2.1, a.1.2.2.1, (IntKind.i64.wrap (a.1.2.2.2.1 + 1)), ()), (r2.2.1, (), ())))
 else
 some (.inr (((), ()), (a.2.1, (), (), ()))))
def Zdu : LEp := ⟨3, [0, 9, 10, 11], [.one (.ptr 0 0), .one (.sl 0), .one (.int .i64), .one (.int .i64)], [.obj 218 [.bool, .bool, .own 1 1], .row 5 1], [⟨.exit 0, [0], [.one (.ptr 0 0)], [.obj 218 [.bool, .bool, .own 1 2], .dead, .row 5 1]⟩], Zcv⟩
def ZgW : List (LEp) := [Zdu]
theorem ZiY : ZlI Zdu (ZkJ (Zcf Tryz.f137) 0) := fun A env h k z hk => Ze2 (E := Zdu) (Zau ZgV) (dr := dr0) (lps := Zbj ZgW) (Zbc (by kernel_rfl)) (fun a => by kernel_rfl) env h k z hk
def Zdf (x1 : LI) (h0 : Bool × Bool × LB × Unit) : Option (Unit × ((Bool × Bool × LB × Unit) × Unit × Unit × Unit)) :=
 (Zhw h0).bind fun r1 =>
 (bif r1.1 then
 (Za2 Zcv (((), x1, (x1.length : Int), 0, ()), (r1.2.1, (), ()))).bind fun b2 =>
 some ((), (b2.2.1, (), (), ()))
 else
 some ((), (r1.2.1, (), (), ())))
def ZgX : CEp where
 f := 137
 args := [.one (.ptr 0 0), .one (.sl 0)]
 hs := [.obj 218 [.bool, .bool, .own 1 1], .row 5 1]
 res := .val (.one (.ptr 0 0))
 outs := [.obj 218 [.bool, .bool, .own 1 2], .dead, .row 5 1]
 m := fun d dh => Zdf d.2.1 dh.1
 ok := ZdE ZbI Tryz.func137 (by kernel_rfl) (Zau ZgV) (dr := dr0) (lps := Zbj ZgW) (ZbP (ZcG (n := 1) (by kernel_rfl) fun i hi => match i, hi with | 0, _ => Ze3 (E := Zdu) (by kernel_rfl) ZiY)) (fun d dh => by kernel_rfl)
def ZiZ : List (CEp) := [ZgX]
def Zdv (x1 : LI) (h0 : Bool × Bool × LB × Unit) : Option (Unit × ((Bool × Bool × LB × Unit) × Unit × Unit × Unit)) :=
 (Zdf ([(x1.length : Int)] : LI) h0).bind fun r1 =>
 (Zdf x1 r1.2.1).bind fun r2 =>
 some ((), (r2.2.1, (), (), ()))
def Zi0 : CEp where
 f := 191
 args := [.one (.ptr 0 0), .one (.sl 0)]
 hs := [.obj 218 [.bool, .bool, .own 1 1], .row 5 1]
 res := .tup []
 outs := [.obj 218 [.bool, .bool, .own 1 2], .dead, .row 5 1]
 m := fun d dh => Zdv d.2.1 dh.1
 ok := ceO Tryz.func191 (by kernel_rfl) ZiZ (by kernel_rfl) fun d dh => by kernel_rfl
def ZfR : List (CEp) := [Zi0]
def ZdP (a : (Unit × (List LI) × Int × Int × Unit) × ((Bool × Bool × LB × Unit) × Unit × Unit × Unit)) : Option (((Unit × (List LI) × Int × Int × Unit) × ((Bool × Bool × LB × Unit) × Unit × Unit × Unit)) ⊕ ((Unit × ((Bool × Bool × LB × Unit) × Unit × Unit × Unit × Unit)))) :=
 (bif (decide ((a.1.2.2.2.1 : Int) < a.1.2.2.1)) then
 (Ze1 a.1.2.1 a.1.2.2.2.1).bind fun e1 =>
 (Zdv e1 a.2.1).bind fun r2 =>
 some (.inl (((), a.1.2.1, a.1.2.2.1, (IntKind.i64.wrap (a.1.2.2.2.1 + 1)), ()), (r2.2.1, (), (), ())))
 else
 some (.inr ((), (a.2.1, (), (), (), ()))))
def ZcC : LEp := ⟨2, [0, 14, 15, 16], [.one (.ptr 0 0), .one (.own 7 1), .one (.int .i64), .one (.int .i64)], [.obj 218 [.bool, .bool, .own 1 2], .row 38 1, .row 5 1], [⟨.exit 0, [], [], [.obj 218 [.bool, .bool, .own 1 3], .dead, .dead, .row 5 1]⟩], ZdP⟩
def ZfS : List (LEp) := [ZcC]
theorem ZhP : ZlI ZcC (ZkJ (Zcf Tryz.f138) 0) := fun A env h k z hk => Ze2 (E := ZcC) (Zau ZfR) (dr := dr0) (lps := Zbj ZfS) (Zbc (by kernel_rfl)) (fun a => by kernel_rfl) env h k z hk
def ZdX (x1 : Zbv) (h0 : Bool × Bool × LB × Unit) : Option (Unit × ((Bool × Bool × LB × Unit) × Unit × Unit × Unit)) :=
 (Za2 ZdP (((), ([x1.voters, x1.old, x1.learners, x1.want] : List LI), (([x1.voters, x1.old, x1.learners, x1.want] : List LI).length : Int), 0, ()), (h0, (), (), ()))).bind fun b1 =>
 some ((), (b1.2.1, (), (), ()))
def ZjS : CEp where
 f := 138
 args := [.one (.ptr 0 0), .cod 8]
 hs := [.obj 218 [.bool, .bool, .own 1 1], .row 5 1]
 res := .tup []
 outs := [.obj 218 [.bool, .bool, .own 1 2], .dead, .row 5 1]
 m := fun d dh => ZdX d.2.1 dh.1
 ok := ZdE ZbI Tryz.func138 (by kernel_rfl) (Zau ZfR) (dr := dr0) (lps := Zbj ZfS) (ZbP (ZcG (n := 1) (by kernel_rfl) fun i hi => match i, hi with | 0, _ => Ze3 (E := ZcC) (by kernel_rfl) ZhP)) (fun d dh => by kernel_rfl)
def ZhQ : List (CEp) := [ZgX, ZjS]
def ZbZ (x1 : ZcP) (h0 : Bool × Bool × LB × Unit) : Option (Unit × ((Bool × Bool × LB × Unit) × Unit × Unit × Unit)) :=
 (Zdf ([x1.index, x1.term_] : LI) h0).bind fun r1 =>
 (ZdX x1.config r1.2.1).bind fun r2 =>
 some ((), (r2.2.1, (), (), ()))
def Zen : CEp where
 f := 71
 args := [.one (.ptr 0 0), .cod 9]
 hs := [.obj 218 [.bool, .bool, .own 1 1], .row 5 1]
 res := .val (.one (.ptr 0 0))
 outs := [.obj 218 [.bool, .bool, .own 1 2], .dead, .row 5 1]
 m := fun d dh => ZbZ d.2.1 dh.1
 ok := ceO Tryz.func71 (by kernel_rfl) ZhQ (by kernel_rfl) fun d dh => by kernel_rfl
def ZpL : List (CEp) := [Zgj, Zhu]
def ZfT (h0 : Bool × Bool × LB × Unit) : Option ((LB × Int × Unit) × ((Bool × Bool × LB × Unit) × Unit × Unit × Unit × Unit)) :=
 (Zhw h0).bind fun r1 =>
 (bif (!r1.1) then
 some (([], 1, ()), (r1.2.1, (), (), (), ()))
 else
 (bif r1.2.1.2.1 then
 some (([], 2, ()), (r1.2.1, (), (), (), ()))
 else
 (Zfv r1.2.1.2.2.1).bind fun r2 =>
 some ((r2.1, 0, ()), (r1.2.1, (), (), (), ()))))
def Zkx : CEp where
 f := 74
 args := [.one (.ptr 0 0)]
 hs := [.obj 218 [.bool, .bool, .own 1 1], .row 5 1]
 res := .tup [.one (.own 1 2), .one (.int .i64)]
 outs := [.obj 218 [.bool, .bool, .own 1 3], .dead, .row 5 1, .row 5 1]
 m := fun d dh => ZfT dh.1
 ok := ceO Tryz.func74 (by kernel_rfl) ZpL (by kernel_rfl) fun d dh => by kernel_rfl
def ZjT : List (CEp) := [Zhu]
def ZcS (x0 : LB) : Option (Unit × ((Bool × Bool × LB × Unit) × Unit × Unit)) :=
 (Zfv x0).bind fun r1 =>
 some ((), ((true, false, r1.1, ()), (), ()))
def ZfU : CEp where
 f := 50
 args := [.one (.sl 1)]
 hs := []
 res := .val (.one (.ptr 0 0))
 outs := [.obj 180 [.bool, .bool, .own 1 1], .row 5 1]
 m := fun d dh => ZcS d.1
 ok := ceO Tryz.func50 (by kernel_rfl) ZjT (by kernel_rfl) fun d dh => by kernel_rfl
def Zts : List (CEp) := []
def ZvD (h0 : Bool × Bool × LB × Unit) : Option (Bool × ((Bool × Bool × LB × Unit) × Unit × Unit × Unit)) :=
 (bif h0.1 then
 some ((!h0.2.1), (h0, (), (), ()))
 else
 some (false, (h0, (), (), ())))
def Ztt : CEp where
 f := 95
 args := [.one (.ptr 0 0)]
 hs := [.obj 180 [.bool, .bool, .own 1 1], .row 5 1]
 res := .val (.one (.bool))
 outs := [.obj 180 [.bool, .bool, .own 1 2], .dead, .row 5 1]
 m := fun d dh => ZvD dh.1
 ok := ceO Tryz.func95 (by kernel_rfl) Zts (by kernel_rfl) fun d dh => by kernel_rfl
def ZmM : List (CEp) := []
def Zbe (h0 : Zao) : Option (Unit × ((Bool × Bool × LB × Unit) × Unit × Unit)) :=
 some ((), ((h0.place.made, true, [], ()), (), ()))
def Zfx : CEp where
 f := 155
 args := [.one (.ptr 0 0)]
 hs := [.cobj 180 14]
 res := .tup []
 outs := [.obj 180 [.bool, .bool, .own 1 1], .row 5 1]
 m := fun d dh => Zbe dh.1
 ok := ceO Tryz.func155 (by kernel_rfl) ZmM (by kernel_rfl) fun d dh => by kernel_rfl
def ZmN : List (CEp) := [Zfx]
def ZbN (x1 : Int) (h0 : Zao) : Option (LB × ((Zao) × Unit)) :=
 (bif (decide (((h0.place.left.length : Int) : Int) < x1)) then
 (Zbe h0).bind fun r1 =>
 some ([], ((⟨(⟨r1.2.1.1, r1.2.1.2.1, r1.2.1.2.2.1⟩ : ZdJ)⟩ : Zao), ()))
 else
 (if 0 <= ((0 : Int) : Int) /\ ((0 : Int) : Int) <= x1 /\ (x1 : Int) <= x1 /\ x1 <= (h0.place.left.length : Int) then
 let y2 : LB := ((h0.place.left.drop ((0 : Int) : Int).toNat).take ((x1 : Int).toNat - ((0 : Int) : Int).toNat))
 (if 0 <= (x1 : Int) /\ (x1 : Int) <= (h0.place.left.length : Int) /\ (h0.place.left.length : Int) <= (h0.place.left.length : Int) then
 let y3 : LB := ((h0.place.left.drop (x1 : Int).toNat).take (((h0.place.left.length : Int) : Int).toNat - (x1 : Int).toNat))
 some (y2, ((⟨(⟨h0.place.made, h0.place.failed, y3⟩ : ZdJ)⟩ : Zao), ()))
 else none)
 else none))
def Zfy : CEp where
 f := 96
 args := [.one (.ptr 0 0), .one (.int .i64)]
 hs := [.cobj 180 14]
 res := .val (.one (.sl 1))
 outs := [.cobj 180 14]
 m := fun d dh => ZbN d.2.1 dh.1
 ok := ceO Tryz.func96 (by kernel_rfl) ZmN (by kernel_rfl) fun d dh => by kernel_rfl
def Zh3 : List (CEp) := [Ztt, Zfy, Zfx]
def Zfz (a : (Unit × Int × Int × Int × Unit) × ((Zao) × Unit)) : Option (((Unit × Int × Int × Int × Unit) × ((Zao) × Unit)) ⊕ (((Int × Unit) × ((Zao) × Unit)) ⊕ ((Unit × Unit) × ((Zao) × Unit)))) :=
 (bif (decide ((a.1.2.2.2.1 : Int) < 63)) then
 (ZbN 1 a.2.1).bind fun r1 =>
 (bif r1.2.1.place.failed then
 some (.inr (.inl ((0, ()), (r1.2.1, ()))))
 else
 (Ze1 r1.1 0).bind fun e2 =>
 (if (a.1.2.2.2.1 : Int) < 0 then none else
 let y3 : Int := (IntKind.i64.wrap ((BitVec.ofInt (IntKind.i64.bits) a.1.2.2.1 ||| BitVec.ofInt (IntKind.i64.bits) (IntKind.i64.wrap ((IntKind.i64.wrap (IntKind.u8.wrap ((BitVec.ofInt (IntKind.u8.bits) (e2.toNat : Int) &&& BitVec.ofInt (IntKind.u8.bits) 127).toNat))) * 2 ^ min (a.1.2.2.2.1 : Int).toNat (IntKind.i64.bits)))).toNat))
 (Ze1 r1.1 0).bind fun e4 =>
 (bif (decide (((e4.toNat : Int) : Int) < 128)) then
 (bif (decide ((0 : Int) < a.1.2.2.2.1)) then
 (Ze1 r1.1 0).bind fun e5 =>
 (bif (decide (((e5.toNat : Int) : Int) = 0)) then
 (Zbe r1.2.1).bind fun r6 =>
 some (.inr (.inl ((0, ()), ((⟨(⟨r6.2.1.1, r6.2.1.2.1, r6.2.1.2.2.1⟩ : ZdJ)⟩ : Zao), ()))))
 else
 (bif (decide ((4611686018427387903 : Int) < y3)) then
 (Zbe r1.2.1).bind fun r7 =>
 some (.inr (.inl ((0, ()), ((⟨(⟨r7.2.1.1, r7.2.1.2.1, r7.2.1.2.2.1⟩ : ZdJ)⟩ : Zao), ()))))
 else
 (bif (decide ((a.1.2.1 : Int) < y3)) then
 (Zbe r1.2.1).bind fun r8 =>
 some (.inr (.inl ((0, ()), ((⟨(⟨r8.2.1.1, r8.2.1.2.1, r8.2.1.2.2.1⟩ : ZdJ)⟩ : Zao), ()))))
 else
 some (.inr (.inl ((y3, ()), (r1.2.1, ())))))))
 else
 (bif (decide ((4611686018427387903 : Int) < y3)) then
 (Zbe r1.2.1).bind fun r9 =>
 some (.inr (.inl ((0, ()), ((⟨(⟨r9.2.1.1, r9.2.1.2.1, r9.2.1.2.2.1⟩ : ZdJ)⟩ : Zao), ()))))
 else
 (bif (decide ((a.1.2.1 : Int) < y3)) then
 (Zbe r1.2.1).bind fun r10 =>
 some (.inr (.inl ((0, ()), ((⟨(⟨r10.2.1.1, r10.2.1.2.1, r10.2.1.2.2.1⟩ : ZdJ)⟩ : Zao), ()))))
 else
 some (.inr (.inl ((y3, ()), (r1.2.1, ())))))))
 else
 some (.inl (((), a.1.2.1, y3, (IntKind.i64.wrap (a.1.2.2.2.1 + 7)), ()), (r1.2.1, ()))))))
 else
 some (.inr (.inr (((), ()), (a.2.1, ())))))
def ZdY : LEp := ⟨5, [0, 1, 5, 6], [.one (.ptr 0 0), .one (.int .i64), .one (.int .i64), .one (.int .i64)], [.cobj 180 14], [⟨.ret, [4], [.one (.int .i64)], [.cobj 180 14]⟩, ⟨.exit 0, [0], [.one (.ptr 0 0)], [.cobj 180 14]⟩], Zfz⟩
def Zh4 : List (LEp) := [ZdY]
theorem ZjU : ZlI ZdY (ZkJ (Zcf Tryz.f91) 0) := fun A env h k z hk => Ze2 (E := ZdY) (Zau Zh3) (dr := dr0) (lps := Zbj Zh4) (Zbc (by kernel_rfl)) (fun a => by kernel_rfl) env h k z hk
def Zgk (x1 : Int) (h0 : Bool × Bool × LB × Unit) : Option (Int × ((Zao) × Unit × Unit)) :=
 (ZvD h0).bind fun r1 =>
 (bif (!r1.1) then
 some (0, ((⟨(⟨r1.2.1.1, r1.2.1.2.1, r1.2.1.2.2.1⟩ : ZdJ)⟩ : Zao), (), ()))
 else
 (Za2 Zfz (((), x1, 0, 0, ()), ((⟨(⟨r1.2.1.1, r1.2.1.2.1, r1.2.1.2.2.1⟩ : ZdJ)⟩ : Zao), ()))).bind fun b2 =>
 (match b2 with
 | .inl b3 =>
 some (b3.1.1, (b3.2.1, (), ()))
 | .inr b4 =>
 (Zbe b4.2.1).bind fun r5 =>
 some (0, ((⟨(⟨r5.2.1.1, r5.2.1.2.1, r5.2.1.2.2.1⟩ : ZdJ)⟩ : Zao), (), ()))))
def ZmO : CEp where
 f := 91
 args := [.one (.ptr 0 0), .one (.int .i64)]
 hs := [.obj 180 [.bool, .bool, .own 1 1], .row 5 1]
 res := .val (.one (.int .i64))
 outs := [.cobj 180 14, .dead]
 m := fun d dh => Zgk d.2.1 dh.1
 ok := ZdE ZbI Tryz.func91 (by kernel_rfl) (Zau Zh3) (dr := dr0) (lps := Zbj Zh4) (ZbP (ZcG (n := 1) (by kernel_rfl) fun i hi => match i, hi with | 0, _ => Ze3 (E := ZdY) (by kernel_rfl) ZjU)) (fun d dh => by kernel_rfl)
def ZpM : List (CEp) := []
def Zi1 (h0 : Zao) : Option (Bool × ((Zao) × Unit)) :=
 (bif h0.place.made then
 some ((!h0.place.failed), (h0, ()))
 else
 some (false, (h0, ())))
def ZgY : CEp where
 f := 95
 args := [.one (.ptr 0 0)]
 hs := [.cobj 180 14]
 res := .val (.one (.bool))
 outs := [.cobj 180 14]
 m := fun d dh => Zi1 dh.1
 ok := ceO Tryz.func95 (by kernel_rfl) ZpM (by kernel_rfl) fun d dh => by kernel_rfl
def Zgw : List (CEp) := [ZgY, Zfy, Zfx]
def Zc5 (a : (Unit × Int × Int × Int × Unit) × ((Zao) × Unit)) : Option (((Unit × Int × Int × Int × Unit) × ((Zao) × Unit)) ⊕ (((Int × Unit) × ((Zao) × Unit)) ⊕ ((Unit × Unit) × ((Zao) × Unit)))) :=
 (bif (decide ((a.1.2.2.2.1 : Int) < 63)) then
 (ZbN 1 a.2.1).bind fun r1 =>
 (bif r1.2.1.place.failed then
 some (.inr (.inl ((0, ()), (r1.2.1, ()))))
 else
 (Ze1 r1.1 0).bind fun e2 =>
 (if (a.1.2.2.2.1 : Int) < 0 then none else
 let y3 : Int := (IntKind.i64.wrap ((BitVec.ofInt (IntKind.i64.bits) a.1.2.2.1 ||| BitVec.ofInt (IntKind.i64.bits) (IntKind.i64.wrap ((IntKind.i64.wrap (IntKind.u8.wrap ((BitVec.ofInt (IntKind.u8.bits) (e2.toNat : Int) &&& BitVec.ofInt (IntKind.u8.bits) 127).toNat))) * 2 ^ min (a.1.2.2.2.1 : Int).toNat (IntKind.i64.bits)))).toNat))
 (Ze1 r1.1 0).bind fun e4 =>
 (bif (decide (((e4.toNat : Int) : Int) < 128)) then
 (bif (decide ((0 : Int) < a.1.2.2.2.1)) then
 (Ze1 r1.1 0).bind fun e5 =>
 (bif (decide (((e5.toNat : Int) : Int) = 0)) then
 (Zbe r1.2.1).bind fun r6 =>
 some (.inr (.inl ((0, ()), ((⟨(⟨r6.2.1.1, r6.2.1.2.1, r6.2.1.2.2.1⟩ : ZdJ)⟩ : Zao), ()))))
 else
 (bif (decide ((4611686018427387903 : Int) < y3)) then
 (Zbe r1.2.1).bind fun r7 =>
 some (.inr (.inl ((0, ()), ((⟨(⟨r7.2.1.1, r7.2.1.2.1, r7.2.1.2.2.1⟩ : ZdJ)⟩ : Zao), ()))))
 else
 (bif (decide ((a.1.2.1 : Int) < y3)) then
 (Zbe r1.2.1).bind fun r8 =>
 some (.inr (.inl ((0, ()), ((⟨(⟨r8.2.1.1, r8.2.1.2.1, r8.2.1.2.2.1⟩ : ZdJ)⟩ : Zao), ()))))
 else
 some (.inr (.inl ((y3, ()), (r1.2.1, ())))))))
 else
 (bif (decide ((4611686018427387903 : Int) < y3)) then
 (Zbe r1.2.1).bind fun r9 =>
 some (.inr (.inl ((0, ()), ((⟨(⟨r9.2.1.1, r9.2.1.2.1, r9.2.1.2.2.1⟩ : ZdJ)⟩ : Zao), ()))))
 else
 (bif (decide ((a.1.2.1 : Int) < y3)) then
 (Zbe r1.2.1).bind fun r10 =>
 some (.inr (.inl ((0, ()), ((⟨(⟨r10.2.1.1, r10.2.1.2.1, r10.2.1.2.2.1⟩ : ZdJ)⟩ : Zao), ()))))
 else
 some (.inr (.inl ((y3, ()), (r1.2.1, ())))))))
 else
 some (.inl (((), a.1.2.1, y3, (IntKind.i64.wrap (a.1.2.2.2.1 + 7)), ()), (r1.2.1, ()))))))
 else
 some (.inr (.inr (((), ()), (a.2.1, ())))))
def Zc6 : LEp := ⟨5, [0, 1, 5, 6], [.one (.ptr 0 0), .one (.int .i64), .one (.int .i64), .one (.int .i64)], [.cobj 180 14], [⟨.ret, [4], [.one (.int .i64)], [.cobj 180 14]⟩, ⟨.exit 0, [0], [.one (.ptr 0 0)], [.cobj 180 14]⟩], Zc5⟩
def Zgx : List (LEp) := [Zc6]
theorem Ziq : ZlI Zc6 (ZkJ (Zcf Tryz.f91) 0) := fun A env h k z hk => Ze2 (E := Zc6) (Zau Zgw) (dr := dr0) (lps := Zbj Zgx) (Zbc (by kernel_rfl)) (fun a => by kernel_rfl) env h k z hk
def Zbi (x1 : Int) (h0 : Zao) : Option (Int × ((Zao) × Unit)) :=
 (Zi1 h0).bind fun r1 =>
 (bif (!r1.1) then
 some (0, (r1.2.1, ()))
 else
 (Za2 Zc5 (((), x1, 0, 0, ()), (r1.2.1, ()))).bind fun b2 =>
 (match b2 with
 | .inl b3 =>
 some (b3.1.1, (b3.2.1, ()))
 | .inr b4 =>
 (Zbe b4.2.1).bind fun r5 =>
 some (0, ((⟨(⟨r5.2.1.1, r5.2.1.2.1, r5.2.1.2.2.1⟩ : ZdJ)⟩ : Zao), ()))))
def Zei : CEp where
 f := 91
 args := [.one (.ptr 0 0), .one (.int .i64)]
 hs := [.cobj 180 14]
 res := .val (.one (.int .i64))
 outs := [.cobj 180 14]
 m := fun d dh => Zbi d.2.1 dh.1
 ok := ZdE ZbI Tryz.func91 (by kernel_rfl) (Zau Zgw) (dr := dr0) (lps := Zbj Zgx) (ZbP (ZcG (n := 1) (by kernel_rfl) fun i hi => match i, hi with | 0, _ => Ze3 (E := Zc6) (by kernel_rfl) Ziq)) (fun d dh => by kernel_rfl)
def Zcw : Nat -> Nat -> DrA
 | 7, _ => ⟨[0, 1, 2, 4, 3, 5, 6, 7, 8, 9], [[], [], [1], [1, 2], [], [4], [4, 5], [1, 2, 3, 4, 5, 6], (List.range 8), (List.range 9)], [3], [5], [2], false, []⟩
 | _, _ => ⟨[], [], [], [], [], false, []⟩
def Zcx : List (CEp) := [Zei]
def Zak (a : (Unit × Unit × Unit × Int × Int × Int × Int × Unit) × ((Zao) × (LI × LI × LI × LI × Unit) × (Nat × Nat × Nat × Nat × Unit) × Unit × Unit × Unit × Unit × LI × LI × LI × LI × Unit)) : Option (((Unit × Unit × Unit × Int × Int × Int × Int × Unit) × ((Zao) × (LI × LI × LI × LI × Unit) × (Nat × Nat × Nat × Nat × Unit) × Unit × Unit × Unit × Unit × LI × LI × LI × LI × Unit)) ⊕ (((Unit × Unit × Unit × Int × Unit) × ((Zao) × (LI × LI × LI × LI × Unit) × (Nat × Nat × Nat × Nat × Unit) × Unit × Unit × Unit × Unit × Unit × Unit × Unit × Unit × Unit × Unit × Unit × Unit × LI × LI × LI × LI × Unit)))) :=
 (bif (decide ((a.1.2.2.2.2.2.2.1 : Int) < a.1.2.2.2.2.2.1)) then
 (if (a.1.2.2.2.1 : Int) = ((0 : Nat) : Int) then
 (Zbi 5 a.2.1).bind fun r6 =>
 (if (a.2.2.2.1.1 + ([r6.1] : LI).length) <= 140737488355328 /\ (a.2.2.2.1.1 + ([r6.1] : LI).length) * 8 <= 140737488355328 /\ 0 + a.2.2.2.1.1 <= a.2.2.2.2.2.2.2.2.1.length then
 (if (a.1.2.2.2.1 : Int) = ((0 : Nat) : Int) then
 some (.inl (((), (), (), a.1.2.2.2.1, a.1.2.2.2.2.1, a.1.2.2.2.2.2.1, (IntKind.i64.wrap (a.1.2.2.2.2.2.2.1 + 1)), ()), (r6.2.1, a.2.2.1, ((a.2.2.2.1.1 + ([r6.1] : LI).length), a.2.2.2.1.2.1, a.2.2.2.1.2.2.1, a.2.2.2.1.2.2.2.1, ()), (), (), (), (), (a.2.2.2.2.2.2.2.2.1.take a.2.2.2.1.1 ++ ([r6.1] : LI)), a.2.2.2.2.2.2.2.2.2.1, a.2.2.2.2.2.2.2.2.2.2.1, a.2.2.2.2.2.2.2.2.2.2.2.1, ())))
 else (if (a.1.2.2.2.1 : Int) = ((1 : Nat) : Int) then
 none
 else (if (a.1.2.2.2.1 : Int) = ((2 : Nat) : Int) then
 none
 else (if (a.1.2.2.2.1 : Int) = ((3 : Nat) : Int) then
 none
 else none))))
 else none)
 else (if (a.1.2.2.2.1 : Int) = ((1 : Nat) : Int) then
 (Zbi 5 a.2.1).bind fun r5 =>
 (if (a.2.2.2.1.2.1 + ([r5.1] : LI).length) <= 140737488355328 /\ (a.2.2.2.1.2.1 + ([r5.1] : LI).length) * 8 <= 140737488355328 /\ 0 + a.2.2.2.1.2.1 <= a.2.2.2.2.2.2.2.2.2.1.length then
 (if (a.1.2.2.2.1 : Int) = ((0 : Nat) : Int) then
 none
 else (if (a.1.2.2.2.1 : Int) = ((1 : Nat) : Int) then
 some (.inl (((), (), (), a.1.2.2.2.1, a.1.2.2.2.2.1, a.1.2.2.2.2.2.1, (IntKind.i64.wrap (a.1.2.2.2.2.2.2.1 + 1)), ()), (r5.2.1, a.2.2.1, (a.2.2.2.1.1, (a.2.2.2.1.2.1 + ([r5.1] : LI).length), a.2.2.2.1.2.2.1, a.2.2.2.1.2.2.2.1, ()), (), (), (), (), a.2.2.2.2.2.2.2.2.1, (a.2.2.2.2.2.2.2.2.2.1.take a.2.2.2.1.2.1 ++ ([r5.1] : LI)), a.2.2.2.2.2.2.2.2.2.2.1, a.2.2.2.2.2.2.2.2.2.2.2.1, ())))
 else (if (a.1.2.2.2.1 : Int) = ((2 : Nat) : Int) then
 none
 else (if (a.1.2.2.2.1 : Int) = ((3 : Nat) : Int) then
 none
 else none))))
 else none)
 else (if (a.1.2.2.2.1 : Int) = ((2 : Nat) : Int) then
 (Zbi 5 a.2.1).bind fun r3 =>
 (if (a.2.2.2.1.2.2.1 + ([r3.1] : LI).length) <= 140737488355328 /\ (a.2.2.2.1.2.2.1 + ([r3.1] : LI).length) * 8 <= 140737488355328 /\ 0 + a.2.2.2.1.2.2.1 <= a.2.2.2.2.2.2.2.2.2.2.1.length then
 let y4 : LI := (a.2.2.2.2.2.2.2.2.2.2.1.take a.2.2.2.1.2.2.1 ++ ([r3.1] : LI))
 (if (a.1.2.2.2.1 : Int) = ((0 : Nat) : Int) then
 none
 else (if (a.1.2.2.2.1 : Int) = ((1 : Nat) : Int) then
 none
 else (if (a.1.2.2.2.1 : Int) = ((2 : Nat) : Int) then
 some (.inl (((), (), (), a.1.2.2.2.1, a.1.2.2.2.2.1, a.1.2.2.2.2.2.1, (IntKind.i64.wrap (a.1.2.2.2.2.2.2.1 + 1)), ()), (r3.2.1, a.2.2.1, (a.2.2.2.1.1, a.2.2.2.1.2.1, (a.2.2.2.1.2.2.1 + ([r3.1] : LI).length), a.2.2.2.1.2.2.2.1, ()), (), (), (), (), a.2.2.2.2.2.2.2.2.1, a.2.2.2.2.2.2.2.2.2.1, y4, a.2.2.2.2.2.2.2.2.2.2.2.1, ())))
 else (if (a.1.2.2.2.1 : Int) = ((3 : Nat) : Int) then
 none
 else none))))
 else none)
 else (if (a.1.2.2.2.1 : Int) = ((3 : Nat) : Int) then
 (Zbi 5 a.2.1).bind fun r1 =>
 (if (a.2.2.2.1.2.2.2.1 + ([r1.1] : LI).length) <= 140737488355328 /\ (a.2.2.2.1.2.2.2.1 + ([r1.1] : LI).length) * 8 <= 140737488355328 /\ 0 + a.2.2.2.1.2.2.2.1 <= a.2.2.2.2.2.2.2.2.2.2.2.1.length then
 let y2 : LI := (a.2.2.2.2.2.2.2.2.2.2.2.1.take a.2.2.2.1.2.2.2.1 ++ ([r1.1] : LI))
 (if (a.1.2.2.2.1 : Int) = ((0 : Nat) : Int) then
 none
 else (if (a.1.2.2.2.1 : Int) = ((1 : Nat) : Int) then
 none
 else (if (a.1.2.2.2.1 : Int) = ((2 : Nat) : Int) then
 none
 else (if (a.1.2.2.2.1 : Int) = ((3 : Nat) : Int) then
 some (.inl (((), (), (), a.1.2.2.2.1, a.1.2.2.2.2.1, a.1.2.2.2.2.2.1, (IntKind.i64.wrap (a.1.2.2.2.2.2.2.1 + 1)), ()), (r1.2.1, a.2.2.1, (a.2.2.2.1.1, a.2.2.2.1.2.1, a.2.2.2.1.2.2.1, (a.2.2.2.1.2.2.2.1 + ([r1.1] : LI).length), ()), (), (), (), (), a.2.2.2.2.2.2.2.2.1, a.2.2.2.2.2.2.2.2.2.1, a.2.2.2.2.2.2.2.2.2.2.1, y2, ())))
 else none))))
 else none)
 else none))))
 else
 some (.inr (((), (), (), a.1.2.2.2.2.1, ()), (a.2.1, a.2.2.1, a.2.2.2.1, (), (), (), (), (), (), (), (), (), (), (), (), a.2.2.2.2.2.2.2.2.1, a.2.2.2.2.2.2.2.2.2.1, a.2.2.2.2.2.2.2.2.2.2.1, a.2.2.2.2.2.2.2.2.2.2.2.1, ()))))
def ZbJ : LEp := ⟨6, [0, 2, 3, 4, 5, 9, 10], [.one (.ptr 0 0), .one (.ptr 1 0), .one (.ptr 2 0), .one (.int .i64), .one (.int .i64), .one (.int .i64), .one (.int .i64)], [.cobj 180 14, .obj 40 [.own 0 3, .own 0 4, .own 0 5, .own 0 6], .obj 230 [.asz 0 7, .asz 0 8, .asz 0 9, .asz 0 10], .row 3 1, .row 3 1, .row 3 1, .row 3 1, .arr 3 0 false, .arr 3 0 false, .arr 3 0 false, .arr 3 0 false], [⟨.exit 2, [0, 2, 3, 5], [.one (.ptr 0 0), .one (.ptr 1 0), .one (.ptr 2 0), .one (.int .i64)], [.cobj 180 14, .obj 40 [.own 0 11, .own 0 12, .own 0 13, .own 0 14], .obj 230 [.asz 0 15, .asz 0 16, .asz 0 17, .asz 0 18], .dead, .dead, .dead, .dead, .dead, .dead, .dead, .dead, .row 3 1, .row 3 1, .row 3 1, .row 3 1, .arr 3 0 false, .arr 3 0 false, .arr 3 0 false, .arr 3 0 false]⟩], Zak⟩
def ZaE (a : (Unit × Unit × Unit × Int × Unit) × ((Zao) × (LI × LI × LI × LI × Unit) × (Nat × Nat × Nat × Nat × Unit) × Unit × Unit × Unit × Unit × LI × LI × LI × LI × Unit)) : Option (((Unit × Unit × Unit × Int × Unit) × ((Zao) × (LI × LI × LI × LI × Unit) × (Nat × Nat × Nat × Nat × Unit) × Unit × Unit × Unit × Unit × LI × LI × LI × LI × Unit)) ⊕ (((Unit × Unit × Unit) × ((Zao) × (LI × LI × LI × LI × Unit) × (Nat × Nat × Nat × Nat × Unit) × Unit × Unit × Unit × Unit × Unit × Unit × Unit × Unit × Unit × Unit × Unit × Unit × LI × LI × LI × LI × Unit)))) :=
 (bif (decide ((a.1.2.2.2.1 : Int) < 4)) then
 (Zbi 5 a.2.1).bind fun r1 =>
 (Za2 Zak (((), (), (), a.1.2.2.2.1, a.1.2.2.2.1, r1.1, 0, ()), (r1.2.1, a.2.2.1, a.2.2.2.1, (), (), (), (), a.2.2.2.2.2.2.2.2.1, a.2.2.2.2.2.2.2.2.2.1, a.2.2.2.2.2.2.2.2.2.2.1, a.2.2.2.2.2.2.2.2.2.2.2.1, ()))).bind fun b2 =>
 some (.inl (((), (), (), (IntKind.i64.wrap (b2.1.2.2.2.1 + 1)), ()), (b2.2.1, b2.2.2.1, b2.2.2.2.1, (), (), (), (), b2.2.2.2.2.2.2.2.2.2.2.2.2.2.2.2.2.1, b2.2.2.2.2.2.2.2.2.2.2.2.2.2.2.2.2.2.1, b2.2.2.2.2.2.2.2.2.2.2.2.2.2.2.2.2.2.2.1, b2.2.2.2.2.2.2.2.2.2.2.2.2.2.2.2.2.2.2.2.1, ())))
 else
 some (.inr (((), (), ()), (a.2.1, a.2.2.1, a.2.2.2.1, (), (), (), (), (), (), (), (), (), (), (), (), a.2.2.2.2.2.2.2.2.1, a.2.2.2.2.2.2.2.2.2.1, a.2.2.2.2.2.2.2.2.2.2.1, a.2.2.2.2.2.2.2.2.2.2.2.1, ()))))
def ZbK : LEp := ⟨3, [0, 2, 3, 5], [.one (.ptr 0 0), .one (.ptr 1 0), .one (.ptr 2 0), .one (.int .i64)], [.cobj 180 14, .obj 40 [.own 0 3, .own 0 4, .own 0 5, .own 0 6], .obj 230 [.asz 0 7, .asz 0 8, .asz 0 9, .asz 0 10], .row 3 1, .row 3 1, .row 3 1, .row 3 1, .arr 3 0 false, .arr 3 0 false, .arr 3 0 false, .arr 3 0 false], [⟨.exit 0, [2, 3], [.one (.ptr 1 0), .one (.ptr 2 0)], [.cobj 180 14, .obj 40 [.own 0 11, .own 0 12, .own 0 13, .own 0 14], .obj 230 [.asz 0 15, .asz 0 16, .asz 0 17, .asz 0 18], .dead, .dead, .dead, .dead, .dead, .dead, .dead, .dead, .row 3 1, .row 3 1, .row 3 1, .row 3 1, .arr 3 0 false, .arr 3 0 false, .arr 3 0 false, .arr 3 0 false]⟩], ZaE⟩
def Zcy : List (LEp) := [ZbJ, ZbK]
theorem ZfV : ZlI ZbJ (ZkJ (ZkJ (Zcf Tryz.f92) 0) 0) := fun A env h k z hk => Ze2 (E := ZbJ) (Zau Zcx) (dr := Zcw) (lps := Zbj Zcy) (Zbc (by kernel_rfl)) (fun a => by kernel_rfl) env h k z hk
theorem ZfW : ZlI ZbK (ZkJ (Zcf Tryz.f92) 0) := fun A env h k z hk => Ze2 (E := ZbK) (Zau Zcx) (dr := Zcw) (lps := Zbj Zcy) (ZcG (n := 1) (by kernel_rfl) fun i hi => match i, hi with | 0, _ => Ze3 (E := ZbJ) (by kernel_rfl) ZfV) (fun a => by kernel_rfl) env h k z hk
def Zco (h0 : Zao) : Option ((Nat × Nat × Nat × Nat × Unit) × ((Zao) × LI × LI × LI × LI × Unit)) :=
 (Za2 ZaE (((), (), (), 0, ()), (h0, ([], [], [], [], ()), (0, 0, 0, 0, ()), (), (), (), (), [], [], [], [], ()))).bind fun b1 =>
 some (b1.2.2.2.1, (b1.2.1, b1.2.2.2.2.2.2.2.2.2.2.2.2.2.2.2.2.1, b1.2.2.2.2.2.2.2.2.2.2.2.2.2.2.2.2.2.1, b1.2.2.2.2.2.2.2.2.2.2.2.2.2.2.2.2.2.2.1, b1.2.2.2.2.2.2.2.2.2.2.2.2.2.2.2.2.2.2.2.1, ()))
def ZgZ : CEp where
 f := 92
 args := [.one (.ptr 0 0)]
 hs := [.cobj 180 14]
 res := .val (.agg [.asz 0 1, .asz 0 2, .asz 0 3, .asz 0 4])
 outs := [.cobj 180 14, .arr 3 0 false, .arr 3 0 false, .arr 3 0 false, .arr 3 0 false]
 m := fun d dh => Zco dh.1
 ok := ZdE ZbI Tryz.func92 (by kernel_rfl) (Zau Zcx) (dr := Zcw) (lps := Zbj Zcy) (ZbP (ZcG (n := 1) (by kernel_rfl) fun i hi => match i, hi with | 0, _ => Ze3 (E := ZbK) (by kernel_rfl) ZfW)) (fun d dh => by kernel_rfl)
def ZpN : List (CEp) := [ZgY]
def ZpO (h0 : Zao) : Option (Int × ((Zao) × Unit)) :=
 (Zi1 h0).bind fun r1 =>
 (bif (!r1.1) then
 some (0, (r1.2.1, ()))
 else
 some ((r1.2.1.place.left.length : Int), (r1.2.1, ())))
def ZpP : CEp where
 f := 156
 args := [.one (.ptr 0 0)]
 hs := [.cobj 180 14]
 res := .val (.one (.int .i64))
 outs := [.cobj 180 14]
 m := fun d dh => ZpO dh.1
 ok := ceO Tryz.func156 (by kernel_rfl) ZpN (by kernel_rfl) fun d dh => by kernel_rfl
def Zq1 : List (CEp) := []
def Zi2 (h0 : Zao) : Option (Int × ((Zao) × Unit)) :=
 (bif (!h0.place.made) then
 some (1, (h0, ()))
 else
 (bif h0.place.failed then
 some (4, (h0, ()))
 else
 (bif (decide ((0 : Int) < (h0.place.left.length : Int))) then
 some (4, (h0, ()))
 else
 some (0, (h0, ())))))
def Zl8 : CEp where
 f := 53
 args := [.one (.ptr 0 0)]
 hs := [.cobj 180 14]
 res := .val (.one (.int .i64))
 outs := [.cobj 180 14]
 m := fun d dh => Zi2 dh.1
 ok := ceO Tryz.func53 (by kernel_rfl) Zq1 (by kernel_rfl) fun d dh => by kernel_rfl
def ZjV : List (CEp) := [ZpP, Zl8]
def ZdZ (h0 : Zao) : Option (Bool × ((Zao) × Unit)) :=
 (ZpO h0).bind fun r1 =>
 (bif (decide ((r1.1 : Int) = 0)) then
 (Zi2 r1.2.1).bind fun r2 =>
 some ((decide ((r2.1 : Int) ≠ 0)), (r2.2.1, ()))
 else
 some (false, (r1.2.1, ())))
def ZjW : CEp where
 f := 93
 args := [.one (.ptr 0 0)]
 hs := [.cobj 180 14]
 res := .val (.one (.bool))
 outs := [.cobj 180 14]
 m := fun d dh => ZdZ dh.1
 ok := ceO Tryz.func93 (by kernel_rfl) ZjV (by kernel_rfl) fun d dh => by kernel_rfl
def ZjX : List (CEp) := []
def ZcT (x0 : Int) (x1 : Int) : Option (Bool × Unit) :=
 (bif (decide ((0 : Int) <= x0)) then
 some ((decide ((x0 : Int) <= x1)), ())
 else
 some (false, ()))
def ZjY : CEp where
 f := 157
 args := [.one (.int .i64), .one (.int .i64)]
 hs := []
 res := .val (.one (.bool))
 outs := []
 m := fun d dh => ZcT d.1 d.2.1
 ok := ceO Tryz.func157 (by kernel_rfl) ZjX (by kernel_rfl) fun d dh => by kernel_rfl
def Zgy : List (CEp) := []
def Zc7 (a : (Nat × Nat × Int × Int × Unit) × (LI × Unit)) : Option (((Nat × Nat × Int × Int × Unit) × (LI × Unit)) ⊕ (((Bool × Unit) × (LI × Unit)) ⊕ (Unit × (LI × Unit)))) :=
 (bif (decide ((a.1.2.2.2.1 : Int) < a.1.2.2.1)) then
 (if 0 <= (a.1.2.2.2.1 : Int) /\ (a.1.2.2.2.1 : Int) < ((a.1.2.1 : Nat) : Int) then
 (a.2.1[(0 + (a.1.2.2.2.1 : Int).toNat)]?).bind fun e1 =>
 (bif (decide ((e1 : Int) < 1)) then
 some (.inr (.inl ((false, ()), (a.2.1, ()))))
 else
 (bif (decide ((5 : Int) < e1)) then
 some (.inr (.inl ((false, ()), (a.2.1, ()))))
 else
 (bif (decide ((0 : Int) < a.1.2.2.2.1)) then
 (if 0 <= ((IntKind.i64.wrap (a.1.2.2.2.1 - 1)) : Int) /\ ((IntKind.i64.wrap (a.1.2.2.2.1 - 1)) : Int) < ((a.1.1 : Nat) : Int) then
 (a.2.1[(0 + ((IntKind.i64.wrap (a.1.2.2.2.1 - 1)) : Int).toNat)]?).bind fun e2 =>
 (bif (decide ((e1 : Int) <= e2)) then
 some (.inr (.inl ((false, ()), (a.2.1, ()))))
 else
 some (.inl ((a.1.1, a.1.2.1, a.1.2.2.1, (IntKind.i64.wrap (a.1.2.2.2.1 + 1)), ()), (a.2.1, ()))))
 else none)
 else
 some (.inl ((a.1.1, a.1.2.1, a.1.2.2.1, (IntKind.i64.wrap (a.1.2.2.2.1 + 1)), ()), (a.2.1, ()))))))
 else none)
 else
 some (.inr (.inr ((), (a.2.1, ())))))
def Zc8 : LEp := ⟨2, [0, 5, 6, 7], [.one (.asz 0 0), .one (.asz 0 0), .one (.int .i64), .one (.int .i64)], [.arr 3 0 true], [⟨.ret, [2], [.one (.bool)], [.arr 3 0 true]⟩, ⟨.exit 0, [], [], [.arr 3 0 true]⟩], Zc7⟩
def Zgz : List (LEp) := [Zc8]
theorem Zir : ZlI Zc8 (ZkJ (Zcf Tryz.f199) 0) := fun A env h k z hk => Ze2 (E := Zc8) (Zau Zgy) (dr := dr0) (lps := Zbj Zgz) (Zbc (by kernel_rfl)) (fun a => by kernel_rfl) env h k z hk
def ZbL (x0 : Nat) (h0 : LI) : Option (Bool × (LI × Unit)) :=
 (Za2 Zc7 ((x0, x0, ((x0 : Nat) : Int), 0, ()), (h0, ()))).bind fun b1 =>
 (match b1 with
 | .inl b2 =>
 some (b2.1.1, (b2.2.1, ()))
 | .inr b3 =>
 some (true, (b3.2.1, ())))
def ZkN : CEp where
 f := 199
 args := [.one (.asz 0 0)]
 hs := [.arr 3 0 true]
 res := .val (.one (.bool))
 outs := [.arr 3 0 true]
 m := fun d dh => ZbL d.1 dh.1
 ok := ZdE ZbI Tryz.func199 (by kernel_rfl) (Zau Zgy) (dr := dr0) (lps := Zbj Zgz) (ZbP (ZcG (n := 1) (by kernel_rfl) fun i hi => match i, hi with | 0, _ => Ze3 (E := Zc8) (by kernel_rfl) Zir)) (fun d dh => by kernel_rfl)
def ZjZ : List (CEp) := [ZkN]
def Zd0 (x0 : Nat × Nat × Nat × Nat × Unit) (h0 : LI) (h1 : LI) (h2 : LI) (h3 : LI) : Option (Bool × (LI × LI × LI × LI × Unit)) :=
 (ZbL x0.1 h0).bind fun r1 =>
 (bif r1.1 then
 (ZbL x0.2.1 h1).bind fun r2 =>
 (bif r2.1 then
 (ZbL x0.2.2.1 h2).bind fun r3 =>
 (bif r3.1 then
 (ZbL x0.2.2.2.1 h3).bind fun r4 =>
 some (r4.1, (r1.2.1, r2.2.1, r3.2.1, r4.2.1, ()))
 else
 some (false, (r1.2.1, r2.2.1, r3.2.1, h3, ())))
 else
 some (false, (r1.2.1, r2.2.1, h2, h3, ())))
 else
 some (false, (r1.2.1, h1, h2, h3, ())))
def Zj0 : CEp where
 f := 158
 args := [.agg [.asz 0 0, .asz 0 1, .asz 0 2, .asz 0 3]]
 hs := [.arr 3 0 true, .arr 3 0 true, .arr 3 0 true, .arr 3 0 true]
 res := .val (.one (.bool))
 outs := [.arr 3 0 true, .arr 3 0 true, .arr 3 0 true, .arr 3 0 true]
 m := fun d dh => Zd0 d.1 dh.1 dh.2.1 dh.2.2.1 dh.2.2.2.1
 ok := ceO Tryz.func158 (by kernel_rfl) ZjZ (by kernel_rfl) fun d dh => by kernel_rfl
def Zl9 : List (CEp) := [ZjY, Zj0]
def Zfg (x0 : Int × Int × Nat × Nat × Nat × Nat × Unit) (h0 : LI) (h1 : LI) (h2 : LI) (h3 : LI) : Option (Bool × (LI × LI × LI × LI × Unit)) :=
 (ZcT x0.1 1073741824).bind fun r1 =>
 (bif r1.1 then
 (ZcT x0.2.1 1073741824).bind fun r2 =>
 (bif r2.1 then
 (Zd0 (x0.2.2.1, x0.2.2.2.1, x0.2.2.2.2.1, x0.2.2.2.2.2.1, ()) h0 h1 h2 h3).bind fun r3 =>
 some (r3.1, (r3.2.1, r3.2.2.1, r3.2.2.2.1, r3.2.2.2.2.1, ()))
 else
 some (false, (h0, h1, h2, h3, ())))
 else
 some (false, (h0, h1, h2, h3, ())))
def Zma : CEp where
 f := 94
 args := [.agg [.int .i64, .int .i64, .asz 0 0, .asz 0 1, .asz 0 2, .asz 0 3]]
 hs := [.arr 3 0 true, .arr 3 0 true, .arr 3 0 true, .arr 3 0 true]
 res := .val (.one (.bool))
 outs := [.arr 3 0 true, .arr 3 0 true, .arr 3 0 true, .arr 3 0 true]
 m := fun d dh => Zfg d.1 dh.1 dh.2.1 dh.2.2.1 dh.2.2.2.1
 ok := ceO Tryz.func94 (by kernel_rfl) Zl9 (by kernel_rfl) fun d dh => by kernel_rfl
def Zis : List (CEp) := [ZmO, Zei, ZgZ, ZjW, Zma]
def Zci (h0 : Bool × Bool × LB × Unit) : Option (((Int × Int × Nat × Nat × Nat × Nat × Unit) × Bool × Unit) × ((Zao) × Unit × LI × LI × LI × LI × Unit)) :=
 (Zgk 1073741824 h0).bind fun r1 =>
 (Zbi 1073741824 r1.2.1).bind fun r2 =>
 (Zco r2.2.1).bind fun r3 =>
 (ZdZ r3.2.1).bind fun r4 =>
 (bif r4.1 then
 some (((0, 0, 0, 0, 0, 0, ()), false, ()), (r4.2.1, (), [], [], [], [], ()))
 else
 (Zfg (r1.1, r2.1, r3.1.1, r3.1.2.1, r3.1.2.2.1, r3.1.2.2.2.1, ()) r3.2.2.1 r3.2.2.2.1 r3.2.2.2.2.1 r3.2.2.2.2.2.1).bind fun r5 =>
 (bif (!r5.1) then
 some (((0, 0, 0, 0, 0, 0, ()), false, ()), (r4.2.1, (), [], [], [], [], ()))
 else
 some (((r1.1, r2.1, r3.1.1, r3.1.2.1, r3.1.2.2.1, r3.1.2.2.2.1, ()), true, ()), (r4.2.1, (), r5.2.1, r5.2.2.1, r5.2.2.2.1, r5.2.2.2.2.1, ()))))
def ZeQ : CEp where
 f := 51
 args := [.one (.ptr 0 0)]
 hs := [.obj 180 [.bool, .bool, .own 1 1], .row 5 1]
 res := .tup [.agg [.int .i64, .int .i64, .asz 0 2, .asz 0 3, .asz 0 4, .asz 0 5], .one (.bool)]
 outs := [.cobj 180 14, .dead, .arr 3 0 false, .arr 3 0 false, .arr 3 0 false, .arr 3 0 false]
 m := fun d dh => Zci dh.1
 ok := ceO Tryz.func51 (by kernel_rfl) Zis (by kernel_rfl) fun d dh => by kernel_rfl
def ZmP : Nat -> Nat -> DrA
 | 1, _ => ⟨[1, 0, 2, 3, 4, 5, 6, 7, 8], [[], [], [0, 1], [0, 1, 2], [0, 1, 2, 3], (List.range 5), (List.range 5), (List.range 6), (List.range 8)], [1], [0], [0], false, []⟩
 | _, _ => ⟨[], [], [], [], [], false, []⟩
def ZmQ : List (CEp) := [ZfQ, Zen, Zkx, ZfU, ZeQ]
def Zgl (x0 : ZcP) : Option (Bool × Unit) :=
 (Zfw).bind fun r1 =>
 (ZbZ x0 r1.2.1).bind fun r2 =>
 (ZfT r2.2.1).bind fun r3 =>
 (bif (decide ((r3.1.2.1 : Int) ≠ 0)) then
 some (false, ())
 else
 (ZcS r3.1.1).bind fun r4 =>
 (Zci r4.2.1).bind fun r5 =>
 some (r5.1.2.1, ()))
def ZmR : CEp where
 f := 70
 args := [.cod 9]
 hs := []
 res := .val (.one (.bool))
 outs := []
 m := fun d dh => Zgl d.1
 ok := ZdE ZbI Tryz.func70 (by kernel_rfl) (Zau ZmQ) (dr := ZmP) (lps := Zbj lt0) (ZbP (Zbc (by kernel_rfl))) (fun d dh => by kernel_rfl)
def Zky : List (CEp) := [Zgj, Zh2, Zl7]
def Zfh (a : (Unit × (Nat × Nat × Nat) × Int × Int × Unit) × ((Bool × Bool × LB × Unit) × (List LB) × Unit × Unit)) : Option (((Unit × (Nat × Nat × Nat) × Int × Int × Unit) × ((Bool × Bool × LB × Unit) × (List LB) × Unit × Unit)) ⊕ (((Unit × Unit) × ((Bool × Bool × LB × Unit) × (List LB) × Unit × Unit × Unit)))) :=
 (bif (decide ((a.1.2.2.2.1 : Int) < a.1.2.2.1)) then
 (if 0 <= (a.1.2.2.2.1 : Int) /\ (a.1.2.2.2.1 : Int) < ((a.1.2.1.2.1 : Nat) : Int) then
 (a.2.2.1[(a.1.2.1.1 + (a.1.2.2.2.1 : Int).toNat)]?).bind fun e1 =>
 (ZdO (e1.length : Int) a.2.1).bind fun r2 =>
 (Zhx e1 r2.2.1).bind fun r3 =>
 some (.inl (((), (a.1.2.1.1, a.1.2.1.2.1, a.1.2.1.2.2), a.1.2.2.1, (IntKind.i64.wrap (a.1.2.2.2.1 + 1)), ()), (r3.2.1, a.2.2.1, (), ())))
 else none)
 else
 some (.inr (((), ()), (a.2.1, a.2.2.1, (), (), ()))))
def Zfi : LEp := ⟨3, [0, 9, 10, 11], [.one (.ptr 0 0), .one (.as 3 1), .one (.int .i64), .one (.int .i64)], [.obj 218 [.bool, .bool, .own 1 2], .arr 22 3 true, .row 5 1], [⟨.exit 0, [0], [.one (.ptr 0 0)], [.obj 218 [.bool, .bool, .own 1 3], .arr 22 3 true, .dead, .row 5 1]⟩], Zfh⟩
def Zkz : List (LEp) := [Zfi]
theorem Zmb : ZlI Zfi (ZkJ (Zcf Tryz.f73) 0) := fun A env h k z hk => Ze2 (E := Zfi) (Zau Zky) (dr := dr0) (lps := Zbj Zkz) (Zbc (by kernel_rfl)) (fun a => by kernel_rfl) env h k z hk
def Zi3 (x1 : Nat × Nat × Nat) (h0 : Bool × Bool × LB × Unit) (h1 : List LB) : Option (Unit × ((Bool × Bool × LB × Unit) × (List LB) × Unit × Unit × Unit)) :=
 (Zhw h0).bind fun r1 =>
 (bif r1.1 then
 (Za2 Zfh (((), (x1.1, x1.2.1, x1.2.2), ((x1.2.1 : Nat) : Int), 0, ()), (r1.2.1, h1, (), ()))).bind fun b2 =>
 some ((), (b2.2.1, b2.2.2.1, (), (), ()))
 else
 some ((), (r1.2.1, h1, (), (), ())))
def ZpQ : CEp where
 f := 73
 args := [.one (.ptr 0 0), .one (.as 3 1)]
 hs := [.obj 218 [.bool, .bool, .own 1 2], .arr 22 3 true, .row 5 1]
 res := .val (.one (.ptr 0 0))
 outs := [.obj 218 [.bool, .bool, .own 1 3], .arr 22 3 true, .dead, .row 5 1]
 m := fun d dh => Zi3 d.2.1 dh.1 dh.2.1
 ok := ZdE ZbI Tryz.func73 (by kernel_rfl) (Zau Zky) (dr := dr0) (lps := Zbj Zkz) (ZbP (ZcG (n := 1) (by kernel_rfl) fun i hi => match i, hi with | 0, _ => Ze3 (E := Zfi) (by kernel_rfl) Zmb)) (fun d dh => by kernel_rfl)
def ZmS : Nat -> Nat -> DrA
 | 5, _ => ⟨[1, 4, 2, 5, 0, 3, 6, 7, 8, 9, 10, 11, 12], [[], [], [1], [0, 1, 2], [], [4], [4, 5], (List.range 7), (List.range 8), (List.range 9), (List.range 9), (List.range 11), (List.range 12)], [2, 5], [0, 3], [0], false, [6]⟩
 | _, _ => ⟨[], [], [], [], [], false, []⟩
def ZmT : List (CEp) := [ZmR, ZfQ, Zen, ZpQ, Zkx]
def Zdb (x0 : Zb6) : Option ((LB × Int × Unit) × (Unit × Unit)) :=
 (Zgl x0.base).bind fun r1 =>
 (bif (!r1.1) then
 some (([], 2, ()), ((), ()))
 else
 (bif (decide ((131072 : Int) < (x0.bytes.length : Int))) then
 some (([], 3, ()), ((), ()))
 else
 (Zfw).bind fun r2 =>
 (ZbZ x0.base r2.2.1).bind fun r3 =>
 (Zi3 (0, 1, 1) r3.2.1 ([x0.bytes] : List LB)).bind fun r4 =>
 (ZfT r4.2.1).bind fun r5 =>
 some ((r5.1.1, r5.1.2.1, ()), ((), ()))))
def ZmU : CEp where
 f := 26
 args := [.cod 10]
 hs := []
 res := .tup [.one (.own 1 0), .one (.int .i64)]
 outs := [.row 5 1]
 m := fun d dh => Zdb d.1
 ok := ZdE ZbI Tryz.func26 (by kernel_rfl) (Zau ZmT) (dr := ZmS) (lps := Zbj lt0) (ZbP (Zbc (by kernel_rfl))) (fun d dh => by kernel_rfl)
def Zq2 : List (CEp) := [Zei, ZgY, Zfy, Zhu]
def Zk3 (x1 : Int) (h0 : Zao) : Option (LB × ((Zao) × Unit × Unit)) :=
 (Zbi x1 h0).bind fun r1 =>
 (Zi1 r1.2.1).bind fun r2 =>
 (bif (!r2.1) then
 some ([], (r2.2.1, (), ()))
 else
 (ZbN r1.1 r2.2.1).bind fun r3 =>
 (Zfv r3.1).bind fun r4 =>
 some (r4.1, (r3.2.1, (), ())))
def Zq3 : CEp where
 f := 52
 args := [.one (.ptr 0 0), .one (.int .i64)]
 hs := [.cobj 180 14]
 res := .val (.one (.own 1 1))
 outs := [.cobj 180 14, .row 5 1]
 m := fun d dh => Zk3 d.2.1 dh.1
 ok := ceO Tryz.func52 (by kernel_rfl) Zq2 (by kernel_rfl) fun d dh => by kernel_rfl
def ZpR : Nat -> Nat -> DrA
 | 3, _ => ⟨[1, 0, 2, 3, 4, 5], [[], [], [1], [0, 1, 2], [], (List.range 5)], [0], [2], [7], false, []⟩
 | _, _ => ⟨[], [], [], [], [], false, []⟩
def ZpS : List (CEp) := [ZfU, ZeQ, Zq3, Zl8]
def ZfX (x0 : LB) : Option (((Int × Int × Nat × Nat × Nat × Nat × LB × Unit) × Bool × Unit) × (LI × LI × LI × LI × Unit)) :=
 (ZcS x0).bind fun r1 =>
 (Zci r1.2.1).bind fun r2 =>
 (Zk3 131072 r2.2.1).bind fun r3 =>
 (bif (!r2.1.2.1) then
 some (((0, 0, 0, 0, 0, 0, [], ()), false, ()), ([], [], [], [], ()))
 else
 (Zi2 r3.2.1).bind fun r4 =>
 (bif (decide ((r4.1 : Int) ≠ 0)) then
 some (((0, 0, 0, 0, 0, 0, [], ()), false, ()), ([], [], [], [], ()))
 else
 some (((r2.1.1.1, r2.1.1.2.1, r2.1.1.2.2.1, r2.1.1.2.2.2.1, r2.1.1.2.2.2.2.1, r2.1.1.2.2.2.2.2.1, r3.1, ()), true, ()), (r2.2.2.2.1, r2.2.2.2.2.1, r2.2.2.2.2.2.1, r2.2.2.2.2.2.2.1, ()))))
def ZpT : CEp where
 f := 16
 args := [.one (.sl 1)]
 hs := []
 res := .tup [.agg [.int .i64, .int .i64, .asz 0 0, .asz 0 1, .asz 0 2, .asz 0 3, .sl 1], .one (.bool)]
 outs := [.arr 3 0 false, .arr 3 0 false, .arr 3 0 false, .arr 3 0 false]
 m := fun d dh => ZfX d.1
 ok := ZdE ZbI Tryz.func16 (by kernel_rfl) (Zau ZpS) (dr := ZpR) (lps := Zbj lt0) (ZbP (Zbc (by kernel_rfl))) (fun d dh => by kernel_rfl)
def Zh5 : Nat -> Nat -> DrA
 | 6, _ => ⟨[0, 1, 2, 4, 5, 6, 3, 7, 8], [[], [], [0, 1], [0, 1, 2], [], [], [4, 5], [4, 5, 6], (List.range 8)], [], [], [], false, []⟩
 | _, _ => ⟨[], [], [], [], [], false, []⟩
def Zh6 : List (CEp) := []
def ZcU (a : (LI × LI × Int × Unit) × Unit) : Option (((LI × LI × Int × Unit) × Unit) ⊕ (((Bool × Unit) × Unit) ⊕ (Unit × Unit))) :=
 (bif (decide ((a.1.2.2.1 : Int) < (a.1.1.length : Int))) then
 (Ze1 a.1.1 a.1.2.2.1).bind fun e1 =>
 (Ze1 a.1.2.1 a.1.2.2.1).bind fun e2 =>
 (bif (decide ((e1 : Int) ≠ e2)) then
 some (.inr (.inl ((false, ()), ())))
 else
 some (.inl ((a.1.1, a.1.2.1, (IntKind.i64.wrap (a.1.2.2.1 + 1)), ()), ())))
 else
 some (.inr (.inr ((), ()))))
def Zd1 : LEp := ⟨4, [0, 1, 5], [.one (.sl 0), .one (.sl 0), .one (.int .i64)], [], [⟨.ret, [4], [.one (.bool)], []⟩, ⟨.exit 0, [], [], []⟩], ZcU⟩
def Zh7 : List (LEp) := [Zd1]
theorem Zj1 : ZlI Zd1 (ZkJ (Zcf Tryz.f154) 0) := fun A env h k z hk => Ze2 (E := Zd1) (Zau Zh6) (dr := Zh5) (lps := Zbj Zh7) (Zbc (by kernel_rfl)) (fun a => by kernel_rfl) env h k z hk
def Zdc (x0 : LI) (x1 : LI) : Option (Bool × Unit) :=
 (bif (decide (((x0.length : Int) : Int) ≠ (x1.length : Int))) then
 some (false, ())
 else
 (Za2 ZcU ((x0, x1, 0, ()), ())).bind fun b1 =>
 (match b1 with
 | .inl b2 =>
 some (b2.1.1, ())
 | .inr b3 =>
 some (true, ())))
def ZmV : CEp where
 f := 154
 args := [.one (.sl 0), .one (.sl 0)]
 hs := []
 res := .val (.one (.bool))
 outs := []
 m := fun d dh => Zdc d.1 d.2.1
 ok := ZdE ZbI Tryz.func154 (by kernel_rfl) (Zau Zh6) (dr := Zh5) (lps := Zbj Zh7) (ZbP (ZcG (n := 1) (by kernel_rfl) fun i hi => match i, hi with | 0, _ => Ze3 (E := Zd1) (by kernel_rfl) Zj1)) (fun d dh => by kernel_rfl)
def ZkO : List (CEp) := [ZmV]
def Zet (x0 : Zbv) (x1 : Zbv) : Option (Bool × Unit) :=
 (Zdc x0.voters x1.voters).bind fun r1 =>
 (bif r1.1 then
 (Zdc x0.old x1.old).bind fun r2 =>
 (bif r2.1 then
 (Zdc x0.learners x1.learners).bind fun r3 =>
 (bif r3.1 then
 (Zdc x0.want x1.want).bind fun r4 =>
 some (r4.1, ())
 else
 some (false, ()))
 else
 some (false, ()))
 else
 some (false, ()))
def ZkP : CEp where
 f := 89
 args := [.cod 8, .cod 8]
 hs := []
 res := .val (.one (.bool))
 outs := []
 m := fun d dh => Zet d.1 d.2.1
 ok := ceO Tryz.func89 (by kernel_rfl) ZkO (by kernel_rfl) fun d dh => by kernel_rfl
def ZmW : List (CEp) := [ZkP]
def Zgm (x0 : ZcP) (x1 : ZcP) : Option (Bool × Unit) :=
 (bif (decide ((x0.index : Int) = x1.index)) then
 (bif (decide ((x0.term_ : Int) = x1.term_)) then
 (Zet x0.config x1.config).bind fun r1 =>
 some (r1.1, ())
 else
 some (false, ()))
 else
 some (false, ()))
def ZmX : CEp where
 f := 48
 args := [.cod 9, .cod 9]
 hs := []
 res := .val (.one (.bool))
 outs := []
 m := fun d dh => Zgm d.1 d.2.1
 ok := ceO Tryz.func48 (by kernel_rfl) ZmW (by kernel_rfl) fun d dh => by kernel_rfl
def Zg0 : Nat -> Nat -> DrA
 | 6, _ => ⟨[0, 1, 2, 4, 5, 6, 3, 7, 8], [[], [], [0, 1], [0, 1, 2], [], [], [4, 5], [4, 5, 6], (List.range 8)], [], [], [], false, []⟩
 | _, _ => ⟨[], [], [], [], [], false, []⟩
def Zg1 : List (CEp) := []
def Zb0 (a : (LB × LB × Int × Unit) × Unit) : Option (((LB × LB × Int × Unit) × Unit) ⊕ (((Bool × Unit) × Unit) ⊕ (Unit × Unit))) :=
 (bif (decide ((a.1.2.2.1 : Int) < (a.1.1.length : Int))) then
 (Ze1 a.1.1 a.1.2.2.1).bind fun e1 =>
 (Ze1 a.1.2.1 a.1.2.2.1).bind fun e2 =>
 (bif (decide (((e1.toNat : Int) : Int) ≠ (e2.toNat : Int))) then
 some (.inr (.inl ((false, ()), ())))
 else
 some (.inl ((a.1.1, a.1.2.1, (IntKind.i64.wrap (a.1.2.2.1 + 1)), ()), ())))
 else
 some (.inr (.inr ((), ()))))
def Zdw : LEp := ⟨4, [0, 1, 5], [.one (.sl 1), .one (.sl 1), .one (.int .i64)], [], [⟨.ret, [4], [.one (.bool)], []⟩, ⟨.exit 0, [], [], []⟩], Zb0⟩
def Zg2 : List (LEp) := [Zdw]
theorem Zi4 : ZlI Zdw (ZkJ (Zcf Tryz.f28) 0) := fun A env h k z hk => Ze2 (E := Zdw) (Zau Zg1) (dr := Zg0) (lps := Zbj Zg2) (Zbc (by kernel_rfl)) (fun a => by kernel_rfl) env h k z hk
def Zfj (x0 : LB) (x1 : LB) : Option (Bool × Unit) :=
 (bif (decide (((x0.length : Int) : Int) ≠ (x1.length : Int))) then
 some (false, ())
 else
 (Za2 Zb0 ((x0, x1, 0, ()), ())).bind fun b1 =>
 (match b1 with
 | .inl b2 =>
 some (b2.1.1, ())
 | .inr b3 =>
 some (true, ())))
def Zmc : CEp where
 f := 28
 args := [.one (.sl 1), .one (.sl 1)]
 hs := []
 res := .val (.one (.bool))
 outs := []
 m := fun d dh => Zfj d.1 d.2.1
 ok := ZdE ZbI Tryz.func28 (by kernel_rfl) (Zau Zg1) (dr := Zg0) (lps := Zbj Zg2) (ZbP (ZcG (n := 1) (by kernel_rfl) fun i hi => match i, hi with | 0, _ => Ze3 (E := Zdw) (by kernel_rfl) Zi4)) (fun d dh => by kernel_rfl)
def Zmd : List (CEp) := [ZmX, Zmc]
def Zdg (x0 : Zb6) (x1 : Zb6) : Option (Bool × Unit) :=
 (Zgm x0.base x1.base).bind fun r1 =>
 (bif r1.1 then
 (Zfj x0.bytes x1.bytes).bind fun r2 =>
 some (r2.1, ())
 else
 some (false, ()))
def Zme : CEp where
 f := 14
 args := [.cod 10, .cod 10]
 hs := []
 res := .val (.one (.bool))
 outs := []
 m := fun d dh => Zdg d.1 d.2.1
 ok := ceO Tryz.func14 (by kernel_rfl) Zmd (by kernel_rfl) fun d dh => by kernel_rfl
end
end Go.Proofs.YteempnebenjkmaaGreatDoor
