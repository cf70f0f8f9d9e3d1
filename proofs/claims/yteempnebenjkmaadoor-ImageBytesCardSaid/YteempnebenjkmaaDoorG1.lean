/- Models, by program. -/
import Derived.Test.YteempnebenjkmaaDoorTb
import Derived.Test.YteempnebenjkmaaDoorGw
import Derived.Test.YteempnebenjkmaaDoorSl
import Derived.Test.YteempnebenjkmaaDoorSumM
import Derived.Test.YteempnebenjkmaaDoorFn
import Derived.Test.YteempnebenjkmaaDoorUn
import Derived.Test.YteempnebenjkmaaDoorOa
import Derived.Test.YteempnebenjkmaaDoorTw
import Derived.Test.YteempnebenjkmaaDoorWr
import Derived.Test.YteempnebenjkmaaDoorFx
import Derived.Test.YteempnebenjkmaaDoorSm
import Derived.Test.YteempnebenjkmaaDoorCl
import Derived.Test.YteempnebenjkmaaDoorFt
namespace Go.Proofs.YteempnebenjkmaaDoor
open Go.RowKit
set_option maxRecDepth 100000
set_option linter.unusedVariables false
noncomputable def Zx9 (rs : List (List UInt8)) : Option (Int × Unit) := if True then some (((Crc.more 0#32 rs.flatten).toNat : Int), ()) else none
noncomputable def Zum : CE CT Tryd.prog where
 f := 55
 args := [.one (.sl 3)]
 hs := []
 res := .val (.one (.int .u32))
 outs := []
 m := fun d dh => Zx9 d.1
 ok := fun d dh r hr => by
  unfold Zx9 at hr
  split at hr
  ·rename_i hc
   injection hr with hr
   subst hr
   refine Tr.sum (C := CT) (Eb := 1) (tb := fun x => x) (fun x => rfl) (Er := 3) (tr := fun x => x) (fun x => rfl) (by kernel_rfl) fun A n c w hR => ?_
   replace hR := (congrArg (fun l => Rep (fun _ => True) w (ZoF l) (.slice A n c)) (Zx7 (α := UInt8) d.1)).mp hR
   exact Zx5 _ d.1 A n c w hR
  ·cases hr
noncomputable def Znu (x0 : Nat × Nat × Nat) (h0 : List (List UInt8)) : Option (Int × ((List (List UInt8)) × Unit)) := if x0.1 + x0.2.1 <= h0.length then (Zx9 ((h0.drop x0.1).take x0.2.1)).bind fun r => some (r.1, (h0, ())) else none
theorem Zpm {U : Nat -> Prop} (d : VsD Ty [.one (.as 3 0)]) (dh : HsD Ty [.arr 27 3 true]) (r : Int × ((List (List UInt8)) × Unit)) (hr : Znu d.1 dh.1 = some r) : Tr CT Tryd.prog U 55 (ZmH CT [.one (.as 3 0)] d) (ZeG CT [.arr 27 3 true] dh) (.int .u32 r.1) (ZeG CT [.arr 27 3 true] r.2) := by
 unfold Znu at hr
 split at hr
 ·rename_i hc
  obtain ⟨⟨g, u⟩, h1, h2⟩ := Zal hr
  injection h2 with h2
  subst h2
  have := Zum.ok ((dh.1.drop d.1.1).take d.1.2.1, ()) () (g, u) h1
  exact Tr.lend (h := [.arr 27 3 true dh.1]) this (by
   show (Nat.beq 3 3 && Nat.ble (d.1.1 + d.1.2.1) dh.1.length && true) = true
   rw [Nat.beq_refl, Nat.ble_eq_true_of_le hc]; rfl) rfl
 ·cases hr
noncomputable def Zun : CE CT Tryd.prog where
 f := 55
 args := [.one (.as 3 0)]
 hs := [.arr 27 3 true]
 res := .val (.one (.int .u32))
 outs := [.arr 27 3 true]
 m := fun d dh => Znu d.1 dh.1
 ok := fun d dh r hr => Zpm d dh r hr
 ro := true
 roOk := fun _ d dh r hr => Zpm d dh r hr
noncomputable def Zn7 (n : Int) : Option (Nat × ((List (UInt8)) × Unit)) := if 0 <= n /\ n <= 140737488355328 /\ n * ((1 : Nat) : Int) <= 140737488355328 then some (0, ([], ())) else none
noncomputable def ZsM : CE CT Tryd.prog where
 f := 73
 args := [.one .nil, .one (.int .i64)]
 hs := []
 res := .val (.one (.asz 1 0))
 outs := [.arr 5 1 false]
 m := fun d dh => Zn7 d.2.1
 ok := fun d dh r hr => by
  unfold Zn7 at hr
  split at hr
  ·rename_i hn
   injection hr with hr
   subst hr
   exact Znt Tryd.growLay73 rfl rfl (zv := .int .u8 0) false (hsz := by kernel_rfl) (hz := by kernel_rfl) (hby := by kernel_rfl) rfl rfl rfl (by kernel_rfl) d.2.1 hn.1 hn.2.1 hn.2.2
  ·cases hr
noncomputable def ZiC (x1 : Int) (h0 : ZdS) : Option (Int × (ZdS × Unit)) := if 0 <= x1 /\ x1.toNat + 4 <= h0.rest.b.length then some ((num h0.rest.b x1.toNat : Int), (h0, ())) else none
theorem Znv {U : Nat -> Prop} (d : VsD Ty [.one (.ptr 0 0), .one (.int .i64)]) (dh : HsD Ty [.cobj 110 5]) (r : Int × (ZdS × Unit)) (hr : ZiC d.2.1 dh.1 = some r) : Tr CT Tryd.prog U 72 (ZmH CT [.one (.ptr 0 0), .one (.int .i64)] d) (ZeG CT [.cobj 110 5] dh) (.int .u32 r.1) (ZeG CT [.cobj 110 5] r.2) := by
 unfold ZiC at hr
 split at hr
 ·rename_i hc
  injection hr with hr
  subst hr
  exact Tr.numb (C := CT) (Eb := 1) (tb := fun x => x) (fun x => rfl) (xs := dh.1.rest.b) (by kernel_rfl) fun b A c w h1 h2 h3 => Zpl hc.1 hc.2 b A c w h1 h2 ((congrArg (fun l => Rep (fun _ => True) w (ZeI l) (.slice A dh.1.rest.b.length c)) (Zx6 (α := UInt8) dh.1.rest.b)).mp h3)
 ·cases hr
noncomputable def ZsN : CE CT Tryd.prog where
 f := 72
 args := [.one (.ptr 0 0), .one (.int .i64)]
 hs := [.cobj 110 5]
 res := .val (.one (.int .u32))
 outs := [.cobj 110 5]
 m := fun d dh => ZiC d.2.1 dh.1
 ok := fun d dh r hr => Znv d dh r hr
 ro := true
 roOk := fun _ d dh r hr => Znv d dh r hr
def Zn8 : Nat -> Nat -> DrA
 | 1, _ => ⟨[], [], [], [], [], true, []⟩
 | _, _ => ⟨[], [], [], [], [], false, []⟩
noncomputable def Zn9 : List (CE CT Tryd.prog) := []
noncomputable def Zoa : List (LE CT Tryd.prog) := []
noncomputable def Zf5 (x0 : Int) : Option ((Nat) × ((List (UInt8)) × Unit)) :=
 (b8 (IntKind.u8.wrap x0)).bind fun u1 =>
 (b8 (IntKind.u8.wrap ((x0 : Int).fdiv (2 ^ min (8 : Int).toNat (IntKind.u32.bits))))).bind fun u2 =>
 (b8 (IntKind.u8.wrap ((x0 : Int).fdiv (2 ^ min (16 : Int).toNat (IntKind.u32.bits))))).bind fun u3 =>
 (b8 (IntKind.u8.wrap ((x0 : Int).fdiv (2 ^ min (24 : Int).toNat (IntKind.u32.bits))))).bind fun u4 =>
 some (4, (([u1, u2, u3, u4] : List (UInt8)), ()))
noncomputable def Zjb : CE CT Tryd.prog where
 f := 54
 args := [.one (.int .u32)]
 hs := []
 res := .val (.one (.asz 1 0))
 outs := [.arr 5 1 false]
 m := fun d dh => Zf5 d.1
 ok := ZbA ZaT Tryd.func54 (by kernel_rfl) (Zai Zn9) (dr := Zn8) (lps := Za8 Zoa) (ZaV (ZaI (by kernel_rfl))) (fun d dh => by kernel_rfl)
def Zob : Nat -> Nat -> DrA
 | 1, _ => ⟨[0, 5, 1, 2, 3, 6, 7, 4, 8, 9, 10], [[], [0], [0, 1], [0, 1, 2], [0, 1, 2, 3], [], [5], [5, 6], [5, 6, 7], (List.range 9), (List.range 10)], [6], [4], [0], false, [8]⟩
 | _, _ => ⟨[], [], [], [], [], false, []⟩
noncomputable def Zoc : List (CE CT Tryd.prog) := [Zjb]
noncomputable def Zod : List (LE CT Tryd.prog) := []
noncomputable def ZhJ (x0 : Zb4) : Option ((Nat) × ((List (UInt8)) × Unit)) :=
 (Zf5 (IntKind.u32.wrap (x0.data.length : Int))).bind fun r1 =>
 (b8 (IntKind.u8.wrap x0.kind)).bind fun u2 =>
 (if 0 + 1 <= ([u2] : List (UInt8)).length then
 (if (r1.1 + ((([u2] : List (UInt8)).drop 0).take 1).length) <= 140737488355328 /\ (r1.1 + ((([u2] : List (UInt8)).drop 0).take 1).length) * 1 <= 140737488355328 /\ 0 + r1.1 <= r1.2.1.length then
 some ((r1.1 + ((([u2] : List (UInt8)).drop 0).take 1).length), ((r1.2.1.take r1.1 ++ ((([u2] : List (UInt8)).drop 0).take 1)), ()))
 else none)
 else none)
noncomputable def Zoe : CE CT Tryd.prog where
 f := 52
 args := [.cod 6]
 hs := []
 res := .val (.one (.asz 1 0))
 outs := [.arr 5 1 false]
 m := fun d dh => ZhJ d.1
 ok := ZbA ZaT Tryd.func52 (by kernel_rfl) (Zai Zoc) (dr := Zob) (lps := Za8 Zod) (ZaV (ZaI (by kernel_rfl))) (fun d dh => by kernel_rfl)
noncomputable def Zd9 (x0 : Zb4) : Option ((List (UInt8)) × (Unit × Unit)) :=
 (ZhJ x0).bind fun r => if r.1 ≠ 0 /\ r.1 <= r.2.1.length then some (r.2.1.take r.1, ((), ())) else none
noncomputable def Zl9 : CE CT Tryd.prog where
 f := 52
 args := [.cod 6]
 hs := []
 res := .val (.one (.own 1 0))
 outs := [.row 5 1]
 m := fun d dh => Zd9 d.1
 ok := fun d dh r hr => by
  unfold Zd9 at hr
  obtain ⟨⟨n, xs, u⟩, h1, h2⟩ := Zal hr
  dsimp only at h2
  split at h2
  ·rename_i hc
   injection h2 with h2
   subst h2
   exact Tr.freezeO hc.1 hc.2 (Zoe.ok d dh _ h1)
  ·cases h2
noncomputable def Zea (x0 : Int) : Option ((List (UInt8)) × (Unit × Unit)) :=
 (Zf5 x0).bind fun r => if r.1 ≠ 0 /\ r.1 <= r.2.1.length then some (r.2.1.take r.1, ((), ())) else none
noncomputable def Zma : CE CT Tryd.prog where
 f := 54
 args := [.one (.int .u32)]
 hs := []
 res := .val (.one (.own 1 0))
 outs := [.row 5 1]
 m := fun d dh => Zea d.1
 ok := fun d dh r hr => by
  unfold Zea at hr
  obtain ⟨⟨n, xs, u⟩, h1, h2⟩ := Zal hr
  dsimp only at h2
  split at h2
  ·rename_i hc
   injection h2 with h2
   subst h2
   exact Tr.freezeO hc.1 hc.2 (Zjb.ok d dh _ h1)
  ·cases h2
def Zek : Nat -> Nat -> DrA
 | _, _ => ⟨[], [], [], [], [], false, []⟩
noncomputable def Zel : List (CE CT Tryd.prog) := [ZsM]
noncomputable def ZbO (a : ((List (List (UInt8))) × (Int) × (List (List (UInt8))) × (Int) × (Int) × Unit) × (Unit)) : Option ((((List (List (UInt8))) × (Int) × (List (List (UInt8))) × (Int) × (Int) × Unit) × (Unit)) ⊕ ((((List (List (UInt8))) × (Int) × Unit) × (Unit)))) :=
 (bif (decide ((a.1.2.2.2.2.1 : Int) < a.1.2.2.2.1)) then
 (ZhG a.1.2.2.1 a.1.2.2.2.2.1).bind fun e1 =>
 (bif (decide (((IntKind.i64.wrap (a.1.2.1 + (e1.length : Int))) : Int) < 0)) then
 none
 else
 some (.inl ((a.1.1, (IntKind.i64.wrap (a.1.2.1 + (e1.length : Int))), a.1.2.2.1, a.1.2.2.2.1, (IntKind.i64.wrap (a.1.2.2.2.2.1 + 1)), ()), ())))
 else
 some (.inr ((a.1.1, a.1.2.1, ()), ())))
noncomputable def Zdb : LE CT Tryd.prog := ⟨3, [0, 3, 9, 10, 11], [.one (.sl 3), .one (.int .i64), .one (.sl 3), .one (.int .i64), .one (.int .i64)], [], [⟨.exit 0, [0, 3], [.one (.sl 3), .one (.int .i64)], []⟩], ZbO⟩
noncomputable def ZbP (a : ((Nat) × (List (List (UInt8))) × (Int) × (Int) × Unit) × ((List (UInt8)) × Unit)) : Option ((((Nat) × (List (List (UInt8))) × (Int) × (Int) × Unit) × ((List (UInt8)) × Unit)) ⊕ ((((Nat) × Unit) × ((Unit) × (List (UInt8)) × Unit)))) :=
 (bif (decide ((a.1.2.2.2.1 : Int) < a.1.2.2.1)) then
 (ZhG a.1.2.1 a.1.2.2.2.1).bind fun e1 =>
 (if (a.1.1 + e1.length) <= 140737488355328 /\ (a.1.1 + e1.length) * 1 <= 140737488355328 /\ 0 + a.1.1 <= a.2.1.length then
 some (.inl (((a.1.1 + e1.length), a.1.2.1, a.1.2.2.1, (IntKind.i64.wrap (a.1.2.2.2.1 + 1)), ()), ((a.2.1.take a.1.1 ++ e1), ())))
 else none)
 else
 some (.inr ((a.1.1, ()), ((), a.2.1, ()))))
noncomputable def Zdc : LE CT Tryd.prog := ⟨11, [6, 25, 26, 27], [.one (.asz 1 0), .one (.sl 3), .one (.int .i64), .one (.int .i64)], [.arr 5 1 false], [⟨.exit 2, [6], [.one (.asz 1 1)], [.dead, .arr 5 1 false]⟩], ZbP⟩
noncomputable def Zem : List (LE CT Tryd.prog) := [Zdb, Zdc]
theorem ZiD : ZoD Zdb (Zns (Zdy Tryd.f53) 0) := fun A env h k z hk => Zhl (E := Zdb) (Zai Zel) (dr := Zek) (lps := Za8 Zem) (ZaI (by kernel_rfl)) (fun a => by kernel_rfl) env h k z hk
theorem ZiE : ZoD Zdc (Zns (Zdy Tryd.f53) 1) := fun A env h k z hk => Zhl (E := Zdc) (Zai Zel) (dr := Zek) (lps := Za8 Zem) (ZaI (by kernel_rfl)) (fun a => by kernel_rfl) env h k z hk
noncomputable def Zet (x0 : List (List (UInt8))) : Option ((Nat) × ((List (UInt8)) × Unit)) :=
 (Zbl ZbO ((x0, 0, x0, (x0.length : Int), 0, ()), ())).bind fun b1 =>
 (Zn7 b1.1.2.1).bind fun r2 =>
 (Zbl ZbP ((r2.1, b1.1.1, (b1.1.1.length : Int), 0, ()), (r2.2.1, ()))).bind fun b3 =>
 some (b3.1.1, (b3.2.2.1, ()))
noncomputable def Zk4 : CE CT Tryd.prog where
 f := 53
 args := [.one (.sl 3)]
 hs := []
 res := .val (.one (.asz 1 0))
 outs := [.arr 5 1 false]
 m := fun d dh => Zet d.1
 ok := ZbA ZaT Tryd.func53 (by kernel_rfl) (Zai Zel) (dr := Zek) (lps := Za8 Zem) (ZaV (Zd8 (n := 2) (by kernel_rfl) fun i hi => match i, hi with | 0, _ => Zhm (E := Zdb) (by kernel_rfl) ZiD | 1, _ => Zhm (E := Zdc) (by kernel_rfl) ZiE)) (fun d dh => by kernel_rfl)
noncomputable def Zce (x0 : List (List (UInt8))) : Option ((List (UInt8)) × (Unit × Unit)) :=
 (Zet x0).bind fun r => if r.1 ≠ 0 /\ r.1 <= r.2.1.length then some (r.2.1.take r.1, ((), ())) else none
noncomputable def Zjc : CE CT Tryd.prog where
 f := 53
 args := [.one (.sl 3)]
 hs := []
 res := .val (.one (.own 1 0))
 outs := [.row 5 1]
 m := fun d dh => Zce d.1
 ok := fun d dh r hr => by
  unfold Zce at hr
  obtain ⟨⟨n, xs, u⟩, h1, h2⟩ := Zal hr
  dsimp only at h2
  split at h2
  ·rename_i hc
   injection h2 with h2
   subst h2
   exact Tr.freezeO hc.1 hc.2 (Zk4.ok d dh _ h1)
  ·cases h2
def ZkM : Nat -> Nat -> DrA
 | 10, _ => ⟨[0, 1, 2, 3, 8, 4, 9, 5, 6, 7, 10, 11, 12], [[], [], [], [], [3], [2, 3, 4], [2, 3, 4, 5], [2, 3, 4, 5, 6], [], [8], (List.range 10), (List.range 11), (List.range 12)], [9], [6, 7], [1], false, []⟩
 | _, _ => ⟨[], [], [], [], [], false, []⟩
noncomputable def ZkN : List (CE CT Tryd.prog) := [Zl9, Zum, Zma, Zjc]
noncomputable def Zfr (a : ((List (UInt8)) × (List (Zb4)) × (Int) × (Int) × Unit) × ((Unit) × Unit)) : Option ((((List (UInt8)) × (List (Zb4)) × (Int) × (Int) × Unit) × ((Unit) × Unit)) ⊕ ((((Unit) × (Int) × Unit) × ((Unit) × Unit)) ⊕ (((List (UInt8)) × Unit) × ((Unit) × (Unit) × Unit)))) :=
 (bif (decide ((a.1.2.2.2.1 : Int) < a.1.2.2.1)) then
 (ZhG a.1.2.1 a.1.2.2.2.1).bind fun e1 =>
 (bif (decide ((e1.kind : Int) < 0)) then
 some (.inr (.inl (((), 2, ()), ((), ()))))
 else
 (bif (decide ((255 : Int) < e1.kind)) then
 some (.inr (.inl (((), 2, ()), ((), ()))))
 else
 (bif (decide ((262144 : Int) < (e1.data.length : Int))) then
 some (.inr (.inl (((), 3, ()), ((), ()))))
 else
 (Zd9 e1).bind fun r2 =>
 (Zx9 ([r2.1, e1.data] : List (List (UInt8)))).bind fun r3 =>
 (Zea r3.1).bind fun r4 =>
 (Zce ([a.1.1, r2.1, r4.1, e1.data] : List (List (UInt8)))).bind fun r5 =>
 some (.inl ((r5.1, a.1.2.1, a.1.2.2.1, (IntKind.i64.wrap (a.1.2.2.2.1 + 1)), ()), ((), ()))))))
 else
 some (.inr (.inr ((a.1.1, ()), ((), (), ())))))
noncomputable def Zfs : LE CT Tryd.prog := ⟨3, [4, 8, 9, 10], [.one (.own 1 0), .one (.sl 6), .one (.int .i64), .one (.int .i64)], [.row 5 1], [⟨.ret, [2, 3], [.one (.nil), .one (.int .i64)], [.dead]⟩, ⟨.exit 0, [4], [.one (.own 1 1)], [.dead, .row 5 1]⟩], Zfr⟩
noncomputable def ZkO : List (LE CT Tryd.prog) := [Zfs]
theorem Zmb : ZoD Zfs (Zns (Zdy Tryd.f32) 0) := fun A env h k z hk => Zhl (E := Zfs) (Zai ZkN) (dr := ZkM) (lps := Za8 ZkO) (ZaI (by kernel_rfl)) (fun a => by kernel_rfl) env h k z hk
noncomputable def Zeb (x0 : List (Zb4)) : Option (((List (UInt8)) × (Int) × Unit) × ((Unit) × Unit)) :=
 (Zbl Zfr (([], x0, (x0.length : Int), 0, ()), ((), ()))).bind fun b1 =>
 (match b1 with
 | .inl b2 =>
 some (([], b2.1.2.1, ()), ((), ()))
 | .inr b3 =>
 some ((b3.1.1, 0, ()), ((), ())))
noncomputable def Zpn : CE CT Tryd.prog where
 f := 32
 args := [.one (.sl 6)]
 hs := []
 res := .tup [.one (.own 1 0), .one (.int .i64)]
 outs := [.row 5 1]
 m := fun d dh => Zeb d.1
 ok := ZbA ZaT Tryd.func32 (by kernel_rfl) (Zai ZkN) (dr := ZkM) (lps := Za8 ZkO) (ZaV (Zd8 (n := 1) (by kernel_rfl) fun i hi => match i, hi with | 0, _ => Zhm (E := Zfs) (by kernel_rfl) Zmb)) (fun d dh => by kernel_rfl)
noncomputable def ZfF (x : List (UInt8)) : Option ((List (UInt8)) × (Unit × Unit)) :=
 if x.length <= 140737488355328 /\ x.length * 1 <= 140737488355328 then some (x, ((), ())) else none
noncomputable def ZhK : CE CT Tryd.prog where
 f := 42
 args := [.one (.sl 1)]
 hs := []
 res := .val (.one (.own 1 0))
 outs := [.row 5 1]
 m := fun d dh => ZfF d.1
 ok := fun d dh r hr => by
  unfold ZfF at hr
  split at hr
  ·rename_i hroom
   injection hr with hr
   subst hr
   exact ZvL ZaT Tryd.func42 (by kernel_rfl) rfl rfl (zv := .int .u8 0) (he := by kernel_rfl) (hsz := by kernel_rfl) (hz := by kernel_rfl) (hby := by kernel_rfl) rfl rfl d.1 hroom
  ·cases hr
def Zof : Nat -> Nat -> DrA
 | 6, _ => ⟨[0, 1, 2, 3, 8, 9, 10, 11, 13, 14, 4, 5, 6, 7, 12, 15, 16, 17, 18, 19], [[], [0], [0, 1], [0, 1, 2], [0, 1, 2, 3], (List.range 5), (List.range 6), (List.range 7), [], [8], [8, 9], [8, 9, 10], [8, 9, 10, 11], [], [13], [8, 9, 10, 11, 12, 13, 14], [8, 9, 10, 11, 12, 13, 14, 15], (List.range 17), [], (List.range 19)], [4, 6], [16], [0], false, []⟩
 | 7, _ => ⟨[0, 1, 2, 4, 5, 6, 7, 10, 8, 9, 11, 3, 12, 13, 14], [[], [0], [0, 1], [0, 1, 2], [], [4], [4, 5], [4, 5, 6], [4, 5, 6, 7], [4, 5, 6, 7, 8], [], [10], [4, 5, 6, 7, 8, 9, 10, 11], (List.range 13), (List.range 14)], [8, 11], [3], [0, 3], false, [12]⟩
 | 9, _ => ⟨(List.range 6 ++ [7, 8, 10, 11, 12, 15, 6, 9, 13, 14, 16, 17, 18, 19, 20, 21, 22, 23]), [[], [], [], [2], [2, 3], [2, 3, 4], [2, 3, 4, 5], [], [7], [2, 3, 4, 5, 6, 7, 8], [], [10], [10, 11], [10, 11, 12], [10, 11, 12, 13], [], [10, 11, 12, 13, 14, 15], [0, 2, 3, 4, 5, 6, 7, 8, 9, 10, 11, 12, 13], [0, 2, 3, 4, 5, 6, 7, 8, 9, 10, 11, 12, 13, 17], [0, 2, 3, 4, 5, 6, 7, 8, 9, 10, 11, 12, 13, 17, 18], [0, 2, 3, 4, 5, 6, 7, 8, 9, 10, 11, 12, 13, 17, 18, 19], (List.range 21), (List.range 22), (List.range 23)], [], [], [], false, []⟩
 | _, _ => ⟨[], [], [], [], [], false, []⟩
noncomputable def Zog : List (CE CT Tryd.prog) := [ZsN, ZhK, Zun]
noncomputable def Zoh : List (LE CT Tryd.prog) := []
noncomputable def ZhL (h0 : ZdS) : Option (((Zb4) × (Bool) × Unit) × ((ZdS) × Unit)) :=
 (bif (decide (((h0.rest.b.length : Int) : Int) < 9)) then
 some (((⟨0, []⟩ : Zb4), false, ()), (h0, ()))
 else
 (ZiC 0 h0).bind fun r1 =>
 (bif (decide ((262144 : Int) < (IntKind.i64.wrap r1.1))) then
 some (((⟨0, []⟩ : Zb4), false, ()), (r1.2.1, ()))
 else
 (bif (decide (((IntKind.i64.wrap ((r1.2.1.rest.b.length : Int) - 9)) : Int) < (IntKind.i64.wrap r1.1))) then
 some (((⟨0, []⟩ : Zb4), false, ()), (r1.2.1, ()))
 else
 (ZhG r1.2.1.rest.b 4).bind fun e2 =>
 (if 0 <= (9 : Int) /\ (9 : Int) <= (IntKind.i64.wrap (9 + (IntKind.i64.wrap r1.1))) /\ (IntKind.i64.wrap (9 + (IntKind.i64.wrap r1.1))) <= (r1.2.1.rest.b.length : Int) then
 let y3 : List (UInt8) := ((r1.2.1.rest.b.drop (9 : Int).toNat).take (((IntKind.i64.wrap (9 + (IntKind.i64.wrap r1.1))) : Int).toNat - (9 : Int).toNat))
 (ZfF y3).bind fun r4 =>
 (if 0 <= ((0 : Int) : Int) /\ ((0 : Int) : Int) <= 5 /\ 5 <= (r1.2.1.rest.b.length : Int) then
 let y5 : List (UInt8) := ((r1.2.1.rest.b.drop ((0 : Int) : Int).toNat).take ((5 : Int).toNat - ((0 : Int) : Int).toNat))
 (ZiC 5 r1.2.1).bind fun r6 =>
 (Znu (0, 2, 2) ([y5, r4.1] : List (List (UInt8)))).bind fun r7 =>
 (bif (decide ((r6.1 : Int) ≠ r7.1)) then
 some (((⟨0, []⟩ : Zb4), false, ()), (r6.2.1, ()))
 else
 (if 0 <= ((IntKind.i64.wrap (9 + (IntKind.i64.wrap r1.1))) : Int) /\ ((IntKind.i64.wrap (9 + (IntKind.i64.wrap r1.1))) : Int) <= (r6.2.1.rest.b.length : Int) /\ (r6.2.1.rest.b.length : Int) <= (r6.2.1.rest.b.length : Int) then
 let y8 : List (UInt8) := ((r6.2.1.rest.b.drop ((IntKind.i64.wrap (9 + (IntKind.i64.wrap r1.1))) : Int).toNat).take (((r6.2.1.rest.b.length : Int) : Int).toNat - ((IntKind.i64.wrap (9 + (IntKind.i64.wrap r1.1))) : Int).toNat))
 let y9 : Int := (IntKind.i64.wrap ((IntKind.i64.wrap (r6.2.1.at_ + 9)) + (IntKind.i64.wrap r1.1)))
 some (((⟨(IntKind.i64.wrap (e2.toNat : Int)), r4.1⟩ : Zb4), true, ()), ((⟨(⟨y8⟩ : ZsC), y9⟩ : ZdS), ()))
 else none))
 else none)
 else none))))
noncomputable def Zoi : CE CT Tryd.prog where
 f := 51
 args := [.one (.ptr 0 0)]
 hs := [.cobj 110 5]
 res := .tup [.cod 6, .one (.bool)]
 outs := [.cobj 110 5]
 m := fun d dh => ZhL dh.1
 ok := ZbA ZaT Tryd.func51 (by kernel_rfl) (Zai Zog) (dr := Zof) (lps := Za8 Zoh) (ZaV (ZaI (by kernel_rfl))) (fun d dh => by kernel_rfl)
def ZkP : Nat -> Nat -> DrA
 | 5, _ => ⟨[0, 1, 2, 3, 5, 4, 6], [[], [], [1], [1, 2], [1, 2, 3], [0], (List.range 6)], [], [], [], false, []⟩
 | _, _ => ⟨[], [], [], [], [], false, []⟩
noncomputable def ZkQ : List (CE CT Tryd.prog) := [Zoi]
noncomputable def Zft (a : ((List (Zb4)) × (Unit) × Unit) × ((ZdS) × (Unit) × Unit)) : Option ((((List (Zb4)) × (Unit) × Unit) × ((ZdS) × (Unit) × Unit)) ⊕ ((((List (Zb4)) × (Int) × Unit) × ((ZdS) × (Unit) × (Unit) × Unit)))) :=
 (ZhL a.2.1).bind fun r1 =>
 (bif (!r1.1.2.1) then
 some (.inr ((a.1.1, r1.2.1.at_, ()), (r1.2.1, (), (), ())))
 else
 (if a.1.1.length + ([r1.1.1] : List (Zb4)).length <= 140737488355328 /\ (a.1.1.length + ([r1.1.1] : List (Zb4)).length) * 32 <= 140737488355328 then
 some (.inl (((a.1.1 ++ ([r1.1.1] : List (Zb4))), (), ()), (r1.2.1, (), ())))
 else none))
noncomputable def Zfu : LE CT Tryd.prog := ⟨3, [4, 5], [.one (.own 6 1), .one (.ptr 0 0)], [.cobj 110 5, .row 79 2], [⟨.ret, [2, 3], [.one (.own 6 2), .one (.int .i64)], [.cobj 110 5, .dead, .row 79 2]⟩], Zft⟩
noncomputable def ZkR : List (LE CT Tryd.prog) := [Zfu]
theorem Zmc : ZoD Zfu (Zns (Zdy Tryd.f31) 0) := fun A env h k z hk => Zhl (E := Zfu) (Zai ZkQ) (dr := ZkP) (lps := Za8 ZkR) (ZaI (by kernel_rfl)) (fun a => by kernel_rfl) env h k z hk
noncomputable def ZeV (x0 : List (UInt8)) : Option (((List (Zb4)) × (Int) × Unit) × ((Unit) × Unit)) :=
 (Zbl Zft (([], (), ()), ((⟨(⟨x0⟩ : ZsC), 0⟩ : ZdS), (), ()))).bind fun b1 =>
 some ((b1.1.1, b1.1.2.1, ()), ((), ()))
noncomputable def Zpo : CE CT Tryd.prog where
 f := 31
 args := [.one (.sl 1)]
 hs := []
 res := .tup [.one (.own 6 0), .one (.int .i64)]
 outs := [.row 79 2]
 m := fun d dh => ZeV d.1
 ok := ZbA ZaT Tryd.func31 (by kernel_rfl) (Zai ZkQ) (dr := ZkP) (lps := Za8 ZkR) (ZaV (Zd8 (n := 1) (by kernel_rfl) fun i hi => match i, hi with | 0, _ => Zhm (E := Zfu) (by kernel_rfl) Zmc)) (fun d dh => by kernel_rfl)
def Zj0 : Nat -> Nat -> DrA
 | _, _ => ⟨[], [], [], [], [], false, []⟩
noncomputable def Zj1 : List (CE CT Tryd.prog) := []
noncomputable def Zj2 : List (LE CT Tryd.prog) := []
noncomputable def ZfG  : Option ((Unit) × (((Bool) × (Bool) × (List (UInt8)) × Unit) × (Unit) × Unit)) :=
 some ((), ((true, false, [], ()), (), ()))
noncomputable def Zf6 : CE CT Tryd.prog where
 f := 19
 args := []
 hs := []
 res := .val (.one (.ptr 0 0))
 outs := [.obj 92 [.bool, .bool, .own 1 1], .row 5 1]
 m := fun d dh => ZfG
 ok := ZbA ZaT Tryd.func19 (by kernel_rfl) (Zai Zj1) (dr := Zj0) (lps := Za8 Zj2) (ZaV (ZaI (by kernel_rfl))) (fun d dh => by kernel_rfl)
def Zoj : Nat -> Nat -> DrA
 | _, _ => ⟨[], [], [], [], [], false, []⟩
noncomputable def Zok : List (CE CT Tryd.prog) := []
noncomputable def Zol : List (LE CT Tryd.prog) := []
noncomputable def ZhM (h0 : (Bool) × (Bool) × (List (UInt8)) × Unit) : Option ((Bool) × (((Bool) × (Bool) × (List (UInt8)) × Unit) × (Unit) × (Unit) × Unit)) :=
 some (h0.1, ((h0.1, h0.2.1, h0.2.2.1, ()), (), (), ()))
noncomputable def ZgG : CE CT Tryd.prog where
 f := 39
 args := [.one (.ptr 0 0)]
 hs := [.obj 92 [.bool, .bool, .own 1 1], .row 5 1]
 res := .val (.one (.bool))
 outs := [.obj 92 [.bool, .bool, .own 1 2], .dead, .row 5 1]
 m := fun d dh => ZhM dh.1
 ok := ZbA ZaT Tryd.func39 (by kernel_rfl) (Zai Zok) (dr := Zoj) (lps := Za8 Zol) (ZaV (ZaI (by kernel_rfl))) (fun d dh => by kernel_rfl)
def ZqG : Nat -> Nat -> DrA
 | _, _ => ⟨[], [], [], [], [], false, []⟩
noncomputable def ZqH : List (CE CT Tryd.prog) := []
noncomputable def ZqI : List (LE CT Tryd.prog) := []
noncomputable def ZhN (x1 : List (UInt8)) (h0 : (Bool) × (Bool) × (List (UInt8)) × Unit) : Option ((Unit) × (((Bool) × (Bool) × (List (UInt8)) × Unit) × (Unit) × (Unit) × Unit)) :=
 (bif h0.1 then
 (if h0.2.2.1.length + x1.length <= 140737488355328 /\ (h0.2.2.1.length + x1.length) * 1 <= 140737488355328 then
 some ((), ((h0.1, h0.2.1, (h0.2.2.1 ++ x1), ()), (), (), ()))
 else none)
 else
 some ((), ((h0.1, h0.2.1, h0.2.2.1, ()), (), (), ())))
noncomputable def Zmd : CE CT Tryd.prog where
 f := 41
 args := [.one (.ptr 0 0), .one (.sl 1)]
 hs := [.obj 92 [.bool, .bool, .own 1 1], .row 5 1]
 res := .tup []
 outs := [.obj 92 [.bool, .bool, .own 1 2], .dead, .row 5 1]
 m := fun d dh => ZhN d.2.1 dh.1
 ok := ZbA ZaT Tryd.func41 (by kernel_rfl) (Zai ZqH) (dr := ZqG) (lps := Za8 ZqI) (ZaV (ZaI (by kernel_rfl))) (fun d dh => by kernel_rfl)
def Zif : Nat -> Nat -> DrA
 | _, _ => ⟨[], [], [], [], [], false, []⟩
noncomputable def Zig : List (CE CT Tryd.prog) := [Zmd]
noncomputable def ZcW (a : ((Unit) × (Int) × Unit) × (((Bool) × (Bool) × (List (UInt8)) × Unit) × (Unit) × Unit)) : Option ((((Unit) × (Int) × Unit) × (((Bool) × (Bool) × (List (UInt8)) × Unit) × (Unit) × Unit)) ⊕ ((((Unit) × (Int) × Unit) × (((Bool) × (Bool) × (List (UInt8)) × Unit) × (Unit) × (Unit) × Unit)))) :=
 (bif (decide ((127 : Int) < a.1.2.1)) then
 (b8 (IntKind.u8.wrap ((BitVec.ofInt (IntKind.u8.bits) (IntKind.u8.wrap a.1.2.1) ||| BitVec.ofInt (IntKind.u8.bits) 128).toNat))).bind fun u1 =>
 (ZhN ([u1] : List (UInt8)) (a.2.1.1, a.2.1.2.1, a.2.1.2.2.1, ())).bind fun r2 =>
 some (.inl (((), ((a.1.2.1 : Int).fdiv (2 ^ min (7 : Int).toNat (IntKind.i64.bits))), ()), ((r2.2.1.1, r2.2.1.2.1, r2.2.1.2.2.1, ()), (), ())))
 else
 some (.inr (((), a.1.2.1, ()), ((a.2.1.1, a.2.1.2.1, a.2.1.2.2.1, ()), (), (), ()))))
noncomputable def Zd0 : LE CT Tryd.prog := ⟨2, [0, 1], [.one (.ptr 0 0), .one (.int .i64)], [.obj 92 [.bool, .bool, .own 1 1], .row 5 1], [⟨.exit 0, [0, 1], [.one (.ptr 0 0), .one (.int .i64)], [.obj 92 [.bool, .bool, .own 1 2], .dead, .row 5 1]⟩], ZcW⟩
noncomputable def Zih : List (LE CT Tryd.prog) := [Zd0]
theorem Zj3 : ZoD Zd0 (Zns (Zdy Tryd.f40) 0) := fun A env h k z hk => Zhl (E := Zd0) (Zai Zig) (dr := Zif) (lps := Za8 Zih) (ZaI (by kernel_rfl)) (fun a => by kernel_rfl) env h k z hk
noncomputable def ZdT (x1 : Int) (h0 : (Bool) × (Bool) × (List (UInt8)) × Unit) : Option ((Unit) × (((Bool) × (Bool) × (List (UInt8)) × Unit) × (Unit) × (Unit) × Unit)) :=
 (bif (decide ((x1 : Int) < 0)) then
 some ((), ((h0.1, true, h0.2.2.1, ()), (), (), ()))
 else
 (bif (decide ((4611686018427387903 : Int) < x1)) then
 some ((), ((h0.1, true, h0.2.2.1, ()), (), (), ()))
 else
 (Zbl ZcW (((), x1, ()), ((h0.1, h0.2.1, h0.2.2.1, ()), (), ()))).bind fun b1 =>
 (b8 (IntKind.u8.wrap b1.1.2.1)).bind fun u2 =>
 (ZhN ([u2] : List (UInt8)) (b1.2.1.1, b1.2.1.2.1, b1.2.1.2.2.1, ())).bind fun r3 =>
 some ((), ((r3.2.1.1, r3.2.1.2.1, r3.2.1.2.2.1, ()), (), (), ()))))
noncomputable def Zii : CE CT Tryd.prog where
 f := 40
 args := [.one (.ptr 0 0), .one (.int .i64)]
 hs := [.obj 92 [.bool, .bool, .own 1 1], .row 5 1]
 res := .tup []
 outs := [.obj 92 [.bool, .bool, .own 1 2], .dead, .row 5 1]
 m := fun d dh => ZdT d.2.1 dh.1
 ok := ZbA ZaT Tryd.func40 (by kernel_rfl) (Zai Zig) (dr := Zif) (lps := Za8 Zih) (ZaV (Zd8 (n := 1) (by kernel_rfl) fun i hi => match i, hi with | 0, _ => Zhm (E := Zd0) (by kernel_rfl) Zj3)) (fun d dh => by kernel_rfl)
def Zhp : Nat -> Nat -> DrA
 | _, _ => ⟨[], [], [], [], [], false, []⟩
noncomputable def Zhq : List (CE CT Tryd.prog) := [ZgG, Zii]
noncomputable def ZcA (a : ((Unit) × (List (Int)) × (Int) × (Int) × Unit) × (((Bool) × (Bool) × (List (UInt8)) × Unit) × (Unit) × Unit)) : Option ((((Unit) × (List (Int)) × (Int) × (Int) × Unit) × (((Bool) × (Bool) × (List (UInt8)) × Unit) × (Unit) × Unit)) ⊕ ((((Unit) × Unit) × (((Bool) × (Bool) × (List (UInt8)) × Unit) × (Unit) × (Unit) × Unit)))) :=
 (bif (decide ((a.1.2.2.2.1 : Int) < a.1.2.2.1)) then
 (ZhG a.1.2.1 a.1.2.2.2.1).bind fun e1 =>
 (ZdT e1 (a.2.1.1, a.2.1.2.1, a.2.1.2.2.1, ())).bind fun r2 =>
 some (.inl (((), a.1.2.1, a.1.2.2.1, (IntKind.i64.wrap (a.1.2.2.2.1 + 1)), ()), ((r2.2.1.1, r2.2.1.2.1, r2.2.1.2.2.1, ()), (), ())))
 else
 some (.inr (((), ()), ((a.2.1.1, a.2.1.2.1, a.2.1.2.2.1, ()), (), (), ()))))
noncomputable def ZdA : LE CT Tryd.prog := ⟨3, [0, 9, 10, 11], [.one (.ptr 0 0), .one (.sl 0), .one (.int .i64), .one (.int .i64)], [.obj 92 [.bool, .bool, .own 1 1], .row 5 1], [⟨.exit 0, [0], [.one (.ptr 0 0)], [.obj 92 [.bool, .bool, .own 1 2], .dead, .row 5 1]⟩], ZcA⟩
noncomputable def Zhr : List (LE CT Tryd.prog) := [ZdA]
theorem Zjd : ZoD ZdA (Zns (Zdy Tryd.f37) 0) := fun A env h k z hk => Zhl (E := ZdA) (Zai Zhq) (dr := Zhp) (lps := Za8 Zhr) (ZaI (by kernel_rfl)) (fun a => by kernel_rfl) env h k z hk
noncomputable def Zdn (x1 : List (Int)) (h0 : (Bool) × (Bool) × (List (UInt8)) × Unit) : Option ((Unit) × (((Bool) × (Bool) × (List (UInt8)) × Unit) × (Unit) × (Unit) × Unit)) :=
 (ZhM (h0.1, h0.2.1, h0.2.2.1, ())).bind fun r1 =>
 (bif r1.1 then
 (Zbl ZcA (((), x1, (x1.length : Int), 0, ()), ((r1.2.1.1, r1.2.1.2.1, r1.2.1.2.2.1, ()), (), ()))).bind fun b2 =>
 some ((), ((b2.2.1.1, b2.2.1.2.1, b2.2.1.2.2.1, ()), (), (), ()))
 else
 some ((), ((r1.2.1.1, r1.2.1.2.1, r1.2.1.2.2.1, ()), (), (), ())))
noncomputable def Zhs : CE CT Tryd.prog where
 f := 37
 args := [.one (.ptr 0 0), .one (.sl 0)]
 hs := [.obj 92 [.bool, .bool, .own 1 1], .row 5 1]
 res := .val (.one (.ptr 0 0))
 outs := [.obj 92 [.bool, .bool, .own 1 2], .dead, .row 5 1]
 m := fun d dh => Zdn d.2.1 dh.1
 ok := ZbA ZaT Tryd.func37 (by kernel_rfl) (Zai Zhq) (dr := Zhp) (lps := Za8 Zhr) (ZaV (Zd8 (n := 1) (by kernel_rfl) fun i hi => match i, hi with | 0, _ => Zhm (E := ZdA) (by kernel_rfl) Zjd)) (fun d dh => by kernel_rfl)
def Zje : Nat -> Nat -> DrA
 | _, _ => ⟨[], [], [], [], [], false, []⟩
noncomputable def Zjf : List (CE CT Tryd.prog) := [Zhs]
noncomputable def Zjg : List (LE CT Tryd.prog) := []
noncomputable def ZdB (x1 : List (Int)) (h0 : (Bool) × (Bool) × (List (UInt8)) × Unit) : Option ((Unit) × (((Bool) × (Bool) × (List (UInt8)) × Unit) × (Unit) × (Unit) × Unit)) :=
 (Zdn ([(x1.length : Int)] : List (Int)) (h0.1, h0.2.1, h0.2.2.1, ())).bind fun r1 =>
 (Zdn x1 (r1.2.1.1, r1.2.1.2.1, r1.2.1.2.2.1, ())).bind fun r2 =>
 some ((), ((r2.2.1.1, r2.2.1.2.1, r2.2.1.2.2.1, ()), (), (), ()))
noncomputable def Zjh : CE CT Tryd.prog where
 f := 66
 args := [.one (.ptr 0 0), .one (.sl 0)]
 hs := [.obj 92 [.bool, .bool, .own 1 1], .row 5 1]
 res := .tup []
 outs := [.obj 92 [.bool, .bool, .own 1 2], .dead, .row 5 1]
 m := fun d dh => ZdB d.2.1 dh.1
 ok := ZbA ZaT Tryd.func66 (by kernel_rfl) (Zai Zjf) (dr := Zje) (lps := Za8 Zjg) (ZaV (ZaI (by kernel_rfl))) (fun d dh => by kernel_rfl)
def Zf7 : Nat -> Nat -> DrA
 | _, _ => ⟨[], [], [], [], [], false, []⟩
noncomputable def Zf8 : List (CE CT Tryd.prog) := [Zjh]
noncomputable def ZdU (a : ((Unit) × (List (List (Int))) × (Int) × (Int) × Unit) × (((Bool) × (Bool) × (List (UInt8)) × Unit) × (Unit) × (Unit) × Unit)) : Option ((((Unit) × (List (List (Int))) × (Int) × (Int) × Unit) × (((Bool) × (Bool) × (List (UInt8)) × Unit) × (Unit) × (Unit) × Unit)) ⊕ (((Unit) × (((Bool) × (Bool) × (List (UInt8)) × Unit) × (Unit) × (Unit) × (Unit) × Unit)))) :=
 (bif (decide ((a.1.2.2.2.1 : Int) < a.1.2.2.1)) then
 (ZhG a.1.2.1 a.1.2.2.2.1).bind fun e1 =>
 (ZdB e1 (a.2.1.1, a.2.1.2.1, a.2.1.2.2.1, ())).bind fun r2 =>
 some (.inl (((), a.1.2.1, a.1.2.2.1, (IntKind.i64.wrap (a.1.2.2.2.1 + 1)), ()), ((r2.2.1.1, r2.2.1.2.1, r2.2.1.2.2.1, ()), (), (), ())))
 else
 some (.inr ((), ((a.2.1.1, a.2.1.2.1, a.2.1.2.2.1, ()), (), (), (), ()))))
noncomputable def ZcL : LE CT Tryd.prog := ⟨2, [0, 14, 15, 16], [.one (.ptr 0 0), .one (.own 7 1), .one (.int .i64), .one (.int .i64)], [.obj 92 [.bool, .bool, .own 1 2], .row 22 1, .row 5 1], [⟨.exit 0, [], [], [.obj 92 [.bool, .bool, .own 1 3], .dead, .dead, .row 5 1]⟩], ZdU⟩
noncomputable def Zf9 : List (LE CT Tryd.prog) := [ZcL]
theorem Zh0 : ZoD ZcL (Zns (Zdy Tryd.f38) 0) := fun A env h k z hk => Zhl (E := ZcL) (Zai Zf8) (dr := Zf7) (lps := Za8 Zf9) (ZaI (by kernel_rfl)) (fun a => by kernel_rfl) env h k z hk
noncomputable def Zd1 (x1 : ZbY) (h0 : (Bool) × (Bool) × (List (UInt8)) × Unit) : Option ((Unit) × (((Bool) × (Bool) × (List (UInt8)) × Unit) × (Unit) × (Unit) × Unit)) :=
 (Zbl ZdU (((), ([x1.voters, x1.old, x1.learners, x1.want] : List (List (Int))), (([x1.voters, x1.old, x1.learners, x1.want] : List (List (Int))).length : Int), 0, ()), ((h0.1, h0.2.1, h0.2.2.1, ()), (), (), ()))).bind fun b1 =>
 some ((), ((b1.2.1.1, b1.2.1.2.1, b1.2.1.2.2.1, ()), (), (), ()))
noncomputable def Zj4 : CE CT Tryd.prog where
 f := 38
 args := [.one (.ptr 0 0), .cod 8]
 hs := [.obj 92 [.bool, .bool, .own 1 1], .row 5 1]
 res := .tup []
 outs := [.obj 92 [.bool, .bool, .own 1 2], .dead, .row 5 1]
 m := fun d dh => Zd1 d.2.1 dh.1
 ok := ZbA ZaT Tryd.func38 (by kernel_rfl) (Zai Zf8) (dr := Zf7) (lps := Za8 Zf9) (ZaV (Zd8 (n := 1) (by kernel_rfl) fun i hi => match i, hi with | 0, _ => Zhm (E := ZcL) (by kernel_rfl) Zh0)) (fun d dh => by kernel_rfl)
def Zh1 : Nat -> Nat -> DrA
 | _, _ => ⟨[], [], [], [], [], false, []⟩
noncomputable def Zh2 : List (CE CT Tryd.prog) := [Zhs, Zj4]
noncomputable def Zh3 : List (LE CT Tryd.prog) := []
noncomputable def Zcf (x1 : Zes) (h0 : (Bool) × (Bool) × (List (UInt8)) × Unit) : Option ((Unit) × (((Bool) × (Bool) × (List (UInt8)) × Unit) × (Unit) × (Unit) × Unit)) :=
 (Zdn ([x1.index, x1.term_] : List (Int)) (h0.1, h0.2.1, h0.2.2.1, ())).bind fun r1 =>
 (Zd1 x1.config (r1.2.1.1, r1.2.1.2.1, r1.2.1.2.2.1, ())).bind fun r2 =>
 some ((), ((r2.2.1.1, r2.2.1.2.1, r2.2.1.2.2.1, ()), (), (), ()))
noncomputable def Zep : CE CT Tryd.prog where
 f := 18
 args := [.one (.ptr 0 0), .cod 9]
 hs := [.obj 92 [.bool, .bool, .own 1 1], .row 5 1]
 res := .val (.one (.ptr 0 0))
 outs := [.obj 92 [.bool, .bool, .own 1 2], .dead, .row 5 1]
 m := fun d dh => Zcf d.2.1 dh.1
 ok := ZbA ZaT Tryd.func18 (by kernel_rfl) (Zai Zh2) (dr := Zh1) (lps := Za8 Zh3) (ZaV (ZaI (by kernel_rfl))) (fun d dh => by kernel_rfl)
def Zpp : Nat -> Nat -> DrA
 | _, _ => ⟨[], [], [], [], [], false, []⟩
noncomputable def Zpq : List (CE CT Tryd.prog) := [ZgG, ZhK]
noncomputable def Zpr : List (LE CT Tryd.prog) := []
noncomputable def Zga (h0 : (Bool) × (Bool) × (List (UInt8)) × Unit) : Option (((List (UInt8)) × (Int) × Unit) × (((Bool) × (Bool) × (List (UInt8)) × Unit) × (Unit) × (Unit) × (Unit) × Unit)) :=
 (ZhM (h0.1, h0.2.1, h0.2.2.1, ())).bind fun r1 =>
 (bif (!r1.1) then
 some (([], 1, ()), ((r1.2.1.1, r1.2.1.2.1, r1.2.1.2.2.1, ()), (), (), (), ()))
 else
 (bif r1.2.1.2.1 then
 some (([], 2, ()), ((r1.2.1.1, r1.2.1.2.1, r1.2.1.2.2.1, ()), (), (), (), ()))
 else
 (ZfF r1.2.1.2.2.1).bind fun r2 =>
 some ((r2.1, 0, ()), ((r1.2.1.1, r1.2.1.2.1, r1.2.1.2.2.1, ()), (), (), (), ()))))
noncomputable def ZkS : CE CT Tryd.prog where
 f := 21
 args := [.one (.ptr 0 0)]
 hs := [.obj 92 [.bool, .bool, .own 1 1], .row 5 1]
 res := .tup [.one (.own 1 2), .one (.int .i64)]
 outs := [.obj 92 [.bool, .bool, .own 1 3], .dead, .row 5 1, .row 5 1]
 m := fun d dh => Zga dh.1
 ok := ZbA ZaT Tryd.func21 (by kernel_rfl) (Zai Zpq) (dr := Zpp) (lps := Za8 Zpr) (ZaV (ZaI (by kernel_rfl))) (fun d dh => by kernel_rfl)
def Zj5 : Nat -> Nat -> DrA
 | _, _ => ⟨[], [], [], [], [], false, []⟩
noncomputable def Zj6 : List (CE CT Tryd.prog) := [ZhK]
noncomputable def Zj7 : List (LE CT Tryd.prog) := []
noncomputable def ZcX (x0 : List (UInt8)) : Option ((Unit) × (((Bool) × (Bool) × (List (UInt8)) × Unit) × (Unit) × Unit)) :=
 (ZfF x0).bind fun r1 =>
 some ((), ((true, false, r1.1, ()), (), ()))
noncomputable def Zgb : CE CT Tryd.prog where
 f := 23
 args := [.one (.sl 1)]
 hs := []
 res := .val (.one (.ptr 0 0))
 outs := [.obj 98 [.bool, .bool, .own 1 1], .row 5 1]
 m := fun d dh => ZcX d.1
 ok := ZbA ZaT Tryd.func23 (by kernel_rfl) (Zai Zj6) (dr := Zj5) (lps := Za8 Zj7) (ZaV (ZaI (by kernel_rfl))) (fun d dh => by kernel_rfl)
def ZsO : Nat -> Nat -> DrA
 | _, _ => ⟨[], [], [], [], [], false, []⟩
noncomputable def ZsP : List (CE CT Tryd.prog) := []
noncomputable def ZsQ : List (LE CT Tryd.prog) := []
noncomputable def Zuo (h0 : (Bool) × (Bool) × (List (UInt8)) × Unit) : Option ((Bool) × (((Bool) × (Bool) × (List (UInt8)) × Unit) × (Unit) × (Unit) × Unit)) :=
 (bif h0.1 then
 some ((!h0.2.1), ((h0.1, h0.2.1, h0.2.2.1, ()), (), (), ()))
 else
 some (false, ((h0.1, h0.2.1, h0.2.2.1, ()), (), (), ())))
noncomputable def ZsR : CE CT Tryd.prog where
 f := 47
 args := [.one (.ptr 0 0)]
 hs := [.obj 98 [.bool, .bool, .own 1 1], .row 5 1]
 res := .val (.one (.bool))
 outs := [.obj 98 [.bool, .bool, .own 1 2], .dead, .row 5 1]
 m := fun d dh => Zuo dh.1
 ok := ZbA ZaT Tryd.func47 (by kernel_rfl) (Zai ZsP) (dr := ZsO) (lps := Za8 ZsQ) (ZaV (ZaI (by kernel_rfl))) (fun d dh => by kernel_rfl)
def ZmQ : Nat -> Nat -> DrA
 | _, _ => ⟨[], [], [], [], [], false, []⟩
noncomputable def ZmR : List (CE CT Tryd.prog) := []
noncomputable def ZmS : List (LE CT Tryd.prog) := []
noncomputable def Zbe (h0 : Zao) : Option ((Unit) × (((Bool) × (Bool) × (List (UInt8)) × Unit) × (Unit) × Unit)) :=
 some ((), ((h0.place.made, true, [], ()), (), ()))
noncomputable def ZfH : CE CT Tryd.prog where
 f := 67
 args := [.one (.ptr 0 0)]
 hs := [.cobj 98 14]
 res := .tup []
 outs := [.obj 98 [.bool, .bool, .own 1 1], .row 5 1]
 m := fun d dh => Zbe dh.1
 ok := ZbA ZaT Tryd.func67 (by kernel_rfl) (Zai ZmR) (dr := ZmQ) (lps := Za8 ZmS) (ZaV (ZaI (by kernel_rfl))) (fun d dh => by kernel_rfl)
def ZmT : Nat -> Nat -> DrA
 | _, _ => ⟨[], [], [], [], [], false, []⟩
noncomputable def ZmU : List (CE CT Tryd.prog) := [ZfH]
noncomputable def ZmV : List (LE CT Tryd.prog) := []
noncomputable def ZbZ (x1 : Int) (h0 : Zao) : Option ((List (UInt8)) × ((Zao) × Unit)) :=
 (bif (decide (((h0.place.left.length : Int) : Int) < x1)) then
 (Zbe h0).bind fun r1 =>
 some ([], ((⟨(⟨r1.2.1.1, r1.2.1.2.1, r1.2.1.2.2.1⟩ : ZdM)⟩ : Zao), ()))
 else
 (if 0 <= ((0 : Int) : Int) /\ ((0 : Int) : Int) <= x1 /\ (x1 : Int) <= x1 /\ x1 <= (h0.place.left.length : Int) then
 let y2 : List (UInt8) := ((h0.place.left.drop ((0 : Int) : Int).toNat).take ((x1 : Int).toNat - ((0 : Int) : Int).toNat))
 (if 0 <= (x1 : Int) /\ (x1 : Int) <= (h0.place.left.length : Int) /\ (h0.place.left.length : Int) <= (h0.place.left.length : Int) then
 let y3 : List (UInt8) := ((h0.place.left.drop (x1 : Int).toNat).take (((h0.place.left.length : Int) : Int).toNat - (x1 : Int).toNat))
 some (y2, ((⟨(⟨h0.place.made, h0.place.failed, y3⟩ : ZdM)⟩ : Zao), ()))
 else none)
 else none))
noncomputable def ZfI : CE CT Tryd.prog where
 f := 48
 args := [.one (.ptr 0 0), .one (.int .i64)]
 hs := [.cobj 98 14]
 res := .val (.one (.sl 1))
 outs := [.cobj 98 14]
 m := fun d dh => ZbZ d.2.1 dh.1
 ok := ZbA ZaT Tryd.func48 (by kernel_rfl) (Zai ZmU) (dr := ZmT) (lps := Za8 ZmV) (ZaV (ZaI (by kernel_rfl))) (fun d dh => by kernel_rfl)
def Zij : Nat -> Nat -> DrA
 | _, _ => ⟨[], [], [], [], [], false, []⟩
noncomputable def Zik : List (CE CT Tryd.prog) := [ZsR, ZfI, ZfH]
noncomputable def ZfJ (a : ((Unit) × (Int) × (Int) × (Int) × Unit) × ((Zao) × Unit)) : Option ((((Unit) × (Int) × (Int) × (Int) × Unit) × ((Zao) × Unit)) ⊕ ((((Int) × Unit) × ((Zao) × Unit)) ⊕ (((Unit) × Unit) × ((Zao) × Unit)))) :=
 (bif (decide ((a.1.2.2.2.1 : Int) < 63)) then
 (ZbZ 1 a.2.1).bind fun r1 =>
 (bif r1.2.1.place.failed then
 some (.inr (.inl ((0, ()), (r1.2.1, ()))))
 else
 (ZhG r1.1 0).bind fun e2 =>
 (if (a.1.2.2.2.1 : Int) < 0 then none else
 let y3 : Int := (IntKind.i64.wrap ((BitVec.ofInt (IntKind.i64.bits) a.1.2.2.1 ||| BitVec.ofInt (IntKind.i64.bits) (IntKind.i64.wrap ((IntKind.i64.wrap (IntKind.u8.wrap ((BitVec.ofInt (IntKind.u8.bits) (e2.toNat : Int) &&& BitVec.ofInt (IntKind.u8.bits) 127).toNat))) * 2 ^ min (a.1.2.2.2.1 : Int).toNat (IntKind.i64.bits)))).toNat))
 (ZhG r1.1 0).bind fun e4 =>
 (bif (decide (((e4.toNat : Int) : Int) < 128)) then
 (bif (decide ((0 : Int) < a.1.2.2.2.1)) then
 (ZhG r1.1 0).bind fun e5 =>
 (bif (decide (((e5.toNat : Int) : Int) = 0)) then
 (Zbe r1.2.1).bind fun r6 =>
 some (.inr (.inl ((0, ()), ((⟨(⟨r6.2.1.1, r6.2.1.2.1, r6.2.1.2.2.1⟩ : ZdM)⟩ : Zao), ()))))
 else
 (bif (decide ((4611686018427387903 : Int) < y3)) then
 (Zbe r1.2.1).bind fun r7 =>
 some (.inr (.inl ((0, ()), ((⟨(⟨r7.2.1.1, r7.2.1.2.1, r7.2.1.2.2.1⟩ : ZdM)⟩ : Zao), ()))))
 else
 (bif (decide ((a.1.2.1 : Int) < y3)) then
 (Zbe r1.2.1).bind fun r8 =>
 some (.inr (.inl ((0, ()), ((⟨(⟨r8.2.1.1, r8.2.1.2.1, r8.2.1.2.2.1⟩ : ZdM)⟩ : Zao), ()))))
 else
 some (.inr (.inl ((y3, ()), (r1.2.1, ())))))))
 else
 (bif (decide ((4611686018427387903 : Int) < y3)) then
 (Zbe r1.2.1).bind fun r9 =>
 some (.inr (.inl ((0, ()), ((⟨(⟨r9.2.1.1, r9.2.1.2.1, r9.2.1.2.2.1⟩ : ZdM)⟩ : Zao), ()))))
 else
 (bif (decide ((a.1.2.1 : Int) < y3)) then
 (Zbe r1.2.1).bind fun r10 =>
 some (.inr (.inl ((0, ()), ((⟨(⟨r10.2.1.1, r10.2.1.2.1, r10.2.1.2.2.1⟩ : ZdM)⟩ : Zao), ()))))
 else
 some (.inr (.inl ((y3, ()), (r1.2.1, ())))))))
 else
 some (.inl (((), a.1.2.1, y3, (IntKind.i64.wrap (a.1.2.2.2.1 + 7)), ()), (r1.2.1, ()))))))
 else
 some (.inr (.inr (((), ()), (a.2.1, ())))))
noncomputable def Zd2 : LE CT Tryd.prog := ⟨5, [0, 1, 5, 6], [.one (.ptr 0 0), .one (.int .i64), .one (.int .i64), .one (.int .i64)], [.cobj 98 14], [⟨.ret, [4], [.one (.int .i64)], [.cobj 98 14]⟩, ⟨.exit 0, [0], [.one (.ptr 0 0)], [.cobj 98 14]⟩], ZfJ⟩
noncomputable def Zil : List (LE CT Tryd.prog) := [Zd2]
theorem Zj8 : ZoD Zd2 (Zns (Zdy Tryd.f43) 0) := fun A env h k z hk => Zhl (E := Zd2) (Zai Zik) (dr := Zij) (lps := Za8 Zil) (ZaI (by kernel_rfl)) (fun a => by kernel_rfl) env h k z hk
noncomputable def ZgH (x1 : Int) (h0 : (Bool) × (Bool) × (List (UInt8)) × Unit) : Option ((Int) × ((Zao) × (Unit) × Unit)) :=
 (Zuo (h0.1, h0.2.1, h0.2.2.1, ())).bind fun r1 =>
 (bif (!r1.1) then
 some (0, ((⟨(⟨r1.2.1.1, r1.2.1.2.1, r1.2.1.2.2.1⟩ : ZdM)⟩ : Zao), (), ()))
 else
 (Zbl ZfJ (((), x1, 0, 0, ()), ((⟨(⟨r1.2.1.1, r1.2.1.2.1, r1.2.1.2.2.1⟩ : ZdM)⟩ : Zao), ()))).bind fun b2 =>
 (match b2 with
 | .inl b3 =>
 some (b3.1.1, (b3.2.1, (), ()))
 | .inr b4 =>
 (Zbe b4.2.1).bind fun r5 =>
 some (0, ((⟨(⟨r5.2.1.1, r5.2.1.2.1, r5.2.1.2.2.1⟩ : ZdM)⟩ : Zao), (), ()))))
noncomputable def ZmW : CE CT Tryd.prog where
 f := 43
 args := [.one (.ptr 0 0), .one (.int .i64)]
 hs := [.obj 98 [.bool, .bool, .own 1 1], .row 5 1]
 res := .val (.one (.int .i64))
 outs := [.cobj 98 14, .dead]
 m := fun d dh => ZgH d.2.1 dh.1
 ok := ZbA ZaT Tryd.func43 (by kernel_rfl) (Zai Zik) (dr := Zij) (lps := Za8 Zil) (ZaV (Zd8 (n := 1) (by kernel_rfl) fun i hi => match i, hi with | 0, _ => Zhm (E := Zd2) (by kernel_rfl) Zj8)) (fun d dh => by kernel_rfl)
def Zps : Nat -> Nat -> DrA
 | _, _ => ⟨[], [], [], [], [], false, []⟩
noncomputable def Zpt : List (CE CT Tryd.prog) := []
noncomputable def Zpu : List (LE CT Tryd.prog) := []
noncomputable def Zji (h0 : Zao) : Option ((Bool) × ((Zao) × Unit)) :=
 (bif h0.place.made then
 some ((!h0.place.failed), (h0, ()))
 else
 some (false, (h0, ())))
noncomputable def Zht : CE CT Tryd.prog where
 f := 47
 args := [.one (.ptr 0 0)]
 hs := [.cobj 98 14]
 res := .val (.one (.bool))
 outs := [.cobj 98 14]
 m := fun d dh => Zji dh.1
 ok := ZbA ZaT Tryd.func47 (by kernel_rfl) (Zai Zpt) (dr := Zps) (lps := Za8 Zpu) (ZaV (ZaI (by kernel_rfl))) (fun d dh => by kernel_rfl)
def ZgW : Nat -> Nat -> DrA
 | _, _ => ⟨[], [], [], [], [], false, []⟩
noncomputable def ZgX : List (CE CT Tryd.prog) := [Zht, ZfI, ZfH]
noncomputable def Zdd (a : ((Unit) × (Int) × (Int) × (Int) × Unit) × ((Zao) × Unit)) : Option ((((Unit) × (Int) × (Int) × (Int) × Unit) × ((Zao) × Unit)) ⊕ ((((Int) × Unit) × ((Zao) × Unit)) ⊕ (((Unit) × Unit) × ((Zao) × Unit)))) :=
 (bif (decide ((a.1.2.2.2.1 : Int) < 63)) then
 (ZbZ 1 a.2.1).bind fun r1 =>
 (bif r1.2.1.place.failed then
 some (.inr (.inl ((0, ()), (r1.2.1, ()))))
 else
 (ZhG r1.1 0).bind fun e2 =>
 (if (a.1.2.2.2.1 : Int) < 0 then none else
 let y3 : Int := (IntKind.i64.wrap ((BitVec.ofInt (IntKind.i64.bits) a.1.2.2.1 ||| BitVec.ofInt (IntKind.i64.bits) (IntKind.i64.wrap ((IntKind.i64.wrap (IntKind.u8.wrap ((BitVec.ofInt (IntKind.u8.bits) (e2.toNat : Int) &&& BitVec.ofInt (IntKind.u8.bits) 127).toNat))) * 2 ^ min (a.1.2.2.2.1 : Int).toNat (IntKind.i64.bits)))).toNat))
 (ZhG r1.1 0).bind fun e4 =>
 (bif (decide (((e4.toNat : Int) : Int) < 128)) then
 (bif (decide ((0 : Int) < a.1.2.2.2.1)) then
 (ZhG r1.1 0).bind fun e5 =>
 (bif (decide (((e5.toNat : Int) : Int) = 0)) then
 (Zbe r1.2.1).bind fun r6 =>
 some (.inr (.inl ((0, ()), ((⟨(⟨r6.2.1.1, r6.2.1.2.1, r6.2.1.2.2.1⟩ : ZdM)⟩ : Zao), ()))))
 else
 (bif (decide ((4611686018427387903 : Int) < y3)) then
 (Zbe r1.2.1).bind fun r7 =>
 some (.inr (.inl ((0, ()), ((⟨(⟨r7.2.1.1, r7.2.1.2.1, r7.2.1.2.2.1⟩ : ZdM)⟩ : Zao), ()))))
 else
 (bif (decide ((a.1.2.1 : Int) < y3)) then
 (Zbe r1.2.1).bind fun r8 =>
 some (.inr (.inl ((0, ()), ((⟨(⟨r8.2.1.1, r8.2.1.2.1, r8.2.1.2.2.1⟩ : ZdM)⟩ : Zao), ()))))
 else
 some (.inr (.inl ((y3, ()), (r1.2.1, ())))))))
 else
 (bif (decide ((4611686018427387903 : Int) < y3)) then
 (Zbe r1.2.1).bind fun r9 =>
 some (.inr (.inl ((0, ()), ((⟨(⟨r9.2.1.1, r9.2.1.2.1, r9.2.1.2.2.1⟩ : ZdM)⟩ : Zao), ()))))
 else
 (bif (decide ((a.1.2.1 : Int) < y3)) then
 (Zbe r1.2.1).bind fun r10 =>
 some (.inr (.inl ((0, ()), ((⟨(⟨r10.2.1.1, r10.2.1.2.1, r10.2.1.2.2.1⟩ : ZdM)⟩ : Zao), ()))))
 else
 some (.inr (.inl ((y3, ()), (r1.2.1, ())))))))
 else
 some (.inl (((), a.1.2.1, y3, (IntKind.i64.wrap (a.1.2.2.2.1 + 7)), ()), (r1.2.1, ()))))))
 else
 some (.inr (.inr (((), ()), (a.2.1, ())))))
noncomputable def Zde : LE CT Tryd.prog := ⟨5, [0, 1, 5, 6], [.one (.ptr 0 0), .one (.int .i64), .one (.int .i64), .one (.int .i64)], [.cobj 98 14], [⟨.ret, [4], [.one (.int .i64)], [.cobj 98 14]⟩, ⟨.exit 0, [0], [.one (.ptr 0 0)], [.cobj 98 14]⟩], Zdd⟩
noncomputable def ZgY : List (LE CT Tryd.prog) := [Zde]
theorem ZiF : ZoD Zde (Zns (Zdy Tryd.f43) 0) := fun A env h k z hk => Zhl (E := Zde) (Zai ZgX) (dr := ZgW) (lps := Za8 ZgY) (ZaI (by kernel_rfl)) (fun a => by kernel_rfl) env h k z hk
noncomputable def Zbo (x1 : Int) (h0 : Zao) : Option ((Int) × ((Zao) × Unit)) :=
 (Zji h0).bind fun r1 =>
 (bif (!r1.1) then
 some (0, (r1.2.1, ()))
 else
 (Zbl Zdd (((), x1, 0, 0, ()), (r1.2.1, ()))).bind fun b2 =>
 (match b2 with
 | .inl b3 =>
 some (b3.1.1, (b3.2.1, ()))
 | .inr b4 =>
 (Zbe b4.2.1).bind fun r5 =>
 some (0, ((⟨(⟨r5.2.1.1, r5.2.1.2.1, r5.2.1.2.2.1⟩ : ZdM)⟩ : Zao), ()))))
noncomputable def Zen : CE CT Tryd.prog where
 f := 43
 args := [.one (.ptr 0 0), .one (.int .i64)]
 hs := [.cobj 98 14]
 res := .val (.one (.int .i64))
 outs := [.cobj 98 14]
 m := fun d dh => Zbo d.2.1 dh.1
 ok := ZbA ZaT Tryd.func43 (by kernel_rfl) (Zai ZgX) (dr := ZgW) (lps := Za8 ZgY) (ZaV (Zd8 (n := 1) (by kernel_rfl) fun i hi => match i, hi with | 0, _ => Zhm (E := Zde) (by kernel_rfl) ZiF)) (fun d dh => by kernel_rfl)
def ZcB : Nat -> Nat -> DrA
 | 7, _ => ⟨[0, 1, 2, 4, 3, 5, 6, 7, 8, 9], [[], [], [1], [1, 2], [], [4], [4, 5], [1, 2, 3, 4, 5, 6], (List.range 8), (List.range 9)], [3], [5], [2], false, []⟩
 | _, _ => ⟨[], [], [], [], [], false, []⟩
noncomputable def ZcC : List (CE CT Tryd.prog) := [Zen]
noncomputable def Zaj (a : ((Unit) × (Unit) × (Unit) × (Int) × (Int) × (Int) × (Int) × Unit) × ((Zao) × ((List (Int)) × (List (Int)) × (List (Int)) × (List (Int)) × Unit) × ((Nat) × (Nat) × (Nat) × (Nat) × Unit) × (Unit) × (Unit) × (Unit) × (Unit) × (List (Int)) × (List (Int)) × (List (Int)) × (List (Int)) × Unit)) : Option ((((Unit) × (Unit) × (Unit) × (Int) × (Int) × (Int) × (Int) × Unit) × ((Zao) × ((List (Int)) × (List (Int)) × (List (Int)) × (List (Int)) × Unit) × ((Nat) × (Nat) × (Nat) × (Nat) × Unit) × (Unit) × (Unit) × (Unit) × (Unit) × (List (Int)) × (List (Int)) × (List (Int)) × (List (Int)) × Unit)) ⊕ ((((Unit) × (Unit) × (Unit) × (Int) × Unit) × ((Zao) × ((List (Int)) × (List (Int)) × (List (Int)) × (List (Int)) × Unit) × ((Nat) × (Nat) × (Nat) × (Nat) × Unit) × (Unit) × (Unit) × (Unit) × (Unit) × (Unit) × (Unit) × (Unit) × (Unit) × (Unit) × (Unit) × (Unit) × (Unit) × (List (Int)) × (List (Int)) × (List (Int)) × (List (Int)) × Unit)))) :=
 (bif (decide ((a.1.2.2.2.2.2.2.1 : Int) < a.1.2.2.2.2.2.1)) then
 (if (a.1.2.2.2.1 : Int) = ((0 : Nat) : Int) then
 (Zbo 5 a.2.1).bind fun r6 =>
 (if (a.2.2.2.1.1 + ([r6.1] : List (Int)).length) <= 140737488355328 /\ (a.2.2.2.1.1 + ([r6.1] : List (Int)).length) * 8 <= 140737488355328 /\ 0 + a.2.2.2.1.1 <= a.2.2.2.2.2.2.2.2.1.length then
 (if (a.1.2.2.2.1 : Int) = ((0 : Nat) : Int) then
 some (.inl (((), (), (), a.1.2.2.2.1, a.1.2.2.2.2.1, a.1.2.2.2.2.2.1, (IntKind.i64.wrap (a.1.2.2.2.2.2.2.1 + 1)), ()), (r6.2.1, (a.2.2.1.1, a.2.2.1.2.1, a.2.2.1.2.2.1, a.2.2.1.2.2.2.1, ()), ((a.2.2.2.1.1 + ([r6.1] : List (Int)).length), a.2.2.2.1.2.1, a.2.2.2.1.2.2.1, a.2.2.2.1.2.2.2.1, ()), (), (), (), (), (a.2.2.2.2.2.2.2.2.1.take a.2.2.2.1.1 ++ ([r6.1] : List (Int))), a.2.2.2.2.2.2.2.2.2.1, a.2.2.2.2.2.2.2.2.2.2.1, a.2.2.2.2.2.2.2.2.2.2.2.1, ())))
 else (if (a.1.2.2.2.1 : Int) = ((1 : Nat) : Int) then
 none
 else (if (a.1.2.2.2.1 : Int) = ((2 : Nat) : Int) then
 none
 else (if (a.1.2.2.2.1 : Int) = ((3 : Nat) : Int) then
 none
 else none))))
 else none)
 else (if (a.1.2.2.2.1 : Int) = ((1 : Nat) : Int) then
 (Zbo 5 a.2.1).bind fun r5 =>
 (if (a.2.2.2.1.2.1 + ([r5.1] : List (Int)).length) <= 140737488355328 /\ (a.2.2.2.1.2.1 + ([r5.1] : List (Int)).length) * 8 <= 140737488355328 /\ 0 + a.2.2.2.1.2.1 <= a.2.2.2.2.2.2.2.2.2.1.length then
 (if (a.1.2.2.2.1 : Int) = ((0 : Nat) : Int) then
 none
 else (if (a.1.2.2.2.1 : Int) = ((1 : Nat) : Int) then
 some (.inl (((), (), (), a.1.2.2.2.1, a.1.2.2.2.2.1, a.1.2.2.2.2.2.1, (IntKind.i64.wrap (a.1.2.2.2.2.2.2.1 + 1)), ()), (r5.2.1, (a.2.2.1.1, a.2.2.1.2.1, a.2.2.1.2.2.1, a.2.2.1.2.2.2.1, ()), (a.2.2.2.1.1, (a.2.2.2.1.2.1 + ([r5.1] : List (Int)).length), a.2.2.2.1.2.2.1, a.2.2.2.1.2.2.2.1, ()), (), (), (), (), a.2.2.2.2.2.2.2.2.1, (a.2.2.2.2.2.2.2.2.2.1.take a.2.2.2.1.2.1 ++ ([r5.1] : List (Int))), a.2.2.2.2.2.2.2.2.2.2.1, a.2.2.2.2.2.2.2.2.2.2.2.1, ())))
 else (if (a.1.2.2.2.1 : Int) = ((2 : Nat) : Int) then
 none
 else (if (a.1.2.2.2.1 : Int) = ((3 : Nat) : Int) then
 none
 else none))))
 else none)
 else (if (a.1.2.2.2.1 : Int) = ((2 : Nat) : Int) then
 (Zbo 5 a.2.1).bind fun r3 =>
 (if (a.2.2.2.1.2.2.1 + ([r3.1] : List (Int)).length) <= 140737488355328 /\ (a.2.2.2.1.2.2.1 + ([r3.1] : List (Int)).length) * 8 <= 140737488355328 /\ 0 + a.2.2.2.1.2.2.1 <= a.2.2.2.2.2.2.2.2.2.2.1.length then
 let y4 : List (Int) := (a.2.2.2.2.2.2.2.2.2.2.1.take a.2.2.2.1.2.2.1 ++ ([r3.1] : List (Int)))
 (if (a.1.2.2.2.1 : Int) = ((0 : Nat) : Int) then
 none
 else (if (a.1.2.2.2.1 : Int) = ((1 : Nat) : Int) then
 none
 else (if (a.1.2.2.2.1 : Int) = ((2 : Nat) : Int) then
 some (.inl (((), (), (), a.1.2.2.2.1, a.1.2.2.2.2.1, a.1.2.2.2.2.2.1, (IntKind.i64.wrap (a.1.2.2.2.2.2.2.1 + 1)), ()), (r3.2.1, (a.2.2.1.1, a.2.2.1.2.1, a.2.2.1.2.2.1, a.2.2.1.2.2.2.1, ()), (a.2.2.2.1.1, a.2.2.2.1.2.1, (a.2.2.2.1.2.2.1 + ([r3.1] : List (Int)).length), a.2.2.2.1.2.2.2.1, ()), (), (), (), (), a.2.2.2.2.2.2.2.2.1, a.2.2.2.2.2.2.2.2.2.1, y4, a.2.2.2.2.2.2.2.2.2.2.2.1, ())))
 else (if (a.1.2.2.2.1 : Int) = ((3 : Nat) : Int) then
 none
 else none))))
 else none)
 else (if (a.1.2.2.2.1 : Int) = ((3 : Nat) : Int) then
 (Zbo 5 a.2.1).bind fun r1 =>
 (if (a.2.2.2.1.2.2.2.1 + ([r1.1] : List (Int)).length) <= 140737488355328 /\ (a.2.2.2.1.2.2.2.1 + ([r1.1] : List (Int)).length) * 8 <= 140737488355328 /\ 0 + a.2.2.2.1.2.2.2.1 <= a.2.2.2.2.2.2.2.2.2.2.2.1.length then
 let y2 : List (Int) := (a.2.2.2.2.2.2.2.2.2.2.2.1.take a.2.2.2.1.2.2.2.1 ++ ([r1.1] : List (Int)))
 (if (a.1.2.2.2.1 : Int) = ((0 : Nat) : Int) then
 none
 else (if (a.1.2.2.2.1 : Int) = ((1 : Nat) : Int) then
 none
 else (if (a.1.2.2.2.1 : Int) = ((2 : Nat) : Int) then
 none
 else (if (a.1.2.2.2.1 : Int) = ((3 : Nat) : Int) then
 some (.inl (((), (), (), a.1.2.2.2.1, a.1.2.2.2.2.1, a.1.2.2.2.2.2.1, (IntKind.i64.wrap (a.1.2.2.2.2.2.2.1 + 1)), ()), (r1.2.1, (a.2.2.1.1, a.2.2.1.2.1, a.2.2.1.2.2.1, a.2.2.1.2.2.2.1, ()), (a.2.2.2.1.1, a.2.2.2.1.2.1, a.2.2.2.1.2.2.1, (a.2.2.2.1.2.2.2.1 + ([r1.1] : List (Int)).length), ()), (), (), (), (), a.2.2.2.2.2.2.2.2.1, a.2.2.2.2.2.2.2.2.2.1, a.2.2.2.2.2.2.2.2.2.2.1, y2, ())))
 else none))))
 else none)
 else none))))
 else
 some (.inr (((), (), (), a.1.2.2.2.2.1, ()), (a.2.1, (a.2.2.1.1, a.2.2.1.2.1, a.2.2.1.2.2.1, a.2.2.1.2.2.2.1, ()), (a.2.2.2.1.1, a.2.2.2.1.2.1, a.2.2.2.1.2.2.1, a.2.2.2.1.2.2.2.1, ()), (), (), (), (), (), (), (), (), (), (), (), (), a.2.2.2.2.2.2.2.2.1, a.2.2.2.2.2.2.2.2.2.1, a.2.2.2.2.2.2.2.2.2.2.1, a.2.2.2.2.2.2.2.2.2.2.2.1, ()))))
noncomputable def ZbT : LE CT Tryd.prog := ⟨6, [0, 2, 3, 4, 5, 9, 10], [.one (.ptr 0 0), .one (.ptr 1 0), .one (.ptr 2 0), .one (.int .i64), .one (.int .i64), .one (.int .i64), .one (.int .i64)], [.cobj 98 14, .obj 24 [.own 0 3, .own 0 4, .own 0 5, .own 0 6], .obj 129 [.asz 0 7, .asz 0 8, .asz 0 9, .asz 0 10], .row 3 1, .row 3 1, .row 3 1, .row 3 1, .arr 3 0 false, .arr 3 0 false, .arr 3 0 false, .arr 3 0 false], [⟨.exit 2, [0, 2, 3, 5], [.one (.ptr 0 0), .one (.ptr 1 0), .one (.ptr 2 0), .one (.int .i64)], [.cobj 98 14, .obj 24 [.own 0 11, .own 0 12, .own 0 13, .own 0 14], .obj 129 [.asz 0 15, .asz 0 16, .asz 0 17, .asz 0 18], .dead, .dead, .dead, .dead, .dead, .dead, .dead, .dead, .row 3 1, .row 3 1, .row 3 1, .row 3 1, .arr 3 0 false, .arr 3 0 false, .arr 3 0 false, .arr 3 0 false]⟩], Zaj⟩
noncomputable def ZaH (a : ((Unit) × (Unit) × (Unit) × (Int) × Unit) × ((Zao) × ((List (Int)) × (List (Int)) × (List (Int)) × (List (Int)) × Unit) × ((Nat) × (Nat) × (Nat) × (Nat) × Unit) × (Unit) × (Unit) × (Unit) × (Unit) × (List (Int)) × (List (Int)) × (List (Int)) × (List (Int)) × Unit)) : Option ((((Unit) × (Unit) × (Unit) × (Int) × Unit) × ((Zao) × ((List (Int)) × (List (Int)) × (List (Int)) × (List (Int)) × Unit) × ((Nat) × (Nat) × (Nat) × (Nat) × Unit) × (Unit) × (Unit) × (Unit) × (Unit) × (List (Int)) × (List (Int)) × (List (Int)) × (List (Int)) × Unit)) ⊕ ((((Unit) × (Unit) × Unit) × ((Zao) × ((List (Int)) × (List (Int)) × (List (Int)) × (List (Int)) × Unit) × ((Nat) × (Nat) × (Nat) × (Nat) × Unit) × (Unit) × (Unit) × (Unit) × (Unit) × (Unit) × (Unit) × (Unit) × (Unit) × (Unit) × (Unit) × (Unit) × (Unit) × (List (Int)) × (List (Int)) × (List (Int)) × (List (Int)) × Unit)))) :=
 (bif (decide ((a.1.2.2.2.1 : Int) < 4)) then
 (Zbo 5 a.2.1).bind fun r1 =>
 (Zbl Zaj (((), (), (), a.1.2.2.2.1, a.1.2.2.2.1, r1.1, 0, ()), (r1.2.1, (a.2.2.1.1, a.2.2.1.2.1, a.2.2.1.2.2.1, a.2.2.1.2.2.2.1, ()), (a.2.2.2.1.1, a.2.2.2.1.2.1, a.2.2.2.1.2.2.1, a.2.2.2.1.2.2.2.1, ()), (), (), (), (), a.2.2.2.2.2.2.2.2.1, a.2.2.2.2.2.2.2.2.2.1, a.2.2.2.2.2.2.2.2.2.2.1, a.2.2.2.2.2.2.2.2.2.2.2.1, ()))).bind fun b2 =>
 some (.inl (((), (), (), (IntKind.i64.wrap (b2.1.2.2.2.1 + 1)), ()), (b2.2.1, (b2.2.2.1.1, b2.2.2.1.2.1, b2.2.2.1.2.2.1, b2.2.2.1.2.2.2.1, ()), (b2.2.2.2.1.1, b2.2.2.2.1.2.1, b2.2.2.2.1.2.2.1, b2.2.2.2.1.2.2.2.1, ()), (), (), (), (), b2.2.2.2.2.2.2.2.2.2.2.2.2.2.2.2.2.1, b2.2.2.2.2.2.2.2.2.2.2.2.2.2.2.2.2.2.1, b2.2.2.2.2.2.2.2.2.2.2.2.2.2.2.2.2.2.2.1, b2.2.2.2.2.2.2.2.2.2.2.2.2.2.2.2.2.2.2.2.1, ())))
 else
 some (.inr (((), (), ()), (a.2.1, (a.2.2.1.1, a.2.2.1.2.1, a.2.2.1.2.2.1, a.2.2.1.2.2.2.1, ()), (a.2.2.2.1.1, a.2.2.2.1.2.1, a.2.2.2.1.2.2.1, a.2.2.2.1.2.2.2.1, ()), (), (), (), (), (), (), (), (), (), (), (), (), a.2.2.2.2.2.2.2.2.1, a.2.2.2.2.2.2.2.2.2.1, a.2.2.2.2.2.2.2.2.2.2.1, a.2.2.2.2.2.2.2.2.2.2.2.1, ()))))
noncomputable def ZbU : LE CT Tryd.prog := ⟨3, [0, 2, 3, 5], [.one (.ptr 0 0), .one (.ptr 1 0), .one (.ptr 2 0), .one (.int .i64)], [.cobj 98 14, .obj 24 [.own 0 3, .own 0 4, .own 0 5, .own 0 6], .obj 129 [.asz 0 7, .asz 0 8, .asz 0 9, .asz 0 10], .row 3 1, .row 3 1, .row 3 1, .row 3 1, .arr 3 0 false, .arr 3 0 false, .arr 3 0 false, .arr 3 0 false], [⟨.exit 0, [2, 3], [.one (.ptr 1 0), .one (.ptr 2 0)], [.cobj 98 14, .obj 24 [.own 0 11, .own 0 12, .own 0 13, .own 0 14], .obj 129 [.asz 0 15, .asz 0 16, .asz 0 17, .asz 0 18], .dead, .dead, .dead, .dead, .dead, .dead, .dead, .dead, .row 3 1, .row 3 1, .row 3 1, .row 3 1, .arr 3 0 false, .arr 3 0 false, .arr 3 0 false, .arr 3 0 false]⟩], ZaH⟩
noncomputable def ZcD : List (LE CT Tryd.prog) := [ZbT, ZbU]
theorem Zgc : ZoD ZbT (Zns (Zns (Zdy Tryd.f44) 0) 0) := fun A env h k z hk => Zhl (E := ZbT) (Zai ZcC) (dr := ZcB) (lps := Za8 ZcD) (ZaI (by kernel_rfl)) (fun a => by kernel_rfl) env h k z hk
theorem Zgd : ZoD ZbU (Zns (Zdy Tryd.f44) 0) := fun A env h k z hk => Zhl (E := ZbU) (Zai ZcC) (dr := ZcB) (lps := Za8 ZcD) (Zd8 (n := 1) (by kernel_rfl) fun i hi => match i, hi with | 0, _ => Zhm (E := ZbT) (by kernel_rfl) Zgc) (fun a => by kernel_rfl) env h k z hk
noncomputable def Zcu (h0 : Zao) : Option (((Nat) × (Nat) × (Nat) × (Nat) × Unit) × ((Zao) × (List (Int)) × (List (Int)) × (List (Int)) × (List (Int)) × Unit)) :=
 (Zbl ZaH (((), (), (), 0, ()), (h0, ([], [], [], [], ()), (0, 0, 0, 0, ()), (), (), (), (), [], [], [], [], ()))).bind fun b1 =>
 some ((b1.2.2.2.1.1, b1.2.2.2.1.2.1, b1.2.2.2.1.2.2.1, b1.2.2.2.1.2.2.2.1, ()), (b1.2.1, b1.2.2.2.2.2.2.2.2.2.2.2.2.2.2.2.2.1, b1.2.2.2.2.2.2.2.2.2.2.2.2.2.2.2.2.2.1, b1.2.2.2.2.2.2.2.2.2.2.2.2.2.2.2.2.2.2.1, b1.2.2.2.2.2.2.2.2.2.2.2.2.2.2.2.2.2.2.2.1, ()))
noncomputable def Zhu : CE CT Tryd.prog where
 f := 44
 args := [.one (.ptr 0 0)]
 hs := [.cobj 98 14]
 res := .val (.agg [.asz 0 1, .asz 0 2, .asz 0 3, .asz 0 4])
 outs := [.cobj 98 14, .arr 3 0 false, .arr 3 0 false, .arr 3 0 false, .arr 3 0 false]
 m := fun d dh => Zcu dh.1
 ok := ZbA ZaT Tryd.func44 (by kernel_rfl) (Zai ZcC) (dr := ZcB) (lps := Za8 ZcD) (ZaV (Zd8 (n := 1) (by kernel_rfl) fun i hi => match i, hi with | 0, _ => Zhm (E := ZbU) (by kernel_rfl) Zgd)) (fun d dh => by kernel_rfl)
def Zpv : Nat -> Nat -> DrA
 | _, _ => ⟨[], [], [], [], [], false, []⟩
noncomputable def Zpw : List (CE CT Tryd.prog) := [Zht]
noncomputable def Zpx : List (LE CT Tryd.prog) := []
noncomputable def Zpy (h0 : Zao) : Option ((Int) × ((Zao) × Unit)) :=
 (Zji h0).bind fun r1 =>
 (bif (!r1.1) then
 some (0, (r1.2.1, ()))
 else
 some ((r1.2.1.place.left.length : Int), (r1.2.1, ())))
noncomputable def Zpz : CE CT Tryd.prog where
 f := 68
 args := [.one (.ptr 0 0)]
 hs := [.cobj 98 14]
 res := .val (.one (.int .i64))
 outs := [.cobj 98 14]
 m := fun d dh => Zpy dh.1
 ok := ZbA ZaT Tryd.func68 (by kernel_rfl) (Zai Zpw) (dr := Zpv) (lps := Za8 Zpx) (ZaV (ZaI (by kernel_rfl))) (fun d dh => by kernel_rfl)
def ZqJ : Nat -> Nat -> DrA
 | _, _ => ⟨[], [], [], [], [], false, []⟩
noncomputable def ZqK : List (CE CT Tryd.prog) := []
noncomputable def ZqL : List (LE CT Tryd.prog) := []
noncomputable def Zjj (h0 : Zao) : Option ((Int) × ((Zao) × Unit)) :=
 (bif (!h0.place.made) then
 some (1, (h0, ()))
 else
 (bif h0.place.failed then
 some (4, (h0, ()))
 else
 (bif (decide ((0 : Int) < (h0.place.left.length : Int))) then
 some (4, (h0, ()))
 else
 some (0, (h0, ())))))
noncomputable def Zme : CE CT Tryd.prog where
 f := 26
 args := [.one (.ptr 0 0)]
 hs := [.cobj 98 14]
 res := .val (.one (.int .i64))
 outs := [.cobj 98 14]
 m := fun d dh => Zjj dh.1
 ok := ZbA ZaT Tryd.func26 (by kernel_rfl) (Zai ZqK) (dr := ZqJ) (lps := Za8 ZqL) (ZaV (ZaI (by kernel_rfl))) (fun d dh => by kernel_rfl)
def Zj9 : Nat -> Nat -> DrA
 | _, _ => ⟨[], [], [], [], [], false, []⟩
noncomputable def Zka : List (CE CT Tryd.prog) := [Zpz, Zme]
noncomputable def Zkb : List (LE CT Tryd.prog) := []
noncomputable def Zd3 (h0 : Zao) : Option ((Bool) × ((Zao) × Unit)) :=
 (Zpy h0).bind fun r1 =>
 (bif (decide ((r1.1 : Int) = 0)) then
 (Zjj r1.2.1).bind fun r2 =>
 some ((decide ((r2.1 : Int) ≠ 0)), (r2.2.1, ()))
 else
 some (false, (r1.2.1, ())))
noncomputable def Zkc : CE CT Tryd.prog where
 f := 45
 args := [.one (.ptr 0 0)]
 hs := [.cobj 98 14]
 res := .val (.one (.bool))
 outs := [.cobj 98 14]
 m := fun d dh => Zd3 dh.1
 ok := ZbA ZaT Tryd.func45 (by kernel_rfl) (Zai Zka) (dr := Zj9) (lps := Za8 Zkb) (ZaV (ZaI (by kernel_rfl))) (fun d dh => by kernel_rfl)
def Zkd : Nat -> Nat -> DrA
 | _, _ => ⟨[], [], [], [], [], false, []⟩
noncomputable def Zke : List (CE CT Tryd.prog) := []
noncomputable def Zkf : List (LE CT Tryd.prog) := []
noncomputable def ZcY (x0 : Int) (x1 : Int) : Option ((Bool) × (Unit)) :=
 (bif (decide ((0 : Int) <= x0)) then
 some ((decide ((x0 : Int) <= x1)), ())
 else
 some (false, ()))
noncomputable def Zkg : CE CT Tryd.prog where
 f := 69
 args := [.one (.int .i64), .one (.int .i64)]
 hs := []
 res := .val (.one (.bool))
 outs := []
 m := fun d dh => ZcY d.1 d.2.1
 ok := ZbA ZaT Tryd.func69 (by kernel_rfl) (Zai Zke) (dr := Zkd) (lps := Za8 Zkf) (ZaV (ZaI (by kernel_rfl))) (fun d dh => by kernel_rfl)
def ZgZ : Nat -> Nat -> DrA
 | _, _ => ⟨[], [], [], [], [], false, []⟩
noncomputable def Zg0 : List (CE CT Tryd.prog) := []
noncomputable def Zdf (a : ((Nat) × (Nat) × (Int) × (Int) × Unit) × ((List (Int)) × Unit)) : Option ((((Nat) × (Nat) × (Int) × (Int) × Unit) × ((List (Int)) × Unit)) ⊕ ((((Bool) × Unit) × ((List (Int)) × Unit)) ⊕ ((Unit) × ((List (Int)) × Unit)))) :=
 (bif (decide ((a.1.2.2.2.1 : Int) < a.1.2.2.1)) then
 (if 0 <= (a.1.2.2.2.1 : Int) /\ (a.1.2.2.2.1 : Int) < ((a.1.2.1 : Nat) : Int) then
 (a.2.1[(0 + (a.1.2.2.2.1 : Int).toNat)]?).bind fun e1 =>
 (bif (decide ((e1 : Int) < 1)) then
 some (.inr (.inl ((false, ()), (a.2.1, ()))))
 else
 (bif (decide ((5 : Int) < e1)) then
 some (.inr (.inl ((false, ()), (a.2.1, ()))))
 else
 (bif (decide ((0 : Int) < a.1.2.2.2.1)) then
 (if 0 <= ((IntKind.i64.wrap (a.1.2.2.2.1 - 1)) : Int) /\ ((IntKind.i64.wrap (a.1.2.2.2.1 - 1)) : Int) < ((a.1.1 : Nat) : Int) then
 (a.2.1[(0 + ((IntKind.i64.wrap (a.1.2.2.2.1 - 1)) : Int).toNat)]?).bind fun e2 =>
 (bif (decide ((e1 : Int) <= e2)) then
 some (.inr (.inl ((false, ()), (a.2.1, ()))))
 else
 some (.inl ((a.1.1, a.1.2.1, a.1.2.2.1, (IntKind.i64.wrap (a.1.2.2.2.1 + 1)), ()), (a.2.1, ()))))
 else none)
 else
 some (.inl ((a.1.1, a.1.2.1, a.1.2.2.1, (IntKind.i64.wrap (a.1.2.2.2.1 + 1)), ()), (a.2.1, ()))))))
 else none)
 else
 some (.inr (.inr ((), (a.2.1, ())))))
noncomputable def Zdg : LE CT Tryd.prog := ⟨2, [0, 5, 6, 7], [.one (.asz 0 0), .one (.asz 0 0), .one (.int .i64), .one (.int .i64)], [.arr 3 0 true], [⟨.ret, [2], [.one (.bool)], [.arr 3 0 true]⟩, ⟨.exit 0, [], [], [.arr 3 0 true]⟩], Zdf⟩
noncomputable def Zg1 : List (LE CT Tryd.prog) := [Zdg]
theorem ZiG : ZoD Zdg (Zns (Zdy Tryd.f22) 0) := fun A env h k z hk => Zhl (E := Zdg) (Zai Zg0) (dr := ZgZ) (lps := Za8 Zg1) (ZaI (by kernel_rfl)) (fun a => by kernel_rfl) env h k z hk
noncomputable def ZbV (x0 : Nat) (h0 : List (Int)) : Option ((Bool) × ((List (Int)) × Unit)) :=
 (Zbl Zdf ((x0, x0, ((x0 : Nat) : Int), 0, ()), (h0, ()))).bind fun b1 =>
 (match b1 with
 | .inl b2 =>
 some (b2.1.1, (b2.2.1, ()))
 | .inr b3 =>
 some (true, (b3.2.1, ())))
noncomputable def Zk5 : CE CT Tryd.prog where
 f := 22
 args := [.one (.asz 0 0)]
 hs := [.arr 3 0 true]
 res := .val (.one (.bool))
 outs := [.arr 3 0 true]
 m := fun d dh => ZbV d.1 dh.1
 ok := ZbA ZaT Tryd.func22 (by kernel_rfl) (Zai Zg0) (dr := ZgZ) (lps := Za8 Zg1) (ZaV (Zd8 (n := 1) (by kernel_rfl) fun i hi => match i, hi with | 0, _ => Zhm (E := Zdg) (by kernel_rfl) ZiG)) (fun d dh => by kernel_rfl)
def Zkh : Nat -> Nat -> DrA
 | _, _ => ⟨[], [], [], [], [], false, []⟩
noncomputable def Zki : List (CE CT Tryd.prog) := [Zk5]
noncomputable def Zkj : List (LE CT Tryd.prog) := []
noncomputable def Zd4 (x0 : (Nat) × (Nat) × (Nat) × (Nat) × Unit) (h0 : List (Int)) (h1 : List (Int)) (h2 : List (Int)) (h3 : List (Int)) : Option ((Bool) × ((List (Int)) × (List (Int)) × (List (Int)) × (List (Int)) × Unit)) :=
 (ZbV x0.1 h0).bind fun r1 =>
 (bif r1.1 then
 (ZbV x0.2.1 h1).bind fun r2 =>
 (bif r2.1 then
 (ZbV x0.2.2.1 h2).bind fun r3 =>
 (bif r3.1 then
 (ZbV x0.2.2.2.1 h3).bind fun r4 =>
 some (r4.1, (r1.2.1, r2.2.1, r3.2.1, r4.2.1, ()))
 else
 some (false, (r1.2.1, r2.2.1, r3.2.1, h3, ())))
 else
 some (false, (r1.2.1, r2.2.1, h2, h3, ())))
 else
 some (false, (r1.2.1, h1, h2, h3, ())))
noncomputable def Zkk : CE CT Tryd.prog where
 f := 7
 args := [.agg [.asz 0 0, .asz 0 1, .asz 0 2, .asz 0 3]]
 hs := [.arr 3 0 true, .arr 3 0 true, .arr 3 0 true, .arr 3 0 true]
 res := .val (.one (.bool))
 outs := [.arr 3 0 true, .arr 3 0 true, .arr 3 0 true, .arr 3 0 true]
 m := fun d dh => Zd4 d.1 dh.1 dh.2.1 dh.2.2.1 dh.2.2.2.1
 ok := ZbA ZaT Tryd.func7 (by kernel_rfl) (Zai Zki) (dr := Zkh) (lps := Za8 Zkj) (ZaV (ZaI (by kernel_rfl))) (fun d dh => by kernel_rfl)
def Zmf : Nat -> Nat -> DrA
 | _, _ => ⟨[], [], [], [], [], false, []⟩
noncomputable def Zmg : List (CE CT Tryd.prog) := [Zkg, Zkk]
noncomputable def Zmh : List (LE CT Tryd.prog) := []
noncomputable def Zfv (x0 : (Int) × (Int) × (Nat) × (Nat) × (Nat) × (Nat) × Unit) (h0 : List (Int)) (h1 : List (Int)) (h2 : List (Int)) (h3 : List (Int)) : Option ((Bool) × ((List (Int)) × (List (Int)) × (List (Int)) × (List (Int)) × Unit)) :=
 (ZcY x0.1 1073741824).bind fun r1 =>
 (bif r1.1 then
 (ZcY x0.2.1 1073741824).bind fun r2 =>
 (bif r2.1 then
 (Zd4 (x0.2.2.1, x0.2.2.2.1, x0.2.2.2.2.1, x0.2.2.2.2.2.1, ()) h0 h1 h2 h3).bind fun r3 =>
 some (r3.1, (r3.2.1, r3.2.2.1, r3.2.2.2.1, r3.2.2.2.2.1, ()))
 else
 some (false, (h0, h1, h2, h3, ())))
 else
 some (false, (h0, h1, h2, h3, ())))
noncomputable def Zmi : CE CT Tryd.prog where
 f := 46
 args := [.agg [.int .i64, .int .i64, .asz 0 0, .asz 0 1, .asz 0 2, .asz 0 3]]
 hs := [.arr 3 0 true, .arr 3 0 true, .arr 3 0 true, .arr 3 0 true]
 res := .val (.one (.bool))
 outs := [.arr 3 0 true, .arr 3 0 true, .arr 3 0 true, .arr 3 0 true]
 m := fun d dh => Zfv d.1 dh.1 dh.2.1 dh.2.2.1 dh.2.2.2.1
 ok := ZbA ZaT Tryd.func46 (by kernel_rfl) (Zai Zmg) (dr := Zmf) (lps := Za8 Zmh) (ZaV (ZaI (by kernel_rfl))) (fun d dh => by kernel_rfl)
def ZiH : Nat -> Nat -> DrA
 | _, _ => ⟨[], [], [], [], [], false, []⟩
noncomputable def ZiI : List (CE CT Tryd.prog) := [ZmW, Zen, Zhu, Zkc, Zmi]
noncomputable def ZiJ : List (LE CT Tryd.prog) := []
noncomputable def Zco (h0 : (Bool) × (Bool) × (List (UInt8)) × Unit) : Option ((((Int) × (Int) × (Nat) × (Nat) × (Nat) × (Nat) × Unit) × (Bool) × Unit) × ((Zao) × (Unit) × (List (Int)) × (List (Int)) × (List (Int)) × (List (Int)) × Unit)) :=
 (ZgH 1073741824 (h0.1, h0.2.1, h0.2.2.1, ())).bind fun r1 =>
 (Zbo 1073741824 r1.2.1).bind fun r2 =>
 (Zcu r2.2.1).bind fun r3 =>
 (Zd3 r3.2.1).bind fun r4 =>
 (bif r4.1 then
 some (((0, 0, 0, 0, 0, 0, ()), false, ()), (r4.2.1, (), [], [], [], [], ()))
 else
 (Zfv (r1.1, r2.1, r3.1.1, r3.1.2.1, r3.1.2.2.1, r3.1.2.2.2.1, ()) r3.2.2.1 r3.2.2.2.1 r3.2.2.2.2.1 r3.2.2.2.2.2.1).bind fun r5 =>
 (bif (!r5.1) then
 some (((0, 0, 0, 0, 0, 0, ()), false, ()), (r4.2.1, (), [], [], [], [], ()))
 else
 some (((r1.1, r2.1, r3.1.1, r3.1.2.1, r3.1.2.2.1, r3.1.2.2.2.1, ()), true, ()), (r4.2.1, (), r5.2.1, r5.2.2.1, r5.2.2.2.1, r5.2.2.2.2.1, ()))))
noncomputable def ZeW : CE CT Tryd.prog where
 f := 24
 args := [.one (.ptr 0 0)]
 hs := [.obj 98 [.bool, .bool, .own 1 1], .row 5 1]
 res := .tup [.agg [.int .i64, .int .i64, .asz 0 2, .asz 0 3, .asz 0 4, .asz 0 5], .one (.bool)]
 outs := [.cobj 98 14, .dead, .arr 3 0 false, .arr 3 0 false, .arr 3 0 false, .arr 3 0 false]
 m := fun d dh => Zco dh.1
 ok := ZbA ZaT Tryd.func24 (by kernel_rfl) (Zai ZiI) (dr := ZiH) (lps := Za8 ZiJ) (ZaV (ZaI (by kernel_rfl))) (fun d dh => by kernel_rfl)
def ZmX : Nat -> Nat -> DrA
 | 1, _ => ⟨[1, 0, 2, 3, 4, 5, 6, 7, 8], [[], [], [0, 1], [0, 1, 2], [0, 1, 2, 3], (List.range 5), (List.range 5), (List.range 6), (List.range 8)], [1], [0], [0], false, []⟩
 | _, _ => ⟨[], [], [], [], [], false, []⟩
noncomputable def ZmY : List (CE CT Tryd.prog) := [Zf6, Zep, ZkS, Zgb, ZeW]
noncomputable def ZmZ : List (LE CT Tryd.prog) := []
noncomputable def ZgI (x0 : Zes) : Option ((Bool) × (Unit)) :=
 (ZfG).bind fun r1 =>
 (Zcf x0 (r1.2.1.1, r1.2.1.2.1, r1.2.1.2.2.1, ())).bind fun r2 =>
 (Zga (r2.2.1.1, r2.2.1.2.1, r2.2.1.2.2.1, ())).bind fun r3 =>
 (bif (decide ((r3.1.2.1 : Int) ≠ 0)) then
 some (false, ())
 else
 (ZcX r3.1.1).bind fun r4 =>
 (Zco (r4.2.1.1, r4.2.1.2.1, r4.2.1.2.2.1, ())).bind fun r5 =>
 some (r5.1.2.1, ()))
noncomputable def Zm0 : CE CT Tryd.prog where
 f := 17
 args := [.cod 9]
 hs := []
 res := .val (.one (.bool))
 outs := []
 m := fun d dh => ZgI d.1
 ok := ZbA ZaT Tryd.func17 (by kernel_rfl) (Zai ZmY) (dr := ZmX) (lps := Za8 ZmZ) (ZaV (ZaI (by kernel_rfl))) (fun d dh => by kernel_rfl)
def ZkT : Nat -> Nat -> DrA
 | _, _ => ⟨[], [], [], [], [], false, []⟩
noncomputable def ZkU : List (CE CT Tryd.prog) := [ZgG, Zii, Zmd]
noncomputable def Zfw (a : ((Unit) × (Nat × Nat × Nat) × (Int) × (Int) × Unit) × (((Bool) × (Bool) × (List (UInt8)) × Unit) × (List (List (UInt8))) × (Unit) × Unit)) : Option ((((Unit) × (Nat × Nat × Nat) × (Int) × (Int) × Unit) × (((Bool) × (Bool) × (List (UInt8)) × Unit) × (List (List (UInt8))) × (Unit) × Unit)) ⊕ ((((Unit) × Unit) × (((Bool) × (Bool) × (List (UInt8)) × Unit) × (List (List (UInt8))) × (Unit) × (Unit) × Unit)))) :=
 (bif (decide ((a.1.2.2.2.1 : Int) < a.1.2.2.1)) then
 (if 0 <= (a.1.2.2.2.1 : Int) /\ (a.1.2.2.2.1 : Int) < ((a.1.2.1.2.1 : Nat) : Int) then
 (a.2.2.1[(a.1.2.1.1 + (a.1.2.2.2.1 : Int).toNat)]?).bind fun e1 =>
 (ZdT (e1.length : Int) (a.2.1.1, a.2.1.2.1, a.2.1.2.2.1, ())).bind fun r2 =>
 (ZhN e1 (r2.2.1.1, r2.2.1.2.1, r2.2.1.2.2.1, ())).bind fun r3 =>
 some (.inl (((), (a.1.2.1.1, a.1.2.1.2.1, a.1.2.1.2.2), a.1.2.2.1, (IntKind.i64.wrap (a.1.2.2.2.1 + 1)), ()), ((r3.2.1.1, r3.2.1.2.1, r3.2.1.2.2.1, ()), a.2.2.1, (), ())))
 else none)
 else
 some (.inr (((), ()), ((a.2.1.1, a.2.1.2.1, a.2.1.2.2.1, ()), a.2.2.1, (), (), ()))))
noncomputable def Zfx : LE CT Tryd.prog := ⟨3, [0, 9, 10, 11], [.one (.ptr 0 0), .one (.as 3 1), .one (.int .i64), .one (.int .i64)], [.obj 92 [.bool, .bool, .own 1 2], .arr 27 3 true, .row 5 1], [⟨.exit 0, [0], [.one (.ptr 0 0)], [.obj 92 [.bool, .bool, .own 1 3], .arr 27 3 true, .dead, .row 5 1]⟩], Zfw⟩
noncomputable def ZkV : List (LE CT Tryd.prog) := [Zfx]
theorem Zmj : ZoD Zfx (Zns (Zdy Tryd.f20) 0) := fun A env h k z hk => Zhl (E := Zfx) (Zai ZkU) (dr := ZkT) (lps := Za8 ZkV) (ZaI (by kernel_rfl)) (fun a => by kernel_rfl) env h k z hk
noncomputable def Zjk (x1 : Nat × Nat × Nat) (h0 : (Bool) × (Bool) × (List (UInt8)) × Unit) (h1 : List (List (UInt8))) : Option ((Unit) × (((Bool) × (Bool) × (List (UInt8)) × Unit) × (List (List (UInt8))) × (Unit) × (Unit) × Unit)) :=
 (ZhM (h0.1, h0.2.1, h0.2.2.1, ())).bind fun r1 =>
 (bif r1.1 then
 (Zbl Zfw (((), (x1.1, x1.2.1, x1.2.2), ((x1.2.1 : Nat) : Int), 0, ()), ((r1.2.1.1, r1.2.1.2.1, r1.2.1.2.2.1, ()), h1, (), ()))).bind fun b2 =>
 some ((), ((b2.2.1.1, b2.2.1.2.1, b2.2.1.2.2.1, ()), b2.2.2.1, (), (), ()))
 else
 some ((), ((r1.2.1.1, r1.2.1.2.1, r1.2.1.2.2.1, ()), h1, (), (), ())))
noncomputable def ZpA : CE CT Tryd.prog where
 f := 20
 args := [.one (.ptr 0 0), .one (.as 3 1)]
 hs := [.obj 92 [.bool, .bool, .own 1 2], .arr 27 3 true, .row 5 1]
 res := .val (.one (.ptr 0 0))
 outs := [.obj 92 [.bool, .bool, .own 1 3], .arr 27 3 true, .dead, .row 5 1]
 m := fun d dh => Zjk d.2.1 dh.1 dh.2.1
 ok := ZbA ZaT Tryd.func20 (by kernel_rfl) (Zai ZkU) (dr := ZkT) (lps := Za8 ZkV) (ZaV (Zd8 (n := 1) (by kernel_rfl) fun i hi => match i, hi with | 0, _ => Zhm (E := Zfx) (by kernel_rfl) Zmj)) (fun d dh => by kernel_rfl)
def Zm1 : Nat -> Nat -> DrA
 | 5, _ => ⟨[1, 4, 2, 5, 0, 3, 6, 7, 8, 9, 10, 11, 12], [[], [], [1], [0, 1, 2], [], [4], [4, 5], (List.range 7), (List.range 8), (List.range 9), (List.range 9), (List.range 11), (List.range 12)], [2, 5], [0, 3], [0], false, [6]⟩
 | _, _ => ⟨[], [], [], [], [], false, []⟩
noncomputable def Zm2 : List (CE CT Tryd.prog) := [Zm0, Zf6, Zep, ZpA, ZkS]
noncomputable def Zm3 : List (LE CT Tryd.prog) := []
noncomputable def Zdi (x0 : Zcd) : Option (((List (UInt8)) × (Int) × Unit) × ((Unit) × Unit)) :=
 (ZgI x0.base).bind fun r1 =>
 (bif (!r1.1) then
 some (([], 2, ()), ((), ()))
 else
 (bif (decide ((131072 : Int) < (x0.bytes.length : Int))) then
 some (([], 3, ()), ((), ()))
 else
 (ZfG).bind fun r2 =>
 (Zcf x0.base (r2.2.1.1, r2.2.1.2.1, r2.2.1.2.2.1, ())).bind fun r3 =>
 (Zjk (0, 1, 1) (r3.2.1.1, r3.2.1.2.1, r3.2.1.2.2.1, ()) ([x0.bytes] : List (List (UInt8)))).bind fun r4 =>
 (Zga (r4.2.1.1, r4.2.1.2.1, r4.2.1.2.2.1, ())).bind fun r5 =>
 some ((r5.1.1, r5.1.2.1, ()), ((), ()))))
noncomputable def Zim : CE CT Tryd.prog where
 f := 6
 args := [.cod 10]
 hs := []
 res := .tup [.one (.own 1 0), .one (.int .i64)]
 outs := [.row 5 1]
 m := fun d dh => Zdi d.1
 ok := ZbA ZaT Tryd.func6 (by kernel_rfl) (Zai Zm2) (dr := Zm1) (lps := Za8 Zm3) (ZaV (ZaI (by kernel_rfl))) (fun d dh => by kernel_rfl)
def ZqM : Nat -> Nat -> DrA
 | _, _ => ⟨[], [], [], [], [], false, []⟩
noncomputable def ZqN : List (CE CT Tryd.prog) := [Zen, Zht, ZfI, ZhK]
noncomputable def ZqO : List (LE CT Tryd.prog) := []
noncomputable def Zlk (x1 : Int) (h0 : Zao) : Option ((List (UInt8)) × ((Zao) × (Unit) × Unit)) :=
 (Zbo x1 h0).bind fun r1 =>
 (Zji r1.2.1).bind fun r2 =>
 (bif (!r2.1) then
 some ([], (r2.2.1, (), ()))
 else
 (ZbZ r1.1 r2.2.1).bind fun r3 =>
 (ZfF r3.1).bind fun r4 =>
 some (r4.1, (r3.2.1, (), ())))
noncomputable def ZqP : CE CT Tryd.prog where
 f := 25
 args := [.one (.ptr 0 0), .one (.int .i64)]
 hs := [.cobj 98 14]
 res := .val (.one (.own 1 1))
 outs := [.cobj 98 14, .row 5 1]
 m := fun d dh => Zlk d.2.1 dh.1
 ok := ZbA ZaT Tryd.func25 (by kernel_rfl) (Zai ZqN) (dr := ZqM) (lps := Za8 ZqO) (ZaV (ZaI (by kernel_rfl))) (fun d dh => by kernel_rfl)
def ZpB : Nat -> Nat -> DrA
 | 3, _ => ⟨[1, 0, 2, 3, 4, 5], [[], [], [1], [0, 1, 2], [], (List.range 5)], [0], [2], [7], false, []⟩
 | _, _ => ⟨[], [], [], [], [], false, []⟩
noncomputable def ZpC : List (CE CT Tryd.prog) := [Zgb, ZeW, ZqP, Zme]
noncomputable def ZpD : List (LE CT Tryd.prog) := []
noncomputable def Za6 (x0 : List (UInt8)) : Option ((((Int) × (Int) × (Nat) × (Nat) × (Nat) × (Nat) × (List (UInt8)) × Unit) × (Bool) × Unit) × ((List (Int)) × (List (Int)) × (List (Int)) × (List (Int)) × Unit)) :=
 (ZcX x0).bind fun r1 =>
 (Zco (r1.2.1.1, r1.2.1.2.1, r1.2.1.2.2.1, ())).bind fun r2 =>
 (Zlk 131072 r2.2.1).bind fun r3 =>
 (bif (!r2.1.2.1) then
 some (((0, 0, 0, 0, 0, 0, [], ()), false, ()), ([], [], [], [], ()))
 else
 (Zjj r3.2.1).bind fun r4 =>
 (bif (decide ((r4.1 : Int) ≠ 0)) then
 some (((0, 0, 0, 0, 0, 0, [], ()), false, ()), ([], [], [], [], ()))
 else
 some (((r2.1.1.1, r2.1.1.2.1, r2.1.1.2.2.1, r2.1.1.2.2.2.1, r2.1.1.2.2.2.2.1, r2.1.1.2.2.2.2.2.1, r3.1, ()), true, ()), (r2.2.2.2.1, r2.2.2.2.2.1, r2.2.2.2.2.2.1, r2.2.2.2.2.2.2.1, ()))))
noncomputable def ZkW : CE CT Tryd.prog where
 f := 8
 args := [.one (.sl 1)]
 hs := []
 res := .tup [.agg [.int .i64, .int .i64, .asz 0 0, .asz 0 1, .asz 0 2, .asz 0 3, .sl 1], .one (.bool)]
 outs := [.arr 3 0 false, .arr 3 0 false, .arr 3 0 false, .arr 3 0 false]
 m := fun d dh => Za6 d.1
 ok := ZbA ZaT Tryd.func8 (by kernel_rfl) (Zai ZpC) (dr := ZpB) (lps := Za8 ZpD) (ZaV (ZaI (by kernel_rfl))) (fun d dh => by kernel_rfl)
def Zdo : Nat -> Nat -> DrA
 | 6, _ => ⟨[0, 1, 2, 4, 5, 6, 3, 7, 8], [[], [], [0, 1], [0, 1, 2], [], [], [4, 5], [4, 5, 6], (List.range 8)], [], [], [], false, []⟩
 | _, _ => ⟨[], [], [], [], [], false, []⟩
noncomputable def Zdp : List (CE CT Tryd.prog) := []
noncomputable def Zbb (a : ((List (Int)) × (List (Int)) × (Int) × Unit) × (Unit)) : Option ((((List (Int)) × (List (Int)) × (Int) × Unit) × (Unit)) ⊕ ((((Bool) × Unit) × (Unit)) ⊕ ((Unit) × (Unit)))) :=
 (bif (decide ((a.1.2.2.1 : Int) < (a.1.1.length : Int))) then
 (ZhG a.1.1 a.1.2.2.1).bind fun e1 =>
 (ZhG a.1.2.1 a.1.2.2.1).bind fun e2 =>
 (bif (decide ((e1 : Int) ≠ e2)) then
 some (.inr (.inl ((false, ()), ())))
 else
 some (.inl ((a.1.1, a.1.2.1, (IntKind.i64.wrap (a.1.2.2.1 + 1)), ()), ())))
 else
 some (.inr (.inr ((), ()))))
noncomputable def Zbv : LE CT Tryd.prog := ⟨4, [0, 1, 5], [.one (.sl 0), .one (.sl 0), .one (.int .i64)], [], [⟨.ret, [4], [.one (.bool)], []⟩, ⟨.exit 0, [], [], []⟩], Zbb⟩
noncomputable def Zdq : List (LE CT Tryd.prog) := [Zbv]
theorem ZeX : ZoD Zbv (Zns (Zdy Tryd.f70) 0) := fun A env h k z hk => Zhl (E := Zbv) (Zai Zdp) (dr := Zdo) (lps := Za8 Zdq) (ZaI (by kernel_rfl)) (fun a => by kernel_rfl) env h k z hk
noncomputable def Za7 (x0 : List (Int)) (x1 : List (Int)) : Option ((Bool) × (Unit)) :=
 (bif (decide (((x0.length : Int) : Int) ≠ (x1.length : Int))) then
 some (false, ())
 else
 (Zbl Zbb ((x0, x1, 0, ()), ())).bind fun b1 =>
 (match b1 with
 | .inl b2 =>
 some (b2.1.1, ())
 | .inr b3 =>
 some (true, ())))
noncomputable def Zge : CE CT Tryd.prog where
 f := 70
 args := [.one (.sl 0), .one (.sl 0)]
 hs := []
 res := .val (.one (.bool))
 outs := []
 m := fun d dh => Za7 d.1 d.2.1
 ok := ZbA ZaT Tryd.func70 (by kernel_rfl) (Zai Zdp) (dr := Zdo) (lps := Za8 Zdq) (ZaV (Zd8 (n := 1) (by kernel_rfl) fun i hi => match i, hi with | 0, _ => Zhm (E := Zbv) (by kernel_rfl) ZeX)) (fun d dh => by kernel_rfl)
def Ze9 : Nat -> Nat -> DrA
 | _, _ => ⟨[], [], [], [], [], false, []⟩
noncomputable def Zfa : List (CE CT Tryd.prog) := [Zge]
noncomputable def Zfb : List (LE CT Tryd.prog) := []
noncomputable def ZbE (x0 : ZbY) (x1 : ZbY) : Option ((Bool) × (Unit)) :=
 (Za7 x0.voters x1.voters).bind fun r1 =>
 (bif r1.1 then
 (Za7 x0.old x1.old).bind fun r2 =>
 (bif r2.1 then
 (Za7 x0.learners x1.learners).bind fun r3 =>
 (bif r3.1 then
 (Za7 x0.want x1.want).bind fun r4 =>
 some (r4.1, ())
 else
 some (false, ()))
 else
 some (false, ()))
 else
 some (false, ()))
noncomputable def Zfc : CE CT Tryd.prog where
 f := 49
 args := [.cod 8, .cod 8]
 hs := []
 res := .val (.one (.bool))
 outs := []
 m := fun d dh => ZbE d.1 d.2.1
 ok := ZbA ZaT Tryd.func49 (by kernel_rfl) (Zai Zfa) (dr := Ze9) (lps := Za8 Zfb) (ZaV (ZaI (by kernel_rfl))) (fun d dh => by kernel_rfl)
def Zgf : Nat -> Nat -> DrA
 | _, _ => ⟨[], [], [], [], [], false, []⟩
noncomputable def Zgg : List (CE CT Tryd.prog) := [Zfc]
noncomputable def Zgh : List (LE CT Tryd.prog) := []
noncomputable def ZbW (x0 : Zes) (x1 : Zes) : Option ((Bool) × (Unit)) :=
 (bif (decide ((x0.index : Int) = x1.index)) then
 (bif (decide ((x0.term_ : Int) = x1.term_)) then
 (ZbE x0.config x1.config).bind fun r1 =>
 some (r1.1, ())
 else
 some (false, ()))
 else
 some (false, ()))
noncomputable def Zgi : CE CT Tryd.prog where
 f := 27
 args := [.cod 9, .cod 9]
 hs := []
 res := .val (.one (.bool))
 outs := []
 m := fun d dh => ZbW d.1 d.2.1
 ok := ZbA ZaT Tryd.func27 (by kernel_rfl) (Zai Zgg) (dr := Zgf) (lps := Za8 Zgh) (ZaV (ZaI (by kernel_rfl))) (fun d dh => by kernel_rfl)
def ZcZ : Nat -> Nat -> DrA
 | 6, _ => ⟨[0, 1, 2, 4, 5, 6, 3, 7, 8], [[], [], [0, 1], [0, 1, 2], [], [], [4, 5], [4, 5, 6], (List.range 8)], [], [], [], false, []⟩
 | _, _ => ⟨[], [], [], [], [], false, []⟩
noncomputable def Zc0 : List (CE CT Tryd.prog) := []
noncomputable def ZaY (a : ((List (UInt8)) × (List (UInt8)) × (Int) × Unit) × (Unit)) : Option ((((List (UInt8)) × (List (UInt8)) × (Int) × Unit) × (Unit)) ⊕ ((((Bool) × Unit) × (Unit)) ⊕ ((Unit) × (Unit)))) :=
 (bif (decide ((a.1.2.2.1 : Int) < (a.1.1.length : Int))) then
 (ZhG a.1.1 a.1.2.2.1).bind fun e1 =>
 (ZhG a.1.2.1 a.1.2.2.1).bind fun e2 =>
 (bif (decide (((e1.toNat : Int) : Int) ≠ (e2.toNat : Int))) then
 some (.inr (.inl ((false, ()), ())))
 else
 some (.inl ((a.1.1, a.1.2.1, (IntKind.i64.wrap (a.1.2.2.1 + 1)), ()), ())))
 else
 some (.inr (.inr ((), ()))))
noncomputable def Zbp : LE CT Tryd.prog := ⟨4, [0, 1, 5], [.one (.sl 1), .one (.sl 1), .one (.int .i64)], [], [⟨.ret, [4], [.one (.bool)], []⟩, ⟨.exit 0, [], [], []⟩], ZaY⟩
noncomputable def Zc1 : List (LE CT Tryd.prog) := [Zbp]
theorem Zeu : ZoD Zbp (Zns (Zdy Tryd.f28) 0) := fun A env h k z hk => Zhl (E := Zbp) (Zai Zc0) (dr := ZcZ) (lps := Za8 Zc1) (ZaI (by kernel_rfl)) (fun a => by kernel_rfl) env h k z hk
noncomputable def Zbi (x0 : List (UInt8)) (x1 : List (UInt8)) : Option ((Bool) × (Unit)) :=
 (bif (decide (((x0.length : Int) : Int) ≠ (x1.length : Int))) then
 some (false, ())
 else
 (Zbl ZaY ((x0, x1, 0, ()), ())).bind fun b1 =>
 (match b1 with
 | .inl b2 =>
 some (b2.1.1, ())
 | .inr b3 =>
 some (true, ())))
noncomputable def Zc2 : CE CT Tryd.prog where
 f := 28
 args := [.one (.sl 1), .one (.sl 1)]
 hs := []
 res := .val (.one (.bool))
 outs := []
 m := fun d dh => Zbi d.1 d.2.1
 ok := ZbA ZaT Tryd.func28 (by kernel_rfl) (Zai Zc0) (dr := ZcZ) (lps := Za8 Zc1) (ZaV (Zd8 (n := 1) (by kernel_rfl) fun i hi => match i, hi with | 0, _ => Zhm (E := Zbp) (by kernel_rfl) Zeu)) (fun d dh => by kernel_rfl)
def ZfK : Nat -> Nat -> DrA
 | _, _ => ⟨[], [], [], [], [], false, []⟩
noncomputable def ZfL : List (CE CT Tryd.prog) := [Zgi, Zc2]
noncomputable def ZfM : List (LE CT Tryd.prog) := []
noncomputable def Zbj (x0 : Zcd) (x1 : Zcd) : Option ((Bool) × (Unit)) :=
 (ZbW x0.base x1.base).bind fun r1 =>
 (bif r1.1 then
 (Zbi x0.bytes x1.bytes).bind fun r2 =>
 some (r2.1, ())
 else
 some (false, ()))
noncomputable def ZfN : CE CT Tryd.prog where
 f := 10
 args := [.cod 10, .cod 10]
 hs := []
 res := .val (.one (.bool))
 outs := []
 m := fun d dh => Zbj d.1 d.2.1
 ok := ZbA ZaT Tryd.func10 (by kernel_rfl) (Zai ZfL) (dr := ZfK) (lps := Za8 ZfM) (ZaV (ZaI (by kernel_rfl))) (fun d dh => by kernel_rfl)
def Zgj : Nat -> Nat -> DrA
 | _, _ => ⟨[], [], [], [], [], false, []⟩
noncomputable def Zgk : List (CE CT Tryd.prog) := []
noncomputable def Zgl : List (LE CT Tryd.prog) := []
noncomputable def Zec (x0 : ZbY) : Option ((Int) × (Unit)) :=
 let y1 : Int := (IntKind.i64.wrap ((IntKind.i64.wrap ((IntKind.i64.wrap ((IntKind.i64.wrap (1 + (x0.voters.length : Int))) + (x0.old.length : Int))) + (x0.learners.length : Int))) + (x0.want.length : Int)))
 some (y1, ())
noncomputable def Zgm : CE CT Tryd.prog where
 f := 16
 args := [.cod 8]
 hs := []
 res := .val (.one (.int .i64))
 outs := []
 m := fun d dh => Zec d.1
 ok := ZbA ZaT Tryd.func16 (by kernel_rfl) (Zai Zgk) (dr := Zgj) (lps := Za8 Zgl) (ZaV (ZaI (by kernel_rfl))) (fun d dh => by kernel_rfl)
def ZgJ : Nat -> Nat -> DrA
 | _, _ => ⟨[], [], [], [], [], false, []⟩
noncomputable def ZgK : List (CE CT Tryd.prog) := [Zgm]
noncomputable def ZgL : List (LE CT Tryd.prog) := []
noncomputable def Zb7 (x0 : Zcd) : Option ((Bool) × (Unit)) :=
 (bif (decide ((5000 : Int) < (x0.bytes.length : Int))) then
 some (true, ())
 else
 (Zec x0.base.config).bind fun r1 =>
 some ((decide ((5000 : Int) < r1.1)), ()))
noncomputable def ZgM : CE CT Tryd.prog where
 f := 5
 args := [.cod 10]
 hs := []
 res := .val (.one (.bool))
 outs := []
 m := fun d dh => Zb7 d.1
 ok := ZbA ZaT Tryd.func5 (by kernel_rfl) (Zai ZgK) (dr := ZgJ) (lps := Za8 ZgL) (ZaV (ZaI (by kernel_rfl))) (fun d dh => by kernel_rfl)
def Zfy : Nat -> Nat -> DrA
 | _, _ => ⟨[], [], [], [], [], false, []⟩
noncomputable def Zfz : List (CE CT Tryd.prog) := []
noncomputable def Zcv (a : ((List (Int)) × (List (Int)) × (Int) × (Int) × Unit) × (Unit)) : Option ((((List (Int)) × (List (Int)) × (Int) × (Int) × Unit) × (Unit)) ⊕ ((((Bool) × Unit) × (Unit)) ⊕ ((Unit) × (Unit)))) :=
 (bif (decide ((a.1.2.2.2.1 : Int) < a.1.2.2.1)) then
 (ZhG a.1.2.1 a.1.2.2.2.1).bind fun e1 =>
 (bif (decide ((e1 : Int) < 1)) then
 some (.inr (.inl ((false, ()), ())))
 else
 (bif (decide ((5 : Int) < e1)) then
 some (.inr (.inl ((false, ()), ())))
 else
 (bif (decide ((0 : Int) < a.1.2.2.2.1)) then
 (ZhG a.1.1 (IntKind.i64.wrap (a.1.2.2.2.1 - 1))).bind fun e2 =>
 (bif (decide ((e1 : Int) <= e2)) then
 some (.inr (.inl ((false, ()), ())))
 else
 some (.inl ((a.1.1, a.1.2.1, a.1.2.2.1, (IntKind.i64.wrap (a.1.2.2.2.1 + 1)), ()), ())))
 else
 some (.inl ((a.1.1, a.1.2.1, a.1.2.2.1, (IntKind.i64.wrap (a.1.2.2.2.1 + 1)), ()), ())))))
 else
 some (.inr (.inr ((), ()))))
noncomputable def Zcw : LE CT Tryd.prog := ⟨2, [0, 5, 6, 7], [.one (.sl 0), .one (.sl 0), .one (.int .i64), .one (.int .i64)], [], [⟨.ret, [2], [.one (.bool)], []⟩, ⟨.exit 0, [], [], []⟩], Zcv⟩
noncomputable def ZfA : List (LE CT Tryd.prog) := [Zcw]
theorem Zhv : ZoD Zcw (Zns (Zdy Tryd.f22) 0) := fun A env h k z hk => Zhl (E := Zcw) (Zai Zfz) (dr := Zfy) (lps := Za8 ZfA) (ZaI (by kernel_rfl)) (fun a => by kernel_rfl) env h k z hk
noncomputable def Zbs (x0 : List (Int)) : Option ((Bool) × (Unit)) :=
 (Zbl Zcv ((x0, x0, (x0.length : Int), 0, ()), ())).bind fun b1 =>
 (match b1 with
 | .inl b2 =>
 some (b2.1.1, ())
 | .inr b3 =>
 some (true, ()))
noncomputable def Zjl : CE CT Tryd.prog where
 f := 22
 args := [.one (.sl 0)]
 hs := []
 res := .val (.one (.bool))
 outs := []
 m := fun d dh => Zbs d.1
 ok := ZbA ZaT Tryd.func22 (by kernel_rfl) (Zai Zfz) (dr := Zfy) (lps := Za8 ZfA) (ZaV (Zd8 (n := 1) (by kernel_rfl) fun i hi => match i, hi with | 0, _ => Zhm (E := Zcw) (by kernel_rfl) Zhv)) (fun d dh => by kernel_rfl)
def ZiK : Nat -> Nat -> DrA
 | _, _ => ⟨[], [], [], [], [], false, []⟩
noncomputable def ZiL : List (CE CT Tryd.prog) := [Zjl]
noncomputable def ZiM : List (LE CT Tryd.prog) := []
noncomputable def Zdh (x0 : ZbY) : Option ((Bool) × (Unit)) :=
 (Zbs x0.voters).bind fun r1 =>
 (bif r1.1 then
 (Zbs x0.old).bind fun r2 =>
 (bif r2.1 then
 (Zbs x0.learners).bind fun r3 =>
 (bif r3.1 then
 (Zbs x0.want).bind fun r4 =>
 some (r4.1, ())
 else
 some (false, ()))
 else
 some (false, ()))
 else
 some (false, ()))
noncomputable def ZiN : CE CT Tryd.prog where
 f := 7
 args := [.cod 8]
 hs := []
 res := .val (.one (.bool))
 outs := []
 m := fun d dh => Zdh d.1
 ok := ZbA ZaT Tryd.func7 (by kernel_rfl) (Zai ZiL) (dr := ZiK) (lps := Za8 ZiM) (ZaV (ZaI (by kernel_rfl))) (fun d dh => by kernel_rfl)
def ZfO : Nat -> Nat -> DrA
 | _, _ => ⟨[], [], [], [], [], false, []⟩
noncomputable def ZfP : List (CE CT Tryd.prog) := []
noncomputable def ZfQ : List (LE CT Tryd.prog) := []
noncomputable def Za0 (x0 : List (UInt8)) : Option ((List (UInt8)) × ((Unit) × Unit)) :=
 (if x0.length <= 140737488355328 /\ x0.length * 1 <= 140737488355328 then
 some (x0, ((), ()))
 else none)
noncomputable def ZfR : CE CT Tryd.prog where
 f := 9
 args := [.one (.sl 1)]
 hs := []
 res := .val (.one (.own 1 0))
 outs := [.row 5 1]
 m := fun d dh => Za0 d.1
 ok := ZbA ZaT Tryd.func9 (by kernel_rfl) (Zai ZfP) (dr := ZfO) (lps := Za8 ZfQ) (ZaV (ZaI (by kernel_rfl))) (fun d dh => by kernel_rfl)
def ZcO : Nat -> Nat -> DrA
 | 6, _ => ⟨[0, 1, 2, 4, 5, 6, 3, 7, 8], [[], [], [0, 1], [0, 1, 2], [], [], [4, 5], [4, 5, 6], (List.range 8)], [], [], [], false, []⟩
 | _, _ => ⟨[], [], [], [], [], false, []⟩
noncomputable def ZcP : List (CE CT Tryd.prog) := []
noncomputable def Zba (a : ((List (Int)) × (Nat) × (Int) × Unit) × ((List (Int)) × Unit)) : Option ((((List (Int)) × (Nat) × (Int) × Unit) × ((List (Int)) × Unit)) ⊕ ((((Bool) × Unit) × ((List (Int)) × Unit)) ⊕ ((Unit) × ((List (Int)) × Unit)))) :=
 (bif (decide ((a.1.2.2.1 : Int) < (a.1.1.length : Int))) then
 (ZhG a.1.1 a.1.2.2.1).bind fun e1 =>
 (if 0 <= (a.1.2.2.1 : Int) /\ (a.1.2.2.1 : Int) < ((a.1.2.1 : Nat) : Int) then
 (a.2.1[(0 + (a.1.2.2.1 : Int).toNat)]?).bind fun e2 =>
 (bif (decide ((e1 : Int) ≠ e2)) then
 some (.inr (.inl ((false, ()), (a.2.1, ()))))
 else
 some (.inl ((a.1.1, a.1.2.1, (IntKind.i64.wrap (a.1.2.2.1 + 1)), ()), (a.2.1, ()))))
 else none)
 else
 some (.inr (.inr ((), (a.2.1, ())))))
noncomputable def Zbh : LE CT Tryd.prog := ⟨4, [0, 1, 5], [.one (.sl 0), .one (.asz 0 0), .one (.int .i64)], [.arr 3 0 true], [⟨.ret, [4], [.one (.bool)], [.arr 3 0 true]⟩, ⟨.exit 0, [], [], [.arr 3 0 true]⟩], Zba⟩
noncomputable def ZcQ : List (LE CT Tryd.prog) := [Zbh]
theorem Zeo : ZoD Zbh (Zns (Zdy Tryd.f70) 0) := fun A env h k z hk => Zhl (E := Zbh) (Zai ZcP) (dr := ZcO) (lps := Za8 ZcQ) (ZaI (by kernel_rfl)) (fun a => by kernel_rfl) env h k z hk
noncomputable def ZaS (x0 : List (Int)) (x1 : Nat) (h0 : List (Int)) : Option ((Bool) × ((List (Int)) × Unit)) :=
 (bif (decide (((x0.length : Int) : Int) ≠ ((x1 : Nat) : Int))) then
 some (false, (h0, ()))
 else
 (Zbl Zba ((x0, x1, 0, ()), (h0, ()))).bind fun b1 =>
 (match b1 with
 | .inl b2 =>
 some (b2.1.1, (b2.2.1, ()))
 | .inr b3 =>
 some (true, (b3.2.1, ()))))
noncomputable def Zfd : CE CT Tryd.prog where
 f := 70
 args := [.one (.sl 0), .one (.asz 0 0)]
 hs := [.arr 3 0 true]
 res := .val (.one (.bool))
 outs := [.arr 3 0 true]
 m := fun d dh => ZaS d.1 d.2.1 dh.1
 ok := ZbA ZaT Tryd.func70 (by kernel_rfl) (Zai ZcP) (dr := ZcO) (lps := Za8 ZcQ) (ZaV (Zd8 (n := 1) (by kernel_rfl) fun i hi => match i, hi with | 0, _ => Zhm (E := Zbh) (by kernel_rfl) Zeo)) (fun d dh => by kernel_rfl)
def Zev : Nat -> Nat -> DrA
 | _, _ => ⟨[], [], [], [], [], false, []⟩
noncomputable def Zew : List (CE CT Tryd.prog) := [Zfd]
noncomputable def Zex : List (LE CT Tryd.prog) := []
noncomputable def Zbq (x0 : ZbY) (x1 : (Nat) × (Nat) × (Nat) × (Nat) × Unit) (h0 : List (Int)) (h1 : List (Int)) (h2 : List (Int)) (h3 : List (Int)) : Option ((Bool) × ((List (Int)) × (List (Int)) × (List (Int)) × (List (Int)) × Unit)) :=
 (ZaS x0.voters x1.1 h0).bind fun r1 =>
 (bif r1.1 then
 (ZaS x0.old x1.2.1 h1).bind fun r2 =>
 (bif r2.1 then
 (ZaS x0.learners x1.2.2.1 h2).bind fun r3 =>
 (bif r3.1 then
 (ZaS x0.want x1.2.2.2.1 h3).bind fun r4 =>
 some (r4.1, (r1.2.1, r2.2.1, r3.2.1, r4.2.1, ()))
 else
 some (false, (r1.2.1, r2.2.1, r3.2.1, h3, ())))
 else
 some (false, (r1.2.1, r2.2.1, h2, h3, ())))
 else
 some (false, (r1.2.1, h1, h2, h3, ())))
noncomputable def Zey : CE CT Tryd.prog where
 f := 49
 args := [.cod 8, .agg [.asz 0 0, .asz 0 1, .asz 0 2, .asz 0 3]]
 hs := [.arr 3 0 true, .arr 3 0 true, .arr 3 0 true, .arr 3 0 true]
 res := .val (.one (.bool))
 outs := [.arr 3 0 true, .arr 3 0 true, .arr 3 0 true, .arr 3 0 true]
 m := fun d dh => Zbq d.1 d.2.1 dh.1 dh.2.1 dh.2.2.1 dh.2.2.2.1
 ok := ZbA ZaT Tryd.func49 (by kernel_rfl) (Zai Zew) (dr := Zev) (lps := Za8 Zex) (ZaV (ZaI (by kernel_rfl))) (fun d dh => by kernel_rfl)
def Zfe : Nat -> Nat -> DrA
 | _, _ => ⟨[], [], [], [], [], false, []⟩
noncomputable def Zff : List (CE CT Tryd.prog) := [Zey]
noncomputable def Zfg : List (LE CT Tryd.prog) := []
noncomputable def ZbF (x0 : Zes) (x1 : (Int) × (Int) × (Nat) × (Nat) × (Nat) × (Nat) × Unit) (h0 : List (Int)) (h1 : List (Int)) (h2 : List (Int)) (h3 : List (Int)) : Option ((Bool) × ((List (Int)) × (List (Int)) × (List (Int)) × (List (Int)) × Unit)) :=
 (bif (decide ((x0.index : Int) = x1.1)) then
 (bif (decide ((x0.term_ : Int) = x1.2.1)) then
 (Zbq x0.config (x1.2.2.1, x1.2.2.2.1, x1.2.2.2.2.1, x1.2.2.2.2.2.1, ()) h0 h1 h2 h3).bind fun r1 =>
 some (r1.1, (r1.2.1, r1.2.2.1, r1.2.2.2.1, r1.2.2.2.2.1, ()))
 else
 some (false, (h0, h1, h2, h3, ())))
 else
 some (false, (h0, h1, h2, h3, ())))
noncomputable def Zfh : CE CT Tryd.prog where
 f := 27
 args := [.cod 9, .agg [.int .i64, .int .i64, .asz 0 0, .asz 0 1, .asz 0 2, .asz 0 3]]
 hs := [.arr 3 0 true, .arr 3 0 true, .arr 3 0 true, .arr 3 0 true]
 res := .val (.one (.bool))
 outs := [.arr 3 0 true, .arr 3 0 true, .arr 3 0 true, .arr 3 0 true]
 m := fun d dh => ZbF d.1 d.2.1 dh.1 dh.2.1 dh.2.2.1 dh.2.2.2.1
 ok := ZbA ZaT Tryd.func27 (by kernel_rfl) (Zai Zff) (dr := Zfe) (lps := Za8 Zfg) (ZaV (ZaI (by kernel_rfl))) (fun d dh => by kernel_rfl)
def ZeY : Nat -> Nat -> DrA
 | _, _ => ⟨[], [], [], [], [], false, []⟩
noncomputable def ZeZ : List (CE CT Tryd.prog) := [Zfh, Zc2]
noncomputable def Ze0 : List (LE CT Tryd.prog) := []
noncomputable def Zbw (x0 : Zcd) (x1 : (Int) × (Int) × (Nat) × (Nat) × (Nat) × (Nat) × (List (UInt8)) × Unit) (h0 : List (Int)) (h1 : List (Int)) (h2 : List (Int)) (h3 : List (Int)) : Option ((Bool) × ((List (Int)) × (List (Int)) × (List (Int)) × (List (Int)) × Unit)) :=
 (ZbF x0.base (x1.1, x1.2.1, x1.2.2.1, x1.2.2.2.1, x1.2.2.2.2.1, x1.2.2.2.2.2.1, ()) h0 h1 h2 h3).bind fun r1 =>
 (bif r1.1 then
 (Zbi x0.bytes x1.2.2.2.2.2.2.1).bind fun r2 =>
 some (r2.1, (r1.2.1, r1.2.2.1, r1.2.2.2.1, r1.2.2.2.2.1, ()))
 else
 some (false, (r1.2.1, r1.2.2.1, r1.2.2.2.1, r1.2.2.2.2.1, ())))
noncomputable def Ze1 : CE CT Tryd.prog where
 f := 10
 args := [.cod 10, .agg [.int .i64, .int .i64, .asz 0 0, .asz 0 1, .asz 0 2, .asz 0 3, .sl 1]]
 hs := [.arr 3 0 true, .arr 3 0 true, .arr 3 0 true, .arr 3 0 true]
 res := .val (.one (.bool))
 outs := [.arr 3 0 true, .arr 3 0 true, .arr 3 0 true, .arr 3 0 true]
 m := fun d dh => Zbw d.1 d.2.1 dh.1 dh.2.1 dh.2.2.1 dh.2.2.2.1
 ok := ZbA ZaT Tryd.func10 (by kernel_rfl) (Zai ZeZ) (dr := ZeY) (lps := Za8 Ze0) (ZaV (ZaI (by kernel_rfl))) (fun d dh => by kernel_rfl)
end Go.Proofs.YteempnebenjkmaaDoor
