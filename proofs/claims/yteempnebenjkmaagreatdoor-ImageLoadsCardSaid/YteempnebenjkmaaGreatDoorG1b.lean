/- Models of the document's. -/
import Derived.Test.YteempnebenjkmaaGreatDoorG1a
import Derived.Test.YteempnebenjkmaaGreatDoorFo
namespace Go.Proofs.YteempnebenjkmaaGreatDoor
noncomputable section
open Go.RowKit
set_option maxRecDepth 100000
set_option linter.unusedVariables false
def ZpZ (x0 : Zbd) : Option ((List UInt8) × (Unit × Unit)) := if 0 <= x0.kind /\ x0.kind <= 255 /\ x0.data.length <= 1000000 then some (code (x0.kind, x0.data), ((), ())) else none
def ZvX : CEp where
 f := 8
 args := [.cod 15]
 hs := []
 res := .val (.one (.own 1 0))
 outs := [.row 5 1]
 m := fun d dh => ZpZ d.1
 ok := fun d dh r hr => by
  unfold ZpZ at hr
  split at hr
  ·rename_i hc
   injection hr with hr
   subst hr
   exact ZvW d.1 hc
  ·cases hr
def Zi7 : Nat -> Nat -> DrA
 | 3, _ => ⟨[0, 1, 4, 5, 10, 11, 16, 17, 2, 3, 6, 7, 8, 9, 12, 13, 14, 15, 18, 19, 20, 21, 22], [[], [0], [0, 1], [0, 1, 2], [], [4], [4, 5], [4, 5, 6], [4, 5, 6, 7], (List.range 9), [], [10], [10, 11], [10, 11, 12], [10, 11, 12, 13], (List.range 15), [], [16], [16, 17], [16, 17, 18], [16, 17, 18, 19], (List.range 21), (List.range 22)], [], [], [], false, []⟩
 | 6, _ => ⟨[0, 1, 5, 6, 7, 8, 2, 3, 4, 9, 10, 11, 12], [[], [0], [0, 1], [0, 1, 2], [], [], [], [6], [5, 6, 7], [4, 5, 6, 7, 8], (List.range 10), [], (List.range 12)], [2], [9], [], false, []⟩
 | 11, _ => ⟨[0, 1, 2, 4, 5, 6, 3, 7, 8], [[], [], [0, 1], [0, 1, 2], [], [], [4, 5], [4, 5, 6], (List.range 8)], [], [], [], false, []⟩
 | _, _ => ⟨[], [], [], [], [], false, []⟩
def Zi8 : List (CEp) := [ZvX]
def Zeu (a : (LB × Unit × Unit × LB × Int × Unit) × ((Int × LB × Unit) × (Int × LB × Unit) × Unit × Unit × Unit × Unit)) : Option (((LB × Unit × Unit × LB × Int × Unit) × ((Int × LB × Unit) × (Int × LB × Unit) × Unit × Unit × Unit × Unit)) ⊕ (((Unit × Bool × Unit) × ((Int × LB × Unit) × (Int × LB × Unit) × Unit × Unit × Unit × Unit × Unit × Unit)) ⊕ ((Unit × Unit × Unit) × ((Int × LB × Unit) × (Int × LB × Unit) × Unit × Unit × Unit × Unit × Unit × Unit)))) :=
 (bif (decide ((a.1.2.2.2.2.1 : Int) < (a.1.2.2.2.1.length : Int))) then
 (Ze1 a.1.2.2.2.1 a.1.2.2.2.2.1).bind fun e1 =>
 (Ze1 a.1.1 a.1.2.2.2.2.1).bind fun e2 =>
 (bif (decide (((e1.toNat : Int) : Int) ≠ (e2.toNat : Int))) then
 some (.inr (.inl (((), false, ()), ((0, [], ()), a.2.2.1, (), (), (), (), (), ()))))
 else
 some (.inl ((a.1.1, (), (), a.1.2.2.2.1, (IntKind.i64.wrap (a.1.2.2.2.2.1 + 1)), ()), (a.2.1, a.2.2.1, (), (), (), ()))))
 else
 some (.inr (.inr (((), (), ()), (a.2.1, a.2.2.1, (), (), (), (), (), ())))))
def Zev : LEp := ⟨9, [0, 2, 5, 6, 7], [.one (.sl 1), .one (.ptr 0 0), .one (.ptr 1 0), .one (.own 1 2), .one (.int .i64)], [.obj 26 [.int .i64, .own 1 3], .obj 26 [.int .i64, .own 1 4], .row 5 1, .row 5 1, .row 5 1], [⟨.ret, [2, 3], [.one (.ptr 0 0), .one (.bool)], [.obj 26 [.int .i64, .own 1 5], .obj 26 [.int .i64, .own 1 6], .dead, .dead, .dead, .row 5 1, .row 5 1]⟩, ⟨.exit 0, [2, 5], [.one (.ptr 0 0), .one (.ptr 1 0)], [.obj 26 [.int .i64, .own 1 5], .obj 26 [.int .i64, .own 1 6], .dead, .dead, .dead, .row 5 1, .row 5 1]⟩], Zeu⟩
def Zi9 : List (LEp) := [Zev]
theorem ZkQ : ZlI Zev (ZkJ (Zcf Tryz.f88) 0) := fun A env h k z hk => Ze2 (E := Zev) (Zau Zi8) (dr := Zi7) (lps := Zbj Zi9) (Zbc (by kernel_rfl)) (fun a => by kernel_rfl) env h k z hk
def ZcD (x0 : LB) : Option (((Zbd) × Bool × Unit) × Unit) :=
 (bif (decide (((x0.length : Int) : Int) < 9)) then
 some (((⟨0, []⟩ : Zbd), false, ()), ())
 else
 (Ze1 x0 0).bind fun e1 =>
 (Ze1 x0 1).bind fun e2 =>
 (Ze1 x0 2).bind fun e3 =>
 (Ze1 x0 3).bind fun e4 =>
 let y5 : Int := (IntKind.i64.wrap ((IntKind.i64.wrap ((IntKind.i64.wrap ((IntKind.i64.wrap (e1.toNat : Int)) + (IntKind.i64.wrap ((IntKind.i64.wrap (e2.toNat : Int)) * 2 ^ min (8 : Int).toNat (IntKind.i64.bits))))) + (IntKind.i64.wrap ((IntKind.i64.wrap (e3.toNat : Int)) * 2 ^ min (16 : Int).toNat (IntKind.i64.bits))))) + (IntKind.i64.wrap ((IntKind.i64.wrap (e4.toNat : Int)) * 2 ^ min (24 : Int).toNat (IntKind.i64.bits)))))
 (bif (decide ((262144 : Int) < y5)) then
 some (((⟨0, []⟩ : Zbd), false, ()), ())
 else
 (bif (decide (((IntKind.i64.wrap ((x0.length : Int) - 9)) : Int) < y5)) then
 some (((⟨0, []⟩ : Zbd), false, ()), ())
 else
 (Ze1 x0 4).bind fun e6 =>
 (if 0 <= (9 : Int) /\ (9 : Int) <= (IntKind.i64.wrap (9 + y5)) /\ (IntKind.i64.wrap (9 + y5)) <= (x0.length : Int) then
 let y7 : LB := ((x0.drop (9 : Int).toNat).take (((IntKind.i64.wrap (9 + y5)) : Int).toNat - (9 : Int).toNat))
 (if ([] : LB).length + y7.length <= 140737488355328 /\ (([] : LB).length + y7.length) * 1 <= 140737488355328 then
 (ZpZ (⟨(IntKind.i64.wrap (e6.toNat : Int)), (([] : LB) ++ y7)⟩ : Zbd)).bind fun r8 =>
 (Za2 Zeu ((x0, (), (), r8.1, 0, ()), ((0, [], ()), ((IntKind.i64.wrap (e6.toNat : Int)), (([] : LB) ++ y7), ()), (), (), (), ()))).bind fun b9 =>
 (match b9 with
 | .inl b10 =>
 some (((⟨b10.2.1.1, b10.2.1.2.1⟩ : Zbd), b10.1.2.1, ()), ())
 | .inr b11 =>
 some (((⟨b11.2.2.1.1, b11.2.2.1.2.1⟩ : Zbd), true, ()), ()))
 else none)
 else none))))
def Zor : CEp where
 f := 88
 args := [.one (.sl 1)]
 hs := []
 res := .tup [.cod 15, .one (.bool)]
 outs := []
 m := fun d dh => ZcD d.1
 ok := ZdE ZbI Tryz.func88 (by kernel_rfl) (Zau Zi8) (dr := Zi7) (lps := Zbj Zi9) (ZbP (ZcG (n := 1) (by kernel_rfl) fun i hi => match i, hi with | 0, _ => Ze3 (E := Zev) (by kernel_rfl) ZkQ)) (fun d dh => by kernel_rfl)
def Znr : List (CEp) := [Zor]
def ZhB (a : (LB × (List (Zbd)) × Int × Unit × Bool × Unit) × ((Zbd) × Unit × Unit)) : Option (((LB × (List (Zbd)) × Int × Unit × Bool × Unit) × ((Zbd) × Unit × Unit)) ⊕ ((((List (Zbd)) × Int × Unit) × ((Zbd) × Unit × Unit × Unit)))) :=
 (bif a.1.2.2.2.2.1 then
 (if a.1.2.1.length + ([a.2.1] : List (Zbd)).length <= 140737488355328 /\ (a.1.2.1.length + ([a.2.1] : List (Zbd)).length) * 32 <= 140737488355328 then
 let y1 : Int := (IntKind.i64.wrap ((IntKind.i64.wrap (a.1.2.2.1 + 9)) + (a.2.1.data.length : Int)))
 (if 0 <= (y1 : Int) /\ (y1 : Int) <= (a.1.1.length : Int) /\ (a.1.1.length : Int) <= (a.1.1.length : Int) then
 let y2 : LB := ((a.1.1.drop (y1 : Int).toNat).take (((a.1.1.length : Int) : Int).toNat - (y1 : Int).toNat))
 (ZcD y2).bind fun r3 =>
 some (.inl ((a.1.1, (a.1.2.1 ++ ([a.2.1] : List (Zbd))), y1, (), r3.1.2.1, ()), (r3.1.1, (), ())))
 else none)
 else none)
 else
 some (.inr ((a.1.2.1, a.1.2.2.1, ()), (a.2.1, (), (), ()))))
def ZhC : LEp := ⟨4, [0, 4, 5, 6, 7], [.one (.sl 1), .one (.own 15 1), .one (.int .i64), .one (.ptr 0 0), .one (.bool)], [.cobj 26 15, .row 26 2], [⟨.exit 0, [4, 5], [.one (.own 15 2), .one (.int .i64)], [.cobj 26 15, .dead, .row 26 2]⟩], ZhB⟩
def Zns : List (LEp) := [ZhC]
theorem Zos : ZlI ZhC (ZkJ (Zcf Tryz.f47) 0) := fun A env h k z hk => Ze2 (E := ZhC) (Zau Znr) (dr := dr0) (lps := Zbj Zns) (Zbc (by kernel_rfl)) (fun a => by kernel_rfl) env h k z hk
def Zrb (x0 : LB) : Option (((List (Zbd)) × Int × Unit) × (Unit × Unit)) :=
 (ZcD x0).bind fun r1 =>
 (Za2 ZhB ((x0, [], 0, (), r1.1.2.1, ()), (r1.1.1, (), ()))).bind fun b2 =>
 some ((b2.1.1, b2.1.2.1, ()), ((), ()))
def Ztz : CEp where
 f := 47
 args := [.one (.sl 1)]
 hs := []
 res := .tup [.one (.own 15 0), .one (.int .i64)]
 outs := [.row 26 2]
 m := fun d dh => Zrb d.1
 ok := ZdE ZbI Tryz.func47 (by kernel_rfl) (Zau Znr) (dr := dr0) (lps := Zbj Zns) (ZbP (ZcG (n := 1) (by kernel_rfl) fun i hi => match i, hi with | 0, _ => Ze3 (E := ZhC) (by kernel_rfl) Zos)) (fun d dh => by kernel_rfl)
def Znt : List (CEp) := []
def ZhD (a : (LB × Int × Int × Unit) × Unit) : Option (((LB × Int × Int × Unit) × Unit) ⊕ (((Int × Int × Unit) × Unit) ⊕ (Unit × Unit))) :=
 (bif (decide ((a.1.2.2.1 : Int) < (a.1.1.length : Int))) then
 (bif (decide ((a.1.2.2.1 : Int) < 9)) then
 (Ze1 a.1.1 a.1.2.2.1).bind fun e1 =>
 (if ((IntKind.u64.wrap (IntKind.i64.wrap (7 * a.1.2.2.1))) : Int) < 0 then none else
 let y2 : Int := (IntKind.i64.wrap ((BitVec.ofInt (IntKind.i64.bits) a.1.2.1 ||| BitVec.ofInt (IntKind.i64.bits) (IntKind.i64.wrap ((IntKind.i64.wrap (IntKind.u8.wrap ((BitVec.ofInt (IntKind.u8.bits) (e1.toNat : Int) &&& BitVec.ofInt (IntKind.u8.bits) 127).toNat))) * 2 ^ min ((IntKind.u64.wrap (IntKind.i64.wrap (7 * a.1.2.2.1))) : Int).toNat (IntKind.i64.bits)))).toNat))
 (Ze1 a.1.1 a.1.2.2.1).bind fun e3 =>
 (bif (decide (((e3.toNat : Int) : Int) < 128)) then
 (bif (decide ((0 : Int) < a.1.2.2.1)) then
 (Ze1 a.1.1 a.1.2.2.1).bind fun e4 =>
 (bif (decide (((e4.toNat : Int) : Int) = 0)) then
 some (.inr (.inl ((0, 0, ()), ())))
 else
 (bif (decide ((4611686018427387903 : Int) < y2)) then
 some (.inr (.inl ((0, 0, ()), ())))
 else
 (bif (decide ((y2 : Int) < 0)) then
 some (.inr (.inl ((0, 0, ()), ())))
 else
 some (.inr (.inl ((y2, (IntKind.i64.wrap (a.1.2.2.1 + 1)), ()), ()))))))
 else
 (bif (decide ((4611686018427387903 : Int) < y2)) then
 some (.inr (.inl ((0, 0, ()), ())))
 else
 (bif (decide ((y2 : Int) < 0)) then
 some (.inr (.inl ((0, 0, ()), ())))
 else
 some (.inr (.inl ((y2, (IntKind.i64.wrap (a.1.2.2.1 + 1)), ()), ()))))))
 else
 some (.inl ((a.1.1, y2, (IntKind.i64.wrap (a.1.2.2.1 + 1)), ()), ()))))
 else
 some (.inr (.inr ((), ()))))
 else
 some (.inr (.inr ((), ()))))
def ZhE : LEp := ⟨3, [0, 4, 5], [.one (.sl 1), .one (.int .i64), .one (.int .i64)], [], [⟨.ret, [2, 3], [.one (.int .i64), .one (.int .i64)], []⟩, ⟨.exit 0, [], [], []⟩], ZhD⟩
def Znu : List (LEp) := [ZhE]
theorem Zot : ZlI ZhE (ZkJ (Zcf Tryz.f159) 0) := fun A env h k z hk => Ze2 (E := ZhE) (Zau Znt) (dr := dr0) (lps := Zbj Znu) (Zbc (by kernel_rfl)) (fun a => by kernel_rfl) env h k z hk
def Zou (x0 : LB) : Option ((Int × Int × Unit) × Unit) :=
 (Za2 ZhD ((x0, 0, 0, ()), ())).bind fun b1 =>
 (match b1 with
 | .inl b2 =>
 some ((b2.1.1, b2.1.2.1, ()), ())
 | .inr b3 =>
 some ((0, 0, ()), ()))
def ZtA : CEp where
 f := 159
 args := [.one (.sl 1)]
 hs := []
 res := .tup [.one (.int .i64), .one (.int .i64)]
 outs := []
 m := fun d dh => Zou d.1
 ok := ZdE ZbI Tryz.func159 (by kernel_rfl) (Zau Znt) (dr := dr0) (lps := Zbj Znu) (ZbP (ZcG (n := 1) (by kernel_rfl) fun i hi => match i, hi with | 0, _ => Ze3 (E := ZhE) (by kernel_rfl) Zot)) (fun d dh => by kernel_rfl)
def Zrc : List (CEp) := []
def Zk5 (h0 : ZaO) : Option (Unit × ((LB × Bool × Unit) × Unit × Unit)) :=
 some ((), (([], true, ()), (), ()))
def Zmh : CEp where
 f := 99
 args := [.one (.ptr 0 0)]
 hs := [.cobj 117 16]
 res := .tup []
 outs := [.obj 117 [.own 1 1, .bool], .row 5 1]
 m := fun d dh => Zk5 dh.1
 ok := ceO Tryz.func99 (by kernel_rfl) Zrc (by kernel_rfl) fun d dh => by kernel_rfl
def Zov : List (CEp) := [ZtA, Zmh]
def Zdh (x1 : Int) (h0 : ZaO) : Option (Int × ((ZaO) × Unit)) :=
 (bif h0.failed then
 some (0, (h0, ()))
 else
 (Zou h0.left).bind fun r1 =>
 (bif (decide ((r1.1.2.1 : Int) = 0)) then
 (Zk5 h0).bind fun r2 =>
 some (0, ((⟨r2.2.1.1, r2.2.1.2.1⟩ : ZaO), ()))
 else
 (bif (decide ((x1 : Int) < r1.1.1)) then
 (Zk5 h0).bind fun r3 =>
 some (0, ((⟨r3.2.1.1, r3.2.1.2.1⟩ : ZaO), ()))
 else
 (if 0 <= (r1.1.2.1 : Int) /\ (r1.1.2.1 : Int) <= (h0.left.length : Int) /\ (h0.left.length : Int) <= (h0.left.length : Int) then
 let y4 : LB := ((h0.left.drop (r1.1.2.1 : Int).toNat).take (((h0.left.length : Int) : Int).toNat - (r1.1.2.1 : Int).toNat))
 some (r1.1.1, ((⟨y4, h0.failed⟩ : ZaO), ()))
 else none))))
def Zgn : CEp where
 f := 97
 args := [.one (.ptr 0 0), .one (.int .i64)]
 hs := [.cobj 117 16]
 res := .val (.one (.int .i64))
 outs := [.cobj 117 16]
 m := fun d dh => Zdh d.2.1 dh.1
 ok := ceO Tryz.func97 (by kernel_rfl) Zov (by kernel_rfl) fun d dh => by kernel_rfl
def Zmi : List (CEp) := [Zgn]
def ZeS (a : (Unit × Int × LI × Int × Unit) × ((ZaO) × Unit × Unit)) : Option (((Unit × Int × LI × Int × Unit) × ((ZaO) × Unit × Unit)) ⊕ (((LI × Unit) × ((ZaO) × Unit × Unit × Unit)))) :=
 (bif (decide ((a.1.2.2.2.1 : Int) < a.1.2.1)) then
 (Zdh 5 a.2.1).bind fun r1 =>
 (if a.1.2.2.1.length + ([r1.1] : LI).length <= 140737488355328 /\ (a.1.2.2.1.length + ([r1.1] : LI).length) * 8 <= 140737488355328 then
 some (.inl (((), a.1.2.1, (a.1.2.2.1 ++ ([r1.1] : LI)), (IntKind.i64.wrap (a.1.2.2.2.1 + 1)), ()), (r1.2.1, (), ())))
 else none)
 else
 some (.inr ((a.1.2.2.1, ()), (a.2.1, (), (), ()))))
def Zgo : LEp := ⟨4, [0, 3, 4, 5], [.one (.ptr 0 0), .one (.int .i64), .one (.own 0 1), .one (.int .i64)], [.cobj 117 16, .row 3 1], [⟨.exit 0, [4], [.one (.own 0 2)], [.cobj 117 16, .dead, .row 3 1]⟩], ZeS⟩
def Zmj : List (LEp) := [Zgo]
theorem ZmZ : ZlI Zgo (ZkJ (Zcf Tryz.f160) 0) := fun A env h k z hk => Ze2 (E := Zgo) (Zau Zmi) (dr := dr0) (lps := Zbj Zmj) (Zbc (by kernel_rfl)) (fun a => by kernel_rfl) env h k z hk
def Zgp (h0 : ZaO) : Option (LI × ((ZaO) × Unit × Unit)) :=
 (Zdh 5 h0).bind fun r1 =>
 (Za2 ZeS (((), r1.1, [], 0, ()), (r1.2.1, (), ()))).bind fun b2 =>
 some (b2.1.1, (b2.2.1, (), ()))
def Zrd : CEp where
 f := 160
 args := [.one (.ptr 0 0)]
 hs := [.cobj 117 16]
 res := .val (.one (.own 0 1))
 outs := [.cobj 117 16, .row 3 1]
 m := fun d dh => Zgp dh.1
 ok := ZdE ZbI Tryz.func160 (by kernel_rfl) (Zau Zmi) (dr := dr0) (lps := Zbj Zmj) (ZbP (ZcG (n := 1) (by kernel_rfl) fun i hi => match i, hi with | 0, _ => Ze3 (E := Zgo) (by kernel_rfl) ZmZ)) (fun d dh => by kernel_rfl)
def Zow : List (CEp) := [Zrd]
def ZhF (h0 : ZaO) : Option ((Zbv) × ((ZaO) × Unit)) :=
 (Zgp h0).bind fun r1 =>
 (Zgp r1.2.1).bind fun r2 =>
 (Zgp r2.2.1).bind fun r3 =>
 (Zgp r3.2.1).bind fun r4 =>
 some ((⟨r1.1, r2.1, r3.1, r4.1⟩ : Zbv), (r4.2.1, ()))
def Zox : CEp where
 f := 98
 args := [.one (.ptr 0 0)]
 hs := [.cobj 117 16]
 res := .val (.cod 8)
 outs := [.cobj 117 16]
 m := fun d dh => ZhF dh.1
 ok := ceO Tryz.func98 (by kernel_rfl) Zow (by kernel_rfl) fun d dh => by kernel_rfl
def ZkB : Nat -> Nat -> DrA
 | 4, _ => ⟨(List.range 20 ++ [21, 22, 23, 20, 24, 25, 26, 27]), [[], [], [0, 1], [0, 1, 2], [0, 1, 2, 3], (List.range 5), (List.range 6), (List.range 6), (List.range 8), (List.range 9), (List.range 10), (List.range 11), (List.range 12), (List.range 13), (List.range 14), (List.range 15), (List.range 16), (List.range 16), (List.range 16 ++ [17]), (List.range 19), (List.range 20), (List.range 16), (List.range 16), (List.range 16 ++ [21, 22]), (List.range 16 ++ [21, 22, 23]), (List.range 25), (List.range 26), (List.range 27)], [], [], [], false, []⟩
 | _, _ => ⟨[], [], [], [], [], false, []⟩
def ZkC : List (CEp) := []
def Zfk (a : (LI × Int × Unit) × Unit) : Option (((LI × Int × Unit) × Unit) ⊕ (((Bool × Unit) × Unit) ⊕ (Unit × Unit))) :=
 (bif (decide ((a.1.2.1 : Int) < (a.1.1.length : Int))) then
 (Ze1 a.1.1 a.1.2.1).bind fun e1 =>
 (bif (decide ((e1 : Int) < 1)) then
 some (.inr (.inl ((false, ()), ())))
 else
 (Ze1 a.1.1 a.1.2.1).bind fun e2 =>
 (bif (decide ((5 : Int) < e2)) then
 some (.inr (.inl ((false, ()), ())))
 else
 (bif (decide ((0 : Int) < a.1.2.1)) then
 (Ze1 a.1.1 (IntKind.i64.wrap (a.1.2.1 - 1))).bind fun e3 =>
 (Ze1 a.1.1 a.1.2.1).bind fun e4 =>
 (bif (decide ((e4 : Int) <= e3)) then
 some (.inr (.inl ((false, ()), ())))
 else
 some (.inl ((a.1.1, (IntKind.i64.wrap (a.1.2.1 + 1)), ()), ())))
 else
 some (.inl ((a.1.1, (IntKind.i64.wrap (a.1.2.1 + 1)), ()), ())))))
 else
 some (.inr (.inr ((), ()))))
def Zfl : LEp := ⟨2, [0, 3], [.one (.sl 0), .one (.int .i64)], [], [⟨.ret, [2], [.one (.bool)], []⟩, ⟨.exit 0, [], [], []⟩], Zfk⟩
def ZkD : List (LEp) := [Zfl]
theorem Zmk : ZlI Zfl (ZkJ (Zcf Tryz.f192) 0) := fun A env h k z hk => Ze2 (E := Zfl) (Zau ZkC) (dr := ZkB) (lps := Zbj ZkD) (Zbc (by kernel_rfl)) (fun a => by kernel_rfl) env h k z hk
def Zd9 (x0 : LI) : Option (Bool × Unit) :=
 (Za2 Zfk ((x0, 0, ()), ())).bind fun b1 =>
 (match b1 with
 | .inl b2 =>
 some (b2.1.1, ())
 | .inr b3 =>
 some (true, ()))
def Zp0 : CEp where
 f := 192
 args := [.one (.sl 0)]
 hs := []
 res := .val (.one (.bool))
 outs := []
 m := fun d dh => Zd9 d.1
 ok := ZdE ZbI Tryz.func192 (by kernel_rfl) (Zau ZkC) (dr := ZkB) (lps := Zbj ZkD) (ZbP (ZcG (n := 1) (by kernel_rfl) fun i hi => match i, hi with | 0, _ => Ze3 (E := Zfl) (by kernel_rfl) Zmk)) (fun d dh => by kernel_rfl)
def Zoy : List (CEp) := [Zp0]
def ZhG (x0 : Zbv) : Option (Bool × Unit) :=
 (Zd9 x0.voters).bind fun r1 =>
 (bif r1.1 then
 (Zd9 x0.old).bind fun r2 =>
 (bif r2.1 then
 (Zd9 x0.learners).bind fun r3 =>
 (bif r3.1 then
 (Zd9 x0.want).bind fun r4 =>
 some (r4.1, ())
 else
 some (false, ()))
 else
 some (false, ()))
 else
 some (false, ()))
def Zoz : CEp where
 f := 142
 args := [.cod 8]
 hs := []
 res := .val (.one (.bool))
 outs := []
 m := fun d dh => ZhG d.1
 ok := ceO Tryz.func142 (by kernel_rfl) Zoy (by kernel_rfl) fun d dh => by kernel_rfl
def Zre : List (CEp) := [Zoz]
def Zk6 (x0 : ZcP) : Option (Bool × Unit) :=
 (bif (decide ((0 : Int) <= x0.index)) then
 (bif (decide ((x0.index : Int) <= 1073741824)) then
 (bif (decide ((0 : Int) <= x0.term_)) then
 (bif (decide ((x0.term_ : Int) <= 1073741824)) then
 (ZhG x0.config).bind fun r1 =>
 some (r1.1, ())
 else
 some (false, ()))
 else
 some (false, ()))
 else
 some (false, ()))
 else
 some (false, ()))
def Zrf : CEp where
 f := 75
 args := [.cod 9]
 hs := []
 res := .val (.one (.bool))
 outs := []
 m := fun d dh => Zk6 d.1
 ok := ceO Tryz.func75 (by kernel_rfl) Zre (by kernel_rfl) fun d dh => by kernel_rfl
def Zml : List (CEp) := [Zgn, Zox, Zrf]
def Zfm (h0 : ZaO) : Option (((ZcP) × Bool × Unit) × ((ZaO) × Unit)) :=
 (Zdh 1073741824 h0).bind fun r1 =>
 (Zdh 1073741824 r1.2.1).bind fun r2 =>
 (ZhF r2.2.1).bind fun r3 =>
 (bif r3.2.1.failed then
 some (((⟨0, 0, (⟨[], [], [], []⟩ : Zbv)⟩ : ZcP), false, ()), (r3.2.1, ()))
 else
 (Zk6 (⟨r1.1, r2.1, r3.1⟩ : ZcP)).bind fun r4 =>
 (bif (!r4.1) then
 some (((⟨0, 0, (⟨[], [], [], []⟩ : Zbv)⟩ : ZcP), false, ()), (r3.2.1, ()))
 else
 some (((⟨r1.1, r2.1, r3.1⟩ : ZcP), true, ()), (r3.2.1, ()))))
def Zmm : CEp where
 f := 54
 args := [.one (.ptr 0 0)]
 hs := [.cobj 117 16]
 res := .tup [.cod 9, .one (.bool)]
 outs := [.cobj 117 16]
 m := fun d dh => Zfm dh.1
 ok := ceO Tryz.func54 (by kernel_rfl) Zml (by kernel_rfl) fun d dh => by kernel_rfl
def ZtB : List (CEp) := [Zgn, Zmh]
def ZoA (x1 : Int) (h0 : ZaO) : Option (LB × ((ZaO) × Unit × Unit)) :=
 (Zdh x1 h0).bind fun r1 =>
 (bif r1.2.1.failed then
 some ([], (r1.2.1, (), ()))
 else
 (bif (decide (((r1.2.1.left.length : Int) : Int) < r1.1)) then
 (Zk5 r1.2.1).bind fun r2 =>
 some ([], ((⟨r2.2.1.1, r2.2.1.2.1⟩ : ZaO), (), ()))
 else
 (if 0 <= ((0 : Int) : Int) /\ ((0 : Int) : Int) <= r1.1 /\ r1.1 <= (r1.2.1.left.length : Int) then
 let y3 : LB := ((r1.2.1.left.drop ((0 : Int) : Int).toNat).take ((r1.1 : Int).toNat - ((0 : Int) : Int).toNat))
 (if ([] : LB).length + y3.length <= 140737488355328 /\ (([] : LB).length + y3.length) * 1 <= 140737488355328 then
 (if 0 <= (r1.1 : Int) /\ (r1.1 : Int) <= (r1.2.1.left.length : Int) /\ (r1.2.1.left.length : Int) <= (r1.2.1.left.length : Int) then
 let y4 : LB := ((r1.2.1.left.drop (r1.1 : Int).toNat).take (((r1.2.1.left.length : Int) : Int).toNat - (r1.1 : Int).toNat))
 some ((([] : LB) ++ y3), ((⟨y4, r1.2.1.failed⟩ : ZaO), (), ()))
 else none)
 else none)
 else none)))
def ZtC : CEp where
 f := 55
 args := [.one (.ptr 0 0), .one (.int .i64)]
 hs := [.cobj 117 16]
 res := .val (.one (.own 1 1))
 outs := [.cobj 117 16, .row 5 1]
 m := fun d dh => ZoA d.2.1 dh.1
 ok := ceO Tryz.func55 (by kernel_rfl) ZtB (by kernel_rfl) fun d dh => by kernel_rfl
def ZtD : List (CEp) := []
def ZoB (h0 : ZaO) : Option (Int × ((ZaO) × Unit)) :=
 (bif h0.failed then
 some (4, (h0, ()))
 else
 (bif (decide ((0 : Int) < (h0.left.length : Int))) then
 some (4, (h0, ()))
 else
 some (0, (h0, ()))))
def ZtE : CEp where
 f := 56
 args := [.one (.ptr 0 0)]
 hs := [.cobj 117 16]
 res := .val (.one (.int .i64))
 outs := [.cobj 117 16]
 m := fun d dh => ZoB dh.1
 ok := ceO Tryz.func56 (by kernel_rfl) ZtD (by kernel_rfl) fun d dh => by kernel_rfl
def ZtF : List (CEp) := [Zmm, ZtC, ZtE]
def Zrg (x0 : LB) : Option (((Zb6) × Bool × Unit) × Unit) :=
 (Zfm (⟨x0, false⟩ : ZaO)).bind fun r1 =>
 (ZoA 131072 r1.2.1).bind fun r2 =>
 (bif (!r1.1.2.1) then
 some (((⟨(⟨0, 0, (⟨[], [], [], []⟩ : Zbv)⟩ : ZcP), []⟩ : Zb6), false, ()), ())
 else
 (ZoB r2.2.1).bind fun r3 =>
 (bif (decide ((r3.1 : Int) ≠ 0)) then
 some (((⟨(⟨0, 0, (⟨[], [], [], []⟩ : Zbv)⟩ : ZcP), []⟩ : Zb6), false, ()), ())
 else
 some (((⟨r1.1.1, r2.1⟩ : Zb6), true, ()), ())))
def ZtG : CEp where
 f := 17
 args := [.one (.sl 1)]
 hs := []
 res := .tup [.cod 10, .one (.bool)]
 outs := []
 m := fun d dh => Zrg d.1
 ok := ceO Tryz.func17 (by kernel_rfl) ZtF (by kernel_rfl) fun d dh => by kernel_rfl
def ZtH : List (CEp) := []
def Zrh (x0 : Int) (x1 : Int) : Option (Int × Unit) :=
 let y1 : Int := (IntKind.i64.wrap ((IntKind.i64.wrap (1000003 * (IntKind.i64.wrap (x0 + 7)))) + x1))
 some (y1, ())
def ZtI : CEp where
 f := 90
 args := [.one (.int .i64), .one (.int .i64)]
 hs := []
 res := .val (.one (.int .i64))
 outs := []
 m := fun d dh => Zrh d.1 d.2.1
 ok := ceO Tryz.func90 (by kernel_rfl) ZtH (by kernel_rfl) fun d dh => by kernel_rfl
def Zm0 : List (CEp) := [ZtI]
def Zcz (x0 : Int) (x1 : Int) : Option (Int × Unit) :=
 (Zrh x0 x1).bind fun r1 =>
 let y2 : Int := (IntKind.u8.wrap (((IntKind.u64.wrap ((IntKind.u64.wrap r1.1) * 11400714819323198485)) : Int).fdiv (2 ^ min (56 : Int).toNat (IntKind.u64.bits))))
 some (y2, ())
def Zh8 : CEp where
 f := 49
 args := [.one (.int .i64), .one (.int .i64)]
 hs := []
 res := .val (.one (.int .u8))
 outs := []
 m := fun d dh => Zcz d.1 d.2.1
 ok := ceO Tryz.func49 (by kernel_rfl) Zm0 (by kernel_rfl) fun d dh => by kernel_rfl
def Zg6 : List (CEp) := [Zh8]
def Zb1 (a : (LB × (Nat × Nat × Nat) × Int × Unit) × (LB × Unit)) : Option (((LB × (Nat × Nat × Nat) × Int × Unit) × (LB × Unit)) ⊕ (((LB × (Nat × Nat × Nat) × Unit) × (LB × Unit)))) :=
 (bif (decide ((a.1.2.2.1 : Int) < 12)) then
 (Zcz 1 a.1.2.2.1).bind fun r1 =>
 (b8 r1.1).bind fun u2 =>
 (if (a.1.2.1.2.1 + ([u2] : LB).length) <= 140737488355328 /\ (a.1.2.1.2.1 + ([u2] : LB).length) * 1 <= 140737488355328 /\ a.1.2.1.1 + a.1.2.1.2.1 <= a.2.1.length then
 (if (a.1.2.1.2.1 + ([u2] : LB).length) <= a.1.2.1.2.2 then
 let y3 : LB := (a.2.1.take (a.1.2.1.1 + a.1.2.1.2.1) ++ ([u2] : LB) ++ a.2.1.drop (a.1.2.1.1 + a.1.2.1.2.1 + ([u2] : LB).length))
 some (.inl ((a.1.1, (a.1.2.1.1, (a.1.2.1.2.1 + ([u2] : LB).length), a.1.2.1.2.2), (IntKind.i64.wrap (a.1.2.2.1 + 1)), ()), (y3, ())))
 else none)
 else none)
 else
 some (.inr ((a.1.1, (a.1.2.1.1, a.1.2.1.2.1, a.1.2.1.2.2), ()), (a.2.1, ()))))
def ZdA : LEp := ⟨4, [0, 3, 4], [.one (.sl 1), .one (.as 1 0), .one (.int .i64)], [.arr 5 1 true], [⟨.exit 0, [0, 3], [.one (.sl 1), .one (.as 1 0)], [.arr 5 1 true]⟩], Zb1⟩
def Zg7 : List (LEp) := [ZdA]
theorem Zja : ZlI ZdA (ZkJ (Zcf Tryz.f15) 0) := fun A env h k z hk => Ze2 (E := ZdA) (Zau Zg6) (dr := dr0) (lps := Zbj Zg7) (Zbc (by kernel_rfl)) (fun a => by kernel_rfl) env h k z hk
def Zfn (x0 : LB) : Option ((Nat × Nat × Nat) × (LB × Unit)) :=
 (if 0 <= (0 : Int) /\ (0 : Int) <= (IntKind.i64.wrap ((x0.length : Int) + 12)) /\ ((IntKind.i64.wrap ((x0.length : Int) + 12)) : Int) <= 140737488355328 /\ ((1 : Nat) : Int) * (IntKind.i64.wrap ((x0.length : Int) + 12)) <= 140737488355328 then
 let y1 : LB := (List.replicate ((IntKind.i64.wrap ((x0.length : Int) + 12)) : Int).toNat (0 : UInt8))
 (if ((0 : Int).toNat + x0.length) <= 140737488355328 /\ ((0 : Int).toNat + x0.length) * 1 <= 140737488355328 /\ 0 + (0 : Int).toNat <= y1.length then
 (if ((0 : Int).toNat + x0.length) <= ((IntKind.i64.wrap ((x0.length : Int) + 12)) : Int).toNat then
 let y2 : LB := (y1.take (0 + (0 : Int).toNat) ++ x0 ++ y1.drop (0 + (0 : Int).toNat + x0.length))
 (Za2 Zb1 ((x0, (0, ((0 : Int).toNat + x0.length), ((IntKind.i64.wrap ((x0.length : Int) + 12)) : Int).toNat), 0, ()), (y2, ()))).bind fun b3 =>
 (if 0 <= ((0 : Int) : Int) /\ ((0 : Int) : Int) <= ((b3.1.1.length : Int) : Int) /\ ((b3.1.1.length : Int) : Int) <= ((b3.1.2.1.2.2 : Nat) : Int) /\ ((b3.1.1.length : Int) : Int) <= 140737488355328 then
 some (((b3.1.2.1.1 + (0 : Int).toNat), (((b3.1.1.length : Int) : Int).toNat - (0 : Int).toNat), (b3.1.2.1.2.2 - (0 : Int).toNat)), (b3.2.1, ()))
 else none)
 else none)
 else none)
 else none)
def Zmn : CEp where
 f := 15
 args := [.one (.sl 1)]
 hs := []
 res := .val (.one (.as 1 0))
 outs := [.arr 5 1 false]
 m := fun d dh => Zfn d.1
 ok := ZdE ZbI Tryz.func15 (by kernel_rfl) (Zau Zg6) (dr := dr0) (lps := Zbj Zg7) (ZbP (ZcG (n := 1) (by kernel_rfl) fun i hi => match i, hi with | 0, _ => Ze3 (E := ZdA) (by kernel_rfl) Zja)) (fun d dh => by kernel_rfl)
def Zd2 (x0 : LB) : Option ((LB × LB) × Unit) :=
 (Zfn x0).bind fun r => if r.1.1 = 0 /\ r.1.2.1 <= r.2.1.length /\ r.2.1.length <= 140737488355328 then some ((r.2.1.take r.1.2.1, r.2.1.drop r.1.2.1), ()) else none
def Zj5 : CEp where
 f := 15
 args := [.one (.sl 1)]
 hs := []
 res := .val (.one (.slx 1))
 outs := []
 m := fun d dh => Zd2 d.1
 ok := fun d dh r hr => by
  unfold Zd2 at hr
  obtain ⟨⟨⟨lo, n, c⟩, xs, u⟩, h1, h2⟩ := Zaj hr
  dsimp only at h2
  split at h2
  ·rename_i hc
   injection h2 with h2
   subst h2
   obtain ⟨rfl, hc2, hc3⟩ := hc
   exact Tr.freezeX hc2 hc3 (Zmn.ok d dh _ h1)
  ·cases h2
def Zg8 : Nat -> Nat -> DrA
 | 7, _ => ⟨(List.range 8 ++ [9, 10, 11, 8, 12, 13, 14, 15, 16, 17, 18, 19, 20, 21, 22, 23, 24, 26, 27, 28, 29, 25, 30, 31, 32, 33, 34]), [[], [], [1], [0, 1, 2], [0, 1, 2, 3], (List.range 5), (List.range 5), (List.range 7), (List.range 8), (List.range 5), (List.range 5), (List.range 5 ++ [9, 10]), (List.range 5 ++ [9, 10, 11]), (List.range 13), (List.range 14), (List.range 15), (List.range 16), (List.range 17), (List.range 17), (List.range 17 ++ [18]), (List.range 20), (List.range 21), (List.range 22), (List.range 22), (List.range 24), (List.range 25), (List.range 22), (List.range 22), (List.range 22 ++ [27]), (List.range 22 ++ [26, 27, 28]), (List.range 22 ++ [26, 27, 28, 29]), (List.range 31), (List.range 32), (List.range 33), (List.range 34)], [25], [30], [], false, []⟩
 | _, _ => ⟨[], [], [], [], [], false, []⟩
def Zg9 : List (CEp) := [Zh8]
def Zb2 (a : (LB × LB × Int × Unit) × Unit) : Option (((LB × LB × Int × Unit) × Unit) ⊕ (((Bool × Unit) × Unit) ⊕ (Unit × Unit))) :=
 (bif (decide ((a.1.2.2.1 : Int) < (a.1.2.1.length : Int))) then
 (bif (decide ((a.1.2.2.1 : Int) < (a.1.1.length : Int))) then
 (Ze1 a.1.2.1 a.1.2.2.1).bind fun e1 =>
 (Ze1 a.1.1 a.1.2.2.1).bind fun e2 =>
 (bif (!(decide (((e1.toNat : Int) : Int) = (e2.toNat : Int)))) then
 some (.inr (.inl ((false, ()), ())))
 else
 (bif (decide (((a.1.1.length : Int) : Int) <= a.1.2.2.1)) then
 (Ze1 a.1.2.1 a.1.2.2.1).bind fun e3 =>
 (Zcz 1 (IntKind.i64.wrap (a.1.2.2.1 - (a.1.1.length : Int)))).bind fun r4 =>
 (bif (!(decide (((e3.toNat : Int) : Int) = r4.1))) then
 some (.inr (.inl ((false, ()), ())))
 else
 some (.inl ((a.1.1, a.1.2.1, (IntKind.i64.wrap (a.1.2.2.1 + 1)), ()), ())))
 else
 some (.inl ((a.1.1, a.1.2.1, (IntKind.i64.wrap (a.1.2.2.1 + 1)), ()), ()))))
 else
 (bif (decide (((a.1.1.length : Int) : Int) <= a.1.2.2.1)) then
 (Ze1 a.1.2.1 a.1.2.2.1).bind fun e5 =>
 (Zcz 1 (IntKind.i64.wrap (a.1.2.2.1 - (a.1.1.length : Int)))).bind fun r6 =>
 (bif (!(decide (((e5.toNat : Int) : Int) = r6.1))) then
 some (.inr (.inl ((false, ()), ())))
 else
 some (.inl ((a.1.1, a.1.2.1, (IntKind.i64.wrap (a.1.2.2.1 + 1)), ()), ())))
 else
 some (.inl ((a.1.1, a.1.2.1, (IntKind.i64.wrap (a.1.2.2.1 + 1)), ()), ()))))
 else
 some (.inr (.inr ((), ()))))
def ZdB : LEp := ⟨5, [1, 5, 6], [.one (.sl 1), .one (.sl 1), .one (.int .i64)], [], [⟨.ret, [4], [.one (.bool)], []⟩, ⟨.exit 0, [], [], []⟩], Zb2⟩
def Zha : List (LEp) := [ZdB]
theorem Zjb : ZlI ZdB (ZkJ (Zcf Tryz.f18) 0) := fun A env h k z hk => Ze2 (E := ZdB) (Zau Zg9) (dr := Zg8) (lps := Zbj Zha) (Zbc (by kernel_rfl)) (fun a => by kernel_rfl) env h k z hk
def Zhb (x0 : LB × LB) (x1 : LB) : Option (Bool × Unit) :=
 (bif (decide (((x0.1.length : Int) : Int) ≠ (x1.length : Int))) then
 some (false, ())
 else
 (if 0 <= ((0 : Int) : Int) /\ ((0 : Int) : Int) <= (IntKind.i64.wrap ((x1.length : Int) + 12)) /\ (IntKind.i64.wrap ((x1.length : Int) + 12)) <= ((x0.1 ++ x0.2).length : Int) then
 let y1 : LB := (((x0.1 ++ x0.2).drop ((0 : Int) : Int).toNat).take (((IntKind.i64.wrap ((x1.length : Int) + 12)) : Int).toNat - ((0 : Int) : Int).toNat))
 (Za2 Zb2 ((x1, y1, 0, ()), ())).bind fun b2 =>
 (match b2 with
 | .inl b3 =>
 some (b3.1.1, ())
 | .inr b4 =>
 some (true, ()))
 else none))
def Zmo : CEp where
 f := 18
 args := [.one (.slx 1), .one (.sl 1)]
 hs := []
 res := .val (.one (.bool))
 outs := []
 m := fun d dh => Zhb d.1 d.2.1
 ok := ZdE ZbI Tryz.func18 (by kernel_rfl) (Zau Zg9) (dr := Zg8) (lps := Zbj Zha) (ZbP (ZcG (n := 1) (by kernel_rfl) fun i hi => match i, hi with | 0, _ => Ze3 (E := ZdB) (by kernel_rfl) Zjb)) (fun d dh => by kernel_rfl)
end
end Go.Proofs.YteempnebenjkmaaGreatDoor
