/- Models of what is called. -/
import Derived.Test.YtinpiaibhjmfaaaTb
import Derived.Test.YtinpiaibhjmfaaaOa
import Derived.Test.YtinpiaibhjmfaaaTw
import Derived.Test.YtinpiaibhjmfaaaGw
import Derived.Test.YtinpiaibhjmfaaaFx
import Derived.Test.YtinpiaibhjmfaaaSl
import Derived.Test.YtinpiaibhjmfaaaSm
import Derived.Test.YtinpiaibhjmfaaaLe
namespace Go.Proofs.Ytinpiaibhjmfaaa
open Go.RowKit
set_option maxRecDepth 100000
set_option linter.unusedVariables false
noncomputable def Zj0 (n : Int) : Option (Nat × ((List (UInt8)) × Unit)) := if 0 <= n /\ n <= 140737488355328 /\ n * ((1 : Nat) : Int) <= 140737488355328 then some (0, ([], ())) else none
noncomputable def Zol : CE CT Try.prog where
 f := 64
 args := [.one .nil, .one (.int .i64)]
 hs := []
 res := .val (.one (.asz 1 0))
 outs := [.arr 5 1 false]
 m := fun d dh => Zj0 d.2.1
 ok := fun d dh r hr => by
  unfold Zj0 at hr
  split at hr
  ·rename_i hn
   injection hr with hr
   subst hr
   exact Zok Try.growLay64 rfl rfl (zv := .int .u8 0) false (hsz := by kernel_rfl) (hz := by kernel_rfl) (hby := by kernel_rfl) rfl rfl rfl (by kernel_rfl) d.2.1 hn.1 hn.2.1 hn.2.2
  ·cases hr
noncomputable def ZhI (x0 : List (UInt8)) : Option (Nat × (List (UInt8) × Unit)) :=
 if x0.length <= 140737488355328 /\ x0.length * 1 <= 140737488355328 then some (x0.length, (x0, ())) else none
noncomputable def Zmb : CE CT Try.prog where
 f := 41
 args := [.one (.sl 1)]
 hs := []
 res := .val (.one (.asz 1 0))
 outs := [.arr 5 1 false]
 m := fun d dh => ZhI d.1
 ok := fun d dh r hr => by
  unfold ZhI at hr
  split at hr
  ·rename_i hc
   injection hr with hr
   subst hr
   have hroom := hc
   exact Tr.kp0 (Zpp Zis Try.func41 (by kernel_rfl) rfl rfl (zv := .int .u8 0) (he := by kernel_rfl) (hsz := by kernel_rfl) (hz := by kernel_rfl) (hby := by kernel_rfl) rfl rfl (zt := (0 : UInt8)) d.1 (by kernel_rfl) hroom)
  ·cases hr
def Zdg : Nat -> Nat -> DrA
 | _, _ => ⟨[], [], [], [], [], false, []⟩
noncomputable def Zdh : List (CE CT Try.prog) := [Zol]
noncomputable def Zby (a : ((List (List (UInt8))) × (Int) × (List (List (UInt8))) × (Int) × (Int) × Unit) × (Unit)) : Option ((((List (List (UInt8))) × (Int) × (List (List (UInt8))) × (Int) × (Int) × Unit) × (Unit)) ⊕ ((((List (List (UInt8))) × (Int) × Unit) × (Unit)))) :=
 (bif (decide ((a.1.2.2.2.2.1 : Int) < a.1.2.2.2.1)) then
 (Zhg a.1.2.2.1 a.1.2.2.2.2.1).bind fun e1 =>
 (bif (decide (((IntKind.i64.wrap (a.1.2.1 + (e1.length : Int))) : Int) < 0)) then
 none
 else
 some (.inl ((a.1.1, (IntKind.i64.wrap (a.1.2.1 + (e1.length : Int))), a.1.2.2.1, a.1.2.2.2.1, (IntKind.i64.wrap (a.1.2.2.2.2.1 + 1)), ()), ())))
 else
 some (.inr ((a.1.1, a.1.2.1, ()), ())))
noncomputable def Zcy : LE CT Try.prog := ⟨3, [0, 3, 9, 10, 11], [.one (.sl 3), .one (.int .i64), .one (.sl 3), .one (.int .i64), .one (.int .i64)], [], [⟨.exit 0, [0, 3], [.one (.sl 3), .one (.int .i64)], []⟩], Zby⟩
noncomputable def Zbz (a : ((Nat) × (List (List (UInt8))) × (Int) × (Int) × Unit) × ((List (UInt8)) × Unit)) : Option ((((Nat) × (List (List (UInt8))) × (Int) × (Int) × Unit) × ((List (UInt8)) × Unit)) ⊕ ((((Nat) × Unit) × ((Unit) × (List (UInt8)) × Unit)))) :=
 (bif (decide ((a.1.2.2.2.1 : Int) < a.1.2.2.1)) then
 (Zhg a.1.2.1 a.1.2.2.2.1).bind fun e1 =>
 (if (a.1.1 + e1.length) <= 140737488355328 /\ (a.1.1 + e1.length) * 1 <= 140737488355328 /\ 0 + a.1.1 <= a.2.1.length then
 some (.inl (((a.1.1 + e1.length), a.1.2.1, a.1.2.2.1, (IntKind.i64.wrap (a.1.2.2.2.1 + 1)), ()), ((a.2.1.take a.1.1 ++ e1), ())))
 else none)
 else
 some (.inr ((a.1.1, ()), ((), a.2.1, ()))))
noncomputable def Zcz : LE CT Try.prog := ⟨11, [6, 25, 26, 27], [.one (.asz 1 0), .one (.sl 3), .one (.int .i64), .one (.int .i64)], [.arr 5 1 false], [⟨.exit 2, [6], [.one (.asz 1 1)], [.dead, .arr 5 1 false]⟩], Zbz⟩
noncomputable def Zdi : List (LE CT Try.prog) := [Zcy, Zcz]
theorem Zf8 : ZsB Zcy (Zqn (Zhm Try.f36) 0) := fun A env h k z hk => Zoa (E := Zcy) (Zcx Zdh) (dr := Zdg) (lps := ZgB Zdi) (Ze7 (by kernel_rfl)) (fun a => by kernel_rfl) env h k z hk
theorem Zf9 : ZsB Zcz (Zqn (Zhm Try.f36) 1) := fun A env h k z hk => Zoa (E := Zcz) (Zcx Zdh) (dr := Zdg) (lps := ZgB Zdi) (Ze7 (by kernel_rfl)) (fun a => by kernel_rfl) env h k z hk
noncomputable def ZeE (x0 : List (List (UInt8))) : Option ((Nat) × ((List (UInt8)) × Unit)) :=
 (Zco Zby ((x0, 0, x0, (x0.length : Int), 0, ()), ())).bind fun b1 =>
 (Zj0 b1.1.2.1).bind fun r2 =>
 (Zco Zbz ((r2.1, b1.1.1, (b1.1.1.length : Int), 0, ()), (r2.2.1, ()))).bind fun b3 =>
 some (b3.1.1, (b3.2.2.1, ()))
noncomputable def Zhw : CE CT Try.prog where
 f := 36
 args := [.one (.sl 3)]
 hs := []
 res := .val (.one (.asz 1 0))
 outs := [.arr 5 1 false]
 m := fun d dh => ZeE d.1
 ok := Zn9 Zis Try.func36 (by kernel_rfl) (Zcx Zdh) (dr := Zdg) (lps := ZgB Zdi) (Zjd (Zk1 (n := 2) (by kernel_rfl) fun i hi => match i, hi with | 0, _ => Zob (E := Zcy) (by kernel_rfl) Zf8 | 1, _ => Zob (E := Zcz) (by kernel_rfl) Zf9)) (fun d dh => by kernel_rfl)
def Zcr : Nat -> Nat -> DrA
 | 6, _ => ⟨[0, 1, 2, 4, 5, 6, 3, 7, 8], [[], [], [0, 1], [0, 1, 2], [], [], [4, 5], [4, 5, 6], (List.range 8)], [], [], [], false, []⟩
 | _, _ => ⟨[], [], [], [], [], false, []⟩
noncomputable def Zcs : List (CE CT Try.prog) := []
noncomputable def ZaM (a : ((List (UInt8)) × (List (UInt8)) × (Int) × Unit) × (Unit)) : Option ((((List (UInt8)) × (List (UInt8)) × (Int) × Unit) × (Unit)) ⊕ ((((Bool) × Unit) × (Unit)) ⊕ ((Unit) × (Unit)))) :=
 (bif (decide ((a.1.2.2.1 : Int) < (a.1.1.length : Int))) then
 (Zhg a.1.1 a.1.2.2.1).bind fun e1 =>
 (Zhg a.1.2.1 a.1.2.2.1).bind fun e2 =>
 (bif (decide (((e1.toNat : Int) : Int) ≠ (e2.toNat : Int))) then
 some (.inr (.inl ((false, ()), ())))
 else
 some (.inl ((a.1.1, a.1.2.1, (IntKind.i64.wrap (a.1.2.2.1 + 1)), ()), ())))
 else
 some (.inr (.inr ((), ()))))
noncomputable def Za9 : LE CT Try.prog := ⟨4, [0, 1, 5], [.one (.sl 1), .one (.sl 1), .one (.int .i64)], [], [⟨.ret, [4], [.one (.bool)], []⟩, ⟨.exit 0, [], [], []⟩], ZaM⟩
noncomputable def Zct : List (LE CT Try.prog) := [Za9]
theorem Zdt : ZsB Za9 (Zqn (Zhm Try.f13) 0) := fun A env h k z hk => Zoa (E := Za9) (Zcx Zcs) (dr := Zcr) (lps := ZgB Zct) (Ze7 (by kernel_rfl)) (fun a => by kernel_rfl) env h k z hk
noncomputable def Zbw (x0 : List (UInt8)) (x1 : List (UInt8)) : Option ((Bool) × (Unit)) :=
 (bif (decide (((x0.length : Int) : Int) ≠ (x1.length : Int))) then
 some (false, ())
 else
 (Zco ZaM ((x0, x1, 0, ()), ())).bind fun b1 =>
 (match b1 with
 | .inl b2 =>
 some (b2.1.1, ())
 | .inr b3 =>
 some (true, ())))
noncomputable def Zcu : CE CT Try.prog where
 f := 13
 args := [.one (.sl 1), .one (.sl 1)]
 hs := []
 res := .val (.one (.bool))
 outs := []
 m := fun d dh => Zbw d.1 d.2.1
 ok := Zn9 Zis Try.func13 (by kernel_rfl) (Zcx Zcs) (dr := Zcr) (lps := ZgB Zct) (Zjd (Zk1 (n := 1) (by kernel_rfl) fun i hi => match i, hi with | 0, _ => Zob (E := Za9) (by kernel_rfl) Zdt)) (fun d dh => by kernel_rfl)
def Zj1 : Nat -> Nat -> DrA
 | _, _ => ⟨[], [], [], [], [], false, []⟩
noncomputable def Zj2 : List (CE CT Try.prog) := []
noncomputable def Zj3 : List (LE CT Try.prog) := []
noncomputable def Zg9 (x0 : List UInt8) : Option ((Bool) × (Unit)) :=
 (bif (decide (x0 ≠ ([] : List UInt8))) then
 some ((decide (((x0.length : Int) : Int) <= 40)), ())
 else
 some (false, ()))
noncomputable def Zj4 : CE CT Try.prog where
 f := 35
 args := [.one (.str)]
 hs := []
 res := .val (.one (.bool))
 outs := []
 m := fun d dh => Zg9 d.1
 ok := Zn9 Zis Try.func35 (by kernel_rfl) (Zcx Zj2) (dr := Zj1) (lps := ZgB Zj3) (Zjd (Ze7 (by kernel_rfl))) (fun d dh => by kernel_rfl)
def Zem : Nat -> Nat -> DrA
 | _, _ => ⟨[], [], [], [], [], false, []⟩
noncomputable def Zen : List (CE CT Try.prog) := [Zcu]
noncomputable def Zeo : List (LE CT Try.prog) := []
noncomputable def Zcc (x0 : List (UInt8)) (x1 : List (UInt8)) : Option ((Bool) × (Unit)) :=
 (bif (decide (((x0.length : Int) : Int) <= (x1.length : Int))) then
 (if 0 <= ((0 : Int) : Int) /\ ((0 : Int) : Int) <= (x0.length : Int) /\ (x0.length : Int) <= (x1.length : Int) then
 let y1 : List (UInt8) := ((x1.drop ((0 : Int) : Int).toNat).take (((x0.length : Int) : Int).toNat - ((0 : Int) : Int).toNat))
 (Zbw x0 y1).bind fun r2 =>
 some (r2.1, ())
 else none)
 else
 some (false, ()))
noncomputable def Zep : CE CT Try.prog where
 f := 16
 args := [.one (.sl 1), .one (.sl 1)]
 hs := []
 res := .val (.one (.bool))
 outs := []
 m := fun d dh => Zcc d.1 d.2.1
 ok := Zn9 Zis Try.func16 (by kernel_rfl) (Zcx Zen) (dr := Zem) (lps := ZgB Zeo) (Zjd (Ze7 (by kernel_rfl))) (fun d dh => by kernel_rfl)
def Zbf : Nat -> Nat -> DrA
 | 7, _ => ⟨(List.range 5 ++ [8, 9, 10, 11, 15, 16, 17, 18, 5, 6, 7, 12, 13, 14, 19, 20, 21, 22]), [[], [], [], [1, 2], [1, 2, 3], [1, 2, 3, 4], [1, 2, 3, 4, 5], (List.range 7), [], [], [8, 9], [8, 9, 10], [8, 9, 10, 11], [8, 9, 10, 11, 12], (List.range 14), [], [], [15, 16], [15, 16, 17], [15, 16, 17, 18], [15, 16, 17, 18, 19], (List.range 21), (List.range 22)], [], [], [], false, []⟩
 | _, _ => ⟨[], [], [], [], [], false, []⟩
noncomputable def Zbg : List (CE CT Try.prog) := []
noncomputable def ZaT (a : ((List (Zc1)) × (Int) × (Int) × (Int) × Unit) × (Unit)) : Option ((((List (Zc1)) × (Int) × (Int) × (Int) × Unit) × (Unit)) ⊕ ((((List (Zc1)) × (Int) × (Int) × Unit) × (Unit)))) :=
 (Zhg a.1.1 a.1.2.2.1).bind fun e1 =>
 (bif (decide ((a.1.2.2.2.1 : Int) < (e1.parts.length : Int))) then
 (bif (decide ((a.1.2.1 : Int) <= 20000)) then
 (Zhg a.1.1 a.1.2.2.1).bind fun e2 =>
 (Zhg e2.parts a.1.2.2.2.1).bind fun e3 =>
 some (.inl ((a.1.1, (IntKind.i64.wrap (a.1.2.1 + (e3.length : Int))), a.1.2.2.1, (IntKind.i64.wrap (a.1.2.2.2.1 + 1)), ()), ()))
 else
 some (.inr ((a.1.1, a.1.2.1, a.1.2.2.1, ()), ())))
 else
 some (.inr ((a.1.1, a.1.2.1, a.1.2.2.1, ()), ())))
noncomputable def Zbh : LE CT Try.prog := ⟨9, [0, 3, 4, 5], [.one (.sl 6), .one (.int .i64), .one (.int .i64), .one (.int .i64)], [], [⟨.exit 2, [0, 3, 4], [.one (.sl 6), .one (.int .i64), .one (.int .i64)], []⟩], ZaT⟩
noncomputable def ZaU (a : ((List (Zc1)) × (Int) × (Int) × (Int) × Unit) × (Unit)) : Option ((((List (Zc1)) × (Int) × (Int) × (Int) × Unit) × (Unit)) ⊕ ((((List (Zc1)) × (Int) × (Int) × Unit) × (Unit)))) :=
 (Zhg a.1.1 a.1.2.2.1).bind fun e1 =>
 (bif (decide ((a.1.2.2.2.1 : Int) < (e1.names.length : Int))) then
 (bif (decide ((a.1.2.1 : Int) <= 20000)) then
 (Zhg a.1.1 a.1.2.2.1).bind fun e2 =>
 (Zhg e2.names a.1.2.2.2.1).bind fun e3 =>
 some (.inl ((a.1.1, (IntKind.i64.wrap (a.1.2.1 + (e3.length : Int))), a.1.2.2.1, (IntKind.i64.wrap (a.1.2.2.2.1 + 1)), ()), ()))
 else
 some (.inr ((a.1.1, a.1.2.1, a.1.2.2.1, ()), ())))
 else
 some (.inr ((a.1.1, a.1.2.1, a.1.2.2.1, ()), ())))
noncomputable def Zbi : LE CT Try.prog := ⟨13, [0, 3, 4, 6], [.one (.sl 6), .one (.int .i64), .one (.int .i64), .one (.int .i64)], [], [⟨.exit 4, [0, 3, 4], [.one (.sl 6), .one (.int .i64), .one (.int .i64)], []⟩], ZaU⟩
noncomputable def Zbj (a : ((List (Zc1)) × (Int) × (Int) × Unit) × (Unit)) : Option ((((List (Zc1)) × (Int) × (Int) × Unit) × (Unit)) ⊕ ((((Int) × Unit) × (Unit)))) :=
 (bif (decide ((a.1.2.2.1 : Int) < (a.1.1.length : Int))) then
 (bif (decide ((a.1.2.1 : Int) <= 20000)) then
 (Zhg a.1.1 a.1.2.2.1).bind fun e1 =>
 (Zhg a.1.1 a.1.2.2.1).bind fun e2 =>
 (Zhg a.1.1 a.1.2.2.1).bind fun e3 =>
 let y4 : Int := (IntKind.i64.wrap ((IntKind.i64.wrap ((IntKind.i64.wrap (a.1.2.1 + (e1.name.length : Int))) + (e2.names.length : Int))) + (e3.parts.length : Int)))
 (Zco ZaT ((a.1.1, y4, a.1.2.2.1, 0, ()), ())).bind fun b5 =>
 (Zco ZaU ((b5.1.1, b5.1.2.1, b5.1.2.2.1, 0, ()), ())).bind fun b6 =>
 some (.inl ((b6.1.1, b6.1.2.1, (IntKind.i64.wrap (b6.1.2.2.1 + 1)), ()), ()))
 else
 some (.inr ((a.1.2.1, ()), ())))
 else
 some (.inr ((a.1.2.1, ()), ())))
noncomputable def Zbk : LE CT Try.prog := ⟨5, [0, 3, 4], [.one (.sl 6), .one (.int .i64), .one (.int .i64)], [], [⟨.exit 0, [3], [.one (.int .i64)], []⟩], Zbj⟩
noncomputable def Zbl : List (LE CT Try.prog) := [Zbh, Zbi, Zbk]
theorem ZdV : ZsB Zbh (Zqn (Zqn (Zhm Try.f8) 0) 0) := fun A env h k z hk => Zoa (E := Zbh) (Zcx Zbg) (dr := Zbf) (lps := ZgB Zbl) (Ze7 (by kernel_rfl)) (fun a => by kernel_rfl) env h k z hk
theorem ZdW : ZsB Zbi (Zqn (Zqn (Zhm Try.f8) 0) 1) := fun A env h k z hk => Zoa (E := Zbi) (Zcx Zbg) (dr := Zbf) (lps := ZgB Zbl) (Ze7 (by kernel_rfl)) (fun a => by kernel_rfl) env h k z hk
theorem ZdX : ZsB Zbk (Zqn (Zhm Try.f8) 0) := fun A env h k z hk => Zoa (E := Zbk) (Zcx Zbg) (dr := Zbf) (lps := ZgB Zbl) (Zk1 (n := 2) (by kernel_rfl) fun i hi => match i, hi with | 0, _ => Zob (E := Zbh) (by kernel_rfl) ZdV | 1, _ => Zob (E := Zbi) (by kernel_rfl) ZdW) (fun a => by kernel_rfl) env h k z hk
noncomputable def Zcl (x0 : List (Zc1)) : Option ((Bool) × (Unit)) :=
 (bif (decide ((300 : Int) < (x0.length : Int))) then
 some (false, ())
 else
 (Zco Zbj ((x0, 0, 0, ()), ())).bind fun b1 =>
 some ((decide ((b1.1.1 : Int) <= 20000)), ()))
noncomputable def ZeF : CE CT Try.prog where
 f := 8
 args := [.one (.sl 6)]
 hs := []
 res := .val (.one (.bool))
 outs := []
 m := fun d dh => Zcl d.1
 ok := Zn9 Zis Try.func8 (by kernel_rfl) (Zcx Zbg) (dr := Zbf) (lps := ZgB Zbl) (Zjd (Zk1 (n := 1) (by kernel_rfl) fun i hi => match i, hi with | 0, _ => Zob (E := Zbk) (by kernel_rfl) ZdX)) (fun d dh => by kernel_rfl)
def ZfB : Nat -> Nat -> DrA
 | _, _ => ⟨[], [], [], [], [], false, []⟩
noncomputable def ZfC : List (CE CT Try.prog) := []
noncomputable def ZfD : List (LE CT Try.prog) := []
noncomputable def Zc2 (x0 : Int) (x1 : Int) : Option ((Int) × (Unit)) :=
 (bif (decide ((x1 : Int) < 1)) then
 some (0, ())
 else
 (if (x1 : Int) = 0 then none else
 (bif (decide ((((x0 : Int).tmod x1) : Int) < 0)) then
 some ((IntKind.i64.wrap (((x0 : Int).tmod x1) + x1)), ())
 else
 some (((x0 : Int).tmod x1), ()))))
noncomputable def ZfE : CE CT Try.prog where
 f := 17
 args := [.one (.int .i64), .one (.int .i64)]
 hs := []
 res := .val (.one (.int .i64))
 outs := []
 m := fun d dh => Zc2 d.1 d.2.1
 ok := Zn9 Zis Try.func17 (by kernel_rfl) (Zcx ZfC) (dr := ZfB) (lps := ZgB ZfD) (Zjd (Ze7 (by kernel_rfl))) (fun d dh => by kernel_rfl)
end Go.Proofs.Ytinpiaibhjmfaaa
