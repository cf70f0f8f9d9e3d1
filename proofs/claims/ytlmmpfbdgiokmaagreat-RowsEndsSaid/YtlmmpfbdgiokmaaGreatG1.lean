/- Models, by program. -/
import Derived.Test.YtlmmpfbdgiokmaaGreatIn
import Derived.Test.YtlmmpfbdgiokmaaGreatOa
import Derived.Test.YtlmmpfbdgiokmaaGreatTw
import Derived.Test.YtlmmpfbdgiokmaaGreatWr
import Derived.Test.YtlmmpfbdgiokmaaGreatSm
import Derived.Test.YtlmmpfbdgiokmaaGreatFx
import Derived.Test.YtlmmpfbdgiokmaaGreatUn
import Derived.Test.YtlmmpfbdgiokmaaGreatFt
import Derived.Test.YtlmmpfbdgiokmaaGreatAv
namespace Go.Proofs.YtlmmpfbdgiokmaaGreat
open Go.RowKit
set_option maxRecDepth 100000
set_option linter.unusedVariables false
noncomputable def ZuU (x y : List UInt8) : Option (Int × Unit) := some (Lib.compareBytes x y, ())
noncomputable def ZxB : CE CT Tryz.prog where
 f := 137
 args := [.one .str, .one .str]
 hs := []
 res := .val (.one (.int .i64))
 outs := []
 m := fun d dh => ZuU d.1 d.2.1
 ok := fun d dh r hr => by
  unfold ZuU at hr
  injection hr with hr
  subst hr
  exact Zxg Tryz.func137 (by kernel_rfl) (by kernel_rfl) (by kernel_rfl) (by kernel_rfl)
noncomputable def ZuV (n : Nat) (i : Int) (m : Nat × Nat × Nat) (xs ys : List (Zae)) : Option (Nat × (Unit × Unit × List (Zae) × Unit)) :=
 if ZlC n i m.1 m.2.1 m.2.2 xs ys then some (n + m.2.1, ((), (), xs.take i.toNat ++ ys ++ xs.drop i.toNat, ())) else none
noncomputable def ZxC : CE CT Tryz.prog where
 f := 94
 args := [.one (.asz 3 0), .one (.int .i64), .one (.as 3 1)]
 hs := [.arr 48 3 true, .arr 48 3 true]
 res := .val (.one (.asz 3 2))
 outs := [.dead, .dead, .arr 48 3 false]
 m := fun d dh => ZuV d.1 d.2.1 d.2.2.1 dh.1 dh.2.1
 ok := fun d dh r hr => by
  unfold ZuV at hr
  split at hr
  ·rename_i hc
   injection hr with hr
   subst hr
   exact Zxm hc
  ·cases hr
noncomputable def ZuW (n : Nat) (i j : Int) (xs : List (Zae)) : Option (Nat × (Unit × List (Zae) × Unit)) :=
 if ZlD n i j xs then some (n - (j.toNat - i.toNat), ((), xs.take i.toNat ++ xs.drop j.toNat, ())) else none
noncomputable def ZxD : CE CT Tryz.prog where
 f := 49
 args := [.one (.asz 3 0), .one (.int .i64), .one (.int .i64)]
 hs := [.arr 48 3 true]
 res := .val (.one (.asz 3 1))
 outs := [.dead, .arr 48 3 false]
 m := fun d dh => ZuW d.1 d.2.1 d.2.2.1 dh.1
 ok := fun d dh r hr => by
  unfold ZuW at hr
  split at hr
  ·rename_i hc
   injection hr with hr
   subst hr
   exact Zxn hc
  ·cases hr
noncomputable def Zif (v : Nat × Nat × Unit) (xs ys : List (Zae)) : Option (Bool × (Unit × Unit × Unit)) := if v.1 <= xs.length /\ v.2.1 <= ys.length /\ v.1 <= 1000000 /\ v.2.1 <= 1000000 then some (true, ((), (), ())) else none
noncomputable def Zqn : CE CT Tryz.prog where
 f := 15
 args := [.vl [.asz 3 0, .asz 3 1]]
 hs := [.arr 48 3 true, .arr 48 3 true]
 res := .val (.one .bool)
 outs := [.dead, .dead]
 m := fun d dh => Zif d.1 dh.1 dh.2.1
 ok := fun d dh r hr => by
  unfold Zif at hr
  split at hr
  ·rename_i hc
   injection hr with hr
   subst hr
   obtain ⟨h1, h2, h3, h4⟩ := hc
   exact ZzL rfl (mk := fun k i => (CT.enc 3 (ZaF k i)).map avF) (fun k i => ZzK (ZdS.ok (k, i, ()) () (ZaF k i, ()) (Zid k i)) (fun N ρ => .cons (Zat.2 rfl) (.cons (Zat.2 rfl) .none)) (fun N ρ a h => Zie h)) (fun k i => by rw [List.length_map]; exact CT.len _ _) (fun k i => ZhJ k i) (fun k i => ZhK k i)
    h1 h2 h3 h4
  ·cases hr
def Zfm : Nat -> Nat -> DrA
 | 5, _ => ⟨(List.range 6 ++ [10, 11, 12, 13, 6, 7, 8, 9, 14, 15, 16, 17, 18]), [[], [0], [], [], [2, 3], [2, 3, 4], [2, 3, 4, 5], [2, 3, 4, 5, 6], [2, 3, 4, 5, 6, 7], (List.range 9), [], [], [10, 11], [10, 11, 12], [10, 11, 12, 13], [10, 11, 12, 13, 14], [10, 11, 12, 13, 14, 15], (List.range 17), (List.range 18)], [], [], [], false, []⟩
 | _, _ => ⟨[], [], [], [], [], false, []⟩
noncomputable def Zfn : List (CE CT Tryz.prog) := []
noncomputable def Zbi (a : ((List (Zae)) × (Int) × (Int) × (Int) × Unit) × (Unit)) : Option ((((List (Zae)) × (Int) × (Int) × (Int) × Unit) × (Unit)) ⊕ ((((Int) × Unit) × (Unit)))) :=
 (bif (decide ((a.1.2.2.2.1 : Int) < (a.1.1.length : Int))) then
 (bif (decide ((a.1.2.2.1 : Int) <= a.1.2.1)) then
 (Zdg a.1.1 a.1.2.2.2.1).bind fun e1 =>
 (Zdg a.1.1 a.1.2.2.2.1).bind fun e2 =>
 let y3 : Int := (IntKind.i64.wrap ((IntKind.i64.wrap ((IntKind.i64.wrap (a.1.2.2.1 + 1)) + (IntKind.i64.wrap (((e1.key.length : Int) : Int).tdiv 8)))) + (IntKind.i64.wrap (((e2.value.length : Int) : Int).tdiv 8))))
 some (.inl ((a.1.1, a.1.2.1, y3, (IntKind.i64.wrap (a.1.2.2.2.1 + 1)), ()), ()))
 else
 some (.inr ((a.1.2.2.1, ()), ())))
 else
 some (.inr ((a.1.2.2.1, ()), ())))
noncomputable def ZcE : LE CT Tryz.prog := ⟨3, [0, 1, 5, 6], [.one (.sl 3), .one (.int .i64), .one (.int .i64), .one (.int .i64)], [], [⟨.exit 0, [5], [.one (.int .i64)], []⟩], Zbi⟩
noncomputable def Zfo : List (LE CT Tryz.prog) := [ZcE]
theorem Zha : Zh5 ZcE (Zg9 (Zbp Tryz.f23) 0) := fun A env h k z hk => ZdL (E := ZcE) (Zad Zfn) (dr := Zfm) (lps := Zaq Zfo) (Zai (by kernel_rfl)) (fun a => by kernel_rfl) env h k z hk
noncomputable def Zbm (x0 : List (Zae)) (x1 : Int) : Option ((Int) × (Unit)) :=
 (ZaP Zbi ((x0, x1, 0, 0, ()), ())).bind fun b1 =>
 some (b1.1.1, ())
noncomputable def Zfp : CE CT Tryz.prog where
 f := 23
 args := [.one (.sl 3), .one (.int .i64)]
 hs := []
 res := .val (.one (.int .i64))
 outs := []
 m := fun d dh => Zbm d.1 d.2.1
 ok := ZaN Zan Tryz.func23 (by kernel_rfl) (Zad Zfn) (dr := Zfm) (lps := Zaq Zfo) (Zao (Zcd (n := 1) (by kernel_rfl) fun i hi => match i, hi with | 0, _ => ZdM (E := ZcE) (by kernel_rfl) Zha)) (fun d dh => by kernel_rfl)
def Zfq : Nat -> Nat -> DrA
 | 5, _ => ⟨(List.range 5 ++ [8, 9, 10, 11, 12, 17, 18, 19, 20, 21, 5, 13, 14, 15, 22, 23, 24, 6, 7, 16, 25, 26]), [[], [], [], [1, 2], [1, 2, 3], [1, 2, 3, 4], [1, 2, 3, 4, 5], (List.range 7), [], [], [8, 9], [8, 9, 10], [8, 9, 10, 11], [8, 9, 10, 11, 12], [8, 9, 10, 11, 12, 13], [8, 9, 10, 11, 12, 13, 14], (List.range 16), [], [], [17, 18], [17, 18, 19], [17, 18, 19, 20], [17, 18, 19, 20, 21], [17, 18, 19, 20, 21, 22], [17, 18, 19, 20, 21, 22, 23], (List.range 25), (List.range 26)], [13, 22], [6], [], false, []⟩
 | _, _ => ⟨[], [], [], [], [], false, []⟩
noncomputable def Zfr : List (CE CT Tryz.prog) := [Zfp]
noncomputable def ZcF (a : ((List (Zcg)) × (Int) × (Int) × Unit) × (Unit)) : Option ((((List (Zcg)) × (Int) × (Int) × Unit) × (Unit)) ⊕ ((((List (Zcg)) × (Int) × Unit) × (Unit)))) :=
 (bif (decide ((a.1.2.2.1 : Int) < (a.1.1.length : Int))) then
 (bif (decide ((a.1.2.1 : Int) <= 1200)) then
 (Zdg a.1.1 a.1.2.2.1).bind fun e1 =>
 (Zdg a.1.1 a.1.2.2.1).bind fun e2 =>
 (Zdg a.1.1 a.1.2.2.1).bind fun e3 =>
 (Zbm e1.rows 1200).bind fun r4 =>
 let y5 : Int := (IntKind.i64.wrap ((IntKind.i64.wrap ((IntKind.i64.wrap (a.1.2.1 + r4.1)) + (IntKind.i64.wrap (((e2.span.lo.length : Int) : Int).tdiv 8)))) + (IntKind.i64.wrap (((e3.span.hi.length : Int) : Int).tdiv 8))))
 some (.inl ((a.1.1, y5, (IntKind.i64.wrap (a.1.2.2.1 + 1)), ()), ()))
 else
 some (.inr ((a.1.1, a.1.2.1, ()), ())))
 else
 some (.inr ((a.1.1, a.1.2.1, ()), ())))
noncomputable def ZcG : LE CT Tryz.prog := ⟨3, [0, 3, 4], [.one (.sl 6), .one (.int .i64), .one (.int .i64)], [], [⟨.exit 0, [0, 3], [.one (.sl 6), .one (.int .i64)], []⟩], ZcF⟩
noncomputable def Zfs : List (LE CT Tryz.prog) := [ZcG]
theorem Zhb : Zh5 ZcG (Zg9 (Zbp Tryz.f5) 0) := fun A env h k z hk => ZdL (E := ZcG) (Zad Zfr) (dr := Zfq) (lps := Zaq Zfs) (Zai (by kernel_rfl)) (fun a => by kernel_rfl) env h k z hk
noncomputable def Zcx (x0 : List (Zcg)) : Option ((Bool) × (Unit)) :=
 (ZaP ZcF ((x0, (x0.length : Int), 0, ()), ())).bind fun b1 =>
 (bif (decide ((b1.1.2.1 : Int) <= 1200)) then
 some ((decide (((b1.1.1.length : Int) : Int) <= 60)), ())
 else
 some (false, ()))
noncomputable def ZiR : CE CT Tryz.prog where
 f := 5
 args := [.one (.sl 6)]
 hs := []
 res := .val (.one (.bool))
 outs := []
 m := fun d dh => Zcx d.1
 ok := ZaN Zan Tryz.func5 (by kernel_rfl) (Zad Zfr) (dr := Zfq) (lps := Zaq Zfs) (Zao (Zcd (n := 1) (by kernel_rfl) fun i hi => match i, hi with | 0, _ => ZdM (E := ZcG) (by kernel_rfl) Zhb)) (fun d dh => by kernel_rfl)
def ZtC : Nat -> Nat -> DrA
 | _, _ => ⟨[], [], [], [], [], false, []⟩
noncomputable def ZtD : List (CE CT Tryz.prog) := []
noncomputable def ZtE : List (LE CT Tryz.prog) := []
noncomputable def Znx  : Option ((Unit) × (((Nat) × (Bool) × Unit) × (List (Zae)) × Unit)) :=
 some ((), ((0, true, ()), [], ()))
noncomputable def Zlc : CE CT Tryz.prog where
 f := 7
 args := []
 hs := []
 res := .val (.one (.ptr 0 0))
 outs := [.obj 58 [.asz 3 1, .bool], .arr 48 3 false]
 m := fun d dh => Znx
 ok := ZaN Zan Tryz.func7 (by kernel_rfl) (Zad ZtD) (dr := ZtC) (lps := Zaq ZtE) (Zao (Zai (by kernel_rfl))) (fun d dh => by kernel_rfl)
def Zqo : Nat -> Nat -> DrA
 | _, _ => ⟨[], [], [], [], [], false, []⟩
noncomputable def Zqp : List (CE CT Tryz.prog) := []
noncomputable def Zqq : List (LE CT Tryz.prog) := []
noncomputable def Zey (h0 : (Nat) × (Bool) × Unit) (h1 : List (Zae)) : Option ((Bool) × (((Nat) × (Bool) × Unit) × (List (Zae)) × Unit)) :=
 some (h0.2.1, ((h0.1, h0.2.1, ()), h1, ()))
noncomputable def Zdj : CE CT Tryz.prog where
 f := 25
 args := [.one (.ptr 0 0)]
 hs := [.obj 58 [.asz 3 1, .bool], .arr 48 3 true]
 res := .val (.one (.bool))
 outs := [.obj 58 [.asz 3 1, .bool], .arr 48 3 true]
 m := fun d dh => Zey dh.1 dh.2.1
 ok := ZaN Zan Tryz.func25 (by kernel_rfl) (Zad Zqp) (dr := Zqo) (lps := Zaq Zqq) (Zao (Zai (by kernel_rfl))) (fun d dh => by kernel_rfl)
def Zop : Nat -> Nat -> DrA
 | _, _ => ⟨[], [], [], [], [], false, []⟩
noncomputable def Zoq : List (CE CT Tryz.prog) := []
noncomputable def ZiS (a : ((List UInt8) × (Int) × (Int) × Unit) × (Unit)) : Option ((((List UInt8) × (Int) × (Int) × Unit) × (Unit)) ⊕ ((((Bool) × Unit) × (Unit)) ⊕ ((Unit) × (Unit)))) :=
 (bif (decide ((a.1.2.2.1 : Int) < a.1.2.1)) then
 (Zdg a.1.1 a.1.2.2.1).bind fun e1 =>
 (bif (decide ((97 : Int) <= (e1.toNat : Int))) then
 (bif (decide (((e1.toNat : Int) : Int) <= 122)) then
 some (.inl ((a.1.1, a.1.2.1, (IntKind.i64.wrap (a.1.2.2.1 + 1)), ()), ()))
 else
 (bif (decide ((48 : Int) <= (e1.toNat : Int))) then
 (bif (!(decide (((e1.toNat : Int) : Int) <= 57))) then
 some (.inr (.inl ((false, ()), ())))
 else
 some (.inl ((a.1.1, a.1.2.1, (IntKind.i64.wrap (a.1.2.2.1 + 1)), ()), ())))
 else
 some (.inr (.inl ((false, ()), ())))))
 else
 (bif (decide ((48 : Int) <= (e1.toNat : Int))) then
 (bif (!(decide (((e1.toNat : Int) : Int) <= 57))) then
 some (.inr (.inl ((false, ()), ())))
 else
 some (.inl ((a.1.1, a.1.2.1, (IntKind.i64.wrap (a.1.2.2.1 + 1)), ()), ())))
 else
 some (.inr (.inl ((false, ()), ())))))
 else
 some (.inr (.inr ((), ()))))
noncomputable def ZiT : LE CT Tryz.prog := ⟨4, [0, 13, 14], [.one (.str), .one (.int .i64), .one (.int .i64)], [], [⟨.ret, [2], [.one (.bool)], []⟩, ⟨.exit 0, [], [], []⟩], ZiS⟩
noncomputable def Zor : List (LE CT Tryz.prog) := [ZiT]
theorem Zo1 : Zh5 ZiT (Zg9 (Zbp Tryz.f93) 0) := fun A env h k z hk => ZdL (E := ZiT) (Zad Zoq) (dr := Zop) (lps := Zaq Zor) (Zai (by kernel_rfl)) (fun a => by kernel_rfl) env h k z hk
noncomputable def ZiU (x0 : List UInt8) : Option ((Bool) × (Unit)) :=
 (bif (decide (x0 = ([] : List UInt8))) then
 some (false, ())
 else
 (bif (decide ((20 : Int) < (x0.length : Int))) then
 some (false, ())
 else
 (ZaP ZiS ((x0, (x0.length : Int), 0, ()), ())).bind fun b1 =>
 (match b1 with
 | .inl b2 =>
 some (b2.1.1, ())
 | .inr b3 =>
 some (true, ()))))
noncomputable def Zos : CE CT Tryz.prog where
 f := 93
 args := [.one (.str)]
 hs := []
 res := .val (.one (.bool))
 outs := []
 m := fun d dh => ZiU d.1
 ok := ZaN Zan Tryz.func93 (by kernel_rfl) (Zad Zoq) (dr := Zop) (lps := Zaq Zor) (Zao (Zcd (n := 1) (by kernel_rfl) fun i hi => match i, hi with | 0, _ => ZdM (E := ZiT) (by kernel_rfl) Zo1)) (fun d dh => by kernel_rfl)
def Zqr : Nat -> Nat -> DrA
 | _, _ => ⟨[], [], [], [], [], false, []⟩
noncomputable def Zqs : List (CE CT Tryz.prog) := [Zos]
noncomputable def Zqt : List (LE CT Tryz.prog) := []
noncomputable def Zig (x0 : Zae) : Option ((Bool) × (Unit)) :=
 (ZiU x0.key).bind fun r1 =>
 (bif r1.1 then
 some ((decide (((x0.value.length : Int) : Int) <= 20)), ())
 else
 some (false, ()))
noncomputable def ZlG : CE CT Tryz.prog where
 f := 45
 args := [.cod 3]
 hs := []
 res := .val (.one (.bool))
 outs := []
 m := fun d dh => Zig d.1
 ok := ZaN Zan Tryz.func45 (by kernel_rfl) (Zad Zqs) (dr := Zqr) (lps := Zaq Zqt) (Zao (Zai (by kernel_rfl))) (fun d dh => by kernel_rfl)
def ZrM : Nat -> Nat -> DrA
 | _, _ => ⟨[], [], [], [], [], false, []⟩
noncomputable def ZrN : List (CE CT Tryz.prog) := [ZlG]
noncomputable def ZrO : List (LE CT Tryz.prog) := []
noncomputable def ZlH (x0 : Zae) : Option ((Bool) × (Unit)) :=
 (Zig x0).bind fun r1 =>
 some ((!r1.1), ())
noncomputable def ZrP : CE CT Tryz.prog where
 f := 44
 args := [.cod 3]
 hs := []
 res := .val (.one (.bool))
 outs := []
 m := fun d dh => ZlH d.1
 ok := ZaN Zan Tryz.func44 (by kernel_rfl) (Zad ZrN) (dr := ZrM) (lps := Zaq ZrO) (Zao (Zai (by kernel_rfl))) (fun d dh => by kernel_rfl)
def ZgZ : Nat -> Nat -> DrA
 | _, _ => ⟨[], [], [], [], [], false, []⟩
noncomputable def Zg0 : List (CE CT Tryz.prog) := [ZrP]
noncomputable def ZdT (a : ((List (Zae)) × (Unit) × (Int) × (Int) × Unit) × (Unit)) : Option ((((List (Zae)) × (Unit) × (Int) × (Int) × Unit) × (Unit)) ⊕ ((((Int) × Unit) × (Unit)) ⊕ ((Unit) × (Unit)))) :=
 (bif (decide ((a.1.2.2.2.1 : Int) < a.1.2.2.1)) then
 (Zdg a.1.1 a.1.2.2.2.1).bind fun e1 =>
 (ZlH e1).bind fun r2 =>
 (bif r2.1 then
 some (.inr (.inl ((a.1.2.2.2.1, ()), ())))
 else
 some (.inl ((a.1.1, (), a.1.2.2.1, (IntKind.i64.wrap (a.1.2.2.2.1 + 1)), ()), ())))
 else
 some (.inr (.inr ((), ()))))
noncomputable def ZdU : LE CT Tryz.prog := ⟨2, [0, 1, 7, 8], [.one (.sl 3), .one (.fn 44), .one (.int .i64), .one (.int .i64)], [], [⟨.ret, [4], [.one (.int .i64)], []⟩, ⟨.exit 0, [], [], []⟩], ZdT⟩
noncomputable def Zg1 : List (LE CT Tryz.prog) := [ZdU]
theorem Zjz : Zh5 ZdU (Zg9 (Zbp Tryz.f92) 0) := fun A env h k z hk => ZdL (E := ZdU) (Zad Zg0) (dr := ZgZ) (lps := Zaq Zg1) (Zai (by kernel_rfl)) (fun a => by kernel_rfl) env h k z hk
noncomputable def Zgl (x0 : List (Zae)) : Option ((Int) × (Unit)) :=
 (ZaP ZdT ((x0, (), (x0.length : Int), 0, ()), ())).bind fun b1 =>
 (match b1 with
 | .inl b2 =>
 some (b2.1.1, ())
 | .inr b3 =>
 some ((-1), ()))
noncomputable def Zld : CE CT Tryz.prog where
 f := 92
 args := [.one (.sl 3), .one (.fn 44)]
 hs := []
 res := .val (.one (.int .i64))
 outs := []
 m := fun d dh => Zgl d.1
 ok := ZaN Zan Tryz.func92 (by kernel_rfl) (Zad Zg0) (dr := ZgZ) (lps := Zaq Zg1) (Zao (Zcd (n := 1) (by kernel_rfl) fun i hi => match i, hi with | 0, _ => ZdM (E := ZdU) (by kernel_rfl) Zjz)) (fun d dh => by kernel_rfl)
def ZjA : Nat -> Nat -> DrA
 | _, _ => ⟨[], [], [], [], [], false, []⟩
noncomputable def ZjB : List (CE CT Tryz.prog) := [Zld]
noncomputable def ZjC : List (LE CT Tryz.prog) := []
noncomputable def Zc5 (x0 : List (Zae)) : Option ((Bool) × (Unit)) :=
 (Zgl x0).bind fun r1 =>
 some ((decide ((0 : Int) <= r1.1)), ())
noncomputable def ZfF : CE CT Tryz.prog where
 f := 43
 args := [.one (.sl 3), .one (.fn 44)]
 hs := []
 res := .val (.one (.bool))
 outs := []
 m := fun d dh => Zc5 d.1
 ok := ZaN Zan Tryz.func43 (by kernel_rfl) (Zad ZjB) (dr := ZjA) (lps := Zaq ZjC) (Zao (Zai (by kernel_rfl))) (fun d dh => by kernel_rfl)
noncomputable def Zg2 (x0 : Nat) (h0 : List (Zae)) : Option (Nat × (List (Zae) × List (Zae) × Unit)) :=
 if x0 <= h0.length /\ (h0.take x0).length <= 140737488355328 /\ (h0.take x0).length * 32 <= 140737488355328 then some ((h0.take x0).length, (h0, (h0.take x0), ())) else none
noncomputable def Zj3 : CE CT Tryz.prog where
 f := 26
 args := [.one (.asz 3 0)]
 hs := [.arr 48 3 true]
 res := .val (.one (.asz 3 1))
 outs := [.arr 48 3 true, .arr 48 3 false]
 m := fun d dh => Zg2 d.1 dh.1
 ok := fun d dh r hr => by
  unfold Zg2 at hr
  split at hr
  ·rename_i hc
   injection hr with hr
   subst hr
   have hroom := hc.2
   exact Tr.lendArr (fun x => rfl) (U0 := fun _ => True) (Tr.kp0 (ZrF Zan Tryz.func26 (by kernel_rfl) rfl rfl (zv := .agg #[.string ⟨#[]⟩, .string ⟨#[]⟩]) (he := by kernel_rfl) (hsz := by kernel_rfl) (hz := by kernel_rfl) (hby := by kernel_rfl) rfl rfl (zt := ((⟨([] : List UInt8), ([] : List UInt8)⟩ : Zae) : Zae)) (dh.1.take d.1) (by kernel_rfl) hroom)) (ZtA (Nat.le_trans (Nat.le_of_eq (Nat.zero_add _)) hc.1)) rfl
  ·cases hr
def Zih : Nat -> Nat -> DrA
 | _, _ => ⟨[], [], [], [], [], false, []⟩
noncomputable def Zii : List (CE CT Tryz.prog) := [ZxB]
noncomputable def Zij : List (LE CT Tryz.prog) := []
noncomputable def Zeh (x0 : List UInt8) (x1 : List UInt8) : Option ((Int) × (Unit)) :=
 (ZuU x0 x1).bind fun r1 =>
 some (r1.1, ())
noncomputable def Zik : CE CT Tryz.prog where
 f := 101
 args := [.one (.str), .one (.str)]
 hs := []
 res := .val (.one (.int .i64))
 outs := []
 m := fun d dh => Zeh d.1 d.2.1
 ok := ZaN Zan Tryz.func101 (by kernel_rfl) (Zad Zii) (dr := Zih) (lps := Zaq Zij) (Zao (Zai (by kernel_rfl))) (fun d dh => by kernel_rfl)
def ZlI : Nat -> Nat -> DrA
 | _, _ => ⟨[], [], [], [], [], false, []⟩
noncomputable def ZlJ : List (CE CT Tryz.prog) := [Zik]
noncomputable def ZlK : List (LE CT Tryz.prog) := []
noncomputable def Zft (x0 : List UInt8) (x1 : List UInt8) : Option ((Int) × (Unit)) :=
 (Zeh x0 x1).bind fun r1 =>
 some (r1.1, ())
noncomputable def ZlL : CE CT Tryz.prog where
 f := 55
 args := [.one (.str), .one (.str)]
 hs := []
 res := .val (.one (.int .i64))
 outs := []
 m := fun d dh => Zft d.1 d.2.1
 ok := ZaN Zan Tryz.func55 (by kernel_rfl) (Zad ZlJ) (dr := ZlI) (lps := Zaq ZlK) (Zao (Zai (by kernel_rfl))) (fun d dh => by kernel_rfl)
def ZtF : Nat -> Nat -> DrA
 | _, _ => ⟨[], [], [], [], [], false, []⟩
noncomputable def ZtG : List (CE CT Tryz.prog) := [ZlL]
noncomputable def ZtH : List (LE CT Tryz.prog) := []
noncomputable def ZlM (x0 : Zae) (x1 : List UInt8) : Option ((Int) × (Unit)) :=
 (Zft x0.key x1).bind fun r1 =>
 some (r1.1, ())
noncomputable def ZtI : CE CT Tryz.prog where
 f := 54
 args := [.cod 3, .one (.str)]
 hs := []
 res := .val (.one (.int .i64))
 outs := []
 m := fun d dh => ZlM d.1 d.2.1
 ok := ZaN Zan Tryz.func54 (by kernel_rfl) (Zad ZtG) (dr := ZtF) (lps := Zaq ZtH) (Zao (Zai (by kernel_rfl))) (fun d dh => by kernel_rfl)
def ZeB : Nat -> Nat -> DrA
 | _, _ => ⟨[], [], [], [], [], false, []⟩
noncomputable def ZeC : List (CE CT Tryz.prog) := [ZtI]
noncomputable def ZbT (a : ((Nat) × (List UInt8) × (Unit) × (Int) × (Int) × (Int) × Unit) × ((List (Zae)) × Unit)) : Option ((((Nat) × (List UInt8) × (Unit) × (Int) × (Int) × (Int) × Unit) × ((List (Zae)) × Unit)) ⊕ ((((Nat) × (List UInt8) × (Unit) × (Int) × (Int) × Unit) × ((List (Zae)) × Unit)))) :=
 (bif (decide ((a.1.2.2.2.2.1 : Int) < a.1.2.2.2.2.2.1)) then
 let y1 : Int := (IntKind.i64.wrap (((IntKind.u64.wrap (IntKind.i64.wrap (a.1.2.2.2.2.1 + a.1.2.2.2.2.2.1))) : Int).fdiv (2 ^ min (1 : Int).toNat (IntKind.u64.bits))))
 (if 0 <= (y1 : Int) /\ (y1 : Int) < ((a.1.1 : Nat) : Int) then
 (a.2.1[(0 + (y1 : Int).toNat)]?).bind fun e2 =>
 (ZlM e2 a.1.2.1).bind fun r3 =>
 (bif (decide ((r3.1 : Int) < 0)) then
 some (.inl ((a.1.1, a.1.2.1, (), a.1.2.2.2.1, (IntKind.i64.wrap (y1 + 1)), a.1.2.2.2.2.2.1, ()), (a.2.1, ())))
 else
 some (.inl ((a.1.1, a.1.2.1, (), a.1.2.2.2.1, a.1.2.2.2.2.1, y1, ()), (a.2.1, ()))))
 else none)
 else
 some (.inr ((a.1.1, a.1.2.1, (), a.1.2.2.2.1, a.1.2.2.2.2.1, ()), (a.2.1, ()))))
noncomputable def ZbU : LE CT Tryz.prog := ⟨3, [0, 1, 2, 8, 9, 10], [.one (.asz 3 0), .one (.str), .one (.fn 54), .one (.int .i64), .one (.int .i64), .one (.int .i64)], [.arr 48 3 true], [⟨.exit 0, [0, 1, 2, 8, 9], [.one (.asz 3 0), .one (.str), .one (.fn 54), .one (.int .i64), .one (.int .i64)], [.arr 48 3 true]⟩], ZbT⟩
noncomputable def ZeD : List (LE CT Tryz.prog) := [ZbU]
theorem Zgm : Zh5 ZbU (Zg9 (Zbp Tryz.f53) 0) := fun A env h k z hk => ZdL (E := ZbU) (Zad ZeC) (dr := ZeB) (lps := Zaq ZeD) (Zai (by kernel_rfl)) (fun a => by kernel_rfl) env h k z hk
noncomputable def ZbA (x0 : Nat) (x1 : List UInt8) (h0 : List (Zae)) : Option (((Int) × (Bool) × Unit) × ((List (Zae)) × Unit)) :=
 (ZaP ZbT ((x0, x1, (), ((x0 : Nat) : Int), 0, ((x0 : Nat) : Int), ()), (h0, ()))).bind fun b1 =>
 (bif (decide ((b1.1.2.2.2.2.1 : Int) < b1.1.2.2.2.1)) then
 (if 0 <= (b1.1.2.2.2.2.1 : Int) /\ (b1.1.2.2.2.2.1 : Int) < ((b1.1.1 : Nat) : Int) then
 (b1.2.1[(0 + (b1.1.2.2.2.2.1 : Int).toNat)]?).bind fun e2 =>
 (ZlM e2 b1.1.2.1).bind fun r3 =>
 some ((b1.1.2.2.2.2.1, (decide ((r3.1 : Int) = 0)), ()), (b1.2.1, ()))
 else none)
 else
 some ((b1.1.2.2.2.2.1, false, ()), (b1.2.1, ())))
noncomputable def ZeE : CE CT Tryz.prog where
 f := 53
 args := [.one (.asz 3 0), .one (.str), .one (.fn 54)]
 hs := [.arr 48 3 true]
 res := .tup [.one (.int .i64), .one (.bool)]
 outs := [.arr 48 3 true]
 m := fun d dh => ZbA d.1 d.2.1 dh.1
 ok := ZaN Zan Tryz.func53 (by kernel_rfl) (Zad ZeC) (dr := ZeB) (lps := Zaq ZeD) (Zao (Zcd (n := 1) (by kernel_rfl) fun i hi => match i, hi with | 0, _ => ZdM (E := ZbU) (by kernel_rfl) Zgm)) (fun d dh => by kernel_rfl)
def ZvP : Nat -> Nat -> DrA
 | _, _ => ⟨[], [], [], [], [], false, []⟩
noncomputable def ZvQ : List (CE CT Tryz.prog) := [ZeE]
noncomputable def ZvR : List (LE CT Tryz.prog) := []
noncomputable def Zqu (x1 : List UInt8) (h0 : (Nat) × Unit) (h1 : List (Zae)) : Option (((Int) × (Bool) × Unit) × (((Nat) × Unit) × (List (Zae)) × Unit)) :=
 (ZbA h0.1 x1 h1).bind fun r1 =>
 some ((r1.1.1, r1.1.2.1, ()), ((h0.1, ()), r1.2.1, ()))
noncomputable def ZvS : CE CT Tryz.prog where
 f := 31
 args := [.one (.ptr 0 0), .one (.str)]
 hs := [.obj 56 [.asz 3 1], .arr 48 3 true]
 res := .tup [.one (.int .i64), .one (.bool)]
 outs := [.obj 56 [.asz 3 1], .arr 48 3 true]
 m := fun d dh => Zqu d.2.1 dh.1 dh.2.1
 ok := ZaN Zan Tryz.func31 (by kernel_rfl) (Zad ZvQ) (dr := ZvP) (lps := Zaq ZvR) (Zao (Zai (by kernel_rfl))) (fun d dh => by kernel_rfl)
def ZtJ : Nat -> Nat -> DrA
 | 3, _ => ⟨[0, 1, 2, 4, 3, 5, 6, 7], [[], [0], [0, 1], [0, 1, 2], [], [], (List.range 6), (List.range 7)], [], [], [], false, []⟩
 | 4, _ => ⟨[0, 1, 2, 3, 5, 4, 6, 7, 8, 9, 10, 11], [[], [], [1], [1, 2], [1, 2, 3], [], [], [6], [1, 2, 3, 4, 5, 6, 7], (List.range 9), (List.range 10), (List.range 11)], [], [], [], false, [7]⟩
 | _, _ => ⟨[], [], [], [], [], false, []⟩
noncomputable def ZtK : List (CE CT Tryz.prog) := [ZvS, ZxC]
noncomputable def ZtL : List (LE CT Tryz.prog) := []
noncomputable def Zny (x1 : Zae) (h0 : (Nat) × Unit) (h1 : List (Zae)) : Option ((Unit) × (((Nat) × Unit) × (Unit) × (List (Zae)) × Unit)) :=
 (Zqu x1.key (h0.1, ()) h1).bind fun r1 =>
 (bif r1.1.2.1 then
 (if 0 <= (r1.1.1 : Int) /\ (r1.1.1 : Int) < ((r1.2.1.1 : Nat) : Int) then
 (r1.2.2.1[(0 + (r1.1.1 : Int).toNat)]?).bind fun e2 =>
 some ((), ((r1.2.1.1, ()), (), (r1.2.2.1.set (0 + (r1.1.1 : Int).toNat) x1), ()))
 else none)
 else
 (ZuV r1.2.1.1 r1.1.1 (0, 1, 1) r1.2.2.1 ([x1] : List (Zae))).bind fun r3 =>
 some ((), ((r3.1, ()), (), r3.2.2.2.1, ())))
noncomputable def ZtM : CE CT Tryz.prog where
 f := 46
 args := [.one (.ptr 0 0), .cod 3]
 hs := [.obj 56 [.asz 3 1], .arr 48 3 false]
 res := .tup []
 outs := [.obj 56 [.asz 3 2], .dead, .arr 48 3 false]
 m := fun d dh => Zny d.2.1 dh.1 dh.2.1
 ok := ZaN Zan Tryz.func46 (by kernel_rfl) (Zad ZtK) (dr := ZtJ) (lps := Zaq ZtL) (Zao (Zai (by kernel_rfl))) (fun d dh => by kernel_rfl)
def Zot : Nat -> Nat -> DrA
 | _, _ => ⟨[], [], [], [], [], false, []⟩
noncomputable def Zou : List (CE CT Tryz.prog) := [Zdj, ZfF, Zj3, ZtM]
noncomputable def Zg3 (a : ((Unit) × (Unit) × (List (Zae)) × (Int) × (Int) × Unit) × (((Nat) × (Bool) × Unit) × ((Nat) × Unit) × (List (Zae)) × (List (Zae)) × Unit)) : Option ((((Unit) × (Unit) × (List (Zae)) × (Int) × (Int) × Unit) × (((Nat) × (Bool) × Unit) × ((Nat) × Unit) × (List (Zae)) × (List (Zae)) × Unit)) ⊕ ((((Unit) × (Unit) × Unit) × (((Nat) × (Bool) × Unit) × ((Nat) × Unit) × (Unit) × (Unit) × (List (Zae)) × (List (Zae)) × Unit)))) :=
 (bif (decide ((a.1.2.2.2.2.1 : Int) < a.1.2.2.2.1)) then
 (Zdg a.1.2.2.1 a.1.2.2.2.2.1).bind fun e1 =>
 (Zny e1 (a.2.2.1.1, ()) a.2.2.2.2.1).bind fun r2 =>
 some (.inl (((), (), a.1.2.2.1, a.1.2.2.2.1, (IntKind.i64.wrap (a.1.2.2.2.2.1 + 1)), ()), ((a.2.1.1, a.2.1.2.1, ()), (r2.2.1.1, ()), a.2.2.2.1, r2.2.2.2.1, ())))
 else
 some (.inr (((), (), ()), ((a.2.1.1, a.2.1.2.1, ()), (a.2.2.1.1, ()), (), (), a.2.2.2.1, a.2.2.2.2.1, ()))))
noncomputable def ZiV : LE CT Tryz.prog := ⟨7, [0, 5, 22, 23, 24], [.one (.ptr 0 0), .one (.ptr 1 0), .one (.sl 3), .one (.int .i64), .one (.int .i64)], [.obj 58 [.asz 3 2, .bool], .obj 56 [.asz 3 3], .arr 48 3 false, .arr 48 3 false], [⟨.exit 1, [0, 5], [.one (.ptr 0 0), .one (.ptr 1 0)], [.obj 58 [.asz 3 4, .bool], .obj 56 [.asz 3 5], .dead, .dead, .arr 48 3 false, .arr 48 3 false]⟩], Zg3⟩
noncomputable def Zov : List (LE CT Tryz.prog) := [ZiV]
theorem Zo2 : Zh5 ZiV (Zg9 (Zbp Tryz.f18) 0) := fun A env h k z hk => ZdL (E := ZiV) (Zad Zou) (dr := Zot) (lps := Zaq Zov) (Zai (by kernel_rfl)) (fun a => by kernel_rfl) env h k z hk
noncomputable def ZfT (x1 : List (Zae)) (h0 : (Nat) × (Bool) × Unit) (h1 : List (Zae)) : Option ((Int) × (((Nat) × (Bool) × Unit) × (Unit) × (List (Zae)) × Unit)) :=
 (Zey (h0.1, h0.2.1, ()) h1).bind fun r1 =>
 (bif (!r1.1) then
 some (1, ((r1.2.1.1, r1.2.1.2.1, ()), (), r1.2.2.1, ()))
 else
 (Zc5 x1).bind fun r2 =>
 (bif r2.1 then
 some (2, ((r1.2.1.1, r1.2.1.2.1, ()), (), r1.2.2.1, ()))
 else
 (Zg2 r1.2.1.1 r1.2.2.1).bind fun r3 =>
 (ZaP Zg3 (((), (), x1, (x1.length : Int), 0, ()), ((r1.2.1.1, r1.2.1.2.1, ()), (r3.1, ()), r3.2.1, r3.2.2.1, ()))).bind fun b4 =>
 (bif (decide ((400 : Int) < ((b4.2.2.1.1 : Nat) : Int))) then
 some (8, ((b4.2.1.1, b4.2.1.2.1, ()), (), b4.2.2.2.2.2.1, ()))
 else
 some (0, ((b4.2.2.1.1, b4.2.1.2.1, ()), (), b4.2.2.2.2.2.2.1, ())))))
noncomputable def Zle : CE CT Tryz.prog where
 f := 18
 args := [.one (.ptr 0 0), .one (.sl 3)]
 hs := [.obj 58 [.asz 3 1, .bool], .arr 48 3 false]
 res := .val (.one (.int .i64))
 outs := [.obj 58 [.asz 3 2, .bool], .dead, .arr 48 3 false]
 m := fun d dh => ZfT d.2.1 dh.1 dh.2.1
 ok := ZaN Zan Tryz.func18 (by kernel_rfl) (Zad Zou) (dr := Zot) (lps := Zaq Zov) (Zao (Zcd (n := 1) (by kernel_rfl) fun i hi => match i, hi with | 0, _ => ZdM (E := ZiV) (by kernel_rfl) Zo2)) (fun d dh => by kernel_rfl)
def ZrQ : Nat -> Nat -> DrA
 | 1, _ => ⟨[0, 4, 1, 2, 3, 5, 6, 7, 8, 9], [[], [0], [0, 1], [0, 1, 2], [], [4], [4, 5], [4, 5, 6], [0, 1, 2, 3], (List.range 9)], [5], [8], [0], false, []⟩
 | _, _ => ⟨[], [], [], [], [], false, []⟩
noncomputable def ZrR : List (CE CT Tryz.prog) := []
noncomputable def ZrS : List (LE CT Tryz.prog) := []
noncomputable def Zow (x0 : Za5) : Option (((ZDC) × (ZyO) × Unit) × (Unit)) :=
 some (((⟨(⟨x0.lo⟩ : Zqd)⟩ : ZDC), (⟨(⟨x0.hi⟩ : Zqd)⟩ : ZyO), ()), ())
noncomputable def ZrT : CE CT Tryz.prog where
 f := 125
 args := [.cod 4]
 hs := []
 res := .tup [.cod 8, .cod 9]
 outs := []
 m := fun d dh => Zow d.1
 ok := ZaN Zan Tryz.func125 (by kernel_rfl) (Zad ZrR) (dr := ZrQ) (lps := Zaq ZrS) (Zao (Zai (by kernel_rfl))) (fun d dh => by kernel_rfl)
def ZrU : Nat -> Nat -> DrA
 | _, _ => ⟨[], [], [], [], [], false, []⟩
noncomputable def ZrV : List (CE CT Tryz.prog) := []
noncomputable def ZrW : List (LE CT Tryz.prog) := []
noncomputable def Zg4 (x0 : Zqd) : Option ((Bool) × (Unit)) :=
 some ((decide (x0.s = ([] : List UInt8))), ())
noncomputable def ZmS : CE CT Tryz.prog where
 f := 126
 args := [.cod 7]
 hs := []
 res := .val (.one (.bool))
 outs := []
 m := fun d dh => Zg4 d.1
 ok := ZaN Zan Tryz.func126 (by kernel_rfl) (Zad ZrV) (dr := ZrU) (lps := Zaq ZrW) (Zao (Zai (by kernel_rfl))) (fun d dh => by kernel_rfl)
def ZrX : Nat -> Nat -> DrA
 | _, _ => ⟨[], [], [], [], [], false, []⟩
noncomputable def ZrY : List (CE CT Tryz.prog) := []
noncomputable def ZrZ : List (LE CT Tryz.prog) := []
noncomputable def ZlN (x0 : List UInt8) : Option ((Bool) × (Unit)) :=
 some ((decide (x0 ≠ x0)), ())
noncomputable def Zr0 : CE CT Tryz.prog where
 f := 148
 args := [.one (.str)]
 hs := []
 res := .val (.one (.bool))
 outs := []
 m := fun d dh => ZlN d.1
 ok := ZaN Zan Tryz.func148 (by kernel_rfl) (Zad ZrY) (dr := ZrX) (lps := Zaq ZrZ) (Zao (Zai (by kernel_rfl))) (fun d dh => by kernel_rfl)
def Zo3 : Nat -> Nat -> DrA
 | _, _ => ⟨[], [], [], [], [], false, []⟩
noncomputable def Zo4 : List (CE CT Tryz.prog) := [Zr0]
noncomputable def Zo5 : List (LE CT Tryz.prog) := []
noncomputable def Zlf (x0 : List UInt8) (x1 : List UInt8) : Option ((Int) × (Unit)) :=
 (ZlN x0).bind fun r1 =>
 (ZlN x1).bind fun r2 =>
 (bif r1.1 then
 (bif r2.1 then
 some (0, ())
 else
 some ((-1), ()))
 else
 (bif r2.1 then
 some (1, ())
 else
 (bif (decide (x0 < x1)) then
 some ((-1), ())
 else
 (bif (!(decide (x0 < x1) || decide (x0 = x1))) then
 some (1, ())
 else
 some (0, ())))))
noncomputable def Zo6 : CE CT Tryz.prog where
 f := 146
 args := [.one (.str), .one (.str)]
 hs := []
 res := .val (.one (.int .i64))
 outs := []
 m := fun d dh => Zlf d.1 d.2.1
 ok := ZaN Zan Tryz.func146 (by kernel_rfl) (Zad Zo4) (dr := Zo3) (lps := Zaq Zo5) (Zao (Zai (by kernel_rfl))) (fun d dh => by kernel_rfl)
def Zox : Nat -> Nat -> DrA
 | _, _ => ⟨[], [], [], [], [], false, []⟩
noncomputable def Zoy : List (CE CT Tryz.prog) := [Zo6]
noncomputable def Zoz : List (LE CT Tryz.prog) := []
noncomputable def ZhB (x0 : Zqd) (x1 : Zqd) : Option ((Int) × (Unit)) :=
 (Zlf x0.s x1.s).bind fun r1 =>
 some (r1.1, ())
noncomputable def ZoA : CE CT Tryz.prog where
 f := 143
 args := [.cod 7, .cod 7]
 hs := []
 res := .val (.one (.int .i64))
 outs := []
 m := fun d dh => ZhB d.1 d.2.1
 ok := ZaN Zan Tryz.func143 (by kernel_rfl) (Zad Zoy) (dr := Zox) (lps := Zaq Zoz) (Zao (Zai (by kernel_rfl))) (fun d dh => by kernel_rfl)
def Zqv : Nat -> Nat -> DrA
 | _, _ => ⟨[], [], [], [], [], false, []⟩
noncomputable def Zqw : List (CE CT Tryz.prog) := [ZmS, ZoA]
noncomputable def Zqx : List (LE CT Tryz.prog) := []
noncomputable def ZfQ (x0 : ZyO) (x1 : Zqd) : Option ((Bool) × (Unit)) :=
 (Zg4 x0.text).bind fun r1 =>
 (bif r1.1 then
 some (true, ())
 else
 (ZhB x0.text x1).bind fun r2 =>
 some ((decide ((0 : Int) < r2.1)), ()))
noncomputable def Zqy : CE CT Tryz.prog where
 f := 127
 args := [.cod 9, .cod 7]
 hs := []
 res := .val (.one (.bool))
 outs := []
 m := fun d dh => ZfQ d.1 d.2.1
 ok := ZaN Zan Tryz.func127 (by kernel_rfl) (Zad Zqw) (dr := Zqv) (lps := Zaq Zqx) (Zao (Zai (by kernel_rfl))) (fun d dh => by kernel_rfl)
def Zqz : Nat -> Nat -> DrA
 | _, _ => ⟨[], [], [], [], [], false, []⟩
noncomputable def ZqA : List (CE CT Tryz.prog) := [ZrT, ZmS, Zqy, Zos]
noncomputable def ZqB : List (LE CT Tryz.prog) := []
noncomputable def Zkz (x0 : Za5) : Option ((Bool) × (Unit)) :=
 (Zow x0).bind fun r1 =>
 (Zg4 r1.1.1.text).bind fun r2 =>
 (bif r2.1 then
 (Zg4 r1.1.2.1.text).bind fun r3 =>
 (bif r3.1 then
 (ZfQ r1.1.2.1 r1.1.1.text).bind fun r4 =>
 some (r4.1, ())
 else
 (ZiU x0.hi).bind fun r5 =>
 (bif r5.1 then
 (ZfQ r1.1.2.1 r1.1.1.text).bind fun r6 =>
 some (r6.1, ())
 else
 some (false, ())))
 else
 (ZiU x0.lo).bind fun r7 =>
 (bif r7.1 then
 (Zg4 r1.1.2.1.text).bind fun r8 =>
 (bif r8.1 then
 (ZfQ r1.1.2.1 r1.1.1.text).bind fun r9 =>
 some (r9.1, ())
 else
 (ZiU x0.hi).bind fun r10 =>
 (bif r10.1 then
 (ZfQ r1.1.2.1 r1.1.1.text).bind fun r11 =>
 some (r11.1, ())
 else
 some (false, ())))
 else
 some (false, ())))
noncomputable def ZqC : CE CT Tryz.prog where
 f := 78
 args := [.cod 4]
 hs := []
 res := .val (.one (.bool))
 outs := []
 m := fun d dh => Zkz d.1
 ok := ZaN Zan Tryz.func78 (by kernel_rfl) (Zad ZqA) (dr := Zqz) (lps := Zaq ZqB) (Zao (Zai (by kernel_rfl))) (fun d dh => by kernel_rfl)
def Zr1 : Nat -> Nat -> DrA
 | _, _ => ⟨[], [], [], [], [], false, []⟩
noncomputable def Zr2 : List (CE CT Tryz.prog) := [ZeE]
noncomputable def Zr3 : List (LE CT Tryz.prog) := []
noncomputable def Zil (x1 : List UInt8) (h0 : (Nat) × (Bool) × Unit) (h1 : List (Zae)) : Option (((Int) × (Bool) × Unit) × (((Nat) × (Bool) × Unit) × (List (Zae)) × Unit)) :=
 (ZbA h0.1 x1 h1).bind fun r1 =>
 some ((r1.1.1, r1.1.2.1, ()), ((h0.1, h0.2.1, ()), r1.2.1, ()))
noncomputable def ZmT : CE CT Tryz.prog where
 f := 31
 args := [.one (.ptr 0 0), .one (.str)]
 hs := [.obj 58 [.asz 3 1, .bool], .arr 48 3 true]
 res := .tup [.one (.int .i64), .one (.bool)]
 outs := [.obj 58 [.asz 3 1, .bool], .arr 48 3 true]
 m := fun d dh => Zil d.2.1 dh.1 dh.2.1
 ok := ZaN Zan Tryz.func31 (by kernel_rfl) (Zad Zr2) (dr := Zr1) (lps := Zaq Zr3) (Zao (Zai (by kernel_rfl))) (fun d dh => by kernel_rfl)
def Zo7 : Nat -> Nat -> DrA
 | _, _ => ⟨[], [], [], [], [], false, []⟩
noncomputable def Zo8 : List (CE CT Tryz.prog) := [ZqC, ZmT]
noncomputable def Zo9 : List (LE CT Tryz.prog) := []
noncomputable def ZfR (x1 : Za5) (h0 : (Nat) × (Bool) × Unit) (h1 : List (Zae)) : Option (((Int) × (Int) × Unit) × (((Nat) × (Bool) × Unit) × (List (Zae)) × Unit)) :=
 (Zkz x1).bind fun r1 =>
 (bif (!r1.1) then
 some ((0, 0, ()), ((h0.1, h0.2.1, ()), h1, ()))
 else
 (Zil x1.lo (h0.1, h0.2.1, ()) h1).bind fun r2 =>
 (bif (decide (x1.hi ≠ ([] : List UInt8))) then
 (Zil x1.hi (r2.2.1.1, r2.2.1.2.1, ()) r2.2.2.1).bind fun r3 =>
 some ((r2.1.1, r3.1.1, ()), ((r3.2.1.1, r3.2.1.2.1, ()), r3.2.2.1, ()))
 else
 some ((r2.1.1, ((r2.2.1.1 : Nat) : Int), ()), ((r2.2.1.1, r2.2.1.2.1, ()), r2.2.2.1, ()))))
noncomputable def ZhL : CE CT Tryz.prog where
 f := 34
 args := [.one (.ptr 0 0), .cod 4]
 hs := [.obj 58 [.asz 3 1, .bool], .arr 48 3 true]
 res := .tup [.one (.int .i64), .one (.int .i64)]
 outs := [.obj 58 [.asz 3 1, .bool], .arr 48 3 true]
 m := fun d dh => ZfR d.2.1 dh.1 dh.2.1
 ok := ZaN Zan Tryz.func34 (by kernel_rfl) (Zad Zo8) (dr := Zo7) (lps := Zaq Zo9) (Zao (Zai (by kernel_rfl))) (fun d dh => by kernel_rfl)
noncomputable def ZlO (x0 : Nat × Nat) (h0 : List (Zae)) : Option (List (Zae) × (List (Zae) × Unit × Unit)) :=
 if x0.1 + x0.2 <= h0.length /\ ((h0.drop x0.1).take x0.2).length <= 140737488355328 /\ ((h0.drop x0.1).take x0.2).length * 32 <= 140737488355328 then some (((h0.drop x0.1).take x0.2), (h0, (), ())) else none
noncomputable def Zr4 : CE CT Tryz.prog where
 f := 26
 args := [.one (.asu 3 0)]
 hs := [.arr 48 3 true]
 res := .val (.one (.own 3 1))
 outs := [.arr 48 3 true, .row 48 2]
 m := fun d dh => ZlO d.1 dh.1
 ok := fun d dh r hr => by
  unfold ZlO at hr
  split at hr
  ·rename_i hc
   injection hr with hr
   subst hr
   have hroom := hc.2
   exact Tr.lendRow (fun x => rfl) rfl (U0 := fun _ => True) (ZuJ Zan Tryz.func26 (by kernel_rfl) rfl rfl (zv := .agg #[.string ⟨#[]⟩, .string ⟨#[]⟩]) (he := by kernel_rfl) (hsz := by kernel_rfl) (hz := by kernel_rfl) (hby := by kernel_rfl) rfl rfl ((dh.1.drop d.1.1).take d.1.2) hroom) (ZtA (Nat.le_trans (Nat.le_of_eq rfl) hc.1))
  ·cases hr
def ZvT : Nat -> Nat -> DrA
 | 3, _ => ⟨(List.range 10), [[], [0], [0, 1], [], [0, 1, 2, 3], (List.range 5), (List.range 6), (List.range 6), (List.range 7), (List.range 9)], [], [], [], false, []⟩
 | _, _ => ⟨[], [], [], [], [], false, []⟩
noncomputable def ZvU : List (CE CT Tryz.prog) := [Zdj, ZhL, Zr4]
noncomputable def ZvV : List (LE CT Tryz.prog) := []
noncomputable def Zj4 (x1 : Za5) (h0 : (Nat) × (Bool) × Unit) (h1 : List (Zae)) : Option ((List (Zae)) × (((Nat) × (Bool) × Unit) × (List (Zae)) × (Unit) × Unit)) :=
 (Zey (h0.1, h0.2.1, ()) h1).bind fun r1 =>
 (bif (!r1.1) then
 some ([], ((r1.2.1.1, r1.2.1.2.1, ()), r1.2.2.1, (), ()))
 else
 (ZfR x1 (r1.2.1.1, r1.2.1.2.1, ()) r1.2.2.1).bind fun r2 =>
 (if 0 <= ((r2.1.1 : Int) : Int) /\ ((r2.1.1 : Int) : Int) <= (r2.1.2.1 : Int) /\ (r2.1.2.1 : Int) <= ((r2.2.1.1 : Nat) : Int) /\ (r2.1.2.1 : Int) <= 140737488355328 then
 (ZlO ((0 + (r2.1.1 : Int).toNat), ((r2.1.2.1 : Int).toNat - (r2.1.1 : Int).toNat)) r2.2.2.1).bind fun r3 =>
 some (r3.1, ((r2.2.1.1, r2.2.1.2.1, ()), r3.2.1, (), ()))
 else none))
noncomputable def Zim : CE CT Tryz.prog where
 f := 16
 args := [.one (.ptr 0 0), .cod 4]
 hs := [.obj 58 [.asz 3 1, .bool], .arr 48 3 true]
 res := .val (.one (.own 3 2))
 outs := [.obj 58 [.asz 3 1, .bool], .arr 48 3 true, .row 48 2]
 m := fun d dh => Zj4 d.2.1 dh.1 dh.2.1
 ok := ZaN Zan Tryz.func16 (by kernel_rfl) (Zad ZvU) (dr := ZvT) (lps := Zaq ZvV) (Zao (Zai (by kernel_rfl))) (fun d dh => by kernel_rfl)
def Zr5 : Nat -> Nat -> DrA
 | 3, _ => ⟨(List.range 10), [[], [0], [0, 1], [], [0, 1, 2, 3], (List.range 5), (List.range 6), (List.range 6), (List.range 7), (List.range 9)], [], [], [], false, []⟩
 | _, _ => ⟨[], [], [], [], [], false, []⟩
noncomputable def Zr6 : List (CE CT Tryz.prog) := [Zim, Zdj, ZhL, ZxD]
noncomputable def Zr7 : List (LE CT Tryz.prog) := []
noncomputable def Zin (x1 : Za5) (h0 : (Nat) × (Bool) × Unit) (h1 : List (Zae)) : Option ((List (Zae)) × (((Nat) × (Bool) × Unit) × (Unit) × (Unit) × (List (Zae)) × Unit)) :=
 (Zj4 x1 (h0.1, h0.2.1, ()) h1).bind fun r1 =>
 (Zey (r1.2.1.1, r1.2.1.2.1, ()) r1.2.2.1).bind fun r2 =>
 (bif r2.1 then
 (ZfR x1 (r2.2.1.1, r2.2.1.2.1, ()) r2.2.2.1).bind fun r3 =>
 (ZuW r3.2.1.1 r3.1.1 r3.1.2.1 r3.2.2.1).bind fun r4 =>
 some (r1.1, ((r4.1, r3.2.1.2.1, ()), (), (), r4.2.2.1, ()))
 else
 some (r1.1, ((r2.2.1.1, r2.2.1.2.1, ()), (), (), r2.2.2.1, ())))
noncomputable def Zj5 : CE CT Tryz.prog where
 f := 21
 args := [.one (.ptr 0 0), .cod 4]
 hs := [.obj 58 [.asz 3 1, .bool], .arr 48 3 false]
 res := .val (.one (.own 3 2))
 outs := [.obj 58 [.asz 3 3, .bool], .dead, .row 48 2, .arr 48 3 false]
 m := fun d dh => Zin d.2.1 dh.1 dh.2.1
 ok := ZaN Zan Tryz.func21 (by kernel_rfl) (Zad Zr6) (dr := Zr5) (lps := Zaq Zr7) (Zao (Zai (by kernel_rfl))) (fun d dh => by kernel_rfl)
def ZeM : Nat -> Nat -> DrA
 | 6, _ => ⟨[0, 1, 2, 4, 5, 6, 3, 7, 8], [[], [], [0, 1], [0, 1, 2], [], [], [4, 5], [4, 5, 6], (List.range 8)], [], [], [], false, []⟩
 | _, _ => ⟨[], [], [], [], [], false, []⟩
noncomputable def ZeN : List (CE CT Tryz.prog) := []
noncomputable def Za7 (a : ((List (Zae)) × (List (Zae)) × (Int) × Unit) × (Unit)) : Option ((((List (Zae)) × (List (Zae)) × (Int) × Unit) × (Unit)) ⊕ ((((Bool) × Unit) × (Unit)) ⊕ ((Unit) × (Unit)))) :=
 (bif (decide ((a.1.2.2.1 : Int) < (a.1.1.length : Int))) then
 (Zdg a.1.1 a.1.2.2.1).bind fun e1 =>
 (Zdg a.1.2.1 a.1.2.2.1).bind fun e2 =>
 (bif (!(decide (e1.key = e2.key) && (decide (e1.value = e2.value) && true))) then
 some (.inr (.inl ((false, ()), ())))
 else
 some (.inl ((a.1.1, a.1.2.1, (IntKind.i64.wrap (a.1.2.2.1 + 1)), ()), ())))
 else
 some (.inr (.inr ((), ()))))
noncomputable def Zcj : LE CT Tryz.prog := ⟨4, [0, 1, 5], [.one (.sl 3), .one (.sl 3), .one (.int .i64)], [], [⟨.ret, [4], [.one (.bool)], []⟩, ⟨.exit 0, [], [], []⟩], Za7⟩
noncomputable def ZeO : List (LE CT Tryz.prog) := [Zcj]
theorem ZgB : Zh5 Zcj (Zg9 (Zbp Tryz.f24) 0) := fun A env h k z hk => ZdL (E := Zcj) (Zad ZeN) (dr := ZeM) (lps := Zaq ZeO) (Zai (by kernel_rfl)) (fun a => by kernel_rfl) env h k z hk
noncomputable def ZaG (x0 : List (Zae)) (x1 : List (Zae)) : Option ((Bool) × (Unit)) :=
 (bif (decide (((x0.length : Int) : Int) ≠ (x1.length : Int))) then
 some (false, ())
 else
 (ZaP Za7 ((x0, x1, 0, ()), ())).bind fun b1 =>
 (match b1 with
 | .inl b2 =>
 some (b2.1.1, ())
 | .inr b3 =>
 some (true, ())))
noncomputable def Zbr : CE CT Tryz.prog where
 f := 24
 args := [.one (.sl 3), .one (.sl 3)]
 hs := []
 res := .val (.one (.bool))
 outs := []
 m := fun d dh => ZaG d.1 d.2.1
 ok := ZaN Zan Tryz.func24 (by kernel_rfl) (Zad ZeN) (dr := ZeM) (lps := Zaq ZeO) (Zao (Zcd (n := 1) (by kernel_rfl) fun i hi => match i, hi with | 0, _ => ZdM (E := Zcj) (by kernel_rfl) ZgB)) (fun d dh => by kernel_rfl)
def Zr8 : Nat -> Nat -> DrA
 | _, _ => ⟨[], [], [], [], [], false, []⟩
noncomputable def Zr9 : List (CE CT Tryz.prog) := [Zdj]
noncomputable def Zsa : List (LE CT Tryz.prog) := []
noncomputable def Zf2 (h0 : (Nat) × (Bool) × Unit) (h1 : List (Zae)) : Option ((Int) × (((Nat) × (Bool) × Unit) × (List (Zae)) × Unit)) :=
 (Zey (h0.1, h0.2.1, ()) h1).bind fun r1 =>
 (bif (!r1.1) then
 some (0, ((r1.2.1.1, r1.2.1.2.1, ()), r1.2.2.1, ()))
 else
 some (((r1.2.1.1 : Nat) : Int), ((r1.2.1.1, r1.2.1.2.1, ()), r1.2.2.1, ())))
noncomputable def ZhC : CE CT Tryz.prog where
 f := 20
 args := [.one (.ptr 0 0)]
 hs := [.obj 58 [.asz 3 1, .bool], .arr 48 3 true]
 res := .val (.one (.int .i64))
 outs := [.obj 58 [.asz 3 1, .bool], .arr 48 3 true]
 m := fun d dh => Zf2 dh.1 dh.2.1
 ok := ZaN Zan Tryz.func20 (by kernel_rfl) (Zad Zr9) (dr := Zr8) (lps := Zaq Zsa) (Zao (Zai (by kernel_rfl))) (fun d dh => by kernel_rfl)
def ZiW : Nat -> Nat -> DrA
 | _, _ => ⟨[], [], [], [], [], false, []⟩
noncomputable def ZiX : List (CE CT Tryz.prog) := [Zlc, Zle, Zim, Zj5, Zbr, ZhC]
noncomputable def ZiY : List (LE CT Tryz.prog) := []
noncomputable def ZaK  : Option ((Bool) × (Unit)) :=
 (Znx).bind fun r1 =>
 (ZfT ([(⟨([98] : List UInt8), ([49] : List UInt8)⟩ : Zae), (⟨([97] : List UInt8), ([50] : List UInt8)⟩ : Zae), (⟨([98] : List UInt8), ([51] : List UInt8)⟩ : Zae)] : List (Zae)) (r1.2.1.1, r1.2.1.2.1, ()) r1.2.2.1).bind fun r2 =>
 (Zj4 (⟨([] : List UInt8), ([] : List UInt8)⟩ : Za5) (r2.2.1.1, r2.2.1.2.1, ()) r2.2.2.2.1).bind fun r3 =>
 (Zin (⟨([97] : List UInt8), ([98] : List UInt8)⟩ : Za5) (r3.2.1.1, r3.2.1.2.1, ()) r3.2.2.1).bind fun r4 =>
 (bif (decide ((r2.1 : Int) = 0)) then
 (ZaG r3.1 ([(⟨([97] : List UInt8), ([50] : List UInt8)⟩ : Zae), (⟨([98] : List UInt8), ([51] : List UInt8)⟩ : Zae)] : List (Zae))).bind fun r5 =>
 (bif r5.1 then
 (ZaG r4.1 ([(⟨([97] : List UInt8), ([50] : List UInt8)⟩ : Zae)] : List (Zae))).bind fun r6 =>
 (bif r6.1 then
 (Zf2 (r4.2.1.1, r4.2.1.2.1, ()) r4.2.2.2.2.1).bind fun r7 =>
 some ((decide ((r7.1 : Int) = 1)), ())
 else
 some (false, ()))
 else
 some (false, ()))
 else
 some (false, ()))
noncomputable def ZdV : CE CT Tryz.prog where
 f := 6
 args := []
 hs := []
 res := .val (.one (.bool))
 outs := []
 m := fun d dh => ZaK
 ok := ZaN Zan Tryz.func6 (by kernel_rfl) (Zad ZiX) (dr := ZiW) (lps := Zaq ZiY) (Zao (Zai (by kernel_rfl))) (fun d dh => by kernel_rfl)
def ZkF : Nat -> Nat -> DrA
 | _, _ => ⟨[], [], [], [], [], false, []⟩
noncomputable def ZkG : List (CE CT Tryz.prog) := []
noncomputable def ZkH : List (LE CT Tryz.prog) := []
noncomputable def ZdH (x0 : Int) (x1 : Int) : Option ((Int) × (Unit)) :=
 (bif (decide ((x1 : Int) < 1)) then
 some (0, ())
 else
 (if (x1 : Int) = 0 then none else
 (bif (decide ((((x0 : Int).tmod x1) : Int) < 0)) then
 some ((IntKind.i64.wrap (((x0 : Int).tmod x1) + x1)), ())
 else
 some (((x0 : Int).tmod x1), ()))))
noncomputable def Zgw : CE CT Tryz.prog where
 f := 8
 args := [.one (.int .i64), .one (.int .i64)]
 hs := []
 res := .val (.one (.int .i64))
 outs := []
 m := fun d dh => ZdH d.1 d.2.1
 ok := ZaN Zan Tryz.func8 (by kernel_rfl) (Zad ZkG) (dr := ZkF) (lps := Zaq ZkH) (Zao (Zai (by kernel_rfl))) (fun d dh => by kernel_rfl)
def Zsb : Nat -> Nat -> DrA
 | _, _ => ⟨[], [], [], [], [], false, []⟩
noncomputable def Zsc : List (CE CT Tryz.prog) := [Zdj, Zj3]
noncomputable def Zsd : List (LE CT Tryz.prog) := []
noncomputable def Zj6 (h0 : (Nat) × (Bool) × Unit) (h1 : List (Zae)) : Option ((Unit) × (((Nat) × (Bool) × Unit) × (List (Zae)) × ((Nat) × (Bool) × Unit) × (List (Zae)) × Unit)) :=
 (Zey (h0.1, h0.2.1, ()) h1).bind fun r1 =>
 (bif (!r1.1) then
 none
 else
 (Zg2 r1.2.1.1 r1.2.2.1).bind fun r2 =>
 some ((), ((r1.2.1.1, r1.2.1.2.1, ()), r2.2.1, (r2.1, true, ()), r2.2.2.1, ())))
noncomputable def Zse : CE CT Tryz.prog where
 f := 9
 args := [.one (.ptr 0 0)]
 hs := [.obj 58 [.asz 3 1, .bool], .arr 48 3 true]
 res := .val (.one (.ptr 2 0))
 outs := [.obj 58 [.asz 3 1, .bool], .arr 48 3 true, .obj 58 [.asz 3 3, .bool], .arr 48 3 false]
 m := fun d dh => Zj6 dh.1 dh.2.1
 ok := ZaN Zan Tryz.func9 (by kernel_rfl) (Zad Zsc) (dr := Zsb) (lps := Zaq Zsd) (Zao (Zai (by kernel_rfl))) (fun d dh => by kernel_rfl)
def ZhM : Nat -> Nat -> DrA
 | _, _ => ⟨[], [], [], [], [], false, []⟩
noncomputable def ZhN : List (CE CT Tryz.prog) := []
noncomputable def ZhO : List (LE CT Tryz.prog) := []
noncomputable def Zb8 (x0 : List (Zae)) : Option ((List (Zae)) × ((Unit) × Unit)) :=
 (if x0.length <= 140737488355328 /\ x0.length * 32 <= 140737488355328 then
 some (x0, ((), ()))
 else none)
noncomputable def ZhP : CE CT Tryz.prog where
 f := 10
 args := [.one (.sl 3)]
 hs := []
 res := .val (.one (.own 3 0))
 outs := [.row 48 2]
 m := fun d dh => Zb8 d.1
 ok := ZaN Zan Tryz.func10 (by kernel_rfl) (Zad ZhN) (dr := ZhM) (lps := Zaq ZhO) (Zao (Zai (by kernel_rfl))) (fun d dh => by kernel_rfl)
def Zf3 : Nat -> Nat -> DrA
 | _, _ => ⟨[], [], [], [], [], false, []⟩
noncomputable def Zf4 : List (CE CT Tryz.prog) := []
noncomputable def Zdk (a : ((List UInt8) × (Int) × Unit) × (Unit)) : Option ((((List UInt8) × (Int) × Unit) × (Unit)) ⊕ ((((Bool) × Unit) × (Unit)) ⊕ ((Unit) × (Unit)))) :=
 (bif (decide ((a.1.2.1 : Int) < (a.1.1.length : Int))) then
 (Zdg a.1.1 a.1.2.1).bind fun e1 =>
 (bif (decide ((97 : Int) <= (e1.toNat : Int))) then
 (Zdg a.1.1 a.1.2.1).bind fun e2 =>
 (bif (decide (((e2.toNat : Int) : Int) <= 122)) then
 some (.inl ((a.1.1, (IntKind.i64.wrap (a.1.2.1 + 1)), ()), ()))
 else
 (Zdg a.1.1 a.1.2.1).bind fun e3 =>
 (bif (decide ((48 : Int) <= (e3.toNat : Int))) then
 (Zdg a.1.1 a.1.2.1).bind fun e4 =>
 (bif (!(decide (((e4.toNat : Int) : Int) <= 57))) then
 some (.inr (.inl ((false, ()), ())))
 else
 some (.inl ((a.1.1, (IntKind.i64.wrap (a.1.2.1 + 1)), ()), ())))
 else
 some (.inr (.inl ((false, ()), ())))))
 else
 (Zdg a.1.1 a.1.2.1).bind fun e5 =>
 (bif (decide ((48 : Int) <= (e5.toNat : Int))) then
 (Zdg a.1.1 a.1.2.1).bind fun e6 =>
 (bif (!(decide (((e6.toNat : Int) : Int) <= 57))) then
 some (.inr (.inl ((false, ()), ())))
 else
 some (.inl ((a.1.1, (IntKind.i64.wrap (a.1.2.1 + 1)), ()), ())))
 else
 some (.inr (.inl ((false, ()), ())))))
 else
 some (.inr (.inr ((), ()))))
noncomputable def Zdl : LE CT Tryz.prog := ⟨4, [0, 3], [.one (.str), .one (.int .i64)], [], [⟨.ret, [2], [.one (.bool)], []⟩, ⟨.exit 0, [], [], []⟩], Zdk⟩
noncomputable def Zf5 : List (LE CT Tryz.prog) := [Zdl]
theorem Zio : Zh5 Zdl (Zg9 (Zbp Tryz.f95) 0) := fun A env h k z hk => ZdL (E := Zdl) (Zad Zf4) (dr := Zf3) (lps := Zaq Zf5) (Zai (by kernel_rfl)) (fun a => by kernel_rfl) env h k z hk
noncomputable def Zbq (x0 : List UInt8) : Option ((Bool) × (Unit)) :=
 (bif (decide (((x0.length : Int) : Int) < 1)) then
 some (false, ())
 else
 (bif (decide ((20 : Int) < (x0.length : Int))) then
 some (false, ())
 else
 (ZaP Zdk ((x0, 0, ()), ())).bind fun b1 =>
 (match b1 with
 | .inl b2 =>
 some (b2.1.1, ())
 | .inr b3 =>
 some (true, ()))))
noncomputable def Zei : CE CT Tryz.prog where
 f := 95
 args := [.one (.str)]
 hs := []
 res := .val (.one (.bool))
 outs := []
 m := fun d dh => Zbq d.1
 ok := ZaN Zan Tryz.func95 (by kernel_rfl) (Zad Zf4) (dr := Zf3) (lps := Zaq Zf5) (Zao (Zcd (n := 1) (by kernel_rfl) fun i hi => match i, hi with | 0, _ => ZdM (E := Zdl) (by kernel_rfl) Zio)) (fun d dh => by kernel_rfl)
def ZiZ : Nat -> Nat -> DrA
 | _, _ => ⟨[], [], [], [], [], false, []⟩
noncomputable def Zi0 : List (CE CT Tryz.prog) := [Zei]
noncomputable def Zi1 : List (LE CT Tryz.prog) := []
noncomputable def Zdy (x0 : Za5) : Option ((Bool) × (Unit)) :=
 (bif (decide (x0.lo ≠ ([] : List UInt8))) then
 (Zbq x0.lo).bind fun r1 =>
 (bif (!r1.1) then
 some (false, ())
 else
 (bif (decide (x0.hi = ([] : List UInt8))) then
 some (true, ())
 else
 (Zbq x0.hi).bind fun r2 =>
 (bif r2.1 then
 some ((decide (x0.lo < x0.hi)), ())
 else
 some (false, ()))))
 else
 (bif (decide (x0.hi = ([] : List UInt8))) then
 some (true, ())
 else
 (Zbq x0.hi).bind fun r3 =>
 (bif r3.1 then
 some ((decide (x0.lo < x0.hi)), ())
 else
 some (false, ()))))
noncomputable def Zi2 : CE CT Tryz.prog where
 f := 99
 args := [.cod 4]
 hs := []
 res := .val (.one (.bool))
 outs := []
 m := fun d dh => Zdy d.1
 ok := ZaN Zan Tryz.func99 (by kernel_rfl) (Zad Zi0) (dr := ZiZ) (lps := Zaq Zi1) (Zao (Zai (by kernel_rfl))) (fun d dh => by kernel_rfl)
def Zj7 : Nat -> Nat -> DrA
 | _, _ => ⟨[], [], [], [], [], false, []⟩
noncomputable def Zj8 : List (CE CT Tryz.prog) := [Zi2, Zei]
noncomputable def Zj9 : List (LE CT Tryz.prog) := []
noncomputable def Zdm (x0 : Za5) (x1 : List UInt8) : Option ((Bool) × (Unit)) :=
 (Zdy x0).bind fun r1 =>
 (bif r1.1 then
 (Zbq x1).bind fun r2 =>
 (bif r2.1 then
 (bif (decide (x0.lo < x1) || decide (x0.lo = x1)) then
 (bif (decide (x0.hi = ([] : List UInt8))) then
 some (true, ())
 else
 some ((decide (x1 < x0.hi)), ()))
 else
 some (false, ()))
 else
 some (false, ()))
 else
 some (false, ()))
noncomputable def Zf6 : CE CT Tryz.prog where
 f := 51
 args := [.cod 4, .one (.str)]
 hs := []
 res := .val (.one (.bool))
 outs := []
 m := fun d dh => Zdm d.1 d.2.1
 ok := ZaN Zan Tryz.func51 (by kernel_rfl) (Zad Zj8) (dr := Zj7) (lps := Zaq Zj9) (Zao (Zai (by kernel_rfl))) (fun d dh => by kernel_rfl)
def ZeP : Nat -> Nat -> DrA
 | _, _ => ⟨[], [], [], [], [], false, []⟩
noncomputable def ZeQ : List (CE CT Tryz.prog) := [ZdS]
noncomputable def Za8 (a : ((List (Zae)) × (Nat × Nat × Nat) × (Int) × Unit) × ((List (Zae)) × Unit)) : Option ((((List (Zae)) × (Nat × Nat × Nat) × (Int) × Unit) × ((List (Zae)) × Unit)) ⊕ ((((List (Zae)) × (Nat × Nat × Nat) × Unit) × ((List (Zae)) × Unit)))) :=
 (bif (decide ((a.1.2.2.1 : Int) < 12)) then
 (ZaJ 1 a.1.2.2.1).bind fun r1 =>
 (if (a.1.2.1.2.1 + ([r1.1] : List (Zae)).length) <= 140737488355328 /\ (a.1.2.1.2.1 + ([r1.1] : List (Zae)).length) * 32 <= 140737488355328 /\ a.1.2.1.1 + a.1.2.1.2.1 <= a.2.1.length then
 (if (a.1.2.1.2.1 + ([r1.1] : List (Zae)).length) <= a.1.2.1.2.2 then
 let y2 : List (Zae) := (a.2.1.take (a.1.2.1.1 + a.1.2.1.2.1) ++ ([r1.1] : List (Zae)) ++ a.2.1.drop (a.1.2.1.1 + a.1.2.1.2.1 + ([r1.1] : List (Zae)).length))
 some (.inl ((a.1.1, (a.1.2.1.1, (a.1.2.1.2.1 + ([r1.1] : List (Zae)).length), a.1.2.1.2.2), (IntKind.i64.wrap (a.1.2.2.1 + 1)), ()), (y2, ())))
 else none)
 else none)
 else
 some (.inr ((a.1.1, (a.1.2.1.1, a.1.2.1.2.1, a.1.2.1.2.2), ()), (a.2.1, ()))))
noncomputable def Zck : LE CT Tryz.prog := ⟨4, [0, 3, 4], [.one (.sl 3), .one (.as 3 0), .one (.int .i64)], [.arr 48 3 true], [⟨.exit 0, [0, 3], [.one (.sl 3), .one (.as 3 0)], [.arr 48 3 true]⟩], Za8⟩
noncomputable def ZeR : List (LE CT Tryz.prog) := [Zck]
theorem ZgC : Zh5 Zck (Zg9 (Zbp Tryz.f29) 0) := fun A env h k z hk => ZdL (E := Zck) (Zad ZeQ) (dr := ZeP) (lps := Zaq ZeR) (Zai (by kernel_rfl)) (fun a => by kernel_rfl) env h k z hk
noncomputable def Zc9 (x0 : List (Zae)) : Option ((Nat × Nat × Nat) × ((List (Zae)) × Unit)) :=
 (if 0 <= (0 : Int) /\ (0 : Int) <= (IntKind.i64.wrap ((x0.length : Int) + 12)) /\ ((IntKind.i64.wrap ((x0.length : Int) + 12)) : Int) <= 140737488355328 /\ ((32 : Nat) : Int) * (IntKind.i64.wrap ((x0.length : Int) + 12)) <= 140737488355328 then
 let y1 : List (Zae) := (List.replicate ((IntKind.i64.wrap ((x0.length : Int) + 12)) : Int).toNat ((⟨([] : List UInt8), ([] : List UInt8)⟩ : Zae) : Zae))
 (if ((0 : Int).toNat + x0.length) <= 140737488355328 /\ ((0 : Int).toNat + x0.length) * 32 <= 140737488355328 /\ 0 + (0 : Int).toNat <= y1.length then
 (if ((0 : Int).toNat + x0.length) <= ((IntKind.i64.wrap ((x0.length : Int) + 12)) : Int).toNat then
 let y2 : List (Zae) := (y1.take (0 + (0 : Int).toNat) ++ x0 ++ y1.drop (0 + (0 : Int).toNat + x0.length))
 (ZaP Za8 ((x0, (0, ((0 : Int).toNat + x0.length), ((IntKind.i64.wrap ((x0.length : Int) + 12)) : Int).toNat), 0, ()), (y2, ()))).bind fun b3 =>
 (if 0 <= ((0 : Int) : Int) /\ ((0 : Int) : Int) <= ((b3.1.1.length : Int) : Int) /\ ((b3.1.1.length : Int) : Int) <= ((b3.1.2.1.2.2 : Nat) : Int) /\ ((b3.1.1.length : Int) : Int) <= 140737488355328 then
 some (((b3.1.2.1.1 + (0 : Int).toNat), (((b3.1.1.length : Int) : Int).toNat - (0 : Int).toNat), (b3.1.2.1.2.2 - (0 : Int).toNat)), (b3.2.1, ()))
 else none)
 else none)
 else none)
 else none)
noncomputable def ZhQ : CE CT Tryz.prog where
 f := 29
 args := [.one (.sl 3)]
 hs := []
 res := .val (.one (.as 3 0))
 outs := [.arr 48 3 false]
 m := fun d dh => Zc9 d.1
 ok := ZaN Zan Tryz.func29 (by kernel_rfl) (Zad ZeQ) (dr := ZeP) (lps := Zaq ZeR) (Zao (Zcd (n := 1) (by kernel_rfl) fun i hi => match i, hi with | 0, _ => ZdM (E := Zck) (by kernel_rfl) ZgC)) (fun d dh => by kernel_rfl)
noncomputable def Zbf (x0 : List (Zae)) : Option ((List (Zae) × List (Zae)) × Unit) :=
 (Zc9 x0).bind fun r => if r.1.1 = 0 /\ r.1.2.1 <= r.2.1.length /\ r.2.1.length <= 140737488355328 then some ((r.2.1.take r.1.2.1, r.2.1.drop r.1.2.1), ()) else none
noncomputable def Zej : CE CT Tryz.prog where
 f := 29
 args := [.one (.sl 3)]
 hs := []
 res := .val (.one (.slx 3))
 outs := []
 m := fun d dh => Zbf d.1
 ok := fun d dh r hr => by
  unfold Zbf at hr
  obtain ⟨⟨⟨lo, n, c⟩, xs, u⟩, h1, h2⟩ := Zam hr
  dsimp only at h2
  split at h2
  ·rename_i hc
   injection h2 with h2
   subst h2
   obtain ⟨rfl, hc2, hc3⟩ := hc
   exact Tr.freezeX hc2 hc3 (ZhQ.ok d dh _ h1)
  ·cases h2
def Zi3 : Nat -> Nat -> DrA
 | _, _ => ⟨[], [], [], [], [], false, []⟩
noncomputable def Zi4 : List (CE CT Tryz.prog) := [Zei]
noncomputable def Zi5 : List (LE CT Tryz.prog) := []
noncomputable def ZbM (x0 : Zae) : Option ((Bool) × (Unit)) :=
 (Zbq x0.key).bind fun r1 =>
 (bif r1.1 then
 some ((decide (((x0.value.length : Int) : Int) <= 20)), ())
 else
 some (false, ()))
noncomputable def ZdW : CE CT Tryz.prog where
 f := 47
 args := [.cod 3]
 hs := []
 res := .val (.one (.bool))
 outs := []
 m := fun d dh => ZbM d.1
 ok := ZaN Zan Tryz.func47 (by kernel_rfl) (Zad Zi4) (dr := Zi3) (lps := Zaq Zi5) (Zao (Zai (by kernel_rfl))) (fun d dh => by kernel_rfl)
def Zf7 : Nat -> Nat -> DrA
 | 2, _ => ⟨(List.range 9 ++ [10, 9, 11, 12, 13]), [[], [], [1], [0, 1, 2], [0, 1, 2, 3], (List.range 5), (List.range 5), (List.range 7), (List.range 8), (List.range 9), (List.range 5), (List.range 5 ++ [10]), (List.range 12), (List.range 13)], [], [], [], false, []⟩
 | 4, _ => ⟨(List.range 9 ++ [10, 9, 11, 12, 13]), [[], [], [1], [0, 1, 2], [0, 1, 2, 3], (List.range 5), (List.range 5), (List.range 7), (List.range 8), (List.range 9), (List.range 5), (List.range 5 ++ [10]), (List.range 12), (List.range 13)], [], [], [], false, []⟩
 | 5, _ => ⟨[], [], [], [], [], true, []⟩
 | 8, _ => ⟨[], [], [], [], [], true, []⟩
 | 9, _ => ⟨[0, 4, 5, 6, 1, 2, 3, 7, 8], [[], [], [1], [0, 1, 2], [], [], [4, 5], (List.range 7), (List.range 8)], [], [], [], false, []⟩
 | _, _ => ⟨[], [], [], [], [], false, []⟩
noncomputable def Zf8 : List (CE CT Tryz.prog) := []
noncomputable def Zbw (a : ((List (Zae)) × (Unit) × (Int) × Unit) × ((Zae) × Unit)) : Option ((((List (Zae)) × (Unit) × (Int) × Unit) × ((Zae) × Unit)) ⊕ ((((List (Zae)) × (Unit) × (Int) × Unit) × ((Zae) × Unit)))) :=
 (bif (decide ((a.1.2.2.1 : Int) < (a.1.1.length : Int))) then
 (Zdg a.1.1 a.1.2.2.1).bind fun e1 =>
 (bif (decide (e1.key < a.2.1.key)) then
 some (.inl ((a.1.1, (), (IntKind.i64.wrap (a.1.2.2.1 + 1)), ()), (a.2.1, ())))
 else
 some (.inr ((a.1.1, (), a.1.2.2.1, ()), (a.2.1, ()))))
 else
 some (.inr ((a.1.1, (), a.1.2.2.1, ()), (a.2.1, ()))))
noncomputable def Zdn : LE CT Tryz.prog := ⟨2, [0, 3, 5], [.one (.sl 3), .one (.ptr 0 0), .one (.int .i64)], [.cobj 48 3], [⟨.exit 0, [0, 3, 5], [.one (.sl 3), .one (.ptr 0 0), .one (.int .i64)], [.cobj 48 3]⟩], Zbw⟩
noncomputable def Zf9 : List (LE CT Tryz.prog) := [Zdn]
theorem Zip : Zh5 Zdn (Zg9 (Zbp Tryz.f48) 0) := fun A env h k z hk => ZdL (E := Zdn) (Zad Zf8) (dr := Zf7) (lps := Zaq Zf9) (Zai (by kernel_rfl)) (fun a => by kernel_rfl) env h k z hk
noncomputable def Zeb (x0 : List (Zae)) (x1 : Zae) : Option ((Nat) × ((List (Zae)) × Unit)) :=
 (ZaP Zbw ((x0, (), 0, ()), (x1, ()))).bind fun b1 =>
 (bif (decide ((b1.1.2.2.1 : Int) < (b1.1.1.length : Int))) then
 (Zdg b1.1.1 b1.1.2.2.1).bind fun e2 =>
 (bif (decide (e2.key = b1.2.1.key)) then
 (if (0 + b1.1.1.length) <= 140737488355328 /\ (0 + b1.1.1.length) * 32 <= 140737488355328 /\ 0 + 0 <= ([] : List (Zae)).length then
 (if (0 + b1.1.1.length) <= 0 then
 let y3 : List (Zae) := (([] : List (Zae)).take (0 + 0) ++ b1.1.1 ++ ([] : List (Zae)).drop (0 + 0 + b1.1.1.length))
 (if 0 <= (b1.1.2.2.1 : Int) /\ (b1.1.2.2.1 : Int) < (((0 + b1.1.1.length) : Nat) : Int) then
 (y3[(0 + (b1.1.2.2.1 : Int).toNat)]?).bind fun e4 =>
 some ((0 + b1.1.1.length), ((y3.set (0 + (b1.1.2.2.1 : Int).toNat) b1.2.1), ()))
 else none)
 else
 (if 0 <= (b1.1.2.2.1 : Int) /\ (b1.1.2.2.1 : Int) < (((0 + b1.1.1.length) : Nat) : Int) then
 (((([] : List (Zae)).drop 0).take 0 ++ b1.1.1)[(0 + (b1.1.2.2.1 : Int).toNat)]?).bind fun e5 =>
 let y6 : List (Zae) := (((([] : List (Zae)).drop 0).take 0 ++ b1.1.1).set (0 + (b1.1.2.2.1 : Int).toNat) b1.2.1)
 some ((0 + b1.1.1.length), (y6, ()))
 else none))
 else none)
 else
 (if 0 <= ((0 : Int) : Int) /\ ((0 : Int) : Int) <= b1.1.2.2.1 /\ b1.1.2.2.1 <= (b1.1.1.length : Int) then
 let y7 : List (Zae) := ((b1.1.1.drop ((0 : Int) : Int).toNat).take ((b1.1.2.2.1 : Int).toNat - ((0 : Int) : Int).toNat))
 (if (0 + y7.length) <= 140737488355328 /\ (0 + y7.length) * 32 <= 140737488355328 /\ 0 + 0 <= ([] : List (Zae)).length then
 (if (0 + y7.length) <= 0 then
 let y8 : List (Zae) := (([] : List (Zae)).take (0 + 0) ++ y7 ++ ([] : List (Zae)).drop (0 + 0 + y7.length))
 (if 0 <= (b1.1.2.2.1 : Int) /\ (b1.1.2.2.1 : Int) <= (b1.1.1.length : Int) /\ (b1.1.1.length : Int) <= (b1.1.1.length : Int) then
 let y9 : List (Zae) := ((b1.1.1.drop (b1.1.2.2.1 : Int).toNat).take (((b1.1.1.length : Int) : Int).toNat - (b1.1.2.2.1 : Int).toNat))
 (if ((0 + y7.length) + ([b1.2.1] : List (Zae)).length) <= 140737488355328 /\ ((0 + y7.length) + ([b1.2.1] : List (Zae)).length) * 32 <= 140737488355328 /\ 0 + (0 + y7.length) <= y8.length then
 (if ((0 + y7.length) + ([b1.2.1] : List (Zae)).length) <= 0 then
 let y10 : List (Zae) := (y8.take (0 + (0 + y7.length)) ++ ([b1.2.1] : List (Zae)) ++ y8.drop (0 + (0 + y7.length) + ([b1.2.1] : List (Zae)).length))
 (if (((0 + y7.length) + ([b1.2.1] : List (Zae)).length) + y9.length) <= 140737488355328 /\ (((0 + y7.length) + ([b1.2.1] : List (Zae)).length) + y9.length) * 32 <= 140737488355328 /\ 0 + ((0 + y7.length) + ([b1.2.1] : List (Zae)).length) <= y10.length then
 (if (((0 + y7.length) + ([b1.2.1] : List (Zae)).length) + y9.length) <= 0 then
 let y11 : List (Zae) := (y10.take (0 + ((0 + y7.length) + ([b1.2.1] : List (Zae)).length)) ++ y9 ++ y10.drop (0 + ((0 + y7.length) + ([b1.2.1] : List (Zae)).length) + y9.length))
 some ((((0 + y7.length) + ([b1.2.1] : List (Zae)).length) + y9.length), (y11, ()))
 else
 let y12 : List (Zae) := ((y10.drop 0).take ((0 + y7.length) + ([b1.2.1] : List (Zae)).length) ++ y9)
 some ((((0 + y7.length) + ([b1.2.1] : List (Zae)).length) + y9.length), (y12, ())))
 else none)
 else
 (if (((0 + y7.length) + ([b1.2.1] : List (Zae)).length) + y9.length) <= 140737488355328 /\ (((0 + y7.length) + ([b1.2.1] : List (Zae)).length) + y9.length) * 32 <= 140737488355328 /\ 0 + ((0 + y7.length) + ([b1.2.1] : List (Zae)).length) <= ((y8.drop 0).take (0 + y7.length) ++ ([b1.2.1] : List (Zae))).length then
 let y13 : List (Zae) := (((y8.drop 0).take (0 + y7.length) ++ ([b1.2.1] : List (Zae))).take ((0 + y7.length) + ([b1.2.1] : List (Zae)).length) ++ y9)
 some ((((0 + y7.length) + ([b1.2.1] : List (Zae)).length) + y9.length), (y13, ()))
 else none))
 else none)
 else none)
 else
 (if 0 <= (b1.1.2.2.1 : Int) /\ (b1.1.2.2.1 : Int) <= (b1.1.1.length : Int) /\ (b1.1.1.length : Int) <= (b1.1.1.length : Int) then
 let y14 : List (Zae) := ((b1.1.1.drop (b1.1.2.2.1 : Int).toNat).take (((b1.1.1.length : Int) : Int).toNat - (b1.1.2.2.1 : Int).toNat))
 (if ((0 + y7.length) + ([b1.2.1] : List (Zae)).length) <= 140737488355328 /\ ((0 + y7.length) + ([b1.2.1] : List (Zae)).length) * 32 <= 140737488355328 /\ 0 + (0 + y7.length) <= ((([] : List (Zae)).drop 0).take 0 ++ y7).length then
 let y15 : List (Zae) := (((([] : List (Zae)).drop 0).take 0 ++ y7).take (0 + y7.length) ++ ([b1.2.1] : List (Zae)))
 (if (((0 + y7.length) + ([b1.2.1] : List (Zae)).length) + y14.length) <= 140737488355328 /\ (((0 + y7.length) + ([b1.2.1] : List (Zae)).length) + y14.length) * 32 <= 140737488355328 /\ 0 + ((0 + y7.length) + ([b1.2.1] : List (Zae)).length) <= y15.length then
 some ((((0 + y7.length) + ([b1.2.1] : List (Zae)).length) + y14.length), ((y15.take ((0 + y7.length) + ([b1.2.1] : List (Zae)).length) ++ y14), ()))
 else none)
 else none)
 else none))
 else none)
 else none))
 else
 (if 0 <= ((0 : Int) : Int) /\ ((0 : Int) : Int) <= b1.1.2.2.1 /\ b1.1.2.2.1 <= (b1.1.1.length : Int) then
 let y16 : List (Zae) := ((b1.1.1.drop ((0 : Int) : Int).toNat).take ((b1.1.2.2.1 : Int).toNat - ((0 : Int) : Int).toNat))
 (if (0 + y16.length) <= 140737488355328 /\ (0 + y16.length) * 32 <= 140737488355328 /\ 0 + 0 <= ([] : List (Zae)).length then
 (if (0 + y16.length) <= 0 then
 let y17 : List (Zae) := (([] : List (Zae)).take (0 + 0) ++ y16 ++ ([] : List (Zae)).drop (0 + 0 + y16.length))
 (if 0 <= (b1.1.2.2.1 : Int) /\ (b1.1.2.2.1 : Int) <= (b1.1.1.length : Int) /\ (b1.1.1.length : Int) <= (b1.1.1.length : Int) then
 let y18 : List (Zae) := ((b1.1.1.drop (b1.1.2.2.1 : Int).toNat).take (((b1.1.1.length : Int) : Int).toNat - (b1.1.2.2.1 : Int).toNat))
 (if ((0 + y16.length) + ([b1.2.1] : List (Zae)).length) <= 140737488355328 /\ ((0 + y16.length) + ([b1.2.1] : List (Zae)).length) * 32 <= 140737488355328 /\ 0 + (0 + y16.length) <= y17.length then
 (if ((0 + y16.length) + ([b1.2.1] : List (Zae)).length) <= 0 then
 let y19 : List (Zae) := (y17.take (0 + (0 + y16.length)) ++ ([b1.2.1] : List (Zae)) ++ y17.drop (0 + (0 + y16.length) + ([b1.2.1] : List (Zae)).length))
 (if (((0 + y16.length) + ([b1.2.1] : List (Zae)).length) + y18.length) <= 140737488355328 /\ (((0 + y16.length) + ([b1.2.1] : List (Zae)).length) + y18.length) * 32 <= 140737488355328 /\ 0 + ((0 + y16.length) + ([b1.2.1] : List (Zae)).length) <= y19.length then
 (if (((0 + y16.length) + ([b1.2.1] : List (Zae)).length) + y18.length) <= 0 then
 let y20 : List (Zae) := (y19.take (0 + ((0 + y16.length) + ([b1.2.1] : List (Zae)).length)) ++ y18 ++ y19.drop (0 + ((0 + y16.length) + ([b1.2.1] : List (Zae)).length) + y18.length))
 some ((((0 + y16.length) + ([b1.2.1] : List (Zae)).length) + y18.length), (y20, ()))
 else
 let y21 : List (Zae) := ((y19.drop 0).take ((0 + y16.length) + ([b1.2.1] : List (Zae)).length) ++ y18)
 some ((((0 + y16.length) + ([b1.2.1] : List (Zae)).length) + y18.length), (y21, ())))
 else none)
 else
 (if (((0 + y16.length) + ([b1.2.1] : List (Zae)).length) + y18.length) <= 140737488355328 /\ (((0 + y16.length) + ([b1.2.1] : List (Zae)).length) + y18.length) * 32 <= 140737488355328 /\ 0 + ((0 + y16.length) + ([b1.2.1] : List (Zae)).length) <= ((y17.drop 0).take (0 + y16.length) ++ ([b1.2.1] : List (Zae))).length then
 let y22 : List (Zae) := (((y17.drop 0).take (0 + y16.length) ++ ([b1.2.1] : List (Zae))).take ((0 + y16.length) + ([b1.2.1] : List (Zae)).length) ++ y18)
 some ((((0 + y16.length) + ([b1.2.1] : List (Zae)).length) + y18.length), (y22, ()))
 else none))
 else none)
 else none)
 else
 (if 0 <= (b1.1.2.2.1 : Int) /\ (b1.1.2.2.1 : Int) <= (b1.1.1.length : Int) /\ (b1.1.1.length : Int) <= (b1.1.1.length : Int) then
 let y23 : List (Zae) := ((b1.1.1.drop (b1.1.2.2.1 : Int).toNat).take (((b1.1.1.length : Int) : Int).toNat - (b1.1.2.2.1 : Int).toNat))
 (if ((0 + y16.length) + ([b1.2.1] : List (Zae)).length) <= 140737488355328 /\ ((0 + y16.length) + ([b1.2.1] : List (Zae)).length) * 32 <= 140737488355328 /\ 0 + (0 + y16.length) <= ((([] : List (Zae)).drop 0).take 0 ++ y16).length then
 let y24 : List (Zae) := (((([] : List (Zae)).drop 0).take 0 ++ y16).take (0 + y16.length) ++ ([b1.2.1] : List (Zae)))
 (if (((0 + y16.length) + ([b1.2.1] : List (Zae)).length) + y23.length) <= 140737488355328 /\ (((0 + y16.length) + ([b1.2.1] : List (Zae)).length) + y23.length) * 32 <= 140737488355328 /\ 0 + ((0 + y16.length) + ([b1.2.1] : List (Zae)).length) <= y24.length then
 some ((((0 + y16.length) + ([b1.2.1] : List (Zae)).length) + y23.length), ((y24.take ((0 + y16.length) + ([b1.2.1] : List (Zae)).length) ++ y23), ()))
 else none)
 else none)
 else none))
 else none)
 else none))
noncomputable def Zga : CE CT Tryz.prog where
 f := 48
 args := [.one (.sl 3), .cod 3]
 hs := []
 res := .val (.one (.asz 3 0))
 outs := [.arr 48 3 false]
 m := fun d dh => Zeb d.1 d.2.1
 ok := ZaN Zan Tryz.func48 (by kernel_rfl) (Zad Zf8) (dr := Zf7) (lps := Zaq Zf9) (Zao (Zcd (n := 1) (by kernel_rfl) fun i hi => match i, hi with | 0, _ => ZdM (E := Zdn) (by kernel_rfl) Zip)) (fun d dh => by kernel_rfl)
noncomputable def ZbN (x0 : List (Zae)) (x1 : Zae) := (Zeb x0 x1).bind fun r => if r.1 <= r.2.1.length then some (r.2.1.take r.1, ()) else none
noncomputable def Zi6 : CE CT Tryz.prog where
 f := 48
 args := [.one (.sl 3), .cod 3]
 hs := []
 res := .val (.one (.sl 3))
 outs := []
 m := fun d dh => ZbN d.1 d.2.1
 ok := fun d dh r hr => by
  unfold ZbN at hr
  obtain ⟨⟨n, xs, u⟩, h1, h2⟩ := Zam hr
  dsimp only at h2
  split at h2
  ·rename_i hc
   injection h2 with h2
   subst h2
   exact Tr.tellS hc (Zga.ok d dh _ h1)
  ·cases h2
def ZeS : Nat -> Nat -> DrA
 | 7, _ => ⟨(List.range 8 ++ [9, 10, 11, 8, 12, 13, 14, 15, 16, 17, 18, 19, 20, 21, 22, 23, 24, 26, 27, 28, 29, 25, 30, 31, 32, 33, 34]), [[], [], [1], [0, 1, 2], [0, 1, 2, 3], (List.range 5), (List.range 5), (List.range 7), (List.range 8), (List.range 5), (List.range 5), (List.range 5 ++ [9, 10]), (List.range 5 ++ [9, 10, 11]), (List.range 13), (List.range 14), (List.range 15), (List.range 16), (List.range 17), (List.range 17), (List.range 17 ++ [18]), (List.range 20), (List.range 21), (List.range 22), (List.range 22), (List.range 24), (List.range 25), (List.range 22), (List.range 22), (List.range 22 ++ [27]), (List.range 22 ++ [26, 27, 28]), (List.range 22 ++ [26, 27, 28, 29]), (List.range 31), (List.range 32), (List.range 33), (List.range 34)], [25], [30], [], false, []⟩
 | _, _ => ⟨[], [], [], [], [], false, []⟩
noncomputable def ZeT : List (CE CT Tryz.prog) := [ZdS]
noncomputable def Za9 (a : ((List (Zae)) × (List (Zae)) × (Int) × Unit) × (Unit)) : Option ((((List (Zae)) × (List (Zae)) × (Int) × Unit) × (Unit)) ⊕ ((((Bool) × Unit) × (Unit)) ⊕ ((Unit) × (Unit)))) :=
 (bif (decide ((a.1.2.2.1 : Int) < (a.1.2.1.length : Int))) then
 (bif (decide ((a.1.2.2.1 : Int) < (a.1.1.length : Int))) then
 (Zdg a.1.2.1 a.1.2.2.1).bind fun e1 =>
 (Zdg a.1.1 a.1.2.2.1).bind fun e2 =>
 (bif (!(decide (e1.key = e2.key) && (decide (e1.value = e2.value) && true))) then
 some (.inr (.inl ((false, ()), ())))
 else
 (bif (decide (((a.1.1.length : Int) : Int) <= a.1.2.2.1)) then
 (Zdg a.1.2.1 a.1.2.2.1).bind fun e3 =>
 (ZaJ 1 (IntKind.i64.wrap (a.1.2.2.1 - (a.1.1.length : Int)))).bind fun r4 =>
 (bif (!(decide (e3.key = r4.1.key) && (decide (e3.value = r4.1.value) && true))) then
 some (.inr (.inl ((false, ()), ())))
 else
 some (.inl ((a.1.1, a.1.2.1, (IntKind.i64.wrap (a.1.2.2.1 + 1)), ()), ())))
 else
 some (.inl ((a.1.1, a.1.2.1, (IntKind.i64.wrap (a.1.2.2.1 + 1)), ()), ()))))
 else
 (bif (decide (((a.1.1.length : Int) : Int) <= a.1.2.2.1)) then
 (Zdg a.1.2.1 a.1.2.2.1).bind fun e5 =>
 (ZaJ 1 (IntKind.i64.wrap (a.1.2.2.1 - (a.1.1.length : Int)))).bind fun r6 =>
 (bif (!(decide (e5.key = r6.1.key) && (decide (e5.value = r6.1.value) && true))) then
 some (.inr (.inl ((false, ()), ())))
 else
 some (.inl ((a.1.1, a.1.2.1, (IntKind.i64.wrap (a.1.2.2.1 + 1)), ()), ())))
 else
 some (.inl ((a.1.1, a.1.2.1, (IntKind.i64.wrap (a.1.2.2.1 + 1)), ()), ()))))
 else
 some (.inr (.inr ((), ()))))
noncomputable def Zcl : LE CT Tryz.prog := ⟨5, [1, 5, 6], [.one (.sl 3), .one (.sl 3), .one (.int .i64)], [], [⟨.ret, [4], [.one (.bool)], []⟩, ⟨.exit 0, [], [], []⟩], Za9⟩
noncomputable def ZeU : List (LE CT Tryz.prog) := [Zcl]
theorem ZgD : Zh5 Zcl (Zg9 (Zbp Tryz.f30) 0) := fun A env h k z hk => ZdL (E := Zcl) (Zad ZeT) (dr := ZeS) (lps := Zaq ZeU) (Zai (by kernel_rfl)) (fun a => by kernel_rfl) env h k z hk
noncomputable def Zb9 (x0 : List (Zae) × List (Zae)) (x1 : List (Zae)) : Option ((Bool) × (Unit)) :=
 (bif (decide (((x0.1.length : Int) : Int) ≠ (x1.length : Int))) then
 some (false, ())
 else
 (if 0 <= ((0 : Int) : Int) /\ ((0 : Int) : Int) <= (IntKind.i64.wrap ((x1.length : Int) + 12)) /\ (IntKind.i64.wrap ((x1.length : Int) + 12)) <= ((x0.1 ++ x0.2).length : Int) then
 let y1 : List (Zae) := (((x0.1 ++ x0.2).drop ((0 : Int) : Int).toNat).take (((IntKind.i64.wrap ((x1.length : Int) + 12)) : Int).toNat - ((0 : Int) : Int).toNat))
 (ZaP Za9 ((x1, y1, 0, ()), ())).bind fun b2 =>
 (match b2 with
 | .inl b3 =>
 some (b3.1.1, ())
 | .inr b4 =>
 some (true, ()))
 else none))
noncomputable def ZeV : CE CT Tryz.prog where
 f := 30
 args := [.one (.slx 3), .one (.sl 3)]
 hs := []
 res := .val (.one (.bool))
 outs := []
 m := fun d dh => Zb9 d.1 d.2.1
 ok := ZaN Zan Tryz.func30 (by kernel_rfl) (Zad ZeT) (dr := ZeS) (lps := Zaq ZeU) (Zao (Zcd (n := 1) (by kernel_rfl) fun i hi => match i, hi with | 0, _ => ZdM (E := Zcl) (by kernel_rfl) ZgD)) (fun d dh => by kernel_rfl)
def ZjD : Nat -> Nat -> DrA
 | 1, _ => ⟨[0, 2, 3, 4, 5, 6, 1, 7, 8, 9, 10, 12, 13, 14, 15, 11, 16, 17, 18], [[], [0], [], [2], [2, 3], [2, 3, 4], [2, 3, 4, 5], (List.range 7), (List.range 8), (List.range 9), (List.range 9), (List.range 11), (List.range 9), (List.range 9 ++ [12]), (List.range 9 ++ [12, 13]), (List.range 9 ++ [12, 13, 14]), (List.range 16), (List.range 17), (List.range 18)], [5, 15], [1, 11], [1], false, []⟩
 | _, _ => ⟨[], [], [], [], [], false, []⟩
noncomputable def ZjE : List (CE CT Tryz.prog) := [ZhC, Zim, Zbr]
noncomputable def ZjF : List (LE CT Tryz.prog) := []
noncomputable def ZaO (h0 : (Nat) × (Bool) × Unit) (h1 : ZaI) (h2 : List (Zae)) : Option ((Bool) × (((Nat) × (Bool) × Unit) × (ZaI) × (List (Zae)) × Unit)) :=
 (Zf2 (h0.1, h0.2.1, ()) h2).bind fun r1 =>
 (bif (decide ((r1.1 : Int) = (h1.l.length : Int))) then
 (Zj4 (⟨([] : List UInt8), ([] : List UInt8)⟩ : Za5) (r1.2.1.1, r1.2.1.2.1, ()) r1.2.2.1).bind fun r2 =>
 (ZaG r2.1 h1.l).bind fun r3 =>
 some (r3.1, ((r2.2.1.1, r2.2.1.2.1, ()), h1, r2.2.2.1, ()))
 else
 some (false, ((r1.2.1.1, r1.2.1.2.1, ()), h1, r1.2.2.1, ())))
noncomputable def ZjG : CE CT Tryz.prog where
 f := 12
 args := [.one (.ptr 0 0), .one (.ptr 1 0)]
 hs := [.obj 58 [.asz 3 2, .bool], .cobj 31 10, .arr 48 3 true]
 res := .val (.one (.bool))
 outs := [.obj 58 [.asz 3 2, .bool], .cobj 31 10, .arr 48 3 true]
 m := fun d dh => ZaO dh.1 dh.2.1 dh.2.2.1
 ok := ZaN Zan Tryz.func12 (by kernel_rfl) (Zad ZjE) (dr := ZjD) (lps := Zaq ZjF) (Zao (Zai (by kernel_rfl))) (fun d dh => by kernel_rfl)
def ZfG : Nat -> Nat -> DrA
 | 5, _ => ⟨[1, 2, 3, 5, 0, 4, 6, 7, 8, 9], [[], [], [1], [1, 2], [1, 2, 3], [], [1, 2, 3, 4, 5], [1, 2, 3, 4, 5, 6], [1, 2, 3, 4, 5, 6, 7], (List.range 9)], [], [], [], false, []⟩
 | _, _ => ⟨[], [], [], [], [], false, []⟩
noncomputable def ZfH : List (CE CT Tryz.prog) := [Zf6]
noncomputable def Zca (a : ((Unit) × (Unit) × (List (Zae)) × (Int) × Unit) × ((ZaI) × (Za5) × (Unit) × Unit)) : Option ((((Unit) × (Unit) × (List (Zae)) × (Int) × Unit) × ((ZaI) × (Za5) × (Unit) × Unit)) ⊕ ((((List (Zae)) × Unit) × ((ZaI) × (Za5) × (Unit) × (Unit) × Unit)))) :=
 (bif (decide ((a.1.2.2.2.1 : Int) < (a.2.1.l.length : Int))) then
 (Zdg a.2.1.l a.1.2.2.2.1).bind fun e1 =>
 (Zdm a.2.2.1 e1.key).bind fun r2 =>
 (bif r2.1 then
 (Zdg a.2.1.l a.1.2.2.2.1).bind fun e3 =>
 (if a.1.2.2.1.length + ([e3] : List (Zae)).length <= 140737488355328 /\ (a.1.2.2.1.length + ([e3] : List (Zae)).length) * 32 <= 140737488355328 then
 some (.inl (((), (), (a.1.2.2.1 ++ ([e3] : List (Zae))), (IntKind.i64.wrap (a.1.2.2.2.1 + 1)), ()), (a.2.1, a.2.2.1, (), ())))
 else none)
 else
 some (.inl (((), (), a.1.2.2.1, (IntKind.i64.wrap (a.1.2.2.2.1 + 1)), ()), (a.2.1, a.2.2.1, (), ()))))
 else
 some (.inr ((a.1.2.2.1, ()), (a.2.1, a.2.2.1, (), (), ()))))
noncomputable def Zda : LE CT Tryz.prog := ⟨3, [0, 3, 5, 6], [.one (.ptr 0 0), .one (.ptr 1 0), .one (.own 3 2), .one (.int .i64)], [.cobj 31 10, .cobj 36 4, .row 48 2], [⟨.exit 0, [5], [.one (.own 3 3)], [.cobj 31 10, .cobj 36 4, .dead, .row 48 2]⟩], Zca⟩
noncomputable def ZfI : List (LE CT Tryz.prog) := [Zda]
theorem ZhR : Zh5 Zda (Zg9 (Zbp Tryz.f27) 0) := fun A env h k z hk => ZdL (E := Zda) (Zad ZfH) (dr := ZfG) (lps := Zaq ZfI) (Zai (by kernel_rfl)) (fun a => by kernel_rfl) env h k z hk
noncomputable def Zc6 (x1 : Za5) (h0 : ZaI) : Option ((List (Zae)) × ((ZaI) × (Unit) × Unit)) :=
 (ZaP Zca (((), (), [], 0, ()), (h0, x1, (), ()))).bind fun b1 =>
 some (b1.1.1, (b1.2.1, (), ()))
noncomputable def ZfJ : CE CT Tryz.prog where
 f := 27
 args := [.one (.ptr 0 0), .cod 4]
 hs := [.cobj 31 10]
 res := .val (.one (.own 3 1))
 outs := [.cobj 31 10, .row 48 2]
 m := fun d dh => Zc6 d.2.1 dh.1
 ok := ZaN Zan Tryz.func27 (by kernel_rfl) (Zad ZfH) (dr := ZfG) (lps := Zaq ZfI) (Zao (Zcd (n := 1) (by kernel_rfl) fun i hi => match i, hi with | 0, _ => ZdM (E := Zda) (by kernel_rfl) ZhR)) (fun d dh => by kernel_rfl)
def Ze7 : Nat -> Nat -> DrA
 | 6, _ => ⟨[1, 2, 3, 5, 0, 4, 6, 7, 8, 9, 10], [[], [], [1], [1, 2], [1, 2, 3], [], [1, 2, 3, 4, 5], [1, 2, 3, 4, 5, 6], [1, 2, 3, 4, 5, 6, 7], (List.range 9), (List.range 10)], [], [], [], false, []⟩
 | _, _ => ⟨[], [], [], [], [], false, []⟩
noncomputable def Ze8 : List (CE CT Tryz.prog) := [ZfJ, Zf6]
noncomputable def Zbx (a : ((Unit) × (Unit) × (List (Zae)) × (List (Zae)) × (Int) × Unit) × ((ZaI) × (Za5) × (Unit) × (Unit) × Unit)) : Option ((((Unit) × (Unit) × (List (Zae)) × (List (Zae)) × (Int) × Unit) × ((ZaI) × (Za5) × (Unit) × (Unit) × Unit)) ⊕ ((((Unit) × (List (Zae)) × (List (Zae)) × Unit) × ((ZaI) × (Za5) × (Unit) × (Unit) × (Unit) × (Unit) × Unit)))) :=
 (bif (decide ((a.1.2.2.2.2.1 : Int) < (a.2.1.l.length : Int))) then
 (Zdg a.2.1.l a.1.2.2.2.2.1).bind fun e1 =>
 (Zdm a.2.2.1 e1.key).bind fun r2 =>
 (bif (!r2.1) then
 (Zdg a.2.1.l a.1.2.2.2.2.1).bind fun e3 =>
 (if a.1.2.2.2.1.length + ([e3] : List (Zae)).length <= 140737488355328 /\ (a.1.2.2.2.1.length + ([e3] : List (Zae)).length) * 32 <= 140737488355328 then
 some (.inl (((), (), a.1.2.2.1, (a.1.2.2.2.1 ++ ([e3] : List (Zae))), (IntKind.i64.wrap (a.1.2.2.2.2.1 + 1)), ()), (a.2.1, a.2.2.1, (), (), ())))
 else none)
 else
 some (.inl (((), (), a.1.2.2.1, a.1.2.2.2.1, (IntKind.i64.wrap (a.1.2.2.2.2.1 + 1)), ()), (a.2.1, a.2.2.1, (), (), ()))))
 else
 some (.inr (((), a.1.2.2.1, a.1.2.2.2.1, ()), (a.2.1, a.2.2.1, (), (), (), (), ()))))
noncomputable def Zcr : LE CT Tryz.prog := ⟨4, [0, 3, 5, 6, 7], [.one (.ptr 0 0), .one (.ptr 1 0), .one (.own 3 2), .one (.own 3 3), .one (.int .i64)], [.cobj 31 10, .cobj 36 4, .row 48 2, .row 48 2], [⟨.exit 0, [0, 5, 6], [.one (.ptr 0 0), .one (.own 3 4), .one (.own 3 5)], [.cobj 31 10, .cobj 36 4, .dead, .dead, .row 48 2, .row 48 2]⟩], Zbx⟩
noncomputable def Ze9 : List (LE CT Tryz.prog) := [Zcr]
theorem Zg5 : Zh5 Zcr (Zg9 (Zbp Tryz.f28) 0) := fun A env h k z hk => ZdL (E := Zcr) (Zad Ze8) (dr := Ze7) (lps := Zaq Ze9) (Zai (by kernel_rfl)) (fun a => by kernel_rfl) env h k z hk
noncomputable def Zdo (x1 : Za5) (h0 : ZaI) : Option ((List (Zae)) × (((List (Zae)) × Unit) × (Unit) × (Unit) × Unit)) :=
 (Zc6 x1 h0).bind fun r1 =>
 (ZaP Zbx (((), (), r1.1, [], 0, ()), (r1.2.1, x1, (), (), ()))).bind fun b2 =>
 some (b2.1.2.1, ((b2.1.2.2.1, ()), (), (), ()))
noncomputable def Ziq : CE CT Tryz.prog where
 f := 28
 args := [.one (.ptr 0 0), .cod 4]
 hs := [.cobj 31 10]
 res := .val (.one (.own 3 1))
 outs := [.obj 31 [.own 3 2], .row 48 2, .row 48 2]
 m := fun d dh => Zdo d.2.1 dh.1
 ok := ZaN Zan Tryz.func28 (by kernel_rfl) (Zad Ze8) (dr := Ze7) (lps := Zaq Ze9) (Zao (Zcd (n := 1) (by kernel_rfl) fun i hi => match i, hi with | 0, _ => ZdM (E := Zcr) (by kernel_rfl) Zg5)) (fun d dh => by kernel_rfl)
def ZdX : Nat -> Nat -> DrA
 | _, _ => ⟨[], [], [], [], [], false, []⟩
noncomputable def ZdY : List (CE CT Tryz.prog) := [ZdW, Zi6]
noncomputable def ZcH (a : ((Unit) × (List (Zae)) × (List (Zae)) × (Int) × Unit) × ((ZaI) × Unit)) : Option ((((Unit) × (List (Zae)) × (List (Zae)) × (Int) × Unit) × ((ZaI) × Unit)) ⊕ ((((Int) × Unit) × ((ZaI) × Unit)) ⊕ (((Unit) × (List (Zae)) × (List (Zae)) × Unit) × ((ZaI) × Unit)))) :=
 (bif (decide ((a.1.2.2.2.1 : Int) < (a.1.2.1.length : Int))) then
 (Zdg a.1.2.1 a.1.2.2.2.1).bind fun e1 =>
 (ZbM e1).bind fun r2 =>
 (bif (!r2.1) then
 some (.inr (.inl ((2, ()), (a.2.1, ()))))
 else
 some (.inl (((), a.1.2.1, a.1.2.2.1, (IntKind.i64.wrap (a.1.2.2.2.1 + 1)), ()), (a.2.1, ()))))
 else
 some (.inr (.inr (((), a.1.2.1, a.1.2.2.1, ()), (a.2.1, ())))))
noncomputable def ZcI : LE CT Tryz.prog := ⟨3, [0, 1, 5, 6], [.one (.ptr 0 0), .one (.sl 3), .one (.sl 3), .one (.int .i64)], [.cobj 31 10], [⟨.ret, [4], [.one (.int .i64)], [.cobj 31 10]⟩, ⟨.exit 0, [0, 1, 5], [.one (.ptr 0 0), .one (.sl 3), .one (.sl 3)], [.cobj 31 10]⟩], ZcH⟩
noncomputable def ZbB (a : ((Unit) × (List (Zae)) × (List (Zae)) × (Int) × Unit) × ((ZaI) × Unit)) : Option ((((Unit) × (List (Zae)) × (List (Zae)) × (Int) × Unit) × ((ZaI) × Unit)) ⊕ ((((Unit) × (List (Zae)) × Unit) × ((ZaI) × Unit)))) :=
 (bif (decide ((a.1.2.2.2.1 : Int) < (a.1.2.1.length : Int))) then
 (Zdg a.1.2.1 a.1.2.2.2.1).bind fun e1 =>
 (ZbN a.1.2.2.1 e1).bind fun r2 =>
 some (.inl (((), a.1.2.1, r2.1, (IntKind.i64.wrap (a.1.2.2.2.1 + 1)), ()), (a.2.1, ())))
 else
 some (.inr (((), a.1.2.2.1, ()), (a.2.1, ()))))
noncomputable def ZcJ : LE CT Tryz.prog := ⟨8, [0, 1, 5, 7], [.one (.ptr 0 0), .one (.sl 3), .one (.sl 3), .one (.int .i64)], [.cobj 31 10], [⟨.exit 2, [0, 5], [.one (.ptr 0 0), .one (.sl 3)], [.cobj 31 10]⟩], ZbB⟩
noncomputable def ZdZ : List (LE CT Tryz.prog) := [ZcI, ZcJ]
theorem Zhc : Zh5 ZcI (Zg9 (Zbp Tryz.f19) 0) := fun A env h k z hk => ZdL (E := ZcI) (Zad ZdY) (dr := ZdX) (lps := Zaq ZdZ) (Zai (by kernel_rfl)) (fun a => by kernel_rfl) env h k z hk
theorem Zhd : Zh5 ZcJ (Zg9 (Zbp Tryz.f19) 1) := fun A env h k z hk => ZdL (E := ZcJ) (Zad ZdY) (dr := ZdX) (lps := Zaq ZdZ) (Zai (by kernel_rfl)) (fun a => by kernel_rfl) env h k z hk
noncomputable def Zdz (x1 : List (Zae)) (h0 : ZaI) : Option ((Int) × ((ZaI) × Unit)) :=
 (ZaP ZcH (((), x1, h0.l, 0, ()), (h0, ()))).bind fun b1 =>
 (match b1 with
 | .inl b2 =>
 some (b2.1.1, (b2.2.1, ()))
 | .inr b3 =>
 (ZaP ZbB (((), b3.1.2.1, b3.1.2.2.1, 0, ()), (b3.2.1, ()))).bind fun b4 =>
 (bif (decide ((400 : Int) < (b4.1.2.1.length : Int))) then
 some (8, (b4.2.1, ()))
 else
 some (0, ((⟨b4.1.2.1⟩ : ZaI), ()))))
noncomputable def Zi7 : CE CT Tryz.prog where
 f := 19
 args := [.one (.ptr 0 0), .one (.sl 3)]
 hs := [.cobj 31 10]
 res := .val (.one (.int .i64))
 outs := [.cobj 31 10]
 m := fun d dh => Zdz d.2.1 dh.1
 ok := ZaN Zan Tryz.func19 (by kernel_rfl) (Zad ZdY) (dr := ZdX) (lps := Zaq ZdZ) (Zao (Zcd (n := 2) (by kernel_rfl) fun i hi => match i, hi with | 0, _ => ZdM (E := ZcI) (by kernel_rfl) Zhc | 1, _ => ZdM (E := ZcJ) (by kernel_rfl) Zhd)) (fun d dh => by kernel_rfl)
def Zi8 : Nat -> Nat -> DrA
 | 3, _ => ⟨[0, 1, 4, 5, 2, 6, 3, 7, 8, 9], [[], [], [1], [0, 1, 2], [], [], [5], (List.range 7), (List.range 8), (List.range 9)], [6], [3], [3], false, []⟩
 | 5, _ => ⟨[0, 1, 4, 5, 2, 6, 3, 7, 8, 9], [[], [], [1], [0, 1, 2], [], [], [5], (List.range 7), (List.range 8), (List.range 9)], [6], [3], [3], false, []⟩
 | 7, _ => ⟨[0, 1, 3, 4, 5, 2, 6, 7, 8, 9, 10, 11, 12, 13, 14], [[], [], [0, 1], [], [], [4], (List.range 6), (List.range 7), (List.range 8), (List.range 9), (List.range 9), (List.range 9 ++ [10]), (List.range 12), (List.range 13), (List.range 14)], [5], [2], [3], false, []⟩
 | _, _ => ⟨[], [], [], [], [], false, []⟩
noncomputable def Zi9 : List (CE CT Tryz.prog) := [Zgw, Zim, ZfJ, Zbr, Zj5, Ziq, Zej, Zle, Zi7, ZeV]
noncomputable def Zja : List (LE CT Tryz.prog) := []
noncomputable def Zba (x2 : Zcg) (h0 : (Nat) × (Bool) × Unit) (h1 : ZaI) (h2 : List (Zae)) : Option ((Bool) × (((Nat) × (Bool) × Unit) × (ZaI) × (Unit) × (List (Zae)) × Unit)) :=
 (ZdH x2.kind 5).bind fun r1 =>
 (bif (decide ((r1.1 : Int) = 3)) then
 (Zj4 x2.span (h0.1, h0.2.1, ()) h2).bind fun r2 =>
 (Zc6 x2.span h1).bind fun r3 =>
 (ZaG r2.1 r3.1).bind fun r4 =>
 some (r4.1, ((r2.2.1.1, r2.2.1.2.1, ()), r3.2.1, (), r2.2.2.1, ()))
 else
 (bif (decide ((r1.1 : Int) = 4)) then
 (Zin x2.span (h0.1, h0.2.1, ()) h2).bind fun r5 =>
 (Zdo x2.span h1).bind fun r6 =>
 (ZaG r5.1 r6.1).bind fun r7 =>
 some (r7.1, ((r5.2.1.1, r5.2.1.2.1, ()), (⟨r6.2.1.1⟩ : ZaI), (), r5.2.2.2.2.1, ()))
 else
 (Zbf x2.rows).bind fun r8 =>
 (ZfT r8.1.1 (h0.1, h0.2.1, ()) h2).bind fun r9 =>
 (Zdz x2.rows h1).bind fun r10 =>
 (bif (decide ((r9.1 : Int) = r10.1)) then
 (Zb9 (r8.1.1, r8.1.2) x2.rows).bind fun r11 =>
 some (r11.1, ((r9.2.1.1, r9.2.1.2.1, ()), r10.2.1, (), r9.2.2.2.1, ()))
 else
 some (false, ((r9.2.1.1, r9.2.1.2.1, ()), r10.2.1, (), r9.2.2.2.1, ())))))
noncomputable def Zjb : CE CT Tryz.prog where
 f := 11
 args := [.one (.ptr 0 0), .one (.ptr 1 0), .cod 6]
 hs := [.obj 58 [.asz 3 2, .bool], .cobj 31 10, .arr 48 3 false]
 res := .val (.one (.bool))
 outs := [.obj 58 [.asz 3 3, .bool], .cobj 31 10, .dead, .arr 48 3 false]
 m := fun d dh => Zba d.2.2.1 dh.1 dh.2.1 dh.2.2.1
 ok := ZaN Zan Tryz.func11 (by kernel_rfl) (Zad Zi9) (dr := Zi8) (lps := Zaq Zja) (Zao (Zai (by kernel_rfl))) (fun d dh => by kernel_rfl)
def ZtN : Nat -> Nat -> DrA
 | _, _ => ⟨[], [], [], [], [], false, []⟩
noncomputable def ZtO : List (CE CT Tryz.prog) := [Zdj, ZmT]
noncomputable def ZtP : List (LE CT Tryz.prog) := []
noncomputable def Zjc (x1 : List UInt8) (h0 : (Nat) × (Bool) × Unit) (h1 : List (Zae)) : Option (((List UInt8) × (Bool) × Unit) × (((Nat) × (Bool) × Unit) × (List (Zae)) × Unit)) :=
 (Zey (h0.1, h0.2.1, ()) h1).bind fun r1 =>
 (bif (!r1.1) then
 some ((([] : List UInt8), false, ()), ((r1.2.1.1, r1.2.1.2.1, ()), r1.2.2.1, ()))
 else
 (Zil x1 (r1.2.1.1, r1.2.1.2.1, ()) r1.2.2.1).bind fun r2 =>
 (bif (!r2.1.2.1) then
 some ((([] : List UInt8), false, ()), ((r2.2.1.1, r2.2.1.2.1, ()), r2.2.2.1, ()))
 else
 (if 0 <= (r2.1.1 : Int) /\ (r2.1.1 : Int) < ((r2.2.1.1 : Nat) : Int) then
 (r2.2.2.1[(0 + (r2.1.1 : Int).toNat)]?).bind fun e3 =>
 some ((e3.value, true, ()), ((r2.2.1.1, r2.2.1.2.1, ()), r2.2.2.1, ()))
 else none)))
noncomputable def ZtQ : CE CT Tryz.prog where
 f := 13
 args := [.one (.ptr 0 0), .one (.str)]
 hs := [.obj 58 [.asz 3 1, .bool], .arr 48 3 true]
 res := .tup [.one (.str), .one (.bool)]
 outs := [.obj 58 [.asz 3 1, .bool], .arr 48 3 true]
 m := fun d dh => Zjc d.2.1 dh.1 dh.2.1
 ok := ZaN Zan Tryz.func13 (by kernel_rfl) (Zad ZtO) (dr := ZtN) (lps := Zaq ZtP) (Zao (Zai (by kernel_rfl))) (fun d dh => by kernel_rfl)
def Zgb : Nat -> Nat -> DrA
 | _, _ => ⟨[], [], [], [], [], false, []⟩
noncomputable def Zgc : List (CE CT Tryz.prog) := []
noncomputable def Zdp (a : ((Unit) × (List UInt8) × (Int) × Unit) × ((ZaI) × Unit)) : Option ((((Unit) × (List UInt8) × (Int) × Unit) × ((ZaI) × Unit)) ⊕ ((((List UInt8) × (Bool) × Unit) × ((ZaI) × Unit)) ⊕ ((Unit) × ((ZaI) × Unit)))) :=
 (bif (decide ((a.1.2.2.1 : Int) < (a.2.1.l.length : Int))) then
 (Zdg a.2.1.l a.1.2.2.1).bind fun e1 =>
 (bif (decide (e1.key = a.1.2.1)) then
 (Zdg a.2.1.l a.1.2.2.1).bind fun e2 =>
 some (.inr (.inl ((e2.value, true, ()), (a.2.1, ()))))
 else
 some (.inl (((), a.1.2.1, (IntKind.i64.wrap (a.1.2.2.1 + 1)), ()), (a.2.1, ()))))
 else
 some (.inr (.inr ((), (a.2.1, ())))))
noncomputable def Zdq : LE CT Tryz.prog := ⟨2, [0, 1, 6], [.one (.ptr 0 0), .one (.str), .one (.int .i64)], [.cobj 31 10], [⟨.ret, [4, 5], [.one (.str), .one (.bool)], [.cobj 31 10]⟩, ⟨.exit 0, [], [], [.cobj 31 10]⟩], Zdp⟩
noncomputable def Zgd : List (LE CT Tryz.prog) := [Zdq]
theorem Zir : Zh5 Zdq (Zg9 (Zbp Tryz.f14) 0) := fun A env h k z hk => ZdL (E := Zdq) (Zad Zgc) (dr := Zgb) (lps := Zaq Zgd) (Zai (by kernel_rfl)) (fun a => by kernel_rfl) env h k z hk
noncomputable def Zdr (x1 : List UInt8) (h0 : ZaI) : Option (((List UInt8) × (Bool) × Unit) × ((ZaI) × Unit)) :=
 (ZaP Zdp (((), x1, 0, ()), (h0, ()))).bind fun b1 =>
 (match b1 with
 | .inl b2 =>
 some ((b2.1.1, b2.1.2.1, ()), (b2.2.1, ()))
 | .inr b3 =>
 some ((([] : List UInt8), false, ()), (b3.2.1, ())))
noncomputable def Zka : CE CT Tryz.prog where
 f := 14
 args := [.one (.ptr 0 0), .one (.str)]
 hs := [.cobj 31 10]
 res := .tup [.one (.str), .one (.bool)]
 outs := [.cobj 31 10]
 m := fun d dh => Zdr d.2.1 dh.1
 ok := ZaN Zan Tryz.func14 (by kernel_rfl) (Zad Zgc) (dr := Zgb) (lps := Zaq Zgd) (Zao (Zcd (n := 1) (by kernel_rfl) fun i hi => match i, hi with | 0, _ => ZdM (E := Zdq) (by kernel_rfl) Zir)) (fun d dh => by kernel_rfl)
def Zis : Nat -> Nat -> DrA
 | 1, _ => ⟨[0, 2, 3, 4, 5, 6, 1, 7, 8, 9, 10, 12, 13, 14, 15, 11, 16, 17, 18], [[], [0], [], [2], [2, 3], [2, 3, 4], [2, 3, 4, 5], (List.range 7), (List.range 8), (List.range 9), (List.range 9), (List.range 11), (List.range 9), (List.range 9 ++ [12]), (List.range 9 ++ [12, 13]), (List.range 9 ++ [12, 13, 14]), (List.range 16), (List.range 17), (List.range 18)], [5, 15], [1, 11], [1], false, []⟩
 | _, _ => ⟨[], [], [], [], [], false, []⟩
noncomputable def Zit : List (CE CT Tryz.prog) := [ZhC, Zim, Zbr]
noncomputable def Ziu : List (LE CT Tryz.prog) := []
noncomputable def Zds (h0 : (Nat) × (Bool) × Unit) (h1 : (List (Zae)) × Unit) (h2 : List (Zae)) : Option ((Bool) × (((Nat) × (Bool) × Unit) × ((List (Zae)) × Unit) × (List (Zae)) × (Unit) × (Unit) × Unit)) :=
 (Zf2 (h0.1, h0.2.1, ()) h2).bind fun r1 =>
 (bif (decide ((r1.1 : Int) = (h1.1.length : Int))) then
 (Zj4 (⟨([] : List UInt8), ([] : List UInt8)⟩ : Za5) (r1.2.1.1, r1.2.1.2.1, ()) r1.2.2.1).bind fun r2 =>
 (ZaG r2.1 h1.1).bind fun r3 =>
 some (r3.1, ((r2.2.1.1, r2.2.1.2.1, ()), (h1.1, ()), r2.2.2.1, (), (), ()))
 else
 some (false, ((r1.2.1.1, r1.2.1.2.1, ()), (h1.1, ()), r1.2.2.1, (), (), ())))
noncomputable def Ziv : CE CT Tryz.prog where
 f := 12
 args := [.one (.ptr 0 0), .one (.ptr 1 0)]
 hs := [.obj 58 [.asz 3 2, .bool], .obj 31 [.own 3 3], .arr 48 3 true, .row 48 2]
 res := .val (.one (.bool))
 outs := [.obj 58 [.asz 3 2, .bool], .obj 31 [.own 3 4], .arr 48 3 true, .dead, .row 48 2]
 m := fun d dh => Zds dh.1 dh.2.1 dh.2.2.1
 ok := ZaN Zan Tryz.func12 (by kernel_rfl) (Zad Zit) (dr := Zis) (lps := Zaq Ziu) (Zao (Zai (by kernel_rfl))) (fun d dh => by kernel_rfl)
noncomputable def ZlP (x0 : Nat × Nat) (h0 : List (Zae)) : Option (Nat × (List (Zae) × List (Zae) × Unit)) :=
 if x0.1 + x0.2 <= h0.length /\ ((h0.drop x0.1).take x0.2).length <= 140737488355328 /\ ((h0.drop x0.1).take x0.2).length * 32 <= 140737488355328 then some (((h0.drop x0.1).take x0.2).length, (h0, ((h0.drop x0.1).take x0.2), ())) else none
noncomputable def Zsf : CE CT Tryz.prog where
 f := 26
 args := [.one (.asu 3 0)]
 hs := [.arr 48 3 true]
 res := .val (.one (.asz 3 1))
 outs := [.arr 48 3 true, .arr 48 3 false]
 m := fun d dh => ZlP d.1 dh.1
 ok := fun d dh r hr => by
  unfold ZlP at hr
  split at hr
  ·rename_i hc
   injection hr with hr
   subst hr
   have hroom := hc.2
   exact Tr.lendArr (fun x => rfl) (U0 := fun _ => True) (Tr.kp0 (ZrF Zan Tryz.func26 (by kernel_rfl) rfl rfl (zv := .agg #[.string ⟨#[]⟩, .string ⟨#[]⟩]) (he := by kernel_rfl) (hsz := by kernel_rfl) (hz := by kernel_rfl) (hby := by kernel_rfl) rfl rfl (zt := ((⟨([] : List UInt8), ([] : List UInt8)⟩ : Zae) : Zae)) ((dh.1.drop d.1.1).take d.1.2) (by kernel_rfl) hroom)) (ZtA (Nat.le_trans (Nat.le_of_eq rfl) hc.1)) rfl
  ·cases hr
def Zsg : Nat -> Nat -> DrA
 | 3, _ => ⟨(List.range 10), [[], [0], [0, 1], [], [0, 1, 2, 3], (List.range 5), (List.range 6), (List.range 6), (List.range 7), (List.range 9)], [], [], [], false, []⟩
 | _, _ => ⟨[], [], [], [], [], false, []⟩
noncomputable def Zsh : List (CE CT Tryz.prog) := [Zdj, ZhL, Zsf]
noncomputable def Zsi : List (LE CT Tryz.prog) := []
noncomputable def Zkb (x1 : Za5) (h0 : (Nat) × (Bool) × Unit) (h1 : List (Zae)) : Option ((Nat) × (((Nat) × (Bool) × Unit) × (List (Zae)) × (List (Zae)) × Unit)) :=
 (Zey (h0.1, h0.2.1, ()) h1).bind fun r1 =>
 (bif (!r1.1) then
 some (0, ((r1.2.1.1, r1.2.1.2.1, ()), r1.2.2.1, [], ()))
 else
 (ZfR x1 (r1.2.1.1, r1.2.1.2.1, ()) r1.2.2.1).bind fun r2 =>
 (if 0 <= ((r2.1.1 : Int) : Int) /\ ((r2.1.1 : Int) : Int) <= (r2.1.2.1 : Int) /\ (r2.1.2.1 : Int) <= ((r2.2.1.1 : Nat) : Int) /\ (r2.1.2.1 : Int) <= 140737488355328 then
 (ZlP ((0 + (r2.1.1 : Int).toNat), ((r2.1.2.1 : Int).toNat - (r2.1.1 : Int).toNat)) r2.2.2.1).bind fun r3 =>
 some (r3.1, ((r2.2.1.1, r2.2.1.2.1, ()), r3.2.1, r3.2.2.1, ()))
 else none))
noncomputable def Zsj : CE CT Tryz.prog where
 f := 16
 args := [.one (.ptr 0 0), .cod 4]
 hs := [.obj 58 [.asz 3 1, .bool], .arr 48 3 true]
 res := .val (.one (.asz 3 2))
 outs := [.obj 58 [.asz 3 1, .bool], .arr 48 3 true, .arr 48 3 false]
 m := fun d dh => Zkb d.2.1 dh.1 dh.2.1
 ok := ZaN Zan Tryz.func16 (by kernel_rfl) (Zad Zsh) (dr := Zsg) (lps := Zaq Zsi) (Zao (Zai (by kernel_rfl))) (fun d dh => by kernel_rfl)
def Zbk : Nat -> Nat -> DrA
 | _, _ => ⟨[], [], [], [], [], false, []⟩
noncomputable def ZbV : List (CE CT Tryz.prog) := [ZiR, ZdV, Zlc, Zgw, Zse, ZhP, Zjb, ZjG, ZtQ, Zka, Zsj, Zqn]
noncomputable def ZeF (a : ((List (Zcg)) × (List (Zcg)) × (List (List UInt8)) × (Unit) × (Unit) × (Int) × (Unit) × (Unit) × (Int) × Unit) × (((Nat) × (Bool) × Unit) × (ZaI) × ((List (Zae)) × Unit) × (List (Zae)) × (Unit) × Unit)) : Option (((((List (Zcg)) × (List (Zcg)) × (List (List UInt8)) × (Unit) × (Unit) × (Int) × (Unit) × (Unit) × (Int) × Unit) × (((Nat) × (Bool) × Unit) × (ZaI) × ((List (Zae)) × Unit) × (List (Zae)) × (Unit) × Unit)) ⊕ (((List (Zcg)) × (List (Zcg)) × (List (List UInt8)) × (Unit) × (Unit) × (Int) × (Unit) × (Unit) × (Int) × Unit) × (((Nat) × (Bool) × Unit) × (ZaI) × ((List (Zae)) × Unit) × ((Nat) × (Bool) × Unit) × (List (Zae)) × (Unit) × (List (Zae)) × Unit))) ⊕ ((((Bool) × Unit) × (((Nat) × (Bool) × Unit) × (ZaI) × ((List (Zae)) × Unit) × (Unit) × (Unit) × (List (Zae)) × (Unit) × Unit)) ⊕ (((List (Zcg)) × (List (List UInt8)) × (Unit) × (Unit) × (Unit) × (Unit) × Unit) × (((Nat) × (Bool) × Unit) × (ZaI) × ((List (Zae)) × Unit) × (Unit) × (Unit) × ((Nat) × (Bool) × Unit) × (List (Zae)) × (Unit) × (List (Zae)) × Unit)))) :=
 (bif (decide ((a.1.2.2.2.2.2.2.2.2.1 : Int) <= (a.1.1.length : Int))) then
 (bif (decide ((a.1.2.2.2.2.2.2.2.2.1 : Int) = a.1.2.2.2.2.2.1)) then
 (Zj6 (a.2.1.1, a.2.1.2.1, ()) a.2.2.2.2.1).bind fun r1 =>
 (Zb8 a.2.2.1.l).bind fun r2 =>
 (bif (decide ((a.1.2.2.2.2.2.2.2.2.1 : Int) < (a.1.1.length : Int))) then
 (Zdg a.1.1 a.1.2.2.2.2.2.2.2.2.1).bind fun e3 =>
 (Zba e3 (r1.2.1.1, r1.2.1.2.1, ()) a.2.2.1 r1.2.2.1).bind fun r4 =>
 (bif (!r4.1) then
 some (.inr (.inl ((false, ()), ((r4.2.1.1, r4.2.1.2.1, ()), r4.2.2.1, (r2.1, ()), (), (), r4.2.2.2.2.1, (), ()))))
 else
 (ZaO (r4.2.1.1, r4.2.1.2.1, ()) r4.2.2.1 r4.2.2.2.2.1).bind fun r5 =>
 (bif (!r5.1) then
 some (.inr (.inl ((false, ()), ((r5.2.1.1, r5.2.1.2.1, ()), r5.2.2.1, (r2.1, ()), (), (), r5.2.2.2.1, (), ()))))
 else
 some (.inl (.inr ((a.1.1, a.1.2.1, a.1.2.2.1, (), (), a.1.2.2.2.2.2.1, (), (), (IntKind.i64.wrap (a.1.2.2.2.2.2.2.2.2.1 + 1)), ()), ((r5.2.1.1, r5.2.1.2.1, ()), r5.2.2.1, (r2.1, ()), (r1.2.2.2.1.1, r1.2.2.2.1.2.1, ()), r5.2.2.2.1, (), r1.2.2.2.2.1, ()))))))
 else
 some (.inl (.inr ((a.1.1, a.1.2.1, a.1.2.2.1, (), (), a.1.2.2.2.2.2.1, (), (), (IntKind.i64.wrap (a.1.2.2.2.2.2.2.2.2.1 + 1)), ()), ((r1.2.1.1, r1.2.1.2.1, ()), a.2.2.1, (r2.1, ()), (r1.2.2.2.1.1, r1.2.2.2.1.2.1, ()), r1.2.2.1, (), r1.2.2.2.2.1, ())))))
 else
 (bif (decide ((a.1.2.2.2.2.2.2.2.2.1 : Int) < (a.1.1.length : Int))) then
 (Zdg a.1.1 a.1.2.2.2.2.2.2.2.2.1).bind fun e6 =>
 (Zba e6 (a.2.1.1, a.2.1.2.1, ()) a.2.2.1 a.2.2.2.2.1).bind fun r7 =>
 (bif (!r7.1) then
 some (.inr (.inl ((false, ()), ((r7.2.1.1, r7.2.1.2.1, ()), r7.2.2.1, (a.2.2.2.1.1, ()), (), (), r7.2.2.2.2.1, (), ()))))
 else
 (ZaO (r7.2.1.1, r7.2.1.2.1, ()) r7.2.2.1 r7.2.2.2.2.1).bind fun r8 =>
 (bif (!r8.1) then
 some (.inr (.inl ((false, ()), ((r8.2.1.1, r8.2.1.2.1, ()), r8.2.2.1, (a.2.2.2.1.1, ()), (), (), r8.2.2.2.1, (), ()))))
 else
 some (.inl (.inl ((a.1.1, a.1.2.1, a.1.2.2.1, (), (), a.1.2.2.2.2.2.1, (), (), (IntKind.i64.wrap (a.1.2.2.2.2.2.2.2.2.1 + 1)), ()), ((r8.2.1.1, r8.2.1.2.1, ()), r8.2.2.1, (a.2.2.2.1.1, ()), r8.2.2.2.1, (), ()))))))
 else
 some (.inl (.inl ((a.1.1, a.1.2.1, a.1.2.2.1, (), (), a.1.2.2.2.2.2.1, (), (), (IntKind.i64.wrap (a.1.2.2.2.2.2.2.2.2.1 + 1)), ()), ((a.2.1.1, a.2.1.2.1, ()), a.2.2.1, (a.2.2.2.1.1, ()), a.2.2.2.2.1, (), ()))))))
 else
 none)
noncomputable def Zek (a : ((List (Zcg)) × (List (Zcg)) × (List (List UInt8)) × (Unit) × (Unit) × (Int) × (Unit) × (Unit) × (Int) × Unit) × (((Nat) × (Bool) × Unit) × (ZaI) × ((List (Zae)) × Unit) × ((Nat) × (Bool) × Unit) × (List (Zae)) × (Unit) × (List (Zae)) × Unit)) : Option (((((List (Zcg)) × (List (Zcg)) × (List (List UInt8)) × (Unit) × (Unit) × (Int) × (Unit) × (Unit) × (Int) × Unit) × (((Nat) × (Bool) × Unit) × (ZaI) × ((List (Zae)) × Unit) × (List (Zae)) × (Unit) × Unit)) ⊕ (((List (Zcg)) × (List (Zcg)) × (List (List UInt8)) × (Unit) × (Unit) × (Int) × (Unit) × (Unit) × (Int) × Unit) × (((Nat) × (Bool) × Unit) × (ZaI) × ((List (Zae)) × Unit) × ((Nat) × (Bool) × Unit) × (List (Zae)) × (Unit) × (List (Zae)) × Unit))) ⊕ ((((Bool) × Unit) × (((Nat) × (Bool) × Unit) × (ZaI) × ((List (Zae)) × Unit) × (Unit) × (Unit) × (List (Zae)) × (Unit) × Unit)) ⊕ (((List (Zcg)) × (List (List UInt8)) × (Unit) × (Unit) × (Unit) × (Unit) × Unit) × (((Nat) × (Bool) × Unit) × (ZaI) × ((List (Zae)) × Unit) × (Unit) × (Unit) × ((Nat) × (Bool) × Unit) × (List (Zae)) × (Unit) × (List (Zae)) × Unit)))) :=
 (bif (decide ((a.1.2.2.2.2.2.2.2.2.1 : Int) <= (a.1.1.length : Int))) then
 (bif (decide ((a.1.2.2.2.2.2.2.2.2.1 : Int) = a.1.2.2.2.2.2.1)) then
 (Zj6 (a.2.1.1, a.2.1.2.1, ()) a.2.2.2.2.2.1).bind fun r1 =>
 (Zb8 a.2.2.1.l).bind fun r2 =>
 (bif (decide ((a.1.2.2.2.2.2.2.2.2.1 : Int) < (a.1.1.length : Int))) then
 (Zdg a.1.1 a.1.2.2.2.2.2.2.2.2.1).bind fun e3 =>
 (Zba e3 (r1.2.1.1, r1.2.1.2.1, ()) a.2.2.1 r1.2.2.1).bind fun r4 =>
 (bif (!r4.1) then
 some (.inr (.inl ((false, ()), ((r4.2.1.1, r4.2.1.2.1, ()), r4.2.2.1, (r2.1, ()), (), (), r4.2.2.2.2.1, (), ()))))
 else
 (ZaO (r4.2.1.1, r4.2.1.2.1, ()) r4.2.2.1 r4.2.2.2.2.1).bind fun r5 =>
 (bif (!r5.1) then
 some (.inr (.inl ((false, ()), ((r5.2.1.1, r5.2.1.2.1, ()), r5.2.2.1, (r2.1, ()), (), (), r5.2.2.2.1, (), ()))))
 else
 some (.inl (.inr ((a.1.1, a.1.2.1, a.1.2.2.1, (), (), a.1.2.2.2.2.2.1, (), (), (IntKind.i64.wrap (a.1.2.2.2.2.2.2.2.2.1 + 1)), ()), ((r5.2.1.1, r5.2.1.2.1, ()), r5.2.2.1, (r2.1, ()), (r1.2.2.2.1.1, r1.2.2.2.1.2.1, ()), r5.2.2.2.1, (), r1.2.2.2.2.1, ()))))))
 else
 some (.inl (.inr ((a.1.1, a.1.2.1, a.1.2.2.1, (), (), a.1.2.2.2.2.2.1, (), (), (IntKind.i64.wrap (a.1.2.2.2.2.2.2.2.2.1 + 1)), ()), ((r1.2.1.1, r1.2.1.2.1, ()), a.2.2.1, (r2.1, ()), (r1.2.2.2.1.1, r1.2.2.2.1.2.1, ()), r1.2.2.1, (), r1.2.2.2.2.1, ())))))
 else
 (bif (decide ((a.1.2.2.2.2.2.2.2.2.1 : Int) < (a.1.1.length : Int))) then
 (Zdg a.1.1 a.1.2.2.2.2.2.2.2.2.1).bind fun e6 =>
 (Zba e6 (a.2.1.1, a.2.1.2.1, ()) a.2.2.1 a.2.2.2.2.2.1).bind fun r7 =>
 (bif (!r7.1) then
 some (.inr (.inl ((false, ()), ((r7.2.1.1, r7.2.1.2.1, ()), r7.2.2.1, (a.2.2.2.1.1, ()), (), (), r7.2.2.2.2.1, (), ()))))
 else
 (ZaO (r7.2.1.1, r7.2.1.2.1, ()) r7.2.2.1 r7.2.2.2.2.1).bind fun r8 =>
 (bif (!r8.1) then
 some (.inr (.inl ((false, ()), ((r8.2.1.1, r8.2.1.2.1, ()), r8.2.2.1, (a.2.2.2.1.1, ()), (), (), r8.2.2.2.1, (), ()))))
 else
 some (.inl (.inr ((a.1.1, a.1.2.1, a.1.2.2.1, (), (), a.1.2.2.2.2.2.1, (), (), (IntKind.i64.wrap (a.1.2.2.2.2.2.2.2.2.1 + 1)), ()), ((r8.2.1.1, r8.2.1.2.1, ()), r8.2.2.1, (a.2.2.2.1.1, ()), (a.2.2.2.2.1.1, a.2.2.2.2.1.2.1, ()), r8.2.2.2.1, (), a.2.2.2.2.2.2.2.1, ()))))))
 else
 some (.inl (.inr ((a.1.1, a.1.2.1, a.1.2.2.1, (), (), a.1.2.2.2.2.2.1, (), (), (IntKind.i64.wrap (a.1.2.2.2.2.2.2.2.2.1 + 1)), ()), ((a.2.1.1, a.2.1.2.1, ()), a.2.2.1, (a.2.2.2.1.1, ()), (a.2.2.2.2.1.1, a.2.2.2.2.1.2.1, ()), a.2.2.2.2.2.1, (), a.2.2.2.2.2.2.2.1, ()))))))
 else
 some (.inr (.inr ((a.1.2.1, a.1.2.2.1, (), (), (), (), ()), ((a.2.1.1, a.2.1.2.1, ()), a.2.2.1, (a.2.2.2.1.1, ()), (), (), (a.2.2.2.2.1.1, a.2.2.2.2.1.2.1, ()), a.2.2.2.2.2.1, (), a.2.2.2.2.2.2.2.1, ())))))
noncomputable def ZaW (s : (((List (Zcg)) × (List (Zcg)) × (List (List UInt8)) × (Unit) × (Unit) × (Int) × (Unit) × (Unit) × (Int) × Unit) × (((Nat) × (Bool) × Unit) × (ZaI) × ((List (Zae)) × Unit) × (List (Zae)) × (Unit) × Unit)) ⊕ (((List (Zcg)) × (List (Zcg)) × (List (List UInt8)) × (Unit) × (Unit) × (Int) × (Unit) × (Unit) × (Int) × Unit) × (((Nat) × (Bool) × Unit) × (ZaI) × ((List (Zae)) × Unit) × ((Nat) × (Bool) × Unit) × (List (Zae)) × (Unit) × (List (Zae)) × Unit))) : Option (((((List (Zcg)) × (List (Zcg)) × (List (List UInt8)) × (Unit) × (Unit) × (Int) × (Unit) × (Unit) × (Int) × Unit) × (((Nat) × (Bool) × Unit) × (ZaI) × ((List (Zae)) × Unit) × (List (Zae)) × (Unit) × Unit)) ⊕ (((List (Zcg)) × (List (Zcg)) × (List (List UInt8)) × (Unit) × (Unit) × (Int) × (Unit) × (Unit) × (Int) × Unit) × (((Nat) × (Bool) × Unit) × (ZaI) × ((List (Zae)) × Unit) × ((Nat) × (Bool) × Unit) × (List (Zae)) × (Unit) × (List (Zae)) × Unit))) ⊕ ((((Bool) × Unit) × (((Nat) × (Bool) × Unit) × (ZaI) × ((List (Zae)) × Unit) × (Unit) × (Unit) × (List (Zae)) × (Unit) × Unit)) ⊕ (((List (Zcg)) × (List (List UInt8)) × (Unit) × (Unit) × (Unit) × (Unit) × Unit) × (((Nat) × (Bool) × Unit) × (ZaI) × ((List (Zae)) × Unit) × (Unit) × (Unit) × ((Nat) × (Bool) × Unit) × (List (Zae)) × (Unit) × (List (Zae)) × Unit)))) := match s with
 | .inl a => ZeF a
 | .inr a => Zek a
noncomputable def ZbW : LE2 CT Tryz.prog := ⟨8, [0, 2, 3, 9, 10, 11, 12, 13, 14], [.one (.sl 6), .one (.sl 6), .one (.sl 2), .one (.ptr 0 0), .one (.ptr 1 0), .one (.int .i64), .one (.nilptr), .one (.ptr 2 0), .one (.int .i64)], [.obj 58 [.asz 3 3, .bool], .cobj 31 10, .obj 31 [.own 3 4], .arr 48 3 false, .row 48 2], [.one (.sl 6), .one (.sl 6), .one (.sl 2), .one (.ptr 0 0), .one (.ptr 1 0), .one (.int .i64), .one (.ptr 3 0), .one (.ptr 2 0), .one (.int .i64)], [.obj 58 [.asz 3 4, .bool], .cobj 31 10, .obj 31 [.own 3 5], .obj 58 [.asz 3 6, .bool], .arr 48 3 false, .row 48 2, .arr 48 3 false], [⟨.ret, [8], [.one (.bool)], [.obj 58 [.asz 3 5, .bool], .cobj 31 10, .obj 31 [.own 3 6], .dead, .dead, .arr 48 3 false, .row 48 2]⟩, ⟨.exit 0, [2, 3, 9, 10, 12, 13], [.one (.sl 6), .one (.sl 2), .one (.ptr 0 0), .one (.ptr 1 0), .one (.ptr 5 0), .one (.ptr 2 0)], [.obj 58 [.asz 3 6, .bool], .cobj 31 10, .obj 31 [.own 3 7], .dead, .dead, .obj 58 [.asz 3 8, .bool], .arr 48 3 false, .row 48 2, .arr 48 3 false]⟩], ZaW, rfl⟩
noncomputable def Zbl (a : ((List (Zcg)) × (List (List UInt8)) × (Unit) × (Unit) × (Unit) × (Unit) × (Int) × Unit) × (((Nat) × (Bool) × Unit) × (ZaI) × ((Nat) × (Bool) × Unit) × (ZaI) × (List (Zae)) × (List (Zae)) × Unit)) : Option ((((List (Zcg)) × (List (List UInt8)) × (Unit) × (Unit) × (Unit) × (Unit) × (Int) × Unit) × (((Nat) × (Bool) × Unit) × (ZaI) × ((Nat) × (Bool) × Unit) × (ZaI) × (List (Zae)) × (List (Zae)) × Unit)) ⊕ ((((Bool) × Unit) × (((Nat) × (Bool) × Unit) × (ZaI) × ((Nat) × (Bool) × Unit) × (ZaI) × (Unit) × (Unit) × (List (Zae)) × (List (Zae)) × Unit)) ⊕ (((List (List UInt8)) × (Unit) × (Unit) × (Unit) × (Unit) × Unit) × (((Nat) × (Bool) × Unit) × (ZaI) × ((Nat) × (Bool) × Unit) × (ZaI) × (Unit) × (Unit) × (List (Zae)) × (List (Zae)) × Unit)))) :=
 (bif (decide ((a.1.2.2.2.2.2.2.1 : Int) < (a.1.1.length : Int))) then
 (Zdg a.1.1 a.1.2.2.2.2.2.2.1).bind fun e1 =>
 (Zba e1 (a.2.2.2.1.1, a.2.2.2.1.2.1, ()) a.2.2.2.2.1 a.2.2.2.2.2.2.1).bind fun r2 =>
 (bif (!r2.1) then
 some (.inr (.inl ((false, ()), ((a.2.1.1, a.2.1.2.1, ()), a.2.2.1, (r2.2.1.1, r2.2.1.2.1, ()), r2.2.2.1, (), (), a.2.2.2.2.2.1, r2.2.2.2.2.1, ()))))
 else
 (ZaO (r2.2.1.1, r2.2.1.2.1, ()) r2.2.2.1 r2.2.2.2.2.1).bind fun r3 =>
 (bif (!r3.1) then
 some (.inr (.inl ((false, ()), ((a.2.1.1, a.2.1.2.1, ()), a.2.2.1, (r3.2.1.1, r3.2.1.2.1, ()), r3.2.2.1, (), (), a.2.2.2.2.2.1, r3.2.2.2.1, ()))))
 else
 some (.inl ((a.1.1, a.1.2.1, (), (), (), (), (IntKind.i64.wrap (a.1.2.2.2.2.2.2.1 + 1)), ()), ((a.2.1.1, a.2.1.2.1, ()), a.2.2.1, (r3.2.1.1, r3.2.1.2.1, ()), r3.2.2.1, a.2.2.2.2.2.1, r3.2.2.2.1, ())))))
 else
 some (.inr (.inr ((a.1.2.1, (), (), (), (), ()), ((a.2.1.1, a.2.1.2.1, ()), a.2.2.1, (a.2.2.2.1.1, a.2.2.2.1.2.1, ()), a.2.2.2.2.1, (), (), a.2.2.2.2.2.1, a.2.2.2.2.2.2.1, ())))))
noncomputable def ZbX : LE CT Tryz.prog := ⟨16, [2, 3, 9, 10, 12, 13, 15], [.one (.sl 6), .one (.sl 2), .one (.ptr 0 0), .one (.ptr 1 0), .one (.ptr 2 0), .one (.ptr 3 0), .one (.int .i64)], [.obj 58 [.asz 3 4, .bool], .cobj 31 10, .obj 58 [.asz 3 5, .bool], .cobj 31 10, .arr 48 3 false, .arr 48 3 false], [⟨.ret, [8], [.one (.bool)], [.obj 58 [.asz 3 6, .bool], .cobj 31 10, .obj 58 [.asz 3 7, .bool], .cobj 31 10, .dead, .dead, .arr 48 3 false, .arr 48 3 false]⟩, ⟨.exit 2, [3, 9, 10, 12, 13], [.one (.sl 2), .one (.ptr 0 0), .one (.ptr 1 0), .one (.ptr 2 0), .one (.ptr 3 0)], [.obj 58 [.asz 3 6, .bool], .cobj 31 10, .obj 58 [.asz 3 7, .bool], .cobj 31 10, .dead, .dead, .arr 48 3 false, .arr 48 3 false]⟩], Zbl⟩
noncomputable def ZbY (a : ((List (List UInt8)) × (Unit) × (Unit) × (Unit) × (Unit) × (Int) × Unit) × (((Nat) × (Bool) × Unit) × (ZaI) × ((Nat) × (Bool) × Unit) × (ZaI) × (List (Zae)) × (List (Zae)) × Unit)) : Option ((((List (List UInt8)) × (Unit) × (Unit) × (Unit) × (Unit) × (Int) × Unit) × (((Nat) × (Bool) × Unit) × (ZaI) × ((Nat) × (Bool) × Unit) × (ZaI) × (List (Zae)) × (List (Zae)) × Unit)) ⊕ ((((Bool) × Unit) × (((Nat) × (Bool) × Unit) × (ZaI) × ((Nat) × (Bool) × Unit) × (ZaI) × (Unit) × (Unit) × (List (Zae)) × (List (Zae)) × Unit)) ⊕ (((Unit) × (Unit) × (Unit) × (Unit) × Unit) × (((Nat) × (Bool) × Unit) × (ZaI) × ((Nat) × (Bool) × Unit) × (ZaI) × (Unit) × (Unit) × (List (Zae)) × (List (Zae)) × Unit)))) :=
 (bif (decide ((a.1.2.2.2.2.2.1 : Int) < (a.1.1.length : Int))) then
 (Zdg a.1.1 a.1.2.2.2.2.2.1).bind fun e1 =>
 (Zjc e1 (a.2.1.1, a.2.1.2.1, ()) a.2.2.2.2.2.1).bind fun r2 =>
 (Zdg a.1.1 a.1.2.2.2.2.2.1).bind fun e3 =>
 (Zdr e3 a.2.2.1).bind fun r4 =>
 (bif (decide (r2.1.2.1 ≠ r4.1.2.1)) then
 some (.inr (.inl ((false, ()), ((r2.2.1.1, r2.2.1.2.1, ()), r4.2.1, (a.2.2.2.1.1, a.2.2.2.1.2.1, ()), a.2.2.2.2.1, (), (), r2.2.2.1, a.2.2.2.2.2.2.1, ()))))
 else
 (bif (decide (r2.1.1 ≠ r4.1.1)) then
 some (.inr (.inl ((false, ()), ((r2.2.1.1, r2.2.1.2.1, ()), r4.2.1, (a.2.2.2.1.1, a.2.2.2.1.2.1, ()), a.2.2.2.2.1, (), (), r2.2.2.1, a.2.2.2.2.2.2.1, ()))))
 else
 some (.inl ((a.1.1, (), (), (), (), (IntKind.i64.wrap (a.1.2.2.2.2.2.1 + 1)), ()), ((r2.2.1.1, r2.2.1.2.1, ()), r4.2.1, (a.2.2.2.1.1, a.2.2.2.1.2.1, ()), a.2.2.2.2.1, r2.2.2.1, a.2.2.2.2.2.2.1, ())))))
 else
 some (.inr (.inr (((), (), (), (), ()), ((a.2.1.1, a.2.1.2.1, ()), a.2.2.1, (a.2.2.2.1.1, a.2.2.2.1.2.1, ()), a.2.2.2.2.1, (), (), a.2.2.2.2.2.1, a.2.2.2.2.2.2.1, ())))))
noncomputable def ZbZ : LE CT Tryz.prog := ⟨21, [3, 9, 10, 12, 13, 16], [.one (.sl 2), .one (.ptr 0 0), .one (.ptr 1 0), .one (.ptr 2 0), .one (.ptr 3 0), .one (.int .i64)], [.obj 58 [.asz 3 4, .bool], .cobj 31 10, .obj 58 [.asz 3 5, .bool], .cobj 31 10, .arr 48 3 false, .arr 48 3 false], [⟨.ret, [8], [.one (.bool)], [.obj 58 [.asz 3 6, .bool], .cobj 31 10, .obj 58 [.asz 3 7, .bool], .cobj 31 10, .dead, .dead, .arr 48 3 false, .arr 48 3 false]⟩, ⟨.exit 4, [9, 10, 12, 13], [.one (.ptr 0 0), .one (.ptr 1 0), .one (.ptr 2 0), .one (.ptr 3 0)], [.obj 58 [.asz 3 6, .bool], .cobj 31 10, .obj 58 [.asz 3 7, .bool], .cobj 31 10, .dead, .dead, .arr 48 3 false, .arr 48 3 false]⟩], ZbY⟩
noncomputable def Zb0 : List (LE CT Tryz.prog) := [ZbX, ZbZ]
noncomputable def Zhe : List (LE2 CT Tryz.prog) := [ZbW]
theorem Zgn : ∀ {A : Type} (env : XE Ty) (h : List (HI Ty)) (k : XK Ty A) (z : A), ZpK ZbW env h k = some z -> ∃ ex env2 h2, k ex env2 h2 = some z /\ Zjs CT Tryz.prog (.loop (Zg9 (Zbp Tryz.f3) 0)) env h ex env2 h2 := fun env h k z hk => ZAe (E := ZbW) (Zad ZbV) (dr := Zbk) (dr2 := Zbk) (lps := Zaq Zb0) (Zai (by kernel_rfl)) (fun a => by kernel_rfl) (fun a => by kernel_rfl) env h k z hk
theorem Zgo : Zh5 ZbX (Zg9 (Zbp Tryz.f3) 1) := fun A env h k z hk => ZdL (E := ZbX) (Zad ZbV) (dr := Zbk) (lps := Zaq Zb0) (Zai (by kernel_rfl)) (fun a => by kernel_rfl) env h k z hk
theorem Zgp : Zh5 ZbZ (Zg9 (Zbp Tryz.f3) 2) := fun A env h k z hk => ZdL (E := ZbZ) (Zad ZbV) (dr := Zbk) (lps := Zaq Zb0) (Zai (by kernel_rfl)) (fun a => by kernel_rfl) env h k z hk
noncomputable def ZcK (x0 : List (Zcg)) (x1 : Int) (x2 : List (Zcg)) (x3 : List (List UInt8)) : Option ((Bool) × (Unit)) :=
 (Zcx x0).bind fun r1 =>
 (bif (!r1.1) then
 (ZaK).bind fun r2 =>
 some (r2.1, ())
 else
 (Zcx x2).bind fun r3 =>
 (bif (!r3.1) then
 (ZaK).bind fun r4 =>
 some (r4.1, ())
 else
 (bif (decide ((200 : Int) < (x3.length : Int))) then
 (ZaK).bind fun r5 =>
 some (r5.1, ())
 else
 (Znx).bind fun r6 =>
 (ZdH x1 (IntKind.i64.wrap ((x0.length : Int) + 1))).bind fun r7 =>
 (ZaP ZaW (.inl ((x0, x2, x3, (), (), r7.1, (), (), 0, ()), ((r6.2.1.1, r6.2.1.2.1, ()), (⟨[]⟩ : ZaI), ([], ()), r6.2.2.1, (), ())))).bind fun b9 =>
 (match b9 with
 | .inl b10 =>
 some (b10.1.1, ())
 | .inr b11 =>
 (ZaP Zbl ((b11.1.1, b11.1.2.1, (), (), (), (), 0, ()), ((b11.2.1.1, b11.2.1.2.1, ()), b11.2.2.1, (b11.2.2.2.2.2.2.1.1, b11.2.2.2.2.2.2.1.2.1, ()), (⟨b11.2.2.2.1.1⟩ : ZaI), b11.2.2.2.2.2.2.2.1, b11.2.2.2.2.2.2.2.2.2.1, ()))).bind fun b12 =>
 (match b12 with
 | .inl b13 =>
 some (b13.1.1, ())
 | .inr b14 =>
 (ZaP ZbY ((b14.1.1, (), (), (), (), 0, ()), ((b14.2.1.1, b14.2.1.2.1, ()), b14.2.2.1, (b14.2.2.2.1.1, b14.2.2.2.1.2.1, ()), b14.2.2.2.2.1, b14.2.2.2.2.2.2.2.1, b14.2.2.2.2.2.2.2.2.1, ()))).bind fun b15 =>
 (match b15 with
 | .inl b16 =>
 some (b16.1.1, ())
 | .inr b17 =>
 (ZaO (b17.2.1.1, b17.2.1.2.1, ()) b17.2.2.1 b17.2.2.2.2.2.2.2.1).bind fun r18 =>
 (bif r18.1 then
 (ZaO (b17.2.2.2.1.1, b17.2.2.2.1.2.1, ()) b17.2.2.2.2.1 b17.2.2.2.2.2.2.2.2.1).bind fun r19 =>
 (bif r19.1 then
 (Zkb (⟨([] : List UInt8), ([] : List UInt8)⟩ : Za5) (r18.2.1.1, r18.2.1.2.1, ()) r18.2.2.2.1).bind fun r20 =>
 (Zkb (⟨([] : List UInt8), ([] : List UInt8)⟩ : Za5) (r20.2.1.1, r20.2.1.2.1, ()) r20.2.2.1).bind fun r21 =>
 (Zif (r20.1, r21.1, ()) r20.2.2.2.1 r21.2.2.2.1).bind fun r22 =>
 (bif r22.1 then
 (ZaO (r21.2.1.1, r21.2.1.2.1, ()) r18.2.2.1 r21.2.2.1).bind fun r23 =>
 (bif r23.1 then
 (ZaK).bind fun r24 =>
 some (r24.1, ())
 else
 some (false, ()))
 else
 some (false, ()))
 else
 some (false, ()))
 else
 some (false, ()))))))))
noncomputable def Zhf : CE CT Tryz.prog where
 f := 3
 args := [.one (.sl 6), .one (.int .i64), .one (.sl 6), .one (.sl 2)]
 hs := []
 res := .val (.one (.bool))
 outs := []
 m := fun d dh => ZcK d.1 d.2.1 d.2.2.1 d.2.2.2.1
 ok := ZaN Zan Tryz.func3 (by kernel_rfl) (Zad ZbV) (dr := Zbk) (lps := ZBK Zhe (Zaq Zb0)) (Zao (Zcd (n := 3) (by kernel_rfl) fun i hi => match i, hi with | 0, _ => ZuO (E := ZbW) (by kernel_rfl) Zgn | 1, _ => Zoh (by kernel_rfl) (ZdM (E := ZbX) (by kernel_rfl) Zgo) | 2, _ => Zoh (by kernel_rfl) (ZdM (E := ZbZ) (by kernel_rfl) Zgp))) (fun d dh => by kernel_rfl)
def Zmq : Nat -> Nat -> DrA
 | _, _ => ⟨[], [], [], [], [], false, []⟩
noncomputable def Zmr : List (CE CT Tryz.prog) := []
noncomputable def Zms : List (LE CT Tryz.prog) := []
noncomputable def ZkU  : Option ((Unit) × (((Bool) × (Bool) × (List (UInt8)) × Unit) × (Unit) × Unit)) :=
 some ((), ((true, false, [], ()), (), ()))
noncomputable def Zmt : CE CT Tryz.prog where
 f := 36
 args := []
 hs := []
 res := .val (.one (.ptr 0 0))
 outs := [.obj 145 [.bool, .bool, .own 1 1], .row 5 1]
 m := fun d dh => ZkU
 ok := ZaN Zan Tryz.func36 (by kernel_rfl) (Zad Zmr) (dr := Zmq) (lps := Zaq Zms) (Zao (Zai (by kernel_rfl))) (fun d dh => by kernel_rfl)
def ZqD : Nat -> Nat -> DrA
 | _, _ => ⟨[], [], [], [], [], false, []⟩
noncomputable def ZqE : List (CE CT Tryz.prog) := []
noncomputable def ZqF : List (LE CT Tryz.prog) := []
noncomputable def Ziw (h0 : (Bool) × (Bool) × (List (UInt8)) × Unit) : Option ((Bool) × (((Bool) × (Bool) × (List (UInt8)) × Unit) × (Unit) × (Unit) × Unit)) :=
 some (h0.1, ((h0.1, h0.2.1, h0.2.2.1, ()), (), (), ()))
noncomputable def ZgE : CE CT Tryz.prog where
 f := 81
 args := [.one (.ptr 0 0)]
 hs := [.obj 145 [.bool, .bool, .own 1 1], .row 5 1]
 res := .val (.one (.bool))
 outs := [.obj 145 [.bool, .bool, .own 1 2], .dead, .row 5 1]
 m := fun d dh => Ziw dh.1
 ok := ZaN Zan Tryz.func81 (by kernel_rfl) (Zad ZqE) (dr := ZqD) (lps := Zaq ZqF) (Zao (Zai (by kernel_rfl))) (fun d dh => by kernel_rfl)
def ZtR : Nat -> Nat -> DrA
 | _, _ => ⟨[], [], [], [], [], false, []⟩
noncomputable def ZtS : List (CE CT Tryz.prog) := []
noncomputable def ZtT : List (LE CT Tryz.prog) := []
noncomputable def ZkA (x1 : List (UInt8)) (h0 : (Bool) × (Bool) × (List (UInt8)) × Unit) : Option ((Unit) × (((Bool) × (Bool) × (List (UInt8)) × Unit) × (Unit) × (Unit) × Unit)) :=
 (bif h0.1 then
 (if h0.2.2.1.length + x1.length <= 140737488355328 /\ (h0.2.2.1.length + x1.length) * 1 <= 140737488355328 then
 some ((), ((h0.1, h0.2.1, (h0.2.2.1 ++ x1), ()), (), (), ()))
 else none)
 else
 some ((), ((h0.1, h0.2.1, h0.2.2.1, ()), (), (), ())))
noncomputable def ZoB : CE CT Tryz.prog where
 f := 144
 args := [.one (.ptr 0 0), .one (.sl 1)]
 hs := [.obj 145 [.bool, .bool, .own 1 1], .row 5 1]
 res := .tup []
 outs := [.obj 145 [.bool, .bool, .own 1 2], .dead, .row 5 1]
 m := fun d dh => ZkA d.2.1 dh.1
 ok := ZaN Zan Tryz.func144 (by kernel_rfl) (Zad ZtS) (dr := ZtR) (lps := Zaq ZtT) (Zao (Zai (by kernel_rfl))) (fun d dh => by kernel_rfl)
def ZkV : Nat -> Nat -> DrA
 | _, _ => ⟨[], [], [], [], [], false, []⟩
noncomputable def ZkW : List (CE CT Tryz.prog) := [ZoB]
noncomputable def ZeW (a : ((Unit) × (Int) × Unit) × (((Bool) × (Bool) × (List (UInt8)) × Unit) × (Unit) × Unit)) : Option ((((Unit) × (Int) × Unit) × (((Bool) × (Bool) × (List (UInt8)) × Unit) × (Unit) × Unit)) ⊕ ((((Unit) × (Int) × Unit) × (((Bool) × (Bool) × (List (UInt8)) × Unit) × (Unit) × (Unit) × Unit)))) :=
 (bif (decide ((127 : Int) < a.1.2.1)) then
 (b8 (IntKind.u8.wrap ((BitVec.ofInt (IntKind.u8.bits) (IntKind.u8.wrap a.1.2.1) ||| BitVec.ofInt (IntKind.u8.bits) 128).toNat))).bind fun u1 =>
 (ZkA ([u1] : List (UInt8)) (a.2.1.1, a.2.1.2.1, a.2.1.2.2.1, ())).bind fun r2 =>
 some (.inl (((), ((a.1.2.1 : Int).fdiv (2 ^ min (7 : Int).toNat (IntKind.i64.bits))), ()), ((r2.2.1.1, r2.2.1.2.1, r2.2.1.2.2.1, ()), (), ())))
 else
 some (.inr (((), a.1.2.1, ()), ((a.2.1.1, a.2.1.2.1, a.2.1.2.2.1, ()), (), (), ()))))
noncomputable def ZfU : LE CT Tryz.prog := ⟨2, [0, 1], [.one (.ptr 0 0), .one (.int .i64)], [.obj 145 [.bool, .bool, .own 1 1], .row 5 1], [⟨.exit 0, [0, 1], [.one (.ptr 0 0), .one (.int .i64)], [.obj 145 [.bool, .bool, .own 1 2], .dead, .row 5 1]⟩], ZeW⟩
noncomputable def ZkX : List (LE CT Tryz.prog) := [ZfU]
theorem Zmu : Zh5 ZfU (Zg9 (Zbp Tryz.f128) 0) := fun A env h k z hk => ZdL (E := ZfU) (Zad ZkW) (dr := ZkV) (lps := Zaq ZkX) (Zai (by kernel_rfl)) (fun a => by kernel_rfl) env h k z hk
noncomputable def ZfS (x1 : Int) (h0 : (Bool) × (Bool) × (List (UInt8)) × Unit) : Option ((Unit) × (((Bool) × (Bool) × (List (UInt8)) × Unit) × (Unit) × (Unit) × Unit)) :=
 (bif (decide ((x1 : Int) < 0)) then
 some ((), ((h0.1, true, h0.2.2.1, ()), (), (), ()))
 else
 (bif (decide ((4611686018427387903 : Int) < x1)) then
 some ((), ((h0.1, true, h0.2.2.1, ()), (), (), ()))
 else
 (ZaP ZeW (((), x1, ()), ((h0.1, h0.2.1, h0.2.2.1, ()), (), ()))).bind fun b1 =>
 (b8 (IntKind.u8.wrap b1.1.2.1)).bind fun u2 =>
 (ZkA ([u2] : List (UInt8)) (b1.2.1.1, b1.2.1.2.1, b1.2.1.2.2.1, ())).bind fun r3 =>
 some ((), ((r3.2.1.1, r3.2.1.2.1, r3.2.1.2.2.1, ()), (), (), ()))))
noncomputable def ZkY : CE CT Tryz.prog where
 f := 128
 args := [.one (.ptr 0 0), .one (.int .i64)]
 hs := [.obj 145 [.bool, .bool, .own 1 1], .row 5 1]
 res := .tup []
 outs := [.obj 145 [.bool, .bool, .own 1 2], .dead, .row 5 1]
 m := fun d dh => ZfS d.2.1 dh.1
 ok := ZaN Zan Tryz.func128 (by kernel_rfl) (Zad ZkW) (dr := ZkV) (lps := Zaq ZkX) (Zao (Zcd (n := 1) (by kernel_rfl) fun i hi => match i, hi with | 0, _ => ZdM (E := ZfU) (by kernel_rfl) Zmu)) (fun d dh => by kernel_rfl)
def Zkc : Nat -> Nat -> DrA
 | _, _ => ⟨[], [], [], [], [], false, []⟩
noncomputable def Zkd : List (CE CT Tryz.prog) := [ZgE, ZkY]
noncomputable def Zel (a : ((Unit) × (List (Int)) × (Int) × (Int) × Unit) × (((Bool) × (Bool) × (List (UInt8)) × Unit) × (Unit) × Unit)) : Option ((((Unit) × (List (Int)) × (Int) × (Int) × Unit) × (((Bool) × (Bool) × (List (UInt8)) × Unit) × (Unit) × Unit)) ⊕ ((((Unit) × Unit) × (((Bool) × (Bool) × (List (UInt8)) × Unit) × (Unit) × (Unit) × Unit)))) :=
 (bif (decide ((a.1.2.2.2.1 : Int) < a.1.2.2.1)) then
 (Zdg a.1.2.1 a.1.2.2.2.1).bind fun e1 =>
 (ZfS e1 (a.2.1.1, a.2.1.2.1, a.2.1.2.2.1, ())).bind fun r2 =>
 some (.inl (((), a.1.2.1, a.1.2.2.1, (IntKind.i64.wrap (a.1.2.2.2.1 + 1)), ()), ((r2.2.1.1, r2.2.1.2.1, r2.2.1.2.2.1, ()), (), ())))
 else
 some (.inr (((), ()), ((a.2.1.1, a.2.1.2.1, a.2.1.2.2.1, ()), (), (), ()))))
noncomputable def Zfu : LE CT Tryz.prog := ⟨3, [0, 9, 10, 11], [.one (.ptr 0 0), .one (.sl 0), .one (.int .i64), .one (.int .i64)], [.obj 145 [.bool, .bool, .own 1 1], .row 5 1], [⟨.exit 0, [0], [.one (.ptr 0 0)], [.obj 145 [.bool, .bool, .own 1 2], .dead, .row 5 1]⟩], Zel⟩
noncomputable def Zke : List (LE CT Tryz.prog) := [Zfu]
theorem ZlQ : Zh5 Zfu (Zg9 (Zbp Tryz.f79) 0) := fun A env h k z hk => ZdL (E := Zfu) (Zad Zkd) (dr := Zkc) (lps := Zaq Zke) (Zai (by kernel_rfl)) (fun a => by kernel_rfl) env h k z hk
noncomputable def ZhD (x1 : List (Int)) (h0 : (Bool) × (Bool) × (List (UInt8)) × Unit) : Option ((Unit) × (((Bool) × (Bool) × (List (UInt8)) × Unit) × (Unit) × (Unit) × Unit)) :=
 (Ziw (h0.1, h0.2.1, h0.2.2.1, ())).bind fun r1 =>
 (bif r1.1 then
 (ZaP Zel (((), x1, (x1.length : Int), 0, ()), ((r1.2.1.1, r1.2.1.2.1, r1.2.1.2.2.1, ()), (), ()))).bind fun b2 =>
 some ((), ((b2.2.1.1, b2.2.1.2.1, b2.2.1.2.2.1, ()), (), (), ()))
 else
 some ((), ((r1.2.1.1, r1.2.1.2.1, r1.2.1.2.2.1, ()), (), (), ())))
noncomputable def ZoC : CE CT Tryz.prog where
 f := 79
 args := [.one (.ptr 0 0), .one (.sl 0)]
 hs := [.obj 145 [.bool, .bool, .own 1 1], .row 5 1]
 res := .val (.one (.ptr 0 0))
 outs := [.obj 145 [.bool, .bool, .own 1 2], .dead, .row 5 1]
 m := fun d dh => ZhD d.2.1 dh.1
 ok := ZaN Zan Tryz.func79 (by kernel_rfl) (Zad Zkd) (dr := Zkc) (lps := Zaq Zke) (Zao (Zcd (n := 1) (by kernel_rfl) fun i hi => match i, hi with | 0, _ => ZdM (E := Zfu) (by kernel_rfl) ZlQ)) (fun d dh => by kernel_rfl)
def ZmU : Nat -> Nat -> DrA
 | _, _ => ⟨[], [], [], [], [], false, []⟩
noncomputable def ZmV : List (CE CT Tryz.prog) := [ZgE, ZkY, ZoB]
noncomputable def ZhE (a : ((Unit) × (List (List (UInt8))) × (Int) × (Int) × Unit) × (((Bool) × (Bool) × (List (UInt8)) × Unit) × (Unit) × Unit)) : Option ((((Unit) × (List (List (UInt8))) × (Int) × (Int) × Unit) × (((Bool) × (Bool) × (List (UInt8)) × Unit) × (Unit) × Unit)) ⊕ ((((Unit) × Unit) × (((Bool) × (Bool) × (List (UInt8)) × Unit) × (Unit) × (Unit) × Unit)))) :=
 (bif (decide ((a.1.2.2.2.1 : Int) < a.1.2.2.1)) then
 (Zdg a.1.2.1 a.1.2.2.2.1).bind fun e1 =>
 (ZfS (e1.length : Int) (a.2.1.1, a.2.1.2.1, a.2.1.2.2.1, ())).bind fun r2 =>
 (ZkA e1 (r2.2.1.1, r2.2.1.2.1, r2.2.1.2.2.1, ())).bind fun r3 =>
 some (.inl (((), a.1.2.1, a.1.2.2.1, (IntKind.i64.wrap (a.1.2.2.2.1 + 1)), ()), ((r3.2.1.1, r3.2.1.2.1, r3.2.1.2.2.1, ()), (), ())))
 else
 some (.inr (((), ()), ((a.2.1.1, a.2.1.2.1, a.2.1.2.2.1, ()), (), (), ()))))
noncomputable def ZhF : LE CT Tryz.prog := ⟨3, [0, 9, 10, 11], [.one (.ptr 0 0), .one (.sl 12), .one (.int .i64), .one (.int .i64)], [.obj 145 [.bool, .bool, .own 1 1], .row 5 1], [⟨.exit 0, [0], [.one (.ptr 0 0)], [.obj 145 [.bool, .bool, .own 1 2], .dead, .row 5 1]⟩], ZhE⟩
noncomputable def ZmW : List (LE CT Tryz.prog) := [ZhF]
theorem ZoD : Zh5 ZhF (Zg9 (Zbp Tryz.f129) 0) := fun A env h k z hk => ZdL (E := ZhF) (Zad ZmV) (dr := ZmU) (lps := Zaq ZmW) (Zai (by kernel_rfl)) (fun a => by kernel_rfl) env h k z hk
noncomputable def ZlR (x1 : List (List (UInt8))) (h0 : (Bool) × (Bool) × (List (UInt8)) × Unit) : Option ((Unit) × (((Bool) × (Bool) × (List (UInt8)) × Unit) × (Unit) × (Unit) × Unit)) :=
 (Ziw (h0.1, h0.2.1, h0.2.2.1, ())).bind fun r1 =>
 (bif r1.1 then
 (ZaP ZhE (((), x1, (x1.length : Int), 0, ()), ((r1.2.1.1, r1.2.1.2.1, r1.2.1.2.2.1, ()), (), ()))).bind fun b2 =>
 some ((), ((b2.2.1.1, b2.2.1.2.1, b2.2.1.2.2.1, ()), (), (), ()))
 else
 some ((), ((r1.2.1.1, r1.2.1.2.1, r1.2.1.2.2.1, ()), (), (), ())))
noncomputable def Zsk : CE CT Tryz.prog where
 f := 129
 args := [.one (.ptr 0 0), .one (.sl 12)]
 hs := [.obj 145 [.bool, .bool, .own 1 1], .row 5 1]
 res := .val (.one (.ptr 0 0))
 outs := [.obj 145 [.bool, .bool, .own 1 2], .dead, .row 5 1]
 m := fun d dh => ZlR d.2.1 dh.1
 ok := ZaN Zan Tryz.func129 (by kernel_rfl) (Zad ZmV) (dr := ZmU) (lps := Zaq ZmW) (Zao (Zcd (n := 1) (by kernel_rfl) fun i hi => match i, hi with | 0, _ => ZdM (E := ZhF) (by kernel_rfl) ZoD)) (fun d dh => by kernel_rfl)
def ZlS : Nat -> Nat -> DrA
 | _, _ => ⟨[], [], [], [], [], false, []⟩
noncomputable def ZlT : List (CE CT Tryz.prog) := [ZgE, Zsk]
noncomputable def Zfv (a : ((Unit) × (List (List UInt8)) × (Int) × (Int) × Unit) × (((Bool) × (Bool) × (List (UInt8)) × Unit) × (Unit) × Unit)) : Option ((((Unit) × (List (List UInt8)) × (Int) × (Int) × Unit) × (((Bool) × (Bool) × (List (UInt8)) × Unit) × (Unit) × Unit)) ⊕ ((((Unit) × Unit) × (((Bool) × (Bool) × (List (UInt8)) × Unit) × (Unit) × (Unit) × Unit)))) :=
 (bif (decide ((a.1.2.2.2.1 : Int) < a.1.2.2.1)) then
 (Zdg a.1.2.1 a.1.2.2.2.1).bind fun e1 =>
 (if e1.length <= 140737488355328 then
 (ZlR ([e1] : List (List (UInt8))) (a.2.1.1, a.2.1.2.1, a.2.1.2.2.1, ())).bind fun r2 =>
 some (.inl (((), a.1.2.1, a.1.2.2.1, (IntKind.i64.wrap (a.1.2.2.2.1 + 1)), ()), ((r2.2.1.1, r2.2.1.2.1, r2.2.1.2.2.1, ()), (), ())))
 else none)
 else
 some (.inr (((), ()), ((a.2.1.1, a.2.1.2.1, a.2.1.2.2.1, ()), (), (), ()))))
noncomputable def ZgF : LE CT Tryz.prog := ⟨3, [0, 9, 10, 11], [.one (.ptr 0 0), .one (.sl 2), .one (.int .i64), .one (.int .i64)], [.obj 145 [.bool, .bool, .own 1 1], .row 5 1], [⟨.exit 0, [0], [.one (.ptr 0 0)], [.obj 145 [.bool, .bool, .own 1 2], .dead, .row 5 1]⟩], Zfv⟩
noncomputable def ZlU : List (LE CT Tryz.prog) := [ZgF]
theorem Zne : Zh5 ZgF (Zg9 (Zbp Tryz.f80) 0) := fun A env h k z hk => ZdL (E := ZgF) (Zad ZlT) (dr := ZlS) (lps := Zaq ZlU) (Zai (by kernel_rfl)) (fun a => by kernel_rfl) env h k z hk
noncomputable def ZkB (x1 : List (List UInt8)) (h0 : (Bool) × (Bool) × (List (UInt8)) × Unit) : Option ((Unit) × (((Bool) × (Bool) × (List (UInt8)) × Unit) × (Unit) × (Unit) × Unit)) :=
 (Ziw (h0.1, h0.2.1, h0.2.2.1, ())).bind fun r1 =>
 (bif r1.1 then
 (ZaP Zfv (((), x1, (x1.length : Int), 0, ()), ((r1.2.1.1, r1.2.1.2.1, r1.2.1.2.2.1, ()), (), ()))).bind fun b2 =>
 some ((), ((b2.2.1.1, b2.2.1.2.1, b2.2.1.2.2.1, ()), (), (), ()))
 else
 some ((), ((r1.2.1.1, r1.2.1.2.1, r1.2.1.2.2.1, ()), (), (), ())))
noncomputable def ZqG : CE CT Tryz.prog where
 f := 80
 args := [.one (.ptr 0 0), .one (.sl 2)]
 hs := [.obj 145 [.bool, .bool, .own 1 1], .row 5 1]
 res := .val (.one (.ptr 0 0))
 outs := [.obj 145 [.bool, .bool, .own 1 2], .dead, .row 5 1]
 m := fun d dh => ZkB d.2.1 dh.1
 ok := ZaN Zan Tryz.func80 (by kernel_rfl) (Zad ZlT) (dr := ZlS) (lps := Zaq ZlU) (Zao (Zcd (n := 1) (by kernel_rfl) fun i hi => match i, hi with | 0, _ => ZdM (E := ZgF) (by kernel_rfl) Zne)) (fun d dh => by kernel_rfl)
def ZlV : Nat -> Nat -> DrA
 | _, _ => ⟨[], [], [], [], [], false, []⟩
noncomputable def ZlW : List (CE CT Tryz.prog) := [ZoC, ZqG]
noncomputable def Zfw (a : ((Unit) × (List (Zae)) × (Int) × (Int) × Unit) × (((Bool) × (Bool) × (List (UInt8)) × Unit) × (Unit) × Unit)) : Option ((((Unit) × (List (Zae)) × (Int) × (Int) × Unit) × (((Bool) × (Bool) × (List (UInt8)) × Unit) × (Unit) × Unit)) ⊕ ((((Unit) × Unit) × (((Bool) × (Bool) × (List (UInt8)) × Unit) × (Unit) × (Unit) × Unit)))) :=
 (bif (decide ((a.1.2.2.2.1 : Int) < a.1.2.2.1)) then
 (Zdg a.1.2.1 a.1.2.2.2.1).bind fun e1 =>
 (ZkB ([e1.key, e1.value] : List (List UInt8)) (a.2.1.1, a.2.1.2.1, a.2.1.2.2.1, ())).bind fun r2 =>
 some (.inl (((), a.1.2.1, a.1.2.2.1, (IntKind.i64.wrap (a.1.2.2.2.1 + 1)), ()), ((r2.2.1.1, r2.2.1.2.1, r2.2.1.2.2.1, ()), (), ())))
 else
 some (.inr (((), ()), ((a.2.1.1, a.2.1.2.1, a.2.1.2.2.1, ()), (), (), ()))))
noncomputable def ZgG : LE CT Tryz.prog := ⟨3, [0, 12, 13, 14], [.one (.ptr 0 0), .one (.sl 3), .one (.int .i64), .one (.int .i64)], [.obj 145 [.bool, .bool, .own 1 1], .row 5 1], [⟨.exit 0, [0], [.one (.ptr 0 0)], [.obj 145 [.bool, .bool, .own 1 2], .dead, .row 5 1]⟩], Zfw⟩
noncomputable def ZlX : List (LE CT Tryz.prog) := [ZgG]
theorem Znf : Zh5 ZgG (Zg9 (Zbp Tryz.f35) 0) := fun A env h k z hk => ZdL (E := ZgG) (Zad ZlW) (dr := ZlV) (lps := Zaq ZlX) (Zai (by kernel_rfl)) (fun a => by kernel_rfl) env h k z hk
noncomputable def ZkC (x1 : List (Zae)) (h0 : (Bool) × (Bool) × (List (UInt8)) × Unit) : Option ((Unit) × (((Bool) × (Bool) × (List (UInt8)) × Unit) × (Unit) × (Unit) × Unit)) :=
 (ZhD ([(x1.length : Int)] : List (Int)) (h0.1, h0.2.1, h0.2.2.1, ())).bind fun r1 =>
 (ZaP Zfw (((), x1, (x1.length : Int), 0, ()), ((r1.2.1.1, r1.2.1.2.1, r1.2.1.2.2.1, ()), (), ()))).bind fun b2 =>
 some ((), ((b2.2.1.1, b2.2.1.2.1, b2.2.1.2.2.1, ()), (), (), ()))
noncomputable def ZqH : CE CT Tryz.prog where
 f := 35
 args := [.one (.ptr 0 0), .one (.sl 3)]
 hs := [.obj 145 [.bool, .bool, .own 1 1], .row 5 1]
 res := .val (.one (.ptr 0 0))
 outs := [.obj 145 [.bool, .bool, .own 1 2], .dead, .row 5 1]
 m := fun d dh => ZkC d.2.1 dh.1
 ok := ZaN Zan Tryz.func35 (by kernel_rfl) (Zad ZlW) (dr := ZlV) (lps := Zaq ZlX) (Zao (Zcd (n := 1) (by kernel_rfl) fun i hi => match i, hi with | 0, _ => ZdM (E := ZgG) (by kernel_rfl) Znf)) (fun d dh => by kernel_rfl)
noncomputable def Zkf (x : List (UInt8)) : Option ((List (UInt8)) × (Unit × Unit)) :=
 if x.length <= 140737488355328 /\ x.length * 1 <= 140737488355328 then some (x, ((), ())) else none
noncomputable def Zmv : CE CT Tryz.prog where
 f := 82
 args := [.one (.sl 1)]
 hs := []
 res := .val (.one (.own 1 0))
 outs := [.row 5 1]
 m := fun d dh => Zkf d.1
 ok := fun d dh r hr => by
  unfold Zkf at hr
  split at hr
  ·rename_i hroom
   injection hr with hr
   subst hr
   exact ZuJ Zan Tryz.func82 (by kernel_rfl) rfl rfl (zv := .int .u8 0) (he := by kernel_rfl) (hsz := by kernel_rfl) (hz := by kernel_rfl) (hby := by kernel_rfl) rfl rfl d.1 hroom
  ·cases hr
def Zsl : Nat -> Nat -> DrA
 | _, _ => ⟨[], [], [], [], [], false, []⟩
noncomputable def Zsm : List (CE CT Tryz.prog) := [ZgE, Zmv]
noncomputable def Zsn : List (LE CT Tryz.prog) := []
noncomputable def ZlY (h0 : (Bool) × (Bool) × (List (UInt8)) × Unit) : Option (((List (UInt8)) × (Int) × Unit) × (((Bool) × (Bool) × (List (UInt8)) × Unit) × (Unit) × (Unit) × (Unit) × Unit)) :=
 (Ziw (h0.1, h0.2.1, h0.2.2.1, ())).bind fun r1 =>
 (bif (!r1.1) then
 some (([], 1, ()), ((r1.2.1.1, r1.2.1.2.1, r1.2.1.2.2.1, ()), (), (), (), ()))
 else
 (bif r1.2.1.2.1 then
 some (([], 2, ()), ((r1.2.1.1, r1.2.1.2.1, r1.2.1.2.2.1, ()), (), (), (), ()))
 else
 (Zkf r1.2.1.2.2.1).bind fun r2 =>
 some ((r2.1, 0, ()), ((r1.2.1.1, r1.2.1.2.1, r1.2.1.2.2.1, ()), (), (), (), ()))))
noncomputable def Zso : CE CT Tryz.prog where
 f := 37
 args := [.one (.ptr 0 0)]
 hs := [.obj 145 [.bool, .bool, .own 1 1], .row 5 1]
 res := .tup [.one (.own 1 2), .one (.int .i64)]
 outs := [.obj 145 [.bool, .bool, .own 1 3], .dead, .row 5 1, .row 5 1]
 m := fun d dh => ZlY dh.1
 ok := ZaN Zan Tryz.func37 (by kernel_rfl) (Zad Zsm) (dr := Zsl) (lps := Zaq Zsn) (Zao (Zai (by kernel_rfl))) (fun d dh => by kernel_rfl)
def Zfa : Nat -> Nat -> DrA
 | 3, _ => ⟨[], [], [], [], [], true, []⟩
 | _, _ => ⟨[], [], [], [], [], false, []⟩
noncomputable def Zfb : List (CE CT Tryz.prog) := []
noncomputable def Zcs (a : ((Int) × (Nat) × Unit) × ((List (UInt8)) × Unit)) : Option ((((Int) × (Nat) × Unit) × ((List (UInt8)) × Unit)) ⊕ ((((Nat) × Unit) × ((Unit) × (List (UInt8)) × Unit)))) :=
 (bif (decide ((0 : Int) < a.1.1)) then
 (if 0 <= ((IntKind.i64.wrap (((a.1.2.1 : Nat) : Int) - 1)) : Int) /\ ((IntKind.i64.wrap (((a.1.2.1 : Nat) : Int) - 1)) : Int) < ((a.1.2.1 : Nat) : Int) then
 (a.2.1[(0 + ((IntKind.i64.wrap (((a.1.2.1 : Nat) : Int) - 1)) : Int).toNat)]?).bind fun e1 =>
 (if 0 <= ((IntKind.i64.wrap (((a.1.2.1 : Nat) : Int) - 1)) : Int) /\ ((IntKind.i64.wrap (((a.1.2.1 : Nat) : Int) - 1)) : Int) < ((a.1.2.1 : Nat) : Int) then
 (a.2.1[(0 + ((IntKind.i64.wrap (((a.1.2.1 : Nat) : Int) - 1)) : Int).toNat)]?).bind fun e2 =>
 (b8 (IntKind.u8.wrap ((BitVec.ofInt (IntKind.u8.bits) (e1.toNat : Int) ||| BitVec.ofInt (IntKind.u8.bits) 128).toNat))).bind fun u3 =>
 let y4 : List (UInt8) := (a.2.1.set (0 + ((IntKind.i64.wrap (((a.1.2.1 : Nat) : Int) - 1)) : Int).toNat) u3)
 (b8 (IntKind.u8.wrap (IntKind.i64.wrap ((BitVec.ofInt (IntKind.i64.bits) a.1.1 &&& BitVec.ofInt (IntKind.i64.bits) 127).toNat)))).bind fun u5 =>
 (if (a.1.2.1 + ([u5] : List (UInt8)).length) <= 140737488355328 /\ (a.1.2.1 + ([u5] : List (UInt8)).length) * 1 <= 140737488355328 /\ 0 + a.1.2.1 <= y4.length then
 some (.inl ((((a.1.1 : Int).fdiv (2 ^ min (7 : Int).toNat (IntKind.i64.bits))), (a.1.2.1 + ([u5] : List (UInt8)).length), ()), ((y4.take a.1.2.1 ++ ([u5] : List (UInt8))), ())))
 else none)
 else none)
 else none)
 else
 some (.inr ((a.1.2.1, ()), ((), a.2.1, ()))))
noncomputable def Zct : LE CT Tryz.prog := ⟨5, [0, 4], [.one (.int .i64), .one (.asz 1 0)], [.arr 5 1 false], [⟨.exit 0, [4], [.one (.asz 1 1)], [.dead, .arr 5 1 false]⟩], Zcs⟩
noncomputable def Zfc : List (LE CT Tryz.prog) := [Zct]
theorem Zg6 : Zh5 Zct (Zg9 (Zbp Tryz.f96) 0) := fun A env h k z hk => ZdL (E := Zct) (Zad Zfb) (dr := Zfa) (lps := Zaq Zfc) (Zai (by kernel_rfl)) (fun a => by kernel_rfl) env h k z hk
noncomputable def Zco (x0 : Int) : Option (((Nat) × (Bool) × Unit) × ((List (UInt8)) × Unit)) :=
 (bif (decide ((x0 : Int) < 0)) then
 some ((0, false, ()), ([], ()))
 else
 (bif (decide ((4611686018427387903 : Int) < x0)) then
 some ((0, false, ()), ([], ()))
 else
 (b8 (IntKind.u8.wrap (IntKind.i64.wrap ((BitVec.ofInt (IntKind.i64.bits) x0 &&& BitVec.ofInt (IntKind.i64.bits) 127).toNat)))).bind fun u1 =>
 (ZaP Zcs ((((x0 : Int).fdiv (2 ^ min (7 : Int).toNat (IntKind.i64.bits))), 1, ()), (([u1] : List (UInt8)), ()))).bind fun b2 =>
 some ((b2.1.1, true, ()), (b2.2.2.1, ()))))
noncomputable def Zfd : CE CT Tryz.prog where
 f := 96
 args := [.one (.int .i64)]
 hs := []
 res := .tup [.one (.asz 1 0), .one (.bool)]
 outs := [.arr 5 1 false]
 m := fun d dh => Zco d.1
 ok := ZaN Zan Tryz.func96 (by kernel_rfl) (Zad Zfb) (dr := Zfa) (lps := Zaq Zfc) (Zao (Zcd (n := 1) (by kernel_rfl) fun i hi => match i, hi with | 0, _ => ZdM (E := Zct) (by kernel_rfl) Zg6)) (fun d dh => by kernel_rfl)
noncomputable def ZbC (x0 : Int) := (Zco x0).bind fun r => if r.1.1 <= r.2.1.length then some ((r.2.1.take r.1.1, r.1.2), ()) else none
noncomputable def Zhg : CE CT Tryz.prog where
 f := 96
 args := [.one (.int .i64)]
 hs := []
 res := .tup [.one (.sl 1), .one (.bool)]
 outs := []
 m := fun d dh => ZbC d.1
 ok := fun d dh r hr => by
  unfold ZbC at hr
  obtain ⟨⟨n, xs, u⟩, h1, h2⟩ := Zam hr
  dsimp only at h2
  split at h2
  ·rename_i hc
   injection h2 with h2
   subst h2
   exact Tr.tellT hc rfl (Zfd.ok d dh _ h1)
  ·cases h2
def ZjH : Nat -> Nat -> DrA
 | _, _ => ⟨[], [], [], [], [], false, []⟩
noncomputable def ZjI : List (CE CT Tryz.prog) := []
noncomputable def ZjJ : List (LE CT Tryz.prog) := []
noncomputable def Zg7 (x0 : Bool) : Option ((List (UInt8)) × ((Unit) × Unit)) :=
 (bif x0 then
 (b8 1).bind fun u1 =>
 some (([u1] : List (UInt8)), ((), ()))
 else
 (b8 0).bind fun u2 =>
 some (([u2] : List (UInt8)), ((), ())))
noncomputable def ZjK : CE CT Tryz.prog where
 f := 97
 args := [.one (.bool)]
 hs := []
 res := .val (.one (.own 1 0))
 outs := [.row 5 1]
 m := fun d dh => Zg7 d.1
 ok := ZaN Zan Tryz.func97 (by kernel_rfl) (Zad ZjI) (dr := ZjH) (lps := Zaq ZjJ) (Zao (Zai (by kernel_rfl))) (fun d dh => by kernel_rfl)
def Zkg : Nat -> Nat -> DrA
 | _, _ => ⟨[], [], [], [], [], false, []⟩
noncomputable def Zkh : List (CE CT Tryz.prog) := [Zfd]
noncomputable def Zki : List (LE CT Tryz.prog) := []
noncomputable def Zec (x0 : List (UInt8)) : Option ((Nat) × ((List (UInt8)) × Unit)) :=
 (Zco (x0.length : Int)).bind fun r1 =>
 (if (r1.1.1 + x0.length) <= 140737488355328 /\ (r1.1.1 + x0.length) * 1 <= 140737488355328 /\ 0 + r1.1.1 <= r1.2.1.length then
 some ((r1.1.1 + x0.length), ((r1.2.1.take r1.1.1 ++ x0), ()))
 else none)
noncomputable def Zkj : CE CT Tryz.prog where
 f := 98
 args := [.one (.sl 1)]
 hs := []
 res := .val (.one (.asz 1 0))
 outs := [.arr 5 1 false]
 m := fun d dh => Zec d.1
 ok := ZaN Zan Tryz.func98 (by kernel_rfl) (Zad Zkh) (dr := Zkg) (lps := Zaq Zki) (Zao (Zai (by kernel_rfl))) (fun d dh => by kernel_rfl)
noncomputable def ZbO (x0 : List (UInt8)) := (Zec x0).bind fun r => if r.1 <= r.2.1.length then some (r.2.1.take r.1, ()) else none
noncomputable def Zjd : CE CT Tryz.prog where
 f := 98
 args := [.one (.sl 1)]
 hs := []
 res := .val (.one (.sl 1))
 outs := []
 m := fun d dh => ZbO d.1
 ok := fun d dh r hr => by
  unfold ZbO at hr
  obtain ⟨⟨n, xs, u⟩, h1, h2⟩ := Zam hr
  dsimp only at h2
  split at h2
  ·rename_i hc
   injection h2 with h2
   subst h2
   exact Tr.tellS hc (Zkj.ok d dh _ h1)
  ·cases h2
def ZbD : Nat -> Nat -> DrA
 | _, _ => ⟨[], [], [], [], [], false, []⟩
noncomputable def ZbE : List (CE CT Tryz.prog) := [Zhg, ZjK, Zjd]
noncomputable def ZbF (a : ((List (Int)) × (List (Bool)) × (List (List UInt8)) × (List (List (UInt8))) × (List (UInt8)) × (Int) × Unit) × ((Unit) × Unit)) : Option ((((List (Int)) × (List (Bool)) × (List (List UInt8)) × (List (List (UInt8))) × (List (UInt8)) × (Int) × Unit) × ((Unit) × Unit)) ⊕ ((((Unit) × (Int) × Unit) × ((Unit) × Unit)) ⊕ (((List (Bool)) × (List (List UInt8)) × (List (List (UInt8))) × (List (UInt8)) × Unit) × ((Unit) × (Unit) × Unit)))) :=
 (bif (decide ((a.1.2.2.2.2.2.1 : Int) < (a.1.1.length : Int))) then
 (Zdg a.1.1 a.1.2.2.2.2.2.1).bind fun e1 =>
 (ZbC e1).bind fun r2 =>
 (bif (!r2.1.2.1) then
 some (.inr (.inl (((), 2, ()), ((), ()))))
 else
 (if a.1.2.2.2.2.1.length + r2.1.1.length <= 140737488355328 /\ (a.1.2.2.2.2.1.length + r2.1.1.length) * 1 <= 140737488355328 then
 some (.inl ((a.1.1, a.1.2.1, a.1.2.2.1, a.1.2.2.2.1, (a.1.2.2.2.2.1 ++ r2.1.1), (IntKind.i64.wrap (a.1.2.2.2.2.2.1 + 1)), ()), ((), ())))
 else none))
 else
 some (.inr (.inr ((a.1.2.1, a.1.2.2.1, a.1.2.2.2.1, a.1.2.2.2.2.1, ()), ((), (), ())))))
noncomputable def ZcL : LE CT Tryz.prog := ⟨3, [0, 1, 2, 3, 10, 11], [.one (.sl 0), .one (.sl 13), .one (.sl 2), .one (.sl 12), .one (.own 1 0), .one (.int .i64)], [.row 5 1], [⟨.ret, [8, 9], [.one (.nil), .one (.int .i64)], [.dead]⟩, ⟨.exit 0, [1, 2, 3, 10], [.one (.sl 13), .one (.sl 2), .one (.sl 12), .one (.own 1 1)], [.dead, .row 5 1]⟩], ZbF⟩
noncomputable def ZcM (a : ((List (Bool)) × (List (List UInt8)) × (List (List (UInt8))) × (List (UInt8)) × (Int) × Unit) × ((Unit) × Unit)) : Option ((((List (Bool)) × (List (List UInt8)) × (List (List (UInt8))) × (List (UInt8)) × (Int) × Unit) × ((Unit) × Unit)) ⊕ ((((List (List UInt8)) × (List (List (UInt8))) × (List (UInt8)) × Unit) × ((Unit) × (Unit) × Unit)))) :=
 (bif (decide ((a.1.2.2.2.2.1 : Int) < (a.1.1.length : Int))) then
 (Zdg a.1.1 a.1.2.2.2.2.1).bind fun e1 =>
 (Zg7 e1).bind fun r2 =>
 (if a.1.2.2.2.1.length + r2.1.length <= 140737488355328 /\ (a.1.2.2.2.1.length + r2.1.length) * 1 <= 140737488355328 then
 some (.inl ((a.1.1, a.1.2.1, a.1.2.2.1, (a.1.2.2.2.1 ++ r2.1), (IntKind.i64.wrap (a.1.2.2.2.2.1 + 1)), ()), ((), ())))
 else none)
 else
 some (.inr ((a.1.2.1, a.1.2.2.1, a.1.2.2.2.1, ()), ((), (), ()))))
noncomputable def ZcN : LE CT Tryz.prog := ⟨10, [1, 2, 3, 10, 14], [.one (.sl 13), .one (.sl 2), .one (.sl 12), .one (.own 1 0), .one (.int .i64)], [.row 5 1], [⟨.exit 2, [2, 3, 10], [.one (.sl 2), .one (.sl 12), .one (.own 1 1)], [.dead, .row 5 1]⟩], ZcM⟩
noncomputable def Zbj (a : ((List (List UInt8)) × (List (List (UInt8))) × (List (UInt8)) × (Int) × Unit) × ((Unit) × Unit)) : Option ((((List (List UInt8)) × (List (List (UInt8))) × (List (UInt8)) × (Int) × Unit) × ((Unit) × Unit)) ⊕ ((((List (List (UInt8))) × (List (UInt8)) × Unit) × ((Unit) × (Unit) × Unit)))) :=
 (bif (decide ((a.1.2.2.2.1 : Int) < (a.1.1.length : Int))) then
 (Zdg a.1.1 a.1.2.2.2.1).bind fun e1 =>
 (if e1.length <= 140737488355328 then
 (ZbO e1).bind fun r2 =>
 (if a.1.2.2.1.length + r2.1.length <= 140737488355328 /\ (a.1.2.2.1.length + r2.1.length) * 1 <= 140737488355328 then
 some (.inl ((a.1.1, a.1.2.1, (a.1.2.2.1 ++ r2.1), (IntKind.i64.wrap (a.1.2.2.2.1 + 1)), ()), ((), ())))
 else none)
 else none)
 else
 some (.inr ((a.1.2.1, a.1.2.2.1, ()), ((), (), ()))))
noncomputable def ZcO : LE CT Tryz.prog := ⟨14, [2, 3, 10, 15], [.one (.sl 2), .one (.sl 12), .one (.own 1 0), .one (.int .i64)], [.row 5 1], [⟨.exit 4, [3, 10], [.one (.sl 12), .one (.own 1 1)], [.dead, .row 5 1]⟩], Zbj⟩
noncomputable def ZcP (a : ((List (List (UInt8))) × (List (UInt8)) × (Int) × Unit) × ((Unit) × Unit)) : Option ((((List (List (UInt8))) × (List (UInt8)) × (Int) × Unit) × ((Unit) × Unit)) ⊕ ((((List (UInt8)) × Unit) × ((Unit) × (Unit) × Unit)))) :=
 (bif (decide ((a.1.2.2.1 : Int) < (a.1.1.length : Int))) then
 (Zdg a.1.1 a.1.2.2.1).bind fun e1 =>
 (ZbO e1).bind fun r2 =>
 (if a.1.2.1.length + r2.1.length <= 140737488355328 /\ (a.1.2.1.length + r2.1.length) * 1 <= 140737488355328 then
 some (.inl ((a.1.1, (a.1.2.1 ++ r2.1), (IntKind.i64.wrap (a.1.2.2.1 + 1)), ()), ((), ())))
 else none)
 else
 some (.inr ((a.1.2.1, ()), ((), (), ()))))
noncomputable def ZcQ : LE CT Tryz.prog := ⟨18, [3, 10, 16], [.one (.sl 12), .one (.own 1 0), .one (.int .i64)], [.row 5 1], [⟨.exit 6, [10], [.one (.own 1 1)], [.dead, .row 5 1]⟩], ZcP⟩
noncomputable def ZbG : List (LE CT Tryz.prog) := [ZcL, ZcN, ZcO, ZcQ]
theorem Zhh : Zh5 ZcL (Zg9 (Zbp Tryz.f50) 0) := fun A env h k z hk => ZdL (E := ZcL) (Zad ZbE) (dr := ZbD) (lps := Zaq ZbG) (Zai (by kernel_rfl)) (fun a => by kernel_rfl) env h k z hk
theorem Zhi : Zh5 ZcN (Zg9 (Zbp Tryz.f50) 1) := fun A env h k z hk => ZdL (E := ZcN) (Zad ZbE) (dr := ZbD) (lps := Zaq ZbG) (Zai (by kernel_rfl)) (fun a => by kernel_rfl) env h k z hk
theorem Zhj : Zh5 ZcO (Zg9 (Zbp Tryz.f50) 2) := fun A env h k z hk => ZdL (E := ZcO) (Zad ZbE) (dr := ZbD) (lps := Zaq ZbG) (Zai (by kernel_rfl)) (fun a => by kernel_rfl) env h k z hk
theorem Zhk : Zh5 ZcQ (Zg9 (Zbp Tryz.f50) 3) := fun A env h k z hk => ZdL (E := ZcQ) (Zad ZbE) (dr := ZbD) (lps := Zaq ZbG) (Zai (by kernel_rfl)) (fun a => by kernel_rfl) env h k z hk
noncomputable def Zbb (x0 : List (Int)) (x1 : List (Bool)) (x2 : List (List UInt8)) (x3 : List (List (UInt8))) : Option (((List (UInt8)) × (Int) × Unit) × ((Unit) × Unit)) :=
 (ZaP ZbF ((x0, x1, x2, x3, [], 0, ()), ((), ()))).bind fun b1 =>
 (match b1 with
 | .inl b2 =>
 some (([], b2.1.2.1, ()), ((), ()))
 | .inr b3 =>
 (ZaP ZcM ((b3.1.1, b3.1.2.1, b3.1.2.2.1, b3.1.2.2.2.1, 0, ()), ((), ()))).bind fun b4 =>
 (ZaP Zbj ((b4.1.1, b4.1.2.1, b4.1.2.2.1, 0, ()), ((), ()))).bind fun b5 =>
 (ZaP ZcP ((b5.1.1, b5.1.2.1, 0, ()), ((), ()))).bind fun b6 =>
 some ((b6.1.1, 0, ()), ((), ())))
noncomputable def Zje : CE CT Tryz.prog where
 f := 50
 args := [.one (.sl 0), .one (.sl 13), .one (.sl 2), .one (.sl 12)]
 hs := []
 res := .tup [.one (.own 1 0), .one (.int .i64)]
 outs := [.row 5 1]
 m := fun d dh => Zbb d.1 d.2.1 d.2.2.1 d.2.2.2.1
 ok := ZaN Zan Tryz.func50 (by kernel_rfl) (Zad ZbE) (dr := ZbD) (lps := Zaq ZbG) (Zao (Zcd (n := 4) (by kernel_rfl) fun i hi => match i, hi with | 0, _ => ZdM (E := ZcL) (by kernel_rfl) Zhh | 1, _ => ZdM (E := ZcN) (by kernel_rfl) Zhi | 2, _ => ZdM (E := ZcO) (by kernel_rfl) Zhj | 3, _ => ZdM (E := ZcQ) (by kernel_rfl) Zhk)) (fun d dh => by kernel_rfl)
def Zfx : Nat -> Nat -> DrA
 | 5, _ => ⟨[0, 1, 2, 3, 5, 6, 7, 8, 4, 9, 10, 11, 12, 13, 14, 15, 16], [[], [], [0, 1], [0, 1, 2], [0, 1, 2, 3], [], [], [5, 6], [5, 6, 7], [5, 6, 7, 8], (List.range 10), (List.range 11), (List.range 12), (List.range 13), (List.range 13), (List.range 14), (List.range 16)], [], [], [], false, []⟩
 | _, _ => ⟨[], [], [], [], [], false, []⟩
noncomputable def Zfy : List (CE CT Tryz.prog) := [Zje]
noncomputable def ZbH (a : ((List (Zae)) × (List (UInt8)) × (Int) × Unit) × ((Unit) × Unit)) : Option ((((List (Zae)) × (List (UInt8)) × (Int) × Unit) × ((Unit) × Unit)) ⊕ ((((List (UInt8)) × Unit) × ((Unit) × (Unit) × Unit)))) :=
 (bif (decide ((a.1.2.2.1 : Int) < (a.1.1.length : Int))) then
 (Zdg a.1.1 a.1.2.2.1).bind fun e1 =>
 (Zdg a.1.1 a.1.2.2.1).bind fun e2 =>
 (Zbb [] [] ([e1.key, e2.value] : List (List UInt8)) []).bind fun r3 =>
 (if a.1.2.1.length + r3.1.1.length <= 140737488355328 /\ (a.1.2.1.length + r3.1.1.length) * 1 <= 140737488355328 then
 some (.inl ((a.1.1, (a.1.2.1 ++ r3.1.1), (IntKind.i64.wrap (a.1.2.2.1 + 1)), ()), ((), ())))
 else none)
 else
 some (.inr ((a.1.2.1, ()), ((), (), ()))))
noncomputable def ZcR : LE CT Tryz.prog := ⟨3, [0, 3, 5], [.one (.sl 3), .one (.own 1 0), .one (.int .i64)], [.row 5 1], [⟨.exit 0, [3], [.one (.own 1 1)], [.dead, .row 5 1]⟩], ZbH⟩
noncomputable def Zfz : List (LE CT Tryz.prog) := [ZcR]
theorem Zhl : Zh5 ZcR (Zg9 (Zbp Tryz.f22) 0) := fun A env h k z hk => ZdL (E := ZcR) (Zad Zfy) (dr := Zfx) (lps := Zaq Zfz) (Zai (by kernel_rfl)) (fun a => by kernel_rfl) env h k z hk
noncomputable def Zcy (x0 : List (Zae)) : Option ((List (UInt8)) × ((Unit) × Unit)) :=
 (Zbb ([(x0.length : Int)] : List (Int)) [] [] []).bind fun r1 =>
 (ZaP ZbH ((x0, r1.1.1, 0, ()), ((), ()))).bind fun b2 =>
 some (b2.1.1, ((), ()))
noncomputable def ZfA : CE CT Tryz.prog where
 f := 22
 args := [.one (.sl 3)]
 hs := []
 res := .val (.one (.own 1 0))
 outs := [.row 5 1]
 m := fun d dh => Zcy d.1
 ok := ZaN Zan Tryz.func22 (by kernel_rfl) (Zad Zfy) (dr := Zfx) (lps := Zaq Zfz) (Zao (Zcd (n := 1) (by kernel_rfl) fun i hi => match i, hi with | 0, _ => ZdM (E := ZcR) (by kernel_rfl) Zhl)) (fun d dh => by kernel_rfl)
def ZeX : Nat -> Nat -> DrA
 | 6, _ => ⟨[0, 1, 2, 4, 5, 6, 3, 7, 8], [[], [], [0, 1], [0, 1, 2], [], [], [4, 5], [4, 5, 6], (List.range 8)], [], [], [], false, []⟩
 | _, _ => ⟨[], [], [], [], [], false, []⟩
noncomputable def ZeY : List (CE CT Tryz.prog) := []
noncomputable def Zbs (a : ((List (UInt8)) × (List (UInt8)) × (Int) × Unit) × (Unit)) : Option ((((List (UInt8)) × (List (UInt8)) × (Int) × Unit) × (Unit)) ⊕ ((((Bool) × Unit) × (Unit)) ⊕ ((Unit) × (Unit)))) :=
 (bif (decide ((a.1.2.2.1 : Int) < (a.1.1.length : Int))) then
 (Zdg a.1.1 a.1.2.2.1).bind fun e1 =>
 (Zdg a.1.2.1 a.1.2.2.1).bind fun e2 =>
 (bif (decide (((e1.toNat : Int) : Int) ≠ (e2.toNat : Int))) then
 some (.inr (.inl ((false, ()), ())))
 else
 some (.inl ((a.1.1, a.1.2.1, (IntKind.i64.wrap (a.1.2.2.1 + 1)), ()), ())))
 else
 some (.inr (.inr ((), ()))))
noncomputable def Zcm : LE CT Tryz.prog := ⟨4, [0, 1, 5], [.one (.sl 1), .one (.sl 1), .one (.int .i64)], [], [⟨.ret, [4], [.one (.bool)], []⟩, ⟨.exit 0, [], [], []⟩], Zbs⟩
noncomputable def ZeZ : List (LE CT Tryz.prog) := [Zcm]
theorem ZgH : Zh5 Zcm (Zg9 (Zbp Tryz.f38) 0) := fun A env h k z hk => ZdL (E := Zcm) (Zad ZeY) (dr := ZeX) (lps := Zaq ZeZ) (Zai (by kernel_rfl)) (fun a => by kernel_rfl) env h k z hk
noncomputable def Zdb (x0 : List (UInt8)) (x1 : List (UInt8)) : Option ((Bool) × (Unit)) :=
 (bif (decide (((x0.length : Int) : Int) ≠ (x1.length : Int))) then
 some (false, ())
 else
 (ZaP Zbs ((x0, x1, 0, ()), ())).bind fun b1 =>
 (match b1 with
 | .inl b2 =>
 some (b2.1.1, ())
 | .inr b3 =>
 some (true, ())))
noncomputable def ZhS : CE CT Tryz.prog where
 f := 38
 args := [.one (.sl 1), .one (.sl 1)]
 hs := []
 res := .val (.one (.bool))
 outs := []
 m := fun d dh => Zdb d.1 d.2.1
 ok := ZaN Zan Tryz.func38 (by kernel_rfl) (Zad ZeY) (dr := ZeX) (lps := Zaq ZeZ) (Zao (Zcd (n := 1) (by kernel_rfl) fun i hi => match i, hi with | 0, _ => ZdM (E := Zcm) (by kernel_rfl) ZgH)) (fun d dh => by kernel_rfl)
def Zmw : Nat -> Nat -> DrA
 | _, _ => ⟨[], [], [], [], [], false, []⟩
noncomputable def Zmx : List (CE CT Tryz.prog) := [Zmv]
noncomputable def Zmy : List (LE CT Tryz.prog) := []
noncomputable def ZhT (x0 : List (UInt8)) : Option ((Unit) × (((Bool) × (Bool) × (List (UInt8)) × Unit) × (Unit) × Unit)) :=
 (Zkf x0).bind fun r1 =>
 some ((), ((true, false, r1.1, ()), (), ()))
noncomputable def Zmz : CE CT Tryz.prog where
 f := 39
 args := [.one (.sl 1)]
 hs := []
 res := .val (.one (.ptr 0 0))
 outs := [.obj 150 [.bool, .bool, .own 1 1], .row 5 1]
 m := fun d dh => ZhT d.1
 ok := ZaN Zan Tryz.func39 (by kernel_rfl) (Zad Zmx) (dr := Zmw) (lps := Zaq Zmy) (Zao (Zai (by kernel_rfl))) (fun d dh => by kernel_rfl)
def ZvW : Nat -> Nat -> DrA
 | _, _ => ⟨[], [], [], [], [], false, []⟩
noncomputable def ZvX : List (CE CT Tryz.prog) := []
noncomputable def ZvY : List (LE CT Tryz.prog) := []
noncomputable def ZxE (h0 : (Bool) × (Bool) × (List (UInt8)) × Unit) : Option ((Bool) × (((Bool) × (Bool) × (List (UInt8)) × Unit) × (Unit) × (Unit) × Unit)) :=
 (bif h0.1 then
 some ((!h0.2.1), ((h0.1, h0.2.1, h0.2.2.1, ()), (), (), ()))
 else
 some (false, ((h0.1, h0.2.1, h0.2.2.1, ()), (), (), ())))
noncomputable def ZvZ : CE CT Tryz.prog where
 f := 91
 args := [.one (.ptr 0 0)]
 hs := [.obj 150 [.bool, .bool, .own 1 1], .row 5 1]
 res := .val (.one (.bool))
 outs := [.obj 150 [.bool, .bool, .own 1 2], .dead, .row 5 1]
 m := fun d dh => ZxE dh.1
 ok := ZaN Zan Tryz.func91 (by kernel_rfl) (Zad ZvX) (dr := ZvW) (lps := Zaq ZvY) (Zao (Zai (by kernel_rfl))) (fun d dh => by kernel_rfl)
def Zpa : Nat -> Nat -> DrA
 | _, _ => ⟨[], [], [], [], [], false, []⟩
noncomputable def Zpb : List (CE CT Tryz.prog) := []
noncomputable def Zpc : List (LE CT Tryz.prog) := []
noncomputable def ZbI (h0 : ZaA) : Option ((Unit) × (((Bool) × (Bool) × (List (UInt8)) × Unit) × (Unit) × Unit)) :=
 some ((), ((h0.place.made, true, [], ()), (), ()))
noncomputable def ZhU : CE CT Tryz.prog where
 f := 131
 args := [.one (.ptr 0 0)]
 hs := [.cobj 150 15]
 res := .tup []
 outs := [.obj 150 [.bool, .bool, .own 1 1], .row 5 1]
 m := fun d dh => ZbI dh.1
 ok := ZaN Zan Tryz.func131 (by kernel_rfl) (Zad Zpb) (dr := Zpa) (lps := Zaq Zpc) (Zao (Zai (by kernel_rfl))) (fun d dh => by kernel_rfl)
def Zpd : Nat -> Nat -> DrA
 | _, _ => ⟨[], [], [], [], [], false, []⟩
noncomputable def Zpe : List (CE CT Tryz.prog) := [ZhU]
noncomputable def Zpf : List (LE CT Tryz.prog) := []
noncomputable def Zdx (x1 : Int) (h0 : ZaA) : Option ((List (UInt8)) × ((ZaA) × Unit)) :=
 (bif (decide (((h0.place.left.length : Int) : Int) < x1)) then
 (ZbI h0).bind fun r1 =>
 some ([], ((⟨(⟨r1.2.1.1, r1.2.1.2.1, r1.2.1.2.2.1⟩ : ZfE)⟩ : ZaA), ()))
 else
 (if 0 <= ((0 : Int) : Int) /\ ((0 : Int) : Int) <= x1 /\ (x1 : Int) <= x1 /\ x1 <= (h0.place.left.length : Int) then
 let y2 : List (UInt8) := ((h0.place.left.drop ((0 : Int) : Int).toNat).take ((x1 : Int).toNat - ((0 : Int) : Int).toNat))
 (if 0 <= (x1 : Int) /\ (x1 : Int) <= (h0.place.left.length : Int) /\ (h0.place.left.length : Int) <= (h0.place.left.length : Int) then
 let y3 : List (UInt8) := ((h0.place.left.drop (x1 : Int).toNat).take (((h0.place.left.length : Int) : Int).toNat - (x1 : Int).toNat))
 some (y2, ((⟨(⟨h0.place.made, h0.place.failed, y3⟩ : ZfE)⟩ : ZaA), ()))
 else none)
 else none))
noncomputable def ZhV : CE CT Tryz.prog where
 f := 130
 args := [.one (.ptr 0 0), .one (.int .i64)]
 hs := [.cobj 150 15]
 res := .val (.one (.sl 1))
 outs := [.cobj 150 15]
 m := fun d dh => Zdx d.2.1 dh.1
 ok := ZaN Zan Tryz.func130 (by kernel_rfl) (Zad Zpe) (dr := Zpd) (lps := Zaq Zpf) (Zao (Zai (by kernel_rfl))) (fun d dh => by kernel_rfl)
def ZkZ : Nat -> Nat -> DrA
 | _, _ => ⟨[], [], [], [], [], false, []⟩
noncomputable def Zk0 : List (CE CT Tryz.prog) := [ZvZ, ZhV, ZhU]
noncomputable def ZhW (a : ((Unit) × (Int) × (Int) × (Int) × Unit) × ((ZaA) × Unit)) : Option ((((Unit) × (Int) × (Int) × (Int) × Unit) × ((ZaA) × Unit)) ⊕ ((((Int) × Unit) × ((ZaA) × Unit)) ⊕ (((Unit) × Unit) × ((ZaA) × Unit)))) :=
 (bif (decide ((a.1.2.2.2.1 : Int) < 63)) then
 (Zdx 1 a.2.1).bind fun r1 =>
 (bif r1.2.1.place.failed then
 some (.inr (.inl ((0, ()), (r1.2.1, ()))))
 else
 (Zdg r1.1 0).bind fun e2 =>
 (if (a.1.2.2.2.1 : Int) < 0 then none else
 let y3 : Int := (IntKind.i64.wrap ((BitVec.ofInt (IntKind.i64.bits) a.1.2.2.1 ||| BitVec.ofInt (IntKind.i64.bits) (IntKind.i64.wrap ((IntKind.i64.wrap (IntKind.u8.wrap ((BitVec.ofInt (IntKind.u8.bits) (e2.toNat : Int) &&& BitVec.ofInt (IntKind.u8.bits) 127).toNat))) * 2 ^ min (a.1.2.2.2.1 : Int).toNat (IntKind.i64.bits)))).toNat))
 (Zdg r1.1 0).bind fun e4 =>
 (bif (decide (((e4.toNat : Int) : Int) < 128)) then
 (bif (decide ((0 : Int) < a.1.2.2.2.1)) then
 (Zdg r1.1 0).bind fun e5 =>
 (bif (decide (((e5.toNat : Int) : Int) = 0)) then
 (ZbI r1.2.1).bind fun r6 =>
 some (.inr (.inl ((0, ()), ((⟨(⟨r6.2.1.1, r6.2.1.2.1, r6.2.1.2.2.1⟩ : ZfE)⟩ : ZaA), ()))))
 else
 (bif (decide ((4611686018427387903 : Int) < y3)) then
 (ZbI r1.2.1).bind fun r7 =>
 some (.inr (.inl ((0, ()), ((⟨(⟨r7.2.1.1, r7.2.1.2.1, r7.2.1.2.2.1⟩ : ZfE)⟩ : ZaA), ()))))
 else
 (bif (decide ((a.1.2.1 : Int) < y3)) then
 (ZbI r1.2.1).bind fun r8 =>
 some (.inr (.inl ((0, ()), ((⟨(⟨r8.2.1.1, r8.2.1.2.1, r8.2.1.2.2.1⟩ : ZfE)⟩ : ZaA), ()))))
 else
 some (.inr (.inl ((y3, ()), (r1.2.1, ())))))))
 else
 (bif (decide ((4611686018427387903 : Int) < y3)) then
 (ZbI r1.2.1).bind fun r9 =>
 some (.inr (.inl ((0, ()), ((⟨(⟨r9.2.1.1, r9.2.1.2.1, r9.2.1.2.2.1⟩ : ZfE)⟩ : ZaA), ()))))
 else
 (bif (decide ((a.1.2.1 : Int) < y3)) then
 (ZbI r1.2.1).bind fun r10 =>
 some (.inr (.inl ((0, ()), ((⟨(⟨r10.2.1.1, r10.2.1.2.1, r10.2.1.2.2.1⟩ : ZfE)⟩ : ZaA), ()))))
 else
 some (.inr (.inl ((y3, ()), (r1.2.1, ())))))))
 else
 some (.inl (((), a.1.2.1, y3, (IntKind.i64.wrap (a.1.2.2.2.1 + 7)), ()), (r1.2.1, ()))))))
 else
 some (.inr (.inr (((), ()), (a.2.1, ())))))
noncomputable def ZfV : LE CT Tryz.prog := ⟨5, [0, 1, 5, 6], [.one (.ptr 0 0), .one (.int .i64), .one (.int .i64), .one (.int .i64)], [.cobj 150 15], [⟨.ret, [4], [.one (.int .i64)], [.cobj 150 15]⟩, ⟨.exit 0, [0], [.one (.ptr 0 0)], [.cobj 150 15]⟩], ZhW⟩
noncomputable def Zk1 : List (LE CT Tryz.prog) := [ZfV]
theorem ZmA : Zh5 ZfV (Zg9 (Zbp Tryz.f83) 0) := fun A env h k z hk => ZdL (E := ZfV) (Zad Zk0) (dr := ZkZ) (lps := Zaq Zk1) (Zai (by kernel_rfl)) (fun a => by kernel_rfl) env h k z hk
noncomputable def Zjf (x1 : Int) (h0 : (Bool) × (Bool) × (List (UInt8)) × Unit) : Option ((Int) × ((ZaA) × (Unit) × Unit)) :=
 (ZxE (h0.1, h0.2.1, h0.2.2.1, ())).bind fun r1 =>
 (bif (!r1.1) then
 some (0, ((⟨(⟨r1.2.1.1, r1.2.1.2.1, r1.2.1.2.2.1⟩ : ZfE)⟩ : ZaA), (), ()))
 else
 (ZaP ZhW (((), x1, 0, 0, ()), ((⟨(⟨r1.2.1.1, r1.2.1.2.1, r1.2.1.2.2.1⟩ : ZfE)⟩ : ZaA), ()))).bind fun b2 =>
 (match b2 with
 | .inl b3 =>
 some (b3.1.1, (b3.2.1, (), ()))
 | .inr b4 =>
 (ZbI b4.2.1).bind fun r5 =>
 some (0, ((⟨(⟨r5.2.1.1, r5.2.1.2.1, r5.2.1.2.2.1⟩ : ZfE)⟩ : ZaA), (), ()))))
noncomputable def Zpg : CE CT Tryz.prog where
 f := 83
 args := [.one (.ptr 0 0), .one (.int .i64)]
 hs := [.obj 150 [.bool, .bool, .own 1 1], .row 5 1]
 res := .val (.one (.int .i64))
 outs := [.cobj 150 15, .dead]
 m := fun d dh => Zjf d.2.1 dh.1
 ok := ZaN Zan Tryz.func83 (by kernel_rfl) (Zad Zk0) (dr := ZkZ) (lps := Zaq Zk1) (Zao (Zcd (n := 1) (by kernel_rfl) fun i hi => match i, hi with | 0, _ => ZdM (E := ZfV) (by kernel_rfl) ZmA)) (fun d dh => by kernel_rfl)
def Zsp : Nat -> Nat -> DrA
 | _, _ => ⟨[], [], [], [], [], false, []⟩
noncomputable def Zsq : List (CE CT Tryz.prog) := []
noncomputable def Zsr : List (LE CT Tryz.prog) := []
noncomputable def ZlZ (h0 : ZaA) : Option ((Bool) × ((ZaA) × Unit)) :=
 (bif h0.place.made then
 some ((!h0.place.failed), (h0, ()))
 else
 some (false, (h0, ())))
noncomputable def Zkk : CE CT Tryz.prog where
 f := 91
 args := [.one (.ptr 0 0)]
 hs := [.cobj 150 15]
 res := .val (.one (.bool))
 outs := [.cobj 150 15]
 m := fun d dh => ZlZ dh.1
 ok := ZaN Zan Tryz.func91 (by kernel_rfl) (Zad Zsq) (dr := Zsp) (lps := Zaq Zsr) (Zao (Zai (by kernel_rfl))) (fun d dh => by kernel_rfl)
def Zss : Nat -> Nat -> DrA
 | _, _ => ⟨[], [], [], [], [], false, []⟩
noncomputable def Zst : List (CE CT Tryz.prog) := [Zkk]
noncomputable def Zsu : List (LE CT Tryz.prog) := []
noncomputable def ZoE (h0 : ZaA) : Option ((Int) × ((ZaA) × Unit)) :=
 (ZlZ h0).bind fun r1 =>
 (bif (!r1.1) then
 some (0, (r1.2.1, ()))
 else
 some ((r1.2.1.place.left.length : Int), (r1.2.1, ())))
noncomputable def ZmX : CE CT Tryz.prog where
 f := 42
 args := [.one (.ptr 0 0)]
 hs := [.cobj 150 15]
 res := .val (.one (.int .i64))
 outs := [.cobj 150 15]
 m := fun d dh => ZoE dh.1
 ok := ZaN Zan Tryz.func42 (by kernel_rfl) (Zad Zst) (dr := Zss) (lps := Zaq Zsu) (Zao (Zai (by kernel_rfl))) (fun d dh => by kernel_rfl)
def ZtU : Nat -> Nat -> DrA
 | _, _ => ⟨[], [], [], [], [], false, []⟩
noncomputable def ZtV : List (CE CT Tryz.prog) := []
noncomputable def ZtW : List (LE CT Tryz.prog) := []
noncomputable def ZuX (h0 : ZaA) : Option ((Int) × ((ZaA) × Unit)) :=
 (bif (!h0.place.made) then
 some (1, (h0, ()))
 else
 (bif h0.place.failed then
 some (4, (h0, ()))
 else
 (bif (decide ((0 : Int) < (h0.place.left.length : Int))) then
 some (4, (h0, ()))
 else
 some (0, (h0, ())))))
noncomputable def ZtX : CE CT Tryz.prog where
 f := 85
 args := [.one (.ptr 0 0)]
 hs := [.cobj 150 15]
 res := .val (.one (.int .i64))
 outs := [.cobj 150 15]
 m := fun d dh => ZuX dh.1
 ok := ZaN Zan Tryz.func85 (by kernel_rfl) (Zad ZtV) (dr := ZtU) (lps := Zaq ZtW) (Zao (Zai (by kernel_rfl))) (fun d dh => by kernel_rfl)
def ZqI : Nat -> Nat -> DrA
 | _, _ => ⟨[], [], [], [], [], false, []⟩
noncomputable def ZqJ : List (CE CT Tryz.prog) := [ZmX, ZtX]
noncomputable def ZqK : List (LE CT Tryz.prog) := []
noncomputable def Zix (h0 : (Unit) × Unit) (h1 : ZaA) : Option ((Bool) × (((Unit) × Unit) × (ZaA) × Unit)) :=
 (ZoE h1).bind fun r1 =>
 (bif (decide ((r1.1 : Int) = 0)) then
 (ZuX r1.2.1).bind fun r2 =>
 some ((decide ((r2.1 : Int) ≠ 0)), (((), ()), r2.2.1, ()))
 else
 some (false, (((), ()), r1.2.1, ())))
noncomputable def Zl0 : CE CT Tryz.prog where
 f := 84
 args := [.one (.ptr 0 0)]
 hs := [.obj 97 [.ptr 1 0], .cobj 150 15]
 res := .val (.one (.bool))
 outs := [.obj 97 [.ptr 1 0], .cobj 150 15]
 m := fun d dh => Zix dh.1 dh.2.1
 ok := ZaN Zan Tryz.func84 (by kernel_rfl) (Zad ZqJ) (dr := ZqI) (lps := Zaq ZqK) (Zao (Zai (by kernel_rfl))) (fun d dh => by kernel_rfl)
def Zjt : Nat -> Nat -> DrA
 | _, _ => ⟨[], [], [], [], [], false, []⟩
noncomputable def Zju : List (CE CT Tryz.prog) := [Zkk, ZhV, ZhU]
noncomputable def Ze4 (a : ((Unit) × (Int) × (Int) × (Int) × Unit) × ((ZaA) × Unit)) : Option ((((Unit) × (Int) × (Int) × (Int) × Unit) × ((ZaA) × Unit)) ⊕ ((((Int) × Unit) × ((ZaA) × Unit)) ⊕ (((Unit) × Unit) × ((ZaA) × Unit)))) :=
 (bif (decide ((a.1.2.2.2.1 : Int) < 63)) then
 (Zdx 1 a.2.1).bind fun r1 =>
 (bif r1.2.1.place.failed then
 some (.inr (.inl ((0, ()), (r1.2.1, ()))))
 else
 (Zdg r1.1 0).bind fun e2 =>
 (if (a.1.2.2.2.1 : Int) < 0 then none else
 let y3 : Int := (IntKind.i64.wrap ((BitVec.ofInt (IntKind.i64.bits) a.1.2.2.1 ||| BitVec.ofInt (IntKind.i64.bits) (IntKind.i64.wrap ((IntKind.i64.wrap (IntKind.u8.wrap ((BitVec.ofInt (IntKind.u8.bits) (e2.toNat : Int) &&& BitVec.ofInt (IntKind.u8.bits) 127).toNat))) * 2 ^ min (a.1.2.2.2.1 : Int).toNat (IntKind.i64.bits)))).toNat))
 (Zdg r1.1 0).bind fun e4 =>
 (bif (decide (((e4.toNat : Int) : Int) < 128)) then
 (bif (decide ((0 : Int) < a.1.2.2.2.1)) then
 (Zdg r1.1 0).bind fun e5 =>
 (bif (decide (((e5.toNat : Int) : Int) = 0)) then
 (ZbI r1.2.1).bind fun r6 =>
 some (.inr (.inl ((0, ()), ((⟨(⟨r6.2.1.1, r6.2.1.2.1, r6.2.1.2.2.1⟩ : ZfE)⟩ : ZaA), ()))))
 else
 (bif (decide ((4611686018427387903 : Int) < y3)) then
 (ZbI r1.2.1).bind fun r7 =>
 some (.inr (.inl ((0, ()), ((⟨(⟨r7.2.1.1, r7.2.1.2.1, r7.2.1.2.2.1⟩ : ZfE)⟩ : ZaA), ()))))
 else
 (bif (decide ((a.1.2.1 : Int) < y3)) then
 (ZbI r1.2.1).bind fun r8 =>
 some (.inr (.inl ((0, ()), ((⟨(⟨r8.2.1.1, r8.2.1.2.1, r8.2.1.2.2.1⟩ : ZfE)⟩ : ZaA), ()))))
 else
 some (.inr (.inl ((y3, ()), (r1.2.1, ())))))))
 else
 (bif (decide ((4611686018427387903 : Int) < y3)) then
 (ZbI r1.2.1).bind fun r9 =>
 some (.inr (.inl ((0, ()), ((⟨(⟨r9.2.1.1, r9.2.1.2.1, r9.2.1.2.2.1⟩ : ZfE)⟩ : ZaA), ()))))
 else
 (bif (decide ((a.1.2.1 : Int) < y3)) then
 (ZbI r1.2.1).bind fun r10 =>
 some (.inr (.inl ((0, ()), ((⟨(⟨r10.2.1.1, r10.2.1.2.1, r10.2.1.2.2.1⟩ : ZfE)⟩ : ZaA), ()))))
 else
 some (.inr (.inl ((y3, ()), (r1.2.1, ())))))))
 else
 some (.inl (((), a.1.2.1, y3, (IntKind.i64.wrap (a.1.2.2.2.1 + 7)), ()), (r1.2.1, ()))))))
 else
 some (.inr (.inr (((), ()), (a.2.1, ())))))
noncomputable def Ze5 : LE CT Tryz.prog := ⟨5, [0, 1, 5, 6], [.one (.ptr 0 0), .one (.int .i64), .one (.int .i64), .one (.int .i64)], [.cobj 150 15], [⟨.ret, [4], [.one (.int .i64)], [.cobj 150 15]⟩, ⟨.exit 0, [0], [.one (.ptr 0 0)], [.cobj 150 15]⟩], Ze4⟩
noncomputable def Zjv : List (LE CT Tryz.prog) := [Ze5]
theorem Zlg : Zh5 Ze5 (Zg9 (Zbp Tryz.f83) 0) := fun A env h k z hk => ZdL (E := Ze5) (Zad Zju) (dr := Zjt) (lps := Zaq Zjv) (Zai (by kernel_rfl)) (fun a => by kernel_rfl) env h k z hk
noncomputable def ZgI (x1 : Int) (h0 : ZaA) : Option ((Int) × ((ZaA) × Unit)) :=
 (ZlZ h0).bind fun r1 =>
 (bif (!r1.1) then
 some (0, (r1.2.1, ()))
 else
 (ZaP Ze4 (((), x1, 0, 0, ()), (r1.2.1, ()))).bind fun b2 =>
 (match b2 with
 | .inl b3 =>
 some (b3.1.1, (b3.2.1, ()))
 | .inr b4 =>
 (ZbI b4.2.1).bind fun r5 =>
 some (0, ((⟨(⟨r5.2.1.1, r5.2.1.2.1, r5.2.1.2.2.1⟩ : ZfE)⟩ : ZaA), ()))))
noncomputable def Zng : CE CT Tryz.prog where
 f := 83
 args := [.one (.ptr 0 0), .one (.int .i64)]
 hs := [.cobj 150 15]
 res := .val (.one (.int .i64))
 outs := [.cobj 150 15]
 m := fun d dh => ZgI d.2.1 dh.1
 ok := ZaN Zan Tryz.func83 (by kernel_rfl) (Zad Zju) (dr := Zjt) (lps := Zaq Zjv) (Zao (Zcd (n := 1) (by kernel_rfl) fun i hi => match i, hi with | 0, _ => ZdM (E := Ze5) (by kernel_rfl) Zlg)) (fun d dh => by kernel_rfl)
def ZtY : Nat -> Nat -> DrA
 | _, _ => ⟨[], [], [], [], [], false, []⟩
noncomputable def ZtZ : List (CE CT Tryz.prog) := [Zng, Zkk, ZhV, Zmv]
noncomputable def Zt0 : List (LE CT Tryz.prog) := []
noncomputable def Znz (x1 : Int) (h0 : ZaA) : Option ((List (UInt8)) × ((ZaA) × (Unit) × Unit)) :=
 (ZgI x1 h0).bind fun r1 =>
 (ZlZ r1.2.1).bind fun r2 =>
 (bif (!r2.1) then
 some ([], (r2.2.1, (), ()))
 else
 (Zdx r1.1 r2.2.1).bind fun r3 =>
 (Zkf r3.1).bind fun r4 =>
 some (r4.1, (r3.2.1, (), ())))
noncomputable def Zt1 : CE CT Tryz.prog where
 f := 132
 args := [.one (.ptr 0 0), .one (.int .i64)]
 hs := [.cobj 150 15]
 res := .val (.one (.own 1 1))
 outs := [.cobj 150 15, .row 5 1]
 m := fun d dh => Znz d.2.1 dh.1
 ok := ZaN Zan Tryz.func132 (by kernel_rfl) (Zad ZtZ) (dr := ZtY) (lps := Zaq Zt0) (Zao (Zai (by kernel_rfl))) (fun d dh => by kernel_rfl)
def Zsv : Nat -> Nat -> DrA
 | _, _ => ⟨[], [], [], [], [], false, []⟩
noncomputable def Zsw : List (CE CT Tryz.prog) := [Zt1]
noncomputable def Zsx : List (LE CT Tryz.prog) := []
noncomputable def Zkl (x1 : Int) (h0 : ZaA) : Option ((List UInt8) × ((ZaA) × Unit)) :=
 (Znz x1 h0).bind fun r1 =>
 some (r1.1, (r1.2.1, ()))
noncomputable def Zsy : CE CT Tryz.prog where
 f := 88
 args := [.one (.ptr 0 0), .one (.int .i64)]
 hs := [.cobj 150 15]
 res := .val (.one (.str))
 outs := [.cobj 150 15]
 m := fun d dh => Zkl d.2.1 dh.1
 ok := ZaN Zan Tryz.func88 (by kernel_rfl) (Zad Zsw) (dr := Zsv) (lps := Zaq Zsx) (Zao (Zai (by kernel_rfl))) (fun d dh => by kernel_rfl)
def ZqL : Nat -> Nat -> DrA
 | 4, _ => ⟨(List.range 10), [[], [], [1], [1, 2], [1, 2, 3], [1, 2, 3, 4], [1, 2, 3, 4, 5], [1, 2, 3, 4, 5, 6], (List.range 7), (List.range 9)], [0], [2, 6], [4], false, []⟩
 | _, _ => ⟨[], [], [], [], [], false, []⟩
noncomputable def ZqM : List (CE CT Tryz.prog) := [Zsy, Zl0, ZlG]
noncomputable def ZqN : List (LE CT Tryz.prog) := []
noncomputable def ZkD (h0 : (Unit) × Unit) (h1 : (Unit) × Unit) (h2 : ZaA) : Option (((Zae) × (Bool) × Unit) × (((Unit) × Unit) × ((Unit) × Unit) × (ZaA) × Unit)) :=
 (Zkl 20 h2).bind fun r1 =>
 (Zkl 20 r1.2.1).bind fun r2 =>
 (Zix ((), ()) r2.2.1).bind fun r3 =>
 (bif (!r3.1) then
 (Zig (⟨r1.1, r2.1⟩ : Zae)).bind fun r4 =>
 some (((⟨r1.1, r2.1⟩ : Zae), r4.1, ()), (((), ()), ((), ()), r3.2.2.1, ()))
 else
 some (((⟨r1.1, r2.1⟩ : Zae), false, ()), (((), ()), ((), ()), r3.2.2.1, ())))
noncomputable def ZqO : CE CT Tryz.prog where
 f := 87
 args := [.one (.ptr 0 0), .one (.ptr 1 0)]
 hs := [.obj 97 [.ptr 2 0], .obj 25 [.clo 84 [0]], .cobj 150 15]
 res := .tup [.cod 3, .one (.bool)]
 outs := [.obj 97 [.ptr 2 0], .obj 25 [.clo 84 [0]], .cobj 150 15]
 m := fun d dh => ZkD dh.1 dh.2.1 dh.2.2.1
 ok := ZaN Zan Tryz.func87 (by kernel_rfl) (Zad ZqM) (dr := ZqL) (lps := Zaq ZqN) (Zao (Zai (by kernel_rfl))) (fun d dh => by kernel_rfl)
def ZmY : Nat -> Nat -> DrA
 | 5, _ => ⟨(List.range 13 ++ [14, 13, 15, 16, 17, 18]), [[], [0], [0, 1], [0, 1, 2], [0, 1, 2, 3], (List.range 5), (List.range 6), (List.range 7), (List.range 7), (List.range 7 ++ [8]), (List.range 7 ++ [8, 9]), (List.range 11), (List.range 12), (List.range 13), (List.range 7), (List.range 7 ++ [14]), (List.range 16), (List.range 17), (List.range 18)], [], [], [], false, []⟩
 | _, _ => ⟨[], [], [], [], [], false, []⟩
noncomputable def ZmZ : List (CE CT Tryz.prog) := [ZqO]
noncomputable def ZhG (a : ((Unit) × (List (Zae)) × (Int) × (Int) × Unit) × (((Unit) × Unit) × ((Unit) × Unit) × (ZaA) × (Unit) × Unit)) : Option ((((Unit) × (List (Zae)) × (Int) × (Int) × Unit) × (((Unit) × Unit) × ((Unit) × Unit) × (ZaA) × (Unit) × Unit)) ⊕ ((((Unit) × (Bool) × Unit) × (((Unit) × Unit) × ((Unit) × Unit) × (ZaA) × (Unit) × Unit)) ⊕ (((List (Zae)) × Unit) × (((Unit) × Unit) × ((Unit) × Unit) × (ZaA) × (Unit) × (Unit) × Unit)))) :=
 (bif (decide ((a.1.2.2.2.1 : Int) < a.1.2.2.1)) then
 (ZkD ((), ()) ((), ()) a.2.2.2.1).bind fun r1 =>
 (bif (!r1.1.2.1) then
 some (.inr (.inl (((), false, ()), (((), ()), ((), ()), r1.2.2.2.1, (), ()))))
 else
 (bif (decide ((0 : Int) < (a.1.2.1.length : Int))) then
 (Zdg a.1.2.1 (IntKind.i64.wrap ((a.1.2.1.length : Int) - 1))).bind fun e2 =>
 (bif (!decide (e2.key < r1.1.1.key)) then
 some (.inr (.inl (((), false, ()), (((), ()), ((), ()), r1.2.2.2.1, (), ()))))
 else
 (if a.1.2.1.length + ([r1.1.1] : List (Zae)).length <= 140737488355328 /\ (a.1.2.1.length + ([r1.1.1] : List (Zae)).length) * 32 <= 140737488355328 then
 some (.inl (((), (a.1.2.1 ++ ([r1.1.1] : List (Zae))), a.1.2.2.1, (IntKind.i64.wrap (a.1.2.2.2.1 + 1)), ()), (((), ()), ((), ()), r1.2.2.2.1, (), ())))
 else none))
 else
 (if a.1.2.1.length + ([r1.1.1] : List (Zae)).length <= 140737488355328 /\ (a.1.2.1.length + ([r1.1.1] : List (Zae)).length) * 32 <= 140737488355328 then
 some (.inl (((), (a.1.2.1 ++ ([r1.1.1] : List (Zae))), a.1.2.2.1, (IntKind.i64.wrap (a.1.2.2.2.1 + 1)), ()), (((), ()), ((), ()), r1.2.2.2.1, (), ())))
 else none)))
 else
 some (.inr (.inr ((a.1.2.1, ()), (((), ()), ((), ()), a.2.2.2.1, (), (), ())))))
noncomputable def ZhH : LE CT Tryz.prog := ⟨3, [1, 6, 9, 10], [.one (.clo 87 [0, 1]), .one (.own 3 3), .one (.int .i64), .one (.int .i64)], [.obj 97 [.ptr 2 0], .obj 25 [.clo 84 [0]], .cobj 150 15, .row 48 2], [⟨.ret, [4, 5], [.one (.nil), .one (.bool)], [.obj 97 [.ptr 2 0], .obj 25 [.clo 84 [0]], .cobj 150 15, .dead]⟩, ⟨.exit 0, [6], [.one (.own 3 4)], [.obj 97 [.ptr 2 0], .obj 25 [.clo 84 [0]], .cobj 150 15, .dead, .row 48 2]⟩], ZhG⟩
noncomputable def Zm0 : List (LE CT Tryz.prog) := [ZhH]
theorem ZoF : Zh5 ZhH (Zg9 (Zbp Tryz.f86) 0) := fun A env h k z hk => ZdL (E := ZhH) (Zad ZmZ) (dr := ZmY) (lps := Zaq Zm0) (Zai (by kernel_rfl)) (fun a => by kernel_rfl) env h k z hk
noncomputable def Zl1 (x0 : Int) (h0 : (Unit) × Unit) (h1 : (Unit) × Unit) (h2 : ZaA) : Option (((List (Zae)) × (Bool) × Unit) × (((Unit) × Unit) × ((Unit) × Unit) × (ZaA) × (Unit) × Unit)) :=
 (ZaP ZhG (((), [], x0, 0, ()), (((), ()), ((), ()), h2, (), ()))).bind fun b1 =>
 (match b1 with
 | .inl b2 =>
 some (([], b2.1.2.1, ()), (((), ()), ((), ()), b2.2.2.2.1, (), ()))
 | .inr b3 =>
 some ((b3.1.1, true, ()), (((), ()), ((), ()), b3.2.2.2.1, (), ())))
noncomputable def Zsz : CE CT Tryz.prog where
 f := 86
 args := [.one (.int .i64), .one (.clo 87 [0, 1])]
 hs := [.obj 97 [.ptr 2 0], .obj 25 [.clo 84 [0]], .cobj 150 15]
 res := .tup [.one (.own 3 3), .one (.bool)]
 outs := [.obj 97 [.ptr 2 0], .obj 25 [.clo 84 [0]], .cobj 150 15, .row 48 2]
 m := fun d dh => Zl1 d.1 dh.1 dh.2.1 dh.2.2.1
 ok := ZaN Zan Tryz.func86 (by kernel_rfl) (Zad ZmZ) (dr := ZmY) (lps := Zaq Zm0) (Zao (Zcd (n := 1) (by kernel_rfl) fun i hi => match i, hi with | 0, _ => ZdM (E := ZhH) (by kernel_rfl) ZoF)) (fun d dh => by kernel_rfl)
def ZsA : Nat -> Nat -> DrA
 | _, _ => ⟨[], [], [], [], [], false, []⟩
noncomputable def ZsB : List (CE CT Tryz.prog) := [Zpg, Zl0, Zsz]
noncomputable def ZsC : List (LE CT Tryz.prog) := []
noncomputable def Zl2 (h0 : (Bool) × (Bool) × (List (UInt8)) × Unit) : Option (((List (Zae)) × (Bool) × Unit) × ((ZaA) × (Unit) × (Unit) × Unit)) :=
 (Zjf 400 (h0.1, h0.2.1, h0.2.2.1, ())).bind fun r1 =>
 (Zix ((), ()) r1.2.1).bind fun r2 =>
 (bif r2.1 then
 some (([], false, ()), (r2.2.2.1, (), (), ()))
 else
 (Zl1 r1.1 ((), ()) ((), ()) r2.2.2.1).bind fun r3 =>
 some ((r3.1.1, r3.1.2.1, ()), (r3.2.2.2.1, (), (), ())))
noncomputable def ZsD : CE CT Tryz.prog where
 f := 40
 args := [.one (.ptr 0 0)]
 hs := [.obj 150 [.bool, .bool, .own 1 1], .row 5 1]
 res := .tup [.one (.own 3 2), .one (.bool)]
 outs := [.cobj 150 15, .dead, .row 48 2]
 m := fun d dh => Zl2 dh.1
 ok := ZaN Zan Tryz.func40 (by kernel_rfl) (Zad ZsB) (dr := ZsA) (lps := Zaq ZsC) (Zao (Zai (by kernel_rfl))) (fun d dh => by kernel_rfl)
def Zge : Nat -> Nat -> DrA
 | _, _ => ⟨[], [], [], [], [], false, []⟩
noncomputable def Zgf : List (CE CT Tryz.prog) := []
noncomputable def Zdt (a : ((List (UInt8)) × (Int) × (Int) × Unit) × (Unit)) : Option ((((List (UInt8)) × (Int) × (Int) × Unit) × (Unit)) ⊕ ((((Int) × (Int) × Unit) × (Unit)) ⊕ ((Unit) × (Unit)))) :=
 (bif (decide ((a.1.2.2.1 : Int) < (a.1.1.length : Int))) then
 (bif (decide ((a.1.2.2.1 : Int) < 9)) then
 (Zdg a.1.1 a.1.2.2.1).bind fun e1 =>
 (if ((IntKind.u64.wrap (IntKind.i64.wrap (7 * a.1.2.2.1))) : Int) < 0 then none else
 let y2 : Int := (IntKind.i64.wrap ((BitVec.ofInt (IntKind.i64.bits) a.1.2.1 ||| BitVec.ofInt (IntKind.i64.bits) (IntKind.i64.wrap ((IntKind.i64.wrap (IntKind.u8.wrap ((BitVec.ofInt (IntKind.u8.bits) (e1.toNat : Int) &&& BitVec.ofInt (IntKind.u8.bits) 127).toNat))) * 2 ^ min ((IntKind.u64.wrap (IntKind.i64.wrap (7 * a.1.2.2.1))) : Int).toNat (IntKind.i64.bits)))).toNat))
 (Zdg a.1.1 a.1.2.2.1).bind fun e3 =>
 (bif (decide (((e3.toNat : Int) : Int) < 128)) then
 (bif (decide ((0 : Int) < a.1.2.2.1)) then
 (Zdg a.1.1 a.1.2.2.1).bind fun e4 =>
 (bif (decide (((e4.toNat : Int) : Int) = 0)) then
 some (.inr (.inl ((0, 0, ()), ())))
 else
 (bif (decide ((4611686018427387903 : Int) < y2)) then
 some (.inr (.inl ((0, 0, ()), ())))
 else
 (bif (decide ((y2 : Int) < 0)) then
 some (.inr (.inl ((0, 0, ()), ())))
 else
 some (.inr (.inl ((y2, (IntKind.i64.wrap (a.1.2.2.1 + 1)), ()), ()))))))
 else
 (bif (decide ((4611686018427387903 : Int) < y2)) then
 some (.inr (.inl ((0, 0, ()), ())))
 else
 (bif (decide ((y2 : Int) < 0)) then
 some (.inr (.inl ((0, 0, ()), ())))
 else
 some (.inr (.inl ((y2, (IntKind.i64.wrap (a.1.2.2.1 + 1)), ()), ()))))))
 else
 some (.inl ((a.1.1, y2, (IntKind.i64.wrap (a.1.2.2.1 + 1)), ()), ()))))
 else
 some (.inr (.inr ((), ()))))
 else
 some (.inr (.inr ((), ()))))
noncomputable def Zdu : LE CT Tryz.prog := ⟨3, [0, 4, 5], [.one (.sl 1), .one (.int .i64), .one (.int .i64)], [], [⟨.ret, [2, 3], [.one (.int .i64), .one (.int .i64)], []⟩, ⟨.exit 0, [], [], []⟩], Zdt⟩
noncomputable def Zgg : List (LE CT Tryz.prog) := [Zdu]
theorem Ziy : Zh5 Zdu (Zg9 (Zbp Tryz.f133) 0) := fun A env h k z hk => ZdL (E := Zdu) (Zad Zgf) (dr := Zge) (lps := Zaq Zgg) (Zai (by kernel_rfl)) (fun a => by kernel_rfl) env h k z hk
noncomputable def Zed (x0 : List (UInt8)) : Option (((Int) × (Int) × Unit) × (Unit)) :=
 (ZaP Zdt ((x0, 0, 0, ()), ())).bind fun b1 =>
 (match b1 with
 | .inl b2 =>
 some ((b2.1.1, b2.1.2.1, ()), ())
 | .inr b3 =>
 some ((0, 0, ()), ()))
noncomputable def Zkm : CE CT Tryz.prog where
 f := 133
 args := [.one (.sl 1)]
 hs := []
 res := .tup [.one (.int .i64), .one (.int .i64)]
 outs := []
 m := fun d dh => Zed d.1
 ok := ZaN Zan Tryz.func133 (by kernel_rfl) (Zad Zgf) (dr := Zge) (lps := Zaq Zgg) (Zao (Zcd (n := 1) (by kernel_rfl) fun i hi => match i, hi with | 0, _ => ZdM (E := Zdu) (by kernel_rfl) Ziy)) (fun d dh => by kernel_rfl)
def ZjL : Nat -> Nat -> DrA
 | _, _ => ⟨[], [], [], [], [], false, []⟩
noncomputable def ZjM : List (CE CT Tryz.prog) := []
noncomputable def ZjN : List (LE CT Tryz.prog) := []
noncomputable def Zd0 (h0 : Zch) : Option ((Unit) × (((List (UInt8)) × (Bool) × Unit) × (Unit) × Unit)) :=
 some ((), (([], true, ()), (), ()))
noncomputable def ZfK : CE CT Tryz.prog where
 f := 134
 args := [.one (.ptr 0 0)]
 hs := [.cobj 101 16]
 res := .tup []
 outs := [.obj 101 [.own 1 1, .bool], .row 5 1]
 m := fun d dh => Zd0 dh.1
 ok := ZaN Zan Tryz.func134 (by kernel_rfl) (Zad ZjM) (dr := ZjL) (lps := Zaq ZjN) (Zao (Zai (by kernel_rfl))) (fun d dh => by kernel_rfl)
def Zhm : Nat -> Nat -> DrA
 | _, _ => ⟨[], [], [], [], [], false, []⟩
noncomputable def Zhn : List (CE CT Tryz.prog) := [Zkm, ZfK]
noncomputable def Zho : List (LE CT Tryz.prog) := []
noncomputable def ZbJ (x1 : Int) (h0 : Zch) : Option ((Int) × ((Zch) × Unit)) :=
 (bif h0.failed then
 some (0, (h0, ()))
 else
 (Zed h0.left).bind fun r1 =>
 (bif (decide ((r1.1.2.1 : Int) = 0)) then
 (Zd0 h0).bind fun r2 =>
 some (0, ((⟨r2.2.1.1, r2.2.1.2.1⟩ : Zch), ()))
 else
 (bif (decide ((x1 : Int) < r1.1.1)) then
 (Zd0 h0).bind fun r3 =>
 some (0, ((⟨r3.2.1.1, r3.2.1.2.1⟩ : Zch), ()))
 else
 (if 0 <= (r1.1.2.1 : Int) /\ (r1.1.2.1 : Int) <= (h0.left.length : Int) /\ (h0.left.length : Int) <= (h0.left.length : Int) then
 let y4 : List (UInt8) := ((h0.left.drop (r1.1.2.1 : Int).toNat).take (((h0.left.length : Int) : Int).toNat - (r1.1.2.1 : Int).toNat))
 some (r1.1.1, ((⟨y4, h0.failed⟩ : Zch), ()))
 else none))))
noncomputable def ZeG : CE CT Tryz.prog where
 f := 89
 args := [.one (.ptr 0 0), .one (.int .i64)]
 hs := [.cobj 101 16]
 res := .val (.one (.int .i64))
 outs := [.cobj 101 16]
 m := fun d dh => ZbJ d.2.1 dh.1
 ok := ZaN Zan Tryz.func89 (by kernel_rfl) (Zad Zhn) (dr := Zhm) (lps := Zaq Zho) (Zao (Zai (by kernel_rfl))) (fun d dh => by kernel_rfl)
def Zjg : Nat -> Nat -> DrA
 | _, _ => ⟨[], [], [], [], [], false, []⟩
noncomputable def Zjh : List (CE CT Tryz.prog) := [ZeG, ZfK]
noncomputable def Zji : List (LE CT Tryz.prog) := []
noncomputable def Zcz (x1 : Int) (h0 : Zch) : Option ((List (UInt8)) × ((Zch) × (Unit) × Unit)) :=
 (ZbJ x1 h0).bind fun r1 =>
 (bif r1.2.1.failed then
 some ([], (r1.2.1, (), ()))
 else
 (bif (decide (((r1.2.1.left.length : Int) : Int) < r1.1)) then
 (Zd0 r1.2.1).bind fun r2 =>
 some ([], ((⟨r2.2.1.1, r2.2.1.2.1⟩ : Zch), (), ()))
 else
 (if 0 <= ((0 : Int) : Int) /\ ((0 : Int) : Int) <= r1.1 /\ r1.1 <= (r1.2.1.left.length : Int) then
 let y3 : List (UInt8) := ((r1.2.1.left.drop ((0 : Int) : Int).toNat).take ((r1.1 : Int).toNat - ((0 : Int) : Int).toNat))
 (if ([] : List (UInt8)).length + y3.length <= 140737488355328 /\ (([] : List (UInt8)).length + y3.length) * 1 <= 140737488355328 then
 (if 0 <= (r1.1 : Int) /\ (r1.1 : Int) <= (r1.2.1.left.length : Int) /\ (r1.2.1.left.length : Int) <= (r1.2.1.left.length : Int) then
 let y4 : List (UInt8) := ((r1.2.1.left.drop (r1.1 : Int).toNat).take (((r1.2.1.left.length : Int) : Int).toNat - (r1.1 : Int).toNat))
 some ((([] : List (UInt8)) ++ y3), ((⟨y4, r1.2.1.failed⟩ : Zch), (), ()))
 else none)
 else none)
 else none)))
noncomputable def Zjj : CE CT Tryz.prog where
 f := 90
 args := [.one (.ptr 0 0), .one (.int .i64)]
 hs := [.cobj 101 16]
 res := .val (.one (.own 1 1))
 outs := [.cobj 101 16, .row 5 1]
 m := fun d dh => Zcz d.2.1 dh.1
 ok := ZaN Zan Tryz.func90 (by kernel_rfl) (Zad Zjh) (dr := Zjg) (lps := Zaq Zji) (Zao (Zai (by kernel_rfl))) (fun d dh => by kernel_rfl)
def ZfL : Nat -> Nat -> DrA
 | _, _ => ⟨[], [], [], [], [], false, []⟩
noncomputable def ZfM : List (CE CT Tryz.prog) := [ZeG, Zjj, ZdW]
noncomputable def Zdc (a : ((Unit) × (Int) × (List (Zae)) × (Int) × Unit) × ((Zch) × (Unit) × Unit)) : Option ((((Unit) × (Int) × (List (Zae)) × (Int) × Unit) × ((Zch) × (Unit) × Unit)) ⊕ ((((Unit) × (Bool) × Unit) × ((Zch) × (Unit) × Unit)) ⊕ (((Unit) × (List (Zae)) × Unit) × ((Zch) × (Unit) × (Unit) × Unit)))) :=
 (bif (decide ((a.1.2.2.2.1 : Int) < a.1.2.1)) then
 (Zcz 20 a.2.1).bind fun r1 =>
 (Zcz 20 r1.2.1).bind fun r2 =>
 (bif r2.2.1.failed then
 some (.inr (.inl (((), false, ()), (r2.2.1, (), ()))))
 else
 (ZbM (⟨r1.1, r2.1⟩ : Zae)).bind fun r3 =>
 (bif (!r3.1) then
 some (.inr (.inl (((), false, ()), (r2.2.1, (), ()))))
 else
 (bif (decide ((0 : Int) < a.1.2.2.2.1)) then
 (Zdg a.1.2.2.1 (IntKind.i64.wrap (a.1.2.2.2.1 - 1))).bind fun e4 =>
 (bif (!decide (e4.key < r1.1)) then
 some (.inr (.inl (((), false, ()), (r2.2.1, (), ()))))
 else
 (if a.1.2.2.1.length + ([(⟨r1.1, r2.1⟩ : Zae)] : List (Zae)).length <= 140737488355328 /\ (a.1.2.2.1.length + ([(⟨r1.1, r2.1⟩ : Zae)] : List (Zae)).length) * 32 <= 140737488355328 then
 some (.inl (((), a.1.2.1, (a.1.2.2.1 ++ ([(⟨r1.1, r2.1⟩ : Zae)] : List (Zae))), (IntKind.i64.wrap (a.1.2.2.2.1 + 1)), ()), (r2.2.1, (), ())))
 else none))
 else
 (if a.1.2.2.1.length + ([(⟨r1.1, r2.1⟩ : Zae)] : List (Zae)).length <= 140737488355328 /\ (a.1.2.2.1.length + ([(⟨r1.1, r2.1⟩ : Zae)] : List (Zae)).length) * 32 <= 140737488355328 then
 some (.inl (((), a.1.2.1, (a.1.2.2.1 ++ ([(⟨r1.1, r2.1⟩ : Zae)] : List (Zae))), (IntKind.i64.wrap (a.1.2.2.2.1 + 1)), ()), (r2.2.1, (), ())))
 else none))))
 else
 some (.inr (.inr (((), a.1.2.2.1, ()), (a.2.1, (), (), ())))))
noncomputable def Zdd : LE CT Tryz.prog := ⟨4, [0, 4, 5, 6], [.one (.ptr 0 0), .one (.int .i64), .one (.own 3 1), .one (.int .i64)], [.cobj 101 16, .row 48 2], [⟨.ret, [2, 3], [.one (.nil), .one (.bool)], [.cobj 101 16, .dead]⟩, ⟨.exit 0, [0, 5], [.one (.ptr 0 0), .one (.own 3 2)], [.cobj 101 16, .dead, .row 48 2]⟩], Zdc⟩
noncomputable def ZfN : List (LE CT Tryz.prog) := [Zdd]
theorem ZhX : Zh5 Zdd (Zg9 (Zbp Tryz.f41) 0) := fun A env h k z hk => ZdL (E := Zdd) (Zad ZfM) (dr := ZfL) (lps := Zaq ZfN) (Zai (by kernel_rfl)) (fun a => by kernel_rfl) env h k z hk
noncomputable def Zd1 (h0 : Zch) : Option (((List (Zae)) × (Bool) × Unit) × ((Zch) × (Unit) × Unit)) :=
 (ZbJ 400 h0).bind fun r1 =>
 (ZaP Zdc (((), r1.1, [], 0, ()), (r1.2.1, (), ()))).bind fun b2 =>
 (match b2 with
 | .inl b3 =>
 some (([], b3.1.2.1, ()), (b3.2.1, (), ()))
 | .inr b4 =>
 (bif b4.2.1.failed then
 some (([], false, ()), (b4.2.1, (), ()))
 else
 some ((b4.1.2.1, true, ()), (b4.2.1, (), ()))))
noncomputable def ZjO : CE CT Tryz.prog where
 f := 41
 args := [.one (.ptr 0 0)]
 hs := [.cobj 101 16]
 res := .tup [.one (.own 3 1), .one (.bool)]
 outs := [.cobj 101 16, .row 48 2]
 m := fun d dh => Zd1 dh.1
 ok := ZaN Zan Tryz.func41 (by kernel_rfl) (Zad ZfM) (dr := ZfL) (lps := Zaq ZfN) (Zao (Zcd (n := 1) (by kernel_rfl) fun i hi => match i, hi with | 0, _ => ZdM (E := Zdd) (by kernel_rfl) ZhX)) (fun d dh => by kernel_rfl)
def Zem : Nat -> Nat -> DrA
 | 11, _ => ⟨[0, 1, 2, 5, 6, 7, 3, 8, 9, 4, 11, 10, 12], [[], [], [0, 1], [0, 1, 2], [0, 1, 2, 3], [], [], [5, 6], [5, 6, 7], [5, 6, 7, 8], [5, 6, 7, 8, 9], (List.range 5), (List.range 12)], [8], [4], [], false, []⟩
 | 14, _ => ⟨(List.range 13 ++ [14, 15, 16, 17, 18, 13, 19, 20, 21]), [[], [], [0, 1], [0, 1, 2], [0, 1, 2, 3], [0, 1, 2, 3], (List.range 6), (List.range 7), (List.range 8), (List.range 9), (List.range 10), (List.range 11), (List.range 12), (List.range 13), (List.range 12), (List.range 12 ++ [14]), (List.range 12 ++ [14, 15]), (List.range 12 ++ [14, 15, 16]), (List.range 12 ++ [14, 15, 16, 17]), (List.range 19), (List.range 20), (List.range 21)], [17], [13], [3], false, []⟩
 | _, _ => ⟨[], [], [], [], [], false, []⟩
noncomputable def Zen : List (CE CT Tryz.prog) := [Zfp, ZdV, Zej, Zmt, ZqH, Zso, ZfA, ZhS, ZeV, Zmz, ZsD, ZjO, Zbr, ZmX]
noncomputable def ZaX (a : ((List (List (UInt8))) × (Int) × Unit) × ((Unit) × Unit)) : Option ((((List (List (UInt8))) × (Int) × Unit) × ((Unit) × Unit)) ⊕ ((((Bool) × Unit) × ((Unit) × Unit)) ⊕ ((Unit) × ((Unit) × Unit)))) :=
 (bif (decide ((a.1.2.1 : Int) < 2)) then
 (Zdg a.1.1 a.1.2.1).bind fun e1 =>
 (Zdg a.1.1 a.1.2.1).bind fun e2 =>
 (ZhT e1).bind fun r3 =>
 (Zl2 (r3.2.1.1, r3.2.1.2.1, r3.2.1.2.2.1, ())).bind fun r4 =>
 (Zd1 (⟨e2, false⟩ : Zch)).bind fun r5 =>
 (bif (decide (r4.1.2.1 ≠ r5.1.2.1)) then
 some (.inr (.inl ((false, ()), ((), ()))))
 else
 (ZaG r4.1.1 r5.1.1).bind fun r6 =>
 (bif (!r6.1) then
 some (.inr (.inl ((false, ()), ((), ()))))
 else
 (bif r4.1.2.1 then
 (ZoE r4.2.1).bind fun r7 =>
 (bif (decide ((r7.1 : Int) ≠ (r5.2.1.left.length : Int))) then
 some (.inr (.inl ((false, ()), ((), ()))))
 else
 some (.inl ((a.1.1, (IntKind.i64.wrap (a.1.2.1 + 1)), ()), ((), ()))))
 else
 some (.inl ((a.1.1, (IntKind.i64.wrap (a.1.2.1 + 1)), ()), ((), ()))))))
 else
 some (.inr (.inr ((), ((), ())))))
noncomputable def ZbK : LE CT Tryz.prog := ⟨9, [8, 9], [.one (.own 12 0), .one (.int .i64)], [.row 50 1], [⟨.ret, [4], [.one (.bool)], [.dead]⟩, ⟨.exit 0, [], [], [.dead]⟩], ZaX⟩
noncomputable def Zeo : List (LE CT Tryz.prog) := [ZbK]
theorem Zgh : Zh5 ZbK (Zg9 (Zbp Tryz.f17) 0) := fun A env h k z hk => ZdL (E := ZbK) (Zad Zen) (dr := Zem) (lps := Zaq Zeo) (Zai (by kernel_rfl)) (fun a => by kernel_rfl) env h k z hk
noncomputable def Zby (x0 : List (Zae)) (x1 : List (UInt8)) : Option ((Bool) × (Unit)) :=
 (Zbm x0 1200).bind fun r1 =>
 (bif (decide ((1200 : Int) < r1.1)) then
 (ZaK).bind fun r2 =>
 some (r2.1, ())
 else
 (bif (decide ((20000 : Int) < (x1.length : Int))) then
 (ZaK).bind fun r3 =>
 some (r3.1, ())
 else
 (Zbf x0).bind fun r4 =>
 (ZkU).bind fun r5 =>
 (ZkC r4.1.1 (r5.2.1.1, r5.2.1.2.1, r5.2.1.2.2.1, ())).bind fun r6 =>
 (ZlY (r6.2.1.1, r6.2.1.2.1, r6.2.1.2.2.1, ())).bind fun r7 =>
 (bif (decide ((r7.1.2.1 : Int) ≠ 0)) then
 some (false, ())
 else
 (Zcy x0).bind fun r8 =>
 (Zdb r7.1.1 r8.1).bind fun r9 =>
 (bif (!r9.1) then
 some (false, ())
 else
 (Zb9 (r4.1.1, r4.1.2) x0).bind fun r10 =>
 (bif (!r10.1) then
 some (false, ())
 else
 (ZaP ZaX ((([r7.1.1, x1] : List (List (UInt8))), 0, ()), ((), ()))).bind fun b11 =>
 (match b11 with
 | .inl b12 =>
 some (b12.1.1, ())
 | .inr b13 =>
 (ZaK).bind fun r14 =>
 some (r14.1, ())))))))
noncomputable def Zg8 : CE CT Tryz.prog where
 f := 17
 args := [.one (.sl 3), .one (.sl 1)]
 hs := []
 res := .val (.one (.bool))
 outs := []
 m := fun d dh => Zby d.1 d.2.1
 ok := ZaN Zan Tryz.func17 (by kernel_rfl) (Zad Zen) (dr := Zem) (lps := Zaq Zeo) (Zao (Zcd (n := 1) (by kernel_rfl) fun i hi => match i, hi with | 0, _ => ZdM (E := ZbK) (by kernel_rfl) Zgh)) (fun d dh => by kernel_rfl)
noncomputable def ZbP (x0 : List (Zae)) (x1 : Zae) : Option ((List (Zae)) × (Unit × Unit)) :=
 (Zeb x0 x1).bind fun r => if r.1 ≠ 0 /\ r.1 <= r.2.1.length then some (r.2.1.take r.1, ((), ())) else none
noncomputable def Zjk : CE CT Tryz.prog where
 f := 48
 args := [.one (.sl 3), .cod 3]
 hs := []
 res := .val (.one (.own 3 0))
 outs := [.row 48 2]
 m := fun d dh => ZbP d.1 d.2.1
 ok := fun d dh r hr => by
  unfold ZbP at hr
  obtain ⟨⟨n, xs, u⟩, h1, h2⟩ := Zam hr
  dsimp only at h2
  split at h2
  ·rename_i hc
   injection h2 with h2
   subst h2
   exact Tr.freezeO hc.1 hc.2 (Zga.ok d dh _ h1)
  ·cases h2
def ZcS : Nat -> Nat -> DrA
 | _, _ => ⟨[], [], [], [], [], false, []⟩
noncomputable def Zd2 : List (CE CT Tryz.prog) := [ZdW, Zjk]
noncomputable def ZcT (a : ((Unit) × (List (Zae)) × (List (Zae)) × (Int) × Unit) × (((List (Zae)) × Unit) × (Unit) × Unit)) : Option ((((Unit) × (List (Zae)) × (List (Zae)) × (Int) × Unit) × (((List (Zae)) × Unit) × (Unit) × Unit)) ⊕ ((((Int) × Unit) × (((List (Zae)) × Unit) × (Unit) × (Unit) × Unit)) ⊕ (((Unit) × (List (Zae)) × (List (Zae)) × Unit) × (((List (Zae)) × Unit) × (Unit) × (Unit) × Unit)))) :=
 (bif (decide ((a.1.2.2.2.1 : Int) < (a.1.2.1.length : Int))) then
 (Zdg a.1.2.1 a.1.2.2.2.1).bind fun e1 =>
 (ZbM e1).bind fun r2 =>
 (bif (!r2.1) then
 some (.inr (.inl ((2, ()), ((a.2.1.1, ()), (), (), ()))))
 else
 some (.inl (((), a.1.2.1, a.1.2.2.1, (IntKind.i64.wrap (a.1.2.2.2.1 + 1)), ()), ((a.2.1.1, ()), (), ()))))
 else
 some (.inr (.inr (((), a.1.2.1, a.1.2.2.1, ()), ((a.2.1.1, ()), (), (), ())))))
noncomputable def ZcU : LE CT Tryz.prog := ⟨3, [0, 1, 5, 6], [.one (.ptr 0 0), .one (.sl 3), .one (.sl 3), .one (.int .i64)], [.obj 31 [.own 3 1], .row 48 2], [⟨.ret, [4], [.one (.int .i64)], [.obj 31 [.own 3 2], .dead, .row 48 2]⟩, ⟨.exit 0, [0, 1, 5], [.one (.ptr 0 0), .one (.sl 3), .one (.sl 3)], [.obj 31 [.own 3 2], .dead, .row 48 2]⟩], ZcT⟩
noncomputable def ZfB (a : ((Unit) × (List (Zae)) × (List (Zae)) × (Int) × Unit) × (((List (Zae)) × Unit) × (Unit) × Unit)) : Option (((((Unit) × (List (Zae)) × (List (Zae)) × (Int) × Unit) × (((List (Zae)) × Unit) × (Unit) × Unit)) ⊕ (((Unit) × (List (Zae)) × (List (Zae)) × (Int) × Unit) × (((List (Zae)) × Unit) × (Unit) × (Unit) × Unit))) ⊕ ((((Unit) × (List (Zae)) × Unit) × (((List (Zae)) × Unit) × (Unit) × (Unit) × (Unit) × Unit)))) :=
 (bif (decide ((a.1.2.2.2.1 : Int) < (a.1.2.1.length : Int))) then
 (Zdg a.1.2.1 a.1.2.2.2.1).bind fun e1 =>
 (ZbP a.1.2.2.1 e1).bind fun r2 =>
 some (.inl (.inr (((), a.1.2.1, r2.1, (IntKind.i64.wrap (a.1.2.2.2.1 + 1)), ()), ((a.2.1.1, ()), (), (), ()))))
 else
 none)
noncomputable def ZdI (a : ((Unit) × (List (Zae)) × (List (Zae)) × (Int) × Unit) × (((List (Zae)) × Unit) × (Unit) × (Unit) × Unit)) : Option (((((Unit) × (List (Zae)) × (List (Zae)) × (Int) × Unit) × (((List (Zae)) × Unit) × (Unit) × Unit)) ⊕ (((Unit) × (List (Zae)) × (List (Zae)) × (Int) × Unit) × (((List (Zae)) × Unit) × (Unit) × (Unit) × Unit))) ⊕ ((((Unit) × (List (Zae)) × Unit) × (((List (Zae)) × Unit) × (Unit) × (Unit) × (Unit) × Unit)))) :=
 (bif (decide ((a.1.2.2.2.1 : Int) < (a.1.2.1.length : Int))) then
 (Zdg a.1.2.1 a.1.2.2.2.1).bind fun e1 =>
 (ZbP a.1.2.2.1 e1).bind fun r2 =>
 some (.inl (.inr (((), a.1.2.1, r2.1, (IntKind.i64.wrap (a.1.2.2.2.1 + 1)), ()), ((a.2.1.1, ()), (), (), ()))))
 else
 some (.inr (((), a.1.2.2.1, ()), ((a.2.1.1, ()), (), (), (), ()))))
noncomputable def Zbg (s : (((Unit) × (List (Zae)) × (List (Zae)) × (Int) × Unit) × (((List (Zae)) × Unit) × (Unit) × Unit)) ⊕ (((Unit) × (List (Zae)) × (List (Zae)) × (Int) × Unit) × (((List (Zae)) × Unit) × (Unit) × (Unit) × Unit))) : Option (((((Unit) × (List (Zae)) × (List (Zae)) × (Int) × Unit) × (((List (Zae)) × Unit) × (Unit) × Unit)) ⊕ (((Unit) × (List (Zae)) × (List (Zae)) × (Int) × Unit) × (((List (Zae)) × Unit) × (Unit) × (Unit) × Unit))) ⊕ ((((Unit) × (List (Zae)) × Unit) × (((List (Zae)) × Unit) × (Unit) × (Unit) × (Unit) × Unit)))) := match s with
 | .inl a => ZfB a
 | .inr a => ZdI a
noncomputable def ZcV : LE2 CT Tryz.prog := ⟨8, [0, 1, 5, 7], [.one (.ptr 0 0), .one (.sl 3), .one (.sl 3), .one (.int .i64)], [.obj 31 [.own 3 1], .row 48 2], [.one (.ptr 0 0), .one (.sl 3), .one (.own 3 1), .one (.int .i64)], [.obj 31 [.own 3 2], .row 48 2, .row 48 2], [⟨.exit 2, [0, 5], [.one (.ptr 0 0), .one (.own 3 2)], [.obj 31 [.own 3 3], .dead, .row 48 2, .row 48 2]⟩], Zbg, rfl⟩
noncomputable def Zd3 : List (LE CT Tryz.prog) := [ZcU]
noncomputable def Zjl : List (LE2 CT Tryz.prog) := [ZcV]
theorem Zhp : Zh5 ZcU (Zg9 (Zbp Tryz.f19) 0) := fun A env h k z hk => ZdL (E := ZcU) (Zad Zd2) (dr := ZcS) (lps := Zaq Zd3) (Zai (by kernel_rfl)) (fun a => by kernel_rfl) env h k z hk
theorem Zhq : ∀ {A : Type} (env : XE Ty) (h : List (HI Ty)) (k : XK Ty A) (z : A), ZpK ZcV env h k = some z -> ∃ ex env2 h2, k ex env2 h2 = some z /\ Zjs CT Tryz.prog (.loop (Zg9 (Zbp Tryz.f19) 1)) env h ex env2 h2 := fun env h k z hk => ZAe (E := ZcV) (Zad Zd2) (dr := ZcS) (dr2 := ZcS) (lps := Zaq Zd3) (Zai (by kernel_rfl)) (fun a => by kernel_rfl) (fun a => by kernel_rfl) env h k z hk
noncomputable def Zbn (x1 : List (Zae)) (h0 : (List (Zae)) × Unit) : Option ((Int) × (((List (Zae)) × Unit) × (Unit) × (Unit) × Unit)) :=
 (ZaP ZcT (((), x1, h0.1, 0, ()), ((h0.1, ()), (), ()))).bind fun b1 =>
 (match b1 with
 | .inl b2 =>
 some (b2.1.1, ((b2.2.1.1, ()), (), (), ()))
 | .inr b3 =>
 (ZaP Zbg (.inl (((), b3.1.2.1, b3.1.2.2.1, 0, ()), ((b3.2.1.1, ()), (), ())))).bind fun b4 =>
 (bif (decide ((400 : Int) < (b4.1.2.1.length : Int))) then
 some (8, ((b4.2.1.1, ()), (), (), ()))
 else
 some (0, ((b4.1.2.1, ()), (), (), ()))))
noncomputable def Zjm : CE CT Tryz.prog where
 f := 19
 args := [.one (.ptr 0 0), .one (.sl 3)]
 hs := [.obj 31 [.own 3 1], .row 48 2]
 res := .val (.one (.int .i64))
 outs := [.obj 31 [.own 3 2], .dead, .row 48 2]
 m := fun d dh => Zbn d.2.1 dh.1
 ok := ZaN Zan Tryz.func19 (by kernel_rfl) (Zad Zd2) (dr := ZcS) (lps := ZBK Zjl (Zaq Zd3)) (Zao (Zcd (n := 2) (by kernel_rfl) fun i hi => match i, hi with | 0, _ => Zoh (by kernel_rfl) (ZdM (E := ZcU) (by kernel_rfl) Zhp) | 1, _ => ZuO (E := ZcV) (by kernel_rfl) Zhq)) (fun d dh => by kernel_rfl)
def ZoG : Nat -> Nat -> DrA
 | _, _ => ⟨[], [], [], [], [], false, []⟩
noncomputable def ZoH : List (CE CT Tryz.prog) := []
noncomputable def ZoI : List (LE CT Tryz.prog) := []
noncomputable def Zfe  : Option ((Bool) × (Unit)) :=
 some (false, ())
noncomputable def Zep : CE CT Tryz.prog where
 f := 25
 args := [.one (.nilptr)]
 hs := []
 res := .val (.one (.bool))
 outs := []
 m := fun d dh => Zfe
 ok := ZaN Zan Tryz.func25 (by kernel_rfl) (Zad ZoH) (dr := ZoG) (lps := Zaq ZoI) (Zao (Zai (by kernel_rfl))) (fun d dh => by kernel_rfl)
def ZqP : Nat -> Nat -> DrA
 | _, _ => ⟨[], [], [], [], [], false, []⟩
noncomputable def ZqQ : List (CE CT Tryz.prog) := [Zep]
noncomputable def ZqR : List (LE CT Tryz.prog) := []
noncomputable def ZpM (x1 : List UInt8) : Option (((List UInt8) × (Bool) × Unit) × (Unit)) :=
 (Zfe).bind fun r1 =>
 (bif (!r1.1) then
 some ((([] : List UInt8), false, ()), ())
 else
 none)
noncomputable def ZqS : CE CT Tryz.prog where
 f := 13
 args := [.one (.nilptr), .one (.str)]
 hs := []
 res := .tup [.one (.str), .one (.bool)]
 outs := []
 m := fun d dh => ZpM d.2.1
 ok := ZaN Zan Tryz.func13 (by kernel_rfl) (Zad ZqQ) (dr := ZqP) (lps := Zaq ZqR) (Zao (Zai (by kernel_rfl))) (fun d dh => by kernel_rfl)
def Zph : Nat -> Nat -> DrA
 | _, _ => ⟨[], [], [], [], [], false, []⟩
noncomputable def Zpi : List (CE CT Tryz.prog) := [Zep]
noncomputable def Zpj : List (LE CT Tryz.prog) := []
noncomputable def ZoJ  : Option ((Unit) × (Unit)) :=
 (Zfe).bind fun r1 =>
 (bif (!r1.1) then
 some ((), ())
 else
 none)
noncomputable def Zpk : CE CT Tryz.prog where
 f := 9
 args := [.one (.nilptr)]
 hs := []
 res := .val (.one (.nilptr))
 outs := []
 m := fun d dh => ZoJ
 ok := ZaN Zan Tryz.func9 (by kernel_rfl) (Zad Zpi) (dr := Zph) (lps := Zaq Zpj) (Zao (Zai (by kernel_rfl))) (fun d dh => by kernel_rfl)
def Zpl : Nat -> Nat -> DrA
 | _, _ => ⟨[], [], [], [], [], false, []⟩
noncomputable def Zpm : List (CE CT Tryz.prog) := [Zdj, Zj3]
noncomputable def Zpn : List (LE CT Tryz.prog) := []
noncomputable def ZoK (h0 : (Nat) × (Bool) × Unit) (h1 : List (Zae)) : Option ((Unit) × (((Nat) × (Bool) × Unit) × (Unit) × (List (Zae)) × Unit)) :=
 (Zey (h0.1, h0.2.1, ()) h1).bind fun r1 =>
 (bif (!r1.1) then
 some ((), ((r1.2.1.1, r1.2.1.2.1, ()), (), r1.2.2.1, ()))
 else
 (Zg2 r1.2.1.1 r1.2.2.1).bind fun r2 =>
 none)
noncomputable def Zpo : CE CT Tryz.prog where
 f := 9
 args := [.one (.ptr 0 0)]
 hs := [.obj 58 [.asz 3 1, .bool], .arr 48 3 false]
 res := .val (.one (.nilptr))
 outs := [.obj 58 [.asz 3 2, .bool], .dead, .arr 48 3 false]
 m := fun d dh => ZoK dh.1 dh.2.1
 ok := ZaN Zan Tryz.func9 (by kernel_rfl) (Zad Zpm) (dr := Zpl) (lps := Zaq Zpn) (Zao (Zai (by kernel_rfl))) (fun d dh => by kernel_rfl)
def Zpp : Nat -> Nat -> DrA
 | _, _ => ⟨[], [], [], [], [], false, []⟩
noncomputable def Zpq : List (CE CT Tryz.prog) := [Zep]
noncomputable def Zpr : List (LE CT Tryz.prog) := []
noncomputable def ZoL  : Option ((Int) × (Unit)) :=
 (Zfe).bind fun r1 =>
 (bif (!r1.1) then
 some (0, ())
 else
 none)
noncomputable def Zps : CE CT Tryz.prog where
 f := 20
 args := [.one (.nilptr)]
 hs := []
 res := .val (.one (.int .i64))
 outs := []
 m := fun d dh => ZoL
 ok := ZaN Zan Tryz.func20 (by kernel_rfl) (Zad Zpq) (dr := Zpp) (lps := Zaq Zpr) (Zao (Zai (by kernel_rfl))) (fun d dh => by kernel_rfl)
def ZsE : Nat -> Nat -> DrA
 | 3, _ => ⟨(List.range 10), [[], [0], [0, 1], [], [0, 1, 2, 3], (List.range 5), (List.range 6), (List.range 6), (List.range 7), (List.range 9)], [], [], [], false, []⟩
 | _, _ => ⟨[], [], [], [], [], false, []⟩
noncomputable def ZsF : List (CE CT Tryz.prog) := [Zep]
noncomputable def ZsG : List (LE CT Tryz.prog) := []
noncomputable def ZsH (x1 : Za5) : Option ((Unit) × (Unit)) :=
 (Zfe).bind fun r1 =>
 (bif (!r1.1) then
 some ((), ())
 else
 none)
noncomputable def ZsI : CE CT Tryz.prog where
 f := 16
 args := [.one (.nilptr), .cod 4]
 hs := []
 res := .val (.one (.nil))
 outs := []
 m := fun d dh => ZsH d.2.1
 ok := ZaN Zan Tryz.func16 (by kernel_rfl) (Zad ZsF) (dr := ZsE) (lps := Zaq ZsG) (Zao (Zai (by kernel_rfl))) (fun d dh => by kernel_rfl)
def ZqT : Nat -> Nat -> DrA
 | _, _ => ⟨[], [], [], [], [], false, []⟩
noncomputable def ZqU : List (CE CT Tryz.prog) := [Zep, ZfF]
noncomputable def ZqV : List (LE CT Tryz.prog) := []
noncomputable def ZpN (x1 : List (Zae)) : Option ((Int) × (Unit)) :=
 (Zfe).bind fun r1 =>
 (bif (!r1.1) then
 some (1, ())
 else
 (Zc5 x1).bind fun r2 =>
 (bif r2.1 then
 some (2, ())
 else
 none))
noncomputable def ZqW : CE CT Tryz.prog where
 f := 18
 args := [.one (.nilptr), .one (.sl 3)]
 hs := []
 res := .val (.one (.int .i64))
 outs := []
 m := fun d dh => ZpN d.2.1
 ok := ZaN Zan Tryz.func18 (by kernel_rfl) (Zad ZqU) (dr := ZqT) (lps := Zaq ZqV) (Zao (Zcd (n := 1) (by kernel_rfl) fun i hi => match i, hi with | 0, _ => ZA9 (by kernel_rfl))) (fun d dh => by kernel_rfl)
end Go.Proofs.YtlmmpfbdgiokmaaGreat
