/- Models, by program. -/
import Derived.Test.YtaihdjknneiciaaGreatG1a
namespace Go.Proofs.YtaihdjknneiciaaGreat
noncomputable section
open Go.RowKit
set_option maxRecDepth 100000
set_option linter.unusedVariables false
def ZrJ : List (CEp) := [ZrH, ZzV]
def Zhm (x0 : LB) : Option (((Zai) × (Zak) × Bool × Bool × Unit) × Unit) :=
 (Zm1 (⟨x0, false⟩ : ZaA)).bind fun r1 =>
 (bif (!r1.1.2.2.1) then
 some (((⟨0, []⟩ : Zai), (⟨0, (⟨([] : List UInt8), ([] : List UInt8)⟩ : Zao), 0, 0, 0, 0, 0⟩ : Zak), false, false, ()), ())
 else
 (ZuD r1.2.1).bind fun r2 =>
 (bif (decide ((r2.1 : Int) ≠ 0)) then
 some (((⟨0, []⟩ : Zai), (⟨0, (⟨([] : List UInt8), ([] : List UInt8)⟩ : Zao), 0, 0, 0, 0, 0⟩ : Zak), false, false, ()), ())
 else
 (bif (decide ((((r1.1.2.1.2.1 : Nat) : Int) : Int) = 0)) then
 some ((r1.1.1, (⟨0, (⟨([] : List UInt8), ([] : List UInt8)⟩ : Zao), 0, 0, 0, 0, 0⟩ : Zak), false, true, ()), ())
 else
 (if 0 <= (0 : Int) /\ (0 : Int) < ((r1.1.2.1.2.1 : Nat) : Int) then
 (r1.2.2.1[(r1.1.2.1.1 + (0 : Int).toNat)]?).bind fun e3 =>
 some ((r1.1.1, e3, true, true, ()), ())
 else none))))
def ZrK : CEp where
 f := 32
 args := [.one (.sl 1)]
 hs := []
 res := .tup [.cod 8, .cod 19, .one (.bool), .one (.bool)]
 outs := []
 m := fun d dh => Zhm d.1
 ok := ZaO Zar Tryz.func32 (by kernel_rfl) (Zad ZrJ) (dr := ZrI) (lps := Zap lt0) (Zau (Zal (by kernel_rfl))) (fun d dh => by kernel_rfl)
def Zm2 : List (CEp) := [ZbS, Zo1, Zj0]
def Zez (a : (Unit × Unit × Unit × Int × Int × Unit) × ((Zam) × (Int × Int × Bool × Int × (List (ZaZ)) × Unit) × (Int × Int × Bool × Int × (List (ZaZ)) × Unit) × Unit × Unit × Unit)) : Option (((Unit × Unit × Unit × Int × Int × Unit) × ((Zam) × (Int × Int × Bool × Int × (List (ZaZ)) × Unit) × (Int × Int × Bool × Int × (List (ZaZ)) × Unit) × Unit × Unit × Unit)) ⊕ (((Unit × Unit × Unit) × ((Zam) × (Int × Int × Bool × Int × (List (ZaZ)) × Unit) × (Int × Int × Bool × Int × (List (ZaZ)) × Unit) × Unit × Unit × Unit × Unit × Unit)))) :=
 (bif (decide ((a.1.2.2.2.2.1 : Int) < a.1.2.2.2.1)) then
 (Zeu 20 a.2.1).bind fun r1 =>
 (Zh6 r1.2.1).bind fun r2 =>
 (Zeu 20 r2.2.1).bind fun r3 =>
 (if a.2.2.2.1.2.2.2.2.1.length + ([(⟨r1.1, r2.1, r3.1⟩ : ZaZ)] : List (ZaZ)).length <= 140737488355328 /\ (a.2.2.2.1.2.2.2.2.1.length + ([(⟨r1.1, r2.1, r3.1⟩ : ZaZ)] : List (ZaZ)).length) * 40 <= 140737488355328 then
 let y4 : List (ZaZ) := (a.2.2.2.1.2.2.2.2.1 ++ ([(⟨r1.1, r2.1, r3.1⟩ : ZaZ)] : List (ZaZ)))
 some (.inl (((), (), (), a.1.2.2.2.1, (IntKind.i64.wrap (a.1.2.2.2.2.1 + 1)), ()), (r3.2.1, a.2.2.1, (a.2.2.2.1.1, a.2.2.2.1.2.1, a.2.2.2.1.2.2.1, a.2.2.2.1.2.2.2.1, y4, ()), (), (), ())))
 else none)
 else
 some (.inr (((), (), ()), (a.2.1, a.2.2.1, a.2.2.2.1, (), (), (), (), ()))))
def Zge : LEp := ⟨7, [0, 2, 3, 20, 21], [.one (.ptr 0 0), .one (.ptr 1 0), .one (.ptr 2 0), .one (.int .i64), .one (.int .i64)], [.cobj 170 24, .obj 41 [.int .i64, .int .i64, .bool, .int .i64, .own 15 3], .obj 41 [.int .i64, .int .i64, .bool, .int .i64, .own 15 4], .row 247 3, .row 247 3], [⟨.exit 0, [2, 3], [.one (.ptr 1 0), .one (.ptr 2 0)], [.cobj 170 24, .obj 41 [.int .i64, .int .i64, .bool, .int .i64, .own 15 5], .obj 41 [.int .i64, .int .i64, .bool, .int .i64, .own 15 6], .dead, .dead, .row 247 3, .row 247 3]⟩], Zez⟩
def Zm3 : List (LEp) := [Zge]
theorem ZpI : ZdE Zge (ZcN (ZaD Tryz.f160) 0) := fun A env h k z hk => Za3 (E := Zge) (Zad Zm2) (dr := dr0) (lps := Zap Zm3) (Zal (by kernel_rfl)) (fun a => by kernel_rfl) env h k z hk
def ZkV (h0 : Zam) : Option ((Zac) × ((Zam) × Unit)) :=
 (ZaG 1073741824 h0).bind fun r1 =>
 (ZaG 1073741824 r1.2.1).bind fun r2 =>
 (ZaG 1073741824 r2.2.1).bind fun r3 =>
 (Zh6 r3.2.1).bind fun r4 =>
 (ZaG 6 r4.2.1).bind fun r5 =>
 (Zas Zez (((), (), (), r5.1, 0, ()), (r5.2.1, (0, 0, false, 0, [], ()), (r1.1, r2.1, r4.1, r3.1, [], ()), (), (), ()))).bind fun b6 =>
 some ((⟨(⟨b6.2.2.2.1.1, b6.2.2.2.1.2.1⟩ : ZfX), b6.2.2.2.1.2.2.1, b6.2.2.2.1.2.2.2.1, b6.2.2.2.1.2.2.2.2.1⟩ : Zac), (b6.2.1, ()))
def ZuE : CEp where
 f := 160
 args := [.one (.ptr 0 0)]
 hs := [.cobj 170 24]
 res := .val (.cod 17)
 outs := [.cobj 170 24]
 m := fun d dh => ZkV dh.1
 ok := ZaO Zar Tryz.func160 (by kernel_rfl) (Zad Zm2) (dr := dr0) (lps := Zap Zm3) (Zau (ZaI (n := 1) (by kernel_rfl) fun i hi => match i, hi with | 0, _ => Za4 (E := Zge) (by kernel_rfl) ZpI)) (fun d dh => by kernel_rfl)
def ZrL : List (CEp) := []
def Zb1 (h0 : (List (Zac)) × Unit × Unit) (h1 : List ((Int × Int) × Int)) : Option (Bool × (((List (Zac)) × Unit × Unit) × (List ((Int × Int) × Int)) × Unit × Unit × Unit)) :=
 some (true, (h0, h1, (), (), ()))
def ZeA : CEp where
 f := 102
 args := [.one (.ptr 0 0)]
 hs := [.obj 197 [.own 17 2, .mo 1], .mmap (.two .i64 .i64) (.int .i64), .row 41 5]
 res := .val (.one (.bool))
 outs := [.obj 197 [.own 17 3, .mo 1], .mmap (.two .i64 .i64) (.int .i64), .dead, .row 41 5]
 m := fun d dh => Zb1 dh.1 dh.2.1
 ok := ceO Tryz.func102 (by kernel_rfl) ZrL (by kernel_rfl) fun d dh => by kernel_rfl
def Zqh (x : List (ZaZ)) : Option ((List (ZaZ)) × (Unit × Unit)) :=
 if x.length <= 140737488355328 /\ x.length * 40 <= 140737488355328 then some (x, ((), ())) else none
def ZxP : CEp where
 f := 187
 args := [.one (.sl 15)]
 hs := []
 res := .val (.one (.own 15 0))
 outs := [.row 247 3]
 m := fun d dh => Zqh d.1
 ok := fun d dh r hr => by
  unfold Zqh at hr
  split at hr
  ·rename_i hroom
   injection hr with hr
   subst hr
   exact Zuf Zar Tryz.func187 (by kernel_rfl) rfl rfl (zv := .agg #[.string ⟨#[]⟩, .bool false, .string ⟨#[]⟩]) (he := by kernel_rfl) (hsz := by kernel_rfl) (hz := by kernel_rfl) (hby := by kernel_rfl) rfl rfl d.1 hroom
  ·cases hr
def ZpJ : List (CEp) := [ZxP]
def Zb2 (x0 : Zac) : Option ((Zac) × Unit) :=
 (Zqh x0.reads).bind fun r1 =>
 some ((⟨x0.name, x0.commit, x0.at_, r1.1⟩ : Zac), ())
def ZdZ : CEp where
 f := 104
 args := [.cod 17]
 hs := []
 res := .val (.cod 17)
 outs := []
 m := fun d dh => Zb2 d.1
 ok := ceO Tryz.func104 (by kernel_rfl) ZpJ (by kernel_rfl) fun d dh => by kernel_rfl
def Zwv : Nat -> Nat -> DrA
 | 3, _ => ⟨(List.range 12), [[], [0], [0, 1], [0, 1, 2], [0, 1, 2, 3], [], (List.range 6), (List.range 7), (List.range 8), (List.range 8), (List.range 9), (List.range 11)], [], [], [], false, []⟩
 | _, _ => ⟨[], [], [], [], [], false, []⟩
def Zww : List (CEp) := [ZeA, ZdZ]
def Zid (x1 : ZfX) (h0 : (List (Zac)) × Unit × Unit) (h1 : List ((Int × Int) × Int)) : Option (((Zac) × Bool × Unit) × (((List (Zac)) × Unit × Unit) × (List ((Int × Int) × Int)) × Unit × Unit × Unit)) :=
 (Zb1 h0 h1).bind fun r1 =>
 (bif (!r1.1) then
 some (((⟨(⟨0, 0⟩ : ZfX), false, 0, []⟩ : Zac), false, ()), (r1.2.1, r1.2.2.1, (), (), ()))
 else
 (bif (!(ZiI (.two .i64 .i64) r1.2.2.1 (x1.client, x1.num)).isSome) then
 some (((⟨(⟨0, 0⟩ : ZfX), false, 0, []⟩ : Zac), false, ()), (r1.2.1, r1.2.2.1, (), (), ()))
 else
 (Zbs r1.2.1.1 ((ZiI (.two .i64 .i64) r1.2.2.1 (x1.client, x1.num)).getD 0)).bind fun e2 =>
 (Zb2 e2).bind fun r3 =>
 some ((r3.1, true, ()), (r1.2.1, r1.2.2.1, (), (), ()))))
def Zo8 : CEp where
 f := 57
 args := [.one (.ptr 0 0), .cod 13]
 hs := [.obj 197 [.own 17 2, .mo 1], .mmap (.two .i64 .i64) (.int .i64), .row 41 5]
 res := .tup [.cod 17, .one (.bool)]
 outs := [.obj 197 [.own 17 3, .mo 1], .mmap (.two .i64 .i64) (.int .i64), .dead, .row 41 5]
 m := fun d dh => Zid d.2.1 dh.1 dh.2.1
 ok := ZaO Zar Tryz.func57 (by kernel_rfl) (Zad Zww) (dr := Zwv) (lps := Zap lt0) (Zau (Zal (by kernel_rfl))) (fun d dh => by kernel_rfl)
def ZrM : List (CEp) := [Zhg, ZiY]
def ZfJ (h0 : Unit × Unit) (h1 : Zam) : Option (Bool × ((Unit × Unit) × (Zam) × Unit)) :=
 (Zh7 h1).bind fun r1 =>
 (bif (decide ((r1.1 : Int) = 0)) then
 (ZiX r1.2.1).bind fun r2 =>
 some ((decide ((r2.1 : Int) ≠ 0)), (((), ()), r2.2.1, ()))
 else
 some (false, (((), ()), r1.2.1, ())))
def ZrN : CEp where
 f := 159
 args := [.one (.ptr 0 0)]
 hs := [.obj 74 [.ptr 1 0], .cobj 170 24]
 res := .val (.one (.bool))
 outs := [.obj 74 [.ptr 1 0], .cobj 170 24]
 m := fun d dh => ZfJ dh.1 dh.2.1
 ok := ceO Tryz.func159 (by kernel_rfl) ZrM (by kernel_rfl) fun d dh => by kernel_rfl
def ZxQ : List (CEp) := []
def Zqi (x0 : ZfX) : Option (Bool × Unit) :=
 (bif (decide ((1 : Int) <= x0.client)) then
 (bif (decide ((x0.client : Int) <= 8)) then
 (bif (decide ((1 : Int) <= x0.num)) then
 some ((decide ((x0.num : Int) <= 1073741824)), ())
 else
 some (false, ()))
 else
 some (false, ()))
 else
 some (false, ()))
def ZxR : CEp where
 f := 239
 args := [.cod 13]
 hs := []
 res := .val (.one (.bool))
 outs := []
 m := fun d dh => Zqi d.1
 ok := ceO Tryz.func239 (by kernel_rfl) ZxQ (by kernel_rfl) fun d dh => by kernel_rfl
def ZrO : List (CEp) := [ZlZ]
def Zhn (x0 : ZaZ) : Option (Bool × Unit) :=
 (Zg5 x0.key).bind fun r1 =>
 (bif (!r1.1) then
 some (true, ())
 else
 (bif (decide ((20 : Int) < (x0.value.length : Int))) then
 some (true, ())
 else
 (bif (!x0.is) then
 some ((decide (x0.value ≠ ([] : List UInt8))), ())
 else
 some (false, ()))))
def ZrP : CEp where
 f := 241
 args := [.cod 15]
 hs := []
 res := .val (.one (.bool))
 outs := []
 m := fun d dh => Zhn d.1
 ok := ceO Tryz.func241 (by kernel_rfl) ZrO (by kernel_rfl) fun d dh => by kernel_rfl
def ZfK : List (CEp) := [ZrP]
def Zb3 (a : ((List (ZaZ)) × Unit × Int × Int × Unit) × Unit) : Option ((((List (ZaZ)) × Unit × Int × Int × Unit) × Unit) ⊕ (((Int × Unit) × Unit) ⊕ (Unit × Unit))) :=
 (bif (decide ((a.1.2.2.2.1 : Int) < a.1.2.2.1)) then
 (Zbs a.1.1 a.1.2.2.2.1).bind fun e1 =>
 (Zhn e1).bind fun r2 =>
 (bif r2.1 then
 some (.inr (.inl ((a.1.2.2.2.1, ()), ())))
 else
 some (.inl ((a.1.1, (), a.1.2.2.1, (IntKind.i64.wrap (a.1.2.2.2.1 + 1)), ()), ())))
 else
 some (.inr (.inr ((), ()))))
def Zb4 : LEp := ⟨2, [0, 1, 7, 8], [.one (.sl 15), .one (.fn 241), .one (.int .i64), .one (.int .i64)], [], [⟨.ret, [4], [.one (.int .i64)], []⟩, ⟨.exit 0, [], [], []⟩], Zb3⟩
def ZfL : List (LEp) := [Zb4]
theorem Zie : ZdE Zb4 (ZcN (ZaD Tryz.f259) 0) := fun A env h k z hk => Za3 (E := Zb4) (Zad ZfK) (dr := dr0) (lps := Zap ZfL) (Zal (by kernel_rfl)) (fun a => by kernel_rfl) env h k z hk
def ZeB (x0 : List (ZaZ)) : Option (Int × Unit) :=
 (Zas Zb3 ((x0, (), (x0.length : Int), 0, ()), ())).bind fun b1 =>
 (match b1 with
 | .inl b2 =>
 some (b2.1.1, ())
 | .inr b3 =>
 some ((-1), ()))
def Zj5 : CEp where
 f := 259
 args := [.one (.sl 15), .one (.fn 241)]
 hs := []
 res := .val (.one (.int .i64))
 outs := []
 m := fun d dh => ZeB d.1
 ok := ZaO Zar Tryz.func259 (by kernel_rfl) (Zad ZfK) (dr := dr0) (lps := Zap ZfL) (Zau (ZaI (n := 1) (by kernel_rfl) fun i hi => match i, hi with | 0, _ => Za4 (E := Zb4) (by kernel_rfl) Zie)) (fun d dh => by kernel_rfl)
def Zif : List (CEp) := [Zj5]
def Zbt (x0 : List (ZaZ)) : Option (Bool × Unit) :=
 (ZeB x0).bind fun r1 =>
 some ((decide ((0 : Int) <= r1.1)), ())
def Zig : CEp where
 f := 240
 args := [.one (.sl 15), .one (.fn 241)]
 hs := []
 res := .val (.one (.bool))
 outs := []
 m := fun d dh => Zbt d.1
 ok := ceO Tryz.func240 (by kernel_rfl) Zif (by kernel_rfl) fun d dh => by kernel_rfl
def ZpK : List (CEp) := [ZxR, Zig]
def Zgf (x0 : Zac) : Option (Bool × Unit) :=
 (Zqi x0.name).bind fun r1 =>
 (bif (!r1.1) then
 some (true, ())
 else
 (bif (decide ((x0.at_ : Int) < 1)) then
 some (true, ())
 else
 (bif (decide ((1073741824 : Int) < x0.at_)) then
 some (true, ())
 else
 (bif (decide ((6 : Int) < (x0.reads.length : Int))) then
 some (true, ())
 else
 (bif (!x0.commit) then
 (bif (decide ((0 : Int) < (x0.reads.length : Int))) then
 some (true, ())
 else
 (Zbt x0.reads).bind fun r2 =>
 some (r2.1, ()))
 else
 (Zbt x0.reads).bind fun r3 =>
 some (r3.1, ()))))))
def ZpL : CEp where
 f := 238
 args := [.cod 17]
 hs := []
 res := .val (.one (.bool))
 outs := []
 m := fun d dh => Zgf d.1
 ok := ceO Tryz.func238 (by kernel_rfl) ZpK (by kernel_rfl) fun d dh => by kernel_rfl
def ZfM : List (CEp) := [ZpL]
def ZaY (a : ((List (Zac)) × Unit × Int × Int × Unit) × Unit) : Option ((((List (Zac)) × Unit × Int × Int × Unit) × Unit) ⊕ (((Int × Unit) × Unit) ⊕ (Unit × Unit))) :=
 (bif (decide ((a.1.2.2.2.1 : Int) < a.1.2.2.1)) then
 (Zbs a.1.1 a.1.2.2.2.1).bind fun e1 =>
 (Zgf e1).bind fun r2 =>
 (bif r2.1 then
 some (.inr (.inl ((a.1.2.2.2.1, ()), ())))
 else
 some (.inl ((a.1.1, (), a.1.2.2.1, (IntKind.i64.wrap (a.1.2.2.2.1 + 1)), ()), ())))
 else
 some (.inr (.inr ((), ()))))
def Zb5 : LEp := ⟨2, [0, 1, 7, 8], [.one (.sl 17), .one (.fn 238), .one (.int .i64), .one (.int .i64)], [], [⟨.ret, [4], [.one (.int .i64)], []⟩, ⟨.exit 0, [], [], []⟩], ZaY⟩
def ZfN : List (LEp) := [Zb5]
theorem Zih : ZdE Zb5 (ZcN (ZaD Tryz.f258) 0) := fun A env h k z hk => Za3 (E := Zb5) (Zad ZfM) (dr := dr0) (lps := Zap ZfN) (Zal (by kernel_rfl)) (fun a => by kernel_rfl) env h k z hk
def ZeC (x0 : List (Zac)) : Option (Int × Unit) :=
 (Zas ZaY ((x0, (), (x0.length : Int), 0, ()), ())).bind fun b1 =>
 (match b1 with
 | .inl b2 =>
 some (b2.1.1, ())
 | .inr b3 =>
 some ((-1), ()))
def Zj6 : CEp where
 f := 258
 args := [.one (.sl 17), .one (.fn 238)]
 hs := []
 res := .val (.one (.int .i64))
 outs := []
 m := fun d dh => ZeC d.1
 ok := ZaO Zar Tryz.func258 (by kernel_rfl) (Zad ZfM) (dr := dr0) (lps := Zap ZfN) (Zau (ZaI (n := 1) (by kernel_rfl) fun i hi => match i, hi with | 0, _ => Za4 (E := Zb5) (by kernel_rfl) Zih)) (fun d dh => by kernel_rfl)
def Zii : List (CEp) := [Zj6]
def Zc4 (x0 : List (Zac)) : Option (Bool × Unit) :=
 (ZeC x0).bind fun r1 =>
 some ((decide ((0 : Int) <= r1.1)), ())
def Zij : CEp where
 f := 237
 args := [.one (.sl 17), .one (.fn 238)]
 hs := []
 res := .val (.one (.bool))
 outs := []
 m := fun d dh => Zc4 d.1
 ok := ceO Tryz.func237 (by kernel_rfl) Zii (by kernel_rfl) fun d dh => by kernel_rfl
def ZrQ : List (CEp) := [Zij]
def Zho (x0 : List (Zac)) : Option (Bool × Unit) :=
 (Zc4 x0).bind fun r1 =>
 some ((!r1.1), ())
def ZrR : CEp where
 f := 184
 args := [.one (.sl 17)]
 hs := []
 res := .val (.one (.bool))
 outs := []
 m := fun d dh => Zho d.1
 ok := ceO Tryz.func184 (by kernel_rfl) ZrQ (by kernel_rfl) fun d dh => by kernel_rfl
def Ztb : Nat -> Nat -> DrA
 | 3, _ => ⟨[0, 1, 2, 4, 5, 6, 3, 7, 8, 9, 10, 11, 12, 13], [[], [0], [0, 1], [0, 1, 2], [], [4], [4, 5], [4, 5, 6], [4, 5, 6, 7], [4, 5, 6, 7, 8], (List.range 10), (List.range 11), (List.range 12), (List.range 13)], [], [], [], false, []⟩
 | _, _ => ⟨[], [], [], [], [], false, []⟩
def Ztc : List (CEp) := []
def Zi3 (h0 : (List (Zac)) × Unit × Unit) (h1 : List ((Int × Int) × Int)) : Option (Int × (((List (Zac)) × Unit × Unit) × (List ((Int × Int) × Int)) × Unit × Unit × Unit)) :=
 (bif (decide (((h0.1.length : Int) : Int) = 0)) then
 some (0, (h0, h1, (), (), ()))
 else
 (Zbs h0.1 (IntKind.i64.wrap ((h0.1.length : Int) - 1))).bind fun e1 =>
 some (e1.at_, (h0, h1, (), (), ())))
def Ztd : CEp where
 f := 185
 args := [.one (.ptr 0 0)]
 hs := [.obj 197 [.own 17 2, .mo 1], .mmap (.two .i64 .i64) (.int .i64), .row 41 5]
 res := .val (.one (.int .i64))
 outs := [.obj 197 [.own 17 3, .mo 1], .mmap (.two .i64 .i64) (.int .i64), .dead, .row 41 5]
 m := fun d dh => Zi3 dh.1 dh.2.1
 ok := ZaO Zar Tryz.func185 (by kernel_rfl) (Zad Ztc) (dr := Ztb) (lps := Zap lt0) (Zau (Zal (by kernel_rfl))) (fun d dh => by kernel_rfl)
def ZuF : Nat -> Nat -> DrA
 | 1, _ => ⟨[0, 1, 2, 4, 6, 7, 8, 3, 5, 9, 10, 11], [[], [0], [0, 1], [0, 1, 2], [], [4], [], [6], [6, 7], [6, 7, 8], [6, 7, 8, 9], (List.range 11)], [], [], [], false, []⟩
 | 2, _ => ⟨(List.range 12), [[], [], [1], [1, 2], [1, 2, 3], [], [5], [5, 6], [1, 2, 3, 4, 5, 6, 7], (List.range 9), (List.range 10), (List.range 11)], [4], [6], [0], false, []⟩
 | _, _ => ⟨[], [], [], [], [], false, []⟩
def ZuG : List (CEp) := [ZdZ]
def ZkW (x1 : Zac) (h0 : (List (Zac)) × Unit × Unit) (h1 : List ((Int × Int) × Int)) : Option (Unit × (((List (Zac)) × Unit × Unit) × (List ((Int × Int) × Int)) × Unit × Unit × Unit)) :=
 (Zb2 x1).bind fun r1 =>
 (if h0.1.length + ([r1.1] : List (Zac)).length <= 140737488355328 /\ (h0.1.length + ([r1.1] : List (Zac)).length) * 56 <= 140737488355328 then
 some ((), (((h0.1 ++ ([r1.1] : List (Zac))), (), ()), (Zvl (.two .i64 .i64) h1 (x1.name.client, x1.name.num) (h0.1.length : Int)), (), (), ()))
 else none)
def ZuH : CEp where
 f := 112
 args := [.one (.ptr 0 0), .cod 17]
 hs := [.obj 197 [.own 17 2, .mo 1], .mmap (.two .i64 .i64) (.int .i64), .row 41 5]
 res := .tup []
 outs := [.obj 197 [.own 17 3, .mo 1], .mmap (.two .i64 .i64) (.int .i64), .dead, .row 41 5]
 m := fun d dh => ZkW d.2.1 dh.1 dh.2.1
 ok := ZaO Zar Tryz.func112 (by kernel_rfl) (Zad ZuG) (dr := ZuF) (lps := Zap lt0) (Zau (Zal (by kernel_rfl))) (fun d dh => by kernel_rfl)
def ZpM : Nat -> Nat -> DrA
 | 8, _ => ⟨[0, 2, 3, 4, 1, 5, 6], [[], [0], [], [2], [2, 3], [2, 3, 4], (List.range 6)], [1], [5], [3], false, []⟩
 | 10, _ => ⟨(List.range 5), [[], [0], [0, 1], [], [0, 1, 2, 3]], [], [], [], false, []⟩
 | _, _ => ⟨[], [], [], [], [], false, []⟩
def ZpN : List (CEp) := [ZeA, ZrR, Zo8, Ztd, ZuH, ZdZ]
def Zgg (x1 : Zac) (h0 : (List (Zac)) × Unit × Unit) (h1 : List ((Int × Int) × Int)) : Option (((Zac) × Int × Unit) × (((List (Zac)) × Unit × Unit) × (List ((Int × Int) × Int)) × Unit × Unit × Unit)) :=
 (Zb1 h0 h1).bind fun r1 =>
 (bif (!r1.1) then
 some (((⟨(⟨0, 0⟩ : ZfX), false, 0, []⟩ : Zac), 1, ()), (r1.2.1, r1.2.2.1, (), (), ()))
 else
 (Zho ([x1] : List (Zac))).bind fun r2 =>
 (bif (!r2.1) then
 some (((⟨(⟨0, 0⟩ : ZfX), false, 0, []⟩ : Zac), 2, ()), (r1.2.1, r1.2.2.1, (), (), ()))
 else
 (Zid x1.name r1.2.1 r1.2.2.1).bind fun r3 =>
 (bif r3.1.2.1 then
 some ((r3.1.1, 0, ()), (r3.2.1, r3.2.2.1, (), (), ()))
 else
 (Zi3 r3.2.1 r3.2.2.1).bind fun r4 =>
 (bif (decide ((x1.at_ : Int) <= r4.1)) then
 some (((⟨(⟨0, 0⟩ : ZfX), false, 0, []⟩ : Zac), 2, ()), (r4.2.1, r4.2.2.1, (), (), ()))
 else
 (ZkW x1 r4.2.1 r4.2.2.1).bind fun r5 =>
 (Zb2 x1).bind fun r6 =>
 some ((r6.1, 0, ()), (r5.2.1, r5.2.2.1, (), (), ()))))))
def ZpO : CEp where
 f := 101
 args := [.one (.ptr 0 0), .cod 17]
 hs := [.obj 197 [.own 17 2, .mo 1], .mmap (.two .i64 .i64) (.int .i64), .row 41 5]
 res := .tup [.cod 17, .one (.int .i64)]
 outs := [.obj 197 [.own 17 3, .mo 1], .mmap (.two .i64 .i64) (.int .i64), .dead, .row 41 5]
 m := fun d dh => Zgg d.2.1 dh.1 dh.2.1
 ok := ZaO Zar Tryz.func101 (by kernel_rfl) (Zad ZpN) (dr := ZpM) (lps := Zap lt0) (Zau (Zal (by kernel_rfl))) (fun d dh => by kernel_rfl)
def ZlD : List (CEp) := [ZmG, ZbS, ZuE, Zo8, ZrN, ZpO]
def Za5 (a : (Unit × Unit × Unit × Int × Int × Unit) × ((Unit × Unit) × ((List (Zac)) × Unit × Unit) × (Zam) × (List ((Int × Int) × Int)) × Unit × Unit)) : Option (((Unit × Unit × Unit × Int × Int × Unit) × ((Unit × Unit) × ((List (Zac)) × Unit × Unit) × (Zam) × (List ((Int × Int) × Int)) × Unit × Unit)) ⊕ (((Unit × Bool × Unit) × ((Unit × Unit) × ((List (Zac)) × Unit × Unit) × (Zam) × (List ((Int × Int) × Int)) × Unit × Unit × Unit)) ⊕ ((Unit × Unit × Unit) × ((Unit × Unit) × ((List (Zac)) × Unit × Unit) × (Zam) × (List ((Int × Int) × Int)) × Unit × Unit × Unit)))) :=
 (bif (decide ((a.1.2.2.2.2.1 : Int) < a.1.2.2.2.1)) then
 (ZkV a.2.2.2.1).bind fun r1 =>
 (Zid r1.1.name a.2.2.1 a.2.2.2.2.1).bind fun r2 =>
 (bif r2.1.2.1 then
 some (.inr (.inl (((), false, ()), (((), ()), r2.2.1, r1.2.1, r2.2.2.1, (), (), ()))))
 else
 (ZfJ ((), ()) r1.2.1).bind fun r3 =>
 (bif r3.1 then
 some (.inr (.inl (((), false, ()), (((), ()), r2.2.1, r3.2.2.1, r2.2.2.1, (), (), ()))))
 else
 (Zgg r1.1 r2.2.1 r2.2.2.1).bind fun r4 =>
 (bif (decide ((r4.1.2.1 : Int) ≠ 0)) then
 some (.inr (.inl (((), false, ()), (((), ()), r4.2.1, r3.2.2.1, r4.2.2.1, (), (), ()))))
 else
 some (.inl (((), (), (), a.1.2.2.2.1, (IntKind.i64.wrap (a.1.2.2.2.2.1 + 1)), ()), (((), ()), r4.2.1, r3.2.2.1, r4.2.2.1, (), ()))))))
 else
 some (.inr (.inr (((), (), ()), (((), ()), a.2.2.1, a.2.2.2.1, a.2.2.2.2.1, (), (), ())))))
def Zfg : LEp := ⟨4, [1, 4, 5, 14, 15], [.one (.ptr 0 0), .one (.ptr 1 0), .one (.clo 159 [0]), .one (.int .i64), .one (.int .i64)], [.obj 74 [.ptr 2 0], .obj 197 [.own 17 4, .mo 3], .cobj 170 24, .mmap (.two .i64 .i64) (.int .i64), .row 41 5], [⟨.ret, [2, 3], [.one (.nilptr), .one (.bool)], [.obj 74 [.ptr 2 0], .obj 197 [.own 17 5, .mo 3], .cobj 170 24, .mmap (.two .i64 .i64) (.int .i64), .dead, .row 41 5]⟩, ⟨.exit 0, [4, 5], [.one (.ptr 1 0), .one (.clo 159 [0])], [.obj 74 [.ptr 2 0], .obj 197 [.own 17 5, .mo 3], .cobj 170 24, .mmap (.two .i64 .i64) (.int .i64), .dead, .row 41 5]⟩], Za5⟩
def ZlE : List (LEp) := [Zfg]
theorem Zog : ZdE Zfg (ZcN (ZaD Tryz.f83) 0) := fun A env h k z hk => Za3 (E := Zfg) (Zad ZlD) (dr := dr0) (lps := Zap ZlE) (Zal (by kernel_rfl)) (fun a => by kernel_rfl) env h k z hk
def Ze5 (h0 : Zam) : Option (((Unit × Bool × Unit) × ((Zam) × ((List (Zac)) × Unit × Unit) × (List ((Int × Int) × Int)) × Unit × Unit)) ⊕ ((Unit × Bool × Unit) × ((Zam) × Unit))) :=
 (ZkM).bind fun r1 =>
 (ZaG 1073741824 h0).bind fun r2 =>
 (Zas Za5 (((), (), (), r2.1, 0, ()), (((), ()), r1.2.1, r2.2.1, r1.2.2.1, (), ()))).bind fun b3 =>
 (match b3 with
 | .inl b4 =>
 some (.inr (((), b4.1.2.1, ()), (b4.2.2.2.1, ())))
 | .inr b5 =>
 (ZfJ ((), ()) b5.2.2.2.1).bind fun r6 =>
 (bif r6.1 then
 some (.inr (((), false, ()), (r6.2.2.1, ())))
 else
 some (.inl (((), true, ()), (r6.2.2.1, b5.2.2.1, b5.2.2.2.2.1, (), ())))))
def Zte : CEp where
 f := 83
 args := [.one (.ptr 0 0)]
 hs := [.cobj 170 24]
 res := .tup [.one (.ptr 1 0), .one (.bool)]
 outs := [.cobj 170 24, .obj 197 [.own 17 3, .mo 2], .mmap (.two .i64 .i64) (.int .i64), .row 41 5]
 m := fun _ _ => none
 ok := fun _ _ _ h => nomatch h
 two := true
 res2 := .tup [.one (.nilptr), .one (.bool)]
 outs2 := [.cobj 170 24]
 mm := fun d dh => Ze5 dh.1
 okm := ZyI (args := [.one (.ptr 0 0)]) (hs := [.cobj 170 24]) (res := .tup [.one (.ptr 1 0), .one (.bool)]) (outs := [.cobj 170 24, .obj 197 [.own 17 3, .mo 2], .mmap (.two .i64 .i64) (.int .i64), .row 41 5]) (res2 := .tup [.one (.nilptr), .one (.bool)]) (outs2 := [.cobj 170 24]) (m := fun d dh => Ze5 dh.1) Zar Tryz.func83 (by kernel_rfl) (Zad ZlD) (dr := dr0) (lps := Zap ZlE) (Zau (ZaI (n := 1) (by kernel_rfl) fun i hi => match i, hi with | 0, _ => Za4 (E := Zfg) (by kernel_rfl) Zog)) (fun d dh => by kernel_rfl)
def ZpP : List (CEp) := [Zjn, ZbS, Zte]
def Zdr (h0 : Bool × Bool × LB × Unit) : Option (((Unit × Bool × Unit) × ((Zam) × Unit × (Unit × Int × (List (Zaf)) × Bool × Int × (List UInt8) × (List UInt8) × Int × Int × Int × Int × Int × Int × Unit) × ((List (Zac)) × Unit × Unit) × (List ((Int × Int) × Int)) × Unit × Unit)) ⊕ ((Unit × Bool × Unit) × ((Zam) × Unit × Unit))) :=
 (Zb0 h0).bind fun r1 =>
 (bif (!r1.1.2.1) then
 some (.inr (((), false, ()), (r1.2.1, (), ())))
 else
 (ZaG 1073741824 r1.2.1).bind fun r2 =>
 (Ze5 r2.2.1).bind fun r3 =>
 (match r3 with
 | .inl r4 =>
 (bif (!r4.1.2.1) then
 some (.inr (((), false, ()), (r4.2.1, (), ())))
 else
 (bif r1.1.1.under then
 (bif (decide ((r1.1.1.x.num : Int) ≠ r2.1)) then
 some (.inr (((), false, ()), (r4.2.1, (), ())))
 else
 some (.inl (((), true, ()), (r4.2.1, (), ((), r1.1.1.shares.epoch, r1.1.1.shares.list, r1.1.1.under, r1.1.1.x.num, r1.1.1.x.span.lo, r1.1.1.x.span.hi, r1.1.1.x.from_, r1.1.1.x.to_, r1.1.1.x.epoch, r1.1.1.x.under, r1.1.1.x.stage, r2.1, ()), r4.2.2.1, r4.2.2.2.1, (), ()))))
 else
 some (.inl (((), true, ()), (r4.2.1, (), ((), r1.1.1.shares.epoch, r1.1.1.shares.list, r1.1.1.under, r1.1.1.x.num, r1.1.1.x.span.lo, r1.1.1.x.span.hi, r1.1.1.x.from_, r1.1.1.x.to_, r1.1.1.x.epoch, r1.1.1.x.under, r1.1.1.x.stage, r2.1, ()), r4.2.2.1, r4.2.2.2.1, (), ())))))
 | .inr r5 =>
 (bif (!r5.1.2.1) then
 some (.inr (((), false, ()), (r5.2.1, (), ())))
 else
 (bif r1.1.1.under then
 (bif (decide ((r1.1.1.x.num : Int) ≠ r2.1)) then
 some (.inr (((), false, ()), (r5.2.1, (), ())))
 else
 none)
 else
 none))))
def ZpQ : CEp where
 f := 34
 args := [.one (.ptr 0 0)]
 hs := [.obj 170 [.bool, .bool, .own 1 1], .row 5 1]
 res := .tup [.one (.ptr 2 0), .one (.bool)]
 outs := [.cobj 170 24, .dead, .obj 110 [.ptr 3 0, .int .i64, .sl 5, .bool, .int .i64, .str, .str, .int .i64, .int .i64, .int .i64, .int .i64, .int .u8, .int .i64], .obj 197 [.own 17 5, .mo 4], .mmap (.two .i64 .i64) (.int .i64), .row 41 5]
 m := fun _ _ => none
 ok := fun _ _ _ h => nomatch h
 two := true
 res2 := .tup [.one (.nilptr), .one (.bool)]
 outs2 := [.cobj 170 24, .dead]
 mm := fun d dh => Zdr dh.1
 okm := ZyI (args := [.one (.ptr 0 0)]) (hs := [.obj 170 [.bool, .bool, .own 1 1], .row 5 1]) (res := .tup [.one (.ptr 2 0), .one (.bool)]) (outs := [.cobj 170 24, .dead, .obj 110 [.ptr 3 0, .int .i64, .sl 5, .bool, .int .i64, .str, .str, .int .i64, .int .i64, .int .i64, .int .i64, .int .u8, .int .i64], .obj 197 [.own 17 5, .mo 4], .mmap (.two .i64 .i64) (.int .i64), .row 41 5]) (res2 := .tup [.one (.nilptr), .one (.bool)]) (outs2 := [.cobj 170 24, .dead]) (m := fun d dh => Zdr dh.1) Zar Tryz.func34 (by kernel_rfl) (Zad ZpP) (dr := dr0) (lps := Zap lt0) (Zau (Zal (by kernel_rfl))) (fun d dh => by kernel_rfl)
def ZrS : List (CEp) := []
def Zj7 (x0 : List (ZaZ)) : Option ((List (ZaZ)) × (Unit × Unit)) :=
 (if x0.length <= 140737488355328 /\ x0.length * 40 <= 140737488355328 then
 some (x0, ((), ()))
 else none)
def ZrT : CEp where
 f := 191
 args := [.one (.sl 15)]
 hs := []
 res := .val (.one (.own 15 0))
 outs := [.row 247 3]
 m := fun d dh => Zj7 d.1
 ok := ceO Tryz.func191 (by kernel_rfl) ZrS (by kernel_rfl) fun d dh => by kernel_rfl
def ZuI : Nat -> Nat -> DrA
 | 1, _ => ⟨[0, 2, 4, 6, 1, 3, 5, 7, 8, 9, 10], [[], [0], [], [2], [], [4], [], [6], [6, 7], (List.range 9), (List.range 10)], [1, 3, 5], [8], [0], false, []⟩
 | _, _ => ⟨[], [], [], [], [], false, []⟩
def ZuJ : List (CEp) := [ZrT]
def ZbT (x0 : Zae) : Option ((Zae) × Unit) :=
 (Zj7 x0.reads).bind fun r1 =>
 some ((⟨x0.name, x0.commit, x0.at_, r1.1⟩ : Zae), ())
def Zgh : CEp where
 f := 113
 args := [.cod 26]
 hs := []
 res := .val (.cod 26)
 outs := []
 m := fun d dh => ZbT d.1
 ok := ZaO Zar Tryz.func113 (by kernel_rfl) (Zad ZuJ) (dr := ZuI) (lps := Zap lt0) (Zau (Zal (by kernel_rfl))) (fun d dh => by kernel_rfl)
def Zwx : Nat -> Nat -> DrA
 | 4, _ => ⟨[0, 1, 2, 4, 3, 5, 6, 7, 8, 9], [[], [0], [0, 1], [0, 1, 2], [], (List.range 5), (List.range 6), (List.range 7), [], (List.range 9)], [], [], [], false, []⟩
 | _, _ => ⟨[], [], [], [], [], false, []⟩
def Zwy : List (CEp) := [Zgh]
def Zm4 (a : (Unit × Unit × Unit × Int × Unit) × (((List (Zae)) × Unit) × (ZfX) × (Int × Int × Bool × Int × (List (ZaZ)) × Unit) × Unit × Unit × Unit)) : Option (((Unit × Unit × Unit × Int × Unit) × (((List (Zae)) × Unit) × (ZfX) × (Int × Int × Bool × Int × (List (ZaZ)) × Unit) × Unit × Unit × Unit)) ⊕ (((Unit × Bool × Unit) × (((List (Zae)) × Unit) × (ZfX) × (Zae) × Unit × Unit × Unit × Unit)) ⊕ ((Unit × Unit) × (((List (Zae)) × Unit) × (ZfX) × (Int × Int × Bool × Int × (List (ZaZ)) × Unit) × Unit × Unit × Unit × Unit × Unit)))) :=
 (bif (decide ((a.1.2.2.2.1 : Int) < (a.2.1.1.length : Int))) then
 (Zbs a.2.1.1 a.1.2.2.2.1).bind fun e1 =>
 (bif (decide ((e1.name.client : Int) = a.2.2.1.client) && (decide ((e1.name.num : Int) = a.2.2.1.num) && true)) then
 (Zbs a.2.1.1 a.1.2.2.2.1).bind fun e2 =>
 (ZbT e2).bind fun r3 =>
 some (.inr (.inl (((), true, ()), ((a.2.1.1, ()), a.2.2.1, r3.1, (), (), (), ()))))
 else
 some (.inl (((), (), (), (IntKind.i64.wrap (a.1.2.2.2.1 + 1)), ()), ((a.2.1.1, ()), a.2.2.1, a.2.2.2.1, (), (), ()))))
 else
 some (.inr (.inr (((), ()), ((a.2.1.1, ()), a.2.2.1, a.2.2.2.1, (), (), (), (), ())))))
def Zm5 : LEp := ⟨2, [0, 3, 4, 6], [.one (.ptr 0 0), .one (.ptr 1 0), .one (.ptr 2 0), .one (.int .i64)], [.obj 126 [.own 26 3], .cobj 38 13, .obj 117 [.int .i64, .int .i64, .bool, .int .i64, .own 15 4], .row 117 5, .row 247 3], [⟨.ret, [4, 5], [.one (.ptr 2 0), .one (.bool)], [.obj 126 [.own 26 5], .cobj 38 13, .cobj 117 26, .dead, .dead, .row 117 5]⟩, ⟨.exit 0, [4], [.one (.ptr 2 0)], [.obj 126 [.own 26 5], .cobj 38 13, .obj 117 [.int .i64, .int .i64, .bool, .int .i64, .own 15 6], .dead, .dead, .row 117 5, .row 247 3]⟩], Zm4⟩
def Zwz : List (LEp) := [Zm5]
theorem ZwA : ZdE Zm5 (ZcN (ZaD Tryz.f68) 0) := fun A env h k z hk => Za3 (E := Zm5) (Zad Zwy) (dr := Zwx) (lps := Zap Zwz) (Zal (by kernel_rfl)) (fun a => by kernel_rfl) env h k z hk
def Zo9 (x1 : ZfX) (h0 : (List (Zae)) × Unit) : Option (((Zae) × Bool × Unit) × (((List (Zae)) × Unit) × Unit × Unit × Unit)) :=
 (Zas Zm4 (((), (), (), 0, ()), ((h0.1, ()), x1, (0, 0, false, 0, [], ()), (), (), ()))).bind fun b1 =>
 (match b1 with
 | .inl b2 =>
 some ((b2.2.2.2.1, b2.1.2.1, ()), ((b2.2.1.1, ()), (), (), ()))
 | .inr b3 =>
 some (((⟨(⟨0, 0⟩ : ZfX), false, 0, []⟩ : Zae), false, ()), ((b3.2.1.1, ()), (), (), ())))
def ZwB : CEp where
 f := 68
 args := [.one (.ptr 0 0), .cod 13]
 hs := [.obj 126 [.own 26 1], .row 117 5]
 res := .tup [.cod 26, .one (.bool)]
 outs := [.obj 126 [.own 26 2], .dead, .row 117 5]
 m := fun d dh => Zo9 d.2.1 dh.1
 ok := ZaO Zar Tryz.func68 (by kernel_rfl) (Zad Zwy) (dr := Zwx) (lps := Zap Zwz) (Zau (ZaI (n := 1) (by kernel_rfl) fun i hi => match i, hi with | 0, _ => Za4 (E := Zm5) (by kernel_rfl) ZwA)) (fun d dh => by kernel_rfl)
def ZxS : List (CEp) := []
def Zqj (x0 : ZfX) : Option (Bool × Unit) :=
 (bif (decide ((1 : Int) <= x0.client)) then
 (bif (decide ((x0.client : Int) <= 8)) then
 (bif (decide ((1 : Int) <= x0.num)) then
 some ((decide ((x0.num : Int) <= 1073741824)), ())
 else
 some (false, ()))
 else
 some (false, ()))
 else
 some (false, ()))
def ZxT : CEp where
 f := 194
 args := [.cod 13]
 hs := []
 res := .val (.one (.bool))
 outs := []
 m := fun d dh => Zqj d.1
 ok := ceO Tryz.func194 (by kernel_rfl) ZxS (by kernel_rfl) fun d dh => by kernel_rfl
def ZpR : List (CEp) := [ZtM]
def Zgi (x0 : ZaZ) : Option (Bool × Unit) :=
 (Zl3 x0.key).bind fun r1 =>
 (bif r1.1 then
 (bif (decide (((x0.value.length : Int) : Int) <= 20)) then
 (bif x0.is then
 some (true, ())
 else
 some ((decide (x0.value = ([] : List UInt8))), ()))
 else
 some (false, ()))
 else
 some (false, ()))
def ZpS : CEp where
 f := 195
 args := [.cod 15]
 hs := []
 res := .val (.one (.bool))
 outs := []
 m := fun d dh => Zgi d.1
 ok := ceO Tryz.func195 (by kernel_rfl) ZpR (by kernel_rfl) fun d dh => by kernel_rfl
def Zpa : List (CEp) := [ZxT, ZpS]
def ZfO (a : (Unit × Int × Unit) × ((Zae) × Unit)) : Option (((Unit × Int × Unit) × ((Zae) × Unit)) ⊕ (((Bool × Unit) × ((Zae) × Unit)) ⊕ (Unit × ((Zae) × Unit)))) :=
 (bif (decide ((a.1.2.1 : Int) < (a.2.1.reads.length : Int))) then
 (Zbs a.2.1.reads a.1.2.1).bind fun e1 =>
 (Zgi e1).bind fun r2 =>
 (bif (!r2.1) then
 some (.inr (.inl ((false, ()), (a.2.1, ()))))
 else
 some (.inl (((), (IntKind.i64.wrap (a.1.2.1 + 1)), ()), (a.2.1, ()))))
 else
 some (.inr (.inr ((), (a.2.1, ())))))
def Zhp : LEp := ⟨4, [1, 3], [.one (.ptr 0 0), .one (.int .i64)], [.cobj 117 26], [⟨.ret, [2], [.one (.bool)], [.cobj 117 26]⟩, ⟨.exit 0, [], [], [.cobj 117 26]⟩], ZfO⟩
def Zpb : List (LEp) := [Zhp]
theorem ZrU : ZdE Zhp (ZcN (ZaD Tryz.f115) 0) := fun A env h k z hk => Za3 (E := Zhp) (Zad Zpa) (dr := dr0) (lps := Zap Zpb) (Zal (by kernel_rfl)) (fun a => by kernel_rfl) env h k z hk
def Zm6 (x0 : Zae) : Option (Bool × Unit) :=
 (Zqj x0.name).bind fun r1 =>
 (bif (!r1.1) then
 some (false, ())
 else
 (bif (decide ((x0.at_ : Int) < 1)) then
 some (false, ())
 else
 (bif (decide ((1073741824 : Int) < x0.at_)) then
 some (false, ())
 else
 (bif (decide ((6 : Int) < (x0.reads.length : Int))) then
 some (false, ())
 else
 (bif (!x0.commit) then
 (bif (decide ((0 : Int) < (x0.reads.length : Int))) then
 some (false, ())
 else
 (Zas ZfO (((), 0, ()), (x0, ()))).bind fun b2 =>
 (match b2 with
 | .inl b3 =>
 some (b3.1.1, ())
 | .inr b4 =>
 some (true, ())))
 else
 (Zas ZfO (((), 0, ()), (x0, ()))).bind fun b5 =>
 (match b5 with
 | .inl b6 =>
 some (b6.1.1, ())
 | .inr b7 =>
 some (true, ())))))))
def ZwC : CEp where
 f := 115
 args := [.cod 26]
 hs := []
 res := .val (.one (.bool))
 outs := []
 m := fun d dh => Zm6 d.1
 ok := ZaO Zar Tryz.func115 (by kernel_rfl) (Zad Zpa) (dr := dr0) (lps := Zap Zpb) (Zau (ZaI (n := 1) (by kernel_rfl) fun i hi => match i, hi with | 0, _ => Za4 (E := Zhp) (by kernel_rfl) ZrU)) (fun d dh => by kernel_rfl)
def ZuK : Nat -> Nat -> DrA
 | 6, _ => ⟨(List.range 8 ++ [9, 10, 11, 13, 14, 15, 8, 12, 16, 17, 18, 19, 20, 21, 22, 23]), [[], [0], [0, 1], [0, 1, 2], [0, 1, 2, 3], (List.range 5), (List.range 6), (List.range 7), (List.range 8), (List.range 7), (List.range 7 ++ [9]), (List.range 7 ++ [9, 10]), (List.range 7 ++ [9, 10, 11]), (List.range 7), (List.range 7 ++ [13]), (List.range 7 ++ [13, 14]), (List.range 7 ++ [13, 14, 15]), (List.range 7 ++ [13, 14, 15, 16]), (List.range 7 ++ [13, 14, 15, 16, 17]), (List.range 7 ++ [9, 10, 11, 12, 13, 14, 15, 16, 17, 18]), (List.range 7 ++ [9, 10, 11, 12, 13, 14, 15, 16, 17, 18, 19]), (List.range 7 ++ [9, 10, 11, 12, 13, 14, 15, 16, 17, 18, 19, 20]), (List.range 22), (List.range 23)], [], [], [], false, []⟩
 | 8, _ => ⟨(List.range 12), [[], [], [1], [1, 2], [1, 2, 3], [], [5], [5, 6], [1, 2, 3, 4, 5, 6, 7], (List.range 9), (List.range 10), (List.range 11)], [4], [6], [0], false, []⟩
 | _, _ => ⟨[], [], [], [], [], false, []⟩
def ZuL : List (CEp) := [ZwC, ZwB, Zgh]
def Zik (x1 : Zae) (h0 : (List (Zae)) × Unit) : Option (((Zae) × Int × Unit) × (((List (Zae)) × Unit) × Unit × Unit × Unit)) :=
 (Zm6 x1).bind fun r1 =>
 (bif (!r1.1) then
 some (((⟨(⟨0, 0⟩ : ZfX), false, 0, []⟩ : Zae), 2, ()), ((h0.1, ()), (), (), ()))
 else
 (Zo9 x1.name (h0.1, ())).bind fun r2 =>
 (bif r2.1.2.1 then
 some ((r2.1.1, 0, ()), ((r2.2.1.1, ()), (), (), ()))
 else
 (bif (decide ((0 : Int) < (r2.2.1.1.length : Int))) then
 (Zbs r2.2.1.1 (IntKind.i64.wrap ((r2.2.1.1.length : Int) - 1))).bind fun e3 =>
 (bif (decide ((x1.at_ : Int) <= e3.at_)) then
 some (((⟨(⟨0, 0⟩ : ZfX), false, 0, []⟩ : Zae), 2, ()), ((r2.2.1.1, ()), (), (), ()))
 else
 (ZbT x1).bind fun r4 =>
 (if r2.2.1.1.length + ([r4.1] : List (Zae)).length <= 140737488355328 /\ (r2.2.1.1.length + ([r4.1] : List (Zae)).length) * 56 <= 140737488355328 then
 (ZbT x1).bind fun r5 =>
 some ((r5.1, 0, ()), (((r2.2.1.1 ++ ([r4.1] : List (Zae))), ()), (), (), ()))
 else none))
 else
 (ZbT x1).bind fun r6 =>
 (if r2.2.1.1.length + ([r6.1] : List (Zae)).length <= 140737488355328 /\ (r2.2.1.1.length + ([r6.1] : List (Zae)).length) * 56 <= 140737488355328 then
 (ZbT x1).bind fun r7 =>
 some ((r7.1, 0, ()), (((r2.2.1.1 ++ ([r6.1] : List (Zae))), ()), (), (), ()))
 else none))))
def ZuM : CEp where
 f := 67
 args := [.one (.ptr 0 0), .cod 26]
 hs := [.obj 126 [.own 26 1], .row 117 5]
 res := .tup [.cod 26, .one (.int .i64)]
 outs := [.obj 126 [.own 26 2], .dead, .row 117 5]
 m := fun d dh => Zik d.2.1 dh.1
 ok := ZaO Zar Tryz.func67 (by kernel_rfl) (Zad ZuL) (dr := ZuK) (lps := Zap lt0) (Zau (Zal (by kernel_rfl))) (fun d dh => by kernel_rfl)
def Zl4 : List (CEp) := [Zey, ZrB, Zof, ZwB, ZuM]
def ZgN (a : (Unit × Unit × Int × Int × Unit × Int × Int × Unit) × ((ZaA) × ((List (Zae)) × Unit) × (Int × Int × Bool × Int × (List (ZaZ)) × Unit) × Unit × Unit × Unit)) : Option (((Unit × Unit × Int × Int × Unit × Int × Int × Unit) × ((ZaA) × ((List (Zae)) × Unit) × (Int × Int × Bool × Int × (List (ZaZ)) × Unit) × Unit × Unit × Unit)) ⊕ (((Unit × Unit × Int × Int × Unit × Unit) × ((ZaA) × ((List (Zae)) × Unit) × (Int × Int × Bool × Int × (List (ZaZ)) × Unit) × Unit × Unit × Unit × Unit × Unit)))) :=
 (bif (decide ((a.1.2.2.2.2.2.2.1 : Int) < a.1.2.2.2.2.2.1)) then
 (Zi1 20 a.2.1).bind fun r1 =>
 (ZkS r1.2.1).bind fun r2 =>
 (Zi1 20 r2.2.1).bind fun r3 =>
 (if a.2.2.2.1.2.2.2.2.1.length + ([(⟨r1.1, r2.1, r3.1⟩ : ZaZ)] : List (ZaZ)).length <= 140737488355328 /\ (a.2.2.2.1.2.2.2.2.1.length + ([(⟨r1.1, r2.1, r3.1⟩ : ZaZ)] : List (ZaZ)).length) * 40 <= 140737488355328 then
 let y4 : List (ZaZ) := (a.2.2.2.1.2.2.2.2.1 ++ ([(⟨r1.1, r2.1, r3.1⟩ : ZaZ)] : List (ZaZ)))
 some (.inl (((), (), a.1.2.2.1, a.1.2.2.2.1, (), a.1.2.2.2.2.2.1, (IntKind.i64.wrap (a.1.2.2.2.2.2.2.1 + 1)), ()), (r3.2.1, (a.2.2.1.1, ()), (a.2.2.2.1.1, a.2.2.2.1.2.1, a.2.2.2.1.2.2.1, a.2.2.2.1.2.2.2.1, y4, ()), (), (), ())))
 else none)
 else
 some (.inr (((), (), a.1.2.2.1, a.1.2.2.2.1, (), ()), (a.2.1, (a.2.2.1.1, ()), a.2.2.2.1, (), (), (), (), ()))))
def Zi4 : LEp := ⟨13, [0, 4, 5, 6, 7, 8, 9], [.one (.ptr 0 0), .one (.ptr 1 0), .one (.int .i64), .one (.int .i64), .one (.ptr 2 0), .one (.int .i64), .one (.int .i64)], [.cobj 78 25, .obj 126 [.own 26 3], .obj 117 [.int .i64, .int .i64, .bool, .int .i64, .own 15 4], .row 117 5, .row 247 3], [⟨.exit 2, [0, 4, 5, 6, 7], [.one (.ptr 0 0), .one (.ptr 1 0), .one (.int .i64), .one (.int .i64), .one (.ptr 2 0)], [.cobj 78 25, .obj 126 [.own 26 5], .obj 117 [.int .i64, .int .i64, .bool, .int .i64, .own 15 6], .dead, .dead, .row 117 5, .row 247 3]⟩], ZgN⟩
def Ze6 (a : (Unit × Unit × Int × Int × Unit) × ((ZaA) × ((List (Zae)) × Unit) × Unit × Unit)) : Option (((Unit × Unit × Int × Int × Unit) × ((ZaA) × ((List (Zae)) × Unit) × Unit × Unit)) ⊕ (((Unit × Bool × Unit) × ((ZaA) × ((List (Zae)) × Unit) × Unit × Unit × Unit)) ⊕ ((Unit × Unit × Unit) × ((ZaA) × ((List (Zae)) × Unit) × Unit × Unit × Unit)))) :=
 (bif (decide ((a.1.2.2.2.1 : Int) < a.1.2.2.1)) then
 (ZaU 1073741824 a.2.1).bind fun r1 =>
 (ZaU 1073741824 r1.2.1).bind fun r2 =>
 (ZaU 1073741824 r2.2.1).bind fun r3 =>
 (ZkS r3.2.1).bind fun r4 =>
 (ZaU 6 r4.2.1).bind fun r5 =>
 (Zas ZgN (((), (), a.1.2.2.1, a.1.2.2.2.1, (), r5.1, 0, ()), (r5.2.1, (a.2.2.1.1, ()), (r1.1, r2.1, r4.1, r3.1, [], ()), (), (), ()))).bind fun b6 =>
 (Zo9 (⟨b6.2.2.2.1.1, b6.2.2.2.1.2.1⟩ : ZfX) (b6.2.2.1.1, ())).bind fun r7 =>
 (bif b6.2.1.failed then
 some (.inr (.inl (((), false, ()), (b6.2.1, (r7.2.1.1, ()), (), (), ()))))
 else
 (bif r7.1.2.1 then
 some (.inr (.inl (((), false, ()), (b6.2.1, (r7.2.1.1, ()), (), (), ()))))
 else
 (Zik (⟨(⟨b6.2.2.2.1.1, b6.2.2.2.1.2.1⟩ : ZfX), b6.2.2.2.1.2.2.1, b6.2.2.2.1.2.2.2.1, b6.2.2.2.1.2.2.2.2.1⟩ : Zae) (r7.2.1.1, ())).bind fun r8 =>
 (bif (decide ((r8.1.2.1 : Int) ≠ 0)) then
 some (.inr (.inl (((), false, ()), (b6.2.1, (r8.2.1.1, ()), (), (), ()))))
 else
 some (.inl (((), (), b6.1.2.2.1, (IntKind.i64.wrap (b6.1.2.2.2.1 + 1)), ()), (b6.2.1, (r8.2.1.1, ()), (), ()))))))
 else
 some (.inr (.inr (((), (), ()), (a.2.1, (a.2.2.1.1, ()), (), (), ())))))
def Zi5 : LEp := ⟨4, [0, 4, 5, 6], [.one (.ptr 0 0), .one (.ptr 1 0), .one (.int .i64), .one (.int .i64)], [.cobj 78 25, .obj 126 [.own 26 2], .row 117 5], [⟨.ret, [2, 3], [.one (.nilptr), .one (.bool)], [.cobj 78 25, .obj 126 [.own 26 3], .dead, .row 117 5]⟩, ⟨.exit 0, [0, 4], [.one (.ptr 0 0), .one (.ptr 1 0)], [.cobj 78 25, .obj 126 [.own 26 3], .dead, .row 117 5]⟩], Ze6⟩
def Zl5 : List (LEp) := [Zi4, Zi5]
theorem Ztf : ZdE Zi4 (ZcN (ZcN (ZaD Tryz.f85) 0) 0) := fun A env h k z hk => Za3 (E := Zi4) (Zad Zl4) (dr := dr0) (lps := Zap Zl5) (Zal (by kernel_rfl)) (fun a => by kernel_rfl) env h k z hk
theorem Ztg : ZdE Zi5 (ZcN (ZaD Tryz.f85) 0) := fun A env h k z hk => Za3 (E := Zi5) (Zad Zl4) (dr := dr0) (lps := Zap Zl5) (ZaI (n := 1) (by kernel_rfl) fun i hi => match i, hi with | 0, _ => Za4 (E := Zi4) (by kernel_rfl) Ztf) (fun a => by kernel_rfl) env h k z hk
def ZkX (h0 : ZaA) : Option (((Unit × Bool × Unit) × ((ZaA) × ((List (Zae)) × Unit) × Unit × Unit)) ⊕ ((Unit × Bool × Unit) × ((ZaA) × Unit))) :=
 (ZaU 1073741824 h0).bind fun r1 =>
 (Zas Ze6 (((), (), r1.1, 0, ()), (r1.2.1, ([], ()), (), ()))).bind fun b2 =>
 (match b2 with
 | .inl b3 =>
 some (.inr (((), b3.1.2.1, ()), (b3.2.1, ())))
 | .inr b4 =>
 (bif b4.2.1.failed then
 some (.inr (((), false, ()), (b4.2.1, ())))
 else
 some (.inl (((), true, ()), (b4.2.1, (b4.2.2.1.1, ()), (), ())))))
def ZxU : CEp where
 f := 85
 args := [.one (.ptr 0 0)]
 hs := [.cobj 78 25]
 res := .tup [.one (.ptr 1 0), .one (.bool)]
 outs := [.cobj 78 25, .obj 126 [.own 26 2], .row 117 5]
 m := fun _ _ => none
 ok := fun _ _ _ h => nomatch h
 two := true
 res2 := .tup [.one (.nilptr), .one (.bool)]
 outs2 := [.cobj 78 25]
 mm := fun d dh => ZkX dh.1
 okm := ZyI (args := [.one (.ptr 0 0)]) (hs := [.cobj 78 25]) (res := .tup [.one (.ptr 1 0), .one (.bool)]) (outs := [.cobj 78 25, .obj 126 [.own 26 2], .row 117 5]) (res2 := .tup [.one (.nilptr), .one (.bool)]) (outs2 := [.cobj 78 25]) (m := fun d dh => ZkX dh.1) Zar Tryz.func85 (by kernel_rfl) (Zad Zl4) (dr := dr0) (lps := Zap Zl5) (Zau (ZaI (n := 1) (by kernel_rfl) fun i hi => match i, hi with | 0, _ => Za4 (E := Zi5) (by kernel_rfl) Ztg)) (fun d dh => by kernel_rfl)
def ZxV : List (CEp) := [ZrH, Zey, ZxU]
def Zi6 (h0 : ZaA) : Option (((Unit × Bool × Unit) × ((ZaA) × (Int × (List (Zaf)) × (Nat × Nat × Nat) × Int × Unit × Unit) × ((List (Zae)) × Unit) × (List (Zak)) × Unit × Unit)) ⊕ ((Unit × Bool × Unit) × ((ZaA) × Unit))) :=
 (Zm1 h0).bind fun r1 =>
 (bif (!r1.1.2.2.1) then
 some (.inr (((), false, ()), (r1.2.1, ())))
 else
 (ZaU 1073741824 r1.2.1).bind fun r2 =>
 (ZkX r2.2.1).bind fun r3 =>
 (match r3 with
 | .inl r4 =>
 (bif (!r4.1.2.1) then
 some (.inr (((), false, ()), (r4.2.1, ())))
 else
 (bif (decide ((0 : Int) < ((r1.1.2.1.2.1 : Nat) : Int))) then
 (if 0 <= (0 : Int) /\ (0 : Int) < ((r1.1.2.1.2.1 : Nat) : Int) then
 (r1.2.2.1[(r1.1.2.1.1 + (0 : Int).toNat)]?).bind fun e6 =>
 (bif (decide ((e6.num : Int) ≠ r2.1)) then
 some (.inr (((), false, ()), (r4.2.1, ())))
 else
 some (.inl (((), true, ()), (r4.2.1, (r1.1.1.epoch, r1.1.1.list, (r1.1.2.1.1, r1.1.2.1.2.1, r1.1.2.1.2.2), r2.1, (), ()), (r4.2.2.1.1, ()), r1.2.2.1, (), ()))))
 else none)
 else
 some (.inl (((), true, ()), (r4.2.1, (r1.1.1.epoch, r1.1.1.list, (r1.1.2.1.1, r1.1.2.1.2.1, r1.1.2.1.2.2), r2.1, (), ()), (r4.2.2.1.1, ()), r1.2.2.1, (), ())))))
 | .inr r5 =>
 (bif (!r5.1.2.1) then
 some (.inr (((), false, ()), (r5.2.1, ())))
 else
 (bif (decide ((0 : Int) < ((r1.1.2.1.2.1 : Nat) : Int))) then
 (if 0 <= (0 : Int) /\ (0 : Int) < ((r1.1.2.1.2.1 : Nat) : Int) then
 (r1.2.2.1[(r1.1.2.1.1 + (0 : Int).toNat)]?).bind fun e7 =>
 (bif (decide ((e7.num : Int) ≠ r2.1)) then
 some (.inr (((), false, ()), (r5.2.1, ())))
 else
 none)
 else none)
 else
 none))))
def ZxW : CEp where
 f := 35
 args := [.one (.ptr 0 0)]
 hs := [.cobj 78 25]
 res := .tup [.one (.ptr 1 0), .one (.bool)]
 outs := [.cobj 78 25, .obj 129 [.int .i64, .sl 5, .as 19 3, .int .i64, .ptr 2 0], .obj 126 [.own 26 4], .arr 71 19 false, .row 117 5]
 m := fun _ _ => none
 ok := fun _ _ _ h => nomatch h
 two := true
 res2 := .tup [.one (.nilptr), .one (.bool)]
 outs2 := [.cobj 78 25]
 mm := fun d dh => Zi6 dh.1
 okm := ZyI (args := [.one (.ptr 0 0)]) (hs := [.cobj 78 25]) (res := .tup [.one (.ptr 1 0), .one (.bool)]) (outs := [.cobj 78 25, .obj 129 [.int .i64, .sl 5, .as 19 3, .int .i64, .ptr 2 0], .obj 126 [.own 26 4], .arr 71 19 false, .row 117 5]) (res2 := .tup [.one (.nilptr), .one (.bool)]) (outs2 := [.cobj 78 25]) (m := fun d dh => Zi6 dh.1) Zar Tryz.func35 (by kernel_rfl) (Zad ZxV) (dr := dr0) (lps := Zap lt0) (Zau (Zal (by kernel_rfl))) (fun d dh => by kernel_rfl)
def ZgO : Nat -> Nat -> DrA
 | 6, _ => ⟨[0, 1, 2, 4, 5, 6, 3, 7, 8], [[], [], [0, 1], [0, 1, 2], [], [], [4, 5], [4, 5, 6], (List.range 8)], [], [], [], false, []⟩
 | _, _ => ⟨[], [], [], [], [], false, []⟩
def ZgP : List (CEp) := []
def ZbP (a : ((List (Zaf)) × (List (Zaf)) × Int × Unit) × Unit) : Option ((((List (Zaf)) × (List (Zaf)) × Int × Unit) × Unit) ⊕ (((Bool × Unit) × Unit) ⊕ (Unit × Unit))) :=
 (bif (decide ((a.1.2.2.1 : Int) < (a.1.1.length : Int))) then
 (Zbs a.1.1 a.1.2.2.1).bind fun e1 =>
 (Zbs a.1.2.1 a.1.2.2.1).bind fun e2 =>
 (bif (!(decide (e1.span.lo = e2.span.lo) && (decide (e1.span.hi = e2.span.hi) && (decide ((e1.group : Int) = e2.group) && (decide ((e1.epoch : Int) = e2.epoch) && true))))) then
 some (.inr (.inl ((false, ()), ())))
 else
 some (.inl ((a.1.1, a.1.2.1, (IntKind.i64.wrap (a.1.2.2.1 + 1)), ()), ())))
 else
 some (.inr (.inr ((), ()))))
def ZcH : LEp := ⟨4, [0, 1, 5], [.one (.sl 5), .one (.sl 5), .one (.int .i64)], [], [⟨.ret, [4], [.one (.bool)], []⟩, ⟨.exit 0, [], [], []⟩], ZbP⟩
def ZgQ : List (LEp) := [ZcH]
theorem Zjv : ZdE ZcH (ZcN (ZaD Tryz.f86) 0) := fun A env h k z hk => Za3 (E := ZcH) (Zad ZgP) (dr := ZgO) (lps := Zap ZgQ) (Zal (by kernel_rfl)) (fun a => by kernel_rfl) env h k z hk
def Zd0 (x0 : List (Zaf)) (x1 : List (Zaf)) : Option (Bool × Unit) :=
 (bif (decide (((x0.length : Int) : Int) ≠ (x1.length : Int))) then
 some (false, ())
 else
 (Zas ZbP ((x0, x1, 0, ()), ())).bind fun b1 =>
 (match b1 with
 | .inl b2 =>
 some (b2.1.1, ())
 | .inr b3 =>
 some (true, ())))
def Zl6 : CEp where
 f := 86
 args := [.one (.sl 5), .one (.sl 5)]
 hs := []
 res := .val (.one (.bool))
 outs := []
 m := fun d dh => Zd0 d.1 d.2.1
 ok := ZaO Zar Tryz.func86 (by kernel_rfl) (Zad ZgP) (dr := ZgO) (lps := Zap ZgQ) (Zau (ZaI (n := 1) (by kernel_rfl) fun i hi => match i, hi with | 0, _ => Za4 (E := ZcH) (by kernel_rfl) Zjv)) (fun d dh => by kernel_rfl)
def ZpT : List (CEp) := [Zl6]
def Zb6 (x0 : Zai) (x1 : Zai) : Option (Bool × Unit) :=
 (bif (decide ((x0.epoch : Int) = x1.epoch)) then
 (Zd0 x0.list x1.list).bind fun r1 =>
 some (r1.1, ())
 else
 some (false, ()))
def Zjo : CEp where
 f := 36
 args := [.cod 8, .cod 8]
 hs := []
 res := .val (.one (.bool))
 outs := []
 m := fun d dh => Zb6 d.1 d.2.1
 ok := ceO Tryz.func36 (by kernel_rfl) ZpT (by kernel_rfl) fun d dh => by kernel_rfl
def Zj8 : Nat -> Nat -> DrA
 | 7, _ => ⟨(List.range 8 ++ [9, 10, 11, 8, 12, 13, 14, 15, 16, 17, 18, 19, 20, 21, 22, 23, 24, 26, 27, 28, 29, 25, 30, 31, 32, 33, 34]), [[], [], [1], [0, 1, 2], [0, 1, 2, 3], (List.range 5), (List.range 5), (List.range 7), (List.range 8), (List.range 5), (List.range 5), (List.range 5 ++ [9, 10]), (List.range 5 ++ [9, 10, 11]), (List.range 13), (List.range 14), (List.range 15), (List.range 16), (List.range 17), (List.range 17), (List.range 17 ++ [18]), (List.range 20), (List.range 21), (List.range 22), (List.range 22), (List.range 24), (List.range 25), (List.range 22), (List.range 22), (List.range 22 ++ [27]), (List.range 22 ++ [26, 27, 28]), (List.range 22 ++ [26, 27, 28, 29]), (List.range 31), (List.range 32), (List.range 33), (List.range 34)], [25], [30], [], false, []⟩
 | _, _ => ⟨[], [], [], [], [], false, []⟩
def Zj9 : List (CEp) := [Zly]
def Zct (a : (LB × LB × Int × Unit) × Unit) : Option (((LB × LB × Int × Unit) × Unit) ⊕ (((Bool × Unit) × Unit) ⊕ (Unit × Unit))) :=
 (bif (decide ((a.1.2.2.1 : Int) < (a.1.2.1.length : Int))) then
 (bif (decide ((a.1.2.2.1 : Int) < (a.1.1.length : Int))) then
 (Zbs a.1.2.1 a.1.2.2.1).bind fun e1 =>
 (Zbs a.1.1 a.1.2.2.1).bind fun e2 =>
 (bif (!(decide (((e1.toNat : Int) : Int) = (e2.toNat : Int)))) then
 some (.inr (.inl ((false, ()), ())))
 else
 (bif (decide (((a.1.1.length : Int) : Int) <= a.1.2.2.1)) then
 (Zbs a.1.2.1 a.1.2.2.1).bind fun e3 =>
 (Zd3 1 (IntKind.i64.wrap (a.1.2.2.1 - (a.1.1.length : Int)))).bind fun r4 =>
 (bif (!(decide (((e3.toNat : Int) : Int) = r4.1))) then
 some (.inr (.inl ((false, ()), ())))
 else
 some (.inl ((a.1.1, a.1.2.1, (IntKind.i64.wrap (a.1.2.2.1 + 1)), ()), ())))
 else
 some (.inl ((a.1.1, a.1.2.1, (IntKind.i64.wrap (a.1.2.2.1 + 1)), ()), ()))))
 else
 (bif (decide (((a.1.1.length : Int) : Int) <= a.1.2.2.1)) then
 (Zbs a.1.2.1 a.1.2.2.1).bind fun e5 =>
 (Zd3 1 (IntKind.i64.wrap (a.1.2.2.1 - (a.1.1.length : Int)))).bind fun r6 =>
 (bif (!(decide (((e5.toNat : Int) : Int) = r6.1))) then
 some (.inr (.inl ((false, ()), ())))
 else
 some (.inl ((a.1.1, a.1.2.1, (IntKind.i64.wrap (a.1.2.2.1 + 1)), ()), ())))
 else
 some (.inl ((a.1.1, a.1.2.1, (IntKind.i64.wrap (a.1.2.2.1 + 1)), ()), ()))))
 else
 some (.inr (.inr ((), ()))))
def ZeD : LEp := ⟨5, [1, 5, 6], [.one (.sl 1), .one (.sl 1), .one (.int .i64)], [], [⟨.ret, [4], [.one (.bool)], []⟩, ⟨.exit 0, [], [], []⟩], Zct⟩
def Zka : List (LEp) := [ZeD]
theorem Zm7 : ZdE ZeD (ZcN (ZaD Tryz.f37) 0) := fun A env h k z hk => Za3 (E := ZeD) (Zad Zj9) (dr := Zj8) (lps := Zap Zka) (Zal (by kernel_rfl)) (fun a => by kernel_rfl) env h k z hk
def Zc5 (x0 : LB × LB) (x1 : LB) : Option (Bool × Unit) :=
 (bif (decide (((x0.1.length : Int) : Int) ≠ (x1.length : Int))) then
 some (false, ())
 else
 (if 0 <= ((0 : Int) : Int) /\ ((0 : Int) : Int) <= (IntKind.i64.wrap ((x1.length : Int) + 12)) /\ (IntKind.i64.wrap ((x1.length : Int) + 12)) <= ((x0.1 ++ x0.2).length : Int) then
 let y1 : LB := (((x0.1 ++ x0.2).drop ((0 : Int) : Int).toNat).take (((IntKind.i64.wrap ((x1.length : Int) + 12)) : Int).toNat - ((0 : Int) : Int).toNat))
 (Zas Zct ((x1, y1, 0, ()), ())).bind fun b2 =>
 (match b2 with
 | .inl b3 =>
 some (b3.1.1, ())
 | .inr b4 =>
 some (true, ()))
 else none))
def ZrV : CEp where
 f := 37
 args := [.one (.slx 1), .one (.sl 1)]
 hs := []
 res := .val (.one (.bool))
 outs := []
 m := fun d dh => Zc5 d.1 d.2.1
 ok := ZaO Zar Tryz.func37 (by kernel_rfl) (Zad Zj9) (dr := Zj8) (lps := Zap Zka) (Zau (ZaI (n := 1) (by kernel_rfl) fun i hi => match i, hi with | 0, _ => Za4 (E := ZeD) (by kernel_rfl) Zm7)) (fun d dh => by kernel_rfl)
def ZuN : List (CEp) := []
def ZkY (h0 : Int × (List (Zaf)) × (Nat × Nat × Nat) × Int × Unit × Unit) (h1 : List (Zak)) (h2 : (List (Zae)) × Unit) : Option (((Zak) × Bool × Unit) × ((Int × (List (Zaf)) × (Nat × Nat × Nat) × Int × Unit × Unit) × (List (Zak)) × ((List (Zae)) × Unit) × Unit × Unit × Unit)) :=
 (bif (decide ((((h0.2.2.1.2.1 : Nat) : Int) : Int) = 0)) then
 some (((⟨0, (⟨([] : List UInt8), ([] : List UInt8)⟩ : Zao), 0, 0, 0, 0, 0⟩ : Zak), false, ()), ((h0.1, h0.2.1, (h0.2.2.1.1, h0.2.2.1.2.1, h0.2.2.1.2.2), h0.2.2.2.1, (), ()), h1, (h2.1, ()), (), (), ()))
 else
 (if 0 <= (0 : Int) /\ (0 : Int) < ((h0.2.2.1.2.1 : Nat) : Int) then
 (h1[(h0.2.2.1.1 + (0 : Int).toNat)]?).bind fun e1 =>
 some ((e1, true, ()), ((h0.1, h0.2.1, (h0.2.2.1.1, h0.2.2.1.2.1, h0.2.2.1.2.2), h0.2.2.2.1, (), ()), h1, (h2.1, ()), (), (), ()))
 else none))
def ZuO : CEp where
 f := 70
 args := [.one (.ptr 0 0)]
 hs := [.obj 129 [.int .i64, .sl 5, .as 19 1, .int .i64, .ptr 2 0], .arr 71 19 true, .obj 126 [.own 26 3], .row 117 5]
 res := .tup [.cod 19, .one (.bool)]
 outs := [.obj 129 [.int .i64, .sl 5, .as 19 1, .int .i64, .ptr 2 0], .arr 71 19 true, .obj 126 [.own 26 4], .dead, .row 117 5]
 m := fun d dh => ZkY dh.1 dh.2.1 dh.2.2.1
 ok := ceO Tryz.func70 (by kernel_rfl) ZuN (by kernel_rfl) fun d dh => by kernel_rfl
def Zoh : List (CEp) := []
def ZhP  : Option (Unit × ((Bool × Bool × LB × Unit) × Unit × Unit)) :=
 some ((), ((true, false, [], ()), (), ()))
def Zil : CEp where
 f := 40
 args := []
 hs := []
 res := .val (.one (.ptr 0 0))
 outs := [.obj 180 [.bool, .bool, .own 1 1], .row 5 1]
 m := fun d dh => ZhP
 ok := ceO Tryz.func40 (by kernel_rfl) Zoh (by kernel_rfl) fun d dh => by kernel_rfl
def ZuP : List (CEp) := []
def Zds (h0 : Bool × Bool × LB × Unit) : Option (Bool × ((Bool × Bool × LB × Unit) × Unit × Unit × Unit)) :=
 some (h0.1, (h0, (), (), ()))
def Zb7 : CEp where
 f := 90
 args := [.one (.ptr 0 0)]
 hs := [.obj 180 [.bool, .bool, .own 1 1], .row 5 1]
 res := .val (.one (.bool))
 outs := [.obj 180 [.bool, .bool, .own 1 2], .dead, .row 5 1]
 m := fun d dh => Zds dh.1
 ok := ceO Tryz.func90 (by kernel_rfl) ZuP (by kernel_rfl) fun d dh => by kernel_rfl
def ZxX : List (CEp) := []
def Zfh (x1 : LB) (h0 : Bool × Bool × LB × Unit) : Option (Unit × ((Bool × Bool × LB × Unit) × Unit × Unit × Unit)) :=
 (bif h0.1 then
 (if h0.2.2.1.length + x1.length <= 140737488355328 /\ (h0.2.2.1.length + x1.length) * 1 <= 140737488355328 then
 some ((), ((h0.1, h0.2.1, (h0.2.2.1 ++ x1), ()), (), (), ()))
 else none)
 else
 some ((), (h0, (), (), ())))
def Zi7 : CEp where
 f := 189
 args := [.one (.ptr 0 0), .one (.sl 1)]
 hs := [.obj 180 [.bool, .bool, .own 1 1], .row 5 1]
 res := .tup []
 outs := [.obj 180 [.bool, .bool, .own 1 2], .dead, .row 5 1]
 m := fun d dh => Zfh d.2.1 dh.1
 ok := ceO Tryz.func189 (by kernel_rfl) ZxX (by kernel_rfl) fun d dh => by kernel_rfl
def ZlF : List (CEp) := [Zi7]
def ZdM (a : (Unit × Int × Unit) × ((Bool × Bool × LB × Unit) × Unit × Unit)) : Option (((Unit × Int × Unit) × ((Bool × Bool × LB × Unit) × Unit × Unit)) ⊕ (((Unit × Int × Unit) × ((Bool × Bool × LB × Unit) × Unit × Unit × Unit)))) :=
 (bif (decide ((127 : Int) < a.1.2.1)) then
 (b8 (IntKind.u8.wrap ((BitVec.ofInt (IntKind.u8.bits) (IntKind.u8.wrap a.1.2.1) ||| BitVec.ofInt (IntKind.u8.bits) 128).toNat))).bind fun u1 =>
 (Zfh ([u1] : LB) a.2.1).bind fun r2 =>
 some (.inl (((), ((a.1.2.1 : Int).fdiv (2 ^ min (7 : Int).toNat (IntKind.i64.bits))), ()), (r2.2.1, (), ())))
 else
 some (.inr (((), a.1.2.1, ()), (a.2.1, (), (), ()))))
def Zfi : LEp := ⟨2, [0, 1], [.one (.ptr 0 0), .one (.int .i64)], [.obj 180 [.bool, .bool, .own 1 1], .row 5 1], [⟨.exit 0, [0, 1], [.one (.ptr 0 0), .one (.int .i64)], [.obj 180 [.bool, .bool, .own 1 2], .dead, .row 5 1]⟩], ZdM⟩
def ZlG : List (LEp) := [Zfi]
theorem Zoi : ZdE Zfi (ZcN (ZaD Tryz.f163) 0) := fun A env h k z hk => Za3 (E := Zfi) (Zad ZlF) (dr := dr0) (lps := Zap ZlG) (Zal (by kernel_rfl)) (fun a => by kernel_rfl) env h k z hk
def Zd4 (x1 : Int) (h0 : Bool × Bool × LB × Unit) : Option (Unit × ((Bool × Bool × LB × Unit) × Unit × Unit × Unit)) :=
 (bif (decide ((x1 : Int) < 0)) then
 some ((), ((h0.1, true, h0.2.2.1, ()), (), (), ()))
 else
 (bif (decide ((4611686018427387903 : Int) < x1)) then
 some ((), ((h0.1, true, h0.2.2.1, ()), (), (), ()))
 else
 (Zas ZdM (((), x1, ()), (h0, (), ()))).bind fun b1 =>
 (b8 (IntKind.u8.wrap b1.1.2.1)).bind fun u2 =>
 (Zfh ([u2] : LB) b1.2.1).bind fun r3 =>
 some ((), (r3.2.1, (), (), ()))))
def ZhQ : CEp where
 f := 163
 args := [.one (.ptr 0 0), .one (.int .i64)]
 hs := [.obj 180 [.bool, .bool, .own 1 1], .row 5 1]
 res := .tup []
 outs := [.obj 180 [.bool, .bool, .own 1 2], .dead, .row 5 1]
 m := fun d dh => Zd4 d.2.1 dh.1
 ok := ZaO Zar Tryz.func163 (by kernel_rfl) (Zad ZlF) (dr := dr0) (lps := Zap ZlG) (Zau (ZaI (n := 1) (by kernel_rfl) fun i hi => match i, hi with | 0, _ => Za4 (E := Zfi) (by kernel_rfl) Zoi)) (fun d dh => by kernel_rfl)
def Zkb : List (CEp) := [Zb7, ZhQ]
def Zc6 (a : (Unit × LI × Int × Int × Unit) × ((Bool × Bool × LB × Unit) × Unit × Unit)) : Option (((Unit × LI × Int × Int × Unit) × ((Bool × Bool × LB × Unit) × Unit × Unit)) ⊕ (((Unit × Unit) × ((Bool × Bool × LB × Unit) × Unit × Unit × Unit)))) :=
 (bif (decide ((a.1.2.2.2.1 : Int) < a.1.2.2.1)) then
 (Zbs a.1.2.1 a.1.2.2.2.1).bind fun e1 =>
 (Zd4 e1 a.2.1).bind fun r2 =>
 some (.inl (((), a.1.2.1, a.1.2.2.1, (IntKind.i64.wrap (a.1.2.2.2.1 + 1)), ()), (r2.2.1, (), ())))
 else
 some (.inr (((), ()), (a.2.1, (), (), ()))))
def ZeE : LEp := ⟨3, [0, 9, 10, 11], [.one (.ptr 0 0), .one (.sl 0), .one (.int .i64), .one (.int .i64)], [.obj 180 [.bool, .bool, .own 1 1], .row 5 1], [⟨.exit 0, [0], [.one (.ptr 0 0)], [.obj 180 [.bool, .bool, .own 1 2], .dead, .row 5 1]⟩], Zc6⟩
def Zkc : List (LEp) := [ZeE]
theorem Zm8 : ZdE ZeE (ZcN (ZaD Tryz.f89) 0) := fun A env h k z hk => Za3 (E := ZeE) (Zad Zkb) (dr := dr0) (lps := Zap Zkc) (Zal (by kernel_rfl)) (fun a => by kernel_rfl) env h k z hk
def ZcB (x1 : LI) (h0 : Bool × Bool × LB × Unit) : Option (Unit × ((Bool × Bool × LB × Unit) × Unit × Unit × Unit)) :=
 (Zds h0).bind fun r1 =>
 (bif r1.1 then
 (Zas Zc6 (((), x1, (x1.length : Int), 0, ()), (r1.2.1, (), ()))).bind fun b2 =>
 some ((), (b2.2.1, (), (), ()))
 else
 some ((), (r1.2.1, (), (), ())))
def ZgR : CEp where
 f := 89
 args := [.one (.ptr 0 0), .one (.sl 0)]
 hs := [.obj 180 [.bool, .bool, .own 1 1], .row 5 1]
 res := .val (.one (.ptr 0 0))
 outs := [.obj 180 [.bool, .bool, .own 1 2], .dead, .row 5 1]
 m := fun d dh => ZcB d.2.1 dh.1
 ok := ZaO Zar Tryz.func89 (by kernel_rfl) (Zad Zkb) (dr := dr0) (lps := Zap Zkc) (Zau (ZaI (n := 1) (by kernel_rfl) fun i hi => match i, hi with | 0, _ => Za4 (E := ZeE) (by kernel_rfl) Zm8)) (fun d dh => by kernel_rfl)
def Zpc : List (CEp) := [Zb7, ZhQ, Zi7]
def Zhq (a : (Unit × (List LB) × Int × Int × Unit) × ((Bool × Bool × LB × Unit) × Unit × Unit)) : Option (((Unit × (List LB) × Int × Int × Unit) × ((Bool × Bool × LB × Unit) × Unit × Unit)) ⊕ (((Unit × Unit) × ((Bool × Bool × LB × Unit) × Unit × Unit × Unit)))) :=
 (bif (decide ((a.1.2.2.2.1 : Int) < a.1.2.2.1)) then
 (Zbs a.1.2.1 a.1.2.2.2.1).bind fun e1 =>
 (Zd4 (e1.length : Int) a.2.1).bind fun r2 =>
 (Zfh e1 r2.2.1).bind fun r3 =>
 some (.inl (((), a.1.2.1, a.1.2.2.1, (IntKind.i64.wrap (a.1.2.2.2.1 + 1)), ()), (r3.2.1, (), ())))
 else
 some (.inr (((), ()), (a.2.1, (), (), ()))))
def Zhr : LEp := ⟨3, [0, 9, 10, 11], [.one (.ptr 0 0), .one (.sl 22), .one (.int .i64), .one (.int .i64)], [.obj 180 [.bool, .bool, .own 1 1], .row 5 1], [⟨.exit 0, [0], [.one (.ptr 0 0)], [.obj 180 [.bool, .bool, .own 1 2], .dead, .row 5 1]⟩], Zhq⟩
def Zpd : List (LEp) := [Zhr]
theorem ZrW : ZdE Zhr (ZcN (ZaD Tryz.f188) 0) := fun A env h k z hk => Za3 (E := Zhr) (Zad Zpc) (dr := dr0) (lps := Zap Zpd) (Zal (by kernel_rfl)) (fun a => by kernel_rfl) env h k z hk
def Zkd (x1 : List LB) (h0 : Bool × Bool × LB × Unit) : Option (Unit × ((Bool × Bool × LB × Unit) × Unit × Unit × Unit)) :=
 (Zds h0).bind fun r1 =>
 (bif r1.1 then
 (Zas Zhq (((), x1, (x1.length : Int), 0, ()), (r1.2.1, (), ()))).bind fun b2 =>
 some ((), (b2.2.1, (), (), ()))
 else
 some ((), (r1.2.1, (), (), ())))
def Zpe : CEp where
 f := 188
 args := [.one (.ptr 0 0), .one (.sl 22)]
 hs := [.obj 180 [.bool, .bool, .own 1 1], .row 5 1]
 res := .val (.one (.ptr 0 0))
 outs := [.obj 180 [.bool, .bool, .own 1 2], .dead, .row 5 1]
 m := fun d dh => Zkd d.2.1 dh.1
 ok := ZaO Zar Tryz.func188 (by kernel_rfl) (Zad Zpc) (dr := dr0) (lps := Zap Zpd) (Zau (ZaI (n := 1) (by kernel_rfl) fun i hi => match i, hi with | 0, _ => Za4 (E := Zhr) (by kernel_rfl) ZrW)) (fun d dh => by kernel_rfl)
def Zm9 : List (CEp) := [Zb7, Zpe]
def ZcI (a : (Unit × (List (List UInt8)) × Int × Int × Unit) × ((Bool × Bool × LB × Unit) × Unit × Unit)) : Option (((Unit × (List (List UInt8)) × Int × Int × Unit) × ((Bool × Bool × LB × Unit) × Unit × Unit)) ⊕ (((Unit × Unit) × ((Bool × Bool × LB × Unit) × Unit × Unit × Unit)))) :=
 (bif (decide ((a.1.2.2.2.1 : Int) < a.1.2.2.1)) then
 (Zbs a.1.2.1 a.1.2.2.2.1).bind fun e1 =>
 (if e1.length <= 140737488355328 then
 (Zkd ([e1] : List LB) a.2.1).bind fun r2 =>
 some (.inl (((), a.1.2.1, a.1.2.2.1, (IntKind.i64.wrap (a.1.2.2.2.1 + 1)), ()), (r2.2.1, (), ())))
 else none)
 else
 some (.inr (((), ()), (a.2.1, (), (), ()))))
def Zgj : LEp := ⟨3, [0, 9, 10, 11], [.one (.ptr 0 0), .one (.sl 2), .one (.int .i64), .one (.int .i64)], [.obj 180 [.bool, .bool, .own 1 1], .row 5 1], [⟨.exit 0, [0], [.one (.ptr 0 0)], [.obj 180 [.bool, .bool, .own 1 2], .dead, .row 5 1]⟩], ZcI⟩
def Zna : List (LEp) := [Zgj]
theorem ZpU : ZdE Zgj (ZcN (ZaD Tryz.f105) 0) := fun A env h k z hk => Za3 (E := Zgj) (Zad Zm9) (dr := dr0) (lps := Zap Zna) (Zal (by kernel_rfl)) (fun a => by kernel_rfl) env h k z hk
def Ze7 (x1 : List (List UInt8)) (h0 : Bool × Bool × LB × Unit) : Option (Unit × ((Bool × Bool × LB × Unit) × Unit × Unit × Unit)) :=
 (Zds h0).bind fun r1 =>
 (bif r1.1 then
 (Zas ZcI (((), x1, (x1.length : Int), 0, ()), (r1.2.1, (), ()))).bind fun b2 =>
 some ((), (b2.2.1, (), (), ()))
 else
 some ((), (r1.2.1, (), (), ())))
def Znb : CEp where
 f := 105
 args := [.one (.ptr 0 0), .one (.sl 2)]
 hs := [.obj 180 [.bool, .bool, .own 1 1], .row 5 1]
 res := .val (.one (.ptr 0 0))
 outs := [.obj 180 [.bool, .bool, .own 1 2], .dead, .row 5 1]
 m := fun d dh => Ze7 d.2.1 dh.1
 ok := ZaO Zar Tryz.func105 (by kernel_rfl) (Zad Zm9) (dr := dr0) (lps := Zap Zna) (Zau (ZaI (n := 1) (by kernel_rfl) fun i hi => match i, hi with | 0, _ => Za4 (E := Zgj) (by kernel_rfl) ZpU)) (fun d dh => by kernel_rfl)
def Zim : List (CEp) := [Zb7, ZhQ]
def Zcu (a : (Unit × (Nat × Nat × Nat) × Int × Int × Unit) × ((Bool × Bool × LB × Unit) × LI × Unit × Unit)) : Option (((Unit × (Nat × Nat × Nat) × Int × Int × Unit) × ((Bool × Bool × LB × Unit) × LI × Unit × Unit)) ⊕ (((Unit × Unit) × ((Bool × Bool × LB × Unit) × LI × Unit × Unit × Unit)))) :=
 (bif (decide ((a.1.2.2.2.1 : Int) < a.1.2.2.1)) then
 (if 0 <= (a.1.2.2.2.1 : Int) /\ (a.1.2.2.2.1 : Int) < ((a.1.2.1.2.1 : Nat) : Int) then
 (a.2.2.1[(a.1.2.1.1 + (a.1.2.2.2.1 : Int).toNat)]?).bind fun e1 =>
 (Zd4 e1 a.2.1).bind fun r2 =>
 some (.inl (((), (a.1.2.1.1, a.1.2.1.2.1, a.1.2.1.2.2), a.1.2.2.1, (IntKind.i64.wrap (a.1.2.2.2.1 + 1)), ()), (r2.2.1, a.2.2.1, (), ())))
 else none)
 else
 some (.inr (((), ()), (a.2.1, a.2.2.1, (), (), ()))))
def Zdt : LEp := ⟨3, [0, 9, 10, 11], [.one (.ptr 0 0), .one (.as 0 1), .one (.int .i64), .one (.int .i64)], [.obj 180 [.bool, .bool, .own 1 2], .arr 3 0 true, .row 5 1], [⟨.exit 0, [0], [.one (.ptr 0 0)], [.obj 180 [.bool, .bool, .own 1 3], .arr 3 0 true, .dead, .row 5 1]⟩], Zcu⟩
def Zin : List (LEp) := [Zdt]
theorem Zlj : ZdE Zdt (ZcN (ZaD Tryz.f89) 0) := fun A env h k z hk => Za3 (E := Zdt) (Zad Zim) (dr := dr0) (lps := Zap Zin) (Zal (by kernel_rfl)) (fun a => by kernel_rfl) env h k z hk
def ZbI (x1 : Nat × Nat × Nat) (h0 : Bool × Bool × LB × Unit) (h1 : LI) : Option (Unit × ((Bool × Bool × LB × Unit) × LI × Unit × Unit × Unit)) :=
 (Zds h0).bind fun r1 =>
 (bif r1.1 then
 (Zas Zcu (((), (x1.1, x1.2.1, x1.2.2), ((x1.2.1 : Nat) : Int), 0, ()), (r1.2.1, h1, (), ()))).bind fun b2 =>
 some ((), (b2.2.1, b2.2.2.1, (), (), ()))
 else
 some ((), (r1.2.1, h1, (), (), ())))
def Zdu : CEp where
 f := 89
 args := [.one (.ptr 0 0), .one (.as 0 1)]
 hs := [.obj 180 [.bool, .bool, .own 1 2], .arr 3 0 true, .row 5 1]
 res := .val (.one (.ptr 0 0))
 outs := [.obj 180 [.bool, .bool, .own 1 3], .arr 3 0 true, .dead, .row 5 1]
 m := fun d dh => ZbI d.2.1 dh.1 dh.2.1
 ok := ZaO Zar Tryz.func89 (by kernel_rfl) (Zad Zim) (dr := dr0) (lps := Zap Zin) (Zau (ZaI (n := 1) (by kernel_rfl) fun i hi => match i, hi with | 0, _ => Za4 (E := Zdt) (by kernel_rfl) Zlj)) (fun d dh => by kernel_rfl)
def Znc : List (CEp) := [Zb7, Zi7]
def Zgk (a : (Unit × (List Bool) × Int × Int × Unit) × ((Bool × Bool × LB × Unit) × Unit × Unit)) : Option (((Unit × (List Bool) × Int × Int × Unit) × ((Bool × Bool × LB × Unit) × Unit × Unit)) ⊕ (((Unit × Unit) × ((Bool × Bool × LB × Unit) × Unit × Unit × Unit)))) :=
 (bif (decide ((a.1.2.2.2.1 : Int) < a.1.2.2.1)) then
 (Zbs a.1.2.1 a.1.2.2.2.1).bind fun e1 =>
 (bif e1 then
 (b8 1).bind fun u2 =>
 (Zfh ([u2] : LB) a.2.1).bind fun r3 =>
 some (.inl (((), a.1.2.1, a.1.2.2.1, (IntKind.i64.wrap (a.1.2.2.2.1 + 1)), ()), (r3.2.1, (), ())))
 else
 (b8 0).bind fun u4 =>
 (Zfh ([u4] : LB) a.2.1).bind fun r5 =>
 some (.inl (((), a.1.2.1, a.1.2.2.1, (IntKind.i64.wrap (a.1.2.2.2.1 + 1)), ()), (r5.2.1, (), ()))))
 else
 some (.inr (((), ()), (a.2.1, (), (), ()))))
def Zgl : LEp := ⟨3, [0, 9, 10, 11], [.one (.ptr 0 0), .one (.sl 14), .one (.int .i64), .one (.int .i64)], [.obj 180 [.bool, .bool, .own 1 1], .row 5 1], [⟨.exit 0, [0], [.one (.ptr 0 0)], [.obj 180 [.bool, .bool, .own 1 2], .dead, .row 5 1]⟩], Zgk⟩
def Znd : List (LEp) := [Zgl]
theorem ZpV : ZdE Zgl (ZcN (ZaD Tryz.f106) 0) := fun A env h k z hk => Za3 (E := Zgl) (Zad Znc) (dr := dr0) (lps := Zap Znd) (Zal (by kernel_rfl)) (fun a => by kernel_rfl) env h k z hk
def ZkZ (x1 : List Bool) (h0 : Bool × Bool × LB × Unit) : Option (Unit × ((Bool × Bool × LB × Unit) × Unit × Unit × Unit)) :=
 (Zds h0).bind fun r1 =>
 (bif r1.1 then
 (Zas Zgk (((), x1, (x1.length : Int), 0, ()), (r1.2.1, (), ()))).bind fun b2 =>
 some ((), (b2.2.1, (), (), ()))
 else
 some ((), (r1.2.1, (), (), ())))
def ZuQ : CEp where
 f := 106
 args := [.one (.ptr 0 0), .one (.sl 14)]
 hs := [.obj 180 [.bool, .bool, .own 1 1], .row 5 1]
 res := .val (.one (.ptr 0 0))
 outs := [.obj 180 [.bool, .bool, .own 1 2], .dead, .row 5 1]
 m := fun d dh => ZkZ d.2.1 dh.1
 ok := ZaO Zar Tryz.func106 (by kernel_rfl) (Zad Znc) (dr := dr0) (lps := Zap Znd) (Zau (ZaI (n := 1) (by kernel_rfl) fun i hi => match i, hi with | 0, _ => Za4 (E := Zgl) (by kernel_rfl) ZpV)) (fun d dh => by kernel_rfl)
def Zke : List (CEp) := [Zb7, Zpe]
def ZbQ (a : (Unit × (Nat × Nat × Nat) × Int × Int × Unit) × ((Bool × Bool × LB × Unit) × (List (List UInt8)) × Unit × Unit)) : Option (((Unit × (Nat × Nat × Nat) × Int × Int × Unit) × ((Bool × Bool × LB × Unit) × (List (List UInt8)) × Unit × Unit)) ⊕ (((Unit × Unit) × ((Bool × Bool × LB × Unit) × (List (List UInt8)) × Unit × Unit × Unit)))) :=
 (bif (decide ((a.1.2.2.2.1 : Int) < a.1.2.2.1)) then
 (if 0 <= (a.1.2.2.2.1 : Int) /\ (a.1.2.2.2.1 : Int) < ((a.1.2.1.2.1 : Nat) : Int) then
 (a.2.2.1[(a.1.2.1.1 + (a.1.2.2.2.1 : Int).toNat)]?).bind fun e1 =>
 (if e1.length <= 140737488355328 then
 (Zkd ([e1] : List LB) a.2.1).bind fun r2 =>
 some (.inl (((), (a.1.2.1.1, a.1.2.1.2.1, a.1.2.1.2.2), a.1.2.2.1, (IntKind.i64.wrap (a.1.2.2.2.1 + 1)), ()), (r2.2.1, a.2.2.1, (), ())))
 else none)
 else none)
 else
 some (.inr (((), ()), (a.2.1, a.2.2.1, (), (), ()))))
def ZeF : LEp := ⟨3, [0, 9, 10, 11], [.one (.ptr 0 0), .one (.as 2 1), .one (.int .i64), .one (.int .i64)], [.obj 180 [.bool, .bool, .own 1 2], .arr 9 2 true, .row 5 1], [⟨.exit 0, [0], [.one (.ptr 0 0)], [.obj 180 [.bool, .bool, .own 1 3], .arr 9 2 true, .dead, .row 5 1]⟩], ZbQ⟩
def Zkf : List (LEp) := [ZeF]
theorem Zne : ZdE ZeF (ZcN (ZaD Tryz.f105) 0) := fun A env h k z hk => Za3 (E := ZeF) (Zad Zke) (dr := dr0) (lps := Zap Zkf) (Zal (by kernel_rfl)) (fun a => by kernel_rfl) env h k z hk
def Zc7 (x1 : Nat × Nat × Nat) (h0 : Bool × Bool × LB × Unit) (h1 : List (List UInt8)) : Option (Unit × ((Bool × Bool × LB × Unit) × (List (List UInt8)) × Unit × Unit × Unit)) :=
 (Zds h0).bind fun r1 =>
 (bif r1.1 then
 (Zas ZbQ (((), (x1.1, x1.2.1, x1.2.2), ((x1.2.1 : Nat) : Int), 0, ()), (r1.2.1, h1, (), ()))).bind fun b2 =>
 some ((), (b2.2.1, b2.2.2.1, (), (), ()))
 else
 some ((), (r1.2.1, h1, (), (), ())))
def Zkg : CEp where
 f := 105
 args := [.one (.ptr 0 0), .one (.as 2 1)]
 hs := [.obj 180 [.bool, .bool, .own 1 2], .arr 9 2 true, .row 5 1]
 res := .val (.one (.ptr 0 0))
 outs := [.obj 180 [.bool, .bool, .own 1 3], .arr 9 2 true, .dead, .row 5 1]
 m := fun d dh => Zc7 d.2.1 dh.1 dh.2.1
 ok := ZaO Zar Tryz.func105 (by kernel_rfl) (Zad Zke) (dr := dr0) (lps := Zap Zkf) (Zau (ZaI (n := 1) (by kernel_rfl) fun i hi => match i, hi with | 0, _ => Za4 (E := ZeF) (by kernel_rfl) Zne)) (fun d dh => by kernel_rfl)
def ZrX : Nat -> Nat -> DrA
 | 1, _ => ⟨[0, 1, 5, 6, 8, 9, 13, 15, 17, 19, 21, 2, 7, 10, 14, 16, 18, 20, 22, 23, 3, 4, 11, 12, 24, 25, 26], [[], [], [1], [1, 2], [0, 1, 2, 3], [], [5], [5, 6], [], [8], [8, 9], [5, 6, 7, 8, 9, 10], (List.range 12), [], [13], [], [15], [], [17], [], [19], [], [21], [21, 22], [13, 14, 15, 16, 17, 18, 19, 20, 21, 22, 23], (List.range 25), (List.range 26)], [7, 10, 14, 16, 18, 20, 22], [4, 12], [2], false, [11, 24]⟩
 | _, _ => ⟨[], [], [], [], [], false, []⟩
def ZrY : List (CEp) := [ZgR, Zkg, Zdu]
def Zhs (x1 : Zak) (h0 : Bool × Bool × LB × Unit) : Option (Unit × ((Bool × Bool × LB × Unit) × Unit × Unit × Unit)) :=
 (ZcB ([x1.num] : LI) h0).bind fun r1 =>
 (Zc7 (0, 2, 2) r1.2.1 ([x1.span.lo, x1.span.hi] : List (List UInt8))).bind fun r2 =>
 (ZbI (0, 5, 5) r2.2.1 ([x1.from_, x1.to_, x1.epoch, x1.under, (IntKind.i64.wrap x1.stage)] : LI)).bind fun r3 =>
 some ((), (r3.2.1, (), (), ()))
def ZrZ : CEp where
 f := 107
 args := [.one (.ptr 0 0), .cod 19]
 hs := [.obj 180 [.bool, .bool, .own 1 1], .row 5 1]
 res := .val (.one (.ptr 0 0))
 outs := [.obj 180 [.bool, .bool, .own 1 2], .dead, .row 5 1]
 m := fun d dh => Zhs d.2.1 dh.1
 ok := ZaO Zar Tryz.func107 (by kernel_rfl) (Zad ZrY) (dr := ZrX) (lps := Zap lt0) (Zau (Zal (by kernel_rfl))) (fun d dh => by kernel_rfl)
def Zio : Nat -> Nat -> DrA
 | 5, _ => ⟨[0, 1, 2, 4, 5, 9, 11, 3, 6, 10, 12, 7, 8, 13, 14], [[], [], [1], [1, 2], [], [4], [4, 5], [1, 2, 3, 4, 5, 6], (List.range 8), [], [9], [], [11], [9, 10, 11, 12], (List.range 14)], [10, 12], [8], [3], false, [13]⟩
 | _, _ => ⟨[], [], [], [], [], false, []⟩
def Zip : List (CEp) := [ZgR, Znb, Zdu, ZuQ, ZrZ]
def ZbJ (a : (Unit × Unit × (List (Zaf)) × Int × Int × Unit) × ((Bool × Bool × LB × Unit) × (ZjH) × Unit × Unit)) : Option (((Unit × Unit × (List (Zaf)) × Int × Int × Unit) × ((Bool × Bool × LB × Unit) × (ZjH) × Unit × Unit)) ⊕ (((Unit × Unit × Unit) × ((Bool × Bool × LB × Unit) × (ZjH) × Unit × Unit × Unit)))) :=
 (bif (decide ((a.1.2.2.2.2.1 : Int) < a.1.2.2.2.1)) then
 (Zbs a.1.2.2.1 a.1.2.2.2.2.1).bind fun e1 =>
 (Ze7 ([e1.span.lo, e1.span.hi] : List (List UInt8)) a.2.1).bind fun r2 =>
 (ZbI (0, 2, 2) r2.2.1 ([e1.group, e1.epoch] : LI)).bind fun r3 =>
 some (.inl (((), (), a.1.2.2.1, a.1.2.2.2.1, (IntKind.i64.wrap (a.1.2.2.2.2.1 + 1)), ()), (r3.2.1, a.2.2.1, (), ())))
 else
 some (.inr (((), (), ()), (a.2.1, a.2.2.1, (), (), ()))))
def Zdv : LEp := ⟨3, [1, 2, 19, 20, 21], [.one (.ptr 0 0), .one (.ptr 1 0), .one (.sl 5), .one (.int .i64), .one (.int .i64)], [.obj 180 [.bool, .bool, .own 1 2], .cobj 107 20, .row 5 1], [⟨.exit 0, [1, 2], [.one (.ptr 0 0), .one (.ptr 1 0)], [.obj 180 [.bool, .bool, .own 1 3], .cobj 107 20, .dead, .row 5 1]⟩], ZbJ⟩
def Ziq : List (LEp) := [Zdv]
theorem Zlk : ZdE Zdv (ZcN (ZaD Tryz.f56) 0) := fun A env h k z hk => Za3 (E := Zdv) (Zad Zip) (dr := Zio) (lps := Zap Ziq) (Zal (by kernel_rfl)) (fun a => by kernel_rfl) env h k z hk
def ZdN (x0 : ZjH) (h0 : Bool × Bool × LB × Unit) : Option (Unit × ((Bool × Bool × LB × Unit) × Unit × Unit × Unit)) :=
 (ZcB ([x0.shares.epoch, (x0.shares.list.length : Int)] : LI) h0).bind fun r1 =>
 (Zas ZbJ (((), (), x0.shares.list, (x0.shares.list.length : Int), 0, ()), (r1.2.1, x0, (), ()))).bind fun b2 =>
 (ZkZ ([b2.2.2.1.under] : List Bool) b2.2.1).bind fun r3 =>
 (bif b2.2.2.1.under then
 (Zhs b2.2.2.1.x r3.2.1).bind fun r4 =>
 some ((), (r4.2.1, (), (), ()))
 else
 some ((), (r3.2.1, (), (), ())))
def Zir : CEp where
 f := 56
 args := [.cod 20, .one (.ptr 0 0)]
 hs := [.obj 180 [.bool, .bool, .own 1 1], .row 5 1]
 res := .val (.one (.ptr 0 0))
 outs := [.obj 180 [.bool, .bool, .own 1 2], .dead, .row 5 1]
 m := fun d dh => ZdN d.1 dh.1
 ok := ZaO Zar Tryz.func56 (by kernel_rfl) (Zad Zip) (dr := Zio) (lps := Zap Ziq) (Zau (ZaI (n := 1) (by kernel_rfl) fun i hi => match i, hi with | 0, _ => Za4 (E := Zdv) (by kernel_rfl) Zlk)) (fun d dh => by kernel_rfl)
def Zkh : List (CEp) := [Zb7, Zi7]
def ZeG (a : (Unit × (Nat × Nat × Nat) × Int × Int × Unit) × ((Bool × Bool × LB × Unit) × (List Bool) × Unit × Unit)) : Option (((Unit × (Nat × Nat × Nat) × Int × Int × Unit) × ((Bool × Bool × LB × Unit) × (List Bool) × Unit × Unit)) ⊕ (((Unit × Unit) × ((Bool × Bool × LB × Unit) × (List Bool) × Unit × Unit × Unit)))) :=
 (bif (decide ((a.1.2.2.2.1 : Int) < a.1.2.2.1)) then
 (if 0 <= (a.1.2.2.2.1 : Int) /\ (a.1.2.2.2.1 : Int) < ((a.1.2.1.2.1 : Nat) : Int) then
 (a.2.2.1[(a.1.2.1.1 + (a.1.2.2.2.1 : Int).toNat)]?).bind fun e1 =>
 (bif e1 then
 (b8 1).bind fun u2 =>
 (Zfh ([u2] : LB) a.2.1).bind fun r3 =>
 some (.inl (((), (a.1.2.1.1, a.1.2.1.2.1, a.1.2.1.2.2), a.1.2.2.1, (IntKind.i64.wrap (a.1.2.2.2.1 + 1)), ()), (r3.2.1, a.2.2.1, (), ())))
 else
 (b8 0).bind fun u4 =>
 (Zfh ([u4] : LB) a.2.1).bind fun r5 =>
 some (.inl (((), (a.1.2.1.1, a.1.2.1.2.1, a.1.2.1.2.2), a.1.2.2.1, (IntKind.i64.wrap (a.1.2.2.2.1 + 1)), ()), (r5.2.1, a.2.2.1, (), ()))))
 else none)
 else
 some (.inr (((), ()), (a.2.1, a.2.2.1, (), (), ()))))
def ZeH : LEp := ⟨3, [0, 9, 10, 11], [.one (.ptr 0 0), .one (.as 14 1), .one (.int .i64), .one (.int .i64)], [.obj 180 [.bool, .bool, .own 1 2], .arr 4 14 true, .row 5 1], [⟨.exit 0, [0], [.one (.ptr 0 0)], [.obj 180 [.bool, .bool, .own 1 3], .arr 4 14 true, .dead, .row 5 1]⟩], ZeG⟩
def Zki : List (LEp) := [ZeH]
theorem Znf : ZdE ZeH (ZcN (ZaD Tryz.f106) 0) := fun A env h k z hk => Za3 (E := ZeH) (Zad Zkh) (dr := dr0) (lps := Zap Zki) (Zal (by kernel_rfl)) (fun a => by kernel_rfl) env h k z hk
def ZfP (x1 : Nat × Nat × Nat) (h0 : Bool × Bool × LB × Unit) (h1 : List Bool) : Option (Unit × ((Bool × Bool × LB × Unit) × (List Bool) × Unit × Unit × Unit)) :=
 (Zds h0).bind fun r1 =>
 (bif r1.1 then
 (Zas ZeG (((), (x1.1, x1.2.1, x1.2.2), ((x1.2.1 : Nat) : Int), 0, ()), (r1.2.1, h1, (), ()))).bind fun b2 =>
 some ((), (b2.2.1, b2.2.2.1, (), (), ()))
 else
 some ((), (r1.2.1, h1, (), (), ())))
def Zr0 : CEp where
 f := 106
 args := [.one (.ptr 0 0), .one (.as 14 1)]
 hs := [.obj 180 [.bool, .bool, .own 1 2], .arr 4 14 true, .row 5 1]
 res := .val (.one (.ptr 0 0))
 outs := [.obj 180 [.bool, .bool, .own 1 3], .arr 4 14 true, .dead, .row 5 1]
 m := fun d dh => ZfP d.2.1 dh.1 dh.2.1
 ok := ZaO Zar Tryz.func106 (by kernel_rfl) (Zad Zkh) (dr := dr0) (lps := Zap Zki) (Zau (ZaI (n := 1) (by kernel_rfl) fun i hi => match i, hi with | 0, _ => Za4 (E := ZeH) (by kernel_rfl) Znf)) (fun d dh => by kernel_rfl)
def ZgS : Nat -> Nat -> DrA
 | 7, _ => ⟨[0, 1, 2, 4, 5, 7, 11, 15, 3, 6, 8, 12, 16, 17, 9, 10, 13, 14, 18, 19], [[], [], [1], [1, 2], [], [4], [4, 5], [], [7], [1, 2, 3, 4, 5, 6, 7, 8], (List.range 10), [], [11], [11, 12], (List.range 14), [], [15], [15, 16], [15, 16, 17], (List.range 19)], [12, 16], [10, 14], [2], false, [13, 18]⟩
 | 11, _ => ⟨[0, 1, 5, 9, 2, 6, 10, 3, 4, 7, 8, 11, 12], [[], [], [1], [1, 2], [0, 1, 2, 3], [], [5], [5, 6], (List.range 8), [], [9], [9, 10], (List.range 12)], [6, 10], [4, 8], [2], false, [7, 11]⟩
 | _, _ => ⟨[], [], [], [], [], false, []⟩
def ZgT : List (CEp) := [ZeA, ZgR, Zr0, Zdu, Znb, Zkg]
def Zcv (a : (Unit × (List (Zac)) × Int × Int × (List (ZaZ)) × Int × Int × Unit) × ((Bool × Bool × LB × Unit) × Unit × Unit)) : Option (((Unit × (List (Zac)) × Int × Int × (List (ZaZ)) × Int × Int × Unit) × ((Bool × Bool × LB × Unit) × Unit × Unit)) ⊕ (((Unit × (List (Zac)) × Int × Int × Unit) × ((Bool × Bool × LB × Unit) × Unit × Unit × Unit)))) :=
 (bif (decide ((a.1.2.2.2.2.2.2.1 : Int) < a.1.2.2.2.2.2.1)) then
 (Zbs a.1.2.2.2.2.1 a.1.2.2.2.2.2.2.1).bind fun e1 =>
 (Ze7 ([e1.key] : List (List UInt8)) a.2.1).bind fun r2 =>
 (ZfP (0, 1, 1) r2.2.1 ([e1.is] : List Bool)).bind fun r3 =>
 (Zc7 (0, 1, 1) r3.2.1 ([e1.value] : List (List UInt8))).bind fun r4 =>
 some (.inl (((), a.1.2.1, a.1.2.2.1, a.1.2.2.2.1, a.1.2.2.2.2.1, a.1.2.2.2.2.2.1, (IntKind.i64.wrap (a.1.2.2.2.2.2.2.1 + 1)), ()), (r4.2.1, (), ())))
 else
 some (.inr (((), a.1.2.1, a.1.2.2.1, a.1.2.2.2.1, ()), (a.2.1, (), (), ()))))
def ZeI : LEp := ⟨9, [1, 26, 27, 28, 53, 54, 55], [.one (.ptr 0 0), .one (.sl 17), .one (.int .i64), .one (.int .i64), .one (.sl 15), .one (.int .i64), .one (.int .i64)], [.obj 180 [.bool, .bool, .own 1 1], .row 5 1], [⟨.exit 2, [1, 26, 27, 28], [.one (.ptr 0 0), .one (.sl 17), .one (.int .i64), .one (.int .i64)], [.obj 180 [.bool, .bool, .own 1 2], .dead, .row 5 1]⟩], Zcv⟩
def Zcw (a : (Unit × (List (Zac)) × Int × Int × Unit) × ((Bool × Bool × LB × Unit) × Unit × Unit)) : Option (((Unit × (List (Zac)) × Int × Int × Unit) × ((Bool × Bool × LB × Unit) × Unit × Unit)) ⊕ (((Unit × Unit) × ((Bool × Bool × LB × Unit) × Unit × Unit × Unit)))) :=
 (bif (decide ((a.1.2.2.2.1 : Int) < a.1.2.2.1)) then
 (Zbs a.1.2.1 a.1.2.2.2.1).bind fun e1 =>
 (ZcB ([e1.name.client, e1.name.num, e1.at_] : LI) a.2.1).bind fun r2 =>
 (ZfP (0, 1, 1) r2.2.1 ([e1.commit] : List Bool)).bind fun r3 =>
 (ZbI (0, 1, 1) r3.2.1 ([(e1.reads.length : Int)] : LI)).bind fun r4 =>
 (Zas Zcv (((), a.1.2.1, a.1.2.2.1, a.1.2.2.2.1, e1.reads, (e1.reads.length : Int), 0, ()), (r4.2.1, (), ()))).bind fun b5 =>
 some (.inl (((), b5.1.2.1, b5.1.2.2.1, (IntKind.i64.wrap (b5.1.2.2.2.1 + 1)), ()), (b5.2.1, (), ())))
 else
 some (.inr (((), ()), (a.2.1, (), (), ()))))
def ZeJ : LEp := ⟨5, [1, 26, 27, 28], [.one (.ptr 0 0), .one (.sl 17), .one (.int .i64), .one (.int .i64)], [.obj 180 [.bool, .bool, .own 1 1], .row 5 1], [⟨.exit 0, [1], [.one (.ptr 0 0)], [.obj 180 [.bool, .bool, .own 1 2], .dead, .row 5 1]⟩], Zcw⟩
def ZgU : List (LEp) := [ZeI, ZeJ]
theorem Zng : ZdE ZeI (ZcN (ZcN (ZaD Tryz.f88) 0) 0) := fun A env h k z hk => Za3 (E := ZeI) (Zad ZgT) (dr := ZgS) (lps := Zap ZgU) (Zal (by kernel_rfl)) (fun a => by kernel_rfl) env h k z hk
theorem Znh : ZdE ZeJ (ZcN (ZaD Tryz.f88) 0) := fun A env h k z hk => Za3 (E := ZeJ) (Zad ZgT) (dr := ZgS) (lps := Zap ZgU) (ZaI (n := 1) (by kernel_rfl) fun i hi => match i, hi with | 0, _ => Za4 (E := ZeI) (by kernel_rfl) Zng) (fun a => by kernel_rfl) env h k z hk
def Zht (h0 : (List (Zac)) × Unit × Unit) (h1 : Bool × Bool × LB × Unit) (h2 : List ((Int × Int) × Int)) : Option (Unit × (((List (Zac)) × Unit × Unit) × (Bool × Bool × LB × Unit) × (List ((Int × Int) × Int)) × Unit × Unit × Unit × Unit × Unit)) :=
 (Zb1 h0 h2).bind fun r1 =>
 (bif (!r1.1) then
 some ((), (r1.2.1, h1, r1.2.2.1, (), (), (), (), ()))
 else
 (ZcB ([(r1.2.1.1.length : Int)] : LI) h1).bind fun r2 =>
 (Zas Zcw (((), r1.2.1.1, (r1.2.1.1.length : Int), 0, ()), (r2.2.1, (), ()))).bind fun b3 =>
 some ((), (r1.2.1, b3.2.1, r1.2.2.1, (), (), (), (), ())))
def Zr1 : CEp where
 f := 88
 args := [.one (.ptr 0 0), .one (.ptr 1 0)]
 hs := [.obj 197 [.own 17 3, .mo 2], .obj 180 [.bool, .bool, .own 1 4], .mmap (.two .i64 .i64) (.int .i64), .row 41 5, .row 5 1]
 res := .val (.one (.ptr 1 0))
 outs := [.obj 197 [.own 17 5, .mo 2], .obj 180 [.bool, .bool, .own 1 6], .mmap (.two .i64 .i64) (.int .i64), .dead, .dead, .row 41 5, .row 5 1]
 m := fun d dh => Zht dh.1 dh.2.1 dh.2.2.1
 ok := ZaO Zar Tryz.func88 (by kernel_rfl) (Zad ZgT) (dr := ZgS) (lps := Zap ZgU) (Zau (ZaI (n := 1) (by kernel_rfl) fun i hi => match i, hi with | 0, _ => Za4 (E := ZeJ) (by kernel_rfl) Znh)) (fun d dh => by kernel_rfl)
def Zoj : Nat -> Nat -> DrA
 | 3, _ => ⟨[0, 1, 2, 3, 5, 6, 7, 9, 11, 12, 13, 4, 8, 14, 10, 15, 16, 17, 18], [[], [0], [0, 1], [0, 1, 2], [0, 1, 2, 3], [], [5], [5, 6], [5, 6, 7], [], [5, 6, 7, 8, 9], [], [11], [11, 12], [11, 12, 13], [11, 12, 13, 14], [5, 6, 7, 8, 9, 10, 11, 12, 13, 14, 15], (List.range 17), (List.range 18)], [4, 14], [10, 16], [0], false, [15]⟩
 | _, _ => ⟨[], [], [], [], [], false, []⟩
def Zok : List (CEp) := [Za7, Zir, Zdu, Zr1]
def Zfj (h0 : Unit × Int × (List (Zaf)) × Bool × Int × (List UInt8) × (List UInt8) × Int × Int × Int × Int × Int × Int × Unit) (h1 : Bool × Bool × LB × Unit) (h2 : (List (Zac)) × Unit × Unit) (h3 : List ((Int × Int) × Int)) : Option (Unit × ((Unit × Int × (List (Zaf)) × Bool × Int × (List UInt8) × (List UInt8) × Int × Int × Int × Int × Int × Int × Unit) × (Bool × Bool × LB × Unit) × ((List (Zac)) × Unit × Unit) × (List ((Int × Int) × Int)) × Unit × Unit × Unit × Unit × Unit)) :=
 (Zbd h0 h2 h3).bind fun r1 =>
 (bif (!r1.1) then
 some ((), (r1.2.1, h1, r1.2.2.1, r1.2.2.2.1, (), (), (), (), ()))
 else
 (ZdN (⟨(⟨r1.2.1.2.1, r1.2.1.2.2.1⟩ : Zai), r1.2.1.2.2.2.1, (⟨r1.2.1.2.2.2.2.1, (⟨r1.2.1.2.2.2.2.2.1, r1.2.1.2.2.2.2.2.2.1⟩ : Zao), r1.2.1.2.2.2.2.2.2.2.1, r1.2.1.2.2.2.2.2.2.2.2.1, r1.2.1.2.2.2.2.2.2.2.2.2.1, r1.2.1.2.2.2.2.2.2.2.2.2.2.1, r1.2.1.2.2.2.2.2.2.2.2.2.2.2.1⟩ : Zak)⟩ : ZjH) h1).bind fun r2 =>
 (ZbI (0, 1, 1) r2.2.1 ([r1.2.1.2.2.2.2.2.2.2.2.2.2.2.2.1] : LI)).bind fun r3 =>
 (Zht r1.2.2.1 r3.2.1 r1.2.2.2.1).bind fun r4 =>
 some ((), (r1.2.1, r4.2.2.1, r4.2.1, r4.2.2.2.1, (), (), (), (), ())))
def Zol : CEp where
 f := 39
 args := [.one (.ptr 0 0), .one (.ptr 1 0)]
 hs := [.obj 110 [.ptr 2 0, .int .i64, .sl 5, .bool, .int .i64, .str, .str, .int .i64, .int .i64, .int .i64, .int .i64, .int .u8, .int .i64], .obj 180 [.bool, .bool, .own 1 4], .obj 197 [.own 17 5, .mo 3], .mmap (.two .i64 .i64) (.int .i64), .row 5 1, .row 41 5]
 res := .val (.one (.ptr 1 0))
 outs := [.obj 110 [.ptr 2 0, .int .i64, .sl 5, .bool, .int .i64, .str, .str, .int .i64, .int .i64, .int .i64, .int .i64, .int .u8, .int .i64], .obj 180 [.bool, .bool, .own 1 6], .obj 197 [.own 17 7, .mo 3], .mmap (.two .i64 .i64) (.int .i64), .dead, .dead, .row 5 1, .row 41 5]
 m := fun d dh => Zfj dh.1 dh.2.1 dh.2.2.1 dh.2.2.2.1
 ok := ZaO Zar Tryz.func39 (by kernel_rfl) (Zad Zok) (dr := Zoj) (lps := Zap lt0) (Zau (Zal (by kernel_rfl))) (fun d dh => by kernel_rfl)
def ZwD : List (CEp) := [Zb7, Zn7]
def Zkj (h0 : Bool × Bool × LB × Unit) : Option ((LB × Int × Unit) × ((Bool × Bool × LB × Unit) × Unit × Unit × Unit × Unit)) :=
 (Zds h0).bind fun r1 =>
 (bif (!r1.1) then
 some (([], 1, ()), (r1.2.1, (), (), (), ()))
 else
 (bif r1.2.1.2.1 then
 some (([], 2, ()), (r1.2.1, (), (), (), ()))
 else
 (ZiU r1.2.1.2.2.1).bind fun r2 =>
 some ((r2.1, 0, ()), (r1.2.1, (), (), (), ()))))
def Zpf : CEp where
 f := 41
 args := [.one (.ptr 0 0)]
 hs := [.obj 180 [.bool, .bool, .own 1 1], .row 5 1]
 res := .tup [.one (.own 1 2), .one (.int .i64)]
 outs := [.obj 180 [.bool, .bool, .own 1 3], .dead, .row 5 1, .row 5 1]
 m := fun d dh => Zkj dh.1
 ok := ceO Tryz.func41 (by kernel_rfl) ZwD (by kernel_rfl) fun d dh => by kernel_rfl
def Zis : List (CEp) := []
def Zcx (a : ((List Bool) × Bool × Int × Int × Unit) × Unit) : Option ((((List Bool) × Bool × Int × Int × Unit) × Unit) ⊕ (((Int × Unit) × Unit) ⊕ (Unit × Unit))) :=
 (bif (decide ((a.1.2.2.2.1 : Int) < a.1.2.2.1)) then
 (Zbs a.1.1 a.1.2.2.2.1).bind fun e1 =>
 (bif (decide (a.1.2.1 = e1)) then
 some (.inr (.inl ((a.1.2.2.2.1, ()), ())))
 else
 some (.inl ((a.1.1, a.1.2.1, a.1.2.2.1, (IntKind.i64.wrap (a.1.2.2.2.1 + 1)), ()), ())))
 else
 some (.inr (.inr ((), ()))))
def Zdw : LEp := ⟨2, [0, 1, 7, 8], [.one (.sl 14), .one (.bool), .one (.int .i64), .one (.int .i64)], [], [⟨.ret, [4], [.one (.int .i64)], []⟩, ⟨.exit 0, [], [], []⟩], Zcx⟩
def Zit : List (LEp) := [Zdw]
theorem Zll : ZdE Zdw (ZcN (ZaD Tryz.f186) 0) := fun A env h k z hk => Za3 (E := Zdw) (Zad Zis) (dr := dr0) (lps := Zap Zit) (Zal (by kernel_rfl)) (fun a => by kernel_rfl) env h k z hk
def ZhR (x0 : List Bool) (x1 : Bool) : Option (Int × Unit) :=
 (Zas Zcx ((x0, x1, (x0.length : Int), 0, ()), ())).bind fun b1 =>
 (match b1 with
 | .inl b2 =>
 some (b2.1.1, ())
 | .inr b3 =>
 some ((-1), ()))
def Zom : CEp where
 f := 186
 args := [.one (.sl 14), .one (.bool)]
 hs := []
 res := .val (.one (.int .i64))
 outs := []
 m := fun d dh => ZhR d.1 d.2.1
 ok := ZaO Zar Tryz.func186 (by kernel_rfl) (Zad Zis) (dr := dr0) (lps := Zap Zit) (Zau (ZaI (n := 1) (by kernel_rfl) fun i hi => match i, hi with | 0, _ => Za4 (E := Zdw) (by kernel_rfl) Zll)) (fun d dh => by kernel_rfl)
def Zlm : List (CEp) := [Zom]
def Zdx (x0 : List Bool) (x1 : Bool) : Option (Bool × Unit) :=
 (ZhR x0 x1).bind fun r1 =>
 some ((decide ((0 : Int) <= r1.1)), ())
def Zln : CEp where
 f := 103
 args := [.one (.sl 14), .one (.bool)]
 hs := []
 res := .val (.one (.bool))
 outs := []
 m := fun d dh => Zdx d.1 d.2.1
 ok := ceO Tryz.func103 (by kernel_rfl) Zlm (by kernel_rfl) fun d dh => by kernel_rfl
def Zni : List (CEp) := [ZeA, ZdZ, Zln]
def Zb8 (a : ((List Bool) × (List (Zac)) × (List (Zac)) × Int × Int × Unit) × (Unit × Unit)) : Option ((((List Bool) × (List (Zac)) × (List (Zac)) × Int × Int × Unit) × (Unit × Unit)) ⊕ ((((List (Zac)) × Unit) × (Unit × Unit × Unit)))) :=
 (bif (decide ((a.1.2.2.2.2.1 : Int) < a.1.2.2.2.1)) then
 (Zbs a.1.2.2.1 a.1.2.2.2.2.1).bind fun e1 =>
 (bif (decide (((a.1.1.length : Int) : Int) = 0)) then
 (Zb2 e1).bind fun r2 =>
 (if a.1.2.1.length + ([r2.1] : List (Zac)).length <= 140737488355328 /\ (a.1.2.1.length + ([r2.1] : List (Zac)).length) * 56 <= 140737488355328 then
 some (.inl ((a.1.1, (a.1.2.1 ++ ([r2.1] : List (Zac))), a.1.2.2.1, a.1.2.2.2.1, (IntKind.i64.wrap (a.1.2.2.2.2.1 + 1)), ()), ((), ())))
 else none)
 else
 (Zdx a.1.1 e1.commit).bind fun r3 =>
 (bif r3.1 then
 (Zb2 e1).bind fun r4 =>
 (if a.1.2.1.length + ([r4.1] : List (Zac)).length <= 140737488355328 /\ (a.1.2.1.length + ([r4.1] : List (Zac)).length) * 56 <= 140737488355328 then
 some (.inl ((a.1.1, (a.1.2.1 ++ ([r4.1] : List (Zac))), a.1.2.2.1, a.1.2.2.2.1, (IntKind.i64.wrap (a.1.2.2.2.2.1 + 1)), ()), ((), ())))
 else none)
 else
 some (.inl ((a.1.1, a.1.2.1, a.1.2.2.1, a.1.2.2.2.1, (IntKind.i64.wrap (a.1.2.2.2.2.1 + 1)), ()), ((), ())))))
 else
 some (.inr ((a.1.2.1, ()), ((), (), ()))))
def Zgm : LEp := ⟨5, [1, 5, 15, 16, 17], [.one (.sl 14), .one (.own 17 0), .one (.sl 17), .one (.int .i64), .one (.int .i64)], [.row 41 5], [⟨.exit 0, [5], [.one (.own 17 1)], [.dead, .row 41 5]⟩], Zb8⟩
def Znj : List (LEp) := [Zgm]
theorem ZpW : ZdE Zgm (ZcN (ZaD Tryz.f55) 0) := fun A env h k z hk => Za3 (E := Zgm) (Zad Zni) (dr := dr0) (lps := Zap Znj) (Zal (by kernel_rfl)) (fun a => by kernel_rfl) env h k z hk
def Zgq (x1 : List Bool) (h0 : (List (Zac)) × Unit × Unit) (h1 : List ((Int × Int) × Int)) : Option ((List (Zac)) × (((List (Zac)) × Unit × Unit) × (List ((Int × Int) × Int)) × Unit × Unit × Unit × Unit)) :=
 (Zb1 h0 h1).bind fun r1 =>
 (bif (!r1.1) then
 some ([], (r1.2.1, r1.2.2.1, (), (), (), ()))
 else
 (Zas Zb8 ((x1, [], r1.2.1.1, (r1.2.1.1.length : Int), 0, ()), ((), ()))).bind fun b2 =>
 some (b2.1.1, (r1.2.1, r1.2.2.1, (), (), (), ())))
def ZuR : CEp where
 f := 55
 args := [.one (.ptr 0 0), .one (.sl 14)]
 hs := [.obj 197 [.own 17 2, .mo 1], .mmap (.two .i64 .i64) (.int .i64), .row 41 5]
 res := .val (.one (.own 17 3))
 outs := [.obj 197 [.own 17 4, .mo 1], .mmap (.two .i64 .i64) (.int .i64), .dead, .row 41 5, .row 41 5]
 m := fun d dh => Zgq d.2.1 dh.1 dh.2.1
 ok := ZaO Zar Tryz.func55 (by kernel_rfl) (Zad Zni) (dr := dr0) (lps := Zap Znj) (Zau (ZaI (n := 1) (by kernel_rfl) fun i hi => match i, hi with | 0, _ => Za4 (E := Zgm) (by kernel_rfl) ZpW)) (fun d dh => by kernel_rfl)
def Zl7 : List (CEp) := [Za7, ZuR]
def ZcK (x1 : List Bool) (h0 : Unit × Int × (List (Zaf)) × Bool × Int × (List UInt8) × (List UInt8) × Int × Int × Int × Int × Int × Int × Unit) (h1 : (List (Zac)) × Unit × Unit) (h2 : List ((Int × Int) × Int)) : Option ((List (Zac)) × ((Unit × Int × (List (Zaf)) × Bool × Int × (List UInt8) × (List UInt8) × Int × Int × Int × Int × Int × Int × Unit) × ((List (Zac)) × Unit × Unit) × (List ((Int × Int) × Int)) × Unit × Unit × Unit × Unit)) :=
 (Zbd h0 h1 h2).bind fun r1 =>
 (bif (!r1.1) then
 some ([], (r1.2.1, r1.2.2.1, r1.2.2.2.1, (), (), (), ()))
 else
 (Zgq x1 r1.2.2.1 r1.2.2.2.1).bind fun r2 =>
 some (r2.1, (r1.2.1, r2.2.1, r2.2.2.1, (), (), (), ())))
def Zl8 : CEp where
 f := 13
 args := [.one (.ptr 0 0), .one (.sl 14)]
 hs := [.obj 110 [.ptr 1 0, .int .i64, .sl 5, .bool, .int .i64, .str, .str, .int .i64, .int .i64, .int .i64, .int .i64, .int .u8, .int .i64], .obj 197 [.own 17 3, .mo 2], .mmap (.two .i64 .i64) (.int .i64), .row 41 5]
 res := .val (.one (.own 17 4))
 outs := [.obj 110 [.ptr 1 0, .int .i64, .sl 5, .bool, .int .i64, .str, .str, .int .i64, .int .i64, .int .i64, .int .i64, .int .u8, .int .i64], .obj 197 [.own 17 5, .mo 2], .mmap (.two .i64 .i64) (.int .i64), .dead, .row 41 5, .row 41 5]
 m := fun d dh => ZcK d.2.1 dh.1 dh.2.1 dh.2.2.1
 ok := ceO Tryz.func13 (by kernel_rfl) Zl7 (by kernel_rfl) fun d dh => by kernel_rfl
def Zon : Nat -> Nat -> DrA
 | 9, _ => ⟨(List.range 5 ++ [6, 7, 8, 10, 5, 9, 11, 12, 13, 14, 15, 16]), [[], [0], [0, 1], [0, 1], [0, 1, 2, 3], (List.range 5), [0, 1], [0, 1, 6], [0, 1, 6, 7], [0, 1, 6, 7, 8], [0, 1], [0, 1, 6, 7, 8, 9, 10], [0, 1, 6, 7, 8, 9, 10, 11], [0, 1, 6, 7, 8, 9, 10, 11, 12], (List.range 14), (List.range 15), (List.range 16)], [], [], [], false, []⟩
 | _, _ => ⟨[], [], [], [], [], false, []⟩
def Zoo : List (CEp) := [Zgh]
def Zk0 (a : (Unit × (List Bool) × (List (Zae)) × Int × Bool × Int × Unit) × (((List (Zae)) × Unit) × Unit × Unit × Unit)) : Option (((Unit × (List Bool) × (List (Zae)) × Int × Bool × Int × Unit) × (((List (Zae)) × Unit) × Unit × Unit × Unit)) ⊕ (((Unit × (List Bool) × (List (Zae)) × Int × Bool × Unit) × (((List (Zae)) × Unit) × Unit × Unit × Unit × Unit × Unit)))) :=
 (bif (decide ((a.1.2.2.2.2.2.1 : Int) < (a.1.2.1.length : Int))) then
 (bif a.1.2.2.2.2.1 then
 some (.inl (((), a.1.2.1, a.1.2.2.1, a.1.2.2.2.1, true, (IntKind.i64.wrap (a.1.2.2.2.2.2.1 + 1)), ()), ((a.2.1.1, ()), (), (), ())))
 else
 (Zbs a.1.2.1 a.1.2.2.2.2.2.1).bind fun e1 =>
 (Zbs a.2.1.1 a.1.2.2.2.1).bind fun e2 =>
 some (.inl (((), a.1.2.1, a.1.2.2.1, a.1.2.2.2.1, (decide (e1 = e2.commit)), (IntKind.i64.wrap (a.1.2.2.2.2.2.1 + 1)), ()), ((a.2.1.1, ()), (), (), ()))))
 else
 some (.inr (((), a.1.2.1, a.1.2.2.1, a.1.2.2.2.1, a.1.2.2.2.2.1, ()), ((a.2.1.1, ()), (), (), (), (), ()))))
def Zk1 : LEp := ⟨7, [0, 1, 5, 6, 7, 8], [.one (.ptr 0 0), .one (.sl 14), .one (.own 26 1), .one (.int .i64), .one (.bool), .one (.int .i64)], [.obj 126 [.own 26 2], .row 117 5, .row 117 5], [⟨.exit 2, [0, 1, 5, 6, 7], [.one (.ptr 0 0), .one (.sl 14), .one (.own 26 3), .one (.int .i64), .one (.bool)], [.obj 126 [.own 26 4], .dead, .dead, .row 117 5, .row 117 5]⟩], Zk0⟩
def Ziu (a : (Unit × (List Bool) × (List (Zae)) × Int × Unit) × (((List (Zae)) × Unit) × Unit × Unit × Unit)) : Option (((Unit × (List Bool) × (List (Zae)) × Int × Unit) × (((List (Zae)) × Unit) × Unit × Unit × Unit)) ⊕ ((((List (Zae)) × Unit) × (((List (Zae)) × Unit) × Unit × Unit × Unit × Unit × Unit)))) :=
 (bif (decide ((a.1.2.2.2.1 : Int) < (a.2.1.1.length : Int))) then
 (Zas Zk0 (((), a.1.2.1, a.1.2.2.1, a.1.2.2.2.1, (decide (((a.1.2.1.length : Int) : Int) = 0)), 0, ()), ((a.2.1.1, ()), (), (), ()))).bind fun b1 =>
 (bif b1.1.2.2.2.2.1 then
 (Zbs b1.2.1.1 b1.1.2.2.2.1).bind fun e2 =>
 (ZbT e2).bind fun r3 =>
 (if b1.1.2.2.1.length + ([r3.1] : List (Zae)).length <= 140737488355328 /\ (b1.1.2.2.1.length + ([r3.1] : List (Zae)).length) * 56 <= 140737488355328 then
 some (.inl (((), b1.1.2.1, (b1.1.2.2.1 ++ ([r3.1] : List (Zae))), (IntKind.i64.wrap (b1.1.2.2.2.1 + 1)), ()), ((b1.2.1.1, ()), (), (), ())))
 else none)
 else
 some (.inl (((), b1.1.2.1, b1.1.2.2.1, (IntKind.i64.wrap (b1.1.2.2.2.1 + 1)), ()), ((b1.2.1.1, ()), (), (), ()))))
 else
 some (.inr ((a.1.2.2.1, ()), ((a.2.1.1, ()), (), (), (), (), ()))))
def Zk2 : LEp := ⟨3, [0, 1, 5, 6], [.one (.ptr 0 0), .one (.sl 14), .one (.own 26 1), .one (.int .i64)], [.obj 126 [.own 26 2], .row 117 5, .row 117 5], [⟨.exit 0, [5], [.one (.own 26 3)], [.obj 126 [.own 26 4], .dead, .dead, .row 117 5, .row 117 5]⟩], Ziu⟩
def Zop : List (LEp) := [Zk1, Zk2]
theorem ZuS : ZdE Zk1 (ZcN (ZcN (ZaD Tryz.f71) 0) 0) := fun A env h k z hk => Za3 (E := Zk1) (Zad Zoo) (dr := Zon) (lps := Zap Zop) (Zal (by kernel_rfl)) (fun a => by kernel_rfl) env h k z hk
theorem ZuT : ZdE Zk2 (ZcN (ZaD Tryz.f71) 0) := fun A env h k z hk => Za3 (E := Zk2) (Zad Zoo) (dr := Zon) (lps := Zap Zop) (ZaI (n := 1) (by kernel_rfl) fun i hi => match i, hi with | 0, _ => Za4 (E := Zk1) (by kernel_rfl) ZuS) (fun a => by kernel_rfl) env h k z hk
def ZuU (x1 : List Bool) (h0 : (List (Zae)) × Unit) : Option ((List (Zae)) × (((List (Zae)) × Unit) × Unit × Unit × Unit × Unit)) :=
 (Zas Ziu (((), x1, [], 0, ()), ((h0.1, ()), (), (), ()))).bind fun b1 =>
 some (b1.1.1, ((b1.2.1.1, ()), (), (), (), ()))
def ZzW : CEp where
 f := 71
 args := [.one (.ptr 0 0), .one (.sl 14)]
 hs := [.obj 126 [.own 26 1], .row 117 5]
 res := .val (.one (.own 26 2))
 outs := [.obj 126 [.own 26 3], .dead, .row 117 5, .row 117 5]
 m := fun d dh => ZuU d.2.1 dh.1
 ok := ZaO Zar Tryz.func71 (by kernel_rfl) (Zad Zoo) (dr := Zon) (lps := Zap Zop) (Zau (ZaI (n := 1) (by kernel_rfl) fun i hi => match i, hi with | 0, _ => Za4 (E := Zk2) (by kernel_rfl) ZuT)) (fun d dh => by kernel_rfl)
def ZpX : List (CEp) := [Za7]
def Zi8 (h0 : Unit × Int × (List (Zaf)) × Bool × Int × (List UInt8) × (List UInt8) × Int × Int × Int × Int × Int × Int × Unit) (h1 : (List (Zac)) × Unit × Unit) (h2 : List ((Int × Int) × Int)) : Option (Int × ((Unit × Int × (List (Zaf)) × Bool × Int × (List UInt8) × (List UInt8) × Int × Int × Int × Int × Int × Int × Unit) × ((List (Zac)) × Unit × Unit) × (List ((Int × Int) × Int)) × Unit × Unit × Unit)) :=
 (Zbd h0 h1 h2).bind fun r1 =>
 (bif (!r1.1) then
 some (0, (r1.2.1, r1.2.2.1, r1.2.2.2.1, (), (), ()))
 else
 some (r1.2.1.2.2.2.2.2.2.2.2.2.2.2.2.1, (r1.2.1, r1.2.2.1, r1.2.2.2.1, (), (), ())))
def ZpY : CEp where
 f := 16
 args := [.one (.ptr 0 0)]
 hs := [.obj 110 [.ptr 1 0, .int .i64, .sl 5, .bool, .int .i64, .str, .str, .int .i64, .int .i64, .int .i64, .int .i64, .int .u8, .int .i64], .obj 197 [.own 17 3, .mo 2], .mmap (.two .i64 .i64) (.int .i64), .row 41 5]
 res := .val (.one (.int .i64))
 outs := [.obj 110 [.ptr 1 0, .int .i64, .sl 5, .bool, .int .i64, .str, .str, .int .i64, .int .i64, .int .i64, .int .i64, .int .u8, .int .i64], .obj 197 [.own 17 4, .mo 2], .mmap (.two .i64 .i64) (.int .i64), .dead, .row 41 5]
 m := fun d dh => Zi8 dh.1 dh.2.1 dh.2.2.1
 ok := ceO Tryz.func16 (by kernel_rfl) ZpX (by kernel_rfl) fun d dh => by kernel_rfl
def Zkk : Nat -> Nat -> DrA
 | 3, _ => ⟨[], [], [], [], [], true, []⟩
 | _, _ => ⟨[], [], [], [], [], false, []⟩
def Zkl : List (CEp) := []
def ZeK (a : (Int × Nat × Unit) × (LB × Unit)) : Option (((Int × Nat × Unit) × (LB × Unit)) ⊕ (((Nat × Unit) × (Unit × LB × Unit)))) :=
 (bif (decide ((0 : Int) < a.1.1)) then
 (if 0 <= ((IntKind.i64.wrap (((a.1.2.1 : Nat) : Int) - 1)) : Int) /\ ((IntKind.i64.wrap (((a.1.2.1 : Nat) : Int) - 1)) : Int) < ((a.1.2.1 : Nat) : Int) then
 (a.2.1[(0 + ((IntKind.i64.wrap (((a.1.2.1 : Nat) : Int) - 1)) : Int).toNat)]?).bind fun e1 =>
 (if 0 <= ((IntKind.i64.wrap (((a.1.2.1 : Nat) : Int) - 1)) : Int) /\ ((IntKind.i64.wrap (((a.1.2.1 : Nat) : Int) - 1)) : Int) < ((a.1.2.1 : Nat) : Int) then
 (a.2.1[(0 + ((IntKind.i64.wrap (((a.1.2.1 : Nat) : Int) - 1)) : Int).toNat)]?).bind fun e2 =>
 (b8 (IntKind.u8.wrap ((BitVec.ofInt (IntKind.u8.bits) (e1.toNat : Int) ||| BitVec.ofInt (IntKind.u8.bits) 128).toNat))).bind fun u3 =>
 let y4 : LB := (a.2.1.set (0 + ((IntKind.i64.wrap (((a.1.2.1 : Nat) : Int) - 1)) : Int).toNat) u3)
 (b8 (IntKind.u8.wrap (IntKind.i64.wrap ((BitVec.ofInt (IntKind.i64.bits) a.1.1 &&& BitVec.ofInt (IntKind.i64.bits) 127).toNat)))).bind fun u5 =>
 (if (a.1.2.1 + ([u5] : LB).length) <= 140737488355328 /\ (a.1.2.1 + ([u5] : LB).length) * 1 <= 140737488355328 /\ 0 + a.1.2.1 <= y4.length then
 some (.inl ((((a.1.1 : Int).fdiv (2 ^ min (7 : Int).toNat (IntKind.i64.bits))), (a.1.2.1 + ([u5] : LB).length), ()), ((y4.take a.1.2.1 ++ ([u5] : LB)), ())))
 else none)
 else none)
 else none)
 else
 some (.inr ((a.1.2.1, ()), ((), a.2.1, ()))))
def ZeL : LEp := ⟨5, [0, 4], [.one (.int .i64), .one (.asz 1 0)], [.arr 5 1 false], [⟨.exit 0, [4], [.one (.asz 1 1)], [.dead, .arr 5 1 false]⟩], ZeK⟩
def Zkm : List (LEp) := [ZeL]
theorem Znk : ZdE ZeL (ZcN (ZaD Tryz.f244) 0) := fun A env h k z hk => Za3 (E := ZeL) (Zad Zkl) (dr := Zkk) (lps := Zap Zkm) (Zal (by kernel_rfl)) (fun a => by kernel_rfl) env h k z hk
def ZfQ (x0 : Int) : Option ((Nat × Bool × Unit) × (LB × Unit)) :=
 (bif (decide ((x0 : Int) < 0)) then
 some ((0, false, ()), ([], ()))
 else
 (bif (decide ((4611686018427387903 : Int) < x0)) then
 some ((0, false, ()), ([], ()))
 else
 (b8 (IntKind.u8.wrap (IntKind.i64.wrap ((BitVec.ofInt (IntKind.i64.bits) x0 &&& BitVec.ofInt (IntKind.i64.bits) 127).toNat)))).bind fun u1 =>
 (Zas ZeK ((((x0 : Int).fdiv (2 ^ min (7 : Int).toNat (IntKind.i64.bits))), 1, ()), (([u1] : LB), ()))).bind fun b2 =>
 some ((b2.1.1, true, ()), (b2.2.2.1, ()))))
def Zkn : CEp where
 f := 244
 args := [.one (.int .i64)]
 hs := []
 res := .tup [.one (.asz 1 0), .one (.bool)]
 outs := [.arr 5 1 false]
 m := fun d dh => ZfQ d.1
 ok := ZaO Zar Tryz.func244 (by kernel_rfl) (Zad Zkl) (dr := Zkk) (lps := Zap Zkm) (Zau (ZaI (n := 1) (by kernel_rfl) fun i hi => match i, hi with | 0, _ => Za4 (E := ZeL) (by kernel_rfl) Znk)) (fun d dh => by kernel_rfl)
def ZcO (x0 : Int) := (ZfQ x0).bind fun r => if r.1.1 <= r.2.1.length then some ((r.2.1.take r.1.1, r.1.2), ()) else none
def Ziv : CEp where
 f := 244
 args := [.one (.int .i64)]
 hs := []
 res := .tup [.one (.sl 1), .one (.bool)]
 outs := []
 m := fun d dh => ZcO d.1
 ok := fun d dh r hr => by
  unfold ZcO at hr
  obtain ⟨⟨n, xs, u⟩, h1, h2⟩ := Zah hr
  dsimp only at h2
  split at h2
  ·rename_i hc
   injection h2 with h2
   subst h2
   exact Tr.tellT hc rfl (Zkn.ok d dh _ h1)
  ·cases h2
def ZuV : List (CEp) := []
def Zec (x0 : Bool) : Option (LB × (Unit × Unit)) :=
 (bif x0 then
 (b8 1).bind fun u1 =>
 some (([u1] : LB), ((), ()))
 else
 (b8 0).bind fun u2 =>
 some (([u2] : LB), ((), ())))
def ZeM : CEp where
 f := 121
 args := [.one (.bool)]
 hs := []
 res := .val (.one (.own 1 0))
 outs := [.row 5 1]
 m := fun d dh => Zec d.1
 ok := ceO Tryz.func121 (by kernel_rfl) ZuV (by kernel_rfl) fun d dh => by kernel_rfl
def ZwE : List (CEp) := [Zkn]
def Znl (x0 : LB) : Option (Nat × (LB × Unit)) :=
 (ZfQ (x0.length : Int)).bind fun r1 =>
 (if (r1.1.1 + x0.length) <= 140737488355328 /\ (r1.1.1 + x0.length) * 1 <= 140737488355328 /\ 0 + r1.1.1 <= r1.2.1.length then
 some ((r1.1.1 + x0.length), ((r1.2.1.take r1.1.1 ++ x0), ()))
 else none)
def ZwF : CEp where
 f := 245
 args := [.one (.sl 1)]
 hs := []
 res := .val (.one (.asz 1 0))
 outs := [.arr 5 1 false]
 m := fun d dh => Znl d.1
 ok := ceO Tryz.func245 (by kernel_rfl) ZwE (by kernel_rfl) fun d dh => by kernel_rfl
def Zcd (x0 : LB) := (Znl x0).bind fun r => if r.1 <= r.2.1.length then some (r.2.1.take r.1, ()) else none
def Zfk : CEp where
 f := 245
 args := [.one (.sl 1)]
 hs := []
 res := .val (.one (.sl 1))
 outs := []
 m := fun d dh => Zcd d.1
 ok := fun d dh r hr => by
  unfold Zcd at hr
  obtain ⟨⟨n, xs, u⟩, h1, h2⟩ := Zah hr
  dsimp only at h2
  split at h2
  ·rename_i hc
   injection h2 with h2
   subst h2
   exact Tr.tellS hc (ZwF.ok d dh _ h1)
  ·cases h2
def ZfR : List (CEp) := [Ziv, ZeM, Zfk]
def ZfS (a : (LI × (List Bool) × (List (List UInt8)) × (List LB) × LB × Int × Unit) × (Unit × Unit)) : Option (((LI × (List Bool) × (List (List UInt8)) × (List LB) × LB × Int × Unit) × (Unit × Unit)) ⊕ (((Unit × Int × Unit) × (Unit × Unit)) ⊕ (((List Bool) × (List (List UInt8)) × (List LB) × LB × Unit) × (Unit × Unit × Unit)))) :=
 (bif (decide ((a.1.2.2.2.2.2.1 : Int) < (a.1.1.length : Int))) then
 (Zbs a.1.1 a.1.2.2.2.2.2.1).bind fun e1 =>
 (ZcO e1).bind fun r2 =>
 (bif (!r2.1.2.1) then
 some (.inr (.inl (((), 2, ()), ((), ()))))
 else
 (if a.1.2.2.2.2.1.length + r2.1.1.length <= 140737488355328 /\ (a.1.2.2.2.2.1.length + r2.1.1.length) * 1 <= 140737488355328 then
 some (.inl ((a.1.1, a.1.2.1, a.1.2.2.1, a.1.2.2.2.1, (a.1.2.2.2.2.1 ++ r2.1.1), (IntKind.i64.wrap (a.1.2.2.2.2.2.1 + 1)), ()), ((), ())))
 else none))
 else
 some (.inr (.inr ((a.1.2.1, a.1.2.2.1, a.1.2.2.2.1, a.1.2.2.2.2.1, ()), ((), (), ())))))
def Zhu : LEp := ⟨3, [0, 1, 2, 3, 10, 11], [.one (.sl 0), .one (.sl 14), .one (.sl 2), .one (.sl 22), .one (.own 1 0), .one (.int .i64)], [.row 5 1], [⟨.ret, [8, 9], [.one (.nil), .one (.int .i64)], [.dead]⟩, ⟨.exit 0, [1, 2, 3, 10], [.one (.sl 14), .one (.sl 2), .one (.sl 22), .one (.own 1 1)], [.dead, .row 5 1]⟩], ZfS⟩
def Zhv (a : ((List Bool) × (List (List UInt8)) × (List LB) × LB × Int × Unit) × (Unit × Unit)) : Option ((((List Bool) × (List (List UInt8)) × (List LB) × LB × Int × Unit) × (Unit × Unit)) ⊕ ((((List (List UInt8)) × (List LB) × LB × Unit) × (Unit × Unit × Unit)))) :=
 (bif (decide ((a.1.2.2.2.2.1 : Int) < (a.1.1.length : Int))) then
 (Zbs a.1.1 a.1.2.2.2.2.1).bind fun e1 =>
 (Zec e1).bind fun r2 =>
 (if a.1.2.2.2.1.length + r2.1.length <= 140737488355328 /\ (a.1.2.2.2.1.length + r2.1.length) * 1 <= 140737488355328 then
 some (.inl ((a.1.1, a.1.2.1, a.1.2.2.1, (a.1.2.2.2.1 ++ r2.1), (IntKind.i64.wrap (a.1.2.2.2.2.1 + 1)), ()), ((), ())))
 else none)
 else
 some (.inr ((a.1.2.1, a.1.2.2.1, a.1.2.2.2.1, ()), ((), (), ()))))
def Zhw : LEp := ⟨10, [1, 2, 3, 10, 14], [.one (.sl 14), .one (.sl 2), .one (.sl 22), .one (.own 1 0), .one (.int .i64)], [.row 5 1], [⟨.exit 2, [2, 3, 10], [.one (.sl 2), .one (.sl 22), .one (.own 1 1)], [.dead, .row 5 1]⟩], Zhv⟩
def Zed (a : ((List (List UInt8)) × (List LB) × LB × Int × Unit) × (Unit × Unit)) : Option ((((List (List UInt8)) × (List LB) × LB × Int × Unit) × (Unit × Unit)) ⊕ ((((List LB) × LB × Unit) × (Unit × Unit × Unit)))) :=
 (bif (decide ((a.1.2.2.2.1 : Int) < (a.1.1.length : Int))) then
 (Zbs a.1.1 a.1.2.2.2.1).bind fun e1 =>
 (if e1.length <= 140737488355328 then
 (Zcd e1).bind fun r2 =>
 (if a.1.2.2.1.length + r2.1.length <= 140737488355328 /\ (a.1.2.2.1.length + r2.1.length) * 1 <= 140737488355328 then
 some (.inl ((a.1.1, a.1.2.1, (a.1.2.2.1 ++ r2.1), (IntKind.i64.wrap (a.1.2.2.2.1 + 1)), ()), ((), ())))
 else none)
 else none)
 else
 some (.inr ((a.1.2.1, a.1.2.2.1, ()), ((), (), ()))))
def Zhx : LEp := ⟨14, [2, 3, 10, 15], [.one (.sl 2), .one (.sl 22), .one (.own 1 0), .one (.int .i64)], [.row 5 1], [⟨.exit 4, [3, 10], [.one (.sl 22), .one (.own 1 1)], [.dead, .row 5 1]⟩], Zed⟩
def Zhy (a : ((List LB) × LB × Int × Unit) × (Unit × Unit)) : Option ((((List LB) × LB × Int × Unit) × (Unit × Unit)) ⊕ (((LB × Unit) × (Unit × Unit × Unit)))) :=
 (bif (decide ((a.1.2.2.1 : Int) < (a.1.1.length : Int))) then
 (Zbs a.1.1 a.1.2.2.1).bind fun e1 =>
 (Zcd e1).bind fun r2 =>
 (if a.1.2.1.length + r2.1.length <= 140737488355328 /\ (a.1.2.1.length + r2.1.length) * 1 <= 140737488355328 then
 some (.inl ((a.1.1, (a.1.2.1 ++ r2.1), (IntKind.i64.wrap (a.1.2.2.1 + 1)), ()), ((), ())))
 else none)
 else
 some (.inr ((a.1.2.1, ()), ((), (), ()))))
def Zhz : LEp := ⟨18, [3, 10, 16], [.one (.sl 22), .one (.own 1 0), .one (.int .i64)], [.row 5 1], [⟨.exit 6, [10], [.one (.own 1 1)], [.dead, .row 5 1]⟩], Zhy⟩
def ZfT : List (LEp) := [Zhu, Zhw, Zhx, Zhz]
theorem Zr2 : ZdE Zhu (ZcN (ZaD Tryz.f198) 0) := fun A env h k z hk => Za3 (E := Zhu) (Zad ZfR) (dr := dr0) (lps := Zap ZfT) (Zal (by kernel_rfl)) (fun a => by kernel_rfl) env h k z hk
theorem Zr3 : ZdE Zhw (ZcN (ZaD Tryz.f198) 1) := fun A env h k z hk => Za3 (E := Zhw) (Zad ZfR) (dr := dr0) (lps := Zap ZfT) (Zal (by kernel_rfl)) (fun a => by kernel_rfl) env h k z hk
theorem Zr4 : ZdE Zhx (ZcN (ZaD Tryz.f198) 2) := fun A env h k z hk => Za3 (E := Zhx) (Zad ZfR) (dr := dr0) (lps := Zap ZfT) (Zal (by kernel_rfl)) (fun a => by kernel_rfl) env h k z hk
theorem Zr5 : ZdE Zhz (ZcN (ZaD Tryz.f198) 3) := fun A env h k z hk => Za3 (E := Zhz) (Zad ZfR) (dr := dr0) (lps := Zap ZfT) (Zal (by kernel_rfl)) (fun a => by kernel_rfl) env h k z hk
def Zc8 (x0 : LI) (x1 : List Bool) (x2 : List (List UInt8)) (x3 : List LB) : Option ((LB × Int × Unit) × (Unit × Unit)) :=
 (Zas ZfS ((x0, x1, x2, x3, [], 0, ()), ((), ()))).bind fun b1 =>
 (match b1 with
 | .inl b2 =>
 some (([], b2.1.2.1, ()), ((), ()))
 | .inr b3 =>
 (Zas Zhv ((b3.1.1, b3.1.2.1, b3.1.2.2.1, b3.1.2.2.2.1, 0, ()), ((), ()))).bind fun b4 =>
 (Zas Zed ((b4.1.1, b4.1.2.1, b4.1.2.2.1, 0, ()), ((), ()))).bind fun b5 =>
 (Zas Zhy ((b5.1.1, b5.1.2.1, 0, ()), ((), ()))).bind fun b6 =>
 some ((b6.1.1, 0, ()), ((), ())))
def Zko : CEp where
 f := 198
 args := [.one (.sl 0), .one (.sl 14), .one (.sl 2), .one (.sl 22)]
 hs := []
 res := .tup [.one (.own 1 0), .one (.int .i64)]
 outs := [.row 5 1]
 m := fun d dh => Zc8 d.1 d.2.1 d.2.2.1 d.2.2.2.1
 ok := ZaO Zar Tryz.func198 (by kernel_rfl) (Zad ZfR) (dr := dr0) (lps := Zap ZfT) (Zau (ZaI (n := 4) (by kernel_rfl) fun i hi => match i, hi with | 0, _ => Za4 (E := Zhu) (by kernel_rfl) Zr2 | 1, _ => Za4 (E := Zhw) (by kernel_rfl) Zr3 | 2, _ => Za4 (E := Zhx) (by kernel_rfl) Zr4 | 3, _ => Za4 (E := Zhz) (by kernel_rfl) Zr5)) (fun d dh => by kernel_rfl)
def Zth : List (CEp) := [Zko]
def Zi9 (x0 : LI) : Option (LB × (Unit × Unit)) :=
 (Zc8 x0 [] [] []).bind fun r1 =>
 some (r1.1.1, ((), ()))
def Zti : CEp where
 f := 118
 args := [.one (.sl 0)]
 hs := []
 res := .val (.one (.own 1 0))
 outs := [.row 5 1]
 m := fun d dh => Zi9 d.1
 ok := ceO Tryz.func118 (by kernel_rfl) Zth (by kernel_rfl) fun d dh => by kernel_rfl
def ZxY : List (CEp) := [Zfk]
def Znm (x0 : List UInt8) : Option (LB × Unit) :=
 (if x0.length <= 140737488355328 then
 (Zcd x0).bind fun r1 =>
 some (r1.1, ())
 else none)
def ZxZ : CEp where
 f := 201
 args := [.one (.str)]
 hs := []
 res := .val (.one (.sl 1))
 outs := []
 m := fun d dh => Znm d.1
 ok := ceO Tryz.func201 (by kernel_rfl) ZxY (by kernel_rfl) fun d dh => by kernel_rfl
def ZhA : Nat -> Nat -> DrA
 | 6, _ => ⟨[0, 1, 2, 6, 7, 3, 8, 4, 5, 9, 10, 11], [[], [], [1], [1, 2], [1, 2, 3], (List.range 5), [], [6], [6, 7], (List.range 9), (List.range 10), (List.range 11)], [8], [4, 5], [2], false, []⟩
 | _, _ => ⟨[], [], [], [], [], false, []⟩
def ZhB : List (CEp) := [Zti, ZxZ]
def Zbz (a : (Unit × LB × Int × Unit) × ((Zai) × Unit × Unit)) : Option (((Unit × LB × Int × Unit) × ((Zai) × Unit × Unit)) ⊕ (((LB × Unit) × ((Zai) × Unit × Unit × Unit)))) :=
 (bif (decide ((a.1.2.2.1 : Int) < (a.2.1.list.length : Int))) then
 (Zbs a.2.1.list a.1.2.2.1).bind fun e1 =>
 (Znm e1.span.lo).bind fun r2 =>
 (if a.1.2.1.length + r2.1.length <= 140737488355328 /\ (a.1.2.1.length + r2.1.length) * 1 <= 140737488355328 then
 (Znm e1.span.hi).bind fun r3 =>
 (if (a.1.2.1 ++ r2.1).length + r3.1.length <= 140737488355328 /\ ((a.1.2.1 ++ r2.1).length + r3.1.length) * 1 <= 140737488355328 then
 (Zi9 ([e1.group, e1.epoch] : LI)).bind fun r4 =>
 (if ((a.1.2.1 ++ r2.1) ++ r3.1).length + r4.1.length <= 140737488355328 /\ (((a.1.2.1 ++ r2.1) ++ r3.1).length + r4.1.length) * 1 <= 140737488355328 then
 some (.inl (((), (((a.1.2.1 ++ r2.1) ++ r3.1) ++ r4.1), (IntKind.i64.wrap (a.1.2.2.1 + 1)), ()), (a.2.1, (), ())))
 else none)
 else none)
 else none)
 else
 some (.inr ((a.1.2.1, ()), (a.2.1, (), (), ()))))
def ZcT : LEp := ⟨3, [1, 3, 4], [.one (.ptr 0 0), .one (.own 1 1), .one (.int .i64)], [.cobj 29 8, .row 5 1], [⟨.exit 0, [3], [.one (.own 1 2)], [.cobj 29 8, .dead, .row 5 1]⟩], Zbz⟩
def ZhC : List (LEp) := [ZcT]
theorem Zkp : ZdE ZcT (ZcN (ZaD Tryz.f120) 0) := fun A env h k z hk => Za3 (E := ZcT) (Zad ZhB) (dr := ZhA) (lps := Zap ZhC) (Zal (by kernel_rfl)) (fun a => by kernel_rfl) env h k z hk
def Zc9 (x0 : Zai) : Option (LB × (Unit × Unit)) :=
 (Zi9 ([x0.epoch, (x0.list.length : Int)] : LI)).bind fun r1 =>
 (Zas Zbz (((), r1.1, 0, ()), (x0, (), ()))).bind fun b2 =>
 some (b2.1.1, ((), ()))
def ZhD : CEp where
 f := 120
 args := [.cod 8]
 hs := []
 res := .val (.one (.own 1 0))
 outs := [.row 5 1]
 m := fun d dh => Zc9 d.1
 ok := ZaO Zar Tryz.func120 (by kernel_rfl) (Zad ZhB) (dr := ZhA) (lps := Zap ZhC) (Zau (ZaI (n := 1) (by kernel_rfl) fun i hi => match i, hi with | 0, _ => Za4 (E := ZcT) (by kernel_rfl) Zkp)) (fun d dh => by kernel_rfl)
def ZwG : List (CEp) := [Zko]
def Zkq (x0 : Zak) : Option ((LB × Bool × Unit) × (Unit × Unit)) :=
 (Zc8 ([x0.num] : LI) [] [] []).bind fun r1 =>
 (Zc8 [] [] ([x0.span.lo, x0.span.hi] : List (List UInt8)) []).bind fun r2 =>
 (Zc8 ([x0.from_, x0.to_, x0.epoch, x0.under, (IntKind.i64.wrap x0.stage)] : LI) [] [] []).bind fun r3 =>
 (if r1.1.1.length + r2.1.1.length <= 140737488355328 /\ (r1.1.1.length + r2.1.1.length) * 1 <= 140737488355328 then
 (if (r1.1.1 ++ r2.1.1).length + r3.1.1.length <= 140737488355328 /\ ((r1.1.1 ++ r2.1.1).length + r3.1.1.length) * 1 <= 140737488355328 then
 (bif (decide ((r1.1.2.1 : Int) = 0)) then
 some ((((r1.1.1 ++ r2.1.1) ++ r3.1.1), (decide ((r3.1.2.1 : Int) = 0)), ()), ((), ()))
 else
 some ((((r1.1.1 ++ r2.1.1) ++ r3.1.1), false, ()), ((), ())))
 else none)
 else none)
def Zpg : CEp where
 f := 122
 args := [.cod 19]
 hs := []
 res := .tup [.one (.own 1 0), .one (.bool)]
 outs := [.row 5 1]
 m := fun d dh => Zkq d.1
 ok := ceO Tryz.func122 (by kernel_rfl) ZwG (by kernel_rfl) fun d dh => by kernel_rfl
def Zx0 : Nat -> Nat -> DrA
 | 1, _ => ⟨[0, 1, 2, 5, 6, 7, 3, 8, 9, 10, 4, 11, 12, 13], [[], [0], [0, 1], [0, 1, 2], [0, 1, 2, 3], [], [5], [5, 6], [5, 6, 7], [5, 6, 7, 8], [5, 6, 7, 8, 9], (List.range 11), (List.range 12), (List.range 13)], [8], [4], [], false, []⟩
 | _, _ => ⟨[], [], [], [], [], false, []⟩
def Zx1 : List (CEp) := [ZhD, ZeM, Zpg]
def Znn (x0 : Int × (List (Zaf)) × (List (Zak)) × Int × Unit × Unit) : Option (LB × (Unit × Unit)) :=
 (Zc9 (⟨x0.1, x0.2.1⟩ : Zai)).bind fun r1 =>
 (Zec (decide ((0 : Int) < (x0.2.2.1.length : Int)))).bind fun r2 =>
 (if r1.1.length + r2.1.length <= 140737488355328 /\ (r1.1.length + r2.1.length) * 1 <= 140737488355328 then
 (bif (decide ((0 : Int) < (x0.2.2.1.length : Int))) then
 (Zbs x0.2.2.1 0).bind fun e3 =>
 (Zkq e3).bind fun r4 =>
 (if (r1.1 ++ r2.1).length + r4.1.1.length <= 140737488355328 /\ ((r1.1 ++ r2.1).length + r4.1.1.length) * 1 <= 140737488355328 then
 some (((r1.1 ++ r2.1) ++ r4.1.1), ((), ()))
 else none)
 else
 some ((r1.1 ++ r2.1), ((), ())))
 else none)
def Zx2 : CEp where
 f := 73
 args := [.ce [.int .i64, .sl 5, .sl 19, .int .i64, .junk]]
 hs := []
 res := .val (.one (.own 1 0))
 outs := [.row 5 1]
 m := fun d dh => Znn d.1
 ok := ZaO Zar Tryz.func73 (by kernel_rfl) (Zad Zx1) (dr := Zx0) (lps := Zap lt0) (Zau (Zal (by kernel_rfl))) (fun d dh => by kernel_rfl)
def Zgr (h0 : Int × (List (Zaf)) × (Nat × Nat × Nat) × Int × Unit × Unit) (h1 : List (Zak)) (h2 : (List (Zae)) × Unit) : Option (LB × (Int × (List (Zaf)) × (Nat × Nat × Nat) × Int × Unit × Unit) × (List (Zak)) × ((List (Zae)) × Unit) × Unit × Unit × Unit) := if h0.2.2.1.1 + h0.2.2.1.2.1 <= h1.length then (Znn (h0.1, h0.2.1, ((h1.drop h0.2.2.1.1).take h0.2.2.1.2.1), h0.2.2.2.1, (), ())).bind fun r => some (r.1, (h0, h1, h2, (), r.2)) else none
theorem Zno {U : Nat -> Prop} (d : VsD Ty [.one (.ptr 0 0)]) (dh : HsD Ty [.obj 129 [.int .i64, .sl 5, .as 19 1, .int .i64, .ptr 2 0], .arr 71 19 true, .obj 126 [.own 26 3], .row 117 5]) (r : LB × (Int × (List (Zaf)) × (Nat × Nat × Nat) × Int × Unit × Unit) × (List (Zak)) × ((List (Zae)) × Unit) × Unit × Unit × Unit) (hr : Zgr dh.1 dh.2.1 dh.2.2.1 = some r) : Tr CT Tryz.prog U 73 (Zmq CT [.one (.ptr 0 0)] d) (ZeU CT [.obj 129 [.int .i64, .sl 5, .as 19 1, .int .i64, .ptr 2 0], .arr 71 19 true, .obj 126 [.own 26 3], .row 117 5] dh) ((.val (.one (.own 1 4)) : Rs).st CT r.1) (ZeU CT [.obj 129 [.int .i64, .sl 5, .as 19 1, .int .i64, .ptr 2 0], .arr 71 19 true, .obj 126 [.own 26 3], .row 117 5, .row 5 1] r.2) := by
 unfold Zgr at hr
 split at hr
 rotate_left
 ·cases hr
 rename_i hc
 obtain ⟨⟨g, u⟩, h1, h2⟩ := Zah hr
 injection h2 with h2
 subst h2
 exact Tr.lendORow (h := ZeU CT [.obj 129 [.int .i64, .sl 5, .as 19 1, .int .i64, .ptr 2 0], .arr 71 19 true, .obj 126 [.own 26 3], .row 117 5] dh) (E := 1) (e := 5) (sz := 1) (xs := g) (fun x => rfl) rfl (Zx2.ok ((dh.1.1, dh.1.2.1, ((dh.2.1.drop dh.1.2.2.1.1).take dh.1.2.2.1.2.1), dh.1.2.2.2.1, (), ()), ()) () (g, u) h1) (by simp [Zmq, ZeU, Vs.st, Cs.st, Hs.st, ZB5, Zv4, ZCp, ZCl, XV.closed, hc])
def ZuW : CEp where
 f := 73
 args := [.one (.ptr 0 0)]
 hs := [.obj 129 [.int .i64, .sl 5, .as 19 1, .int .i64, .ptr 2 0], .arr 71 19 true, .obj 126 [.own 26 3], .row 117 5]
 res := .val (.one (.own 1 4))
 outs := [.obj 129 [.int .i64, .sl 5, .as 19 1, .int .i64, .ptr 2 0], .arr 71 19 true, .obj 126 [.own 26 3], .row 117 5, .row 5 1]
 m := fun d dh => Zgr dh.1 dh.2.1 dh.2.2.1
 ok := fun d dh r hr => Zno d dh r hr
 ro := true
 roOk := fun _ d dh r hr => Zno d dh r hr
def ZdO : List (CEp) := [Ziv, ZeM, Zfk]
def ZdP (a : ((Nat × Nat × Nat) × (List Bool) × (List (List UInt8)) × (List LB) × LB × Int × Unit) × (LI × Unit × Unit)) : Option ((((Nat × Nat × Nat) × (List Bool) × (List (List UInt8)) × (List LB) × LB × Int × Unit) × (LI × Unit × Unit)) ⊕ (((Unit × Int × Unit) × (LI × Unit × Unit)) ⊕ (((List Bool) × (List (List UInt8)) × (List LB) × LB × Unit) × (LI × Unit × Unit × Unit)))) :=
 (bif (decide ((a.1.2.2.2.2.2.1 : Int) < ((a.1.1.2.1 : Nat) : Int))) then
 (if 0 <= (a.1.2.2.2.2.2.1 : Int) /\ (a.1.2.2.2.2.2.1 : Int) < ((a.1.1.2.1 : Nat) : Int) then
 (a.2.1[(a.1.1.1 + (a.1.2.2.2.2.2.1 : Int).toNat)]?).bind fun e1 =>
 (ZcO e1).bind fun r2 =>
 (bif (!r2.1.2.1) then
 some (.inr (.inl (((), 2, ()), (a.2.1, (), ()))))
 else
 (if a.1.2.2.2.2.1.length + r2.1.1.length <= 140737488355328 /\ (a.1.2.2.2.2.1.length + r2.1.1.length) * 1 <= 140737488355328 then
 some (.inl (((a.1.1.1, a.1.1.2.1, a.1.1.2.2), a.1.2.1, a.1.2.2.1, a.1.2.2.2.1, (a.1.2.2.2.2.1 ++ r2.1.1), (IntKind.i64.wrap (a.1.2.2.2.2.2.1 + 1)), ()), (a.2.1, (), ())))
 else none))
 else none)
 else
 some (.inr (.inr ((a.1.2.1, a.1.2.2.1, a.1.2.2.2.1, a.1.2.2.2.2.1, ()), (a.2.1, (), (), ())))))
def Zfl : LEp := ⟨3, [0, 1, 2, 3, 10, 11], [.one (.as 0 0), .one (.sl 14), .one (.sl 2), .one (.sl 22), .one (.own 1 1), .one (.int .i64)], [.arr 3 0 true, .row 5 1], [⟨.ret, [8, 9], [.one (.nil), .one (.int .i64)], [.arr 3 0 true, .dead]⟩, ⟨.exit 0, [1, 2, 3, 10], [.one (.sl 14), .one (.sl 2), .one (.sl 22), .one (.own 1 2)], [.arr 3 0 true, .dead, .row 5 1]⟩], ZdP⟩
def Zfm (a : ((List Bool) × (List (List UInt8)) × (List LB) × LB × Int × Unit) × (Unit × Unit)) : Option ((((List Bool) × (List (List UInt8)) × (List LB) × LB × Int × Unit) × (Unit × Unit)) ⊕ ((((List (List UInt8)) × (List LB) × LB × Unit) × (Unit × Unit × Unit)))) :=
 (bif (decide ((a.1.2.2.2.2.1 : Int) < (a.1.1.length : Int))) then
 (Zbs a.1.1 a.1.2.2.2.2.1).bind fun e1 =>
 (Zec e1).bind fun r2 =>
 (if a.1.2.2.2.1.length + r2.1.length <= 140737488355328 /\ (a.1.2.2.2.1.length + r2.1.length) * 1 <= 140737488355328 then
 some (.inl ((a.1.1, a.1.2.1, a.1.2.2.1, (a.1.2.2.2.1 ++ r2.1), (IntKind.i64.wrap (a.1.2.2.2.2.1 + 1)), ()), ((), ())))
 else none)
 else
 some (.inr ((a.1.2.1, a.1.2.2.1, a.1.2.2.2.1, ()), ((), (), ()))))
def Zfn : LEp := ⟨10, [1, 2, 3, 10, 14], [.one (.sl 14), .one (.sl 2), .one (.sl 22), .one (.own 1 0), .one (.int .i64)], [.row 5 1], [⟨.exit 2, [2, 3, 10], [.one (.sl 2), .one (.sl 22), .one (.own 1 1)], [.dead, .row 5 1]⟩], Zfm⟩
def Zfo (a : ((List (List UInt8)) × (List LB) × LB × Int × Unit) × (Unit × Unit)) : Option ((((List (List UInt8)) × (List LB) × LB × Int × Unit) × (Unit × Unit)) ⊕ ((((List LB) × LB × Unit) × (Unit × Unit × Unit)))) :=
 (bif (decide ((a.1.2.2.2.1 : Int) < (a.1.1.length : Int))) then
 (Zbs a.1.1 a.1.2.2.2.1).bind fun e1 =>
 (if e1.length <= 140737488355328 then
 (Zcd e1).bind fun r2 =>
 (if a.1.2.2.1.length + r2.1.length <= 140737488355328 /\ (a.1.2.2.1.length + r2.1.length) * 1 <= 140737488355328 then
 some (.inl ((a.1.1, a.1.2.1, (a.1.2.2.1 ++ r2.1), (IntKind.i64.wrap (a.1.2.2.2.1 + 1)), ()), ((), ())))
 else none)
 else none)
 else
 some (.inr ((a.1.2.1, a.1.2.2.1, ()), ((), (), ()))))
def Zfp : LEp := ⟨14, [2, 3, 10, 15], [.one (.sl 2), .one (.sl 22), .one (.own 1 0), .one (.int .i64)], [.row 5 1], [⟨.exit 4, [3, 10], [.one (.sl 22), .one (.own 1 1)], [.dead, .row 5 1]⟩], Zfo⟩
def Zfq (a : ((List LB) × LB × Int × Unit) × (Unit × Unit)) : Option ((((List LB) × LB × Int × Unit) × (Unit × Unit)) ⊕ (((LB × Unit) × (Unit × Unit × Unit)))) :=
 (bif (decide ((a.1.2.2.1 : Int) < (a.1.1.length : Int))) then
 (Zbs a.1.1 a.1.2.2.1).bind fun e1 =>
 (Zcd e1).bind fun r2 =>
 (if a.1.2.1.length + r2.1.length <= 140737488355328 /\ (a.1.2.1.length + r2.1.length) * 1 <= 140737488355328 then
 some (.inl ((a.1.1, (a.1.2.1 ++ r2.1), (IntKind.i64.wrap (a.1.2.2.1 + 1)), ()), ((), ())))
 else none)
 else
 some (.inr ((a.1.2.1, ()), ((), (), ()))))
def Zfr : LEp := ⟨18, [3, 10, 16], [.one (.sl 22), .one (.own 1 0), .one (.int .i64)], [.row 5 1], [⟨.exit 6, [10], [.one (.own 1 1)], [.dead, .row 5 1]⟩], Zfq⟩
def ZdQ : List (LEp) := [Zfl, Zfn, Zfp, Zfr]
theorem Zoq : ZdE Zfl (ZcN (ZaD Tryz.f198) 0) := fun A env h k z hk => Za3 (E := Zfl) (Zad ZdO) (dr := dr0) (lps := Zap ZdQ) (Zal (by kernel_rfl)) (fun a => by kernel_rfl) env h k z hk
theorem Zor : ZdE Zfn (ZcN (ZaD Tryz.f198) 1) := fun A env h k z hk => Za3 (E := Zfn) (Zad ZdO) (dr := dr0) (lps := Zap ZdQ) (Zal (by kernel_rfl)) (fun a => by kernel_rfl) env h k z hk
theorem Zos : ZdE Zfp (ZcN (ZaD Tryz.f198) 2) := fun A env h k z hk => Za3 (E := Zfp) (Zad ZdO) (dr := dr0) (lps := Zap ZdQ) (Zal (by kernel_rfl)) (fun a => by kernel_rfl) env h k z hk
theorem Zot : ZdE Zfr (ZcN (ZaD Tryz.f198) 3) := fun A env h k z hk => Za3 (E := Zfr) (Zad ZdO) (dr := dr0) (lps := Zap ZdQ) (Zal (by kernel_rfl)) (fun a => by kernel_rfl) env h k z hk
def Zja (x0 : Nat × Nat × Nat) (x1 : List Bool) (x2 : List (List UInt8)) (x3 : List LB) (h0 : LI) : Option ((LB × Int × Unit) × (LI × Unit × Unit)) :=
 (Zas ZdP (((x0.1, x0.2.1, x0.2.2), x1, x2, x3, [], 0, ()), (h0, (), ()))).bind fun b1 =>
 (match b1 with
 | .inl b2 =>
 some (([], b2.1.2.1, ()), (b2.2.1, (), ()))
 | .inr b3 =>
 (Zas Zfm ((b3.1.1, b3.1.2.1, b3.1.2.2.1, b3.1.2.2.2.1, 0, ()), ((), ()))).bind fun b4 =>
 (Zas Zfo ((b4.1.1, b4.1.2.1, b4.1.2.2.1, 0, ()), ((), ()))).bind fun b5 =>
 (Zas Zfq ((b5.1.1, b5.1.2.1, 0, ()), ((), ()))).bind fun b6 =>
 some ((b6.1.1, 0, ()), (b3.2.1, (), ())))
def Ztj : CEp where
 f := 198
 args := [.one (.as 0 0), .one (.sl 14), .one (.sl 2), .one (.sl 22)]
 hs := [.arr 3 0 true]
 res := .tup [.one (.own 1 1), .one (.int .i64)]
 outs := [.arr 3 0 true, .row 5 1]
 m := fun d dh => Zja d.1 d.2.1 d.2.2.1 d.2.2.2.1 dh.1
 ok := ZaO Zar Tryz.func198 (by kernel_rfl) (Zad ZdO) (dr := dr0) (lps := Zap ZdQ) (Zau (ZaI (n := 4) (by kernel_rfl) fun i hi => match i, hi with | 0, _ => Za4 (E := Zfl) (by kernel_rfl) Zoq | 1, _ => Za4 (E := Zfn) (by kernel_rfl) Zor | 2, _ => Za4 (E := Zfp) (by kernel_rfl) Zos | 3, _ => Za4 (E := Zfr) (by kernel_rfl) Zot)) (fun d dh => by kernel_rfl)
def ZpZ : List (CEp) := [Ztj]
def Zgn (x0 : Nat × Nat × Nat) (h0 : LI) : Option (LB × (LI × Unit × Unit)) :=
 (Zja (x0.1, x0.2.1, x0.2.2) [] [] [] h0).bind fun r1 =>
 some (r1.1.1, (r1.2.1, (), ()))
def Zp0 : CEp where
 f := 118
 args := [.one (.as 0 0)]
 hs := [.arr 3 0 true]
 res := .val (.one (.own 1 1))
 outs := [.arr 3 0 true, .row 5 1]
 m := fun d dh => Zgn d.1 dh.1
 ok := ceO Tryz.func118 (by kernel_rfl) ZpZ (by kernel_rfl) fun d dh => by kernel_rfl
def Ztk : List (CEp) := [Zko]
def ZgV (x0 : LI) : Option (LB × (Unit × Unit)) :=
 (Zc8 x0 [] [] []).bind fun r1 =>
 some (r1.1.1, ((), ()))
def Ztl : CEp where
 f := 199
 args := [.one (.sl 0)]
 hs := []
 res := .val (.one (.own 1 0))
 outs := [.row 5 1]
 m := fun d dh => ZgV d.1
 ok := ceO Tryz.func199 (by kernel_rfl) Ztk (by kernel_rfl) fun d dh => by kernel_rfl
def Zx3 : List (CEp) := [Zfk]
def Znp (x0 : List UInt8) : Option (LB × Unit) :=
 (if x0.length <= 140737488355328 then
 (Zcd x0).bind fun r1 =>
 some (r1.1, ())
 else none)
def Zx4 : CEp where
 f := 200
 args := [.one (.str)]
 hs := []
 res := .val (.one (.sl 1))
 outs := []
 m := fun d dh => Znp d.1
 ok := ceO Tryz.func200 (by kernel_rfl) Zx3 (by kernel_rfl) fun d dh => by kernel_rfl
def Zkr : Nat -> Nat -> DrA
 | 6, _ => ⟨[0, 1, 2, 4, 5, 7, 12, 3, 6, 8, 13, 9, 10, 11, 14, 15, 16], [[], [], [1], [1, 2], [], [4], [4, 5], [], [7], [1, 2, 3, 4, 5, 6, 7, 8], [1, 2, 3, 4, 5, 6, 7, 8, 9], (List.range 11), [], [12], (List.range 14), (List.range 15), (List.range 16)], [13], [10, 11], [3], false, []⟩
 | 12, _ => ⟨[0, 1, 5, 9, 2, 6, 10, 3, 4, 7, 8, 11, 12, 13], [[], [], [1], [1, 2], [0, 1, 2, 3], [], [5], (List.range 7), (List.range 8), [], [9], (List.range 11), (List.range 12), (List.range 13)], [6, 10], [3, 4, 7, 8], [4], false, []⟩
 | _, _ => ⟨[], [], [], [], [], false, []⟩
def Zks : List (CEp) := [Ztl, ZeM, Zx4]
def Zee (a : (Unit × LB × Int × Unit × Int × Unit) × (((List (Zae)) × Unit) × (Zae) × Unit × Unit × Unit)) : Option (((Unit × LB × Int × Unit × Int × Unit) × (((List (Zae)) × Unit) × (Zae) × Unit × Unit × Unit)) ⊕ (((Unit × LB × Int × Unit) × (((List (Zae)) × Unit) × (Zae) × Unit × Unit × Unit × Unit × Unit)))) :=
 (bif (decide ((a.1.2.2.2.2.1 : Int) < (a.2.2.1.reads.length : Int))) then
 (Zbs a.2.2.1.reads a.1.2.2.2.2.1).bind fun e1 =>
 (Znp e1.key).bind fun r2 =>
 (if a.1.2.1.length + r2.1.length <= 140737488355328 /\ (a.1.2.1.length + r2.1.length) * 1 <= 140737488355328 then
 (Zec e1.is).bind fun r3 =>
 (if (a.1.2.1 ++ r2.1).length + r3.1.length <= 140737488355328 /\ ((a.1.2.1 ++ r2.1).length + r3.1.length) * 1 <= 140737488355328 then
 (Znp e1.value).bind fun r4 =>
 (if ((a.1.2.1 ++ r2.1) ++ r3.1).length + r4.1.length <= 140737488355328 /\ (((a.1.2.1 ++ r2.1) ++ r3.1).length + r4.1.length) * 1 <= 140737488355328 then
 some (.inl (((), (((a.1.2.1 ++ r2.1) ++ r3.1) ++ r4.1), a.1.2.2.1, (), (IntKind.i64.wrap (a.1.2.2.2.2.1 + 1)), ()), ((a.2.1.1, ()), a.2.2.1, (), (), ())))
 else none)
 else none)
 else none)
 else
 some (.inr (((), a.1.2.1, a.1.2.2.1, ()), ((a.2.1.1, ()), a.2.2.1, (), (), (), (), ()))))
def ZhE : LEp := ⟨9, [0, 3, 4, 5, 6], [.one (.ptr 0 0), .one (.own 1 2), .one (.int .i64), .one (.ptr 1 0), .one (.int .i64)], [.obj 126 [.own 26 3], .cobj 117 26, .row 5 1, .row 117 5], [⟨.exit 2, [0, 3, 4], [.one (.ptr 0 0), .one (.own 1 4), .one (.int .i64)], [.obj 126 [.own 26 5], .cobj 117 26, .dead, .dead, .row 5 1, .row 117 5]⟩], Zee⟩
def Zef (a : (Unit × LB × Int × Unit) × (((List (Zae)) × Unit) × Unit × Unit × Unit)) : Option (((Unit × LB × Int × Unit) × (((List (Zae)) × Unit) × Unit × Unit × Unit)) ⊕ (((LB × Unit) × (((List (Zae)) × Unit) × Unit × Unit × Unit × Unit × Unit)))) :=
 (bif (decide ((a.1.2.2.1 : Int) < (a.2.1.1.length : Int))) then
 (Zbs a.2.1.1 a.1.2.2.1).bind fun e1 =>
 (ZgV ([e1.name.client, e1.name.num, e1.at_] : LI)).bind fun r2 =>
 (if a.1.2.1.length + r2.1.length <= 140737488355328 /\ (a.1.2.1.length + r2.1.length) * 1 <= 140737488355328 then
 (Zec e1.commit).bind fun r3 =>
 (if (a.1.2.1 ++ r2.1).length + r3.1.length <= 140737488355328 /\ ((a.1.2.1 ++ r2.1).length + r3.1.length) * 1 <= 140737488355328 then
 (ZgV ([(e1.reads.length : Int)] : LI)).bind fun r4 =>
 (if ((a.1.2.1 ++ r2.1) ++ r3.1).length + r4.1.length <= 140737488355328 /\ (((a.1.2.1 ++ r2.1) ++ r3.1).length + r4.1.length) * 1 <= 140737488355328 then
 (Zas Zee (((), (((a.1.2.1 ++ r2.1) ++ r3.1) ++ r4.1), a.1.2.2.1, (), 0, ()), ((a.2.1.1, ()), (⟨e1.name, e1.commit, e1.at_, e1.reads⟩ : Zae), (), (), ()))).bind fun b5 =>
 some (.inl (((), b5.1.2.1, (IntKind.i64.wrap (b5.1.2.2.1 + 1)), ()), ((b5.2.1.1, ()), (), (), ())))
 else none)
 else none)
 else none)
 else
 some (.inr ((a.1.2.1, ()), ((a.2.1.1, ()), (), (), (), (), ()))))
def ZhF : LEp := ⟨3, [0, 3, 4], [.one (.ptr 0 0), .one (.own 1 1), .one (.int .i64)], [.obj 126 [.own 26 2], .row 5 1, .row 117 5], [⟨.exit 0, [3], [.one (.own 1 3)], [.obj 126 [.own 26 4], .dead, .dead, .row 5 1, .row 117 5]⟩], Zef⟩
def Zkt : List (LEp) := [ZhE, ZhF]
theorem Zr6 : ZdE ZhE (ZcN (ZcN (ZaD Tryz.f119) 0) 0) := fun A env h k z hk => Za3 (E := ZhE) (Zad Zks) (dr := Zkr) (lps := Zap Zkt) (Zal (by kernel_rfl)) (fun a => by kernel_rfl) env h k z hk
theorem Zr7 : ZdE ZhF (ZcN (ZaD Tryz.f119) 0) := fun A env h k z hk => Za3 (E := ZhF) (Zad Zks) (dr := Zkr) (lps := Zap Zkt) (ZaI (n := 1) (by kernel_rfl) fun i hi => match i, hi with | 0, _ => Za4 (E := ZhE) (by kernel_rfl) Zr6) (fun a => by kernel_rfl) env h k z hk
def Znq (h0 : (List (Zae)) × Unit) : Option (LB × (((List (Zae)) × Unit) × Unit × Unit × Unit × Unit)) :=
 (ZgV ([(h0.1.length : Int)] : LI)).bind fun r1 =>
 (Zas Zef (((), r1.1, 0, ()), ((h0.1, ()), (), (), ()))).bind fun b2 =>
 some (b2.1.1, ((b2.2.1.1, ()), (), (), (), ()))
def ZwH : CEp where
 f := 119
 args := [.one (.ptr 0 0)]
 hs := [.obj 126 [.own 26 1], .row 117 5]
 res := .val (.one (.own 1 2))
 outs := [.obj 126 [.own 26 3], .dead, .row 5 1, .row 117 5]
 m := fun d dh => Znq dh.1
 ok := ZaO Zar Tryz.func119 (by kernel_rfl) (Zad Zks) (dr := Zkr) (lps := Zap Zkt) (Zau (ZaI (n := 1) (by kernel_rfl) fun i hi => match i, hi with | 0, _ => Za4 (E := ZhF) (by kernel_rfl) Zr7)) (fun d dh => by kernel_rfl)
def ZwI : Nat -> Nat -> DrA
 | 1, _ => ⟨[0, 2, 3, 4, 9, 10, 11, 5, 12, 1, 6, 7, 8, 13, 14, 15], [[], [0], [], [2], [2, 3], [2, 3, 4], [2, 3, 4, 5], (List.range 7), (List.range 8), [], [9], [9, 10], [9, 10, 11], (List.range 13), (List.range 14), (List.range 15)], [5, 12], [1, 7, 8], [0], false, [6]⟩
 | _, _ => ⟨[], [], [], [], [], false, []⟩
def ZwJ : List (CEp) := [ZuW, Zp0, ZwH]
def Znr (h0 : Int × (List (Zaf)) × (Nat × Nat × Nat) × Int × Unit × Unit) (h1 : List (Zak)) (h2 : (List (Zae)) × Unit) : Option (LB × ((Int × (List (Zaf)) × (Nat × Nat × Nat) × Int × Unit × Unit) × (List (Zak)) × ((List (Zae)) × Unit) × Unit × Unit × Unit × Unit)) :=
 (Zgr (h0.1, h0.2.1, (h0.2.2.1.1, h0.2.2.1.2.1, h0.2.2.1.2.2), h0.2.2.2.1, (), ()) h1 (h2.1, ())).bind fun r1 =>
 (Zgn (0, 1, 1) ([h0.2.2.2.1] : LI)).bind fun r2 =>
 (if r1.1.length + r2.1.length <= 140737488355328 /\ (r1.1.length + r2.1.length) * 1 <= 140737488355328 then
 (Znq (r1.2.2.2.1.1, ())).bind fun r3 =>
 (if (r1.1 ++ r2.1).length + r3.1.length <= 140737488355328 /\ ((r1.1 ++ r2.1).length + r3.1.length) * 1 <= 140737488355328 then
 some (((r1.1 ++ r2.1) ++ r3.1), ((r1.2.1.1, r1.2.1.2.1, (r1.2.1.2.2.1.1, r1.2.1.2.2.1.2.1, r1.2.1.2.2.1.2.2), r1.2.1.2.2.2.1, (), ()), r1.2.2.1, (r3.2.1.1, ()), (), (), (), ()))
 else none)
 else none)
def ZwK : CEp where
 f := 72
 args := [.one (.ptr 0 0)]
 hs := [.obj 129 [.int .i64, .sl 5, .as 19 1, .int .i64, .ptr 2 0], .arr 71 19 true, .obj 126 [.own 26 3], .row 117 5]
 res := .val (.one (.own 1 4))
 outs := [.obj 129 [.int .i64, .sl 5, .as 19 1, .int .i64, .ptr 2 0], .arr 71 19 true, .obj 126 [.own 26 5], .dead, .row 5 1, .row 117 5]
 m := fun d dh => Znr dh.1 dh.2.1 dh.2.2.1
 ok := ZaO Zar Tryz.func72 (by kernel_rfl) (Zad ZwJ) (dr := ZwI) (lps := Zap lt0) (Zau (Zal (by kernel_rfl))) (fun d dh => by kernel_rfl)
def Zku : Nat -> Nat -> DrA
 | 6, _ => ⟨[0, 1, 2, 4, 5, 6, 3, 7, 8], [[], [], [0, 1], [0, 1, 2], [], [], [4, 5], [4, 5, 6], (List.range 8)], [], [], [], false, []⟩
 | _, _ => ⟨[], [], [], [], [], false, []⟩
def Zkv : List (CEp) := []
def Zda (a : (LB × LB × Int × Unit) × Unit) : Option (((LB × LB × Int × Unit) × Unit) ⊕ (((Bool × Unit) × Unit) ⊕ (Unit × Unit))) :=
 (bif (decide ((a.1.2.2.1 : Int) < (a.1.1.length : Int))) then
 (Zbs a.1.1 a.1.2.2.1).bind fun e1 =>
 (Zbs a.1.2.1 a.1.2.2.1).bind fun e2 =>
 (bif (decide (((e1.toNat : Int) : Int) ≠ (e2.toNat : Int))) then
 some (.inr (.inl ((false, ()), ())))
 else
 some (.inl ((a.1.1, a.1.2.1, (IntKind.i64.wrap (a.1.2.2.1 + 1)), ()), ())))
 else
 some (.inr (.inr ((), ()))))
def ZeN : LEp := ⟨4, [0, 1, 5], [.one (.sl 1), .one (.sl 1), .one (.int .i64)], [], [⟨.ret, [4], [.one (.bool)], []⟩, ⟨.exit 0, [], [], []⟩], Zda⟩
def Zkw : List (LEp) := [ZeN]
theorem Zns : ZdE ZeN (ZcN (ZaD Tryz.f14) 0) := fun A env h k z hk => Za3 (E := ZeN) (Zad Zkv) (dr := Zku) (lps := Zap Zkw) (Zal (by kernel_rfl)) (fun a => by kernel_rfl) env h k z hk
def ZfU (x0 : LB) (x1 : LB) : Option (Bool × Unit) :=
 (bif (decide (((x0.length : Int) : Int) ≠ (x1.length : Int))) then
 some (false, ())
 else
 (Zas Zda ((x0, x1, 0, ()), ())).bind fun b1 =>
 (match b1 with
 | .inl b2 =>
 some (b2.1.1, ())
 | .inr b3 =>
 some (true, ())))
def Zr8 : CEp where
 f := 14
 args := [.one (.sl 1), .one (.sl 1)]
 hs := []
 res := .val (.one (.bool))
 outs := []
 m := fun d dh => ZfU d.1 d.2.1
 ok := ZaO Zar Tryz.func14 (by kernel_rfl) (Zad Zkv) (dr := Zku) (lps := Zap Zkw) (Zau (ZaI (n := 1) (by kernel_rfl) fun i hi => match i, hi with | 0, _ => Za4 (E := ZeN) (by kernel_rfl) Zns)) (fun d dh => by kernel_rfl)
def Zp1 : Nat -> Nat -> DrA
 | 3, _ => ⟨(List.range 12), [[], [0], [0, 1], [0, 1, 2], [], (List.range 5), (List.range 6), (List.range 7), (List.range 8), (List.range 8), (List.range 9), (List.range 11)], [3], [4], [0], false, []⟩
 | _, _ => ⟨[], [], [], [], [], false, []⟩
def Zp2 : List (CEp) := [Za7, Zil, Zir, Zpf]
def Zgo (h0 : Unit × Int × (List (Zaf)) × Bool × Int × (List UInt8) × (List UInt8) × Int × Int × Int × Int × Int × Int × Unit) (h1 : (List (Zac)) × Unit × Unit) (h2 : List ((Int × Int) × Int)) : Option (LB × ((Unit × Int × (List (Zaf)) × Bool × Int × (List UInt8) × (List UInt8) × Int × Int × Int × Int × Int × Int × Unit) × ((List (Zac)) × Unit × Unit) × (List ((Int × Int) × Int)) × Unit × Unit × Unit × Unit)) :=
 (Zbd h0 h1 h2).bind fun r1 =>
 (bif (!r1.1) then
 some ([], (r1.2.1, r1.2.2.1, r1.2.2.2.1, (), (), (), ()))
 else
 (ZhP).bind fun r2 =>
 (ZdN (⟨(⟨r1.2.1.2.1, r1.2.1.2.2.1⟩ : Zai), r1.2.1.2.2.2.1, (⟨r1.2.1.2.2.2.2.1, (⟨r1.2.1.2.2.2.2.2.1, r1.2.1.2.2.2.2.2.2.1⟩ : Zao), r1.2.1.2.2.2.2.2.2.2.1, r1.2.1.2.2.2.2.2.2.2.2.1, r1.2.1.2.2.2.2.2.2.2.2.2.1, r1.2.1.2.2.2.2.2.2.2.2.2.2.1, r1.2.1.2.2.2.2.2.2.2.2.2.2.2.1⟩ : Zak)⟩ : ZjH) r2.2.1).bind fun r3 =>
 (Zkj r3.2.1).bind fun r4 =>
 some (r4.1.1, (r1.2.1, r1.2.2.1, r1.2.2.2.1, (), (), (), ())))
def Zp3 : CEp where
 f := 15
 args := [.one (.ptr 0 0)]
 hs := [.obj 110 [.ptr 1 0, .int .i64, .sl 5, .bool, .int .i64, .str, .str, .int .i64, .int .i64, .int .i64, .int .i64, .int .u8, .int .i64], .obj 197 [.own 17 3, .mo 2], .mmap (.two .i64 .i64) (.int .i64), .row 41 5]
 res := .val (.one (.own 1 4))
 outs := [.obj 110 [.ptr 1 0, .int .i64, .sl 5, .bool, .int .i64, .str, .str, .int .i64, .int .i64, .int .i64, .int .i64, .int .u8, .int .i64], .obj 197 [.own 17 5, .mo 2], .mmap (.two .i64 .i64) (.int .i64), .dead, .row 5 1, .row 41 5]
 m := fun d dh => Zgo dh.1 dh.2.1 dh.2.2.1
 ok := ZaO Zar Tryz.func15 (by kernel_rfl) (Zad Zp2) (dr := Zp1) (lps := Zap lt0) (Zau (Zal (by kernel_rfl))) (fun d dh => by kernel_rfl)
def ZuX : Nat -> Nat -> DrA
 | 1, _ => ⟨[0, 1, 2, 5, 6, 7, 3, 8, 9, 10, 4, 11, 12, 13], [[], [0], [0, 1], [0, 1, 2], [0, 1, 2, 3], [], [5], [5, 6], [5, 6, 7], [5, 6, 7, 8], [5, 6, 7, 8, 9], (List.range 11), (List.range 12), (List.range 13)], [8], [4], [0], false, []⟩
 | _, _ => ⟨[], [], [], [], [], false, []⟩
def ZuY : List (CEp) := [ZhD, ZeM, Zpg]
def Zk3 (h0 : Int × (List (Zaf)) × (Nat × Nat × Nat) × Int × Unit × Unit) (h1 : List (Zak)) (h2 : (List (Zae)) × Unit) : Option (LB × ((Int × (List (Zaf)) × (Nat × Nat × Nat) × Int × Unit × Unit) × (List (Zak)) × ((List (Zae)) × Unit) × Unit × Unit × Unit × Unit)) :=
 (Zc9 (⟨h0.1, h0.2.1⟩ : Zai)).bind fun r1 =>
 (Zec (decide ((0 : Int) < ((h0.2.2.1.2.1 : Nat) : Int)))).bind fun r2 =>
 (if r1.1.length + r2.1.length <= 140737488355328 /\ (r1.1.length + r2.1.length) * 1 <= 140737488355328 then
 (bif (decide ((0 : Int) < ((h0.2.2.1.2.1 : Nat) : Int))) then
 (if 0 <= (0 : Int) /\ (0 : Int) < ((h0.2.2.1.2.1 : Nat) : Int) then
 (h1[(h0.2.2.1.1 + (0 : Int).toNat)]?).bind fun e3 =>
 (Zkq e3).bind fun r4 =>
 (if (r1.1 ++ r2.1).length + r4.1.1.length <= 140737488355328 /\ ((r1.1 ++ r2.1).length + r4.1.1.length) * 1 <= 140737488355328 then
 some (((r1.1 ++ r2.1) ++ r4.1.1), ((h0.1, h0.2.1, (h0.2.2.1.1, h0.2.2.1.2.1, h0.2.2.1.2.2), h0.2.2.2.1, (), ()), h1, (h2.1, ()), (), (), (), ()))
 else none)
 else none)
 else
 some ((r1.1 ++ r2.1), ((h0.1, h0.2.1, (h0.2.2.1.1, h0.2.2.1.2.1, h0.2.2.1.2.2), h0.2.2.2.1, (), ()), h1, (h2.1, ()), (), (), (), ())))
 else none)
def ZuZ : CEp where
 f := 73
 args := [.one (.ptr 0 0)]
 hs := [.obj 129 [.int .i64, .sl 5, .as 19 1, .int .i64, .ptr 2 0], .arr 71 19 true, .obj 126 [.own 26 3], .row 117 5]
 res := .val (.one (.own 1 4))
 outs := [.obj 129 [.int .i64, .sl 5, .as 19 1, .int .i64, .ptr 2 0], .arr 71 19 true, .obj 126 [.own 26 5], .dead, .row 5 1, .row 117 5]
 m := fun d dh => Zk3 dh.1 dh.2.1 dh.2.2.1
 ok := ZaO Zar Tryz.func73 (by kernel_rfl) (Zad ZuY) (dr := ZuX) (lps := Zap lt0) (Zau (Zal (by kernel_rfl))) (fun d dh => by kernel_rfl)
def Zkx : Nat -> Nat -> DrA
 | 9, _ => ⟨(List.range 5 ++ [6, 7, 8, 10, 5, 9, 11, 12, 13, 14, 15, 16]), [[], [0], [0, 1], [0, 1], [0, 1, 2, 3], (List.range 5), [0, 1], [0, 1, 6], [0, 1, 6, 7], [0, 1, 6, 7, 8], [0, 1], [0, 1, 6, 7, 8, 9, 10], [0, 1, 6, 7, 8, 9, 10, 11], [0, 1, 6, 7, 8, 9, 10, 11, 12], (List.range 14), (List.range 15), (List.range 16)], [], [], [], false, []⟩
 | _, _ => ⟨[], [], [], [], [], false, []⟩
def Zky : List (CEp) := [Zgh]
def ZfV (a : (Unit × (Nat × Nat × Nat) × (List (Zae)) × Int × Bool × Int × Unit) × (((List (Zae)) × Unit) × (List Bool) × Unit × Unit × Unit)) : Option (((Unit × (Nat × Nat × Nat) × (List (Zae)) × Int × Bool × Int × Unit) × (((List (Zae)) × Unit) × (List Bool) × Unit × Unit × Unit)) ⊕ (((Unit × (Nat × Nat × Nat) × (List (Zae)) × Int × Bool × Unit) × (((List (Zae)) × Unit) × (List Bool) × Unit × Unit × Unit × Unit × Unit)))) :=
 (bif (decide ((a.1.2.2.2.2.2.1 : Int) < ((a.1.2.1.2.1 : Nat) : Int))) then
 (bif a.1.2.2.2.2.1 then
 some (.inl (((), (a.1.2.1.1, a.1.2.1.2.1, a.1.2.1.2.2), a.1.2.2.1, a.1.2.2.2.1, true, (IntKind.i64.wrap (a.1.2.2.2.2.2.1 + 1)), ()), ((a.2.1.1, ()), a.2.2.1, (), (), ())))
 else
 (if 0 <= (a.1.2.2.2.2.2.1 : Int) /\ (a.1.2.2.2.2.2.1 : Int) < ((a.1.2.1.2.1 : Nat) : Int) then
 (a.2.2.1[(a.1.2.1.1 + (a.1.2.2.2.2.2.1 : Int).toNat)]?).bind fun e1 =>
 (Zbs a.2.1.1 a.1.2.2.2.1).bind fun e2 =>
 some (.inl (((), (a.1.2.1.1, a.1.2.1.2.1, a.1.2.1.2.2), a.1.2.2.1, a.1.2.2.2.1, (decide (e1 = e2.commit)), (IntKind.i64.wrap (a.1.2.2.2.2.2.1 + 1)), ()), ((a.2.1.1, ()), a.2.2.1, (), (), ())))
 else none))
 else
 some (.inr (((), (a.1.2.1.1, a.1.2.1.2.1, a.1.2.1.2.2), a.1.2.2.1, a.1.2.2.2.1, a.1.2.2.2.2.1, ()), ((a.2.1.1, ()), a.2.2.1, (), (), (), (), ()))))
def ZhG : LEp := ⟨7, [0, 1, 5, 6, 7, 8], [.one (.ptr 0 0), .one (.as 14 1), .one (.own 26 2), .one (.int .i64), .one (.bool), .one (.int .i64)], [.obj 126 [.own 26 3], .arr 4 14 true, .row 117 5, .row 117 5], [⟨.exit 2, [0, 1, 5, 6, 7], [.one (.ptr 0 0), .one (.as 14 1), .one (.own 26 4), .one (.int .i64), .one (.bool)], [.obj 126 [.own 26 5], .arr 4 14 true, .dead, .dead, .row 117 5, .row 117 5]⟩], ZfV⟩
def ZfW (a : (Unit × (Nat × Nat × Nat) × (List (Zae)) × Int × Unit) × (((List (Zae)) × Unit) × (List Bool) × Unit × Unit × Unit)) : Option (((Unit × (Nat × Nat × Nat) × (List (Zae)) × Int × Unit) × (((List (Zae)) × Unit) × (List Bool) × Unit × Unit × Unit)) ⊕ ((((List (Zae)) × Unit) × (((List (Zae)) × Unit) × (List Bool) × Unit × Unit × Unit × Unit × Unit)))) :=
 (bif (decide ((a.1.2.2.2.1 : Int) < (a.2.1.1.length : Int))) then
 (Zas ZfV (((), (a.1.2.1.1, a.1.2.1.2.1, a.1.2.1.2.2), a.1.2.2.1, a.1.2.2.2.1, (decide ((((a.1.2.1.2.1 : Nat) : Int) : Int) = 0)), 0, ()), ((a.2.1.1, ()), a.2.2.1, (), (), ()))).bind fun b1 =>
 (bif b1.1.2.2.2.2.1 then
 (Zbs b1.2.1.1 b1.1.2.2.2.1).bind fun e2 =>
 (ZbT e2).bind fun r3 =>
 (if b1.1.2.2.1.length + ([r3.1] : List (Zae)).length <= 140737488355328 /\ (b1.1.2.2.1.length + ([r3.1] : List (Zae)).length) * 56 <= 140737488355328 then
 some (.inl (((), (b1.1.2.1.1, b1.1.2.1.2.1, b1.1.2.1.2.2), (b1.1.2.2.1 ++ ([r3.1] : List (Zae))), (IntKind.i64.wrap (b1.1.2.2.2.1 + 1)), ()), ((b1.2.1.1, ()), b1.2.2.1, (), (), ())))
 else none)
 else
 some (.inl (((), (b1.1.2.1.1, b1.1.2.1.2.1, b1.1.2.1.2.2), b1.1.2.2.1, (IntKind.i64.wrap (b1.1.2.2.2.1 + 1)), ()), ((b1.2.1.1, ()), b1.2.2.1, (), (), ()))))
 else
 some (.inr ((a.1.2.2.1, ()), ((a.2.1.1, ()), a.2.2.1, (), (), (), (), ()))))
def ZhH : LEp := ⟨3, [0, 1, 5, 6], [.one (.ptr 0 0), .one (.as 14 1), .one (.own 26 2), .one (.int .i64)], [.obj 126 [.own 26 3], .arr 4 14 true, .row 117 5, .row 117 5], [⟨.exit 0, [5], [.one (.own 26 4)], [.obj 126 [.own 26 5], .arr 4 14 true, .dead, .dead, .row 117 5, .row 117 5]⟩], ZfW⟩
def Zkz : List (LEp) := [ZhG, ZhH]
theorem Zr9 : ZdE ZhG (ZcN (ZcN (ZaD Tryz.f71) 0) 0) := fun A env h k z hk => Za3 (E := ZhG) (Zad Zky) (dr := Zkx) (lps := Zap Zkz) (Zal (by kernel_rfl)) (fun a => by kernel_rfl) env h k z hk
theorem Zsa : ZdE ZhH (ZcN (ZaD Tryz.f71) 0) := fun A env h k z hk => Za3 (E := ZhH) (Zad Zky) (dr := Zkx) (lps := Zap Zkz) (ZaI (n := 1) (by kernel_rfl) fun i hi => match i, hi with | 0, _ => Za4 (E := ZhG) (by kernel_rfl) Zr9) (fun a => by kernel_rfl) env h k z hk
def Znt (x1 : Nat × Nat × Nat) (h0 : (List (Zae)) × Unit) (h1 : List Bool) : Option ((List (Zae)) × (((List (Zae)) × Unit) × (List Bool) × Unit × Unit × Unit × Unit)) :=
 (Zas ZfW (((), (x1.1, x1.2.1, x1.2.2), [], 0, ()), ((h0.1, ()), h1, (), (), ()))).bind fun b1 =>
 some (b1.1.1, ((b1.2.1.1, ()), b1.2.2.1, (), (), (), ()))
def ZwL : CEp where
 f := 71
 args := [.one (.ptr 0 0), .one (.as 14 1)]
 hs := [.obj 126 [.own 26 2], .arr 4 14 true, .row 117 5]
 res := .val (.one (.own 26 3))
 outs := [.obj 126 [.own 26 4], .arr 4 14 true, .dead, .row 117 5, .row 117 5]
 m := fun d dh => Znt d.2.1 dh.1 dh.2.1
 ok := ZaO Zar Tryz.func71 (by kernel_rfl) (Zad Zky) (dr := Zkx) (lps := Zap Zkz) (Zau (ZaI (n := 1) (by kernel_rfl) fun i hi => match i, hi with | 0, _ => Za4 (E := ZhH) (by kernel_rfl) Zsa)) (fun d dh => by kernel_rfl)
def ZkA : Nat -> Nat -> DrA
 | 6, _ => ⟨[0, 1, 2, 4, 5, 6, 3, 7, 8], [[], [], [0, 1], [0, 1, 2], [], [], [4, 5], [4, 5, 6], (List.range 8)], [], [], [], false, []⟩
 | _, _ => ⟨[], [], [], [], [], false, []⟩
def ZkB : List (CEp) := []
def Zdb (a : ((List (ZaZ)) × (List (ZaZ)) × Int × Unit) × Unit) : Option ((((List (ZaZ)) × (List (ZaZ)) × Int × Unit) × Unit) ⊕ (((Bool × Unit) × Unit) ⊕ (Unit × Unit))) :=
 (bif (decide ((a.1.2.2.1 : Int) < (a.1.1.length : Int))) then
 (Zbs a.1.1 a.1.2.2.1).bind fun e1 =>
 (Zbs a.1.2.1 a.1.2.2.1).bind fun e2 =>
 (bif (!(decide (e1.key = e2.key) && (decide (e1.is = e2.is) && (decide (e1.value = e2.value) && true)))) then
 some (.inr (.inl ((false, ()), ())))
 else
 some (.inl ((a.1.1, a.1.2.1, (IntKind.i64.wrap (a.1.2.2.1 + 1)), ()), ())))
 else
 some (.inr (.inr ((), ()))))
def ZeO : LEp := ⟨4, [0, 1, 5], [.one (.sl 15), .one (.sl 15), .one (.int .i64)], [], [⟨.ret, [4], [.one (.bool)], []⟩, ⟨.exit 0, [], [], []⟩], Zdb⟩
def ZkC : List (LEp) := [ZeO]
theorem Znu : ZdE ZeO (ZcN (ZaD Tryz.f108) 0) := fun A env h k z hk => Za3 (E := ZeO) (Zad ZkB) (dr := ZkA) (lps := Zap ZkC) (Zal (by kernel_rfl)) (fun a => by kernel_rfl) env h k z hk
def ZhI (x0 : List (ZaZ)) (x1 : List (ZaZ)) : Option (Bool × Unit) :=
 (bif (decide (((x0.length : Int) : Int) ≠ (x1.length : Int))) then
 some (false, ())
 else
 (Zas Zdb ((x0, x1, 0, ()), ())).bind fun b1 =>
 (match b1 with
 | .inl b2 =>
 some (b2.1.1, ())
 | .inr b3 =>
 some (true, ())))
def Zsb : CEp where
 f := 108
 args := [.one (.sl 15), .one (.sl 15)]
 hs := []
 res := .val (.one (.bool))
 outs := []
 m := fun d dh => ZhI d.1 d.2.1
 ok := ZaO Zar Tryz.func108 (by kernel_rfl) (Zad ZkB) (dr := ZkA) (lps := Zap ZkC) (Zau (ZaI (n := 1) (by kernel_rfl) fun i hi => match i, hi with | 0, _ => Za4 (E := ZeO) (by kernel_rfl) Znu)) (fun d dh => by kernel_rfl)
def Zx5 : List (CEp) := [Zsb]
def Zqk (x0 : Zac) (x1 : Zae) : Option (Bool × Unit) :=
 (bif (decide ((x0.name.client : Int) = x1.name.client) && (decide ((x0.name.num : Int) = x1.name.num) && true)) then
 (bif (decide (x0.commit = x1.commit)) then
 (bif (decide ((x0.at_ : Int) = x1.at_)) then
 (ZhI x0.reads x1.reads).bind fun r1 =>
 some (r1.1, ())
 else
 some (false, ()))
 else
 some (false, ()))
 else
 some (false, ()))
def Zx6 : CEp where
 f := 58
 args := [.cod 17, .cod 26]
 hs := []
 res := .val (.one (.bool))
 outs := []
 m := fun d dh => Zqk d.1 d.2.1
 ok := ceO Tryz.func58 (by kernel_rfl) Zx5 (by kernel_rfl) fun d dh => by kernel_rfl
def ZtN : Nat -> Nat -> DrA
 | 4, _ => ⟨[0, 2, 3, 4, 5, 1, 6, 7, 8], [[], [0], [], [2], [2, 3], [2, 3, 4], (List.range 6), (List.range 7), (List.range 8)], [5], [1], [1], false, []⟩
 | 5, _ => ⟨(List.range 10 ++ [11, 12, 13, 14, 10, 15, 16, 17, 18, 20, 21, 22, 23, 19, 24, 25, 26, 27, 28, 29, 30, 31, 32, 33, 34, 35, 36, 37, 38, 39, 41, 40, 42, 43, 44, 45, 46, 47, 48, 49, 50, 51, 52, 53, 54, 58, 59, 60, 61, 55, 56, 57, 62, 63, 64, 65, 66]), [[], [], [0, 1], [0, 1, 2], [0, 1, 2, 3], [0, 1, 2, 3], (List.range 6), (List.range 7), (List.range 8), (List.range 9), (List.range 10), (List.range 9), (List.range 9 ++ [11]), (List.range 9 ++ [11, 12]), (List.range 9 ++ [11, 12, 13]), (List.range 15), (List.range 16), (List.range 17), (List.range 18), (List.range 19), (List.range 18), (List.range 18 ++ [20]), (List.range 18 ++ [20, 21]), (List.range 18 ++ [20, 21, 22]), (List.range 24), (List.range 25), (List.range 26), (List.range 27), (List.range 28), (List.range 29), (List.range 30), (List.range 31), (List.range 32), (List.range 32), (List.range 32 ++ [33]), (List.range 35), (List.range 36), (List.range 37), (List.range 38), (List.range 39), (List.range 40), (List.range 39), (List.range 42), (List.range 43), (List.range 44), (List.range 45), (List.range 46), (List.range 47), (List.range 48), (List.range 47), (List.range 47 ++ [49]), (List.range 51), (List.range 52), (List.range 53), (List.range 54), (List.range 54), (List.range 56), (List.range 57), (List.range 54), (List.range 54 ++ [58]), (List.range 54 ++ [58, 59]), (List.range 54 ++ [58, 59, 60]), (List.range 54), (List.range 57 ++ [58, 59, 60, 61, 62]), (List.range 57 ++ [58, 59, 60, 61, 62, 63]), (List.range 65), (List.range 66)], [14, 23, 61], [10, 19, 56], [1], false, [62]⟩
 | 10, _ => ⟨[0, 1, 2, 4, 5, 6, 3, 7, 8, 9], [[], [], [0, 1], [0, 1, 2], [], [], [4, 5], [4, 5, 6], (List.range 8), (List.range 9)], [], [], [], false, []⟩
 | _, _ => ⟨[], [], [], [], [], false, []⟩
def ZtO : List (CEp) := [Zhb, ZuO, Zil, Zol, Zpf, Zl8, ZzW, ZpY, Zhc, Zjo, ZwK, Zr8, Zp3, ZuZ, ZwL, Zx6]
def Zgs (a : ((List (Zac)) × (List (Zae)) × Int × Unit) × (Unit × Unit × Unit)) : Option ((((List (Zac)) × (List (Zae)) × Int × Unit) × (Unit × Unit × Unit)) ⊕ (((Bool × Unit) × (Unit × Unit × Unit)) ⊕ (Unit × (Unit × Unit × Unit)))) :=
 (bif (decide ((a.1.2.2.1 : Int) < (a.1.1.length : Int))) then
 (Zbs a.1.1 a.1.2.2.1).bind fun e1 =>
 (Zbs a.1.2.1 a.1.2.2.1).bind fun e2 =>
 (Zqk e1 e2).bind fun r3 =>
 (bif (!r3.1) then
 some (.inr (.inl ((false, ()), ((), (), ()))))
 else
 some (.inl ((a.1.1, a.1.2.1, (IntKind.i64.wrap (a.1.2.2.1 + 1)), ()), ((), (), ()))))
 else
 some (.inr (.inr ((), ((), (), ())))))
def Zk4 : LEp := ⟨8, [11, 12, 13], [.one (.own 17 0), .one (.own 26 1), .one (.int .i64)], [.row 41 5, .row 117 5], [⟨.ret, [4], [.one (.bool)], [.dead, .dead]⟩, ⟨.exit 0, [], [], [.dead, .dead]⟩], Zgs⟩
def ZtP : List (LEp) := [Zk4]
theorem Zu0 : ZdE Zk4 (ZcN (ZaD Tryz.f27) 0) := fun A env h k z hk => Za3 (E := Zk4) (Zad ZtO) (dr := ZtN) (lps := Zap ZtP) (Zal (by kernel_rfl)) (fun a => by kernel_rfl) env h k z hk
def Zu1 (h0 : Unit × Int × (List (Zaf)) × Bool × Int × (List UInt8) × (List UInt8) × Int × Int × Int × Int × Int × Int × Unit) (h1 : Int × (List (Zaf)) × (Nat × Nat × Nat) × Int × Unit × Unit) (h2 : (List (Zac)) × Unit × Unit) (h3 : List (Zak)) (h4 : (List (Zae)) × Unit) (h5 : List ((Int × Int) × Int)) : Option (Bool × ((Unit × Int × (List (Zaf)) × Bool × Int × (List UInt8) × (List UInt8) × Int × Int × Int × Int × Int × Int × Unit) × (Int × (List (Zaf)) × (Nat × Nat × Nat) × Int × Unit × Unit) × ((List (Zac)) × Unit × Unit) × (List (Zak)) × ((List (Zae)) × Unit) × (List ((Int × Int) × Int)) × Unit × Unit × Unit × Unit × Unit)) :=
 (Zcp h0 h2 h5).bind fun r1 =>
 (ZkY (h1.1, h1.2.1, (h1.2.2.1.1, h1.2.2.1.2.1, h1.2.2.1.2.2), h1.2.2.2.1, (), ()) h3 (h4.1, ())).bind fun r2 =>
 (ZhP).bind fun r3 =>
 (Zfj r1.2.1 r3.2.1 r1.2.2.1 r1.2.2.2.1).bind fun r4 =>
 (Zkj r4.2.2.1).bind fun r5 =>
 (ZcK [] r4.2.1 r4.2.2.2.1 r4.2.2.2.2.1).bind fun r6 =>
 (ZuU [] (r2.2.2.2.1.1, ())).bind fun r7 =>
 (bif (decide (r1.1.2.1 ≠ r2.1.2.1)) then
 some (false, (r6.2.1, (r2.2.1.1, r2.2.1.2.1, (r2.2.1.2.2.1.1, r2.2.1.2.2.1.2.1, r2.2.1.2.2.1.2.2), r2.2.1.2.2.2.1, (), ()), r6.2.2.1, r2.2.2.1, (r7.2.1.1, ()), r6.2.2.2.1, (), (), (), (), ()))
 else
 (bif (!(decide ((r1.1.1.num : Int) = r2.1.1.num) && (decide (r1.1.1.span.lo = r2.1.1.span.lo) && (decide (r1.1.1.span.hi = r2.1.1.span.hi) && (decide ((r1.1.1.from_ : Int) = r2.1.1.from_) && (decide ((r1.1.1.to_ : Int) = r2.1.1.to_) && (decide ((r1.1.1.epoch : Int) = r2.1.1.epoch) && (decide ((r1.1.1.under : Int) = r2.1.1.under) && (decide ((r1.1.1.stage : Int) = r2.1.1.stage) && true))))))))) then
 some (false, (r6.2.1, (r2.2.1.1, r2.2.1.2.1, (r2.2.1.2.2.1.1, r2.2.1.2.2.1.2.1, r2.2.1.2.2.1.2.2), r2.2.1.2.2.2.1, (), ()), r6.2.2.1, r2.2.2.1, (r7.2.1.1, ()), r6.2.2.2.1, (), (), (), (), ()))
 else
 (Zi8 r6.2.1 r6.2.2.1 r6.2.2.2.1).bind fun r8 =>
 (bif (decide ((r8.1 : Int) ≠ r2.2.1.2.2.2.1)) then
 some (false, (r8.2.1, (r2.2.1.1, r2.2.1.2.1, (r2.2.1.2.2.1.1, r2.2.1.2.2.1.2.1, r2.2.1.2.2.1.2.2), r2.2.1.2.2.2.1, (), ()), r8.2.2.1, r2.2.2.1, (r7.2.1.1, ()), r8.2.2.2.1, (), (), (), (), ()))
 else
 (Zcq r8.2.1 r8.2.2.1 r8.2.2.2.1).bind fun r9 =>
 (Zb6 r9.1 (⟨r2.2.1.1, r2.2.1.2.1⟩ : Zai)).bind fun r10 =>
 (bif (!r10.1) then
 some (false, (r9.2.1, (r2.2.1.1, r2.2.1.2.1, (r2.2.1.2.2.1.1, r2.2.1.2.2.1.2.1, r2.2.1.2.2.1.2.2), r2.2.1.2.2.2.1, (), ()), r9.2.2.1, r2.2.2.1, (r7.2.1.1, ()), r9.2.2.2.1, (), (), (), (), ()))
 else
 (bif (decide ((r5.1.2.1 : Int) ≠ 0)) then
 some (false, (r9.2.1, (r2.2.1.1, r2.2.1.2.1, (r2.2.1.2.2.1.1, r2.2.1.2.2.1.2.1, r2.2.1.2.2.1.2.2), r2.2.1.2.2.2.1, (), ()), r9.2.2.1, r2.2.2.1, (r7.2.1.1, ()), r9.2.2.2.1, (), (), (), (), ()))
 else
 (Znr (r2.2.1.1, r2.2.1.2.1, (r2.2.1.2.2.1.1, r2.2.1.2.2.1.2.1, r2.2.1.2.2.1.2.2), r2.2.1.2.2.2.1, (), ()) r2.2.2.1 (r7.2.1.1, ())).bind fun r11 =>
 (ZfU r5.1.1 r11.1).bind fun r12 =>
 (bif (!r12.1) then
 some (false, (r9.2.1, (r11.2.1.1, r11.2.1.2.1, (r11.2.1.2.2.1.1, r11.2.1.2.2.1.2.1, r11.2.1.2.2.1.2.2), r11.2.1.2.2.2.1, (), ()), r9.2.2.1, r11.2.2.1, (r11.2.2.2.1.1, ()), r9.2.2.2.1, (), (), (), (), ()))
 else
 (Zgo r9.2.1 r9.2.2.1 r9.2.2.2.1).bind fun r13 =>
 (Zk3 (r11.2.1.1, r11.2.1.2.1, (r11.2.1.2.2.1.1, r11.2.1.2.2.1.2.1, r11.2.1.2.2.1.2.2), r11.2.1.2.2.2.1, (), ()) r11.2.2.1 (r11.2.2.2.1.1, ())).bind fun r14 =>
 (ZfU r13.1 r14.1).bind fun r15 =>
 (bif (!r15.1) then
 some (false, (r13.2.1, (r14.2.1.1, r14.2.1.2.1, (r14.2.1.2.2.1.1, r14.2.1.2.2.1.2.1, r14.2.1.2.2.1.2.2), r14.2.1.2.2.2.1, (), ()), r13.2.2.1, r14.2.2.1, (r14.2.2.2.1.1, ()), r13.2.2.2.1, (), (), (), (), ()))
 else
 (bif (decide (((r6.1.length : Int) : Int) ≠ (r7.1.length : Int))) then
 some (false, (r13.2.1, (r14.2.1.1, r14.2.1.2.1, (r14.2.1.2.2.1.1, r14.2.1.2.2.1.2.1, r14.2.1.2.2.1.2.2), r14.2.1.2.2.2.1, (), ()), r13.2.2.1, r14.2.2.1, (r14.2.2.2.1.1, ()), r13.2.2.2.1, (), (), (), (), ()))
 else
 (ZcK ([true] : List Bool) r13.2.1 r13.2.2.1 r13.2.2.2.1).bind fun r16 =>
 (Znt (0, 1, 1) (r14.2.2.2.1.1, ()) ([true] : List Bool)).bind fun r17 =>
 (bif (decide (((r16.1.length : Int) : Int) ≠ (r17.1.length : Int))) then
 some (false, (r16.2.1, (r14.2.1.1, r14.2.1.2.1, (r14.2.1.2.2.1.1, r14.2.1.2.2.1.2.1, r14.2.1.2.2.1.2.2), r14.2.1.2.2.2.1, (), ()), r16.2.2.1, r14.2.2.1, (r17.2.1.1, ()), r16.2.2.2.1, (), (), (), (), ()))
 else
 (Zas Zgs ((r6.1, r7.1, 0, ()), ((), (), ()))).bind fun b18 =>
 (match b18 with
 | .inl b19 =>
 some (b19.1.1, (r16.2.1, (r14.2.1.1, r14.2.1.2.1, (r14.2.1.2.2.1.1, r14.2.1.2.2.1.2.1, r14.2.1.2.2.1.2.2), r14.2.1.2.2.2.1, (), ()), r16.2.2.1, r14.2.2.1, (r17.2.1.1, ()), r16.2.2.2.1, (), (), (), (), ()))
 | .inr b20 =>
 some (true, (r16.2.1, (r14.2.1.1, r14.2.1.2.1, (r14.2.1.2.2.1.1, r14.2.1.2.2.1.2.1, r14.2.1.2.2.1.2.2), r14.2.1.2.2.2.1, (), ()), r16.2.2.1, r14.2.2.1, (r17.2.1.1, ()), r16.2.2.2.1, (), (), (), (), ()))))))))))))
def ZzX : CEp where
 f := 27
 args := [.one (.ptr 0 0), .one (.ptr 1 0)]
 hs := [.obj 110 [.ptr 2 0, .int .i64, .sl 5, .bool, .int .i64, .str, .str, .int .i64, .int .i64, .int .i64, .int .i64, .int .u8, .int .i64], .obj 129 [.int .i64, .sl 5, .as 19 3, .int .i64, .ptr 4 0], .obj 197 [.own 17 6, .mo 5], .arr 71 19 true, .obj 126 [.own 26 7], .mmap (.two .i64 .i64) (.int .i64), .row 41 5, .row 117 5]
 res := .val (.one (.bool))
 outs := [.obj 110 [.ptr 2 0, .int .i64, .sl 5, .bool, .int .i64, .str, .str, .int .i64, .int .i64, .int .i64, .int .i64, .int .u8, .int .i64], .obj 129 [.int .i64, .sl 5, .as 19 3, .int .i64, .ptr 4 0], .obj 197 [.own 17 8, .mo 5], .arr 71 19 true, .obj 126 [.own 26 9], .mmap (.two .i64 .i64) (.int .i64), .dead, .dead, .row 41 5, .row 117 5]
 m := fun d dh => Zu1 dh.1 dh.2.1 dh.2.2.1 dh.2.2.2.1 dh.2.2.2.2.1 dh.2.2.2.2.2.1
 ok := ZaO Zar Tryz.func27 (by kernel_rfl) (Zad ZtO) (dr := ZtN) (lps := Zap ZtP) (Zau (ZaI (n := 1) (by kernel_rfl) fun i hi => match i, hi with | 0, _ => Za4 (E := Zk4) (by kernel_rfl) Zu0)) (fun d dh => by kernel_rfl)
end
end Go.Proofs.YtaihdjknneiciaaGreat
