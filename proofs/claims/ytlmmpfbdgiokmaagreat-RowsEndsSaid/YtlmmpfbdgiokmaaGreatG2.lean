/- The laws. -/
import Derived.Test.YtlmmpfbdgiokmaaGreatG1
namespace Go.Proofs.YtlmmpfbdgiokmaaGreat
open Go.RowKit
set_option maxRecDepth 100000
set_option linter.unusedVariables false
def Zb1 : Nat -> Nat -> DrA
 | 10, _ => ⟨[0, 1, 2, 3, 6, 7, 8, 9, 11, 12, 13, 18, 19, 20, 21, 22, 23, 24, 25, 28, 29, 30, 32, 33, 34, 10, 14, 15, 26, 27, 31, 35, 36, 37, 4, 5, 16, 17, 38, 39], [[], [], [], [], [0, 1, 2, 3], (List.range 5), [], [], [], [7, 8], [7, 8, 9], [], [], [11, 12], [11, 12, 13], [7, 8, 9, 10, 11, 12, 13, 14], [6, 7, 8, 9, 10, 11, 12, 13, 14, 15], [6, 7, 8, 9, 10, 11, 12, 13, 14, 15, 16], [], [], [], [19, 20], [], [22], [19, 20, 21, 22, 23], [18, 19, 20, 21, 22, 23, 24], [18, 19, 20, 21, 22, 23, 24, 25], [18, 19, 20, 21, 22, 23, 24, 25, 26], [], [], [28, 29], [28, 29, 30], [], [], [32, 33], [32, 33, 34], [28, 29, 30, 31, 32, 33, 34, 35], [28, 29, 30, 31, 32, 33, 34, 35, 36], (List.range 38), (List.range 39)], [], [], [], false, []⟩
 | 11, _ => ⟨(List.range 5 ++ [6, 7, 8, 13, 5, 9, 10, 11, 12, 14, 15, 16, 17, 18, 19, 21, 22, 23, 20, 24, 25, 26, 27, 28, 29]), [[], [], [], [], [2, 3], [2, 3, 4], [], [], [6, 7], [6, 7, 8], [2, 3, 4, 5, 6, 7, 8, 9], [2, 3, 4, 5, 6, 7, 8, 9, 10], [2, 3, 4, 5, 6, 7, 8, 9, 10, 11], [], (List.range 14), (List.range 15), (List.range 16), (List.range 17), (List.range 17), (List.range 19), (List.range 20), (List.range 17), (List.range 17), (List.range 17 ++ [21, 22]), (List.range 17 ++ [21, 22, 23]), (List.range 25), (List.range 26), (List.range 27), (List.range 28), (List.range 29)], [], [], [], false, []⟩
 | 19, _ => ⟨[0, 1, 3, 4, 2, 5, 6, 7, 8, 9, 10, 12, 13, 14, 11, 15, 16, 17, 18, 19, 20, 21, 23, 24, 25, 22, 26, 27, 28, 29, 30, 31, 32, 34, 35, 36, 33, 37, 38, 39, 40, 41, 42, 43, 44, 45, 46, 47, 48, 49, 50], [[], [], [0, 1], [], [], (List.range 5), (List.range 6), (List.range 7), (List.range 8), (List.range 8), (List.range 8 ++ [9]), (List.range 11), (List.range 8), (List.range 8), (List.range 8 ++ [13]), (List.range 15), (List.range 16), (List.range 17), (List.range 18), (List.range 19), (List.range 19), (List.range 19 ++ [20]), (List.range 22), (List.range 19), (List.range 19), (List.range 19 ++ [24]), (List.range 26), (List.range 27), (List.range 28), (List.range 29), (List.range 30), (List.range 30), (List.range 30 ++ [31]), (List.range 33), (List.range 30), (List.range 30), (List.range 30 ++ [35]), (List.range 37), (List.range 38), (List.range 39), (List.range 40), (List.range 41), (List.range 41), (List.range 43), (List.range 44), (List.range 45), (List.range 46), (List.range 47), (List.range 48), (List.range 49), (List.range 50)], [], [], [], false, []⟩
 | 24, _ => ⟨(List.range 14 ++ [15, 18, 19, 23, 24, 14, 16, 17, 20, 21, 22, 25, 26, 27, 28, 29, 30, 31, 32, 33, 34, 35, 36, 37, 38, 39, 40, 41, 42, 43, 44, 45, 47, 48, 49, 51, 46, 50, 52, 53, 54, 55, 56, 57, 58, 59, 60]), [[], [0], [0, 1], [0, 1, 2], [0, 1, 2, 3], (List.range 5), (List.range 6), (List.range 7), (List.range 8), (List.range 9), (List.range 10), (List.range 11), (List.range 12), (List.range 13), (List.range 14), (List.range 13), (List.range 16), (List.range 17), (List.range 13), (List.range 13), (List.range 17 ++ [18, 19]), (List.range 17 ++ [18, 19, 20]), (List.range 22), (List.range 13), (List.range 13), (List.range 17 ++ [18, 19, 20, 23, 24]), (List.range 17 ++ [18, 19, 20, 23, 24, 25]), (List.range 27), (List.range 28), (List.range 29), (List.range 30), (List.range 31), (List.range 32), (List.range 33), (List.range 34), (List.range 35), (List.range 36), (List.range 36), (List.range 36 ++ [37]), (List.range 39), (List.range 40), (List.range 41), (List.range 42), (List.range 43), (List.range 44), (List.range 45), (List.range 46), (List.range 43), (List.range 43 ++ [47]), (List.range 43 ++ [47, 48]), (List.range 43 ++ [47, 48, 49]), (List.range 43), (List.range 43 ++ [51]), (List.range 43 ++ [47, 48, 49, 50, 51, 52]), (List.range 43 ++ [47, 48, 49, 50, 51, 52, 53]), (List.range 55), (List.range 56), (List.range 57), (List.range 58), (List.range 59), (List.range 60)], [46], [53, 54], [5], false, []⟩
 | _, _ => ⟨[], [], [], [], [], false, []⟩
noncomputable def Zb2 : List (CE CT Tryz.prog) := [Zhf, Zg8, Zlc, Zle, Zjm, Ziv, ZhC, ZqS, Zpk, Zpo, Zps, ZsI, Zj5, ZqW, ZfA, ZdV]
noncomputable def Za2 (a : ((List (List UInt8)) × (List (Za5)) × (Int) × (Int) × Unit) × ((Unit) × (Unit) × Unit)) : Option ((((List (List UInt8)) × (List (Za5)) × (Int) × (Int) × Unit) × ((Unit) × (Unit) × Unit)) ⊕ ((((Bool) × Unit) × ((Unit) × (Unit) × Unit)) ⊕ (((List (List UInt8)) × (List (Za5)) × (Int) × Unit) × ((Unit) × (Unit) × (Unit) × (Unit) × Unit)))) :=
 (bif (decide ((a.1.2.2.2.1 : Int) < (a.1.1.length : Int))) then
 (Zdg a.1.1 a.1.2.2.1).bind fun e1 =>
 (Zdg a.1.1 a.1.2.2.2.1).bind fun e2 =>
 (if ((a.1.2.1.length : Int) : Int) = 0 then none else
 (Zdg a.1.2.1 (((IntKind.i64.wrap (a.1.2.2.1 + a.1.2.2.2.1)) : Int).tmod (a.1.2.1.length : Int))).bind fun e3 =>
 (Zdg a.1.1 a.1.2.2.1).bind fun e4 =>
 (Zdg a.1.1 a.1.2.2.2.1).bind fun e5 =>
 let y6 : List (Zcg) := ([(⟨0, ([(⟨([97] : List UInt8), ([49] : List UInt8)⟩ : Zae), (⟨([122, 57] : List UInt8), ([] : List UInt8)⟩ : Zae), (⟨([97, 98] : List UInt8), ([] : List UInt8)⟩ : Zae), (⟨([48] : List UInt8), ([] : List UInt8)⟩ : Zae)] : List (Zae)), (⟨([] : List UInt8), ([] : List UInt8)⟩ : Za5)⟩ : Zcg), (⟨0, ([(⟨([98] : List UInt8), ([] : List UInt8)⟩ : Zae), (⟨e1, e2⟩ : Zae)] : List (Zae)), (⟨([] : List UInt8), ([] : List UInt8)⟩ : Za5)⟩ : Zcg), (⟨4, [], e3⟩ : Zcg), (⟨3, [], (⟨e4, e5⟩ : Za5)⟩ : Zcg)] : List (Zcg))
 (Zdg a.1.1 a.1.2.2.2.1).bind fun e7 =>
 (Zdg a.1.1 a.1.2.2.1).bind fun e8 =>
 (ZcK y6 a.1.2.2.1 ([(⟨4, [], (⟨e7, e8⟩ : Za5)⟩ : Zcg)] : List (Zcg)) a.1.1).bind fun r9 =>
 (bif (!r9.1) then
 some (.inr (.inl ((false, ()), ((), (), ()))))
 else
 (Zdg a.1.1 a.1.2.2.1).bind fun e10 =>
 (Zdg a.1.1 a.1.2.2.2.1).bind fun e11 =>
 (Zby ([(⟨e10, e11⟩ : Zae)] : List (Zae)) []).bind fun r12 =>
 (bif (!r12.1) then
 some (.inr (.inl ((false, ()), ((), (), ()))))
 else
 some (.inl ((a.1.1, a.1.2.1, a.1.2.2.1, (IntKind.i64.wrap (a.1.2.2.2.1 + 1)), ()), ((), (), ()))))))
 else
 some (.inr (.inr ((a.1.1, a.1.2.1, a.1.2.2.1, ()), ((), (), (), (), ())))))
noncomputable def Zb3 : LE CT Tryz.prog := ⟨8, [2, 3, 4, 5], [.one (.own 2 0), .one (.own 4 1), .one (.int .i64), .one (.int .i64)], [.row 9 1, .row 36 2], [⟨.ret, [0], [.one (.bool)], [.dead, .dead]⟩, ⟨.exit 2, [2, 3, 4], [.one (.own 2 2), .one (.own 4 3), .one (.int .i64)], [.dead, .dead, .row 9 1, .row 36 2]⟩], Za2⟩
noncomputable def Za3 (a : ((List (List UInt8)) × (List (Za5)) × (Int) × Unit) × ((Unit) × (Unit) × Unit)) : Option ((((List (List UInt8)) × (List (Za5)) × (Int) × Unit) × ((Unit) × (Unit) × Unit)) ⊕ ((((Bool) × Unit) × ((Unit) × (Unit) × Unit)) ⊕ ((Unit) × ((Unit) × (Unit) × Unit)))) :=
 (bif (decide ((a.1.2.2.1 : Int) < (a.1.1.length : Int))) then
 (ZaP Za2 ((a.1.1, a.1.2.1, a.1.2.2.1, 0, ()), ((), (), ()))).bind fun b1 =>
 (match b1 with
 | .inl b2 =>
 some (.inr (.inl ((b2.1.1, ()), ((), (), ()))))
 | .inr b3 =>
 some (.inl ((b3.1.1, b3.1.2.1, (IntKind.i64.wrap (b3.1.2.2.1 + 1)), ()), ((), (), ()))))
 else
 some (.inr (.inr ((), ((), (), ())))))
noncomputable def Zb4 : LE CT Tryz.prog := ⟨5, [2, 3, 4], [.one (.own 2 0), .one (.own 4 1), .one (.int .i64)], [.row 9 1, .row 36 2], [⟨.ret, [0], [.one (.bool)], [.dead, .dead]⟩, ⟨.exit 0, [], [], [.dead, .dead]⟩], Za3⟩
noncomputable def Za4 (a : ((List (Zae)) × (Int) × Unit) × ((Unit) × Unit)) : Option ((((List (Zae)) × (Int) × Unit) × ((Unit) × Unit)) ⊕ ((((List (Zae)) × Unit) × ((Unit) × (Unit) × Unit)))) :=
 (bif (decide ((a.1.2.1 : Int) < 401)) then
 (b8 (IntKind.u8.wrap (IntKind.i64.wrap (97 + (((IntKind.i64.wrap ((a.1.2.1 : Int).tdiv 26)) : Int).tmod 26))))).bind fun u1 =>
 (b8 (IntKind.u8.wrap (IntKind.i64.wrap (97 + ((a.1.2.1 : Int).tmod 26))))).bind fun u2 =>
 (b8 (IntKind.u8.wrap (IntKind.i64.wrap (48 + (IntKind.i64.wrap ((a.1.2.1 : Int).tdiv 676)))))).bind fun u3 =>
 (if a.1.1.length + ([(⟨([u1, u2, u3] : List (UInt8)), ([] : List UInt8)⟩ : Zae)] : List (Zae)).length <= 140737488355328 /\ (a.1.1.length + ([(⟨([u1, u2, u3] : List (UInt8)), ([] : List UInt8)⟩ : Zae)] : List (Zae)).length) * 32 <= 140737488355328 then
 let y4 : List (Zae) := (a.1.1 ++ ([(⟨([u1, u2, u3] : List (UInt8)), ([] : List UInt8)⟩ : Zae)] : List (Zae)))
 some (.inl ((y4, (IntKind.i64.wrap (a.1.2.1 + 1)), ()), ((), ())))
 else none)
 else
 some (.inr ((a.1.1, ()), ((), (), ()))))
noncomputable def Zb5 : LE CT Tryz.prog := ⟨15, [7, 8], [.one (.own 3 0), .one (.int .i64)], [.row 48 2], [⟨.exit 4, [7], [.one (.own 3 1)], [.dead, .row 48 2]⟩], Za4⟩
noncomputable def Zb6 : List (LE CT Tryz.prog) := [Zb3, Zb4, Zb5]
theorem Zgq : Zh5 Zb3 (Zg9 (Zg9 (Zbp Tryz.f4) 0) 0) := fun A env h k z hk => ZdL (E := Zb3) (Zad Zb2) (dr := Zb1) (lps := Zaq Zb6) (Zai (by kernel_rfl)) (fun a => by kernel_rfl) env h k z hk
theorem Zgr : Zh5 Zb4 (Zg9 (Zbp Tryz.f4) 0) := fun A env h k z hk => ZdL (E := Zb4) (Zad Zb2) (dr := Zb1) (lps := Zaq Zb6) (Zcd (n := 1) (by kernel_rfl) fun i hi => match i, hi with | 0, _ => ZdM (E := Zb3) (by kernel_rfl) Zgq) (fun a => by kernel_rfl) env h k z hk
theorem Zgs : Zh5 Zb5 (Zg9 (Zbp Tryz.f4) 1) := fun A env h k z hk => ZdL (E := Zb5) (Zad Zb2) (dr := Zb1) (lps := Zaq Zb6) (Zai (by kernel_rfl)) (fun a => by kernel_rfl) env h k z hk
noncomputable def Zd4  : Option ((Bool) × (Unit)) :=
 let y1 : List UInt8 := ([97, 98, 99, 100, 101, 102, 103, 104, 105, 106, 107, 108, 109, 110, 111, 112, 113, 114, 115, 116] : List UInt8)
 (if y1.length + ([117] : List UInt8).length <= 140737488355328 then
 let y2 : List (List UInt8) := ([([] : List UInt8), ([97] : List UInt8), ([48] : List UInt8), ([122, 57] : List UInt8), y1, (y1 ++ ([117] : List UInt8)), ([65] : List UInt8), ([97, 32, 98] : List UInt8), ([97, 0] : List UInt8), ([123] : List UInt8), ([47] : List UInt8), ([58] : List UInt8)] : List (List UInt8))
 (if y1.length + ([117] : List UInt8).length <= 140737488355328 then
 let y3 : List (Za5) := ([(⟨([] : List UInt8), ([] : List UInt8)⟩ : Za5), (⟨([97] : List UInt8), ([] : List UInt8)⟩ : Za5), (⟨([] : List UInt8), ([97] : List UInt8)⟩ : Za5), (⟨([97] : List UInt8), ([98] : List UInt8)⟩ : Za5), (⟨([98] : List UInt8), ([97] : List UInt8)⟩ : Za5), (⟨([97] : List UInt8), ([97] : List UInt8)⟩ : Za5), (⟨([65] : List UInt8), ([] : List UInt8)⟩ : Za5), (⟨y1, (y1 ++ ([117] : List UInt8))⟩ : Za5), (⟨([122, 57] : List UInt8), ([122, 57, 48] : List UInt8)⟩ : Za5), (⟨([] : List UInt8), y1⟩ : Za5)] : List (Za5))
 (ZaP Za3 ((y2, y3, 0, ()), ((), (), ()))).bind fun b4 =>
 (match b4 with
 | .inl b5 =>
 some (b5.1.1, ())
 | .inr b6 =>
 (ZaP Za4 (([], 0, ()), ((), ()))).bind fun b7 =>
 (Znx).bind fun r8 =>
 (ZfT b7.1.1 (r8.2.1.1, r8.2.1.2.1, ()) r8.2.2.1).bind fun r9 =>
 (Zbn b7.1.1 ([], ())).bind fun r10 =>
 (bif (decide ((r9.1 : Int) ≠ r10.1)) then
 some (false, ())
 else
 (if 0 <= (1 : Int) /\ (1 : Int) <= (b7.1.1.length : Int) /\ (b7.1.1.length : Int) <= (b7.1.1.length : Int) then
 let y11 : List (Zae) := ((b7.1.1.drop (1 : Int).toNat).take (((b7.1.1.length : Int) : Int).toNat - (1 : Int).toNat))
 (if 0 <= (1 : Int) /\ (1 : Int) <= (b7.1.1.length : Int) /\ (b7.1.1.length : Int) <= (b7.1.1.length : Int) then
 let y12 : List (Zae) := ((b7.1.1.drop (1 : Int).toNat).take (((b7.1.1.length : Int) : Int).toNat - (1 : Int).toNat))
 (ZfT y11 (r9.2.1.1, r9.2.1.2.1, ()) r9.2.2.2.1).bind fun r13 =>
 (Zbn y12 (r10.2.1.1, ())).bind fun r14 =>
 (bif (decide ((r13.1 : Int) ≠ r14.1)) then
 some (false, ())
 else
 (if 0 <= ((0 : Int) : Int) /\ ((0 : Int) : Int) <= 1 /\ 1 <= (b7.1.1.length : Int) then
 let y15 : List (Zae) := ((b7.1.1.drop ((0 : Int) : Int).toNat).take ((1 : Int).toNat - ((0 : Int) : Int).toNat))
 (if 0 <= ((0 : Int) : Int) /\ ((0 : Int) : Int) <= 1 /\ 1 <= (b7.1.1.length : Int) then
 let y16 : List (Zae) := ((b7.1.1.drop ((0 : Int) : Int).toNat).take ((1 : Int).toNat - ((0 : Int) : Int).toNat))
 (ZfT y15 (r13.2.1.1, r13.2.1.2.1, ()) r13.2.2.2.1).bind fun r17 =>
 (Zbn y16 (r14.2.1.1, ())).bind fun r18 =>
 (bif (decide ((r17.1 : Int) ≠ r18.1)) then
 some (false, ())
 else
 (if 0 <= (5 : Int) /\ (5 : Int) <= 9 /\ 9 <= (b7.1.1.length : Int) then
 let y19 : List (Zae) := ((b7.1.1.drop (5 : Int).toNat).take ((9 : Int).toNat - (5 : Int).toNat))
 (if 0 <= (5 : Int) /\ (5 : Int) <= 9 /\ 9 <= (b7.1.1.length : Int) then
 let y20 : List (Zae) := ((b7.1.1.drop (5 : Int).toNat).take ((9 : Int).toNat - (5 : Int).toNat))
 (ZfT y19 (r17.2.1.1, r17.2.1.2.1, ()) r17.2.2.2.1).bind fun r21 =>
 (Zbn y20 (r18.2.1.1, ())).bind fun r22 =>
 (bif (decide ((r21.1 : Int) ≠ r22.1)) then
 some (false, ())
 else
 (Zds (r21.2.1.1, r21.2.1.2.1, ()) (r22.2.1.1, ()) r21.2.2.2.1).bind fun r23 =>
 (bif (!r23.1) then
 some (false, ())
 else
 (Zf2 (r23.2.1.1, r23.2.1.2.1, ()) r23.2.2.2.1).bind fun r24 =>
 (bif (decide ((r24.1 : Int) ≠ 400)) then
 some (false, ())
 else
 (ZpM ([97] : List UInt8)).bind fun r25 =>
 (bif (!r25.1.2.1) then
 (ZoJ).bind fun r26 =>
 (ZoK (0, false, ()) []).bind fun r27 =>
 (ZoL).bind fun r28 =>
 (Zf2 (r27.2.1.1, r27.2.1.2.1, ()) r27.2.2.2.1).bind fun r29 =>
 (ZsH (⟨([] : List UInt8), ([] : List UInt8)⟩ : Za5)).bind fun r30 =>
 (Zin (⟨([] : List UInt8), ([] : List UInt8)⟩ : Za5) (r29.2.1.1, r29.2.1.2.1, ()) r29.2.2.1).bind fun r31 =>
 (bif (decide (((IntKind.i64.wrap ((IntKind.i64.wrap ((IntKind.i64.wrap (r28.1 + r29.1)) + 0)) + (r31.1.length : Int))) : Int) = 0)) then
 (ZpN []).bind fun r32 =>
 (bif (decide ((r32.1 : Int) = 1)) then
 (ZfT ([(⟨([] : List UInt8), ([] : List UInt8)⟩ : Zae)] : List (Zae)) (r31.2.1.1, r31.2.1.2.1, ()) r31.2.2.2.2.1).bind fun r33 =>
 (bif (decide ((r33.1 : Int) = 1)) then
 (if r23.2.2.1.1.length + ([(⟨([122, 122, 122, 122] : List UInt8), ([] : List UInt8)⟩ : Zae)] : List (Zae)).length <= 140737488355328 /\ (r23.2.2.1.1.length + ([(⟨([122, 122, 122, 122] : List UInt8), ([] : List UInt8)⟩ : Zae)] : List (Zae)).length) * 32 <= 140737488355328 then
 (Zcy (r23.2.2.1.1 ++ ([(⟨([122, 122, 122, 122] : List UInt8), ([] : List UInt8)⟩ : Zae)] : List (Zae)))).bind fun r34 =>
 (Zby r23.2.2.1.1 r34.1).bind fun r35 =>
 (bif r35.1 then
 (ZaK).bind fun r36 =>
 some (r36.1, ())
 else
 some (false, ()))
 else none)
 else
 some (false, ()))
 else
 some (false, ()))
 else
 some (false, ()))
 else
 some (false, ())))))
 else none)
 else none))
 else none)
 else none))
 else none)
 else none)))
 else none)
 else none)
noncomputable def Zhr : CE CT Tryz.prog where
 f := 4
 args := []
 hs := []
 res := .val (.one (.bool))
 outs := []
 m := fun d dh => Zd4
 ok := ZaN Zan Tryz.func4 (by kernel_rfl) (Zad Zb2) (dr := Zb1) (lps := Zaq Zb6) (Zao (Zcd (n := 2) (by kernel_rfl) fun i hi => match i, hi with | 0, _ => ZdM (E := Zb4) (by kernel_rfl) Zgr | 1, _ => ZdM (E := Zb5) (by kernel_rfl) Zgs)) (fun d dh => by kernel_rfl)
end Go.Proofs.YtlmmpfbdgiokmaaGreat
