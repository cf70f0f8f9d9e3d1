/- The laws of the shelf on sorting, at this program. -/
import Derived.Shelf.Strconv.Itoa3
import Derived.Shelf.Sort.Plain
import Derived.Shelf.Slices.In.SortNone
import Derived.Shelf.SlGeneric
import Derived.Shelf.Spec.SlicesGrow
import Derived.Test.YteempnebenjkmaaDoorProg
namespace Go.Proofs
open Go.Shelf
def Tryd.lays171_ren : Go.Shelf.Ren := ⟨fun | 171 => 50 | 243 => 71 | 246 => 83 | 283 => 87 | 284 => 88 | 285 => 89 | 286 => 90 | 129 => 93 | 317 => 92 | 318 => 94 | 319 => 95 | 320 => 96 | 337 => 97 | 338 => 98 | n => n, fun | 3 => 3 | 9 => 9 | 2 => 2 | 4 => 4 | 171 => 154 | 0 => 0 | 53 => 155 | 37 => 27 | 5 => 5 | 173 => 158 | 212 => 161 | 51 => 116 | 20 => 20 | 213 => 162 | 46 => 128 | 232 => 166 | 233 => 167 | n => n, fun | 17 => 0 | 18 => 1 | 19 => 2 | n => n⟩
theorem Tryd.lays171 : Go.Proofs.Lays.n171 Tryd.prog Tryd.lays171_ren := {
 mixed := by kernel_rfl
 f129 := Tryd.func93.trans (congrArg some (by kernel_rfl))
 f171 := Tryd.func50.trans (congrArg some (by kernel_rfl))
 f243 := Tryd.func71.trans (congrArg some (by kernel_rfl))
 f246 := Tryd.func83.trans (congrArg some (by kernel_rfl))
 f283 := Tryd.func87.trans (congrArg some (by kernel_rfl))
 f284 := Tryd.func88.trans (congrArg some (by kernel_rfl))
 f285 := Tryd.func89.trans (congrArg some (by kernel_rfl))
 f286 := Tryd.func90.trans (congrArg some (by kernel_rfl))
 f317 := Tryd.func92.trans (congrArg some (by kernel_rfl))
 f318 := Tryd.func94.trans (congrArg some (by kernel_rfl))
 f319 := Tryd.func95.trans (congrArg some (by kernel_rfl))
 f320 := Tryd.func96.trans (congrArg some (by kernel_rfl))
 f337 := Tryd.func97.trans (congrArg some (by kernel_rfl))
 f338 := Tryd.func98.trans (congrArg some (by kernel_rfl))
 t0 := Tryd.underlying0
 a0 := Tryd.isAgg0
 z0 := Tryd.sizeOf0
 v0 := Tryd.zeroValue0
 t2 := Tryd.underlying2
 a2 := Tryd.isAgg2
 z2 := Tryd.sizeOf2
 v2 := Tryd.zeroValue2
 t3 := Tryd.underlying3
 a3 := Tryd.isAgg3
 z3 := Tryd.sizeOf3
 v3 := Tryd.zeroValue3
 t4 := Tryd.underlying4
 a4 := Tryd.isAgg4
 z4 := Tryd.sizeOf4
 v4 := Tryd.zeroValue4
 t5 := Tryd.underlying5
 a5 := Tryd.isAgg5
 z5 := Tryd.sizeOf5
 v5 := Tryd.zeroValue5
 t9 := Tryd.underlying9
 a9 := Tryd.isAgg9
 z9 := Tryd.sizeOf9
 v9 := Tryd.zeroValue9
 t20 := Tryd.underlying20
 a20 := Tryd.isAgg20
 z20 := Tryd.sizeOf20
 v20 := Tryd.zeroValue20
 t37 := Tryd.underlying27
 a37 := Tryd.isAgg27
 z37 := Tryd.sizeOf27
 v37 := Tryd.zeroValue27
 t46 := Tryd.underlying128
 a46 := Tryd.isAgg128
 z46 := Tryd.sizeOf128
 v46 := Tryd.zeroValue128
 t51 := Tryd.underlying116
 a51 := Tryd.isAgg116
 z51 := Tryd.sizeOf116
 v51 := Tryd.zeroValue116
 t53 := Tryd.underlying155
 a53 := Tryd.isAgg155
 z53 := Tryd.sizeOf155
 v53 := Tryd.zeroValue155
 t171 := Tryd.underlying154
 a171 := Tryd.isAgg154
 z171 := Tryd.sizeOf154
 v171 := Tryd.zeroValue154
 t173 := Tryd.underlying158
 a173 := Tryd.isAgg158
 z173 := Tryd.sizeOf158
 v173 := Tryd.zeroValue158
 t212 := Tryd.underlying161
 a212 := Tryd.isAgg161
 z212 := Tryd.sizeOf161
 v212 := Tryd.zeroValue161
 t213 := Tryd.underlying162
 a213 := Tryd.isAgg162
 z213 := Tryd.sizeOf162
 t232 := Tryd.underlying166
 a232 := Tryd.isAgg166
 z232 := Tryd.sizeOf166
 v232 := Tryd.zeroValue166
 t233 := Tryd.underlying167
 a233 := Tryd.isAgg167
 z233 := Tryd.sizeOf167
 v233 := Tryd.zeroValue167
 g17 := by kernel_rfl
 g18 := by kernel_rfl
 g19 := by kernel_rfl }
open Go.RowKit Go.Sort Go.Lib in
theorem Tryd.strconv_Itoa_small (i : Nat) (hi : i < 100) (w : World) :
 Calls Tryd.prog 50 #[.int .i64 i] w fun e w' => e = .returned (.string ⟨(Lib.decDigits i).toArray⟩) /\ w' = w := Any.strconv_Itoa_small Tryd.lays171 i hi w
def Tryd.growLay73_ren : Go.Shelf.Ren := ⟨fun | 4 => 73 | n => n, fun | 22 => 27 | 25 => 5 | 3 => 3 | 4 => 4 | 9 => 9 | 20 => 20 | 0 => 0 | n => n, fun | n => n⟩
theorem Tryd.growLay73 : Go.Proofs.Lays8.n4 Tryd.prog Tryd.growLay73_ren := {
 mixed := by kernel_rfl
 f4 := ⟨Tryd.f73.name, by decide, Tryd.func73.trans (congrArg some (by kernel_rfl))⟩
 t0 := Tryd.underlying0
 a0 := Tryd.isAgg0
 z0 := Tryd.sizeOf0
 v0 := Tryd.zeroValue0
 t3 := Tryd.underlying3
 a3 := Tryd.isAgg3
 z3 := Tryd.sizeOf3
 v3 := Tryd.zeroValue3
 t4 := Tryd.underlying4
 a4 := Tryd.isAgg4
 z4 := Tryd.sizeOf4
 v4 := Tryd.zeroValue4
 t9 := Tryd.underlying9
 a9 := Tryd.isAgg9
 z9 := Tryd.sizeOf9
 v9 := Tryd.zeroValue9
 t20 := Tryd.underlying20
 a20 := Tryd.isAgg20
 z20 := Tryd.sizeOf20
 v20 := Tryd.zeroValue20
 t22 := Tryd.underlying27
 a22 := Tryd.isAgg27
 z22 := Tryd.sizeOf27
 v22 := Tryd.zeroValue27 }
end Go.Proofs
