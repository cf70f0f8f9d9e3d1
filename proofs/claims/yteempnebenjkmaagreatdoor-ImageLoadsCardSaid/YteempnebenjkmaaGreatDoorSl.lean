/- The laws of the shelf on sorting, at this program. -/
import Derived.Shelf.Strconv.Itoa3
import Derived.Shelf.Sort.Plain
import Derived.Shelf.Slices.In.SortNone
import Derived.Shelf.SlGeneric
import Derived.Shelf.Spec.SlicesGrow
import Derived.Test.YteempnebenjkmaaGreatDoorProg
namespace Go.Proofs
open Go.Shelf
def Tryz.lays171_ren : Go.Shelf.Ren := ⟨fun | 171 => 86 | 243 => 152 | 246 => 198 | 283 => 219 | 284 => 220 | 285 => 221 | 286 => 222 | 129 => 218 | 317 => 231 | 318 => 232 | 319 => 233 | 320 => 234 | 337 => 236 | 338 => 237 | n => n, fun | 3 => 3 | 9 => 9 | 2 => 2 | 4 => 4 | 171 => 345 | 0 => 0 | 53 => 175 | 37 => 22 | 5 => 5 | 173 => 347 | 212 => 357 | 51 => 74 | 20 => 20 | 213 => 358 | 46 => 162 | 232 => 362 | 233 => 363 | n => n, fun | 17 => 0 | 18 => 1 | 19 => 2 | n => n⟩
theorem Tryz.lays171 : Go.Proofs.Lays.n171 Tryz.prog Tryz.lays171_ren := {
 mixed := by kernel_rfl
 f129 := Tryz.func218.trans (congrArg some (by kernel_rfl))
 f171 := Tryz.func86.trans (congrArg some (by kernel_rfl))
 f243 := Tryz.func152.trans (congrArg some (by kernel_rfl))
 f246 := Tryz.func198.trans (congrArg some (by kernel_rfl))
 f283 := Tryz.func219.trans (congrArg some (by kernel_rfl))
 f284 := Tryz.func220.trans (congrArg some (by kernel_rfl))
 f285 := Tryz.func221.trans (congrArg some (by kernel_rfl))
 f286 := Tryz.func222.trans (congrArg some (by kernel_rfl))
 f317 := Tryz.func231.trans (congrArg some (by kernel_rfl))
 f318 := Tryz.func232.trans (congrArg some (by kernel_rfl))
 f319 := Tryz.func233.trans (congrArg some (by kernel_rfl))
 f320 := Tryz.func234.trans (congrArg some (by kernel_rfl))
 f337 := Tryz.func236.trans (congrArg some (by kernel_rfl))
 f338 := Tryz.func237.trans (congrArg some (by kernel_rfl))
 t0 := Tryz.underlying0
 a0 := Tryz.isAgg0
 z0 := Tryz.sizeOf0
 v0 := Tryz.zeroValue0
 t2 := Tryz.underlying2
 a2 := Tryz.isAgg2
 z2 := Tryz.sizeOf2
 v2 := Tryz.zeroValue2
 t3 := Tryz.underlying3
 a3 := Tryz.isAgg3
 z3 := Tryz.sizeOf3
 v3 := Tryz.zeroValue3
 t4 := Tryz.underlying4
 a4 := Tryz.isAgg4
 z4 := Tryz.sizeOf4
 v4 := Tryz.zeroValue4
 t5 := Tryz.underlying5
 a5 := Tryz.isAgg5
 z5 := Tryz.sizeOf5
 v5 := Tryz.zeroValue5
 t9 := Tryz.underlying9
 a9 := Tryz.isAgg9
 z9 := Tryz.sizeOf9
 v9 := Tryz.zeroValue9
 t20 := Tryz.underlying20
 a20 := Tryz.isAgg20
 z20 := Tryz.sizeOf20
 v20 := Tryz.zeroValue20
 t37 := Tryz.underlying22
 a37 := Tryz.isAgg22
 z37 := Tryz.sizeOf22
 v37 := Tryz.zeroValue22
 t46 := Tryz.underlying162
 a46 := Tryz.isAgg162
 z46 := Tryz.sizeOf162
 v46 := Tryz.zeroValue162
 t51 := Tryz.underlying74
 a51 := Tryz.isAgg74
 z51 := Tryz.sizeOf74
 v51 := Tryz.zeroValue74
 t53 := Tryz.underlying175
 a53 := Tryz.isAgg175
 z53 := Tryz.sizeOf175
 v53 := Tryz.zeroValue175
 t171 := Tryz.underlying345
 a171 := Tryz.isAgg345
 z171 := Tryz.sizeOf345
 v171 := Tryz.zeroValue345
 t173 := Tryz.underlying347
 a173 := Tryz.isAgg347
 z173 := Tryz.sizeOf347
 v173 := Tryz.zeroValue347
 t212 := Tryz.underlying357
 a212 := Tryz.isAgg357
 z212 := Tryz.sizeOf357
 v212 := Tryz.zeroValue357
 t213 := Tryz.underlying358
 a213 := Tryz.isAgg358
 z213 := Tryz.sizeOf358
 t232 := Tryz.underlying362
 a232 := Tryz.isAgg362
 z232 := Tryz.sizeOf362
 v232 := Tryz.zeroValue362
 t233 := Tryz.underlying363
 a233 := Tryz.isAgg363
 z233 := Tryz.sizeOf363
 v233 := Tryz.zeroValue363
 g17 := by kernel_rfl
 g18 := by kernel_rfl
 g19 := by kernel_rfl }
open Go.RowKit Go.Sort Go.Lib in
theorem Tryz.strconv_Itoa_small (i : Nat) (hi : i < 100) (w : World) :
 Calls Tryz.prog 86 #[.int .i64 i] w fun e w' => e = .returned (.string ⟨(Lib.decDigits i).toArray⟩) /\ w' = w := Any.strconv_Itoa_small Tryz.lays171 i hi w
def Tryz.lays190_ren : Go.Shelf.Ren := ⟨fun | 190 => 149 | 125 => 197 | 258 => 196 | 128 => 217 | 129 => 218 | 302 => 208 | 303 => 209 | 304 => 210 | 305 => 211 | 306 => 212 | 307 => 213 | 308 => 214 | 309 => 215 | 310 => 216 | 333 => 225 | 329 => 226 | 330 => 227 | 334 => 228 | 335 => 229 | 336 => 230 | 344 => 235 | n => n, fun | 31 => 69 | 9 => 9 | 3 => 3 | 46 => 162 | 0 => 0 | 51 => 74 | 53 => 175 | 4 => 4 | 183 => 336 | 182 => 335 | 131 => 341 | 5 => 5 | 218 => 350 | 222 => 354 | 228 => 360 | 229 => 233 | n => n, fun | n => n⟩
theorem Tryz.lays190 : Go.Proofs.Lays.n190 Tryz.prog Tryz.lays190_ren := {
 mixed := by kernel_rfl
 f125 := Tryz.func197.trans (congrArg some (by kernel_rfl))
 f128 := Tryz.func217.trans (congrArg some (by kernel_rfl))
 f129 := Tryz.func218.trans (congrArg some (by kernel_rfl))
 f190 := Tryz.func149.trans (congrArg some (by kernel_rfl))
 f258 := Tryz.func196.trans (congrArg some (by kernel_rfl))
 f302 := Tryz.func208.trans (congrArg some (by kernel_rfl))
 f303 := Tryz.func209.trans (congrArg some (by kernel_rfl))
 f304 := Tryz.func210.trans (congrArg some (by kernel_rfl))
 f305 := Tryz.func211.trans (congrArg some (by kernel_rfl))
 f306 := Tryz.func212.trans (congrArg some (by kernel_rfl))
 f307 := Tryz.func213.trans (congrArg some (by kernel_rfl))
 f308 := Tryz.func214.trans (congrArg some (by kernel_rfl))
 f309 := Tryz.func215.trans (congrArg some (by kernel_rfl))
 f310 := Tryz.func216.trans (congrArg some (by kernel_rfl))
 f329 := Tryz.func226.trans (congrArg some (by kernel_rfl))
 f330 := Tryz.func227.trans (congrArg some (by kernel_rfl))
 f333 := Tryz.func225.trans (congrArg some (by kernel_rfl))
 f334 := Tryz.func228.trans (congrArg some (by kernel_rfl))
 f335 := Tryz.func229.trans (congrArg some (by kernel_rfl))
 f336 := Tryz.func230.trans (congrArg some (by kernel_rfl))
 f344 := Tryz.func235.trans (congrArg some (by kernel_rfl))
 t0 := Tryz.underlying0
 a0 := Tryz.isAgg0
 z0 := Tryz.sizeOf0
 v0 := Tryz.zeroValue0
 t3 := Tryz.underlying3
 a3 := Tryz.isAgg3
 z3 := Tryz.sizeOf3
 v3 := Tryz.zeroValue3
 t4 := Tryz.underlying4
 a4 := Tryz.isAgg4
 z4 := Tryz.sizeOf4
 v4 := Tryz.zeroValue4
 t5 := Tryz.underlying5
 a5 := Tryz.isAgg5
 z5 := Tryz.sizeOf5
 v5 := Tryz.zeroValue5
 t9 := Tryz.underlying9
 a9 := Tryz.isAgg9
 z9 := Tryz.sizeOf9
 v9 := Tryz.zeroValue9
 t31 := Tryz.underlying69
 a31 := Tryz.isAgg69
 z31 := Tryz.sizeOf69
 v31 := Tryz.zeroValue69
 t46 := Tryz.underlying162
 a46 := Tryz.isAgg162
 z46 := Tryz.sizeOf162
 v46 := Tryz.zeroValue162
 t51 := Tryz.underlying74
 a51 := Tryz.isAgg74
 z51 := Tryz.sizeOf74
 v51 := Tryz.zeroValue74
 t53 := Tryz.underlying175
 a53 := Tryz.isAgg175
 z53 := Tryz.sizeOf175
 v53 := Tryz.zeroValue175
 t131 := Tryz.underlying341
 a131 := Tryz.isAgg341
 z131 := Tryz.sizeOf341
 v131 := Tryz.zeroValue341
 t182 := Tryz.underlying335
 a182 := Tryz.isAgg335
 z182 := Tryz.sizeOf335
 v182 := Tryz.zeroValue335
 t183 := Tryz.underlying336
 a183 := Tryz.isAgg336
 z183 := Tryz.sizeOf336
 v183 := Tryz.zeroValue336
 t218 := Tryz.underlying350
 a218 := Tryz.isAgg350
 z218 := Tryz.sizeOf350
 v218 := Tryz.zeroValue350
 t222 := Tryz.underlying354
 a222 := Tryz.isAgg354
 z222 := Tryz.sizeOf354
 v222 := Tryz.zeroValue354
 t228 := Tryz.underlying360
 a228 := Tryz.isAgg360
 z228 := Tryz.sizeOf360
 v228 := Tryz.zeroValue360
 t229 := Tryz.underlying233
 a229 := Tryz.isAgg233
 z229 := Tryz.sizeOf233
 v229 := Tryz.zeroValue233 }
open Go.Sort Go.RowKit in
theorem Tryz.slices_Sort_string (blk off cap : Nat) (ss : List (List UInt8)) (w : World) (hH : Holds encStr w blk off ss.toArray) (hblk : blk < w.heap.size) (hsz : ss.length < 4611686018427387904) :
 Calls Tryz.prog 149 #[.slice (some ⟨blk, off, none⟩) ss.length cap] w fun e w' =>
  e = .returned (.tuple #[]) /\ ∃ n os, w' = grow (putRow encStr (Sort.ahead w n) blk off (ss.mergeSort fun x y => decide (x <= y)).toArray) os := Any.slices_Sort_string Tryz.lays190 blk off cap ss w hH hblk hsz
open Go.RowKit Go.Sort in
theorem Tryz.slices_Sort_string_none (p : Option Addr) (cap : Nat) (w : World) :
 Calls Tryz.prog 149 #[.slice p 0 cap] w fun e w' => e = .returned (.tuple #[]) /\ w' = w := Any.slices_Sort_string_none Tryz.lays190 p cap w
def Tryz.growLay84_ren : Go.Shelf.Ren := ⟨fun | 4 => 84 | n => n, fun | 22 => 22 | 25 => 5 | 3 => 3 | 4 => 4 | 9 => 9 | 20 => 20 | 0 => 0 | n => n, fun | n => n⟩
theorem Tryz.growLay84 : Go.Proofs.Lays8.n4 Tryz.prog Tryz.growLay84_ren := {
 mixed := by kernel_rfl
 f4 := ⟨Tryz.f84.name, by decide, Tryz.func84.trans (congrArg some (by kernel_rfl))⟩
 t0 := Tryz.underlying0
 a0 := Tryz.isAgg0
 z0 := Tryz.sizeOf0
 v0 := Tryz.zeroValue0
 t3 := Tryz.underlying3
 a3 := Tryz.isAgg3
 z3 := Tryz.sizeOf3
 v3 := Tryz.zeroValue3
 t4 := Tryz.underlying4
 a4 := Tryz.isAgg4
 z4 := Tryz.sizeOf4
 v4 := Tryz.zeroValue4
 t9 := Tryz.underlying9
 a9 := Tryz.isAgg9
 z9 := Tryz.sizeOf9
 v9 := Tryz.zeroValue9
 t20 := Tryz.underlying20
 a20 := Tryz.isAgg20
 z20 := Tryz.sizeOf20
 v20 := Tryz.zeroValue20
 t22 := Tryz.underlying22
 a22 := Tryz.isAgg22
 z22 := Tryz.sizeOf22
 v22 := Tryz.zeroValue22 }
end Go.Proofs
