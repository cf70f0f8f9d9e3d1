/- The laws of the shelf on sorting, at this program. -/
import Derived.Shelf.Sort.Plain
import Derived.Shelf.Slices.In.SortNone
import Derived.Shelf.SlGeneric
import Derived.Shelf.Spec.SlicesGrow
import Derived.Test.YtinpiaibhjmfaaaProg
namespace Go.Proofs
open Go.Shelf
def Try.lays190_ren : Go.Shelf.Ren := ⟨fun | 190 => 76 | 125 => 81 | 258 => 80 | 128 => 91 | 129 => 92 | 302 => 82 | 303 => 83 | 304 => 84 | 305 => 85 | 306 => 86 | 307 => 87 | 308 => 88 | 309 => 89 | 310 => 90 | 333 => 93 | 329 => 94 | 330 => 95 | 334 => 96 | 335 => 97 | 336 => 98 | 344 => 99 | n => n, fun | 31 => 26 | 9 => 9 | 3 => 3 | 46 => 102 | 0 => 0 | 51 => 125 | 53 => 108 | 4 => 4 | 183 => 117 | 182 => 116 | 131 => 122 | 5 => 5 | 218 => 127 | 222 => 131 | 228 => 133 | 229 => 134 | n => n, fun | n => n⟩
theorem Try.lays190 : Go.Proofs.Lays.n190 Try.prog Try.lays190_ren := {
 mixed := by kernel_rfl
 f125 := Try.func81.trans (congrArg some (by kernel_rfl))
 f128 := Try.func91.trans (congrArg some (by kernel_rfl))
 f129 := Try.func92.trans (congrArg some (by kernel_rfl))
 f190 := Try.func76.trans (congrArg some (by kernel_rfl))
 f258 := Try.func80.trans (congrArg some (by kernel_rfl))
 f302 := Try.func82.trans (congrArg some (by kernel_rfl))
 f303 := Try.func83.trans (congrArg some (by kernel_rfl))
 f304 := Try.func84.trans (congrArg some (by kernel_rfl))
 f305 := Try.func85.trans (congrArg some (by kernel_rfl))
 f306 := Try.func86.trans (congrArg some (by kernel_rfl))
 f307 := Try.func87.trans (congrArg some (by kernel_rfl))
 f308 := Try.func88.trans (congrArg some (by kernel_rfl))
 f309 := Try.func89.trans (congrArg some (by kernel_rfl))
 f310 := Try.func90.trans (congrArg some (by kernel_rfl))
 f329 := Try.func94.trans (congrArg some (by kernel_rfl))
 f330 := Try.func95.trans (congrArg some (by kernel_rfl))
 f333 := Try.func93.trans (congrArg some (by kernel_rfl))
 f334 := Try.func96.trans (congrArg some (by kernel_rfl))
 f335 := Try.func97.trans (congrArg some (by kernel_rfl))
 f336 := Try.func98.trans (congrArg some (by kernel_rfl))
 f344 := Try.func99.trans (congrArg some (by kernel_rfl))
 t0 := Try.underlying0
 a0 := Try.isAgg0
 z0 := Try.sizeOf0
 v0 := Try.zeroValue0
 t3 := Try.underlying3
 a3 := Try.isAgg3
 z3 := Try.sizeOf3
 v3 := Try.zeroValue3
 t4 := Try.underlying4
 a4 := Try.isAgg4
 z4 := Try.sizeOf4
 v4 := Try.zeroValue4
 t5 := Try.underlying5
 a5 := Try.isAgg5
 z5 := Try.sizeOf5
 v5 := Try.zeroValue5
 t9 := Try.underlying9
 a9 := Try.isAgg9
 z9 := Try.sizeOf9
 v9 := Try.zeroValue9
 t31 := Try.underlying26
 a31 := Try.isAgg26
 z31 := Try.sizeOf26
 v31 := Try.zeroValue26
 t46 := Try.underlying102
 a46 := Try.isAgg102
 z46 := Try.sizeOf102
 v46 := Try.zeroValue102
 t51 := Try.underlying125
 a51 := Try.isAgg125
 z51 := Try.sizeOf125
 v51 := Try.zeroValue125
 t53 := Try.underlying108
 a53 := Try.isAgg108
 z53 := Try.sizeOf108
 v53 := Try.zeroValue108
 t131 := Try.underlying122
 a131 := Try.isAgg122
 z131 := Try.sizeOf122
 v131 := Try.zeroValue122
 t182 := Try.underlying116
 a182 := Try.isAgg116
 z182 := Try.sizeOf116
 v182 := Try.zeroValue116
 t183 := Try.underlying117
 a183 := Try.isAgg117
 z183 := Try.sizeOf117
 v183 := Try.zeroValue117
 t218 := Try.underlying127
 a218 := Try.isAgg127
 z218 := Try.sizeOf127
 v218 := Try.zeroValue127
 t222 := Try.underlying131
 a222 := Try.isAgg131
 z222 := Try.sizeOf131
 v222 := Try.zeroValue131
 t228 := Try.underlying133
 a228 := Try.isAgg133
 z228 := Try.sizeOf133
 v228 := Try.zeroValue133
 t229 := Try.underlying134
 a229 := Try.isAgg134
 z229 := Try.sizeOf134
 v229 := Try.zeroValue134 }
open Go.Sort Go.RowKit in
theorem Try.slices_Sort_string (blk off cap : Nat) (ss : List (List UInt8)) (w : World) (hH : Holds encStr w blk off ss.toArray) (hblk : blk < w.heap.size) (hsz : ss.length < 4611686018427387904) :
 Calls Try.prog 76 #[.slice (some ⟨blk, off, none⟩) ss.length cap] w fun e w' =>
  e = .returned (.tuple #[]) /\ ∃ n os, w' = grow (putRow encStr (Sort.ahead w n) blk off (ss.mergeSort fun x y => decide (x <= y)).toArray) os := Any.slices_Sort_string Try.lays190 blk off cap ss w hH hblk hsz
open Go.RowKit Go.Sort in
theorem Try.slices_Sort_string_none (p : Option Addr) (cap : Nat) (w : World) :
 Calls Try.prog 76 #[.slice p 0 cap] w fun e w' => e = .returned (.tuple #[]) /\ w' = w := Any.slices_Sort_string_none Try.lays190 p cap w
def Try.growLay64_ren : Go.Shelf.Ren := ⟨fun | 4 => 64 | n => n, fun | 22 => 32 | 25 => 5 | 3 => 3 | 4 => 4 | 9 => 9 | 20 => 20 | 0 => 0 | n => n, fun | n => n⟩
theorem Try.growLay64 : Go.Proofs.Lays8.n4 Try.prog Try.growLay64_ren := {
 mixed := by kernel_rfl
 f4 := ⟨Try.f64.name, by decide, Try.func64.trans (congrArg some (by kernel_rfl))⟩
 t0 := Try.underlying0
 a0 := Try.isAgg0
 z0 := Try.sizeOf0
 v0 := Try.zeroValue0
 t3 := Try.underlying3
 a3 := Try.isAgg3
 z3 := Try.sizeOf3
 v3 := Try.zeroValue3
 t4 := Try.underlying4
 a4 := Try.isAgg4
 z4 := Try.sizeOf4
 v4 := Try.zeroValue4
 t9 := Try.underlying9
 a9 := Try.isAgg9
 z9 := Try.sizeOf9
 v9 := Try.zeroValue9
 t20 := Try.underlying20
 a20 := Try.isAgg20
 z20 := Try.sizeOf20
 v20 := Try.zeroValue20
 t22 := Try.underlying32
 a22 := Try.isAgg32
 z22 := Try.sizeOf32
 v22 := Try.zeroValue32 }
end Go.Proofs
