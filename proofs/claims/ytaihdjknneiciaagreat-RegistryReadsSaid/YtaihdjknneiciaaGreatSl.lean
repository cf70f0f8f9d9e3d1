/- The laws of the shelf on sorting, at this program. -/
import Derived.Shelf.Sort.Plain
import Derived.Shelf.Slices.In.SortNone
import Derived.Test.YtaihdjknneiciaaGreatProg
namespace Go.Proofs
open Go.Shelf
def Tryz.lays190_ren : Go.Shelf.Ren := ⟨fun | 190 => 267 | 125 => 271 | 258 => 270 | 128 => 281 | 129 => 282 | 302 => 272 | 303 => 273 | 304 => 274 | 305 => 275 | 306 => 276 | 307 => 277 | 308 => 278 | 309 => 279 | 310 => 280 | 333 => 283 | 329 => 284 | 330 => 285 | 334 => 286 | 335 => 287 | 336 => 257 | 344 => 288 | n => n, fun | 31 => 84 | 9 => 9 | 3 => 3 | 46 => 236 | 0 => 0 | 51 => 285 | 53 => 235 | 4 => 4 | 183 => 392 | 182 => 391 | 131 => 203 | 5 => 5 | 218 => 400 | 222 => 346 | 228 => 405 | 229 => 244 | n => n, fun | n => n⟩
theorem Tryz.lays190 : Go.Proofs.Lays.n190 Tryz.prog Tryz.lays190_ren := {
 mixed := by kernel_rfl
 f125 := Tryz.func271.trans (congrArg some (by kernel_rfl))
 f128 := Tryz.func281.trans (congrArg some (by kernel_rfl))
 f129 := Tryz.func282.trans (congrArg some (by kernel_rfl))
 f190 := Tryz.func267.trans (congrArg some (by kernel_rfl))
 f258 := Tryz.func270.trans (congrArg some (by kernel_rfl))
 f302 := Tryz.func272.trans (congrArg some (by kernel_rfl))
 f303 := Tryz.func273.trans (congrArg some (by kernel_rfl))
 f304 := Tryz.func274.trans (congrArg some (by kernel_rfl))
 f305 := Tryz.func275.trans (congrArg some (by kernel_rfl))
 f306 := Tryz.func276.trans (congrArg some (by kernel_rfl))
 f307 := Tryz.func277.trans (congrArg some (by kernel_rfl))
 f308 := Tryz.func278.trans (congrArg some (by kernel_rfl))
 f309 := Tryz.func279.trans (congrArg some (by kernel_rfl))
 f310 := Tryz.func280.trans (congrArg some (by kernel_rfl))
 f329 := Tryz.func284.trans (congrArg some (by kernel_rfl))
 f330 := Tryz.func285.trans (congrArg some (by kernel_rfl))
 f333 := Tryz.func283.trans (congrArg some (by kernel_rfl))
 f334 := Tryz.func286.trans (congrArg some (by kernel_rfl))
 f335 := Tryz.func287.trans (congrArg some (by kernel_rfl))
 f336 := Tryz.func257.trans (congrArg some (by kernel_rfl))
 f344 := Tryz.func288.trans (congrArg some (by kernel_rfl))
 t0 := Tryz.underlying0
 a0 := Tryz.isAgg0
 z0 := Tryz.sizeOf0
 v0 := Tryz.zeroValue0
 t3 := Tryz.underlying3
 a3 := Tryz.isAgg3
 z3 := Tryz.sizeOf3
 v3 := Tryz.zeroValue3
 t4 := Tryz.underlying4
 a4 := Tryz.isAgg4
 z4 := Tryz.sizeOf4
 v4 := Tryz.zeroValue4
 t5 := Tryz.underlying5
 a5 := Tryz.isAgg5
 z5 := Tryz.sizeOf5
 v5 := Tryz.zeroValue5
 t9 := Tryz.underlying9
 a9 := Tryz.isAgg9
 z9 := Tryz.sizeOf9
 v9 := Tryz.zeroValue9
 t31 := Tryz.underlying84
 a31 := Tryz.isAgg84
 z31 := Tryz.sizeOf84
 v31 := Tryz.zeroValue84
 t46 := Tryz.underlying236
 a46 := Tryz.isAgg236
 z46 := Tryz.sizeOf236
 v46 := Tryz.zeroValue236
 t51 := Tryz.underlying285
 a51 := Tryz.isAgg285
 z51 := Tryz.sizeOf285
 v51 := Tryz.zeroValue285
 t53 := Tryz.underlying235
 a53 := Tryz.isAgg235
 z53 := Tryz.sizeOf235
 v53 := Tryz.zeroValue235
 t131 := Tryz.underlying203
 a131 := Tryz.isAgg203
 z131 := Tryz.sizeOf203
 v131 := Tryz.zeroValue203
 t182 := Tryz.underlying391
 a182 := Tryz.isAgg391
 z182 := Tryz.sizeOf391
 v182 := Tryz.zeroValue391
 t183 := Tryz.underlying392
 a183 := Tryz.isAgg392
 z183 := Tryz.sizeOf392
 v183 := Tryz.zeroValue392
 t218 := Tryz.underlying400
 a218 := Tryz.isAgg400
 z218 := Tryz.sizeOf400
 v218 := Tryz.zeroValue400
 t222 := Tryz.underlying346
 a222 := Tryz.isAgg346
 z222 := Tryz.sizeOf346
 v222 := Tryz.zeroValue346
 t228 := Tryz.underlying405
 a228 := Tryz.isAgg405
 z228 := Tryz.sizeOf405
 v228 := Tryz.zeroValue405
 t229 := Tryz.underlying244
 a229 := Tryz.isAgg244
 z229 := Tryz.sizeOf244
 v229 := Tryz.zeroValue244 }
open Go.Sort Go.RowKit in
theorem Tryz.slices_Sort_string (blk off cap : Nat) (ss : List (List UInt8)) (w : World) (hH : Holds encStr w blk off ss.toArray) (hblk : blk < w.heap.size) (hsz : ss.length < 4611686018427387904) :
 Calls Tryz.prog 267 #[.slice (some ⟨blk, off, none⟩) ss.length cap] w fun e w' =>
  e = .returned (.tuple #[]) /\ ∃ n os, w' = grow (putRow encStr (Sort.ahead w n) blk off (ss.mergeSort fun x y => decide (x <= y)).toArray) os := Any.slices_Sort_string Tryz.lays190 blk off cap ss w hH hblk hsz
open Go.RowKit Go.Sort in
theorem Tryz.slices_Sort_string_none (p : Option Addr) (cap : Nat) (w : World) :
 Calls Tryz.prog 267 #[.slice p 0 cap] w fun e w' => e = .returned (.tuple #[]) /\ w' = w := Any.slices_Sort_string_none Tryz.lays190 p cap w
end Go.Proofs
