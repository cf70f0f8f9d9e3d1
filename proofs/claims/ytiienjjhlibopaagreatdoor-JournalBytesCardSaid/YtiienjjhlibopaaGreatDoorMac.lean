/- XKj, XSl, XOpen, XBr, XTb, XWr, XGw, XFx, XSm, XBy in one. -/
import Derived.Test.YtiienjjhlibopaaGreatDoorMab
import Derived.Shelf.Strconv.Itoa3
import Derived.Shelf.Sort.Plain
import Derived.Shelf.Slices.In.SortNone
import Derived.Shelf.SlGeneric
import Derived.Shelf.Spec.SlicesGrow
import Derived.Test.YtiienjjhlibopaaGreatDoorProg
import Derived.Test.YtiienjjhlibopaaGreatDoorBa
import Derived.ProofKit
import Derived.SizedLaws
import Derived.Test.YtiienjjhlibopaaGreatDoorMaa
import Derived.Test.YtiienjjhlibopaaGreatDoorChecked
import Derived.Sort.Grow
import Derived.Test.YtiienjjhlibopaaGreatDoorFacts
namespace Go.Proofs.YtiienjjhlibopaaGreatDoor
open Go.RowKit
set_option linter.unusedSimpArgs false
set_option maxRecDepth 100000
set_option linter.unusedVariables false
def Ls (σ : St) (e : TypeId) (v : AV) (n : Nat) (cells : List AV) : Prop := cells.length = n /\ (∀ a ∈ cells, a.one = true) /\ ((∃ A c rest, v = .lst A n c (cells ++ rest) /\ (A = none -> n = 0)) \/ Hd σ e 1 v n cells)
section
variable {P : Program} {ops : Array Oper} {env : Env} {σ τ : St} {K : Env -> St -> Prop} {d : Option Nat} {ty ty' t : TypeId} {pos : String} {af : Array Edge} {x y z : Operand}
theorem Ls.of {e n : Nat} {v : AV} {cells : List AV} (h : Hd σ e 1 v n cells) : Ls σ e v n cells := ⟨by rw [h.len, Nat.mul_one], h.one, .inr h⟩
theorem Ls.but {U : Nat -> Prop} {e n : Nat} {v : AV} {cells : List AV} (h : Ls σ e v n cells) (k : But U σ τ) (hU : ∀ c, hbk v = some c -> ¬ U c) : Ls τ e v n cells := ⟨h.1, h.2.1, h.2.2.imp id fun q => q.but k hU⟩
theorem Ls.ext {e n : Nat} {v : AV} {cells : List AV} (h : Ls σ e v n cells) (k : Ext σ τ) : Ls τ e v n cells := h.but (U := fun _ => False) k.but fun _ _ => id
theorem Ls.val {e n : Nat} {v : AV} {cells : List AV} (h : Ls σ e v n cells) : ∃ A c, v.val = .slice A n c /\ (A = none -> n = 0) := by
 rcases h.2.2 with ⟨A, c, rest, rfl, hA⟩ | h
 ·exact ⟨A, c, rfl, hA⟩
 ·obtain ⟨A, c, h1, h2, _⟩ := h.val
  exact ⟨A, c, h1, fun q => (h2 q).1⟩
theorem Ls.src {e n : Nat} {v : AV} {cells : List AV} (h : Ls σ e v n cells) : Src σ 1 v n cells := by
 rcases h.2.2 with ⟨A, c, rest, rfl, hA⟩ | h1
 ·exact Zcv (by rw [h.1, Nat.mul_one]) h.2.1 hA
 ·exact h1.src (by omega)
theorem ZaP {ts : Array TypeId} {t e e' n : TypeId} {v : AV} {cells : List AV} {as_ : Operand} (hx : ev env as_ = v) (hv : Ls σ e' v n cells) (hts : ts[0]? = some t) (ht : ZaW P t = some e) (h : K (env.put d (vI n)) σ) : aOp P ops ⟨d, .call ⟨.builtin .len, #[as_], ts⟩, ty, pos, af, none⟩ env σ K := by
 obtain ⟨A, c, h1, _⟩ := hv.val
 exact Zkk hx h1 hts ht h
theorem Zcp {e n i : Nat} {v r : AV} {cells : List AV} {lt : TypeId} (h : Ls σ e v n cells) (hi : i < n) (hr : cells[i]? = some r) (hx : ev env x = v) (hy : ev env y = vI i) (ht : ZaW P lt = some e) (hs : ZaU P e = some 1) (ha : ZdB P e = some false) (hk : ∀ q, ZbU P e σ q = some r -> K (env.put d q) σ) : aOp P ops ⟨d, .indexAddr lt x y, ty, pos, af, none⟩ env σ K := by
 rcases h.2.2 with ⟨A, c, rest, rfl, hA⟩ | h1
 ·refine Zfm (k := .i64) (j := i) hx hy ht hs hi hA rfl fun ad => hk _ ?_
  unfold ZbU
  dsimp only
  rw [ha, hs]
  show ((cells ++ rest).drop (i * 1))[0]? = some r
  rw [List.getElem?_drop, Nat.mul_one, Nat.add_zero, List.getElem?_append_left (Zcd hr)]
  exact hr
 ·exact Zb0 (k := .i64) (j := i) hx hy ht hs h1 hi fun b hb => hk _ (h1.load1 hb hi hr ha hs)
theorem Zgi {d1 d2 : Nat} {ty1 ty2 : TypeId} {p1 p2 : String} {a1 a2 : Array Edge} {l : List Oper} {e n i : Nat} {v r : AV} {cells : List AV} {lt : TypeId} (h : Ls σ e v n cells) (hi : i < n) (hr : cells[i]? = some r) (hx : ev env x = v) (hy : ev env y = vI i) (ht : ZaW P lt = some e) (hs : ZaU P e = some 1) (ha : ZdB P e = some false) (hk : ∀ u, Zbz P ops l ((env.put (some d1) u).put (some d2) r) σ K) :
 Zbz P ops (⟨some d1, .indexAddr lt x y, ty1, p1, a1, none⟩ :: ⟨some d2, .load e (.tmp d1), ty2, p2, a2, none⟩ :: l) env σ K :=
 Zac (Zcp h hi hr hx hy ht hs ha fun q hq => Zac (ZbV (by simp only [EV]; rfl) hq (hk q)))
theorem Zn1 {as_ : Operand} {ts : Array TypeId} {t : TypeId} {a : List UInt8} (hx : ev env as_ = .raw (.string ⟨a.toArray⟩)) (hts : ts[0]? = some t) (ht : P.underlying t = some .string) (h : K (env.put d (vI a.length)) σ) : aOp P ops ⟨d, .call ⟨.builtin .len, #[as_], ts⟩, ty, pos, af, none⟩ env σ K := by
 refine Zdu (vs := [.raw (.string ⟨a.toArray⟩)]) rfl (by simp [Op.operands, Call.operands, hx]) (fun _ _ h => .inl h) (fun ρ hρ w _ _ => ?_) h
 simp [Op.operands, Call.operands] at hρ
 have hl : (ByteArray.mk a.toArray).size = a.length := by show a.toArray.size = _; simp
 simp [execOp, resolve, invoke, builtin, Builtin.len_, hρ, hts, run_underlying ht, goInt, hl]
theorem ZjL {k k' : IntKind} {a b : Int} (hx : ev env x = .raw (.int k a)) (hy : ev env y = .raw (.int k' b)) (hb : 0 <= b) (h : K (env.put d (.raw (.int k (a.fdiv (2 ^ min b.toNat k.bits))))) σ) : aOp P ops ⟨d, .binOp .shr t x y ty', ty, pos, af, none⟩ env σ K :=
 ZcP hx hy (fun w _ _ => by
  rw [AV.val_raw, AV.val_raw, eqGuard_at_int, pure_bind, binOp_shr]
  unfold Op.shift
  rw [if_neg (by omega)]
  rfl) h
theorem Zmn {e sz m : Nat} {bytes : Nat} {z : Value} (hx : ev env x = vI 0) (hy : ev env y = vI m) (ht : ZaW P t = some e) (hs : ZaU P e = some sz) (hz : Zba P e = some z) (hby : Zdv P e = some bytes) (hzs : z.cells.size = sz) (hsz : 0 < sz) (hm : 0 < m) (hl : m <= 140737488355328) (hlb : m * bytes <= 140737488355328)
 (h : ∀ b τ, Hd τ e sz (hdr b 0 m) 0 [] -> Ext σ τ -> Za9 σ b -> K (env.put d (hdr b 0 m)) τ) : aOp P ops ⟨d, .makeSlice t x y, ty, pos, af, none⟩ env σ K := by
 rw [ZaT rfl]
 have hvs : ((.makeSlice t x y : Op).operands.toList.map (ev env)) = [vI 0, vI m] := by simp [Op.operands, hx, hy]
 show Zc6 P _ (Op.operands _ |>.toList.map (ev env)) σ _
 rw [hvs]
 refine .inr ⟨rfl, fun ρv hρ w Z hH hV => ?_⟩
 have hρ' := hρ
 simp [Op.operands] at hρ'
 have hty := ZbO ht
 obtain ⟨i, hi, hsi⟩ := Zl7 hs
 have hzi : i.zero = some z := by unfold Zba at hz; rw [hi] at hz; simpa using hz
 have hbi : i.bytes = bytes := by unfold Zdv at hby; rw [hi] at hby; simpa using hby
 have hlb2 : (m : Int) * (bytes : Int) <= 281474976710656 := by
  have : ((m * bytes : Nat) : Int) <= 140737488355328 := by omega
  rw [Int.natCast_mul] at this
  omega
 have hr := run_make (P := P) w t e i z hty hi hzi .i64 .i64 0 m (by omega) (by omega) (by rw [hbi, Int.mul_comm]; exact hlb2) (by omega)
 have hv := Zfp z m (by omega)
 rw [hzs] at hv
 have harr : madeCells z.cells (((m : Int).toNat) * i.size) = ((((List.replicate m ((List.range sz).map fun i => AV.ofV (z.cells[i % sz]!))).flatten)).map AV.val).toArray := by
  rw [hv]
  simp [madeCells, Builtin.zeroCells, hsi, hzs]
  apply Array.ext'
  simp
 rw [harr] at hr
 obtain ⟨f1, f2⟩ := hH.fresh
 have hcl : ∀ a ∈ (List.replicate m ((List.range sz).map fun i => AV.ofV (z.cells[i % sz]!))).flatten, ∃ j, j < sz /\ a = AV.ofV (z.cells[j]!) := fun a ha => by
  obtain ⟨q, hq, hal⟩ := List.mem_flatten.1 ha
  have hq := (List.mem_replicate.1 hq).2
  subst hq
  obtain ⟨j, _, rfl⟩ := List.mem_map.1 hal
  exact ⟨j % sz, Nat.mod_lt _ hsz, rfl⟩
 have f3 := hH.alloc_own e ((List.replicate m ((List.range sz).map fun i => AV.ofV (z.cells[i % sz]!))).flatten) (fun a ha => by
  obtain ⟨j, _, rfl⟩ := hcl a ha
  exact Zdc _)
 have f4 := Grow.alloc hH (.cells ((((List.replicate m ((List.range sz).map fun i => AV.ofV (z.cells[i % sz]!))).flatten)).map AV.val).toArray e) (.own e ((List.replicate m ((List.range sz).map fun i => AV.ofV (z.cells[i % sz]!))).flatten))
 have hlen : ((List.replicate m ((List.range sz).map fun i => AV.ofV (z.cells[i % sz]!))).flatten).length = m * sz := by rw [Zga, List.length_map, List.length_range]
 refine ⟨hdr w.heap.size 0 m, _, _, .inl ?_, h _ _ ⟨by simp, by simp, .inr ⟨w.heap.size, m, _, hm, rfl, Zbo _ _ _, .inr rfl, hlen, by simp, Nat.zero_le _, by unfold maxLen; omega⟩⟩ (Ext.put _ f2) ⟨f2, f1⟩, f3, Zbe _, f4⟩
 simp [execOp, hρ', hr, vI, hdr]
end
end Go.Proofs.YtiienjjhlibopaaGreatDoor
namespace Go.Proofs
open Go.Shelf
def Tryz.lays171_ren : Go.Shelf.Ren := ⟨fun | 171 => 79 | 243 => 121 | 246 => 161 | 283 => 202 | 284 => 203 | 285 => 204 | 286 => 205 | 129 => 237 | 317 => 236 | 318 => 238 | 319 => 239 | 320 => 240 | 337 => 252 | 338 => 253 | n => n, fun | 3 => 3 | 9 => 9 | 2 => 2 | 4 => 4 | 171 => 290 | 0 => 0 | 53 => 245 | 37 => 23 | 5 => 5 | 173 => 293 | 212 => 370 | 51 => 169 | 20 => 20 | 213 => 371 | 46 => 240 | 232 => 397 | 233 => 398 | n => n, fun | 17 => 0 | 18 => 1 | 19 => 2 | n => n⟩
theorem Tryz.lays171 : Go.Proofs.Lays.n171 Tryz.prog Tryz.lays171_ren := {
 mixed := by kernel_rfl
 f129 := Tryz.func237.trans (congrArg some (by kernel_rfl))
 f171 := Tryz.func79.trans (congrArg some (by kernel_rfl))
 f243 := Tryz.func121.trans (congrArg some (by kernel_rfl))
 f246 := Tryz.func161.trans (congrArg some (by kernel_rfl))
 f283 := Tryz.func202.trans (congrArg some (by kernel_rfl))
 f284 := Tryz.func203.trans (congrArg some (by kernel_rfl))
 f285 := Tryz.func204.trans (congrArg some (by kernel_rfl))
 f286 := Tryz.func205.trans (congrArg some (by kernel_rfl))
 f317 := Tryz.func236.trans (congrArg some (by kernel_rfl))
 f318 := Tryz.func238.trans (congrArg some (by kernel_rfl))
 f319 := Tryz.func239.trans (congrArg some (by kernel_rfl))
 f320 := Tryz.func240.trans (congrArg some (by kernel_rfl))
 f337 := Tryz.func252.trans (congrArg some (by kernel_rfl))
 f338 := Tryz.func253.trans (congrArg some (by kernel_rfl))
 t0 := Tryz.underlying0
 a0 := Tryz.isAgg0
 z0 := Tryz.sizeOf0
 v0 := Tryz.zeroValue0
 t2 := Tryz.underlying2
 a2 := Tryz.isAgg2
 z2 := Tryz.sizeOf2
 v2 := Tryz.zeroValue2
 t3 := Tryz.underlying3
 a3 := Tryz.isAgg3
 z3 := Tryz.sizeOf3
 v3 := Tryz.zeroValue3
 t4 := Tryz.underlying4
 a4 := Tryz.isAgg4
 z4 := Tryz.sizeOf4
 v4 := Tryz.zeroValue4
 t5 := Tryz.underlying5
 a5 := Tryz.isAgg5
 z5 := Tryz.sizeOf5
 v5 := Tryz.zeroValue5
 t9 := Tryz.underlying9
 a9 := Tryz.isAgg9
 z9 := Tryz.sizeOf9
 v9 := Tryz.zeroValue9
 t20 := Tryz.underlying20
 a20 := Tryz.isAgg20
 z20 := Tryz.sizeOf20
 v20 := Tryz.zeroValue20
 t37 := Tryz.underlying23
 a37 := Tryz.isAgg23
 z37 := Tryz.sizeOf23
 v37 := Tryz.zeroValue23
 t46 := Tryz.underlying240
 a46 := Tryz.isAgg240
 z46 := Tryz.sizeOf240
 v46 := Tryz.zeroValue240
 t51 := Tryz.underlying169
 a51 := Tryz.isAgg169
 z51 := Tryz.sizeOf169
 v51 := Tryz.zeroValue169
 t53 := Tryz.underlying245
 a53 := Tryz.isAgg245
 z53 := Tryz.sizeOf245
 v53 := Tryz.zeroValue245
 t171 := Tryz.underlying290
 a171 := Tryz.isAgg290
 z171 := Tryz.sizeOf290
 v171 := Tryz.zeroValue290
 t173 := Tryz.underlying293
 a173 := Tryz.isAgg293
 z173 := Tryz.sizeOf293
 v173 := Tryz.zeroValue293
 t212 := Tryz.underlying370
 a212 := Tryz.isAgg370
 z212 := Tryz.sizeOf370
 v212 := Tryz.zeroValue370
 t213 := Tryz.underlying371
 a213 := Tryz.isAgg371
 z213 := Tryz.sizeOf371
 t232 := Tryz.underlying397
 a232 := Tryz.isAgg397
 z232 := Tryz.sizeOf397
 v232 := Tryz.zeroValue397
 t233 := Tryz.underlying398
 a233 := Tryz.isAgg398
 z233 := Tryz.sizeOf398
 v233 := Tryz.zeroValue398
 g17 := by kernel_rfl
 g18 := by kernel_rfl
 g19 := by kernel_rfl }
open Go.RowKit Go.Sort Go.Lib in
theorem Tryz.strconv_Itoa_small (i : Nat) (hi : i < 100) (w : World) :
 Calls Tryz.prog 79 #[.int .i64 i] w fun e w' => e = .returned (.string ⟨(Lib.decDigits i).toArray⟩) /\ w' = w := Any.strconv_Itoa_small Tryz.lays171 i hi w
def Tryz.lays190_ren : Go.Shelf.Ren := ⟨fun | 190 => 209 | 125 => 245 | 258 => 244 | 128 => 264 | 129 => 237 | 302 => 255 | 303 => 256 | 304 => 257 | 305 => 258 | 306 => 259 | 307 => 260 | 308 => 261 | 309 => 262 | 310 => 263 | 333 => 267 | 329 => 268 | 330 => 269 | 334 => 270 | 335 => 271 | 336 => 272 | 344 => 274 | n => n, fun | 31 => 160 | 9 => 9 | 3 => 3 | 46 => 240 | 0 => 0 | 51 => 169 | 53 => 245 | 4 => 4 | 183 => 390 | 182 => 389 | 131 => 395 | 5 => 5 | 218 => 400 | 222 => 404 | 228 => 406 | 229 => 183 | n => n, fun | n => n⟩
theorem Tryz.lays190 : Go.Proofs.Lays.n190 Tryz.prog Tryz.lays190_ren := {
 mixed := by kernel_rfl
 f125 := Tryz.func245.trans (congrArg some (by kernel_rfl))
 f128 := Tryz.func264.trans (congrArg some (by kernel_rfl))
 f129 := Tryz.func237.trans (congrArg some (by kernel_rfl))
 f190 := Tryz.func209.trans (congrArg some (by kernel_rfl))
 f258 := Tryz.func244.trans (congrArg some (by kernel_rfl))
 f302 := Tryz.func255.trans (congrArg some (by kernel_rfl))
 f303 := Tryz.func256.trans (congrArg some (by kernel_rfl))
 f304 := Tryz.func257.trans (congrArg some (by kernel_rfl))
 f305 := Tryz.func258.trans (congrArg some (by kernel_rfl))
 f306 := Tryz.func259.trans (congrArg some (by kernel_rfl))
 f307 := Tryz.func260.trans (congrArg some (by kernel_rfl))
 f308 := Tryz.func261.trans (congrArg some (by kernel_rfl))
 f309 := Tryz.func262.trans (congrArg some (by kernel_rfl))
 f310 := Tryz.func263.trans (congrArg some (by kernel_rfl))
 f329 := Tryz.func268.trans (congrArg some (by kernel_rfl))
 f330 := Tryz.func269.trans (congrArg some (by kernel_rfl))
 f333 := Tryz.func267.trans (congrArg some (by kernel_rfl))
 f334 := Tryz.func270.trans (congrArg some (by kernel_rfl))
 f335 := Tryz.func271.trans (congrArg some (by kernel_rfl))
 f336 := Tryz.func272.trans (congrArg some (by kernel_rfl))
 f344 := Tryz.func274.trans (congrArg some (by kernel_rfl))
 t0 := Tryz.underlying0
 a0 := Tryz.isAgg0
 z0 := Tryz.sizeOf0
 v0 := Tryz.zeroValue0
 t3 := Tryz.underlying3
 a3 := Tryz.isAgg3
 z3 := Tryz.sizeOf3
 v3 := Tryz.zeroValue3
 t4 := Tryz.underlying4
 a4 := Tryz.isAgg4
 z4 := Tryz.sizeOf4
 v4 := Tryz.zeroValue4
 t5 := Tryz.underlying5
 a5 := Tryz.isAgg5
 z5 := Tryz.sizeOf5
 v5 := Tryz.zeroValue5
 t9 := Tryz.underlying9
 a9 := Tryz.isAgg9
 z9 := Tryz.sizeOf9
 v9 := Tryz.zeroValue9
 t31 := Tryz.underlying160
 a31 := Tryz.isAgg160
 z31 := Tryz.sizeOf160
 v31 := Tryz.zeroValue160
 t46 := Tryz.underlying240
 a46 := Tryz.isAgg240
 z46 := Tryz.sizeOf240
 v46 := Tryz.zeroValue240
 t51 := Tryz.underlying169
 a51 := Tryz.isAgg169
 z51 := Tryz.sizeOf169
 v51 := Tryz.zeroValue169
 t53 := Tryz.underlying245
 a53 := Tryz.isAgg245
 z53 := Tryz.sizeOf245
 v53 := Tryz.zeroValue245
 t131 := Tryz.underlying395
 a131 := Tryz.isAgg395
 z131 := Tryz.sizeOf395
 v131 := Tryz.zeroValue395
 t182 := Tryz.underlying389
 a182 := Tryz.isAgg389
 z182 := Tryz.sizeOf389
 v182 := Tryz.zeroValue389
 t183 := Tryz.underlying390
 a183 := Tryz.isAgg390
 z183 := Tryz.sizeOf390
 v183 := Tryz.zeroValue390
 t218 := Tryz.underlying400
 a218 := Tryz.isAgg400
 z218 := Tryz.sizeOf400
 v218 := Tryz.zeroValue400
 t222 := Tryz.underlying404
 a222 := Tryz.isAgg404
 z222 := Tryz.sizeOf404
 v222 := Tryz.zeroValue404
 t228 := Tryz.underlying406
 a228 := Tryz.isAgg406
 z228 := Tryz.sizeOf406
 v228 := Tryz.zeroValue406
 t229 := Tryz.underlying183
 a229 := Tryz.isAgg183
 z229 := Tryz.sizeOf183
 v229 := Tryz.zeroValue183 }
open Go.Sort Go.RowKit in
theorem Tryz.slices_Sort_string (blk off cap : Nat) (ss : List (List UInt8)) (w : World) (hH : Holds encStr w blk off ss.toArray) (hblk : blk < w.heap.size) (hsz : ss.length < 4611686018427387904) :
 Calls Tryz.prog 209 #[.slice (some ⟨blk, off, none⟩) ss.length cap] w fun e w' =>
  e = .returned (.tuple #[]) /\ ∃ n os, w' = grow (putRow encStr (Sort.ahead w n) blk off (ss.mergeSort fun x y => decide (x <= y)).toArray) os := Any.slices_Sort_string Tryz.lays190 blk off cap ss w hH hblk hsz
open Go.RowKit Go.Sort in
theorem Tryz.slices_Sort_string_none (p : Option Addr) (cap : Nat) (w : World) :
 Calls Tryz.prog 209 #[.slice p 0 cap] w fun e w' => e = .returned (.tuple #[]) /\ w' = w := Any.slices_Sort_string_none Tryz.lays190 p cap w
def Tryz.growLay197_ren : Go.Shelf.Ren := ⟨fun | 4 => 197 | n => n, fun | 22 => 23 | 25 => 5 | 3 => 3 | 4 => 4 | 9 => 9 | 20 => 20 | 0 => 0 | n => n, fun | n => n⟩
theorem Tryz.growLay197 : Go.Proofs.Lays8.n4 Tryz.prog Tryz.growLay197_ren := {
 mixed := by kernel_rfl
 f4 := ⟨Tryz.f197.name, by decide, Tryz.func197.trans (congrArg some (by kernel_rfl))⟩
 t0 := Tryz.underlying0
 a0 := Tryz.isAgg0
 z0 := Tryz.sizeOf0
 v0 := Tryz.zeroValue0
 t3 := Tryz.underlying3
 a3 := Tryz.isAgg3
 z3 := Tryz.sizeOf3
 v3 := Tryz.zeroValue3
 t4 := Tryz.underlying4
 a4 := Tryz.isAgg4
 z4 := Tryz.sizeOf4
 v4 := Tryz.zeroValue4
 t9 := Tryz.underlying9
 a9 := Tryz.isAgg9
 z9 := Tryz.sizeOf9
 v9 := Tryz.zeroValue9
 t20 := Tryz.underlying20
 a20 := Tryz.isAgg20
 z20 := Tryz.sizeOf20
 v20 := Tryz.zeroValue20
 t22 := Tryz.underlying23
 a22 := Tryz.isAgg23
 z22 := Tryz.sizeOf23
 v22 := Tryz.zeroValue23 }
end Go.Proofs
namespace Go.Proofs.YtiienjjhlibopaaGreatDoor
open Go.RowKit
set_option maxRecDepth 100000
inductive Sh where
 | i (k : IntKind)
 | b
 | s
 | l (cells : List Sh)
def Zif : List Sh -> Nat
 | [] => 0
 | .i k :: l => k.bits / 8 + Zif l
 | .b :: l => 1 + Zif l
 | .s :: l => 16 + Zif l
 | .l _ :: l => 24 + Zif l
def Zdg (P : Program) (g : TypeId -> Option (List Sh)) : List Field -> Nat -> Option (List Sh)
 | [], _ => some []
 | f :: r, off => match g f.type with
  | some cs => if f.offset = off /\ P.cellsOf f.type = cs.length then (Zdg P g r (off + cs.length)).map (cs ++ ·) else none
  | none => none
def Zen (P : Program) : Nat -> TypeId -> Option (List Sh)
 | 0, _ => none
 | fuel + 1, t => match P.underlying t with
  | some .bool => some [.b]
  | some (.int k) => some [.i k]
  | some .string => some [.s]
  | some (.slice e) => match Zen P fuel e with
   | some cs => if P.cellsOf e = cs.length /\ 0 < cs.length /\ 1 <= P.bytesOf e /\ Zif cs <= P.bytesOf e then some [.l cs] else none
   | none => none
  | some (.struct fs) => match Zdg P (Zen P fuel) fs.toList 0 with
   | some cs => if P.cellsOf t = cs.length then some cs else none
   | none => none
  | _ => none
inductive Zlk : Sh -> D -> Prop
 | i (k : IntKind) (n : Int) (h : (Lit.int k n).wf = true) : Zlk (.i k) (.i k n)
 | b (x : Bool) : Zlk .b (.b x)
 | s (l : List UInt8) (h : l.length <= 140737488355328) : Zlk .s (.s l)
 | l (cs : List Sh) (n : Nat) (ds : List D) (hl : ds.length = n * cs.length) (hm : n * Zif cs <= 140737488351232) (h : ∀ (i j : Nat) (sh : Sh) (d : D), i < n -> cs[j]? = some sh -> ds[i * cs.length + j]? = some d -> Zlk sh d) : Zlk (.l cs) (.l cs.length ds)
def Zbk : List Sh -> List D -> Prop
 | [], [] => True
 | x :: ss, d :: ds => Zlk x d /\ Zbk ss ds
 | _, _ => False
theorem Zbk.length : ∀ {ss : List Sh} {ds : List D}, Zbk ss ds -> ds.length = ss.length
 | [], [], _ => rfl
 | _ :: _, _ :: _, h => by simp [h.2.length]
 | [], _ :: _, h => h.elim
 | _ :: _, [], h => h.elim
theorem Zbk.get : ∀ {ss : List Sh} {ds : List D}, Zbk ss ds -> ∀ (j : Nat) (x : Sh) (d : D), ss[j]? = some x -> ds[j]? = some d -> Zlk x d
 | [], [], _, j, x, d, h, _ => by simp at h
 | _ :: _, _ :: _, h, 0, x, d, h1, h2 => by simp at h1 h2; subst h1 h2; exact h.1
 | _ :: _, _ :: _, h, j + 1, x, d, h1, h2 => by simp at h1 h2; exact h.2.get j x d h1 h2
 | [], _ :: _, h, _, _, _, _, _ => h.elim
 | _ :: _, [], h, _, _, _, _, _ => h.elim
theorem Zbk.append : ∀ {ss : List Sh} {ds : List D} {ts : List Sh} {es : List D}, Zbk ss ds -> Zbk ts es -> Zbk (ss ++ ts) (ds ++ es)
 | [], [], _, _, _, h => h
 | _ :: _, _ :: _, _, _, h, k => ⟨h.1, h.2.append k⟩
 | [], _ :: _, _, _, h, _ => h.elim
 | _ :: _, [], _, _, h, _ => h.elim
theorem Zkp {α β : Type} {f : α -> Option β} : ∀ {l : List α} {r : List β}, l.mapM f = some r -> ∀ (i : Nat) (x : α), l[i]? = some x -> ∃ y, r[i]? = some y /\ f x = some y
 | [], r, h, i, x, hx => by simp at hx
 | a :: l, r, h, i, x, hx => by
  rw [List.mapM_cons] at h
  simp only [Option.pure_def, Option.bind_eq_bind, Option.bind_eq_some_iff, Option.some.injEq] at h
  obtain ⟨b, hb, bs, hbs, rfl⟩ := h
  cases i with
  | zero => simp at hx; subst hx; exact ⟨b, rfl, hb⟩
  | succ i => simp at hx ⊢; exact Zkp hbs i x hx
theorem Zg0 {α β : Type} {f : α -> Option β} : ∀ {l : List α} {r : List β}, l.mapM f = some r -> r.length = l.length
 | [], r, h => by simp at h; simp [h]
 | a :: l, r, h => by
  rw [List.mapM_cons] at h
  simp only [Option.pure_def, Option.bind_eq_bind, Option.bind_eq_some_iff, Option.some.injEq] at h
  obtain ⟨b, hb, bs, hbs, rfl⟩ := h
  simp [Zg0 hbs]
theorem cells?_get {w : World} {base : Nat} {a : Addr} {n : Nat} {cs : List Value} (h : w.cells? base a n = some cs) : cs.length = n /\ base <= a.block /\ ∀ (i : Nat) (v : Value), cs[i]? = some v -> w.cell? (a.add i) = some v := by
 unfold World.cells? at h
 split at h
 ·next hb =>
  have hl := Zg0 h
  rw [List.length_range] at hl
  refine ⟨hl, hb, fun i v hv => ?_⟩
  have hi : i < n := by rw [<- hl]; exact (List.getElem?_eq_some_iff.1 hv).1
  obtain ⟨y, hy, he⟩ := Zkp h i i (by simp [hi])
  rw [hv] at hy
  injection hy with hy
  rw [he, hy]
 ·cases h
theorem ZeX {H : Type} {P : Program} {e : TypeId} : ∀ {ds : List (DataW H)} {d : DataW H}, d ∈ ds -> ∀ n ∈ d.weights P e, n ∈ DataW.weightsAll P e ds
 | x :: r, d, hd, n, hn => by
  simp only [DataW.weightsAll, List.mem_append]
  rcases List.mem_cons.1 hd with rfl | hd
  ·exact .inl hn
  ·exact .inr (ZeX hd n hn)
theorem Zll {α : Type} (l : List α) (off n : Nat) : l.drop off = (l.drop off).take n ++ l.drop (off + n) := by
 rw [<- List.drop_drop]; exact (List.take_append_drop n _).symm
theorem Ze3 {α : Type} (f : Nat -> List α) (m : Nat) : ∀ n, (∀ i, i < n -> (f i).length = m) -> ((List.range n).flatMap f).length = n * m
 | 0, _ => by simp
 | n + 1, h => by
  rw [List.range_succ, List.flatMap_append, List.length_append, Ze3 f m n (fun i hi => h i (by omega))]
  simp only [List.flatMap_cons, List.flatMap_nil, List.append_nil]
  rw [h n (by omega), Nat.succ_mul]
theorem Zkq {α : Type} (f : Nat -> List α) (m : Nat) : ∀ n, (∀ i, i < n -> (f i).length = m) -> ∀ i j, i < n -> j < m -> ((List.range n).flatMap f)[i * m + j]? = (f i)[j]?
 | 0, _, i, j, hi, _ => by omega
 | n + 1, h, i, j, hi, hj => by
  rw [List.range_succ, List.flatMap_append]
  simp only [List.flatMap_cons, List.flatMap_nil, List.append_nil]
  have hl := Ze3 f m n (fun i hi => h i (by omega))
  by_cases hin : i < n
  ·have : i * m + j < n * m := by
    calc i * m + j < i * m + m := by omega
     _ = (i + 1) * m := by rw [Nat.succ_mul]
     _ <= n * m := Nat.mul_le_mul_right m hin
   rw [List.getElem?_append_left (by omega)]
   exact Zkq f m n (fun i hi => h i (by omega)) i j hin hj
  ·have : i = n := by omega
   subst this
   rw [List.getElem?_append_right (by omega), hl, Nat.add_sub_cancel_left]
section
variable {H : Type} {enc : TypeId × Value -> H} {P : Program} {w : World} {base : Nat} {spare : Nat -> Bool} {held : Bool}
abbrev Old (w : World) : Nat -> Prop := fun k => k < w.heap.size
theorem Zfv {fuel : Nat} {g : TypeId -> Option (List Sh)}
 (ih : ∀ (t : TypeId) (shs : List Sh) (cs : List Value) (d : DataW H) (ps : List MemPlace), g t = some shs -> DataW.trod enc P w base spare held fuel t cs = some (d, ps) -> (∀ n ∈ d.weights P t, n <= reachBytes) -> ∃ ds, ZeQ (Old w) w ds cs /\ Zbk shs ds) :
 ∀ (fs : List Field) (off : Nat) (shs : List Sh) (cs : List Value) (xs : List (DataW H × List MemPlace)), Zdg P g fs off = some shs -> off + shs.length = cs.length ->
  (fs.mapM fun f => DataW.trod enc P w base spare held fuel f.type ((cs.drop f.offset).take (P.cellsOf f.type))) = some xs -> (∀ n ∈ DataW.weightsEach P (fs.map (·.type)) (xs.map (·.1)), n <= reachBytes) ->
  ∃ ds, ZeQ (Old w) w ds (cs.drop off) /\ Zbk shs ds
 | [], off, shs, cs, xs, hs, hl, _, _ => by
  simp only [Zdg, Option.some.injEq] at hs
  subst hs
  refine ⟨[], ?_, trivial⟩
  rw [List.drop_eq_nil_of_le (by simp at hl; omega)]
  trivial
 | f :: r, off, shs, cs, xs, hs, hl, hx, hw => by
  unfold Zdg at hs
  split at hs
  ·next c hc =>
   split at hs
   ·next hcond =>
    obtain ⟨ho, hce⟩ := hcond
    simp only [Option.map_eq_some_iff] at hs
    obtain ⟨rest, hrest, rfl⟩ := hs
    rw [List.mapM_cons] at hx
    simp only [Option.pure_def, Option.bind_eq_bind, Option.bind_eq_some_iff, Option.some.injEq] at hx
    obtain ⟨b, hb, bs, hbs, rfl⟩ := hx
    obtain ⟨d0, p0⟩ := b
    simp only [List.map_cons, DataW.weightsEach, List.mem_append] at hw
    obtain ⟨ds0, hr0, hf0⟩ := ih _ _ _ _ _ hc hb (fun n hn => hw n (.inl hn))
    rw [List.length_append] at hl
    obtain ⟨ds1, hr1, hf1⟩ := Zfv ih r (off + c.length) rest cs bs hrest (by omega) hbs (fun n hn => hw n (.inr hn))
    refine ⟨ds0 ++ ds1, ?_, hf0.append hf1⟩
    rw [Zll cs off c.length]
    rw [ho, hce] at hr0
    exact hr0.append hr1
   ·cases hs
  ·cases hs
theorem Zi3 : ∀ (fuel k : Nat) (t : TypeId) (shs : List Sh) (cs : List Value) (d : DataW H) (ps : List MemPlace), Zen P k t = some shs ->
 DataW.trod enc P w base spare held fuel t cs = some (d, ps) -> (∀ n ∈ d.weights P t, n <= reachBytes) -> ∃ ds, ZeQ (Old w) w ds cs /\ Zbk shs ds
 | 0, k, t, shs, cs, d, ps, _, h, _ => by simp [DataW.trod] at h
 | fuel + 1, 0, t, shs, cs, d, ps, hs, _, _ => by simp [Zen] at hs
 | fuel + 1, k + 1, t, shs, cs, d, ps, hs, h, hw => by
  unfold Zen at hs
  split at hs
  ·next hu =>
   injection hs with hs; subst hs
   obtain ⟨x, rfl, hx⟩ := DataW.trod_bool hu h
   exact ⟨[.b x], ⟨rfl, trivial⟩, ⟨.b x, trivial⟩⟩
  ·next kk hu =>
   injection hs with hs; subst hs
   obtain ⟨n, rfl, hx, hwf⟩ := DataW.trod_int hu h
   exact ⟨[.i kk n], ⟨rfl, trivial⟩, ⟨.i kk n hwf, trivial⟩⟩
  ·next hu =>
   injection hs with hs; subst hs
   obtain ⟨x, rfl, hx, hl⟩ := DataW.trod_string hu h
   injection hx with hx _
   subst hx
   refine ⟨[.s x.data.toList], ⟨rfl, trivial⟩, ⟨.s _ ?_, trivial⟩⟩
   have := hw x.data.toList.length (by simp [DataW.weights])
   simp only [reachBytes] at this
   omega
  ·next e hu =>
   split at hs
   ·next c hc =>
    split at hs
    ·next hcond =>
     obtain ⟨hce, hcp, hby, hma⟩ := hcond
     injection hs with hs; subst hs
     rcases DataW.trod_slice hu h with ⟨rfl, _⟩ | ⟨a, len, cap, elems, rest, n, hfu, rfl, hx, hb, hlc, hcm, hel, helems, _, _⟩
     ·exact ⟨[.l c.length []], ⟨Rep.of_list (by simp) (by omega) (by simp [maxLen]) (by omega) (fun _ => ⟨rfl, rfl⟩) (fun ad ha _ => by cases ha), trivial⟩, ⟨.l c 0 [] (by simp) (by simp) (fun i j sh d hi => by omega), trivial⟩⟩
     ·injection hfu with hfu
      subst hfu
      injection hx with hx _
      subst hx
      have hreach : (elems.length + rest.length) * P.bytesOf e <= reachBytes := by
       have := hw ((elems.length + rest.length) * P.bytesOf e) (by simp [DataW.weights, hu])
       exact this
      have hlen : len <= 140737488355328 := by
       have h1 : len * 1 <= (elems.length + rest.length) * P.bytesOf e := Nat.mul_le_mul (by omega) hby
       simp only [reachBytes] at hreach
       omega
      have hroom : len * Zif c <= 140737488351232 := by
       have h1 : len * Zif c <= (elems.length + rest.length) * P.bytesOf e := Nat.mul_le_mul (by omega) hma
       simp only [reachBytes] at hreach
       omega
      have hel' : ∀ i, i < len -> ∃ vs ds, w.cells? base (a.add (i * c.length)) c.length = some vs /\ ZeQ (Old w) w ds vs /\ Zbk c ds := by
       intro i hi
       have h1 := helems i hi
       rw [hce] at h1
       rw [List.getElem?_eq_getElem (by omega)] at h1
       simp only [Option.bind_eq_some_iff] at h1
       obtain ⟨vs, hvs, htr⟩ := h1
       obtain ⟨ds, hr, hf⟩ := Zi3 fuel k e c vs elems[i].1 elems[i].2 hc htr (fun m hm => hw m (by
        simp only [DataW.weights, hu, List.mem_cons, List.mem_append]
        exact .inr (.inl (ZeX (List.mem_map_of_mem (List.getElem_mem (by omega))) m hm))))
       exact ⟨vs, ds, hvs, hr, hf⟩
      have hch : ∃ f : Nat -> List D, ∀ i, i < len -> ∃ vs, w.cells? base (a.add (i * c.length)) c.length = some vs /\ ZeQ (Old w) w (f i) vs /\ Zbk c (f i) := by
       refine ⟨fun i => if hi : i < len then Classical.choose (Classical.choose_spec (hel' i hi)) else [], fun i hi => ?_⟩
       have := Classical.choose_spec (Classical.choose_spec (hel' i hi))
       dsimp only
       rw [dif_pos hi]
       exact ⟨_, this⟩
      obtain ⟨f, hf⟩ := hch
      have hfl : ∀ i, i < len -> (f i).length = c.length := fun i hi => by obtain ⟨_, _, _, h3⟩ := hf i hi; exact h3.length
      have hget := Zkq f c.length len hfl
      have hlenf := Ze3 f c.length len hfl
      refine ⟨[.l c.length ((List.range len).flatMap f)], ⟨Rep.of_list hlenf hlc hcm hlen (fun h => by cases h) ?_, trivial⟩, ⟨.l c len _ hlenf hroom ?_, trivial⟩⟩
      ·intro ad ha hp
       injection ha with ha
       subst ha
       have hblk : a.block < w.heap.size := by
        obtain ⟨vs, h1, h2, h3⟩ := hf 0 hp
        obtain ⟨h4, _, h6⟩ := cells?_get h1
        have h7 := h6 0 vs[0] (List.getElem?_eq_getElem (by omega))
        have := World.block_lt_of_cell? w _ h7
        rwa [Addr.block_add, Addr.block_add] at this
       refine ⟨hblk, hblk, ?_⟩
       intro j d hd
       have hj : j < len * c.length := by rw [<- hlenf]; exact (List.getElem?_eq_some_iff.1 hd).1
       have h1 : j / c.length * c.length + j % c.length = j := by rw [Nat.mul_comm]; exact Nat.div_add_mod j c.length
       have h2 : j % c.length < c.length := Nat.mod_lt _ hcp
       have h3 : j / c.length < len := Nat.div_lt_of_lt_mul (by rw [Nat.mul_comm]; exact hj)
       rw [<- h1, hget _ _ h3 h2] at hd
       obtain ⟨vs, h4, h5, h6⟩ := hf _ h3
       obtain ⟨v, h7, h8⟩ := h5.get hd
       obtain ⟨_, _, h9⟩ := cells?_get h4
       have := h9 _ v h7
       rw [Addr.add_add, h1] at this
       exact ⟨v, this, h8⟩
      ·intro i j sh d hi hj hd
       obtain ⟨vs, _, _, h3⟩ := hf i hi
       have hjl : j < c.length := (List.getElem?_eq_some_iff.1 hj).1
       rw [hget i j hi hjl] at hd
       exact h3.get j sh d hj hd
    ·cases hs
   ·cases hs
  ·next fs hu =>
   split at hs
   ·next c hc =>
    split at hs
    ·next hce =>
     injection hs with hs; subst hs
     unfold DataW.trod at h
     rw [hu] at h
     dsimp only at h
     split at h
     ·next hl =>
      simp only [Option.map_eq_some_iff] at h
      obtain ⟨xs, hxs, hx⟩ := h
      injection hx with hx _
      subst hx
      obtain ⟨ds, h1, h2⟩ := Zfv (fun t shs cs d ps => Zi3 fuel k t shs cs d ps) fs.toList 0 c cs xs hc (by omega) hxs (fun n hn => hw n (by simp only [DataW.weights, hu]; exact hn))
      exact ⟨ds, by simpa using h1, h2⟩
     ·cases h
    ·cases hs
   ·cases hs
  ·cases hs
end
theorem Zmo {d : D} (h : Zlk (.i .u8) d) : ∃ b, d = dB b := by
 cases h with
 | i _ n hw =>
  have : 0 <= n /\ n <= 255 := by simpa [Lit.wf, IntKind.bits, IntKind.signed, IntKind.min, IntKind.max] using hw
  exact ⟨UInt8.ofNat n.toNat, by simp [dB]; omega⟩
set_option linter.unusedVariables false
variable {T : Nat -> Type}
inductive DXs (C : ZbD T) : List (XV T) -> List D -> Prop where
 | none : DXs C [] []
 | int (k : IntKind) (n : Int) {vs ds} : DXs C vs ds -> DXs C (.int k n :: vs) (.i k n :: ds)
 | bool (b : Bool) {vs ds} : DXs C vs ds -> DXs C (.bool b :: vs) (.b b :: ds)
 | str (s : List UInt8) {vs ds} : DXs C vs ds -> DXs C (.str s :: vs) (.s s :: ds)
 | sl (E : Nat) (xs : List (T E)) (es : List D) {vs ds} : DXs C (xs.flatMap (C.enc E)) es -> DXs C vs ds -> DXs C (.sl E xs Option.none :: vs) (.l (C.sz E) es :: ds)
section
variable {C : ZbD T}
theorem DXs.len {vs : List (XV T)} {ds : List D} (h : DXs C vs ds) : ds.length = vs.length := by
 induction h with
 | none => rfl
 | sl E xs es h1 h2 ih1 ih2 => simp [ih2]
 | _ => simp_all
theorem DXs.app {vs us : List (XV T)} {ds es : List D} (h : DXs C vs ds) (k : DXs C us es) : DXs C (vs ++ us) (ds ++ es) := by
 induction h with
 | none => exact k
 | int k n h ih => exact .int k n ih
 | bool b h ih => exact .bool b ih
 | str s h ih => exact .str s ih
 | sl E xs es h1 h2 ih1 ih2 => exact .sl E xs es h1 ih2
def σ0 (w : World) : St := ⟨fun _ => none, fun b => b < w.heap.size, ⟨w.heap.size, fun n hn => ⟨by omega, rfl⟩⟩⟩
theorem σ0_ok (w : World) : ZaG w (σ0 w) (fun _ => False) := ⟨fun b h => h, (fun b h => h.elim), (fun b t cs h => by cases h), (fun b t k s h => by cases h), (fun b es h => by cases h)⟩
theorem Zmp {F : Nat -> Prop} {w : World} {N : Nat} {ρ : Nat -> AV} {vs : List (XV T)} {ds : List D} (h : DXs C vs ds) : ∀ {vals : List Value}, ZeQ F w ds vals -> ∃ as_ : List AV, as_.map AV.val = vals /\ (∀ a ∈ as_, Zar w ((σ0 w).free fun _ => False) a) /\ SVs C N ρ vs as_ := by
 induction h with
 | none => intro vals hr; cases vals <;> simp [ZeQ] at hr; exact ⟨[], rfl, by simp, .none⟩
 | int k n h ih =>
  intro vals hr
  cases vals with
  | nil => simp [ZeQ] at hr
  | cons v vals =>
   obtain ⟨as_, h1, h2, h3⟩ := ih hr.2
   have hv : v = .int k n := hr.1
   exact ⟨.raw (.int k n) :: as_, by simp [h1, hv], fun a ha => by rcases List.mem_cons.1 ha with rfl | ha; (· unfold Zar; trivial); exact h2 a ha, .int k n h3⟩
 | bool b h ih =>
  intro vals hr
  cases vals with
  | nil => simp [ZeQ] at hr
  | cons v vals =>
   obtain ⟨as_, h1, h2, h3⟩ := ih hr.2
   have hv : v = .bool b := hr.1
   exact ⟨.raw (.bool b) :: as_, by simp [h1, hv], fun a ha => by rcases List.mem_cons.1 ha with rfl | ha; (· unfold Zar; trivial); exact h2 a ha, .bool b h3⟩
 | str s h ih =>
  intro vals hr
  cases vals with
  | nil => simp [ZeQ] at hr
  | cons v vals =>
   obtain ⟨as_, h1, h2, h3⟩ := ih hr.2
   have hv : v = .string ⟨s.toArray⟩ := hr.1
   exact ⟨.raw (.string ⟨s.toArray⟩) :: as_, by simp [h1, hv], fun a ha => by rcases List.mem_cons.1 ha with rfl | ha; (· unfold Zar; trivial); exact h2 a ha, .str s h3⟩
 | sl E xs es h1 h2 ih1 ih2 =>
  intro vals hr
  cases vals with
  | nil => simp [ZeQ] at hr
  | cons v vals =>
   obtain ⟨as_, g1, g2, g3⟩ := ih2 hr.2
   obtain ⟨A, n, c, rfl, q1, q2, q3, q4, q5, q6⟩ := Rep.list hr.1
   have hes := h1.len
   rw [ZjG] at hes
   have hn : n = xs.length := by
    have hp := C.pos E
    rw [q1] at hes
    exact Nat.eq_of_mul_eq_mul_right hp hes
   subst hn
   have hcells : ∃ vs' : List Value, ZeQ F w es vs' /\ ∀ ad, A = some ad -> ∀ j u, vs'[j]? = some u -> w.cell? (ad.add j) = some u /\ ad.block < w.heap.size := by
    cases A with
    | none =>
     have : es = [] := List.eq_nil_of_length_eq_zero (by rw [q1, (q5 rfl).1]; simp)
     subst this
     exact ⟨[], trivial, fun ad h => by cases h⟩
    | some ad =>
     by_cases h0 : 0 < xs.length
     ·obtain ⟨q7, q8, q9⟩ := q6 ad rfl h0
      have : ∀ (l : List D) (o : Nat), (∀ j d, l[j]? = some d -> ∃ u, w.cell? (ad.add (o + j)) = some u /\ Rep F w d u) -> ∃ vs' : List Value, ZeQ F w l vs' /\ ∀ j u, vs'[j]? = some u -> w.cell? (ad.add (o + j)) = some u := by
       intro l
       induction l with
       | nil => intro o _; exact ⟨[], trivial, fun j u hu => by simp at hu⟩
       | cons d l ih =>
        intro o hl
        obtain ⟨u, hu, hd⟩ := hl 0 d rfl
        obtain ⟨vs', e1, e2⟩ := ih (o + 1) (fun j d' hj => by
         have := hl (j + 1) d' (by simpa using hj)
         rwa [show o + (j + 1) = o + 1 + j from by omega] at this)
        refine ⟨u :: vs', ⟨hd, e1⟩, fun j x hx => ?_⟩
        cases j with
        | zero => simp at hx; subst hx; exact hu
        | succ j =>
         simp at hx
         have := e2 j x hx
         rwa [show o + 1 + j = o + (j + 1) from by omega] at this
      obtain ⟨vs', e1, e2⟩ := this es 0 (fun j d hj => by rw [Nat.zero_add]; exact q9 j d hj)
      refine ⟨vs', e1, fun ad' had j u hu => ?_⟩
      injection had with had
      subst had
      have := e2 j u hu
      rw [Nat.zero_add] at this
      exact ⟨this, q8⟩
     ·have : es = [] := List.eq_nil_of_length_eq_zero (by rw [q1, show xs.length = 0 from by omega]; simp)
      subst this
      exact ⟨[], trivial, fun ad _ j u hu => by simp at hu⟩
   obtain ⟨vs', r1, r2⟩ := hcells
   obtain ⟨cs, w1, w2, w3⟩ := ih1 r1
   refine ⟨.lst A xs.length c (cs ++ []) :: as_, by simp [g1], fun a ha => ?_, .sl E xs A c cs [] q2 q3 q4 q5 w3 g3⟩
   rcases List.mem_cons.1 ha with rfl | ha
   ·unfold Zar
    refine ⟨q2, fun hA => ?_, fun ad hA => ?_⟩
    ·obtain ⟨z1, z2⟩ := q5 hA
     have : cs = [] := by
      have := w3.len
      rw [ZjG, z1] at this
      exact List.eq_nil_of_length_eq_zero (by simpa using this)
     subst this
     exact ⟨z1, z2, rfl⟩
    ·rw [List.append_nil]
     refine ZaS.mk fun j d hd => ?_
     rw [Nat.zero_add]
     have hdv : vs'[j]? = some d.val := by rw [<- w1, List.getElem?_map, hd]; rfl
     obtain ⟨z1, z2⟩ := r2 ad hA j d.val hdv
     exact ⟨z1, ⟨id, z2, trivial⟩, w2 d (List.mem_of_getElem? hd)⟩
   ·exact g2 a ha
inductive Zeo : D -> Prop where
 | i (k n) : Zeo (.i k n)
 | b (x) : Zeo (.b x)
 | s (l) : Zeo (.s l)
 | l (sz) (ds : List D) : ds.length <= 140737488355328 * sz -> (∀ d ∈ ds, Zeo d) -> Zeo (.l sz ds)
mutual
theorem Rep.smallD {F : Nat -> Prop} {w : World} : (d : D) -> {v : Value} -> Rep F w d v -> Zeo d
 | .i k n, _, _ => .i k n
 | .b x, _, _ => .b x
 | .s l, _, _ => .s l
 | .l sz cells, v, h => by
  unfold Rep at h
  obtain ⟨A, n, c, rfl, h1, h2, h3, h3', h4, h5⟩ := h
  refine .l sz cells (by rw [h1]; exact Nat.mul_le_mul_right _ h3') ?_
  cases A with
  | none =>
   have : cells = [] := List.eq_nil_of_length_eq_zero (by rw [h1, (h4 rfl).1]; simp)
   subst this
   simp
  | some ad =>
   by_cases hp : 0 < n
   ·exact Zbg.smallD 0 cells (h5 ad rfl hp).2.2
   ·have : cells = [] := List.eq_nil_of_length_eq_zero (by rw [h1, show n = 0 from by omega]; simp)
    subst this
    simp
theorem Zbg.smallD {F : Nat -> Prop} {w : World} {ad : Addr} : (j : Nat) -> (ds : List D) -> Zbg F w ad j ds -> ∀ d ∈ ds, Zeo d
 | _, [], _, d, hd => by cases hd
 | j, x :: r, h, d, hd => by
  unfold Zbg at h
  obtain ⟨⟨v, h1, h2⟩, h3⟩ := h
  rcases List.mem_cons.1 hd with e | hd
  ·rw [e]; exact Rep.smallD x h2
  ·exact Zbg.smallD (j + 1) r h3 d hd
end
theorem ZeQ.smallD {F : Nat -> Prop} {w : World} : ∀ {ds : List D} {vs : List Value}, ZeQ F w ds vs -> ∀ d ∈ ds, Zeo d
 | [], _, _, d, hd => by cases hd
 | x :: ds, [], h, d, hd => by simp [ZeQ] at h
 | x :: ds, v :: vs, h, d, hd => by
  rcases List.mem_cons.1 hd with rfl | hd
  ·exact Rep.smallD _ h.1
  ·exact ZeQ.smallD h.2 d hd
def InK (k : IntKind) (n : Int) : Prop := (Lit.int k n).wf = true
theorem Zi4 {k : IntKind} {d : D} (h : Zlk (.i k) d) : ∃ n, d = .i k n /\ InK k n := by
 cases h with | i _ n hw => exact ⟨n, rfl, hw⟩
theorem Zgd {shs : List Sh} {E : Nat} {ok : T E -> Prop} (hE : ∀ ds, Zbk shs ds -> (∀ d ∈ ds, Zeo d) -> ∃ x, DXs C (C.enc E x) ds /\ ok x) (hsz : shs.length = C.sz E) : ∀ (n : Nat) (ds : List D), ds.length = n * shs.length -> (∀ (i j : Nat) (sh : Sh) (d : D), i < n -> shs[j]? = some sh -> ds[i * shs.length + j]? = some d -> Zlk sh d) -> (∀ d ∈ ds, Zeo d) ->
 ∃ xs : List (T E), xs.length = n /\ DXs C (xs.flatMap (C.enc E)) ds /\ ∀ x ∈ xs, ok x
 | 0, ds, hl, h, hs => by
  have : ds = [] := List.eq_nil_of_length_eq_zero (by simpa using hl)
  subst this
  exact ⟨[], rfl, .none, by simp⟩
 | n + 1, ds, hl, h, hs => by
  have hfit : Zbk shs (ds.take shs.length) := by
   have : ∀ (l : List Sh) (o : Nat) (es : List D), es.length = l.length -> (∀ (j : Nat) (sh : Sh) (d : D), l[j]? = some sh -> es[j]? = some d -> Zlk sh d) -> Zbk l es := by
    intro l
    induction l with
    | nil => intro o es he _; cases es <;> simp at he; trivial
    | cons a l ih =>
     intro o es he hf
     cases es with
     | nil => simp at he
     | cons d es => exact ⟨hf 0 a d rfl rfl, ih 0 es (by simpa using he) (fun j sh d h1 h2 => hf (j + 1) sh d (by simpa using h1) (by simpa using h2))⟩
   refine this shs 0 _ (by rw [List.length_take, hl, Nat.succ_mul]; omega) fun j sh d h1 h2 => ?_
   rw [List.getElem?_take] at h2
   split at h2
   ·exact h 0 j sh d (Nat.succ_pos _) h1 (by simpa using h2)
   ·cases h2
  obtain ⟨x, hx, ox⟩ := hE _ hfit (fun d hd => hs d (List.mem_of_mem_take hd))
  obtain ⟨xs, h1, h2, h3⟩ := Zgd hE hsz n (ds.drop shs.length) (by rw [List.length_drop, hl, Nat.succ_mul]; omega) (fun i j sh d hi hj hd => by
   rw [List.getElem?_drop] at hd
   exact h (i + 1) j sh d (by omega) hj (by rw [show (i + 1) * shs.length + j = shs.length + (i * shs.length + j) from by rw [Nat.succ_mul]; omega]; exact hd)) (fun d hd => hs d (List.mem_of_mem_drop hd))
  refine ⟨x :: xs, by simp [h1], ?_, fun y hy => ?_⟩
  ·rw [List.flatMap_cons, <- List.take_append_drop shs.length ds]
   exact hx.app h2
  ·rcases List.mem_cons.1 hy with rfl | hy
   ·exact ox
   ·exact h3 y hy
structure OkL {α : Type} (m : Nat) (ok : α -> Prop) (xs : List α) : Prop where
 len : xs.length <= 140737488355328
 all : ∀ x ∈ xs, ok x
 room : xs.length * m <= 140737488351232
theorem ZdG {shs : List Sh} {E : Nat} {ok : T E -> Prop} (hE : ∀ ds, Zbk shs ds -> (∀ d ∈ ds, Zeo d) -> ∃ x, DXs C (C.enc E x) ds /\ ok x) (hsz : shs.length = C.sz E) {d : D} (h : Zlk (.l shs) d) (hs : Zeo d) : ∃ xs : List (T E), ∃ es, d = .l (C.sz E) es /\ DXs C (xs.flatMap (C.enc E)) es /\ OkL (Zif shs) ok xs := by
 cases h with
 | l _ n ds hl hm h =>
  cases hs with
  | l _ _ s1 s2 =>
   obtain ⟨xs, h1, h2, h3⟩ := Zgd hE hsz n ds hl h s2
   refine ⟨xs, ds, by rw [hsz], h2, ?_, h3, by rw [h1]; exact hm⟩
   rw [h1]
   rw [hl] at s1
   have hp := C.pos E
   exact Nat.le_of_mul_le_mul_right s1 (by omega)
theorem Za1 {sh : Sh} {l : List Sh} {ds : List D} (h : Zbk (sh :: l) ds) : ∃ d es, ds = d :: es /\ Zlk sh d /\ Zbk l es := by
 cases ds with
 | nil => exact h.elim
 | cons d es => exact ⟨d, es, rfl, h.1, h.2⟩
theorem Zdh {ds : List D} (h : Zbk [] ds) : ds = [] := by
 cases ds with
 | nil => rfl
 | cons d es => exact h.elim
theorem Zk4.enter {P : Program} {f : FuncId} {vals : Array Value} {w : World} {Q : Ending -> World -> Prop} (h : Zk4 P f vals w Q) (hf : ZbX P f = true) : Calls P f vals w Q := by
 rcases h with ⟨_, h⟩ | ⟨v, w', h1, _⟩
 ·exact h
 ·exfalso
  unfold ZbX at hf
  cases hfn : P.funcs[f]? with
  | none => rw [hfn] at hf; cases hf
  | some fn =>
   rw [hfn] at hf
   simp only [Bool.and_eq_true, bne_iff_ne, ne_eq] at hf
   obtain ⟨hb, hn⟩ := hf
   have hb' : fn.body ≠ none := by
    intro h
    rw [h] at hb; cases hb
   simp [callFunc, hfn, hn, hb'] at h1
theorem Zmq {P : Program} {f : FuncId} {args : List (XV T)} {h' : List (HI T)} (hf : ZbX P f = true) (ht : Tr C P (fun _ => True) f args [] (.bool true) h') {w : World} {as_ : List AV} (hs : SVs C 0 (fun _ => default) args as_) (hv : ∀ a ∈ as_, Zar w ((σ0 w).free fun _ => False) a) {vals : Array Value} (he : vals = (as_.map AV.val).toArray) :
 Calls P f vals w fun e w' => e = .returned (.bool true) /\ Zdt (fun _ => False) w w' := by
 subst he
 have H : Hp C (fun _ => default) ([] : List (HI T)) (σ0 w) := ⟨fun i x hx => by simp at hx, fun i j x y b hx => by simp at hx⟩
 have hc := ht (fun _ => default) (σ0 w) as_ hs H
 refine Calls.mono ((hc w (fun _ => False) (σ0_ok w) hv).enter hf) ?_
 rintro e w' ⟨r, σ', rfl, ⟨ρ', g1, g2, g3⟩, hH, hV, hG⟩
 rw [Zl4.1 g1]
 exact ⟨by simp, hG.os, hG.tape, hG.output, hG.size, fun k hk _ => (hG.rest k hk rfl).1⟩
inductive ZqO (C : ZbD T) (w : World) : List (XV T) -> List Value -> Prop where
 | none : ZqO C w [] []
 | one {v : XV T} {x : Value} {vs xs} (a : AV) (he : a.val = x) (hv : Zar w ((σ0 w).free fun _ => False) a) (hs : SV C 0 (fun _ => default) v a) : ZqO C w vs xs -> ZqO C w (v :: vs) (x :: xs)
theorem ZqO.get {w : World} {vs : List (XV T)} {xs : List Value} (h : ZqO C w vs xs) : ∃ as_ : List AV, as_.map AV.val = xs /\ (∀ a ∈ as_, Zar w ((σ0 w).free fun _ => False) a) /\ SVs C 0 (fun _ => default) vs as_ := by
 induction h with
 | none => exact ⟨[], rfl, by simp, .none⟩
 | one a he hv hs h ih =>
  obtain ⟨as_, h1, h2, h3⟩ := ih
  exact ⟨a :: as_, by simp [he, h1], fun b hb => by rcases List.mem_cons.1 hb with rfl | hb; (· exact hv); exact h2 b hb, .cons hs h3⟩
theorem Zn2 {P : Program} {f : FuncId} {args : List (XV T)} {h' : List (HI T)} (hf : ZbX P f = true) (ht : Tr C P (fun _ => True) f args [] (.bool true) h') {w : World} {vals : List Value} (hA : ZqO C w args vals) : Calls P f vals.toArray w fun e w' => e = .returned (.bool true) /\ Zdt (fun _ => False) w w' := by
 obtain ⟨as_, h1, h2, h3⟩ := hA.get
 exact Zmq hf ht h3 h2 (by rw [h1])
theorem ZpR {F : Nat -> Prop} {w : World} {v : XV T} {ds : List D} {x : Value} (h : DXs C [v] ds) (hr : ZeQ F w ds [x]) : ∃ a : AV, a.val = x /\ Zar w ((σ0 w).free fun _ => False) a /\ SV C 0 (fun _ => default) v a := by
 obtain ⟨as_, h1, h2, h3⟩ := Zmp (N := 0) (ρ := fun _ => default) h hr
 obtain ⟨a, rfl, h4⟩ := Zsi.1 h3
 exact ⟨a, by simpa using h1, h2 a (by simp), h4⟩
theorem Zmr {F : Nat -> Prop} {w : World} {vs : List (XV T)} {ds : List D} {cs : Array Value} (h : DXs C vs ds) (hr : ZeQ F w ds cs.toList) : ∃ a : AV, a.val = .agg cs /\ Zar w ((σ0 w).free fun _ => False) a /\ SV C 0 (fun _ => default) (.agg vs) a := by
 obtain ⟨as_, h1, h2, h3⟩ := Zmp (N := 0) (ρ := fun _ => default) h hr
 refine ⟨.agg as_, by simp [h1], ?_, Zl5.2 ⟨as_, rfl, h3⟩⟩
 unfold Zar
 exact ZaY.iff.2 h2
end
end Go.Proofs.YtiienjjhlibopaaGreatDoor
namespace Go.Proofs.YtiienjjhlibopaaGreatDoor
open Go.RowKit
set_option maxRecDepth 100000
set_option linter.unusedVariables false
structure ZfV where
 voters : List (Int)
 old : List (Int)
 learners : List (Int)
 want : List (Int)
 deriving DecidableEq
structure ZhM where
 term_ : Int
 kind : Int
 command : List (UInt8)
 config : ZfV
 deriving DecidableEq
structure Zms where
 index : Int
 term_ : Int
 config : ZfV
 deriving DecidableEq
structure Zrl where
 kind : Int
 a : Int
 b : Int
 entries : List (ZhM)
 base : Zms
 deriving DecidableEq
@[reducible] def Ty : Nat -> Type
 | 0 => Int
 | 1 => UInt8
 | 2 => List UInt8
 | 3 => List (UInt8)
 | 4 => Int
 | 5 => List (Int)
 | 6 => ZfV
 | 7 => ZhM
 | 8 => Zms
 | 9 => List (ZhM)
 | 10 => Zrl
 | 11 => List (Zrl)
 | _ => Unit
abbrev X := XV Ty
def szT : Nat -> Nat
 | 0 => 1
 | 1 => 1
 | 2 => 1
 | 3 => 1
 | 4 => 1
 | 5 => 1
 | 6 => 4
 | 7 => 7
 | 8 => 6
 | 9 => 1
 | 10 => 10
 | 11 => 1
 | _ => 1
def Zrm : (E : Nat) -> Ty E -> List X
 | 0, x => [.int .i64 x]
 | 1, x => [.int .u8 (x.toNat : Int)]
 | 2, x => [.str x]
 | 3, x => [.sl 1 x none]
 | 4, x => [.int .u8 x]
 | 5, x => [.sl 0 x none]
 | 6, x => [.sl 0 x.voters none, .sl 0 x.old none, .sl 0 x.learners none, .sl 0 x.want none]
 | 7, x => [.int .i64 x.term_, .int .u8 x.kind, .sl 1 x.command none, .sl 0 x.config.voters none, .sl 0 x.config.old none, .sl 0 x.config.learners none, .sl 0 x.config.want none]
 | 8, x => [.int .i64 x.index, .int .i64 x.term_, .sl 0 x.config.voters none, .sl 0 x.config.old none, .sl 0 x.config.learners none, .sl 0 x.config.want none]
 | 9, x => [.sl 7 x none]
 | 10, x => [.int .i64 x.kind, .int .i64 x.a, .int .i64 x.b, .sl 7 x.entries none, .int .i64 x.base.index, .int .i64 x.base.term_, .sl 0 x.base.config.voters none, .sl 0 x.base.config.old none, .sl 0 x.base.config.learners none, .sl 0 x.base.config.want none]
 | 11, x => [.sl 10 x none]
 | E, _ => List.replicate (szT E) (.bool true)
def gI (k : IntKind) (v : X) : Option Int := match v with
 | .int k' n => if k' = k then some n else none
 | _ => none
def g8 (v : X) : Option UInt8 := match v with
 | .int .u8 n => if 0 <= n /\ n < 256 then some (UInt8.ofNat n.toNat) else none
 | _ => none
def gS (v : X) : Option (List UInt8) := match v with
 | .str b => some b
 | _ => none
def gL (E : Nat) (v : X) : Option (List (Ty E)) := match v with
 | .sl E' xs _ => if h : E' = E then some (h ▸ xs) else none
 | .nil => some []
 | .slx E' xs _ => if h : E' = E then some (h ▸ xs) else none
 | _ => none
theorem Zg1 {k : IntKind} {v : X} {n : Int} (h : gI k v = some n) : Wk v (.int k n) := by
 unfold gI at h
 split at h
 ·split at h
  ·rename_i e; subst e; injection h with h; subst h; exact .same _
  ·cases h
 ·cases h
theorem Zsm {v : X} {n : UInt8} (h : g8 v = some n) : Wk v (.int .u8 (n.toNat : Int)) := by
 unfold g8 at h
 split at h
 ·split at h
  ·rename_i m hr; injection h with h; subst h
   have : ((UInt8.ofNat m.toNat).toNat : Int) = m := by simp; omega
   rw [this]; exact .same _
  ·cases h
 ·cases h
theorem Zsn {v : X} {b : List UInt8} (h : gS v = some b) : Wk v (.str b) := by
 unfold gS at h
 split at h
 ·injection h with h; subst h; exact .same _
 ·cases h
theorem Zdr {E : Nat} {v : X} {xs : List (Ty E)} (h : gL E v = some xs) : Wk v (.sl E xs none) := by
 unfold gL at h
 split at h
 ·split at h
  ·rename_i o e; subst e; injection h with h; subst h
   cases o with
   | none => exact .same _
   | some r => exact .drop _ _ _
  ·cases h
 ·injection h with h; subst h; exact .nil _
 ·split at h
  ·rename_i e; subst e; injection h with h; subst h; exact .spare _ _ _
  ·cases h
 ·cases h
def Zso : (E : Nat) -> List X -> Option (Ty E)
 | 0, [v0] => (gI .i64 v0).bind fun a0 => some a0
 | 1, [v0] => (g8 v0).bind fun a0 => some a0
 | 2, [v0] => (gS v0).bind fun a0 => some a0
 | 3, [v0] => (gL 1 v0).bind fun a0 => some a0
 | 4, [v0] => (gI .u8 v0).bind fun a0 => some a0
 | 5, [v0] => (gL 0 v0).bind fun a0 => some a0
 | 6, [v0, v1, v2, v3] => (gL 0 v0).bind fun a0 => (gL 0 v1).bind fun a1 => (gL 0 v2).bind fun a2 => (gL 0 v3).bind fun a3 => some ⟨a0, a1, a2, a3⟩
 | 7, [v0, v1, v2, v3, v4, v5, v6] => (gI .i64 v0).bind fun a0 => (gI .u8 v1).bind fun a1 => (gL 1 v2).bind fun a2 => (gL 0 v3).bind fun a3 => (gL 0 v4).bind fun a4 => (gL 0 v5).bind fun a5 => (gL 0 v6).bind fun a6 => some ⟨a0, a1, a2, ⟨a3, a4, a5, a6⟩⟩
 | 8, [v0, v1, v2, v3, v4, v5] => (gI .i64 v0).bind fun a0 => (gI .i64 v1).bind fun a1 => (gL 0 v2).bind fun a2 => (gL 0 v3).bind fun a3 => (gL 0 v4).bind fun a4 => (gL 0 v5).bind fun a5 => some ⟨a0, a1, ⟨a2, a3, a4, a5⟩⟩
 | 9, [v0] => (gL 7 v0).bind fun a0 => some a0
 | 10, [v0, v1, v2, v3, v4, v5, v6, v7, v8, v9] => (gI .i64 v0).bind fun a0 => (gI .i64 v1).bind fun a1 => (gI .i64 v2).bind fun a2 => (gL 7 v3).bind fun a3 => (gI .i64 v4).bind fun a4 => (gI .i64 v5).bind fun a5 => (gL 0 v6).bind fun a6 => (gL 0 v7).bind fun a7 => (gL 0 v8).bind fun a8 => (gL 0 v9).bind fun a9 => some ⟨a0, a1, a2, a3, ⟨a4, a5, ⟨a6, a7, a8, a9⟩⟩⟩
 | 11, [v0] => (gL 10 v0).bind fun a0 => some a0
 | _, _ => none
def Zsp : Nat -> Option Nat
 | 3 => some 0
 | 5 => some 1
 | 23 => some 3
 | 24 => some 5
 | 26 => some 6
 | 28 => some 7
 | 30 => some 8
 | 32 => some 9
 | 65 => some 11
 | 74 => some 10
 | _ => none
theorem Zrn : ∀ (E : Nat) (l : List X) (x : Ty E), Zso E l = some x -> Wks l (Zrm E x) := by
 intro E l x h
 unfold Zso at h
 split at h
 ·obtain ⟨a0, h0, h⟩ := ZaK h
  injection h with h; subst h
  exact .cons (Zg1 h0) (.nil)
 ·obtain ⟨a0, h0, h⟩ := ZaK h
  injection h with h; subst h
  exact .cons (Zsm h0) (.nil)
 ·obtain ⟨a0, h0, h⟩ := ZaK h
  injection h with h; subst h
  exact .cons (Zsn h0) (.nil)
 ·obtain ⟨a0, h0, h⟩ := ZaK h
  injection h with h; subst h
  exact .cons (Zdr h0) (.nil)
 ·obtain ⟨a0, h0, h⟩ := ZaK h
  injection h with h; subst h
  exact .cons (Zg1 h0) (.nil)
 ·obtain ⟨a0, h0, h⟩ := ZaK h
  injection h with h; subst h
  exact .cons (Zdr h0) (.nil)
 ·obtain ⟨a0, h0, h⟩ := ZaK h
  obtain ⟨a1, h1, h⟩ := ZaK h
  obtain ⟨a2, h2, h⟩ := ZaK h
  obtain ⟨a3, h3, h⟩ := ZaK h
  injection h with h; subst h
  exact .cons (Zdr h0) (.cons (Zdr h1) (.cons (Zdr h2) (.cons (Zdr h3) (.nil))))
 ·obtain ⟨a0, h0, h⟩ := ZaK h
  obtain ⟨a1, h1, h⟩ := ZaK h
  obtain ⟨a2, h2, h⟩ := ZaK h
  obtain ⟨a3, h3, h⟩ := ZaK h
  obtain ⟨a4, h4, h⟩ := ZaK h
  obtain ⟨a5, h5, h⟩ := ZaK h
  obtain ⟨a6, h6, h⟩ := ZaK h
  injection h with h; subst h
  exact .cons (Zg1 h0) (.cons (Zg1 h1) (.cons (Zdr h2) (.cons (Zdr h3) (.cons (Zdr h4) (.cons (Zdr h5) (.cons (Zdr h6) (.nil)))))))
 ·obtain ⟨a0, h0, h⟩ := ZaK h
  obtain ⟨a1, h1, h⟩ := ZaK h
  obtain ⟨a2, h2, h⟩ := ZaK h
  obtain ⟨a3, h3, h⟩ := ZaK h
  obtain ⟨a4, h4, h⟩ := ZaK h
  obtain ⟨a5, h5, h⟩ := ZaK h
  injection h with h; subst h
  exact .cons (Zg1 h0) (.cons (Zg1 h1) (.cons (Zdr h2) (.cons (Zdr h3) (.cons (Zdr h4) (.cons (Zdr h5) (.nil))))))
 ·obtain ⟨a0, h0, h⟩ := ZaK h
  injection h with h; subst h
  exact .cons (Zdr h0) (.nil)
 ·obtain ⟨a0, h0, h⟩ := ZaK h
  obtain ⟨a1, h1, h⟩ := ZaK h
  obtain ⟨a2, h2, h⟩ := ZaK h
  obtain ⟨a3, h3, h⟩ := ZaK h
  obtain ⟨a4, h4, h⟩ := ZaK h
  obtain ⟨a5, h5, h⟩ := ZaK h
  obtain ⟨a6, h6, h⟩ := ZaK h
  obtain ⟨a7, h7, h⟩ := ZaK h
  obtain ⟨a8, h8, h⟩ := ZaK h
  obtain ⟨a9, h9, h⟩ := ZaK h
  injection h with h; subst h
  exact .cons (Zg1 h0) (.cons (Zg1 h1) (.cons (Zg1 h2) (.cons (Zdr h3) (.cons (Zg1 h4) (.cons (Zg1 h5) (.cons (Zdr h6) (.cons (Zdr h7) (.cons (Zdr h8) (.cons (Zdr h9) (.nil))))))))))
 ·obtain ⟨a0, h0, h⟩ := ZaK h
  injection h with h; subst h
  exact .cons (Zdr h0) (.nil)
 ·cases h
def Zsq : (E : Nat) -> List (Ty E) -> Option (List UInt8)
 | 1, xs => some xs
 | _, _ => none
theorem Zmt : ∀ xs : List UInt8, xs.flatMap (Zrm 1) = xs.map fun b => XV.int .u8 (b.toNat : Int)
 | [] => rfl
 | x :: xs => by rw [List.flatMap_cons, Zmt xs]; rfl
def Zsr : (E : Nat) -> List UInt8 -> Option (List (Ty E))
 | 1, xs => some xs
 | _, _ => none
def CT : ZbD Ty where
 unb := Zsr
 unb_ok := by
  intro E bs xs h
  unfold Zsr at h
  split at h
  ·injection h with h; subst h; exact Zmt _
  ·cases h
 unb_len := by
  intro E bs xs h
  unfold Zsr at h
  split at h
  ·injection h with h; subst h; rfl
  ·cases h
 byt := Zsq
 byt_ok := by
  intro E xs bs h
  unfold Zsq at h
  split at h
  ·injection h with h; subst h; exact Zmt _
  ·cases h
 byt_sz := by
  intro E xs bs h
  unfold Zsq at h
  split at h
  ·rfl
  ·cases h
 enc := Zrm
 dec := Zso
 sz := szT
 code := Zsp
 len := by intro E x; unfold Zrm; split <;> first | rfl | exact List.length_replicate
 pos := by intro E; unfold szT; split <;> decide
 shut := by
  intro E x v hv
  have key : ∀ l : List X, (l.all XV.closed) = true -> v ∈ l -> v.closed = true := fun l h1 h2 => List.all_eq_true.1 h1 v h2
  unfold Zrm at hv
  split at hv
  all_goals first | (rw [List.eq_of_mem_replicate hv]; rfl) | exact key _ rfl hv
 back := Zrn
def Zg2 (x : Int) : Prop := InK .i64 x
def Zkr (x : UInt8) : Prop := True
def Zg3 (x : List (UInt8)) : Prop := OkL 1 Zkr x
def Zpb (x : Int) : Prop := InK .u8 x
def Zgu (x : List (Int)) : Prop := OkL 8 Zg2 x
def ZfW (x : ZfV) : Prop := Zgu x.voters /\ Zgu x.old /\ Zgu x.learners /\ Zgu x.want /\ True
def Zi5 (x : ZhM) : Prop := Zg2 x.term_ /\ Zpb x.kind /\ Zg3 x.command /\ ZfW x.config /\ True
def Zks (x : Zms) : Prop := Zg2 x.index /\ Zg2 x.term_ /\ ZfW x.config /\ True
theorem Zi6 : ∀ ds, Zbk [.i .i64] ds -> (∀ d ∈ ds, Zeo d) -> ∃ x : Ty 0, DXs CT (CT.enc 0 x) ds /\ Zg2 x := by
 intro ds h hs
 obtain ⟨d0, ds0, rfl, f0, h⟩ := Za1 h
 obtain rfl := Zdh h
 obtain ⟨a0, rfl, k0⟩ := Zi4 f0
 exact ⟨a0, .int _ _ (.none), k0⟩
theorem Zro : ∀ ds, Zbk [.i .u8] ds -> (∀ d ∈ ds, Zeo d) -> ∃ x : Ty 1, DXs CT (CT.enc 1 x) ds /\ Zkr x := by
 intro ds h hs
 obtain ⟨d0, ds0, rfl, f0, h⟩ := Za1 h
 obtain rfl := Zdh h
 obtain ⟨a0, rfl⟩ := Zmo f0
 exact ⟨a0, .int _ _ (.none), trivial⟩
theorem Zss : ∀ ds, Zbk [.l [.i .u8]] ds -> (∀ d ∈ ds, Zeo d) -> ∃ x : Ty 3, DXs CT (CT.enc 3 x) ds /\ Zg3 x := by
 intro ds h hs
 obtain ⟨d0, ds0, rfl, f0, h⟩ := Za1 h
 obtain rfl := Zdh h
 obtain ⟨a0, es0, rfl, q0, k0⟩ := ZdG Zro rfl f0 (hs _ (by simp))
 exact ⟨a0, .sl _ _ _ q0 (.none), k0⟩
theorem Zst : ∀ ds, Zbk [.i .i64, .i .u8, .l [.i .u8], .l [.i .i64], .l [.i .i64], .l [.i .i64], .l [.i .i64]] ds -> (∀ d ∈ ds, Zeo d) -> ∃ x : Ty 7, DXs CT (CT.enc 7 x) ds /\ Zi5 x := by
 intro ds h hs
 obtain ⟨d0, ds0, rfl, f0, h⟩ := Za1 h
 obtain ⟨d1, ds1, rfl, f1, h⟩ := Za1 h
 obtain ⟨d2, ds2, rfl, f2, h⟩ := Za1 h
 obtain ⟨d3, ds3, rfl, f3, h⟩ := Za1 h
 obtain ⟨d4, ds4, rfl, f4, h⟩ := Za1 h
 obtain ⟨d5, ds5, rfl, f5, h⟩ := Za1 h
 obtain ⟨d6, ds6, rfl, f6, h⟩ := Za1 h
 obtain rfl := Zdh h
 obtain ⟨a0, rfl, k0⟩ := Zi4 f0
 obtain ⟨a1, rfl, k1⟩ := Zi4 f1
 obtain ⟨a2, es2, rfl, q2, k2⟩ := ZdG Zro rfl f2 (hs _ (by simp))
 obtain ⟨a3, es3, rfl, q3, k3⟩ := ZdG Zi6 rfl f3 (hs _ (by simp))
 obtain ⟨a4, es4, rfl, q4, k4⟩ := ZdG Zi6 rfl f4 (hs _ (by simp))
 obtain ⟨a5, es5, rfl, q5, k5⟩ := ZdG Zi6 rfl f5 (hs _ (by simp))
 obtain ⟨a6, es6, rfl, q6, k6⟩ := ZdG Zi6 rfl f6 (hs _ (by simp))
 exact ⟨⟨a0, a1, a2, ⟨a3, a4, a5, a6⟩⟩, .int _ _ (.int _ _ (.sl _ _ _ q2 (.sl _ _ _ q3 (.sl _ _ _ q4 (.sl _ _ _ q5 (.sl _ _ _ q6 (.none))))))), ⟨k0, k1, k2, ⟨k3, k4, k5, k6, trivial⟩, trivial⟩⟩
theorem Zsu : ∀ ds, Zbk [.i .i64, .i .i64, .l [.i .i64], .l [.i .i64], .l [.i .i64], .l [.i .i64]] ds -> (∀ d ∈ ds, Zeo d) -> ∃ x : Ty 8, DXs CT (CT.enc 8 x) ds /\ Zks x := by
 intro ds h hs
 obtain ⟨d0, ds0, rfl, f0, h⟩ := Za1 h
 obtain ⟨d1, ds1, rfl, f1, h⟩ := Za1 h
 obtain ⟨d2, ds2, rfl, f2, h⟩ := Za1 h
 obtain ⟨d3, ds3, rfl, f3, h⟩ := Za1 h
 obtain ⟨d4, ds4, rfl, f4, h⟩ := Za1 h
 obtain ⟨d5, ds5, rfl, f5, h⟩ := Za1 h
 obtain rfl := Zdh h
 obtain ⟨a0, rfl, k0⟩ := Zi4 f0
 obtain ⟨a1, rfl, k1⟩ := Zi4 f1
 obtain ⟨a2, es2, rfl, q2, k2⟩ := ZdG Zi6 rfl f2 (hs _ (by simp))
 obtain ⟨a3, es3, rfl, q3, k3⟩ := ZdG Zi6 rfl f3 (hs _ (by simp))
 obtain ⟨a4, es4, rfl, q4, k4⟩ := ZdG Zi6 rfl f4 (hs _ (by simp))
 obtain ⟨a5, es5, rfl, q5, k5⟩ := ZdG Zi6 rfl f5 (hs _ (by simp))
 exact ⟨⟨a0, a1, ⟨a2, a3, a4, a5⟩⟩, .int _ _ (.int _ _ (.sl _ _ _ q2 (.sl _ _ _ q3 (.sl _ _ _ q4 (.sl _ _ _ q5 (.none)))))), ⟨k0, k1, ⟨k2, k3, k4, k5, trivial⟩, trivial⟩⟩
end Go.Proofs.YtiienjjhlibopaaGreatDoor
namespace Go.Proofs.YtiienjjhlibopaaGreatDoor
open Go.RowKit
set_option linter.unusedSimpArgs false
set_option maxRecDepth 100000
set_option linter.unusedVariables false
variable {T : Nat -> Type}
section
variable {C : ZbD T} {P : Program} {w w' : World} {σ : St} {Z : Nat -> Prop} {ρ : Nat -> AV}
end
end Go.Proofs.YtiienjjhlibopaaGreatDoor
namespace Go.Proofs.YtiienjjhlibopaaGreatDoor
open Go.RowKit
set_option linter.unusedSimpArgs false
set_option maxRecDepth 100000
set_option linter.unusedVariables false
variable {T : Nat -> Type}
section
variable {C : ZbD T} {P : Program}
theorem Zlm {ρ0 : Go.Shelf.Ren} (L : Lays8.n4 P ρ0) {f : FuncId} {e : TypeId} {E : Nat} (he : ρ0.t 25 = e) (hf0 : ρ0.f 4 = f) {zv : Value} {sz by_ : Nat} (kp : Bool) (hsz : ZaU P e = some sz) (hz : Zba P e = some zv) (hby : Zdv P e = some by_) (hzs : zv.cells.size = sz) (hE : sz = C.sz E) (hfu : C.full E = false)
 (hf : ZbX P f = true) (n : Int) (h0 : 0 <= n) (h1 : n <= 140737488355328) (h2 : n * by_ <= 140737488355328) : Tr C P (fun _ => True) f [.nil, .int .i64 n] [] (.as E 0 0 0 none) [.arr e E kp []] := by
 subst he hf0
 intro ρ σ vs hs H
 obtain ⟨N, rfl⟩ : ∃ N : Nat, n = (N : Int) := ⟨n.toNat, by omega⟩
 cases hs with
 | nil hs =>
 cases hs with
 | int _ _ hs =>
 cases hs with
 | none =>
 refine fun w Z hH hV => .inl ⟨hf, ?_⟩
 by_cases hN : N = 0
 ·subst hN
  refine Calls.mono (Any8.slices_Grow_room L none 0 0 0 w (by omega) (by omega) (by omega) (by omega)) ?_
  rintro e' w' ⟨rfl, rfl⟩
  obtain ⟨g1, g2⟩ := H.newNil (U := fun _ => True) (e := ρ0.t 25) (E := E) (kp := kp)
  exact ⟨.lst none 0 0 [], σ, by simp, ⟨_, ZpE.2 (.inr ⟨rfl, rfl, by simp, ZcK _ _ _, fun c' hc => by cases hc⟩), g1, g2⟩, hH, ZhH, Grow.refl _ _⟩
 ·obtain ⟨i', hi', hsi⟩ := Zl7 hsz
  have hzi : i'.zero = some zv := by unfold Zba at hz; rw [hi'] at hz; simpa using hz
  have hbi : i'.bytes = by_ := by unfold Zdv at hby; rw [hi'] at hby; simpa using hby
  have hpos := C.pos E
  have hb4 : N * by_ <= 140737488355328 := by
   have : ((N * by_ : Nat) : Int) <= 140737488355328 := by rw [Int.natCast_mul]; exact h2
   omega
  refine Calls.mono (Any8.slices_Grow_grow L i' zv hi' hzi (by omega) none 0 0 N [] w (by omega) (by omega) (by rw [hbi]; simpa using hb4) (by omega) (by simp) (fun _ => rfl) (fun a ha => by cases ha)) ?_
  rintro e' w' ⟨rfl, rfl⟩
  have hge := grownCap_ge w (0 + N) 0 (ρ0.t 25)
  have hcm := grownCap_le_maxLen w (0 + N) 0 (ρ0.t 25) (by unfold maxLen; omega)
  generalize grownCap w (0 + N) 0 (ρ0.t 25) = cap at *
  have harr : ([] : List Value).toArray ++ Builtin.zeroCells zv.cells (0 + N - 0) ++ Builtin.zeroCells zv.cells (cap - (0 + N)) = ((((Builtin.zeroCells zv.cells N).toList.map AV.raw ++ (Builtin.zeroCells zv.cells (cap - (0 + N))).toList.map AV.raw)).map AV.val).toArray := by
   apply Array.ext'
   simp [Function.comp_def]
  rw [harr]
  obtain ⟨f1, f2, f3, f4⟩ := hH.made (ρ0.t 25) (((Builtin.zeroCells zv.cells N).toList.map AV.raw ++ (Builtin.zeroCells zv.cells (cap - (0 + N))).toList.map AV.raw)) (fun q hq => by
   rcases List.mem_append.1 hq with hq | hq
   ·obtain ⟨v, _, rfl⟩ := List.mem_map.1 hq
    exact Zbe _
   ·obtain ⟨v, _, rfl⟩ := List.mem_map.1 hq
    exact Zbe _)
  obtain ⟨g1, g2⟩ := H.newArr (U := fun _ => True) kp f1 f2 (ρ0.t 25) (E := E) (K := cap) (xs := []) (pre := []) (rest := ((Builtin.zeroCells zv.cells N).toList.map AV.raw ++ (Builtin.zeroCells zv.cells (cap - (0 + N))).toList.map AV.raw)) (fun _ _ => .none) (by
   simp only [List.nil_append, List.length_append, List.length_map, Array.length_toList, size_zeroCells, hzs]
   rw [<- Nat.add_mul, hE]
   congr 1
   omega) hcm (fun h => by rw [hfu] at h; cases h)
  refine ⟨.raw (.slice (some ⟨w.heap.size, 0, none⟩) 0 cap), _, by simp, ⟨_, ZpE.2 (.inl ⟨_, _, rfl, by simp, Nat.zero_le _, hcm, by omega, ⟨w.heap.size, by rw [Nat.zero_add]; exact ZcK _ _ _, fun _ => by rw [Nat.zero_mul]⟩, fun c' hc => by cases hc⟩), g1, g2⟩, f3, Zbe _, f4⟩
end
end Go.Proofs.YtiienjjhlibopaaGreatDoor
namespace Go.Proofs.YtiienjjhlibopaaGreatDoor
open Go.RowKit
set_option linter.unusedSimpArgs false
set_option maxRecDepth 100000
set_option linter.unusedVariables false
variable {T : Nat -> Type}
section
variable {C : ZbD T} {P : Program}
end
end Go.Proofs.YtiienjjhlibopaaGreatDoor
namespace Go.Proofs.YtiienjjhlibopaaGreatDoor
open Go.RowKit
set_option linter.unusedSimpArgs false
set_option maxRecDepth 100000
set_option linter.unusedVariables false
set_option linter.unusedSectionVars false
theorem ZpS {α : Type} (l : List (List α)) : (l.map fun r => r.map fun x => x) = l := by simp
section
variable {T : Nat -> Type} {C : ZbD T} {P : Program} {N : Nat} {ρ : Nat -> AV} {w : World} {B : Nat -> Nat -> Prop}
variable {Eb : Nat} {tb : T Eb -> UInt8} (hb : ∀ x, C.enc Eb x = [.int .u8 ((tb x).toNat : Int)])
include hb
theorem Zkt : ∀ {xs : List (T Eb)} {cs : List AV}, SVs C N ρ (xs.flatMap (C.enc Eb)) cs -> cs = xs.map fun x => AV.raw (vB (tb x))
 | [], cs, h => by rw [ZdF.1 h]; rfl
 | x :: xs, cs, h => by
  rw [List.flatMap_cons, hb x] at h
  obtain ⟨a, bs, rfl, h1, h2⟩ := SVs.to (v := .int .u8 ((tb x).toNat : Int)) h
  rw [Zeh.1 h1, Zkt h2]
  rfl
theorem Zmu {xs : List (T Eb)} {a : AV} (hs : SV C N ρ (.sl Eb xs none) a) (hV : Zar w B a) : ∃ A c, a.val = .slice A xs.length c /\ Rep (fun _ => True) w (Zf6 (xs.map tb)) a.val := by
 obtain ⟨A, c, cs, rest, rfl, l1, l2, l3, l4, l5⟩ := Zhz.1 hs
 have hcs := Zkt hb l5
 rw [AV.val_lst]
 refine ⟨A, c, rfl, Rep.of_list (by simp) l1 l2 l3 l4 fun ad ha hp => ?_⟩
 unfold Zar at hV
 have hat := hV.2.2 ad ha
 have hcell : ∀ (j : Nat) (d : D), ((xs.map tb).map dB)[j]? = some d -> ∃ u, w.cell? (ad.add j) = some u /\ Rep (fun _ => True) w d u := fun j d hd => by
  rw [List.map_map, List.getElem?_map] at hd
  cases hx : xs[j]? with
  | none => rw [hx] at hd; cases hd
  | some x =>
   rw [hx] at hd
   injection hd with hd
   subst hd
   have hj : j < xs.length := Zcd hx
   have hg : (cs ++ rest)[j]? = some (AV.raw (vB (tb x))) := by
    rw [List.getElem?_append_left (by rw [hcs, List.length_map]; exact hj), hcs, List.getElem?_map, hx]; rfl
   have := (hat.get hg).1
   rw [Nat.zero_add] at this
   refine ⟨vB (tb x), by simpa using this, ?_⟩
   show Rep _ w (D.i .u8 _) (vB (tb x))
   unfold Rep
   rfl
 refine ⟨trivial, ?_, hcell⟩
 obtain ⟨u, hu, _⟩ := hcell 0 (dB (tb (xs[0]'hp))) (by rw [List.map_map, List.getElem?_map, List.getElem?_eq_getElem hp]; rfl)
 have := World.block_lt_of_cell? w _ hu
 rw [Addr.block_add] at this
 exact this
variable {Er : Nat} {tr : T Er -> List (T Eb)} (hr : ∀ x, C.enc Er x = [.sl Eb (tr x) none])
include hr
theorem Zmv : ∀ {rs : List (T Er)} {cs : List AV}, SVs C N ρ (rs.flatMap (C.enc Er)) cs -> cs.length = rs.length /\ ∀ (j : Nat) r, rs[j]? = some r -> ∃ a, cs[j]? = some a /\ SV C N ρ (.sl Eb (tr r) none) a
 | [], cs, h => by rw [ZdF.1 h]; exact ⟨rfl, fun j r hj => by simp at hj⟩
 | x :: rs, cs, h => by
  rw [List.flatMap_cons, hr x] at h
  obtain ⟨a, bs, rfl, h1, h2⟩ := SVs.to (v := .sl Eb (tr x) none) h
  obtain ⟨k1, k2⟩ := Zmv h2
  refine ⟨by simp [k1], fun j r hj => ?_⟩
  cases j with
  | zero => injection hj with hj; subst hj; exact ⟨a, rfl, h1⟩
  | succ j => exact k2 j r hj
theorem Zn3 {rs : List (T Er)} {a : AV} (hs : SV C N ρ (.sl Er rs none) a) (hV : Zar w B a) : ∃ A c, a.val = .slice A rs.length c /\ Rep (fun _ => True) w (ZiE (rs.map fun r => (tr r).map tb)) a.val := by
 obtain ⟨A, c, cs, rest, rfl, l1, l2, l3, l4, l5⟩ := Zhz.1 hs
 obtain ⟨k1, k2⟩ := Zmv hb hr l5
 rw [AV.val_lst]
 refine ⟨A, c, rfl, Rep.of_list (by simp) l1 l2 l3 l4 fun ad ha hp => ?_⟩
 unfold Zar at hV
 have hat := hV.2.2 ad ha
 have hcell : ∀ (j : Nat) (d : D), ((rs.map fun r => (tr r).map tb).map Zf6)[j]? = some d -> ∃ u, w.cell? (ad.add j) = some u /\ Rep (fun _ => True) w d u := fun j d hd => by
  rw [List.map_map, List.getElem?_map] at hd
  cases hx : rs[j]? with
  | none => rw [hx] at hd; cases hd
  | some r =>
   rw [hx] at hd
   injection hd with hd
   subst hd
   obtain ⟨a, ha, hsa⟩ := k2 j r hx
   have hg : (cs ++ rest)[j]? = some a := by rw [List.getElem?_append_left (Zcd ha)]; exact ha
   have := hat.get hg
   rw [Nat.zero_add] at this
   obtain ⟨_, _, _, q⟩ := Zmu hb hsa this.2.2
   exact ⟨a.val, this.1, q⟩
 refine ⟨trivial, ?_, hcell⟩
 obtain ⟨u, hu, _⟩ := hcell 0 (Zf6 ((tr (rs[0]'hp)).map tb)) (by rw [List.map_map, List.getElem?_map, List.getElem?_eq_getElem hp]; rfl)
 have := World.block_lt_of_cell? w _ hu
 rw [Addr.block_add] at this
 exact this
theorem Tr.sum {f : FuncId} {k : IntKind} {rs : List (T Er)} {g : Int} (hf : ZbX P f = true)
 (hcall : ∀ A n c w, Rep (fun _ => True) w (ZiE (rs.map fun r => (tr r).map tb)) (.slice A n c) -> Calls P f #[.slice A n c] w fun e w' => e = .returned (.int k g) /\ Zdt (fun _ => False) w w') :
 Tr C P (fun _ => True) f [.sl Er rs none] [] (.int k g) [] := by
 intro ρ σ vs hs H
 obtain ⟨a, rfl, h1⟩ := Zsi.1 hs
 refine fun w Z hH hV => .inl ⟨hf, ?_⟩
 obtain ⟨A, c, e1, hR⟩ := Zn3 hb hr h1 (hV a (List.mem_singleton.2 rfl))
 have : ([a].map AV.val).toArray = #[.slice A rs.length c] := by simp [e1]
 rw [this]
 rw [e1] at hR
 refine Calls.mono (hcall _ _ _ _ hR) ?_
 rintro e w' ⟨rfl, K⟩
 have hg : Grow w σ w' σ := ⟨K.os, K.tape, K.output, K.size, fun b hb hu => hu, fun b hb hn => ⟨K.block b hb (fun h => h), hn⟩, fun b t k s hb ht => ⟨fun j v _ hv => by rw [World.cell?_of_block (w := w) (K.block b hb (fun h => h))]; exact hv, .inr ⟨t, k, s, ht, Nat.le_refl _⟩⟩, fun b hu => hu⟩
 have hH' : ZaG w' σ Z := by
  refine ⟨fun b hu => Nat.lt_of_lt_of_le (hH.used _ hu) K.size, fun b hz => ?_, fun b t cs hb => ?_, fun b t k s hb => ?_, fun b es hb => ?_⟩
  ·obtain ⟨z1, z2⟩ := hH.z _ hz
   exact ⟨Nat.lt_of_lt_of_le z1 K.size, z2⟩
  ·obtain ⟨g1, g2, g3⟩ := hH.own _ _ _ hb
   exact ⟨g1, (K.block b (hH.used _ g1) (fun h => h)).trans g2, fun c hc => hg.valid (g3 c hc)⟩
  ·obtain ⟨g1, cs, g2, g3⟩ := hH.tail _ _ _ _ hb
   exact ⟨g1, cs, (K.block b (hH.used _ g1) (fun h => h)).trans g2, g3⟩
  ·obtain ⟨g1, a, c, g2, g3⟩ := hH.map _ _ hb
   exact ⟨g1, a, c, (K.block b (hH.used _ g1) (fun h => h)).trans g2, g3⟩
 exact ⟨.raw (.int k g), σ, by simp, ⟨ρ, Zeh.2 rfl, H, .refl _ _ _ _⟩, hH', by unfold Zar; trivial, hg⟩
end
section
variable {T : Nat -> Type} {C : ZbD T} {P : Program}
end
end Go.Proofs.YtiienjjhlibopaaGreatDoor
namespace Go.Proofs.YtiienjjhlibopaaGreatDoor
open Go.RowKit
set_option maxRecDepth 100000
set_option linter.unusedVariables false
set_option linter.unusedSimpArgs false
theorem Zrp (d : List UInt8) : d.flatMap (CT.enc 1) = d.map fun b => XV.int .u8 (b.toNat : Int) := by
 induction d with
 | nil => rfl
 | cons x d ih => rw [List.flatMap_cons, ih]; rfl
theorem Zrq {N : Nat} {ρ : Nat -> AV} (d : List UInt8) : SVs CT N ρ (d.flatMap (CT.enc 1)) (bys d) := by
 rw [Zrp]
 exact Zl8 d
theorem Zmw {N : Nat} {ρ : Nat -> AV} : ∀ {d : List UInt8} {cs : List AV}, SVs CT N ρ (d.flatMap (CT.enc 1)) cs -> cs = bys d
 | [], cs, h => ZdF.1 h
 | b :: d, cs, h => by
  rw [List.flatMap_cons] at h
  obtain ⟨a, as_, rfl, h1, h2⟩ := SVs.to (v := XV.int .u8 (b.toNat : Int)) h
  rw [Zmw h2, Zeh.1 h1]
  rfl
theorem Zku {N : Nat} {ρ : Nat -> AV} {d : List UInt8} {a : AV} (h : SV CT N ρ (.sl 1 d none) a) : ∃ A c rest, a = .lst A d.length c (bys d ++ rest) /\ Lst A d.length c := by
 obtain ⟨A, c, cs, rest, rfl, l1, l2, l3, l4, l5⟩ := Zhz.1 h
 rw [Zmw l5]
 exact ⟨A, c, rest, rfl, l1, l2, l3, l4⟩
theorem Zig {N : Nat} {ρ : Nat -> AV} {d : List UInt8} {A : Option Addr} {c : Nat} {rest : List AV} (h : Lst A d.length c) : SV CT N ρ (.sl 1 d none) (.lst A d.length c (bys d ++ rest)) :=
 Zhz.2 ⟨A, c, bys d, rest, rfl, h.le, h.most, h.small, h.none, Zrq d⟩
theorem Zn4 (ps : List (List UInt8)) : ps.flatMap (CT.enc 3) = ps.map fun p => XV.sl 1 p none := by
 induction ps with
 | nil => rfl
 | cons x d ih => rw [List.flatMap_cons, ih]; rfl
theorem ZpT {ps : List (List UInt8)} {A : Option Addr} {c : Nat} {as_ : List AV} (hs : SVs CT 0 ZdO (ps.map fun p => XV.sl 1 p none) as_) (hA : Lst A ps.length c) : SV CT 0 ZdO (.sl 3 ps none) (.lst A ps.length c as_) :=
 Zhz.2 ⟨A, c, as_, [], by rw [List.append_nil], hA.le, hA.most, hA.small, hA.none, by rw [Zn4]; exact hs⟩
theorem Zmx {N : Nat} {ρ : Nat -> AV} {d : List UInt8} {A : Option Addr} {c : Nat} (h : Lst A d.length c) : SV CT N ρ (.sl 1 d none) (.lst A d.length c (bys d)) := by
 rw [<- List.append_nil (bys d)]
 exact Zig h
theorem ZpU (b : Nat) {n : Nat} (h : n <= 1000) : Lst (some ⟨b, 0, none⟩) n n := ⟨Nat.le_refl _, by unfold maxLen; omega, by omega, fun q => by cases q⟩
def Za5 (σ : St) (v : AV) (d : List UInt8) : Prop := Hd σ 5 1 v d.length (bys d) \/ SV CT 0 ZdO (.sl 1 d none) v
theorem Ze4 {d : List UInt8} {i : Nat} (h : i < d.length) : (bys d)[i]? = some (.raw (.int .u8 (d[i].toNat : Int))) := by
 unfold bys
 rw [List.getElem?_map, List.getElem?_eq_getElem h]
 rfl
theorem ZeE (d : List UInt8) : ∀ a ∈ bys d, a.one = true := fun a ha => by
 obtain ⟨u, _, rfl⟩ := List.mem_map.1 ha
 rfl
theorem Za5.ls {σ : St} {v : AV} {d : List UInt8} (h : Za5 σ v d) : Ls σ 5 v d.length (bys d) := by
 rcases h with h | h
 ·exact .of h
 ·obtain ⟨A, c, rest, rfl, hL⟩ := Zku h
  exact ⟨Zb1 d, ZeE d, .inl ⟨A, c, rest, rfl, fun q => (hL.none q).1⟩⟩
theorem Za5.ext {σ τ : St} {v : AV} {d : List UInt8} (h : Za5 σ v d) (k : Ext σ τ) : Za5 τ v d := h.imp (fun q => q.ext k) id
def Zrr (σ : St) (v : AV) (ps : List (List UInt8)) : Prop := ∃ cells, Ls σ 23 v ps.length cells /\ ∀ i (h : i < ps.length), ∃ u, cells[i]? = some u /\ Za5 σ u ps[i]
theorem ZhN {N : Nat} {ρ : Nat -> AV} : ∀ {l : List (List UInt8)} {cs : List AV}, SVs CT N ρ (l.flatMap (CT.enc 3)) cs -> cs.length = l.length /\ ∀ i (h : i < l.length), ∃ v, cs[i]? = some v /\ SV CT N ρ (.sl 1 l[i] none) v
 | [], cs, h => by
  rw [ZdF.1 h]
  exact ⟨rfl, fun i h => absurd h (Nat.not_lt_zero i)⟩
 | f :: l, cs, hs => by
  rw [List.flatMap_cons] at hs
  have hs : SVs CT N ρ (XV.sl 1 f none :: l.flatMap (CT.enc 3)) cs := hs
  obtain ⟨a0, as_, rfl, h0, h1⟩ := hs.to
  obtain ⟨q1, q2⟩ := ZhN h1
  refine ⟨by simp [q1], fun i hi => ?_⟩
  cases i with
  | zero => exact ⟨a0, rfl, h0⟩
  | succ i =>
   obtain ⟨v, r1, r2⟩ := q2 i (by simpa using hi)
   exact ⟨v, r1, r2⟩
theorem rows_at {σ : St} {ps : List (List UInt8)} {a : AV} (ha : SV CT 0 ZdO (.sl 3 ps none) a) : Zrr σ a ps := by
 obtain ⟨A, c, cs, rest, rfl, l1, l2, l3, l4, l5⟩ := Zhz.1 ha
 obtain ⟨q1, q2⟩ := ZhN l5
 refine ⟨cs, ⟨q1, fun a ha => ?_, .inl ⟨A, c, rest, rfl, fun q => (l4 q).1⟩⟩, fun i hi => ?_⟩
 ·obtain ⟨i, hi, rfl⟩ := List.getElem_of_mem ha
  obtain ⟨v, r1, r2⟩ := q2 i (by omega)
  rw [List.getElem?_eq_getElem hi] at r1
  injection r1 with r1
  rw [r1]
  obtain ⟨A', c', rest', rfl, _⟩ := Zku r2
  rfl
 ·obtain ⟨v, r1, r2⟩ := q2 i hi
  exact ⟨v, r1, .inr r2⟩
section
variable {σ : St} {K : AV -> St -> Prop}
theorem Zfw : Program.underlying Tryz.prog 5 = some (.int .u8) := by kernel_rfl
theorem Zg4 {P : Program} {ops : Array Oper} {env : Env} {σ : St} {K : Env -> St -> Prop} {d : Option Nat} {ty ty' t e : TypeId} {pos : String} {af : Array Edge} {x y : Operand} {A : Option Addr} {n c : Nat} {v : AV} (ht : ZaW P t = some e) (hx : ev env x = v) (hv : v.val = .slice A n c) (hy : ev env y = .lst none 0 0 []) (h : K (env.put d (.raw (.bool A.isNone))) σ) : aOp P ops ⟨d, .binOp .eql t x y ty', ty, pos, af, none⟩ env σ K :=
 ZcP hx hy (fun w _ _ => by rw [hv]; simp [eqGuard_at_slice, binOp, run_equal_slice_nil w t e A n c (ZbO ht)]) h
theorem Zkv {d : List UInt8} {v : AV} (hv : Za5 σ v d) (hl : d.length <= 1000000000) (K : AV -> St -> Prop) (hK : ∀ a τ, Hd τ 5 1 a d.length (bys d) -> Ext σ τ -> (∀ b, hbk a = some b -> Za9 σ b) -> K a τ) : Zan Tryz.prog 63 [v] σ K := by
 have hL := hv.ls
 obtain ⟨A, c, h1, h2⟩ := hL.val
 refine Zai Zam Tryz.func63 rfl rfl rfl (Nat.le_of_ble_eq_true rfl) ?_
 refine Zbf 0 (v0 := v) rfl ?_
 intro e he
 repeat refine Zab ?_
 first|refine Zaa ?_|refine Zad ?_
 refine Zag ?_
 refine Zaf (kp1 0 fun e he => ?_)
 repeat refine Zab ?_
 first|refine Zaa ?_|refine Zad ?_
 refine Zag ?_
 refine Zac (Zg4 (A := A) (n := d.length) (c := c) Zbw rfl h1 rfl ?_)
 refine Zaf (kp2 0 4 ?_)
 clear he e
 intro e he
 cases A with
 | none =>
  have hd : d = [] := List.eq_nil_of_length_eq_zero (h2 rfl)
  subst hd
  refine ZaC (t := true) he.2 (fun _ => ?_) (fun hf => by cases hf)
  repeat refine Zab ?_
  first|refine Zaa ?_|refine Zad ?_
  refine Zag ?_
  refine Zaf (ZbB ?_)
  exact ZaD (hK _ σ ⟨rfl, by simp [bys], .inl ⟨.inl rfl, rfl⟩⟩ (.refl _) (fun b hb => by cases hb))
 | some ad =>
  refine ZaC (t := false) he.2 (fun hf => by cases hf) (fun _ => ?_)
  refine ZaL ?_
  repeat refine Zab ?_
  first|refine Zaa ?_|refine Zad ?_
  refine Zn0 Zbw Zcn ZeO rfl fun ad υ1 hX1 => ?_
  refine Zag ?_
  refine Zac (ZaZ (m := d.length) (news := bys d) rfl rfl Zbw Zcn ZeO ZgQ rfl (by omega) (Zrk ad) (hL.ext hX1).src (by unfold maxLen; omega) (by omega) fun v2 υ2 hv2 hB2 hn2 => ?_)
  rw [Nat.zero_add, List.nil_append] at hv2
  refine Zag ?_
  refine Zaf (Zap ?_)
  exact ZaD (hK v2 υ2 hv2 (But.ext hX1 (fun c hc => by cases hc) hB2) (fun c hc => (hn2 c hc).elim (fun q => by cases q) fun q => Za9.of q hX1))
theorem Zi7 {d : List UInt8} {v : AV} (hv : Hd σ 5 1 v d.length (bys d)) (hl : d.length <= 1000000000) (K : AV -> St -> Prop) (hK : ∀ a τ, Hd τ 5 1 a d.length (bys d) -> Ext σ τ -> (∀ b, hbk a = some b -> Za9 σ b) -> K a τ) : Zan Tryz.prog 63 [v] σ K := Zkv (.inl hv) hl K hK
theorem Zi8 {α : Type} [DecidableEq α] {a b : List α} {i : Nat} (hl : a.length = b.length) (hi : i < a.length) (h : a.take i = b.take i) : (a[i] = b[i]'(by omega) -> a.take (i + 1) = b.take (i + 1)) /\ (a[i] ≠ b[i]'(by omega) -> a ≠ b) := by
 refine ⟨fun e => ?_, fun e q => e (by subst q; rfl)⟩
 rw [List.take_succ_eq_append_getElem hi, List.take_succ_eq_append_getElem (by omega : i < b.length), h, e]
theorem Zkw {v1 v2 : AV} {d1 d2 : List UInt8} (h1 : Za5 σ v1 d1) (h2 : Za5 σ v2 d2) (l1 : d1.length <= 1000000000) (l2 : d2.length <= 1000000000) (K : AV -> St -> Prop) (hK : ∀ τ, Ext σ τ -> K (vT (decide (d1 = d2))) τ) : Zan Tryz.prog 23 [v1, v2] σ K := by
 have g1 := h1.ls
 have g2 := h2.ls
 refine Zai Zam Tryz.func23 rfl rfl rfl (Nat.le_of_ble_eq_true rfl) ?_
 refine ZbL 0 1 (v0 := v1) (v1 := v2) rfl rfl ?_
 intro e he
 repeat refine Zab ?_
 first|refine Zaa ?_|refine Zad ?_
 refine Zag ?_
 refine Zaf (kp2 0 1 fun e he => ?_)
 repeat refine Zab ?_
 first|refine Zaa ?_|refine Zad ?_
 refine Zag ?_
 refine Zac (ZaP rfl g1 rfl Zbw ?_)
 refine Zag ?_
 refine Zac (ZaP rfl g2 rfl Zbw ?_)
 refine Zac (Zdo (k := .i64) (a := (d1.length : Int)) (b := (d2.length : Int)) rfl rfl ?_)
 refine Zaf (kp3 0 1 10 fun e he => ?_)
 refine ZaC (t := decide ((d1.length : Int) ≠ (d2.length : Int))) he.2.2 (fun hq => ?_) (fun hq => ?_)
 ·have hq := of_decide_eq_true hq
  rw [decide_eq_false (fun e => hq (by rw [e]))] at hK
  repeat refine Zab ?_
  first|refine Zaa ?_|refine Zad ?_
  refine Zag ?_
  refine Zaf (ZbB ?_)
  exact ZaD (hK σ (.refl _))
 have hq := of_decide_eq_false hq
 have hl : d1.length = d2.length := by omega
 refine ZaL ?_
 repeat refine Zab ?_
 first|refine Zaa ?_|refine Zad ?_
 refine Zag ?_
 refine Zaf (kp3 0 1 5 fun e he => ?_)
 refine ZaF (Za4 (fun μ env υ => ∃ i : Nat, μ = d1.length - i /\ i <= d1.length /\ (env 0 = v1 /\ env 1 = v2 /\ env 5 = vI i) /\ σ = υ /\ d1.take i = d2.take i) ⟨_, 0, rfl, Nat.zero_le _, he, rfl, rfl⟩ ?_)
 clear he e
 rintro _ e _ ⟨i, rfl, hi, he, rfl, hs⟩
 repeat refine Zab ?_
 first|refine Zaa ?_|refine Zad ?_
 refine Zag ?_
 refine Zag ?_
 refine Zac (ZaP rfl g1 rfl Zbw ?_)
 refine Zcf i d1.length ?_
 refine Zaf (kp4 0 1 5 14 fun e he => ?_)
 refine ZaC (t := decide (i < d1.length)) he.2.2.2 (fun ht => ?_) (fun ht => ?_)
 ·have hlt : i < d1.length := of_decide_eq_true ht
  have hlt2 : i < d2.length := by omega
  obtain ⟨s1, s2⟩ := Zi8 hl hlt hs
  refine ZaL (ZaF (Zbt ?_))
  refine ⟨[0, 1, 2, 4, 5, 6, 3, 7, 8], [[], [], [0, 1], [0, 1, 2], [], [], [4, 5], [4, 5, 6], [0, 1, 2, 3, 4, 5, 6, 7]], fun _ => True, [], [], [], by kernel_rfl, ?_⟩
  refine Zax ?_
  refine Zax ?_
  refine Zas ?_
  refine Zcp g1 hlt (Ze4 hlt) rfl rfl Zbw Zcn Znz fun q1 hq1 => ?_
  refine Zaz ?_
  refine Zax ?_
  refine Zax ?_
  refine Zas ?_
  refine Zcp g2 hlt2 (Ze4 hlt2) rfl rfl Zbw Zcn Znz fun q2 hq2 => ?_
  refine Zaz ?_
  refine Zas ?_
  refine ZbV rfl hq1 ?_
  refine Zaz ?_
  refine Zas ?_
  refine ZbV rfl hq2 ?_
  refine Zaz ?_
  refine Zas ?_
  refine Zdo (k := .u8) (a := (d1[i].toNat : Int)) (b := (d2[i].toNat : Int)) rfl rfl ?_
  refine Zaz ?_
  refine ZbI (kp4 0 1 5 25 ?_)
  clear he e
  intro e he
  refine ZaQ (t := decide ((d1[i].toNat : Int) ≠ (d2[i].toNat : Int))) he.2.2.2 (fun hq => ?_) (fun hq => ?_)
  ·have hq := of_decide_eq_true hq
   rw [decide_eq_false (s2 fun e => hq (by rw [e]))] at hK
   repeat refine Zab ?_
   first|refine Zaa ?_|refine Zad ?_
   refine Zag ?_
   refine Zaf (Zap ?_)
   exact ZaD (hK _ (.refl _))
  ·have hq := of_decide_eq_false hq
   have he2 : d1[i] = d2[i] := UInt8.toNat_inj.1 (by omega)
   refine Zbm ?_
   show ZaA _ _ _ _ _ _
   refine Zad (Zag ?_)
   refine Zby i 1 ?_
   refine Zag ?_
   refine Zaf ?_
   show ∃ n', n' < _ /\ _
   exact ⟨_, (by omega : d1.length - (i + 1) < d1.length - i), i + 1, rfl, hlt, ⟨by simp only [EV,Nat.reduceEqDiff,↓reduceIte,he];try rfl, by simp only [EV,Nat.reduceEqDiff,↓reduceIte,he];try rfl, by simp only [EV,Nat.reduceEqDiff,↓reduceIte,he];try rfl⟩, rfl, s1 he2⟩
 ·have hke : i = d1.length := by have := of_decide_eq_false ht; omega
  rw [hke, List.take_length, hl, List.take_length] at hs
  rw [decide_eq_true hs] at hK
  refine Zbu ?_
  show ZaA _ _ _ _ _ _
  repeat refine Zab ?_
  first|refine Zaa ?_|refine Zad ?_
  refine Zag ?_
  refine Zaf (Zap ?_)
  exact ZaD (hK _ (.refl _))
theorem Zn5 {k : List UInt8} (K : AV -> St -> Prop) (hK : ∀ τ, Ext σ τ -> K (vT (decide (k ≠ [] /\ k.length <= 40))) τ) : Zan Tryz.prog 150 [.raw (sV k)] σ K := by
 refine Zai Zam Tryz.func150 rfl rfl rfl (Nat.le_of_ble_eq_true rfl) ?_
 refine Zbf 0 (v0 := .raw (sV k)) rfl ?_
 intro e he
 repeat refine Zab ?_
 first|refine Zaa ?_|refine Zad ?_
 refine Zag ?_
 refine Zaf (kp1 0 fun e he => ?_)
 repeat refine Zab ?_
 first|refine Zaa ?_|refine Zad ?_
 refine Zag ?_
 refine Zac (ZnZ (a := k) (c := []) ZjJ rfl rfl ?_)
 refine Zag ?_
 by_cases hk : k = []
 ·rw [decide_eq_false (fun q => q hk)]
  rw [decide_eq_false (fun q => q.1 hk)] at hK
  refine Zal ?_
  refine Zal ?_
  refine Zal ?_
  refine Zac (Zak (v := vT false) rfl rfl ?_)
  refine Zag ?_
  refine Zaf (Zap ?_)
  exact ZaD (hK σ (.refl _))
 ·rw [decide_eq_true hk]
  rw [show decide (k ≠ [] /\ k.length <= 40) = decide ((k.length : Int) <= 40) by congr 1; exact propext ⟨fun q => by omega, fun q => ⟨hk, by omega⟩⟩] at hK
  refine Zau ?_
  refine Zcb rfl (v := .raw (sV k)) he ?_
  refine Zau ?_
  refine Zn1 (a := k) rfl rfl ZjJ ?_
  refine Zau ?_
  refine Zh7 (k := .i64) (a := (k.length : Int)) (b := 40) rfl rfl ?_
  refine Zac (Zaj (v := vT (decide ((k.length : Int) <= 40))) rfl rfl ?_)
  refine Zag ?_
  refine Zaf (Zap ?_)
  exact ZaD (hK σ (.refl _))
theorem ZpV {n : Nat} (hn : n <= 140737488355328) (K : AV -> St -> Prop) (hK : ∀ v τ, Hd τ 5 1 v 0 [] -> Ext σ τ -> (∀ c, hbk v = some c -> Za9 σ c) -> K v τ) : Zan Tryz.prog 197 [.lst none 0 0 [], vI n] σ K := by
 refine ZnP (Zlm Tryz.growLay197 rfl rfl (zv := .int .u8 0) (by_ := 1) false (hsz := by kernel_rfl) (hz := by kernel_rfl) (hby := by kernel_rfl) (E := 1) rfl rfl rfl (by kernel_rfl) (n : Int) (by omega) (by omega) (by omega) : Tr CT Tryz.prog (fun _ => True) 197 [.nil, .int .i64 n] [] (.as 1 0 0 0 none) [.arr 5 1 false []]) (.cons (Zrg.2 rfl) (.cons (Zeh.2 rfl) .none)) (Nat.le_refl _) K fun a τ cells h1 _ h3 h4 => ?_
 have : cells = [] := List.eq_nil_of_length_eq_zero (by rw [h1.len, Nat.zero_mul])
 subst this
 exact hK a τ h1 h3 h4
theorem ZpW {α : Type} (rows : List (List α)) (i : Nat) : (rows.take i).flatten.length <= rows.flatten.length := by
 conv => rhs; rw [<- List.take_append_drop i rows, List.flatten_append, List.length_append]
 omega
theorem Zi9 {α : Type} (rows : List (List α)) (i : Nat) (h : i < rows.length) : (rows.take (i + 1)).flatten = (rows.take i).flatten ++ rows[i] := by
 rw [List.take_succ_eq_append_getElem h, List.flatten_append, List.flatten_singleton]
theorem Zja {ps : List (List UInt8)} {a : AV} (ha : Zrr σ a ps) (hr : ps.length <= 1000000) (hf : ps.flatten.length <= 100000000) (K : AV -> St -> Prop) (hK : ∀ v τ, Hd τ 5 1 v ps.flatten.length (bys ps.flatten) -> Ext σ τ -> (∀ b, hbk v = some b -> Za9 σ b) -> K v τ) : Zan Tryz.prog 151 [a] σ K := by
 have hfl := fun i => ZpW ps i
 have hsn : ∀ i (h : i < ps.length), (ps.take i).flatten.length + ps[i].length = (ps.take (i + 1)).flatten.length := fun i h => by rw [Zi9 ps i h, List.length_append]
 refine Zai Zam Tryz.func151 rfl rfl rfl (Nat.le_of_ble_eq_true rfl) ?_
 refine Zbf 0 (v0 := a) rfl ?_
 intro e he
 repeat refine Zab ?_
 first|refine Zaa ?_|refine Zad ?_
 refine Zag ?_
 refine Zaf (kp1 0 fun e he => ?_)
 repeat refine Zab ?_
 first|refine Zaa ?_|refine Zad ?_
 refine Zag ?_
 refine Zaf (kp2 0 3 fun e he => ?_)
 obtain ⟨cells, hL, hC⟩ := ha
 repeat refine Zab ?_
 first|refine Zaa ?_|refine Zad ?_
 refine Zag ?_
 refine Zac (ZaP rfl hL rfl Zl1 ?_)
 refine Zag ?_
 refine Zaf (kp5 0 3 9 10 11 fun e he => ?_)
 refine Zce (fun env υ => (env 0 = a /\ env 3 = vI ps.flatten.length) /\ σ = υ) ?_ ?_
 ·refine Zct ?_
  refine Za4 (fun μ env υ => ∃ i : Nat, μ = ps.length - i /\ i <= ps.length /\ (env 0 = a /\ env 3 = vI (ps.take i).flatten.length /\ env 9 = a /\ env 10 = vI ps.length /\ env 11 = vI i) /\ σ = υ) ⟨_, 0, rfl, Nat.zero_le _, he, rfl⟩ ?_
  clear he e
  rintro _ e _ ⟨i, rfl, hi, he, rfl⟩
  repeat refine Zab ?_
  first|refine Zaa ?_|refine Zad ?_
  refine Zcf i ps.length ?_
  refine Zaf (kp6 0 3 9 10 11 12 fun e he => ?_)
  refine ZaC (t := decide (i < ps.length)) he.2.2.2.2.2 (fun ht => ?_) (fun ht => ?_)
  ·have hlt : i < ps.length := of_decide_eq_true ht
   obtain ⟨u, hu, hub⟩ := hC i hlt
   have h1 := hfl (i + 1)
   have h2 := hsn i hlt
   refine ZaL (ZaF ?_)
   repeat refine Zab ?_
   first|refine Zaa ?_|refine Zad ?_
   refine Zgi hL hlt hu he.2.2.1 he.2.2.2.2.1 Zl1 Zb6 fa5 fun u1 => ?_
   refine Zag ?_
   refine Zaf (kp6 0 3 5 9 10 11 fun e he => ?_)
   repeat refine Zab ?_
   first|refine Zaa ?_|refine Zad ?_
   refine Zag ?_
   refine Zag ?_
   refine Zac (ZaP rfl hub.ls rfl Zbw ?_)
   refine Zby ((ps.take i).flatten.length) (ps[i].length) ?_
   rw [h2]
   refine Zag ?_
   refine Zaf (kp5 0 3 9 10 11 fun e he => ?_)
   repeat refine Zab ?_
   first|refine Zaa ?_|refine Zad ?_
   refine Zag ?_
   refine Zac (Zgh (k := .i64) (a := ((ps.take (i + 1)).flatten.length : Int)) (b := 0) rfl rfl ?_)
   rw [decide_eq_false (by omega : ¬ ((ps.take (i + 1)).flatten.length : Int) < 0)]
   refine Zaf (kp6 0 3 9 10 11 20 fun e he => ?_)
   refine ZaQ (t := false) he.2.2.2.2.2 (fun hf => by cases hf) (fun _ => ?_)
   refine Zbm ?_
   show ZaA _ _ _ _ _ _
   refine Zad (Zby i 1 ?_)
   refine Zag ?_
   refine Zaf ?_
   show ∃ n', n' < _ /\ _
   exact ⟨_, (by omega : ps.length - (i + 1) < ps.length - i), i + 1, rfl, hlt, ⟨by simp only [EV,Nat.reduceEqDiff,↓reduceIte,he];try rfl, by simp only [EV,Nat.reduceEqDiff,↓reduceIte,he];try rfl, by simp only [EV,Nat.reduceEqDiff,↓reduceIte,he];try rfl, by simp only [EV,Nat.reduceEqDiff,↓reduceIte,he];try rfl, by simp only [EV,Nat.reduceEqDiff,↓reduceIte,he];try rfl⟩, rfl⟩
  ·have hke : i = ps.length := by have := of_decide_eq_false ht; omega
   refine Zbu ?_
   have h3 := he.2.1
   rw [hke, List.take_length] at h3
   exact ⟨rfl, ⟨by simp only [EV,Nat.reduceEqDiff,↓reduceIte,he];try rfl, h3⟩, rfl⟩
 clear he e
 rintro e _ ⟨he, rfl⟩
 repeat refine Zab ?_
 first|refine Zaa ?_|refine Zad ?_
 refine Zag ?_
 refine Zao [.lst none 0 0 [], vI ps.flatten.length] ?_
 refine ZpV (by omega) _ fun v0 υ1 hv0 hX1 hn0 => ?_
 refine Zag ?_
 refine Zaf (kp2 0 6 fun e he => ?_)
 repeat refine Zab ?_
 first|refine Zaa ?_|refine Zad ?_
 refine Zag ?_
 refine Zac (ZaP rfl (hL.ext hX1) rfl Zl1 ?_)
 refine Zag ?_
 refine Zaf (kp4 6 25 26 27 fun e he => ?_)
 refine Zce (fun env υ => ∃ v, env 6 = v /\ Hd υ 5 1 v ps.flatten.length (bys ps.flatten) /\ Ext σ υ /\ (∀ c, hbk v = some c -> Za9 σ c)) ?_ ?_
 ·refine Zct ?_
  refine Za4 (fun μ env υ => ∃ (i : Nat), ∃ v, μ = ps.length - i /\ i <= ps.length /\ (env 6 = v /\ env 25 = a /\ env 26 = vI ps.length /\ env 27 = vI i) /\ Hd υ 5 1 v (ps.take i).flatten.length (bys (ps.take i).flatten) /\ Ext σ υ /\ (∀ c, hbk v = some c -> Za9 σ c)) ⟨_, 0, v0, rfl, Nat.zero_le _, he, hv0, hX1, hn0⟩ ?_
  clear he e hv0 hn0
  rintro _ e υ ⟨i, v, rfl, hi, he, hv, hE, hn⟩
  repeat refine Zab ?_
  first|refine Zaa ?_|refine Zad ?_
  refine Zcf i ps.length ?_
  refine Zaf (kp5 6 25 26 27 28 fun e he => ?_)
  refine ZaC (t := decide (i < ps.length)) he.2.2.2.2 (fun ht => ?_) (fun ht => ?_)
  ·have hlt : i < ps.length := of_decide_eq_true ht
   obtain ⟨u, hu, hub⟩ := hC i hlt
   have h1 := hfl (i + 1)
   have h2 := hsn i hlt
   refine ZaL (ZaF ?_)
   repeat refine Zab ?_
   first|refine Zaa ?_|refine Zad ?_
   refine Zgi (hL.ext hE) hlt hu he.2.1 he.2.2.2.1 Zl1 Zb6 fa5 fun u1 => ?_
   refine Zag ?_
   refine Zaf (kp5 6 8 25 26 27 fun e he => ?_)
   refine Zad (Zag ?_)
   refine Zag ?_
   refine Zac (ZaZ (m := ps[i].length) (news := bys ps[i]) (by simp only [EV,Nat.reduceEqDiff,↓reduceIte,he];try rfl) (by simp only [EV,Nat.reduceEqDiff,↓reduceIte,he];try rfl) Zbw Zcn ZeO ZgQ rfl (by omega) hv ((hub.ext hE).ls).src (by unfold maxLen; omega) (by omega) fun v2 υ2 hv2 hB2 hn2 => ?_)
   refine Zag ?_
   refine Zaf ?_
   have e1 : bys (ps.take i).flatten ++ bys ps[i] = bys (ps.take (i + 1)).flatten := by
    rw [Zi9 ps i hlt]
    unfold bys
    rw [List.map_append]
   rw [h2, e1] at hv2
   have hE2 : Ext σ υ2 := But.ext hE (fun c hc => (hn c hc).1) hB2
   have hn3 : ∀ c, hbk v2 = some c -> Za9 σ c := fun c hc => (hn2 c hc).elim (hn c) fun q => Za9.of q hE
   show ZaA _ _ _ _ _ _
   refine kp4 6 25 26 27 fun e he => ?_
   refine Zad (Zby i 1 ?_)
   refine Zag ?_
   refine Zaf ?_
   show ∃ n', n' < _ /\ _
   exact ⟨_, (by omega : ps.length - (i + 1) < ps.length - i), i + 1, v2, rfl, hlt, ⟨by simp only [EV,Nat.reduceEqDiff,↓reduceIte,he];try rfl, by simp only [EV,Nat.reduceEqDiff,↓reduceIte,he];try rfl, by simp only [EV,Nat.reduceEqDiff,↓reduceIte,he];try rfl, by simp only [EV,Nat.reduceEqDiff,↓reduceIte,he];try rfl⟩, hv2, hE2, hn3⟩
  ·have hke : i = ps.length := by have := of_decide_eq_false ht; omega
   rw [hke, List.take_length] at hv
   refine Zbu ?_
   exact ⟨rfl, v, by simp only [EV,Nat.reduceEqDiff,↓reduceIte,he];try rfl, hv, hE, hn⟩
 clear he e hv0 hn0
 rintro e υ ⟨v, he, hv, hE, hn⟩
 repeat refine Zab ?_
 first|refine Zaa ?_|refine Zad ?_
 refine Zag ?_
 refine Zag ?_
 refine Zaf (Zap ?_)
 exact ZaD (hK v υ hv hE hn)
theorem Zmy {ps : List (List UInt8)} {a : AV} (ha : SV CT 0 ZdO (.sl 3 ps none) a) (hr : ps.length <= 1000000) (hf : ps.flatten.length <= 100000000) (K : AV -> St -> Prop) (hK : ∀ v τ, Hd τ 5 1 v ps.flatten.length (bys ps.flatten) -> Ext σ τ -> (∀ b, hbk v = some b -> Za9 σ b) -> K v τ) : Zan Tryz.prog 151 [a] σ K := Zja (rows_at ha) hr hf K hK
end
end Go.Proofs.YtiienjjhlibopaaGreatDoor
