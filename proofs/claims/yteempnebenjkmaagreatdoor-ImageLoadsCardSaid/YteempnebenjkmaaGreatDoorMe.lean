/- XDm, XDf, XDh, XHq, XDk, XDl, XKi, XKj in one. -/
import Derived.Test.YteempnebenjkmaaGreatDoorHx
import Derived.Test.YteempnebenjkmaaGreatDoorChecked
import Derived.Laws.IdiomRangeMap
import Derived.Maps.RangeRun
import Derived.WalkKit
import Derived.WalkSpells
import Derived.WalkLawsBesides
import Derived.Deep.RegionHeld3
import Derived.BigRegion
import Derived.LaidEql
namespace Go.Proofs.YteempnebenjkmaaGreatDoor
open Go.RowKit
set_option linter.unusedSimpArgs false
set_option maxRecDepth 100000
set_option linter.unusedVariables false
abbrev sV (s : List UInt8) : Value := .string ⟨s.toArray⟩
abbrev pV (n : Nat) : Value := .pointer (some ⟨n, 0, none⟩)
abbrev Dir := List (List UInt8 × Nat)
def ZiL (es : Dir) : List (Value × Value) := es.map fun p => (sV p.1, pV p.2)
theorem Zhq : ∀ es : Dir, ZwF (ZiL es) = 0
 | [] => rfl
 | _ :: _ => rfl
def Zjk : Dir -> List UInt8 -> Option Nat
 | [], _ => none
 | p :: es, k => if k = p.1 then some p.2 else Zjk es k
def Zxa : Dir -> List UInt8 -> Nat -> Dir
 | [], k, n => [(k, n)]
 | p :: es, k, n => if k = p.1 then (k, n) :: es else p :: Zxa es k n
def ZuW : Dir -> List UInt8 -> Dir
 | [], _ => []
 | p :: es, k => if k = p.1 then es else p :: ZuW es k
def ZwC (k : List UInt8) : Dir -> Nat -> Option (Nat × Value)
 | [], _ => none
 | p :: es, i => if k = p.1 then some (i, pV p.2) else ZwC k es (i + 1)
section
variable {P : Program}
theorem ZiM {k : List UInt8} : ∀ {es : Dir} {l : List MapEntry} (i : Nat), l.map (fun e : MapEntry => (e.key, e.val)) = ZiL es ->
 (Zjk es k = none /\ ZwC k es i = none /\ (∀ n, Zxa es k n = es ++ [(k, n)]) /\ ZuW es k = es) \/
  ∃ j n, Zjk es k = some n /\ ZwC k es i = some (i + j, pV n) /\ (l[j]?).map (·.key) = some (sV k) /\ (∀ m f, (∀ e : MapEntry, ((f e).key, (f e).val) = (sV k, pV m)) -> (l.modify j f).map (fun e : MapEntry => (e.key, e.val)) = ZiL (Zxa es k m)) /\ (l.eraseIdx j).map (fun e : MapEntry => (e.key, e.val)) = ZiL (ZuW es k)
 | [], [], i, _ => .inl ⟨rfl, rfl, fun v => rfl, rfl⟩
 | [], e :: l, i, h => by simp [ZiL] at h
 | p :: es, [], i, h => by simp [ZiL] at h
 | p :: es, e :: l, i, h => by
  unfold ZiL at h
  simp only [List.map_cons, List.cons.injEq] at h
  obtain ⟨h1, h2⟩ := h
  injection h1 with h1 h3
  unfold Zjk Zxa ZwC ZuW
  by_cases hp : k = p.1
  ·subst hp
   refine .inr ⟨0, p.2, by rw [if_pos rfl], by rw [if_pos rfl]; rfl, by simp [h1], fun m f hf => ?_, ?_⟩
   ·rw [if_pos rfl]
    simp [List.modify, h2, hf e, ZiL]
   ·rw [if_pos rfl]
    simpa [ZiL] using h2
  ·rcases ZiM (k := k) (i + 1) h2 with ⟨g1, g2, g3, g4⟩ | ⟨j, n, g1, g2, g3, g4, g5⟩
   ·exact .inl ⟨by rw [if_neg hp]; exact g1, by rw [if_neg hp]; exact g2, fun v => by rw [if_neg hp, g3 v]; rfl, by rw [if_neg hp, g4]⟩
   ·refine .inr ⟨j + 1, n, by rw [if_neg hp]; exact g1, by rw [if_neg hp, show i + (j + 1) = i + 1 + j from by omega]; exact g2, by simpa using g3, fun m f hf => ?_, ?_⟩
    ·rw [if_neg hp, List.modify_succ_cons, List.map_cons, g4 m f hf, h1, h3]
     rfl
    ·rw [if_neg hp, List.eraseIdx_cons_succ, List.map_cons, g5, h1, h3]
     rfl
theorem ZrY {k : List UInt8} : ∀ {es : Dir} {l : List MapEntry} (i : Nat), l.map (fun e : MapEntry => (e.key, e.val)) = ZiL es -> Instr.findNow .string (sV k) l i = some (ZwC k es i)
 | [], [], i, _ => rfl
 | [], e :: l, i, h => by simp [ZiL] at h
 | p :: es, [], i, h => by simp [ZiL] at h
 | p :: es, e :: l, i, h => by
  unfold ZiL at h
  simp only [List.map_cons, List.cons.injEq] at h
  obtain ⟨h1, h2⟩ := h
  injection h1 with h1 h3
  unfold ZwC Instr.findNow
  rw [h1, show Instr.sameNow .string (sV k) (sV p.1) = some (decide (k = p.1)) from congrArg some (Zpb k p.1)]
  by_cases hp : k = p.1
  ·rw [if_pos hp, decide_eq_true hp, h3]
  ·rw [if_neg hp, decide_eq_false hp]
   exact ZrY (i + 1) h2
theorem ZqT {kt : TypeId} {w : World} {k : List UInt8} {es : Dir} {l : List MapEntry} (hk : P.underlying kt = some .string) (h : l.map (fun e : MapEntry => (e.key, e.val)) = ZiL es) : (Instr.findKey kt (sV k) l).run P w = .ok (ZwC k es 0) w := by
 unfold Instr.findKey
 rw [Sem.run_bind, run_underlying hk]
 dsimp only [Result.andThen]
 rw [ZrY 0 h]
 rfl
theorem ZlO {kt : TypeId} {w : World} {k : List UInt8} (hk : P.underlying kt = some .string) (e : Bool) : (Instr.checkKey e 10000 kt (sV k)).run P w = .ok () w := ZwO (K := .str) (y := k) hk e
theorem ZuX {w : World} {k : List UInt8} : (Instr.keyThatStays (sV k) (sV k)).run P w = .ok (sV k) w := ZwP (K := .str) (x := k)
theorem Zxb {t kt et : TypeId} {es : Dir} {arr : Array MapEntry} {c b : Nat} {k : List UInt8} {w : World} (t1 : P.underlying t = some (.map kt et)) (t2 : P.underlying kt = some .string) (t4 : ZaS P et = some (.pointer none)) (hh : w.heap[b]? = some (.map arr c)) (harr : arr.toList.map (fun e : MapEntry => (e.key, e.val)) = ZiL es) :
 (Instr.lookup t (.map (some b)) (sV k) false).run P w = .ok (.pointer ((Zjk es k).map fun n => ⟨n, 0, none⟩)) w := by
 have pre : ∀ r, ZwC k es 0 = r -> (Instr.lookup t (.map (some b)) (sV k) false).run P w = .ok (match r with | some (_, v) => v | none => .pointer none) w := by
  intro r hr
  unfold Instr.lookup
  rw [Sem.run_bind, run_underlying t1]
  dsimp only [Result.andThen]
  rw [Sem.run_bind, Zuv hh]
  dsimp only [Result.andThen]
  rw [Sem.run_bind, Sem.run_pure]
  dsimp only [Result.andThen]
  rw [Sem.run_bind, ZlO t2]
  dsimp only [Result.andThen]
  rw [Sem.run_bind, ZqT t2 harr, hr]
  dsimp only [Result.andThen]
  cases r with
  | none =>
   dsimp only
   rw [Sem.run_bind, ZdS t4]
   rfl
  | some x => rfl
 rcases ZiM (k := k) 0 harr with ⟨m1, m2, _⟩ | ⟨j, n, m1, m2, _⟩
 ·rw [pre _ m2, m1]; rfl
 ·rw [pre _ m2, m1]; rfl
end
section
variable {P : Program} {ops : Array Oper} {env : Env} {σ τ : St} {K : Env -> St -> Prop} {d : Option Nat} {ty ty' t kt et : TypeId} {pos : String} {af : Array Edge} {x y z : Operand} {b n : Nat} {es : Dir} {k : List UInt8}
theorem Ztd (h : ∀ b, ¬ σ.used b -> σ.blk b = none -> K (env.put d (ZgG b)) (σ.put b (.map []))) (hm : P.underlying t = some (.map kt et)) : aOp P ops ⟨d, .makeMap t none, ty, pos, af, none⟩ env σ K := by
 rw [ZaN rfl]
 have hvs : ((.makeMap t none : Op).operands.toList.map (ev env)) = [] := by simp [Op.operands]
 show ZdL P _ (Op.operands _ |>.toList.map (ev env)) σ _
 rw [hvs]
 refine .inr ⟨rfl, fun ρv hρ w Z hH hV => ?_⟩
 obtain ⟨f1, f2⟩ := hH.fresh
 refine ⟨ZgG w.heap.size, _, _, .inl ?_, h _ f1 f2, hH.alloc_map, ZaL _, Grow.alloc hH _ _⟩
 simp [execOp, Instr.makeMap, run_underlying hm, ZgG, newObj, Sem.run, Result.andThen]
theorem ZfL (hx : ev env x = ZgG b) (hy : ev env y = .raw (sV k)) (hb : σ.blk b = some (.map (ZiL es))) (t1 : P.underlying t = some (.map kt et)) (t2 : P.underlying kt = some .string) (t4 : ZaS P et = some (.pointer none))
 (h : K (env.put d (.raw (.pointer ((Zjk es k).map fun n => ⟨n, 0, none⟩)))) σ) : aOp P ops ⟨d, .lookup t x y false, ty, pos, af, none⟩ env σ K := by
 rw [ZaN rfl]
 have hvs : ((.lookup t x y false : Op).operands.toList.map (ev env)) = [ZgG b, .raw (sV k)] := by simp [Op.operands, hx, hy]
 show ZdL P _ (Op.operands _ |>.toList.map (ev env)) σ _
 rw [hvs]
 refine .inr ⟨rfl, fun ρv hρ w Z hH hV => ?_⟩
 obtain ⟨_, arr, c, hh, harr, _⟩ := hH.mapAt hb (Zhq _)
 have hρ' := hρ
 simp [Op.operands, ZgG] at hρ'
 refine ⟨.raw (.pointer ((Zjk es k).map fun n => ⟨n, 0, none⟩)), σ, w, .inl ?_, h, hH, ZaL _, .refl _ _⟩
 simp only [execOp, hρ'.1, hρ'.2]
 rw [Sem.run_bind, Zxb t1 t2 t4 hh harr]
 rfl
theorem Zps (hx : ev env x = ZgG b) (hy : ev env y = .raw (sV k)) (hz : ev env z = ptr n 0) (hb : σ.blk b = some (.map (ZiL es))) (t1 : P.underlying t = some (.map kt et)) (t2 : P.underlying kt = some .string)
 (h : ∀ τ, τ.blk b = some (.map (ZiL (Zxa es k n))) -> But (fun c => c = b) σ τ -> K (env.put d (.raw undef)) τ) : aOp P ops ⟨d, .mapUpdate t x y z, ty, pos, af, none⟩ env σ K := by
 rw [ZaN rfl]
 have hvs : ((.mapUpdate t x y z : Op).operands.toList.map (ev env)) = [ZgG b, .raw (sV k), ptr n 0] := by simp [Op.operands, hx, hy, hz]
 show ZdL P _ (Op.operands _ |>.toList.map (ev env)) σ _
 rw [hvs]
 refine .inr ⟨rfl, fun ρv hρ w Z hH hV => ?_⟩
 obtain ⟨_, arr, c, hh, harr, hfr1, hfr2⟩ := hH.mapAt hb (Zhq _)
 have hρ' := hρ
 simp [Op.operands, ZgG, ptr] at hρ'
 obtain ⟨r1, r2, r3⟩ := hρ'
 have fin : ∀ (arr' : Array MapEntry) (c' : Nat), ((∀ n ∈ arr'.toList.map fun e : MapEntry => e.born, n < c') /\ (arr'.toList.map fun e : MapEntry => e.born).Nodup) -> arr'.toList.map (fun e : MapEntry => (e.key, e.val)) = ZiL (Zxa es k n) -> (Instr.mapUpdate t (.map (some b)) (sV k) (pV n)).run P w = .ok () (Zel w b arr' c') ->
  ∃ r σ' w', ((execOp ρv ⟨d, .mapUpdate t x y z, ty, pos, af, none⟩).run P w = .ok (.value r.val) w' \/ (execOp ρv ⟨d, .mapUpdate t x y z, ty, pos, af, none⟩).run P w = .ok .skip w' /\ r = .raw undef) /\ K (env.put d r) σ' /\ Zan w' σ' Z /\ Zag w' (σ'.free Z) r /\ Grow w σ w' σ' := by
  intro arr' c' h0 h1 h2
  obtain ⟨q1, q2⟩ := hH.write_map (a' := arr') (c' := c') hb hh h0 (by rw [h1]; exact Zhq _)
  rw [h1] at q1 q2
  refine ⟨.raw undef, _, Zel w b arr' c', .inr ⟨?_, rfl⟩, h _ ?_ ?_, q1, ZaL _, q2⟩
  ·simp [execOp, r1, r2, r3, h2]
  ·show (if b = b then _ else σ.blk b) = _
   rw [if_pos rfl]
  ·exact ⟨fun c' k' hc hk => by
    show (if c' = b then _ else σ.blk c') = _
    rw [if_neg hc]; exact hk, fun c' hc => hc⟩
 have pre : ∀ r, ZwC k es 0 = r -> (Instr.mapUpdate t (.map (some b)) (sV k) (pV n)).run P w = (match r with
  | some (j, _) => do
   let key <- Instr.keyThatStays (((arr[j]?).map (fun e : MapEntry => e.key)).getD (sV k)) (sV k)
   setObj b (.map (arr.modify j fun (e : MapEntry) => { e with key, val := pV n }) c)
  | none => setObj b (.map (arr.push { key := sV k, val := pV n, born := c }) (c + 1))).run P w := by
  intro r hr
  unfold Instr.mapUpdate
  rw [Sem.run_bind, run_underlying t1]
  dsimp only [Result.andThen]
  rw [Sem.run_bind, Zuv hh]
  dsimp only [Result.andThen]
  rw [Sem.run_bind, ZlO t2]
  dsimp only [Result.andThen]
  rw [Sem.run_bind, ZqT t2 harr, hr]
  dsimp only [Result.andThen]
  cases r <;> rfl
 rcases ZiM (k := k) 0 harr with ⟨m1, m2, m3, _⟩ | ⟨j, y', m1, m2, m3, m4, _⟩
 ·refine fin (arr.push { key := sV k, val := pV n, born := c }) (c + 1) (Zuu hfr1 hfr2) (by rw [m3 n, Array.toList_push, List.map_append, harr]; simp [ZiL]) ?_
  rw [pre _ m2]
  exact ZrE hh
 ·rw [Nat.zero_add] at m2
  refine fin (arr.modify j fun (e : MapEntry) => { e with key := sV k, val := pV n }) c (by rw [ZqJ arr j (fun (e : MapEntry) => { e with key := sV k, val := pV n }) fun _ => rfl]; exact ⟨hfr1, hfr2⟩) ?_ ?_
  ·rw [Array.toList_modify]
   exact m4 n _ (fun e => rfl)
  ·rw [pre _ m2]
   dsimp only
   have hkey : ((arr[j]?).map (fun e : MapEntry => e.key)).getD (sV k) = sV k := by
    rw [Array.getElem?_toList] at m3
    rw [m3]; rfl
   rw [hkey, Sem.run_bind, ZuX]
   exact ZrE hh
end
open Go.ChangeMaps (setBlock)
set_option maxRecDepth 100000
set_option linter.unusedVariables false
def ZwD (w' w : World) : Prop := w'.heap = w.heap /\ w'.os = w.os /\ w'.output = w.output /\ w'.tape = w.tape
theorem ZwD.refl (w : World) : ZwD w w := ⟨rfl, rfl, rfl, rfl⟩
theorem ZwD.trans {a b c : World} (h : ZwD a b) (k : ZwD b c) : ZwD a c := ⟨h.1.trans k.1, h.2.1.trans k.2.1, h.2.2.1.trans k.2.2.1, h.2.2.2.trans k.2.2.2⟩
theorem ZhY (w : World) (a b : Obj) : setBlock (w.alloc a) w.heap.size b = w.alloc b := by
 unfold setBlock World.alloc
 congr 1
 apply Array.ext'
 simp
theorem Zxc {P : Program} (w : World) (ty : TypeId) (bm since c0 : Nat) (seen : Array Nat) (es : Array MapEntry) (clock : Nat) (hb : w.heap[bm]? = some (.map es clock)) (hold : ∀ x ∈ es.toList, x.born < since) (hsc : since <= c0) :
 ((leftOf es seen).size = 0 /\ (Instr.next (.pointer (some ⟨w.heap.size, 0, none⟩)) false ty).run P (w.alloc (.mapIter (some bm) since seen c0)) = .ok (.tuple #[.bool false]) (w.alloc (.mapIter (some bm) since seen c0))) \/
 ∃ e ∈ (leftOf es seen).toList, ∃ w1 : World, ZwD w1 w /\ (Instr.next (.pointer (some ⟨w.heap.size, 0, none⟩)) false ty).run P (w.alloc (.mapIter (some bm) since seen c0)) = .ok (.tuple #[.bool true, e.key, e.val]) (w1.alloc (.mapIter (some bm) since (seen.push e.born) clock)) := by
 have hlt : bm < w.heap.size := by
  rcases Nat.lt_or_ge bm w.heap.size with h | h
  ·exact h
  ·simp [Array.getElem?_eq_none h] at hb
 have hb' : (w.alloc (.mapIter (some bm) since seen c0)).heap[bm]? = some (.map es clock) := by rw [heap_alloc_old w _ hlt, hb]
 rcases run_next_at (P := P) (w.alloc (.mapIter (some bm) since seen c0)) ty w.heap.size bm since c0 seen es clock (heap_alloc_new _ _) hb' hold hsc with h | ⟨e, he, w1, h1 | h1, h2⟩
 ·exact .inl h
 ·subst h1
  exact .inr ⟨e, he, w, .refl _, by rw [h2, ZhY]⟩
 ·subst h1
  refine .inr ⟨e, he, w.drew, ⟨rfl, rfl, rfl, rfl⟩, ?_⟩
  rw [h2]
  congr 1
  exact ZhY w.drew _ _
def Zpt (w : World) : Value -> Int
 | .pointer (some ad) => match w.cell? ⟨ad.block, 0, none⟩ with
  | some (Value.slice _ n _) => (n : Int)
  | _ => 0
 | _ => 0
theorem Zn0 {w : World} {fb n c : Nat} {A : Option Addr} (h : w.cell? ⟨fb, 0, none⟩ = some (.slice A n c)) : Zpt w (.pointer (some ⟨fb, 0, none⟩)) = (n : Int) := by
 unfold Zpt
 dsimp only
 rw [h]
def Zpu (w : World) (es : Array MapEntry) : List MapEntry := es.toList.map fun e => { e with val := .int .i32 (Zpt w e.val) }
theorem ZuY (w : World) (es : Array MapEntry) : (Zpu w es).map (·.born) = es.toList.map (·.born) := by
 unfold Zpu
 rw [List.map_map]
 rfl
theorem Zxd {w : World} {es : Array MapEntry} {e : MapEntry} (h : e ∈ es.toList) : { e with val := .int .i32 (Zpt w e.val) } ∈ Zpu w es := List.mem_map.2 ⟨e, h, rfl⟩
theorem Zng (l : List MapEntry) (seen : Array Nat) (h : ∀ e ∈ l, 0 <= valOf e.val) : 0 <= seenSum l seen /\ seenSum l seen <= (l.map fun e => valOf e.val).sum := by
 induction l with
 | nil => exact ⟨Int.le_refl _, Int.le_refl _⟩
 | cons x l ih =>
  obtain ⟨h1, h2⟩ := ih (fun e he => h e (List.mem_cons_of_mem _ he))
  have hx := h x List.mem_cons_self
  rw [List.map_cons, List.sum_cons]
  unfold seenSum
  split <;> omega
theorem Znh {w : World} {o : Obj} {a : Addr} {v : Value} (h : w.cell? a = some v) : (w.alloc o).cell? a = some v := by
 have hb := World.block_lt_of_cell? w a h
 rw [World.cell?_of_block (w := w) (heap_alloc_old w o hb)]
 exact h
theorem Zpv {w w' : World} (h : ZwD w' w) {a : Addr} {v : Value} (hc : w.cell? a = some v) : w'.cell? a = some v := by
 rw [World.cell?_of_block (w := w) (by rw [h.1])]
 exact hc
set_option maxHeartbeats 4000000 in
theorem Zxe (bb mb : Nat) (lv : Value) (size more : Int) (es : Array MapEntry) (clock : Nat) (w : World)
 (hd1 : w.cell? ⟨bb, 1, none⟩ = some (.map (some mb))) (hd2 : w.cell? ⟨bb, 2, none⟩ = some (.int .i64 size)) (hm : w.heap[mb]? = some (.map es clock)) (hst : (∀ x ∈ es.toList, x.born < clock) /\ (es.toList.map (·.born)).Nodup)
 (hf : ∀ x ∈ es.toList, ∃ fb A n c, x.val = .pointer (some ⟨fb, 0, none⟩) /\ w.cell? ⟨fb, 0, none⟩ = some (.slice A n c))
 (h0 : 0 <= more) (hb : more + ((Zpu w es).map fun e => valOf e.val).sum <= 1000000000000) :
 Calls Tryz.prog 40 #[.pointer (some ⟨bb, 0, none⟩), .int .i64 more] w fun e w' => e = .returned (.bool (decide (size < 1 \/ more + ((Zpu w es).map fun e => valOf e.val).sum <= size))) /\ ∃ (w1 : World) (seen : Array Nat), ZwD w1 w /\ w' = w1.alloc (.mapIter (some mb) clock seen clock) := by
 have hpos : ∀ e ∈ Zpu w es, 0 <= valOf e.val := fun e he => by
  obtain ⟨x, hx, rfl⟩ := List.mem_map.1 he
  obtain ⟨fb, A, n, c, h1, h2⟩ := hf x hx
  show 0 <= Zpt w x.val
  rw [h1, Zn0 h2]
  omega
 have hrg := run_range_map (P := Tryz.prog) w 76 9 85 mb es clock (by kernel_rfl) hm
 generalize hT : ((Zpu w es).map fun e => valOf e.val).sum = T at hb ⊢
 go_enter Tryz.func40, Tryz.ntmps40
 go_wp2
 go_loopw [1] (fun s w' => ∃ (w1 : World) (seen : Array Nat), ZwD w1 w /\ w' = w1.alloc (.mapIter (some mb) clock seen clock) /\ s = .int .i64 (more + seenSum (Zpu w es) seen)) (fun _ w' => (leftOf es (w'.iterSeen w.heap.size)).size)
 case atStart => exact ⟨w, #[], .refl _, rfl, by rw [seenSum_none, Int.add_zero]⟩
 case round =>
  obtain ⟨w1, seen, hal, rfl, rfl⟩ := hrel
  have hsz : w1.heap.size = w.heap.size := by rw [hal.1]
  have hb1 : w1.heap[mb]? = some (.map es clock) := by rw [hal.1]; exact hm
  have law := Zxc (P := Tryz.prog) w1 0 mb clock clock seen es clock hb1 hst.1 (Nat.le_refl _)
  obtain ⟨hs1, hs2⟩ := Zng (Zpu w es) seen hpos
  rw [hT] at hs2
  rw [hsz] at law
  rcases law with ⟨h0', hrun⟩ | ⟨e, he, w2, hal2, hrun⟩
  ·have hnx : ∀ ty, (Instr.next (.pointer (some ⟨w.heap.size, 0, none⟩)) false ty).run Tryz.prog (w1.alloc (.mapIter (some mb) clock seen clock)) = _ := fun _ => hrun
   have hc2 : (w1.alloc (.mapIter (some mb) clock seen clock)).cell? ⟨bb, 2, none⟩ = some (.int .i64 size) := Znh (Zpv hal hd2)
   have hall : seenSum (Zpu w es) seen = T := by
    rw [<- hT]
    refine seenSum_full seen _ fun x hx => ?_
    obtain ⟨y, hy, rfl⟩ := List.mem_map.1 hx
    cases hq : seen.contains y.born with
    | true => rfl
    | false =>
     exfalso
     have : y ∈ leftOf es seen := by
      unfold leftOf
      rw [Array.mem_filter]
      exact ⟨Array.mem_toList_iff.1 hy, by rw [hq]; rfl⟩
     have := Array.size_pos_of_mem this
     omega
   rw [hall]
   go_wp2
   ·go_ret
    exact ⟨by simp, w1, seen, hal, rfl⟩
   ·go_ret
    exact ⟨rfl, w1, hal, seen, rfl⟩
  ·obtain ⟨fb, A, n, c, hval, hfc⟩ := hf e (mem_left he).1
   rw [hval] at hrun
   have hnx : ∀ ty, (Instr.next (.pointer (some ⟨w.heap.size, 0, none⟩)) false ty).run Tryz.prog (w1.alloc (.mapIter (some mb) clock seen clock)) = _ := fun _ => hrun
   have hal3 := hal2.trans hal
   have hsz2 : w2.heap.size = w.heap.size := by rw [hal3.1]
   have hb2 : w2.heap[mb]? = some (.map es clock) := by rw [hal3.1]; exact hm
   have hen := run_entry_map (P := Tryz.prog) w2 mb clock seen es clock e hb2 (mem_left he).1 hst.2
   rw [hsz2, hval] at hen
   have hc2 : (w2.alloc (.mapIter (some mb) clock (seen.push e.born) clock)).cell? ⟨fb, 0, none⟩ = some (.slice A n c) := Znh (Zpv hal3 hfc)
   have hpush : seenSum (Zpu w es) (seen.push e.born) = seenSum (Zpu w es) seen + (n : Int) := by
    have := seenSum_push seen { e with val := .int .i32 (Zpt w e.val) } (mem_left he).2 (Zpu w es) (by rw [ZuY]; exact hst.2) (Zxd (mem_left he).1)
    rw [hval, Zn0 hfc] at this
    exact this
   obtain ⟨hs3, hs4⟩ := Zng (Zpu w es) (seen.push e.born) hpos
   rw [hT] at hs4
   go_wp2
   go_roundw
   case rel =>
    refine ⟨w2, seen.push e.born, hal3, rfl, ?_⟩
    rw [hpush, Int.add_assoc]
   case measure =>
    rw [<- hsz2, World.iterSeen_alloc, hsz2, <- hsz, World.iterSeen_alloc]
    exact left_shrinks es seen e he
def Zc2 (σ : St) (g : Nat) : Prop := σ.blk g = none /\ ¬ σ.used g
theorem Zc2.of {σ τ : St} {g : Nat} (h : Zc2 τ g) (k : Ext σ τ) : Zc2 σ g := ⟨k.noneOf h.1, k.unused h.2⟩
section
variable {P : Program} {G : Nat -> Prop} {σ : St}
end
section
variable {P : Program} {O : Nat -> Prop} {ops : Array Oper} {env : Env} {σ τ : St} {K : Env -> St -> Prop} {d : Option Nat} {ty ty' t : TypeId} {pos : String} {af : Array Edge} {x y : Operand} {c c1 c2 : Code} {Q : Zf7} {lf cf ow : Nat -> Bool} {i j : Nat} {l : List Nat} {l' : List Oper} {Pres : Nat -> Prop} {op : Op} {v : AV} {want : Bool} {g : Option (Nat × Bool)}
theorem Zah (h : Zbx P ops l' (env.put d v) σ K) (hm : mvx op = some x := by rfl) (hx : ev env x = v := by simp only [EV,Nat.reduceEqDiff,↓reduceIte,he];try rfl) : Zbx P ops (⟨d, op, ty, pos, af, none⟩ :: l') env σ K := Zad (ZjE hm hx h)
theorem Zbk {q : Nat} (h : Zbx P ops l' (env.put d (.raw undef)) σ K) (hd : (ops[j]?).bind (·.dst) = some q := by rfl) (hv : env q = vT (!want) := by simp only [EV,Nat.reduceEqDiff,↓reduceIte,he];try rfl) : Zbx P ops (⟨d, op, ty, pos, af, some (j, want)⟩ :: l') env σ K := Zad (Zqu (ZDB hd hv) h)
theorem Zcn {q : Nat} (h : aOp P ops ⟨d, op, ty, pos, af, none⟩ env σ fun env' σ' => Zbx P ops l' env' σ' K) (hd : (ops[j]?).bind (·.dst) = some q := by rfl) (hv : env q = vT want := by simp only [EV,Nat.reduceEqDiff,↓reduceIte,he];try rfl) : Zbx P ops (⟨d, op, ty, pos, af, some (j, want)⟩ :: l') env σ K := Zad (ZsR (ZDB hd hv) h)
theorem ZaK {f : FuncId} {as_ : Array Operand} {ts : Array TypeId} (vs : List AV) (h : Zal P f vs σ fun r σ' => Zbx P ops l' (env.put d r) σ' K) (hv : as_.toList.map (ev env) = vs := by simp only [List.map_cons, List.map_nil, EV,Nat.reduceEqDiff,↓reduceIte,he];try rfl) : Zbx P ops (⟨d, .call ⟨.value (.func f), as_, ts⟩, ty, pos, af, none⟩ :: l') env σ K := Zad (Zgt hv h)
theorem ZdI (h : aOp P ops ⟨d, op, ty, pos, af, none⟩ env σ fun env' σ' => ((cf i && Zbt ⟨d, op, ty, pos, af, none⟩) = true -> Ext σ σ') /\ Za5 P ops (fun _ => True) lf cf ow l env' σ' K) (hi : ops[i]? = some ⟨d, op, ty, pos, af, g⟩ := by simp only [HIX]; try rfl) (hw : Region.wanted ⟨d, op, ty, pos, af, g⟩ (Zap ops env) = true := by rfl) (how : ow i = false := by rfl) : Za5 P ops (fun _ => True) lf cf ow (i :: l) env σ K := ZBn hi hw how h
theorem ZgR (h : Za5 P ops (fun _ => True) lf cf ow l (env.put d v) σ K) (hi : ops[i]? = some ⟨d, op, ty, pos, af, g⟩ := by simp only [HIX]; try rfl) (hw : Region.wanted ⟨d, op, ty, pos, af, g⟩ (Zap ops env) = true := by rfl) (how : ow i = false := by rfl) (hm : mvx op = some x := by rfl) (hx : ev env x = v := by simp only [EV,Nat.reduceEqDiff,↓reduceIte,he];try rfl) : Za5 P ops (fun _ => True) lf cf ow (i :: l) env σ K := ZBn hi hw how (ZjE hm hx (Zem h))
theorem ZgC (h : aOp P ops ⟨d, op, ty, pos, af, none⟩ env σ fun env' σ' => ((cf i && Zbt ⟨d, op, ty, pos, af, none⟩) = true -> ZkH Pres σ σ') /\ Za5 P ops Pres lf cf ow l env' σ' K) (hi : ops[i]? = some ⟨d, op, ty, pos, af, g⟩ := by simp only [HIX]; try rfl) (hw : Region.wanted ⟨d, op, ty, pos, af, g⟩ (Zap ops env) = true := by rfl) (how : ow i = false := by rfl) (hl : (lf i && Zbq ⟨d, op, ty, pos, af, g⟩ == .load) = false := by rfl) : Za5 P ops Pres lf cf ow (i :: l) env σ K := Zyx hi hw how hl h
theorem ZiN (h : Za5 P ops Pres lf cf ow l (env.put d v) σ K) (hi : ops[i]? = some ⟨d, op, ty, pos, af, g⟩ := by simp only [HIX]; try rfl) (hw : Region.wanted ⟨d, op, ty, pos, af, g⟩ (Zap ops env) = true := by rfl) (how : ow i = false := by rfl) (hl : (lf i && Zbq ⟨d, op, ty, pos, af, g⟩ == .load) = false := by rfl) (hm : mvx op = some x := by rfl) (hx : ev env x = v := by simp only [EV,Nat.reduceEqDiff,↓reduceIte,he];try rfl) : Za5 P ops Pres lf cf ow (i :: l) env σ K := Zyx hi hw how hl (ZjE hm hx (ZiK h))
theorem ZuZ (h : Za5 P ops (fun _ => True) lf cf ow l (env.put d (.raw undef)) σ K) (hi : ops[i]? = some ⟨d, op, ty, pos, af, some (j, want)⟩ := by simp only [HIX]; try rfl) (hg : Zap ops env j = some (!want) := by rfl) (how : ow i = false := by rfl) : Za5 P ops (fun _ => True) lf cf ow (i :: l) env σ K := ZCZ hi hg how h
theorem ZjF {b : Bool} (h : Zbx P ops l' (env.put d (vT (!b))) σ K) (hx : ev env x = vT b := by simp only [EV,Nat.reduceEqDiff,↓reduceIte,he];try rfl) : Zbx P ops (⟨d, .unOp .not t x, ty, pos, af, none⟩ :: l') env σ K := Zad (ZrX hx h)
theorem ZfM {x y : Operand} (a b : Nat) (h : Zbx P ops l' (env.put d (vI ((a + b : Nat) : Int))) σ K) (hab : a + b < 4611686018427387904 := by omega) (hx : ev env x = vI a := by simp only [EV,Nat.reduceEqDiff,↓reduceIte,he];try rfl) (hy : ev env y = vI b := by simp only [EV,Nat.reduceEqDiff,↓reduceIte,he];try rfl) : Zbx P ops (⟨d, .binOp .add t x y ty', ty, pos, af, none⟩ :: l') env σ K := Zad (ZBo a b hx hy hab h)
theorem ZjG {x y : Operand} (a b : Nat) (h : Zbx P ops l' (env.put d (vT (decide (a < b)))) σ K) (hx : ev env x = vI a := by simp only [EV,Nat.reduceEqDiff,↓reduceIte,he];try rfl) (hy : ev env y = vI b := by simp only [EV,Nat.reduceEqDiff,↓reduceIte,he];try rfl) : Zbx P ops (⟨d, .binOp .lss t x y ty', ty, pos, af, none⟩ :: l') env σ K := Zad (ZBp a b hx hy h)
theorem ZbW {fn : Func} {t : Nat} {M : AV -> Prop} (h : M v) (hr : fn.results.toList = [.tmp t] := by rfl) (hv : env t = v := by simp only [EV,Nat.reduceEqDiff,↓reduceIte,he];try rfl) : ∃ r, Za1 P fn env σ r /\ M r := ⟨_, ZeE hr hv, h⟩
theorem kp1 (i0 : Nat) {v0 : AV} (h : ∀ e : Env, e i0 = v0 -> ZaJ P O c Q e σ) (hs : env i0 = v0 := by and_intros <;> simp only [EV,Nat.reduceEqDiff,↓reduceIte,he] <;> try rfl) : ZaJ P O c Q env σ := h _ hs
theorem kp2 (i0 i1 : Nat) {v0 v1 : AV} (h : ∀ e : Env, e i0 = v0 /\ e i1 = v1 -> ZaJ P O c Q e σ) (hs : env i0 = v0 /\ env i1 = v1 := by and_intros <;> simp only [EV,Nat.reduceEqDiff,↓reduceIte,he] <;> try rfl) : ZaJ P O c Q env σ := h _ hs
theorem kp3 (i0 i1 i2 : Nat) {v0 v1 v2 : AV} (h : ∀ e : Env, e i0 = v0 /\ e i1 = v1 /\ e i2 = v2 -> ZaJ P O c Q e σ) (hs : env i0 = v0 /\ env i1 = v1 /\ env i2 = v2 := by and_intros <;> simp only [EV,Nat.reduceEqDiff,↓reduceIte,he] <;> try rfl) : ZaJ P O c Q env σ := h _ hs
theorem kp4 (i0 i1 i2 i3 : Nat) {v0 v1 v2 v3 : AV} (h : ∀ e : Env, e i0 = v0 /\ e i1 = v1 /\ e i2 = v2 /\ e i3 = v3 -> ZaJ P O c Q e σ) (hs : env i0 = v0 /\ env i1 = v1 /\ env i2 = v2 /\ env i3 = v3 := by and_intros <;> simp only [EV,Nat.reduceEqDiff,↓reduceIte,he] <;> try rfl) : ZaJ P O c Q env σ := h _ hs
theorem kp5 (i0 i1 i2 i3 i4 : Nat) {v0 v1 v2 v3 v4 : AV} (h : ∀ e : Env, e i0 = v0 /\ e i1 = v1 /\ e i2 = v2 /\ e i3 = v3 /\ e i4 = v4 -> ZaJ P O c Q e σ) (hs : env i0 = v0 /\ env i1 = v1 /\ env i2 = v2 /\ env i3 = v3 /\ env i4 = v4 := by and_intros <;> simp only [EV,Nat.reduceEqDiff,↓reduceIte,he] <;> try rfl) : ZaJ P O c Q env σ := h _ hs
theorem kp6 (i0 i1 i2 i3 i4 i5 : Nat) {v0 v1 v2 v3 v4 v5 : AV} (h : ∀ e : Env, e i0 = v0 /\ e i1 = v1 /\ e i2 = v2 /\ e i3 = v3 /\ e i4 = v4 /\ e i5 = v5 -> ZaJ P O c Q e σ) (hs : env i0 = v0 /\ env i1 = v1 /\ env i2 = v2 /\ env i3 = v3 /\ env i4 = v4 /\ env i5 = v5 := by and_intros <;> simp only [EV,Nat.reduceEqDiff,↓reduceIte,he] <;> try rfl) : ZaJ P O c Q env σ := h _ hs
theorem kp7 (i0 i1 i2 i3 i4 i5 i6 : Nat) {v0 v1 v2 v3 v4 v5 v6 : AV} (h : ∀ e : Env, e i0 = v0 /\ e i1 = v1 /\ e i2 = v2 /\ e i3 = v3 /\ e i4 = v4 /\ e i5 = v5 /\ e i6 = v6 -> ZaJ P O c Q e σ) (hs : env i0 = v0 /\ env i1 = v1 /\ env i2 = v2 /\ env i3 = v3 /\ env i4 = v4 /\ env i5 = v5 /\ env i6 = v6 := by and_intros <;> simp only [EV,Nat.reduceEqDiff,↓reduceIte,he] <;> try rfl) : ZaJ P O c Q env σ := h _ hs
theorem kp8 (i0 i1 i2 i3 i4 i5 i6 i7 : Nat) {v0 v1 v2 v3 v4 v5 v6 v7 : AV} (h : ∀ e : Env, e i0 = v0 /\ e i1 = v1 /\ e i2 = v2 /\ e i3 = v3 /\ e i4 = v4 /\ e i5 = v5 /\ e i6 = v6 /\ e i7 = v7 -> ZaJ P O c Q e σ) (hs : env i0 = v0 /\ env i1 = v1 /\ env i2 = v2 /\ env i3 = v3 /\ env i4 = v4 /\ env i5 = v5 /\ env i6 = v6 /\ env i7 = v7 := by and_intros <;> simp only [EV,Nat.reduceEqDiff,↓reduceIte,he] <;> try rfl) : ZaJ P O c Q env σ := h _ hs
theorem kp9 (i0 i1 i2 i3 i4 i5 i6 i7 i8 : Nat) {v0 v1 v2 v3 v4 v5 v6 v7 v8 : AV} (h : ∀ e : Env, e i0 = v0 /\ e i1 = v1 /\ e i2 = v2 /\ e i3 = v3 /\ e i4 = v4 /\ e i5 = v5 /\ e i6 = v6 /\ e i7 = v7 /\ e i8 = v8 -> ZaJ P O c Q e σ) (hs : env i0 = v0 /\ env i1 = v1 /\ env i2 = v2 /\ env i3 = v3 /\ env i4 = v4 /\ env i5 = v5 /\ env i6 = v6 /\ env i7 = v7 /\ env i8 = v8 := by and_intros <;> simp only [EV,Nat.reduceEqDiff,↓reduceIte,he] <;> try rfl) : ZaJ P O c Q env σ := h _ hs
end
theorem ZaH : Tryz.prog.follows .mixedOrders = true := by kernel_rfl
theorem Zcu : Zba Tryz.prog 81 = some [(0, some 1, some true), (1, some 1, some false), (2, some 1, some false)] := by kernel_rfl
theorem ZjH : Zba Tryz.prog 79 = some [(0, some 1, some false)] := by kernel_rfl
theorem ZqU : Zba Tryz.prog 87 = some [(0, some 1, some false)] := by kernel_rfl
theorem Zu0 : Zba Tryz.prog 89 = some [(0, some 1, some false), (1, some 1, some false)] := by kernel_rfl
theorem Zgf : Zar Tryz.prog 27 = some 22 := by kernel_rfl
theorem Zc9 : Zar Tryz.prog 22 = some 5 := by kernel_rfl
theorem Zee : Zar Tryz.prog 77 = some 89 := by kernel_rfl
theorem ZjI : Zar Tryz.prog 69 = some 9 := by kernel_rfl
theorem Zu1 : Zav Tryz.prog 3 = some 1 := by kernel_rfl
theorem ZlP : Zav Tryz.prog 5 = some 1 := by kernel_rfl
theorem Zda : Zav Tryz.prog 22 = some 1 := by kernel_rfl
theorem ZjJ : Zav Tryz.prog 77 = some 1 := by kernel_rfl
theorem ZeJ : Zav Tryz.prog 76 = some 1 := by kernel_rfl
theorem Zu2 : Zav Tryz.prog 85 = some 1 := by kernel_rfl
theorem ZcK : Zav Tryz.prog 89 = some 2 := by kernel_rfl
theorem Zu3 : Ze0 Tryz.prog 3 = some false := by kernel_rfl
theorem Zfs : Ze0 Tryz.prog 22 = some false := by kernel_rfl
theorem ZqV : Ze0 Tryz.prog 77 = some false := by kernel_rfl
theorem ZeK : Ze0 Tryz.prog 76 = some false := by kernel_rfl
theorem Zu4 : Ze0 Tryz.prog 85 = some false := by kernel_rfl
theorem ZlQ : Ze0 Tryz.prog 89 = some true := by kernel_rfl
theorem ZlR : ZaS Tryz.prog 5 = some (.int .u8 0) := by kernel_rfl
theorem Zzj : ZaS Tryz.prog 81 = some (.agg #[.slice none 0 0, .map none, .int .i64 0]) := by kernel_rfl
theorem ZjK : ZaS Tryz.prog 85 = some (.pointer none) := by kernel_rfl
theorem Zzk : ZaS Tryz.prog 87 = some (.agg #[.slice none 0 0]) := by kernel_rfl
theorem ZjL : ZaS Tryz.prog 89 = some (.agg #[.pointer none, .int .i64 0]) := by kernel_rfl
theorem Zzl : ZbS Tryz.prog 81 = some [(0, 1), (1, 1), (2, 1)] := by kernel_rfl
theorem Zzm : ZbS Tryz.prog 87 = some [(0, 1)] := by kernel_rfl
theorem Zzn : ZbS Tryz.prog 89 = some [(0, 1), (1, 1)] := by kernel_rfl
theorem ZrZ : Zb5 Tryz.prog 5 = some 1 := by kernel_rfl
theorem Zzo : Zb5 Tryz.prog 89 = some 16 := by kernel_rfl
theorem Zgv : Program.underlying Tryz.prog 76 = some (.map 9 85) := by kernel_rfl
theorem ZgS : Program.underlying Tryz.prog 9 = some .string := by kernel_rfl
theorem ZgT : Program.underlying Tryz.prog 85 = some (.pointer (Program.pointee Tryz.prog 85)) := by kernel_rfl
theorem ZBt : Program.underlying Tryz.prog 28 = some (.pointer (Program.pointee Tryz.prog 28)) := by kernel_rfl
structure Fl where
 nm : List UInt8
 b : Nat
 v : AV
 d : List UInt8
def pcC (l : List (Nat × Nat)) : List AV := l.flatMap fun p => [ptr p.1 0, .raw (.int .i64 (p.2 : Int))]
theorem Zu5 (l : List (Nat × Nat)) : (pcC l).length = l.length * 2 := by
 induction l with
 | nil => rfl
 | cons p l ih =>
  show (pcC l).length + 1 + 1 = (l.length + 1) * 2
  omega
theorem ZqW (l m : List (Nat × Nat)) : pcC (l ++ m) = pcC l ++ pcC m := by simp [pcC]
def Zef (fs : List Fl) : Nat := (fs.map (·.d.length)).sum
def ZfF (pcs : List (Nat × Nat)) : Nat := (pcs.map (·.2)).sum
def Zbs (fs : List Fl) : Dir := fs.map fun f => (f.nm, f.b)
structure DAt (σ : St) (bb : Nat) (S : Nat -> Prop) (fs : List Fl) (pcs : List (Nat × Nat)) (size : Int) (mb : Nat) (pv : AV) : Prop where
 obj : σ.blk bb = some (.own 81 [pv, ZgG mb, .raw (.int .i64 size)])
 used : σ.used bb
 map : σ.blk mb = some (.map (ZiL (Zbs fs)))
 umap : σ.used mb
 file : ∀ f ∈ fs, σ.blk f.b = some (.own 87 [f.v]) /\ σ.used f.b /\ Hd σ 5 1 f.v f.d.length (bys f.d)
 nd : (fs.map (·.b)).Nodup
 nn : (fs.map (·.nm)).Nodup
 far : ∀ f ∈ fs, ∀ g ∈ fs, ∀ x, hbk f.v = some x -> hbk g.v = some x -> f.b = g.b
 pc : Hd σ 89 2 pv pcs.length (pcC pcs)
 own : S bb /\ S mb /\ (∀ f ∈ fs, S f.b /\ ∀ x, hbk f.v = some x -> S x) /\ ∀ x, hbk pv = some x -> S x
 inn : ∀ p ∈ pcs, ∃ f ∈ fs, f.b = p.1
section
variable {σ τ : St} {bb mb : Nat} {S : Nat -> Prop} {fs : List Fl} {pcs : List (Nat × Nat)} {size : Int} {pv : AV}
theorem DAt.but {U : Nat -> Prop} (h : DAt σ bb S fs pcs size mb pv) (k : But U σ τ) (hU : ∀ b, S b -> ¬ U b) : DAt τ bb S fs pcs size mb pv := by
 obtain ⟨o1, o2, o3, o4⟩ := h.own
 exact ⟨k.keep _ _ (hU _ o1) h.obj, k.used _ h.used, k.keep _ _ (hU _ o2) h.map, k.used _ h.umap, fun f hf => ⟨k.keep _ _ (hU _ (o3 f hf).1) (h.file f hf).1, k.used _ (h.file f hf).2.1, (h.file f hf).2.2.but k fun b hb => hU _ ((o3 f hf).2 b hb)⟩, h.nd, h.nn, h.far, h.pc.but k fun b hb => hU _ (o4 b hb), h.own, h.inn⟩
theorem DAt.ext (h : DAt σ bb S fs pcs size mb pv) (k : Ext σ τ) : DAt τ bb S fs pcs size mb pv := h.but (U := fun _ => False) k.but fun _ _ => id
theorem Zfb : ∀ {fs : List Fl} {k : List UInt8} {n : Nat}, Zjk (Zbs fs) k = some n -> ∃ f ∈ fs, f.nm = k /\ f.b = n
 | f :: fs, k, n, h => by
  unfold Zbs Zjk at h
  simp only [List.map_cons] at h
  by_cases hk : k = f.nm
  ·rw [if_pos hk] at h
   injection h with h
   exact ⟨f, List.mem_cons_self, hk.symm, h⟩
  ·rw [if_neg hk] at h
   obtain ⟨g, hg, h1⟩ := Zfb (fs := fs) h
   exact ⟨g, List.mem_cons_of_mem _ hg, h1⟩
theorem ZeL : ∀ {fs : List Fl} {k : List UInt8}, Zjk (Zbs fs) k = none ↔ ∀ f ∈ fs, f.nm ≠ k
 | [], k => by simp [Zbs, Zjk]
 | f :: fs, k => by
  show (if k = f.nm then some f.b else Zjk (Zbs fs) k) = none ↔ _
  by_cases hk : k = f.nm
  ·rw [if_pos hk]
   simp [hk]
  ·rw [if_neg hk, ZeL (fs := fs)]
   simp only [List.mem_cons, forall_eq_or_imp]
   exact ⟨fun h => ⟨fun e => hk e.symm, h⟩, fun h => h.2⟩
theorem Zr0 {fs : List Fl} {k : List UInt8} (n : Nat) (h : ∀ f ∈ fs, f.nm ≠ k) : Zxa (Zbs fs) k n = Zbs fs ++ [(k, n)] := by
 induction fs with
 | nil => rfl
 | cons f fs ih =>
  show (if k = f.nm then (k, n) :: Zbs fs else (f.nm, f.b) :: Zxa (Zbs fs) k n) = _
  rw [if_neg (fun e => h f List.mem_cons_self e.symm), ih (fun g hg => h g (List.mem_cons_of_mem _ hg))]
  rfl
theorem Zu6 {w w' : World} {Z : Nat -> Prop} (hH : Zan w σ Z) (hs : w.heap.size <= w'.heap.size) (hb : ∀ b, b < w.heap.size -> w'.heap[b]? = w.heap[b]?) (ho : w'.os = w.os /\ w'.output = w.output /\ w'.tape = w.tape) : Zan w' σ Z /\ Grow w σ w' σ := by
 have hG : Grow w σ w' σ := ⟨ho.1, ho.2.2, ho.2.1, hs, fun b hb hu => hu, fun b hb' hn => ⟨hb b hb', hn⟩, fun b t k s hb' ht => ⟨fun j v _ hv => by rw [World.cell?_of_block (w := w) (hb b hb')]; exact hv, .inr ⟨t, k, s, ht, Nat.le_refl _⟩⟩, fun b hu => hu⟩
 refine ⟨⟨fun b hu => Nat.lt_of_lt_of_le (hH.used _ hu) hs, fun b hz => ?_, fun b t cs hb' => ?_, fun b t k s hb' => ?_, fun b es hb' => ?_⟩, hG⟩
 ·obtain ⟨z1, z2⟩ := hH.z _ hz
  exact ⟨Nat.lt_of_lt_of_le z1 hs, z2⟩
 ·obtain ⟨g1, g2, g3⟩ := hH.own _ _ _ hb'
  exact ⟨g1, (hb b (hH.used _ g1)).trans g2, fun c hc => hG.valid (g3 c hc)⟩
 ·obtain ⟨g1, cs, g2, g3⟩ := hH.tail _ _ _ _ hb'
  exact ⟨g1, cs, (hb b (hH.used _ g1)).trans g2, g3⟩
 ·obtain ⟨g1, a, c, g2, g3⟩ := hH.map _ _ hb'
  exact ⟨g1, a, c, (hb b (hH.used _ g1)).trans g2, g3⟩
theorem Zn1 {w : World} {Z : Nat -> Prop} (hH : Zan w σ Z) {b : Nat} {t : TypeId} {cs : List AV} (hb : σ.blk b = some (.own t cs)) {j : Nat} {d : AV} (hd : cs[j]? = some d) : w.cell? ⟨b, j, none⟩ = some d.val := by
 have := Zdl hH hb 0 j (by rw [Nat.zero_add]; exact hd)
 rw [Zbl, Nat.zero_add] at this
 exact this
theorem Zzp {more : Nat} (h : DAt σ bb S fs pcs size mb pv) (hm : more + Zef fs <= 1000000000) (K : AV -> St -> Prop) (hK : K (vT (decide (size < 1 \/ ((more + Zef fs : Nat) : Int) <= size))) σ) : Zal Tryz.prog 40 [ptr bb 0, vI more] σ K := by
 intro w Z hH hV
 refine .inl ⟨by kernel_rfl, ?_⟩
 obtain ⟨_, arr, c, hh, harr, hfr1, hfr2⟩ := hH.mapAt h.map (Zhq _)
 have hmem : ∀ x ∈ arr.toList, ∃ f ∈ fs, x.val = pV f.b := fun x hx => by
  have : (x.key, x.val) ∈ ZiL (Zbs fs) := by
   rw [<- harr]
   exact List.mem_map.2 ⟨x, hx, rfl⟩
  obtain ⟨p, hp, hpx⟩ := List.mem_map.1 this
  obtain ⟨f, hf, rfl⟩ := List.mem_map.1 hp
  injection hpx with _ h2
  exact ⟨f, hf, h2.symm⟩
 have hfile : ∀ f ∈ fs, ∃ A c, w.cell? ⟨f.b, 0, none⟩ = some (.slice A f.d.length c) := fun f hf => by
  obtain ⟨A, c, hv, _⟩ := (h.file f hf).2.2.val
  exact ⟨A, c, by rw [<- hv]; exact Zn1 hH (h.file f hf).1 rfl⟩
 have hsum : ((Zpu w arr).map fun e => valOf e.val).sum = (Zef fs : Int) := by
  have h1 : (Zpu w arr).map (fun e => valOf e.val) = (arr.toList.map fun e : MapEntry => (e.key, e.val)).map fun p => Zpt w p.2 := by
   unfold Zpu
   rw [List.map_map, List.map_map]
   rfl
  rw [h1, harr]
  unfold ZiL Zbs Zef
  rw [List.map_map, List.map_map]
  clear h1 hmem harr hm hK
  have hfile2 := hfile
  clear hfile h
  induction fs with
  | nil => rfl
  | cons f fs ih =>
   obtain ⟨A, c, hc⟩ := hfile2 f List.mem_cons_self
   rw [List.map_cons, List.sum_cons, List.map_cons, List.sum_cons, ih (fun g hg => hfile2 g (List.mem_cons_of_mem _ hg))]
   show Zpt w (pV f.b) + _ = _
   rw [Zn0 hc]
   omega
 have hc := Zxe bb mb pv.val size more arr c w (Zn1 hH h.obj (j := 1) rfl) (Zn1 hH h.obj (j := 2) rfl) hh ⟨fun x hx => hfr1 _ (List.mem_map.2 ⟨x, hx, rfl⟩), hfr2⟩ (fun x hx => by
  obtain ⟨f, hf, hxv⟩ := hmem x hx
  obtain ⟨A, c, hc⟩ := hfile f hf
  exact ⟨f.b, A, _, c, hxv, hc⟩) (by omega) (by rw [hsum]; omega)
 rw [hsum] at hc
 refine Calls.mono hc ?_
 rintro e w' ⟨rfl, w1, seen, hal, rfl⟩
 have hsz : w1.heap.size = w.heap.size := by rw [hal.1]
 obtain ⟨q1, q2⟩ := Zu6 (w' := w1.alloc (.mapIter (some mb) c seen c)) hH (by simp only [World.size_alloc]; omega) (fun b hb => by rw [heap_alloc_old w1 _ (by omega), hal.1]) ⟨hal.2.1, hal.2.2.1, hal.2.2.2⟩
 refine ⟨vT (decide (size < 1 \/ ((more + Zef fs : Nat) : Int) <= size)), σ, ?_, hK, q1, ZaL _, q2⟩
 simp [vT]
end
section
variable {P : Program} {ops : Array Oper} {env : Env} {σ τ : St} {K : Env -> St -> Prop} {d : Option Nat} {ty ty' t kt et : TypeId} {pos : String} {af : Array Edge} {x y z : Operand} {b n : Nat}
theorem Zxf (ht : P.underlying t = some (.map kt et)) (hx : ev env x = ZgG b) (hy : ev env y = .raw (.map none)) (h : K (env.put d (.raw (.bool true))) σ) : aOp P ops ⟨d, .binOp .neq t x y ty', ty, pos, af, none⟩ env σ K :=
 Zf9 hx hy (fun w _ _ => by simp [ZgG, eqGuard_at_map, run_neq_map_nil w t _ _ _ ht]) h
theorem Zu7 {p q : Nat} {m : Nat} {cp cq : Array Value} {tp tq : TypeId} (ht : P.underlying t = some (.pointer (P.pointee t))) (hs : Zav P (P.pointee t) = some (m + 1)) (w : World) (hp : w.heap[p]? = some (.cells cp tp (0, 0))) (hq : w.heap[q]? = some (.cells cq tq (0, 0))) : (Op.equal t (.pointer (some ⟨p, 0, none⟩)) (.pointer (some ⟨q, 0, none⟩))).run P w = .ok (decide (p = q)) w := by
 have hsame : (sameAddr ⟨p, 0, none⟩ ⟨q, 0, none⟩).run P w = .ok (decide (p = q)) w := by
  by_cases hpq : p = q
  ·subst hpq
   rw [decide_eq_true rfl]
   exact run_sameAddr_same _ _
  ·rw [decide_eq_false hpq]
   exact run_sameAddr_other _ (fun h => hpq (by injection h)) hp hq
 show (Op.equalIn (9999 + 1) t (.pointer (some ⟨p, 0, none⟩)) (.pointer (some ⟨q, 0, none⟩))).run P w = _
 unfold Op.equalIn
 simp [run_underlying ht, ZbM hs, hsame]
theorem Zzq {p q m : Nat} {tp tq : TypeId} {cp cq : List AV} {l : List Oper} (ht : P.underlying t = some (.pointer (P.pointee t))) (hs : Zav P (P.pointee t) = some (m + 1)) (hx : ev env x = ptr p 0) (hy : ev env y = ptr q 0) (hp : σ.blk p = some (.own tp cp)) (hq : σ.blk q = some (.own tq cq)) (h : Zbx P ops l (env.put d (.raw (.bool (decide (p = q))))) σ K) : Zbx P ops (⟨d, .binOp .eql t x y ty', ty, pos, af, none⟩ :: l) env σ K := by
 refine .inr (.inr (.inr ⟨rfl, fun ρ hρ w Z hH hV => ⟨.raw (.bool (decide (p = q))), σ, w, .inl ?_, h, hH, ZaL _, .refl _ _⟩⟩))
 obtain ⟨_, hp2, _⟩ := hH.own _ _ _ hp
 obtain ⟨_, hq2, _⟩ := hH.own _ _ _ hq
 have hρ' := hρ
 simp [Op.operands, hx, hy, ptr] at hρ'
 simp only [execOp, hρ'.1, hρ'.2]
 simp [eqGuard_at_pointer, binOp, Zu7 ht hs w hp2 hq2]
theorem Zhr {A : Option Addr} {n c l u sz : Nat} {e : TypeId} {lo hi : Option Operand} {ix : List AV} (hx : ev env x = .raw (.slice A n c)) (hix : (lo.toList ++ hi.toList).map (ev env) = ix) (ht : Zar P t = some e) (hs : Zav P e = some sz) (he : ZbE n c lo.isSome hi.isSome false ix l u c) (hlu : l <= u) (huc : u <= c)
 (h : K (env.put d (.raw (.slice (if c = l then A else A.map (·.add (l * sz))) (u - l) (c - l)))) σ) : aOp P ops ⟨d, .slice t x lo hi none, ty, pos, af, none⟩ env σ K := by
 have hvs : (Op.slice t x lo hi none).operands.toList.map (ev env) = .raw (.slice A n c) :: ix := by
  rw [<- hix, <- hx]
  cases lo <;> cases hi <;> simp [Op.operands]
 refine ZhV (vs := .raw (.slice A n c) :: ix) rfl hvs (fun σ K h => h) (fun ρ hρ w B _ => ?_) h
 have h0 : ρ x = .slice A n c /\ (lo.toArray ++ hi.toArray ++ (none : Option Operand).toArray).toList.map ρ = ix.map AV.val := by
  cases lo <;> cases hi <;> simp [Op.operands] at hρ ⊢ <;> exact hρ
 have hr := Zf4 (P := P) (w := w) (A := A) (mx := none) ht hs h0.2 he hlu huc (Nat.le_refl _)
 simp only [execOp, h0.1]
 rw [Sem.run_bind, hr]
 rfl
theorem Zhs {f : FuncId} {caps : Array Operand} {vs : List AV} (hv : caps.toList.map (ev env) = vs) (h : K (env.put d (.raw (.func (.func f) #[] (vs.map AV.val).toArray))) σ) : aOp P ops ⟨d, .makeFunc (.func f) #[] caps, ty, pos, af, none⟩ env σ K := by
 refine ZhV (vs := vs) rfl (by simpa [Op.operands] using hv) (fun σ K h => .inl h) (fun ρ hρ w B _ => ?_) h
 have hc : caps.map ρ = (vs.map AV.val).toArray := by
  apply Array.ext'
  simp [Op.operands] at hρ
  simpa using hρ
 simp [execOp, Instr.makeFunc, hc]
theorem ZqX {g : FuncId} {f : Operand} {caps : Array Value} {as_ : Array Operand} {ts : Array TypeId} {vs : List AV} (hf : ev env f = .raw (.func (.func g) #[] caps)) (hv : as_.toList.map (ev env) = vs) (h : Zal P g (vs ++ caps.toList.map .raw) σ fun r σ' => K (env.put d r) σ') : aOp P ops ⟨d, .call ⟨.value f, as_, ts⟩, ty, pos, af, none⟩ env σ K := by
 rw [ZaN rfl]
 have : (Op.call ⟨.value f, as_, ts⟩).operands.toList.map (ev env) = .raw (.func (.func g) #[] caps) :: vs := by rw [<- hv, <- hf]; simp [Op.operands, Call.operands]
 show ZdL P _ ((Op.call ⟨.value f, as_, ts⟩).operands.toList.map (ev env)) σ _
 rw [this]
 exact ⟨g, #[], caps, rfl, h⟩
theorem Zzr {g : FuncId} {f : Operand} {fst caps : Array Value} {as_ : Array Operand} {ts : Array TypeId} {vs : List AV} (hf : ev env f = .raw (.func (.func g) fst caps)) (hv : as_.toList.map (ev env) = vs) (h : Zal P g (fst.toList.map .raw ++ vs ++ caps.toList.map .raw) σ fun r σ' => K (env.put d r) σ') : aOp P ops ⟨d, .call ⟨.value f, as_, ts⟩, ty, pos, af, none⟩ env σ K := by
 rw [ZaN rfl]
 have : (Op.call ⟨.value f, as_, ts⟩).operands.toList.map (ev env) = .raw (.func (.func g) fst caps) :: vs := by rw [<- hv, <- hf]; simp [Op.operands, Call.operands]
 show ZdL P _ ((Op.call ⟨.value f, as_, ts⟩).operands.toList.map (ev env)) σ _
 rw [this]
 exact ⟨g, fst, caps, rfl, h⟩
theorem Zu8 {f : FuncId} {fst caps : Array Operand} {us vs : List AV} (hu : fst.toList.map (ev env) = us) (hv : caps.toList.map (ev env) = vs) (h : K (env.put d (.raw (.func (.func f) (us.map AV.val).toArray (vs.map AV.val).toArray))) σ) : aOp P ops ⟨d, .makeFunc (.func f) fst caps, ty, pos, af, none⟩ env σ K := by
 refine ZhV (vs := us ++ vs) rfl (by simp [Op.operands, hu, hv]) (fun σ K h => .inl h) (fun ρ hρ w B _ => ?_) h
 simp [Op.operands] at hρ
 have hl : fst.toList.map ρ = us.map AV.val /\ caps.toList.map ρ = vs.map AV.val := by
  have hlen : (fst.toList.map ρ).length = (us.map AV.val).length := by rw [List.length_map, List.length_map, <- hu, List.length_map]
  exact List.append_inj (by simpa using hρ) hlen
 have hf : fst.map ρ = (us.map AV.val).toArray := by
  apply Array.ext'
  simpa using hl.1
 have hc : caps.map ρ = (vs.map AV.val).toArray := by
  apply Array.ext'
  simpa using hl.2
 simp [execOp, Instr.makeFunc, hf, hc]
theorem Zr1 {a c : List UInt8} (ht : P.underlying t = some .string) (hx : ev env x = .raw (.string ⟨a.toArray⟩)) (hy : ev env y = .raw (.string ⟨c.toArray⟩)) (h : K (env.put d (.raw (.bool (decide (a = c))))) σ) : aOp P ops ⟨d, .binOp .eql t x y ty', ty, pos, af, none⟩ env σ K :=
 Zf9 hx hy (fun w _ _ => by
  rw [AV.val_raw, AV.val_raw, eqGuard_at_string, pure_bind]
  simp only [binOp_string_eql, Zlo, ZrB]
  rfl) h
theorem Zxg {e sz n c lo b : Nat} {cells : List AV} {zv : Value} (hx : ev env x = .raw (.slice (if c = lo then some ⟨b, 0, none⟩ else some ⟨b, lo * sz, none⟩) (n - lo) (c - lo))) (ht : Zar P t = some e) (hz : ZaS P e = some zv) (hzs : zv.cells.size = sz) (hsz : 0 < sz) (hz1 : ∀ i, i < sz -> (AV.ofV (zv.cells[i]!)).one = true)
 (hown : Hd σ e sz (hdr b n c) n cells) (hc : 0 < c) (hlo : lo <= n) (h : ∀ τ, Hd τ e sz (hdr b lo c) lo (cells.take (lo * sz)) -> But (fun g => g = b) σ τ -> K (env.put d (.raw (.tuple #[]))) τ) : aOp P ops ⟨d, .call ⟨.builtin .clear, #[x], #[t]⟩, ty, pos, af, none⟩ env σ K := by
 obtain ⟨c', all, q0, g1, g2, g3, g4, g5, g6⟩ := hown.at_ (Zfr hc)
 unfold hdr at q0
 injection q0 with q0
 injection q0 with _ _ q0
 subst q0
 rw [ZaN rfl]
 have hvs : ((.call ⟨.builtin .clear, #[x], #[t]⟩ : Op).operands.toList.map (ev env)) = [.raw (.slice (if c = lo then some ⟨b, 0, none⟩ else some ⟨b, lo * sz, none⟩) (n - lo) (c - lo))] := by simp [Op.operands, Call.operands, hx]
 show ZdL P _ (Op.operands _ |>.toList.map (ev env)) σ _
 rw [hvs]
 refine .inr ⟨rfl, fun ρv hρ w Z hH hV => ?_⟩
 have hρ' := hρ
 simp [Op.operands, Call.operands] at hρ'
 have hv := ZgJ zv (n - lo) (by omega)
 rw [hzs] at hv
 have hm1 : n * sz <= c * sz := Nat.mul_le_mul_right _ g5
 have hm2 : lo * sz <= n * sz := Nat.mul_le_mul_right _ hlo
 have hlen : ((List.replicate (n - lo) ((List.range sz).map fun i => AV.ofV (zv.cells[i % sz]!))).flatten).length = (n - lo) * sz := by rw [ZgK, List.length_map, List.length_range]
 obtain ⟨ad, had⟩ : ∃ ad : Addr, (if c = lo then some (⟨b, 0, none⟩ : Addr) else some ⟨b, lo * sz, none⟩) = some ad := by
  split <;> exact ⟨_, rfl⟩
 have had2 : 0 < n - lo -> ad = ⟨b, lo * sz, none⟩ := fun h0 => by
  rw [if_neg (by omega)] at had
  injection had with had
  exact had.symm
 obtain ⟨w', r1, r2, r3⟩ := clear_ (P := P) (t := t) (ty := ty) (lo := lo) (n := n - lo) (c := c - lo) (ad := ad) hH ht hz hzs hsz g1 (by rw [show lo + (n - lo) = n by omega]; omega) had2 hv (fun a ha => by
  obtain ⟨q, hq, hal⟩ := List.mem_flatten.1 ha
  have hq := (List.mem_replicate.1 hq).2
  subst hq
  obtain ⟨j, hj, rfl⟩ := List.mem_map.1 hal
  rw [Nat.mod_eq_of_lt (List.mem_range.1 hj)]
  exact hz1 j (List.mem_range.1 hj)) (fun a ha => by
  obtain ⟨q, hq, hal⟩ := List.mem_flatten.1 ha
  have hq := (List.mem_replicate.1 hq).2
  subst hq
  obtain ⟨j, _, rfl⟩ := List.mem_map.1 hal
  exact Zd4 _)
 generalize (List.replicate (n - lo) ((List.range sz).map fun i => AV.ofV (zv.cells[i % sz]!))).flatten = zs at hlen r2 r3
 have hmn : (n - lo) * sz = n * sz - lo * sz := by rw [Nat.sub_mul]
 rw [had] at hρ'
 refine ⟨.raw (.tuple #[]), σ.set b (.own e (ZaG all (lo * sz) zs)), w', .inl ?_, h _ ⟨?_, fun a ha => hown.one a (List.mem_of_mem_take ha), .inr ⟨b, c, _, hc, rfl, by show (if b = b then _ else σ.blk b) = _; rw [if_pos rfl], g2, ?_, ?_, by omega, g6⟩⟩ ⟨fun g k hg hk => ?_, fun g hg => hg⟩, r2, ZaL _, r3⟩
 ·simp [execOp, resolve, invoke, builtin, hρ', r1]
 ·rw [List.length_take, hown.len]
  omega
 ·unfold ZaG
  simp only [List.length_append, List.length_take, List.length_drop, hlen]
  omega
 ·unfold ZaG
  rw [List.append_assoc, List.take_append_of_le_length (by rw [List.length_take]; omega), List.take_take, Nat.min_self, <- g4, List.take_take, Nat.min_eq_left hm2]
 ·show (if g = b then _ else σ.blk g) = _
  rw [if_neg hg]
  exact hk
theorem Zxh {e sz n b o : Nat} {v r : AV} {cells : List AV} (hx : ev env x = ptr b o) (hy : ev env y = r) (hs : Zav P t = some 1) (hown : Hd σ e sz v n cells) (hb : hbk v = some b) (ho : o < n * sz) (h1 : Zb4 r = true /\ r.cells = [r] /\ r.one = true)
 (h : ∀ τ, Hd τ e sz v n (cells.set o r) -> But (fun c => hbk v = some c) σ τ -> K (env.put d (.raw undef)) τ) : aOp P ops ⟨d, .store t x y, ty, pos, af, none⟩ env σ K := by
 obtain ⟨c, all, rfl, g1, g2, g3, g4, g5, g6⟩ := hown.at_ hb
 have q2 : n * sz <= c * sz := Nat.mul_le_mul_right _ g5
 have hsp : ZaG all o [r] = all.set o r := by
  unfold ZaG
  rw [List.set_eq_take_append_cons_drop, if_pos (by omega)]
  simp
 refine Zbn (cs' := all.set o r) hx hy g1 hs ?_ (by rw [h1.2.1, hsp]) fun τ k1 k2 => h τ ⟨by rw [List.length_set]; exact hown.len, fun a ha => ?_, .inr ⟨b, c, _, ?_, rfl, k1, k2.used _ g2, by rw [List.length_set]; exact g3, ?_, g5, g6⟩⟩ ⟨fun c' k hc hk => k2.keep _ _ (fun e => hc (by rw [e]; exact hb)) hk, k2.used⟩
 ·simp [h1.1, h1.2.1, h1.2.2]; omega
 ·rcases List.mem_or_eq_of_mem_set ha with ha | rfl
  ·exact hown.one a ha
  ·exact h1.2.2
 ·cases c with
  | zero => cases hb
  | succ c => omega
 ·rw [List.take_set, g4]
end
section
variable {P : Program} {ops : Array Oper} {env : Env} {σ τ : St} {K : Env -> St -> Prop} {d : Option Nat} {ty ty' t : TypeId} {pos : String} {af : Array Edge} {x y z : Operand}
theorem Zzs {e sz n o b : Nat} {v r : AV} {cells : List AV} (hx : ev env x = ptr b o) (hv : Hd σ e sz v n cells) (hb : hbk v = some b) (hr : cells[o]? = some r) (ha : Ze0 P t = some false) (hn : Zav P t = some 1) (h : K (env.put d r) σ) : aOp P ops ⟨d, .load t x, ty, pos, af, none⟩ env σ K := by
 obtain ⟨c, all, rfl, g1, g2, g3, g4, g5, g6⟩ := hv.at_ hb
 refine ZaC hx g1 ha hn ?_ h
 show all[o]? = some r
 rw [<- g4] at hr
 have ho := Zat hr
 rw [List.length_take] at ho
 rw [List.getElem?_take_of_lt (by omega)] at hr
 exact hr
theorem Zxi {a c : List UInt8} (ht : P.underlying t = some .string) (hx : ev env x = .raw (.string ⟨a.toArray⟩)) (hy : ev env y = .raw (.string ⟨c.toArray⟩)) (h : K (env.put d (.raw (.bool (decide (a < c))))) σ) : aOp P ops ⟨d, .binOp .lss t x y ty', ty, pos, af, none⟩ env σ K :=
 Zf9 hx hy (fun w _ _ => by
  rw [AV.val_raw, AV.val_raw]
  simp only [binOp_string_lss, Zlo, ZiB]
  rfl) h
theorem Zxj {a c : List UInt8} (ht : P.underlying t = some .string) (hx : ev env x = .raw (.string ⟨a.toArray⟩)) (hy : ev env y = .raw (.string ⟨c.toArray⟩)) (h : K (env.put d (.raw (.bool (decide (a ≠ c))))) σ) : aOp P ops ⟨d, .binOp .neq t x y ty', ty, pos, af, none⟩ env σ K :=
 Zf9 hx hy (fun w _ _ => by
  rw [AV.val_raw, AV.val_raw, eqGuard_at_string, pure_bind]
  simp only [binOp_string_neq, Zlo, ZrB]
  by_cases hac : a = c <;> simp [hac]) h
variable {d1 d2 d3 d4 : Nat} {ty1 ty2 ty3 ty4 : TypeId} {p1 p2 p3 p4 : String} {a1 a2 a3 a4 : Array Edge} {l : List Oper} {T T' : TypeId} {f off m : Nat} {g0 : Option Bool} {stl : List (Nat × Option Nat × Option Bool)}
theorem ZmK {b : Nat} {cs : List AV} {r : AV} (hx : ev env x = ptr b 0) (hst : Zba P T = some stl) (hf : stl[f]? = some (off, some (m + 1), g0)) (hb : σ.blk b = some (.own T' cs)) (hr : cs[off]? = some r) (ha : Ze0 P t = some false) (hn : Zav P t = some 1)
 (h : ∀ u1 u2 u3, Zbx P ops l ((((env.put (some d1) u1).put (some d2) u2).put (some d3) u3).put (some d4) r) σ K) :
 Zbx P ops (⟨some d1, .move x, ty1, p1, a1, none⟩ :: ⟨some d2, .nilCheck (.tmp d1), ty2, p2, a2, none⟩ :: ⟨some d3, .fieldAddr T (.tmp d2) f, ty3, p3, a3, none⟩ :: ⟨some d4, .load t (.tmp d3), ty4, p4, a4, none⟩ :: l) env σ K :=
 Zad (ZjE rfl hx (Zad (ZaF (v := ptr b 0) (by simp only [EV]; rfl) rfl (Zad (Zai (b := b) (o := 0) (by simp only [EV]; rfl) hst hf (Zad (ZaC (b := b) (o := 0 + off) (r := r) (by simp only [EV]; rfl) hb ha hn (by rw [Nat.zero_add]; exact hr) (h _ _ _))))))))
theorem ZBu {b : Nat} (hx : ev env x = ptr b 0) (hst : Zba P T = some stl) (hf : stl[f]? = some (off, some (m + 1), g0))
 (h : ∀ u1, Zbx P ops l ((env.put (some d1) u1).put (some d2) (ptr b (0 + off))) σ K) :
 Zbx P ops (⟨some d1, .nilCheck x, ty1, p1, a1, none⟩ :: ⟨some d2, .fieldAddr T (.tmp d1) f, ty2, p2, a2, none⟩ :: l) env σ K :=
 Zad (ZaF (v := ptr b 0) hx rfl (Zad (Zai (b := b) (o := 0) (by simp only [EV]; rfl) hst hf (h _))))
theorem Zu9 {e sz n j : Nat} {v r : AV} {cells : List AV} {lt : TypeId} (hx : ev env x = v) (hy : ev env y = vI j) (ht : Zar P lt = some e) (hs : Zav P e = some sz) (hown : Hd σ e sz v n cells) (hj : j < n) (hst : Zba P T = some stl) (hf : stl[f]? = some (off, some (m + 1), g0)) (hr : cells[j * sz + off]? = some r) (ha : Ze0 P t = some false) (hn : Zav P t = some 1)
 (h : ∀ u1 u2, Zbx P ops l (((env.put (some d1) u1).put (some d2) u2).put (some d3) r) σ K) :
 Zbx P ops (⟨some d1, .indexAddr lt x y, ty1, p1, a1, none⟩ :: ⟨some d2, .fieldAddr T (.tmp d1) f, ty2, p2, a2, none⟩ :: ⟨some d3, .load t (.tmp d2), ty3, p3, a3, none⟩ :: l) env σ K :=
 Zad (ZdV (k := .i64) (j := j) hx hy ht hs hown hj fun b hb => Zad (Zai (b := b) (o := j * sz) (by simp only [EV]; rfl) hst hf (Zad (Zzs (by simp only [EV]; rfl) hown hb hr ha hn (h _ _)))))
theorem Zzt {e sz : TypeId} {zv : Value} {lt : TypeId} (ht : Zar P lt = some e) (hs : Zav P e = some sz) (hz : ZaS P e = some zv) (hzs : zv.cells.size = sz) (h : ∀ ad τ, Ext σ τ -> Zbx P ops l (env.put d (.raw (.slice (some ad) 0 0))) τ K) : Zbx P ops (⟨d, .buildSlice lt 0 #[], ty, pos, af, none⟩ :: l) env σ K :=
 .inr (.inl ⟨rfl, lt, 0, #[], e, sz, zv, [], rfl, ht, hs, hz, hzs, by omega, by simp [ZdD, Op.operands], fun b hu hb => h ⟨b, 0, none⟩ _ (Ext.put _ hb)⟩)
theorem ZCm {e sz : Nat} (ad : Addr) : Hd σ e sz (.raw (.slice (some ad) 0 0)) 0 [] := ⟨by simp, by simp, .inl ⟨.inr ⟨ad, rfl⟩, rfl⟩⟩
theorem Zxk {e sz n lo : Nat} {v : AV} {cells : List AV} (hx : ev env x = v) (hy : ev env y = vI lo) (ht : Zar P t = some e) (hs : Zav P e = some sz) (hsz : 0 < sz) (hown : Hd σ e sz v n cells) (hlo : lo <= n)
 (h : ∀ r, (∀ τ : St, Hd τ e sz v n cells -> Src τ sz r (n - lo) (cells.drop (lo * sz))) -> K (env.put d r) σ) : aOp P ops ⟨d, .slice t x (some y) none none, ty, pos, af, none⟩ env σ K := by
 have hix : ((some y).toList ++ (none : Option Operand).toList).map (ev env) = [vI lo] := by simp [hy]
 rcases hown.2.2 with ⟨hnil, hn⟩ | ⟨b, c, all, hc, rfl, g1, g2, g3, g4, g5, g6⟩
 ·have hl0 : lo = 0 := by omega
  subst hl0 hn
  have hcl : cells = [] := List.eq_nil_of_length_eq_zero (by rw [hown.len, Nat.zero_mul])
  subst hcl
  rcases hnil with rfl | ⟨ad, rfl⟩
  ·refine Zue (A := none) (n := 0) (c := 0) (l := 0) (u := 0) (cells := []) (cs := []) hx hix ht hs (ZwK rfl) (Nat.le_refl _) (Nat.le_refl _) rfl fun A' hA' => ?_
   have hA' : A' = none := by rw [hA']; rfl
   subst hA'
   exact h _ fun _ _ => by rw [List.drop_nil]; exact Zlv
  ·refine Zhr (A := some ad) (n := 0) (c := 0) (l := 0) (u := 0) hx hix ht hs (ZwK rfl) (Nat.le_refl _) (Nat.le_refl _) ?_
   exact h _ fun _ _ => by rw [List.drop_nil]; exact (ZCm (e := e) ad).src hsz
 ·refine Zhr (A := some ⟨b, 0, none⟩) (n := n) (c := c) (l := lo) (u := n) hx hix ht hs (ZwK rfl) hlo g5 ?_
  obtain ⟨ad, had⟩ : ∃ ad : Addr, (if c = lo then some (⟨b, 0, none⟩ : Addr) else (some (⟨b, 0, none⟩ : Addr)).map (·.add (lo * sz))) = some ad := by
   split <;> exact ⟨_, rfl⟩
  have had2 : 0 < n - lo -> ad = ⟨b, lo * sz, none⟩ := fun h0 => by
   rw [if_neg (by omega)] at had
   simp only [Option.map, Zbl, Nat.zero_add] at had
   injection had with had
   exact had.symm
  rw [had]
  refine h _ fun τ hτ => ?_
  obtain ⟨c', all', q0, k1, k2, k3, k4, k5, k6⟩ := hτ.at_ (Zfr hc)
  unfold hdr at q0
  injection q0 with q0
  injection q0 with _ _ q0
  subst q0
  have q1 : lo * sz <= n * sz := Nat.mul_le_mul_right _ hlo
  have q2 : n * sz <= c * sz := Nat.mul_le_mul_right _ g5
  have q3 : (n - lo) * sz = n * sz - lo * sz := Nat.sub_mul _ _ _
  have e1 : (all'.drop (lo * sz)).take ((n - lo) * sz) = cells.drop (lo * sz) := by rw [<- k4, List.drop_take, q3]
  rw [<- e1]
  exact ZnM (c := c - lo) rfl k1 had2 hsz (by omega) (by rw [e1]; exact fun a ha => hown.one a (List.mem_of_mem_drop ha))
end
def Ls (σ : St) (e : TypeId) (v : AV) (n : Nat) (cells : List AV) : Prop := cells.length = n /\ (∀ a ∈ cells, a.one = true) /\ ((∃ A c rest, v = .lst A n c (cells ++ rest) /\ (A = none -> n = 0)) \/ Hd σ e 1 v n cells)
section
variable {P : Program} {ops : Array Oper} {env : Env} {σ τ : St} {K : Env -> St -> Prop} {d : Option Nat} {ty ty' t : TypeId} {pos : String} {af : Array Edge} {x y z : Operand}
theorem Ls.of {e n : Nat} {v : AV} {cells : List AV} (h : Hd σ e 1 v n cells) : Ls σ e v n cells := ⟨by rw [h.len, Nat.mul_one], h.one, .inr h⟩
theorem Ls.but {U : Nat -> Prop} {e n : Nat} {v : AV} {cells : List AV} (h : Ls σ e v n cells) (k : But U σ τ) (hU : ∀ c, hbk v = some c -> ¬ U c) : Ls τ e v n cells := ⟨h.1, h.2.1, h.2.2.imp id fun q => q.but k hU⟩
theorem Ls.ext {e n : Nat} {v : AV} {cells : List AV} (h : Ls σ e v n cells) (k : Ext σ τ) : Ls τ e v n cells := h.but (U := fun _ => False) k.but fun _ _ => id
theorem Ls.val {e n : Nat} {v : AV} {cells : List AV} (h : Ls σ e v n cells) : ∃ A c, v.val = .slice A n c /\ (A = none -> n = 0) := by
 rcases h.2.2 with ⟨A, c, rest, rfl, hA⟩ | h
 ·exact ⟨A, c, rfl, hA⟩
 ·obtain ⟨A, c, h1, h2, _⟩ := h.val
  exact ⟨A, c, h1, fun q => (h2 q).1⟩
theorem Ls.src {e n : Nat} {v : AV} {cells : List AV} (h : Ls σ e v n cells) : Src σ 1 v n cells := by
 rcases h.2.2 with ⟨A, c, rest, rfl, hA⟩ | h1
 ·exact Zge (by rw [h.1, Nat.mul_one]) h.2.1 hA
 ·exact h1.src (by omega)
theorem Zva {ts : Array TypeId} {t e e' n : TypeId} {v : AV} {cells : List AV} {as_ : Operand} (hx : ev env as_ = v) (hv : Ls σ e' v n cells) (hts : ts[0]? = some t) (ht : Zar P t = some e) (h : K (env.put d (vI n)) σ) : aOp P ops ⟨d, .call ⟨.builtin .len, #[as_], ts⟩, ty, pos, af, none⟩ env σ K := by
 obtain ⟨A, c, h1, _⟩ := hv.val
 exact Zug hx h1 hts ht h
theorem ZBv {e n i : Nat} {v r : AV} {cells : List AV} {lt : TypeId} (h : Ls σ e v n cells) (hi : i < n) (hr : cells[i]? = some r) (hx : ev env x = v) (hy : ev env y = vI i) (ht : Zar P lt = some e) (hs : Zav P e = some 1) (ha : Ze0 P e = some false) (hk : ∀ q, Zdk P e σ q = some r -> K (env.put d q) σ) : aOp P ops ⟨d, .indexAddr lt x y, ty, pos, af, none⟩ env σ K := by
 rcases h.2.2 with ⟨A, c, rest, rfl, hA⟩ | h1
 ·refine Zc1 (k := .i64) (j := i) hx hy ht hs hi hA rfl fun ad => hk _ ?_
  unfold Zdk
  dsimp only
  rw [ha, hs]
  show ((cells ++ rest).drop (i * 1))[0]? = some r
  rw [List.getElem?_drop, Nat.mul_one, Nat.add_zero, List.getElem?_append_left (Zat hr)]
  exact hr
 ·exact ZdV (k := .i64) (j := i) hx hy ht hs h1 hi fun b hb => hk _ (h1.load1 hb hi hr ha hs)
theorem ZBw {d1 d2 : Nat} {ty1 ty2 : TypeId} {p1 p2 : String} {a1 a2 : Array Edge} {l : List Oper} {e n i : Nat} {v r : AV} {cells : List AV} {lt : TypeId} (h : Ls σ e v n cells) (hi : i < n) (hr : cells[i]? = some r) (hx : ev env x = v) (hy : ev env y = vI i) (ht : Zar P lt = some e) (hs : Zav P e = some 1) (ha : Ze0 P e = some false) (hk : ∀ u, Zbx P ops l ((env.put (some d1) u).put (some d2) r) σ K) :
 Zbx P ops (⟨some d1, .indexAddr lt x y, ty1, p1, a1, none⟩ :: ⟨some d2, .load e (.tmp d1), ty2, p2, a2, none⟩ :: l) env σ K :=
 Zad (ZBv h hi hr hx hy ht hs ha fun q hq => Zad (Zo0 (by simp only [EV]; rfl) hq (hk q)))
theorem Zn2 {as_ : Operand} {ts : Array TypeId} {t : TypeId} {a : List UInt8} (hx : ev env as_ = .raw (.string ⟨a.toArray⟩)) (hts : ts[0]? = some t) (ht : P.underlying t = some .string) (h : K (env.put d (vI a.length)) σ) : aOp P ops ⟨d, .call ⟨.builtin .len, #[as_], ts⟩, ty, pos, af, none⟩ env σ K := by
 refine ZhV (vs := [.raw (.string ⟨a.toArray⟩)]) rfl (by simp [Op.operands, Call.operands, hx]) (fun _ _ h => .inl h) (fun ρ hρ w _ _ => ?_) h
 simp [Op.operands, Call.operands] at hρ
 have hl : (ByteArray.mk a.toArray).size = a.length := by show a.toArray.size = _; simp
 simp [execOp, resolve, invoke, builtin, Builtin.len_, hρ, hts, run_underlying ht, goInt, hl]
end
end Go.Proofs.YteempnebenjkmaaGreatDoor
