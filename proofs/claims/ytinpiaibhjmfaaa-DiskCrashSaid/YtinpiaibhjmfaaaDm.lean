/- Maps from texts to objects, for walks by hand. -/
import Derived.Test.YtinpiaibhjmfaaaHx
namespace Go.Proofs.Ytinpiaibhjmfaaa
open Go.RowKit
set_option linter.unusedSimpArgs false
set_option maxRecDepth 100000
set_option linter.unusedVariables false
abbrev sV (s : List UInt8) : Value := .string ⟨s.toArray⟩
abbrev pV (n : Nat) : Value := .pointer (some ⟨n, 0, none⟩)
abbrev Dir := List (List UInt8 × Nat)
def Zei (es : Dir) : List (Value × Value) := es.map fun p => (sV p.1, pV p.2)
theorem Zds : ∀ es : Dir, Zht (Zei es) = 0
 | [] => rfl
 | _ :: _ => rfl
def Zf3 : Dir -> List UInt8 -> Option Nat
 | [], _ => none
 | p :: es, k => if k = p.1 then some p.2 else Zf3 es k
def ZqX : Dir -> List UInt8 -> Nat -> Dir
 | [], k, n => [(k, n)]
 | p :: es, k, n => if k = p.1 then (k, n) :: es else p :: ZqX es k n
def Zpv : Dir -> List UInt8 -> Dir
 | [], _ => []
 | p :: es, k => if k = p.1 then es else p :: Zpv es k
def Zqo (k : List UInt8) : Dir -> Nat -> Option (Nat × Value)
 | [], _ => none
 | p :: es, i => if k = p.1 then some (i, pV p.2) else Zqo k es (i + 1)
section
variable {P : Program}
theorem ZgD {k : List UInt8} : ∀ {es : Dir} {l : List MapEntry} (i : Nat), l.map (fun e : MapEntry => (e.key, e.val)) = Zei es ->
 (Zf3 es k = none /\ Zqo k es i = none /\ (∀ n, ZqX es k n = es ++ [(k, n)]) /\ Zpv es k = es) \/
  ∃ j n, Zf3 es k = some n /\ Zqo k es i = some (i + j, pV n) /\ (l[j]?).map (·.key) = some (sV k) /\ (∀ m f, (∀ e : MapEntry, ((f e).key, (f e).val) = (sV k, pV m)) -> (l.modify j f).map (fun e : MapEntry => (e.key, e.val)) = Zei (ZqX es k m)) /\ (l.eraseIdx j).map (fun e : MapEntry => (e.key, e.val)) = Zei (Zpv es k)
 | [], [], i, _ => .inl ⟨rfl, rfl, fun v => rfl, rfl⟩
 | [], e :: l, i, h => by simp [Zei] at h
 | p :: es, [], i, h => by simp [Zei] at h
 | p :: es, e :: l, i, h => by
  unfold Zei at h
  simp only [List.map_cons, List.cons.injEq] at h
  obtain ⟨h1, h2⟩ := h
  injection h1 with h1 h3
  unfold Zf3 ZqX Zqo Zpv
  by_cases hp : k = p.1
  ·subst hp
   refine .inr ⟨0, p.2, by rw [if_pos rfl], by rw [if_pos rfl]; rfl, by simp [h1], fun m f hf => ?_, ?_⟩
   ·rw [if_pos rfl]
    simp [List.modify, h2, hf e, Zei]
   ·rw [if_pos rfl]
    simpa [Zei] using h2
  ·rcases ZgD (k := k) (i + 1) h2 with ⟨g1, g2, g3, g4⟩ | ⟨j, n, g1, g2, g3, g4, g5⟩
   ·exact .inl ⟨by rw [if_neg hp]; exact g1, by rw [if_neg hp]; exact g2, fun v => by rw [if_neg hp, g3 v]; rfl, by rw [if_neg hp, g4]⟩
   ·refine .inr ⟨j + 1, n, by rw [if_neg hp]; exact g1, by rw [if_neg hp, show i + (j + 1) = i + 1 + j from by omega]; exact g2, by simpa using g3, fun m f hf => ?_, ?_⟩
    ·rw [if_neg hp, List.modify_succ_cons, List.map_cons, g4 m f hf, h1, h3]
     rfl
    ·rw [if_neg hp, List.eraseIdx_cons_succ, List.map_cons, g5, h1, h3]
     rfl
theorem Zne {k : List UInt8} : ∀ {es : Dir} {l : List MapEntry} (i : Nat), l.map (fun e : MapEntry => (e.key, e.val)) = Zei es -> Instr.findNow .string (sV k) l i = some (Zqo k es i)
 | [], [], i, _ => rfl
 | [], e :: l, i, h => by simp [Zei] at h
 | p :: es, [], i, h => by simp [Zei] at h
 | p :: es, e :: l, i, h => by
  unfold Zei at h
  simp only [List.map_cons, List.cons.injEq] at h
  obtain ⟨h1, h2⟩ := h
  injection h1 with h1 h3
  unfold Zqo Instr.findNow
  rw [h1, show Instr.sameNow .string (sV k) (sV p.1) = some (decide (k = p.1)) from congrArg some (Zgu k p.1)]
  by_cases hp : k = p.1
  ·rw [if_pos hp, decide_eq_true hp, h3]
  ·rw [if_neg hp, decide_eq_false hp]
   exact Zne (i + 1) h2
theorem Zl8 {kt : TypeId} {w : World} {k : List UInt8} {es : Dir} {l : List MapEntry} (hk : P.underlying kt = some .string) (h : l.map (fun e : MapEntry => (e.key, e.val)) = Zei es) : (Instr.findKey kt (sV k) l).run P w = .ok (Zqo k es 0) w := by
 unfold Instr.findKey
 rw [Sem.run_bind, run_underlying hk]
 dsimp only [Result.andThen]
 rw [Zne 0 h]
 rfl
theorem Zfc {kt : TypeId} {w : World} {k : List UInt8} (hk : P.underlying kt = some .string) (e : Bool) : (Instr.checkKey e 10000 kt (sV k)).run P w = .ok () w := ZjH (K := .str) (y := k) hk e
theorem Zk6 {w : World} {k : List UInt8} : (Instr.keyThatStays (sV k) (sV k)).run P w = .ok (sV k) w := ZmR (K := .str) (x := k)
theorem ZqY {t kt et : TypeId} {es : Dir} {arr : Array MapEntry} {c b : Nat} {k : List UInt8} {w : World} (t1 : P.underlying t = some (.map kt et)) (t2 : P.underlying kt = some .string) (t4 : ZaN P et = some (.pointer none)) (hh : w.heap[b]? = some (.map arr c)) (harr : arr.toList.map (fun e : MapEntry => (e.key, e.val)) = Zei es) :
 (Instr.lookup t (.map (some b)) (sV k) false).run P w = .ok (.pointer ((Zf3 es k).map fun n => ⟨n, 0, none⟩)) w := by
 have pre : ∀ r, Zqo k es 0 = r -> (Instr.lookup t (.map (some b)) (sV k) false).run P w = .ok (match r with | some (_, v) => v | none => .pointer none) w := by
  intro r hr
  unfold Instr.lookup
  rw [Sem.run_bind, run_underlying t1]
  dsimp only [Result.andThen]
  rw [Sem.run_bind, Ze3 hh]
  dsimp only [Result.andThen]
  rw [Sem.run_bind, Sem.run_pure]
  dsimp only [Result.andThen]
  rw [Sem.run_bind, Zfc t2]
  dsimp only [Result.andThen]
  rw [Sem.run_bind, Zl8 t2 harr, hr]
  dsimp only [Result.andThen]
  cases r with
  | none =>
   dsimp only
   rw [Sem.run_bind, ZbD t4]
   rfl
  | some x => rfl
 rcases ZgD (k := k) 0 harr with ⟨m1, m2, _⟩ | ⟨j, n, m1, m2, _⟩
 ·rw [pre _ m2, m1]; rfl
 ·rw [pre _ m2, m1]; rfl
end
section
variable {P : Program} {ops : Array Oper} {env : Env} {σ τ : St} {K : Env -> St -> Prop} {d : Option Nat} {ty ty' t kt et : TypeId} {pos : String} {af : Array Edge} {x y z : Operand} {b n : Nat} {es : Dir} {k : List UInt8}
theorem Zg5 (h : ∀ b, ¬ σ.used b -> σ.blk b = none -> K (env.put d (Zbv b)) (σ.put b (.map []))) (hm : P.underlying t = some (.map kt et)) : aOp P ops ⟨d, .makeMap t none, ty, pos, af, none⟩ env σ K := by
 rw [ZaH rfl]
 have hvs : ((.makeMap t none : Op).operands.toList.map (ev env)) = [] := by simp [Op.operands]
 show ZcE P _ (Op.operands _ |>.toList.map (ev env)) σ _
 rw [hvs]
 refine .inr ⟨rfl, fun ρv hρ w Z hH hV => ?_⟩
 obtain ⟨f1, f2⟩ := hH.fresh
 refine ⟨Zbv w.heap.size, _, _, .inl ?_, h _ f1 f2, hH.alloc_map, Zak _, Grow.alloc hH _ _⟩
 simp [execOp, Instr.makeMap, run_underlying hm, Zbv, newObj, Sem.run, Result.andThen]
theorem Zej (hx : ev env x = Zbv b) (hy : ev env y = .raw (sV k)) (hb : σ.blk b = some (.map (Zei es))) (t1 : P.underlying t = some (.map kt et)) (t2 : P.underlying kt = some .string) (t4 : ZaN P et = some (.pointer none))
 (h : K (env.put d (.raw (.pointer ((Zf3 es k).map fun n => ⟨n, 0, none⟩)))) σ) : aOp P ops ⟨d, .lookup t x y false, ty, pos, af, none⟩ env σ K := by
 rw [ZaH rfl]
 have hvs : ((.lookup t x y false : Op).operands.toList.map (ev env)) = [Zbv b, .raw (sV k)] := by simp [Op.operands, hx, hy]
 show ZcE P _ (Op.operands _ |>.toList.map (ev env)) σ _
 rw [hvs]
 refine .inr ⟨rfl, fun ρv hρ w Z hH hV => ?_⟩
 obtain ⟨_, arr, c, hh, harr, _⟩ := hH.mapAt hb (Zds _)
 have hρ' := hρ
 simp [Op.operands, Zbv] at hρ'
 refine ⟨.raw (.pointer ((Zf3 es k).map fun n => ⟨n, 0, none⟩)), σ, w, .inl ?_, h, hH, Zak _, .refl _ _⟩
 simp only [execOp, hρ'.1, hρ'.2]
 rw [Sem.run_bind, ZqY t1 t2 t4 hh harr]
 rfl
theorem Zin (hx : ev env x = Zbv b) (hy : ev env y = .raw (sV k)) (hz : ev env z = ptr n 0) (hb : σ.blk b = some (.map (Zei es))) (t1 : P.underlying t = some (.map kt et)) (t2 : P.underlying kt = some .string)
 (h : ∀ τ, τ.blk b = some (.map (Zei (ZqX es k n))) -> But (fun c => c = b) σ τ -> K (env.put d (.raw undef)) τ) : aOp P ops ⟨d, .mapUpdate t x y z, ty, pos, af, none⟩ env σ K := by
 rw [ZaH rfl]
 have hvs : ((.mapUpdate t x y z : Op).operands.toList.map (ev env)) = [Zbv b, .raw (sV k), ptr n 0] := by simp [Op.operands, hx, hy, hz]
 show ZcE P _ (Op.operands _ |>.toList.map (ev env)) σ _
 rw [hvs]
 refine .inr ⟨rfl, fun ρv hρ w Z hH hV => ?_⟩
 obtain ⟨_, arr, c, hh, harr, hfr1, hfr2⟩ := hH.mapAt hb (Zds _)
 have hρ' := hρ
 simp [Op.operands, Zbv, ptr] at hρ'
 obtain ⟨r1, r2, r3⟩ := hρ'
 have fin : ∀ (arr' : Array MapEntry) (c' : Nat), ((∀ n ∈ arr'.toList.map fun e : MapEntry => e.born, n < c') /\ (arr'.toList.map fun e : MapEntry => e.born).Nodup) -> arr'.toList.map (fun e : MapEntry => (e.key, e.val)) = Zei (ZqX es k n) -> (Instr.mapUpdate t (.map (some b)) (sV k) (pV n)).run P w = .ok () (Zcj w b arr' c') ->
  ∃ r σ' w', ((execOp ρv ⟨d, .mapUpdate t x y z, ty, pos, af, none⟩).run P w = .ok (.value r.val) w' \/ (execOp ρv ⟨d, .mapUpdate t x y z, ty, pos, af, none⟩).run P w = .ok .skip w' /\ r = .raw undef) /\ K (env.put d r) σ' /\ Zaj w' σ' Z /\ Zaf w' (σ'.free Z) r /\ Grow w σ w' σ' := by
  intro arr' c' h0 h1 h2
  obtain ⟨q1, q2⟩ := hH.write_map (a' := arr') (c' := c') hb hh h0 (by rw [h1]; exact Zds _)
  rw [h1] at q1 q2
  refine ⟨.raw undef, _, Zcj w b arr' c', .inr ⟨?_, rfl⟩, h _ ?_ ?_, q1, Zak _, q2⟩
  ·simp [execOp, r1, r2, r3, h2]
  ·show (if b = b then _ else σ.blk b) = _
   rw [if_pos rfl]
  ·exact ⟨fun c' k' hc hk => by
    show (if c' = b then _ else σ.blk c') = _
    rw [if_neg hc]; exact hk, fun c' hc => hc⟩
 have pre : ∀ r, Zqo k es 0 = r -> (Instr.mapUpdate t (.map (some b)) (sV k) (pV n)).run P w = (match r with
  | some (j, _) => do
   let key <- Instr.keyThatStays (((arr[j]?).map (fun e : MapEntry => e.key)).getD (sV k)) (sV k)
   setObj b (.map (arr.modify j fun (e : MapEntry) => { e with key, val := pV n }) c)
  | none => setObj b (.map (arr.push { key := sV k, val := pV n, born := c }) (c + 1))).run P w := by
  intro r hr
  unfold Instr.mapUpdate
  rw [Sem.run_bind, run_underlying t1]
  dsimp only [Result.andThen]
  rw [Sem.run_bind, Ze3 hh]
  dsimp only [Result.andThen]
  rw [Sem.run_bind, Zfc t2]
  dsimp only [Result.andThen]
  rw [Sem.run_bind, Zl8 t2 harr, hr]
  dsimp only [Result.andThen]
  cases r <;> rfl
 rcases ZgD (k := k) 0 harr with ⟨m1, m2, m3, _⟩ | ⟨j, y', m1, m2, m3, m4, _⟩
 ·refine fin (arr.push { key := sV k, val := pV n, born := c }) (c + 1) (Zgt hfr1 hfr2) (by rw [m3 n, Array.toList_push, List.map_append, harr]; simp [Zei]) ?_
  rw [pre _ m2]
  exact Zgv hh
 ·rw [Nat.zero_add] at m2
  refine fin (arr.modify j fun (e : MapEntry) => { e with key := sV k, val := pV n }) c (by rw [ZfY arr j (fun (e : MapEntry) => { e with key := sV k, val := pV n }) fun _ => rfl]; exact ⟨hfr1, hfr2⟩) ?_ ?_
  ·rw [Array.toList_modify]
   exact m4 n _ (fun e => rfl)
  ·rw [pre _ m2]
   dsimp only
   have hkey : ((arr[j]?).map (fun e : MapEntry => e.key)).getD (sV k) = sV k := by
    rw [Array.getElem?_toList] at m3
    rw [m3]; rfl
   rw [hkey, Sem.run_bind, Zk6]
   exact Zgv hh
end
end Go.Proofs.Ytinpiaibhjmfaaa
