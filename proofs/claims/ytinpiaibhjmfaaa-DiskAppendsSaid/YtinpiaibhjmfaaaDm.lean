/- Maps from texts to objects, for walks by hand. -/
import Derived.Test.YtinpiaibhjmfaaaHx
namespace Go.Proofs.Ytinpiaibhjmfaaa
open Go.RowKit
set_option linter.unusedSimpArgs false
set_option maxRecDepth 100000
set_option linter.unusedVariables false
abbrev sV (s : List UInt8) : Value := .string ⟨s.toArray⟩
abbrev pV (n : Nat) : Value := .pointer (some ⟨n, 0, none⟩)
/-- A map's entries: names, and objects by their blocks. -/
abbrev Dir := List (List UInt8 × Nat)
def ents (es : Dir) : List (Value × Value) := es.map fun p => (sV p.1, pV p.2)
def dget : Dir → List UInt8 → Option Nat
  | [], _ => none
  | p :: es, k => if k = p.1 then some p.2 else dget es k
def dput : Dir → List UInt8 → Nat → Dir
  | [], k, n => [(k, n)]
  | p :: es, k, n => if k = p.1 then (k, n) :: es else p :: dput es k n
def ddel : Dir → List UInt8 → Dir
  | [], _ => []
  | p :: es, k => if k = p.1 then es else p :: ddel es k
def dfnd (k : List UInt8) : Dir → Nat → Option (Nat × Value)
  | [], _ => none
  | p :: es, i => if k = p.1 then some (i, pV p.2) else dfnd k es (i + 1)
section
variable {P : Program}
theorem dfnd_find {k : List UInt8} : ∀ {es : Dir} {l : List MapEntry} (i : Nat), l.map (fun e : MapEntry => (e.key, e.val)) = ents es →
    (dget es k = none ∧ dfnd k es i = none ∧ (∀ n, dput es k n = es ++ [(k, n)]) ∧ ddel es k = es) ∨
      ∃ j n, dget es k = some n ∧ dfnd k es i = some (i + j, pV n) ∧ (l[j]?).map (·.key) = some (sV k) ∧ (∀ m f, (∀ e : MapEntry, ((f e).key, (f e).val) = (sV k, pV m)) → (l.modify j f).map (fun e : MapEntry => (e.key, e.val)) = ents (dput es k m)) ∧ (l.eraseIdx j).map (fun e : MapEntry => (e.key, e.val)) = ents (ddel es k)
  | [], [], i, _ => .inl ⟨rfl, rfl, fun v => rfl, rfl⟩
  | [], e :: l, i, h => by simp [ents] at h
  | p :: es, [], i, h => by simp [ents] at h
  | p :: es, e :: l, i, h => by
    unfold ents at h
    simp only [List.map_cons, List.cons.injEq] at h
    obtain ⟨h1, h2⟩ := h
    injection h1 with h1 h3
    unfold dget dput dfnd ddel
    by_cases hp : k = p.1
    · subst hp
      refine .inr ⟨0, p.2, by rw [if_pos rfl], by rw [if_pos rfl]; rfl, by simp [h1], fun m f hf => ?_, ?_⟩
      · rw [if_pos rfl]
        simp [List.modify, h2, hf e, ents]
      · rw [if_pos rfl]
        simpa [ents] using h2
    · rcases dfnd_find (k := k) (i + 1) h2 with ⟨g1, g2, g3, g4⟩ | ⟨j, n, g1, g2, g3, g4, g5⟩
      · exact .inl ⟨by rw [if_neg hp]; exact g1, by rw [if_neg hp]; exact g2, fun v => by rw [if_neg hp, g3 v]; rfl, by rw [if_neg hp, g4]⟩
      · refine .inr ⟨j + 1, n, by rw [if_neg hp]; exact g1, by rw [if_neg hp, show i + (j + 1) = i + 1 + j from by omega]; exact g2, by simpa using g3, fun m f hf => ?_, ?_⟩
        · rw [if_neg hp, List.modify_succ_cons, List.map_cons, g4 m f hf, h1, h3]
          rfl
        · rw [if_neg hp, List.eraseIdx_cons_succ, List.map_cons, g5, h1, h3]
          rfl
theorem dfnd_now {k : List UInt8} : ∀ {es : Dir} {l : List MapEntry} (i : Nat), l.map (fun e : MapEntry => (e.key, e.val)) = ents es → Instr.findNow .string (sV k) l i = some (dfnd k es i)
  | [], [], i, _ => rfl
  | [], e :: l, i, h => by simp [ents] at h
  | p :: es, [], i, h => by simp [ents] at h
  | p :: es, e :: l, i, h => by
    unfold ents at h
    simp only [List.map_cons, List.cons.injEq] at h
    obtain ⟨h1, h2⟩ := h
    injection h1 with h1 h3
    unfold dfnd Instr.findNow
    rw [h1, show Instr.sameNow .string (sV k) (sV p.1) = some (decide (k = p.1)) from congrArg some (bytes_beq k p.1)]
    by_cases hp : k = p.1
    · rw [if_pos hp, decide_eq_true hp, h3]
    · rw [if_neg hp, decide_eq_false hp]
      exact dfnd_now (i + 1) h2
theorem key_str {kt : TypeId} {w : World} {k : List UInt8} {es : Dir} {l : List MapEntry} (hk : P.underlying kt = some .string) (h : l.map (fun e : MapEntry => (e.key, e.val)) = ents es) : (Instr.findKey kt (sV k) l).run P w = .ok (dfnd k es 0) w := by
  unfold Instr.findKey
  rw [Sem.run_bind, run_underlying hk]
  dsimp only [Result.andThen]
  rw [dfnd_now 0 h]
  rfl
theorem check_str {kt : TypeId} {w : World} {k : List UInt8} (hk : P.underlying kt = some .string) (e : Bool) : (Instr.checkKey e 10000 kt (sV k)).run P w = .ok () w := check_mk (K := .str) (y := k) hk e
theorem stays_str {w : World} {k : List UInt8} : (Instr.keyThatStays (sV k) (sV k)).run P w = .ok (sV k) w := stays_mk (K := .str) (x := k)
theorem run_dget {t kt et : TypeId} {es : Dir} {arr : Array MapEntry} {c b : Nat} {k : List UInt8} {w : World} (t1 : P.underlying t = some (.map kt et)) (t2 : P.underlying kt = some .string) (t4 : zeroA P et = some (.pointer none)) (hh : w.heap[b]? = some (.map arr c)) (harr : arr.toList.map (fun e : MapEntry => (e.key, e.val)) = ents es) :
    (Instr.lookup t (.map (some b)) (sV k) false).run P w = .ok (.pointer ((dget es k).map fun n => ⟨n, 0, none⟩)) w := by
  have pre : ∀ r, dfnd k es 0 = r → (Instr.lookup t (.map (some b)) (sV k) false).run P w = .ok (match r with | some (_, v) => v | none => .pointer none) w := by
    intro r hr
    unfold Instr.lookup
    rw [Sem.run_bind, run_underlying t1]
    dsimp only [Result.andThen]
    rw [Sem.run_bind, get_mk hh]
    dsimp only [Result.andThen]
    rw [Sem.run_bind, Sem.run_pure]
    dsimp only [Result.andThen]
    rw [Sem.run_bind, check_str t2]
    dsimp only [Result.andThen]
    rw [Sem.run_bind, key_str t2 harr, hr]
    dsimp only [Result.andThen]
    cases r with
    | none =>
      dsimp only
      rw [Sem.run_bind, run_zeroValue' t4]
      rfl
    | some x => rfl
  rcases dfnd_find (k := k) 0 harr with ⟨m1, m2, _⟩ | ⟨j, n, m1, m2, _⟩
  · rw [pre _ m2, m1]; rfl
  · rw [pre _ m2, m1]; rfl
end
section
variable {P : Program} {ops : Array Oper} {env : Env} {σ τ : St} {K : Env → St → Prop} {d : Option Nat} {ty ty' t kt et : TypeId} {pos : String} {af : Array Edge} {x y z : Operand} {b n : Nat} {es : Dir} {k : List UInt8}
theorem s_makeMapN (h : ∀ b, ¬ σ.used b → σ.blk b = none → K (env.put d (mapv b)) (σ.put b (.map []))) (hm : P.underlying t = some (.map kt et)) : aOp P ops ⟨d, .makeMap t none, ty, pos, af, none⟩ env σ K := by
  rw [aOp_none rfl]
  have hvs : ((.makeMap t none : Op).operands.toList.map (ev env)) = [] := by simp [Op.operands]
  show aVal P _ (Op.operands _ |>.toList.map (ev env)) σ _
  rw [hvs]
  refine .inr ⟨rfl, fun ρv hρ w Z hH hV => ?_⟩
  obtain ⟨f1, f2⟩ := hH.fresh
  refine ⟨mapv w.heap.size, _, _, .inl ?_, h _ f1 f2, hH.alloc_map, valid_raw _, Grow.alloc hH _ _⟩
  simp [execOp, Instr.makeMap, run_underlying hm, mapv, newObj, Sem.run, Result.andThen]
theorem s_lookupN (hx : ev env x = mapv b) (hy : ev env y = .raw (sV k)) (hb : σ.blk b = some (.map (ents es))) (t1 : P.underlying t = some (.map kt et)) (t2 : P.underlying kt = some .string) (t4 : zeroA P et = some (.pointer none))
    (h : K (env.put d (.raw (.pointer ((dget es k).map fun n => ⟨n, 0, none⟩)))) σ) : aOp P ops ⟨d, .lookup t x y false, ty, pos, af, none⟩ env σ K := by
  rw [aOp_none rfl]
  have hvs : ((.lookup t x y false : Op).operands.toList.map (ev env)) = [mapv b, .raw (sV k)] := by simp [Op.operands, hx, hy]
  show aVal P _ (Op.operands _ |>.toList.map (ev env)) σ _
  rw [hvs]
  refine .inr ⟨rfl, fun ρv hρ w Z hH hV => ?_⟩
  obtain ⟨_, arr, c, hh, harr, _⟩ := hH.map _ _ hb
  have hρ' := hρ
  simp [Op.operands, mapv] at hρ'
  refine ⟨.raw (.pointer ((dget es k).map fun n => ⟨n, 0, none⟩)), σ, w, .inl ?_, h, hH, valid_raw _, .refl _ _⟩
  simp only [execOp, hρ'.1, hρ'.2]
  rw [Sem.run_bind, run_dget t1 t2 t4 hh harr]
  rfl
theorem s_mapPutN (hx : ev env x = mapv b) (hy : ev env y = .raw (sV k)) (hz : ev env z = ptr n 0) (hb : σ.blk b = some (.map (ents es))) (t1 : P.underlying t = some (.map kt et)) (t2 : P.underlying kt = some .string)
    (h : ∀ τ, τ.blk b = some (.map (ents (dput es k n))) → But (fun c => c = b) σ τ → K (env.put d (.raw undef)) τ) : aOp P ops ⟨d, .mapUpdate t x y z, ty, pos, af, none⟩ env σ K := by
  rw [aOp_none rfl]
  have hvs : ((.mapUpdate t x y z : Op).operands.toList.map (ev env)) = [mapv b, .raw (sV k), ptr n 0] := by simp [Op.operands, hx, hy, hz]
  show aVal P _ (Op.operands _ |>.toList.map (ev env)) σ _
  rw [hvs]
  refine .inr ⟨rfl, fun ρv hρ w Z hH hV => ?_⟩
  obtain ⟨_, arr, c, hh, harr, hfr1, hfr2⟩ := hH.map _ _ hb
  have hρ' := hρ
  simp [Op.operands, mapv, ptr] at hρ'
  obtain ⟨r1, r2, r3⟩ := hρ'
  have fin : ∀ (arr' : Array MapEntry) (c' : Nat), ((∀ n ∈ arr'.toList.map fun e : MapEntry => e.born, n < c') ∧ (arr'.toList.map fun e : MapEntry => e.born).Nodup) → arr'.toList.map (fun e : MapEntry => (e.key, e.val)) = ents (dput es k n) → (Instr.mapUpdate t (.map (some b)) (sV k) (pV n)).run P w = .ok () (setMap w b arr' c') →
      ∃ r σ' w', ((execOp ρv ⟨d, .mapUpdate t x y z, ty, pos, af, none⟩).run P w = .ok (.value r.val) w' ∨ (execOp ρv ⟨d, .mapUpdate t x y z, ty, pos, af, none⟩).run P w = .ok .skip w' ∧ r = .raw undef) ∧ K (env.put d r) σ' ∧ HeapOk w' σ' Z ∧ Valid w' (σ'.free Z) r ∧ Grow w σ w' σ' := by
    intro arr' c' h0 h1 h2
    obtain ⟨q1, q2⟩ := hH.write_map (a' := arr') (c' := c') hb hh h0
    rw [h1] at q1 q2
    refine ⟨.raw undef, _, setMap w b arr' c', .inr ⟨?_, rfl⟩, h _ ?_ ?_, q1, valid_raw _, q2⟩
    · simp [execOp, r1, r2, r3, h2]
    · show (if b = b then _ else σ.blk b) = _
      rw [if_pos rfl]
    · exact ⟨fun c' k' hc hk => by
        show (if c' = b then _ else σ.blk c') = _
        rw [if_neg hc]; exact hk, fun c' hc => hc⟩
  have pre : ∀ r, dfnd k es 0 = r → (Instr.mapUpdate t (.map (some b)) (sV k) (pV n)).run P w = (match r with
      | some (j, _) => do
        let key ← Instr.keyThatStays (((arr[j]?).map (fun e : MapEntry => e.key)).getD (sV k)) (sV k)
        setObj b (.map (arr.modify j fun (e : MapEntry) => { e with key, val := pV n }) c)
      | none => setObj b (.map (arr.push { key := sV k, val := pV n, born := c }) (c + 1))).run P w := by
    intro r hr
    unfold Instr.mapUpdate
    rw [Sem.run_bind, run_underlying t1]
    dsimp only [Result.andThen]
    rw [Sem.run_bind, get_mk hh]
    dsimp only [Result.andThen]
    rw [Sem.run_bind, check_str t2]
    dsimp only [Result.andThen]
    rw [Sem.run_bind, key_str t2 harr, hr]
    dsimp only [Result.andThen]
    cases r <;> rfl
  rcases dfnd_find (k := k) 0 harr with ⟨m1, m2, m3, _⟩ | ⟨j, y', m1, m2, m3, m4, _⟩
  · refine fin (arr.push { key := sV k, val := pV n, born := c }) (c + 1) (born_push hfr1 hfr2) (by rw [m3 n, Array.toList_push, List.map_append, harr]; simp [ents]) ?_
    rw [pre _ m2]
    exact set_mk hh
  · rw [Nat.zero_add] at m2
    refine fin (arr.modify j fun (e : MapEntry) => { e with key := sV k, val := pV n }) c (by rw [born_modify arr j (fun (e : MapEntry) => { e with key := sV k, val := pV n }) fun _ => rfl]; exact ⟨hfr1, hfr2⟩) ?_ ?_
    · rw [Array.toList_modify]
      exact m4 n _ (fun e => rfl)
    · rw [pre _ m2]
      dsimp only
      have hkey : ((arr[j]?).map (fun e : MapEntry => e.key)).getD (sV k) = sV k := by
        rw [Array.getElem?_toList] at m3
        rw [m3]; rfl
      rw [hkey, Sem.run_bind, stays_str]
      exact set_mk hh
end
end Go.Proofs.Ytinpiaibhjmfaaa
