/- Maps from objects to objects; maps from texts to lists; deleting. -/
import Derived.Test.YtinpiaibhjmfaaaDi
namespace Go.Proofs.Ytinpiaibhjmfaaa
open Go.RowKit
set_option linter.unusedSimpArgs false
set_option maxRecDepth 100000
set_option linter.unusedVariables false
def ZeR (es : List (Nat × Nat)) : List (Value × Value) := es.map fun p => (pV p.1, pV p.2)
theorem Ziy : ∀ es, Zht (ZeR es) = 0
 | [] => rfl
 | _ :: _ => rfl
def Zhs : List (Nat × Nat) -> Nat -> Option Nat
 | [], _ => none
 | p :: es, k => if k = p.1 then some p.2 else Zhs es k
def Zqr (k : Nat) : List (Nat × Nat) -> Nat -> Option (Nat × Value)
 | [], _ => none
 | p :: es, i => if k = p.1 then some (i, pV p.2) else Zqr k es (i + 1)
theorem Zkj (k : Nat) : ∀ es i, (Zqr k es i).map (·.2) = (Zhs es k).map pV
 | [], i => rfl
 | p :: es, i => by
  unfold Zqr Zhs
  by_cases h : k = p.1
  ·rw [if_pos h, if_pos h]; rfl
  ·rw [if_neg h, if_neg h]; exact Zkj k es (i + 1)
theorem Zll {k : Nat} : ∀ {es : List (Nat × Nat)}, Zhs es k = none ↔ ∀ p ∈ es, p.1 ≠ k
 | [] => by simp [Zhs]
 | p :: es => by
  unfold Zhs
  by_cases h : k = p.1
  ·rw [if_pos h]
   simp [h]
  ·rw [if_neg h, Zll (es := es)]
   simp only [List.mem_cons, forall_eq_or_imp]
   exact ⟨fun q => ⟨fun e => h e.symm, q⟩, fun q => q.2⟩
theorem Zkk {k n : Nat} : ∀ {es : List (Nat × Nat)}, (es.map (·.1)).Nodup -> (k, n) ∈ es -> Zhs es k = some n
 | p :: es, hn, h => by
  rw [List.map_cons, List.nodup_cons] at hn
  unfold Zhs
  rcases List.mem_cons.1 h with rfl | h
  ·rw [if_pos rfl]
  ·rw [if_neg (fun e => hn.1 (List.mem_map.2 ⟨_, h, e⟩))]
   exact Zkk hn.2 h
section
variable {P : Program}
theorem Zp3 {kt : TypeId} {k m : Nat} {w : World} (ht : P.underlying kt = some (.pointer (P.pointee kt))) (hs : Zax P (P.pointee kt) = some (m + 1)) {ck : Array Value} {tk : TypeId} (hk : w.heap[k]? = some (.cells ck tk (0, 0))) :
 ∀ (es : List (Nat × Nat)) (l : List MapEntry) (i : Nat), l.map (fun e : MapEntry => (e.key, e.val)) = ZeR es -> (∀ p ∈ es, ∃ c t, w.heap[p.1]? = some (.cells c t (0, 0))) -> (Instr.findAsking kt (pV k) l i).run P w = .ok (Zqr k es i) w
 | [], [], i, _, _ => rfl
 | [], e :: l, i, h, _ => by simp [ZeR] at h
 | p :: es, [], i, h, _ => by simp [ZeR] at h
 | p :: es, e :: l, i, h, ho => by
  unfold ZeR at h
  simp only [List.map_cons, List.cons.injEq] at h
  obtain ⟨h1, h2⟩ := h
  injection h1 with h1 h3
  obtain ⟨c, t, hp⟩ := ho p List.mem_cons_self
  unfold Instr.findAsking Zqr
  rw [Sem.run_bind, h1, Zla ht hs w hk hp]
  dsimp only [Result.andThen]
  by_cases hkp : k = p.1
  ·rw [decide_eq_true hkp, if_pos hkp, h3]
   rfl
  ·rw [decide_eq_false hkp, if_neg hkp]
   exact Zp3 ht hs hk es l (i + 1) h2 fun q hq => ho q (List.mem_cons_of_mem _ hq)
theorem Znu {kt : TypeId} {k m : Nat} {w : World} (ht : P.underlying kt = some (.pointer (P.pointee kt))) (hs : Zax P (P.pointee kt) = some (m + 1)) {ck : Array Value} {tk : TypeId} (hk : w.heap[k]? = some (.cells ck tk (0, 0))) {es : List (Nat × Nat)} {l : List MapEntry} (h : l.map (fun e : MapEntry => (e.key, e.val)) = ZeR es) (ho : ∀ p ∈ es, ∃ c t, w.heap[p.1]? = some (.cells c t (0, 0))) : (Instr.findKey kt (pV k) l).run P w = .ok (Zqr k es 0) w := by
 have ha := Zp3 ht hs hk es l 0 h ho
 unfold Instr.findKey
 rw [Sem.run_bind, run_underlying ht]
 dsimp only [Result.andThen]
 cases l with
 | nil =>
  cases es with
  | nil => rfl
  | cons p es => simp [ZeR] at h
 | cons e l =>
  cases es with
  | nil => simp [ZeR] at h
  | cons p es =>
   have hn : Instr.findNow (.pointer (P.pointee kt)) (pV k) (e :: l) 0 = none := by
    unfold Instr.findNow Instr.sameNow
    rfl
   rw [hn]
   exact ha
theorem Zlm {kt : TypeId} {w : World} {k : Nat} (ht : P.underlying kt = some (.pointer (P.pointee kt))) (e : Bool) : (Instr.checkKey e 10000 kt (pV k)).run P w = .ok () w := by
 rw [show (10000 : Nat) = 9999 + 1 from rfl]
 unfold Instr.checkKey
 rw [Sem.run_bind, run_underlying ht]
 rfl
variable {ops : Array Oper} {env : Env} {σ τ : St} {K : Env -> St -> Prop} {d : Option Nat} {ty ty' t kt et : TypeId} {pos : String} {af : Array Edge} {x y z : Operand} {b k n m : Nat} {es : List (Nat × Nat)}
theorem Zln {cs : List AV} {tk : TypeId} (hx : ev env x = Zbv b) (hy : ev env y = ptr k 0) (hb : σ.blk b = some (.map (ZeR es))) (t1 : P.underlying t = some (.map kt et)) (ht : P.underlying kt = some (.pointer (P.pointee kt))) (hs : Zax P (P.pointee kt) = some (m + 1)) (hk : σ.blk k = some (.own tk cs)) (ho : ∀ p ∈ es, ∃ t c, σ.blk p.1 = some (.own t c)) (hg : Zhs es k = some n)
 (h : K (env.put d (ptr n 0)) σ) : aOp P ops ⟨d, .lookup t x y false, ty, pos, af, none⟩ env σ K := by
 rw [ZaH rfl]
 have hvs : ((.lookup t x y false : Op).operands.toList.map (ev env)) = [Zbv b, ptr k 0] := by simp [Op.operands, hx, hy]
 show ZcE P _ (Op.operands _ |>.toList.map (ev env)) σ _
 rw [hvs]
 refine .inr ⟨rfl, fun ρv hρ w Z hH hV => ?_⟩
 obtain ⟨_, arr, c, hh, harr, _⟩ := hH.mapAt hb (Ziy _)
 have hρ' := hρ
 simp [Op.operands, Zbv, ptr] at hρ'
 refine ⟨ptr n 0, σ, w, .inl ?_, h, hH, by unfold Zaf ptr; trivial, .refl _ _⟩
 have hf := Znu (P := P) (w := w) ht hs (hH.own _ _ _ hk).2.1 harr fun p hp => by
  obtain ⟨t, c, q⟩ := ho p hp
  exact ⟨_, _, (hH.own _ _ _ q).2.1⟩
 have hpf : ∃ i, Zqr k es 0 = some (i, pV n) := by
  have := Zkj k es 0
  rw [hg] at this
  cases hq : Zqr k es 0 with
  | none => rw [hq] at this; cases this
  | some r =>
   rw [hq] at this
   obtain ⟨i, v⟩ := r
   injection this with this
   have this : v = pV n := this
   exact ⟨i, by rw [this]⟩
 obtain ⟨i, hpf⟩ := hpf
 rw [hpf] at hf
 simp only [execOp, hρ'.1, hρ'.2]
 rw [Sem.run_bind]
 have hl : (Instr.lookup t (.map (some b)) (pV k) false).run P w = .ok (pV n) w := by
  unfold Instr.lookup
  rw [Sem.run_bind, run_underlying t1]
  dsimp only [Result.andThen]
  rw [Sem.run_bind, Ze3 hh]
  dsimp only [Result.andThen]
  rw [Sem.run_bind, Sem.run_pure]
  dsimp only [Result.andThen]
  rw [Sem.run_bind, Zlm ht]
  dsimp only [Result.andThen]
  rw [Sem.run_bind, hf]
  rfl
 rw [hl]
 rfl
theorem Zp4 {cs : List AV} {tk : TypeId} (hx : ev env x = Zbv b) (hy : ev env y = ptr k 0) (hz : ev env z = ptr n 0) (hb : σ.blk b = some (.map (ZeR es))) (t1 : P.underlying t = some (.map kt et)) (ht : P.underlying kt = some (.pointer (P.pointee kt))) (hs : Zax P (P.pointee kt) = some (m + 1)) (hk : σ.blk k = some (.own tk cs)) (ho : ∀ p ∈ es, ∃ t c, σ.blk p.1 = some (.own t c)) (hg : ∀ p ∈ es, p.1 ≠ k)
 (h : ∀ τ, τ.blk b = some (.map (ZeR (es ++ [(k, n)]))) -> But (fun c => c = b) σ τ -> K (env.put d (.raw undef)) τ) : aOp P ops ⟨d, .mapUpdate t x y z, ty, pos, af, none⟩ env σ K := by
 rw [ZaH rfl]
 have hvs : ((.mapUpdate t x y z : Op).operands.toList.map (ev env)) = [Zbv b, ptr k 0, ptr n 0] := by simp [Op.operands, hx, hy, hz]
 show ZcE P _ (Op.operands _ |>.toList.map (ev env)) σ _
 rw [hvs]
 refine .inr ⟨rfl, fun ρv hρ w Z hH hV => ?_⟩
 obtain ⟨_, arr, c, hh, harr, hfr1, hfr2⟩ := hH.mapAt hb (Ziy _)
 have hρ' := hρ
 simp [Op.operands, Zbv, ptr] at hρ'
 obtain ⟨r1, r2, r3⟩ := hρ'
 have hf := Znu (P := P) (w := w) ht hs (hH.own _ _ _ hk).2.1 harr fun p hp => by
  obtain ⟨t, c, q⟩ := ho p hp
  exact ⟨_, _, (hH.own _ _ _ q).2.1⟩
 have hpf : Zqr k es 0 = none := by
  have := Zkj k es 0
  rw [Zll.2 hg] at this
  cases hq : Zqr k es 0 with
  | none => rfl
  | some r => rw [hq] at this; cases this
 rw [hpf] at hf
 have harr2 : (arr.push { key := pV k, val := pV n, born := c }).toList.map (fun e : MapEntry => (e.key, e.val)) = ZeR (es ++ [(k, n)]) := by
  rw [Array.toList_push, List.map_append, harr]
  simp [ZeR]
 obtain ⟨q1, q2⟩ := hH.write_map (a' := arr.push { key := pV k, val := pV n, born := c }) (c' := c + 1) hb hh (Zgt hfr1 hfr2) (by rw [harr2]; exact Ziy _)
 rw [harr2] at q1 q2
 refine ⟨.raw undef, _, Zcj w b (arr.push { key := pV k, val := pV n, born := c }) (c + 1), .inr ⟨?_, rfl⟩, h _ ?_ ?_, q1, Zak _, q2⟩
 ·have hl : (Instr.mapUpdate t (.map (some b)) (pV k) (pV n)).run P w = .ok () (Zcj w b (arr.push { key := pV k, val := pV n, born := c }) (c + 1)) := by
   unfold Instr.mapUpdate
   rw [Sem.run_bind, run_underlying t1]
   dsimp only [Result.andThen]
   rw [Sem.run_bind, Ze3 hh]
   dsimp only [Result.andThen]
   rw [Sem.run_bind, Zlm ht]
   dsimp only [Result.andThen]
   rw [Sem.run_bind, hf]
   dsimp only [Result.andThen]
   exact Zgv hh
  simp [execOp, r1, r2, r3, hl]
 ·show (if b = b then _ else σ.blk b) = _
  rw [if_pos rfl]
 ·exact ⟨fun c' k' hc hk => by
   show (if c' = b then _ else σ.blk c') = _
   rw [if_neg hc]; exact hk, fun c' hc => hc⟩
theorem Zop {l : List MapEntry} {j c : Nat} (h1 : ∀ n ∈ l.map fun e : MapEntry => e.born, n < c) (h2 : (l.map fun e : MapEntry => e.born).Nodup) : (∀ n ∈ (l.eraseIdx j).map fun e : MapEntry => e.born, n < c) /\ ((l.eraseIdx j).map fun e : MapEntry => e.born).Nodup := by
 have hs : ((l.eraseIdx j).map fun e : MapEntry => e.born).Sublist (l.map fun e : MapEntry => e.born) := (List.eraseIdx_sublist l j).map _
 exact ⟨fun n hn => h1 n (hs.subset hn), hs.nodup h2⟩
theorem Zlo {b : Nat} {es : Dir} {k : List UInt8} (hx : ev env x = Zbv b) (hy : ev env y = .raw (sV k)) (hb : σ.blk b = some (.map (Zei es))) (t1 : P.underlying t = some (.map kt et)) (t2 : P.underlying kt = some .string)
 (h : ∀ τ, τ.blk b = some (.map (Zei (Zpv es k))) -> But (fun c => c = b) σ τ -> K (env.put d (.raw (.tuple #[]))) τ) : aOp P ops ⟨d, .call ⟨.builtin .delete, #[x, y], #[t, ty']⟩, ty, pos, af, none⟩ env σ K := by
 rw [ZaH rfl]
 have hvs : ((.call ⟨.builtin .delete, #[x, y], #[t, ty']⟩ : Op).operands.toList.map (ev env)) = [Zbv b, .raw (sV k)] := by simp [Op.operands, Call.operands, hx, hy]
 show ZcE P _ (Op.operands _ |>.toList.map (ev env)) σ _
 rw [hvs]
 refine .inr ⟨rfl, fun ρv hρ w Z hH hV => ?_⟩
 obtain ⟨_, arr, c, hh, harr, hfr1, hfr2⟩ := hH.mapAt hb (Zds _)
 have hρ' := hρ
 simp [Op.operands, Call.operands, Zbv] at hρ'
 have fin : ∀ (arr' : Array MapEntry), ((∀ n ∈ arr'.toList.map fun e : MapEntry => e.born, n < c) /\ (arr'.toList.map fun e : MapEntry => e.born).Nodup) -> arr'.toList.map (fun e : MapEntry => (e.key, e.val)) = Zei (Zpv es k) -> (Builtin.delete_ #[t, ty'] ty #[.map (some b), sV k]).run P w = .ok (.tuple #[]) (Zcj w b arr' c) ->
  ∃ r σ' w', ((execOp ρv ⟨d, .call ⟨.builtin .delete, #[x, y], #[t, ty']⟩, ty, pos, af, none⟩).run P w = .ok (.value r.val) w' \/ (execOp ρv ⟨d, .call ⟨.builtin .delete, #[x, y], #[t, ty']⟩, ty, pos, af, none⟩).run P w = .ok .skip w' /\ r = .raw undef) /\ K (env.put d r) σ' /\ Zaj w' σ' Z /\ Zaf w' (σ'.free Z) r /\ Grow w σ w' σ' := by
  intro arr' h0 h1 h2
  obtain ⟨q1, q2⟩ := hH.write_map (a' := arr') (c' := c) hb hh h0 (by rw [h1]; exact Zds _)
  rw [h1] at q1 q2
  refine ⟨.raw (.tuple #[]), _, Zcj w b arr' c, .inl ?_, h _ ?_ ?_, q1, Zak _, q2⟩
  ·simp [execOp, resolve, invoke, builtin, hρ', h2]
  ·show (if b = b then _ else σ.blk b) = _
   rw [if_pos rfl]
  ·exact ⟨fun c' k' hc hk => by
    show (if c' = b then _ else σ.blk c') = _
    rw [if_neg hc]; exact hk, fun c' hc => hc⟩
 have pre : ∀ r, Zqo k es 0 = r -> (Builtin.delete_ #[t, ty'] ty #[.map (some b), sV k]).run P w = (match r with
  | some (j, _) => (do setObj b (.map (arr.eraseIdxIfInBounds j) c); pure (.tuple #[]) : Sem Value)
  | none => (do setObj b (.map arr c); pure (.tuple #[]) : Sem Value)).run P w := by
  intro r hr
  unfold Builtin.delete_
  simp only [List.getElem?_toArray, List.getElem?_cons_zero, List.getElem?_cons_succ]
  rw [Sem.run_bind, run_underlying t1]
  dsimp only [Result.andThen]
  rw [Sem.run_bind, Ze3 hh]
  dsimp only [Result.andThen]
  rw [Sem.run_bind, Zfc t2]
  dsimp only [Result.andThen]
  rw [Sem.run_bind, Zl8 t2 harr, hr]
  dsimp only [Result.andThen]
  cases r <;> rfl
 rcases ZgD (k := k) 0 harr with ⟨m1, m2, _, m4⟩ | ⟨j, n, m1, m2, _, _, m5⟩
 ·refine fin arr ⟨hfr1, hfr2⟩ (by rw [harr, m4]) ?_
  rw [pre _ m2, Sem.run_bind, Zgv hh]
  rfl
 ·rw [Nat.zero_add] at m2
  refine fin (arr.eraseIdxIfInBounds j) ?_ ?_ ?_
  ·rw [Array.toList_eraseIdxIfInBounds]
   exact Zop hfr1 hfr2
  ·rw [Array.toList_eraseIdxIfInBounds]
   exact m5
  ·rw [pre _ m2, Sem.run_bind, Zgv hh]
   rfl
end
end Go.Proofs.Ytinpiaibhjmfaaa
