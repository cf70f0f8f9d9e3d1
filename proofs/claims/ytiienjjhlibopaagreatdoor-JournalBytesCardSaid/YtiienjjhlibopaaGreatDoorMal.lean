/- XWy, XPb, XEi, XEj in one. -/
import Derived.Test.YtiienjjhlibopaaGreatDoorMac
import Derived.WalkKit
import Derived.Test.YtiienjjhlibopaaGreatDoorMaj
import Derived.Test.YtiienjjhlibopaaGreatDoorMab
import Derived.Test.YtiienjjhlibopaaGreatDoorMaa
import Derived.Test.YtiienjjhlibopaaGreatDoorFacts
import Derived.Test.YtiienjjhlibopaaGreatDoorMak
namespace Go.Proofs.YtiienjjhlibopaaGreatDoor
open Go.RowKit
set_option linter.unusedSimpArgs false
set_option maxRecDepth 100000
set_option linter.unusedVariables false
theorem Zj1 {P : Program} {t kt et : TypeId} {kd : IntKind} (ht : P.underlying t = some (.map kt et)) (hkt : P.underlying kt = some (.int kd)) {w : World} {r c : Nat} {es : Array MapEntry} {n : Int} {v : Value}
 (hb : w.heap[r]? = some (.map es c)) (hf : Instr.findNow (.int kd) (.int kd n) es.toList 0 = some none) :
 (Instr.mapUpdate t (.map (some r)) (.int kd n) v).run P w = .ok () { w with heap := w.heap.setIfInBounds r (.map (es.push { key := .int kd n, val := v, born := c }) (c + 1)) } := by
 have ho : (getObj r).run P w = .ok (.map es c) w := by simp [getObj, Sem.run, hb]
 have hs : ∀ o, (setObj r o).run P w = .ok () { w with heap := w.heap.setIfInBounds r o } := fun o => by simp [setObj, Sem.run, hb]
 have hck : (Instr.checkKey false 10000 kt (.int kd n)).run P w = .ok () w := by
  rw [show (10000 : Nat) = 9999 + 1 from rfl]
  unfold Instr.checkKey
  rw [Sem.run_bind, run_underlying hkt]
  rfl
 have hfk : (Instr.findKey kt (.int kd n) es.toList).run P w = .ok none w := by
  unfold Instr.findKey
  rw [Sem.run_bind, run_underlying hkt]
  dsimp only [Result.andThen]
  rw [hf]
  rfl
 unfold Instr.mapUpdate
 rw [Sem.run_bind, run_underlying ht]
 dsimp only [Result.andThen]
 rw [Sem.run_bind, ho]
 dsimp only [Result.andThen]
 rw [Sem.run_bind, hck]
 dsimp only [Result.andThen]
 rw [Sem.run_bind, hfk]
 dsimp only [Result.andThen]
 rw [hs]
section
variable {T : Nat -> Type} {C : ZbD T} {P : Program}
end
abbrev ZoI := List (Int × Value)
def ZlM (es : ZoI) : List (Value × Value) := es.map fun p => (Value.int .i64 p.1, p.2)
theorem Ziu : ∀ es : ZoI, ZlN (ZlM es) = 0
 | [] => rfl
 | _ :: _ => rfl
def Zpi (k : Int) : ZoI -> Nat -> Option (Nat × Value)
 | [], _ => none
 | p :: es, i => if k = p.1 then some (i, p.2) else Zpi k es (i + 1)
theorem ZkW (k : Int) : ∀ (es : ZoI) (i : Nat), (Zpi k es i).map (·.2) = lkp es k
 | [], i => rfl
 | p :: es, i => by
  unfold Zpi lkp
  by_cases hp : k = p.1
  ·rw [if_pos hp, decide_eq_true hp]; rfl
  ·rw [if_neg hp, decide_eq_false hp]; exact ZkW k es (i + 1)
theorem Zjo {k : Int} : ∀ {es : ZoI} (i : Nat), (∀ p ∈ es, p.1 ≠ k) -> Zpi k es i = none
 | [], i, _ => rfl
 | p :: es, i, h => by
  unfold Zpi
  rw [if_neg (fun q => h p (List.mem_cons_self ..) q.symm)]
  exact Zjo (i + 1) fun q hq => h q (List.mem_cons_of_mem _ hq)
theorem Ziv {k : Int} : ∀ {es : ZoI} {l : List MapEntry} (i : Nat), l.map (fun e : MapEntry => (e.key, e.val)) = ZlM es -> Instr.findNow (.int .i64) (.int .i64 k) l i = some (Zpi k es i)
 | [], [], i, _ => rfl
 | [], e :: l, i, h => by simp [ZlM] at h
 | p :: es, [], i, h => by simp [ZlM] at h
 | p :: es, e :: l, i, h => by
  unfold ZlM at h
  simp only [List.map_cons, List.cons.injEq] at h
  obtain ⟨h1, h2⟩ := h
  injection h1 with h1 h3
  unfold Zpi Instr.findNow
  rw [h1, show Instr.sameNow (.int .i64) (.int .i64 k) (.int .i64 p.1) = some (k == p.1) from by simp [Instr.sameNow]]
  by_cases hp : k = p.1
  ·rw [if_pos hp, show (k == p.1) = true from by simpa using hp, h3]
  ·rw [if_neg hp, show (k == p.1) = false from by simpa using hp]
   exact Ziv (i + 1) h2
section
variable {P : Program} {ops : Array Oper} {env : Env} {σ τ : St} {K : Env -> St -> Prop} {d : Option Nat} {ty ty' t kt et : TypeId} {pos : String} {af : Array Edge} {x y z : Operand} {b : Nat} {es : ZoI} {k : Int} {v zv : Value}
theorem Zcy (hx : ev env x = Zef b) (hy : ev env y = .raw (.int .i64 k)) (hz : ev env z = .raw v) (hb : σ.blk b = some (.map (ZlM es))) (t1 : P.underlying t = some (.map kt et)) (t2 : P.underlying kt = some (.int .i64)) (hn : ∀ p ∈ es, p.1 ≠ k)
 (h : ∀ τ, τ.blk b = some (.map (ZlM (es ++ [(k, v)]))) -> But (fun c => c = b) σ τ -> K (env.put d (.raw undef)) τ) : aOp P ops ⟨d, .insert t x y z, ty, pos, af, none⟩ env σ K := by
 rw [ZaT rfl]
 have hvs : ((.insert t x y z : Op).operands.toList.map (ev env)) = [Zef b, .raw (.int .i64 k), .raw v] := by simp [Op.operands, hx, hy, hz]
 show Zc6 P _ (Op.operands _ |>.toList.map (ev env)) σ _
 rw [hvs]
 refine .inr ⟨rfl, fun ρv hρ w Z hH hV => ?_⟩
 obtain ⟨_, arr, c, hh, harr, hfr1, hfr2⟩ := hH.mapAt hb (Ziu _)
 have hρ' := hρ
 simp [Op.operands, Zef] at hρ'
 obtain ⟨r1, r2, r3⟩ := hρ'
 have harr2 : (arr.push { key := .int .i64 k, val := v, born := c }).toList.map (fun e : MapEntry => (e.key, e.val)) = ZlM (es ++ [(k, v)]) := by
  rw [Array.toList_push, List.map_append, harr]
  simp [ZlM]
 obtain ⟨q1, q2⟩ := hH.write_map (a' := arr.push { key := .int .i64 k, val := v, born := c }) (c' := c + 1) hb hh (ZiV hfr1 hfr2) (by rw [harr2]; exact Ziu _)
 rw [harr2] at q1 q2
 refine ⟨.raw undef, _, Zc7 w b (arr.push { key := .int .i64 k, val := v, born := c }) (c + 1), .inr ⟨?_, rfl⟩, h _ ?_ ?_, q1, Zbe _, q2⟩
 ·have hl := Zj1 (P := P) (v := v) t1 t2 hh (by rw [Ziv 0 harr, Zjo 0 hn])
  simp [execOp, r1, r2, r3, hl, Zc7]
 ·show (if b = b then _ else σ.blk b) = _
  rw [if_pos rfl]
 ·exact ⟨fun c' k' hc hk => by
   show (if c' = b then _ else σ.blk c') = _
   rw [if_neg hc]; exact hk, fun c' hc => hc⟩
theorem Znf (hx : ev env x = Zef b) (hy : ev env y = .raw (.int .i64 k)) (hb : σ.blk b = some (.map (ZlM es))) (t1 : P.underlying t = some (.map kt et)) (t2 : P.underlying kt = some (.int .i64)) (t4 : Zba P et = some zv)
 (h : K (env.put d (.raw ((lkp es k).getD zv))) σ) : aOp P ops ⟨d, .lookup t x y false, ty, pos, af, none⟩ env σ K := by
 rw [ZaT rfl]
 have hvs : ((.lookup t x y false : Op).operands.toList.map (ev env)) = [Zef b, .raw (.int .i64 k)] := by simp [Op.operands, hx, hy]
 show Zc6 P _ (Op.operands _ |>.toList.map (ev env)) σ _
 rw [hvs]
 refine .inr ⟨rfl, fun ρv hρ w Z hH hV => ?_⟩
 obtain ⟨_, arr, c, hh, harr, _⟩ := hH.mapAt hb (Ziu _)
 have hρ' := hρ
 simp [Op.operands, Zef] at hρ'
 refine ⟨.raw ((lkp es k).getD zv), σ, w, .inl ?_, h, hH, Zbe _, .refl _ _⟩
 obtain ⟨r, hr⟩ : ∃ r, Zpi k es 0 = r := ⟨_, rfl⟩
 have hq : Instr.findNow (.int .i64) (.int .i64 k) arr.toList 0 = some r := by rw [Ziv (k := k) 0 harr, hr]
 have he : (lkp es k).getD zv = (r.map (·.2)).getD zv := by rw [<- ZkW k es 0, hr]
 rw [he]
 simp only [execOp, hρ'.1, hρ'.2]
 cases r with
 | none => rw [Sem.run_bind, ZgS (comma := false) t1 t2 t4 hh hq]; rfl
 | some q => rw [Sem.run_bind, ZgS (comma := false) t1 t2 t4 hh hq]; rfl
theorem Zqo (hm : P.underlying t = some (.map kt et)) (h : ∀ b τ, σ.blk b = none -> ¬ σ.used b -> τ.blk b = some (.map (ZlM [])) -> τ.used b -> Ext σ τ -> K (env.put d (Zef b)) τ) : aOp P ops ⟨d, .makeMap t none, ty, pos, af, none⟩ env σ K :=
 ZhJ (fun b hu hn => h b _ hn hu (Zbo _ _ _) (.inr rfl) (Ext.put _ hn)) hm
theorem Ziw {a c : Value} {r : Bool} (hg : ∀ w x y, (eqGuard .neq t x y a c).run P w = .ok () w) (hb : ∀ w, (binOp .neq t a c).run P w = .ok (.bool (!r)) w) (w : World) (x y : Operand) : (do eqGuard .neq t x y a c; binOp .neq t a c : Sem Value).run P w = .ok (.bool (!r)) w := by
 rw [Sem.run_bind, hg]
 exact hb w
theorem ZgC {a c : Value} {r : Bool} (he : ∀ w, (Op.equalIn (9999 + 1) t a c).run P w = .ok r w) (hb : binOp .neq t a c = (do pure (.bool (!(<- Op.equal t a c))))) (w : World) : (binOp .neq t a c).run P w = .ok (.bool (!r)) w := by
 rw [hb, Sem.run_bind, show (Op.equal t a c).run P w = .ok r w from he w]
 rfl
theorem Zng {fv : Fn} {a c : Array Value} {ps rs : Array TypeId} {vr : Bool} (ht : P.underlying t = some (.func ps rs vr)) (hx : ev env x = .raw (.func fv a c)) (hy : ev env y = .raw .nilFunc) (h : K (env.put d (.raw (.bool true))) σ) : aOp P ops ⟨d, .binOp .neq t x y ty', ty, pos, af, none⟩ env σ K :=
 ZcP hx hy (Ziw (r := false) (fun w x y => rfl) (ZgC (fun w => by unfold Op.equalIn; rw [Sem.run_bind, run_underlying ht]; rfl) rfl)) h
theorem ZoJ {ps rs : Array TypeId} {vr : Bool} (ht : P.underlying t = some (.func ps rs vr)) (hx : ev env x = .raw .nilFunc) (hy : ev env y = .raw .nilFunc) (h : K (env.put d (.raw (.bool false))) σ) : aOp P ops ⟨d, .binOp .neq t x y ty', ty, pos, af, none⟩ env σ K :=
 ZcP hx hy (Ziw (r := true) (fun w x y => rfl) (ZgC (fun w => by unfold Op.equalIn; rw [Sem.run_bind, run_underlying ht]; rfl) rfl)) h
theorem Zqp {u : TypeId} {ms : Array (String × TypeId)} (ht : P.underlying t = some (.interface ms)) (hx : ev env x = .raw (.iface u v)) (hy : ev env y = .raw .nilIface) (h : K (env.put d (.raw (.bool true))) σ) : aOp P ops ⟨d, .binOp .neq t x y ty', ty, pos, af, none⟩ env σ K :=
 ZcP hx hy (Ziw (r := false) (fun w x y => rfl) (ZgC (fun w => by unfold Op.equalIn; rw [Sem.run_bind, run_underlying ht]; rfl) rfl)) h
theorem ZoK (ht : P.underlying t = some (.interface #[])) (hx : ev env x = .raw .nilIface) (hy : ev env y = .raw .nilIface) (h : K (env.put d (.raw (.bool false))) σ) : aOp P ops ⟨d, .binOp .neq t x y ty', ty, pos, af, none⟩ env σ K :=
 ZcP hx hy (Ziw (r := true) (fun w x y => by
  have key : ∀ q : Bool, (if q then (pure () : Sem Unit) else do if <- Op.eqGuardIn (9999 + 1) t .nilIface .nilIface then unsupported (.noEntry "binop/eql: two nil values of an interface type with methods, neither of them the literal nil")).run P w = .ok () w := fun q => by
   cases q with
   | true => rfl
   | false =>
    unfold Op.eqGuardIn
    rw [if_neg (by simp), Sem.run_bind, Sem.run_bind, run_underlying ht]
    rfl
  exact key _) (ZgC (fun w => by unfold Op.equalIn; rw [Sem.run_bind, run_underlying ht]; rfl) rfl)) h
theorem Znh {u : TypeId} {k : IntKind} (ht : P.underlying u = some (.int k)) (hx : ev env x = .raw (.iface u v)) (h : K (env.put d (.raw (.tuple #[v, .bool true]))) σ) : aOp P ops ⟨d, .typeAssert x t u true, ty, pos, af, none⟩ env σ K := by
 refine Zdu (vs := [.raw (.iface u v)]) rfl (by simp [Op.operands, hx]) (fun _ _ h => .inl h) (fun ρ hρ w _ _ => ?_) h
 simp [Op.operands] at hρ
 simp [execOp, hρ, Instr.typeAssert, run_underlying ht]
theorem ZhX {n : Nat} {vs : Array Value} {r : Value} (hx : ev env x = .raw (.tuple vs)) (hr : vs[n]? = some r) (h : K (env.put d (.raw r)) σ) : aOp P ops ⟨d, .extract x n, ty, pos, af, none⟩ env σ K := by
 refine Zdu (vs := [.raw (.tuple vs)]) rfl (by simp [Op.operands, hx]) (fun _ _ h => .inl h) (fun ρ hρ w _ _ => ?_) h
 simp [Op.operands] at hρ
 simp [execOp, hρ, Instr.extract, hr]
end
def ZfE (P : Program) (f : FuncId) (args : List AV) (u : FrameMode) (σ : St) (Q : FrameMode -> St -> Prop) : Prop :=
 ∀ w Z, ZaG w σ Z -> (∀ a ∈ args, Zar w (σ.free Z) a) -> CallsD P f (args.map AV.val).toArray u w fun e u' w' => ∃ v σ', e = .returned v /\ Q u' σ' /\ ZaG w' σ' Z /\ Grow w σ w' σ'
section
variable {P : Program} {σ τ : St} {c c0 : Code} {args vs : List AV} {f g : FuncId} {fn : Func}
def Ztg (u : FrameMode) (v : Value) (u' : FrameMode) : Prop := (u = .returning /\ v = .nilIface /\ u' = .returning) \/ ∃ older, u = .panicking ({ v := v, recovered := false } :: older) /\ u' = .panicking ({ v := v, recovered := true } :: older)
theorem ZkX {d1 d2 id : Nat} {ty1 ty2 : TypeId} {p1 p2 : String} {a1 a2 : Array Edge} {u u' : FrameMode} {v : Value} {Q : FrameMode -> St -> Prop} (hm : P.follows .mixedOrders = true) (hf : P.funcs[f]? = some fn)
 (hb : fn.body = some (.seq (.region id #[⟨some d1, .call ⟨.builtin .recover, #[], #[]⟩, ty1, p1, a1, none⟩, ⟨some d2, .assign (.tmp d1), ty2, p2, a2, none⟩] false) c)) (hr : fn.results = #[]) (hok : ZcB fn.ntmps c = true) (h1 : d1 < fn.ntmps) (h2 : d2 < fn.ntmps) (hn : args.length <= fn.ntmps)
 (hu : Ztg u v u') (h : ZaA P σ.used c (fun e _ τ => match e with | .normal | .ret => Q u' τ | _ => False) (((ZiP args).put (some d1) (.raw v)).put (some d2) (.raw v)) σ) : ZfE P f args u σ Q := by
 intro w Z hH hV
 refine callsD_of_wpS hf hb fun c₀ cs hc => ?_
 have hI1 := (Znc hn hH hV).put (d := some d1) (r := .raw v) (fun t q => by injection q with q; omega) hH (Grow.refl _ _) (Zbe _)
 have hI := hI1.put (d := some d2) (r := .raw v) (fun t q => by injection q with q; omega) hH (Grow.refl _ _) (Zbe _)
 have key : ∀ a : Act, ZdI [] fn.ntmps w σ Z (((ZiP args).put (some d1) (.raw v)).put (some d2) (.raw v)) a -> c.wpS P (bodyPostS P fn c₀ cs fun e u' w' => ∃ v σ', e = .returned v /\ Q u' σ' /\ ZaG w' σ' Z /\ Grow w σ w' σ') a ({ c₀ with mode := u' } :: cs) w := by
  intro a hI
  refine wpS_of_wp (wp_mono (Zbx hm c _ _ σ a w hok hI h) ?_)
  rintro e a' w' ⟨env', σ', q1, q2, q3⟩
  have fin : Q u' σ' -> bodyPostS P fn c₀ cs (fun e u' w' => ∃ v σ', e = .returned v /\ Q u' σ' /\ ZaG w' σ' Z /\ Grow w σ w' σ') .normal a' ({ c₀ with mode := u' } :: cs) w' := fun q => ⟨q2.defers, u', rfl, .tuple #[], by simp [results, hr], _, σ', rfl, q, q2.heap, q3.full hH⟩
  cases e with
  | normal => exact fin q1
  | ret => exact fin q1
  | _ => exact q1.elim
 apply wpS_seq
 apply wpS_region
 have hx : ∀ w, (execOp (({ tmps := (args.map AV.val).toArray ++ Array.replicate (fn.ntmps - (args.map AV.val).toArray.size) undef, defers := [] } : Act).eval) ⟨some d1, .call ⟨.builtin .recover, #[], #[]⟩, ty1, p1, a1, none⟩).run P w = .ok .recover w := fun w => by simp [execOp, resolve, invoke, builtin]
 have hx2 := fun (a : Act) (w : World) => (show (execOp a.eval ⟨some d2, .assign (.tmp d1), ty2, p2, a2, none⟩).run P w = .ok (.value (a.eval (.tmp d1))) w from by simp [execOp])
 have he1 := (hI1.eval (.tmp d1)).1
 have he2 : (ev ((ZiP args).put (some d1) (.raw v)) (.tmp d1)).val = v := by simp [ev, Env.put]
 rw [he2] at he1
 simp only [AV.val_raw] at he1 hI
 show wpOpsS P _ _ [0, 1] _ _ _
 simp only [wpOpsS, List.getElem?_toArray, List.getElem?_cons_zero, List.getElem?_cons_succ, hx, hx2, Region.wanted, if_true]
 rcases hu with ⟨rfl, rfl, rfl⟩ | ⟨older, rfl, rfl⟩
 ·have hrec : recoverD (c₀ :: cs) = none := by simp [recoverD, hc]
  have hcc : ({ c₀ with mode := .returning } : Frame) = c₀ := by rw [<- hc]
  have := key _ hI
  rw [hcc] at this
  simp only [hrec, Oper.upon]
  rw [he1]
  exact this
 ·have hrec : recoverD (c₀ :: cs) = some (v, { c₀ with mode := .panicking ({ v := v, recovered := true } :: older) } :: cs) := by simp [recoverD, hc]
  have := key _ hI
  simp only [hrec, Oper.upon]
  rw [he1]
  exact this
def ZrH (P : Program) (g : FuncId) (fn : Func) (vs : List Value) (K : AV -> St -> Prop) : Zdn
 | .normal, env, τ | .ret, env, τ => ZfE P g (vs.map .raw) .returning τ fun u τ2 => settle u = .returning /\ ∃ r, ZaM P fn env τ2 r /\ K r τ2
 | .panic ch, env, τ => ZfE P g (vs.map .raw) (.panicking ch) τ fun u τ2 => settle u = .returning /\ ∃ r, ZaM P fn env τ2 r /\ K r τ2
 | _, _, _ => False
theorem Zey {d1 id : Nat} {ty1 ty2 : TypeId} {p1 p2 : String} {a1 a2 : Array Edge} {caps : Array Operand} {K : AV -> St -> Prop} (hm : P.follows .mixedOrders = true) (hf : P.funcs[f]? = some fn)
 (hb : fn.body = some (.seq c0 (.seq (.region id #[⟨some d1, .makeFunc (.func g) #[] caps, ty1, p1, a1, none⟩, ⟨none, .defer ⟨.value (.tmp d1), #[], #[]⟩, ty2, p2, a2, none⟩] false) c))) (hname : (fn.name != "runtime.NumGoroutine") = true)
 (hok0 : ZcB fn.ntmps c0 = true) (hok : ZcB fn.ntmps c = true) (h1 : d1 < fn.ntmps) (hn : args.length <= fn.ntmps) (hg : ZbX P g = true)
 (h : ZaA P σ.used c0 (fun e env τ => match e with
  | .normal => ∃ vs : List Value, caps.toList.map (ev env) = vs.map .raw /\ ZaA P σ.used c (ZrH P g fn vs K) (env.put (some d1) (.raw (.func (.func g) #[] vs.toArray))) τ
  | _ => False) (ZiP args) σ) : Zan P f args σ K := by
 intro w Z hH hV
 refine .inl ⟨by unfold ZbX; rw [hf]; simp [hb]; simpa using hname, ?_⟩
 refine calls_of_wp_defers hf hb ?_
 refine wp_seq (wp_mono (Zbx hm c0 _ (ZiP args) σ _ w hok0 (Znc hn hH hV) h) ?_)
 rintro e a w1 ⟨env, τ, q1, hI, hG⟩
 cases e with
 | normal =>
  obtain ⟨vs, hv, hc⟩ := q1
  have hmap : caps.map a.eval = vs.toArray := by
   apply Array.ext'
   rw [Array.toList_map, List.map_congr_left (fun x _ => (hI.eval x).1)]
   rw [show (fun x => (ev env x).val) = AV.val ∘ ev env from rfl, <- List.map_map, hv, List.map_map]
   simp [Function.comp_def]
  have hx1 : (execOp a.eval ⟨some d1, .makeFunc (.func g) #[] caps, ty1, p1, a1, none⟩).run P w1 = .ok (.value (.func (.func g) #[] vs.toArray)) w1 := by
   simp [execOp, Instr.makeFunc, hmap]
  have hI1 := hI.put (d := some d1) (r := .raw (.func (.func g) #[] vs.toArray)) (fun t q => by injection q with q; omega) hI.heap (Grow.refl _ _) (Zbe _)
  have he1 := (hI1.eval (.tmp d1)).1
  rw [show (ev (env.put (some d1) (.raw (.func (.func g) #[] vs.toArray))) (.tmp d1)).val = .func (.func g) #[] vs.toArray from by simp [ev, Env.put]] at he1
  simp only [AV.val_raw] at he1 hI1
  have hx2 : (execOp (a.put (some d1) (.func (.func g) #[] vs.toArray)).eval ⟨none, .defer ⟨.value (.tmp d1), #[], #[]⟩, ty2, p2, a2, none⟩).run P w1 = .ok (.defer { target := .fn (.func g) vs.toArray, args := #[] }) w1 := by
   simp [execOp, resolve, he1, Deferred.ofValue]
  refine wp_seq (wp_region_list ?_)
  have hd : hI.defers = hI.defers := rfl
  have hI2 : ZdI [{ target := .fn (.func g) vs.toArray, args := #[] }] fn.ntmps w1 τ Z (env.put (some d1) (.raw (.func (.func g) #[] vs.toArray))) { (a.put (some d1) (.func (.func g) #[] vs.toArray)) with defers := { target := .fn (.func g) vs.toArray, args := #[] } :: (a.put (some d1) (.func (.func g) #[] vs.toArray)).defers } := ⟨hI1.heap, by show _ :: (a.put _ _).defers = _; rw [hI1.defers], hI1.size, hI1.val, hI1.valid⟩
  have main : c.wp P (bodyPostD P fn fun e w' => ∃ r σ', e = .returned r.val /\ K r σ' /\ ZaG w' σ' Z /\ Zar w' (σ'.free Z) r /\ Grow w σ w' σ') { (a.put (some d1) (.func (.func g) #[] vs.toArray)) with defers := { target := .fn (.func g) vs.toArray, args := #[] } :: (a.put (some d1) (.func (.func g) #[] vs.toArray)).defers } w1 := by
   refine wp_mono (Zbx hm c _ _ τ _ w1 hok hI2 hc) ?_
   rintro e a' w' ⟨env', τ', q1, q2, q3⟩
   have fin : ∀ u, u ≠ .run -> ZfE P g (vs.map .raw) u τ' (fun u τ2 => settle u = .returning /\ ∃ r, ZaM P fn env' τ2 r /\ K r τ2) -> Leaves P fn a'.tmps (fun e w' => ∃ r σ', e = .returned r.val /\ K r σ' /\ ZaG w' σ' Z /\ Zar w' (σ'.free Z) r /\ Grow w σ w' σ') a'.defers u w' := by
    intro u hu hS
    rw [q2.defers]
    have hi : (invoke (.fn (.func g) vs.toArray) #[]).run P w' = .ok (.enter g vs.toArray) w' := by
     unfold ZbX at hg
     cases hfn : P.funcs[g]? with
     | none => rw [hfn] at hg; cases hg
     | some fn =>
      rw [hfn] at hg
      simp only [Bool.and_eq_true, bne_iff_ne, ne_eq] at hg
      obtain ⟨hb, hn⟩ := hg
      have hb' : fn.body ≠ none := by
       intro h
       rw [h] at hb; cases hb
      simp [invoke, callFunc, hfn, hn, hb']
    refine leaves_cons hu hi ?_
    have hS := hS w' Z q2.heap (fun a ha => by obtain ⟨x, _, rfl⟩ := List.mem_map.1 ha; exact Zbe _)
    rw [List.map_map, show (vs.map (AV.val ∘ AV.raw)) = vs from by simp [Function.comp_def]] at hS
    refine hS.mono ?_
    rintro e u' w'' ⟨v, τ2, rfl, ⟨hs, r, hr, hK⟩, hH2, hG2⟩
    show Leaves P fn a'.tmps _ [] (settle u') w''
    rw [hs]
    have hI3 : ZdI [] fn.ntmps w'' τ2 Z env' { tmps := a'.tmps, defers := [] } := ⟨hH2, rfl, q2.size, q2.val, fun i => hG2.valid (q2.valid i)⟩
    obtain ⟨g3, g4⟩ := ZgO hI3 hr
    exact ⟨_, g3, r, τ2, rfl, hK, hH2, g4, ((hG.trans q3).full hH).trans hG2⟩
   cases e with
   | normal => exact fin _ (by simp) q1
   | ret => exact fin _ (by simp) q1
   | panic ch => exact fin _ (by simp) q1
   | _ => exact q1.elim
  show wpList P _ _ [_, _] a w1
  simp only [wpList, Region.wanted, if_true]
  refine .inl ?_
  unfold Oper.wp
  rw [hx1]
  simp only [Oper.upon]
  refine .inl ?_
  rw [hx2]
  exact main
 | _ => exact q1.elim
end
theorem Zqq : ZbE Tryz.prog 77 = some [(0, 1), (1, 1), (2, 6), (8, 1)] := by kernel_rfl
theorem Zni : Zba Tryz.prog 4 = some (.bool false) := by kernel_rfl
section
variable {σ : St} {K : AV -> St -> Prop}
theorem Zj2 : Program.underlying Tryz.prog 197 = some (.func #[50] #[77] false) := by kernel_rfl
theorem Zcm : Program.underlying Tryz.prog 198 = some (.map 3 197) := by kernel_rfl
theorem Zpj : Program.underlying Tryz.prog 20 = some (.interface #[]) := by kernel_rfl
theorem ZrI : Program.underlying Tryz.prog 40 = some (.int .i64) := by kernel_rfl
theorem Zix : Zba Tryz.prog 197 = some .nilFunc := by kernel_rfl
abbrev Zgk (g : Nat) (cs : List AV) : Value := .func (.func g) (([.agg cs] : List AV).map AV.val).toArray (([] : List AV).map AV.val).toArray
def Zj3 (cs : List AV) : ZoI := [(1, Zgk 126 cs), (2, Zgk 127 cs), (3, Zgk 128 cs)]
theorem Zf3 {P : Program} {ops : Array Oper} {env : Env} {σ : St} {K : Env -> St -> Prop} {d : Option Nat} {ty t kt et : TypeId} {pos : String} {af : Array Edge} {x y : Operand} {b : Nat} {es : ZoI} {k : Int} {zv r : Value} (hx : ev env x = Zef b) (hy : ev env y = .raw (.int .i64 k)) (hb : σ.blk b = some (.map (ZlM es))) (t1 : P.underlying t = some (.map kt et)) (t2 : P.underlying kt = some (.int .i64)) (t4 : Zba P et = some zv) (hr : (lkp es k).getD zv = r)
 (h : K (env.put d (.raw r)) σ) : aOp P ops ⟨d, .lookup t x y false, ty, pos, af, none⟩ env σ K := Znf hx hy hb t1 t2 t4 (by rw [hr]; exact h)
def ZoL (f : FuncId) (cs : List AV) (p : AV) : List AV := (([.agg cs] : List AV).map AV.val).toArray.toList.map .raw ++ [p] ++ (([] : List AV).map AV.val).toArray.toList.map .raw
theorem Zhl {f : FuncId} {cs : List AV} {T : TypeId} {b : Nat} {p : AV} (hb : σ.blk b = some (.own T cs)) (w : World) (Z : Nat -> Prop) (hH : ZaG w σ Z) (hV : ∀ a ∈ (ZoL f cs p), Zar w (σ.free Z) a) : ∀ a ∈ [.agg cs, p], Zar w (σ.free Z) a := by
 intro a ha
 rcases List.mem_cons.1 ha with rfl | ha
 ·unfold Zar
  exact ZaY.iff.2 (hH.own _ _ _ hb).2.2
 ·rw [List.mem_singleton.1 ha]
  exact hV p (by unfold ZoL; simp)
theorem Zj4 {P : Program} {f : FuncId} {cs : List AV} {T : TypeId} {b : Nat} {p : AV} (hb : σ.blk b = some (.own T cs)) (h : Zan P f [.agg cs, p] σ K) : Zan P f (ZoL f cs p) σ K :=
 Zmf (args' := [.agg cs, p]) (by simp [ZoL]) (Zhl hb) h
theorem Zjp {P : Program} {Kp : List PanicEntry -> St -> Prop} {f : FuncId} {cs : List AV} {T : TypeId} {b : Nat} {p : AV} (hb : σ.blk b = some (.own T cs)) (h : ZdD P f [.agg cs, p] σ Kp) : ZdD P f (ZoL f cs p) σ Kp := by
 intro w Z hH hV
 have := h w Z hH (Zhl hb w Z hH hV)
 rw [show (ZoL f cs p).map AV.val = [.agg cs, p].map AV.val from by simp [ZoL]]
 exact this
section
variable {Q : FrameMode -> St -> Prop}
theorem Znj {b4 b5 : Nat} (hQ : Q .returning σ) : ZfE Tryz.prog 125 [ptr b4 0, ptr b5 0] .returning σ Q := by
 refine ZkX (v := .nilIface) (u' := .returning) Zam Tryz.func125 rfl rfl rfl (Nat.le_of_ble_eq_true rfl) (Nat.le_of_ble_eq_true rfl) (Nat.le_of_ble_eq_true rfl) (.inl ⟨rfl, rfl, rfl⟩) ?_
 refine Zhx 0 1 2 (v0 := ptr b4 0) (v1 := ptr b5 0) (v2 := .raw .nilIface) rfl rfl rfl ?_
 intro e he
 refine Zaa (Zag ?_)
 refine Zac (ZoK Zpj rfl rfl ?_)
 refine Zaf (kp4 0 1 2 7 fun e he => ?_)
 refine ZaQ (t := false) he.2.2.2 (fun ht => by cases ht) (fun ht => ?_)
 refine Zbm ?_
 exact hQ
theorem ZkY {b4 b5 : Nat} {x0 x1 x2 x3 x4 x5 x6 x7 x8 y : AV} (h4 : σ.blk b4 = some (.own 77 [x0, x1, x2, x3, x4, x5, x6, x7, x8])) (h5 : σ.blk b5 = some (.own 4 [y])) (hne : b4 ≠ b5) (hQ : ∀ τ, τ.blk b4 = some (.own 77 [vI 0, vI 0, vI 0, vI 0, .lst none 0 0 [], .lst none 0 0 [], .lst none 0 0 [], .lst none 0 0 [], .lst none 0 0 []]) -> τ.blk b5 = some (.own 4 [vT false]) -> But (fun c => c = b4 \/ c = b5) σ τ -> Q (.panicking [{ v := ZsB, recovered := true }]) τ) : ZfE Tryz.prog 125 [ptr b4 0, ptr b5 0] (.panicking Znd) σ Q := by
 refine ZkX (v := (.iface 40 (.int .i64 2))) (u' := (.panicking [{ v := ZsB, recovered := true }])) Zam Tryz.func125 rfl rfl rfl (Nat.le_of_ble_eq_true rfl) (Nat.le_of_ble_eq_true rfl) (Nat.le_of_ble_eq_true rfl) (.inr ⟨[], rfl, rfl⟩) ?_
 refine Zhx 0 1 2 (v0 := ptr b4 0) (v1 := ptr b5 0) (v2 := .raw (.iface 40 (.int .i64 2))) rfl rfl rfl ?_
 intro e he
 refine Zaa (Zag ?_)
 refine Zac (Zqp Zpj rfl rfl ?_)
 refine Zaf (kp4 0 1 2 7 fun e he => ?_)
 refine ZaQ (t := true) he.2.2.2 (fun ht => ?_) (fun ht => by cases ht)
 refine Zab (Zaa (Zag ?_))
 refine Zac (Znh (v := .int .i64 2) ZrI rfl ?_)
 refine Zag ?_
 refine Zac (ZhX (vs := #[.int .i64 2, .bool true]) (r := .int .i64 2) rfl rfl ?_)
 refine Zac (ZhX (vs := #[.int .i64 2, .bool true]) (r := .bool true) rfl rfl ?_)
 refine Zag ?_
 refine Zag ?_
 refine Zaf (kp4 0 1 2 4 fun e he => ?_)
 refine Zab (Zaa (Zag ?_))
 refine ZcU ?_
 refine Zaf (kp4 0 1 2 14 fun e he => ?_)
 refine ZaC (t := false) he.2.2.2 (fun ht => by cases ht) (fun ht => ?_)
 refine ZaL (Zad (Zac (Zbj (vs := []) (cells := [vI 0, vI 0, vI 0, vI 0, .lst none 0 0 [], .lst none 0 0 [], .lst none 0 0 [], .lst none 0 0 [], .lst none 0 0 []]) (by simp only [List.map_cons, List.map_nil, EV,Nat.reduceEqDiff,↓reduceIte,he];try rfl) Zgq Zqq rfl ?_)))
 refine Zac (ZaB (b := b4) (o := 0) (u := .agg [vI 0, vI 0, vI 0, vI 0, .lst none 0 0 [], .lst none 0 0 [], .lst none 0 0 [], .lst none 0 0 [], .lst none 0 0 []]) (cs' := [vI 0, vI 0, vI 0, vI 0, .lst none 0 0 [], .lst none 0 0 [], .lst none 0 0 [], .lst none 0 0 [], .lst none 0 0 []]) he.1 rfl h4 Zdx rfl rfl fun υ1 h4 k2 => ?_)
 have h5 := k2.keep _ _ (Ne.symm hne) h5
 refine Zac (ZaI (b := b5) (o := 0) (v := vT false) he.2.1 rfl h5 Zhu ⟨rfl, rfl, rfl⟩ (by simp) fun υ3 h5 k4 => ?_)
 have h4 := k4.keep _ _ hne h4
 refine Zaf ?_
 exact hQ _ h4 h5 ⟨fun c x hc hx => k4.keep _ _ (fun q => hc (.inr q)) (k2.keep _ _ (fun q => hc (.inl q)) hx), fun c hc => k4.used _ (k2.used _ hc)⟩
end
set_option maxHeartbeats 1000000 in
theorem Zj5 {t0 v0 bi bt kd : Int} {a0 a1 a2 a3 v dv : AV} {bc : List (List Int)} {es : List Ent} {d : List UInt8} (hC : ZcJ [a0, a1, a2, a3] bc) (hE : EsT v es) (hB : ∀ τ, Ext σ τ -> Za5 τ dv d) (hl : d.length <= 1000000000) {g : Nat} (hway : (lkp (Zj3 [vI t0, vI v0, vI bi, vI bt, a0, a1, a2, a3, v]) kd).getD .nilFunc = Zgk g [vI t0, vI v0, vI bi, vI bt, a0, a1, a2, a3, v]) {s2 : JSt} {st2 : Option (List UInt8)} (hcall : ∀ rb τ, QAt τ rb (some d) -> Ext σ τ -> ∀ K2 : AV -> St -> Prop, (∀ cs υ, JT cs s2 -> QAt υ rb st2 -> But (fun c => c = rb) τ υ -> K2 (.agg cs) υ) -> Zan Tryz.prog g [.agg [vI t0, vI v0, vI bi, vI bt, a0, a1, a2, a3, v], ptr rb 0] τ K2) (hK : ∀ cs τ, JT cs s2 -> Ext σ τ -> K (.tup [.agg cs, vT (decide ((if st2 = some [] then (0 : Int) else 4) = 0))]) τ) : Zan Tryz.prog 83 [.agg [vI t0, vI v0, vI bi, vI bt, a0, a1, a2, a3, v], .agg [vI kd, dv]] σ K := by
 obtain ⟨l0, l1, l2, l3, rfl, z0, z1, z2, z3⟩ := hC.tis
 refine Zey Zam Tryz.func83 rfl rfl rfl rfl (Nat.le_of_ble_eq_true rfl) (Nat.le_of_ble_eq_true rfl) rfl ?_
 refine ZbL 0 1 (v0 := .agg [vI t0, vI v0, vI bi, vI bt, a0, a1, a2, a3, v]) (v1 := .agg [vI kd, dv]) rfl rfl ?_
 intro e he
 refine Zad (Zac (Zbn (cs := [vI t0, vI v0, vI bi, vI bt, a0, a1, a2, a3, v]) (v := .agg [vI t0, vI v0, vI bi, vI bt, a0, a1, a2, a3, v]) he.1 rfl fun b5 υ6 hn7 hu8 hb9 hv10 hX11 => ?_))
 refine Zac (Zbn (cs := [vI kd, dv]) (v := .agg [vI kd, dv]) he.2 rfl fun b12 υ13 hn14 hu15 hb16 hv17 hX18 => ?_)
 have ne19 := Zat hb9 hn14
 have hb9 := hX18.keep _ _ hb9
 have hv10 := hX18.used _ hv10
 refine Zac (ZaH (cs := [vI 0, vI 0, vI 0, vI 0, .lst none 0 0 [], .lst none 0 0 [], .lst none 0 0 [], .lst none 0 0 [], .lst none 0 0 []]) Zgq rfl fun b20 υ21 hn22 hu23 hb24 hv25 hX26 => ?_)
 have ne27 := Zat hb9 hn22
 have ne28 := Zat hb16 hn22
 have hb9 := hX26.keep _ _ hb9
 have hv10 := hX26.used _ hv10
 have hb16 := hX26.keep _ _ hb16
 have hv17 := hX26.used _ hv17
 refine Zac (ZaH (cs := [vT false]) Zni rfl fun b29 υ30 hn31 hu32 hb33 hv34 hX35 => ?_)
 have ne36 := Zat hb9 hn31
 have ne37 := Zat hb16 hn31
 have ne38 := Zat hb24 hn31
 have hb9 := hX35.keep _ _ hb9
 have hv10 := hX35.used _ hv10
 have hb16 := hX35.keep _ _ hb16
 have hv17 := hX35.used _ hv17
 have hb24 := hX35.keep _ _ hb24
 have hv25 := hX35.used _ hv25
 refine Zaf ?_
 refine ⟨[.pointer (some ⟨b20, 0, none⟩), .pointer (some ⟨b29, 0, none⟩)], (by simp only [List.map_cons, List.map_nil, EV,Nat.reduceEqDiff,↓reduceIte,he];try rfl), ?_⟩
 refine ZnG 2 3 4 5 (v0 := ptr b5 0) (v1 := ptr b12 0) (v2 := ptr b20 0) (v3 := ptr b29 0) (by first | rfl | (simp only [EV,Nat.reduceEqDiff,↓reduceIte,he] <;> rfl)) (by first | rfl | (simp only [EV,Nat.reduceEqDiff,↓reduceIte,he] <;> rfl)) (by first | rfl | (simp only [EV,Nat.reduceEqDiff,↓reduceIte,he] <;> rfl)) (by first | rfl | (simp only [EV,Nat.reduceEqDiff,↓reduceIte,he] <;> rfl)) ?_
 clear he e
 intro e he
 refine Zaa (Zac (Zqo Zcm fun b39 υ40 hn41 hu42 hb43 hv44 hX45 => ?_))
 have ne46 := Zat hb9 hn41
 have ne47 := Zat hb16 hn41
 have ne48 := Zat hb24 hn41
 have ne49 := Zat hb33 hn41
 have hb9 := hX45.keep _ _ hb9
 have hv10 := hX45.used _ hv10
 have hb16 := hX45.keep _ _ hb16
 have hv17 := hX45.used _ hv17
 have hb24 := hX45.keep _ _ hb24
 have hv25 := hX45.used _ hv25
 have hb33 := hX45.keep _ _ hb33
 have hv34 := hX45.used _ hv34
 refine Zac (Zah (b := b5) (o := 0) (r := .agg [vI t0, vI v0, vI bi, vI bt, a0, a1, a2, a3, v]) he.1 hb9 Zle Zlf rfl ?_)
 refine Zac (Zcw (us := [.agg [vI t0, vI v0, vI bi, vI bt, a0, a1, a2, a3, v]]) (vs := []) (by simp only [List.map_cons, List.map_nil, EV,Nat.reduceEqDiff,↓reduceIte,he];try rfl) rfl ?_)
 refine Zac (Zcy (es := []) (k := 1) (v := Zgk 126 [vI t0, vI v0, vI bi, vI bt, a0, a1, a2, a3, v]) rfl rfl rfl hb43 Zcm fa1 (by intro p hp; cases hp) fun υ50 hb43 k51 => ?_)
 have hb9 := k51.keep _ _ (Ne.symm ne46) hb9
 have hv10 := k51.used _ hv10
 have hb16 := k51.keep _ _ (Ne.symm ne47) hb16
 have hv17 := k51.used _ hv17
 have hb24 := k51.keep _ _ (Ne.symm ne48) hb24
 have hv25 := k51.used _ hv25
 have hb33 := k51.keep _ _ (Ne.symm ne49) hb33
 have hv34 := k51.used _ hv34
 have hv44 := k51.used _ hv44
 refine Zac (Zah (b := b5) (o := 0) (r := .agg [vI t0, vI v0, vI bi, vI bt, a0, a1, a2, a3, v]) he.1 hb9 Zle Zlf rfl ?_)
 refine Zac (Zcw (us := [.agg [vI t0, vI v0, vI bi, vI bt, a0, a1, a2, a3, v]]) (vs := []) (by simp only [List.map_cons, List.map_nil, EV,Nat.reduceEqDiff,↓reduceIte,he];try rfl) rfl ?_)
 refine Zac (Zcy (es := [(1, Zgk 126 [vI t0, vI v0, vI bi, vI bt, a0, a1, a2, a3, v])]) (k := 2) (v := Zgk 127 [vI t0, vI v0, vI bi, vI bt, a0, a1, a2, a3, v]) rfl rfl rfl hb43 Zcm fa1 (by intro p hp; simp only [List.mem_cons, List.not_mem_nil, or_false] at hp; rcases hp with rfl <;> first | exact (by decide : (1 : Int) ≠ 2)) fun υ52 hb43 k53 => ?_)
 have hb9 := k53.keep _ _ (Ne.symm ne46) hb9
 have hv10 := k53.used _ hv10
 have hb16 := k53.keep _ _ (Ne.symm ne47) hb16
 have hv17 := k53.used _ hv17
 have hb24 := k53.keep _ _ (Ne.symm ne48) hb24
 have hv25 := k53.used _ hv25
 have hb33 := k53.keep _ _ (Ne.symm ne49) hb33
 have hv34 := k53.used _ hv34
 have hv44 := k53.used _ hv44
 refine Zac (Zah (b := b5) (o := 0) (r := .agg [vI t0, vI v0, vI bi, vI bt, a0, a1, a2, a3, v]) he.1 hb9 Zle Zlf rfl ?_)
 refine Zac (Zcw (us := [.agg [vI t0, vI v0, vI bi, vI bt, a0, a1, a2, a3, v]]) (vs := []) (by simp only [List.map_cons, List.map_nil, EV,Nat.reduceEqDiff,↓reduceIte,he];try rfl) rfl ?_)
 refine Zac (Zcy (es := [(1, Zgk 126 [vI t0, vI v0, vI bi, vI bt, a0, a1, a2, a3, v]), (2, Zgk 127 [vI t0, vI v0, vI bi, vI bt, a0, a1, a2, a3, v])]) (k := 3) (v := Zgk 128 [vI t0, vI v0, vI bi, vI bt, a0, a1, a2, a3, v]) rfl rfl rfl hb43 Zcm fa1 (by intro p hp; simp only [List.mem_cons, List.not_mem_nil, or_false] at hp; rcases hp with rfl | rfl <;> first | exact (by decide : (1 : Int) ≠ 3) | exact (by decide : (2 : Int) ≠ 3)) fun υ54 hb43 k55 => ?_)
 have hb9 := k55.keep _ _ (Ne.symm ne46) hb9
 have hv10 := k55.used _ hv10
 have hb16 := k55.keep _ _ (Ne.symm ne47) hb16
 have hv17 := k55.used _ hv17
 have hb24 := k55.keep _ _ (Ne.symm ne48) hb24
 have hv25 := k55.used _ hv25
 have hb33 := k55.keep _ _ (Ne.symm ne49) hb33
 have hv34 := k55.used _ hv34
 have hv44 := k55.used _ hv44
 refine Zag ?_
 refine Zac (Zae (b := b12) (o := 0) he.2.1 Zlg rfl ?_)
 refine Zac (Zah (b := b12) (o := 0 + 0) (r := vI kd) rfl hb16 fa9 ZbG rfl ?_)
 refine Zac (Zf3 (es := Zj3 [vI t0, vI v0, vI bi, vI bt, a0, a1, a2, a3, v]) (k := kd) (zv := .nilFunc) (r := Zgk g [vI t0, vI v0, vI bi, vI bt, a0, a1, a2, a3, v]) rfl rfl hb43 Zcm fa1 Zix hway ?_)
 refine Zag ?_
 refine Zaf (kp4 3 4 5 6 fun e he => ?_)
 refine Zaa (Zag ?_)
 refine Zac (Zng Zj2 rfl rfl ?_)
 refine Zao [vT true] ?_
 refine Zfe ?_
 refine Zaf (kp4 3 4 5 6 fun e he => ?_)
 refine Zaa (Zac (Zae (b := b12) (o := 0) he.1 Zlg rfl ?_))
 refine Zac (Zah (b := b12) (o := 0 + 1) (r := dv) rfl hb16 fa5 Zb6 rfl ?_)
 refine Zao [dv] ?_
 refine Zdy (hB _ (But.ext (But.ext (But.ext ((((hX11.trans hX18).trans hX26).trans hX35).trans hX45) (fun g hg => by rw [hg]; exact (((hX11.trans hX18).trans hX26).trans hX35).noneOf hn41) k51) (fun g hg => by rw [hg]; exact (((hX11.trans hX18).trans hX26).trans hX35).noneOf hn41) k53) (fun g hg => by rw [hg]; exact (((hX11.trans hX18).trans hX26).trans hX35).noneOf hn41) k55)) hl fun rb τ56 hR57 hN58 hX59 => ?_
 have ne60 := ZbR hb9 hN58
 have ne61 := ZbR hb16 hN58
 have ne62 := ZbR hb24 hN58
 have ne63 := ZbR hb33 hN58
 have ne64 := ZbR hb43 hN58
 have hb9 := hX59.keep _ _ hb9
 have hv10 := hX59.used _ hv10
 have hb16 := hX59.keep _ _ hb16
 have hv17 := hX59.used _ hv17
 have hb24 := hX59.keep _ _ hb24
 have hv25 := hX59.used _ hv25
 have hb33 := hX59.keep _ _ hb33
 have hv34 := hX59.used _ hv34
 have hb43 := hX59.keep _ _ hb43
 have hv44 := hX59.used _ hv44
 refine Zag ?_
 refine Zaf (kp4 4 5 6 7 fun e he => ?_)
 refine Zaa (Zag ?_)
 refine Zag ?_
 refine Zac (Zmm (g := g) (fst := (([.agg [vI t0, vI v0, vI bi, vI bt, a0, a1, a2, a3, v]] : List AV).map AV.val).toArray) (caps := (([] : List AV).map AV.val).toArray) (vs := [ptr rb 0]) rfl (by simp only [List.map_cons, List.map_nil, EV,Nat.reduceEqDiff,↓reduceIte,he];try rfl) ?_)
 refine Zj4 hb9 (hcall _ _ hR57 ((But.ext (But.ext (But.ext ((((hX11.trans hX18).trans hX26).trans hX35).trans hX45) (fun g hg => by rw [hg]; exact (((hX11.trans hX18).trans hX26).trans hX35).noneOf hn41) k51) (fun g hg => by rw [hg]; exact (((hX11.trans hX18).trans hX26).trans hX35).noneOf hn41) k53) (fun g hg => by rw [hg]; exact (((hX11.trans hX18).trans hX26).trans hX35).noneOf hn41) k55).trans hX59) _ fun cs65 τ66 hJ67 hR68 k69 => ?_)
 obtain ⟨w0, w1, w2, w3, wv, rfl, hC2, hE2⟩ := hJ67
 obtain ⟨_, _, _, _, _, y0, y1, y2, y3⟩ := hC2.tis
 have hb9 := k69.keep _ _ ne60 hb9
 have hv10 := k69.used _ hv10
 have hb16 := k69.keep _ _ ne61 hb16
 have hv17 := k69.used _ hv17
 have hb24 := k69.keep _ _ ne62 hb24
 have hv25 := k69.used _ hv25
 have hb33 := k69.keep _ _ ne63 hb33
 have hv34 := k69.used _ hv34
 have hb43 := k69.keep _ _ ne64 hb43
 have hv44 := k69.used _ hv44
 refine Zac (ZaB (b := b20) (o := 0) (u := .agg [vI s2.term, vI s2.vote, vI s2.bi, vI s2.bt, w0, w1, w2, w3, wv]) (cs' := [vI s2.term, vI s2.vote, vI s2.bi, vI s2.bt, w0, w1, w2, w3, wv]) he.1 rfl hb24 Zdx (by obtain ⟨_, _, rfl, _⟩ := y0 <;> obtain ⟨_, _, rfl, _⟩ := y1 <;> obtain ⟨_, _, rfl, _⟩ := y2 <;> obtain ⟨_, _, rfl, _⟩ := y3 <;> obtain ⟨_, _, _, _, rfl, _⟩ := hE2 <;> rfl) rfl fun υ70 hb24 k71 => ?_)
 have hb9 := k71.keep _ _ (Ne.symm ne27) hb9
 have hv10 := k71.used _ hv10
 have hb16 := k71.keep _ _ (Ne.symm ne28) hb16
 have hv17 := k71.used _ hv17
 have hb33 := k71.keep _ _ ne38 hb33
 have hv34 := k71.used _ hv34
 have hb43 := k71.keep _ _ ne48 hb43
 have hv44 := k71.used _ hv44
 have hv25 := k71.used _ hv25
 have hR68 := hR68.but k71 (Ne.symm ne62)
 refine Zaf (kp3 4 5 7 fun e he => ?_)
 refine Zbt ?_
 refine ⟨[1, 0, 2, 3, 4, 5], [[], [], [1], [1, 2], [0, 1, 2], [0, 1, 2, 3, 4]], fun _ => True, [0], [2], [], by kernel_rfl, ?_⟩
 refine Zax ?_
 refine Zas ?_
 refine Zah (b := b20) (o := 0) (r := .agg [vI s2.term, vI s2.vote, vI s2.bi, vI s2.bt, w0, w1, w2, w3, wv]) he.1 hb24 Zhy Zdx rfl ?_
 refine Zaz ?_
 refine Zas ?_
 refine Zay (vs := [ptr rb 0]) (by simp only [List.map_cons, List.map_nil, EV,Nat.reduceEqDiff,↓reduceIte,he];try rfl) ?_
 refine ZmU hR68 ?_
 refine ⟨fun _ => .refl _, ?_⟩
 refine Zas ?_
 refine ZbQ (k := .i64) (a := (if st2 = some [] then 0 else 4)) (b := 0) rfl rfl ?_
 refine Zaz ?_
 refine Zas ?_
 refine ZaB (b := b20) (o := 0) (u := .agg [vI s2.term, vI s2.vote, vI s2.bi, vI s2.bt, w0, w1, w2, w3, wv]) (cs' := [vI s2.term, vI s2.vote, vI s2.bi, vI s2.bt, w0, w1, w2, w3, wv]) he.1 rfl hb24 Zdx (by obtain ⟨_, _, rfl, _⟩ := y0 <;> obtain ⟨_, _, rfl, _⟩ := y1 <;> obtain ⟨_, _, rfl, _⟩ := y2 <;> obtain ⟨_, _, rfl, _⟩ := y3 <;> obtain ⟨_, _, _, _, rfl, _⟩ := hE2 <;> rfl) rfl fun υ72 hb24 k73 => ?_
 refine ⟨fun q => (by cases q), ?_⟩
 have hb9 := k73.keep _ _ (Ne.symm ne27) hb9
 have hv10 := k73.used _ hv10
 have hb16 := k73.keep _ _ (Ne.symm ne28) hb16
 have hv17 := k73.used _ hv17
 have hb33 := k73.keep _ _ ne38 hb33
 have hv34 := k73.used _ hv34
 have hb43 := k73.keep _ _ ne48 hb43
 have hv44 := k73.used _ hv44
 have hv25 := k73.used _ hv25
 have hR68 := hR68.but k73 (Ne.symm ne62)
 refine Zas ?_
 refine ZaI (b := b29) (o := 0) (v := vT (decide (((if st2 = some [] then 0 else 4) : Int) = 0))) he.2.1 rfl hb33 Zhu ⟨rfl, rfl, rfl⟩ (by simp) fun υ74 hb33 k75 => ?_
 refine ⟨fun q => (by cases q), ?_⟩
 have hb9 := k75.keep _ _ (Ne.symm ne36) hb9
 have hv10 := k75.used _ hv10
 have hb16 := k75.keep _ _ (Ne.symm ne37) hb16
 have hv17 := k75.used _ hv17
 have hb24 := k75.keep _ _ (Ne.symm ne38) hb24
 have hv25 := k75.used _ hv25
 have hb43 := k75.keep _ _ ne49 hb43
 have hv44 := k75.used _ hv44
 have hv34 := k75.used _ hv34
 have hR68 := hR68.but k75 (Ne.symm ne63)
 refine ZbI (kp2 4 5 ?_)
 clear he e
 intro e he
 refine Zap ?_
 show ZfE _ _ _ _ _ _
 refine Znj ⟨rfl, ?_⟩
 exact ⟨_, Zbd rfl (ZaJ he.1 hb24 Zhy Zdx rfl) (ZaJ he.2 hb33 ZiQ Zhu rfl), hK _ _ ⟨_, _, _, _, _, rfl, hC2, hE2⟩ (But.ext (But.ext (But.ext (But.ext ((But.ext (But.ext (But.ext ((((hX11.trans hX18).trans hX26).trans hX35).trans hX45) (fun g hg => by rw [hg]; exact (((hX11.trans hX18).trans hX26).trans hX35).noneOf hn41) k51) (fun g hg => by rw [hg]; exact (((hX11.trans hX18).trans hX26).trans hX35).noneOf hn41) k53) (fun g hg => by rw [hg]; exact (((hX11.trans hX18).trans hX26).trans hX35).noneOf hn41) k55).trans hX59) (fun g hg => by rw [hg]; exact (But.ext (But.ext (But.ext ((((hX11.trans hX18).trans hX26).trans hX35).trans hX45) (fun g hg => by rw [hg]; exact (((hX11.trans hX18).trans hX26).trans hX35).noneOf hn41) k51) (fun g hg => by rw [hg]; exact (((hX11.trans hX18).trans hX26).trans hX35).noneOf hn41) k53) (fun g hg => by rw [hg]; exact (((hX11.trans hX18).trans hX26).trans hX35).noneOf hn41) k55).noneOf hN58.1) k69) (fun g hg => by rw [hg]; exact (hX11.trans hX18).noneOf hn22) k71) (fun g hg => by rw [hg]; exact (hX11.trans hX18).noneOf hn22) k73) (fun g hg => by rw [hg]; exact ((hX11.trans hX18).trans hX26).noneOf hn31) k75)⟩
set_option maxHeartbeats 1000000 in
theorem Zjq {t0 v0 bi bt kd : Int} {a0 a1 a2 a3 v dv : AV} {bc : List (List Int)} {es : List Ent} {d : List UInt8} (hC : ZcJ [a0, a1, a2, a3] bc) (hE : EsT v es) (hB : ∀ τ, Ext σ τ -> Za5 τ dv d) (hl : d.length <= 1000000000) {g : Nat} (hway : (lkp (Zj3 [vI t0, vI v0, vI bi, vI bt, a0, a1, a2, a3, v]) kd).getD .nilFunc = Zgk g [vI t0, vI v0, vI bi, vI bt, a0, a1, a2, a3, v]) (hpan : ∀ rb τ, QAt τ rb (some d) -> Ext σ τ -> ∀ K2 : List PanicEntry -> St -> Prop, (∀ υ, But (fun c => c = rb) τ υ -> K2 Znd υ) -> ZdD Tryz.prog g [.agg [vI t0, vI v0, vI bi, vI bt, a0, a1, a2, a3, v], ptr rb 0] τ K2) (hK : ∀ cs τ, JT cs ⟨0, 0, 0, 0, [[], [], [], []], []⟩ -> Ext σ τ -> K (.tup [.agg cs, vT false]) τ) : Zan Tryz.prog 83 [.agg [vI t0, vI v0, vI bi, vI bt, a0, a1, a2, a3, v], .agg [vI kd, dv]] σ K := by
 obtain ⟨l0, l1, l2, l3, rfl, z0, z1, z2, z3⟩ := hC.tis
 refine Zey Zam Tryz.func83 rfl rfl rfl rfl (Nat.le_of_ble_eq_true rfl) (Nat.le_of_ble_eq_true rfl) rfl ?_
 refine ZbL 0 1 (v0 := .agg [vI t0, vI v0, vI bi, vI bt, a0, a1, a2, a3, v]) (v1 := .agg [vI kd, dv]) rfl rfl ?_
 intro e he
 refine Zad (Zac (Zbn (cs := [vI t0, vI v0, vI bi, vI bt, a0, a1, a2, a3, v]) (v := .agg [vI t0, vI v0, vI bi, vI bt, a0, a1, a2, a3, v]) he.1 rfl fun b76 υ77 hn78 hu79 hb80 hv81 hX82 => ?_))
 refine Zac (Zbn (cs := [vI kd, dv]) (v := .agg [vI kd, dv]) he.2 rfl fun b83 υ84 hn85 hu86 hb87 hv88 hX89 => ?_)
 have ne90 := Zat hb80 hn85
 have hb80 := hX89.keep _ _ hb80
 have hv81 := hX89.used _ hv81
 refine Zac (ZaH (cs := [vI 0, vI 0, vI 0, vI 0, .lst none 0 0 [], .lst none 0 0 [], .lst none 0 0 [], .lst none 0 0 [], .lst none 0 0 []]) Zgq rfl fun b91 υ92 hn93 hu94 hb95 hv96 hX97 => ?_)
 have ne98 := Zat hb80 hn93
 have ne99 := Zat hb87 hn93
 have hb80 := hX97.keep _ _ hb80
 have hv81 := hX97.used _ hv81
 have hb87 := hX97.keep _ _ hb87
 have hv88 := hX97.used _ hv88
 refine Zac (ZaH (cs := [vT false]) Zni rfl fun b100 υ101 hn102 hu103 hb104 hv105 hX106 => ?_)
 have ne107 := Zat hb80 hn102
 have ne108 := Zat hb87 hn102
 have ne109 := Zat hb95 hn102
 have hb80 := hX106.keep _ _ hb80
 have hv81 := hX106.used _ hv81
 have hb87 := hX106.keep _ _ hb87
 have hv88 := hX106.used _ hv88
 have hb95 := hX106.keep _ _ hb95
 have hv96 := hX106.used _ hv96
 refine Zaf ?_
 refine ⟨[.pointer (some ⟨b91, 0, none⟩), .pointer (some ⟨b100, 0, none⟩)], (by simp only [List.map_cons, List.map_nil, EV,Nat.reduceEqDiff,↓reduceIte,he];try rfl), ?_⟩
 refine ZnG 2 3 4 5 (v0 := ptr b76 0) (v1 := ptr b83 0) (v2 := ptr b91 0) (v3 := ptr b100 0) (by first | rfl | (simp only [EV,Nat.reduceEqDiff,↓reduceIte,he] <;> rfl)) (by first | rfl | (simp only [EV,Nat.reduceEqDiff,↓reduceIte,he] <;> rfl)) (by first | rfl | (simp only [EV,Nat.reduceEqDiff,↓reduceIte,he] <;> rfl)) (by first | rfl | (simp only [EV,Nat.reduceEqDiff,↓reduceIte,he] <;> rfl)) ?_
 clear he e
 intro e he
 refine Zaa (Zac (Zqo Zcm fun b110 υ111 hn112 hu113 hb114 hv115 hX116 => ?_))
 have ne117 := Zat hb80 hn112
 have ne118 := Zat hb87 hn112
 have ne119 := Zat hb95 hn112
 have ne120 := Zat hb104 hn112
 have hb80 := hX116.keep _ _ hb80
 have hv81 := hX116.used _ hv81
 have hb87 := hX116.keep _ _ hb87
 have hv88 := hX116.used _ hv88
 have hb95 := hX116.keep _ _ hb95
 have hv96 := hX116.used _ hv96
 have hb104 := hX116.keep _ _ hb104
 have hv105 := hX116.used _ hv105
 refine Zac (Zah (b := b76) (o := 0) (r := .agg [vI t0, vI v0, vI bi, vI bt, a0, a1, a2, a3, v]) he.1 hb80 Zle Zlf rfl ?_)
 refine Zac (Zcw (us := [.agg [vI t0, vI v0, vI bi, vI bt, a0, a1, a2, a3, v]]) (vs := []) (by simp only [List.map_cons, List.map_nil, EV,Nat.reduceEqDiff,↓reduceIte,he];try rfl) rfl ?_)
 refine Zac (Zcy (es := []) (k := 1) (v := Zgk 126 [vI t0, vI v0, vI bi, vI bt, a0, a1, a2, a3, v]) rfl rfl rfl hb114 Zcm fa1 (by intro p hp; cases hp) fun υ121 hb114 k122 => ?_)
 have hb80 := k122.keep _ _ (Ne.symm ne117) hb80
 have hv81 := k122.used _ hv81
 have hb87 := k122.keep _ _ (Ne.symm ne118) hb87
 have hv88 := k122.used _ hv88
 have hb95 := k122.keep _ _ (Ne.symm ne119) hb95
 have hv96 := k122.used _ hv96
 have hb104 := k122.keep _ _ (Ne.symm ne120) hb104
 have hv105 := k122.used _ hv105
 have hv115 := k122.used _ hv115
 refine Zac (Zah (b := b76) (o := 0) (r := .agg [vI t0, vI v0, vI bi, vI bt, a0, a1, a2, a3, v]) he.1 hb80 Zle Zlf rfl ?_)
 refine Zac (Zcw (us := [.agg [vI t0, vI v0, vI bi, vI bt, a0, a1, a2, a3, v]]) (vs := []) (by simp only [List.map_cons, List.map_nil, EV,Nat.reduceEqDiff,↓reduceIte,he];try rfl) rfl ?_)
 refine Zac (Zcy (es := [(1, Zgk 126 [vI t0, vI v0, vI bi, vI bt, a0, a1, a2, a3, v])]) (k := 2) (v := Zgk 127 [vI t0, vI v0, vI bi, vI bt, a0, a1, a2, a3, v]) rfl rfl rfl hb114 Zcm fa1 (by intro p hp; simp only [List.mem_cons, List.not_mem_nil, or_false] at hp; rcases hp with rfl <;> first | exact (by decide : (1 : Int) ≠ 2)) fun υ123 hb114 k124 => ?_)
 have hb80 := k124.keep _ _ (Ne.symm ne117) hb80
 have hv81 := k124.used _ hv81
 have hb87 := k124.keep _ _ (Ne.symm ne118) hb87
 have hv88 := k124.used _ hv88
 have hb95 := k124.keep _ _ (Ne.symm ne119) hb95
 have hv96 := k124.used _ hv96
 have hb104 := k124.keep _ _ (Ne.symm ne120) hb104
 have hv105 := k124.used _ hv105
 have hv115 := k124.used _ hv115
 refine Zac (Zah (b := b76) (o := 0) (r := .agg [vI t0, vI v0, vI bi, vI bt, a0, a1, a2, a3, v]) he.1 hb80 Zle Zlf rfl ?_)
 refine Zac (Zcw (us := [.agg [vI t0, vI v0, vI bi, vI bt, a0, a1, a2, a3, v]]) (vs := []) (by simp only [List.map_cons, List.map_nil, EV,Nat.reduceEqDiff,↓reduceIte,he];try rfl) rfl ?_)
 refine Zac (Zcy (es := [(1, Zgk 126 [vI t0, vI v0, vI bi, vI bt, a0, a1, a2, a3, v]), (2, Zgk 127 [vI t0, vI v0, vI bi, vI bt, a0, a1, a2, a3, v])]) (k := 3) (v := Zgk 128 [vI t0, vI v0, vI bi, vI bt, a0, a1, a2, a3, v]) rfl rfl rfl hb114 Zcm fa1 (by intro p hp; simp only [List.mem_cons, List.not_mem_nil, or_false] at hp; rcases hp with rfl | rfl <;> first | exact (by decide : (1 : Int) ≠ 3) | exact (by decide : (2 : Int) ≠ 3)) fun υ125 hb114 k126 => ?_)
 have hb80 := k126.keep _ _ (Ne.symm ne117) hb80
 have hv81 := k126.used _ hv81
 have hb87 := k126.keep _ _ (Ne.symm ne118) hb87
 have hv88 := k126.used _ hv88
 have hb95 := k126.keep _ _ (Ne.symm ne119) hb95
 have hv96 := k126.used _ hv96
 have hb104 := k126.keep _ _ (Ne.symm ne120) hb104
 have hv105 := k126.used _ hv105
 have hv115 := k126.used _ hv115
 refine Zag ?_
 refine Zac (Zae (b := b83) (o := 0) he.2.1 Zlg rfl ?_)
 refine Zac (Zah (b := b83) (o := 0 + 0) (r := vI kd) rfl hb87 fa9 ZbG rfl ?_)
 refine Zac (Zf3 (es := Zj3 [vI t0, vI v0, vI bi, vI bt, a0, a1, a2, a3, v]) (k := kd) (zv := .nilFunc) (r := Zgk g [vI t0, vI v0, vI bi, vI bt, a0, a1, a2, a3, v]) rfl rfl hb114 Zcm fa1 Zix hway ?_)
 refine Zag ?_
 refine Zaf (kp4 3 4 5 6 fun e he => ?_)
 refine Zaa (Zag ?_)
 refine Zac (Zng Zj2 rfl rfl ?_)
 refine Zao [vT true] ?_
 refine Zfe ?_
 refine Zaf (kp4 3 4 5 6 fun e he => ?_)
 refine Zaa (Zac (Zae (b := b83) (o := 0) he.1 Zlg rfl ?_))
 refine Zac (Zah (b := b83) (o := 0 + 1) (r := dv) rfl hb87 fa5 Zb6 rfl ?_)
 refine Zao [dv] ?_
 refine Zdy (hB _ (But.ext (But.ext (But.ext ((((hX82.trans hX89).trans hX97).trans hX106).trans hX116) (fun g hg => by rw [hg]; exact (((hX82.trans hX89).trans hX97).trans hX106).noneOf hn112) k122) (fun g hg => by rw [hg]; exact (((hX82.trans hX89).trans hX97).trans hX106).noneOf hn112) k124) (fun g hg => by rw [hg]; exact (((hX82.trans hX89).trans hX97).trans hX106).noneOf hn112) k126)) hl fun rb τ127 hR128 hN129 hX130 => ?_
 have ne131 := ZbR hb80 hN129
 have ne132 := ZbR hb87 hN129
 have ne133 := ZbR hb95 hN129
 have ne134 := ZbR hb104 hN129
 have ne135 := ZbR hb114 hN129
 have hb80 := hX130.keep _ _ hb80
 have hv81 := hX130.used _ hv81
 have hb87 := hX130.keep _ _ hb87
 have hv88 := hX130.used _ hv88
 have hb95 := hX130.keep _ _ hb95
 have hv96 := hX130.used _ hv96
 have hb104 := hX130.keep _ _ hb104
 have hv105 := hX130.used _ hv105
 have hb114 := hX130.keep _ _ hb114
 have hv115 := hX130.used _ hv115
 refine Zag ?_
 refine Zaf (kp4 4 5 6 7 fun e he => ?_)
 refine Zjl 2 ?_
 simp only [List.take_succ_cons, List.take_zero]
 refine Zag ?_
 refine Zag ?_
 refine Zaf (ZrF (g := g) (fst := (([.agg [vI t0, vI v0, vI bi, vI bt, a0, a1, a2, a3, v]] : List AV).map AV.val).toArray) (cap := (([] : List AV).map AV.val).toArray) (vs := ZoL g [vI t0, vI v0, vI bi, vI bt, a0, a1, a2, a3, v] (ptr rb 0)) rfl (by unfold ZoL; simp only [List.map_cons, List.map_nil, EV,Nat.reduceEqDiff,↓reduceIte,he];try rfl) ?_)
 refine Zjp hb80 (hpan _ _ hR128 ((But.ext (But.ext (But.ext ((((hX82.trans hX89).trans hX97).trans hX106).trans hX116) (fun g hg => by rw [hg]; exact (((hX82.trans hX89).trans hX97).trans hX106).noneOf hn112) k122) (fun g hg => by rw [hg]; exact (((hX82.trans hX89).trans hX97).trans hX106).noneOf hn112) k124) (fun g hg => by rw [hg]; exact (((hX82.trans hX89).trans hX97).trans hX106).noneOf hn112) k126).trans hX130) _ fun τ136 k137 => ?_)
 have hb80 := k137.keep _ _ ne131 hb80
 have hv81 := k137.used _ hv81
 have hb87 := k137.keep _ _ ne132 hb87
 have hv88 := k137.used _ hv88
 have hb95 := k137.keep _ _ ne133 hb95
 have hv96 := k137.used _ hv96
 have hb104 := k137.keep _ _ ne134 hb104
 have hv105 := k137.used _ hv105
 have hb114 := k137.keep _ _ ne135 hb114
 have hv115 := k137.used _ hv115
 show ZfE _ _ _ _ _ _
 refine ZkY hb95 hb104 (Ne.symm ne109) fun τ141 g138 g139 k140 => ⟨rfl, _, Zbd rfl (ZaJ he.1 g138 Zhy Zdx rfl) (ZaJ he.2.1 g139 ZiQ Zhu rfl), hK _ _ ⟨_, _, _, _, _, rfl, Zch, Zd5⟩ ?_⟩
 exact But.ext (But.ext ((But.ext (But.ext (But.ext ((((hX82.trans hX89).trans hX97).trans hX106).trans hX116) (fun g hg => by rw [hg]; exact (((hX82.trans hX89).trans hX97).trans hX106).noneOf hn112) k122) (fun g hg => by rw [hg]; exact (((hX82.trans hX89).trans hX97).trans hX106).noneOf hn112) k124) (fun g hg => by rw [hg]; exact (((hX82.trans hX89).trans hX97).trans hX106).noneOf hn112) k126).trans hX130) (fun g hg => by rw [hg]; exact (But.ext (But.ext (But.ext ((((hX82.trans hX89).trans hX97).trans hX106).trans hX116) (fun g hg => by rw [hg]; exact (((hX82.trans hX89).trans hX97).trans hX106).noneOf hn112) k122) (fun g hg => by rw [hg]; exact (((hX82.trans hX89).trans hX97).trans hX106).noneOf hn112) k124) (fun g hg => by rw [hg]; exact (((hX82.trans hX89).trans hX97).trans hX106).noneOf hn112) k126).noneOf hN129.1) k137) (fun c hc => by rcases hc with rfl | rfl <;> first | exact ((hX82.trans hX89).noneOf hn93) | exact (((hX82.trans hX89).trans hX97).noneOf hn102)) k140
set_option maxHeartbeats 1000000 in
theorem ZoM {t0 v0 bi bt kd : Int} {a0 a1 a2 a3 v dv : AV} {bc : List (List Int)} {es : List Ent} {d : List UInt8} (hC : ZcJ [a0, a1, a2, a3] bc) (hE : EsT v es) (hB : ∀ τ, Ext σ τ -> Za5 τ dv d) (hl : d.length <= 1000000000) (hway : (lkp (Zj3 [vI t0, vI v0, vI bi, vI bt, a0, a1, a2, a3, v]) kd).getD .nilFunc = .nilFunc) (hK : ∀ cs τ, JT cs ⟨0, 0, 0, 0, [[], [], [], []], []⟩ -> Ext σ τ -> K (.tup [.agg cs, vT false]) τ) : Zan Tryz.prog 83 [.agg [vI t0, vI v0, vI bi, vI bt, a0, a1, a2, a3, v], .agg [vI kd, dv]] σ K := by
 obtain ⟨l0, l1, l2, l3, rfl, z0, z1, z2, z3⟩ := hC.tis
 refine Zey Zam Tryz.func83 rfl rfl rfl rfl (Nat.le_of_ble_eq_true rfl) (Nat.le_of_ble_eq_true rfl) rfl ?_
 refine ZbL 0 1 (v0 := .agg [vI t0, vI v0, vI bi, vI bt, a0, a1, a2, a3, v]) (v1 := .agg [vI kd, dv]) rfl rfl ?_
 intro e he
 refine Zad (Zac (Zbn (cs := [vI t0, vI v0, vI bi, vI bt, a0, a1, a2, a3, v]) (v := .agg [vI t0, vI v0, vI bi, vI bt, a0, a1, a2, a3, v]) he.1 rfl fun b142 υ143 hn144 hu145 hb146 hv147 hX148 => ?_))
 refine Zac (Zbn (cs := [vI kd, dv]) (v := .agg [vI kd, dv]) he.2 rfl fun b149 υ150 hn151 hu152 hb153 hv154 hX155 => ?_)
 have ne156 := Zat hb146 hn151
 have hb146 := hX155.keep _ _ hb146
 have hv147 := hX155.used _ hv147
 refine Zac (ZaH (cs := [vI 0, vI 0, vI 0, vI 0, .lst none 0 0 [], .lst none 0 0 [], .lst none 0 0 [], .lst none 0 0 [], .lst none 0 0 []]) Zgq rfl fun b157 υ158 hn159 hu160 hb161 hv162 hX163 => ?_)
 have ne164 := Zat hb146 hn159
 have ne165 := Zat hb153 hn159
 have hb146 := hX163.keep _ _ hb146
 have hv147 := hX163.used _ hv147
 have hb153 := hX163.keep _ _ hb153
 have hv154 := hX163.used _ hv154
 refine Zac (ZaH (cs := [vT false]) Zni rfl fun b166 υ167 hn168 hu169 hb170 hv171 hX172 => ?_)
 have ne173 := Zat hb146 hn168
 have ne174 := Zat hb153 hn168
 have ne175 := Zat hb161 hn168
 have hb146 := hX172.keep _ _ hb146
 have hv147 := hX172.used _ hv147
 have hb153 := hX172.keep _ _ hb153
 have hv154 := hX172.used _ hv154
 have hb161 := hX172.keep _ _ hb161
 have hv162 := hX172.used _ hv162
 refine Zaf ?_
 refine ⟨[.pointer (some ⟨b157, 0, none⟩), .pointer (some ⟨b166, 0, none⟩)], (by simp only [List.map_cons, List.map_nil, EV,Nat.reduceEqDiff,↓reduceIte,he];try rfl), ?_⟩
 refine ZnG 2 3 4 5 (v0 := ptr b142 0) (v1 := ptr b149 0) (v2 := ptr b157 0) (v3 := ptr b166 0) (by first | rfl | (simp only [EV,Nat.reduceEqDiff,↓reduceIte,he] <;> rfl)) (by first | rfl | (simp only [EV,Nat.reduceEqDiff,↓reduceIte,he] <;> rfl)) (by first | rfl | (simp only [EV,Nat.reduceEqDiff,↓reduceIte,he] <;> rfl)) (by first | rfl | (simp only [EV,Nat.reduceEqDiff,↓reduceIte,he] <;> rfl)) ?_
 clear he e
 intro e he
 refine Zaa (Zac (Zqo Zcm fun b176 υ177 hn178 hu179 hb180 hv181 hX182 => ?_))
 have ne183 := Zat hb146 hn178
 have ne184 := Zat hb153 hn178
 have ne185 := Zat hb161 hn178
 have ne186 := Zat hb170 hn178
 have hb146 := hX182.keep _ _ hb146
 have hv147 := hX182.used _ hv147
 have hb153 := hX182.keep _ _ hb153
 have hv154 := hX182.used _ hv154
 have hb161 := hX182.keep _ _ hb161
 have hv162 := hX182.used _ hv162
 have hb170 := hX182.keep _ _ hb170
 have hv171 := hX182.used _ hv171
 refine Zac (Zah (b := b142) (o := 0) (r := .agg [vI t0, vI v0, vI bi, vI bt, a0, a1, a2, a3, v]) he.1 hb146 Zle Zlf rfl ?_)
 refine Zac (Zcw (us := [.agg [vI t0, vI v0, vI bi, vI bt, a0, a1, a2, a3, v]]) (vs := []) (by simp only [List.map_cons, List.map_nil, EV,Nat.reduceEqDiff,↓reduceIte,he];try rfl) rfl ?_)
 refine Zac (Zcy (es := []) (k := 1) (v := Zgk 126 [vI t0, vI v0, vI bi, vI bt, a0, a1, a2, a3, v]) rfl rfl rfl hb180 Zcm fa1 (by intro p hp; cases hp) fun υ187 hb180 k188 => ?_)
 have hb146 := k188.keep _ _ (Ne.symm ne183) hb146
 have hv147 := k188.used _ hv147
 have hb153 := k188.keep _ _ (Ne.symm ne184) hb153
 have hv154 := k188.used _ hv154
 have hb161 := k188.keep _ _ (Ne.symm ne185) hb161
 have hv162 := k188.used _ hv162
 have hb170 := k188.keep _ _ (Ne.symm ne186) hb170
 have hv171 := k188.used _ hv171
 have hv181 := k188.used _ hv181
 refine Zac (Zah (b := b142) (o := 0) (r := .agg [vI t0, vI v0, vI bi, vI bt, a0, a1, a2, a3, v]) he.1 hb146 Zle Zlf rfl ?_)
 refine Zac (Zcw (us := [.agg [vI t0, vI v0, vI bi, vI bt, a0, a1, a2, a3, v]]) (vs := []) (by simp only [List.map_cons, List.map_nil, EV,Nat.reduceEqDiff,↓reduceIte,he];try rfl) rfl ?_)
 refine Zac (Zcy (es := [(1, Zgk 126 [vI t0, vI v0, vI bi, vI bt, a0, a1, a2, a3, v])]) (k := 2) (v := Zgk 127 [vI t0, vI v0, vI bi, vI bt, a0, a1, a2, a3, v]) rfl rfl rfl hb180 Zcm fa1 (by intro p hp; simp only [List.mem_cons, List.not_mem_nil, or_false] at hp; rcases hp with rfl <;> first | exact (by decide : (1 : Int) ≠ 2)) fun υ189 hb180 k190 => ?_)
 have hb146 := k190.keep _ _ (Ne.symm ne183) hb146
 have hv147 := k190.used _ hv147
 have hb153 := k190.keep _ _ (Ne.symm ne184) hb153
 have hv154 := k190.used _ hv154
 have hb161 := k190.keep _ _ (Ne.symm ne185) hb161
 have hv162 := k190.used _ hv162
 have hb170 := k190.keep _ _ (Ne.symm ne186) hb170
 have hv171 := k190.used _ hv171
 have hv181 := k190.used _ hv181
 refine Zac (Zah (b := b142) (o := 0) (r := .agg [vI t0, vI v0, vI bi, vI bt, a0, a1, a2, a3, v]) he.1 hb146 Zle Zlf rfl ?_)
 refine Zac (Zcw (us := [.agg [vI t0, vI v0, vI bi, vI bt, a0, a1, a2, a3, v]]) (vs := []) (by simp only [List.map_cons, List.map_nil, EV,Nat.reduceEqDiff,↓reduceIte,he];try rfl) rfl ?_)
 refine Zac (Zcy (es := [(1, Zgk 126 [vI t0, vI v0, vI bi, vI bt, a0, a1, a2, a3, v]), (2, Zgk 127 [vI t0, vI v0, vI bi, vI bt, a0, a1, a2, a3, v])]) (k := 3) (v := Zgk 128 [vI t0, vI v0, vI bi, vI bt, a0, a1, a2, a3, v]) rfl rfl rfl hb180 Zcm fa1 (by intro p hp; simp only [List.mem_cons, List.not_mem_nil, or_false] at hp; rcases hp with rfl | rfl <;> first | exact (by decide : (1 : Int) ≠ 3) | exact (by decide : (2 : Int) ≠ 3)) fun υ191 hb180 k192 => ?_)
 have hb146 := k192.keep _ _ (Ne.symm ne183) hb146
 have hv147 := k192.used _ hv147
 have hb153 := k192.keep _ _ (Ne.symm ne184) hb153
 have hv154 := k192.used _ hv154
 have hb161 := k192.keep _ _ (Ne.symm ne185) hb161
 have hv162 := k192.used _ hv162
 have hb170 := k192.keep _ _ (Ne.symm ne186) hb170
 have hv171 := k192.used _ hv171
 have hv181 := k192.used _ hv181
 refine Zag ?_
 refine Zac (Zae (b := b149) (o := 0) he.2.1 Zlg rfl ?_)
 refine Zac (Zah (b := b149) (o := 0 + 0) (r := vI kd) rfl hb153 fa9 ZbG rfl ?_)
 refine Zac (Zf3 (es := Zj3 [vI t0, vI v0, vI bi, vI bt, a0, a1, a2, a3, v]) (k := kd) (zv := .nilFunc) (r := .nilFunc) rfl rfl hb180 Zcm fa1 Zix hway ?_)
 refine Zag ?_
 refine Zaf (kp4 3 4 5 6 fun e he => ?_)
 refine Zjl 2 ?_
 simp only [List.take_succ_cons, List.take_zero]
 refine Zag ?_
 refine Zac (ZoJ Zj2 rfl rfl ?_)
 refine Zaf (ZjX (vs := [vT false]) (by simp only [List.map_cons, List.map_nil, EV,Nat.reduceEqDiff,↓reduceIte,he];try rfl) ?_)
 refine Zdl ?_
 show ZfE _ _ _ _ _ _
 refine ZkY hb161 hb170 (Ne.symm ne175) fun τ196 g193 g194 k195 => ⟨rfl, _, Zbd rfl (ZaJ he.2.1 g193 Zhy Zdx rfl) (ZaJ he.2.2.1 g194 ZiQ Zhu rfl), hK _ _ ⟨_, _, _, _, _, rfl, Zch, Zd5⟩ ?_⟩
 exact But.ext (But.ext (But.ext (But.ext ((((hX148.trans hX155).trans hX163).trans hX172).trans hX182) (fun g hg => by rw [hg]; exact (((hX148.trans hX155).trans hX163).trans hX172).noneOf hn178) k188) (fun g hg => by rw [hg]; exact (((hX148.trans hX155).trans hX163).trans hX172).noneOf hn178) k190) (fun g hg => by rw [hg]; exact (((hX148.trans hX155).trans hX163).trans hX172).noneOf hn178) k192) (fun c hc => by rcases hc with rfl | rfl <;> first | exact ((hX148.trans hX155).noneOf hn159) | exact (((hX148.trans hX155).trans hX163).noneOf hn168)) k195
end
theorem Zqr {m : Nat} {st : Option (List UInt8)} (hs : (Zbr m st).2.isNone = false) : ((Zbr m st).2.getD []).length + 1 <= (st.getD []).length := by
 unfold Zbr at hs ⊢
 split at hs
 ·cases hs
 ·rename_i p h
  cases st with
  | none => cases h
  | some l =>
   have h' : (Zgv 9 0 0 l).bind (fun p => if m < p.1 then none else some p) = some p := h
   cases hg : Zgv 9 0 0 l with
   | none => rw [hg] at h'; cases h'
   | some q =>
    rw [hg] at h'
    have h' : (if m < q.1 then none else some q) = some p := h'
    split at h'
    ·cases h'
    ·injection h' with h'
     subst h'
     have := (ZeF 9 0 0 l hg).2.1
     show q.2.length + 1 <= l.length
     omega
theorem Zqs {st : Option (List UInt8)} (hs : (Zbs st).ok = true) : ((Zbs st).left.getD []).length + 1 <= (st.getD []).length := by
 have h2 := ZbN (m := 255) (st := (Zbr 1073741824 st).2)
 have h3 := ZkT (m := 131072) (st := (Zbr 255 (Zbr 1073741824 st).2).2)
 have h4 := Zhk 4 (Ze9 131072 (Zbr 255 (Zbr 1073741824 st).2).2).2
 have h5 : (Zbs st).left = (ZdT 4 (Ze9 131072 (Zbr 255 (Zbr 1073741824 st).2).2).2).2 := by
  unfold Zbs
  dsimp only
  generalize (ZdT 4 (Ze9 131072 (Zbr 255 (Zbr 1073741824 st).2).2).2).2.isNone = b1
  generalize Za8 _ _ _ _ = b2
  cases b1 <;> cases b2 <;> rfl
 have h1 : (Zbr 1073741824 st).2.isNone = false := by
  cases hq : (Zbr 1073741824 st).2 with
  | some l => rfl
  | none =>
   exfalso
   unfold Zbs at hs
   dsimp only at hs
   rw [hq] at hs
   have : (ZdT 4 (Ze9 131072 (Zbr 255 none).2).2).2.isNone = true := rfl
   rw [this] at hs
   cases hs
 have h1 := Zqr h1
 rw [h5]
 omega
theorem Zjr : ∀ (n : Nat) (st : Option (List UInt8)) {r : List Ent} {st' : Option (List UInt8)}, ZcY n st = some (r, st') -> r.length = n /\ r.length + (st'.getD []).length <= (st.getD []).length
 | 0, st, r, st', h => by
  unfold ZcY at h
  cases h
  exact ⟨rfl, by simp⟩
 | n + 1, st, r, st', h => by
  unfold ZcY at h
  split at h
  ·rename_i hok
   cases hr : ZcY n (Zbs st).left with
   | none => rw [hr] at h; cases h
   | some p =>
    rw [hr] at h
    injection h with h
    injection h with h1 h2
    subst h1 h2
    have h3 := Zjr n (Zbs st).left (r := p.1) (st' := p.2) hr
    have h4 := Zqs hok
    rw [List.length_cons]
    omega
  ·cases h
structure JOk (s : JSt) (m : Nat) : Prop where
 bi : 0 <= s.bi /\ s.bi <= 1073741824
 es : s.es.length <= m
 cl : ∀ e ∈ s.es, e.c.length <= 1000000 /\ ∀ l ∈ e.ls, l.length <= 1000000
 bl : ∀ l ∈ s.bc, l.length <= 1000000
theorem rowS_most {m : Nat} {st : Option (List UInt8)} : (Ze9 m st).1.length <= m := by
 have h := (ZcH (most := m) (st := st)).1
 unfold Ze9
 split
 ·rename_i n l hq
  rw [hq] at h
  split
  ·exact Nat.zero_le _
  ·rw [List.length_take]
   have h : n <= m := h
   omega
 ·exact Nat.zero_le _
theorem Zhm : ∀ (n : Nat) (st : Option (List UInt8)), ∀ l ∈ (ZdT n st).1, l.length <= 5
 | 0, st, l, h => by cases h
 | n + 1, st, l, h => by
  have h : l ∈ (ZdT n st).1 ++ [(Zc4 (ZdT n st).2).1] := h
  rcases List.mem_append.1 h with h | h
  ·exact Zhm n st l h
  ·rw [List.mem_singleton.1 h]
   unfold Zc4
   rw [Zev]
   exact ZcH.1
theorem entS_most {st : Option (List UInt8)} : (Zbs st).e.c.length <= 1000000 /\ ∀ l ∈ (Zbs st).e.ls, l.length <= 1000000 := by
 unfold Zbs
 dsimp only
 have h1 := @rowS_most 131072 (Zbr 255 (Zbr 1073741824 st).2).2
 have h2 := Zhm 4 (Ze9 131072 (Zbr 255 (Zbr 1073741824 st).2).2).2
 have z : (⟨0, 0, [], [[], [], [], []]⟩ : Ent).c.length <= 1000000 /\ ∀ l ∈ (⟨0, 0, [], [[], [], [], []]⟩ : Ent).ls, l.length <= 1000000 := ⟨by simp, by simp⟩
 generalize (ZdT 4 (Ze9 131072 (Zbr 255 (Zbr 1073741824 st).2).2).2).2.isNone = b1
 generalize Za8 _ _ _ _ = b2
 cases b1 with
 | true => exact z
 | false =>
  cases b2 with
  | false => exact z
  | true => exact ⟨by show (Ze9 _ _).1.length <= _; omega, fun l hl => Nat.le_trans (h2 l hl) (by omega)⟩
theorem ZhY : ∀ (n : Nat) (st : Option (List UInt8)) {r : List Ent} {st' : Option (List UInt8)}, ZcY n st = some (r, st') -> ∀ e ∈ r, e.c.length <= 1000000 /\ ∀ l ∈ e.ls, l.length <= 1000000
 | 0, st, r, st', h => by
  unfold ZcY at h
  cases h
  intro e he
  cases he
 | n + 1, st, r, st', h => by
  unfold ZcY at h
  split at h
  ·cases hr : ZcY n (Zbs st).left with
   | none => rw [hr] at h; cases h
   | some p =>
    rw [hr] at h
    injection h with h
    injection h with h1 h2
    subst h1 h2
    intro e he
    rcases List.mem_cons.1 he with rfl | he
    ·exact entS_most
    ·exact ZhY n _ (r := p.1) (st' := p.2) hr e he
  ·cases h
theorem baseS_most {st : Option (List UInt8)} : ∀ l ∈ (Zcg st).ls, l.length <= 1000000 := by
 unfold Zcg
 dsimp only
 split
 ·exact fun l hl => Nat.le_trans (Zhm 4 _ l hl) (by omega)
 ·intro l hl
  simp only [List.mem_cons, List.not_mem_nil, or_false] at hl
  rcases hl with rfl | rfl | rfl | rfl <;> exact Nat.zero_le _
theorem ZlF {bi bt : Int} {es : List Ent} {w : ZoA} : ∀ e ∈ ZbW bi bt es w, e ∈ es := by
 unfold ZbW
 have h : ∀ n, ∀ e ∈ es.drop n, e ∈ es := fun n e he => List.mem_of_mem_drop he
 dsimp only [cond]
 repeat' split
 all_goals first | exact h _ | exact (fun e he => he) | exact (fun e he => by cases he)
theorem standE_len {bi bt : Int} {es : List Ent} {w : ZoA} : (ZbW bi bt es w).length <= es.length := by
 unfold ZbW
 have h : ∀ n, (es.drop n).length <= es.length := fun n => by rw [List.length_drop]; omega
 dsimp only [cond]
 repeat' split
 all_goals first | exact Nat.zero_le _ | exact Nat.le_refl _ | exact h _
def ZoN (k : Int) (s : JSt) (st : Option (List UInt8)) : Option (JSt × Option (List UInt8)) :=
 if k = 1 then some (ZlB s st) else if k = 2 then ZcO s st else if k = 3 then ZeY s st else none
def Zc5 (s : JSt) (k : Int) (d : List UInt8) : Option JSt := match ZoN k s (some d) with
 | some (s2, st2) => if st2 = some [] then some s2 else none
 | none => none
theorem Znk {k : Int} {s s2 : JSt} {d : List UInt8} {st2 : Option (List UInt8)} {m : Nat} (hs : JOk s m) (h : ZoN k s (some d) = some (s2, st2)) : JOk s2 (m + d.length) := by
 unfold ZoN at h
 split at h
 ·injection h with h
  injection h with h1 h2
  subst h1
  exact ⟨hs.bi, by have := hs.es; show s.es.length <= _; omega, hs.cl, hs.bl⟩
 split at h
 ·obtain ⟨_, r, h1, rfl⟩ := Zd6 rfl rfl h
  refine ⟨hs.bi, ?_, fun e he => (List.mem_append.1 he).elim (fun q => hs.cl e (List.mem_of_mem_take q)) fun q => ZhY _ _ h1 e q, hs.bl⟩
  have h2 := (Zjr _ _ h1).2
  have h3 := ZbN (m := 1073741824) (st := some d)
  have h4 := ZbN (m := 1073741824) (st := (Zbr 1073741824 (some d)).2)
  have h5 := hs.es
  have h6 : ((some d : Option (List UInt8)).getD []).length = d.length := rfl
  show (s.es.take _ ++ r).length <= _
  rw [List.length_append, List.length_take]
  omega
 split at h
 ·unfold ZeY at h
  split at h
  ·rename_i hc
   injection h with h
   injection h with h1 h2
   subst h1
   have := @baseS_le (some d)
   have h5 := hs.es
   have h6 := @standE_len s.bi s.bt s.es (Zcg (some d))
   exact ⟨⟨by show (0 : Int) <= ((Zcg (some d)).idx : Nat); omega, by show (((Zcg (some d)).idx : Nat) : Int) <= _; omega⟩, by show (ZbW _ _ _ _).length <= _; omega, fun e he => hs.cl e (ZlF e he), baseS_most⟩
  ·cases h
 ·cases h
theorem ZkZ {k : Int} {s s2 : JSt} {d : List UInt8} {m : Nat} (hs : JOk s m) (h : Zc5 s k d = some s2) : JOk s2 (m + d.length) := by
 unfold Zc5 at h
 split at h
 ·rename_i s3 st3 hw
  split at h
  ·cases h; exact Znk hs hw
  ·cases h
 ·cases h
section
variable {σ : St} {K : AV -> St -> Prop}
theorem Ziy {cs : List AV} {s : JSt} {kd : Int} {dv : AV} {d : List UInt8} {m : Nat} (hJ : JT cs s) (hs : JOk s m) (hm : m <= 1000000000) (hB : ∀ τ, Ext σ τ -> Za5 τ dv d) (hl : d.length <= 1000000000)
 (hK1 : ∀ s2 cs τ, Zc5 s kd d = some s2 -> JT cs s2 -> Ext σ τ -> K (.tup [.agg cs, vT true]) τ) (hK0 : ∀ s2 cs τ, Zc5 s kd d = none -> JT cs s2 -> Ext σ τ -> K (.tup [.agg cs, vT false]) τ) : Zan Tryz.prog 83 [.agg cs, .agg [vI kd, dv]] σ K := by
 obtain ⟨a0, a1, a2, a3, v, rfl, hC, hE⟩ := hJ
 obtain ⟨t0, v0, bi, bt, bc, es⟩ := s
 have hes : es.length <= 1000000000 := Nat.le_trans hs.es hm
 have ok : ∀ (s2 : JSt) (st2 : Option (List UInt8)) (cs : List AV) (τ : St), ZoN kd ⟨t0, v0, bi, bt, bc, es⟩ (some d) = some (s2, st2) -> JT cs s2 -> Ext σ τ -> K (.tup [.agg cs, vT (decide ((if st2 = some [] then (0 : Int) else 4) = 0))]) τ := fun s2 st2 cs τ hw h1 h2 => by
  by_cases he : st2 = some []
  ·rw [if_pos he]
   exact hK1 s2 cs τ (by unfold Zc5; rw [hw]; exact if_pos he) h1 h2
  ·rw [if_neg he]
   exact hK0 s2 cs τ (by unfold Zc5; rw [hw]; exact if_neg he) h1 h2
 have no : ∀ (cs : List AV) (τ : St), ZoN kd ⟨t0, v0, bi, bt, bc, es⟩ (some d) = none -> JT cs ⟨0, 0, 0, 0, [[], [], [], []], []⟩ -> Ext σ τ -> K (.tup [.agg cs, vT false]) τ := fun cs τ hw h1 h2 => hK0 _ cs τ (by unfold Zc5; rw [hw]) h1 h2
 by_cases h1 : kd = 1
 ·subst h1
  have hw : ZoN 1 ⟨t0, v0, bi, bt, bc, es⟩ (some d) = some (ZlB ⟨t0, v0, bi, bt, bc, es⟩ (some d)) := rfl
  exact Zj5 hC hE hB hl (g := 126) rfl (fun rb τ hR hX K2 hk => Zqn hC hE hR hk) fun cs τ => ok _ _ cs τ hw
 by_cases h2 : kd = 2
 ·subst h2
  have hw : ZoN 2 ⟨t0, v0, bi, bt, bc, es⟩ (some d) = ZcO ⟨t0, v0, bi, bt, bc, es⟩ (some d) := rfl
  cases he : ZcO ⟨t0, v0, bi, bt, bc, es⟩ (some d) with
  | some r =>
   rw [he] at hw
   have := (Znk hs (s2 := r.1) (st2 := r.2) hw).es
   exact Zj5 hC hE hB hl (g := 127) rfl (fun rb τ hR hX K2 hk => ZlD (st := some d) hC hE hs.bi hes hl hR (s2 := r.1) (st2 := r.2) he (by omega) hk) fun cs τ => ok _ _ cs τ hw
  | none =>
   rw [he] at hw
   exact Zjq hC hE hB hl (g := 127) rfl (fun rb τ hR hX K2 hk => Zjm (st := some d) hC hE hs.bi hes hl hR he hk) fun cs τ => no cs τ hw
 by_cases h3 : kd = 3
 ·subst h3
  have hw : ZoN 3 ⟨t0, v0, bi, bt, bc, es⟩ (some d) = ZeY ⟨t0, v0, bi, bt, bc, es⟩ (some d) := rfl
  cases he : ZeY ⟨t0, v0, bi, bt, bc, es⟩ (some d) with
  | some r =>
   rw [he] at hw
   exact Zj5 hC hE hB hl (g := 128) rfl (fun rb τ hR hX K2 hk => ZoH hC hE hs.bi hes hR (s2 := r.1) (st2 := r.2) he hk) fun cs τ => ok _ _ cs τ hw
  | none =>
   rw [he] at hw
   exact Zjq hC hE hB hl (g := 128) rfl (fun rb τ hR hX K2 hk => ZlE hC hE hs.bi hes hR he hk) fun cs τ => no cs τ hw
 ·refine ZoM hC hE hB hl ?_ fun cs τ => no cs τ (by unfold ZoN; rw [if_neg h1, if_neg h2, if_neg h3])
  unfold Zj3 lkp lkp lkp lkp
  rw [decide_eq_false h1, decide_eq_false h2, decide_eq_false h3]
  rfl
end
end Go.Proofs.YtiienjjhlibopaaGreatDoor
