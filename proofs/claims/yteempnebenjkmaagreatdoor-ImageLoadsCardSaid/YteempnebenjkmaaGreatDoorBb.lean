/- The base: codes, functions, steps of a walk, append, data. -/
import Derived.Test.YteempnebenjkmaaGreatDoorBa
import Derived.IntWalk
import Derived.WalkLawsBesides
import Derived.Laws.AppendOwn
import Derived.Lib.LazyBuf
import Derived.Laws.Entries
import Derived.Laws.StructEq
import Derived.Laws.Pointers
namespace Go.Proofs.YteempnebenjkmaaGreatDoor
open Go.RowKit
set_option maxRecDepth 100000
set_option linter.unusedVariables false
abbrev Zf7 := Exit -> Env -> St -> Prop
def Zln (next : Env -> St -> Prop) (Q : Zf7) : Zf7
 | .normal, env, σ => next env σ
 | e, env, σ => Q e env σ
def Zf8 (id : Nat) (Q : Zf7) : Zf7
 | .exit id', env, σ => if id' = id then Q .normal env σ else Q (.exit id') env σ
 | e, env, σ => Q e env σ
def ZyT (Q : Zf7) : Zf7
 | .goto _, _, _ => False
 | e, env, σ => Q e env σ
def ZaJ (P : Program) (O : Nat -> Prop) : Code -> Zf7 -> Env -> St -> Prop
 | .skip, Q, env, σ => Q .normal env σ
 | .region _ ops draw, Q, env, σ => Zt6 O env σ fun env σ => match draw with
  | false => Zbx P ops ops.toList env σ (Q .normal)
  | true => Zlm P ops env σ (Q .normal)
 | .seq a b, Q, env, σ => ZaJ P O a (Zln (ZaJ P O b Q) Q) env σ
 | .cond c a b, Q, env, σ => ∃ t, (ev env c).val = .bool t /\ (t = true -> ZaJ P O a Q env σ) /\ (t = false -> ZaJ P O b Q env σ)
 | .block id c, Q, env, σ => ZaJ P O c (Zf8 id Q) env σ
 | .loop c, Q, env, σ => ∃ (I : Nat -> Env -> St -> Prop) (n : Nat), I n env σ /\ ∀ n env σ, I n env σ -> ZaJ P O c (Zln (fun env' σ' => ∃ n', n' < n /\ I n' env' σ') Q) env σ
 | .exit id, Q, env, σ => Q (.exit id) env σ
 | .scope c, Q, env, σ => ZaJ P O c (ZyT Q) env σ
 | .ret, Q, env, σ => Q .ret env σ
 | _, _, _, _ => False
def ZeC (nt : Nat) : Code -> Bool
 | .region _ ops _ => Zlj nt ops.toList
 | .seq a b => ZeC nt a && ZeC nt b
 | .cond _ a b => ZeC nt a && ZeC nt b
 | .block _ c => ZeC nt c
 | .loop c => ZeC nt c
 | .scope c => ZeC nt c
 | _ => true
def ZCa (nt : Nat) (O : Nat -> Prop) (w0 : World) (σ0 : St) (Z : Nat -> Prop) (Q : Zf7) : Exit -> Act -> World -> Prop := fun e a w => ∃ env σ, Q e env σ /\ Zhi nt w σ Z env a /\ Zf6 O w0 σ0 w σ
section
variable {P : Program} {Z O : Nat -> Prop} {nt : Nat}
theorem ZCa.grow {w0 w1 : World} {σ0 σ1 : St} {Q : Zf7} (hG : Zf6 O w0 σ0 w1 σ1) {e : Exit} {a : Act} {w : World} (h : ZCa nt O w1 σ1 Z Q e a w) : ZCa nt O w0 σ0 Z Q e a w := by
 obtain ⟨env, σ, h1, h2, h3⟩ := h
 exact ⟨env, σ, h1, h2, hG.trans h3⟩
theorem Zcr (hm : P.follows .mixedOrders = true) : ∀ (c : Code) (Q : Zf7) (env : Env) (σ : St) (a : Act) (w : World), ZeC nt c = true -> Zhi nt w σ Z env a -> ZaJ P O c Q env σ -> c.wp P (ZCa nt O w σ Z Q) a w
 | .skip, Q, env, σ, a, w, _, hI, h => wp_skip ⟨env, σ, h, hI, Zf6.refl _ _⟩
 | .region id ops false, Q, env, σ, a, w, hok, hI, h => by
  obtain ⟨env1, σ1, h, hI, hG⟩ := Zt6.sound hI h
  refine wp_region_list (Zlk (Z := Z) (nt := nt) hok ops.toList env1 σ1 a w (Q .normal) (fun _ h => h) hI h ?_)
  rintro a' w' ⟨env', σ', h1, h2, h3⟩
  exact ⟨env', σ', h1, h2, hG.trans h3.toO⟩
 | .region id ops true, Q, env, σ, a, w, hok, hI, h => by
  obtain ⟨env1, σ1, h, hI, hG⟩ := Zt6.sound hI h
  refine ZoZ (K := Q .normal) hm hok hI h ?_
  rintro a' w' ⟨env', σ', h1, h2, h3⟩
  exact ⟨env', σ', h1, h2, hG.trans h3.toO⟩
 | .seq x y, Q, env, σ, a, w, hok, hI, h => by
  unfold ZeC at hok
  simp only [Bool.and_eq_true] at hok
  refine wp_seq (wp_mono (Zcr hm x _ env σ a w hok.1 hI h) ?_)
  rintro e a' w' ⟨env', σ', h1, h2, h3⟩
  cases e with
  | normal => exact wp_mono (Zcr hm y Q env' σ' a' w' hok.2 h2 h1) fun e a2 w2 h => h.grow h3
  | _ => exact ⟨env', σ', h1, h2, h3⟩
 | .cond c x y, Q, env, σ, a, w, hok, hI, h => by
  unfold ZeC at hok
  simp only [Bool.and_eq_true] at hok
  obtain ⟨t, h1, h2, h3⟩ := h
  have hc : a.eval c = .bool t := (hI.eval c).1.trans h1
  cases t with
  | true => exact wp_cond_true hc (Zcr hm x Q env σ a w hok.1 hI (h2 rfl))
  | false => exact wp_cond_false hc (Zcr hm y Q env σ a w hok.2 hI (h3 rfl))
 | .block id c, Q, env, σ, a, w, hok, hI, h => by
  unfold ZeC at hok
  refine wp_block (wp_mono (Zcr hm c _ env σ a w hok hI h) ?_)
  rintro e a' w' ⟨env', σ', h1, h2, h3⟩
  cases e with
  | exit id' =>
   unfold Zf8 at h1
   unfold Exit.inBlock
   dsimp only at h1 ⊢
   split
   ·rename_i he; rw [if_pos he] at h1; exact ⟨env', σ', h1, h2, h3⟩
   ·rename_i he; rw [if_neg he] at h1; exact ⟨env', σ', h1, h2, h3⟩
  | _ => exact ⟨env', σ', h1, h2, h3⟩
 | .loop c, Q, env, σ, a, w, hok, hI, h => by
  unfold ZeC at hok
  obtain ⟨I, n, h1, h2⟩ := h
  refine wp_loop_ghost (fun n a' w' => ∃ env' σ', I n env' σ' /\ Zhi nt w' σ' Z env' a' /\ Zf6 O w σ w' σ') n ⟨env, σ, h1, hI, Zf6.refl _ _⟩ ?_
  rintro m a1 w1 ⟨env1, σ1, hI1, hA1, hG1⟩
  refine wp_mono (Zcr hm c _ env1 σ1 a1 w1 hok hA1 (h2 m env1 σ1 hI1)) ?_
  rintro e a' w' ⟨env', σ', g1, g2, g3⟩
  cases e with
  | normal =>
   obtain ⟨n', hn', hI'⟩ := g1
   exact ⟨n', hn', env', σ', hI', g2, hG1.trans g3⟩
  | _ => exact ⟨env', σ', g1, g2, hG1.trans g3⟩
 | .exit id, Q, env, σ, a, w, _, hI, h => wp_exit ⟨env, σ, h, hI, Zf6.refl _ _⟩
 | .scope c, Q, env, σ, a, w, hok, hI, h => by
  unfold ZeC at hok
  refine wp_scope_straight (wp_mono (Zcr hm c _ env σ a w hok hI h) ?_)
  rintro e a' w' ⟨env', σ', h1, h2, h3⟩
  cases e with
  | goto l => exact h1.elim
  | _ => exact ⟨env', σ', h1, h2, h3⟩
 | .ret, Q, env, σ, a, w, _, hI, h => wp_ret ⟨env, σ, h, hI, Zf6.refl _ _⟩
def Zbf (P : Program) (env : Env) (σ : St) : ResultVar -> Option AV
 | .tmp t => some (env t)
 | .cell a t => Zdk P t σ (env a)
def Za1 (P : Program) (fn : Func) (env : Env) (σ : St) (r : AV) : Prop := match fn.results.toList with
 | [x] => Zbf P env σ x = some r
 | l => ∃ rs, l.mapM (Zbf P env σ) = some rs /\ r = .tup rs
def ZCv (P : Program) (fn : Func) (K : AV -> St -> Prop) : Zf7
 | .normal, env, σ | .ret, env, σ => ∃ r, Za1 P fn env σ r /\ K r σ
 | _, _, _ => False
def ZwH (args : List AV) : Env := fun i => args.getD i (.raw undef)
theorem Zt8 {w : World} {σ : St} {t : TypeId} {x r : AV} (h : Zdk P t σ x = some r) : ∃ ad, x.val = .pointer (some ad) := by
 unfold Zdk at h
 split at h
 ·exact ⟨_, by simp; rfl⟩
 ·exact ⟨_, by simp; rfl⟩
 ·cases h
def Zt9 (tmps : Array Value) : ResultVar -> Sem Value
 | .tmp t => pure (tmps.getD t undef)
 | .cell a t => do loadVar t (<- asAddr (tmps.getD a undef))
theorem ZsQ {w : World} {σ : St} {env : Env} {a : Act} (hI : Zhi nt w σ Z env a) (x : ResultVar) {r : AV} (h : Zbf P env σ x = some r) :
 (Zt9 a.tmps x).run P w = .ok r.val w /\ Zag w (σ.free Z) r := by
 cases x with
 | tmp t =>
  injection h with h
  subst h
  exact ⟨by simp [Zt9, hI.val t], hI.valid t⟩
 | cell b t =>
  obtain ⟨h1, h2⟩ := Zle hI.heap (hI.valid b) h
  obtain ⟨ad, had⟩ := Zt8 (w := w) h
  refine ⟨?_, h2⟩
  rw [had] at h1
  simp only [Zt9, hI.val b, had, asAddr]
  simpa [Instr.loadAt, Instr.sureAddr] using h1
theorem Zgs {w : World} {σ : St} {env : Env} {a : Act} (hI : Zhi nt w σ Z env a) : ∀ (l : List ResultVar) (rs : List AV), l.mapM (Zbf P env σ) = some rs ->
 (l.mapM (Zt9 a.tmps)).run P w = .ok (rs.map AV.val) w /\ ∀ r ∈ rs, Zag w (σ.free Z) r
 | [], rs, h => by simp at h; subst h; exact ⟨by simp, by simp⟩
 | x :: l, rs, h => by
  simp only [List.mapM_cons, Option.bind_eq_bind, Option.pure_def] at h
  cases hx : Zbf P env σ x with
  | none => simp [hx] at h
  | some r =>
   cases hl : l.mapM (Zbf P env σ) with
   | none => simp [hx, hl] at h
   | some rs' =>
    simp [hx, hl] at h
    subst h
    obtain ⟨h1, h2⟩ := ZsQ hI x hx
    obtain ⟨h3, h4⟩ := Zgs hI l rs' hl
    refine ⟨?_, fun r' hr' => ?_⟩
    ·rw [List.mapM_cons, Sem.run_bind, h1]
     simp only [Result.andThen_ok, Sem.run_bind]
     rw [h3]
     simp
    ·rcases List.mem_cons.1 hr' with rfl | hr'
     ·exact h2
     ·exact h4 r' hr'
theorem Zqt {w : World} {σ : St} {env : Env} {a : Act} {fn : Func} (hI : Zhi nt w σ Z env a) {r : AV} (h : Za1 P fn env σ r) : (results fn a.tmps).run P w = .ok r.val w /\ Zag w (σ.free Z) r := by
 have key : ∃ rs, fn.results.toList.mapM (Zbf P env σ) = some rs /\ ((∃ x, rs = [x] /\ r = x) \/ (rs.length ≠ 1 /\ r = .tup rs)) := by
  unfold Za1 at h
  split at h
  ·rename_i x hx
   rw [hx]
   exact ⟨[r], by simp [h], .inl ⟨r, rfl, rfl⟩⟩
  ·rename_i l hne
   obtain ⟨rs, h1, h2⟩ := h
   refine ⟨rs, h1, .inr ⟨fun hl => ?_, h2⟩⟩
   have hlen : rs.length = fn.results.toList.length := by
    have : ∀ (l : List ResultVar) (rs : List AV), l.mapM (Zbf P env σ) = some rs -> rs.length = l.length := by
     intro l
     induction l with
     | nil => intro rs h; simp at h; subst h; rfl
     | cons x l ih =>
      intro rs h
      simp only [List.mapM_cons, Option.bind_eq_bind, Option.pure_def] at h
      cases hx : Zbf P env σ x with
      | none => simp [hx] at h
      | some r =>
       cases hl : l.mapM (Zbf P env σ) with
       | none => simp [hx, hl] at h
       | some rs' =>
        simp [hx, hl] at h
        subst h
        simp [ih rs' hl]
    exact this _ _ h1
   match hq : fn.results.toList with
   | [] => rw [hl, hq] at hlen; simp at hlen
   | [x] => exact hne x hq
   | x :: y :: l' => rw [hl, hq] at hlen; simp at hlen
 obtain ⟨rs, h1, h2⟩ := key
 obtain ⟨h3, h4⟩ := Zgs hI _ rs h1
 have he : results fn a.tmps = (fn.results.mapM (Zt9 a.tmps) >>= fun vs => pure (if h : vs.size = 1 then vs[0] else .tuple vs)) := rfl
 rw [he, Sem.run_bind, Array.mapM_eq_mapM_toList, Sem.run_map, h3]
 rcases h2 with ⟨x, rfl, rfl⟩ | ⟨hn, rfl⟩
 ·exact ⟨by simp, h4 _ (by simp)⟩
 ·refine ⟨?_, by unfold Zag; exact ZaM.iff.2 h4⟩
  simp [hn]
theorem Zas {f : FuncId} {fn : Func} {c : Code} {args : List AV} {σ : St} {K : AV -> St -> Prop} (hm : P.follows .mixedOrders = true) (hf : P.funcs[f]? = some fn) (hb : fn.body = some c) (hname : (fn.name != "runtime.NumGoroutine") = true) (hok : ZeC fn.ntmps c = true) (hn : args.length <= fn.ntmps)
 (h : ZaJ P σ.used c (ZCv P fn K) (ZwH args) σ) : Zal P f args σ K := by
 intro w Z hH hV
 refine .inl ⟨by unfold ZcZ; rw [hf]; simp [hb]; simpa using hname, ?_⟩
 refine calls_of_wp hf hb ?_
 have hI : Zhi fn.ntmps w σ Z (ZwH args) { tmps := (args.map AV.val).toArray ++ Array.replicate (fn.ntmps - (args.map AV.val).toArray.size) undef, defers := [] } := by
  refine ⟨hH, rfl, by simp; omega, fun i => ?_, fun i => ?_⟩
  ·unfold ZwH
   simp only [List.getD_eq_getElem?_getD, Array.getD_eq_getD_getElem?, Array.getElem?_append, List.size_toArray, List.length_map]
   by_cases hi : i < args.length
   ·simp [hi]
   ·simp only [if_neg hi, List.getElem?_eq_none (Nat.le_of_not_lt hi), Option.getD_none, AV.val_raw]
    by_cases h2 : i - args.length < fn.ntmps - args.length
    ·simp [h2]
    ·simp [h2]
  ·unfold ZwH
   rw [List.getD_eq_getElem?_getD]
   cases hi : args[i]? with
   | none => simp only [Option.getD_none]; unfold Zag; trivial
   | some x => exact hV x (List.mem_of_getElem? hi)
 refine wp_mono (Zcr hm c _ (ZwH args) σ _ w hok hI h) ?_
 rintro e a' w' ⟨env', σ', h1, h2, h3⟩
 have h3 := h3.full hH
 have fin : (∃ r, Za1 P fn env' σ' r /\ K r σ') -> (a'.defers = [] /\ ∃ v, (results fn a'.tmps).run P w' = .ok v w' /\ ∃ r σ'', Ending.returned v = .returned r.val /\ K r σ'' /\ Zan w' σ'' Z /\ Zag w' (σ''.free Z) r /\ Grow w σ w' σ'') := by
  rintro ⟨r, g1, g2⟩
  obtain ⟨g3, g4⟩ := Zqt h2 g1
  exact ⟨h2.defers, _, g3, r, σ', rfl, g2, h2.heap, g4, h3⟩
 cases e with
 | normal => exact fin h1
 | ret => exact fin h1
 | _ => exact h1.elim
theorem Zan.known {w : World} {σ : St} {Z : Nat -> Prop} (hH : Zan w σ Z) : (∀ b t cs, σ.blk b = some (.own t cs) -> AV.BlksL σ.used cs) /\ ∀ b k, σ.blk b = some k -> σ.used b := by
 have hu : ∀ b o, σ.free Z b o -> σ.used b := fun b o h => h.2.1
 refine ⟨fun b t cs hb => AV.BlksL_iff.2 fun c hc => Zag.blks hu _ ((hH.own _ _ _ hb).2.2 c hc), fun b k hb => ?_⟩
 cases k with
 | own t cs => exact (hH.own _ _ _ hb).1
 | tail t k s => exact (hH.tail _ _ _ _ hb).1
 | map es => exact (hH.map _ _ hb).1
theorem Zal.know {f : FuncId} {args : List AV} {σ : St} {K : AV -> St -> Prop} (hc : ZcZ P f = true) (h : ZyS σ (ZwH args) -> Zal P f args σ K) : Zal P f args σ K := by
 intro w Z hH hV
 have hu : ∀ b o, σ.free Z b o -> σ.used b := fun b o h => h.2.1
 refine (h ⟨fun i => ?_, hH.known.1, hH.known.2⟩) w Z hH hV
 unfold ZwH
 rw [List.getD_eq_getElem?_getD]
 cases hi : args[i]? with
 | none => simp
 | some x => exact Zag.blks hu _ (hV x (List.mem_of_getElem? hi))
theorem Zal.told {f : FuncId} {args : List AV} {σ : St} {K : AV -> St -> Prop} (h : Zal P f args σ fun r τ => r.Blks τ.used -> (∀ b, σ.used b -> τ.used b) -> K r τ) : Zal P f args σ K := by
 refine fun w Z hH hV => (h w Z hH hV).mono ?_
 rintro e w' ⟨r, σ', rfl, hK, hH', hV', hG⟩
 exact ⟨r, σ', rfl, hK (Zag.blks (fun b o h => h.2.1) _ hV') hG.more, hH', hV', hG⟩
end
section
variable {P : Program} {O : Nat -> Prop} {ops : Array Oper} {rest : List Oper} {env : Env} {σ : St} {K : Env -> St -> Prop} {d : Option Nat} {ty ty' t : TypeId} {pos : String} {af : Array Edge} {x y z : Operand}
theorem ZaN {o : Oper} (hg : o.guard = none) : aOp P ops o env σ K = ZdL P o (o.op.operands.toList.map (ev env)) σ (fun r σ' => K (env.put o.dst r) σ') := by
 unfold aOp Region.wanted
 rw [hg]
 rfl
theorem ZsR {op : Op} {j : Nat} {want : Bool} (hg : Zap ops env j = some want) (h : aOp P ops ⟨d, op, ty, pos, af, none⟩ env σ K) : aOp P ops ⟨d, op, ty, pos, af, some (j, want)⟩ env σ K := by
 rw [ZaN rfl] at h
 have hw : Region.wanted ⟨d, op, ty, pos, af, some (j, want)⟩ (Zap ops env) = true := by simp [Region.wanted, hg]
 unfold aOp
 rw [if_pos hw]
 exact h
theorem Zqu {op : Op} {j : Nat} {want : Bool} (hg : Zap ops env j = some (!want)) (h : K (env.put d (.raw undef)) σ) : aOp P ops ⟨d, op, ty, pos, af, some (j, want)⟩ env σ K := by
 have hw : ¬ Region.wanted ⟨d, op, ty, pos, af, some (j, want)⟩ (Zap ops env) = true := by simp [Region.wanted, hg]
 unfold aOp
 rw [if_neg hw]
 exact h
theorem Zua {v : AV} (hx : ev env x = v) (h : K (env.put d v) σ) : aOp P ops ⟨d, .move x, ty, pos, af, none⟩ env σ K := by
 subst hx; rw [ZaN rfl]; exact h
theorem ZkW {v : AV} (hx : ev env x = v) (h : K (env.put d v) σ) : aOp P ops ⟨d, .assign x, ty, pos, af, none⟩ env σ K := by
 subst hx; rw [ZaN rfl]; exact h
theorem Zbb {v : AV} (hx : ev env x = .raw (.bool true)) (hy : ev env y = v) (h : K (env.put d v) σ) : aOp P ops ⟨d, .pick x y z, ty, pos, af, none⟩ env σ K := by
 subst hy; rw [ZaN rfl]; exact ⟨true, by rw [hx]; simp, h⟩
theorem ZbR {v : AV} (hx : ev env x = .raw (.bool false)) (hy : ev env z = v) (h : K (env.put d v) σ) : aOp P ops ⟨d, .pick x y z, ty, pos, af, none⟩ env σ K := by
 subst hy; rw [ZaN rfl]; exact ⟨false, by rw [hx]; simp, h⟩
theorem ZyU {e : TypeId} {v : Value} (hz : ZaS P e = some v) (h : ∀ b, ¬ σ.used b -> σ.blk b = none -> K (env.put d (ptr b 0)) (σ.put b (.own e (AV.ofV v).cells))) : aOp P ops ⟨d, .alloc e, ty, pos, af, none⟩ env σ K := by
 rw [ZaN rfl]; exact ⟨v, hz, h⟩
theorem ZCw {e : TypeId} {v : AV} (hx : ev env x = v) (h : ∀ b, ¬ σ.used b -> σ.blk b = none -> K (env.put d (ptr b 0)) (σ.put b (.own e v.cells))) : aOp P ops ⟨d, .box e x, ty, pos, af, none⟩ env σ K := by
 subst hx; rw [ZaN rfl]; exact h
theorem Zo0 {v r : AV} (hx : ev env x = v) (hl : Zdk P t σ v = some r) (h : K (env.put d r) σ) : aOp P ops ⟨d, .load t x, ty, pos, af, none⟩ env σ K := by
 subst hx; rw [ZaN rfl]; exact ⟨r, hl, h⟩
theorem ZyV {v u : AV} {σ' : St} (hx : ev env x = v) (hy : ev env y = u) (hl : Zkf P t σ v u = some σ') (h : K (env.put d (.raw undef)) σ') : aOp P ops ⟨d, .store t x y, ty, pos, af, none⟩ env σ K := by
 subst hx hy; rw [ZaN rfl]; exact ⟨σ', hl, h⟩
theorem ZaF {v : AV} (hx : ev env x = v) (hs : ZnE v = true) (h : K (env.put d v) σ) : aOp P ops ⟨d, .nilCheck x, ty, pos, af, none⟩ env σ K := by
 subst hx; rw [ZaN rfl]; exact ⟨hs, h⟩
theorem Zai {f b o off n : Nat} {l : List (Nat × Option Nat × Option Bool)} {g : Option Bool} (hx : ev env x = ptr b o) (hl : Zba P t = some l) (hf : l[f]? = some (off, some (n + 1), g)) (h : K (env.put d (ptr b (o + off))) σ) : aOp P ops ⟨d, .fieldAddr t x f, ty, pos, af, none⟩ env σ K := by
 rw [ZaN rfl]
 show ZdL P _ [ev env x] σ _
 rw [hx]
 refine ⟨l, off, n, g, hl, hf, ?_⟩
 rw [Zbl]
 exact h
theorem Zep {f off n : Nat} {ad : Addr} {cells : List AV} {l : List (Nat × Option Nat × Option Bool)} {g : Option Bool} (hx : ev env x = .eptr ad cells) (hl : Zba P t = some l) (hf : l[f]? = some (off, some (n + 1), g)) (h : K (env.put d (.eptr (ad.add off) (cells.drop off))) σ) : aOp P ops ⟨d, .fieldAddr t x f, ty, pos, af, none⟩ env σ K := by
 rw [ZaN rfl]
 show ZdL P _ [ev env x] σ _
 rw [hx]
 exact ⟨l, off, n, g, hl, hf, h⟩
theorem Zax {i : Nat} {l : List AV} {r : AV} (hx : ev env x = .tup l) (hl : l[i]? = some r) (h : K (env.put d r) σ) : aOp P ops ⟨d, .extract x i, ty, pos, af, none⟩ env σ K := by
 rw [ZaN rfl]
 show ZdL P _ [ev env x] σ _
 rw [hx]
 exact ⟨r, hl, h⟩
theorem ZyW {e : TypeId} {sz n c j : Nat} {ad : Addr} {cells : List AV} {k : IntKind} (hx : ev env x = .lst (some ad) n c cells) (hy : ev env y = .raw (.int k j)) (ht : Zar P t = some e) (hs : Zav P e = some sz) (hj : j < n) (h : K (env.put d (.eptr (ad.add (j * sz)) (cells.drop (j * sz)))) σ) : aOp P ops ⟨d, .indexAddr t x y, ty, pos, af, none⟩ env σ K := by
 rw [ZaN rfl]
 show ZdL P _ [ev env x, ev env y] σ _
 rw [hx, hy]
 exact ⟨e, sz, k, j, ht, hs, by simp, hj, h⟩
theorem ZcI {parts : Array (Nat × Operand)} {v : Value} {pl : List (Nat × Nat)} {vs cells : List AV} (hv : parts.toList.map (fun p => ev env p.2) = vs) (hz : ZaS P t = some v) (hp : ZbS P t = some pl) (hf : ZdD (fun i => pl[i]?) (AV.ofV v).cells ((parts.toList.map (·.1)).zip vs) = some cells) (h : K (env.put d (.agg cells)) σ) : aOp P ops ⟨d, .build t parts, ty, pos, af, none⟩ env σ K := by
 rw [ZaN rfl]
 refine ⟨v, pl, cells, hz, hp, ?_, h⟩
 have : (Op.build t parts).operands.toList.map (ev env) = vs := by rw [<- hv]; simp [Op.operands]
 rw [this]
 exact hf
theorem Zkh {n : Nat} {parts : Array (Nat × Operand)} {e : TypeId} {sz : Nat} {v : Value} {vs cells : List AV} (hv : parts.toList.map (fun p => ev env p.2) = vs) (ht : Zar P t = some e) (hs : Zav P e = some sz) (hz : ZaS P e = some v) (hzs : v.cells.size = sz) (hn : n * sz <= 16777216)
 (hf : ZdD (fun i => some (i * sz, sz)) ((List.range (n * sz)).map fun i => .ofV (v.cells[i % sz]!)) ((parts.toList.map (·.1)).zip vs) = some cells)
 (h : ∀ b, ¬ σ.used b -> σ.blk b = none -> K (env.put d (.lst (some ⟨b, 0, none⟩) n n cells)) (σ.put b (.tail e (n * sz) (n * sz)))) : aOp P ops ⟨d, .buildSlice t n parts, ty, pos, af, none⟩ env σ K := by
 rw [ZaN rfl]
 have : (Op.buildSlice t n parts).operands.toList.map (ev env) = vs := by rw [<- hv]; simp [Op.operands]
 refine ⟨e, sz, v, cells, ht, hs, hz, hzs, hn, ?_, h⟩
 rw [this]
 exact hf
theorem Zgt {g : FuncId} {as_ : Array Operand} {ts : Array TypeId} {vs : List AV} (hv : as_.toList.map (ev env) = vs) (h : Zal P g vs σ fun r σ' => K (env.put d r) σ') : aOp P ops ⟨d, .call ⟨.value (.func g), as_, ts⟩, ty, pos, af, none⟩ env σ K := by
 rw [ZaN rfl]
 have : (Op.call ⟨.value (.func g), as_, ts⟩).operands.toList.map (ev env) = ev env (.func g) :: vs := by rw [<- hv]; simp [Op.operands, Call.operands]
 show ZdL P _ ((Op.call ⟨.value (.func g), as_, ts⟩).operands.toList.map (ev env)) σ _
 rw [this]
 exact ⟨g, #[], #[], rfl, by simpa using h⟩
theorem ZhV {o : Oper} {vs : List AV} {v : Value} (hg : o.guard = none) (hv : o.op.operands.toList.map (ev env) = vs) (hd : ∀ σ (K : AV -> St -> Prop), (∃ v, ZcH P o vs v /\ K (.raw v) σ) -> ZdL P o vs σ K) (hr : ZcH P o vs v) (h : K (env.put o.dst (.raw v)) σ) : aOp P ops o env σ K := by
 rw [ZaN hg, hv]
 exact hd _ _ ⟨v, hr, h⟩
theorem Zf9 {op : BinOp} {a b : AV} {v : Value} (hx : ev env x = a) (hy : ev env y = b) (hr : ∀ (w : World) (x y : Operand), (do eqGuard op t x y a.val b.val; binOp op t a.val b.val : Sem Value).run P w = .ok v w) (h : K (env.put d (.raw v)) σ) : aOp P ops ⟨d, .binOp op t x y ty', ty, pos, af, none⟩ env σ K := by
 refine ZhV (vs := [a, b]) rfl (by simp [Op.operands, hx, hy]) (fun _ _ h => .inl h) (fun ρ hρ w _ _ => ?_) h
 simp [Op.operands] at hρ
 have := hr w x y
 simp only [execOp]
 rw [hρ.1, hρ.2, Sem.run_bind, this]
 simp
theorem ZDO {op : UnOp} {a : AV} {v : Value} (hx : ev env x = a) (hr : ∀ w, (Op.unary op a.val).run P w = .ok v w) (h : K (env.put d (.raw v)) σ) : aOp P ops ⟨d, .unOp op t x, ty, pos, af, none⟩ env σ K := by
 refine ZhV (vs := [a]) rfl (by simp [Op.operands, hx]) (fun _ _ h => .inl h) (fun ρ hρ w _ _ => ?_) h
 simp [Op.operands] at hρ
 simp only [execOp]
 rw [hρ, Sem.run_bind, hr]
 simp
theorem ZCx {b : Bool} (hx : ev env x = .raw (.bool b)) (h : K (env.put d (.raw (.bool (!b)))) σ) : aOp P ops ⟨d, .unOp .not t x, ty, pos, af, none⟩ env σ K :=
 ZDO hx (fun w => by simp [Op.unary]) h
theorem ZAT {a : AV} {v : Value} (hx : ev env x = a) (hr : ∀ w, (convert t ty' a.val).run P w = .ok v w) (h : K (env.put d (.raw v)) σ) : aOp P ops ⟨d, .convert t ty' x, ty, pos, af, none⟩ env σ K := by
 refine ZhV (vs := [a]) rfl (by simp [Op.operands, hx]) (fun _ _ h => .inl h) (fun ρ hρ w _ _ => ?_) h
 simp [Op.operands] at hρ
 simp only [execOp]
 rw [hρ, Sem.run_bind, hr]
 simp
end
section
variable {P : Program} {O : Nat -> Prop} {ops : Array Oper} {rest : List Oper} {env : Env} {σ : St} {K : Env -> St -> Prop} {d : Option Nat} {ty ty' t : TypeId} {pos : String} {af : Array Edge} {x y z : Operand} {k k' : IntKind} {a b r : Int}
theorem ZCy (hx : ev env x = .raw (.int k a)) (hy : ev env y = .raw (.int k b)) (hw : k.wrap (a + b) = r) (h : K (env.put d (.raw (.int k r))) σ) : aOp P ops ⟨d, .binOp .add t x y ty', ty, pos, af, none⟩ env σ K :=
 Zf9 hx hy (fun w _ _ => by subst hw; simp [eqGuard_add, binOp_add, Op.intArith]) h
theorem ZCz (hx : ev env x = .raw (.int k a)) (hy : ev env y = .raw (.int k b)) (hw : k.wrap (a - b) = r) (h : K (env.put d (.raw (.int k r))) σ) : aOp P ops ⟨d, .binOp .sub t x y ty', ty, pos, af, none⟩ env σ K :=
 Zf9 hx hy (fun w _ _ => by subst hw; simp [eqGuard_sub, binOp_sub, Op.intArith]) h
theorem ZsS (hx : ev env x = .raw (.int k a)) (hy : ev env y = .raw (.int k b)) (h : K (env.put d (.raw (.bool (decide (a < b))))) σ) : aOp P ops ⟨d, .binOp .lss t x y ty', ty, pos, af, none⟩ env σ K :=
 Zf9 hx hy (fun w _ _ => by simp [eqGuard_lss, binOp_lss]) h
theorem ZAU (hx : ev env x = .raw (.int k a)) (hy : ev env y = .raw (.int k b)) (h : K (env.put d (.raw (.bool (decide (a <= b))))) σ) : aOp P ops ⟨d, .binOp .leq t x y ty', ty, pos, af, none⟩ env σ K :=
 Zf9 hx hy (fun w _ _ => by simp [eqGuard_leq, binOp_leq]) h
theorem ZnH (hx : ev env x = .raw (.int k a)) (hy : ev env y = .raw (.int k b)) (h : K (env.put d (.raw (.bool (decide (b < a))))) σ) : aOp P ops ⟨d, .binOp .gtr t x y ty', ty, pos, af, none⟩ env σ K :=
 Zf9 hx hy (fun w _ _ => by simp [eqGuard_gtr, binOp_gtr]) h
theorem ZyX (hx : ev env x = .raw (.int k a)) (hy : ev env y = .raw (.int k b)) (h : K (env.put d (.raw (.bool (decide (b <= a))))) σ) : aOp P ops ⟨d, .binOp .geq t x y ty', ty, pos, af, none⟩ env σ K :=
 Zf9 hx hy (fun w _ _ => by simp [eqGuard_geq, binOp_geq]) h
theorem Zub (hx : ev env x = .raw (.int k a)) (hy : ev env y = .raw (.int k b)) (h : K (env.put d (.raw (.bool (decide (a = b))))) σ) : aOp P ops ⟨d, .binOp .eql t x y ty', ty, pos, af, none⟩ env σ K :=
 Zf9 hx hy (fun w _ _ => by simp [eqGuard_at_int, binOp_eql]; rfl) h
theorem Zjq (hx : ev env x = .raw (.int k a)) (hy : ev env y = .raw (.int k b)) (h : K (env.put d (.raw (.bool (decide (a ≠ b))))) σ) : aOp P ops ⟨d, .binOp .neq t x y ty', ty, pos, af, none⟩ env σ K :=
 Zf9 hx hy (fun w _ _ => by simp [eqGuard_at_int, binOp_neq]; rfl) h
theorem Zie {P : Program} {t : TypeId} (ht : P.underlying t = some .bool) (a b : Bool) (w : World) : (Op.equal t (.bool a) (.bool b)).run P w = .ok (a == b) w := by
 show (Op.equalIn (9999 + 1) t (.bool a) (.bool b)).run P w = _
 unfold Op.equalIn
 simp [run_underlying ht]
theorem ZAV {a b : Bool} (ht : P.underlying t = some .bool) (hx : ev env x = .raw (.bool a)) (hy : ev env y = .raw (.bool b)) (h : K (env.put d (.raw (.bool (decide (a = b))))) σ) : aOp P ops ⟨d, .binOp .eql t x y ty', ty, pos, af, none⟩ env σ K :=
 Zf9 hx hy (fun w _ _ => by cases a <;> cases b <;> simp [eqGuard_at_bool, binOp, Zie ht]) h
theorem ZAW {a b : Bool} (ht : P.underlying t = some .bool) (hx : ev env x = .raw (.bool a)) (hy : ev env y = .raw (.bool b)) (h : K (env.put d (.raw (.bool (decide (a ≠ b))))) σ) : aOp P ops ⟨d, .binOp .neq t x y ty', ty, pos, af, none⟩ env σ K :=
 Zf9 hx hy (fun w _ _ => by cases a <;> cases b <;> simp [eqGuard_at_bool, binOp, Zie ht]) h
theorem ZCA {u v : Operand} {ts : Array TypeId} (hx : ev env u = .raw (.int k a)) (hy : ev env v = .raw (.int k' b)) (h : K (env.put d (.raw (.int k (if a < b then b else a)))) σ) : aOp P ops ⟨d, .call ⟨.builtin .max, #[u, v], ts⟩, ty, pos, af, none⟩ env σ K := by
 refine ZhV (vs := [.raw (.int k a), .raw (.int k' b)]) rfl (by simp [Op.operands, Call.operands, hx, hy]) (fun _ _ h => .inl h) (fun ρ hρ w _ _ => ?_) h
 simp [Op.operands, Call.operands] at hρ
 simp [execOp, resolve, invoke, builtin, Builtin.max_, hρ, Builtin.max2]
variable {dr : Bool} {c c1 c2 c3 : Code} {Q : Zf7} {id : Nat} {l : List Oper}
theorem Zqv (n m : Env -> St -> Prop) (Q : Zf7) : Zln n (Zln m Q) = Zln n Q := by
 funext e; cases e <;> rfl
theorem Zab (h : ZaJ P O (.seq c1 (.seq c2 c3)) Q env σ) : ZaJ P O (.seq (.seq c1 c2) c3) Q env σ := by
 show ZaJ P O c1 (Zln (ZaJ P O c2 (Zln (ZaJ P O c3 Q) Q)) (Zln (ZaJ P O c3 Q) Q)) env σ
 rw [Zqv]
 exact h
theorem Zaa (h : Zbx P l.toArray l env σ (ZaJ P O c Q)) : ZaJ P O (.seq (.region id l.toArray false) c) Q env σ := fun _ => .inl h
theorem Zac (h : Zbx P l.toArray l env σ (Q .normal)) : ZaJ P O (.region id l.toArray false) Q env σ := fun _ => .inl h
theorem Zjr (h : Zlm P l.toArray env σ (ZaJ P O c Q)) : ZaJ P O (.seq (.region id l.toArray true) c) Q env σ := fun _ => .inl h
theorem Zrx (h : Zlm P l.toArray env σ (Q .normal)) : ZaJ P O (.region id l.toArray true) Q env σ := fun _ => .inl h
theorem Za6 (h : ZaJ P O c Q env σ) : ZaJ P O (.seq .skip c) Q env σ := h
theorem ZeD (h : Q .normal env σ) : ZaJ P O .skip Q env σ := h
theorem Zfo (h : Q .ret env σ) : ZaJ P O (.seq .ret c) Q env σ := h
theorem ZaZ (h : Q .ret env σ) : ZaJ P O .ret Q env σ := h
theorem Ze5 (h : Q (.exit id) env σ) : ZaJ P O (.seq (.exit id) c) Q env σ := h
theorem ZaT {t : Bool} (hc : ev env x = .raw (.bool t)) (h1 : t = true -> ZaJ P O (.seq c1 c) Q env σ) (h2 : t = false -> ZaJ P O (.seq c2 c) Q env σ) : ZaJ P O (.seq (.cond x c1 c2) c) Q env σ :=
 ⟨t, by rw [hc]; simp, h1, h2⟩
theorem ZcJ {t : Bool} (hc : ev env x = .raw (.bool t)) (h1 : t = true -> ZaJ P O c1 Q env σ) (h2 : t = false -> ZaJ P O c2 Q env σ) : ZaJ P O (.cond x c1 c2) Q env σ :=
 ⟨t, by rw [hc]; simp, h1, h2⟩
theorem Zb7 (h : ZaJ P O c1 (Zf8 id (Zln (ZaJ P O c Q) Q)) env σ) : ZaJ P O (.seq (.block id c1) c) Q env σ := h
theorem ZdT (h : ZaJ P O c1 (Zf8 id Q) env σ) : ZaJ P O (.block id c1) Q env σ := h
theorem Zdn (I : Nat -> Env -> St -> Prop) (h : ∃ n, I n env σ) (hr : ∀ n env σ, I n env σ -> ZaJ P O c (Zln (fun env' σ' => ∃ n', n' < n /\ I n' env' σ') Q) env σ) : ZaJ P O (.loop c) Q env σ := h.elim fun n h => ⟨I, n, h, hr⟩
theorem Zad {o : Oper} {l' : List Oper} (h : aOp P ops o env σ fun env' σ' => Zbx P ops l' env' σ' K) : Zbx P ops (o :: l') env σ K := .inl h
theorem Zae (h : K env σ) : Zbx P ops [] env σ K := h
end
@[simp] theorem AV.cells_agg (l : List AV) : (AV.agg l).cells = l := rfl
@[simp] theorem AV.cells_lst (A : Option Addr) (n c : Nat) (l : List AV) : (AV.lst A n c l).cells = [.lst A n c l] := rfl
@[simp] theorem AV.cells_int (k : IntKind) (n : Int) : (AV.raw (.int k n)).cells = [.raw (.int k n)] := rfl
@[simp] theorem AV.cells_bool (x : Bool) : (AV.raw (.bool x)).cells = [.raw (.bool x)] := rfl
@[simp] theorem AV.cells_string (x : ByteArray) : (AV.raw (.string x)).cells = [.raw (.string x)] := rfl
@[simp] theorem AV.cells_pointer (x : Option Addr) : (AV.raw (.pointer x)).cells = [.raw (.pointer x)] := rfl
@[simp] theorem ZAu (l : List AV) : Zb4 (AV.agg l) = true := rfl
@[simp] theorem ZAv (A : Option Addr) (n c : Nat) (l : List AV) : Zb4 (AV.lst A n c l) = true := rfl
@[simp] theorem ZAw (v : Value) : Zb4 (AV.raw v) = true := rfl
@[simp] theorem ZCB (k : IntKind) (n : Int) : (AV.raw (.int k n)).one = true := rfl
@[simp] theorem ZCb (x : Bool) : (AV.raw (.bool x)).one = true := rfl
@[simp] theorem ZAx (x : ByteArray) : (AV.raw (.string x)).one = true := rfl
@[simp] theorem ZyY (x : Option Addr) : (AV.raw (.pointer x)).one = true := rfl
@[simp] theorem ZCC (A : Option Addr) (n c : Nat) (l : List AV) : (AV.lst A n c l).one = true := rfl
def vI (x : Int) : AV := .raw (.int .i64 x)
def vU (x : UInt8) : AV := .raw (.int .u8 (x.toNat : Int))
def vK (x : Int) : AV := .raw (.int .u8 x)
def vT (x : Bool) : AV := .raw (.bool x)
@[simp] theorem ZCc (x : Int) : (vI x).cells = [vI x] := rfl
@[simp] theorem ZCd (x : UInt8) : (vU x).cells = [vU x] := rfl
@[simp] theorem ZCe (x : Int) : (vK x).cells = [vK x] := rfl
@[simp] theorem ZCf (x : Bool) : (vT x).cells = [vT x] := rfl
@[simp] theorem ZAX (x : Int) : Zb4 (vI x) = true := rfl
@[simp] theorem ZAY (x : UInt8) : Zb4 (vU x) = true := rfl
@[simp] theorem ZAZ (x : Int) : Zb4 (vK x) = true := rfl
@[simp] theorem ZA0 (x : Bool) : Zb4 (vT x) = true := rfl
@[simp] theorem ZDq (x : Int) : (vI x).one = true := rfl
@[simp] theorem ZDr (x : UInt8) : (vU x).one = true := rfl
@[simp] theorem ZDs (x : Int) : (vK x).one = true := rfl
@[simp] theorem ZDt (x : Bool) : (vT x).one = true := rfl
@[simp] theorem ZDu (x : Int) : (vI x).val = .int .i64 x := rfl
@[simp] theorem ZDv (x : UInt8) : (vU x).val = .int .u8 (x.toNat : Int) := rfl
@[simp] theorem ZDw (x : Int) : (vK x).val = .int .u8 x := rfl
@[simp] theorem ZDx (x : Bool) : (vT x).val = .bool x := rfl
theorem EV : (∀ (env : Env) t, ev env (.tmp t) = env t) /\ (∀ (env : Env) v, ev env (.const v) = .ofV v) /\ (∀ (env : Env) d v i, env.put (some d) v i = if i = d then v else env i) /\ (∀ (env : Env) v, env.put none v = env) /\ (∀ k n, AV.ofV (.int k n) = .raw (.int k n)) /\ (∀ x, AV.ofV (.bool x) = .raw (.bool x)) /\ (∀ x, AV.ofV (.string x) = .raw (.string x)) /\ (∀ x, AV.ofV (.pointer x) = .raw (.pointer x)) /\ AV.ofV (.slice none 0 0) = .lst none 0 0 [] /\ (∀ x, AV.ofV (.agg x) = .agg (x.toList.map AV.ofV1)) :=
 ⟨fun _ _ => rfl, fun _ _ => rfl, fun _ _ _ _ => rfl, fun _ _ => rfl, fun _ _ => rfl, fun _ => rfl, fun _ => rfl, fun _ => rfl, rfl, fun _ => rfl⟩
structure Ext (σ τ : St) : Prop where
 keep : ∀ b k, σ.blk b = some k -> τ.blk b = some k
 used : ∀ b, σ.used b -> τ.used b
theorem Ext.refl (σ : St) : Ext σ σ := ⟨fun _ _ h => h, fun _ h => h⟩
theorem Ext.trans {σ τ υ : St} (h : Ext σ τ) (k : Ext τ υ) : Ext σ υ := ⟨fun b x hx => k.keep _ _ (h.keep _ _ hx), fun b hx => k.used _ (h.used _ hx)⟩
theorem Ext.noneOf {σ τ : St} (h : Ext σ τ) {b : Nat} (hb : τ.blk b = none) : σ.blk b = none := by
 cases hx : σ.blk b with
 | none => rfl
 | some k => rw [h.keep _ _ hx] at hb; cases hb
theorem Ext.unused {σ τ : St} (h : Ext σ τ) {b : Nat} (hb : ¬ τ.used b) : ¬ σ.used b := fun hx => hb (h.used _ hx)
theorem Ext.put {σ : St} {b : Nat} (k : Bk) (hb : σ.blk b = none) : Ext σ (σ.put b k) :=
 ⟨fun x y hx => by rw [Zaz _ _ (fun e => by rw [e, hb] at hx; cases hx)]; exact hx, fun x hx => .inl hx⟩
structure But (S : Nat -> Prop) (σ τ : St) : Prop where
 keep : ∀ c k, ¬ S c -> σ.blk c = some k -> τ.blk c = some k
 used : ∀ c, σ.used c -> τ.used c
theorem But.ext {S : Nat -> Prop} {σ τ υ : St} (h : Ext σ τ) (hS : ∀ b, S b -> σ.blk b = none) (k : But S τ υ) : Ext σ υ :=
 ⟨fun c x hx => k.keep _ _ (fun hc => by rw [hS c hc] at hx; cases hx) (h.keep _ _ hx), fun c hx => k.used _ (h.used _ hx)⟩
theorem But.refl (S : Nat -> Prop) (σ : St) : But S σ σ := ⟨fun _ _ _ h => h, fun _ h => h⟩
theorem But.trans {S : Nat -> Prop} {σ τ υ : St} (h : But S σ τ) (k : But S τ υ) : But S σ υ := ⟨fun c x hc hx => k.keep _ _ hc (h.keep _ _ hc hx), fun c hx => k.used _ (h.used _ hx)⟩
theorem Ext.but {S : Nat -> Prop} {σ τ : St} (h : Ext σ τ) : But S σ τ := ⟨fun c x _ hx => h.keep _ _ hx, h.used⟩
theorem But.noneOfB {S : Nat -> Prop} {σ τ : St} (h : But S σ τ) (hS : ∀ b, S b -> σ.used b) {b : Nat} (hu : ¬ τ.used b) (hb : τ.blk b = none) : σ.blk b = none := by
 cases hx : σ.blk b with
 | none => rfl
 | some k =>
  by_cases hs : S b
  ·exact absurd (h.used _ (hS b hs)) hu
  ·rw [h.keep _ _ hs hx] at hb; cases hb
theorem But.ext2 {S T : Nat -> Prop} {σ τ υ : St} (h : But S σ τ) (hS : ∀ b, T b -> S b \/ σ.blk b = none) (k : But T τ υ) : But S σ υ := by
 refine ⟨fun c x hc hx => k.keep _ _ (fun e => ?_) (h.keep _ _ hc hx), fun c hx => k.used _ (h.used _ hx)⟩
 rcases hS c e with h1 | h1
 ·exact hc h1
 ·rw [h1] at hx; cases hx
section
variable {P : Program} {O : Nat -> Prop} {ops : Array Oper} {env : Env} {σ : St} {K : Env -> St -> Prop} {d : Option Nat} {ty ty' t : TypeId} {pos : String} {af : Array Edge} {x y z : Operand}
theorem Zjs {e : TypeId} {v : AV} {cs : List AV} (hx : ev env x = v) (hc : v.cells = cs) (h : ∀ b τ, σ.blk b = none -> ¬ σ.used b -> τ.blk b = some (.own e cs) -> τ.used b -> Ext σ τ -> K (env.put d (ptr b 0)) τ) : aOp P ops ⟨d, .box e x, ty, pos, af, none⟩ env σ K :=
 ZCw hx fun b hu hb => h b _ hb hu (by rw [ZaW, hc]) (.inr rfl) (Ext.put _ hb)
theorem Zck {e : TypeId} {v : Value} {cs : List AV} (hz : ZaS P e = some v) (hc : (AV.ofV v).cells = cs) (h : ∀ b τ, σ.blk b = none -> ¬ σ.used b -> τ.blk b = some (.own e cs) -> τ.used b -> Ext σ τ -> K (env.put d (ptr b 0)) τ) : aOp P ops ⟨d, .alloc e, ty, pos, af, none⟩ env σ K :=
 ZyU hz fun b hu hb => h b _ hb hu (by rw [ZaW, hc]) (.inr rfl) (Ext.put _ hb)
theorem ZaC {b o n : Nat} {T : TypeId} {cs : List AV} {g : Bool} {r : AV} (hx : ev env x = ptr b o) (hb : σ.blk b = some (.own T cs)) (ha : Ze0 P t = some g) (hn : Zav P t = some n) (hr : Zbw (some g) (some n) cs o = some r) (h : K (env.put d r) σ) : aOp P ops ⟨d, .load t x, ty, pos, af, none⟩ env σ K :=
 Zo0 hx (by unfold Zdk ptr; dsimp only; rw [hb]; dsimp only; rw [ha, hn]; exact hr) h
theorem Zdo {n : Nat} {ad : Addr} {cells : List AV} {g : Bool} {r : AV} (hx : ev env x = .eptr ad cells) (ha : Ze0 P t = some g) (hn : Zav P t = some n) (hr : Zbw (some g) (some n) cells 0 = some r) (h : K (env.put d r) σ) : aOp P ops ⟨d, .load t x, ty, pos, af, none⟩ env σ K :=
 Zo0 hx (by unfold Zdk; dsimp only; rw [ha, hn]; exact hr) h
theorem Zbn {b o n : Nat} {T : TypeId} {cs cs' : List AV} {u : AV} (hx : ev env x = ptr b o) (hy : ev env y = u) (hb : σ.blk b = some (.own T cs)) (hn : Zav P t = some n)
 (hc : (Zb4 u && u.cells.length == n && u.cells.all AV.one && decide (o + n <= cs.length)) = true) (hs : ZaG cs o u.cells = cs')
 (h : ∀ τ, τ.blk b = some (.own T cs') -> But (fun c => c = b) σ τ -> K (env.put d (.raw undef)) τ) : aOp P ops ⟨d, .store t x y, ty, pos, af, none⟩ env σ K := by
 refine ZyV (σ' := σ.set b (.own T cs')) hx hy ?_ (h _ ?_ ⟨fun c k hc hk => ?_, fun c hc => hc⟩)
 ·unfold Zkf Zhg ptr
  dsimp only
  rw [hb, hn]
  dsimp only
  rw [if_pos hc, hs]
 ·show (if b = b then _ else σ.blk b) = _
  rw [if_pos rfl]
 ·show (if c = b then _ else σ.blk c) = _
  rw [if_neg hc]
  exact hk
variable {c : Code} {Q : Zf7}
theorem ZeE {fn : Func} {t : Nat} {v : AV} (h : fn.results.toList = [.tmp t]) (hv : env t = v) : Za1 P fn env σ v := by
 unfold Za1
 rw [h]
 simp [Zbf, hv]
theorem Zhl {fn : Func} (h : fn.results.toList = []) : Za1 P fn env σ (.tup []) := by
 unfold Za1
 rw [h]
 exact ⟨[], rfl, rfl⟩
theorem ZbF {s t : Nat} {b o n : Nat} {T : TypeId} {cs : List AV} {g : Bool} {r : AV} (hx : env s = ptr b o) (hb : σ.blk b = some (.own T cs)) (ha : Ze0 P t = some g) (hn : Zav P t = some n) (hr : Zbw (some g) (some n) cs o = some r) : Zbf P env σ (.cell s t) = some r := by
 unfold Zbf
 dsimp only
 rw [hx]
 unfold Zdk ptr
 dsimp only
 rw [hb]
 dsimp only
 rw [ha, hn]
 exact hr
theorem ZyZ {fn : Func} {x : ResultVar} {v : AV} (h : fn.results.toList = [x]) (hv : Zbf P env σ x = some v) : Za1 P fn env σ v := by
 unfold Za1
 rw [h]
 exact hv
theorem Zy0 {fn : Func} {x y : ResultVar} {v u : AV} (h : fn.results.toList = [x, y]) (hv : Zbf P env σ x = some v) (hu : Zbf P env σ y = some u) : Za1 P fn env σ (.tup [v, u]) := by
 unfold Za1
 rw [h]
 exact ⟨[v, u], by simp [List.mapM_cons, hv, hu], rfl⟩
theorem Zuc {fn : Func} {x y z : ResultVar} {v u r : AV} (h : fn.results.toList = [x, y, z]) (hv : Zbf P env σ x = some v) (hu : Zbf P env σ y = some u) (hr : Zbf P env σ z = some r) : Za1 P fn env σ (.tup [v, u, r]) := by
 unfold Za1
 rw [h]
 exact ⟨[v, u, r], by simp [List.mapM_cons, hv, hu, hr], rfl⟩
theorem ZmD (i0 : Nat) {v0 : AV} (h0 : env i0 = v0) (h : ∀ e : Env, e i0 = v0 -> ZaJ P O c Q e σ) : ZaJ P O c Q env σ := h _ h0
theorem ZfJ (i0 i1 : Nat) {v0 v1 : AV} (h0 : env i0 = v0) (h1 : env i1 = v1) (h : ∀ e : Env, e i0 = v0 /\ e i1 = v1 -> ZaJ P O c Q e σ) : ZaJ P O c Q env σ := h _ ⟨h0, h1⟩
theorem Zqw (i0 i1 i2 : Nat) {v0 v1 v2 : AV} (h0 : env i0 = v0) (h1 : env i1 = v1) (h2 : env i2 = v2) (h : ∀ e : Env, e i0 = v0 /\ e i1 = v1 /\ e i2 = v2 -> ZaJ P O c Q e σ) : ZaJ P O c Q env σ := h _ ⟨h0, h1, h2⟩
theorem ZA1 (i0 i1 i2 i3 : Nat) {v0 v1 v2 v3 : AV} (h0 : env i0 = v0) (h1 : env i1 = v1) (h2 : env i2 = v2) (h3 : env i3 = v3) (h : ∀ e : Env, e i0 = v0 /\ e i1 = v1 /\ e i2 = v2 /\ e i3 = v3 -> ZaJ P O c Q e σ) : ZaJ P O c Q env σ := h _ ⟨h0, h1, h2, h3⟩
theorem Za4 {t : Nat} {v : AV} (hv : env t = v) : Zbf P env σ (.tmp t) = some v := congrArg some hv
theorem ZnI {fn : Func} {x : ResultVar} {v : AV} {R : AV -> Prop} (h : fn.results.toList = [x]) (hv : Zbf P env σ x = some v) (hR : R v) : ∃ r, Za1 P fn env σ r /\ R r := ⟨v, ZyZ h hv, hR⟩
theorem Zix {fn : Func} {x y : ResultVar} {v u : AV} {R : AV -> Prop} (h : fn.results.toList = [x, y]) (hv : Zbf P env σ x = some v) (hu : Zbf P env σ y = some u) (hR : R (.tup [v, u])) : ∃ r, Za1 P fn env σ r /\ R r := ⟨_, Zy0 h hv hu, hR⟩
theorem ZdM {fn : Func} {x y z : ResultVar} {v u r : AV} {R : AV -> Prop} (h : fn.results.toList = [x, y, z]) (hv : Zbf P env σ x = some v) (hu : Zbf P env σ y = some u) (hr : Zbf P env σ z = some r) (hR : R (.tup [v, u, r])) : ∃ r, Za1 P fn env σ r /\ R r := ⟨_, Zuc h hv hu hr, hR⟩
end
def Zb5 (P : Program) (t : TypeId) : Option Nat := (P.info? t).map (·.bytes)
def AV.blk : AV -> Option Nat
 | .lst (some ad) _ _ _ => some ad.block
 | _ => none
def Own (σ : St) (e sz : Nat) (v : AV) (n : Nat) (cells : List AV) : Prop := cells.length = n * sz /\ ((v = .lst none 0 0 [] /\ n = 0) \/ ∃ g c, v = .lst (some ⟨g, 0, none⟩) n c cells /\ n <= c /\ c <= maxLen /\ σ.blk g = some (.tail e (n * sz) (c * sz)) /\ σ.used g)
structure App (σ : St) (v : AV) (τ : St) (v' : AV) : Prop where
 keep : ∀ b k, v.blk ≠ some b -> σ.blk b = some k -> τ.blk b = some k
 used : ∀ b, σ.used b -> τ.used b
 new : v'.blk = v.blk \/ ∃ g, v'.blk = some g /\ σ.blk g = none /\ ¬ σ.used g /\ τ.used g
section
variable {P : Program} {w : World} {σ : St} {Z : Nat -> Prop}
theorem Zan.drew_ (h : Zan w σ Z) : Zan w.drew σ Z := by
 have hv : ∀ {c : AV}, Zag w (σ.free Z) c -> Zag w.drew (σ.free Z) c := fun hc => Zag.keep (w := w) (w' := w.drew) (B := σ.free Z) (B' := σ.free Z) (fun ad v h1 h2 => ⟨h1, h2⟩) (fun _ _ _ h1 h2 => ⟨h1, h2⟩) _ hc
 refine ⟨h.used, h.z, fun b t cs hb => ?_, h.tail, h.map⟩
 obtain ⟨h1, h2, h3⟩ := h.own b t cs hb
 exact ⟨h1, h2, fun c hc => hv (h3 c hc)⟩
theorem Grow.drew_ (w : World) (σ : St) : Grow w σ w.drew σ := ⟨rfl, rfl, rfl, Nat.le_refl _, fun _ _ h => h, fun _ _ h => ⟨rfl, h⟩, fun b t k s _ h => ⟨fun _ _ _ h => h, .inr ⟨t, k, s, h, Nat.le_refl _⟩⟩, fun _ h => h⟩
theorem ZmE (h : Zan w σ Z) (t : TypeId) (cs zs : List AV) (k : Nat) (hv : ∀ c ∈ cs, Zag w (σ.free Z) c) (hk : cs.length <= k) (s : Nat) :
 Zay (w.alloc (.cells ((cs ++ zs).map AV.val).toArray t)) ((σ.put w.heap.size (.tail t k s)).free Z) ⟨w.heap.size, 0, none⟩ 0 cs := by
 have hg := Grow.alloc h (.cells ((cs ++ zs).map AV.val).toArray t) (.tail t k s)
 refine Zay.mk fun i d hd => ?_
 have hi : i < cs.length := (List.getElem?_eq_some_iff.1 hd).1
 rw [Zbl, Nat.zero_add]
 refine ⟨?_, ⟨fun hz => ?_, .inr rfl, ?_⟩, hg.valid (hv d (List.mem_of_getElem? hd))⟩
 ·rw [Nat.zero_add, ZtY, List.getElem?_toArray, List.map_append, List.getElem?_append_left (by simpa using hi), List.getElem?_map, hd]
  rfl
 ·exact absurd (h.z _ hz).1 (Nat.lt_irrefl _)
 ·rw [ZaW]
  show 0 + i < k
  omega
theorem Zud (hH : Zan w σ Z) {g : Nat} {e : TypeId} {k s : Nat} (hb : σ.blk g = some (.tail e k s)) {cur : Array Value} (hg : w.heap[g]? = some (.cells cur e (0, 0))) (hs : cur.size = s) (news : List AV) (hfit : k + news.length <= s) :
 Zan (w.setRow g (cur.toList.take k ++ news.map AV.val ++ cur.toList.drop (k + news.length)).toArray) (σ.set g (.tail e (k + news.length) s)) Z /\
 Grow w σ (w.setRow g (cur.toList.take k ++ news.map AV.val ++ cur.toList.drop (k + news.length)).toArray) (σ.set g (.tail e (k + news.length) s)) := by
 have hsame : (σ.set g (.tail e (k + news.length) s)).blk g = some (.tail e (k + news.length) s) := by show (if g = g then _ else σ.blk g) = _; rw [if_pos rfl]
 have hoth : ∀ x, x ≠ g -> (σ.set g (.tail e (k + news.length) s)).blk x = σ.blk x := fun x hx => by show (if x = g then _ else σ.blk x) = _; rw [if_neg hx]
 have hgl : g < w.heap.size := (Array.getElem?_eq_some_iff.1 hg).1
 have hsz : (cur.toList.take k ++ news.map AV.val ++ cur.toList.drop (k + news.length)).toArray.size = s := by simp; omega
 have hG : Grow w σ (w.setRow g (cur.toList.take k ++ news.map AV.val ++ cur.toList.drop (k + news.length)).toArray) (σ.set g (.tail e (k + news.length) s)) := by
  refine ⟨rfl, rfl, rfl, by simp, fun _ _ h => h, fun b hbl hn => ?_, fun b t' k' s' hbl ht => ?_, fun _ h => h⟩
  ·have hne : b ≠ g := by rintro rfl; rw [hb] at hn; cases hn
   exact ⟨setRow_other _ _ _ _ hne, by rw [hoth b hne]; exact hn⟩
  ·by_cases hne : b = g
   ·subst hne
    rw [hb] at ht
    injection ht with ht
    injection ht with e1 e2 e3
    subst e1 e2 e3
    refine ⟨fun j v hj hv => ?_, .inr ⟨_, _, _, hsame, by omega⟩⟩
    have hh := setRow_heap w b cur (cur.toList.take k ++ news.map AV.val ++ cur.toList.drop (k + news.length)).toArray e (0, 0) hg
    simp only [World.cell?, hg] at hv
    simp only [World.cell?, hh]
    simp only [Option.isSome_none, Bool.false_eq_true, if_false] at hv ⊢
    rw [List.getElem?_toArray, List.append_assoc, List.getElem?_append_left (by simp; omega), List.getElem?_take, if_pos hj]
    simpa using hv
   ·refine ⟨fun j v _ hv => ?_, .inr ⟨t', k', s', by rw [hoth b hne]; exact ht, Nat.le_refl _⟩⟩
    rw [World.cell?_of_block (w := w) (setRow_other _ _ _ _ hne)]; exact hv
 refine ⟨⟨fun b hu => by have := hH.used _ hu; simpa using this, fun b hz => ?_, fun b t' cs' hb' => ?_, fun b t' k' s' hb' => ?_, fun b es hb' => ?_⟩, hG⟩
 ·obtain ⟨z1, z2⟩ := hH.z _ hz
  have hne : b ≠ g := by rintro rfl; rw [hb] at z2; cases z2
  exact ⟨by simpa using z1, by rw [hoth b hne]; exact z2⟩
 ·by_cases hne : b = g
  ·subst hne; rw [hsame] at hb'; cases hb'
  ·rw [hoth b hne] at hb'
   obtain ⟨g1, g2, g3⟩ := hH.own _ _ _ hb'
   exact ⟨g1, (setRow_other _ _ _ _ hne).trans g2, fun c hc => hG.valid (g3 c hc)⟩
 ·by_cases hne : b = g
  ·subst hne
   rw [hsame] at hb'
   injection hb' with hb'
   injection hb' with e1 e2 e3
   subst e1 e2 e3
   obtain ⟨g1, _⟩ := hH.tail _ _ _ _ hb
   exact ⟨g1, _, setRow_heap w b cur _ e (0, 0) hg, hsz, by omega⟩
  ·rw [hoth b hne] at hb'
   obtain ⟨g1, cs', g2, g3⟩ := hH.tail _ _ _ _ hb'
   exact ⟨g1, cs', (setRow_other _ _ _ _ hne).trans g2, g3⟩
 ·by_cases hne : b = g
  ·subst hne; rw [hsame] at hb'; cases hb'
  ·rw [hoth b hne] at hb'
   obtain ⟨g1, a', c', g2, g3⟩ := hH.map _ _ hb'
   exact ⟨g1, a', c', (setRow_other _ _ _ _ hne).trans g2, g3⟩
theorem Zcs {B : Nat -> Nat -> Prop} {ad : Addr} {cells : List AV} (h : Zay w B ad 0 cells) {j : Nat} {d : AV} (hd : cells[j]? = some d) : w.cell? (ad.add j) = some d.val /\ B ad.block (ad.off + j) /\ Zag w B d := by
 have := h.get hd
 rwa [Nat.zero_add] at this
theorem Zm5 {t e : TypeId} {sz bytes n m cb : Nat} {z : Value} {v : AV} {cells news : List AV} {B : Option Addr} {ty : TypeId} (hH : Zan w σ Z) (hv : Zag w (σ.free Z) v) (hx : Zag w (σ.free Z) (.lst B m cb news))
 (ht : Zar P t = some e) (hs : Zav P e = some sz) (hz : ZaS P e = some z) (hby : Zb5 P e = some bytes) (hzs : z.cells.size = sz) (hsz : 0 < sz)
 (hown : Own σ e sz v n cells) (hl : m * sz <= news.length) (h1 : ∀ c ∈ news.take (m * sz), c.one = true) (h63 : n + m <= maxLen) (hb : (n + m) * bytes <= 140737488355328) :
 ∃ v' σ' w', (Builtin.append_ #[t, t] ty #[v.val, .slice B m cb]).run P w = .ok v'.val w' /\ Own σ' e sz v' (n + m) (cells ++ news.take (m * sz)) /\ App σ v σ' v' /\ Zan w' σ' Z /\ Zag w' (σ'.free Z) v' /\ Grow w σ w' σ' := by
 have hty := Za0 ht
 obtain ⟨i, hi, hsi⟩ : ∃ i, P.info? e = some i /\ i.size = sz := by
  unfold Zav at hs
  cases hi : P.info? e with
  | none => rw [hi] at hs; cases hs
  | some i => rw [hi] at hs; exact ⟨i, rfl, by simpa using hs⟩
 have hzi : i.zero = some z := by unfold ZaS at hz; rw [hi] at hz; simpa using hz
 have hbi : i.bytes = bytes := by unfold Zb5 at hby; rw [hi] at hby; simpa using hby
 subst hsi hbi
 have hx' := hx
 unfold Zag at hx
 obtain ⟨hx1, hx2, hx3⟩ := hx
 have hcl := hown.1
 by_cases hm : m = 0
 ·subst hm
  have hn0 : news.take (0 * i.size) = [] := by simp
  refine ⟨v, σ, w, ?_, by rw [hn0, List.append_nil]; exact hown, ⟨fun b k _ hk => hk, fun b h => h, .inl rfl⟩, hH, hv, Grow.refl _ _⟩
  rcases hown.2 with ⟨rfl, rfl⟩ | ⟨g, c, rfl, hnc, hcm, hg, hgu⟩
  ·cases B <;> simp [Builtin.append_, run_underlying hty, sizeOf, typeInfo, hi, Builtin.lenOf, Builtin.firstCells, loadCells, loadCellsFrom]
  ·cases B <;> simp [Builtin.append_, run_underlying hty, sizeOf, typeInfo, hi, Builtin.lenOf, Builtin.firstCells, loadCells, loadCellsFrom, hnc, storeCells]
 ·rcases B with _ | ad
  ·have := (hx2 rfl).1; omega
  have hxa := hx3 ad rfl
  have hnl : ((news.take (m * i.size)).map AV.val).length = m * i.size := by simp; omega
  have hnews : ∀ j u, ((news.take (m * i.size)).map AV.val)[j]? = some u -> w.cell? (ad.add j) = some u := by
   intro j u hu
   rw [List.getElem?_map, List.getElem?_take] at hu
   split at hu
   ·cases hd : news[j]? with
    | none => rw [hd] at hu; cases hu
    | some d =>
     rw [hd] at hu
     injection hu with hu
     subst hu
     exact (Zcs hxa hd).1
   ·cases hu
  have h1' : ∀ u ∈ (news.take (m * i.size)).map AV.val, u.oneCell' = true := by
   intro u hu
   simp only [List.mem_map] at hu
   obtain ⟨c, hc, rfl⟩ := hu
   exact AV.one_val (h1 c hc)
  have hnv : ∀ c ∈ news.take (m * i.size), Zag w (σ.free Z) c := fun c hc => by
   obtain ⟨j, hj⟩ := List.getElem?_of_mem (List.mem_of_mem_take hc)
   exact (Zcs hxa hj).2.2
  have grown : ∀ (old : Nat), (∀ c ∈ cells, Zag w (σ.free Z) c) ->
   ∃ v' σ' , v'.val = .slice (some ⟨w.heap.size, 0, none⟩) (n + m) (grownCap w (n + m) old e) /\
    Own σ' e i.size v' (n + m) (cells ++ news.take (m * i.size)) /\ App σ v σ' v' /\
    Zan (w.drew.alloc (.cells ((cells.map AV.val).toArray ++ ((news.take (m * i.size)).map AV.val).toArray ++ Builtin.zeroCells z.cells (grownCap w (n + m) old e - (n + m))) e)) σ' Z /\
    Zag (w.drew.alloc (.cells ((cells.map AV.val).toArray ++ ((news.take (m * i.size)).map AV.val).toArray ++ Builtin.zeroCells z.cells (grownCap w (n + m) old e - (n + m))) e)) (σ'.free Z) v' /\
    Grow w σ (w.drew.alloc (.cells ((cells.map AV.val).toArray ++ ((news.take (m * i.size)).map AV.val).toArray ++ Builtin.zeroCells z.cells (grownCap w (n + m) old e - (n + m))) e)) σ' := by
   intro old hcv
   have hge := grownCap_ge w (n + m) old e
   have hcm := grownCap_le_maxLen w (n + m) old e h63
   generalize grownCap w (n + m) old e = cap at *
   have harr : (cells.map AV.val).toArray ++ ((news.take (m * i.size)).map AV.val).toArray ++ Builtin.zeroCells z.cells (cap - (n + m)) = (((cells ++ news.take (m * i.size)) ++ (Builtin.zeroCells z.cells (cap - (n + m))).toList.map AV.raw).map AV.val).toArray := by
    apply Array.ext'
    simp [Function.comp_def]
   rw [harr]
   have hH2 := hH.drew_
   have hgd := Grow.drew_ w σ
   obtain ⟨f1, f2⟩ := hH2.fresh
   have hlen : ((cells ++ news.take (m * i.size)) ++ (Builtin.zeroCells z.cells (cap - (n + m))).toList.map AV.raw).length = cap * i.size := by
    simp only [List.length_append, List.length_map, Array.length_toList, size_zeroCells, hzs, hcl, List.length_take]
    have : min (m * i.size) news.length = m * i.size := by omega
    rw [this, <- Nat.add_mul, <- Nat.add_mul]
    congr 1
    omega
   have hkl : (cells ++ news.take (m * i.size)).length = (n + m) * i.size := by
    simp only [List.length_append, hcl, List.length_take]
    have : min (m * i.size) news.length = m * i.size := by omega
    rw [this, <- Nat.add_mul]
   have hcv2 : ∀ c ∈ cells ++ news.take (m * i.size), Zag w.drew (σ.free Z) c := fun c hc => by
    rcases List.mem_append.1 hc with hc | hc
    ·exact hgd.valid (hcv c hc)
    ·exact hgd.valid (hnv c hc)
   have hal := hH2.alloc_tail e ((cells ++ news.take (m * i.size)) ++ (Builtin.zeroCells z.cells (cap - (n + m))).toList.map AV.raw) ((n + m) * i.size) (by rw [hlen]; exact Nat.mul_le_mul_right _ hge)
   rw [hlen] at hal
   refine ⟨.lst (some ⟨w.heap.size, 0, none⟩) (n + m) cap (cells ++ news.take (m * i.size)), σ.put w.heap.size (.tail e ((n + m) * i.size) (cap * i.size)), by simp, ⟨hkl, .inr ⟨_, _, rfl, hge, hcm, ZaW _ _ _, .inr rfl⟩⟩, ⟨fun b k _ hk => ?_, fun b hu => .inl hu, .inr ⟨_, rfl, f2, f1, .inr rfl⟩⟩, hal, ?_, hgd.trans (Grow.alloc hH2 _ _)⟩
   ·rw [Zaz _ _ (fun e => by rw [e] at hk; exact absurd (f2.symm.trans hk) (by simp))]
    exact hk
   ·unfold Zag
    refine ⟨hge, (fun h => by cases h), fun ad' had => ?_⟩
    injection had with had
    subst had
    exact ZmE hH2 e _ _ _ hcv2 (by rw [hkl]; exact Nat.le_refl _) _
  have h63' : n + m <= 9223372036854775807 := by simp only [maxLen] at h63; omega
  rcases hown.2 with ⟨rfl, rfl⟩ | ⟨g, c, rfl, hnc, hcm, hg, hgu⟩
  ·have hce : cells = [] := List.eq_nil_of_length_eq_zero (by simpa using hcl)
   subst hce
   obtain ⟨v', σ', g1, g2, g3, g4, g5, g6⟩ := grown 0 (by simp)
   have hr := run_append_nil (P := P) w t ty e i z hty hi hzi ad m cb _ hnl hnews (by omega) (by omega) (by have hb := hb; simp only [Nat.zero_add] at hb; omega)
   simp only [Nat.zero_add, List.map_nil] at g1 g4 g5 g6
   have harr0 : (([] : List Value).toArray ++ ((news.take (m * i.size)).map AV.val).toArray ++ Builtin.zeroCells z.cells (grownCap w m 0 e - m)) = (((news.take (m * i.size)).map AV.val).toArray ++ Builtin.zeroCells z.cells (grownCap w m 0 e - m)) := by
    apply Array.ext'; simp
   rw [harr0] at g4 g5 g6
   exact ⟨v', σ', _, by rw [g1]; simpa using hr, g2, g3, g4, g5, g6⟩
  ·have hv' := hv
   unfold Zag at hv
   have hva := hv.2.2 _ rfl
   have hcv : ∀ c ∈ cells, Zag w (σ.free Z) c := fun c hc => by
    obtain ⟨j, hj⟩ := List.getElem?_of_mem hc
    exact (Zcs hva hj).2.2
   by_cases hroom : n + m <= c
   ·obtain ⟨_, cur, hcur, hcs, hks⟩ := hH.tail _ _ _ _ hg
    have hfit : n * i.size + ((news.take (m * i.size)).map AV.val).length <= cur.size := by rw [hnl, hcs, <- Nat.add_mul]; exact Nat.mul_le_mul_right _ hroom
    have hr := run_append_room (P := P) w t ty e i hty hi g n c cur hcur ad m cb _ hnl hnews h1' hroom hfit
    have hnl2 : (news.take (m * i.size)).length = m * i.size := by simp; omega
    obtain ⟨g1, g2⟩ := Zud hH hg hcur hcs (news.take (m * i.size)) (by rw [hnl2, <- Nat.add_mul]; exact Nat.mul_le_mul_right _ hroom)
    rw [List.length_map] at hr
    have hkl : (cells ++ news.take (m * i.size)).length = (n + m) * i.size := by rw [List.length_append, hcl, hnl2, <- Nat.add_mul]
    have hadd : n * i.size + (news.take (m * i.size)).length = (n + m) * i.size := by rw [hnl2, <- Nat.add_mul]
    rw [hadd] at g1 g2 hr
    have hset : (σ.set g (.tail e ((n + m) * i.size) (c * i.size))).blk g = some (.tail e ((n + m) * i.size) (c * i.size)) := by show (if g = g then _ else σ.blk g) = _; rw [if_pos rfl]
    refine ⟨.lst (some ⟨g, 0, none⟩) (n + m) c (cells ++ news.take (m * i.size)), σ.set g (.tail e ((n + m) * i.size) (c * i.size)), _, by simpa using hr, ⟨hkl, .inr ⟨g, c, rfl, hroom, hcm, hset, hgu⟩⟩, ⟨fun b k hbk hk => ?_, fun b h => h, .inl rfl⟩, g1, ?_, g2⟩
    ·have hne : b ≠ g := fun e => hbk (by rw [e]; rfl)
     show (if b = g then _ else σ.blk b) = _
     rw [if_neg hne]; exact hk
    ·unfold Zag
     refine ⟨hroom, (fun h => by cases h), fun ad' had => ?_⟩
     injection had with had
     subst had
     refine Zay.mk fun j d hd => ?_
     have hjl : j < (n + m) * i.size := by rw [<- hkl]; exact (List.getElem?_eq_some_iff.1 hd).1
     have hzg : ¬ Z g := fun hz => by have := (hH.z _ hz).2; rw [hg] at this; cases this
     have hh := setRow_heap w g cur (cur.toList.take (n * i.size) ++ (news.take (m * i.size)).map AV.val ++ cur.toList.drop ((n + m) * i.size)).toArray e (0, 0) hcur
     rw [Zbl, Nat.zero_add, Nat.zero_add]
     refine ⟨?_, ⟨hzg, (hH.tail _ _ _ _ hg).1, by rw [hset]; exact hjl⟩, ?_⟩
     ·by_cases hj : j < n * i.size
      ·rw [List.getElem?_append_left (by rw [hcl]; exact hj)] at hd
       have hc0 := (Zcs hva hd).1
       rw [Zbl, Nat.zero_add] at hc0
       exact (g2.tail g e (n * i.size) (c * i.size) (Array.getElem?_eq_some_iff.1 hcur).1 hg).1 j _ hj hc0
      ·rw [List.getElem?_append_right (by rw [hcl]; omega), hcl] at hd
       simp only [World.cell?, hh, Option.isSome_none, Bool.false_eq_true, if_false]
       have hks' : (cur.toList.take (n * i.size)).length = n * i.size := by simp; omega
       rw [List.getElem?_toArray, List.append_assoc, List.getElem?_append_right (by rw [hks']; omega), hks', List.getElem?_append_left (by rw [List.length_map, hnl2]; have := hjl; rw [Nat.add_mul] at this; omega), List.getElem?_map, hd]
       rfl
     ·rcases List.mem_append.1 (List.mem_of_getElem? hd) with hc | hc
      ·exact g2.valid (hcv d hc)
      ·exact g2.valid (hnv d hc)
   ·have holds : ∀ j u, (cells.map AV.val)[j]? = some u -> w.cell? ((⟨g, 0, none⟩ : Addr).add j) = some u := fun j u hu => by
     rw [List.getElem?_map] at hu
     cases hd : cells[j]? with
     | none => rw [hd] at hu; cases hu
     | some d =>
      rw [hd] at hu
      injection hu with hu
      subst hu
      exact (Zcs hva hd).1
    have hr := run_append_grow (P := P) w t ty e i z hty hi hzi ⟨g, 0, none⟩ n c (cells.map AV.val) (by rw [List.length_map]; exact hcl) holds ad m cb _ hnl hnews (by omega) (by omega) (growslice_fits (by omega) hb)
    obtain ⟨v', σ', g1, g2, g3, g4, g5, g6⟩ := grown c hcv
    exact ⟨v', σ', _, by rw [g1]; simpa using hr, g2, g3, g4, g5, g6⟩
end
section
variable {P : Program} {ops : Array Oper} {env : Env} {σ : St} {K : Env -> St -> Prop} {d : Option Nat} {ty t e : TypeId} {pos : String} {af : Array Edge} {x y : Operand}
theorem ZwI {v : AV} {n m cb sz bytes : Nat} {z : Value} {cells news : List AV} {B : Option Addr} (hx : ev env x = v) (hy : ev env y = .lst B m cb news) (ht : Zar P t = some e) (hs : Zav P e = some sz) (hz : ZaS P e = some z) (hby : Zb5 P e = some bytes) (hzs : z.cells.size = sz) (hsz : 0 < sz)
 (hown : Own σ e sz v n cells) (hl : m * sz <= news.length) (h1 : ∀ c ∈ news.take (m * sz), c.one = true) (h63 : n + m <= maxLen) (hb : (n + m) * bytes <= 140737488355328)
 (h : ∀ v' τ, Own τ e sz v' (n + m) (cells ++ news.take (m * sz)) -> App σ v τ v' -> K (env.put d v') τ) : aOp P ops ⟨d, .call ⟨.builtin .append, #[x, y], #[t, t]⟩, ty, pos, af, none⟩ env σ K := by
 rw [ZaN rfl]
 refine .inr ⟨rfl, fun ρ hρ w Z hH hV => ?_⟩
 have hvs : (Op.call ⟨.builtin .append, #[x, y], #[t, t]⟩).operands.toList.map (ev env) = [v, .lst B m cb news] := by simp [Op.operands, Call.operands, hx, hy]
 have hρ' : (Op.call ⟨.builtin .append, #[x, y], #[t, t]⟩).operands.toList.map ρ = ((Op.call ⟨.builtin .append, #[x, y], #[t, t]⟩).operands.toList.map (ev env)).map AV.val := hρ
 rw [hvs] at hρ'
 have hV' : ∀ c ∈ [v, AV.lst B m cb news], Zag w (σ.free Z) c := by rw [<- hvs]; exact hV
 simp [Op.operands, Call.operands] at hρ'
 obtain ⟨v', σ', w', hr, h2, h3, h4, h5, h6⟩ := Zm5 (ty := ty) (B := B) (m := m) (cb := cb) (news := news) hH (hV' v (by simp)) (hV' (.lst B m cb news) (by simp)) ht hs hz hby hzs hsz hown hl h1 h63 hb
 refine ⟨v', σ', w', .inl ?_, h v' σ' h2 h3, h4, h5, h6⟩
 simp [execOp, resolve, invoke, builtin, hρ', hr]
theorem App.but {τ : St} {v v' : AV} (h : App σ v τ v') : But (fun b => v.blk = some b) σ τ := ⟨fun b k hb hk => h.keep b k hb hk, h.used⟩
end
mutual
def Is : D -> AV -> Prop
 | .i k n, v => v = .raw (.int k n)
 | .b x, v => v = .raw (.bool x)
 | .s l, v => v = .raw (.string ⟨l.toArray⟩)
 | .l sz ds, v => ∃ A n c cells, v = .lst A n c cells /\ ds.length = n * sz /\ n <= c /\ c <= maxLen /\ n <= 140737488355328 /\ (A = none -> n = 0 /\ c = 0) /\ Zdi ds cells
def Zdi : List D -> List AV -> Prop
 | [], _ => True
 | d :: ds, v :: vs => Is d v /\ Zdi ds vs
 | _ :: _, [] => False
end
@[simp] theorem ZA2 (vs : List AV) : Zdi [] vs := by unfold Zdi; trivial
@[simp] theorem ZsT (d : D) (ds : List D) (v : AV) (vs : List AV) : Zdi (d :: ds) (v :: vs) ↔ Is d v /\ Zdi ds vs := by conv => lhs; unfold Zdi
@[simp] theorem ZAy (d : D) (ds : List D) : ¬ Zdi (d :: ds) [] := by unfold Zdi; exact id
theorem Zdi.le {ds : List D} {vs : List AV} (h : Zdi ds vs) : ds.length <= vs.length := by
 induction ds generalizing vs with
 | nil => simp
 | cons d ds ih => cases vs with
  | nil => simp at h
  | cons v vs => simp at h; have := ih h.2; simp; omega
theorem Zdi.app {ds es : List D} {vs : List AV} : Zdi (ds ++ es) vs ↔ Zdi ds vs /\ Zdi es (vs.drop ds.length) := by
 induction ds generalizing vs with
 | nil => simp
 | cons d ds ih => cases vs with
  | nil => simp
  | cons v vs => simp [ih, and_assoc]
theorem Zdi.more {ds : List D} {vs : List AV} (h : Zdi ds vs) (ws : List AV) : Zdi ds (vs ++ ws) := by
 induction ds generalizing vs with
 | nil => simp
 | cons d ds ih => cases vs with
  | nil => simp at h
  | cons v vs => simp at h ⊢; exact ⟨h.1, ih h.2⟩
theorem Zdi.two {ds es : List D} {vs ws : List AV} (h : Zdi ds vs) (hl : vs.length = ds.length) (k : Zdi es ws) : Zdi (ds ++ es) (vs ++ ws) := by
 refine Zdi.app.2 ⟨h.more _, ?_⟩
 rw [<- hl, List.drop_left]
 exact k
theorem Zdi.drop {ds : List D} {vs : List AV} (h : Zdi ds vs) (k : Nat) : Zdi (ds.drop k) (vs.drop k) := by
 induction k generalizing ds vs with
 | zero => simpa using h
 | succ k ih => cases ds with
  | nil => simp
  | cons d ds => cases vs with
   | nil => simp at h
   | cons v vs => simp at h ⊢; exact ih h.2
theorem Zdi.take {ds : List D} {vs : List AV} (h : Zdi ds vs) (k : Nat) (hk : ds.length <= k) : Zdi ds (vs.take k) := by
 induction ds generalizing vs k with
 | nil => simp
 | cons d ds ih => cases vs with
  | nil => simp at h
  | cons v vs => cases k with
   | zero => simp at hk
   | succ k => simp at h hk ⊢; exact ⟨h.1, ih h.2 k hk⟩
theorem Zy1 {d : D} {v : AV} (hf : d.flat = true) : Is d v ↔ v = .raw d.val := by
 cases d with
 | i k n => simp [Is, D.val]
 | b x => simp [Is, D.val]
 | s l => simp [Is, D.val]
 | l sz ds => simp [D.flat] at hf
def Zy2 (d : D) : AV := .raw d.val
theorem Zm6 {ds : List D} {vs : List AV} (hf : ∀ d ∈ ds, d.flat = true) : Zdi ds vs ↔ ∃ rest, vs = ds.map Zy2 ++ rest := by
 induction ds generalizing vs with
 | nil => simp
 | cons d ds ih => cases vs with
  | nil => simp
  | cons v vs =>
   simp only [ZsT, Zy1 (hf d (by simp)), ih (fun d hd => hf d (List.mem_cons_of_mem _ hd)), List.map_cons, List.cons_append, List.cons.injEq, Zy2]
   constructor
   ·rintro ⟨rfl, rest, rfl⟩; exact ⟨rest, rfl, rfl⟩
   ·rintro ⟨rest, rfl, rfl⟩; exact ⟨rfl, rest, rfl⟩
structure Lst (A : Option Addr) (n c : Nat) : Prop where
 le : n <= c
 most : c <= maxLen
 small : n <= 140737488355328
 none : A = none -> n = 0 /\ c = 0
theorem ZA3 {α : Type} {enc : α -> D} (hf : ∀ x, (enc x).flat = true) {xs : List α} {v : AV} : Is (.l 1 (xs.map enc)) v ↔ ∃ A c rest, v = .lst A xs.length c (xs.map (fun x => Zy2 (enc x)) ++ rest) /\ Lst A xs.length c := by
 unfold Is
 constructor
 ·rintro ⟨A, n, c, cells, rfl, h1, h2, h3, h4, h5, h6⟩
  obtain rfl : n = xs.length := by simpa using h1.symm
  obtain ⟨rest, rfl⟩ := (Zm6 (by simp [hf])).1 h6
  exact ⟨A, c, rest, by simp [Function.comp_def], h2, h3, h4, h5⟩
 ·rintro ⟨A, c, rest, rfl, h2, h3, h4, h5⟩
  exact ⟨A, xs.length, c, _, rfl, by simp, h2, h3, h4, h5, (Zm6 (by simp [hf])).2 ⟨rest, by simp [Function.comp_def]⟩⟩
def New (σ0 τ : St) (e : TypeId) (sz : Nat) (v : AV) (n : Nat) (cells : List AV) : Prop := Own τ e sz v n cells /\ ∀ g, v.blk = some g -> σ0.blk g = none /\ ¬ σ0.used g
theorem New.nil (σ0 τ : St) (e : TypeId) (sz : Nat) : New σ0 τ e sz (.lst none 0 0 []) 0 [] := ⟨⟨by simp, .inl ⟨rfl, rfl⟩⟩, fun g h => by cases h⟩
theorem Own.but {S : Nat -> Prop} {σ τ : St} {e : TypeId} {sz n : Nat} {v : AV} {cells : List AV} (h : Own σ e sz v n cells) (hX : But S σ τ) (hS : ∀ g, v.blk = some g -> ¬ S g) : Own τ e sz v n cells := by
 refine ⟨h.1, h.2.imp id ?_⟩
 rintro ⟨g, c, rfl, h2, h3, h4, h5⟩
 exact ⟨g, c, rfl, h2, h3, hX.keep _ _ (hS g rfl) h4, hX.used _ h5⟩
theorem Own.ext {σ τ : St} {e : TypeId} {sz n : Nat} {v : AV} {cells : List AV} (h : Own σ e sz v n cells) (hX : Ext σ τ) : Own τ e sz v n cells := h.but (S := fun _ => False) hX.but fun _ _ => id
theorem Own.used {σ : St} {e : TypeId} {sz n : Nat} {v : AV} {cells : List AV} (h : Own σ e sz v n cells) {g : Nat} (hg : v.blk = some g) : σ.used g := by
 rcases h.2 with ⟨rfl, _⟩ | ⟨g', c, rfl, _, _, _, hu⟩
 ·cases hg
 ·injection hg with hg; subst hg; exact hu
theorem Own.ne {σ : St} {e : TypeId} {sz n : Nat} {v : AV} {cells : List AV} (h : Own σ e sz v n cells) {b : Nat} {t : TypeId} {cs : List AV} (hb : σ.blk b = some (.own t cs)) : ¬ v.blk = some b := by
 intro hv
 rcases h.2 with ⟨rfl, _⟩ | ⟨g', c, rfl, _, _, hg, hu⟩
 ·cases hv
 ·injection hv with hv
  change g' = b at hv
  subst hv
  rw [hg] at hb; cases hb
theorem New.ext {σ0 σ τ : St} {e : TypeId} {sz n : Nat} {v : AV} {cells : List AV} (h : New σ0 σ e sz v n cells) (hX : Ext σ τ) : New σ0 τ e sz v n cells := ⟨h.1.ext hX, h.2⟩
theorem New.old {σ0 σ1 σ : St} {e : TypeId} {sz n : Nat} {v : AV} {cells : List AV} (h : New σ1 σ e sz v n cells) (hX : Ext σ0 σ1) : New σ0 σ e sz v n cells := ⟨h.1, fun g hg => ⟨hX.noneOf (h.2 g hg).1, hX.unused (h.2 g hg).2⟩⟩
theorem New.store {σ0 σ τ : St} {e : TypeId} {sz n : Nat} {v : AV} {cells cs : List AV} {b : Nat} {t : TypeId} (h : New σ0 σ e sz v n cells) (hb : σ.blk b = some (.own t cs)) (hX : But (fun c => c = b) σ τ) : New σ0 τ e sz v n cells := ⟨h.1.but hX fun g hg e => by subst e; exact h.1.ne hb hg, h.2⟩
def Zyl (S : Nat -> Prop) (σ0 τ : St) (e : TypeId) (sz : Nat) (v : AV) (n : Nat) (cells : List AV) : Prop := Own τ e sz v n cells /\ ∀ g, v.blk = some g -> S g \/ (σ0.blk g = none /\ ¬ σ0.used g)
theorem Zyl.ext {S : Nat -> Prop} {σ0 σ τ : St} {e : TypeId} {sz n : Nat} {v : AV} {cells : List AV} (h : Zyl S σ0 σ e sz v n cells) (hX : Ext σ τ) : Zyl S σ0 τ e sz v n cells := ⟨h.1.ext hX, h.2⟩
theorem Zyl.store {S : Nat -> Prop} {σ0 σ τ : St} {e : TypeId} {sz n : Nat} {v : AV} {cells cs : List AV} {b : Nat} {t : TypeId} (h : Zyl S σ0 σ e sz v n cells) (hb : σ.blk b = some (.own t cs)) (hX : But (fun c => c = b) σ τ) : Zyl S σ0 τ e sz v n cells := ⟨h.1.but hX fun g hg e => by subst e; exact h.1.ne hb hg, h.2⟩
theorem Zyl.lst {S : Nat -> Prop} {σ0 τ : St} {e : TypeId} {sz n : Nat} {v : AV} {cells : List AV} (h : Zyl S σ0 τ e sz v n cells) : ∃ A k c l, v = .lst A k c l := by
 rcases h.1.2 with ⟨rfl, _⟩ | ⟨g, c, rfl, _⟩
 ·exact ⟨_, _, _, _, rfl⟩
 ·exact ⟨_, _, _, _, rfl⟩
theorem Own.is {τ : St} {e : TypeId} {α : Type} {enc : α -> D} {f : α -> AV} (hf : ∀ x, (enc x).flat = true) (hff : ∀ x, Zy2 (enc x) = f x) {xs : List α} {v : AV} (h : Own τ e 1 v xs.length (xs.map f)) (hl : xs.length <= 140737488355328) : Is (.l 1 (xs.map enc)) v := by
 refine (ZA3 hf).2 ?_
 rw [show xs.map f = xs.map fun x => Zy2 (enc x) from List.map_congr_left fun x _ => (hff x).symm] at h
 rcases h.2 with ⟨rfl, h0⟩ | ⟨g, c, rfl, h1, h2, _⟩
 ·obtain rfl := List.eq_nil_of_length_eq_zero h0
  exact ⟨none, 0, [], rfl, by simp, by simp, by simp, fun _ => ⟨rfl, rfl⟩⟩
 ·exact ⟨some ⟨g, 0, none⟩, c, [], by simp, ⟨h1, h2, hl, (fun e => by cases e)⟩⟩
theorem Own.bytes {τ : St} {e : TypeId} {xs : List UInt8} {v : AV} (h : Own τ e 1 v xs.length (xs.map vU)) (hl : xs.length <= 140737488355328) : Is (Zey xs) v := h.is (enc := dB) (fun _ => rfl) (fun _ => rfl) hl
theorem Own.form {τ : St} {e : TypeId} {n : Nat} {v : AV} {cells : List AV} {sz : Nat} (h : Own τ e sz v n cells) : ∃ A c, v = .lst A n c cells /\ n <= c /\ c <= maxLen /\ (A = none -> n = 0 /\ c = 0) := by
 rcases h.2 with ⟨rfl, h0⟩ | ⟨g, c, rfl, h1, h2, _⟩
 ·have := h.1
  subst h0
  simp at this
  subst this
  exact ⟨none, 0, rfl, Nat.le_refl _, Nat.zero_le _, fun _ => ⟨rfl, rfl⟩⟩
 ·exact ⟨_, c, rfl, h1, h2, (fun e => by cases e)⟩
theorem New.is {σ0 τ : St} {e : TypeId} {α : Type} {enc : α -> D} {f : α -> AV} (hf : ∀ x, (enc x).flat = true) (hff : ∀ x, Zy2 (enc x) = f x) {xs : List α} {v : AV} (h : New σ0 τ e 1 v xs.length (xs.map f)) (hl : xs.length <= 140737488355328) : Is (.l 1 (xs.map enc)) v := by
 refine (ZA3 hf).2 ?_
 rw [show xs.map f = xs.map fun x => Zy2 (enc x) from List.map_congr_left fun x _ => (hff x).symm] at h
 rcases h.1.2 with ⟨rfl, h0⟩ | ⟨g, c, rfl, h1, h2, _⟩
 ·obtain rfl := List.eq_nil_of_length_eq_zero h0
  exact ⟨none, 0, [], rfl, by simp, by simp, by simp, fun _ => ⟨rfl, rfl⟩⟩
 ·exact ⟨some ⟨g, 0, none⟩, c, [], by simp, ⟨h1, h2, hl, (fun e => by cases e)⟩⟩
theorem New.app {σ0 σ τ : St} {e : TypeId} {sz n n' : Nat} {v v' : AV} {cells cells' : List AV} (h : New σ0 σ e sz v n cells) (hX : Ext σ0 σ) (hO : Own τ e sz v' n' cells') (hk : But (fun b => v.blk = some b) σ τ) (hg : ∀ g, v'.blk = some g -> v.blk = some g \/ (σ.blk g = none /\ ¬ σ.used g)) : New σ0 τ e sz v' n' cells' /\ Ext σ0 τ := by
 refine ⟨⟨hO, fun g hg' => ?_⟩, But.ext hX (fun b hb => (h.2 b hb).1) hk⟩
 rcases hg g hg' with h1 | h1
 ·exact h.2 g h1
 ·exact ⟨hX.noneOf h1.1, hX.unused h1.2⟩
theorem Is.lst {sz : Nat} {ds : List D} {v : AV} (h : Is (.l sz ds) v) : ∃ A n c l, v = .lst A n c l := by
 unfold Is at h
 obtain ⟨A, n, c, cells, rfl, _⟩ := h
 exact ⟨A, n, c, cells, rfl⟩
theorem New.lst {σ0 τ : St} {e : TypeId} {sz n : Nat} {v : AV} {cells : List AV} (h : New σ0 τ e sz v n cells) : ∃ A n c l, v = .lst A n c l := by
 rcases h.1.2 with ⟨rfl, _⟩ | ⟨g, c, rfl, _⟩
 ·exact ⟨_, _, _, _, rfl⟩
 ·exact ⟨_, _, _, _, rfl⟩
theorem New.bytes {σ0 τ : St} {e : TypeId} {xs : List UInt8} {v : AV} (h : New σ0 τ e 1 v xs.length (xs.map vU)) (hl : xs.length <= 140737488355328) : Is (Zey xs) v := h.is (enc := dB) (fun _ => rfl) (fun _ => rfl) hl
section
variable {P : Program} {ops : Array Oper} {env : Env} {σ : St} {K : Env -> St -> Prop} {d : Option Nat} {ty ty' t e : TypeId} {pos : String} {af : Array Edge} {x y z : Operand}
theorem Zc1 {sz n c j : Nat} {A : Option Addr} {cells cs : List AV} {k : IntKind} (hx : ev env x = .lst A n c cells) (hy : ev env y = .raw (.int k j)) (ht : Zar P t = some e) (hs : Zav P e = some sz) (hj : j < n) (hA : A = none -> n = 0) (hd : cells.drop (j * sz) = cs) (h : ∀ ad : Addr, K (env.put d (.eptr ad cs)) σ) : aOp P ops ⟨d, .indexAddr t x y, ty, pos, af, none⟩ env σ K := by
 subst hd
 cases A with
 | none => have := hA rfl; omega
 | some ad => exact ZyW hx hy ht hs hj (h _)
theorem Zif {n : Nat} {parts : Array (Nat × Operand)} {sz : Nat} {v : Value} {vs cells : List AV} (hv : parts.toList.map (fun p => ev env p.2) = vs) (ht : Zar P t = some e) (hs : Zav P e = some sz) (hz : ZaS P e = some v) (hzs : v.cells.size = sz) (hn : n <= 100000 /\ n * sz <= 1000000)
 (hf : ZdD (fun i => some (i * sz, sz)) ((List.range (n * sz)).map fun i => .ofV (v.cells[i % sz]!)) ((parts.toList.map (·.1)).zip vs) = some cells) (hc : cells.length = n * sz)
 (h : ∀ b τ, New σ τ e sz (.lst (some ⟨b, 0, none⟩) n n cells) n cells -> Ext σ τ -> K (env.put d (.lst (some ⟨b, 0, none⟩) n n cells)) τ) : aOp P ops ⟨d, .buildSlice t n parts, ty, pos, af, none⟩ env σ K :=
 Zkh hv ht hs hz hzs (by omega) hf fun b hu hb => h b _ ⟨⟨hc, .inr ⟨b, n, rfl, Nat.le_refl _, (by simp only [maxLen]; omega), ZaW _ _ _, .inr rfl⟩⟩, fun g hg => by
  injection hg with hg
  change b = g at hg
  subst hg
  exact ⟨hb, hu⟩⟩ (Ext.put _ hb)
theorem ZwJ {A : Option Addr} {n c : Nat} {cells : List AV} (ht : Zar P t = some e) (hx : ev env x = .lst A n c cells) (hy : ev env y = .lst none 0 0 []) (h : K (env.put d (.raw (.bool A.isNone))) σ) : aOp P ops ⟨d, .binOp .eql t x y ty', ty, pos, af, none⟩ env σ K :=
 Zf9 hx hy (fun w _ _ => by simp [eqGuard_at_slice, binOp, run_equal_slice_nil w t e A n c (Za0 ht)]) h
theorem Zue {A : Option Addr} {n c l u : Nat} {cells cs : List AV} {sz : Nat} {lo hi : Option Operand} {ix : List AV} (hx : ev env x = .lst A n c cells) (hix : (lo.toList ++ hi.toList).map (ev env) = ix) (ht : Zar P t = some e) (hs : Zav P e = some sz) (he : ZbE n c lo.isSome hi.isSome false ix l u c) (hlu : l <= u) (huc : u <= c) (hd : (if c = l then [] else cells.drop (l * sz)) = cs) (h : ∀ A', A' = (if c = l then A else A.map (·.add (l * sz))) -> K (env.put d (.lst A' (u - l) (c - l) cs)) σ) : aOp P ops ⟨d, .slice t x lo hi none, ty, pos, af, none⟩ env σ K := by
 rw [ZaN rfl]
 have : (Op.slice t x lo hi none).operands.toList.map (ev env) = .lst A n c cells :: ix := by
  rw [<- hix, <- hx]
  cases lo <;> cases hi <;> simp [Op.operands]
 rw [this]
 subst hd
 exact ⟨e, sz, ht, hs, l, u, c, he, hlu, huc, Nat.le_refl _, h _ rfl⟩
theorem ZwK {n c l : Nat} {k : IntKind} {a : Int} (ha : a = (l : Int)) : ZbE n c true false false [.raw (.int k a)] l n c := ⟨⟨k, by rw [ha]; simp⟩, rfl, rfl⟩
theorem ZwL {n c u : Nat} {k : IntKind} {a : Int} (ha : a = (u : Int)) : ZbE n c false true false [.raw (.int k a)] 0 u c := ⟨rfl, ⟨k, by rw [ha]; simp⟩, rfl⟩
theorem Zuf {k k' : IntKind} {q : IntKind} {a r : Int} (hs : P.underlying t = some (.int q)) (hd : P.underlying ty' = some (.int k')) (hx : ev env x = .raw (.int k a)) (hw : k'.wrap a = r) (h : K (env.put d (.raw (.int k' r))) σ) : aOp P ops ⟨d, .convert t ty' x, ty, pos, af, none⟩ env σ K :=
 ZAT hx (fun w => by subst hw; simp [convert, run_underlying hs, run_underlying hd, Conv.intToInt]) h
theorem Zug {as_ : Operand} {ts : Array TypeId} {t e : TypeId} {A : Option Addr} {n c : Nat} {v : AV} (hx : ev env as_ = v) (hv : v.val = .slice A n c) (hts : ts[0]? = some t) (ht : Zar P t = some e) (h : K (env.put d (.raw (.int .i64 n))) σ) : aOp P ops ⟨d, .call ⟨.builtin .len, #[as_], ts⟩, ty, pos, af, none⟩ env σ K := by
 refine ZhV (vs := [v]) rfl (by simp [Op.operands, Call.operands, hx]) (fun _ _ h => .inl h) (fun ρ hρ w _ _ => ?_) h
 simp [Op.operands, Call.operands] at hρ
 simp [execOp, resolve, invoke, builtin, Builtin.len_, hρ, hv, hts, run_underlying (Za0 ht), goInt]
end
end Go.Proofs.YteempnebenjkmaaGreatDoor
namespace Go.Proofs.YteempnebenjkmaaGreatDoor
open Go.RowKit
set_option maxRecDepth 100000
set_option linter.unusedVariables false
inductive SK where
 | i (k : IntKind)
 | b
 | s
def SK.fit : SK -> Value -> Prop
 | .i k, v => ∃ n, v = .int k n
 | .b, v => ∃ x, v = .bool x
 | .s, v => ∃ x, v = .string x
def ZwB : List SK -> List Value -> Prop
 | [], [] => True
 | k :: ks, v :: vs => k.fit v /\ ZwB ks vs
 | _, _ => False
theorem ZwB.len : ∀ {ks : List SK} {vs : List Value}, ZwB ks vs -> vs.length = ks.length
 | [], [], _ => rfl
 | k :: ks, v :: vs, h => by simp [ZwB.len h.2]
theorem ZwB.split : ∀ {ks ls : List SK} {vs : List Value}, ZwB (ks ++ ls) vs -> ZwB ks (vs.take ks.length) /\ ZwB ls (vs.drop ks.length)
 | [], ls, vs, h => by simpa [ZwB] using h
 | k :: ks, ls, v :: vs, h => by
  obtain ⟨h1, h2⟩ := h
  obtain ⟨h3, h4⟩ := ZwB.split h2
  exact ⟨⟨h1, by simpa using h3⟩, by simpa using h4⟩
def Zuh (g : TypeId -> Option (List SK)) (sz : TypeId -> Option Nat) : List Field -> Nat -> Option (List SK)
 | [], _ => some []
 | f :: fs, off => if f.name = "_" \/ f.offset ≠ off then none else match g f.type with
  | some ks => if sz f.type = some ks.length then (Zuh g sz fs (off + ks.length)).map (ks ++ ·) else none
  | none => none
def Zym (P : Program) : Nat -> TypeId -> Option (List SK)
 | 0, _ => none
 | d + 1, t => match P.underlying t with
  | some .bool => some [.b]
  | some (.int q) => some [.i q]
  | some .string => some [.s]
  | some (.struct fs) => if P.stoodInHeld t then none else Zuh (Zym P d) (Zav P) fs.toList 0
  | _ => none
section
variable {P : Program} {w : World}
variable {ops : Array Oper} {env : Env} {σ : St} {K : Env -> St -> Prop} {d : Option Nat} {ty ty' t e : TypeId} {pos : String} {af : Array Edge} {x y z : Operand}
theorem Zga {p : Option Addr} {v : AV} (hp : P.underlying t = some (.pointer (P.pointee t))) (hx : ev env x = v) (hv : v.val = .pointer p) (hy : ev env y = .raw (.pointer none)) (h : K (env.put d (.raw (.bool p.isNone))) σ) : aOp P ops ⟨d, .binOp .eql t x y ty', ty, pos, af, none⟩ env σ K :=
 Zf9 hx hy (fun w _ _ => by simp [hv, eqGuard_at_pointer, run_eql_pointer_nil w t p hp]) h
theorem Ziy {p : Option Addr} {v : AV} (hp : P.underlying t = some (.pointer (P.pointee t))) (hx : ev env x = v) (hv : v.val = .pointer p) (hy : ev env y = .raw (.pointer none)) (h : K (env.put d (.raw (.bool (!p.isNone)))) σ) : aOp P ops ⟨d, .binOp .neq t x y ty', ty, pos, af, none⟩ env σ K :=
 Zf9 hx hy (fun w _ _ => by simp [hv, eqGuard_at_pointer, run_neq_pointer_nil w t p hp]) h
end
end Go.Proofs.YteempnebenjkmaaGreatDoor
