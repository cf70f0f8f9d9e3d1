/- The base: codes, functions, steps of a walk, append, data. -/
import Derived.Test.YtinpiaibhjmfaaaBa
import Derived.IntWalk
import Derived.WalkLawsBesides
import Derived.Laws.AppendOwn
import Derived.Lib.LazyBuf
import Derived.Laws.Entries
import Derived.Laws.StructEq
import Derived.Laws.Pointers
namespace Go.Proofs.Ytinpiaibhjmfaaa
open Go.RowKit
set_option maxRecDepth 100000
set_option linter.unusedVariables false
abbrev ZeA := Exit -> Env -> St -> Prop
def Zgt (next : Env -> St -> Prop) (Q : ZeA) : ZeA
 | .normal, env, σ => next env σ
 | e, env, σ => Q e env σ
def Zfg (id : Nat) (Q : ZeA) : ZeA
 | .exit id', env, σ => if id' = id then Q .normal env σ else Q (.exit id') env σ
 | e, env, σ => Q e env σ
def Zn1 (Q : ZeA) : ZeA
 | .goto _, _, _ => False
 | e, env, σ => Q e env σ
def Zay (P : Program) (O : Nat -> Prop) : Code -> ZeA -> Env -> St -> Prop
 | .skip, Q, env, σ => Q .normal env σ
 | .region _ ops draw, Q, env, σ => Zk8 O env σ fun env σ => match draw with
  | false => ZbV P ops ops.toList env σ (Q .normal)
  | true => Zg1 P ops env σ (Q .normal)
 | .seq a b, Q, env, σ => Zay P O a (Zgt (Zay P O b Q) Q) env σ
 | .cond c a b, Q, env, σ => ∃ t, (ev env c).val = .bool t /\ (t = true -> Zay P O a Q env σ) /\ (t = false -> Zay P O b Q env σ)
 | .block id c, Q, env, σ => Zay P O c (Zfg id Q) env σ
 | .loop c, Q, env, σ => ∃ (I : Nat -> Env -> St -> Prop) (n : Nat), I n env σ /\ ∀ n env σ, I n env σ -> Zay P O c (Zgt (fun env' σ' => ∃ n', n' < n /\ I n' env' σ') Q) env σ
 | .exit id, Q, env, σ => Q (.exit id) env σ
 | .scope c, Q, env, σ => Zay P O c (Zn1 Q) env σ
 | .ret, Q, env, σ => Q .ret env σ
 | _, _, _, _ => False
def ZdP (nt : Nat) : Code -> Bool
 | .region _ ops _ => Zgp nt ops.toList
 | .seq a b => ZdP nt a && ZdP nt b
 | .cond _ a b => ZdP nt a && ZdP nt b
 | .block _ c => ZdP nt c
 | .loop c => ZdP nt c
 | .scope c => ZdP nt c
 | _ => true
def Zp1 (nt : Nat) (O : Nat -> Prop) (w0 : World) (σ0 : St) (Z : Nat -> Prop) (Q : ZeA) : Exit -> Act -> World -> Prop := fun e a w => ∃ env σ, Q e env σ /\ ZeQ nt w σ Z env a /\ Zeq O w0 σ0 w σ
section
variable {P : Program} {Z O : Nat -> Prop} {nt : Nat}
theorem Zp1.grow {w0 w1 : World} {σ0 σ1 : St} {Q : ZeA} (hG : Zeq O w0 σ0 w1 σ1) {e : Exit} {a : Act} {w : World} (h : Zp1 nt O w1 σ1 Z Q e a w) : Zp1 nt O w0 σ0 Z Q e a w := by
 obtain ⟨env, σ, h1, h2, h3⟩ := h
 exact ⟨env, σ, h1, h2, hG.trans h3⟩
theorem Zcm (hm : P.follows .mixedOrders = true) : ∀ (c : Code) (Q : ZeA) (env : Env) (σ : St) (a : Act) (w : World), ZdP nt c = true -> ZeQ nt w σ Z env a -> Zay P O c Q env σ -> c.wp P (Zp1 nt O w σ Z Q) a w
 | .skip, Q, env, σ, a, w, _, hI, h => wp_skip ⟨env, σ, h, hI, Zeq.refl _ _⟩
 | .region id ops false, Q, env, σ, a, w, hok, hI, h => by
  obtain ⟨env1, σ1, h, hI, hG⟩ := Zk8.sound hI h
  refine wp_region_list (Zgq (Z := Z) (nt := nt) hok ops.toList env1 σ1 a w (Q .normal) (fun _ h => h) hI h ?_)
  rintro a' w' ⟨env', σ', h1, h2, h3⟩
  exact ⟨env', σ', h1, h2, hG.trans h3.toO⟩
 | .region id ops true, Q, env, σ, a, w, hok, hI, h => by
  obtain ⟨env1, σ1, h, hI, hG⟩ := Zk8.sound hI h
  refine Zif (K := Q .normal) hm hok hI h ?_
  rintro a' w' ⟨env', σ', h1, h2, h3⟩
  exact ⟨env', σ', h1, h2, hG.trans h3.toO⟩
 | .seq x y, Q, env, σ, a, w, hok, hI, h => by
  unfold ZdP at hok
  simp only [Bool.and_eq_true] at hok
  refine wp_seq (wp_mono (Zcm hm x _ env σ a w hok.1 hI h) ?_)
  rintro e a' w' ⟨env', σ', h1, h2, h3⟩
  cases e with
  | normal => exact wp_mono (Zcm hm y Q env' σ' a' w' hok.2 h2 h1) fun e a2 w2 h => h.grow h3
  | _ => exact ⟨env', σ', h1, h2, h3⟩
 | .cond c x y, Q, env, σ, a, w, hok, hI, h => by
  unfold ZdP at hok
  simp only [Bool.and_eq_true] at hok
  obtain ⟨t, h1, h2, h3⟩ := h
  have hc : a.eval c = .bool t := (hI.eval c).1.trans h1
  cases t with
  | true => exact wp_cond_true hc (Zcm hm x Q env σ a w hok.1 hI (h2 rfl))
  | false => exact wp_cond_false hc (Zcm hm y Q env σ a w hok.2 hI (h3 rfl))
 | .block id c, Q, env, σ, a, w, hok, hI, h => by
  unfold ZdP at hok
  refine wp_block (wp_mono (Zcm hm c _ env σ a w hok hI h) ?_)
  rintro e a' w' ⟨env', σ', h1, h2, h3⟩
  cases e with
  | exit id' =>
   unfold Zfg at h1
   unfold Exit.inBlock
   dsimp only at h1 ⊢
   split
   ·rename_i he; rw [if_pos he] at h1; exact ⟨env', σ', h1, h2, h3⟩
   ·rename_i he; rw [if_neg he] at h1; exact ⟨env', σ', h1, h2, h3⟩
  | _ => exact ⟨env', σ', h1, h2, h3⟩
 | .loop c, Q, env, σ, a, w, hok, hI, h => by
  unfold ZdP at hok
  obtain ⟨I, n, h1, h2⟩ := h
  refine wp_loop_ghost (fun n a' w' => ∃ env' σ', I n env' σ' /\ ZeQ nt w' σ' Z env' a' /\ Zeq O w σ w' σ') n ⟨env, σ, h1, hI, Zeq.refl _ _⟩ ?_
  rintro m a1 w1 ⟨env1, σ1, hI1, hA1, hG1⟩
  refine wp_mono (Zcm hm c _ env1 σ1 a1 w1 hok hA1 (h2 m env1 σ1 hI1)) ?_
  rintro e a' w' ⟨env', σ', g1, g2, g3⟩
  cases e with
  | normal =>
   obtain ⟨n', hn', hI'⟩ := g1
   exact ⟨n', hn', env', σ', hI', g2, hG1.trans g3⟩
  | _ => exact ⟨env', σ', g1, g2, hG1.trans g3⟩
 | .exit id, Q, env, σ, a, w, _, hI, h => wp_exit ⟨env, σ, h, hI, Zeq.refl _ _⟩
 | .scope c, Q, env, σ, a, w, hok, hI, h => by
  unfold ZdP at hok
  refine wp_scope_straight (wp_mono (Zcm hm c _ env σ a w hok hI h) ?_)
  rintro e a' w' ⟨env', σ', h1, h2, h3⟩
  cases e with
  | goto l => exact h1.elim
  | _ => exact ⟨env', σ', h1, h2, h3⟩
 | .ret, Q, env, σ, a, w, _, hI, h => wp_ret ⟨env, σ, h, hI, Zeq.refl _ _⟩
def Zcv (P : Program) (env : Env) (σ : St) : ResultVar -> Option AV
 | .tmp t => some (env t)
 | .cell a t => ZdM P t σ (env a)
def Zaj (P : Program) (fn : Func) (env : Env) (σ : St) (r : AV) : Prop := match fn.results.toList with
 | [x] => Zcv P env σ x = some r
 | l => ∃ rs, l.mapM (Zcv P env σ) = some rs /\ r = .tup rs
def Zqh (P : Program) (fn : Func) (K : AV -> St -> Prop) : ZeA
 | .normal, env, σ | .ret, env, σ => ∃ r, Zaj P fn env σ r /\ K r σ
 | _, _, _ => False
def Zn2 (args : List AV) : Env := fun i => args.getD i (.raw undef)
theorem Zla {w : World} {σ : St} {t : TypeId} {x r : AV} (h : ZdM P t σ x = some r) : ∃ ad, x.val = .pointer (some ad) := by
 unfold ZdM at h
 split at h
 ·exact ⟨_, by simp; rfl⟩
 ·exact ⟨_, by simp; rfl⟩
 ·cases h
def Zlb (tmps : Array Value) : ResultVar -> Sem Value
 | .tmp t => pure (tmps.getD t undef)
 | .cell a t => do loadVar t (<- asAddr (tmps.getD a undef))
theorem Zky {w : World} {σ : St} {env : Env} {a : Act} (hI : ZeQ nt w σ Z env a) (x : ResultVar) {r : AV} (h : Zcv P env σ x = some r) :
 (Zlb a.tmps x).run P w = .ok r.val w /\ Zap w (σ.free Z) r := by
 cases x with
 | tmp t =>
  injection h with h
  subst h
  exact ⟨by simp [Zlb, hI.val t], hI.valid t⟩
 | cell b t =>
  obtain ⟨h1, h2⟩ := Zgi hI.heap (hI.valid b) h
  obtain ⟨ad, had⟩ := Zla (w := w) h
  refine ⟨?_, h2⟩
  rw [had] at h1
  simp only [Zlb, hI.val b, had, asAddr]
  simpa [Instr.loadAt, Instr.sureAddr] using h1
theorem Zez {w : World} {σ : St} {env : Env} {a : Act} (hI : ZeQ nt w σ Z env a) : ∀ (l : List ResultVar) (rs : List AV), l.mapM (Zcv P env σ) = some rs ->
 (l.mapM (Zlb a.tmps)).run P w = .ok (rs.map AV.val) w /\ ∀ r ∈ rs, Zap w (σ.free Z) r
 | [], rs, h => by simp at h; subst h; exact ⟨by simp, by simp⟩
 | x :: l, rs, h => by
  simp only [List.mapM_cons, Option.bind_eq_bind, Option.pure_def] at h
  cases hx : Zcv P env σ x with
  | none => simp [hx] at h
  | some r =>
   cases hl : l.mapM (Zcv P env σ) with
   | none => simp [hx, hl] at h
   | some rs' =>
    simp [hx, hl] at h
    subst h
    obtain ⟨h1, h2⟩ := Zky hI x hx
    obtain ⟨h3, h4⟩ := Zez hI l rs' hl
    refine ⟨?_, fun r' hr' => ?_⟩
    ·rw [List.mapM_cons, Sem.run_bind, h1]
     simp only [Result.andThen_ok, Sem.run_bind]
     rw [h3]
     simp
    ·rcases List.mem_cons.1 hr' with rfl | hr'
     ·exact h2
     ·exact h4 r' hr'
theorem Zjd {w : World} {σ : St} {env : Env} {a : Act} {fn : Func} (hI : ZeQ nt w σ Z env a) {r : AV} (h : Zaj P fn env σ r) : (results fn a.tmps).run P w = .ok r.val w /\ Zap w (σ.free Z) r := by
 have key : ∃ rs, fn.results.toList.mapM (Zcv P env σ) = some rs /\ ((∃ x, rs = [x] /\ r = x) \/ (rs.length ≠ 1 /\ r = .tup rs)) := by
  unfold Zaj at h
  split at h
  ·rename_i x hx
   rw [hx]
   exact ⟨[r], by simp [h], .inl ⟨r, rfl, rfl⟩⟩
  ·rename_i l hne
   obtain ⟨rs, h1, h2⟩ := h
   refine ⟨rs, h1, .inr ⟨fun hl => ?_, h2⟩⟩
   have hlen : rs.length = fn.results.toList.length := by
    have : ∀ (l : List ResultVar) (rs : List AV), l.mapM (Zcv P env σ) = some rs -> rs.length = l.length := by
     intro l
     induction l with
     | nil => intro rs h; simp at h; subst h; rfl
     | cons x l ih =>
      intro rs h
      simp only [List.mapM_cons, Option.bind_eq_bind, Option.pure_def] at h
      cases hx : Zcv P env σ x with
      | none => simp [hx] at h
      | some r =>
       cases hl : l.mapM (Zcv P env σ) with
       | none => simp [hx, hl] at h
       | some rs' =>
        simp [hx, hl] at h
        subst h
        simp [ih rs' hl]
    exact this _ _ h1
   match hq : fn.results.toList with
   | [] => rw [hl, hq] at hlen; simp at hlen
   | [x] => exact hne x hq
   | x :: y :: l' => rw [hl, hq] at hlen; simp at hlen
 obtain ⟨rs, h1, h2⟩ := key
 obtain ⟨h3, h4⟩ := Zez hI _ rs h1
 have he : results fn a.tmps = (fn.results.mapM (Zlb a.tmps) >>= fun vs => pure (if h : vs.size = 1 then vs[0] else .tuple vs)) := rfl
 rw [he, Sem.run_bind, Array.mapM_eq_mapM_toList, Sem.run_map, h3]
 rcases h2 with ⟨x, rfl, rfl⟩ | ⟨hn, rfl⟩
 ·exact ⟨by simp, h4 _ (by simp)⟩
 ·refine ⟨?_, by unfold Zap; exact Za3.iff.2 h4⟩
  simp [hn]
theorem Zam {f : FuncId} {fn : Func} {c : Code} {args : List AV} {σ : St} {K : AV -> St -> Prop} (hm : P.follows .mixedOrders = true) (hf : P.funcs[f]? = some fn) (hb : fn.body = some c) (hname : (fn.name != "runtime.NumGoroutine") = true) (hok : ZdP fn.ntmps c = true) (hn : args.length <= fn.ntmps)
 (h : Zay P σ.used c (Zqh P fn K) (Zn2 args) σ) : Zat P f args σ K := by
 intro w Z hH hV
 refine .inl ⟨by unfold ZcQ; rw [hf]; simp [hb]; simpa using hname, ?_⟩
 refine calls_of_wp hf hb ?_
 have hI : ZeQ fn.ntmps w σ Z (Zn2 args) { tmps := (args.map AV.val).toArray ++ Array.replicate (fn.ntmps - (args.map AV.val).toArray.size) undef, defers := [] } := by
  refine ⟨hH, rfl, by simp; omega, fun i => ?_, fun i => ?_⟩
  ·unfold Zn2
   simp only [List.getD_eq_getElem?_getD, Array.getD_eq_getD_getElem?, Array.getElem?_append, List.size_toArray, List.length_map]
   by_cases hi : i < args.length
   ·simp [hi]
   ·simp only [if_neg hi, List.getElem?_eq_none (Nat.le_of_not_lt hi), Option.getD_none, AV.val_raw]
    by_cases h2 : i - args.length < fn.ntmps - args.length
    ·simp [h2]
    ·simp [h2]
  ·unfold Zn2
   rw [List.getD_eq_getElem?_getD]
   cases hi : args[i]? with
   | none => simp only [Option.getD_none]; unfold Zap; trivial
   | some x => exact hV x (List.mem_of_getElem? hi)
 refine wp_mono (Zcm hm c _ (Zn2 args) σ _ w hok hI h) ?_
 rintro e a' w' ⟨env', σ', h1, h2, h3⟩
 have h3 := h3.full hH
 have fin : (∃ r, Zaj P fn env' σ' r /\ K r σ') -> (a'.defers = [] /\ ∃ v, (results fn a'.tmps).run P w' = .ok v w' /\ ∃ r σ'', Ending.returned v = .returned r.val /\ K r σ'' /\ Zau w' σ'' Z /\ Zap w' (σ''.free Z) r /\ Grow w σ w' σ'') := by
  rintro ⟨r, g1, g2⟩
  obtain ⟨g3, g4⟩ := Zjd h2 g1
  exact ⟨h2.defers, _, g3, r, σ', rfl, g2, h2.heap, g4, h3⟩
 cases e with
 | normal => exact fin h1
 | ret => exact fin h1
 | _ => exact h1.elim
theorem Zau.known {w : World} {σ : St} {Z : Nat -> Prop} (hH : Zau w σ Z) : (∀ b t cs, σ.blk b = some (.own t cs) -> AV.BlksL σ.used cs) /\ ∀ b k, σ.blk b = some k -> σ.used b := by
 have hu : ∀ b o, σ.free Z b o -> σ.used b := fun b o h => h.2.1
 refine ⟨fun b t cs hb => AV.BlksL_iff.2 fun c hc => Zap.blks hu _ ((hH.own _ _ _ hb).2.2 c hc), fun b k hb => ?_⟩
 cases k with
 | own t cs => exact (hH.own _ _ _ hb).1
 | tail t k s => exact (hH.tail _ _ _ _ hb).1
 | map es => exact (hH.map _ _ hb).1
theorem Zat.know {f : FuncId} {args : List AV} {σ : St} {K : AV -> St -> Prop} (hc : ZcQ P f = true) (h : Zn0 σ (Zn2 args) -> Zat P f args σ K) : Zat P f args σ K := by
 intro w Z hH hV
 have hu : ∀ b o, σ.free Z b o -> σ.used b := fun b o h => h.2.1
 refine (h ⟨fun i => ?_, hH.known.1, hH.known.2⟩) w Z hH hV
 unfold Zn2
 rw [List.getD_eq_getElem?_getD]
 cases hi : args[i]? with
 | none => simp
 | some x => exact Zap.blks hu _ (hV x (List.mem_of_getElem? hi))
theorem Zat.told {f : FuncId} {args : List AV} {σ : St} {K : AV -> St -> Prop} (h : Zat P f args σ fun r τ => r.Blks τ.used -> (∀ b, σ.used b -> τ.used b) -> K r τ) : Zat P f args σ K := by
 refine fun w Z hH hV => (h w Z hH hV).mono ?_
 rintro e w' ⟨r, σ', rfl, hK, hH', hV', hG⟩
 exact ⟨r, σ', rfl, hK (Zap.blks (fun b o h => h.2.1) _ hV') hG.more, hH', hV', hG⟩
end
end Go.Proofs.Ytinpiaibhjmfaaa
namespace Go.Proofs.Ytinpiaibhjmfaaa
open Go.RowKit
set_option maxRecDepth 100000
set_option linter.unusedVariables false
section
variable {P : Program} {O : Nat -> Prop} {ops : Array Oper} {rest : List Oper} {env : Env} {σ : St} {K : Env -> St -> Prop} {d : Option Nat} {ty ty' t : TypeId} {pos : String} {af : Array Edge} {x y z : Operand}
theorem ZaQ {o : Oper} (hg : o.guard = none) : aOp P ops o env σ K = Zc8 P o (o.op.operands.toList.map (ev env)) σ (fun r σ' => K (env.put o.dst r) σ') := by
 unfold aOp Region.wanted
 rw [hg]
 rfl
theorem Zah {op : Op} {j : Nat} {want : Bool} (hg : ZaA ops env j = some want) (h : aOp P ops ⟨d, op, ty, pos, af, none⟩ env σ K) : aOp P ops ⟨d, op, ty, pos, af, some (j, want)⟩ env σ K := by
 rw [ZaQ rfl] at h
 have hw : Region.wanted ⟨d, op, ty, pos, af, some (j, want)⟩ (ZaA ops env) = true := by simp [Region.wanted, hg]
 unfold aOp
 rw [if_pos hw]
 exact h
theorem Zan {op : Op} {j : Nat} {want : Bool} (hg : ZaA ops env j = some (!want)) (h : K (env.put d (.raw undef)) σ) : aOp P ops ⟨d, op, ty, pos, af, some (j, want)⟩ env σ K := by
 have hw : ¬ Region.wanted ⟨d, op, ty, pos, af, some (j, want)⟩ (ZaA ops env) = true := by simp [Region.wanted, hg]
 unfold aOp
 rw [if_neg hw]
 exact h
theorem Zo7 {v : AV} (hx : ev env x = v) (h : K (env.put d v) σ) : aOp P ops ⟨d, .move x, ty, pos, af, none⟩ env σ K := by
 subst hx; rw [ZaQ rfl]; exact h
theorem Zfh {v : AV} (hx : ev env x = v) (h : K (env.put d v) σ) : aOp P ops ⟨d, .assign x, ty, pos, af, none⟩ env σ K := by
 subst hx; rw [ZaQ rfl]; exact h
theorem ZaG {v : AV} (hx : ev env x = .raw (.bool true)) (hy : ev env y = v) (h : K (env.put d v) σ) : aOp P ops ⟨d, .pick x y z, ty, pos, af, none⟩ env σ K := by
 subst hy; rw [ZaQ rfl]; exact ⟨true, by rw [hx]; simp, h⟩
theorem Za2 {v : AV} (hx : ev env x = .raw (.bool false)) (hy : ev env z = v) (h : K (env.put d v) σ) : aOp P ops ⟨d, .pick x y z, ty, pos, af, none⟩ env σ K := by
 subst hy; rw [ZaQ rfl]; exact ⟨false, by rw [hx]; simp, h⟩
theorem Zn3 {e : TypeId} {v : Value} (hz : ZbL P e = some v) (h : ∀ b, ¬ σ.used b -> σ.blk b = none -> K (env.put d (ptr b 0)) (σ.put b (.own e (AV.ofV v).cells))) : aOp P ops ⟨d, .alloc e, ty, pos, af, none⟩ env σ K := by
 rw [ZaQ rfl]; exact ⟨v, hz, h⟩
theorem Zqi {e : TypeId} {v : AV} (hx : ev env x = v) (h : ∀ b, ¬ σ.used b -> σ.blk b = none -> K (env.put d (ptr b 0)) (σ.put b (.own e v.cells))) : aOp P ops ⟨d, .box e x, ty, pos, af, none⟩ env σ K := by
 subst hx; rw [ZaQ rfl]; exact h
theorem Zc3 {v r : AV} (hx : ev env x = v) (hl : ZdM P t σ v = some r) (h : K (env.put d r) σ) : aOp P ops ⟨d, .load t x, ty, pos, af, none⟩ env σ K := by
 subst hx; rw [ZaQ rfl]; exact ⟨r, hl, h⟩
theorem Zn4 {v u : AV} {σ' : St} (hx : ev env x = v) (hy : ev env y = u) (hl : Zgh P t σ v u = some σ') (h : K (env.put d (.raw undef)) σ') : aOp P ops ⟨d, .store t x y, ty, pos, af, none⟩ env σ K := by
 subst hx hy; rw [ZaQ rfl]; exact ⟨σ', hl, h⟩
theorem Zak {v : AV} (hx : ev env x = v) (hs : Zho v = true) (h : K (env.put d v) σ) : aOp P ops ⟨d, .nilCheck x, ty, pos, af, none⟩ env σ K := by
 subst hx; rw [ZaQ rfl]; exact ⟨hs, h⟩
theorem Zag {f b o off n : Nat} {l : List (Nat × Option Nat × Option Bool)} {g : Option Bool} (hx : ev env x = ptr b o) (hl : ZbM P t = some l) (hf : l[f]? = some (off, some (n + 1), g)) (h : K (env.put d (ptr b (o + off))) σ) : aOp P ops ⟨d, .fieldAddr t x f, ty, pos, af, none⟩ env σ K := by
 rw [ZaQ rfl]
 show Zc8 P _ [ev env x] σ _
 rw [hx]
 refine ⟨l, off, n, g, hl, hf, ?_⟩
 rw [Zcr]
 exact h
theorem Zdp {f off n : Nat} {ad : Addr} {cells : List AV} {l : List (Nat × Option Nat × Option Bool)} {g : Option Bool} (hx : ev env x = .eptr ad cells) (hl : ZbM P t = some l) (hf : l[f]? = some (off, some (n + 1), g)) (h : K (env.put d (.eptr (ad.add off) (cells.drop off))) σ) : aOp P ops ⟨d, .fieldAddr t x f, ty, pos, af, none⟩ env σ K := by
 rw [ZaQ rfl]
 show Zc8 P _ [ev env x] σ _
 rw [hx]
 exact ⟨l, off, n, g, hl, hf, h⟩
theorem Za8 {i : Nat} {l : List AV} {r : AV} (hx : ev env x = .tup l) (hl : l[i]? = some r) (h : K (env.put d r) σ) : aOp P ops ⟨d, .extract x i, ty, pos, af, none⟩ env σ K := by
 rw [ZaQ rfl]
 show Zc8 P _ [ev env x] σ _
 rw [hx]
 exact ⟨r, hl, h⟩
theorem Zn5 {e : TypeId} {sz n c j : Nat} {ad : Addr} {cells : List AV} {k : IntKind} (hx : ev env x = .lst (some ad) n c cells) (hy : ev env y = .raw (.int k j)) (ht : ZaX P t = some e) (hs : ZaO P e = some sz) (hj : j < n) (h : K (env.put d (.eptr (ad.add (j * sz)) (cells.drop (j * sz)))) σ) : aOp P ops ⟨d, .indexAddr t x y, ty, pos, af, none⟩ env σ K := by
 rw [ZaQ rfl]
 show Zc8 P _ [ev env x, ev env y] σ _
 rw [hx, hy]
 exact ⟨e, sz, k, j, ht, hs, by simp, hj, h⟩
theorem Za4 {parts : Array (Nat × Operand)} {v : Value} {pl : List (Nat × Nat)} {vs cells : List AV} (hv : parts.toList.map (fun p => ev env p.2) = vs) (hz : ZbL P t = some v) (hp : Zc5 P t = some pl) (hf : Zcf (fun i => pl[i]?) (AV.ofV v).cells ((parts.toList.map (·.1)).zip vs) = some cells) (h : K (env.put d (.agg cells)) σ) : aOp P ops ⟨d, .build t parts, ty, pos, af, none⟩ env σ K := by
 rw [ZaQ rfl]
 refine ⟨v, pl, cells, hz, hp, ?_, h⟩
 have : (Op.build t parts).operands.toList.map (ev env) = vs := by rw [<- hv]; simp [Op.operands]
 rw [this]
 exact hf
theorem Zbd {n : Nat} {parts : Array (Nat × Operand)} {e : TypeId} {sz : Nat} {v : Value} {vs cells : List AV} (hv : parts.toList.map (fun p => ev env p.2) = vs) (ht : ZaX P t = some e) (hs : ZaO P e = some sz) (hz : ZbL P e = some v) (hzs : v.cells.size = sz) (hn : n * sz <= 16777216)
 (hf : Zcf (fun i => some (i * sz, sz)) ((List.range (n * sz)).map fun i => .ofV (v.cells[i % sz]!)) ((parts.toList.map (·.1)).zip vs) = some cells)
 (h : ∀ b, ¬ σ.used b -> σ.blk b = none -> K (env.put d (.lst (some ⟨b, 0, none⟩) n n cells)) (σ.put b (.tail e (n * sz) (n * sz)))) : aOp P ops ⟨d, .buildSlice t n parts, ty, pos, af, none⟩ env σ K := by
 rw [ZaQ rfl]
 have : (Op.buildSlice t n parts).operands.toList.map (ev env) = vs := by rw [<- hv]; simp [Op.operands]
 refine ⟨e, sz, v, cells, ht, hs, hz, hzs, hn, ?_, h⟩
 rw [this]
 exact hf
theorem Zao {g : FuncId} {as_ : Array Operand} {ts : Array TypeId} {vs : List AV} (hv : as_.toList.map (ev env) = vs) (h : Zat P g vs σ fun r σ' => K (env.put d r) σ') : aOp P ops ⟨d, .call ⟨.value (.func g), as_, ts⟩, ty, pos, af, none⟩ env σ K := by
 rw [ZaQ rfl]
 have : (Op.call ⟨.value (.func g), as_, ts⟩).operands.toList.map (ev env) = ev env (.func g) :: vs := by rw [<- hv]; simp [Op.operands, Call.operands]
 show Zc8 P _ ((Op.call ⟨.value (.func g), as_, ts⟩).operands.toList.map (ev env)) σ _
 rw [this]
 exact ⟨g, #[], #[], rfl, by simpa using h⟩
theorem Zd9 {o : Oper} {vs : List AV} {v : Value} (hg : o.guard = none) (hv : o.op.operands.toList.map (ev env) = vs) (hd : ∀ σ (K : AV -> St -> Prop), (∃ v, ZdY P o vs v /\ K (.raw v) σ) -> Zc8 P o vs σ K) (hr : ZdY P o vs v) (h : K (env.put o.dst (.raw v)) σ) : aOp P ops o env σ K := by
 rw [ZaQ hg, hv]
 exact hd _ _ ⟨v, hr, h⟩
theorem ZdZ {op : BinOp} {a b : AV} {v : Value} (hx : ev env x = a) (hy : ev env y = b) (hr : ∀ (w : World) (x y : Operand), (do eqGuard op t x y a.val b.val; binOp op t a.val b.val : Sem Value).run P w = .ok v w) (h : K (env.put d (.raw v)) σ) : aOp P ops ⟨d, .binOp op t x y ty', ty, pos, af, none⟩ env σ K := by
 refine Zd9 (vs := [a, b]) rfl (by simp [Op.operands, hx, hy]) (fun _ _ h => .inl h) (fun ρ hρ w _ _ => ?_) h
 simp [Op.operands] at hρ
 have := hr w x y
 simp only [execOp]
 rw [hρ.1, hρ.2, Sem.run_bind, this]
 simp
theorem Zq5 {op : UnOp} {a : AV} {v : Value} (hx : ev env x = a) (hr : ∀ w, (Op.unary op a.val).run P w = .ok v w) (h : K (env.put d (.raw v)) σ) : aOp P ops ⟨d, .unOp op t x, ty, pos, af, none⟩ env σ K := by
 refine Zd9 (vs := [a]) rfl (by simp [Op.operands, hx]) (fun _ _ h => .inl h) (fun ρ hρ w _ _ => ?_) h
 simp [Op.operands] at hρ
 simp only [execOp]
 rw [hρ, Sem.run_bind, hr]
 simp
theorem Zqj {b : Bool} (hx : ev env x = .raw (.bool b)) (h : K (env.put d (.raw (.bool (!b)))) σ) : aOp P ops ⟨d, .unOp .not t x, ty, pos, af, none⟩ env σ K :=
 Zq5 hx (fun w => by simp [Op.unary]) h
theorem Zo8 {a : AV} {v : Value} (hx : ev env x = a) (hr : ∀ w, (convert t ty' a.val).run P w = .ok v w) (h : K (env.put d (.raw v)) σ) : aOp P ops ⟨d, .convert t ty' x, ty, pos, af, none⟩ env σ K := by
 refine Zd9 (vs := [a]) rfl (by simp [Op.operands, hx]) (fun _ _ h => .inl h) (fun ρ hρ w _ _ => ?_) h
 simp [Op.operands] at hρ
 simp only [execOp]
 rw [hρ, Sem.run_bind, hr]
 simp
end
end Go.Proofs.Ytinpiaibhjmfaaa
namespace Go.Proofs.Ytinpiaibhjmfaaa
open Go.RowKit
set_option maxRecDepth 100000
set_option linter.unusedVariables false
section
variable {P : Program} {O : Nat -> Prop} {ops : Array Oper} {rest : List Oper} {env : Env} {σ : St} {K : Env -> St -> Prop} {d : Option Nat} {ty ty' t : TypeId} {pos : String} {af : Array Edge} {x y z : Operand} {k k' : IntKind} {a b r : Int}
theorem Zig (hx : ev env x = .raw (.int k a)) (hy : ev env y = .raw (.int k b)) (hw : k.wrap (a + b) = r) (h : K (env.put d (.raw (.int k r))) σ) : aOp P ops ⟨d, .binOp .add t x y ty', ty, pos, af, none⟩ env σ K :=
 ZdZ hx hy (fun w _ _ => by subst hw; simp [eqGuard_add, binOp_add, Op.intArith]) h
theorem Zn6 (hx : ev env x = .raw (.int k a)) (hy : ev env y = .raw (.int k b)) (hw : k.wrap (a - b) = r) (h : K (env.put d (.raw (.int k r))) σ) : aOp P ops ⟨d, .binOp .sub t x y ty', ty, pos, af, none⟩ env σ K :=
 ZdZ hx hy (fun w _ _ => by subst hw; simp [eqGuard_sub, binOp_sub, Op.intArith]) h
theorem Zn7 (hx : ev env x = .raw (.int k a)) (hy : ev env y = .raw (.int k b)) (hw : k.wrap (a * b) = r) (h : K (env.put d (.raw (.int k r))) σ) : aOp P ops ⟨d, .binOp .mul t x y ty', ty, pos, af, none⟩ env σ K :=
 ZdZ hx hy (fun w _ _ => by subst hw; simp [eqGuard_mul, binOp_mul, Op.intArith]) h
theorem Zn8 (hx : ev env x = .raw (.int k a)) (hy : ev env y = .raw (.int k b)) (hb : b ≠ 0) (hw : a.tmod b = r) (h : K (env.put d (.raw (.int k r))) σ) : aOp P ops ⟨d, .binOp .rem t x y ty', ty, pos, af, none⟩ env σ K :=
 ZdZ hx hy (fun w _ _ => by subst hw; simp [eqGuard_rem, binOp_rem, Op.intDiv, hb]) h
theorem ZeH (hx : ev env x = .raw (.int k a)) (hy : ev env y = .raw (.int k b)) (h : K (env.put d (.raw (.bool (decide (a < b))))) σ) : aOp P ops ⟨d, .binOp .lss t x y ty', ty, pos, af, none⟩ env σ K :=
 ZdZ hx hy (fun w _ _ => by simp [eqGuard_lss, binOp_lss]) h
theorem Zje (hx : ev env x = .raw (.int k a)) (hy : ev env y = .raw (.int k b)) (h : K (env.put d (.raw (.bool (decide (a <= b))))) σ) : aOp P ops ⟨d, .binOp .leq t x y ty', ty, pos, af, none⟩ env σ K :=
 ZdZ hx hy (fun w _ _ => by simp [eqGuard_leq, binOp_leq]) h
theorem ZfX (hx : ev env x = .raw (.int k a)) (hy : ev env y = .raw (.int k b)) (h : K (env.put d (.raw (.bool (decide (b < a))))) σ) : aOp P ops ⟨d, .binOp .gtr t x y ty', ty, pos, af, none⟩ env σ K :=
 ZdZ hx hy (fun w _ _ => by simp [eqGuard_gtr, binOp_gtr]) h
theorem ZfB (hx : ev env x = .raw (.int k a)) (hy : ev env y = .raw (.int k b)) (h : K (env.put d (.raw (.bool (decide (b <= a))))) σ) : aOp P ops ⟨d, .binOp .geq t x y ty', ty, pos, af, none⟩ env σ K :=
 ZdZ hx hy (fun w _ _ => by simp [eqGuard_geq, binOp_geq]) h
theorem Zcn (hx : ev env x = .raw (.int k a)) (hy : ev env y = .raw (.int k b)) (h : K (env.put d (.raw (.bool (decide (a = b))))) σ) : aOp P ops ⟨d, .binOp .eql t x y ty', ty, pos, af, none⟩ env σ K :=
 ZdZ hx hy (fun w _ _ => by simp [eqGuard_at_int, binOp_eql]; rfl) h
theorem Zgu (hx : ev env x = .raw (.int k a)) (hy : ev env y = .raw (.int k b)) (h : K (env.put d (.raw (.bool (decide (a ≠ b))))) σ) : aOp P ops ⟨d, .binOp .neq t x y ty', ty, pos, af, none⟩ env σ K :=
 ZdZ hx hy (fun w _ _ => by simp [eqGuard_at_int, binOp_neq]; rfl) h
theorem Zjf {P : Program} {t : TypeId} (ht : P.underlying t = some .bool) (a b : Bool) (w : World) : (Op.equal t (.bool a) (.bool b)).run P w = .ok (a == b) w := by
 show (Op.equalIn (9999 + 1) t (.bool a) (.bool b)).run P w = _
 unfold Op.equalIn
 simp [run_underlying ht]
theorem Zo9 {a b : Bool} (ht : P.underlying t = some .bool) (hx : ev env x = .raw (.bool a)) (hy : ev env y = .raw (.bool b)) (h : K (env.put d (.raw (.bool (decide (a = b))))) σ) : aOp P ops ⟨d, .binOp .eql t x y ty', ty, pos, af, none⟩ env σ K :=
 ZdZ hx hy (fun w _ _ => by cases a <;> cases b <;> simp [eqGuard_at_bool, binOp, Zjf ht]) h
theorem Zqk {u v : Operand} {ts : Array TypeId} (hx : ev env u = .raw (.int k a)) (hy : ev env v = .raw (.int k' b)) (h : K (env.put d (.raw (.int k (if b < a then b else a)))) σ) : aOp P ops ⟨d, .call ⟨.builtin .min, #[u, v], ts⟩, ty, pos, af, none⟩ env σ K := by
 refine Zd9 (vs := [.raw (.int k a), .raw (.int k' b)]) rfl (by simp [Op.operands, Call.operands, hx, hy]) (fun _ _ h => .inl h) (fun ρ hρ w _ _ => ?_) h
 simp [Op.operands, Call.operands] at hρ
 simp [execOp, resolve, invoke, builtin, Builtin.min_, hρ, Builtin.min2]
theorem Zpa {u v : Operand} {ts : Array TypeId} (hx : ev env u = .raw (.int k a)) (hy : ev env v = .raw (.int k' b)) (h : K (env.put d (.raw (.int k (if a < b then b else a)))) σ) : aOp P ops ⟨d, .call ⟨.builtin .max, #[u, v], ts⟩, ty, pos, af, none⟩ env σ K := by
 refine Zd9 (vs := [.raw (.int k a), .raw (.int k' b)]) rfl (by simp [Op.operands, Call.operands, hx, hy]) (fun _ _ h => .inl h) (fun ρ hρ w _ _ => ?_) h
 simp [Op.operands, Call.operands] at hρ
 simp [execOp, resolve, invoke, builtin, Builtin.max_, hρ, Builtin.max2]
variable {dr : Bool} {c c1 c2 c3 : Code} {Q : ZeA} {id : Nat} {l : List Oper}
theorem Zjg (n m : Env -> St -> Prop) (Q : ZeA) : Zgt n (Zgt m Q) = Zgt n Q := by
 funext e; cases e <;> rfl
theorem Zac (h : Zay P O (.seq c1 (.seq c2 c3)) Q env σ) : Zay P O (.seq (.seq c1 c2) c3) Q env σ := by
 show Zay P O c1 (Zgt (Zay P O c2 (Zgt (Zay P O c3 Q) Q)) (Zgt (Zay P O c3 Q) Q)) env σ
 rw [Zjg]
 exact h
theorem Zaa (h : ZbV P l.toArray l env σ (Zay P O c Q)) : Zay P O (.seq (.region id l.toArray false) c) Q env σ := fun _ => .inl h
theorem Zad (h : ZbV P l.toArray l env σ (Q .normal)) : Zay P O (.region id l.toArray false) Q env σ := fun _ => .inl h
theorem Zb5 (h : Zg1 P l.toArray env σ (Zay P O c Q)) : Zay P O (.seq (.region id l.toArray true) c) Q env σ := fun _ => .inl h
theorem ZcS (h : Zg1 P l.toArray env σ (Q .normal)) : Zay P O (.region id l.toArray true) Q env σ := fun _ => .inl h
theorem Zaz (h : Zay P O c Q env σ) : Zay P O (.seq .skip c) Q env σ := h
theorem Zbq (h : Q .normal env σ) : Zay P O .skip Q env σ := h
theorem Zcw (h : Q .ret env σ) : Zay P O (.seq .ret c) Q env σ := h
theorem Zax (h : Q .ret env σ) : Zay P O .ret Q env σ := h
theorem Zbe (h : Q (.exit id) env σ) : Zay P O (.seq (.exit id) c) Q env σ := h
theorem Zav {t : Bool} (hc : ev env x = .raw (.bool t)) (h1 : t = true -> Zay P O (.seq c1 c) Q env σ) (h2 : t = false -> Zay P O (.seq c2 c) Q env σ) : Zay P O (.seq (.cond x c1 c2) c) Q env σ :=
 ⟨t, by rw [hc]; simp, h1, h2⟩
theorem ZaS {t : Bool} (hc : ev env x = .raw (.bool t)) (h1 : t = true -> Zay P O c1 Q env σ) (h2 : t = false -> Zay P O c2 Q env σ) : Zay P O (.cond x c1 c2) Q env σ :=
 ⟨t, by rw [hc]; simp, h1, h2⟩
theorem ZaD (h : Zay P O c1 (Zfg id (Zgt (Zay P O c Q) Q)) env σ) : Zay P O (.seq (.block id c1) c) Q env σ := h
theorem ZaT (h : Zay P O c1 (Zfg id Q) env σ) : Zay P O (.block id c1) Q env σ := h
theorem ZaV (I : Nat -> Env -> St -> Prop) (h : ∃ n, I n env σ) (hr : ∀ n env σ, I n env σ -> Zay P O c (Zgt (fun env' σ' => ∃ n', n' < n /\ I n' env' σ') Q) env σ) : Zay P O (.loop c) Q env σ := h.elim fun n h => ⟨I, n, h, hr⟩
theorem Zab {o : Oper} {l' : List Oper} (h : aOp P ops o env σ fun env' σ' => ZbV P ops l' env' σ' K) : ZbV P ops (o :: l') env σ K := .inl h
theorem Zaf (h : K env σ) : ZbV P ops [] env σ K := h
end
end Go.Proofs.Ytinpiaibhjmfaaa
namespace Go.Proofs.Ytinpiaibhjmfaaa
open Go.RowKit
set_option maxRecDepth 100000
set_option linter.unusedVariables false
@[simp] theorem AV.cells_agg (l : List AV) : (AV.agg l).cells = l := rfl
@[simp] theorem AV.cells_lst (A : Option Addr) (n c : Nat) (l : List AV) : (AV.lst A n c l).cells = [.lst A n c l] := rfl
@[simp] theorem AV.cells_int (k : IntKind) (n : Int) : (AV.raw (.int k n)).cells = [.raw (.int k n)] := rfl
@[simp] theorem AV.cells_bool (x : Bool) : (AV.raw (.bool x)).cells = [.raw (.bool x)] := rfl
@[simp] theorem AV.cells_string (x : ByteArray) : (AV.raw (.string x)).cells = [.raw (.string x)] := rfl
@[simp] theorem AV.cells_pointer (x : Option Addr) : (AV.raw (.pointer x)).cells = [.raw (.pointer x)] := rfl
@[simp] theorem ZoP (l : List AV) : Zbi (AV.agg l) = true := rfl
@[simp] theorem ZoQ (A : Option Addr) (n c : Nat) (l : List AV) : Zbi (AV.lst A n c l) = true := rfl
@[simp] theorem ZoR (v : Value) : Zbi (AV.raw v) = true := rfl
@[simp] theorem Zql (k : IntKind) (n : Int) : (AV.raw (.int k n)).one = true := rfl
@[simp] theorem Zp2 (x : Bool) : (AV.raw (.bool x)).one = true := rfl
@[simp] theorem ZoS (x : ByteArray) : (AV.raw (.string x)).one = true := rfl
@[simp] theorem Zn9 (x : Option Addr) : (AV.raw (.pointer x)).one = true := rfl
@[simp] theorem Zqm (A : Option Addr) (n c : Nat) (l : List AV) : (AV.lst A n c l).one = true := rfl
def vI (x : Int) : AV := .raw (.int .i64 x)
def vU (x : UInt8) : AV := .raw (.int .u8 (x.toNat : Int))
def vK (x : Int) : AV := .raw (.int .u8 x)
def vT (x : Bool) : AV := .raw (.bool x)
@[simp] theorem Zp3 (x : Int) : (vI x).cells = [vI x] := rfl
@[simp] theorem Zp4 (x : UInt8) : (vU x).cells = [vU x] := rfl
@[simp] theorem Zp5 (x : Int) : (vK x).cells = [vK x] := rfl
@[simp] theorem Zp6 (x : Bool) : (vT x).cells = [vT x] := rfl
@[simp] theorem Zpb (x : Int) : Zbi (vI x) = true := rfl
@[simp] theorem Zpc (x : UInt8) : Zbi (vU x) = true := rfl
@[simp] theorem Zpd (x : Int) : Zbi (vK x) = true := rfl
@[simp] theorem Zpe (x : Bool) : Zbi (vT x) = true := rfl
@[simp] theorem ZqS (x : Int) : (vI x).one = true := rfl
@[simp] theorem ZqT (x : UInt8) : (vU x).one = true := rfl
@[simp] theorem ZqU (x : Int) : (vK x).one = true := rfl
@[simp] theorem ZqV (x : Bool) : (vT x).one = true := rfl
@[simp] theorem ZqW (x : Int) : (vI x).val = .int .i64 x := rfl
@[simp] theorem ZqX (x : UInt8) : (vU x).val = .int .u8 (x.toNat : Int) := rfl
@[simp] theorem ZqY (x : Int) : (vK x).val = .int .u8 x := rfl
@[simp] theorem ZqZ (x : Bool) : (vT x).val = .bool x := rfl
theorem EV : (∀ (env : Env) t, ev env (.tmp t) = env t) /\ (∀ (env : Env) v, ev env (.const v) = .ofV v) /\ (∀ (env : Env) d v i, env.put (some d) v i = if i = d then v else env i) /\ (∀ (env : Env) v, env.put none v = env) /\ (∀ k n, AV.ofV (.int k n) = .raw (.int k n)) /\ (∀ x, AV.ofV (.bool x) = .raw (.bool x)) /\ (∀ x, AV.ofV (.string x) = .raw (.string x)) /\ (∀ x, AV.ofV (.pointer x) = .raw (.pointer x)) /\ AV.ofV (.slice none 0 0) = .lst none 0 0 [] /\ (∀ x, AV.ofV (.agg x) = .agg (x.toList.map AV.ofV1)) :=
 ⟨fun _ _ => rfl, fun _ _ => rfl, fun _ _ _ _ => rfl, fun _ _ => rfl, fun _ _ => rfl, fun _ => rfl, fun _ => rfl, fun _ => rfl, rfl, fun _ => rfl⟩
structure Ext (σ τ : St) : Prop where
 keep : ∀ b k, σ.blk b = some k -> τ.blk b = some k
 used : ∀ b, σ.used b -> τ.used b
theorem Ext.refl (σ : St) : Ext σ σ := ⟨fun _ _ h => h, fun _ h => h⟩
theorem Ext.trans {σ τ υ : St} (h : Ext σ τ) (k : Ext τ υ) : Ext σ υ := ⟨fun b x hx => k.keep _ _ (h.keep _ _ hx), fun b hx => k.used _ (h.used _ hx)⟩
theorem Ext.noneOf {σ τ : St} (h : Ext σ τ) {b : Nat} (hb : τ.blk b = none) : σ.blk b = none := by
 cases hx : σ.blk b with
 | none => rfl
 | some k => rw [h.keep _ _ hx] at hb; cases hb
theorem Ext.unused {σ τ : St} (h : Ext σ τ) {b : Nat} (hb : ¬ τ.used b) : ¬ σ.used b := fun hx => hb (h.used _ hx)
theorem Ext.put {σ : St} {b : Nat} (k : Bk) (hb : σ.blk b = none) : Ext σ (σ.put b k) :=
 ⟨fun x y hx => by rw [ZaB _ _ (fun e => by rw [e, hb] at hx; cases hx)]; exact hx, fun x hx => .inl hx⟩
structure But (S : Nat -> Prop) (σ τ : St) : Prop where
 keep : ∀ c k, ¬ S c -> σ.blk c = some k -> τ.blk c = some k
 used : ∀ c, σ.used c -> τ.used c
theorem But.ext {S : Nat -> Prop} {σ τ υ : St} (h : Ext σ τ) (hS : ∀ b, S b -> σ.blk b = none) (k : But S τ υ) : Ext σ υ :=
 ⟨fun c x hx => k.keep _ _ (fun hc => by rw [hS c hc] at hx; cases hx) (h.keep _ _ hx), fun c hx => k.used _ (h.used _ hx)⟩
theorem But.refl (S : Nat -> Prop) (σ : St) : But S σ σ := ⟨fun _ _ _ h => h, fun _ h => h⟩
theorem But.trans {S : Nat -> Prop} {σ τ υ : St} (h : But S σ τ) (k : But S τ υ) : But S σ υ := ⟨fun c x hc hx => k.keep _ _ hc (h.keep _ _ hc hx), fun c hx => k.used _ (h.used _ hx)⟩
theorem Ext.but {S : Nat -> Prop} {σ τ : St} (h : Ext σ τ) : But S σ τ := ⟨fun c x _ hx => h.keep _ _ hx, h.used⟩
theorem But.noneOfB {S : Nat -> Prop} {σ τ : St} (h : But S σ τ) (hS : ∀ b, S b -> σ.used b) {b : Nat} (hu : ¬ τ.used b) (hb : τ.blk b = none) : σ.blk b = none := by
 cases hx : σ.blk b with
 | none => rfl
 | some k =>
  by_cases hs : S b
  ·exact absurd (h.used _ (hS b hs)) hu
  ·rw [h.keep _ _ hs hx] at hb; cases hb
theorem But.ext2 {S T : Nat -> Prop} {σ τ υ : St} (h : But S σ τ) (hS : ∀ b, T b -> S b \/ σ.blk b = none) (k : But T τ υ) : But S σ υ := by
 refine ⟨fun c x hc hx => k.keep _ _ (fun e => ?_) (h.keep _ _ hc hx), fun c hx => k.used _ (h.used _ hx)⟩
 rcases hS c e with h1 | h1
 ·exact hc h1
 ·rw [h1] at hx; cases hx
section
variable {P : Program} {O : Nat -> Prop} {ops : Array Oper} {env : Env} {σ : St} {K : Env -> St -> Prop} {d : Option Nat} {ty ty' t : TypeId} {pos : String} {af : Array Edge} {x y z : Operand}
theorem Zdq {e : TypeId} {v : AV} {cs : List AV} (hx : ev env x = v) (hc : v.cells = cs) (h : ∀ b τ, σ.blk b = none -> ¬ σ.used b -> τ.blk b = some (.own e cs) -> τ.used b -> Ext σ τ -> K (env.put d (ptr b 0)) τ) : aOp P ops ⟨d, .box e x, ty, pos, af, none⟩ env σ K :=
 Zqi hx fun b hu hb => h b _ hb hu (by rw [Za7, hc]) (.inr rfl) (Ext.put _ hb)
theorem Zd0 {e : TypeId} {v : Value} {cs : List AV} (hz : ZbL P e = some v) (hc : (AV.ofV v).cells = cs) (h : ∀ b τ, σ.blk b = none -> ¬ σ.used b -> τ.blk b = some (.own e cs) -> τ.used b -> Ext σ τ -> K (env.put d (ptr b 0)) τ) : aOp P ops ⟨d, .alloc e, ty, pos, af, none⟩ env σ K :=
 Zn3 hz fun b hu hb => h b _ hb hu (by rw [Za7, hc]) (.inr rfl) (Ext.put _ hb)
theorem Zar {b o n : Nat} {T : TypeId} {cs : List AV} {g : Bool} {r : AV} (hx : ev env x = ptr b o) (hb : σ.blk b = some (.own T cs)) (ha : Zek P t = some g) (hn : ZaO P t = some n) (hr : Zch (some g) (some n) cs o = some r) (h : K (env.put d r) σ) : aOp P ops ⟨d, .load t x, ty, pos, af, none⟩ env σ K :=
 Zc3 hx (by unfold ZdM ptr; dsimp only; rw [hb]; dsimp only; rw [ha, hn]; exact hr) h
theorem ZcD {n : Nat} {ad : Addr} {cells : List AV} {g : Bool} {r : AV} (hx : ev env x = .eptr ad cells) (ha : Zek P t = some g) (hn : ZaO P t = some n) (hr : Zch (some g) (some n) cells 0 = some r) (h : K (env.put d r) σ) : aOp P ops ⟨d, .load t x, ty, pos, af, none⟩ env σ K :=
 Zc3 hx (by unfold ZdM; dsimp only; rw [ha, hn]; exact hr) h
theorem Zd1 {b o n : Nat} {T : TypeId} {cs cs' : List AV} {u : AV} (hx : ev env x = ptr b o) (hy : ev env y = u) (hb : σ.blk b = some (.own T cs)) (hn : ZaO P t = some n)
 (hc : (Zbi u && u.cells.length == n && u.cells.all AV.one && decide (o + n <= cs.length)) = true) (hs : ZaR cs o u.cells = cs')
 (h : ∀ τ, τ.blk b = some (.own T cs') -> But (fun c => c = b) σ τ -> K (env.put d (.raw undef)) τ) : aOp P ops ⟨d, .store t x y, ty, pos, af, none⟩ env σ K := by
 refine Zn4 (σ' := σ.set b (.own T cs')) hx hy ?_ (h _ ?_ ⟨fun c k hc hk => ?_, fun c hc => hc⟩)
 ·unfold Zgh Zfe ptr
  dsimp only
  rw [hb, hn]
  dsimp only
  rw [if_pos hc, hs]
 ·show (if b = b then _ else σ.blk b) = _
  rw [if_pos rfl]
 ·show (if c = b then _ else σ.blk c) = _
  rw [if_neg hc]
  exact hk
variable {c : Code} {Q : ZeA}
theorem Zal {fn : Func} {t : Nat} {v : AV} (h : fn.results.toList = [.tmp t]) (hv : env t = v) : Zaj P fn env σ v := by
 unfold Zaj
 rw [h]
 simp [Zcv, hv]
theorem Zce {fn : Func} (h : fn.results.toList = []) : Zaj P fn env σ (.tup []) := by
 unfold Zaj
 rw [h]
 exact ⟨[], rfl, rfl⟩
theorem Zoa {fn : Func} {x y : ResultVar} {v u : AV} (h : fn.results.toList = [x, y]) (hv : Zcv P env σ x = some v) (hu : Zcv P env σ y = some u) : Zaj P fn env σ (.tup [v, u]) := by
 unfold Zaj
 rw [h]
 exact ⟨[v, u], by simp [List.mapM_cons, hv, hu], rfl⟩
theorem Zbz (i0 : Nat) {v0 : AV} (h0 : env i0 = v0) (h : ∀ e : Env, e i0 = v0 -> Zay P O c Q e σ) : Zay P O c Q env σ := h _ h0
theorem ZaK (i0 i1 : Nat) {v0 v1 : AV} (h0 : env i0 = v0) (h1 : env i1 = v1) (h : ∀ e : Env, e i0 = v0 /\ e i1 = v1 -> Zay P O c Q e σ) : Zay P O c Q env σ := h _ ⟨h0, h1⟩
theorem ZaL (i0 i1 i2 : Nat) {v0 v1 v2 : AV} (h0 : env i0 = v0) (h1 : env i1 = v1) (h2 : env i2 = v2) (h : ∀ e : Env, e i0 = v0 /\ e i1 = v1 /\ e i2 = v2 -> Zay P O c Q e σ) : Zay P O c Q env σ := h _ ⟨h0, h1, h2⟩
theorem ZaP (i0 i1 i2 i3 : Nat) {v0 v1 v2 v3 : AV} (h0 : env i0 = v0) (h1 : env i1 = v1) (h2 : env i2 = v2) (h3 : env i3 = v3) (h : ∀ e : Env, e i0 = v0 /\ e i1 = v1 /\ e i2 = v2 /\ e i3 = v3 -> Zay P O c Q e σ) : Zay P O c Q env σ := h _ ⟨h0, h1, h2, h3⟩
theorem Zb6 (i0 i1 i2 i3 i4 : Nat) {v0 v1 v2 v3 v4 : AV} (h0 : env i0 = v0) (h1 : env i1 = v1) (h2 : env i2 = v2) (h3 : env i3 = v3) (h4 : env i4 = v4) (h : ∀ e : Env, e i0 = v0 /\ e i1 = v1 /\ e i2 = v2 /\ e i3 = v3 /\ e i4 = v4 -> Zay P O c Q e σ) : Zay P O c Q env σ := h _ ⟨h0, h1, h2, h3, h4⟩
theorem ZdN (i0 i1 i2 i3 i4 i5 : Nat) {v0 v1 v2 v3 v4 v5 : AV} (h0 : env i0 = v0) (h1 : env i1 = v1) (h2 : env i2 = v2) (h3 : env i3 = v3) (h4 : env i4 = v4) (h5 : env i5 = v5) (h : ∀ e : Env, e i0 = v0 /\ e i1 = v1 /\ e i2 = v2 /\ e i3 = v3 /\ e i4 = v4 /\ e i5 = v5 -> Zay P O c Q e σ) : Zay P O c Q env σ := h _ ⟨h0, h1, h2, h3, h4, h5⟩
theorem Zkz (i0 i1 i2 i3 i4 i5 i6 : Nat) {v0 v1 v2 v3 v4 v5 v6 : AV} (h0 : env i0 = v0) (h1 : env i1 = v1) (h2 : env i2 = v2) (h3 : env i3 = v3) (h4 : env i4 = v4) (h5 : env i5 = v5) (h6 : env i6 = v6) (h : ∀ e : Env, e i0 = v0 /\ e i1 = v1 /\ e i2 = v2 /\ e i3 = v3 /\ e i4 = v4 /\ e i5 = v5 /\ e i6 = v6 -> Zay P O c Q e σ) : Zay P O c Q env σ := h _ ⟨h0, h1, h2, h3, h4, h5, h6⟩
theorem Zob (i0 i1 i2 i3 i4 i5 i6 i7 : Nat) {v0 v1 v2 v3 v4 v5 v6 v7 : AV} (h0 : env i0 = v0) (h1 : env i1 = v1) (h2 : env i2 = v2) (h3 : env i3 = v3) (h4 : env i4 = v4) (h5 : env i5 = v5) (h6 : env i6 = v6) (h7 : env i7 = v7) (h : ∀ e : Env, e i0 = v0 /\ e i1 = v1 /\ e i2 = v2 /\ e i3 = v3 /\ e i4 = v4 /\ e i5 = v5 /\ e i6 = v6 /\ e i7 = v7 -> Zay P O c Q e σ) : Zay P O c Q env σ := h _ ⟨h0, h1, h2, h3, h4, h5, h6, h7⟩
theorem ZmL (i0 i1 i2 i3 i4 i5 i6 i7 i8 : Nat) {v0 v1 v2 v3 v4 v5 v6 v7 v8 : AV} (h0 : env i0 = v0) (h1 : env i1 = v1) (h2 : env i2 = v2) (h3 : env i3 = v3) (h4 : env i4 = v4) (h5 : env i5 = v5) (h6 : env i6 = v6) (h7 : env i7 = v7) (h8 : env i8 = v8) (h : ∀ e : Env, e i0 = v0 /\ e i1 = v1 /\ e i2 = v2 /\ e i3 = v3 /\ e i4 = v4 /\ e i5 = v5 /\ e i6 = v6 /\ e i7 = v7 /\ e i8 = v8 -> Zay P O c Q e σ) : Zay P O c Q env σ := h _ ⟨h0, h1, h2, h3, h4, h5, h6, h7, h8⟩
theorem Zih (i0 i1 i2 i3 i4 i5 i6 i7 i8 i9 : Nat) {v0 v1 v2 v3 v4 v5 v6 v7 v8 v9 : AV} (h0 : env i0 = v0) (h1 : env i1 = v1) (h2 : env i2 = v2) (h3 : env i3 = v3) (h4 : env i4 = v4) (h5 : env i5 = v5) (h6 : env i6 = v6) (h7 : env i7 = v7) (h8 : env i8 = v8) (h9 : env i9 = v9) (h : ∀ e : Env, e i0 = v0 /\ e i1 = v1 /\ e i2 = v2 /\ e i3 = v3 /\ e i4 = v4 /\ e i5 = v5 /\ e i6 = v6 /\ e i7 = v7 /\ e i8 = v8 /\ e i9 = v9 -> Zay P O c Q e σ) : Zay P O c Q env σ := h _ ⟨h0, h1, h2, h3, h4, h5, h6, h7, h8, h9⟩
theorem Zpf (i0 i1 i2 i3 i4 i5 i6 i7 i8 i9 i10 : Nat) {v0 v1 v2 v3 v4 v5 v6 v7 v8 v9 v10 : AV} (h0 : env i0 = v0) (h1 : env i1 = v1) (h2 : env i2 = v2) (h3 : env i3 = v3) (h4 : env i4 = v4) (h5 : env i5 = v5) (h6 : env i6 = v6) (h7 : env i7 = v7) (h8 : env i8 = v8) (h9 : env i9 = v9) (h10 : env i10 = v10) (h : ∀ e : Env, e i0 = v0 /\ e i1 = v1 /\ e i2 = v2 /\ e i3 = v3 /\ e i4 = v4 /\ e i5 = v5 /\ e i6 = v6 /\ e i7 = v7 /\ e i8 = v8 /\ e i9 = v9 /\ e i10 = v10 -> Zay P O c Q e σ) : Zay P O c Q env σ := h _ ⟨h0, h1, h2, h3, h4, h5, h6, h7, h8, h9, h10⟩
theorem Zda {t : Nat} {v : AV} (hv : env t = v) : Zcv P env σ (.tmp t) = some v := congrArg some hv
theorem Zfi {fn : Func} {x y : ResultVar} {v u : AV} {R : AV -> Prop} (h : fn.results.toList = [x, y]) (hv : Zcv P env σ x = some v) (hu : Zcv P env σ y = some u) (hR : R (.tup [v, u])) : ∃ r, Zaj P fn env σ r /\ R r := ⟨_, Zoa h hv hu, hR⟩
end
end Go.Proofs.Ytinpiaibhjmfaaa
namespace Go.Proofs.Ytinpiaibhjmfaaa
open Go.RowKit
set_option maxRecDepth 100000
set_option linter.unusedVariables false
def ZcT (P : Program) (t : TypeId) : Option Nat := (P.info? t).map (·.bytes)
def AV.blk : AV -> Option Nat
 | .lst (some ad) _ _ _ => some ad.block
 | _ => none
def Own (σ : St) (e sz : Nat) (v : AV) (n : Nat) (cells : List AV) : Prop := cells.length = n * sz /\ ((v = .lst none 0 0 [] /\ n = 0) \/ ∃ g c, v = .lst (some ⟨g, 0, none⟩) n c cells /\ n <= c /\ c <= maxLen /\ σ.blk g = some (.tail e (n * sz) (c * sz)) /\ σ.used g)
structure App (σ : St) (v : AV) (τ : St) (v' : AV) : Prop where
 keep : ∀ b k, v.blk ≠ some b -> σ.blk b = some k -> τ.blk b = some k
 used : ∀ b, σ.used b -> τ.used b
 new : v'.blk = v.blk \/ ∃ g, v'.blk = some g /\ σ.blk g = none /\ ¬ σ.used g /\ τ.used g
section
variable {P : Program} {w : World} {σ : St} {Z : Nat -> Prop}
theorem Zau.drew_ (h : Zau w σ Z) : Zau w.drew σ Z := by
 have hv : ∀ {c : AV}, Zap w (σ.free Z) c -> Zap w.drew (σ.free Z) c := fun hc => Zap.keep (w := w) (w' := w.drew) (B := σ.free Z) (B' := σ.free Z) (fun ad v h1 h2 => ⟨h1, h2⟩) (fun _ _ _ h1 h2 => ⟨h1, h2⟩) _ hc
 refine ⟨h.used, h.z, fun b t cs hb => ?_, h.tail, h.map⟩
 obtain ⟨h1, h2, h3⟩ := h.own b t cs hb
 exact ⟨h1, h2, fun c hc => hv (h3 c hc)⟩
theorem Grow.drew_ (w : World) (σ : St) : Grow w σ w.drew σ := ⟨rfl, rfl, rfl, Nat.le_refl _, fun _ _ h => h, fun _ _ h => ⟨rfl, h⟩, fun b t k s _ h => ⟨fun _ _ _ h => h, .inr ⟨t, k, s, h, Nat.le_refl _⟩⟩, fun _ h => h⟩
theorem Zjh {B : Nat -> Nat -> Prop} {ad : Addr} {cells : List AV} (h : ZaI w B ad 0 cells) {j : Nat} {d : AV} (hd : cells[j]? = some d) : w.cell? (ad.add j) = some d.val /\ B ad.block (ad.off + j) /\ Zap w B d := by
 have := h.get hd
 rwa [Nat.zero_add] at this
end
section
variable {P : Program} {ops : Array Oper} {env : Env} {σ : St} {K : Env -> St -> Prop} {d : Option Nat} {ty t e : TypeId} {pos : String} {af : Array Edge} {x y : Operand}
theorem App.but {τ : St} {v v' : AV} (h : App σ v τ v') : But (fun b => v.blk = some b) σ τ := ⟨fun b k hb hk => h.keep b k hb hk, h.used⟩
end
end Go.Proofs.Ytinpiaibhjmfaaa
namespace Go.Proofs.Ytinpiaibhjmfaaa
open Go.RowKit
set_option maxRecDepth 100000
set_option linter.unusedVariables false
mutual
def Is : D -> AV -> Prop
 | .i k n, v => v = .raw (.int k n)
 | .b x, v => v = .raw (.bool x)
 | .s l, v => v = .raw (.string ⟨l.toArray⟩)
 | .l sz ds, v => ∃ A n c cells, v = .lst A n c cells /\ ds.length = n * sz /\ n <= c /\ c <= maxLen /\ n <= 140737488355328 /\ (A = none -> n = 0 /\ c = 0) /\ ZcO ds cells
def ZcO : List D -> List AV -> Prop
 | [], _ => True
 | d :: ds, v :: vs => Is d v /\ ZcO ds vs
 | _ :: _, [] => False
end
@[simp] theorem Zpg (vs : List AV) : ZcO [] vs := by unfold ZcO; trivial
@[simp] theorem ZkA (d : D) (ds : List D) (v : AV) (vs : List AV) : ZcO (d :: ds) (v :: vs) ↔ Is d v /\ ZcO ds vs := by conv => lhs; unfold ZcO
@[simp] theorem ZoT (d : D) (ds : List D) : ¬ ZcO (d :: ds) [] := by unfold ZcO; exact id
theorem ZcO.le {ds : List D} {vs : List AV} (h : ZcO ds vs) : ds.length <= vs.length := by
 induction ds generalizing vs with
 | nil => simp
 | cons d ds ih => cases vs with
  | nil => simp at h
  | cons v vs => simp at h; have := ih h.2; simp; omega
theorem ZcO.app {ds es : List D} {vs : List AV} : ZcO (ds ++ es) vs ↔ ZcO ds vs /\ ZcO es (vs.drop ds.length) := by
 induction ds generalizing vs with
 | nil => simp
 | cons d ds ih => cases vs with
  | nil => simp
  | cons v vs => simp [ih, and_assoc]
theorem ZcO.more {ds : List D} {vs : List AV} (h : ZcO ds vs) (ws : List AV) : ZcO ds (vs ++ ws) := by
 induction ds generalizing vs with
 | nil => simp
 | cons d ds ih => cases vs with
  | nil => simp at h
  | cons v vs => simp at h ⊢; exact ⟨h.1, ih h.2⟩
theorem ZcO.two {ds es : List D} {vs ws : List AV} (h : ZcO ds vs) (hl : vs.length = ds.length) (k : ZcO es ws) : ZcO (ds ++ es) (vs ++ ws) := by
 refine ZcO.app.2 ⟨h.more _, ?_⟩
 rw [<- hl, List.drop_left]
 exact k
theorem ZcO.drop {ds : List D} {vs : List AV} (h : ZcO ds vs) (k : Nat) : ZcO (ds.drop k) (vs.drop k) := by
 induction k generalizing ds vs with
 | zero => simpa using h
 | succ k ih => cases ds with
  | nil => simp
  | cons d ds => cases vs with
   | nil => simp at h
   | cons v vs => simp at h ⊢; exact ih h.2
theorem ZcO.take {ds : List D} {vs : List AV} (h : ZcO ds vs) (k : Nat) (hk : ds.length <= k) : ZcO ds (vs.take k) := by
 induction ds generalizing vs k with
 | nil => simp
 | cons d ds ih => cases vs with
  | nil => simp at h
  | cons v vs => cases k with
   | zero => simp at hk
   | succ k => simp at h hk ⊢; exact ⟨h.1, ih h.2 k hk⟩
theorem Zoc {d : D} {v : AV} (hf : d.flat = true) : Is d v ↔ v = .raw d.val := by
 cases d with
 | i k n => simp [Is, D.val]
 | b x => simp [Is, D.val]
 | s l => simp [Is, D.val]
 | l sz ds => simp [D.flat] at hf
def Zod (d : D) : AV := .raw d.val
theorem Zg4 {ds : List D} {vs : List AV} (hf : ∀ d ∈ ds, d.flat = true) : ZcO ds vs ↔ ∃ rest, vs = ds.map Zod ++ rest := by
 induction ds generalizing vs with
 | nil => simp
 | cons d ds ih => cases vs with
  | nil => simp
  | cons v vs =>
   simp only [ZkA, Zoc (hf d (by simp)), ih (fun d hd => hf d (List.mem_cons_of_mem _ hd)), List.map_cons, List.cons_append, List.cons.injEq, Zod]
   constructor
   ·rintro ⟨rfl, rest, rfl⟩; exact ⟨rest, rfl, rfl⟩
   ·rintro ⟨rest, rfl, rfl⟩; exact ⟨rfl, rest, rfl⟩
structure Lst (A : Option Addr) (n c : Nat) : Prop where
 le : n <= c
 most : c <= maxLen
 small : n <= 140737488355328
 none : A = none -> n = 0 /\ c = 0
theorem Zph {α : Type} {enc : α -> D} (hf : ∀ x, (enc x).flat = true) {xs : List α} {v : AV} : Is (.l 1 (xs.map enc)) v ↔ ∃ A c rest, v = .lst A xs.length c (xs.map (fun x => Zod (enc x)) ++ rest) /\ Lst A xs.length c := by
 unfold Is
 constructor
 ·rintro ⟨A, n, c, cells, rfl, h1, h2, h3, h4, h5, h6⟩
  obtain rfl : n = xs.length := by simpa using h1.symm
  obtain ⟨rest, rfl⟩ := (Zg4 (by simp [hf])).1 h6
  exact ⟨A, c, rest, by simp [Function.comp_def], h2, h3, h4, h5⟩
 ·rintro ⟨A, c, rest, rfl, h2, h3, h4, h5⟩
  exact ⟨A, xs.length, c, _, rfl, by simp, h2, h3, h4, h5, (Zg4 (by simp [hf])).2 ⟨rest, by simp [Function.comp_def]⟩⟩
def New (σ0 τ : St) (e : TypeId) (sz : Nat) (v : AV) (n : Nat) (cells : List AV) : Prop := Own τ e sz v n cells /\ ∀ g, v.blk = some g -> σ0.blk g = none /\ ¬ σ0.used g
theorem New.nil (σ0 τ : St) (e : TypeId) (sz : Nat) : New σ0 τ e sz (.lst none 0 0 []) 0 [] := ⟨⟨by simp, .inl ⟨rfl, rfl⟩⟩, fun g h => by cases h⟩
theorem Own.but {S : Nat -> Prop} {σ τ : St} {e : TypeId} {sz n : Nat} {v : AV} {cells : List AV} (h : Own σ e sz v n cells) (hX : But S σ τ) (hS : ∀ g, v.blk = some g -> ¬ S g) : Own τ e sz v n cells := by
 refine ⟨h.1, h.2.imp id ?_⟩
 rintro ⟨g, c, rfl, h2, h3, h4, h5⟩
 exact ⟨g, c, rfl, h2, h3, hX.keep _ _ (hS g rfl) h4, hX.used _ h5⟩
theorem Own.ext {σ τ : St} {e : TypeId} {sz n : Nat} {v : AV} {cells : List AV} (h : Own σ e sz v n cells) (hX : Ext σ τ) : Own τ e sz v n cells := h.but (S := fun _ => False) hX.but fun _ _ => id
theorem Own.used {σ : St} {e : TypeId} {sz n : Nat} {v : AV} {cells : List AV} (h : Own σ e sz v n cells) {g : Nat} (hg : v.blk = some g) : σ.used g := by
 rcases h.2 with ⟨rfl, _⟩ | ⟨g', c, rfl, _, _, _, hu⟩
 ·cases hg
 ·injection hg with hg; subst hg; exact hu
theorem Own.ne {σ : St} {e : TypeId} {sz n : Nat} {v : AV} {cells : List AV} (h : Own σ e sz v n cells) {b : Nat} {t : TypeId} {cs : List AV} (hb : σ.blk b = some (.own t cs)) : ¬ v.blk = some b := by
 intro hv
 rcases h.2 with ⟨rfl, _⟩ | ⟨g', c, rfl, _, _, hg, hu⟩
 ·cases hv
 ·injection hv with hv
  change g' = b at hv
  subst hv
  rw [hg] at hb; cases hb
theorem New.ext {σ0 σ τ : St} {e : TypeId} {sz n : Nat} {v : AV} {cells : List AV} (h : New σ0 σ e sz v n cells) (hX : Ext σ τ) : New σ0 τ e sz v n cells := ⟨h.1.ext hX, h.2⟩
theorem New.old {σ0 σ1 σ : St} {e : TypeId} {sz n : Nat} {v : AV} {cells : List AV} (h : New σ1 σ e sz v n cells) (hX : Ext σ0 σ1) : New σ0 σ e sz v n cells := ⟨h.1, fun g hg => ⟨hX.noneOf (h.2 g hg).1, hX.unused (h.2 g hg).2⟩⟩
theorem New.store {σ0 σ τ : St} {e : TypeId} {sz n : Nat} {v : AV} {cells cs : List AV} {b : Nat} {t : TypeId} (h : New σ0 σ e sz v n cells) (hb : σ.blk b = some (.own t cs)) (hX : But (fun c => c = b) σ τ) : New σ0 τ e sz v n cells := ⟨h.1.but hX fun g hg e => by subst e; exact h.1.ne hb hg, h.2⟩
def ZnI (S : Nat -> Prop) (σ0 τ : St) (e : TypeId) (sz : Nat) (v : AV) (n : Nat) (cells : List AV) : Prop := Own τ e sz v n cells /\ ∀ g, v.blk = some g -> S g \/ (σ0.blk g = none /\ ¬ σ0.used g)
theorem ZnI.ext {S : Nat -> Prop} {σ0 σ τ : St} {e : TypeId} {sz n : Nat} {v : AV} {cells : List AV} (h : ZnI S σ0 σ e sz v n cells) (hX : Ext σ τ) : ZnI S σ0 τ e sz v n cells := ⟨h.1.ext hX, h.2⟩
theorem ZnI.store {S : Nat -> Prop} {σ0 σ τ : St} {e : TypeId} {sz n : Nat} {v : AV} {cells cs : List AV} {b : Nat} {t : TypeId} (h : ZnI S σ0 σ e sz v n cells) (hb : σ.blk b = some (.own t cs)) (hX : But (fun c => c = b) σ τ) : ZnI S σ0 τ e sz v n cells := ⟨h.1.but hX fun g hg e => by subst e; exact h.1.ne hb hg, h.2⟩
theorem ZnI.lst {S : Nat -> Prop} {σ0 τ : St} {e : TypeId} {sz n : Nat} {v : AV} {cells : List AV} (h : ZnI S σ0 τ e sz v n cells) : ∃ A k c l, v = .lst A k c l := by
 rcases h.1.2 with ⟨rfl, _⟩ | ⟨g, c, rfl, _⟩
 ·exact ⟨_, _, _, _, rfl⟩
 ·exact ⟨_, _, _, _, rfl⟩
theorem Own.is {τ : St} {e : TypeId} {α : Type} {enc : α -> D} {f : α -> AV} (hf : ∀ x, (enc x).flat = true) (hff : ∀ x, Zod (enc x) = f x) {xs : List α} {v : AV} (h : Own τ e 1 v xs.length (xs.map f)) (hl : xs.length <= 140737488355328) : Is (.l 1 (xs.map enc)) v := by
 refine (Zph hf).2 ?_
 rw [show xs.map f = xs.map fun x => Zod (enc x) from List.map_congr_left fun x _ => (hff x).symm] at h
 rcases h.2 with ⟨rfl, h0⟩ | ⟨g, c, rfl, h1, h2, _⟩
 ·obtain rfl := List.eq_nil_of_length_eq_zero h0
  exact ⟨none, 0, [], rfl, by simp, by simp, by simp, fun _ => ⟨rfl, rfl⟩⟩
 ·exact ⟨some ⟨g, 0, none⟩, c, [], by simp, ⟨h1, h2, hl, (fun e => by cases e)⟩⟩
theorem Own.bytes {τ : St} {e : TypeId} {xs : List UInt8} {v : AV} (h : Own τ e 1 v xs.length (xs.map vU)) (hl : xs.length <= 140737488355328) : Is (Zgf xs) v := h.is (enc := dB) (fun _ => rfl) (fun _ => rfl) hl
theorem Own.form {τ : St} {e : TypeId} {n : Nat} {v : AV} {cells : List AV} {sz : Nat} (h : Own τ e sz v n cells) : ∃ A c, v = .lst A n c cells /\ n <= c /\ c <= maxLen /\ (A = none -> n = 0 /\ c = 0) := by
 rcases h.2 with ⟨rfl, h0⟩ | ⟨g, c, rfl, h1, h2, _⟩
 ·have := h.1
  subst h0
  simp at this
  subst this
  exact ⟨none, 0, rfl, Nat.le_refl _, Nat.zero_le _, fun _ => ⟨rfl, rfl⟩⟩
 ·exact ⟨_, c, rfl, h1, h2, (fun e => by cases e)⟩
theorem New.is {σ0 τ : St} {e : TypeId} {α : Type} {enc : α -> D} {f : α -> AV} (hf : ∀ x, (enc x).flat = true) (hff : ∀ x, Zod (enc x) = f x) {xs : List α} {v : AV} (h : New σ0 τ e 1 v xs.length (xs.map f)) (hl : xs.length <= 140737488355328) : Is (.l 1 (xs.map enc)) v := by
 refine (Zph hf).2 ?_
 rw [show xs.map f = xs.map fun x => Zod (enc x) from List.map_congr_left fun x _ => (hff x).symm] at h
 rcases h.1.2 with ⟨rfl, h0⟩ | ⟨g, c, rfl, h1, h2, _⟩
 ·obtain rfl := List.eq_nil_of_length_eq_zero h0
  exact ⟨none, 0, [], rfl, by simp, by simp, by simp, fun _ => ⟨rfl, rfl⟩⟩
 ·exact ⟨some ⟨g, 0, none⟩, c, [], by simp, ⟨h1, h2, hl, (fun e => by cases e)⟩⟩
theorem New.app {σ0 σ τ : St} {e : TypeId} {sz n n' : Nat} {v v' : AV} {cells cells' : List AV} (h : New σ0 σ e sz v n cells) (hX : Ext σ0 σ) (hO : Own τ e sz v' n' cells') (hk : But (fun b => v.blk = some b) σ τ) (hg : ∀ g, v'.blk = some g -> v.blk = some g \/ (σ.blk g = none /\ ¬ σ.used g)) : New σ0 τ e sz v' n' cells' /\ Ext σ0 τ := by
 refine ⟨⟨hO, fun g hg' => ?_⟩, But.ext hX (fun b hb => (h.2 b hb).1) hk⟩
 rcases hg g hg' with h1 | h1
 ·exact h.2 g h1
 ·exact ⟨hX.noneOf h1.1, hX.unused h1.2⟩
theorem Is.lst {sz : Nat} {ds : List D} {v : AV} (h : Is (.l sz ds) v) : ∃ A n c l, v = .lst A n c l := by
 unfold Is at h
 obtain ⟨A, n, c, cells, rfl, _⟩ := h
 exact ⟨A, n, c, cells, rfl⟩
theorem New.lst {σ0 τ : St} {e : TypeId} {sz n : Nat} {v : AV} {cells : List AV} (h : New σ0 τ e sz v n cells) : ∃ A n c l, v = .lst A n c l := by
 rcases h.1.2 with ⟨rfl, _⟩ | ⟨g, c, rfl, _⟩
 ·exact ⟨_, _, _, _, rfl⟩
 ·exact ⟨_, _, _, _, rfl⟩
theorem New.bytes {σ0 τ : St} {e : TypeId} {xs : List UInt8} {v : AV} (h : New σ0 τ e 1 v xs.length (xs.map vU)) (hl : xs.length <= 140737488355328) : Is (Zgf xs) v := h.is (enc := dB) (fun _ => rfl) (fun _ => rfl) hl
section
variable {P : Program} {ops : Array Oper} {env : Env} {σ : St} {K : Env -> St -> Prop} {d : Option Nat} {ty ty' t e : TypeId} {pos : String} {af : Array Edge} {x y z : Operand}
theorem Zcs {sz n c j : Nat} {A : Option Addr} {cells cs : List AV} {k : IntKind} (hx : ev env x = .lst A n c cells) (hy : ev env y = .raw (.int k j)) (ht : ZaX P t = some e) (hs : ZaO P e = some sz) (hj : j < n) (hA : A = none -> n = 0) (hd : cells.drop (j * sz) = cs) (h : ∀ ad : Addr, K (env.put d (.eptr ad cs)) σ) : aOp P ops ⟨d, .indexAddr t x y, ty, pos, af, none⟩ env σ K := by
 subst hd
 cases A with
 | none => have := hA rfl; omega
 | some ad => exact Zn5 hx hy ht hs hj (h _)
theorem Zdr {n : Nat} {parts : Array (Nat × Operand)} {sz : Nat} {v : Value} {vs cells : List AV} (hv : parts.toList.map (fun p => ev env p.2) = vs) (ht : ZaX P t = some e) (hs : ZaO P e = some sz) (hz : ZbL P e = some v) (hzs : v.cells.size = sz) (hn : n <= 100000 /\ n * sz <= 1000000)
 (hf : Zcf (fun i => some (i * sz, sz)) ((List.range (n * sz)).map fun i => .ofV (v.cells[i % sz]!)) ((parts.toList.map (·.1)).zip vs) = some cells) (hc : cells.length = n * sz)
 (h : ∀ b τ, New σ τ e sz (.lst (some ⟨b, 0, none⟩) n n cells) n cells -> Ext σ τ -> K (env.put d (.lst (some ⟨b, 0, none⟩) n n cells)) τ) : aOp P ops ⟨d, .buildSlice t n parts, ty, pos, af, none⟩ env σ K :=
 Zbd hv ht hs hz hzs (by omega) hf fun b hu hb => h b _ ⟨⟨hc, .inr ⟨b, n, rfl, Nat.le_refl _, (by simp only [maxLen]; omega), Za7 _ _ _, .inr rfl⟩⟩, fun g hg => by
  injection hg with hg
  change b = g at hg
  subst hg
  exact ⟨hb, hu⟩⟩ (Ext.put _ hb)
theorem Zlc {A : Option Addr} {n c l u : Nat} {cells cs : List AV} {sz : Nat} {lo hi : Option Operand} {ix : List AV} (hx : ev env x = .lst A n c cells) (hix : (lo.toList ++ hi.toList).map (ev env) = ix) (ht : ZaX P t = some e) (hs : ZaO P e = some sz) (he : ZcR n c lo.isSome hi.isSome false ix l u c) (hlu : l <= u) (huc : u <= c) (hd : (if c = l then [] else cells.drop (l * sz)) = cs) (h : ∀ A', A' = (if c = l then A else A.map (·.add (l * sz))) -> K (env.put d (.lst A' (u - l) (c - l) cs)) σ) : aOp P ops ⟨d, .slice t x lo hi none, ty, pos, af, none⟩ env σ K := by
 rw [ZaQ rfl]
 have : (Op.slice t x lo hi none).operands.toList.map (ev env) = .lst A n c cells :: ix := by
  rw [<- hix, <- hx]
  cases lo <;> cases hi <;> simp [Op.operands]
 rw [this]
 subst hd
 exact ⟨e, sz, ht, hs, l, u, c, he, hlu, huc, Nat.le_refl _, h _ rfl⟩
theorem ZmM {n c l : Nat} {k : IntKind} {a : Int} (ha : a = (l : Int)) : ZcR n c true false false [.raw (.int k a)] l n c := ⟨⟨k, by rw [ha]; simp⟩, rfl, rfl⟩
theorem Zld {n c u : Nat} {k : IntKind} {a : Int} (ha : a = (u : Int)) : ZcR n c false true false [.raw (.int k a)] 0 u c := ⟨rfl, ⟨k, by rw [ha]; simp⟩, rfl⟩
theorem ZeI {k k' : IntKind} {q : IntKind} {a r : Int} (hs : P.underlying t = some (.int q)) (hd : P.underlying ty' = some (.int k')) (hx : ev env x = .raw (.int k a)) (hw : k'.wrap a = r) (h : K (env.put d (.raw (.int k' r))) σ) : aOp P ops ⟨d, .convert t ty' x, ty, pos, af, none⟩ env σ K :=
 Zo8 hx (fun w => by subst hw; simp [convert, run_underlying hs, run_underlying hd, Conv.intToInt]) h
theorem Zqn {as_ : Operand} {ts : Array TypeId} {t e : TypeId} {A : Option Addr} {n c : Nat} {v : AV} (hx : ev env as_ = v) (hv : v.val = .slice A n c) (hts : ts[0]? = some t) (ht : ZaX P t = some e) (h : K (env.put d (.raw (.int .i64 c))) σ) : aOp P ops ⟨d, .call ⟨.builtin .cap, #[as_], ts⟩, ty, pos, af, none⟩ env σ K := by
 refine Zd9 (vs := [v]) rfl (by simp [Op.operands, Call.operands, hx]) (fun _ _ h => .inl h) (fun ρ hρ w _ _ => ?_) h
 simp [Op.operands, Call.operands] at hρ
 simp [execOp, resolve, invoke, builtin, Builtin.cap_, hρ, hv, hts, run_underlying (ZbU ht), goInt]
theorem Zle {as_ : Operand} {ts : Array TypeId} {t e : TypeId} {A : Option Addr} {n c : Nat} {v : AV} (hx : ev env as_ = v) (hv : v.val = .slice A n c) (hts : ts[0]? = some t) (ht : ZaX P t = some e) (h : K (env.put d (.raw (.int .i64 n))) σ) : aOp P ops ⟨d, .call ⟨.builtin .len, #[as_], ts⟩, ty, pos, af, none⟩ env σ K := by
 refine Zd9 (vs := [v]) rfl (by simp [Op.operands, Call.operands, hx]) (fun _ _ h => .inl h) (fun ρ hρ w _ _ => ?_) h
 simp [Op.operands, Call.operands] at hρ
 simp [execOp, resolve, invoke, builtin, Builtin.len_, hρ, hv, hts, run_underlying (ZbU ht), goInt]
end
end Go.Proofs.Ytinpiaibhjmfaaa
namespace Go.Proofs.Ytinpiaibhjmfaaa
open Go.RowKit
set_option maxRecDepth 100000
set_option linter.unusedVariables false
inductive SK where
 | i (k : IntKind)
 | b
 | s
def SK.fit : SK -> Value -> Prop
 | .i k, v => ∃ n, v = .int k n
 | .b, v => ∃ x, v = .bool x
 | .s, v => ∃ x, v = .string x
def ZmE : List SK -> List Value -> Prop
 | [], [] => True
 | k :: ks, v :: vs => k.fit v /\ ZmE ks vs
 | _, _ => False
theorem ZmE.len : ∀ {ks : List SK} {vs : List Value}, ZmE ks vs -> vs.length = ks.length
 | [], [], _ => rfl
 | k :: ks, v :: vs, h => by simp [ZmE.len h.2]
theorem ZmE.split : ∀ {ks ls : List SK} {vs : List Value}, ZmE (ks ++ ls) vs -> ZmE ks (vs.take ks.length) /\ ZmE ls (vs.drop ks.length)
 | [], ls, vs, h => by simpa [ZmE] using h
 | k :: ks, ls, v :: vs, h => by
  obtain ⟨h1, h2⟩ := h
  obtain ⟨h3, h4⟩ := ZmE.split h2
  exact ⟨⟨h1, by simpa using h3⟩, by simpa using h4⟩
def Zlf (g : TypeId -> Option (List SK)) (sz : TypeId -> Option Nat) : List Field -> Nat -> Option (List SK)
 | [], _ => some []
 | f :: fs, off => if f.name = "_" \/ f.offset ≠ off then none else match g f.type with
  | some ks => if sz f.type = some ks.length then (Zlf g sz fs (off + ks.length)).map (ks ++ ·) else none
  | none => none
def ZnJ (P : Program) : Nat -> TypeId -> Option (List SK)
 | 0, _ => none
 | d + 1, t => match P.underlying t with
  | some .bool => some [.b]
  | some (.int q) => some [.i q]
  | some .string => some [.s]
  | some (.struct fs) => if P.stoodInHeld t then none else Zlf (ZnJ P d) (ZaO P) fs.toList 0
  | _ => none
section
variable {P : Program} {w : World}
variable {ops : Array Oper} {env : Env} {σ : St} {K : Env -> St -> Prop} {d : Option Nat} {ty ty' t e : TypeId} {pos : String} {af : Array Edge} {x y z : Operand}
theorem ZdQ {p : Option Addr} {v : AV} (hp : P.underlying t = some (.pointer (P.pointee t))) (hx : ev env x = v) (hv : v.val = .pointer p) (hy : ev env y = .raw (.pointer none)) (h : K (env.put d (.raw (.bool p.isNone))) σ) : aOp P ops ⟨d, .binOp .eql t x y ty', ty, pos, af, none⟩ env σ K :=
 ZdZ hx hy (fun w _ _ => by simp [hv, eqGuard_at_pointer, run_eql_pointer_nil w t p hp]) h
theorem Zer {p : Option Addr} {v : AV} (hp : P.underlying t = some (.pointer (P.pointee t))) (hx : ev env x = v) (hv : v.val = .pointer p) (hy : ev env y = .raw (.pointer none)) (h : K (env.put d (.raw (.bool (!p.isNone)))) σ) : aOp P ops ⟨d, .binOp .neq t x y ty', ty, pos, af, none⟩ env σ K :=
 ZdZ hx hy (fun w _ _ => by simp [hv, eqGuard_at_pointer, run_neq_pointer_nil w t p hp]) h
end
end Go.Proofs.Ytinpiaibhjmfaaa
