/- The base: codes, functions, steps of a walk, append, data. -/
import Derived.Test.YtiienjjhlibopaaGreatDoorBa
import Derived.IntWalk
import Derived.WalkLawsBesides
import Derived.Laws.AppendOwn
import Derived.Lib.LazyBuf
import Derived.Laws.Entries
import Derived.Laws.StructEq
import Derived.Laws.Pointers
namespace Go.Proofs.YtiienjjhlibopaaGreatDoor
open Go.RowKit
set_option maxRecDepth 100000
set_option linter.unusedVariables false
abbrev Zdn := Exit -> Env -> St -> Prop
def Zfk (next : Env -> St -> Prop) (Q : Zdn) : Zdn
 | .normal, env, σ => next env σ
 | e, env, σ => Q e env σ
def Zfl (id : Nat) (Q : Zdn) : Zdn
 | .exit id', env, σ => if id' = id then Q .normal env σ else Q (.exit id') env σ
 | e, env, σ => Q e env σ
def Zps (Q : Zdn) : Zdn
 | .goto _, _, _ => False
 | e, env, σ => Q e env σ
def ZdD (P : Program) (f : FuncId) (args : List AV) (σ : St) (Q : List PanicEntry -> St -> Prop) : Prop :=
 ∀ w Z, ZaG w σ Z -> (∀ a ∈ args, Zar w (σ.free Z) a) -> ZbX P f = true /\ Calls P f (args.map AV.val).toArray w fun e w' => ∃ ch σ', e = .panicked ch /\ Q ch σ' /\ ZaG w' σ' Z /\ Grow w σ w' σ'
def Zpt (P : Program) (ops : Array Oper) (o : Oper) (env : Env) (σ : St) (Kp : List PanicEntry -> Env -> St -> Prop) : Prop :=
 Region.wanted o (ZaE ops env) = true /\ ((∃ c f g first cap, o.op = .call c /\ c.callee = .value f /\ (ev env f).val = .func (.func g) first cap /\ ZdD P g (first.toList.map .raw ++ c.args.toList.map (ev env) ++ cap.toList.map .raw) σ fun ch σ' => Kp ch env σ') \/
  ∃ x t v, o.op = .panic x /\ (ev env x).val = .iface t v /\ Kp [{ v := .iface t v, recovered := false }] env σ)
def ZnC (P : Program) (ops : Array Oper) (l : List Oper) (env : Env) (σ : St) (Kp : List PanicEntry -> Env -> St -> Prop) : Prop :=
 ∃ l1 o l2, l = l1 ++ o :: l2 /\ Zbz P ops l1 env σ fun env' σ' => Zpt P ops o env' σ' Kp
def ZaA (P : Program) (O : Nat -> Prop) : Code -> Zdn -> Env -> St -> Prop
 | .skip, Q, env, σ => Q .normal env σ
 | .region _ ops draw, Q, env, σ => ZlV O env σ fun env σ => match draw with
  | false => Zbz P ops ops.toList env σ (Q .normal) \/ ZnC P ops ops.toList env σ fun ch => Q (.panic ch)
  | true => ZhD P ops env σ (Q .normal)
 | .seq a b, Q, env, σ => ZaA P O a (Zfk (ZaA P O b Q) Q) env σ
 | .cond c a b, Q, env, σ => ∃ t, (ev env c).val = .bool t /\ (t = true -> ZaA P O a Q env σ) /\ (t = false -> ZaA P O b Q env σ)
 | .block id c, Q, env, σ => ZaA P O c (Zfl id Q) env σ
 | .loop c, Q, env, σ => ∃ (I : Nat -> Env -> St -> Prop) (n : Nat), I n env σ /\ ∀ n env σ, I n env σ -> ZaA P O c (Zfk (fun env' σ' => ∃ n', n' < n /\ I n' env' σ') Q) env σ
 | .exit id, Q, env, σ => Q (.exit id) env σ
 | .scope c, Q, env, σ => ZaA P O c (Zps Q) env σ
 | .ret, Q, env, σ => Q .ret env σ
 | _, _, _, _ => False
def ZcB (nt : Nat) : Code -> Bool
 | .region _ ops _ => ZfM nt ops.toList
 | .seq a b => ZcB nt a && ZcB nt b
 | .cond _ a b => ZcB nt a && ZcB nt b
 | .block _ c => ZcB nt c
 | .loop c => ZcB nt c
 | .scope c => ZcB nt c
 | _ => true
def ZrR (D : List Deferred) (nt : Nat) (O : Nat -> Prop) (w0 : World) (σ0 : St) (Z : Nat -> Prop) (Q : Zdn) : Exit -> Act -> World -> Prop := fun e a w => ∃ env σ, Q e env σ /\ ZdI D nt w σ Z env a /\ ZdX O w0 σ0 w σ
section
variable {P : Program} {Z O : Nat -> Prop} {nt : Nat} {D : List Deferred}
theorem ZrR.grow {w0 w1 : World} {σ0 σ1 : St} {Q : Zdn} (hG : ZdX O w0 σ0 w1 σ1) {e : Exit} {a : Act} {w : World} (h : ZrR D nt O w1 σ1 Z Q e a w) : ZrR D nt O w0 σ0 Z Q e a w := by
 obtain ⟨env, σ, h1, h2, h3⟩ := h
 exact ⟨env, σ, h1, h2, hG.trans h3⟩
theorem Zpu {o : Oper} {a : Act} {next next' : Act -> World -> Prop} {Q Q' : Exit -> Act -> World -> Prop} (hn : ∀ a w, next a w -> next' a w) (hp : ∀ ch a w, Q (.panic ch) a w -> Q' (.panic ch) a w) (hl : LetsOut Q -> LetsOut Q') {r : Result Next} (h : o.upon P a next Q r) : o.upon P a next' Q' r := by
 unfold Oper.upon at h ⊢
 split <;> simp only [] at h
 ·exact hn _ _ h
 ·exact hn _ _ h
 ·exact hn _ _ h
 ·refine Calls.mono h ?_
  intro e w'
  cases e with
  | returned v => exact hn _ _
  | panicked ch => exact hp _ _ _
  | outgrown => exact hl
 ·exact Rows.mono h fun v w' => hn _ _
 ·exact hp _ _ _ h
theorem ZfP {ops : Array Oper} {Q : Exit -> Act -> World -> Prop} {l2 : List Oper} : ∀ (l1 : List Oper) (a : Act) (w : World), wpList P ops (fun e a w => match e with | .normal => wpList P ops Q l2 a w | e => Q e a w) l1 a w -> wpList P ops Q (l1 ++ l2) a w
 | [], a, w, h => h
 | o :: l1, a, w, h => by
  rw [List.cons_append]
  unfold wpList at h ⊢
  split at h
  ·rename_i hw
   rw [if_pos hw]
   rcases h with h | ⟨h1, h2⟩
   ·exact .inl (Zpu (fun a w q => ZfP l1 a w q) (fun ch a w q => q) (fun q => q) h)
   ·exact .inr ⟨h1, h2⟩
  ·rename_i hw
   rw [if_neg hw]
   exact ZfP l1 _ _ h
theorem Zlb {w : World} {σ : St} {env : Env} {a : Act} {ops : Array Oper} {o : Oper} {l2 : List Oper} {Kp : List PanicEntry -> Env -> St -> Prop} {Q : Exit -> Act -> World -> Prop} (hok : ZfM nt ops.toList = true) (hI : ZdI D nt w σ Z env a) (h : Zpt P ops o env σ Kp)
 (hQ : ∀ ch a' w', (∃ env' σ', Kp ch env' σ' /\ ZdI D nt w' σ' Z env' a' /\ Grow w σ w' σ') -> Q (.panic ch) a' w') : wpList P ops Q (o :: l2) a w := by
 obtain ⟨hw, h⟩ := h
 unfold wpList
 rw [if_pos (by rw [hI.wanted hok]; exact hw)]
 left
 unfold Oper.wp
 rcases h with ⟨c, f, g, first, cap, h1, h2, h3, h4⟩ | ⟨x, t, v, h1, h2, h3⟩
 ·have hmap : c.args.map a.eval = ((c.args.toList.map (ev env)).map AV.val).toArray := by
   apply Array.ext'
   simp only [Array.toList_map, List.map_map]
   exact List.map_congr_left fun x _ => (hI.eval x).1
  obtain ⟨q1, q2⟩ := h4 w Z hI.heap (fun y hy => by
   rcases List.mem_append.1 hy with hy | hy
   ·rcases List.mem_append.1 hy with hy | hy
    ·obtain ⟨u, _, rfl⟩ := List.mem_map.1 hy
     unfold Zar; trivial
    ·obtain ⟨u, _, rfl⟩ := List.mem_map.1 hy
     exact (hI.eval u).2
   ·obtain ⟨u, _, rfl⟩ := List.mem_map.1 hy
    unfold Zar; trivial)
  rw [Zkc h1 h2 ((hI.eval f).1.trans h3) q1, Oper.upon_enter]
  have hvs : first ++ c.args.map a.eval ++ cap = ((first.toList.map AV.raw ++ c.args.toList.map (ev env) ++ cap.toList.map AV.raw).map AV.val).toArray := by
   rw [hmap]
   apply Array.ext'
   simp [List.map_map, Function.comp_def]
  rw [hvs]
  refine q2.mono ?_
  rintro e w' ⟨ch, σ', rfl, g1, g2, g3⟩
  exact hQ ch a w' ⟨env, σ', g1, ⟨g2, hI.defers, hI.size, hI.val, fun i => g3.valid (hI.valid i)⟩, g3⟩
 ·have : (execOp a.eval o).run P w = .halt (.panic (.iface t v)) w := by
   have hx : a.eval x = .iface t v := (hI.eval x).1.trans h2
   simp [execOp, h1, hx]
   rfl
  rw [this]
  exact hQ _ a w ⟨env, σ, h3, hI, Grow.refl _ _⟩
theorem ZjC {w : World} {σ : St} {env : Env} {a : Act} {ops : Array Oper} {Kp : List PanicEntry -> Env -> St -> Prop} {Q : Exit -> Act -> World -> Prop} (hok : ZfM nt ops.toList = true) (hI : ZdI D nt w σ Z env a) (h : ZnC P ops ops.toList env σ Kp)
 (hQ : ∀ ch a' w', (∃ env' σ', Kp ch env' σ' /\ ZdI D nt w' σ' Z env' a' /\ Grow w σ w' σ') -> Q (.panic ch) a' w') : wpList P ops Q ops.toList a w := by
 obtain ⟨l1, o, l2, hl, h1⟩ := h
 rw [hl]
 refine ZfP l1 a w (Ze0 (Z := Z) (nt := nt) hok l1 env σ a w _ (fun x hx => by rw [hl]; exact List.mem_append_left _ hx) hI h1 ?_)
 rintro a' w' ⟨env', σ', g1, g2, g3⟩
 refine Zlb hok g2 g1 ?_
 rintro ch a2 w2 ⟨env2, σ2, k1, k2, k3⟩
 exact hQ ch a2 w2 ⟨env2, σ2, k1, k2, g3.trans k3⟩
theorem Zbx (hm : P.follows .mixedOrders = true) : ∀ (c : Code) (Q : Zdn) (env : Env) (σ : St) (a : Act) (w : World), ZcB nt c = true -> ZdI D nt w σ Z env a -> ZaA P O c Q env σ -> c.wp P (ZrR D nt O w σ Z Q) a w
 | .skip, Q, env, σ, a, w, _, hI, h => wp_skip ⟨env, σ, h, hI, ZdX.refl _ _⟩
 | .region id ops false, Q, env, σ, a, w, hok, hI, h => by
  obtain ⟨env1, σ1, h, hI, hG⟩ := ZlV.sound hI h
  rcases h with h | h
  ·refine wp_region_list (Ze0 (Z := Z) (nt := nt) hok ops.toList env1 σ1 a w (Q .normal) (fun _ h => h) hI h ?_)
   rintro a' w' ⟨env', σ', h1, h2, h3⟩
   exact ⟨env', σ', h1, h2, hG.trans h3.toO⟩
  ·refine wp_region_list (ZjC (Z := Z) (nt := nt) hok hI h ?_)
   rintro ch a' w' ⟨env', σ', h1, h2, h3⟩
   exact ⟨env', σ', h1, h2, hG.trans h3.toO⟩
 | .region id ops true, Q, env, σ, a, w, hok, hI, h => by
  obtain ⟨env1, σ1, h, hI, hG⟩ := ZlV.sound hI h
  refine ZiO (K := Q .normal) hm hok hI h ?_
  rintro a' w' ⟨env', σ', h1, h2, h3⟩
  exact ⟨env', σ', h1, h2, hG.trans h3.toO⟩
 | .seq x y, Q, env, σ, a, w, hok, hI, h => by
  unfold ZcB at hok
  simp only [Bool.and_eq_true] at hok
  refine wp_seq (wp_mono (Zbx hm x _ env σ a w hok.1 hI h) ?_)
  rintro e a' w' ⟨env', σ', h1, h2, h3⟩
  cases e with
  | normal => exact wp_mono (Zbx hm y Q env' σ' a' w' hok.2 h2 h1) fun e a2 w2 h => h.grow h3
  | _ => exact ⟨env', σ', h1, h2, h3⟩
 | .cond c x y, Q, env, σ, a, w, hok, hI, h => by
  unfold ZcB at hok
  simp only [Bool.and_eq_true] at hok
  obtain ⟨t, h1, h2, h3⟩ := h
  have hc : a.eval c = .bool t := (hI.eval c).1.trans h1
  cases t with
  | true => exact wp_cond_true hc (Zbx hm x Q env σ a w hok.1 hI (h2 rfl))
  | false => exact wp_cond_false hc (Zbx hm y Q env σ a w hok.2 hI (h3 rfl))
 | .block id c, Q, env, σ, a, w, hok, hI, h => by
  unfold ZcB at hok
  refine wp_block (wp_mono (Zbx hm c _ env σ a w hok hI h) ?_)
  rintro e a' w' ⟨env', σ', h1, h2, h3⟩
  cases e with
  | exit id' =>
   unfold Zfl at h1
   unfold Exit.inBlock
   dsimp only at h1 ⊢
   split
   ·rename_i he; rw [if_pos he] at h1; exact ⟨env', σ', h1, h2, h3⟩
   ·rename_i he; rw [if_neg he] at h1; exact ⟨env', σ', h1, h2, h3⟩
  | _ => exact ⟨env', σ', h1, h2, h3⟩
 | .loop c, Q, env, σ, a, w, hok, hI, h => by
  unfold ZcB at hok
  obtain ⟨I, n, h1, h2⟩ := h
  refine wp_loop_ghost (fun n a' w' => ∃ env' σ', I n env' σ' /\ ZdI D nt w' σ' Z env' a' /\ ZdX O w σ w' σ') n ⟨env, σ, h1, hI, ZdX.refl _ _⟩ ?_
  rintro m a1 w1 ⟨env1, σ1, hI1, hA1, hG1⟩
  refine wp_mono (Zbx hm c _ env1 σ1 a1 w1 hok hA1 (h2 m env1 σ1 hI1)) ?_
  rintro e a' w' ⟨env', σ', g1, g2, g3⟩
  cases e with
  | normal =>
   obtain ⟨n', hn', hI'⟩ := g1
   exact ⟨n', hn', env', σ', hI', g2, hG1.trans g3⟩
  | _ => exact ⟨env', σ', g1, g2, hG1.trans g3⟩
 | .exit id, Q, env, σ, a, w, _, hI, h => wp_exit ⟨env, σ, h, hI, ZdX.refl _ _⟩
 | .scope c, Q, env, σ, a, w, hok, hI, h => by
  unfold ZcB at hok
  refine wp_scope_straight (wp_mono (Zbx hm c _ env σ a w hok hI h) ?_)
  rintro e a' w' ⟨env', σ', h1, h2, h3⟩
  cases e with
  | goto l => exact h1.elim
  | _ => exact ⟨env', σ', h1, h2, h3⟩
 | .ret, Q, env, σ, a, w, _, hI, h => wp_ret ⟨env, σ, h, hI, ZdX.refl _ _⟩
def ZbY (P : Program) (env : Env) (σ : St) : ResultVar -> Option AV
 | .tmp t => some (env t)
 | .cell a t => ZbU P t σ (env a)
def ZaM (P : Program) (fn : Func) (env : Env) (σ : St) (r : AV) : Prop := match fn.results.toList with
 | [x] => ZbY P env σ x = some r
 | l => ∃ rs, l.mapM (ZbY P env σ) = some rs /\ r = .tup rs
def Zsa (P : Program) (fn : Func) (K : AV -> St -> Prop) : Zdn
 | .normal, env, σ | .ret, env, σ => ∃ r, ZaM P fn env σ r /\ K r σ
 | _, _, _ => False
def ZiP (args : List AV) : Env := fun i => args.getD i (.raw undef)
theorem ZlX {w : World} {σ : St} {t : TypeId} {x r : AV} (h : ZbU P t σ x = some r) : ∃ ad, x.val = .pointer (some ad) := by
 unfold ZbU at h
 split at h
 ·exact ⟨_, by simp; rfl⟩
 ·exact ⟨_, by simp; rfl⟩
 ·cases h
def ZlY (tmps : Array Value) : ResultVar -> Sem Value
 | .tmp t => pure (tmps.getD t undef)
 | .cell a t => do loadVar t (<- asAddr (tmps.getD a undef))
theorem Zlc {w : World} {σ : St} {env : Env} {a : Act} (hI : ZdI D nt w σ Z env a) (x : ResultVar) {r : AV} (h : ZbY P env σ x = some r) :
 (ZlY a.tmps x).run P w = .ok r.val w /\ Zar w (σ.free Z) r := by
 cases x with
 | tmp t =>
  injection h with h
  subst h
  exact ⟨by simp [ZlY, hI.val t], hI.valid t⟩
 | cell b t =>
  obtain ⟨h1, h2⟩ := ZgF hI.heap (hI.valid b) h
  obtain ⟨ad, had⟩ := ZlX (w := w) h
  refine ⟨?_, h2⟩
  rw [had] at h1
  simp only [ZlY, hI.val b, had, asAddr]
  simpa [Instr.loadAt, Instr.sureAddr] using h1
theorem Zd8 {w : World} {σ : St} {env : Env} {a : Act} (hI : ZdI D nt w σ Z env a) : ∀ (l : List ResultVar) (rs : List AV), l.mapM (ZbY P env σ) = some rs ->
 (l.mapM (ZlY a.tmps)).run P w = .ok (rs.map AV.val) w /\ ∀ r ∈ rs, Zar w (σ.free Z) r
 | [], rs, h => by simp at h; subst h; exact ⟨by simp, by simp⟩
 | x :: l, rs, h => by
  simp only [List.mapM_cons, Option.bind_eq_bind, Option.pure_def] at h
  cases hx : ZbY P env σ x with
  | none => simp [hx] at h
  | some r =>
   cases hl : l.mapM (ZbY P env σ) with
   | none => simp [hx, hl] at h
   | some rs' =>
    simp [hx, hl] at h
    subst h
    obtain ⟨h1, h2⟩ := Zlc hI x hx
    obtain ⟨h3, h4⟩ := Zd8 hI l rs' hl
    refine ⟨?_, fun r' hr' => ?_⟩
    ·rw [List.mapM_cons, Sem.run_bind, h1]
     simp only [Result.andThen_ok, Sem.run_bind]
     rw [h3]
     simp
    ·rcases List.mem_cons.1 hr' with rfl | hr'
     ·exact h2
     ·exact h4 r' hr'
theorem ZgO {w : World} {σ : St} {env : Env} {a : Act} {fn : Func} (hI : ZdI D nt w σ Z env a) {r : AV} (h : ZaM P fn env σ r) : (results fn a.tmps).run P w = .ok r.val w /\ Zar w (σ.free Z) r := by
 have key : ∃ rs, fn.results.toList.mapM (ZbY P env σ) = some rs /\ ((∃ x, rs = [x] /\ r = x) \/ (rs.length ≠ 1 /\ r = .tup rs)) := by
  unfold ZaM at h
  split at h
  ·rename_i x hx
   rw [hx]
   exact ⟨[r], by simp [h], .inl ⟨r, rfl, rfl⟩⟩
  ·rename_i l hne
   obtain ⟨rs, h1, h2⟩ := h
   refine ⟨rs, h1, .inr ⟨fun hl => ?_, h2⟩⟩
   have hlen : rs.length = fn.results.toList.length := by
    have : ∀ (l : List ResultVar) (rs : List AV), l.mapM (ZbY P env σ) = some rs -> rs.length = l.length := by
     intro l
     induction l with
     | nil => intro rs h; simp at h; subst h; rfl
     | cons x l ih =>
      intro rs h
      simp only [List.mapM_cons, Option.bind_eq_bind, Option.pure_def] at h
      cases hx : ZbY P env σ x with
      | none => simp [hx] at h
      | some r =>
       cases hl : l.mapM (ZbY P env σ) with
       | none => simp [hx, hl] at h
       | some rs' =>
        simp [hx, hl] at h
        subst h
        simp [ih rs' hl]
    exact this _ _ h1
   match hq : fn.results.toList with
   | [] => rw [hl, hq] at hlen; simp at hlen
   | [x] => exact hne x hq
   | x :: y :: l' => rw [hl, hq] at hlen; simp at hlen
 obtain ⟨rs, h1, h2⟩ := key
 obtain ⟨h3, h4⟩ := Zd8 hI _ rs h1
 have he : results fn a.tmps = (fn.results.mapM (ZlY a.tmps) >>= fun vs => pure (if h : vs.size = 1 then vs[0] else .tuple vs)) := rfl
 rw [he, Sem.run_bind, Array.mapM_eq_mapM_toList, Sem.run_map, h3]
 rcases h2 with ⟨x, rfl, rfl⟩ | ⟨hn, rfl⟩
 ·exact ⟨by simp, h4 _ (by simp)⟩
 ·refine ⟨?_, by unfold Zar; exact ZaY.iff.2 h4⟩
  simp [hn]
theorem Zai {f : FuncId} {fn : Func} {c : Code} {args : List AV} {σ : St} {K : AV -> St -> Prop} (hm : P.follows .mixedOrders = true) (hf : P.funcs[f]? = some fn) (hb : fn.body = some c) (hname : (fn.name != "runtime.NumGoroutine") = true) (hok : ZcB fn.ntmps c = true) (hn : args.length <= fn.ntmps)
 (h : ZaA P σ.used c (Zsa P fn K) (ZiP args) σ) : Zan P f args σ K := by
 intro w Z hH hV
 refine .inl ⟨by unfold ZbX; rw [hf]; simp [hb]; simpa using hname, ?_⟩
 refine calls_of_wp hf hb ?_
 have hI : ZdI [] fn.ntmps w σ Z (ZiP args) { tmps := (args.map AV.val).toArray ++ Array.replicate (fn.ntmps - (args.map AV.val).toArray.size) undef, defers := [] } := by
  refine ⟨hH, rfl, by simp; omega, fun i => ?_, fun i => ?_⟩
  ·unfold ZiP
   simp only [List.getD_eq_getElem?_getD, Array.getD_eq_getD_getElem?, Array.getElem?_append, List.size_toArray, List.length_map]
   by_cases hi : i < args.length
   ·simp [hi]
   ·simp only [if_neg hi, List.getElem?_eq_none (Nat.le_of_not_lt hi), Option.getD_none, AV.val_raw]
    by_cases h2 : i - args.length < fn.ntmps - args.length
    ·simp [h2]
    ·simp [h2]
  ·unfold ZiP
   rw [List.getD_eq_getElem?_getD]
   cases hi : args[i]? with
   | none => simp only [Option.getD_none]; unfold Zar; trivial
   | some x => exact hV x (List.mem_of_getElem? hi)
 refine wp_mono (Zbx hm c _ (ZiP args) σ _ w hok hI h) ?_
 rintro e a' w' ⟨env', σ', h1, h2, h3⟩
 have h3 := h3.full hH
 have fin : (∃ r, ZaM P fn env' σ' r /\ K r σ') -> (a'.defers = [] /\ ∃ v, (results fn a'.tmps).run P w' = .ok v w' /\ ∃ r σ'', Ending.returned v = .returned r.val /\ K r σ'' /\ ZaG w' σ'' Z /\ Zar w' (σ''.free Z) r /\ Grow w σ w' σ'') := by
  rintro ⟨r, g1, g2⟩
  obtain ⟨g3, g4⟩ := ZgO h2 g1
  exact ⟨h2.defers, _, g3, r, σ', rfl, g2, h2.heap, g4, h3⟩
 cases e with
 | normal => exact fin h1
 | ret => exact fin h1
 | _ => exact h1.elim
end
section
variable {P : Program} {O : Nat -> Prop} {ops : Array Oper} {rest : List Oper} {env : Env} {σ : St} {K : Env -> St -> Prop} {d : Option Nat} {ty ty' t : TypeId} {pos : String} {af : Array Edge} {x y z : Operand}
theorem ZaT {o : Oper} (hg : o.guard = none) : aOp P ops o env σ K = Zc6 P o (o.op.operands.toList.map (ev env)) σ (fun r σ' => K (env.put o.dst r) σ') := by
 unfold aOp Region.wanted
 rw [hg]
 rfl
theorem Zld {op : Op} {j : Nat} {want : Bool} (hg : ZaE ops env j = some want) (h : aOp P ops ⟨d, op, ty, pos, af, none⟩ env σ K) : aOp P ops ⟨d, op, ty, pos, af, some (j, want)⟩ env σ K := by
 rw [ZaT rfl] at h
 have hw : Region.wanted ⟨d, op, ty, pos, af, some (j, want)⟩ (ZaE ops env) = true := by simp [Region.wanted, hg]
 unfold aOp
 rw [if_pos hw]
 exact h
theorem ZjD {op : Op} {j : Nat} {want : Bool} (hg : ZaE ops env j = some (!want)) (h : K (env.put d (.raw undef)) σ) : aOp P ops ⟨d, op, ty, pos, af, some (j, want)⟩ env σ K := by
 have hw : ¬ Region.wanted ⟨d, op, ty, pos, af, some (j, want)⟩ (ZaE ops env) = true := by simp [Region.wanted, hg]
 unfold aOp
 rw [if_neg hw]
 exact h
theorem Zq0 {v : AV} (hx : ev env x = v) (h : K (env.put d v) σ) : aOp P ops ⟨d, .move x, ty, pos, af, none⟩ env σ K := by
 subst hx; rw [ZaT rfl]; exact h
theorem ZnD {v : AV} (hx : ev env x = v) (h : K (env.put d v) σ) : aOp P ops ⟨d, .assign x, ty, pos, af, none⟩ env σ K := by
 subst hx; rw [ZaT rfl]; exact h
theorem Zaj {v : AV} (hx : ev env x = .raw (.bool true)) (hy : ev env y = v) (h : K (env.put d v) σ) : aOp P ops ⟨d, .pick x y z, ty, pos, af, none⟩ env σ K := by
 subst hy; rw [ZaT rfl]; exact ⟨true, by rw [hx]; simp, h⟩
theorem Zak {v : AV} (hx : ev env x = .raw (.bool false)) (hy : ev env z = v) (h : K (env.put d v) σ) : aOp P ops ⟨d, .pick x y z, ty, pos, af, none⟩ env σ K := by
 subst hy; rw [ZaT rfl]; exact ⟨false, by rw [hx]; simp, h⟩
theorem Zpv {e : TypeId} {v : Value} (hz : Zba P e = some v) (h : ∀ b, ¬ σ.used b -> σ.blk b = none -> K (env.put d (ptr b 0)) (σ.put b (.own e (AV.ofV v).cells))) : aOp P ops ⟨d, .alloc e, ty, pos, af, none⟩ env σ K := by
 rw [ZaT rfl]; exact ⟨v, hz, h⟩
theorem Zsb {e : TypeId} {v : AV} (hx : ev env x = v) (h : ∀ b, ¬ σ.used b -> σ.blk b = none -> K (env.put d (ptr b 0)) (σ.put b (.own e v.cells))) : aOp P ops ⟨d, .box e x, ty, pos, af, none⟩ env σ K := by
 subst hx; rw [ZaT rfl]; exact h
theorem ZbV {v r : AV} (hx : ev env x = v) (hl : ZbU P t σ v = some r) (h : K (env.put d r) σ) : aOp P ops ⟨d, .load t x, ty, pos, af, none⟩ env σ K := by
 subst hx; rw [ZaT rfl]; exact ⟨r, hl, h⟩
theorem Zpw {v u : AV} {σ' : St} (hx : ev env x = v) (hy : ev env y = u) (hl : ZgE P t σ v u = some σ') (h : K (env.put d (.raw undef)) σ') : aOp P ops ⟨d, .store t x y, ty, pos, af, none⟩ env σ K := by
 subst hx hy; rw [ZaT rfl]; exact ⟨σ', hl, h⟩
theorem Zav {v : AV} (hx : ev env x = v) (hs : Zh2 v = true) (h : K (env.put d v) σ) : aOp P ops ⟨d, .nilCheck x, ty, pos, af, none⟩ env σ K := by
 subst hx; rw [ZaT rfl]; exact ⟨hs, h⟩
theorem Zae {f b o off n : Nat} {l : List (Nat × Option Nat × Option Bool)} {g : Option Bool} (hx : ev env x = ptr b o) (hl : Za3 P t = some l) (hf : l[f]? = some (off, some (n + 1), g)) (h : K (env.put d (ptr b (o + off))) σ) : aOp P ops ⟨d, .fieldAddr t x f, ty, pos, af, none⟩ env σ K := by
 rw [ZaT rfl]
 show Zc6 P _ [ev env x] σ _
 rw [hx]
 refine ⟨l, off, n, g, hl, hf, ?_⟩
 rw [Zci]
 exact h
theorem Zh6 {f off n : Nat} {ad : Addr} {cells : List AV} {l : List (Nat × Option Nat × Option Bool)} {g : Option Bool} (hx : ev env x = .eptr ad cells) (hl : Za3 P t = some l) (hf : l[f]? = some (off, some (n + 1), g)) (h : K (env.put d (.eptr (ad.add off) (cells.drop off))) σ) : aOp P ops ⟨d, .fieldAddr t x f, ty, pos, af, none⟩ env σ K := by
 rw [ZaT rfl]
 show Zc6 P _ [ev env x] σ _
 rw [hx]
 exact ⟨l, off, n, g, hl, hf, h⟩
theorem Zaw {i : Nat} {l : List AV} {r : AV} (hx : ev env x = .tup l) (hl : l[i]? = some r) (h : K (env.put d r) σ) : aOp P ops ⟨d, .extract x i, ty, pos, af, none⟩ env σ K := by
 rw [ZaT rfl]
 show Zc6 P _ [ev env x] σ _
 rw [hx]
 exact ⟨r, hl, h⟩
theorem Zpx {e : TypeId} {sz n c j : Nat} {ad : Addr} {cells : List AV} {k : IntKind} (hx : ev env x = .lst (some ad) n c cells) (hy : ev env y = .raw (.int k j)) (ht : ZaW P t = some e) (hs : ZaU P e = some sz) (hj : j < n) (h : K (env.put d (.eptr (ad.add (j * sz)) (cells.drop (j * sz)))) σ) : aOp P ops ⟨d, .indexAddr t x y, ty, pos, af, none⟩ env σ K := by
 rw [ZaT rfl]
 show Zc6 P _ [ev env x, ev env y] σ _
 rw [hx, hy]
 exact ⟨e, sz, k, j, ht, hs, by simp, hj, h⟩
theorem Zbj {parts : Array (Nat × Operand)} {v : Value} {pl : List (Nat × Nat)} {vs cells : List AV} (hv : parts.toList.map (fun p => ev env p.2) = vs) (hz : Zba P t = some v) (hp : ZbE P t = some pl) (hf : Zcz (fun i => pl[i]?) (AV.ofV v).cells ((parts.toList.map (·.1)).zip vs) = some cells) (h : K (env.put d (.agg cells)) σ) : aOp P ops ⟨d, .build t parts, ty, pos, af, none⟩ env σ K := by
 rw [ZaT rfl]
 refine ⟨v, pl, cells, hz, hp, ?_, h⟩
 have : (Op.build t parts).operands.toList.map (ev env) = vs := by rw [<- hv]; simp [Op.operands]
 rw [this]
 exact hf
theorem ZaN {n : Nat} {parts : Array (Nat × Operand)} {e : TypeId} {sz : Nat} {v : Value} {vs cells : List AV} (hv : parts.toList.map (fun p => ev env p.2) = vs) (ht : ZaW P t = some e) (hs : ZaU P e = some sz) (hz : Zba P e = some v) (hzs : v.cells.size = sz) (hn : n * sz <= 16777216)
 (hf : Zcz (fun i => some (i * sz, sz)) ((List.range (n * sz)).map fun i => .ofV (v.cells[i % sz]!)) ((parts.toList.map (·.1)).zip vs) = some cells)
 (h : ∀ b, ¬ σ.used b -> σ.blk b = none -> K (env.put d (.lst (some ⟨b, 0, none⟩) n n cells)) (σ.put b (.tail e (n * sz) (n * sz)))) : aOp P ops ⟨d, .buildSlice t n parts, ty, pos, af, none⟩ env σ K := by
 rw [ZaT rfl]
 have : (Op.buildSlice t n parts).operands.toList.map (ev env) = vs := by rw [<- hv]; simp [Op.operands]
 refine ⟨e, sz, v, cells, ht, hs, hz, hzs, hn, ?_, h⟩
 rw [this]
 exact hf
theorem Zay {g : FuncId} {as_ : Array Operand} {ts : Array TypeId} {vs : List AV} (hv : as_.toList.map (ev env) = vs) (h : Zan P g vs σ fun r σ' => K (env.put d r) σ') : aOp P ops ⟨d, .call ⟨.value (.func g), as_, ts⟩, ty, pos, af, none⟩ env σ K := by
 rw [ZaT rfl]
 have : (Op.call ⟨.value (.func g), as_, ts⟩).operands.toList.map (ev env) = ev env (.func g) :: vs := by rw [<- hv]; simp [Op.operands, Call.operands]
 show Zc6 P _ ((Op.call ⟨.value (.func g), as_, ts⟩).operands.toList.map (ev env)) σ _
 rw [this]
 exact ⟨g, #[], #[], rfl, by simpa using h⟩
theorem Zdu {o : Oper} {vs : List AV} {v : Value} (hg : o.guard = none) (hv : o.op.operands.toList.map (ev env) = vs) (hd : ∀ σ (K : AV -> St -> Prop), (∃ v, ZdC P o vs v /\ K (.raw v) σ) -> Zc6 P o vs σ K) (hr : ZdC P o vs v) (h : K (env.put o.dst (.raw v)) σ) : aOp P ops o env σ K := by
 rw [ZaT hg, hv]
 exact hd _ _ ⟨v, hr, h⟩
theorem ZcP {op : BinOp} {a b : AV} {v : Value} (hx : ev env x = a) (hy : ev env y = b) (hr : ∀ (w : World) (x y : Operand), (do eqGuard op t x y a.val b.val; binOp op t a.val b.val : Sem Value).run P w = .ok v w) (h : K (env.put d (.raw v)) σ) : aOp P ops ⟨d, .binOp op t x y ty', ty, pos, af, none⟩ env σ K := by
 refine Zdu (vs := [a, b]) rfl (by simp [Op.operands, hx, hy]) (fun _ _ h => .inl h) (fun ρ hρ w _ _ => ?_) h
 simp [Op.operands] at hρ
 have := hr w x y
 simp only [execOp]
 rw [hρ.1, hρ.2, Sem.run_bind, this]
 simp
theorem Zs5 {op : UnOp} {a : AV} {v : Value} (hx : ev env x = a) (hr : ∀ w, (Op.unary op a.val).run P w = .ok v w) (h : K (env.put d (.raw v)) σ) : aOp P ops ⟨d, .unOp op t x, ty, pos, af, none⟩ env σ K := by
 refine Zdu (vs := [a]) rfl (by simp [Op.operands, hx]) (fun _ _ h => .inl h) (fun ρ hρ w _ _ => ?_) h
 simp [Op.operands] at hρ
 simp only [execOp]
 rw [hρ, Sem.run_bind, hr]
 simp
theorem Zsc {b : Bool} (hx : ev env x = .raw (.bool b)) (h : K (env.put d (.raw (.bool (!b)))) σ) : aOp P ops ⟨d, .unOp .not t x, ty, pos, af, none⟩ env σ K :=
 Zs5 hx (fun w => by simp [Op.unary]) h
theorem Zq1 {a : AV} {v : Value} (hx : ev env x = a) (hr : ∀ w, (convert t ty' a.val).run P w = .ok v w) (h : K (env.put d (.raw v)) σ) : aOp P ops ⟨d, .convert t ty' x, ty, pos, af, none⟩ env σ K := by
 refine Zdu (vs := [a]) rfl (by simp [Op.operands, hx]) (fun _ _ h => .inl h) (fun ρ hρ w _ _ => ?_) h
 simp [Op.operands] at hρ
 simp only [execOp]
 rw [hρ, Sem.run_bind, hr]
 simp
end
section
variable {P : Program} {O : Nat -> Prop} {ops : Array Oper} {rest : List Oper} {env : Env} {σ : St} {K : Env -> St -> Prop} {d : Option Nat} {ty ty' t : TypeId} {pos : String} {af : Array Edge} {x y z : Operand} {k k' : IntKind} {a b r : Int}
theorem Zq2 (hx : ev env x = .raw (.int k a)) (hy : ev env y = .raw (.int k b)) (hw : k.wrap (a + b) = r) (h : K (env.put d (.raw (.int k r))) σ) : aOp P ops ⟨d, .binOp .add t x y ty', ty, pos, af, none⟩ env σ K :=
 ZcP hx hy (fun w _ _ => by subst hw; simp [eqGuard_add, binOp_add, Op.intArith]) h
theorem ZnE (hx : ev env x = .raw (.int k a)) (hy : ev env y = .raw (.int k b)) (hw : k.wrap (a - b) = r) (h : K (env.put d (.raw (.int k r))) σ) : aOp P ops ⟨d, .binOp .sub t x y ty', ty, pos, af, none⟩ env σ K :=
 ZcP hx hy (fun w _ _ => by subst hw; simp [eqGuard_sub, binOp_sub, Op.intArith]) h
theorem ZnF (hx : ev env x = .raw (.int k a)) (hy : ev env y = .raw (.int k b)) (hw : k.wrap (a * b) = r) (h : K (env.put d (.raw (.int k r))) σ) : aOp P ops ⟨d, .binOp .mul t x y ty', ty, pos, af, none⟩ env σ K :=
 ZcP hx hy (fun w _ _ => by subst hw; simp [eqGuard_mul, binOp_mul, Op.intArith]) h
theorem Zsd (hx : ev env x = .raw (.int k a)) (hy : ev env y = .raw (.int k b)) (hb : b ≠ 0) (hw : k.wrap (a.tdiv b) = r) (h : K (env.put d (.raw (.int k r))) σ) : aOp P ops ⟨d, .binOp .quo t x y ty', ty, pos, af, none⟩ env σ K :=
 ZcP hx hy (fun w _ _ => by subst hw; simp [eqGuard_quo, binOp_quo, Op.intDiv, hb]) h
theorem Zgh (hx : ev env x = .raw (.int k a)) (hy : ev env y = .raw (.int k b)) (h : K (env.put d (.raw (.bool (decide (a < b))))) σ) : aOp P ops ⟨d, .binOp .lss t x y ty', ty, pos, af, none⟩ env σ K :=
 ZcP hx hy (fun w _ _ => by simp [eqGuard_lss, binOp_lss]) h
theorem Zh7 (hx : ev env x = .raw (.int k a)) (hy : ev env y = .raw (.int k b)) (h : K (env.put d (.raw (.bool (decide (a <= b))))) σ) : aOp P ops ⟨d, .binOp .leq t x y ty', ty, pos, af, none⟩ env σ K :=
 ZcP hx hy (fun w _ _ => by simp [eqGuard_leq, binOp_leq]) h
theorem Zb3 (hx : ev env x = .raw (.int k a)) (hy : ev env y = .raw (.int k b)) (h : K (env.put d (.raw (.bool (decide (b < a))))) σ) : aOp P ops ⟨d, .binOp .gtr t x y ty', ty, pos, af, none⟩ env σ K :=
 ZcP hx hy (fun w _ _ => by simp [eqGuard_gtr, binOp_gtr]) h
theorem ZeN (hx : ev env x = .raw (.int k a)) (hy : ev env y = .raw (.int k b)) (h : K (env.put d (.raw (.bool (decide (b <= a))))) σ) : aOp P ops ⟨d, .binOp .geq t x y ty', ty, pos, af, none⟩ env σ K :=
 ZcP hx hy (fun w _ _ => by simp [eqGuard_geq, binOp_geq]) h
theorem ZbQ (hx : ev env x = .raw (.int k a)) (hy : ev env y = .raw (.int k b)) (h : K (env.put d (.raw (.bool (decide (a = b))))) σ) : aOp P ops ⟨d, .binOp .eql t x y ty', ty, pos, af, none⟩ env σ K :=
 ZcP hx hy (fun w _ _ => by simp [eqGuard_at_int, binOp_eql]; rfl) h
theorem Zdo (hx : ev env x = .raw (.int k a)) (hy : ev env y = .raw (.int k b)) (h : K (env.put d (.raw (.bool (decide (a ≠ b))))) σ) : aOp P ops ⟨d, .binOp .neq t x y ty', ty, pos, af, none⟩ env σ K :=
 ZcP hx hy (fun w _ _ => by simp [eqGuard_at_int, binOp_neq]; rfl) h
theorem ZgP {P : Program} {t : TypeId} (ht : P.underlying t = some .bool) (a b : Bool) (w : World) : (Op.equal t (.bool a) (.bool b)).run P w = .ok (a == b) w := by
 show (Op.equalIn (9999 + 1) t (.bool a) (.bool b)).run P w = _
 unfold Op.equalIn
 simp [run_underlying ht]
theorem ZoZ {a b : Bool} (ht : P.underlying t = some .bool) (hx : ev env x = .raw (.bool a)) (hy : ev env y = .raw (.bool b)) (h : K (env.put d (.raw (.bool (decide (a = b))))) σ) : aOp P ops ⟨d, .binOp .eql t x y ty', ty, pos, af, none⟩ env σ K :=
 ZcP hx hy (fun w _ _ => by cases a <;> cases b <;> simp [eqGuard_at_bool, binOp, ZgP ht]) h
theorem Zo0 {a b : Bool} (ht : P.underlying t = some .bool) (hx : ev env x = .raw (.bool a)) (hy : ev env y = .raw (.bool b)) (h : K (env.put d (.raw (.bool (decide (a ≠ b))))) σ) : aOp P ops ⟨d, .binOp .neq t x y ty', ty, pos, af, none⟩ env σ K :=
 ZcP hx hy (fun w _ _ => by cases a <;> cases b <;> simp [eqGuard_at_bool, binOp, ZgP ht]) h
theorem Zse {u v : Operand} {ts : Array TypeId} (hx : ev env u = .raw (.int k a)) (hy : ev env v = .raw (.int k' b)) (h : K (env.put d (.raw (.int k (if b < a then b else a)))) σ) : aOp P ops ⟨d, .call ⟨.builtin .min, #[u, v], ts⟩, ty, pos, af, none⟩ env σ K := by
 refine Zdu (vs := [.raw (.int k a), .raw (.int k' b)]) rfl (by simp [Op.operands, Call.operands, hx, hy]) (fun _ _ h => .inl h) (fun ρ hρ w _ _ => ?_) h
 simp [Op.operands, Call.operands] at hρ
 simp [execOp, resolve, invoke, builtin, Builtin.min_, hρ, Builtin.min2]
variable {dr : Bool} {c c1 c2 c3 : Code} {Q : Zdn} {id : Nat} {l : List Oper}
theorem ZjE (n m : Env -> St -> Prop) (Q : Zdn) : Zfk n (Zfk m Q) = Zfk n Q := by
 funext e; cases e <;> rfl
theorem Zab (h : ZaA P O (.seq c1 (.seq c2 c3)) Q env σ) : ZaA P O (.seq (.seq c1 c2) c3) Q env σ := by
 show ZaA P O c1 (Zfk (ZaA P O c2 (Zfk (ZaA P O c3 Q) Q)) (Zfk (ZaA P O c3 Q) Q)) env σ
 rw [ZjE]
 exact h
theorem Zaa (h : Zbz P l.toArray l env σ (ZaA P O c Q)) : ZaA P O (.seq (.region id l.toArray false) c) Q env σ := fun _ => .inl (.inl h)
theorem Zad (h : Zbz P l.toArray l env σ (Q .normal)) : ZaA P O (.region id l.toArray false) Q env σ := fun _ => .inl (.inl h)
theorem Zbt (h : ZhD P l.toArray env σ (ZaA P O c Q)) : ZaA P O (.seq (.region id l.toArray true) c) Q env σ := fun _ => .inl h
theorem Zda (h : ZhD P l.toArray env σ (Q .normal)) : ZaA P O (.region id l.toArray true) Q env σ := fun _ => .inl h
theorem ZaL (h : ZaA P O c Q env σ) : ZaA P O (.seq .skip c) Q env σ := h
theorem Zbm (h : Q .normal env σ) : ZaA P O .skip Q env σ := h
theorem ZbB (h : Q .ret env σ) : ZaA P O (.seq .ret c) Q env σ := h
theorem Zap (h : Q .ret env σ) : ZaA P O .ret Q env σ := h
theorem Zbu (h : Q (.exit id) env σ) : ZaA P O (.seq (.exit id) c) Q env σ := h
theorem ZaC {t : Bool} (hc : ev env x = .raw (.bool t)) (h1 : t = true -> ZaA P O (.seq c1 c) Q env σ) (h2 : t = false -> ZaA P O (.seq c2 c) Q env σ) : ZaA P O (.seq (.cond x c1 c2) c) Q env σ :=
 ⟨t, by rw [hc]; simp, h1, h2⟩
theorem ZaQ {t : Bool} (hc : ev env x = .raw (.bool t)) (h1 : t = true -> ZaA P O c1 Q env σ) (h2 : t = false -> ZaA P O c2 Q env σ) : ZaA P O (.cond x c1 c2) Q env σ :=
 ⟨t, by rw [hc]; simp, h1, h2⟩
theorem ZaF (h : ZaA P O c1 (Zfl id (Zfk (ZaA P O c Q) Q)) env σ) : ZaA P O (.seq (.block id c1) c) Q env σ := h
theorem Zct (h : ZaA P O c1 (Zfl id Q) env σ) : ZaA P O (.block id c1) Q env σ := h
theorem Za4 (I : Nat -> Env -> St -> Prop) (h : ∃ n, I n env σ) (hr : ∀ n env σ, I n env σ -> ZaA P O c (Zfk (fun env' σ' => ∃ n', n' < n /\ I n' env' σ') Q) env σ) : ZaA P O (.loop c) Q env σ := h.elim fun n h => ⟨I, n, h, hr⟩
theorem Zac {o : Oper} {l' : List Oper} (h : aOp P ops o env σ fun env' σ' => Zbz P ops l' env' σ' K) : Zbz P ops (o :: l') env σ K := .inl h
theorem Zaf (h : K env σ) : Zbz P ops [] env σ K := h
end
@[simp] theorem AV.cells_agg (l : List AV) : (AV.agg l).cells = l := rfl
@[simp] theorem AV.cells_lst (A : Option Addr) (n c : Nat) (l : List AV) : (AV.lst A n c l).cells = [.lst A n c l] := rfl
@[simp] theorem AV.cells_int (k : IntKind) (n : Int) : (AV.raw (.int k n)).cells = [.raw (.int k n)] := rfl
@[simp] theorem AV.cells_bool (x : Bool) : (AV.raw (.bool x)).cells = [.raw (.bool x)] := rfl
@[simp] theorem AV.cells_string (x : ByteArray) : (AV.raw (.string x)).cells = [.raw (.string x)] := rfl
@[simp] theorem AV.cells_pointer (x : Option Addr) : (AV.raw (.pointer x)).cells = [.raw (.pointer x)] := rfl
@[simp] theorem ZqH (l : List AV) : Zbh (AV.agg l) = true := rfl
@[simp] theorem ZqI (A : Option Addr) (n c : Nat) (l : List AV) : Zbh (AV.lst A n c l) = true := rfl
@[simp] theorem ZqJ (v : Value) : Zbh (AV.raw v) = true := rfl
@[simp] theorem Zsf (k : IntKind) (n : Int) : (AV.raw (.int k n)).one = true := rfl
@[simp] theorem ZrS (x : Bool) : (AV.raw (.bool x)).one = true := rfl
@[simp] theorem ZqK (x : ByteArray) : (AV.raw (.string x)).one = true := rfl
@[simp] theorem Zpy (x : Option Addr) : (AV.raw (.pointer x)).one = true := rfl
@[simp] theorem Zsg (A : Option Addr) (n c : Nat) (l : List AV) : (AV.lst A n c l).one = true := rfl
def vI (x : Int) : AV := .raw (.int .i64 x)
def vU (x : UInt8) : AV := .raw (.int .u8 (x.toNat : Int))
def vK (x : Int) : AV := .raw (.int .u8 x)
def vT (x : Bool) : AV := .raw (.bool x)
@[simp] theorem ZrT (x : Int) : (vI x).cells = [vI x] := rfl
@[simp] theorem ZrU (x : UInt8) : (vU x).cells = [vU x] := rfl
@[simp] theorem ZrV (x : Int) : (vK x).cells = [vK x] := rfl
@[simp] theorem ZrW (x : Bool) : (vT x).cells = [vT x] := rfl
@[simp] theorem Zq3 (x : Int) : Zbh (vI x) = true := rfl
@[simp] theorem Zq4 (x : UInt8) : Zbh (vU x) = true := rfl
@[simp] theorem Zq5 (x : Int) : Zbh (vK x) = true := rfl
@[simp] theorem Zq6 (x : Bool) : Zbh (vT x) = true := rfl
@[simp] theorem ZsQ (x : Int) : (vI x).one = true := rfl
@[simp] theorem ZsR (x : UInt8) : (vU x).one = true := rfl
@[simp] theorem ZsS (x : Int) : (vK x).one = true := rfl
@[simp] theorem ZsT (x : Bool) : (vT x).one = true := rfl
@[simp] theorem ZsU (x : Int) : (vI x).val = .int .i64 x := rfl
@[simp] theorem ZsV (x : UInt8) : (vU x).val = .int .u8 (x.toNat : Int) := rfl
@[simp] theorem ZsW (x : Int) : (vK x).val = .int .u8 x := rfl
@[simp] theorem ZsX (x : Bool) : (vT x).val = .bool x := rfl
theorem EV : (∀ (env : Env) t, ev env (.tmp t) = env t) /\ (∀ (env : Env) v, ev env (.const v) = .ofV v) /\ (∀ (env : Env) d v i, env.put (some d) v i = if i = d then v else env i) /\ (∀ (env : Env) v, env.put none v = env) /\ (∀ k n, AV.ofV (.int k n) = .raw (.int k n)) /\ (∀ x, AV.ofV (.bool x) = .raw (.bool x)) /\ (∀ x, AV.ofV (.string x) = .raw (.string x)) /\ (∀ x, AV.ofV (.pointer x) = .raw (.pointer x)) /\ AV.ofV (.slice none 0 0) = .lst none 0 0 [] /\ (∀ x, AV.ofV (.agg x) = .agg (x.toList.map AV.ofV1)) :=
 ⟨fun _ _ => rfl, fun _ _ => rfl, fun _ _ _ _ => rfl, fun _ _ => rfl, fun _ _ => rfl, fun _ => rfl, fun _ => rfl, fun _ => rfl, rfl, fun _ => rfl⟩
structure Ext (σ τ : St) : Prop where
 keep : ∀ b k, σ.blk b = some k -> τ.blk b = some k
 used : ∀ b, σ.used b -> τ.used b
theorem Ext.refl (σ : St) : Ext σ σ := ⟨fun _ _ h => h, fun _ h => h⟩
theorem Ext.trans {σ τ υ : St} (h : Ext σ τ) (k : Ext τ υ) : Ext σ υ := ⟨fun b x hx => k.keep _ _ (h.keep _ _ hx), fun b hx => k.used _ (h.used _ hx)⟩
theorem Ext.noneOf {σ τ : St} (h : Ext σ τ) {b : Nat} (hb : τ.blk b = none) : σ.blk b = none := by
 cases hx : σ.blk b with
 | none => rfl
 | some k => rw [h.keep _ _ hx] at hb; cases hb
theorem Ext.unused {σ τ : St} (h : Ext σ τ) {b : Nat} (hb : ¬ τ.used b) : ¬ σ.used b := fun hx => hb (h.used _ hx)
theorem Ext.put {σ : St} {b : Nat} (k : Bk) (hb : σ.blk b = none) : Ext σ (σ.put b k) :=
 ⟨fun x y hx => by rw [ZaX _ _ (fun e => by rw [e, hb] at hx; cases hx)]; exact hx, fun x hx => .inl hx⟩
structure But (S : Nat -> Prop) (σ τ : St) : Prop where
 keep : ∀ c k, ¬ S c -> σ.blk c = some k -> τ.blk c = some k
 used : ∀ c, σ.used c -> τ.used c
theorem But.ext {S : Nat -> Prop} {σ τ υ : St} (h : Ext σ τ) (hS : ∀ b, S b -> σ.blk b = none) (k : But S τ υ) : Ext σ υ :=
 ⟨fun c x hx => k.keep _ _ (fun hc => by rw [hS c hc] at hx; cases hx) (h.keep _ _ hx), fun c hx => k.used _ (h.used _ hx)⟩
theorem But.refl (S : Nat -> Prop) (σ : St) : But S σ σ := ⟨fun _ _ _ h => h, fun _ h => h⟩
theorem But.trans {S : Nat -> Prop} {σ τ υ : St} (h : But S σ τ) (k : But S τ υ) : But S σ υ := ⟨fun c x hc hx => k.keep _ _ hc (h.keep _ _ hc hx), fun c hx => k.used _ (h.used _ hx)⟩
theorem Ext.but {S : Nat -> Prop} {σ τ : St} (h : Ext σ τ) : But S σ τ := ⟨fun c x _ hx => h.keep _ _ hx, h.used⟩
theorem But.noneOfB {S : Nat -> Prop} {σ τ : St} (h : But S σ τ) (hS : ∀ b, S b -> σ.used b) {b : Nat} (hu : ¬ τ.used b) (hb : τ.blk b = none) : σ.blk b = none := by
 cases hx : σ.blk b with
 | none => rfl
 | some k =>
  by_cases hs : S b
  ·exact absurd (h.used _ (hS b hs)) hu
  ·rw [h.keep _ _ hs hx] at hb; cases hb
theorem But.ext2 {S T : Nat -> Prop} {σ τ υ : St} (h : But S σ τ) (hS : ∀ b, T b -> S b \/ σ.blk b = none) (k : But T τ υ) : But S σ υ := by
 refine ⟨fun c x hc hx => k.keep _ _ (fun e => ?_) (h.keep _ _ hc hx), fun c hx => k.used _ (h.used _ hx)⟩
 rcases hS c e with h1 | h1
 ·exact hc h1
 ·rw [h1] at hx; cases hx
section
variable {P : Program} {O : Nat -> Prop} {ops : Array Oper} {env : Env} {σ : St} {K : Env -> St -> Prop} {d : Option Nat} {ty ty' t : TypeId} {pos : String} {af : Array Edge} {x y z : Operand}
theorem Zbn {e : TypeId} {v : AV} {cs : List AV} (hx : ev env x = v) (hc : v.cells = cs) (h : ∀ b τ, σ.blk b = none -> ¬ σ.used b -> τ.blk b = some (.own e cs) -> τ.used b -> Ext σ τ -> K (env.put d (ptr b 0)) τ) : aOp P ops ⟨d, .box e x, ty, pos, af, none⟩ env σ K :=
 Zsb hx fun b hu hb => h b _ hb hu (by rw [Zbo, hc]) (.inr rfl) (Ext.put _ hb)
theorem ZaH {e : TypeId} {v : Value} {cs : List AV} (hz : Zba P e = some v) (hc : (AV.ofV v).cells = cs) (h : ∀ b τ, σ.blk b = none -> ¬ σ.used b -> τ.blk b = some (.own e cs) -> τ.used b -> Ext σ τ -> K (env.put d (ptr b 0)) τ) : aOp P ops ⟨d, .alloc e, ty, pos, af, none⟩ env σ K :=
 Zpv hz fun b hu hb => h b _ hb hu (by rw [Zbo, hc]) (.inr rfl) (Ext.put _ hb)
theorem Zah {b o n : Nat} {T : TypeId} {cs : List AV} {g : Bool} {r : AV} (hx : ev env x = ptr b o) (hb : σ.blk b = some (.own T cs)) (ha : ZdB P t = some g) (hn : ZaU P t = some n) (hr : Zbi (some g) (some n) cs o = some r) (h : K (env.put d r) σ) : aOp P ops ⟨d, .load t x, ty, pos, af, none⟩ env σ K :=
 ZbV hx (by unfold ZbU ptr; dsimp only; rw [hb]; dsimp only; rw [ha, hn]; exact hr) h
theorem Zki {n : Nat} {ad : Addr} {cells : List AV} {g : Bool} {r : AV} (hx : ev env x = .eptr ad cells) (ha : ZdB P t = some g) (hn : ZaU P t = some n) (hr : Zbi (some g) (some n) cells 0 = some r) (h : K (env.put d r) σ) : aOp P ops ⟨d, .load t x, ty, pos, af, none⟩ env σ K :=
 ZbV hx (by unfold ZbU; dsimp only; rw [ha, hn]; exact hr) h
theorem ZaB {b o n : Nat} {T : TypeId} {cs cs' : List AV} {u : AV} (hx : ev env x = ptr b o) (hy : ev env y = u) (hb : σ.blk b = some (.own T cs)) (hn : ZaU P t = some n)
 (hc : (Zbh u && u.cells.length == n && u.cells.all AV.one && decide (o + n <= cs.length)) = true) (hs : ZaR cs o u.cells = cs')
 (h : ∀ τ, τ.blk b = some (.own T cs') -> But (fun c => c = b) σ τ -> K (env.put d (.raw undef)) τ) : aOp P ops ⟨d, .store t x y, ty, pos, af, none⟩ env σ K := by
 refine Zpw (σ' := σ.set b (.own T cs')) hx hy ?_ (h _ ?_ ⟨fun c k hc hk => ?_, fun c hc => hc⟩)
 ·unfold ZgE Zfh ptr
  dsimp only
  rw [hb, hn]
  dsimp only
  rw [if_pos hc, hs]
 ·show (if b = b then _ else σ.blk b) = _
  rw [if_pos rfl]
 ·show (if c = b then _ else σ.blk c) = _
  rw [if_neg hc]
  exact hk
variable {c : Code} {Q : Zdn}
theorem Ze1 {fn : Func} {t : Nat} {v : AV} (h : fn.results.toList = [.tmp t]) (hv : env t = v) : ZaM P fn env σ v := by
 unfold ZaM
 rw [h]
 simp [ZbY, hv]
theorem Zcu {fn : Func} (h : fn.results.toList = []) : ZaM P fn env σ (.tup []) := by
 unfold ZaM
 rw [h]
 exact ⟨[], rfl, rfl⟩
theorem ZaJ {s t : Nat} {b o n : Nat} {T : TypeId} {cs : List AV} {g : Bool} {r : AV} (hx : env s = ptr b o) (hb : σ.blk b = some (.own T cs)) (ha : ZdB P t = some g) (hn : ZaU P t = some n) (hr : Zbi (some g) (some n) cs o = some r) : ZbY P env σ (.cell s t) = some r := by
 unfold ZbY
 dsimp only
 rw [hx]
 unfold ZbU ptr
 dsimp only
 rw [hb]
 dsimp only
 rw [ha, hn]
 exact hr
theorem ZdE {fn : Func} {x : ResultVar} {v : AV} (h : fn.results.toList = [x]) (hv : ZbY P env σ x = some v) : ZaM P fn env σ v := by
 unfold ZaM
 rw [h]
 exact hv
theorem Zbd {fn : Func} {x y : ResultVar} {v u : AV} (h : fn.results.toList = [x, y]) (hv : ZbY P env σ x = some v) (hu : ZbY P env σ y = some u) : ZaM P fn env σ (.tup [v, u]) := by
 unfold ZaM
 rw [h]
 exact ⟨[v, u], by simp [List.mapM_cons, hv, hu], rfl⟩
theorem Zbf (i0 : Nat) {v0 : AV} (h0 : env i0 = v0) (h : ∀ e : Env, e i0 = v0 -> ZaA P O c Q e σ) : ZaA P O c Q env σ := h _ h0
theorem ZbL (i0 i1 : Nat) {v0 v1 : AV} (h0 : env i0 = v0) (h1 : env i1 = v1) (h : ∀ e : Env, e i0 = v0 /\ e i1 = v1 -> ZaA P O c Q e σ) : ZaA P O c Q env σ := h _ ⟨h0, h1⟩
theorem Zhx (i0 i1 i2 : Nat) {v0 v1 v2 : AV} (h0 : env i0 = v0) (h1 : env i1 = v1) (h2 : env i2 = v2) (h : ∀ e : Env, e i0 = v0 /\ e i1 = v1 /\ e i2 = v2 -> ZaA P O c Q e σ) : ZaA P O c Q env σ := h _ ⟨h0, h1, h2⟩
theorem ZnG (i0 i1 i2 i3 : Nat) {v0 v1 v2 v3 : AV} (h0 : env i0 = v0) (h1 : env i1 = v1) (h2 : env i2 = v2) (h3 : env i3 = v3) (h : ∀ e : Env, e i0 = v0 /\ e i1 = v1 /\ e i2 = v2 /\ e i3 = v3 -> ZaA P O c Q e σ) : ZaA P O c Q env σ := h _ ⟨h0, h1, h2, h3⟩
theorem ZaO {t : Nat} {v : AV} (hv : env t = v) : ZbY P env σ (.tmp t) = some v := congrArg some hv
theorem Zkj {fn : Func} {x y : ResultVar} {v u : AV} {R : AV -> Prop} (h : fn.results.toList = [x, y]) (hv : ZbY P env σ x = some v) (hu : ZbY P env σ y = some u) (hR : R (.tup [v, u])) : ∃ r, ZaM P fn env σ r /\ R r := ⟨_, Zbd h hv hu, hR⟩
end
def Zdv (P : Program) (t : TypeId) : Option Nat := (P.info? t).map (·.bytes)
def AV.blk : AV -> Option Nat
 | .lst (some ad) _ _ _ => some ad.block
 | _ => none
def Own (σ : St) (e sz : Nat) (v : AV) (n : Nat) (cells : List AV) : Prop := cells.length = n * sz /\ ((v = .lst none 0 0 [] /\ n = 0) \/ ∃ g c, v = .lst (some ⟨g, 0, none⟩) n c cells /\ n <= c /\ c <= maxLen /\ σ.blk g = some (.tail e (n * sz) (c * sz)) /\ σ.used g)
section
variable {P : Program} {w : World} {σ : St} {Z : Nat -> Prop}
theorem ZaG.drew_ (h : ZaG w σ Z) : ZaG w.drew σ Z := by
 have hv : ∀ {c : AV}, Zar w (σ.free Z) c -> Zar w.drew (σ.free Z) c := fun hc => Zar.keep (w := w) (w' := w.drew) (B := σ.free Z) (B' := σ.free Z) (fun ad v h1 h2 => ⟨h1, h2⟩) (fun _ _ _ h1 h2 => ⟨h1, h2⟩) _ hc
 refine ⟨h.used, h.z, fun b t cs hb => ?_, h.tail, h.map⟩
 obtain ⟨h1, h2, h3⟩ := h.own b t cs hb
 exact ⟨h1, h2, fun c hc => hv (h3 c hc)⟩
theorem Grow.drew_ (w : World) (σ : St) : Grow w σ w.drew σ := ⟨rfl, rfl, rfl, Nat.le_refl _, fun _ _ h => h, fun _ _ h => ⟨rfl, h⟩, fun b t k s _ h => ⟨fun _ _ _ h => h, .inr ⟨t, k, s, h, Nat.le_refl _⟩⟩, fun _ h => h⟩
end
section
variable {P : Program} {ops : Array Oper} {env : Env} {σ : St} {K : Env -> St -> Prop} {d : Option Nat} {ty t e : TypeId} {pos : String} {af : Array Edge} {x y : Operand}
end
mutual
def Is : D -> AV -> Prop
 | .i k n, v => v = .raw (.int k n)
 | .b x, v => v = .raw (.bool x)
 | .s l, v => v = .raw (.string ⟨l.toArray⟩)
 | .l sz ds, v => ∃ A n c cells, v = .lst A n c cells /\ ds.length = n * sz /\ n <= c /\ c <= maxLen /\ n <= 140737488355328 /\ (A = none -> n = 0 /\ c = 0) /\ Zh8 ds cells
def Zh8 : List D -> List AV -> Prop
 | [], _ => True
 | d :: ds, v :: vs => Is d v /\ Zh8 ds vs
 | _ :: _, [] => False
end
@[simp] theorem Zq7 (vs : List AV) : Zh8 [] vs := by unfold Zh8; trivial
@[simp] theorem ZqL (d : D) (ds : List D) (v : AV) (vs : List AV) : Zh8 (d :: ds) (v :: vs) ↔ Is d v /\ Zh8 ds vs := by conv => lhs; unfold Zh8
@[simp] theorem ZqM (d : D) (ds : List D) : ¬ Zh8 (d :: ds) [] := by unfold Zh8; exact id
structure Lst (A : Option Addr) (n c : Nat) : Prop where
 le : n <= c
 most : c <= maxLen
 small : n <= 140737488355328
 none : A = none -> n = 0 /\ c = 0
def New (σ0 τ : St) (e : TypeId) (sz : Nat) (v : AV) (n : Nat) (cells : List AV) : Prop := Own τ e sz v n cells /\ ∀ g, v.blk = some g -> σ0.blk g = none /\ ¬ σ0.used g
theorem Own.but {S : Nat -> Prop} {σ τ : St} {e : TypeId} {sz n : Nat} {v : AV} {cells : List AV} (h : Own σ e sz v n cells) (hX : But S σ τ) (hS : ∀ g, v.blk = some g -> ¬ S g) : Own τ e sz v n cells := by
 refine ⟨h.1, h.2.imp id ?_⟩
 rintro ⟨g, c, rfl, h2, h3, h4, h5⟩
 exact ⟨g, c, rfl, h2, h3, hX.keep _ _ (hS g rfl) h4, hX.used _ h5⟩
theorem Own.ext {σ τ : St} {e : TypeId} {sz n : Nat} {v : AV} {cells : List AV} (h : Own σ e sz v n cells) (hX : Ext σ τ) : Own τ e sz v n cells := h.but (S := fun _ => False) hX.but fun _ _ => id
section
variable {P : Program} {ops : Array Oper} {env : Env} {σ : St} {K : Env -> St -> Prop} {d : Option Nat} {ty ty' t e : TypeId} {pos : String} {af : Array Edge} {x y z : Operand}
theorem Zfm {sz n c j : Nat} {A : Option Addr} {cells cs : List AV} {k : IntKind} (hx : ev env x = .lst A n c cells) (hy : ev env y = .raw (.int k j)) (ht : ZaW P t = some e) (hs : ZaU P e = some sz) (hj : j < n) (hA : A = none -> n = 0) (hd : cells.drop (j * sz) = cs) (h : ∀ ad : Addr, K (env.put d (.eptr ad cs)) σ) : aOp P ops ⟨d, .indexAddr t x y, ty, pos, af, none⟩ env σ K := by
 subst hd
 cases A with
 | none => have := hA rfl; omega
 | some ad => exact Zpx hx hy ht hs hj (h _)
theorem Zq8 {n : Nat} {parts : Array (Nat × Operand)} {sz : Nat} {v : Value} {vs cells : List AV} (hv : parts.toList.map (fun p => ev env p.2) = vs) (ht : ZaW P t = some e) (hs : ZaU P e = some sz) (hz : Zba P e = some v) (hzs : v.cells.size = sz) (hn : n <= 100000 /\ n * sz <= 1000000)
 (hf : Zcz (fun i => some (i * sz, sz)) ((List.range (n * sz)).map fun i => .ofV (v.cells[i % sz]!)) ((parts.toList.map (·.1)).zip vs) = some cells) (hc : cells.length = n * sz)
 (h : ∀ b τ, New σ τ e sz (.lst (some ⟨b, 0, none⟩) n n cells) n cells -> Ext σ τ -> K (env.put d (.lst (some ⟨b, 0, none⟩) n n cells)) τ) : aOp P ops ⟨d, .buildSlice t n parts, ty, pos, af, none⟩ env σ K :=
 ZaN hv ht hs hz hzs (by omega) hf fun b hu hb => h b _ ⟨⟨hc, .inr ⟨b, n, rfl, Nat.le_refl _, (by simp only [maxLen]; omega), Zbo _ _ _, .inr rfl⟩⟩, fun g hg => by
  injection hg with hg
  change b = g at hg
  subst hg
  exact ⟨hb, hu⟩⟩ (Ext.put _ hb)
theorem Zpz {A : Option Addr} {n c l u : Nat} {cells cs : List AV} {sz : Nat} {lo hi : Option Operand} {ix : List AV} (hx : ev env x = .lst A n c cells) (hix : (lo.toList ++ hi.toList).map (ev env) = ix) (ht : ZaW P t = some e) (hs : ZaU P e = some sz) (he : Zcs n c lo.isSome hi.isSome false ix l u c) (hlu : l <= u) (huc : u <= c) (hd : (if c = l then [] else cells.drop (l * sz)) = cs) (h : ∀ A', A' = (if c = l then A else A.map (·.add (l * sz))) -> K (env.put d (.lst A' (u - l) (c - l) cs)) σ) : aOp P ops ⟨d, .slice t x lo hi none, ty, pos, af, none⟩ env σ K := by
 rw [ZaT rfl]
 have : (Op.slice t x lo hi none).operands.toList.map (ev env) = .lst A n c cells :: ix := by
  rw [<- hix, <- hx]
  cases lo <;> cases hi <;> simp [Op.operands]
 rw [this]
 subst hd
 exact ⟨e, sz, ht, hs, l, u, c, he, hlu, huc, Nat.le_refl _, h _ rfl⟩
theorem Zsh {n c l : Nat} {k : IntKind} {a : Int} (ha : a = (l : Int)) : Zcs n c true false false [.raw (.int k a)] l n c := ⟨⟨k, by rw [ha]; simp⟩, rfl, rfl⟩
theorem ZlZ {n c u : Nat} {k : IntKind} {a : Int} (ha : a = (u : Int)) : Zcs n c false true false [.raw (.int k a)] 0 u c := ⟨rfl, ⟨k, by rw [ha]; simp⟩, rfl⟩
theorem ZbF {k k' : IntKind} {q : IntKind} {a r : Int} (hs : P.underlying t = some (.int q)) (hd : P.underlying ty' = some (.int k')) (hx : ev env x = .raw (.int k a)) (hw : k'.wrap a = r) (h : K (env.put d (.raw (.int k' r))) σ) : aOp P ops ⟨d, .convert t ty' x, ty, pos, af, none⟩ env σ K :=
 Zq1 hx (fun w => by subst hw; simp [convert, run_underlying hs, run_underlying hd, Conv.intToInt]) h
theorem Zkk {as_ : Operand} {ts : Array TypeId} {t e : TypeId} {A : Option Addr} {n c : Nat} {v : AV} (hx : ev env as_ = v) (hv : v.val = .slice A n c) (hts : ts[0]? = some t) (ht : ZaW P t = some e) (h : K (env.put d (.raw (.int .i64 n))) σ) : aOp P ops ⟨d, .call ⟨.builtin .len, #[as_], ts⟩, ty, pos, af, none⟩ env σ K := by
 refine Zdu (vs := [v]) rfl (by simp [Op.operands, Call.operands, hx]) (fun _ _ h => .inl h) (fun ρ hρ w _ _ => ?_) h
 simp [Op.operands, Call.operands] at hρ
 simp [execOp, resolve, invoke, builtin, Builtin.len_, hρ, hv, hts, run_underlying (ZbO ht), goInt]
end
end Go.Proofs.YtiienjjhlibopaaGreatDoor
namespace Go.Proofs.YtiienjjhlibopaaGreatDoor
open Go.RowKit
set_option maxRecDepth 100000
set_option linter.unusedVariables false
inductive SK where
 | i (k : IntKind)
 | b
 | s
def Zl0 (g : TypeId -> Option (List SK)) (sz : TypeId -> Option Nat) : List Field -> Nat -> Option (List SK)
 | [], _ => some []
 | f :: fs, off => if f.name = "_" \/ f.offset ≠ off then none else match g f.type with
  | some ks => if sz f.type = some ks.length then (Zl0 g sz fs (off + ks.length)).map (ks ++ ·) else none
  | none => none
def Zo1 (P : Program) : Nat -> TypeId -> Option (List SK)
 | 0, _ => none
 | d + 1, t => match P.underlying t with
  | some .bool => some [.b]
  | some (.int q) => some [.i q]
  | some .string => some [.s]
  | some (.struct fs) => if P.stoodInHeld t then none else Zl0 (Zo1 P d) (ZaU P) fs.toList 0
  | _ => none
section
variable {P : Program} {w : World}
variable {ops : Array Oper} {env : Env} {σ : St} {K : Env -> St -> Prop} {d : Option Nat} {ty ty' t e : TypeId} {pos : String} {af : Array Edge} {x y z : Operand}
theorem Zdw {p : Option Addr} {v : AV} (hp : P.underlying t = some (.pointer (P.pointee t))) (hx : ev env x = v) (hv : v.val = .pointer p) (hy : ev env y = .raw (.pointer none)) (h : K (env.put d (.raw (.bool p.isNone))) σ) : aOp P ops ⟨d, .binOp .eql t x y ty', ty, pos, af, none⟩ env σ K :=
 ZcP hx hy (fun w _ _ => by simp [hv, eqGuard_at_pointer, run_eql_pointer_nil w t p hp]) h
theorem Zfn {p : Option Addr} {v : AV} (hp : P.underlying t = some (.pointer (P.pointee t))) (hx : ev env x = v) (hv : v.val = .pointer p) (hy : ev env y = .raw (.pointer none)) (h : K (env.put d (.raw (.bool (!p.isNone)))) σ) : aOp P ops ⟨d, .binOp .neq t x y ty', ty, pos, af, none⟩ env σ K :=
 ZcP hx hy (fun w _ _ => by simp [hv, eqGuard_at_pointer, run_neq_pointer_nil w t p hp]) h
end
theorem Zat {σ : St} {b c : Nat} {x : Bk} (h : σ.blk b = some x) (hn : σ.blk c = none) : c ≠ b := fun q => by rw [q, h] at hn; cases hn
theorem ZbR {σ : St} {b c : Nat} {x : Bk} (h : σ.blk b = some x) (hn : σ.blk c = none /\ ¬ σ.used c) : b ≠ c := fun q => by have := hn.1; rw [<- q, h] at this; cases this
end Go.Proofs.YtiienjjhlibopaaGreatDoor
