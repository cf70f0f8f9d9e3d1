/- Codes, functions. -/
import Derived.Test.YtnmimignbgdfgaaAvW
namespace Go.Proofs.Ytnmimignbgdfgaa
open Go.RowKit
set_option maxRecDepth 100000
set_option linter.unusedVariables false
abbrev APost := Exit → Env → St → Prop
def AThen (next : Env → St → Prop) (Q : APost) : APost
  | .normal, env, σ => next env σ
  | e, env, σ => Q e env σ
def AInBlock (id : Nat) (Q : APost) : APost
  | .exit id', env, σ => if id' = id then Q .normal env σ else Q (.exit id') env σ
  | e, env, σ => Q e env σ
def ANoGoto (Q : APost) : APost
  | .goto _, _, _ => False
  | e, env, σ => Q e env σ
def aCode (P : Program) (O : Nat → Prop) : Code → APost → Env → St → Prop
  | .skip, Q, env, σ => Q .normal env σ
  | .region _ ops draw, Q, env, σ => Ahead O env σ fun env σ => match draw with
    | false => aList P ops ops.toList env σ (Q .normal)
    | true => aDrawn P ops env σ (Q .normal)
  | .seq a b, Q, env, σ => aCode P O a (AThen (aCode P O b Q) Q) env σ
  | .cond c a b, Q, env, σ => ∃ t, (ev env c).val = .bool t ∧ (t = true → aCode P O a Q env σ) ∧ (t = false → aCode P O b Q env σ)
  | .block id c, Q, env, σ => aCode P O c (AInBlock id Q) env σ
  | .loop c, Q, env, σ => ∃ (I : Nat → Env → St → Prop) (n : Nat), I n env σ ∧ ∀ n env σ, I n env σ → aCode P O c (AThen (fun env' σ' => ∃ n', n' < n ∧ I n' env' σ') Q) env σ
  | .exit id, Q, env, σ => Q (.exit id) env σ
  | .scope c, Q, env, σ => aCode P O c (ANoGoto Q) env σ
  | .ret, Q, env, σ => Q .ret env σ
  | _, _, _, _ => False
def codeOk (nt : Nat) : Code → Bool
  | .region _ ops _ => dstOk nt ops.toList
  | .seq a b => codeOk nt a && codeOk nt b
  | .cond _ a b => codeOk nt a && codeOk nt b
  | .block _ c => codeOk nt c
  | .loop c => codeOk nt c
  | .scope c => codeOk nt c
  | _ => true
/-- The abstract post, in the model. -/
def Lift (nt : Nat) (O : Nat → Prop) (w0 : World) (σ0 : St) (Z : Nat → Prop) (Q : APost) : Exit → Act → World → Prop := fun e a w => ∃ env σ, Q e env σ ∧ AInv nt w σ Z env a ∧ GrowO O w0 σ0 w σ
section
variable {P : Program} {Z O : Nat → Prop} {nt : Nat}
theorem Lift.grow {w0 w1 : World} {σ0 σ1 : St} {Q : APost} (hG : GrowO O w0 σ0 w1 σ1) {e : Exit} {a : Act} {w : World} (h : Lift nt O w1 σ1 Z Q e a w) : Lift nt O w0 σ0 Z Q e a w := by
  obtain ⟨env, σ, h1, h2, h3⟩ := h
  exact ⟨env, σ, h1, h2, hG.trans h3⟩
theorem aCode_sound (hm : P.follows .mixedOrders = true) : ∀ (c : Code) (Q : APost) (env : Env) (σ : St) (a : Act) (w : World), codeOk nt c = true → AInv nt w σ Z env a → aCode P O c Q env σ → c.wp P (Lift nt O w σ Z Q) a w
  | .skip, Q, env, σ, a, w, _, hI, h => wp_skip ⟨env, σ, h, hI, GrowO.refl _ _⟩
  | .region id ops false, Q, env, σ, a, w, hok, hI, h => by
    obtain ⟨env1, σ1, h, hI, hG⟩ := Ahead.sound hI h
    refine wp_region_list (aList_sound (Z := Z) (nt := nt) hok ops.toList env1 σ1 a w (Q .normal) (fun _ h => h) hI h ?_)
    rintro a' w' ⟨env', σ', h1, h2, h3⟩
    exact ⟨env', σ', h1, h2, hG.trans h3.toO⟩
  | .region id ops true, Q, env, σ, a, w, hok, hI, h => by
    obtain ⟨env1, σ1, h, hI, hG⟩ := Ahead.sound hI h
    refine aDrawn_sound (K := Q .normal) hm hok hI h ?_
    rintro a' w' ⟨env', σ', h1, h2, h3⟩
    exact ⟨env', σ', h1, h2, hG.trans h3.toO⟩
  | .seq x y, Q, env, σ, a, w, hok, hI, h => by
    unfold codeOk at hok
    simp only [Bool.and_eq_true] at hok
    refine wp_seq (wp_mono (aCode_sound hm x _ env σ a w hok.1 hI h) ?_)
    rintro e a' w' ⟨env', σ', h1, h2, h3⟩
    cases e with
    | normal => exact wp_mono (aCode_sound hm y Q env' σ' a' w' hok.2 h2 h1) fun e a2 w2 h => h.grow h3
    | _ => exact ⟨env', σ', h1, h2, h3⟩
  | .cond c x y, Q, env, σ, a, w, hok, hI, h => by
    unfold codeOk at hok
    simp only [Bool.and_eq_true] at hok
    obtain ⟨t, h1, h2, h3⟩ := h
    have hc : a.eval c = .bool t := (hI.eval c).1.trans h1
    cases t with
    | true => exact wp_cond_true hc (aCode_sound hm x Q env σ a w hok.1 hI (h2 rfl))
    | false => exact wp_cond_false hc (aCode_sound hm y Q env σ a w hok.2 hI (h3 rfl))
  | .block id c, Q, env, σ, a, w, hok, hI, h => by
    unfold codeOk at hok
    refine wp_block (wp_mono (aCode_sound hm c _ env σ a w hok hI h) ?_)
    rintro e a' w' ⟨env', σ', h1, h2, h3⟩
    cases e with
    | exit id' =>
      unfold AInBlock at h1
      unfold Exit.inBlock
      dsimp only at h1 ⊢
      split
      · rename_i he; rw [if_pos he] at h1; exact ⟨env', σ', h1, h2, h3⟩
      · rename_i he; rw [if_neg he] at h1; exact ⟨env', σ', h1, h2, h3⟩
    | _ => exact ⟨env', σ', h1, h2, h3⟩
  | .loop c, Q, env, σ, a, w, hok, hI, h => by
    unfold codeOk at hok
    obtain ⟨I, n, h1, h2⟩ := h
    refine wp_loop_ghost (fun n a' w' => ∃ env' σ', I n env' σ' ∧ AInv nt w' σ' Z env' a' ∧ GrowO O w σ w' σ') n ⟨env, σ, h1, hI, GrowO.refl _ _⟩ ?_
    rintro m a1 w1 ⟨env1, σ1, hI1, hA1, hG1⟩
    refine wp_mono (aCode_sound hm c _ env1 σ1 a1 w1 hok hA1 (h2 m env1 σ1 hI1)) ?_
    rintro e a' w' ⟨env', σ', g1, g2, g3⟩
    cases e with
    | normal =>
      obtain ⟨n', hn', hI'⟩ := g1
      exact ⟨n', hn', env', σ', hI', g2, hG1.trans g3⟩
    | _ => exact ⟨env', σ', g1, g2, hG1.trans g3⟩
  | .exit id, Q, env, σ, a, w, _, hI, h => wp_exit ⟨env, σ, h, hI, GrowO.refl _ _⟩
  | .scope c, Q, env, σ, a, w, hok, hI, h => by
    unfold codeOk at hok
    refine wp_scope_straight (wp_mono (aCode_sound hm c _ env σ a w hok hI h) ?_)
    rintro e a' w' ⟨env', σ', h1, h2, h3⟩
    cases e with
    | goto l => exact h1.elim
    | _ => exact ⟨env', σ', h1, h2, h3⟩
  | .ret, Q, env, σ, a, w, _, hI, h => wp_ret ⟨env, σ, h, hI, GrowO.refl _ _⟩
/-- What a function hands back. -/
def aResult (P : Program) (env : Env) (σ : St) : ResultVar → Option AV
  | .tmp t => some (env t)
  | .cell a t => aLoad P t σ (env a)
def aResults (P : Program) (fn : Func) (env : Env) (σ : St) (r : AV) : Prop := match fn.results.toList with
  | [x] => aResult P env σ x = some r
  | l => ∃ rs, l.mapM (aResult P env σ) = some rs ∧ r = .tup rs
def aPost (P : Program) (fn : Func) (K : AV → St → Prop) : APost
  | .normal, env, σ | .ret, env, σ => ∃ r, aResults P fn env σ r ∧ K r σ
  | _, _, _ => False
def env0 (args : List AV) : Env := fun i => args.getD i (.raw undef)
theorem aLoad_ptr {w : World} {σ : St} {t : TypeId} {x r : AV} (h : aLoad P t σ x = some r) : ∃ ad, x.val = .pointer (some ad) := by
  unfold aLoad at h
  split at h
  · exact ⟨_, by simp; rfl⟩
  · exact ⟨_, by simp; rfl⟩
  · cases h
def resOf (tmps : Array Value) : ResultVar → Sem Value
  | .tmp t => pure (tmps.getD t undef)
  | .cell a t => do loadVar t (← asAddr (tmps.getD a undef))
theorem run_result {w : World} {σ : St} {env : Env} {a : Act} (hI : AInv nt w σ Z env a) (x : ResultVar) {r : AV} (h : aResult P env σ x = some r) :
    (resOf a.tmps x).run P w = .ok r.val w ∧ Valid w (σ.free Z) r := by
  cases x with
  | tmp t =>
    injection h with h
    subst h
    exact ⟨by simp [resOf, hI.val t], hI.valid t⟩
  | cell b t =>
    obtain ⟨h1, h2⟩ := aLoad_sound hI.heap (hI.valid b) h
    obtain ⟨ad, had⟩ := aLoad_ptr (w := w) h
    refine ⟨?_, h2⟩
    rw [had] at h1
    simp only [resOf, hI.val b, had, asAddr]
    simpa [Instr.loadAt, Instr.sureAddr] using h1
theorem run_results_list {w : World} {σ : St} {env : Env} {a : Act} (hI : AInv nt w σ Z env a) : ∀ (l : List ResultVar) (rs : List AV), l.mapM (aResult P env σ) = some rs →
    (l.mapM (resOf a.tmps)).run P w = .ok (rs.map AV.val) w ∧ ∀ r ∈ rs, Valid w (σ.free Z) r
  | [], rs, h => by simp at h; subst h; exact ⟨by simp, by simp⟩
  | x :: l, rs, h => by
    simp only [List.mapM_cons, Option.bind_eq_bind, Option.pure_def] at h
    cases hx : aResult P env σ x with
    | none => simp [hx] at h
    | some r =>
      cases hl : l.mapM (aResult P env σ) with
      | none => simp [hx, hl] at h
      | some rs' =>
        simp [hx, hl] at h
        subst h
        obtain ⟨h1, h2⟩ := run_result hI x hx
        obtain ⟨h3, h4⟩ := run_results_list hI l rs' hl
        refine ⟨?_, fun r' hr' => ?_⟩
        · rw [List.mapM_cons, Sem.run_bind, h1]
          simp only [Result.andThen_ok, Sem.run_bind]
          rw [h3]
          simp
        · rcases List.mem_cons.1 hr' with rfl | hr'
          · exact h2
          · exact h4 r' hr'
theorem run_results {w : World} {σ : St} {env : Env} {a : Act} {fn : Func} (hI : AInv nt w σ Z env a) {r : AV} (h : aResults P fn env σ r) : (results fn a.tmps).run P w = .ok r.val w ∧ Valid w (σ.free Z) r := by
  have key : ∃ rs, fn.results.toList.mapM (aResult P env σ) = some rs ∧ ((∃ x, rs = [x] ∧ r = x) ∨ (rs.length ≠ 1 ∧ r = .tup rs)) := by
    unfold aResults at h
    split at h
    · rename_i x hx
      rw [hx]
      exact ⟨[r], by simp [h], .inl ⟨r, rfl, rfl⟩⟩
    · rename_i l hne
      obtain ⟨rs, h1, h2⟩ := h
      refine ⟨rs, h1, .inr ⟨fun hl => ?_, h2⟩⟩
      have hlen : rs.length = fn.results.toList.length := by
        have : ∀ (l : List ResultVar) (rs : List AV), l.mapM (aResult P env σ) = some rs → rs.length = l.length := by
          intro l
          induction l with
          | nil => intro rs h; simp at h; subst h; rfl
          | cons x l ih =>
            intro rs h
            simp only [List.mapM_cons, Option.bind_eq_bind, Option.pure_def] at h
            cases hx : aResult P env σ x with
            | none => simp [hx] at h
            | some r =>
              cases hl : l.mapM (aResult P env σ) with
              | none => simp [hx, hl] at h
              | some rs' =>
                simp [hx, hl] at h
                subst h
                simp [ih rs' hl]
        exact this _ _ h1
      match hq : fn.results.toList with
      | [] => rw [hl, hq] at hlen; simp at hlen
      | [x] => exact hne x hq
      | x :: y :: l' => rw [hl, hq] at hlen; simp at hlen
  obtain ⟨rs, h1, h2⟩ := key
  obtain ⟨h3, h4⟩ := run_results_list hI _ rs h1
  have he : results fn a.tmps = (fn.results.mapM (resOf a.tmps) >>= fun vs => pure (if h : vs.size = 1 then vs[0] else .tuple vs)) := rfl
  rw [he, Sem.run_bind, Array.mapM_eq_mapM_toList, Sem.run_map, h3]
  rcases h2 with ⟨x, rfl, rfl⟩ | ⟨hn, rfl⟩
  · exact ⟨by simp, h4 _ (by simp)⟩
  · refine ⟨?_, by unfold Valid; exact Valids.iff.2 h4⟩
    simp [hn]
theorem callsA_of {f : FuncId} {fn : Func} {c : Code} {args : List AV} {σ : St} {K : AV → St → Prop} (hm : P.follows .mixedOrders = true) (hf : P.funcs[f]? = some fn) (hb : fn.body = some c) (hname : (fn.name != "runtime.NumGoroutine") = true) (hok : codeOk fn.ntmps c = true) (hn : args.length ≤ fn.ntmps)
    (h : aCode P σ.used c (aPost P fn K) (env0 args) σ) : CallsA P f args σ K := by
  refine ⟨by unfold callable; rw [hf]; simp [hb]; simpa using hname, fun w Z hH hV => ?_⟩
  refine calls_of_wp hf hb ?_
  have hI : AInv fn.ntmps w σ Z (env0 args) { tmps := (args.map AV.val).toArray ++ Array.replicate (fn.ntmps - (args.map AV.val).toArray.size) undef, defers := [] } := by
    refine ⟨hH, rfl, by simp; omega, fun i => ?_, fun i => ?_⟩
    · unfold env0
      simp only [List.getD_eq_getElem?_getD, Array.getD_eq_getD_getElem?, Array.getElem?_append, List.size_toArray, List.length_map]
      by_cases hi : i < args.length
      · simp [hi]
      · simp only [if_neg hi, List.getElem?_eq_none (Nat.le_of_not_lt hi), Option.getD_none, AV.val_raw]
        by_cases h2 : i - args.length < fn.ntmps - args.length
        · simp [h2]
        · simp [h2]
    · unfold env0
      rw [List.getD_eq_getElem?_getD]
      cases hi : args[i]? with
      | none => simp only [Option.getD_none]; unfold Valid; trivial
      | some x => exact hV x (List.mem_of_getElem? hi)
  refine wp_mono (aCode_sound hm c _ (env0 args) σ _ w hok hI h) ?_
  rintro e a' w' ⟨env', σ', h1, h2, h3⟩
  have h3 := h3.full hH
  have fin : (∃ r, aResults P fn env' σ' r ∧ K r σ') → (a'.defers = [] ∧ ∃ v, (results fn a'.tmps).run P w' = .ok v w' ∧ ∃ r σ'', Ending.returned v = .returned r.val ∧ K r σ'' ∧ HeapOk w' σ'' Z ∧ Valid w' (σ''.free Z) r ∧ Grow w σ w' σ'') := by
    rintro ⟨r, g1, g2⟩
    obtain ⟨g3, g4⟩ := run_results h2 g1
    exact ⟨h2.defers, _, g3, r, σ', rfl, g2, h2.heap, g4, h3⟩
  cases e with
  | normal => exact fin h1
  | ret => exact fin h1
  | _ => exact h1.elim
theorem HeapOk.known {w : World} {σ : St} {Z : Nat → Prop} (hH : HeapOk w σ Z) : (∀ b t cs, σ.blk b = some (.own t cs) → AV.BlksL σ.used cs) ∧ ∀ b k, σ.blk b = some k → σ.used b := by
  have hu : ∀ b o, σ.free Z b o → σ.used b := fun b o h => h.2.1
  refine ⟨fun b t cs hb => AV.BlksL_iff.2 fun c hc => Valid.blks hu _ ((hH.own _ _ _ hb).2.2 c hc), fun b k hb => ?_⟩
  cases k with
  | own t cs => exact (hH.own _ _ _ hb).1
  | tail t k s => exact (hH.tail _ _ _ _ hb).1
/-- Ahead of a call: its arguments reach only blocks that are there. -/
theorem CallsA.know {f : FuncId} {args : List AV} {σ : St} {K : AV → St → Prop} (hc : callable P f = true) (h : Known σ (env0 args) → CallsA P f args σ K) : CallsA P f args σ K := by
  refine ⟨hc, fun w Z hH hV => ?_⟩
  have hu : ∀ b o, σ.free Z b o → σ.used b := fun b o h => h.2.1
  refine (h ⟨fun i => ?_, hH.known.1, hH.known.2⟩).2 w Z hH hV
  unfold env0
  rw [List.getD_eq_getElem?_getD]
  cases hi : args[i]? with
  | none => simp
  | some x => exact Valid.blks hu _ (hV x (List.mem_of_getElem? hi))
/-- Behind a call: what it hands back reaches only blocks that are there; what was there is. -/
theorem CallsA.told {f : FuncId} {args : List AV} {σ : St} {K : AV → St → Prop} (h : CallsA P f args σ fun r τ => r.Blks τ.used → (∀ b, σ.used b → τ.used b) → K r τ) : CallsA P f args σ K := by
  refine ⟨h.1, fun w Z hH hV => (h.2 w Z hH hV).mono ?_⟩
  rintro e w' ⟨r, σ', rfl, hK, hH', hV', hG⟩
  exact ⟨r, σ', rfl, hK (Valid.blks (fun b o h => h.2.1) _ hV') hG.more, hH', hV', hG⟩
end
end Go.Proofs.Ytnmimignbgdfgaa
