/- Calls that write nothing: run by the executor, no number touched. -/
import Derived.Test.YtmffcfjdacoigaaGreatLe
import Derived.Test.YtmffcfjdacoigaaGreatHw
namespace Go.Proofs.YtmffcfjdacoigaaGreat
open Go.RowKit
set_option linter.unusedSimpArgs false
set_option maxRecDepth 100000
set_option linter.unusedVariables false
set_option linter.unusedSectionVars false
variable {T : Nat → Type} {A : Type}
section
variable (C : Codec T) (P : Program) (tou : Tou T) (orc : Orc T A)
def xlistR (ops : Array Oper) : List Oper → XE T → List (HI T) → (XE T → List (HI T) → Option A) → Option A
  | [], env, h, k => k env h
  | o :: l, env, h, k => xwant ops env o fun env w => cond w (forceL (o.op.operands.toList.map (xev env)) fun vs => cond (xtouch tou o.op vs h).isEmpty (xop C P orc o.op vs h fun r h => xlistR ops l (xput env o.dst r) h k) none) (xlistR ops l (xput env o.dst .undef) h k)
def xrunR (ops : Array Oper) : List Nat → XE T → List (HI T) → (XE T → List (HI T) → Option A) → Option A
  | [], env, h, k => k env h
  | i :: l, env, h, k => match ops[i]? with
    | some o => xwant ops env o fun env w => cond w (forceL (o.op.operands.toList.map (xev env)) fun vs => cond (xtouch tou o.op vs h).isEmpty (xop C P orc o.op vs h fun r h => xrunR ops l (xput env o.dst r) h k) none) (xrunR ops l (xput env o.dst .undef) h k)
    | none => none
variable (dr : Nat → Nat → DrA)
def xcodeR : Code → XE T → List (HI T) → XK T A → Option A
  | .skip, env, h, k => k .normal env h
  | .region id ops draw, env, h, k => match draw with
    | false => xlistR C P tou orc ops ops.toList env h (k .normal)
    | true => cond (drawOk P ops (dr id h.length).order ((dr id h.length).anc.getD · []) (dr id h.length).lf.contains (dr id h.length).cf.contains (fun _ => false)) (xrunR C P tou orc ops (dr id h.length).order env h (k .normal)) none
  | .seq a b, env, h, k => xcodeR a env h fun ex env h => match ex with
    | .normal => xcodeR b env h k
    | ex => k ex env h
  | .cond c a b, env, h, k => match xev env c with
    | .bool t => cond t (xcodeR a (xsub env c true) h k) (xcodeR b (xsub env c false) h k)
    | _ => none
  | .block id c, env, h, k => xcodeR c env h fun ex env h => match ex with
    | .exit id' => cond (Nat.beq id' id) (k .normal env h) (k (.exit id') env h)
    | ex => k ex env h
  | .exit id, env, h, k => k (.exit id) env h
  | .ret, env, h, k => k .ret env h
  | _, _, _, _ => none
def xfunR (fn : Func) (xs : List (XV T)) (h : List (HI T)) (k : XV T → List (HI T) → Option A) : Option A := match fn.body with
  | some c => xcodeR C P tou orc dr c (xenv0 0 xs) h fun ex env h => match ex with
    | .normal => xresults P env h fn.results.toList fun v => k v h
    | .ret => xresults P env h fn.results.toList fun v => k v h
    | _ => none
  | none => none
end
section
variable {C : Codec T} {P : Program} {tou : Tou T} {orc : Orc T A} {dr : Nat → Nat → DrA} {ops : Array Oper} {env env' : XE T} {h h' h'' : List (HI T)} {ρ ρ' ρ'' : Nat → AV} {e : Env} {σ τ υ : St} {z : A}
theorem Rel.transF (r1 : Rel (fun _ => False) ρ h σ ρ' h' τ) (r2 : Rel (fun _ => False) ρ' h' τ ρ'' h'' υ) : Rel (fun _ => False) ρ h σ ρ'' h'' υ := by
  refine ⟨Nat.le_trans r1.len r2.len, fun i hi => (r2.ext i (Nat.lt_of_lt_of_le hi r1.len)).trans (r1.ext i hi), ⟨fun c k _ hk => r2.but.keep c k (fun ⟨_, _, hF, _⟩ => hF) (r1.but.keep c k (fun ⟨_, _, hF, _⟩ => hF) hk), fun c hc => r2.but.used _ (r1.but.used _ hc)⟩, fun b hb => ?_⟩
  rcases r2.born b hb with hb | ⟨h1, h2⟩
  · exact r1.born b hb
  · refine .inr ⟨?_, fun hu => h2 (r1.but.used _ hu)⟩
    cases hs : σ.blk b with
    | none => rfl
    | some k =>
      have := r1.but.keep b k (fun ⟨_, _, hF, _⟩ => hF) hs
      rw [h1] at this; cases this
theorem Rel.extF (r : Rel (fun _ => False) ρ h σ ρ' h' τ) : Ext σ τ := ⟨fun b k hk => r.but.keep b k (fun ⟨_, _, hF, _⟩ => hF) hk, r.but.used⟩
theorem xlistR_sound (hO : orc.Ok C P tou) : ∀ (l : List Oper) (env : XE T) (h : List (HI T)) (k : XE T → List (HI T) → Option A), xlistR C P tou orc ops l env h k = some z →
    ∃ env' h', k env' h' = some z ∧ ∀ ρ e σ, Sat C ρ env h e σ → ∀ K : Env → St → Prop, (∀ ρ' e' σ', Sat C ρ' env' h' e' σ' → Rel (fun _ => False) ρ h σ ρ' h' σ' → K e' σ') → aList P ops l e σ K
  | [], env, h, k, hk => ⟨env, h, hk, fun ρ e σ hs K hK => hK ρ e σ hs (.refl _ _ _ _)⟩
  | o :: l, env, h, k, hk => by
    unfold xlistR at hk
    obtain ⟨env1, w, hk, h1⟩ := xwant_sound (C := C) hk
    cases w
    · obtain ⟨env', h', h2, h3⟩ := xlistR_sound hO l _ _ _ hk
      refine ⟨env', h', h2, fun ρ e σ hs K hK => ?_⟩
      obtain ⟨hs1, hw⟩ := h1 ρ h e σ hs
      unfold aList
      refine .inl ?_
      unfold aOp
      rw [if_neg (by rw [hw]; exact Bool.false_ne_true)]
      exact h3 ρ _ σ (hs1.put (.refl (fun _ => True) _ _ _) hs1.hp (sv_undef.2 rfl)) K hK
    · change forceL _ _ = some z at hk
      rw [forceL_eq] at hk
      obtain ⟨d, op, ty, pos, af, g⟩ := o
      dsimp only at hk
      cases ht : (xtouch tou op (op.operands.toList.map (xev env1)) h).isEmpty
      · rw [ht] at hk; cases hk
      rw [ht, cond_true] at hk
      have hnil := List.isEmpty_iff.1 ht
      obtain ⟨r, h', h2, h3⟩ := xop_sound (d := d) (ty := ty) (pos := pos) (af := af) (g := g) (U := fun _ => False) hO (fun i hi => by rw [hnil] at hi; cases hi) (by simp) hk
      obtain ⟨env', h'', h4, h5⟩ := xlistR_sound hO l _ _ _ h2
      refine ⟨env', h'', h4, fun ρ e σ hs K hK => ?_⟩
      obtain ⟨hs1, hw⟩ := h1 ρ h e σ hs
      unfold aList
      refine .inl ?_
      unfold aOp
      rw [if_pos hw]
      refine aVal_mono ?_ (h3 ρ σ _ (xevs_sv hs1.env _) hs1.hp)
      rintro rv τ ⟨ρ', g1, g2, g3⟩
      exact h5 ρ' _ τ (hs1.put g3 g2 g1) K fun ρ'' e' σ' g4 g5 => hK ρ'' e' σ' g4 (g3.transF g5)
theorem xrunR_sound (hO : orc.Ok C P tou) {lf cf : Nat → Bool} : ∀ (l : List Nat) (env : XE T) (h : List (HI T)) (k : XE T → List (HI T) → Option A), xrunR C P tou orc ops l env h k = some z →
    ∃ env' h', k env' h' = some z ∧ ∀ ρ e σ, Sat C ρ env h e σ → ∀ K : Env → St → Prop, (∀ ρ' e' σ', Sat C ρ' env' h' e' σ' → Rel (fun _ => False) ρ h σ ρ' h' σ' → K e' σ') → aRunD P ops (fun _ => True) lf cf (fun _ => false) l e σ K
  | [], env, h, k, hk => ⟨env, h, hk, fun ρ e σ hs K hK => hK ρ e σ hs (.refl _ _ _ _)⟩
  | i :: l, env, h, k, hk => by
    unfold xrunR at hk
    split at hk
    · rename_i o hi
      obtain ⟨env1, w, hk, h1⟩ := xwant_sound (C := C) hk
      cases w
      · obtain ⟨env', h', h2, h3⟩ := xrunR_sound hO (lf := lf) (cf := cf) l _ _ _ hk
        refine ⟨env', h', h2, fun ρ e σ hs K hK => ?_⟩
        obtain ⟨hs1, hw⟩ := h1 ρ h e σ hs
        unfold aRunD
        rw [hi]
        dsimp only
        unfold aOpE
        rw [if_neg Bool.false_ne_true]
        unfold aOpD
        rw [if_neg (by rw [hw]; exact Bool.false_ne_true)]
        exact h3 ρ _ σ (hs1.put (.refl (fun _ => True) _ _ _) hs1.hp (sv_undef.2 rfl)) K hK
      · change forceL _ _ = some z at hk
        rw [forceL_eq] at hk
        obtain ⟨d, op, ty, pos, af, g⟩ := o
        dsimp only at hk
        cases ht : (xtouch tou op (op.operands.toList.map (xev env1)) h).isEmpty
        · rw [ht] at hk; cases hk
        rw [ht, cond_true] at hk
        have hnil := List.isEmpty_iff.1 ht
        obtain ⟨r, h', h2, h3⟩ := xop_sound (d := d) (ty := ty) (pos := pos) (af := af) (g := g) (U := fun _ => False) hO (fun i hi => by rw [hnil] at hi; cases hi) (by simp) hk
        obtain ⟨env', h'', h4, h5⟩ := xrunR_sound hO (lf := lf) (cf := cf) l _ _ _ h2
        refine ⟨env', h'', h4, fun ρ e σ hs K hK => ?_⟩
        obtain ⟨hs1, hw⟩ := h1 ρ h e σ hs
        refine d_go hi hw rfl (aVal_mono ?_ (h3 ρ σ _ (xevs_sv hs1.env _) hs1.hp))
        rintro rv τ ⟨ρ', g1, g2, g3⟩
        exact ⟨fun _ => g3.extF, h5 ρ' _ τ (hs1.put g3 g2 g1) K fun ρ'' e' σ' g4 g5 => hK ρ'' e' σ' g4 (g3.transF g5)⟩
    · cases hk
def CodeTrR (C : Codec T) (P : Program) (c : Code) (env : XE T) (h : List (HI T)) (ex : Exit) (env' : XE T) (h' : List (HI T)) : Prop :=
  ∀ O ρ e σ, Sat C ρ env h e σ → aCode P O c (fun ex' e' σ' => ex' = ex ∧ ∃ ρ', Sat C ρ' env' h' e' σ' ∧ Rel (fun _ => False) ρ h σ ρ' h' σ') e σ
theorem xcodeR_sound (hO : orc.Ok C P tou) : ∀ (c : Code) (env : XE T) (h : List (HI T)) (k : XK T A), xcodeR C P tou orc dr c env h k = some z → ∃ ex env' h', k ex env' h' = some z ∧ CodeTrR C P c env h ex env' h'
  | .skip, env, h, k, hk => ⟨_, _, _, hk, fun O ρ e σ hs => ⟨rfl, ρ, hs, .refl _ _ _ _⟩⟩
  | .region id ops false, env, h, k, hk => by
    obtain ⟨env', h', h1, h2⟩ := xlistR_sound hO _ _ _ _ hk
    exact ⟨_, _, _, h1, fun O ρ e σ hs _ => .inl (h2 ρ e σ hs _ fun ρ' e' σ' g1 g2 => ⟨rfl, ρ', g1, g2⟩)⟩
  | .region id ops true, env, h, k, hk => by
    unfold xcodeR at hk
    dsimp only at hk
    cases hd : drawOk P ops (dr id h.length).order ((dr id h.length).anc.getD · []) (dr id h.length).lf.contains (dr id h.length).cf.contains (fun _ => false)
    · rw [hd] at hk; cases hk
    rw [hd, cond_true] at hk
    obtain ⟨env', h', h1, h2⟩ := xrunR_sound hO (lf := (dr id h.length).lf.contains) (cf := (dr id h.length).cf.contains) _ _ _ _ hk
    exact ⟨_, _, _, h1, fun O ρ e σ hs _ => .inl ⟨(dr id h.length).order, (dr id h.length).anc, (fun _ => True), (dr id h.length).lf, (dr id h.length).cf, [], hd, h2 ρ e σ hs _ fun ρ' e' σ' g1 g2 => ⟨rfl, ρ', g1, g2⟩⟩⟩
  | .seq a b, env, h, k, hk => by
    obtain ⟨ex, env1, h1, k1, t1⟩ := xcodeR_sound hO a env h _ hk
    by_cases hn : ex = .normal
    · subst hn
      obtain ⟨ex2, env2, h2, k2, t2⟩ := xcodeR_sound hO b env1 h1 _ k1
      refine ⟨ex2, env2, h2, k2, fun O ρ e σ hs => ?_⟩
      refine aCode_mono (c := a) ?_ (t1 O ρ e σ hs)
      rintro ex' e' σ' ⟨rfl, ρ', g1, g2⟩
      refine aCode_mono (c := b) ?_ (t2 O ρ' e' σ' g1)
      rintro ex'' e'' σ'' ⟨rfl, ρ'', g3, g4⟩
      exact ⟨rfl, ρ'', g3, g2.transF g4⟩
    · refine ⟨ex, env1, h1, by cases ex <;> first | exact k1 | exact absurd rfl hn, fun O ρ e σ hs => ?_⟩
      refine aCode_mono (c := a) ?_ (t1 O ρ e σ hs)
      rintro ex' e' σ' ⟨rfl, ρ', g1, g2⟩
      cases ex' <;> first | exact ⟨rfl, ρ', g1, g2⟩ | exact absurd rfl hn
  | .cond c a b, env, h, k, hk => by
    unfold xcodeR at hk
    split at hk
    · rename_i t hc
      cases t
      · obtain ⟨ex, env1, h1, k1, t1⟩ := xcodeR_sound hO b _ h _ hk
        refine ⟨ex, env1, h1, k1, fun O ρ e σ hs => ⟨false, ?_, (fun x => by cases x), fun _ => t1 O ρ e σ (xsub_sat hs hc)⟩⟩
        have := xev_sv hs.env c
        rw [hc, sv_bool] at this
        rw [this]; simp
      · obtain ⟨ex, env1, h1, k1, t1⟩ := xcodeR_sound hO a _ h _ hk
        refine ⟨ex, env1, h1, k1, fun O ρ e σ hs => ⟨true, ?_, fun _ => t1 O ρ e σ (xsub_sat hs hc), fun x => by cases x⟩⟩
        have := xev_sv hs.env c
        rw [hc, sv_bool] at this
        rw [this]; simp
    · cases hk
  | .block id c, env, h, k, hk => by
    obtain ⟨ex, env1, h1, k1, t1⟩ := xcodeR_sound hO c env h _ hk
    cases ex with
    | exit id' =>
      dsimp only at k1
      cases hb : Nat.beq id' id
      · rw [hb] at k1
        refine ⟨_, _, _, k1, fun O ρ e σ hs => ?_⟩
        refine aCode_mono (c := c) ?_ (t1 O ρ e σ hs)
        rintro ex' e' σ' ⟨rfl, g⟩
        unfold AInBlock
        dsimp only
        rw [if_neg (by rintro rfl; rw [Nat.beq_refl] at hb; cases hb)]
        exact ⟨rfl, g⟩
      · rw [hb] at k1
        refine ⟨_, _, _, k1, fun O ρ e σ hs => ?_⟩
        refine aCode_mono (c := c) ?_ (t1 O ρ e σ hs)
        rintro ex' e' σ' ⟨rfl, g⟩
        unfold AInBlock
        dsimp only
        rw [if_pos (Nat.eq_of_beq_eq_true hb)]
        exact ⟨rfl, g⟩
    | _ =>
      refine ⟨_, _, _, k1, fun O ρ e σ hs => ?_⟩
      refine aCode_mono (c := c) ?_ (t1 O ρ e σ hs)
      rintro ex' e' σ' ⟨rfl, g⟩
      exact ⟨rfl, g⟩
  | .exit id, env, h, k, hk => ⟨_, _, _, hk, fun O ρ e σ hs => ⟨rfl, ρ, hs, .refl _ _ _ _⟩⟩
  | .ret, env, h, k, hk => ⟨_, _, _, hk, fun O ρ e σ hs => ⟨rfl, ρ, hs, .refl _ _ _ _⟩⟩
  | .loop _, env, h, k, hk => by cases hk
  | .scope _, env, h, k, hk => by cases hk
theorem xfunR_sound {f : FuncId} {fn : Func} {xs : List (XV T)} {k : XV T → List (HI T) → Option A} (hm : P.follows .mixedOrders = true) (hf : P.funcs[f]? = some fn) (hok : fnOk P fn xs.length = true) (hO : orc.Ok C P tou)
    (hk : xfunR C P tou orc dr fn xs h k = some z) : ∃ r h', k r h' = some z ∧ Tr C P (fun _ => False) f xs h r h' := by
  unfold xfunR at hk
  split at hk
  · rename_i c hc
    unfold fnOk at hok
    rw [hc] at hok
    simp only [Bool.and_eq_true] at hok
    obtain ⟨⟨o1, o2⟩, o3⟩ := hok
    obtain ⟨ex, env', h', k1, t1⟩ := xcodeR_sound hO c _ _ _ hk
    have fin : ∀ v, (k v h' = some z ∧ ∀ ρ e σ, Sat C ρ env' h' e σ → ∃ a, aResults P fn e σ a ∧ SV C h'.length ρ v a) → (ex = .normal ∨ ex = .ret) → ∃ r h', k r h' = some z ∧ Tr C P (fun _ => False) f xs h r h' := by
      rintro v ⟨k2, k3⟩ hex
      refine ⟨v, h', k2, fun ρ σ vs hs H => ?_⟩
      have hlen := hs.len
      refine callsA_of hm hf hc o2 o1 (by rw [hlen]; exact Nat.le_of_ble_eq_true o3) ?_
      have hsat : Sat C ρ (xenv0 0 xs) h (env0 vs) σ := by
        refine ⟨fun i => ?_, H⟩
        rw [xenv0_get, if_pos (Nat.zero_le _), Nat.sub_zero]
        unfold env0
        rw [List.getD_eq_getElem?_getD]
        cases hx : xs[i]? with
        | none => exact sv_junk
        | some x =>
          obtain ⟨a, g1, g2⟩ := hs.get hx
          rw [g1]; exact g2
      refine aCode_mono ?_ (t1 σ.used ρ _ σ hsat)
      rintro ex' e' σ' ⟨rfl, ρ', g1, g2⟩
      obtain ⟨a, q1, q2⟩ := k3 ρ' e' σ' g1
      rcases hex with rfl | rfl
      · exact ⟨a, q1, ρ', q2, g1.hp, g2⟩
      · exact ⟨a, q1, ρ', q2, g1.hp, g2⟩
    split at k1
    · obtain ⟨v, q1, q2⟩ := xresults_sound (C := C) k1
      exact fin v ⟨q1, q2⟩ (.inl rfl)
    · obtain ⟨v, q1, q2⟩ := xresults_sound (C := C) k1
      exact fin v ⟨q1, q2⟩ (.inr rfl)
    · cases k1
  · cases hk
end
section
variable {C : Codec T} {P : Program}
theorem Tr.moreU {U : Nat → Prop} {f : FuncId} {args : List (XV T)} {h h' : List (HI T)} {r : XV T} (h1 : Tr C P (fun _ => False) f args h r h') : Tr C P U f args h r h' := fun ρ σ vs hs H => (h1 ρ σ vs hs H).mono fun rv τ ⟨ρ', a, b, c⟩ => ⟨ρ', a, b, c.mono fun i hi => hi.elim⟩
/-- All that was there stays, where nothing of it is written. -/
theorem Tr.stay {f : FuncId} {args : List (XV T)} {h h' : List (HI T)} {r : XV T} (h1 : Tr C P (fun _ => False) f args h r h') (hr : r.scal3 = true) : Tr C P (fun _ => False) f args h r h := by
  intro ρ σ vs hs H
  refine (h1 ρ σ vs hs H).mono fun rv τ ⟨ρ', g1, g2, g3⟩ => ?_
  exact ⟨ρ, (scal3_sv (N' := h.length) (ρ' := ρ) hr g1).1, H.toExt0 g3.extF, ⟨Nat.le_refl _, fun _ _ => rfl, g3.but, fun b hb => .inl hb⟩⟩
/-- A contract that writes nothing, out of a function's text. -/
theorem ro_ok {dr : Nat → Nat → DrA} {tou : Tou T} {f : FuncId} {fn : Func} {args : List Vs} {hs : List Hs} {res : Rs} {m : VsD T args → HsD T hs → Option (res.D T)} {orc : Orc T (res.D T)}
    (hm : P.follows .mixedOrders = true) (hf : P.funcs[f]? = some fn) (hok : fnOk P fn args.length = true) (hO : orc.Ok C P tou)
    (hrun : ∀ d dh, xfunR C P tou orc dr fn (stVs C args d) (stHs C hs dh) (fun v h => res.rd C v [] fun d _ => some d) = m d dh) (hsc : ∀ d, (res.st C d).scal3 = true) :
    ∀ d dh r, m d dh = some r → Tr C P (fun _ => False) f (stVs C args d) (stHs C hs dh) (res.st C r) (stHs C hs dh) := by
  intro d dh r hr
  have hlen : ∀ (l : List Vs) (d : VsD T l), (stVs C l d).length = l.length := by
    intro l
    induction l with
    | nil => intro d; rfl
    | cons v l ih => intro d; simp [stVs, ih]
  rw [← hrun] at hr
  obtain ⟨v, h', h1, h2⟩ := xfunR_sound hm hf (by rw [hlen]; exact hok) hO hr
  obtain ⟨d', π', h3, _, _, h4⟩ := rs_rd h1
  injection h3 with h3
  subst h3
  have hM : ∀ l : Pi, ∃ M, ∀ p ∈ l, p.1 < M := by
    intro l
    induction l with
    | nil => exact ⟨0, fun p hp => by simp at hp⟩
    | cons p l ih =>
      obtain ⟨M, ih⟩ := ih
      refine ⟨M + p.1 + 1, fun q hq => ?_⟩
      rcases List.mem_cons.1 hq with rfl | hq
      · omega
      · have := ih q hq; omega
  obtain ⟨M, hM⟩ := hM π'
  intro ρ σ vs hs' H
  refine (h2 ρ σ vs hs' H).mono fun rv τ ⟨ρ', g1, g2, g3⟩ => ?_
  have h5 := h4 h'.length M π' ρ' rv (fun _ _ h => h) (fun i x hx => hM _ (plook_mem hx)) g1
  exact ⟨ρ, (scal3_sv (N' := (stHs C hs dh).length) (ρ' := ρ) (hsc _) h5).1, H.toExt0 g3.extF, ⟨Nat.le_refl _, fun _ _ => rfl, g3.but, fun b hb => .inl hb⟩⟩
end
end Go.Proofs.YtmffcfjdacoigaaGreat
