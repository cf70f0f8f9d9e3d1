/- Codes over typed values do so in the model. -/
import Derived.Test.YtmffcfjdacoigaaGreatX8
namespace Go.Proofs.YtmffcfjdacoigaaGreat
open Go.RowKit
set_option maxRecDepth 100000
set_option linter.unusedVariables false
variable {T : Nat → Type} {A : Type}
section
variable {C : Codec T} {P : Program} {tou : Tou T} {orc : Orc T A} {ops : Array Oper} {env env' : XE T} {h h' : List (HI T)} {ρ ρ' : Nat → AV} {e : Env} {σ τ : St} {z : A} {U : Nat → Prop}
theorem isObj_get {i : Nat} (hi : isObj h i = true) : ∃ x, h[i]? = some x ∧ x.alive = true := by
  unfold isObj at hi
  split at hi
  · exact ⟨_, ‹_›, rfl⟩
  · exact ⟨_, ‹_›, rfl⟩
  · exact ⟨_, ‹_›, rfl⟩
  · exact ⟨_, ‹_›, rfl⟩
  · cases hi
theorem ptr_inj {b c o p : Nat} (he : ptr b o = ptr c p) : b = c := by
  unfold ptr at he
  injection he with he; injection he with he; injection he with he; injection he
/-- The blocks of the numbers that must stay. -/
def PresK (K : List Nat) (ρ : Nat → AV) (b : Nat) : Prop := ∃ i ∈ K, (ρ i).owns b
theorem xrunD_sound (hO : orc.Ok C P tou) {D : DrA} : ∀ (l : List Nat) (env : XE T) (h : List (HI T)) (k : XE T → List (HI T) → Option A), xrunD C P tou orc ops D l env h k = some z →
    ∃ env' h', k env' h' = some z ∧ ∀ (ρ0 : Nat → AV) (n0 : Nat), (∀ i ∈ D.keep, i < n0) → ∀ ρ e σ, Sat C ρ env h e σ → n0 ≤ h.length → (∀ i, i < n0 → ρ i = ρ0 i) → ∀ K : Env → St → Prop, (∀ ρ' e' σ', Sat C ρ' env' h' e' σ' → Rel (fun _ => True) ρ h σ ρ' h' σ' → K e' σ') → aRunD P ops (PresK D.keep ρ0) D.lf.contains D.cf.contains D.ow.contains l e σ K
  | [], env, h, k, hk => ⟨env, h, hk, fun ρ0 n0 hD ρ e σ hs hn hρ K hK => hK ρ e σ hs (.refl _ _ _ _)⟩
  | i :: l, env, h, k, hk => by
    unfold xrunD at hk
    split at hk
    · rename_i ho
      obtain ⟨env', h', h2, h3⟩ := xrunD_sound hO l _ _ _ hk
      refine ⟨env', h', h2, fun ρ0 n0 hD ρ e σ hs hn hρ K hK => ?_⟩
      unfold aRunD
      rw [ho]
      exact h3 ρ0 n0 hD ρ e σ hs hn hρ K hK
    · rename_i o ho
      obtain ⟨env1, w, hk, h1⟩ := xwant_sound (C := C) hk
      cases w
      · obtain ⟨env', h', h2, h3⟩ := xrunD_sound hO l _ _ _ hk
        refine ⟨env', h', h2, fun ρ0 n0 hD ρ e σ hs hn hρ K hK => ?_⟩
        obtain ⟨hs1, hw⟩ := h1 ρ h e σ hs
        unfold aRunD
        rw [ho]
        dsimp only
        refine (noFE (by rw [hw]; exact Bool.false_ne_true) _ _).2 ?_
        exact h3 ρ0 n0 hD ρ _ σ (hs1.put (.refl (fun _ => True) _ _ _) hs1.hp (sv_undef.2 rfl)) hn hρ K hK
      · change forceL _ _ = some z at hk
        rw [forceL_eq] at hk
        cases hlc : (lfOk D i o (o.op.operands.toList.map (xev env1)) && cfOk tou D i o (o.op.operands.toList.map (xev env1)) h)
        · rw [hlc] at hk; cases hk
        rw [hlc] at hk
        simp only [Bool.and_eq_true] at hlc
        obtain ⟨hl, hc⟩ := hlc
        simp only [cond_true] at hk
        cases how : D.ow.contains i
        rotate_left
        · rw [how] at hk
          unfold xopW at hk
          split at hk
          · rename_i hf; cases hf
          split at hk
          rotate_left
          · cases hk
          rename_i t n parts hop
          obtain ⟨dd, op, ty, pos, af, g⟩ := o
          dsimp only at hop
          subst hop
          obtain ⟨r, h', h2, h3⟩ := xbarr_sound (d := dd) (ty := ty) (pos := pos) (af := af) (g := g) hk
          obtain ⟨env', h'', h4, h5⟩ := xrunD_sound hO l _ _ _ h2
          refine ⟨env', h'', h4, fun ρ0 n0 hD ρ e σ hs hn hρ K hK => ?_⟩
          obtain ⟨hs1, hw⟩ := h1 ρ h e σ hs
          unfold aRunD
          rw [ho]
          dsimp only
          unfold aOpE
          rw [if_pos how, if_pos hw]
          obtain ⟨n', te, cells, q1, q2⟩ := h3 ρ σ _ (xevs_sv hs1.env _) hs1.hp
          refine ⟨n', te, cells, q1, fun b hb hnb => ?_⟩
          obtain ⟨ρ', g1, g2, g3⟩ := q2 b hb hnb
          exact h5 ρ0 n0 hD ρ' _ _ (hs1.put g3 g2 g1) (Nat.le_trans hn g3.len) (fun i hi => (g3.ext i (by omega)).trans (hρ i hi)) K fun ρ'' e' σ' g4 g5 => hK ρ'' e' σ' g4 (g3.trans hs.hp g5)
        rw [how] at hk
        unfold xopW at hk
        dsimp only at hk
        obtain ⟨r, h', h2, h3⟩ := xop_sound (d := o.dst) (ty := o.type) (pos := o.pos) (af := o.after) (g := o.guard) (U := (· ∈ xtouch tou o.op (o.op.operands.toList.map (xev env1)) h)) hO (fun _ hx => hx) (by simp) hk
        obtain ⟨env', h'', h4, h5⟩ := xrunD_sound hO l _ _ _ h2
        refine ⟨env', h'', h4, fun ρ0 n0 hD ρ e σ hs hn hρ K hK => ?_⟩
        obtain ⟨hs1, hw⟩ := h1 ρ h e σ hs
        unfold aRunD
        rw [ho]
        dsimp only
        unfold aOpE
        rw [if_neg (by rw [how]; exact Bool.false_ne_true)]
        unfold aOpD
        rw [if_pos hw]
        have hvs := xevs_sv hs1.env o.op.operands.toList
        refine ⟨fun hlf b o' hx => ?_, aVal_mono ?_ (h3 ρ σ _ hvs hs1.hp)⟩
        · unfold lfOk at hl
          rw [hlf] at hl
          rw [hx] at hvs
          simp only [cond_true] at hl
          split at hl
          · rename_i j p hv
            rw [hv] at hvs
            obtain ⟨a, ha, ha2⟩ := svs1.1 hvs
            injection ha with ha
            subst ha
            obtain ⟨c, hc1, hc2, hc3⟩ := sv_ptr.1 ha2
            have hj : j ∈ D.keep := by simpa using hl
            refine ⟨j, hj, ?_⟩
            rw [← hρ j (hD j hj), hc3, ptr_inj hc1]; rfl
          · rename_i E j k p hv
            rw [hv] at hvs
            obtain ⟨a, ha, ha2⟩ := svs1.1 hvs
            injection ha with ha
            subst ha
            obtain ⟨c, hc1, hc2, K, hc3, _⟩ := sv_ap.1 ha2
            have hj : j ∈ D.keep := by simpa using hl
            refine ⟨j, hj, ?_⟩
            rw [← hρ j (hD j hj), hc3, ptr_inj hc1]; rfl
          · rename_i j c' l' hv
            rw [hv] at hvs
            obtain ⟨a, ha, ha2⟩ := svs1.1 hvs
            injection ha with ha
            subst ha
            have hj : j ∈ D.keep := by simpa using hl
            refine ⟨j, hj, ?_⟩
            rw [← hρ j (hD j hj)]
            exact C.gsv_ptr _ _ _ _ _ (sv_gv.1 ha2).2
          · rename_i E x p hv
            rw [hv] at hvs
            obtain ⟨a, ha, ha2⟩ := svs1.1 hvs
            injection ha with ha
            subst ha
            obtain ⟨ad, cs, rest, hc1, _⟩ := sv_el.1 ha2
            cases hc1
          · rename_i l hv
            rw [hv] at hvs
            obtain ⟨a, ha, ha2⟩ := svs1.1 hvs
            injection ha with ha
            subst ha
            obtain ⟨ad, ls, rest, hc1, _⟩ := sv_ce.1 ha2
            cases hc1
          · cases hl
        · rintro rv τ ⟨ρ', g1, g2, g3⟩
          refine ⟨fun hcf b t cs hP hb => ?_, h5 ρ0 n0 hD ρ' _ τ (hs1.put g3 g2 g1) (Nat.le_trans hn g3.len) (fun i hi => (g3.ext i (by omega)).trans (hρ i hi)) K fun ρ'' e' σ' g4 g5 => hK ρ'' e' σ' g4 (g3.trans hs.hp g5)⟩
          unfold cfOk at hc
          rw [hcf] at hc
          simp only [cond_true, Bool.and_eq_true, List.all_eq_true] at hc
          obtain ⟨hc1, hc2⟩ := hc
          obtain ⟨i0, hi0, hρ0⟩ := hP
          obtain ⟨x0, hget, al0⟩ := isObj_get (hc1 i0 hi0)
          refine g3.but.keep b _ ?_ hb
          rintro ⟨j, x, hu, hx, ax, bx⟩
          have hρi : (ρ i0).owns b := by rw [hρ i0 (hD i0 hi0)]; exact hρ0
          have : i0 = j := hs.hp.dist i0 j _ x b hget hx al0 ax hρi bx
          subst this
          have := hc2 _ hu
          simp at this
          exact this hi0
theorem xdrawn_sound (hO : orc.Ok C P tou) {D : DrA} {k : XE T → List (HI T) → Option A} (hk : xdrawn C P tou orc D ops env h k = some z) :
    ∃ env' h', k env' h' = some z ∧ ∀ ρ e σ, Sat C ρ env h e σ → ∀ K : Env → St → Prop, (∀ ρ' e' σ', Sat C ρ' env' h' e' σ' → Rel (fun _ => True) ρ h σ ρ' h' σ' → K e' σ') → aDrawn P ops e σ K := by
  unfold xdrawn at hk
  cases hd : (drawOk P ops D.order (D.anc.getD · []) D.lf.contains D.cf.contains D.ow.contains && D.keep.all fun i => Nat.blt i h.length)
  · rw [hd] at hk; cases hk
  rw [hd] at hk
  simp only [cond_true] at hk
  simp only [Bool.and_eq_true, List.all_eq_true] at hd
  obtain ⟨hd1, hd2⟩ := hd
  have hkeep : ∀ i ∈ D.keep, i < h.length := fun i hi => by
    have := hd2 i hi
    exact Nat.le_of_ble_eq_true this
  obtain ⟨env', h', h2, h3⟩ := xrunD_sound hO _ _ _ _ hk
  exact ⟨env', h', h2, fun ρ e σ hs K hK => ⟨D.order, D.anc, PresK D.keep ρ, D.lf, D.cf, D.ow, hd1, h3 ρ h.length hkeep ρ e σ hs (Nat.le_refl _) (fun _ _ => rfl) K hK⟩⟩
theorem aOp_mono {o : Oper} {K K' : Env → St → Prop} (hk : ∀ e σ, K e σ → K' e σ) (h : aOp P ops o e σ K) : aOp P ops o e σ K' := by
  unfold aOp at h ⊢
  split
  · rename_i hw
    rw [if_pos hw] at h
    exact aVal_mono (fun r τ => hk _ _) h
  · rename_i hw
    rw [if_neg hw] at h
    exact hk _ _ h
theorem aList_mono {K K' : Env → St → Prop} (hk : ∀ e σ, K e σ → K' e σ) : ∀ {l : List Oper} {e : Env} {σ : St}, aList P ops l e σ K → aList P ops l e σ K'
  | [], e, σ, h => hk _ _ h
  | o :: l, e, σ, h => h.imp (aOp_mono (fun e σ h => aList_mono hk h)) fun h => h.imp (fun ⟨hw, t, n, parts, te, sz, z, cells, h1, h2, h3, h4, h5, h6, h7, h8⟩ => ⟨hw, t, n, parts, te, sz, z, cells, h1, h2, h3, h4, h5, h6, h7, fun b g1 g2 => aList_mono hk (h8 b g1 g2)⟩) fun h => h.imp (fun ⟨hw, t, t', x, te, bs, h1, h2, h3, h4, h5, h6, h7⟩ => ⟨hw, t, t', x, te, bs, h1, h2, h3, h4, h5, h6, fun b c g1 g2 g3 g4 => aList_mono hk (h7 b c g1 g2 g3 g4)⟩) (fun ⟨hw, h1⟩ => ⟨hw, h1.mono fun r σ' h => aList_mono hk h⟩)
theorem aCode_mono {O : Nat → Prop} : ∀ {c : Code} {Q Q' : APost} {e : Env} {σ : St}, (∀ ex e σ, Q ex e σ → Q' ex e σ) → aCode P O c Q e σ → aCode P O c Q' e σ
  | .skip, Q, Q', e, σ, hQ, h => hQ _ _ _ h
  | .region id ops false, Q, Q', e, σ, hQ, h => fun hK => by
    rcases h hK with h | ⟨G, h1, h2⟩
    · exact .inl (aList_mono (hQ .normal) h)
    · exact .inr ⟨G, h1, fun σ' hT => aList_mono (hQ .normal) (h2 σ' hT)⟩
  | .region id ops true, Q, Q', e, σ, hQ, h => fun hK => by
    have hm : ∀ {e σ}, aDrawn P ops e σ (Q .normal) → aDrawn P ops e σ (Q' .normal) := fun ⟨a, b, c, d, f, g, h1, h2⟩ => ⟨a, b, c, d, f, g, h1, aRunD_mono _ (hQ .normal) h2⟩
    rcases h hK with h | ⟨G, h1, h2⟩
    · exact .inl (hm h)
    · exact .inr ⟨G, h1, fun σ' hT => hm (h2 σ' hT)⟩
  | .seq a b, Q, Q', e, σ, hQ, h => aCode_mono (c := a) (fun ex e σ h => by
      cases ex with
      | normal => exact aCode_mono (c := b) hQ h
      | _ => exact hQ _ _ _ h) h
  | .cond c a b, Q, Q', e, σ, hQ, h => by
    obtain ⟨t, h1, h2, h3⟩ := h
    exact ⟨t, h1, fun ht => aCode_mono (c := a) hQ (h2 ht), fun ht => aCode_mono (c := b) hQ (h3 ht)⟩
  | .block id c, Q, Q', e, σ, hQ, h => aCode_mono (c := c) (fun ex e σ h => by
      cases ex with
      | exit id' => unfold AInBlock at h ⊢; dsimp only at h ⊢; split <;> rename_i hi <;> (first | rw [if_pos hi] at h | rw [if_neg hi] at h) <;> exact hQ _ _ _ h
      | _ => exact hQ _ _ _ h) h
  | .loop c, Q, Q', e, σ, hQ, h => by
    obtain ⟨I, n, h1, h2⟩ := h
    exact ⟨I, n, h1, fun n e σ hI => aCode_mono (c := c) (fun ex e σ h => by
      cases ex with
      | normal => exact h
      | _ => exact hQ _ _ _ h) (h2 n e σ hI)⟩
  | .exit id, Q, Q', e, σ, hQ, h => hQ _ _ _ h
  | .scope c, Q, Q', e, σ, hQ, h => aCode_mono (c := c) (fun ex e σ h => by
      cases ex with
      | goto l => exact h
      | _ => exact hQ _ _ _ h) h
  | .ret, Q, Q', e, σ, hQ, h => hQ _ _ _ h
  | .rangeFunc .., Q, Q', e, σ, hQ, h => h.elim
  | .label .., Q, Q', e, σ, hQ, h => h.elim
  | .goto .., Q, Q', e, σ, hQ, h => h.elim
  | .refuse .., Q, Q', e, σ, hQ, h => h.elim
theorem xsub_sat (hs : Sat C ρ env h e σ) {c : Operand} {b : Bool} (hc : xev env c = .bool b) : Sat C ρ (xsub env c b) h e σ := by
  cases c with
  | tmp t => exact hs.sub hc
  | _ => exact hs
theorem xcode_sound (hO : orc.Ok C P tou) {dr : Nat → Nat → DrA} {lps : Lps T A} : ∀ (c : Code) (env : XE T) (h : List (HI T)) (k : XK T A), (∀ l ∈ loopsOf c, lps.Ok C P l) → xcode C P tou orc dr lps c env h k = some z → ∃ ex env' h', k ex env' h' = some z ∧ CodeTr C P c env h ex env' h'
  | .skip, env, h, k, hL, hk => ⟨_, _, _, hk, fun O ρ e σ hs => ⟨rfl, ρ, hs, .refl _ _ _ _⟩⟩
  | .region id ops false, env, h, k, hL, hk => by
    obtain ⟨env', h', h1, h2⟩ := xlist_sound hO _ _ _ _ hk
    exact ⟨_, _, _, h1, fun O ρ e σ hs _ => .inl (h2 ρ e σ hs _ fun ρ' e' σ' g1 g2 => ⟨rfl, ρ', g1, g2⟩)⟩
  | .region id ops true, env, h, k, hL, hk => by
    obtain ⟨env', h', h1, h2⟩ := xdrawn_sound hO hk
    exact ⟨_, _, _, h1, fun O ρ e σ hs _ => .inl (h2 ρ e σ hs _ fun ρ' e' σ' g1 g2 => ⟨rfl, ρ', g1, g2⟩)⟩
  | .seq a b, env, h, k, hL, hk => by
    obtain ⟨ex, env1, h1, k1, t1⟩ := xcode_sound hO a env h _ (fun l hl => hL l (by unfold loopsOf; exact List.mem_append_left _ hl)) hk
    by_cases hn : ex = .normal
    · subst hn
      obtain ⟨ex2, env2, h2, k2, t2⟩ := xcode_sound hO b env1 h1 _ (fun l hl => hL l (by unfold loopsOf; exact List.mem_append_right _ hl)) k1
      refine ⟨ex2, env2, h2, k2, fun O ρ e σ hs => ?_⟩
      refine aCode_mono (c := a) ?_ (t1 O ρ e σ hs)
      rintro ex' e' σ' ⟨rfl, ρ', g1, g2⟩
      refine aCode_mono (c := b) ?_ (t2 O ρ' e' σ' g1)
      rintro ex'' e'' σ'' ⟨rfl, ρ'', g3, g4⟩
      exact ⟨rfl, ρ'', g3, g2.trans hs.hp g4⟩
    · refine ⟨ex, env1, h1, by cases ex <;> first | exact k1 | exact absurd rfl hn, fun O ρ e σ hs => ?_⟩
      refine aCode_mono (c := a) ?_ (t1 O ρ e σ hs)
      rintro ex' e' σ' ⟨rfl, ρ', g1, g2⟩
      cases ex' <;> first | exact ⟨rfl, ρ', g1, g2⟩ | exact absurd rfl hn
  | .cond c a b, env, h, k, hL, hk => by
    unfold xcode at hk
    split at hk
    · rename_i t hc
      cases t
      · obtain ⟨ex, env1, h1, k1, t1⟩ := xcode_sound hO b _ h _ (fun l hl => hL l (by unfold loopsOf; exact List.mem_append_right _ hl)) hk
        refine ⟨ex, env1, h1, k1, fun O ρ e σ hs => ⟨false, ?_, (fun x => by cases x), fun _ => t1 O ρ e σ (xsub_sat hs hc)⟩⟩
        have := xev_sv hs.env c
        rw [hc, sv_bool] at this
        rw [this]; simp
      · obtain ⟨ex, env1, h1, k1, t1⟩ := xcode_sound hO a _ h _ (fun l hl => hL l (by unfold loopsOf; exact List.mem_append_left _ hl)) hk
        refine ⟨ex, env1, h1, k1, fun O ρ e σ hs => ⟨true, ?_, fun _ => t1 O ρ e σ (xsub_sat hs hc), fun x => by cases x⟩⟩
        have := xev_sv hs.env c
        rw [hc, sv_bool] at this
        rw [this]; simp
    · cases hk
  | .block id c, env, h, k, hL, hk => by
    obtain ⟨ex, env1, h1, k1, t1⟩ := xcode_sound hO c env h _ (fun l hl => hL l hl) hk
    cases ex with
    | exit id' =>
      dsimp only at k1
      cases hb : Nat.beq id' id
      · rw [hb] at k1
        refine ⟨_, _, _, k1, fun O ρ e σ hs => ?_⟩
        refine aCode_mono (c := c) ?_ (t1 O ρ e σ hs)
        rintro ex' e' σ' ⟨rfl, g⟩
        unfold AInBlock
        dsimp only
        rw [if_neg (by rintro rfl; rw [Nat.beq_refl] at hb; cases hb)]
        exact ⟨rfl, g⟩
      · rw [hb] at k1
        refine ⟨_, _, _, k1, fun O ρ e σ hs => ?_⟩
        refine aCode_mono (c := c) ?_ (t1 O ρ e σ hs)
        rintro ex' e' σ' ⟨rfl, g⟩
        unfold AInBlock
        dsimp only
        rw [if_pos (Nat.eq_of_beq_eq_true hb)]
        exact ⟨rfl, g⟩
    | _ =>
      refine ⟨_, _, _, k1, fun O ρ e σ hs => ?_⟩
      refine aCode_mono (c := c) ?_ (t1 O ρ e σ hs)
      rintro ex' e' σ' ⟨rfl, g⟩
      exact ⟨rfl, g⟩
  | .loop c, env, h, k, hL, hk => hL c (List.mem_singleton.2 rfl) env h k z hk
  | .exit id, env, h, k, hL, hk => ⟨_, _, _, hk, fun O ρ e σ hs => ⟨rfl, ρ, hs, .refl _ _ _ _⟩⟩
  | .scope c, env, h, k, hL, hk => by
    obtain ⟨ex, env1, h1, k1, t1⟩ := xcode_sound hO c env h _ (fun l hl => hL l hl) hk
    cases ex with
    | goto l => cases k1
    | _ =>
      refine ⟨_, _, _, k1, fun O ρ e σ hs => ?_⟩
      refine aCode_mono (c := c) ?_ (t1 O ρ e σ hs)
      rintro ex' e' σ' ⟨rfl, g⟩
      exact ⟨rfl, g⟩
  | .ret, env, h, k, hL, hk => ⟨_, _, _, hk, fun O ρ e σ hs => ⟨rfl, ρ, hs, .refl _ _ _ _⟩⟩
  | .rangeFunc .., env, h, k, hL, hk => by cases hk
  | .label .., env, h, k, hL, hk => by cases hk
  | .goto .., env, h, k, hL, hk => by cases hk
  | .refuse .., env, h, k, hL, hk => by cases hk
end
end Go.Proofs.YtmffcfjdacoigaaGreat
