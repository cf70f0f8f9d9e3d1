/- Steps of a walk: numbers, lengths; codes. -/
import Derived.Test.YtnmimignbgdfgaaAvS
import Derived.IntWalk
import Derived.WalkLawsBesides
namespace Go.Proofs.Ytnmimignbgdfgaa
open Go.RowKit
set_option maxRecDepth 100000
set_option linter.unusedVariables false
section
variable {P : Program} {O : Nat → Prop} {ops : Array Oper} {rest : List Oper} {env : Env} {σ : St} {K : Env → St → Prop} {d : Option Nat} {ty ty' t : TypeId} {pos : String} {af : Array Edge} {x y z : Operand} {k k' : IntKind} {a b r : Int}
theorem s_add (hx : ev env x = .raw (.int k a)) (hy : ev env y = .raw (.int k b)) (hw : k.wrap (a + b) = r) (h : K (env.put d (.raw (.int k r))) σ) : aOp P ops ⟨d, .binOp .add t x y ty', ty, pos, af, none⟩ env σ K :=
  s_bin hx hy (fun w _ _ => by subst hw; simp [eqGuard_add, binOp_add, Op.intArith]) h
theorem s_sub (hx : ev env x = .raw (.int k a)) (hy : ev env y = .raw (.int k b)) (hw : k.wrap (a - b) = r) (h : K (env.put d (.raw (.int k r))) σ) : aOp P ops ⟨d, .binOp .sub t x y ty', ty, pos, af, none⟩ env σ K :=
  s_bin hx hy (fun w _ _ => by subst hw; simp [eqGuard_sub, binOp_sub, Op.intArith]) h
theorem s_mul (hx : ev env x = .raw (.int k a)) (hy : ev env y = .raw (.int k b)) (hw : k.wrap (a * b) = r) (h : K (env.put d (.raw (.int k r))) σ) : aOp P ops ⟨d, .binOp .mul t x y ty', ty, pos, af, none⟩ env σ K :=
  s_bin hx hy (fun w _ _ => by subst hw; simp [eqGuard_mul, binOp_mul, Op.intArith]) h
theorem s_quo (hx : ev env x = .raw (.int k a)) (hy : ev env y = .raw (.int k b)) (hb : b ≠ 0) (hw : k.wrap (a.tdiv b) = r) (h : K (env.put d (.raw (.int k r))) σ) : aOp P ops ⟨d, .binOp .quo t x y ty', ty, pos, af, none⟩ env σ K :=
  s_bin hx hy (fun w _ _ => by subst hw; simp [eqGuard_quo, binOp_quo, Op.intDiv, hb]) h
theorem s_rem (hx : ev env x = .raw (.int k a)) (hy : ev env y = .raw (.int k b)) (hb : b ≠ 0) (hw : a.tmod b = r) (h : K (env.put d (.raw (.int k r))) σ) : aOp P ops ⟨d, .binOp .rem t x y ty', ty, pos, af, none⟩ env σ K :=
  s_bin hx hy (fun w _ _ => by subst hw; simp [eqGuard_rem, binOp_rem, Op.intDiv, hb]) h
theorem s_lss (hx : ev env x = .raw (.int k a)) (hy : ev env y = .raw (.int k b)) (h : K (env.put d (.raw (.bool (decide (a < b))))) σ) : aOp P ops ⟨d, .binOp .lss t x y ty', ty, pos, af, none⟩ env σ K :=
  s_bin hx hy (fun w _ _ => by simp [eqGuard_lss, binOp_lss]) h
theorem s_leq (hx : ev env x = .raw (.int k a)) (hy : ev env y = .raw (.int k b)) (h : K (env.put d (.raw (.bool (decide (a ≤ b))))) σ) : aOp P ops ⟨d, .binOp .leq t x y ty', ty, pos, af, none⟩ env σ K :=
  s_bin hx hy (fun w _ _ => by simp [eqGuard_leq, binOp_leq]) h
theorem s_gtr (hx : ev env x = .raw (.int k a)) (hy : ev env y = .raw (.int k b)) (h : K (env.put d (.raw (.bool (decide (b < a))))) σ) : aOp P ops ⟨d, .binOp .gtr t x y ty', ty, pos, af, none⟩ env σ K :=
  s_bin hx hy (fun w _ _ => by simp [eqGuard_gtr, binOp_gtr]) h
theorem s_geq (hx : ev env x = .raw (.int k a)) (hy : ev env y = .raw (.int k b)) (h : K (env.put d (.raw (.bool (decide (b ≤ a))))) σ) : aOp P ops ⟨d, .binOp .geq t x y ty', ty, pos, af, none⟩ env σ K :=
  s_bin hx hy (fun w _ _ => by simp [eqGuard_geq, binOp_geq]) h
theorem s_eql (hx : ev env x = .raw (.int k a)) (hy : ev env y = .raw (.int k b)) (h : K (env.put d (.raw (.bool (decide (a = b))))) σ) : aOp P ops ⟨d, .binOp .eql t x y ty', ty, pos, af, none⟩ env σ K :=
  s_bin hx hy (fun w _ _ => by simp [eqGuard_at_int, binOp_eql]; rfl) h
theorem s_neq (hx : ev env x = .raw (.int k a)) (hy : ev env y = .raw (.int k b)) (h : K (env.put d (.raw (.bool (decide (a ≠ b))))) σ) : aOp P ops ⟨d, .binOp .neq t x y ty', ty, pos, af, none⟩ env σ K :=
  s_bin hx hy (fun w _ _ => by simp [eqGuard_at_int, binOp_neq]; rfl) h
theorem run_eq_bool {P : Program} {t : TypeId} (ht : P.underlying t = some .bool) (a b : Bool) (w : World) : (Op.equal t (.bool a) (.bool b)).run P w = .ok (a == b) w := by
  show (Op.equalIn (9999 + 1) t (.bool a) (.bool b)).run P w = _
  unfold Op.equalIn
  simp [run_underlying ht]
theorem s_eqlb {a b : Bool} (ht : P.underlying t = some .bool) (hx : ev env x = .raw (.bool a)) (hy : ev env y = .raw (.bool b)) (h : K (env.put d (.raw (.bool (decide (a = b))))) σ) : aOp P ops ⟨d, .binOp .eql t x y ty', ty, pos, af, none⟩ env σ K :=
  s_bin hx hy (fun w _ _ => by cases a <;> cases b <;> simp [eqGuard_at_bool, binOp, run_eq_bool ht]) h
theorem s_neqb {a b : Bool} (ht : P.underlying t = some .bool) (hx : ev env x = .raw (.bool a)) (hy : ev env y = .raw (.bool b)) (h : K (env.put d (.raw (.bool (decide (a ≠ b))))) σ) : aOp P ops ⟨d, .binOp .neq t x y ty', ty, pos, af, none⟩ env σ K :=
  s_bin hx hy (fun w _ _ => by cases a <;> cases b <;> simp [eqGuard_at_bool, binOp, run_eq_bool ht]) h
theorem s_len {as_ : Operand} {ts : Array TypeId} {t e : TypeId} {A : Option Addr} {n c : Nat} {cells : List AV} (hx : ev env as_ = .lst A n c cells) (hts : ts[0]? = some t) (ht : sliceA P t = some e) (h : K (env.put d (.raw (.int .i64 n))) σ) : aOp P ops ⟨d, .call ⟨.builtin .len, #[as_], ts⟩, ty, pos, af, none⟩ env σ K := by
  refine s_pure (vs := [.lst A n c cells]) rfl (by simp [Op.operands, Call.operands, hx]) (fun _ _ h => .inl h) (fun ρ hρ w => ?_) h
  simp [Op.operands, Call.operands] at hρ
  simp [execOp, resolve, invoke, builtin, Builtin.len_, hρ, hts, run_underlying (run_slice' ht), goInt]
theorem s_min {u v : Operand} {ts : Array TypeId} (hx : ev env u = .raw (.int k a)) (hy : ev env v = .raw (.int k' b)) (h : K (env.put d (.raw (.int k (if b < a then b else a)))) σ) : aOp P ops ⟨d, .call ⟨.builtin .min, #[u, v], ts⟩, ty, pos, af, none⟩ env σ K := by
  refine s_pure (vs := [.raw (.int k a), .raw (.int k' b)]) rfl (by simp [Op.operands, Call.operands, hx, hy]) (fun _ _ h => .inl h) (fun ρ hρ w => ?_) h
  simp [Op.operands, Call.operands] at hρ
  simp [execOp, resolve, invoke, builtin, Builtin.min_, hρ, Builtin.min2]
theorem s_max {u v : Operand} {ts : Array TypeId} (hx : ev env u = .raw (.int k a)) (hy : ev env v = .raw (.int k' b)) (h : K (env.put d (.raw (.int k (if a < b then b else a)))) σ) : aOp P ops ⟨d, .call ⟨.builtin .max, #[u, v], ts⟩, ty, pos, af, none⟩ env σ K := by
  refine s_pure (vs := [.raw (.int k a), .raw (.int k' b)]) rfl (by simp [Op.operands, Call.operands, hx, hy]) (fun _ _ h => .inl h) (fun ρ hρ w => ?_) h
  simp [Op.operands, Call.operands] at hρ
  simp [execOp, resolve, invoke, builtin, Builtin.max_, hρ, Builtin.max2]

/-! Codes. -/
variable {dr : Bool} {c c1 c2 c3 : Code} {Q : APost} {id : Nat} {l : List Oper}
theorem AThen_AThen (n m : Env → St → Prop) (Q : APost) : AThen n (AThen m Q) = AThen n Q := by
  funext e; cases e <;> rfl
theorem k_assoc (h : aCode P O (.seq c1 (.seq c2 c3)) Q env σ) : aCode P O (.seq (.seq c1 c2) c3) Q env σ := by
  show aCode P O c1 (AThen (aCode P O c2 (AThen (aCode P O c3 Q) Q)) (AThen (aCode P O c3 Q) Q)) env σ
  rw [AThen_AThen]
  exact h
theorem k_region (h : aList P l.toArray l env σ (aCode P O c Q)) : aCode P O (.seq (.region id l.toArray false) c) Q env σ := fun _ => .inl h
theorem k_region1 (h : aList P l.toArray l env σ (Q .normal)) : aCode P O (.region id l.toArray false) Q env σ := fun _ => .inl h
theorem k_drawn (h : aDrawn P l.toArray env σ (aCode P O c Q)) : aCode P O (.seq (.region id l.toArray true) c) Q env σ := fun _ => .inl h
theorem k_drawn1 (h : aDrawn P l.toArray env σ (Q .normal)) : aCode P O (.region id l.toArray true) Q env σ := fun _ => .inl h
theorem k_know (h : Known σ env → aCode P O (.seq (.region id l.toArray dr) c) Q env σ) : aCode P O (.seq (.region id l.toArray dr) c) Q env σ := fun hk => h hk hk
theorem k_know1 (h : Known σ env → aCode P O (.region id l.toArray dr) Q env σ) : aCode P O (.region id l.toArray dr) Q env σ := fun hk => h hk hk
theorem k_thaw (G : Nat → Prop) (hG : ∀ g, G g → ¬ O g) (h : ∀ e σ', (∀ i, e i = (env i).wk G) → Thawed env σ G σ' → aList P l.toArray l e σ' (aCode P O c Q)) : aCode P O (.seq (.region id l.toArray false) c) Q env σ := fun _ => .inr ⟨G, hG, fun σ' hT => h _ σ' (fun _ => rfl) hT⟩
theorem k_thaw1 (G : Nat → Prop) (hG : ∀ g, G g → ¬ O g) (h : ∀ e σ', (∀ i, e i = (env i).wk G) → Thawed env σ G σ' → aList P l.toArray l e σ' (Q .normal)) : aCode P O (.region id l.toArray false) Q env σ := fun _ => .inr ⟨G, hG, fun σ' hT => h _ σ' (fun _ => rfl) hT⟩
theorem k_skip (h : aCode P O c Q env σ) : aCode P O (.seq .skip c) Q env σ := h
theorem k_skip1 (h : Q .normal env σ) : aCode P O .skip Q env σ := h
theorem k_ret (h : Q .ret env σ) : aCode P O (.seq .ret c) Q env σ := h
theorem k_ret1 (h : Q .ret env σ) : aCode P O .ret Q env σ := h
theorem k_exit (h : Q (.exit id) env σ) : aCode P O (.seq (.exit id) c) Q env σ := h
theorem k_exit1 (h : Q (.exit id) env σ) : aCode P O (.exit id) Q env σ := h
theorem k_cond {t : Bool} (hc : ev env x = .raw (.bool t)) (h1 : t = true → aCode P O (.seq c1 c) Q env σ) (h2 : t = false → aCode P O (.seq c2 c) Q env σ) : aCode P O (.seq (.cond x c1 c2) c) Q env σ :=
  ⟨t, by rw [hc]; simp, h1, h2⟩
theorem k_cond1 {t : Bool} (hc : ev env x = .raw (.bool t)) (h1 : t = true → aCode P O c1 Q env σ) (h2 : t = false → aCode P O c2 Q env σ) : aCode P O (.cond x c1 c2) Q env σ :=
  ⟨t, by rw [hc]; simp, h1, h2⟩
theorem k_condT (hc : ev env x = .raw (.bool true)) (h1 : aCode P O (.seq c1 c) Q env σ) : aCode P O (.seq (.cond x c1 c2) c) Q env σ := ⟨true, by rw [hc]; simp, fun _ => h1, fun h => by cases h⟩
theorem k_condF (hc : ev env x = .raw (.bool false)) (h1 : aCode P O (.seq c2 c) Q env σ) : aCode P O (.seq (.cond x c1 c2) c) Q env σ := ⟨false, by rw [hc]; simp, (fun h => by cases h), fun _ => h1⟩
theorem k_cond1T (hc : ev env x = .raw (.bool true)) (h1 : aCode P O c1 Q env σ) : aCode P O (.cond x c1 c2) Q env σ := ⟨true, by rw [hc]; simp, fun _ => h1, fun h => by cases h⟩
theorem k_cond1F (hc : ev env x = .raw (.bool false)) (h1 : aCode P O c2 Q env σ) : aCode P O (.cond x c1 c2) Q env σ := ⟨false, by rw [hc]; simp, (fun h => by cases h), fun _ => h1⟩
theorem k_block (h : aCode P O c1 (AInBlock id (AThen (aCode P O c Q) Q)) env σ) : aCode P O (.seq (.block id c1) c) Q env σ := h
theorem k_block1 (h : aCode P O c1 (AInBlock id Q) env σ) : aCode P O (.block id c1) Q env σ := h
theorem k_loop (I : Nat → Env → St → Prop) (n : Nat) (h : I n env σ) (hr : ∀ n env σ, I n env σ → aCode P O c (AThen (fun env' σ' => ∃ n', n' < n ∧ I n' env' σ') Q) env σ) : aCode P O (.loop c) Q env σ := ⟨I, n, h, hr⟩
theorem k_loopE (I : Nat → Env → St → Prop) (h : ∃ n, I n env σ) (hr : ∀ n env σ, I n env σ → aCode P O c (AThen (fun env' σ' => ∃ n', n' < n ∧ I n' env' σ') Q) env σ) : aCode P O (.loop c) Q env σ := h.elim fun n h => ⟨I, n, h, hr⟩
theorem k_cons {o : Oper} {l' : List Oper} (h : aOp P ops o env σ fun env' σ' => aList P ops l' env' σ' K) : aList P ops (o :: l') env σ K := h
theorem k_nil (h : K env σ) : aList P ops [] env σ K := h
theorem d_cons {lf cf : Nat → Bool} {Pres : Nat → Prop} {i : Nat} {o : Oper} {order : List Nat} (ho : ops[i]? = some o) (hl : lf i = false) (hc : cf i = false) (h : aOp P ops o env σ fun env' σ' => aRunD P ops Pres lf cf order env' σ' K) : aRunD P ops Pres lf cf (i :: order) env σ K := by
  unfold aRunD
  rw [ho]
  dsimp only
  unfold aOp at h
  unfold aOpD
  rw [hl, hc]
  split
  · rename_i hw
    rw [if_pos hw] at h
    exact ⟨by simp, aVal_mono (fun r σ' h' => ⟨by simp, h'⟩) h⟩
  · rename_i hw
    rw [if_neg hw] at h
    exact h
theorem d_nil {lf cf : Nat → Bool} {Pres : Nat → Prop} (h : K env σ) : aRunD P ops Pres lf cf [] env σ K := h
end
end Go.Proofs.Ytnmimignbgdfgaa
