/- Walks by hand: cuts, steps in regions that draw their order, short words for the steps. -/
import Derived.Test.YtinpiaibhjmfaaaHd
import Derived.Test.YtinpiaibhjmfaaaX16
namespace Go.Proofs.Ytinpiaibhjmfaaa
open Go.RowKit
set_option maxRecDepth 100000
set_option linter.unusedVariables false
set_option linter.unusedSimpArgs false
/-- An end that is normal. -/
def toN (M : Env → St → Prop) : APost := fun ex env σ => ex = .normal ∧ M env σ
section
variable {P : Program} {O : Nat → Prop} {ops : Array Oper} {env : Env} {σ τ : St} {K : Env → St → Prop} {d : Option Nat} {ty ty' t : TypeId} {pos : String} {af : Array Edge} {x y : Operand} {c c1 c2 : Code} {Q : APost} {lf cf ow : Nat → Bool} {i j : Nat} {l : List Nat}
theorem k_cut (M : Env → St → Prop) (h : aCode P O c (toN M) env σ) (hk : ∀ env σ, M env σ → Q .normal env σ) : aCode P O c Q env σ :=
  aCode_mono (c := c) (by rintro ex e σ ⟨rfl, h⟩; exact hk _ _ h) h
theorem k_cutS (M : Env → St → Prop) (h : aCode P O c1 (toN M) env σ) (hk : ∀ env σ, M env σ → aCode P O c2 Q env σ) : aCode P O (.seq c1 c2) Q env σ := k_cut (Q := AThen (aCode P O c2 Q) Q) M h hk
theorem d_go {o : Oper} (hi : ops[i]? = some o) (hw : Region.wanted o (yieldedA ops env) = true) (how : ow i = false) (h : aVal P o (o.op.operands.toList.map (ev env)) σ fun r σ' => ((cf i && effects o) = true → Ext σ σ') ∧ aRunD P ops (fun _ => True) lf cf ow l (env.put o.dst r) σ' K) : aRunD P ops (fun _ => True) lf cf ow (i :: l) env σ K := by
  unfold aRunD
  rw [hi]
  dsimp only
  unfold aOpE
  rw [how, if_neg Bool.false_ne_true]
  unfold aOpD
  rw [if_pos hw]
  refine ⟨fun _ _ _ _ => trivial, aVal_mono (fun r σ' h => ⟨fun hc => ?_, h.2⟩) h⟩
  have hX := h.1 hc
  exact fun b t cs _ hb => hX.keep _ _ hb
theorem HIX {α : Type} : (∀ (l : List α) (i : Nat), l.toArray[i]? = l[i]?) ∧ (∀ (a : α) l, (a :: l)[0]? = some a) ∧ (∀ (a : α) l (i : Nat), (a :: l)[i + 1]? = l[i]?) := ⟨fun _ _ => List.getElem?_toArray .., fun _ _ => rfl, fun _ _ _ => rfl⟩
def mvx : Op → Option Operand
  | .move x => some x
  | .assign x => some x
  | _ => none
theorem c_mv {op : Op} {v : AV} (hm : mvx op = some x) (hx : ev env x = v) (h : K (env.put d v) σ) : aOp P ops ⟨d, op, ty, pos, af, none⟩ env σ K := by
  unfold mvx at hm
  split at hm
  · injection hm with hm
    subst hm
    exact s_move hx h
  · injection hm with hm
    subst hm
    exact s_assign hx h
  · cases hm
theorem d_any {op : Op} {g : Option (Nat × Bool)} (hi : ops[i]? = some ⟨d, op, ty, pos, af, g⟩) (hw : Region.wanted ⟨d, op, ty, pos, af, g⟩ (yieldedA ops env) = true) (how : ow i = false) (h : aOp P ops ⟨d, op, ty, pos, af, none⟩ env σ fun env' σ' => ((cf i && effects ⟨d, op, ty, pos, af, none⟩) = true → Ext σ σ') ∧ aRunD P ops (fun _ => True) lf cf ow l env' σ' K) : aRunD P ops (fun _ => True) lf cf ow (i :: l) env σ K := by
  rw [aOp_none rfl] at h
  exact d_go hi hw how h
theorem d_ok {b : Bool} {Y : Prop} (h : Y) : (b = true → Ext σ σ) ∧ Y := ⟨fun _ => .refl _, h⟩
theorem d_nil (h : K env σ) : aRunD P ops (fun _ => True) lf cf ow [] env σ K := h
theorem s_addN (a b : Nat) (hx : ev env x = vI a) (hy : ev env y = vI b) (hab : a + b < 4611686018427387904) (h : K (env.put d (vI ((a + b : Nat) : Int))) σ) : aOp P ops ⟨d, .binOp .add t x y ty', ty, pos, af, none⟩ env σ K :=
  s_add hx hy (by rw [IntWalk.i64_in _ (by omega)]; omega) h
theorem s_lssN (a b : Nat) (hx : ev env x = vI a) (hy : ev env y = vI b) (h : K (env.put d (vT (decide (a < b)))) σ) : aOp P ops ⟨d, .binOp .lss t x y ty', ty, pos, af, none⟩ env σ K := by
  refine s_lss hx hy ?_
  have e : decide ((a : Int) < (b : Int)) = decide (a < b) := by congr 1; exact propext (by omega)
  rw [e]
  exact h
theorem s_notT {b : Bool} (hx : ev env x = vT b) (h : K (env.put d (vT (!b))) σ) : aOp P ops ⟨d, .unOp .not t x, ty, pos, af, none⟩ env σ K := s_not hx h
theorem s_lssT (a b : Nat) (hx : ev env x = vI a) (hy : ev env y = vI b) (hab : a < b) (h : K (env.put d (vT true)) σ) : aOp P ops ⟨d, .binOp .lss t x y ty', ty, pos, af, none⟩ env σ K :=
  s_lssN a b hx hy (by rw [decide_eq_true hab]; exact h)
theorem s_lssF (a b : Nat) (hx : ev env x = vI a) (hy : ev env y = vI b) (hab : ¬ a < b) (h : K (env.put d (vT false)) σ) : aOp P ops ⟨d, .binOp .lss t x y ty', ty, pos, af, none⟩ env σ K :=
  s_lssN a b hx hy (by rw [decide_eq_false hab]; exact h)
theorem s_lenN {as_ : Operand} {ts : Array TypeId} {t e : TypeId} {A : Option Addr} {n c : Nat} {v : AV} (hx : ev env as_ = v) (hv : v.val = .slice A n c) (hts : ts[0]? = some t) (ht : sliceA P t = some e) (h : K (env.put d (vI n)) σ) : aOp P ops ⟨d, .call ⟨.builtin .len, #[as_], ts⟩, ty, pos, af, none⟩ env σ K := s_lenv hx hv hts ht h
theorem s_lenH {as_ : Operand} {ts : Array TypeId} {t e e' sz : TypeId} {n : Nat} {v : AV} {cells : List AV} (hx : ev env as_ = v) (hv : Hd σ e' sz v n cells) (hts : ts[0]? = some t) (ht : sliceA P t = some e) (h : K (env.put d (vI n)) σ) : aOp P ops ⟨d, .call ⟨.builtin .len, #[as_], ts⟩, ty, pos, af, none⟩ env σ K := by
  obtain ⟨A, c, h1, _⟩ := hv.val
  exact s_lenv hx h1 hts ht h
theorem s_ldH {e sz n k b : Nat} {v : AV} {cells : List AV} (hx : ev env x = ptr b (k * sz)) (hv : Hd σ e sz v n cells) (hb : hbk v = some b) (hk : k < n) (ha : aggA P t = some true) (hn : sizeA P t = some sz) (h : K (env.put d (.agg ((cells.drop (k * sz)).take sz))) σ) : aOp P ops ⟨d, .load t x, ty, pos, af, none⟩ env σ K :=
  s_load hx (hv.load hb hk ha hn) h
theorem s_ldH1 {e n k b : Nat} {v r : AV} {cells : List AV} (hx : ev env x = ptr b (k * 1)) (hv : Hd σ e 1 v n cells) (hb : hbk v = some b) (hk : k < n) (hr : cells[k]? = some r) (ha : aggA P t = some false) (hn : sizeA P t = some 1) (h : K (env.put d r) σ) : aOp P ops ⟨d, .load t x, ty, pos, af, none⟩ env σ K :=
  s_load hx (hv.load1 hb hk hr ha hn) h
theorem But.sub {S T : Nat → Prop} (h : But S σ τ) (hS : ∀ b, S b → T b) : But T σ τ := ⟨fun c k hc hk => h.keep _ _ (fun e => hc (hS _ e)) hk, h.used⟩
end
end Go.Proofs.Ytinpiaibhjmfaaa
