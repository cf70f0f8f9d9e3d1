/- Walks by hand: cuts, steps in regions that draw their order, short words for the steps. -/
import Derived.Test.YtmffcfjdacoigaaGreatHd
import Derived.Test.YtmffcfjdacoigaaGreatX16
namespace Go.Proofs.YtmffcfjdacoigaaGreat
open Go.RowKit
set_option maxRecDepth 100000
set_option linter.unusedVariables false
set_option linter.unusedSimpArgs false
section
variable {P : Program} {O : Nat → Prop} {ops : Array Oper} {env : Env} {σ τ : St} {K : Env → St → Prop} {d : Option Nat} {ty ty' t : TypeId} {pos : String} {af : Array Edge} {x y : Operand} {c c1 c2 : Code} {Q : APost} {lf cf ow : Nat → Bool} {i j : Nat} {l : List Nat}
theorem d_go {o : Oper} (hi : ops[i]? = some o) (hw : Region.wanted o (yieldedA ops env) = true) (how : ow i = false) (h : aVal P o (o.op.operands.toList.map (ev env)) σ fun r σ' => ((cf i && effects o) = true → Ext σ σ') ∧ aRunD P ops (fun _ => True) lf cf ow l (env.put o.dst r) σ' K) : aRunD P ops (fun _ => True) lf cf ow (i :: l) env σ K := by
  unfold aRunD
  rw [hi]
  dsimp only
  unfold aOpE
  rw [how, if_neg Bool.false_ne_true]
  unfold aOpD
  rw [if_pos hw]
  refine ⟨fun _ _ _ _ => trivial, aVal_mono (fun r σ' h => ⟨fun hc => ?_, h.2⟩) h⟩
  have hX := h.1 hc
  exact fun b t cs _ hb => hX.keep _ _ hb
def mvx : Op → Option Operand
  | .move x => some x
  | .assign x => some x
  | _ => none
theorem c_mv {op : Op} {v : AV} (hm : mvx op = some x) (hx : ev env x = v) (h : K (env.put d v) σ) : aOp P ops ⟨d, op, ty, pos, af, none⟩ env σ K := by
  unfold mvx at hm
  split at hm
  · injection hm with hm
    subst hm
    exact s_move hx h
  · injection hm with hm
    subst hm
    exact s_assign hx h
  · cases hm
theorem s_addN (a b : Nat) (hx : ev env x = vI a) (hy : ev env y = vI b) (hab : a + b < 4611686018427387904) (h : K (env.put d (vI ((a + b : Nat) : Int))) σ) : aOp P ops ⟨d, .binOp .add t x y ty', ty, pos, af, none⟩ env σ K :=
  s_add hx hy (by rw [IntWalk.i64_in _ (by omega)]; omega) h
theorem But.sub {S T : Nat → Prop} (h : But S σ τ) (hS : ∀ b, S b → T b) : But T σ τ := ⟨fun c k hc hk => h.keep _ _ (fun e => hc (hS _ e)) hk, h.used⟩
end
end Go.Proofs.YtmffcfjdacoigaaGreat
