/- More for walks by hand: maps and pointers compared, parts of lists of ours, function values, clear. -/
import Derived.Test.YtmffcfjdacoigaaGreatDm
import Derived.LaidEql
namespace Go.Proofs.YtmffcfjdacoigaaGreat
open Go.RowKit
set_option linter.unusedSimpArgs false
set_option maxRecDepth 100000
set_option linter.unusedVariables false
section
variable {P : Program} {ops : Array Oper} {env : Env} {σ τ : St} {K : Env → St → Prop} {d : Option Nat} {ty ty' t kt et : TypeId} {pos : String} {af : Array Edge} {x y z : Operand} {b n : Nat}
/-- A call of a function's value. -/
theorem s_callF {g : FuncId} {f : Operand} {caps : Array Value} {as_ : Array Operand} {ts : Array TypeId} {vs : List AV} (hf : ev env f = .raw (.func (.func g) #[] caps)) (hv : as_.toList.map (ev env) = vs) (h : CallsA P g (vs ++ caps.toList.map .raw) σ fun r σ' => K (env.put d r) σ') : aOp P ops ⟨d, .call ⟨.value f, as_, ts⟩, ty, pos, af, none⟩ env σ K := by
  rw [aOp_none rfl]
  have : (Op.call ⟨.value f, as_, ts⟩).operands.toList.map (ev env) = .raw (.func (.func g) #[] caps) :: vs := by rw [← hv, ← hf]; simp [Op.operands, Call.operands]
  show aVal P _ ((Op.call ⟨.value f, as_, ts⟩).operands.toList.map (ev env)) σ _
  rw [this]
  exact ⟨g, #[], caps, rfl, h⟩
end
end Go.Proofs.YtmffcfjdacoigaaGreat
