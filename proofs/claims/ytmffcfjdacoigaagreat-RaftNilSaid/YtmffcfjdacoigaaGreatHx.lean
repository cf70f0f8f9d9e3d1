/- More for walks by hand: numbers converted, lists built as arrays in regions that draw, calls by contract, arrays that are told. -/
import Derived.Test.YtmffcfjdacoigaaGreatLy
import Derived.Test.YtmffcfjdacoigaaGreatX13
namespace Go.Proofs.YtmffcfjdacoigaaGreat
open Go.RowKit
set_option linter.unusedSimpArgs false
set_option maxRecDepth 100000
set_option linter.unusedVariables false
section
variable {P : Program} {O : Nat → Prop} {ops : Array Oper} {env : Env} {σ τ : St} {K : Env → St → Prop} {d : Option Nat} {ty ty' t : TypeId} {pos : String} {af : Array Edge} {x y : Operand} {c : Code} {Q : APost} {lf cf ow : Nat → Bool} {i : Nat} {l : List Nat}
end
section
variable {T : Nat → Type} {C : Codec T} {P : Program} {σ τ : St}
end
section
variable {P : Program} {O : Nat → Prop} {ops : Array Oper} {env : Env} {σ τ : St} {K : Env → St → Prop} {d : Option Nat} {ty ty' t : TypeId} {pos : String} {af : Array Edge} {x y : Operand} {e sz n : Nat} {v r : AV} {cells news : List AV}
end
section
variable {T : Nat → Type} {C : Codec T} {P : Program}
end
section
variable {P : Program} {O : Nat → Prop} {ops : Array Oper} {env : Env} {σ τ : St} {K : Env → St → Prop} {d : Option Nat} {ty ty' t : TypeId} {pos : String} {af : Array Edge} {x y : Operand} {lf cf ow : Nat → Bool} {i j : Nat} {l : List Nat} {Pres : Nat → Prop}
theorem y_is {ops : Array Oper} {env : Env} {j d : Nat} {b : Bool} (hd : (ops[j]?).bind (·.dst) = some d) (hv : env d = vT b) : yieldedA ops env j = some b := by
  unfold yieldedA
  rw [hd]
  dsimp only
  rw [hv]
  rfl
theorem But.keeps {S : Nat → Prop} (h : But S σ τ) (hS : ∀ b, Pres b → ¬ S b) : Keeps Pres σ τ := fun b t cs hp hb => h.keep _ _ (hS b hp) hb
theorem Ext.keeps (h : Ext σ τ) : Keeps Pres σ τ := fun b t cs _ hb => h.keep _ _ hb
end
section
variable {P : Program} {ops : Array Oper} {env : Env} {σ τ : St} {K : Env → St → Prop} {d : Option Nat} {ty ty' t : TypeId} {pos : String} {af : Array Edge} {x y : Operand} {e sz n m : Nat} {v r : AV} {cells news : List AV}
end
end Go.Proofs.YtmffcfjdacoigaaGreat
