/- Plain laws on models: loops, numbers, places. -/
import Derived.Test.YtmffcfjdacoigaaGreatX16
import Derived.IntWalk
namespace Go.Proofs.YtmffcfjdacoigaaGreat
open Go.RowKit
set_option linter.unusedVariables false
section
variable {α β : Type} {step : α → Option (α ⊕ β)}
theorem loopM_next {a a' : α} (h : step a = some (.inl a')) : loopM step a = loopM step a' := by rw [loopM_eq, h]
theorem loopM_end {a : α} {b : β} (h : step a = some (.inr b)) : loopM step a = some b := by rw [loopM_eq, h]
/-- A loop with something that stays, and something that sinks. -/
theorem loopM_spec (I : Nat → α → Prop) (Q : β → Prop) (h : ∀ n a, I n a → (∃ m a', m < n ∧ step a = some (.inl a') ∧ I m a') ∨ ∃ b, step a = some (.inr b) ∧ Q b) : ∀ {n : Nat} {a : α}, I n a → ∃ b, loopM step a = some b ∧ Q b := by
  intro n
  induction n using Nat.strongRecOn with
  | ind n ih =>
    intro a ha
    rcases h n a ha with ⟨m, a', hm, h1, h2⟩ | ⟨b, h1, h2⟩
    · rw [loopM_next h1]; exact ih m hm h2
    · exact ⟨b, loopM_end h1, h2⟩
end
/-- Steps along a model. -/
theorem bindS {α β : Type} {o : Option α} {v : α} {K : α → Option β} {z : Option β} (h : o = some v) (h2 : K v = z) : o.bind K = z := by rw [h]; exact h2
theorem condT {γ : Type} {c : Bool} {A B z : γ} (h : c = true) (h2 : A = z) : (bif c then A else B) = z := by rw [h]; exact h2
theorem condF {γ : Type} {c : Bool} {A B z : γ} (h : c = false) (h2 : B = z) : (bif c then A else B) = z := by rw [h]; exact h2
theorem dT {p : Prop} [Decidable p] (h : p) : decide p = true := decide_eq_true h
theorem dF {p : Prop} [Decidable p] (h : ¬ p) : decide p = false := decide_eq_false h
theorem w64 {n : Int} (h : -9223372036854775808 ≤ n ∧ n ≤ 9223372036854775807) : IntKind.i64.wrap n = n := IntWalk.i64_in n h
theorem getI_nat {α : Type} (xs : List α) (i : Nat) : getI xs (i : Int) = xs[i]? := by
  unfold getI
  rw [if_pos (by omega)]
  simp
theorem getI_lt {α : Type} {xs : List α} {i : Nat} (h : i < xs.length) : getI xs (i : Int) = some xs[i] := by
  rw [getI_nat, List.getElem?_eq_getElem h]
end Go.Proofs.YtmffcfjdacoigaaGreat
