/- Plain laws on models: loops, numbers, places. -/
import Derived.Test.YtaihdjknneiciaaGreatX16
import Derived.IntWalk
namespace Go.Proofs.YtaihdjknneiciaaGreat
open Go.RowKit
set_option linter.unusedVariables false
section
variable {α β : Type} {step : α -> Option (α ⊕ β)}
theorem ZaC {a a' : α} (h : step a = some (.inl a')) : Zas step a = Zas step a' := by rw [ZyK, h]
theorem Zat {a : α} {b : β} (h : step a = some (.inr b)) : Zas step a = some b := by rw [ZyK, h]
theorem Zbx (I : Nat -> α -> Prop) (Q : β -> Prop) (h : ∀ n a, I n a -> (∃ m a', m < n /\ step a = some (.inl a') /\ I m a') \/ ∃ b, step a = some (.inr b) /\ Q b) : ∀ {n : Nat} {a : α}, I n a -> ∃ b, Zas step a = some b /\ Q b := by
 intro n
 induction n using Nat.strongRecOn with
 | ind n ih =>
  intro a ha
  rcases h n a ha with ⟨m, a', hm, h1, h2⟩ | ⟨b, h1, h2⟩
  ·rw [ZaC h1]; exact ih m hm h2
  ·exact ⟨b, Zat h1, h2⟩
theorem ZgF (I : Nat -> α -> Prop) (b : β) (h : ∀ n a, I n a -> (∃ m a', m < n /\ step a = some (.inl a') /\ I m a') \/ step a = some (.inr b)) {n : Nat} {a : α} (ha : I n a) : Zas step a = some b := by
 obtain ⟨b', h1, rfl⟩ := Zbx I (fun x => x = b) (fun n a hi => (h n a hi).imp id fun hs => ⟨b, hs, rfl⟩) ha
 exact h1
theorem Zbg (g : Nat -> α) {N : Nat} {b : β} (h1 : ∀ i, i < N -> step (g i) = some (.inl (g (i + 1)))) (h2 : step (g N) = some (.inr b)) : Zas step (g 0) = some b := by
 have : ∀ k i, i + k = N -> Zas step (g i) = some b := by
  intro k
  induction k with
  | zero => intro i hi; obtain rfl : i = N := by omega
            exact Zat h2
  | succ k ih => intro i hi; rw [ZaC (h1 i (by omega))]; exact ih (i + 1) (by omega)
 exact this N 0 (by omega)
end
theorem Zaa {α β : Type} {o : Option α} {v : α} {K : α -> Option β} {z : Option β} (h : o = some v) (h2 : K v = z) : o.bind K = z := by rw [h]; exact h2
theorem Zag {γ : Type} {c : Bool} {A B z : γ} (h : c = true) (h2 : A = z) : (bif c then A else B) = z := by rw [h]; exact h2
theorem Zab {γ : Type} {c : Bool} {A B z : γ} (h : c = false) (h2 : B = z) : (bif c then A else B) = z := by rw [h]; exact h2
theorem Zbk {γ : Type} {p : Prop} [Decidable p] {A B z : γ} (h : p) (h2 : A = z) : (if p then A else B) = z := by rw [if_pos h]; exact h2
theorem ZCj {γ : Type} {p : Prop} [Decidable p] {A B z : γ} (h : ¬ p) (h2 : B = z) : (if p then A else B) = z := by rw [if_neg h]; exact h2
theorem dT {p : Prop} [Decidable p] (h : p) : decide p = true := decide_eq_true h
theorem dF {p : Prop} [Decidable p] (h : ¬ p) : decide p = false := decide_eq_false h
theorem w64 {n : Int} (h : -9223372036854775808 <= n /\ n <= 9223372036854775807) : IntKind.i64.wrap n = n := IntWalk.i64_in n h
theorem Zfa {α : Type} (xs : List α) (i : Nat) : Zbs xs (i : Int) = xs[i]? := by
 unfold Zbs
 rw [if_pos (by omega)]
 simp
theorem ZaE {α : Type} {xs : List α} {i : Nat} (h : i < xs.length) : Zbs xs (i : Int) = some xs[i] := by
 rw [Zfa, List.getElem?_eq_getElem h]
theorem ZA9 {α : Type} (xs : List α) : Zbs xs 0 = xs[0]? := Zfa xs 0
end Go.Proofs.YtaihdjknneiciaaGreat
