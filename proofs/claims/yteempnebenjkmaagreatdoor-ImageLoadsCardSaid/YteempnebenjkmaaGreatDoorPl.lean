/- Plain laws on models: loops, numbers, places. -/
import Derived.Test.YteempnebenjkmaaGreatDoorMc
import Derived.IntWalk
namespace Go.Proofs.YteempnebenjkmaaGreatDoor
open Go.RowKit
set_option linter.unusedVariables false
section
variable {α β : Type} {step : α -> Option (α ⊕ β)}
theorem ZhA {a a' : α} (h : step a = some (.inl a')) : Za2 step a = Za2 step a' := by rw [ZrQ, h]
theorem ZcW {a : α} {b : β} (h : step a = some (.inr b)) : Za2 step a = some b := by rw [ZrQ, h]
theorem Zcj (I : Nat -> α -> Prop) (Q : β -> Prop) (h : ∀ n a, I n a -> (∃ m a', m < n /\ step a = some (.inl a') /\ I m a') \/ ∃ b, step a = some (.inr b) /\ Q b) : ∀ {n : Nat} {a : α}, I n a -> ∃ b, Za2 step a = some b /\ Q b := by
 intro n
 induction n using Nat.strongRecOn with
 | ind n ih =>
  intro a ha
  rcases h n a ha with ⟨m, a', hm, h1, h2⟩ | ⟨b, h1, h2⟩
  ·rw [ZhA h1]; exact ih m hm h2
  ·exact ⟨b, ZcW h1, h2⟩
theorem Zq9 (I : Nat -> α -> Prop) (b : β) (h : ∀ n a, I n a -> (∃ m a', m < n /\ step a = some (.inl a') /\ I m a') \/ step a = some (.inr b)) {n : Nat} {a : α} (ha : I n a) : Za2 step a = some b := by
 obtain ⟨b', h1, rfl⟩ := Zcj I (fun x => x = b) (fun n a hi => (h n a hi).imp id fun hs => ⟨b, hs, rfl⟩) ha
 exact h1
theorem ZfZ (g : Nat -> α) {N : Nat} {b : β} (h1 : ∀ i, i < N -> step (g i) = some (.inl (g (i + 1)))) (h2 : step (g N) = some (.inr b)) : Za2 step (g 0) = some b := by
 have : ∀ k i, i + k = N -> Za2 step (g i) = some b := by
  intro k
  induction k with
  | zero => intro i hi; obtain rfl : i = N := by omega
            exact ZcW h2
  | succ k ih => intro i hi; rw [ZhA (h1 i (by omega))]; exact ih (i + 1) (by omega)
 exact this N 0 (by omega)
end
theorem Zaf {α β : Type} {o : Option α} {v : α} {K : α -> Option β} {z : Option β} (h : o = some v) (h2 : K v = z) : o.bind K = z := by rw [h]; exact h2
theorem Zam {γ : Type} {c : Bool} {A B z : γ} (h : c = true) (h2 : A = z) : (bif c then A else B) = z := by rw [h]; exact h2
theorem Zaq {γ : Type} {c : Bool} {A B z : γ} (h : c = false) (h2 : B = z) : (bif c then A else B) = z := by rw [h]; exact h2
theorem Zdz {γ : Type} {p : Prop} [Decidable p] {A B z : γ} (h : p) (h2 : A = z) : (if p then A else B) = z := by rw [if_pos h]; exact h2
theorem ZmY {γ : Type} {p : Prop} [Decidable p] {A B z : γ} (h : ¬ p) (h2 : B = z) : (if p then A else B) = z := by rw [if_neg h]; exact h2
theorem dT {p : Prop} [Decidable p] (h : p) : decide p = true := decide_eq_true h
theorem dF {p : Prop} [Decidable p] (h : ¬ p) : decide p = false := decide_eq_false h
theorem w64 {n : Int} (h : -9223372036854775808 <= n /\ n <= 9223372036854775807) : IntKind.i64.wrap n = n := IntWalk.i64_in n h
theorem Zoq {α : Type} (xs : List α) (i : Nat) : Ze1 xs (i : Int) = xs[i]? := by
 unfold Ze1
 rw [if_pos (by omega)]
 simp
theorem Zbg {α : Type} {xs : List α} {i : Nat} (h : i < xs.length) : Ze1 xs (i : Int) = some xs[i] := by
 rw [Zoq, List.getElem?_eq_getElem h]
theorem ZvR {α : Type} {xs ys : List α} {i : Nat} (h1 : i < xs.length) (h2 : i < ys.length) (he : xs[i] = ys[i]) (ht : xs.take i = ys.take i) : xs.take (i + 1) = ys.take (i + 1) := by
 rw [List.take_succ_eq_append_getElem h1, List.take_succ_eq_append_getElem h2, ht, he]
theorem ZvS {α : Type} {xs ys : List α} {i : Nat} (h : xs.length = ys.length) (hi : xs.length <= i) (ht : xs.take i = ys.take i) : xs = ys := by
 rwa [List.take_of_length_le hi, List.take_of_length_le (by omega)] at ht
theorem ZDa {α : Type} {xs ys : List α} {i : Nat} (h1 : i < xs.length) (h2 : i < ys.length) (he : ¬ xs[i] = ys[i]) : xs ≠ ys := fun e => by subst e; exact he rfl
theorem ZvT {γ : Type} {α β : Type} {step : α -> Option (α ⊕ β)} (xs ys : List γ) (st : Int -> α) (ne eq_ : β) (hl : xs.length = ys.length) (hx : xs.length <= 140737488355328)
 (hstep : ∀ i : Nat, (hi : i < xs.length) -> (hj : i < ys.length) -> (xs[i] = ys[i] -> step (st i) = some (.inl (st ((i + 1 : Nat) : Int)))) /\ (¬ xs[i] = ys[i] -> step (st i) = some (.inr ne))) (hend : step (st xs.length) = some (.inr eq_)) [DecidableEq γ] : Za2 step (st 0) = some (if xs = ys then eq_ else ne) := by
 refine Zq9 (fun n a => ∃ i : Nat, a = st i /\ i <= xs.length /\ xs.take i = ys.take i /\ n = xs.length - i) _ ?_ (n := xs.length) ⟨0, rfl, Nat.zero_le _, rfl, rfl⟩
 rintro n a ⟨i, rfl, h1, h2, rfl⟩
 by_cases hi : i < xs.length
 ·obtain ⟨g1, g2⟩ := hstep i hi (by omega)
  by_cases he : xs[i] = ys[i]
  ·exact .inl ⟨_, _, by omega, g1 he, i + 1, rfl, by omega, ZvR hi (by omega) he h2, rfl⟩
  ·right
   rw [g2 he, if_neg (ZDa hi (by omega) he)]
 ·right
  obtain rfl : i = xs.length := by omega
  rw [hend, if_pos (ZvS hl (Nat.le_refl _) h2)]
end Go.Proofs.YteempnebenjkmaaGreatDoor
