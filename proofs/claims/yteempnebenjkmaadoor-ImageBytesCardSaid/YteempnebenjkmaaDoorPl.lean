/- Plain laws on models: loops, numbers, places. -/
import Derived.Test.YteempnebenjkmaaDoorMc
import Derived.IntWalk
namespace Go.Proofs.YteempnebenjkmaaDoor
open Go.RowKit
set_option linter.unusedVariables false
section
variable {α β : Type} {step : α -> Option (α ⊕ β)}
theorem ZhO {a a' : α} (h : step a = some (.inl a')) : Zbl step a = Zbl step a' := by rw [Zrx, h]
theorem ZdC {a : α} {b : β} (h : step a = some (.inr b)) : Zbl step a = some b := by rw [Zrx, h]
theorem ZdV (I : Nat -> α -> Prop) (Q : β -> Prop) (h : ∀ n a, I n a -> (∃ m a', m < n /\ step a = some (.inl a') /\ I m a') \/ ∃ b, step a = some (.inr b) /\ Q b) : ∀ {n : Nat} {a : α}, I n a -> ∃ b, Zbl step a = some b /\ Q b := by
 intro n
 induction n using Nat.strongRecOn with
 | ind n ih =>
  intro a ha
  rcases h n a ha with ⟨m, a', hm, h1, h2⟩ | ⟨b, h1, h2⟩
  ·rw [ZhO h1]; exact ih m hm h2
  ·exact ⟨b, ZdC h1, h2⟩
theorem ZqQ (I : Nat -> α -> Prop) (b : β) (h : ∀ n a, I n a -> (∃ m a', m < n /\ step a = some (.inl a') /\ I m a') \/ step a = some (.inr b)) {n : Nat} {a : α} (ha : I n a) : Zbl step a = some b := by
 obtain ⟨b', h1, rfl⟩ := ZdV I (fun x => x = b) (fun n a hi => (h n a hi).imp id fun hs => ⟨b, hs, rfl⟩) ha
 exact h1
theorem Zhw (g : Nat -> α) {N : Nat} {b : β} (h1 : ∀ i, i < N -> step (g i) = some (.inl (g (i + 1)))) (h2 : step (g N) = some (.inr b)) : Zbl step (g 0) = some b := by
 have : ∀ k i, i + k = N -> Zbl step (g i) = some b := by
  intro k
  induction k with
  | zero => intro i hi; obtain rfl : i = N := by omega
            exact ZdC h2
  | succ k ih => intro i hi; rw [ZhO (h1 i (by omega))]; exact ih (i + 1) (by omega)
 exact this N 0 (by omega)
end
theorem Zag {α β : Type} {o : Option α} {v : α} {K : α -> Option β} {z : Option β} (h : o = some v) (h2 : K v = z) : o.bind K = z := by rw [h]; exact h2
theorem Zap {γ : Type} {c : Bool} {A B z : γ} (h : c = true) (h2 : A = z) : (bif c then A else B) = z := by rw [h]; exact h2
theorem ZaC {γ : Type} {c : Bool} {A B z : γ} (h : c = false) (h2 : B = z) : (bif c then A else B) = z := by rw [h]; exact h2
theorem Zfi {γ : Type} {p : Prop} [Decidable p] {A B z : γ} (h : p) (h2 : A = z) : (if p then A else B) = z := by rw [if_pos h]; exact h2
theorem ZpE {γ : Type} {p : Prop} [Decidable p] {A B z : γ} (h : ¬ p) (h2 : B = z) : (if p then A else B) = z := by rw [if_neg h]; exact h2
theorem dT {p : Prop} [Decidable p] (h : p) : decide p = true := decide_eq_true h
theorem dF {p : Prop} [Decidable p] (h : ¬ p) : decide p = false := decide_eq_false h
theorem w64 {n : Int} (h : -9223372036854775808 <= n /\ n <= 9223372036854775807) : IntKind.i64.wrap n = n := IntWalk.i64_in n h
theorem ZvV {α : Type} (xs : List α) (i : Nat) : ZhG xs (i : Int) = xs[i]? := by
 unfold ZhG
 rw [if_pos (by omega)]
 simp
theorem ZcE {α : Type} {xs : List α} {i : Nat} (h : i < xs.length) : ZhG xs (i : Int) = some xs[i] := by
 rw [ZvV, List.getElem?_eq_getElem h]
theorem Zup {α : Type} {xs ys : List α} {i : Nat} (h1 : i < xs.length) (h2 : i < ys.length) (he : xs[i] = ys[i]) (ht : xs.take i = ys.take i) : xs.take (i + 1) = ys.take (i + 1) := by
 rw [List.take_succ_eq_append_getElem h1, List.take_succ_eq_append_getElem h2, ht, he]
theorem Zuq {α : Type} {xs ys : List α} {i : Nat} (h : xs.length = ys.length) (hi : xs.length <= i) (ht : xs.take i = ys.take i) : xs = ys := by
 rwa [List.take_of_length_le hi, List.take_of_length_le (by omega)] at ht
theorem ZBm {α : Type} {xs ys : List α} {i : Nat} (h1 : i < xs.length) (h2 : i < ys.length) (he : ¬ xs[i] = ys[i]) : xs ≠ ys := fun e => by subst e; exact he rfl
theorem Zur {γ : Type} {α β : Type} {step : α -> Option (α ⊕ β)} (xs ys : List γ) (st : Int -> α) (ne eq_ : β) (hl : xs.length = ys.length) (hx : xs.length <= 140737488355328)
 (hstep : ∀ i : Nat, (hi : i < xs.length) -> (hj : i < ys.length) -> (xs[i] = ys[i] -> step (st i) = some (.inl (st ((i + 1 : Nat) : Int)))) /\ (¬ xs[i] = ys[i] -> step (st i) = some (.inr ne))) (hend : step (st xs.length) = some (.inr eq_)) [DecidableEq γ] : Zbl step (st 0) = some (if xs = ys then eq_ else ne) := by
 refine ZqQ (fun n a => ∃ i : Nat, a = st i /\ i <= xs.length /\ xs.take i = ys.take i /\ n = xs.length - i) _ ?_ (n := xs.length) ⟨0, rfl, Nat.zero_le _, rfl, rfl⟩
 rintro n a ⟨i, rfl, h1, h2, rfl⟩
 by_cases hi : i < xs.length
 ·obtain ⟨g1, g2⟩ := hstep i hi (by omega)
  by_cases he : xs[i] = ys[i]
  ·exact .inl ⟨_, _, by omega, g1 he, i + 1, rfl, by omega, Zup hi (by omega) he h2, rfl⟩
  ·right
   rw [g2 he, if_neg (ZBm hi (by omega) he)]
 ·right
  obtain rfl : i = xs.length := by omega
  rw [hend, if_pos (Zuq hl (Nat.le_refl _) h2)]
end Go.Proofs.YteempnebenjkmaaDoor
