/- What all laws of chapter 04 begin with, plainly. -/
import Derived.Test.YtfgcknjlncognaaMt
namespace Go.Proofs.Ytfgcknjlncognaa
open Go.RowKit
set_option maxRecDepth 100000
set_option linter.unusedVariables false
set_option linter.unusedSimpArgs false
theorem pieces_m : piecesF ⟨[], []⟩ [[109]] = [⟨[], [109]⟩, ⟨[109], []⟩] := by
  have : sdF [[109]] = [[109]] := by unfold sdF; rw [List.mergeSort_singleton]; rfl
  unfold piecesF
  rw [this]
  decide +kernel
theorem Cut_q {s : DSpan} {xs : List Tx} (hs : OkSp s) (hx : ∀ k ∈ xs, OkT k) (hl : xs.length ≤ 100000) : span_Cut s xs = some (piecesF s xs, ((), ())) := Cut_p hs hx hl
theorem ok0 : OkSp ⟨[], []⟩ := ⟨by simp [OkT], by simp [OkT]⟩
theorem awake_p : watershedlaw04_awake = some (true, ()) := by
  have oka : OkSp ⟨[97], [99]⟩ := ⟨by simp [OkT], by simp [OkT]⟩
  have okb : OkSp ⟨[98], []⟩ := ⟨by simp [OkT], by simp [OkT]⟩
  unfold watershedlaw04_awake
  refine bindS rfl ?_
  refine bindS (Cut_q ok0 (by simp [OkT]) (by simp)) ?_
  refine bindS (Meet_p oka okb) ?_
  dsimp only
  rw [pieces_m]
  refine condT rfl ?_
  refine bindS rfl ?_
  refine condT (by decide +kernel) ?_
  refine bindS rfl ?_
  refine condT (by decide +kernel) ?_
  refine condT (by decide +kernel) ?_
  refine condT (by decide +kernel) ?_
  refine bindS (Parts_p (by simp) (fun s hs => ?_)) ?_
  · simp at hs
    rcases hs with rfl | rfl <;> exact ⟨by simp [OkT], by simp [OkT]⟩
  refine condT (by decide +kernel) ?_
  refine bindS (Key_p (by simp [OkT])) ?_
  refine condT (by decide +kernel) ?_
  refine bindS (Key_p (by simp [OkT])) ?_
  exact congrArg (fun b => some (b, ())) (by decide +kernel)
theorem few_q (l : List Tx) (hl : l.length ≤ 140737488355328) : ∃ r, watershedlaw04_few l = some (r, ()) ∧ (r = true → l.length ≤ 60) := by
  have key : ∃ z, loopM watershedlaw04_few_l1 ((l, 0, ()), ()) = some z ∧ (z = .inl ((false, ()), ()) ∨ z = .inr ((l, ()), ())) := by
    refine loopM_spec (fun n a => ∃ i : Nat, a = ((l, (i : Int), ()), ()) ∧ i ≤ l.length ∧ n = l.length - i) _ ?_ (n := l.length) ⟨0, rfl, Nat.zero_le _, rfl⟩
    rintro n a ⟨i, rfl, h1, rfl⟩
    unfold watershedlaw04_few_l1
    by_cases hi : i < l.length
    · by_cases h6 : i < 61
      · by_cases h4 : 40 < l[i].length
        · right
          exact ⟨_, condT (dT (by dsimp only; omega)) (condT (dT (by dsimp only; omega)) (bindS (getI_lt hi) (condT (dT (by omega)) rfl))), .inl rfl⟩
        · left
          refine ⟨l.length - (i + 1), _, by omega, condT (dT (by dsimp only; omega)) (condT (dT (by dsimp only; omega)) (bindS (getI_lt hi) (condF (dF (by omega)) rfl))), i + 1, ?_, by omega, rfl⟩
          dsimp only
          rw [w64 (by omega)]
          rfl
      · right
        exact ⟨_, condT (dT (by dsimp only; omega)) (condF (dF (by dsimp only; omega)) rfl), .inr rfl⟩
    · right
      exact ⟨_, condF (dF (by dsimp only; omega)) rfl, .inr rfl⟩
  obtain ⟨z, h1, rfl | rfl⟩ := key
  · exact ⟨false, bindS h1 rfl, fun h => by cases h⟩
  · refine ⟨_, bindS h1 rfl, fun h => ?_⟩
    dsimp only at h
    have := of_decide_eq_true h
    omega
end Go.Proofs.Ytfgcknjlncognaa
