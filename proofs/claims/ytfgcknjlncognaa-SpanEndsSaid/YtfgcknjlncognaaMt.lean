/- What two spans have both, plainly. -/
import Derived.Test.YtfgcknjlncognaaCp
namespace Go.Proofs.Ytfgcknjlncognaa
open Go.RowKit
set_option maxRecDepth 100000
set_option linter.unusedVariables false
set_option linter.unusedSimpArgs false
def meetS (a b : DSpan) : DSpan := ⟨maxT a.lo b.lo, bif overB a.hi b.hi then b.hi else a.hi⟩
def meetB (a b : DSpan) : Bool := rightB a && (rightB b && rightB (meetS a b))
theorem OkT.max {a b : Tx} (ha : OkT a) (hb : OkT b) : OkT (maxT a b) := by
  unfold maxT; cases (!decide (a < b)) <;> assumption
theorem OkSp.meet {a b : DSpan} (ha : OkSp a) (hb : OkSp b) : OkSp (meetS a b) := by
  refine ⟨ha.1.max hb.1, ?_⟩
  unfold meetS
  cases overB a.hi b.hi
  · exact ha.2
  · exact hb.2
theorem Meet_p {a b : DSpan} (ha : OkSp a) (hb : OkSp b) : span_Meet a b = some ((bif meetB a b then meetS a b else ⟨[], []⟩, meetB a b, ()), ()) := by
  have hm := Right_p (ha.meet hb)
  unfold meetS overB at hm
  unfold span_Meet span_ends meetB meetS
  simp only [Option.bind_some, over_p]
  have e : rightB ⟨maxT a.lo b.lo, bif (decide (a.hi = []) || (!decide (b.hi = []) && !decide (a.hi < b.hi))) then b.hi else a.hi⟩ = rightB ⟨maxT a.lo b.lo, bif overB a.hi b.hi then b.hi else a.hi⟩ := rfl
  cases q : (decide (a.hi = []) || (!decide (b.hi = []) && !decide (a.hi < b.hi)))
  · rw [q] at hm
    have q' : overB a.hi b.hi = false := q
    rw [q']
    simp only [cond_false, Right_p ha, Right_p hb, Option.bind_some] at hm ⊢
    cases q1 : rightB a
    · simp
    cases q2 : rightB b
    · simp
    simp only [Bool.not_true, cond_false, Bool.true_and]
    change span_Right ⟨bif !decide (a.lo < b.lo) then a.lo else b.lo, a.hi⟩ = _ at hm
    rw [hm, Option.bind_some]
    cases q3 : rightB ⟨maxT a.lo b.lo, a.hi⟩ <;> simp [maxT]
  · rw [q] at hm
    have q' : overB a.hi b.hi = true := q
    rw [q']
    simp only [cond_true, Right_p ha, Right_p hb, Option.bind_some] at hm ⊢
    cases q1 : rightB a
    · simp
    cases q2 : rightB b
    · simp
    simp only [Bool.not_true, cond_false, Bool.true_and]
    change span_Right ⟨bif !decide (a.lo < b.lo) then a.lo else b.lo, b.hi⟩ = _ at hm
    rw [hm, Option.bind_some]
    cases q3 : rightB ⟨maxT a.lo b.lo, b.hi⟩ <;> simp [maxT]
theorem meet_has (a b : DSpan) (k : Tx) : (hasB a k && hasB b k) = (meetB a b && hasB (meetS a b) k) := by
  rw [Bool.eq_iff_iff, Bool.and_eq_true, Bool.and_eq_true, has_iff, has_iff, has_iff]
  unfold meetB
  simp only [Bool.and_eq_true]
  have hmax : (¬ k < (meetS a b).lo) ↔ ¬ k < a.lo ∧ ¬ k < b.lo := by
    unfold meetS maxT
    dsimp only
    by_cases h : a.lo < b.lo
    · rw [dT h]; simp only [Bool.not_true, cond_false]; constructor
      · intro q; exact ⟨by grind, q⟩
      · exact fun q => q.2
    · rw [dF h]; simp only [Bool.not_false, cond_true]; constructor
      · intro q; exact ⟨q, by grind⟩
      · exact fun q => q.1
  have hmin : ((meetS a b).hi = [] ∨ k < (meetS a b).hi) ↔ (a.hi = [] ∨ k < a.hi) ∧ (b.hi = [] ∨ k < b.hi) := by
    unfold meetS overB
    dsimp only
    by_cases h1 : a.hi = []
    · rw [dT h1]; simp [h1]
    · rw [dF h1]
      by_cases h2 : b.hi = []
      · rw [dT h2]; simp [h1, h2]
      · rw [dF h2]
        by_cases h3 : a.hi < b.hi
        · rw [dT h3]; simp only [Bool.not_true, Bool.and_false, Bool.or_false, cond_false, h1, h2, false_or]
          constructor
          · intro q; exact ⟨q, by grind⟩
          · exact fun q => q.1
        · rw [dF h3]; simp only [Bool.not_false, Bool.and_true, Bool.or_true, Bool.false_or, cond_true, h1, h2, false_or]
          constructor
          · intro q; exact ⟨by grind, q⟩
          · exact fun q => q.2
  have hkeys : rightB a = true → rightB b = true → keyB k = true → ¬ k < (meetS a b).lo → ((meetS a b).hi = [] ∨ k < (meetS a b).hi) → rightB (meetS a b) = true := fun ra rb hk h1 h2 => by
    have qa := right_iff_.1 ra
    have qb := right_iff_.1 rb
    refine right_iff_.2 ⟨?_, ?_, ?_⟩
    · unfold meetS maxT
      dsimp only
      cases !decide (a.lo < b.lo)
      · exact qb.1
      · exact qa.1
    · unfold meetS
      dsimp only
      cases overB a.hi b.hi
      · exact qa.2.1
      · exact qb.2.1
    · rcases h2 with h2 | h2
      · exact .inl h2
      · right; grind
  constructor
  · rintro ⟨⟨ra, hk, a1, a2⟩, rb, _, b1, b2⟩
    have g1 := hmax.2 ⟨a1, b1⟩
    have g2 := hmin.2 ⟨a2, b2⟩
    have g3 := hkeys ra rb hk g1 g2
    exact ⟨⟨ra, rb, g3⟩, g3, hk, g1, g2⟩
  · rintro ⟨⟨ra, rb, _⟩, _, hk, g1, g2⟩
    exact ⟨⟨ra, hk, (hmax.1 g1).1, (hmin.1 g2).1⟩, rb, hk, (hmax.1 g1).2, (hmin.1 g2).2⟩
end Go.Proofs.Ytfgcknjlncognaa
