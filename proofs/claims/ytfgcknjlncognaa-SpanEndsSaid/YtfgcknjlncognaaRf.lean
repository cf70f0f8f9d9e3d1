/- The references of chapter 04, plainly. -/
import Derived.Test.YtfgcknjlncognaaMt
namespace Go.Proofs.Ytfgcknjlncognaa
open Go.RowKit
set_option maxRecDepth 100000
set_option linter.unusedVariables false
set_option linter.unusedSimpArgs false
theorem refKey_p {s : Tx} (h : OkT s) : watershedref04_Key s = some (keyB s, ()) := by
  unfold OkT at h
  unfold watershedref04_Key keyB
  by_cases h1 : s = []
  · subst h1; rfl
  have h0 : 0 < s.length := List.length_pos_iff.2 h1
  rw [dF (by omega), cond_false, dF h1]
  by_cases h2 : s.length ≤ 20
  · have key : loopM watershedref04_Key_l1 ((s, 0, ()), ()) = some (if s.all charB then .inr ((), ()) else .inl ((false, ()), ())) := by
      refine loopM_eq_of (fun n a => ∃ i : Nat, a = ((s, (i : Int), ()), ()) ∧ i ≤ s.length ∧ (s.drop i).all charB = s.all charB ∧ n = s.length - i) _ ?_ (n := s.length) ⟨0, rfl, Nat.zero_le _, rfl, rfl⟩
      rintro n a ⟨i, rfl, g1, g2, rfl⟩
      unfold watershedref04_Key_l1
      dsimp only
      by_cases hi : i < s.length
      · rw [List.drop_eq_getElem_cons hi, List.all_cons] at g2
        simp only [getI_lt hi, Option.bind_some]
        rw [dT (by omega), cond_true, w64 (by omega)]
        cases hc : charB s[i]
        · right
          rw [hc] at g2
          rw [← g2]
          unfold charB at hc
          by_cases q1 : (97 : Int) ≤ (s[i].toNat : Int) <;> by_cases q2 : (s[i].toNat : Int) ≤ 122 <;> by_cases q3 : (48 : Int) ≤ (s[i].toNat : Int) <;> by_cases q4 : (s[i].toNat : Int) ≤ 57 <;> simp [q1, q2, q3, q4] at hc ⊢
        · left
          rw [hc, Bool.true_and] at g2
          refine ⟨s.length - (i + 1), _, by omega, ?_, i + 1, rfl, by omega, g2, rfl⟩
          unfold charB at hc
          by_cases q1 : (97 : Int) ≤ (s[i].toNat : Int) <;> by_cases q2 : (s[i].toNat : Int) ≤ 122 <;> by_cases q3 : (48 : Int) ≤ (s[i].toNat : Int) <;> by_cases q4 : (s[i].toNat : Int) ≤ 57 <;> simp [q1, q2, q3, q4] at hc ⊢
      · right
        obtain rfl : i = s.length := by omega
        rw [dF (by omega), cond_false, ← g2, List.drop_length]
        rfl
    rw [dF (by omega), cond_false, key, dT h2]
    cases s.all charB <;> rfl
  · rw [dT (by omega), cond_true, dF h2]
    simp
theorem refRight_p {s : DSpan} (h : OkSp s) : watershedref04_Right s = some (rightB s, ()) := by
  obtain ⟨h1, h2⟩ := h
  unfold watershedref04_Right rightB
  simp only [Option.bind_some, refKey_p h1, refKey_p h2]
  by_cases q1 : s.lo = [] <;> by_cases q2 : s.hi = [] <;> cases q3 : keyB s.lo <;> cases q4 : keyB s.hi <;> simp [q1, q2, q3, q4]
theorem refHas_p {s : DSpan} {k : Tx} (h : OkSp s) (hk : OkT k) : watershedref04_Has s k = some (hasB s k, ()) := by
  unfold watershedref04_Has hasB
  simp only [Option.bind_some, refRight_p h, refKey_p hk]
  cases q1 : rightB s
  · simp
  cases q2 : keyB k
  · simp
  simp only [cond_true, Bool.true_and]
  have e : (decide (s.lo < k) || decide (s.lo = k)) = !decide (k < s.lo) := by
    by_cases g1 : s.lo < k
    · have : ¬ k < s.lo := by grind
      simp [g1, this]
    · by_cases g2 : s.lo = k
      · simp [g2, ltT]
      · have : k < s.lo := by grind
        simp [g1, g2, this]
  rw [e]
  cases q3 : decide (k < s.lo) <;> by_cases q4 : s.hi = [] <;> simp [q4]
theorem le_dec (a b : Tx) : (decide (a < b) || decide (a = b)) = !decide (b < a) := by
  by_cases g1 : a < b
  · have : ¬ b < a := by grind
    simp [g1, this]
  · by_cases g2 : a = b
    · simp [g2, ltT]
    · have : b < a := by grind
      simp [g1, g2, this]
theorem refWithin_p {a s : DSpan} (ha : OkSp a) (hs : OkSp s) : watershedref04_Within a s = some (withinB a s, ()) := by
  unfold watershedref04_Within withinB
  simp only [Option.bind_some, refRight_p ha, refRight_p hs, le_dec]
  cases q1 : rightB a
  · simp
  cases q2 : rightB s
  · simp
  simp only [cond_true, Bool.true_and]
  cases q3 : decide (a.lo < s.lo) <;> by_cases q4 : s.hi = [] <;> by_cases q5 : a.hi = [] <;> simp [q4, q5]
theorem refMeet_p {a b : DSpan} (ha : OkSp a) (hb : OkSp b) : watershedref04_Meet a b = some ((bif meetB a b then meetS a b else ⟨[], []⟩, meetB a b, ()), ()) := by
  have hm := refRight_p (ha.meet hb)
  have key : ∀ m : DSpan, OkSp m → m = meetS a b → ((watershedref04_Right a).bind fun r1 =>
      (bif (!r1.1) then some (((⟨([] : List UInt8), ([] : List UInt8)⟩ : DSpan), false, ()), ()) else
      (watershedref04_Right b).bind fun r2 =>
      (bif (!r2.1) then some (((⟨([] : List UInt8), ([] : List UInt8)⟩ : DSpan), false, ()), ()) else
      (watershedref04_Right m).bind fun r3 =>
      (bif (!r3.1) then some (((⟨([] : List UInt8), ([] : List UInt8)⟩ : DSpan), false, ()), ()) else
      some ((m, true, ()), ()))))) = some ((bif meetB a b then meetS a b else ⟨[], []⟩, meetB a b, ()), ()) := by
    rintro m hmo rfl
    unfold meetB
    simp only [refRight_p ha, refRight_p hb, hm, Option.bind_some]
    cases q1 : rightB a
    · simp
    cases q2 : rightB b
    · simp
    cases q3 : rightB (meetS a b) <;> simp
  have hmx : (bif !decide (a.lo < b.lo) then a.lo else b.lo) = maxT a.lo b.lo := rfl
  have hok := ha.meet hb
  unfold watershedref04_Meet
  rw [hmx]
  have e1 : ∀ y : Tx, y = (meetS a b).hi → (⟨maxT a.lo b.lo, y⟩ : DSpan) = meetS a b := fun y hy => by rw [hy]; rfl
  by_cases q1 : a.hi = []
  · rw [dT q1, cond_true]
    have := e1 b.hi (by unfold meetS overB; dsimp only; rw [dT q1]; rfl)
    rw [this]
    exact key _ hok rfl
  rw [dF q1, cond_false]
  by_cases q2 : b.hi = []
  · rw [dF (fun h => h q2), cond_false]
    have := e1 a.hi (by unfold meetS overB; dsimp only; rw [dF q1, dT q2]; rfl)
    rw [this]
    exact key _ hok rfl
  rw [dT q2, cond_true]
  by_cases q3 : b.hi < a.hi
  · rw [dT q3, cond_true]
    have := e1 b.hi (by
      have : ¬ a.hi < b.hi := by grind
      unfold meetS overB; dsimp only; rw [dF q1, dF q2, dF this]; rfl)
    rw [this]
    exact key _ hok rfl
  · rw [dF q3, cond_false]
    have := e1 a.hi (by
      unfold meetS overB; dsimp only; rw [dF q1, dF q2]
      by_cases q4 : a.hi < b.hi
      · rw [dT q4]; rfl
      · rw [dF q4]
        have : a.hi = b.hi := by grind
        rw [this]; rfl)
    rw [this]
    exact key _ hok rfl
end Go.Proofs.Ytfgcknjlncognaa
