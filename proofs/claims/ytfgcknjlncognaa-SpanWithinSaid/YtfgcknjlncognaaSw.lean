/- SpanWithin, plainly. -/
import Derived.Test.YtfgcknjlncognaaSa
namespace Go.Proofs.Ytfgcknjlncognaa
open Go.RowKit
set_option maxRecDepth 100000
set_option linter.unusedVariables false
set_option linter.unusedSimpArgs false
theorem not_lt_nil (a : Tx) : ¬ a < [] := by simp
theorem nil_min (a : Tx) (h : ¬ ([] : Tx) < a) : a = [] := by
  cases a with
  | nil => rfl
  | cons x l => exact absurd (List.nil_lt_cons x l) h
theorem has_within {a b : DSpan} {k : Tx} (h : withinB a b = true) (hk : hasB a k = true) : hasB b k = true := by
  simp only [withinB, hasB, Bool.and_eq_true, Bool.or_eq_true, Bool.not_eq_true', decide_eq_true_eq, decide_eq_false_iff_not] at *
  obtain ⟨_, h2, h3, h4⟩ := h
  obtain ⟨_, k2, k3, k4⟩ := hk
  refine ⟨h2, k2, by grind, ?_⟩
  rcases h4 with h4 | ⟨h4, h5⟩
  · exact .inl h4
  · rcases k4 with k4 | k4
    · exact absurd k4 h4
    · right; grind
theorem within_trans {a b c : DSpan} (h : withinB a b = true) (k : withinB b c = true) : withinB a c = true := by
  simp only [withinB, Bool.and_eq_true, Bool.or_eq_true, Bool.not_eq_true', decide_eq_true_eq, decide_eq_false_iff_not] at *
  obtain ⟨h1, h2, h3, h4⟩ := h
  obtain ⟨k1, k2, k3, k4⟩ := k
  refine ⟨h1, k2, by grind, ?_⟩
  rcases k4 with k4 | ⟨k4, k5⟩
  · exact .inl k4
  · rcases h4 with h4 | ⟨h4, h5⟩
    · exact absurd h4 k4
    · right; exact ⟨h4, by grind⟩
theorem within_anti {a b : DSpan} (h : withinB a b = true) (k : withinB b a = true) : a.lo = b.lo ∧ a.hi = b.hi := by
  simp only [withinB, Bool.and_eq_true, Bool.or_eq_true, Bool.not_eq_true', decide_eq_true_eq, decide_eq_false_iff_not] at *
  obtain ⟨h1, h2, h3, h4⟩ := h
  obtain ⟨k1, k2, k3, k4⟩ := k
  refine ⟨by grind, ?_⟩
  rcases h4 with h4 | ⟨h4, h5⟩ <;> rcases k4 with k4 | ⟨k4, k5⟩
  · rw [h4, k4]
  · exact absurd h4 k4
  · exact absurd k4 h4
  · grind
theorem within_self (a : DSpan) : withinB a a = rightB a := by
  unfold withinB
  cases h : rightB a
  · rfl
  · by_cases h1 : a.hi = [] <;> simp [h1, ltT]
theorem within_all {a : DSpan} (h : rightB a = true) : withinB a ⟨[], []⟩ = true := by
  have : rightB ⟨[], []⟩ = true := by decide +kernel
  unfold withinB
  rw [h, this]
  simp
theorem max_ge (a b : Tx) : ¬ maxT a b < a ∧ ¬ maxT a b < b := by
  by_cases h : a < b
  · have e : maxT a b = b := by unfold maxT; rw [dT h]; rfl
    rw [e]; exact ⟨by grind, ltT b⟩
  · have e : maxT a b = a := by unfold maxT; rw [dF h]; rfl
    rw [e]; exact ⟨ltT a, h⟩
theorem meet_within {a b : DSpan} (h : meetB a b = true) : withinB (meetS a b) a = true ∧ withinB (meetS a b) b = true := by
  simp only [meetB, Bool.and_eq_true] at h
  obtain ⟨h1, h2, h3⟩ := h
  obtain ⟨m1, m2⟩ := max_ge a.lo b.lo
  unfold withinB
  rw [h1, h2, h3]
  simp only [meetS, m1, m2, decide_false, Bool.not_false, Bool.true_and]
  unfold overB
  by_cases q1 : a.hi = []
  · by_cases q2 : b.hi = [] <;> simp [q1, q2, ltT]
  · by_cases q2 : b.hi = []
    · simp [q1, q2, ltT]
    · by_cases q3 : a.hi < b.hi
      · have : ¬ b.hi < a.hi := by grind
        simp [q1, q2, q3, ltT, this]
      · simp [q1, q2, q3, ltT]
theorem SpanWithin_p (x0 x1 x2 : DSpan) (x3 : Tx) (k0 : ok_DSpan x0) (k1 : ok_DSpan x1) (k2 : ok_DSpan x2) (k3 : ok_ListUInt8 x3) : watershedlaw04_SpanWithin x0 x1 x2 x3 = some (true, ()) := by
  have o0 := OkSp.of k0
  have o1 := OkSp.of k1
  have o2 := OkSp.of k2
  have o3 : OkT x3 := k3
  have om := o0.meet o1
  have oa : OkSp ⟨[], []⟩ := ⟨by simp [OkT], by simp [OkT]⟩
  unfold watershedlaw04_SpanWithin
  refine bindS awake_p ?_
  refine condF rfl ?_
  obtain ⟨r, hr⟩ := few_p [x0.lo, x0.hi, x1.lo, x1.hi, x2.lo, x2.hi, x3] (by simp)
  refine bindS hr ?_
  cases r
  · exact condT rfl rfl
  refine condF rfl ?_
  have f1 : withinB x0 x1 = true → hasB x0 x3 = true → hasB x1 x3 = true := has_within
  have f2 : withinB x0 x1 = true → withinB x1 x2 = true → withinB x0 x2 = true := within_trans
  have f3 : withinB x0 x1 = true → withinB x1 x0 = true → x0.lo = x1.lo ∧ x0.hi = x1.hi := within_anti
  have f4 := within_self x0
  have f5 : rightB x0 = true → withinB x0 ⟨[], []⟩ = true := within_all
  have f6 : meetB x0 x1 = true → withinB (meetS x0 x1) x0 = true ∧ withinB (meetS x0 x1) x1 = true := meet_within
  cases hm : meetB x0 x1
  · simp only [Within_p o0 o1, Within_p o1 o2, Within_p o0 o2, Within_p o1 o0, Within_p o0 o0, Within_p o0 oa, Has_p o0 o3, Has_p o1 o3, Right_p o0, Meet_p o0 o1, span_All, hm, Option.bind_some, f4, decide_true, cond_true, cond_false, Bool.not_false, Bool.not_true]
    cases e0 : rightB x0 <;> cases e1 : withinB x0 x1 <;> cases e2 : hasB x0 x3 <;> cases e3 : hasB x1 x3 <;> cases e4 : withinB x1 x2 <;> cases e5 : withinB x0 x2 <;> cases e6 : withinB x1 x0 <;> simp_all
  · obtain ⟨m0, m1⟩ := f6 hm
    simp only [Within_p o0 o1, Within_p o1 o2, Within_p o0 o2, Within_p o1 o0, Within_p o0 o0, Within_p o0 oa, Within_p om o0, Within_p om o1, Has_p o0 o3, Has_p o1 o3, Right_p o0, Meet_p o0 o1, span_All, hm, m0, m1, Option.bind_some, f4, decide_true, cond_true, cond_false, Bool.not_false, Bool.not_true]
    cases e0 : rightB x0 <;> cases e1 : withinB x0 x1 <;> cases e2 : hasB x0 x3 <;> cases e3 : hasB x1 x3 <;> cases e4 : withinB x1 x2 <;> cases e5 : withinB x0 x2 <;> cases e6 : withinB x1 x0 <;> simp_all
end Go.Proofs.Ytfgcknjlncognaa
