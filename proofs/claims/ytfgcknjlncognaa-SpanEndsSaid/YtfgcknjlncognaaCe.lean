/- Spans that part and begin at the same texts are the same; one cut behind the other is as all cuts in order. -/
import Derived.Test.YtfgcknjlncognaaRf
namespace Go.Proofs.Ytfgcknjlncognaa
open Go.RowKit
set_option maxRecDepth 100000
set_option linter.unusedVariables false
set_option linter.unusedSimpArgs false
def los (l : List DSpan) : List Tx := l.map (·.lo)
theorem los_cons (s : DSpan) (l : List DSpan) : los (s :: l) = s.lo :: los l := rfl
theorem los_mem {l : List DSpan} {y : Tx} : y ∈ los l ↔ ∃ x ∈ l, x.lo = y := by unfold los; rw [List.mem_map]
/-- Behind the first one all begin behind where it ends. -/
theorem partsE_ge {h : Tx} {l : List DSpan} {f : Tx} (q : partsE h f l = true) : ∀ y ∈ los l, ¬ y < f := fun y hy => by
  obtain ⟨x, hx, rfl⟩ := los_mem.1 hy
  exact (partsE_within q x hx).2.1
theorem partsE_head {h : Tx} : ∀ {l : List DSpan} {f : Tx}, partsE h f l = true → f ∈ los l
  | [], _, q => by cases q
  | [s], f, q => by
    simp only [partsE, Bool.and_eq_true, decide_eq_true_eq] at q
    rw [los_cons, q.2.1]; exact List.mem_cons_self
  | s :: t :: l, f, q => by
    rw [partsE_cons (by simp)] at q
    simp only [Bool.and_eq_true, decide_eq_true_eq] at q
    rw [los_cons, q.2.1]; exact List.mem_cons_self
theorem partsE_ext {h : Tx} : ∀ {l1 l2 : List DSpan} {f : Tx}, partsE h f l1 = true → partsE h f l2 = true → (∀ y, y ∈ los l1 ↔ y ∈ los l2) → l1 = l2
  | [], _, _, q, _, _ => by cases q
  | [s], [], _, _, q, _ => by cases q
  | s :: s' :: l, [], _, _, q, _ => by cases q
  | [s], [t], f, q1, q2, _ => by
    simp only [partsE, Bool.and_eq_true, decide_eq_true_eq] at q1 q2
    obtain ⟨slo, shi⟩ := s
    obtain ⟨tlo, thi⟩ := t
    obtain ⟨_, a1, a2⟩ := q1
    obtain ⟨_, b1, b2⟩ := q2
    dsimp only at a1 a2 b1 b2
    rw [a1, a2, b1, b2]
  | [s], t :: t' :: l, f, q1, q2, hm => by
    exfalso
    rw [partsE_cons (by simp)] at q2
    simp only [partsE, Bool.and_eq_true, decide_eq_true_eq, Bool.not_eq_true', decide_eq_false_iff_not] at q1 q2
    have h1 := (right_iff_.1 q2.1).2.2.resolve_left q2.2.2.1
    have hx : t.hi ∈ los [s] := (hm _).2 (List.mem_cons_of_mem _ (partsE_head (h := h) (l := t' :: l) q2.2.2.2))
    rw [los_cons, q1.2.1] at hx
    have : t.hi = f := by simpa [los] using hx
    rw [this, q2.2.1] at h1
    exact ltT _ h1
  | s :: s' :: l, [t], f, q1, q2, hm => by
    exfalso
    rw [partsE_cons (by simp)] at q1
    simp only [partsE, Bool.and_eq_true, decide_eq_true_eq, Bool.not_eq_true', decide_eq_false_iff_not] at q1 q2
    have h1 := (right_iff_.1 q1.1).2.2.resolve_left q1.2.2.1
    have hx : s.hi ∈ los [t] := (hm _).1 (List.mem_cons_of_mem _ (partsE_head (h := h) (l := s' :: l) q1.2.2.2))
    rw [los_cons, q2.2.1] at hx
    have : s.hi = f := by simpa [los] using hx
    rw [this, q1.2.1] at h1
    exact ltT _ h1
  | s :: s' :: l, t :: t' :: l', f, q1, q2, hm => by
    rw [partsE_cons (by simp)] at q1 q2
    simp only [Bool.and_eq_true, decide_eq_true_eq, Bool.not_eq_true', decide_eq_false_iff_not] at q1 q2
    obtain ⟨r1, a1, n1, p1⟩ := q1
    obtain ⟨r2, b1, n2, p2⟩ := q2
    have h1 := (right_iff_.1 r1).2.2.resolve_left n1
    have h2 := (right_iff_.1 r2).2.2.resolve_left n2
    rw [a1] at h1
    rw [b1] at h2
    have g1 := partsE_ge p1
    have g2 := partsE_ge p2
    have m1 := partsE_head p1
    have m2 := partsE_head p2
    have up1 : ∀ y, y ∈ los (s' :: l) → f < y := fun y hy => by have := g1 y hy; grind
    have up2 : ∀ y, y ∈ los (t' :: l') → f < y := fun y hy => by have := g2 y hy; grind
    have hm' : ∀ y, y ∈ los (s' :: l) ↔ y ∈ los (t' :: l') := fun y => by
      have := hm y
      rw [los_cons s, los_cons t, a1, b1] at this
      constructor
      · intro hy
        rcases List.mem_cons.1 (this.1 (List.mem_cons_of_mem _ hy)) with e | e
        · have := up1 y hy; rw [e] at this; exact absurd this (ltT _)
        · exact e
      · intro hy
        rcases List.mem_cons.1 (this.2 (List.mem_cons_of_mem _ hy)) with e | e
        · have := up2 y hy; rw [e] at this; exact absurd this (ltT _)
        · exact e
    have e : s.hi = t.hi := by
      have := g1 _ ((hm' _).2 m2)
      have := g2 _ ((hm' _).1 m1)
      grind
    rw [e] at p1
    have := partsE_ext p1 p2 hm'
    rw [this]
    obtain ⟨slo, shi⟩ := s
    obtain ⟨tlo, thi⟩ := t
    dsimp only at a1 b1 e
    rw [a1, b1, e]
/-- One cut: the span that has it gives way to two. -/
def insF (k : Tx) : List DSpan → List DSpan
  | [] => []
  | x :: l => bif !hasB x k then x :: insF k l else bif decide (k = x.lo) then x :: insF k l else ⟨x.lo, k⟩ :: ⟨k, x.hi⟩ :: l
theorem insF_los {k y : Tx} : ∀ {l : List DSpan}, y ∈ los (insF k l) ↔ y ∈ los l ∨ (y = k ∧ ∃ x ∈ l, hasB x k = true)
  | [] => by simp [insF, los]
  | x :: l => by
    have ih := insF_los (k := k) (y := y) (l := l)
    unfold insF
    cases hh : hasB x k
    · simp only [Bool.not_false, cond_true, los_cons, List.mem_cons, ih, exists_eq_or_imp, hh]
      simp [or_assoc]
    · by_cases he : k = x.lo
      · simp only [Bool.not_true, cond_false, dT he, cond_true, los_cons, List.mem_cons, ih, exists_eq_or_imp, hh, true_or, and_true]
        constructor
        · rintro (h | h | ⟨h, _⟩)
          · exact .inl (.inl h)
          · exact .inl (.inr h)
          · exact .inr h
        · rintro ((h | h) | h)
          · exact .inl h
          · exact .inr (.inl h)
          · exact .inl (h.trans he)
      · simp only [Bool.not_true, cond_false, dF he, los_cons, List.mem_cons, exists_eq_or_imp, hh, true_or, and_true]
        constructor
        · rintro (h | h | h)
          · exact .inl (.inl h)
          · exact .inr h
          · exact .inl (.inr h)
        · rintro ((h | h) | h)
          · exact .inl h
          · exact .inr (.inr h)
          · exact .inr (.inl h)
theorem insF_parts {h k : Tx} : ∀ {l : List DSpan} {f : Tx}, partsE h f l = true → partsE h f (insF k l) = true
  | [], _, q => by cases q
  | [x], f, q => by
    unfold insF
    cases hh : hasB x k
    · simpa [insF] using q
    · by_cases he : k = x.lo
      · simpa [insF, he] using q
      · have g := has_iff.1 hh
        have gr := right_iff_.1 g.1
        simp only [Bool.not_true, cond_false, dF he]
        simp only [partsE, Bool.and_eq_true, decide_eq_true_eq, Bool.not_eq_true', decide_eq_false_iff_not] at q ⊢
        exact ⟨right_iff_.2 ⟨gr.1, .inr g.2.1, .inr (by have := g.2.2.1; grind)⟩, q.2.1, keyB_ne g.2.1, right_iff_.2 ⟨.inr g.2.1, gr.2.1, g.2.2.2⟩, trivial, q.2.2⟩
  | x :: y :: l, f, q => by
    rw [partsE_cons (by simp)] at q
    simp only [Bool.and_eq_true] at q
    have ih := insF_parts (k := k) q.2.2.2
    unfold insF
    cases hh : hasB x k
    · simp only [Bool.not_false, cond_true]
      rw [partsE_cons (partsE_ne ih)]
      simp only [Bool.and_eq_true]
      exact ⟨q.1, q.2.1, q.2.2.1, ih⟩
    · by_cases he : k = x.lo
      · simp only [Bool.not_true, cond_false, dT he, cond_true]
        rw [partsE_cons (partsE_ne ih)]
        simp only [Bool.and_eq_true]
        exact ⟨q.1, q.2.1, q.2.2.1, ih⟩
      · have g := has_iff.1 hh
        have gr := right_iff_.1 g.1
        simp only [Bool.not_true, cond_false, dF he]
        rw [partsE_cons (by simp), partsE_cons (by simp)]
        simp only [Bool.and_eq_true, decide_eq_true_eq, Bool.not_eq_true', decide_eq_false_iff_not] at q ⊢
        exact ⟨right_iff_.2 ⟨gr.1, .inr g.2.1, .inr (by have := g.2.2.1; grind)⟩, q.2.1, keyB_ne g.2.1, right_iff_.2 ⟨.inr g.2.1, gr.2.1, g.2.2.2⟩, trivial, q.2.2.1, q.2.2.2⟩
theorem parts_some {s : DSpan} {l : List DSpan} (hr : rightB s = true) (q : partsE s.hi s.lo l = true) (k : Tx) : (∃ x ∈ l, hasB x k = true) ↔ hasB s k = true := by
  have h := partsE_has (k := k) q
  rw [← List.countP_pos_iff (p := fun x => hasB x k), h]
  by_cases c : hasB s k = true
  · rw [if_pos (has_iff.1 c).2]; simp [c]
  · rw [if_neg (fun d => c (has_iff.2 ⟨hr, d⟩))]; simp [c]
/-- One cut behind the other. -/
def insAll (l : List DSpan) (at_ : List Tx) : List DSpan := at_.foldl (fun l k => insF k l) l
theorem insAll_parts {h f : Tx} : ∀ {at_ : List Tx} {l : List DSpan}, partsE h f l = true → partsE h f (insAll l at_) = true
  | [], _, q => q
  | _ :: at_, _, q => insAll_parts (at_ := at_) (insF_parts q)
theorem insAll_los {s : DSpan} (hr : rightB s = true) {y : Tx} : ∀ {at_ : List Tx} {l : List DSpan}, partsE s.hi s.lo l = true → (y ∈ los (insAll l at_) ↔ y ∈ los l ∨ (y ∈ at_ ∧ hasB s y = true))
  | [], l, q => by simp [insAll]
  | k :: at_, l, q => by
    have ih := insAll_los hr (y := y) (at_ := at_) (insF_parts (k := k) q)
    change y ∈ los (insAll (insF k l) at_) ↔ _
    rw [ih, insF_los, parts_some hr q, List.mem_cons]
    constructor
    · rintro ((h | ⟨rfl, h⟩) | ⟨h, g⟩)
      · exact .inl h
      · exact .inr ⟨.inl rfl, h⟩
      · exact .inr ⟨.inr h, g⟩
    · rintro (h | ⟨rfl | h, g⟩)
      · exact .inl (.inl h)
      · exact .inl (.inr ⟨rfl, g⟩)
      · exact .inr ⟨h, g⟩
theorem cutF_los {y : Tx} : ∀ {l : List Tx} {s : DSpan}, rightB s = true → (l.Pairwise fun x y => ¬ y < x) → (y ∈ los (cutF s l) ↔ y = s.lo ∨ (y ∈ l ∧ hasB s y = true))
  | [], s, _, _ => by simp [cutF, los]
  | k :: l, s, hr, hp => by
    obtain ⟨hp1, hp2⟩ := List.pairwise_cons.1 hp
    rw [cutF_cons]
    cases hh : hasB s k
    · simp only [Bool.not_false, cond_true]
      rw [cutF_los hr hp2, List.mem_cons]
      constructor
      · rintro (h | ⟨h, g⟩)
        · exact .inl h
        · exact .inr ⟨.inr h, g⟩
      · rintro (h | ⟨rfl | h, g⟩)
        · exact .inl h
        · rw [hh] at g; cases g
        · exact .inr ⟨h, g⟩
    · by_cases he : k = s.lo
      · simp only [Bool.not_true, cond_false, dT he, cond_true]
        rw [cutF_los hr hp2, List.mem_cons]
        constructor
        · rintro (h | ⟨h, g⟩)
          · exact .inl h
          · exact .inr ⟨.inr h, g⟩
        · rintro (h | ⟨rfl | h, g⟩)
          · exact .inl h
          · exact .inl he
          · exact .inr ⟨h, g⟩
      · simp only [Bool.not_true, cond_false, dF he]
        have g := has_iff.1 hh
        have gr := right_iff_.1 g.1
        have hr2 : rightB ⟨k, s.hi⟩ = true := right_iff_.2 ⟨.inr g.2.1, gr.2.1, g.2.2.2⟩
        rw [los_cons, List.mem_cons, cutF_los hr2 hp2, List.mem_cons]
        have hy : y ∈ l → (hasB ⟨k, s.hi⟩ y = true ↔ hasB s y = true) := fun hy => by
          rw [has_iff, has_iff]
          have := hp1 y hy
          constructor
          · rintro ⟨_, a, b, c⟩
            exact ⟨hr, a, by have := g.2.2.1; dsimp only at b; grind, c⟩
          · rintro ⟨_, a, b, c⟩
            exact ⟨hr2, a, this, c⟩
        dsimp only
        constructor
        · rintro (h | rfl | ⟨h, q⟩)
          · exact .inl h
          · exact .inr ⟨.inl rfl, hh⟩
          · exact .inr ⟨.inr h, (hy h).1 q⟩
        · rintro (h | ⟨rfl | h, q⟩)
          · exact .inl h
          · exact .inr (.inl rfl)
          · exact .inr (.inr ⟨h, (hy h).2 q⟩)
/-- One cut behind the other, in whatever order, is as all cuts in order. -/
theorem insAll_cut {s : DSpan} (hr : rightB s = true) (at_ : List Tx) : insAll [s] at_ = cutF s (sdF at_) := by
  have h0 : partsE s.hi s.lo [s] = true := by simp [partsE, hr]
  refine partsE_ext (insAll_parts h0) (cutF_parts _ hr) fun y => ?_
  rw [insAll_los hr h0, cutF_los hr (sdF_pw _), mem_sdF]
  simp [los]
theorem insF_len (k : Tx) : ∀ l : List DSpan, (insF k l).length ≤ l.length + 1
  | [] => by simp [insF]
  | x :: l => by
    have := insF_len k l
    unfold insF
    cases hasB x k
    · simp; omega
    · by_cases he : k = x.lo
      · simp only [Bool.not_true, cond_false, dT he, cond_true, List.length_cons]; omega
      · simp only [Bool.not_true, cond_false, dF he, List.length_cons]; omega
theorem insF_ok {k : Tx} (hk : OkT k) : ∀ {l : List DSpan}, (∀ x ∈ l, OkSp x) → ∀ x ∈ insF k l, OkSp x
  | [], _, x, hx => by cases hx
  | a :: l, h, x, hx => by
    have ih := insF_ok hk (l := l) fun x hx => h x (List.mem_cons_of_mem _ hx)
    unfold insF at hx
    cases hh : hasB a k
    · rw [hh] at hx
      rcases List.mem_cons.1 hx with rfl | hx
      · exact h _ List.mem_cons_self
      · exact ih x hx
    · rw [hh] at hx
      by_cases he : k = a.lo
      · simp only [Bool.not_true, cond_false, dT he, cond_true] at hx
        rcases List.mem_cons.1 hx with rfl | hx
        · exact h _ List.mem_cons_self
        · exact ih x hx
      · simp only [Bool.not_true, cond_false, dF he, List.mem_cons] at hx
        have ha := h a List.mem_cons_self
        rcases hx with rfl | rfl | hx
        · exact ⟨ha.1, hk⟩
        · exact ⟨hk, ha.2⟩
        · exact h x (List.mem_cons_of_mem _ hx)
/-- Up to where no span gives way. -/
theorem insF_skip {k : Tx} {l : List DSpan} {j : Nat} (hj : j < l.length) (h : hasB l[j] k = false ∨ k = l[j].lo) : insF k (l.drop j) = l[j] :: insF k (l.drop (j + 1)) := by
  rw [List.drop_eq_getElem_cons hj, insF]
  rcases h with h | h
  · rw [h]; rfl
  · cases hasB l[j] k
    · rfl
    · rw [dT h]; rfl
end Go.Proofs.Ytfgcknjlncognaa
