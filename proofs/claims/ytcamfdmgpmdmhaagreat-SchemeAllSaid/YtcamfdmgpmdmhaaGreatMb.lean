/- XRqv, XTqv, XTrv, XTav, XLnv in one. -/
import Derived.Test.YtcamfdmgpmdmhaaGreatMa
/- Spans for round 05: which has a key; the references; one cut behind the other (written by plain05.py). -/
namespace Go.Proofs.YtcamfdmgpmdmhaaGreat
open Go.RowKit
set_option maxRecDepth 100000
set_option linter.unusedVariables false
set_option linter.unusedSimpArgs false
theorem right_iff_ {s : DSpan} : rightB s = true ↔ (s.lo = [] ∨ keyB s.lo = true) ∧ (s.hi = [] ∨ keyB s.hi = true) ∧ (s.hi = [] ∨ s.lo < s.hi) := by
  simp only [rightB, Bool.and_eq_true, Bool.or_eq_true, decide_eq_true_eq]
theorem has_iff {s : DSpan} {k : Tx} : hasB s k = true ↔ rightB s = true ∧ keyB k = true ∧ ¬ k < s.lo ∧ (s.hi = [] ∨ k < s.hi) := by
  simp only [hasB, Bool.and_eq_true, Bool.not_eq_true', decide_eq_false_iff_not, Bool.or_eq_true, decide_eq_true_eq]
theorem partsE_lt {h : Tx} : ∀ {l : List DSpan} {f : Tx}, partsE h f l = true → h = [] ∨ f < h
  | [], _, k => by cases k
  | [s], f, k => by
    simp only [partsE, Bool.and_eq_true, decide_eq_true_eq] at k
    obtain ⟨k1, rfl, rfl⟩ := k
    exact (right_iff_.1 k1).2.2
  | s :: t :: l, f, k => by
    rw [partsE_cons (by simp)] at k
    simp only [Bool.and_eq_true, decide_eq_true_eq, Bool.not_eq_true', decide_eq_false_iff_not] at k
    obtain ⟨k1, rfl, k3, k4⟩ := k
    have h1 := (right_iff_.1 k1).2.2.resolve_left k3
    rcases partsE_lt k4 with h2 | h2
    · exact .inl h2
    · right; grind
theorem partsE_has {h : Tx} {k : Tx} : ∀ {l : List DSpan} {f : Tx}, partsE h f l = true → l.countP (fun s => hasB s k) = if keyB k = true ∧ ¬ k < f ∧ (h = [] ∨ k < h) then 1 else 0
  | [], _, q => by cases q
  | [s], f, q => by
    simp only [partsE, Bool.and_eq_true, decide_eq_true_eq] at q
    obtain ⟨q1, rfl, rfl⟩ := q
    rw [List.countP_singleton]
    by_cases hh : hasB s k = true
    · rw [if_pos hh, if_pos (has_iff.1 hh).2]
    · rw [if_neg hh, if_neg (fun c => hh (has_iff.2 ⟨q1, c⟩))]
  | s :: t :: l, f, q => by
    rw [partsE_cons (by simp)] at q
    simp only [Bool.and_eq_true, decide_eq_true_eq, Bool.not_eq_true', decide_eq_false_iff_not] at q
    obtain ⟨q1, rfl, q3, q4⟩ := q
    have h1 := (right_iff_.1 q1).2.2.resolve_left q3
    have h2 := partsE_lt q4
    rw [List.countP_cons, partsE_has q4]
    by_cases hh : hasB s k = true
    · have g := (has_iff.1 hh).2
      have g3 := g.2.2.resolve_left q3
      have c : h = [] ∨ k < h := by
        rcases h2 with h2 | h2
        · exact .inl h2
        · right; grind
      rw [if_pos hh, if_neg (fun c => c.2.1 g3), if_pos ⟨g.1, g.2.1, c⟩]
    · rw [if_neg hh]
      by_cases c : keyB k = true ∧ ¬ k < s.lo ∧ (h = [] ∨ k < h)
      · rw [if_pos c, if_pos ⟨c.1, fun hk => hh (has_iff.2 ⟨q1, c.1, c.2.1, .inr hk⟩), c.2.2⟩]
      · rw [if_neg c, if_neg (fun d => c ⟨d.1, fun hk => d.2.1 (by grind), d.2.2⟩)]
theorem partsE_within {h : Tx} : ∀ {l : List DSpan} {f : Tx}, partsE h f l = true → ∀ x ∈ l, rightB x = true ∧ ¬ x.lo < f ∧ (h = [] ∨ (x.hi ≠ [] ∧ ¬ h < x.hi))
  | [], _, q, x, hx => by cases hx
  | [s], f, q, x, hx => by
    simp only [partsE, Bool.and_eq_true, decide_eq_true_eq] at q
    obtain ⟨q1, rfl, rfl⟩ := q
    simp only [List.mem_singleton] at hx
    subst hx
    refine ⟨q1, ltT _, ?_⟩
    by_cases c : x.hi = []
    · exact .inl c
    · exact .inr ⟨c, ltT _⟩
  | s :: t :: l, f, q, x, hx => by
    rw [partsE_cons (by simp)] at q
    simp only [Bool.and_eq_true, decide_eq_true_eq, Bool.not_eq_true', decide_eq_false_iff_not] at q
    obtain ⟨q1, rfl, q3, q4⟩ := q
    have h1 := (right_iff_.1 q1).2.2.resolve_left q3
    have h2 := partsE_lt q4
    rcases List.mem_cons.1 hx with rfl | hx
    · refine ⟨q1, ltT _, ?_⟩
      rcases h2 with h2 | h2
      · exact .inl h2
      · exact .inr ⟨q3, by grind⟩
    · obtain ⟨g1, g2, g3⟩ := partsE_within q4 x hx
      exact ⟨g1, by grind, g3⟩
theorem refKey_p {s : Tx} (h : OkT s) : watershedref04_Key s = some (keyB s, ()) := by
  unfold OkT at h
  unfold watershedref04_Key keyB
  by_cases h1 : s = []
  · subst h1; rfl
  have h0 : 0 < s.length := List.length_pos_iff.2 h1
  rw [dF (by omega), cond_false, dF h1]
  by_cases h2 : s.length ≤ 20
  · have key : loopM watershedref04_Key_l1 ((s, 0, ()), ()) = some (if s.all charB then .inr ((), ()) else .inl ((false, ()), ())) := by
      refine loopM_eq_of (fun n a => ∃ i : Nat, a = ((s, (i : Int), ()), ()) ∧ i ≤ s.length ∧ (s.drop i).all charB = s.all charB ∧ n = s.length - i) _ ?_ (n := s.length) ⟨0, rfl, Nat.zero_le _, rfl, rfl⟩
      rintro n a ⟨i, rfl, g1, g2, rfl⟩
      unfold watershedref04_Key_l1
      dsimp only
      by_cases hi : i < s.length
      · rw [List.drop_eq_getElem_cons hi, List.all_cons] at g2
        simp only [getI_lt hi, Option.bind_some]
        rw [dT (by omega), cond_true, w64 (by omega)]
        cases hc : charB s[i]
        · right
          rw [hc] at g2
          rw [← g2]
          unfold charB at hc
          by_cases q1 : (97 : Int) ≤ (s[i].toNat : Int) <;> by_cases q2 : (s[i].toNat : Int) ≤ 122 <;> by_cases q3 : (48 : Int) ≤ (s[i].toNat : Int) <;> by_cases q4 : (s[i].toNat : Int) ≤ 57 <;> simp [q1, q2, q3, q4] at hc ⊢
        · left
          rw [hc, Bool.true_and] at g2
          refine ⟨s.length - (i + 1), _, by omega, ?_, i + 1, rfl, by omega, g2, rfl⟩
          unfold charB at hc
          by_cases q1 : (97 : Int) ≤ (s[i].toNat : Int) <;> by_cases q2 : (s[i].toNat : Int) ≤ 122 <;> by_cases q3 : (48 : Int) ≤ (s[i].toNat : Int) <;> by_cases q4 : (s[i].toNat : Int) ≤ 57 <;> simp [q1, q2, q3, q4] at hc ⊢
      · right
        obtain rfl : i = s.length := by omega
        rw [dF (by omega), cond_false, ← g2, List.drop_length]
        rfl
    rw [dF (by omega), cond_false, key, dT h2]
    cases s.all charB <;> rfl
  · rw [dT (by omega), cond_true, dF h2]
    simp
theorem refRight_p {s : DSpan} (h : OkSp s) : watershedref04_Right s = some (rightB s, ()) := by
  obtain ⟨h1, h2⟩ := h
  unfold watershedref04_Right rightB
  simp only [Option.bind_some, refKey_p h1, refKey_p h2]
  by_cases q1 : s.lo = [] <;> by_cases q2 : s.hi = [] <;> cases q3 : keyB s.lo <;> cases q4 : keyB s.hi <;> simp [q1, q2, q3, q4]
theorem refHas_p {s : DSpan} {k : Tx} (h : OkSp s) (hk : OkT k) : watershedref04_Has s k = some (hasB s k, ()) := by
  unfold watershedref04_Has hasB
  simp only [Option.bind_some, refRight_p h, refKey_p hk]
  cases q1 : rightB s
  · simp
  cases q2 : keyB k
  · simp
  simp only [cond_true, Bool.true_and]
  have e : (decide (s.lo < k) || decide (s.lo = k)) = !decide (k < s.lo) := by
    by_cases g1 : s.lo < k
    · have : ¬ k < s.lo := by grind
      simp [g1, this]
    · by_cases g2 : s.lo = k
      · simp [g2, ltT]
      · have : k < s.lo := by grind
        simp [g1, g2, this]
  rw [e]
  cases q3 : decide (k < s.lo) <;> by_cases q4 : s.hi = [] <;> simp [q4]
theorem le_dec (a b : Tx) : (decide (a < b) || decide (a = b)) = !decide (b < a) := by
  by_cases g1 : a < b
  · have : ¬ b < a := by grind
    simp [g1, this]
  · by_cases g2 : a = b
    · simp [g2, ltT]
    · have : b < a := by grind
      simp [g1, g2, this]
theorem refWithin_p {a s : DSpan} (ha : OkSp a) (hs : OkSp s) : watershedref04_Within a s = some (withinB a s, ()) := by
  unfold watershedref04_Within withinB
  simp only [Option.bind_some, refRight_p ha, refRight_p hs, le_dec]
  cases q1 : rightB a
  · simp
  cases q2 : rightB s
  · simp
  simp only [cond_true, Bool.true_and]
  cases q3 : decide (a.lo < s.lo) <;> by_cases q4 : s.hi = [] <;> by_cases q5 : a.hi = [] <;> simp [q4, q5]
def los (l : List DSpan) : List Tx := l.map (·.lo)
theorem los_cons (s : DSpan) (l : List DSpan) : los (s :: l) = s.lo :: los l := rfl
theorem los_mem {l : List DSpan} {y : Tx} : y ∈ los l ↔ ∃ x ∈ l, x.lo = y := by unfold los; rw [List.mem_map]
theorem partsE_ge {h : Tx} {l : List DSpan} {f : Tx} (q : partsE h f l = true) : ∀ y ∈ los l, ¬ y < f := fun y hy => by
  obtain ⟨x, hx, rfl⟩ := los_mem.1 hy
  exact (partsE_within q x hx).2.1
theorem partsE_head {h : Tx} : ∀ {l : List DSpan} {f : Tx}, partsE h f l = true → f ∈ los l
  | [], _, q => by cases q
  | [s], f, q => by
    simp only [partsE, Bool.and_eq_true, decide_eq_true_eq] at q
    rw [los_cons, q.2.1]; exact List.mem_cons_self
  | s :: t :: l, f, q => by
    rw [partsE_cons (by simp)] at q
    simp only [Bool.and_eq_true, decide_eq_true_eq] at q
    rw [los_cons, q.2.1]; exact List.mem_cons_self
theorem partsE_ext {h : Tx} : ∀ {l1 l2 : List DSpan} {f : Tx}, partsE h f l1 = true → partsE h f l2 = true → (∀ y, y ∈ los l1 ↔ y ∈ los l2) → l1 = l2
  | [], _, _, q, _, _ => by cases q
  | [s], [], _, _, q, _ => by cases q
  | s :: s' :: l, [], _, _, q, _ => by cases q
  | [s], [t], f, q1, q2, _ => by
    simp only [partsE, Bool.and_eq_true, decide_eq_true_eq] at q1 q2
    obtain ⟨slo, shi⟩ := s
    obtain ⟨tlo, thi⟩ := t
    obtain ⟨_, a1, a2⟩ := q1
    obtain ⟨_, b1, b2⟩ := q2
    dsimp only at a1 a2 b1 b2
    rw [a1, a2, b1, b2]
  | [s], t :: t' :: l, f, q1, q2, hm => by
    exfalso
    rw [partsE_cons (by simp)] at q2
    simp only [partsE, Bool.and_eq_true, decide_eq_true_eq, Bool.not_eq_true', decide_eq_false_iff_not] at q1 q2
    have h1 := (right_iff_.1 q2.1).2.2.resolve_left q2.2.2.1
    have hx : t.hi ∈ los [s] := (hm _).2 (List.mem_cons_of_mem _ (partsE_head (h := h) (l := t' :: l) q2.2.2.2))
    rw [los_cons, q1.2.1] at hx
    have : t.hi = f := by simpa [los] using hx
    rw [this, q2.2.1] at h1
    exact ltT _ h1
  | s :: s' :: l, [t], f, q1, q2, hm => by
    exfalso
    rw [partsE_cons (by simp)] at q1
    simp only [partsE, Bool.and_eq_true, decide_eq_true_eq, Bool.not_eq_true', decide_eq_false_iff_not] at q1 q2
    have h1 := (right_iff_.1 q1.1).2.2.resolve_left q1.2.2.1
    have hx : s.hi ∈ los [t] := (hm _).1 (List.mem_cons_of_mem _ (partsE_head (h := h) (l := s' :: l) q1.2.2.2))
    rw [los_cons, q2.2.1] at hx
    have : s.hi = f := by simpa [los] using hx
    rw [this, q1.2.1] at h1
    exact ltT _ h1
  | s :: s' :: l, t :: t' :: l', f, q1, q2, hm => by
    rw [partsE_cons (by simp)] at q1 q2
    simp only [Bool.and_eq_true, decide_eq_true_eq, Bool.not_eq_true', decide_eq_false_iff_not] at q1 q2
    obtain ⟨r1, a1, n1, p1⟩ := q1
    obtain ⟨r2, b1, n2, p2⟩ := q2
    have h1 := (right_iff_.1 r1).2.2.resolve_left n1
    have h2 := (right_iff_.1 r2).2.2.resolve_left n2
    rw [a1] at h1
    rw [b1] at h2
    have g1 := partsE_ge p1
    have g2 := partsE_ge p2
    have m1 := partsE_head p1
    have m2 := partsE_head p2
    have up1 : ∀ y, y ∈ los (s' :: l) → f < y := fun y hy => by have := g1 y hy; grind
    have up2 : ∀ y, y ∈ los (t' :: l') → f < y := fun y hy => by have := g2 y hy; grind
    have hm' : ∀ y, y ∈ los (s' :: l) ↔ y ∈ los (t' :: l') := fun y => by
      have := hm y
      rw [los_cons s, los_cons t, a1, b1] at this
      constructor
      · intro hy
        rcases List.mem_cons.1 (this.1 (List.mem_cons_of_mem _ hy)) with e | e
        · have := up1 y hy; rw [e] at this; exact absurd this (ltT _)
        · exact e
      · intro hy
        rcases List.mem_cons.1 (this.2 (List.mem_cons_of_mem _ hy)) with e | e
        · have := up2 y hy; rw [e] at this; exact absurd this (ltT _)
        · exact e
    have e : s.hi = t.hi := by
      have := g1 _ ((hm' _).2 m2)
      have := g2 _ ((hm' _).1 m1)
      grind
    rw [e] at p1
    have := partsE_ext p1 p2 hm'
    rw [this]
    obtain ⟨slo, shi⟩ := s
    obtain ⟨tlo, thi⟩ := t
    dsimp only at a1 b1 e
    rw [a1, b1, e]
def insF (k : Tx) : List DSpan → List DSpan
  | [] => []
  | x :: l => bif !hasB x k then x :: insF k l else bif decide (k = x.lo) then x :: insF k l else ⟨x.lo, k⟩ :: ⟨k, x.hi⟩ :: l
theorem insF_los {k y : Tx} : ∀ {l : List DSpan}, y ∈ los (insF k l) ↔ y ∈ los l ∨ (y = k ∧ ∃ x ∈ l, hasB x k = true)
  | [] => by simp [insF, los]
  | x :: l => by
    have ih := insF_los (k := k) (y := y) (l := l)
    unfold insF
    cases hh : hasB x k
    · simp only [Bool.not_false, cond_true, los_cons, List.mem_cons, ih, exists_eq_or_imp, hh]
      simp [or_assoc]
    · by_cases he : k = x.lo
      · simp only [Bool.not_true, cond_false, dT he, cond_true, los_cons, List.mem_cons, ih, exists_eq_or_imp, hh, true_or, and_true]
        constructor
        · rintro (h | h | ⟨h, _⟩)
          · exact .inl (.inl h)
          · exact .inl (.inr h)
          · exact .inr h
        · rintro ((h | h) | h)
          · exact .inl h
          · exact .inr (.inl h)
          · exact .inl (h.trans he)
      · simp only [Bool.not_true, cond_false, dF he, los_cons, List.mem_cons, exists_eq_or_imp, hh, true_or, and_true]
        constructor
        · rintro (h | h | h)
          · exact .inl (.inl h)
          · exact .inr h
          · exact .inl (.inr h)
        · rintro ((h | h) | h)
          · exact .inl h
          · exact .inr (.inr h)
          · exact .inr (.inl h)
theorem insF_parts {h k : Tx} : ∀ {l : List DSpan} {f : Tx}, partsE h f l = true → partsE h f (insF k l) = true
  | [], _, q => by cases q
  | [x], f, q => by
    unfold insF
    cases hh : hasB x k
    · simpa [insF] using q
    · by_cases he : k = x.lo
      · simpa [insF, he] using q
      · have g := has_iff.1 hh
        have gr := right_iff_.1 g.1
        simp only [Bool.not_true, cond_false, dF he]
        simp only [partsE, Bool.and_eq_true, decide_eq_true_eq, Bool.not_eq_true', decide_eq_false_iff_not] at q ⊢
        exact ⟨right_iff_.2 ⟨gr.1, .inr g.2.1, .inr (by have := g.2.2.1; grind)⟩, q.2.1, keyB_ne g.2.1, right_iff_.2 ⟨.inr g.2.1, gr.2.1, g.2.2.2⟩, trivial, q.2.2⟩
  | x :: y :: l, f, q => by
    rw [partsE_cons (by simp)] at q
    simp only [Bool.and_eq_true] at q
    have ih := insF_parts (k := k) q.2.2.2
    unfold insF
    cases hh : hasB x k
    · simp only [Bool.not_false, cond_true]
      rw [partsE_cons (partsE_ne ih)]
      simp only [Bool.and_eq_true]
      exact ⟨q.1, q.2.1, q.2.2.1, ih⟩
    · by_cases he : k = x.lo
      · simp only [Bool.not_true, cond_false, dT he, cond_true]
        rw [partsE_cons (partsE_ne ih)]
        simp only [Bool.and_eq_true]
        exact ⟨q.1, q.2.1, q.2.2.1, ih⟩
      · have g := has_iff.1 hh
        have gr := right_iff_.1 g.1
        simp only [Bool.not_true, cond_false, dF he]
        rw [partsE_cons (by simp), partsE_cons (by simp)]
        simp only [Bool.and_eq_true, decide_eq_true_eq, Bool.not_eq_true', decide_eq_false_iff_not] at q ⊢
        exact ⟨right_iff_.2 ⟨gr.1, .inr g.2.1, .inr (by have := g.2.2.1; grind)⟩, q.2.1, keyB_ne g.2.1, right_iff_.2 ⟨.inr g.2.1, gr.2.1, g.2.2.2⟩, trivial, q.2.2.1, q.2.2.2⟩
theorem parts_some {s : DSpan} {l : List DSpan} (hr : rightB s = true) (q : partsE s.hi s.lo l = true) (k : Tx) : (∃ x ∈ l, hasB x k = true) ↔ hasB s k = true := by
  have h := partsE_has (k := k) q
  rw [← List.countP_pos_iff (p := fun x => hasB x k), h]
  by_cases c : hasB s k = true
  · rw [if_pos (has_iff.1 c).2]; simp [c]
  · rw [if_neg (fun d => c (has_iff.2 ⟨hr, d⟩))]; simp [c]
def insAll (l : List DSpan) (at_ : List Tx) : List DSpan := at_.foldl (fun l k => insF k l) l
theorem insAll_parts {h f : Tx} : ∀ {at_ : List Tx} {l : List DSpan}, partsE h f l = true → partsE h f (insAll l at_) = true
  | [], _, q => q
  | _ :: at_, _, q => insAll_parts (at_ := at_) (insF_parts q)
theorem insAll_los {s : DSpan} (hr : rightB s = true) {y : Tx} : ∀ {at_ : List Tx} {l : List DSpan}, partsE s.hi s.lo l = true → (y ∈ los (insAll l at_) ↔ y ∈ los l ∨ (y ∈ at_ ∧ hasB s y = true))
  | [], l, q => by simp [insAll]
  | k :: at_, l, q => by
    have ih := insAll_los hr (y := y) (at_ := at_) (insF_parts (k := k) q)
    change y ∈ los (insAll (insF k l) at_) ↔ _
    rw [ih, insF_los, parts_some hr q, List.mem_cons]
    constructor
    · rintro ((h | ⟨rfl, h⟩) | ⟨h, g⟩)
      · exact .inl h
      · exact .inr ⟨.inl rfl, h⟩
      · exact .inr ⟨.inr h, g⟩
    · rintro (h | ⟨rfl | h, g⟩)
      · exact .inl (.inl h)
      · exact .inl (.inr ⟨rfl, g⟩)
      · exact .inr ⟨h, g⟩
theorem cutF_los {y : Tx} : ∀ {l : List Tx} {s : DSpan}, rightB s = true → (l.Pairwise fun x y => ¬ y < x) → (y ∈ los (cutF s l) ↔ y = s.lo ∨ (y ∈ l ∧ hasB s y = true))
  | [], s, _, _ => by simp [cutF, los]
  | k :: l, s, hr, hp => by
    obtain ⟨hp1, hp2⟩ := List.pairwise_cons.1 hp
    rw [cutF_cons]
    cases hh : hasB s k
    · simp only [Bool.not_false, cond_true]
      rw [cutF_los hr hp2, List.mem_cons]
      constructor
      · rintro (h | ⟨h, g⟩)
        · exact .inl h
        · exact .inr ⟨.inr h, g⟩
      · rintro (h | ⟨rfl | h, g⟩)
        · exact .inl h
        · rw [hh] at g; cases g
        · exact .inr ⟨h, g⟩
    · by_cases he : k = s.lo
      · simp only [Bool.not_true, cond_false, dT he, cond_true]
        rw [cutF_los hr hp2, List.mem_cons]
        constructor
        · rintro (h | ⟨h, g⟩)
          · exact .inl h
          · exact .inr ⟨.inr h, g⟩
        · rintro (h | ⟨rfl | h, g⟩)
          · exact .inl h
          · exact .inl he
          · exact .inr ⟨h, g⟩
      · simp only [Bool.not_true, cond_false, dF he]
        have g := has_iff.1 hh
        have gr := right_iff_.1 g.1
        have hr2 : rightB ⟨k, s.hi⟩ = true := right_iff_.2 ⟨.inr g.2.1, gr.2.1, g.2.2.2⟩
        rw [los_cons, List.mem_cons, cutF_los hr2 hp2, List.mem_cons]
        have hy : y ∈ l → (hasB ⟨k, s.hi⟩ y = true ↔ hasB s y = true) := fun hy => by
          rw [has_iff, has_iff]
          have := hp1 y hy
          constructor
          · rintro ⟨_, a, b, c⟩
            exact ⟨hr, a, by have := g.2.2.1; dsimp only at b; grind, c⟩
          · rintro ⟨_, a, b, c⟩
            exact ⟨hr2, a, this, c⟩
        dsimp only
        constructor
        · rintro (h | rfl | ⟨h, q⟩)
          · exact .inl h
          · exact .inr ⟨.inl rfl, hh⟩
          · exact .inr ⟨.inr h, (hy h).1 q⟩
        · rintro (h | ⟨rfl | h, q⟩)
          · exact .inl h
          · exact .inr (.inl rfl)
          · exact .inr (.inr ⟨h, (hy h).2 q⟩)
theorem insF_len (k : Tx) : ∀ l : List DSpan, (insF k l).length ≤ l.length + 1
  | [] => by simp [insF]
  | x :: l => by
    have := insF_len k l
    unfold insF
    cases hasB x k
    · simp; omega
    · by_cases he : k = x.lo
      · simp only [Bool.not_true, cond_false, dT he, cond_true, List.length_cons]; omega
      · simp only [Bool.not_true, cond_false, dF he, List.length_cons]; omega
theorem insF_ok {k : Tx} (hk : OkT k) : ∀ {l : List DSpan}, (∀ x ∈ l, OkSp x) → ∀ x ∈ insF k l, OkSp x
  | [], _, x, hx => by cases hx
  | a :: l, h, x, hx => by
    have ih := insF_ok hk (l := l) fun x hx => h x (List.mem_cons_of_mem _ hx)
    unfold insF at hx
    cases hh : hasB a k
    · rw [hh] at hx
      rcases List.mem_cons.1 hx with rfl | hx
      · exact h _ List.mem_cons_self
      · exact ih x hx
    · rw [hh] at hx
      by_cases he : k = a.lo
      · simp only [Bool.not_true, cond_false, dT he, cond_true] at hx
        rcases List.mem_cons.1 hx with rfl | hx
        · exact h _ List.mem_cons_self
        · exact ih x hx
      · simp only [Bool.not_true, cond_false, dF he, List.mem_cons] at hx
        have ha := h a List.mem_cons_self
        rcases hx with rfl | rfl | hx
        · exact ⟨ha.1, hk⟩
        · exact ⟨hk, ha.2⟩
        · exact h x (List.mem_cons_of_mem _ hx)
theorem insF_skip {k : Tx} {l : List DSpan} {j : Nat} (hj : j < l.length) (h : hasB l[j] k = false ∨ k = l[j].lo) : insF k (l.drop j) = l[j] :: insF k (l.drop (j + 1)) := by
  rw [List.drop_eq_getElem_cons hj, insF]
  rcases h with h | h
  · rw [h]; rfl
  · cases hasB l[j] k
    · rfl
    · rw [dT h]; rfl
theorem refCutIn_p {at_ : List Tx} {i : Nat} (hi : i < at_.length) (hk : OkT at_[i]) {L : List DSpan} (hL : ∀ x ∈ L, OkSp x) (hn : L.length ≤ 1000) :
    loopM watershedref04_Cut_l2 ((at_, L.length, (i : Int), 0, ()), (L, ())) = some ((at_, (insF at_[i] L).length, (i : Int), ()), ((), insF at_[i] L, ())) := by
  refine loopM_eq_of (fun n a => ∃ k : Nat, a = ((at_, L.length, (i : Int), (k : Int), ()), (L, ())) ∧ k ≤ L.length ∧ insF at_[i] L = L.take k ++ insF at_[i] (L.drop k) ∧ n = L.length - k) _ ?_ (n := L.length) ⟨0, rfl, Nat.zero_le _, rfl, rfl⟩
  rintro n a ⟨k, rfl, h1, h2, rfl⟩
  unfold watershedref04_Cut_l2
  by_cases hkl : k < L.length
  · have g : L[0 + ((k : Int)).toNat]? = some L[k] := by rw [Nat.zero_add, Int.toNat_natCast, List.getElem?_eq_getElem hkl]
    have next : (hasB L[k] at_[i] = false ∨ at_[i] = L[k].lo) → insF at_[i] L = L.take (k + 1) ++ insF at_[i] (L.drop (k + 1)) := fun h => by
      rw [h2, insF_skip hkl h, List.take_succ_eq_append_getElem hkl, List.append_assoc]; rfl
    cases hh : hasB L[k] at_[i]
    · left
      refine ⟨L.length - (k + 1), _, by omega, condT (dT (by dsimp only; omega)) (iteT (by dsimp only; omega) (bindS g (bindS (getI_lt hi) (bindS (refHas_p (hL _ (List.getElem_mem hkl)) hk) (condT (by dsimp only; rw [hh]; rfl) rfl))))), k + 1, ?_, by omega, next (.inl hh), rfl⟩
      dsimp only; rw [w64 (by omega)]; rfl
    · by_cases he : at_[i] = L[k].lo
      · left
        refine ⟨L.length - (k + 1), _, by omega, condT (dT (by dsimp only; omega)) (iteT (by dsimp only; omega) (bindS g (bindS (getI_lt hi) (bindS (refHas_p (hL _ (List.getElem_mem hkl)) hk) (condF (by dsimp only; rw [hh]; rfl) (bindS (getI_lt hi) (condT (dT he) rfl))))))), k + 1, ?_, by omega, next (.inr he), rfl⟩
        dsimp only; rw [w64 (by omega)]; rfl
      · right
        have hins : insF at_[i] L = L.take k ++ ⟨L[k].lo, at_[i]⟩ :: ⟨at_[i], L[k].hi⟩ :: L.drop (k + 1) := by
          rw [h2, List.drop_eq_getElem_cons hkl, insF, hh, dF he]; rfl
        have hw : IntKind.i64.wrap ((k : Int) + 1) = ((k + 1 : Nat) : Int) := by rw [w64 (by omega)]; rfl
        have e5 : (L.drop (k + 1)).take (L.length - (k + 1)) = L.drop (k + 1) := List.take_of_length_le (by rw [List.length_drop]; omega)
        have hdl : (L.drop (k + 1)).length = L.length - (k + 1) := List.length_drop
        have htl : (L.take k).length = k := by rw [List.length_take]; omega
        have hval : (L.take k ++ [(⟨L[k].lo, at_[i]⟩ : DSpan), ⟨at_[i], L[k].hi⟩]).take (k + 2) ++ L.drop (k + 1) = insF at_[i] L := by
          rw [hins, List.take_of_length_le (by rw [List.length_append, htl]; simp)]
          simp
        have hlen : k + 2 + (L.drop (k + 1)).length = (insF at_[i] L).length := by
          rw [hins]; simp only [List.length_append, List.length_cons, htl]; omega
        refine condT (dT (by dsimp only; omega)) ?_
        refine iteT (by dsimp only; omega) ?_
        refine bindS g ?_
        refine bindS (getI_lt hi) ?_
        refine bindS (refHas_p (hL _ (List.getElem_mem hkl)) hk) ?_
        refine condF (by dsimp only; rw [hh]; rfl) ?_
        refine bindS (getI_lt hi) ?_
        refine condF (dF he) ?_
        dsimp only
        simp only [hw, Int.toNat_natCast, Nat.zero_add, e5, List.take_nil, List.drop_nil, List.nil_append, List.append_nil, List.drop_zero, List.length_nil, Int.toNat_zero, Nat.sub_zero, Nat.add_zero, List.take_zero, List.length_cons, List.take_length]
        refine iteT (by omega) ?_
        refine iteT (by omega) ?_
        refine iteT (by omega) ?_
        by_cases hz : (L.drop (k + 1)).length ≤ 0
        · refine iteT hz ?_
          refine iteT (by omega) ?_
          refine bindS (getI_lt hi) (bindS (getI_lt hi) ?_)
          refine iteT (by omega) ?_
          refine iteT (Nat.le_refl _) ?_
          refine iteT (by rw [List.length_append, htl]; simp only [List.length_cons, List.length_nil]; omega) ?_
          rw [hval, hlen]
        · refine iteF hz ?_
          refine iteT (by omega) ?_
          refine bindS (getI_lt hi) (bindS (getI_lt hi) ?_)
          refine iteT (by omega) ?_
          refine iteT (Nat.le_refl _) ?_
          refine iteT (by rw [List.length_append, htl]; simp only [List.length_cons, List.length_nil]; omega) ?_
          rw [hval, hlen]
  · right
    obtain rfl : k = L.length := by omega
    rw [List.take_length, List.drop_length, insF, List.append_nil] at h2
    refine condF (dF (by dsimp only; omega)) ?_
    rw [h2]
theorem insAll_snoc (l : List DSpan) (at_ : List Tx) (k : Tx) : insAll l (at_ ++ [k]) = insF k (insAll l at_) := by simp [insAll]
theorem refCut_q {s : DSpan} {at_ : List Tx} (hs : OkSp s) (ha : ∀ k ∈ at_, OkT k) (hn : at_.length ≤ 900) (hr : rightB s = true) : watershedref04_Cut s at_ = some ((insAll [s] at_).length, (insAll [s] at_, ())) := by
  unfold watershedref04_Cut
  refine bindS (refRight_p hs) ?_
  rw [hr]
  refine condF rfl ?_
  have ok : ∀ (l : List Tx), (∀ k ∈ l, OkT k) → ∀ L : List DSpan, (∀ x ∈ L, OkSp x) → ∀ x ∈ insAll L l, OkSp x := by
    intro l
    induction l with
    | nil => intro _ L hL; exact hL
    | cons k l ih => intro hl L hL; exact ih (fun k hk => hl k (List.mem_cons_of_mem _ hk)) _ (insF_ok (hl k List.mem_cons_self) hL)
  have len : ∀ (l : List Tx) (L : List DSpan), (insAll L l).length ≤ L.length + l.length := by
    intro l
    induction l with
    | nil => intro L; exact Nat.le_refl _
    | cons k l ih => intro L; have := ih (insF k L); have := insF_len k L; change (insAll (insF k L) l).length ≤ _; rw [List.length_cons]; omega
  have hl : loopM watershedref04_Cut_l1 ((at_, 1, 0, ()), (([s] : List DSpan), ())) = some (((insAll [s] at_).length, ()), ((), insAll [s] at_, ())) := by
    refine loopM_run (step := watershedref04_Cut_l1) (fun j : Nat => ((at_, (insAll [s] (at_.take j)).length, (j : Int), ()), (insAll [s] (at_.take j), ()))) (N := at_.length) (fun j hj => ?_) ?_
    · have := len (at_.take j) [s]
      rw [List.length_take, List.length_singleton] at this
      unfold watershedref04_Cut_l1
      refine condT (dT (by dsimp only; omega)) ?_
      refine bindS (refCutIn_p hj (ha _ (List.getElem_mem hj)) (ok _ (fun k hk => ha k (List.mem_of_mem_take hk)) _ (by simpa using hs)) (by omega)) ?_
      dsimp only
      rw [w64 (by omega), List.take_succ_eq_append_getElem hj, insAll_snoc]
      rfl
    · unfold watershedref04_Cut_l1
      refine condF (dF (by dsimp only; omega)) ?_
      dsimp only
      rw [List.take_length]
  exact bindS hl rfl
def chainB : DSpan → List DSpan → Bool
  | _, [] => true
  | p, s :: t => rightB s && ((!decide (p.hi = []) && decide (p.hi = s.lo)) && chainB s t)
theorem chainB_cons (p s : DSpan) (t : List DSpan) : chainB p (s :: t) = (rightB s && ((!decide (p.hi = []) && decide (p.hi = s.lo)) && chainB s t)) := rfl
theorem partsF_chain : ∀ (f : Tx) (s : DSpan) (l : List DSpan), partsF f (s :: l) = (decide (s.lo = f) && (decide (((s :: l).getLast (by simp)).hi = []) && (rightB s && chainB s l)))
  | f, s, [] => by
    show (rightB s && (decide (s.lo = f) && decide (s.hi = []))) = (decide (s.lo = f) && (decide (s.hi = []) && (rightB s && true)))
    cases rightB s <;> by_cases h1 : s.lo = f <;> by_cases h2 : s.hi = [] <;> simp [h1, h2]
  | f, s, t :: l => by
    have ih := partsF_chain s.hi t l
    have e : (s :: t :: l).getLast (by simp) = (t :: l).getLast (by simp) := List.getLast_cons (by simp)
    show (rightB s && (decide (s.lo = f) && (!decide (s.hi = []) && partsF s.hi (t :: l)))) = _
    rw [ih, e, chainB_cons]
    have e2 : decide (t.lo = s.hi) = decide (s.hi = t.lo) := by by_cases h : t.lo = s.hi <;> simp [h, eq_comm]
    rw [e2]
    cases rightB s <;> cases rightB t <;> cases chainB t l <;> by_cases h1 : s.lo = f <;> by_cases h2 : s.hi = [] <;> by_cases h3 : s.hi = t.lo <;> by_cases h4 : ((t :: l).getLast (by simp)).hi = [] <;> simp [h1, h2, h3, h4]
theorem refParts_p {l : List DSpan} (hl : l.length ≤ 140737488355328) (h : ∀ s ∈ l, OkSp s) : watershedref04_Parts l = some (partsF [] l, ()) := by
  unfold watershedref04_Parts
  cases l with
  | nil => rfl
  | cons s t =>
  rw [partsF_chain]
  have hlast : getI (s :: t) (IntKind.i64.wrap (((s :: t).length : Int) - 1)) = some ((s :: t).getLast (by simp)) := by
    have : (0 : Nat) < (s :: t).length := by simp
    rw [w64 (by omega), show (((s :: t).length : Int) - 1) = (((s :: t).length - 1 : Nat) : Int) from by omega, getI_lt (by omega), List.getLast_eq_getElem]
  refine condF (dF (by simp; omega)) ?_
  refine bindS (getI_zero _) ?_
  by_cases h1 : s.lo = []
  · refine condF (dF (by simp [h1])) ?_
    refine bindS hlast ?_
    by_cases h2 : ((s :: t).getLast (by simp)).hi = []
    · refine condF (dF (by simp [h2])) ?_
      rw [dT h1, dT h2, Bool.true_and, Bool.true_and]
      clear hlast h2
      generalize hL : s :: t = l at *
      have hpos : 0 < l.length := by rw [← hL]; simp
      have hval : (rightB s && chainB s t) = (rightB l[0] && chainB l[0] (l.drop 1)) := by subst hL; rfl
      rw [hval]
      have key : loopM watershedref04_Parts_l1 ((l, 0, ()), ()) = some (if (rightB l[0] && chainB l[0] (l.drop 1)) then .inr ((), ()) else .inl ((false, ()), ())) := by
        refine loopM_eq_of (fun n a => ∃ i : Nat, a = ((l, (i : Int), ()), ()) ∧ i ≤ l.length ∧ (0 < i → ∃ h : i - 1 < l.length, chainB l[i-1] (l.drop i) = (rightB l[0] && chainB l[0] (l.drop 1))) ∧ n = l.length - i) _ ?_ (n := l.length) ⟨0, rfl, Nat.zero_le _, (fun h => absurd h (Nat.lt_irrefl 0)), rfl⟩
        rintro n a ⟨i, rfl, g1, g2, rfl⟩
        unfold watershedref04_Parts_l1
        dsimp only
        by_cases hi : i < l.length
        · have ho := h _ (List.getElem_mem hi)
          rw [dT (by omega), cond_true, getI_lt hi, Option.bind_some, refRight_p ho, Option.bind_some]
          dsimp only
          by_cases h0 : 0 < i
          · obtain ⟨hp, g2⟩ := g2 h0
            rw [List.drop_eq_getElem_cons hi, chainB_cons] at g2
            rw [dT (by omega), cond_true, w64 (by omega), show ((i : Int) - 1) = ((i - 1 : Nat) : Int) from by omega, getI_lt hp, Option.bind_some, Option.bind_some, Option.bind_some, w64 (by omega)]
            rw [← g2]
            cases q1 : rightB l[i]
            · right; rfl
            · by_cases q2 : l[i-1].hi = []
              · right; simp [q2]
              · by_cases q3 : l[i-1].hi = l[i].lo
                · left
                  refine ⟨l.length - (i + 1), _, by omega, ?_, i + 1, rfl, by omega, fun _ => ⟨by omega, ?_⟩, rfl⟩
                  · have q4 : ¬ l[i].lo = [] := by rw [← q3]; exact q2
                    simp [q3, q4]
                  · have q4 : ¬ l[i].lo = [] := by rw [← q3]; exact q2
                    simp only [Nat.add_sub_cancel]
                    simp [q3, q4]
                · right; simp [q2, q3]
          · obtain rfl : i = 0 := by omega
            rw [dF (by omega), cond_false]
            cases q1 : rightB l[0]
            · right; rfl
            · left
              exact ⟨l.length - 1, _, by omega, rfl, 1, by rw [w64 (by omega)]; rfl, by omega, fun _ => ⟨by omega, by rw [Bool.true_and]⟩, rfl⟩
        · right
          obtain rfl : i = l.length := by omega
          obtain ⟨hp, g2⟩ := g2 hpos
          rw [List.drop_length] at g2
          rw [dF (by omega), cond_false, ← g2]
          rfl
      rw [key]
      cases (rightB l[0] && chainB l[0] (l.drop 1)) <;> rfl
    · refine condT (dT h2) ?_
      rw [dF h2]; simp
  · refine condT (dT h1) ?_
    rw [dF h1]; rfl
theorem cutF_ok : ∀ (l : List Tx) {s : DSpan}, OkSp s → (∀ k ∈ l, OkT k) → ∀ x ∈ cutF s l, OkSp x
  | [], s, h, _, x, hx => by
    simp only [cutF, List.mem_singleton] at hx
    rw [hx]; exact h
  | k :: l, s, h, hl, x, hx => by
    have hk := hl k List.mem_cons_self
    have hl' : ∀ k ∈ l, OkT k := fun y hy => hl y (List.mem_cons_of_mem _ hy)
    rw [cutF_cons] at hx
    cases hh : hasB s k
    · rw [hh] at hx
      exact cutF_ok l h hl' x hx
    · rw [hh] at hx
      by_cases he : k = s.lo
      · rw [dT he] at hx
        exact cutF_ok l h hl' x hx
      · rw [dF he] at hx
        simp only [Bool.not_true, cond_false, List.mem_cons] at hx
        rcases hx with rfl | hx
        · exact ⟨h.1, hk⟩
        · exact cutF_ok l (s := ⟨k, s.hi⟩) ⟨hk, h.2⟩ hl' x hx
theorem turnF_ok {s : DShares} (h : ∀ x ∈ s.list, OkSp x.span) {a : DSpan} (ha : OkSp a) {g : Int} {i : Nat} (hi : i < s.list.length) : ∀ x ∈ (turnF s i a g).list, OkSp x.span := by
  intro x hx
  have hxe : s.list[i]?.getD noSh = s.list[i] := by rw [List.getElem?_eq_getElem hi]; rfl
  unfold turnF at hx
  rw [hxe] at hx
  simp only [List.mem_append] at hx
  rcases hx with (hx | hx) | hx
  · exact h _ (List.mem_of_mem_take hx)
  · unfold partF at hx
    obtain ⟨p, hp, rfl⟩ := List.mem_map.1 hx
    rw [piece_span]
    refine cutF_ok _ (h _ (List.getElem_mem hi)) (fun k hk => ?_) p hp
    unfold at2 at hk
    split at hk
    · simp only [List.mem_singleton] at hk; rw [hk]; exact ha.1
    · split at hk <;> simp only [List.mem_cons, List.not_mem_nil, or_false] at hk <;> rcases hk with rfl | rfl
      · exact ha.2
      · exact ha.1
      · exact ha.1
      · exact ha.2
  · exact h _ (List.mem_of_mem_drop hx)
end Go.Proofs.YtcamfdmgpmdmhaaGreat
/- The reference of Turn, plainly: it tells what Turn tells. -/
namespace Go.Proofs.YtcamfdmgpmdmhaaGreat
open Go.RowKit
set_option maxRecDepth 100000
set_option linter.unusedVariables false
set_option linter.unusedSimpArgs false
theorem partsE_pw {h : Tx} : ∀ {l : List DSpan} {f : Tx}, partsE h f l = true → (los l).Pairwise fun x y => x < y
  | [], _, q => by cases q
  | [s], _, _ => by simp [los]
  | s :: t :: l, f, q => by
    rw [partsE_cons (by simp)] at q
    simp only [Bool.and_eq_true, decide_eq_true_eq, Bool.not_eq_true', decide_eq_false_iff_not] at q
    have h1 := (right_iff_.1 q.1).2.2.resolve_left q.2.2.1
    have ih := partsE_pw q.2.2.2
    rw [los_cons, List.pairwise_cons]
    refine ⟨fun y hy => ?_, ih⟩
    have := partsE_ge q.2.2.2 y hy
    grind
theorem lo_one {s : DShares} (h : rightW s = true) {i j : Nat} (hi : i < s.list.length) (hj : j < s.list.length) (he : s.list[j].span.lo = s.list[i].span.lo) : j = i := by
  have hp := (right_iff.1 h).2.2.2
  rw [partsF_E] at hp
  have hpw := List.pairwise_iff_getElem.1 (partsE_pw hp)
  have hg : ∀ k (hk : k < s.list.length), (los (s.list.map (·.span)))[k]'(by simpa [los] using hk) = s.list[k].span.lo := fun k hk => by simp [los]
  rcases Nat.lt_trichotomy j i with c | c | c
  · have := hpw j i (by simpa [los] using hj) (by simpa [los] using hi) c
    rw [hg j hj, hg i hi, he] at this
    exact absurd this (ltT _)
  · exact c
  · have := hpw i j (by simpa [los] using hi) (by simpa [los] using hj) c
    rw [hg j hj, hg i hi, he] at this
    exact absurd this (ltT _)
/-- The texts of a span that are some. -/
def neF (a : DSpan) : List Tx := (if a.lo = [] then [] else [a.lo]) ++ (if a.hi = [] then [] else [a.hi])
theorem has_ne {s : DSpan} {y : Tx} (h : hasB s y = true) : y ≠ [] := keyB_ne (has_iff.1 h).2.1
theorem mem_ne {a : DSpan} {y : Tx} (hy : y ≠ []) : y ∈ neF a ↔ y ∈ at2 a.lo a.hi := by
  have h2 : y ∈ at2 a.lo a.hi ↔ y = a.lo ∨ y = a.hi := by
    unfold at2
    by_cases h : a.lo = a.hi
    · rw [if_pos h]; simp [h]
    · rw [if_neg h]; split <;> simp [or_comm]
  rw [h2]
  unfold neF
  rw [List.mem_append]
  constructor
  · rintro (h | h)
    · split at h
      · cases h
      · simp only [List.mem_singleton] at h; exact .inl h
    · split at h
      · cases h
      · simp only [List.mem_singleton] at h; exact .inr h
  · rintro (h | h)
    · left; rw [if_neg (fun e => hy (h.trans e)), h]; exact List.mem_singleton.2 rfl
    · right; rw [if_neg (fun e => hy (h.trans e)), h]; exact List.mem_singleton.2 rfl
theorem at2_pw (x y : Tx) : (at2 x y).Pairwise fun x y => ¬ y < x := by
  unfold at2
  split
  · simp
  · split
    · rename_i h1 h2
      simp only [List.pairwise_cons, List.mem_singleton, forall_eq, List.not_mem_nil, false_imp_iff, implies_true, List.Pairwise.nil, and_true]
      grind
    · rename_i h1 h2
      simp only [List.pairwise_cons, List.mem_singleton, forall_eq, List.not_mem_nil, false_imp_iff, implies_true, List.Pairwise.nil, and_true]
      exact h2
theorem ins_cut {s : DSpan} (hr : rightB s = true) (a : DSpan) : insAll [s] (neF a) = cutF s (at2 a.lo a.hi) := by
  have h0 : partsE s.hi s.lo [s] = true := by simp [partsE, hr]
  refine partsE_ext (insAll_parts h0) (cutF_parts _ hr) fun y => ?_
  rw [insAll_los hr h0, cutF_los hr (at2_pw _ _)]
  have hl : y ∈ los [s] ↔ y = s.lo := by simp [los]
  rw [hl]
  constructor
  · rintro (h | ⟨h, g⟩)
    · exact .inl h
    · exact .inr ⟨(mem_ne (has_ne g)).1 h, g⟩
  · rintro (h | ⟨h, g⟩)
    · exact .inl h
    · exact .inr ⟨(mem_ne (has_ne g)).2 h, g⟩
theorem neF_ok {a : DSpan} (ha : OkSp a) : ∀ k ∈ neF a, OkT k := by
  intro k hk
  unfold neF at hk
  rcases List.mem_append.1 hk with h | h
  · split at h
    · cases h
    · rw [List.mem_singleton.1 h]; exact ha.1
  · split at h
    · cases h
    · rw [List.mem_singleton.1 h]; exact ha.2
theorem neF_len (a : DSpan) : (neF a).length ≤ 2 := by
  unfold neF
  rw [List.length_append]
  split <;> split <;> simp
theorem refR5_p {s : DShares} (h : OkSh s) : watershedref05_Right s = some (rightW s, ()) := by
  have hlen := h.len
  unfold watershedref05_Right
  by_cases h1 : s.epoch < 1
  · refine condT (dT h1) ?_
    have : rightW s = false := by unfold rightW; rw [dF (by omega : ¬ 1 ≤ s.epoch)]; rfl
    rw [this]
  refine condF (dF h1) ?_
  by_cases h2 : 1073741824 < s.epoch
  · refine condT (dT h2) ?_
    have : rightW s = false := by unfold rightW; rw [dF (by omega : ¬ s.epoch ≤ 1073741824), Bool.and_false]; rfl
    rw [this]
  refine condF (dF h2) ?_
  by_cases h3 : (40 : Int) < (s.list.length : Int)
  · refine condT (dT h3) ?_
    have : rightW s = false := by unfold rightW; rw [dF (by omega : ¬ s.list.length ≤ 40)]; simp
    rw [this]
  refine condF (dF h3) ?_
  have hrw : rightW s = (!(s.list.any (wrongB s)) && partsF [] (s.list.map (·.span))) := by
    unfold rightW
    rw [dT (by omega : 1 ≤ s.epoch), dT (by omega : s.epoch ≤ 1073741824), dT (by omega : s.list.length ≤ 40)]
    rfl
  have key : ∃ z, loopM watershedref05_Right_l1 (((), [], 0, ()), (s, (), ())) = some z ∧ (((∃ e : Unit × Unit, z = .inl ((false, ()), (s, (), ()))) ∧ s.list.any (wrongB s) = true) ∨ (z = .inr ((s.list.map (·.span), ()), (s, (), (), ())) ∧ s.list.any (wrongB s) = false)) := by
    refine loopM_spec (fun n a => ∃ i : Nat, a = (((), (s.list.take i).map (·.span), (i : Int), ()), (s, (), ())) ∧ i ≤ s.list.length ∧ (s.list.take i).any (wrongB s) = false ∧ n = s.list.length - i) _ ?_ (n := s.list.length) ⟨0, rfl, Nat.zero_le _, rfl, rfl⟩
    rintro n a ⟨i, rfl, g1, g2, rfl⟩
    unfold watershedref05_Right_l1
    by_cases hi : i < s.list.length
    · have hw : ∀ b, wrongB s s.list[i] = b → (b = true → s.list.any (wrongB s) = true) := fun b hb ht => List.any_eq_true.2 ⟨_, List.getElem_mem hi, by rw [hb, ht]⟩
      by_cases q1 : s.list[i].group < 1
      · right
        exact ⟨_, condT (dT (by dsimp only; omega)) (bindS (getI_lt hi) (condT (dT q1) rfl)), .inl ⟨⟨((), ()), rfl⟩, hw true (by unfold wrongB; rw [dF (by omega : ¬ 1 ≤ s.list[i].group)]; rfl) rfl⟩⟩
      by_cases q2 : 4 < s.list[i].group
      · right
        exact ⟨_, condT (dT (by dsimp only; omega)) (bindS (getI_lt hi) (condF (dF q1) (condT (dT q2) rfl))), .inl ⟨⟨((), ()), rfl⟩, hw true (by unfold wrongB; rw [dF (by omega : ¬ s.list[i].group ≤ 4), Bool.and_false]; rfl) rfl⟩⟩
      by_cases q3 : s.list[i].epoch < 1
      · right
        exact ⟨_, condT (dT (by dsimp only; omega)) (bindS (getI_lt hi) (condF (dF q1) (condF (dF q2) (condT (dT q3) rfl)))), .inl ⟨⟨((), ()), rfl⟩, hw true (by unfold wrongB; rw [dF (by omega : ¬ 1 ≤ s.list[i].epoch)]; simp) rfl⟩⟩
      by_cases q4 : s.epoch < s.list[i].epoch
      · right
        exact ⟨_, condT (dT (by dsimp only; omega)) (bindS (getI_lt hi) (condF (dF q1) (condF (dF q2) (condF (dF q3) (condT (dT q4) rfl))))), .inl ⟨⟨((), ()), rfl⟩, hw true (by unfold wrongB; rw [dF (by omega : ¬ s.list[i].epoch ≤ s.epoch)]; simp) rfl⟩⟩
      · left
        refine ⟨s.list.length - (i + 1), _, by omega, condT (dT (by dsimp only; omega)) (bindS (getI_lt hi) (condF (dF q1) (condF (dF q2) (condF (dF q3) (condF (dF q4) (iteT ?_ rfl)))))), i + 1, ?_, by omega, ?_, rfl⟩
        · dsimp only
          simp only [List.length_map, List.length_take, List.length_cons, List.length_nil]
          omega
        · dsimp only
          rw [w64 (by omega), List.take_succ_eq_append_getElem hi, List.map_append]
          rfl
        · rw [List.take_succ_eq_append_getElem hi, List.any_append, g2, Bool.false_or, List.any_cons, List.any_nil, Bool.or_false]
          exact wrong_of.2 ⟨⟨by omega, by omega⟩, by omega, by omega⟩
    · right
      obtain rfl : i = s.list.length := by omega
      rw [List.take_length] at g2 ⊢
      exact ⟨_, condF (dF (by dsimp only; omega)) rfl, .inr ⟨rfl, g2⟩⟩
  obtain ⟨z, hz, ⟨⟨_, rfl⟩, q⟩ | ⟨rfl, q⟩⟩ := key
  · refine bindS hz ?_
    rw [hrw, q]
    rfl
  · refine bindS hz ?_
    refine bindS (refParts_p (l := s.list.map (·.span)) (by rw [List.length_map]; omega) (fun x hx => ?_)) ?_
    · obtain ⟨y, hy, rfl⟩ := List.mem_map.1 hx
      exact h.sp y hy
    · rw [hrw, q]
      rfl
theorem refIn_none {s : DShares} (h : OkSh s) {a : DSpan} (ha : OkSp a) (hn : s.list.any (fun x => withinB a x.span) = false) : watershedref05_In s a = some ((noSh, false, ()), ()) := by
  have hlen := h.len
  have key : ∃ z, loopM watershedref05_In_l1 (((), (), (), 0, ()), (s, a, noSh, ())) = some z ∧ z = .inr (((), ()), (s, a, noSh, ())) := by
    refine loopM_spec (fun n b => ∃ i : Nat, b = (((), (), (), (i : Int), ()), (s, a, noSh, ())) ∧ i ≤ s.list.length ∧ n = s.list.length - i) _ ?_ (n := s.list.length) ⟨0, rfl, Nat.zero_le _, rfl⟩
    rintro n b ⟨i, rfl, g1, rfl⟩
    unfold watershedref05_In_l1
    by_cases hi : i < s.list.length
    · cases hr : rightW s
      · right
        exact ⟨_, condT (dT (by dsimp only; omega)) (bindS (refR5_p h) (condF hr rfl)), rfl⟩
      · left
        have hw : withinB a s.list[i].span = false := by
          have := List.any_eq_false.1 hn _ (List.getElem_mem hi)
          simpa using this
        refine ⟨s.list.length - (i + 1), _, by omega, condT (dT (by dsimp only; omega)) (bindS (refR5_p h) (condT hr (bindS (getI_lt hi) (bindS (refWithin_p ha (h.sp _ (List.getElem_mem hi))) (condF hw rfl))))), i + 1, ?_, by omega, rfl⟩
        dsimp only
        rw [w64 (by omega)]
        rfl
    · right
      exact ⟨_, condF (dF (by dsimp only; omega)) rfl, rfl⟩
  obtain ⟨z, hz, rfl⟩ := key
  unfold watershedref05_In
  exact bindS hz rfl
theorem refIn_some {s : DShares} (h : OkSh s) (hr : rightW s = true) {a : DSpan} (ha : OkSp a) {k : Nat} (hk : k < s.list.length) (hw : withinB a s.list[k].span = true) (hb : ∀ j (hj : j < s.list.length), j < k → withinB a s.list[j].span = false) : watershedref05_In s a = some ((s.list[k], true, ()), ()) := by
  have hlen := h.len
  have key : ∃ z, loopM watershedref05_In_l1 (((), (), (), 0, ()), (s, a, noSh, ())) = some z ∧ z = .inl (((), true, ()), (s, a, s.list[k], ())) := by
    refine loopM_spec (fun n b => ∃ i : Nat, b = (((), (), (), (i : Int), ()), (s, a, noSh, ())) ∧ i ≤ k ∧ n = k - i) _ ?_ (n := k) ⟨0, rfl, Nat.zero_le _, rfl⟩
    rintro n b ⟨i, rfl, g1, rfl⟩
    unfold watershedref05_In_l1
    have hi : i < s.list.length := by omega
    by_cases hik : i = k
    · subst hik
      right
      exact ⟨_, condT (dT (by dsimp only; omega)) (bindS (refR5_p h) (condT hr (bindS (getI_lt hi) (bindS (refWithin_p ha (h.sp _ (List.getElem_mem hi))) (condT hw (bindS (getI_lt hi) rfl)))))), rfl⟩
    · left
      refine ⟨k - (i + 1), _, by omega, condT (dT (by dsimp only; omega)) (bindS (refR5_p h) (condT hr (bindS (getI_lt hi) (bindS (refWithin_p ha (h.sp _ (List.getElem_mem hi))) (condF (hb i hi (by omega)) rfl))))), i + 1, ?_, by omega, rfl⟩
      dsimp only
      rw [w64 (by omega)]
      rfl
  obtain ⟨z, hz, rfl⟩ := key
  unfold watershedref05_In
  exact bindS hz rfl
end Go.Proofs.YtcamfdmgpmdmhaaGreat
/- Turn and its reference tell the same; SharesRuns, plainly. -/
namespace Go.Proofs.YtcamfdmgpmdmhaaGreat
open Go.RowKit
set_option maxRecDepth 100000
set_option linter.unusedVariables false
set_option linter.unusedSimpArgs false
theorem turnPieces {g e : Int} {s : DShares} {a : DSpan} {x y : DShare} {out : List DShare} {i : Nat} {P : List DSpan} (hP : P.length ≤ 1000) (ho : out.length ≤ 5000) :
    loopM watershedref05_Turn_l2 ((g, (), (), (), (), (), (i : Int), (), P.length, 0, ()), (s, a, (0, [], ()), x, (e, out, ()), y, P, (), (), ())) = some ((g, (), (), (), (), (), (i : Int), ()), (s, a, (0, [], ()), x, (e, out ++ P.map (pieceF y a g e), ()), y, (), (), (), (), (), ())) := by
  have h0 : out = out ++ (P.take 0).map (pieceF y a g e) := by simp
  have hrun := loopM_run (step := watershedref05_Turn_l2) (fun k : Nat => ((g, (), (), (), (), (), (i : Int), (), P.length, (k : Int), ()), (s, a, (0, [], ()), x, (e, out ++ (P.take k).map (pieceF y a g e), ()), y, P, (), (), ()))) (N := P.length) (b := ((g, (), (), (), (), (), (i : Int), ()), (s, a, (0, [], ()), x, (e, out ++ P.map (pieceF y a g e), ()), y, (), (), (), (), (), ()))) (fun k hk => ?_) ?_
  · simpa using hrun
  · have hg : P[0 + ((k : Int)).toNat]? = some P[k] := by rw [Nat.zero_add, Int.toNat_natCast, List.getElem?_eq_getElem hk]
    have hn : (out ++ (P.take k).map (pieceF y a g e)).length ≤ 7000 := by simp only [List.length_append, List.length_map, List.length_take]; omega
    have hs : out ++ (P.take (k + 1)).map (pieceF y a g e) = out ++ (P.take k).map (pieceF y a g e) ++ [pieceF y a g e P[k]] := by
      rw [List.take_succ_eq_append_getElem hk, List.map_append, List.append_assoc]; rfl
    unfold watershedref05_Turn_l2
    refine condT (dT (by dsimp only; omega)) (iteT (by dsimp only; omega) (bindS hg (iteT (by dsimp only; omega) (bindS hg ?_))))
    rw [hs]
    unfold pieceF
    cases hc : (decide (P[k].lo = a.lo) && (decide (P[k].hi = a.hi) && true))
    · refine condF rfl (iteT ?_ ?_)
      · change (out ++ (P.take k).map (pieceF y a g e)).length + 1 ≤ _ ∧ ((out ++ (P.take k).map (pieceF y a g e)).length + 1) * 48 ≤ _
        omega
      · dsimp only
        rw [w64 (by omega)]
        rfl
    · refine condT rfl (iteT ?_ ?_)
      · change (out ++ (P.take k).map (pieceF y a g e)).length + 1 ≤ _ ∧ ((out ++ (P.take k).map (pieceF y a g e)).length + 1) * 48 ≤ _
        omega
      · dsimp only
        rw [w64 (by omega)]
        rfl
  · unfold watershedref05_Turn_l2
    refine condF (dF (by dsimp only; omega)) ?_
    dsimp only
    rw [List.take_length]
/-- What is there behind the first j shares. -/
def outF (s : DShares) (i : Nat) (a : DSpan) (g e : Int) (j : Nat) : List DShare := if j ≤ i then s.list.take j else s.list.take i ++ partF (s.list[i]?.getD noSh) a g e ++ (s.list.drop (i + 1)).take (j - (i + 1))
theorem turnLoop_p {g : Int} {s : DShares} {a : DSpan} {i : Nat} (h : OkSh s) (hr : rightW s = true) (ha : OkSp a) (hi : i < s.list.length) (hw : withinB a s.list[i].span = true) (e : Int) :
    loopM watershedref05_Turn_l1 ((g, (), (), (), (), (), 0, ()), (s, a, (0, [], ()), s.list[i], (e, [], ()), (), (), ())) = some (((), (), (), ()), (s, a, (0, [], ()), s.list[i], (e, s.list.take i ++ partF s.list[i] a g e ++ s.list.drop (i + 1), ()), (), (), (), (), ())) := by
  have hlen := h.len
  have hxe : s.list[i]?.getD noSh = s.list[i] := by rw [List.getElem?_eq_getElem hi]; rfl
  have hl1 := cutF_len s.list[i].span (at2 a.lo a.hi)
  have hl2 := at2_len a.lo a.hi
  have hpl : (partF s.list[i] a g e).length = (cutF s.list[i].span (at2 a.lo a.hi)).length := by unfold partF; simp
  have hol : ∀ j, (outF s i a g e j).length ≤ 3000 := fun j => by
    unfold outF
    split
    · rw [List.length_take]; omega
    · rw [hxe]; simp only [List.length_append, List.length_take, List.length_drop]; omega
  have hrun := loopM_run (step := watershedref05_Turn_l1) (fun j : Nat => ((g, (), (), (), (), (), (j : Int), ()), (s, a, (0, [], ()), s.list[i], (e, outF s i a g e j, ()), (), (), ()))) (N := s.list.length) (b := (((), (), (), ()), (s, a, (0, [], ()), s.list[i], (e, s.list.take i ++ partF s.list[i] a g e ++ s.list.drop (i + 1), ()), (), (), (), (), ()))) (fun j hj => ?_) ?_
  · have h0 : outF s i a g e 0 = [] := by unfold outF; rw [if_pos (Nat.zero_le _)]; rfl
    rw [← hrun]
    show _ = loopM _ ((g, (), (), (), (), (), ((0 : Nat) : Int), ()), (s, a, (0, [], ()), s.list[i], (e, outF s i a g e 0, ()), (), (), ()))
    rw [h0]
    rfl
  · have hoj := hol j
    unfold watershedref05_Turn_l1
    refine condT (dT (by dsimp only; omega)) (bindS (getI_lt hj) ?_)
    by_cases hji : j = i
    · subst hji
      have hon : outF s j a g e (j + 1) = outF s j a g e j ++ (cutF s.list[j].span (at2 a.lo a.hi)).map (pieceF s.list[j] a g e) := by
        unfold outF
        rw [if_neg (by omega), if_pos (Nat.le_refl _), hxe, Nat.sub_self, List.take_zero, List.append_nil]
        rfl
      refine condF (by simp) ?_
      have hcut : watershedref04_Cut s.list[j].span (neF a) = some ((cutF s.list[j].span (at2 a.lo a.hi)).length, (cutF s.list[j].span (at2 a.lo a.hi), ())) := by
        have hrs := (within_right hw).2
        have hnl := neF_len a
        have := refCut_q (at_ := neF a) (h.sp _ (List.getElem_mem hj)) (neF_ok ha) (by omega) hrs
        rw [ins_cut hrs] at this
        exact this
      have hpc := turnPieces (g := g) (e := e) (s := s) (a := a) (x := s.list[j]) (y := s.list[j]) (out := outF s j a g e j) (i := j) (P := cutF s.list[j].span (at2 a.lo a.hi)) (by omega) (by omega)
      have hfin : (some (.inl ((g, (), (), (), (), (), IntKind.i64.wrap ((j : Int) + 1), ()), (s, a, (0, [], ()), s.list[j], (e, outF s j a g e j ++ (cutF s.list[j].span (at2 a.lo a.hi)).map (pieceF s.list[j] a g e), ()), (), (), ()))) : Option ((((Int) × (Unit) × (Unit) × (Unit) × (Unit) × (Unit) × (Int) × Unit) × ((DShares) × (DSpan) × ((Int) × (List (DShare)) × Unit) × (DShare) × ((Int) × (List (DShare)) × Unit) × (Unit) × (Unit) × Unit)) ⊕ ((((Unit) × (Unit) × (Unit) × Unit) × ((DShares) × (DSpan) × ((Int) × (List (DShare)) × Unit) × (DShare) × ((Int) × (List (DShare)) × Unit) × (Unit) × (Unit) × (Unit) × (Unit) × Unit))))) = some (.inl ((g, (), (), (), (), (), ((j + 1 : Nat) : Int), ()), (s, a, (0, [], ()), s.list[j], (e, outF s j a g e (j + 1), ()), (), (), ()))) := by
        rw [w64 (by omega), hon]; rfl
      by_cases q1 : a.lo = []
      · refine condF (dF (fun c => c q1)) ?_
        by_cases q2 : a.hi = []
        · have hne : neF a = [] := by unfold neF; rw [if_pos q1, if_pos q2]; rfl
          rw [hne] at hcut
          exact condF (dF (fun c => c q2)) (bindS hcut (bindS hpc hfin))
        · have hne : neF a = [a.hi] := by unfold neF; rw [if_pos q1, if_neg q2]; rfl
          rw [hne] at hcut
          exact condT (dT q2) (iteT (by simp) (bindS hcut (bindS hpc hfin)))
      · refine condT (dT q1) (iteT (by simp) ?_)
        by_cases q2 : a.hi = []
        · have hne : neF a = [a.lo] := by unfold neF; rw [if_neg q1, if_pos q2]; rfl
          rw [hne] at hcut
          exact condF (dF (fun c => c q2)) (bindS hcut (bindS hpc hfin))
        · have hne : neF a = [a.lo] ++ [a.hi] := by unfold neF; rw [if_neg q1, if_neg q2]
          rw [hne] at hcut
          exact condT (dT q2) (iteT (by simp) (bindS hcut (bindS hpc hfin)))
    · have hne : ¬ s.list[j].span.lo = s.list[i].span.lo := fun c => hji (lo_one hr hi hj c)
      have hon : outF s i a g e (j + 1) = outF s i a g e j ++ [s.list[j]] := by
        unfold outF
        by_cases hlt : j < i
        · rw [if_pos (by omega), if_pos (by omega), List.take_succ_eq_append_getElem hj]
        · rw [if_neg (by omega), if_neg (by omega), hxe, show j + 1 - (i + 1) = (j - (i + 1)) + 1 from by omega, List.take_succ_eq_append_getElem (by rw [List.length_drop]; omega), ← List.append_assoc]
          congr 2
          rw [List.getElem_drop]
          congr 1
          omega
      refine condT (by rw [dF hne]; rfl) (iteT (by dsimp only; simp only [List.length_singleton]; omega) ?_)
      dsimp only
      rw [w64 (by omega), hon]
      rfl
  · unfold watershedref05_Turn_l1
    refine condF (dF (by dsimp only; omega)) ?_
    have : outF s i a g e s.list.length = s.list.take i ++ partF s.list[i] a g e ++ s.list.drop (i + 1) := by
      unfold outF
      rw [if_neg (by omega), hxe, List.take_of_length_le (l := s.list.drop (i + 1)) (by rw [List.length_drop]; omega)]
    dsimp only
    rw [this]
/-- Both tell the same. -/
theorem Both_p {s : DShares} (h : OkSh s) {a : DSpan} (ha : OkSp a) (g : Int) : ∃ t e, shares_Turn s a g = some (((t.epoch, t.list, ()), e, ()), ((), ())) ∧ watershedref05_Turn s a g = some ((t, e, ()), ()) ∧ OkSh t := by
  unfold shares_Turn watershedref05_Turn
  rw [at_in h ha, Option.bind_some, right_p h, Option.bind_some, refR5_p h, Option.bind_some]
  cases hr : rightW s with
  | false => exact ⟨⟨0, []⟩, _, condT rfl rfl, condT rfl rfl, ⟨by simp, by simp⟩⟩
  | true =>
  simp only [Bool.not_true, cond_false, cond_true]
  rw [Right_p ha, Option.bind_some, refRight_p ha, Option.bind_some]
  cases hra : rightB a with
  | false => exact ⟨⟨0, []⟩, _, condT rfl rfl, condT rfl rfl, ⟨by simp, by simp⟩⟩
  | true =>
  simp only [Bool.not_true, cond_false]
  rw [within_p, Option.bind_some]
  by_cases hg1 : g < 1
  · exact ⟨⟨0, []⟩, _, condT (by rw [dF (by omega : ¬ 1 ≤ g)]; rfl) rfl, condT (dT hg1) rfl, ⟨by simp, by simp⟩⟩
  rw [dF hg1, cond_false]
  by_cases hg2 : 4 < g
  · exact ⟨⟨0, []⟩, _, condT (by rw [dF (by omega : ¬ g ≤ 4), Bool.and_false]; rfl) rfl, condT (dT hg2) rfl, ⟨by simp, by simp⟩⟩
  rw [dF hg2, cond_false]
  have hgb : (!(decide (1 ≤ g) && decide (g ≤ 4))) = false := by rw [dT (by omega : 1 ≤ g), dT (by omega : g ≤ 4)]; rfl
  rw [hgb, cond_false]
  unfold ixF
  by_cases hany : s.list.any (fun x => withinB a x.span) = true
  rotate_left
  · rw [if_neg hany]
    refine ⟨⟨0, []⟩, _, condT rfl rfl, bindS (refIn_none h ha (by simpa using hany)) (condT rfl rfl), ⟨by simp, by simp⟩⟩
  rw [if_pos hany]
  obtain ⟨hi, hp⟩ := ix_get hany
  have hbefore : ∀ j (hj : j < s.list.length), j < s.list.findIdx (fun x => withinB a x.span) → withinB a s.list[j].span = false := fun j hj hlt => by
    have := List.not_of_lt_findIdx hlt
    simpa using this
  generalize s.list.findIdx (fun x => withinB a x.span) = i at *
  rw [refIn_some h hr ha hi hp hbefore, Option.bind_some]
  rw [dF (by omega : ¬ (i : Int) < 0), cond_false, getI_lt hi, Option.bind_some, Option.bind_some]
  simp only [Bool.not_true, cond_false]
  by_cases hgr : s.list[i].group = g
  · rw [dT hgr, cond_true, cond_true]
    exact ⟨⟨0, []⟩, _, rfl, rfl, ⟨by simp, by simp⟩⟩
  rw [dF hgr, cond_false, cond_false]
  have hsx : OkSp s.list[i].span := h.sp _ (List.getElem_mem hi)
  have hlen := h.len
  have hc : cloneA71 s.list = some (s.list.length, (s.list, ())) := by
    unfold cloneA71
    exact if_pos (by omega)
  have he : 1 ≤ s.epoch ∧ s.epoch ≤ 1073741824 := by
    unfold rightW at hr
    simp only [Bool.and_eq_true, decide_eq_true_eq] at hr
    exact hr.1
  have hw : IntKind.i64.wrap (s.epoch + 1) = s.epoch + 1 := w64 (by omega)
  have hl1 := cutF_len s.list[i].span (at2 a.lo a.hi)
  have hl2 := at2_len a.lo a.hi
  have hl3 := cutF_ne s.list[i].span (at2 a.lo a.hi)
  have hpl : (partF s.list[i] a g (s.epoch + 1)).length = (cutF s.list[i].span (at2 a.lo a.hi)).length := by unfold partF; simp
  rw [hc, Option.bind_some, hw, parted_p hsx ha (within_right hp).2, Option.bind_some]
  dsimp only
  rw [w64 (by omega)]
  have hrp : replace s.list.length (i : Int) ((i : Int) + 1) (partF s.list[i] a g (s.epoch + 1)) s.list = some (s.list.take i ++ partF s.list[i] a g (s.epoch + 1) ++ s.list.drop (i + 1), ((), (), ())) := by
    unfold replace
    rw [if_pos ⟨rfl, by omega, by omega, by omega, by omega, by omega⟩]
    have : ((i : Int) + 1).toNat = i + 1 := by omega
    rw [this, Int.toNat_natCast]
  rw [hrp, Option.bind_some]
  rw [turnLoop_p h hr ha hi hp, Option.bind_some]
  dsimp only
  by_cases hme : s.epoch = 1073741824
  · rw [dT hme]; simp only [cond_true]
    exact ⟨⟨0, []⟩, _, rfl, rfl, ⟨by simp, by simp⟩⟩
  rw [dF hme]
  simp only [cond_false]
  have htf : turnF s i a g = ⟨s.epoch + 1, s.list.take i ++ partF s.list[i] a g (s.epoch + 1) ++ s.list.drop (i + 1)⟩ := by
    unfold turnF
    rw [List.getElem?_eq_getElem hi]
    rfl
  by_cases hmx : (40 : Int) < ((s.list.take i ++ partF s.list[i] a g (s.epoch + 1) ++ s.list.drop (i + 1)).length : Int)
  · rw [dT hmx]; simp only [cond_true]
    exact ⟨⟨0, []⟩, _, rfl, rfl, ⟨by simp, by simp⟩⟩
  · rw [dF hmx]; simp only [cond_false]
    refine ⟨⟨s.epoch + 1, s.list.take i ++ partF s.list[i] a g (s.epoch + 1) ++ s.list.drop (i + 1)⟩, _, rfl, rfl, ⟨by dsimp only; omega, ?_⟩⟩
    have := turnF_ok (g := g) h.sp ha hi
    rw [htf] at this
    exact this
end Go.Proofs.YtcamfdmgpmdmhaaGreat
/- SharesTells: which share is told; rows that are the same; rows that are lent, kept, written over. -/
namespace Go.Proofs.YtcamfdmgpmdmhaaGreat
open Go.RowKit
set_option maxRecDepth 100000
set_option linter.unusedVariables false
set_option linter.unusedSimpArgs false
theorem pick_first {s : DShares} {p : DShare → Bool} (hr : rightW s = true) (hany : s.list.any p = true) : ∃ (k : Nat) (hk : k < s.list.length), pickF s p = some s.list[k] ∧ p s.list[k] = true ∧ ∀ j (hj : j < s.list.length), j < k → p s.list[j] = false := by
  obtain ⟨hi, hp⟩ := ix_get hany
  refine ⟨s.list.findIdx p, hi, ?_, hp, fun j hj hlt => ?_⟩
  · unfold pickF
    rw [if_pos ⟨hr, hany⟩, List.getElem?_eq_getElem hi]
  · have := List.not_of_lt_findIdx hlt
    simpa using this
theorem pick_none {s : DShares} {p : DShare → Bool} (h : rightW s = false ∨ s.list.any p = false) : pickF s p = none := by
  unfold pickF
  refine if_neg fun c => ?_
  rcases h with h | h
  · rw [h] at c; cases c.1
  · rw [h] at c; cases c.2
theorem refIn_wrong {s : DShares} (h : OkSh s) {a : DSpan} (hr : rightW s = false) : watershedref05_In s a = some ((noSh, false, ()), ()) := by
  unfold watershedref05_In
  by_cases h0 : 0 < s.list.length
  · refine bindS (loopM_end (b := .inr (((), ()), (s, a, noSh, ()))) ?_) rfl
    unfold watershedref05_In_l1
    exact condT (dT (by dsimp only; omega)) (bindS (refR5_p h) (condF hr rfl))
  · refine bindS (loopM_end (b := .inr (((), ()), (s, a, noSh, ()))) ?_) rfl
    unfold watershedref05_In_l1
    exact condF (dF (by dsimp only; omega)) rfl
theorem refIn_p {s : DShares} (h : OkSh s) {a : DSpan} (ha : OkSp a) : watershedref05_In s a = some (((pickF s fun x => withinB a x.span).getD noSh, (pickF s fun x => withinB a x.span).isSome, ()), ()) := by
  cases hr : rightW s with
  | false => rw [pick_none (.inl hr)]; exact refIn_wrong h hr
  | true =>
    cases hany : s.list.any fun x => withinB a x.span with
    | false => rw [pick_none (.inr hany)]; exact refIn_none h ha hany
    | true =>
      obtain ⟨k, hk, h1, h2, h3⟩ := pick_first hr hany
      rw [h1]
      exact refIn_some h hr ha hk h2 h3
end Go.Proofs.YtcamfdmgpmdmhaaGreat
/- Rows of shares that are lent, and kept; written over (written by plain05z.py). -/
namespace Go.Proofs.YtcamfdmgpmdmhaaGreat
open Go.RowKit
set_option maxRecDepth 100000
set_option linter.unusedVariables false
set_option linter.unusedSimpArgs false
theorem mark_ex (x : Int) : ∃ t, watershedkit_markShare 1 x = some (t, ()) := ⟨_, rfl⟩
noncomputable def mkT (j : Nat) : DShare := (mark_ex (j : Int)).choose
theorem mark_p (j : Nat) : watershedkit_markShare 1 (j : Int) = some (mkT j, ()) := (mark_ex (j : Int)).choose_spec
noncomputable def marks (j : Nat) : List DShare := (List.range j).map mkT
theorem marks_len (j : Nat) : (marks j).length = j := by simp [marks]
theorem marks_succ (j : Nat) : marks (j + 1) = marks j ++ [mkT j] := by simp [marks, List.range_succ]
theorem marks_get {j n : Nat} (h : j < n) : (marks n)[j]? = some (mkT j) := by simp [marks, h]
theorem Lent_p {l : List DShare} (hn : l.length ≤ 1000) : watershedkit_LentShareRows_x l = some ((l, marks 12), ()) := by
  have hw : IntKind.i64.wrap ((l.length : Int) + 12) = ((l.length + 12 : Nat) : Int) := by rw [w64 (by omega)]; rfl
  have hloop : loopM watershedkit_LentShareRows_l1 ((l, (0, l.length, l.length + 12), 0, ()), (l ++ List.replicate 12 noSh, ())) = some ((l, (0, l.length + 12, l.length + 12), ()), (l ++ marks 12, ())) := by
    refine loopM_run (step := watershedkit_LentShareRows_l1) (fun j : Nat => ((l, (0, l.length + j, l.length + 12), (j : Int), ()), (l ++ (marks j ++ List.replicate (12 - j) noSh), ()))) (N := 12) (fun j hj => ?_) ?_
    · have hml := marks_len j
      unfold watershedkit_LentShareRows_l1
      refine condT (dT (by dsimp only; omega)) (bindS (mark_p j) ?_)
      dsimp only
      simp only [List.length_singleton, Nat.zero_add]
      refine iteT (by simp only [List.length_append, List.length_replicate, hml]; omega) ?_
      refine iteT (by omega) ?_
      rw [w64 (by omega)]
      have e1 : (l ++ (marks j ++ List.replicate (12 - j) noSh)).take (l.length + j) = l ++ marks j := by
        rw [← List.append_assoc]
        exact List.take_left' (by rw [List.length_append, hml])
      have e2 : (l ++ (marks j ++ List.replicate (12 - j) noSh)).drop (l.length + j + 1) = List.replicate (12 - (j + 1)) noSh := by
        rw [← List.append_assoc, List.drop_append, List.drop_of_length_le (by rw [List.length_append, hml]; omega), List.nil_append, List.drop_replicate, List.length_append, hml]
        congr 1
        omega
      rw [e1, e2, marks_succ]
      simp only [List.append_assoc, Nat.add_assoc]
      rfl
    · unfold watershedkit_LentShareRows_l1
      exact condF (dF (by dsimp only; omega)) rfl
  have hL : watershedkit_LentShareRows l = some ((0, l.length, l.length + 12), (l ++ marks 12, ())) := by
    unfold watershedkit_LentShareRows
    simp only [hw, Int.toNat_natCast, Int.toNat_zero, Nat.zero_add, List.take_zero, List.nil_append, Nat.add_zero, Nat.sub_zero, List.length_replicate, List.drop_replicate, Nat.add_sub_cancel_left]
    refine iteT (by omega) ?_
    refine iteT (by omega) ?_
    refine iteT (by omega) ?_
    refine bindS hloop ?_
    dsimp only
    refine iteT (by omega) ?_
    simp
  unfold watershedkit_LentShareRows_x
  refine bindS hL ?_
  dsimp only
  refine iteT ⟨rfl, by rw [List.length_append]; omega, by rw [List.length_append, marks_len]; omega⟩ ?_
  rw [List.take_left, List.drop_left]
theorem Kept_p {l : List DShare} (hn : l.length ≤ 1000) : watershedkit_KeptShareRows (l, marks 12) l = some (true, ()) := by
  have hw : IntKind.i64.wrap ((l.length : Int) + 12) = ((l.length + 12 : Nat) : Int) := by rw [w64 (by omega)]; rfl
  have hml := marks_len 12
  have hloop : loopM watershedkit_KeptShareRows_l1 ((l, l ++ marks 12, 0, ()), ()) = some (.inr ((), ())) := by
    refine loopM_run (step := watershedkit_KeptShareRows_l1) (fun j : Nat => ((l, l ++ marks 12, (j : Int), ()), ())) (N := l.length + 12) (fun j hj => ?_) ?_
    · unfold watershedkit_KeptShareRows_l1
      refine condT (dT (by dsimp only; rw [List.length_append]; omega)) ?_
      by_cases hjl : j < l.length
      · refine condT (dT (by dsimp only; omega)) ?_
        refine bindS (v := l[j]) (by dsimp only; rw [getI_nat, List.getElem?_append_left hjl, List.getElem?_eq_getElem hjl]) ?_
        refine bindS (getI_lt hjl) ?_
        refine condF (by simp) ?_
        refine condF (dF (by dsimp only; omega)) ?_
        dsimp only
        rw [w64 (by omega)]
        rfl
      · refine condF (dF (by dsimp only; omega)) ?_
        refine condT (dT (by dsimp only; omega)) ?_
        refine bindS (v := mkT (j - l.length)) (by dsimp only; rw [getI_nat, List.getElem?_append_right (by omega)]; exact marks_get (by omega)) ?_
        refine bindS (v := (mkT (j - l.length), ())) (by
          dsimp only
          rw [w64 (by omega), show (j : Int) - (l.length : Int) = ((j - l.length : Nat) : Int) from by omega]
          exact mark_p _) ?_
        refine condF (by simp) ?_
        dsimp only
        rw [w64 (by omega)]
        rfl
    · unfold watershedkit_KeptShareRows_l1
      exact condF (dF (by dsimp only; rw [List.length_append]; omega)) rfl
  unfold watershedkit_KeptShareRows
  refine condF (dF (by simp)) ?_
  simp only [hw, Int.toNat_natCast, Int.toNat_zero, List.drop_zero, Nat.sub_zero]
  refine iteT (by rw [List.length_append, hml]; omega) ?_
  rw [List.take_of_length_le (by rw [List.length_append, hml]; omega)]
  exact bindS hloop rfl
end Go.Proofs.YtcamfdmgpmdmhaaGreat
