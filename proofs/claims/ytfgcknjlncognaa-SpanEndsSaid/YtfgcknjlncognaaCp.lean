/- Spans that part, plainly: which has a key; what two spans have both. -/
import Derived.Test.YtfgcknjlncognaaCu
namespace Go.Proofs.Ytfgcknjlncognaa
open Go.RowKit
set_option maxRecDepth 100000
set_option linter.unusedVariables false
set_option linter.unusedSimpArgs false
/-- Do spans part all keys from a text on up to another one? -/
def partsE (h : Tx) : Tx → List DSpan → Bool
  | _, [] => false
  | f, [s] => rightB s && (decide (s.lo = f) && decide (s.hi = h))
  | f, s :: t :: l => rightB s && (decide (s.lo = f) && (!decide (s.hi = []) && partsE h s.hi (t :: l)))
theorem partsF_E : ∀ (f : Tx) (l : List DSpan), partsF f l = partsE [] f l
  | _, [] => rfl
  | _, [_] => rfl
  | f, s :: t :: l => by
    unfold partsF partsE
    rw [partsF_E s.hi (t :: l)]
theorem partsE_ne {h f : Tx} {l : List DSpan} (k : partsE h f l = true) : l ≠ [] := fun e => by subst e; cases k
theorem partsE_cons {h f : Tx} {s : DSpan} {l : List DSpan} (hl : l ≠ []) : partsE h f (s :: l) = (rightB s && (decide (s.lo = f) && (!decide (s.hi = []) && partsE h s.hi l))) := by
  cases l with
  | nil => exact absurd rfl hl
  | cons t l => rfl
theorem partsE_app {h m : Tx} {l2 : List DSpan} (hm : m ≠ []) (k2 : partsE h m l2 = true) : ∀ {l1 : List DSpan} {f : Tx}, partsE m f l1 = true → partsE h f (l1 ++ l2) = true
  | [], _, k => by cases k
  | [s], f, k => by
    simp only [partsE, Bool.and_eq_true, decide_eq_true_eq] at k
    rw [List.singleton_append, partsE_cons (partsE_ne k2), k.1, k.2.1, k.2.2, k2]
    simp [hm]
  | s :: t :: l, f, k => by
    rw [partsE_cons (by simp)] at k
    simp only [Bool.and_eq_true] at k
    rw [List.cons_append, partsE_cons (by simp)]
    simp only [Bool.and_eq_true]
    exact ⟨k.1, k.2.1, k.2.2.1, partsE_app hm k2 k.2.2.2⟩
/-- One of the spans gives way to spans that part it. -/
theorem partsE_put {h : Tx} {m : List DSpan} : ∀ {l : List DSpan} {f : Tx} {i : Nat} (hi : i < l.length), partsE h f l = true → partsE l[i].hi l[i].lo m = true → partsE h f (l.take i ++ m ++ l.drop (i + 1)) = true
  | [], _, _, hi, _, _ => absurd hi (Nat.not_lt_zero _)
  | [s], f, 0, hi, k, km => by
    simp only [partsE, Bool.and_eq_true, decide_eq_true_eq] at k
    simp only [List.getElem_cons_zero] at km
    rw [k.2.1, k.2.2] at km
    simpa using km
  | s :: t :: l, f, 0, hi, k, km => by
    rw [partsE_cons (by simp)] at k
    simp only [Bool.and_eq_true, decide_eq_true_eq, Bool.not_eq_true', decide_eq_false_iff_not] at k
    simp only [List.getElem_cons_zero] at km
    have := partsE_app k.2.2.1 k.2.2.2 km
    rw [k.2.1] at this
    simpa using this
  | [s], f, i + 1, hi, _, _ => absurd hi (by simp)
  | s :: t :: l, f, i + 1, hi, k, km => by
    rw [partsE_cons (by simp)] at k
    simp only [Bool.and_eq_true] at k
    have hi' : i < (t :: l).length := by simpa using hi
    have ih := partsE_put hi' k.2.2.2 (by simpa using km)
    have hne := partsE_ne ih
    rw [List.take_succ_cons, List.drop_succ_cons, List.cons_append, List.cons_append, partsE_cons hne]
    simp only [Bool.and_eq_true]
    exact ⟨k.1, k.2.1, k.2.2.1, ih⟩
theorem keyB_ne {k : Tx} (h : keyB k = true) : k ≠ [] := by
  unfold keyB at h
  simp only [Bool.and_eq_true, Bool.not_eq_true', decide_eq_false_iff_not] at h
  exact h.1
/-- Where a right span is cut, the pieces part it. -/
theorem cutF_parts : ∀ (l : List Tx) {s : DSpan}, rightB s = true → partsE s.hi s.lo (cutF s l) = true
  | [], s, h => by simp [cutF, partsE, h]
  | k :: l, s, h => by
    rw [cutF_cons]
    cases hk : hasB s k
    · exact cutF_parts l h
    · by_cases he : k = s.lo
      · rw [dT he]; exact cutF_parts l h
      · rw [dF he]
        simp only [Bool.not_true, cond_false]
        simp only [hasB, Bool.and_eq_true, Bool.not_eq_true', decide_eq_false_iff_not, Bool.or_eq_true, decide_eq_true_eq] at hk
        have hr := h
        simp only [rightB, Bool.and_eq_true, Bool.or_eq_true, decide_eq_true_eq] at hr
        have h2 : rightB ⟨k, s.hi⟩ = true := by
          simp only [rightB, Bool.and_eq_true, Bool.or_eq_true, decide_eq_true_eq]
          exact ⟨.inr hk.2.1, hr.2.1, hk.2.2.2⟩
        have ih := cutF_parts l h2
        rw [partsE_cons (partsE_ne ih)]
        simp only [Bool.and_eq_true, decide_eq_true_eq, Bool.not_eq_true', decide_eq_false_iff_not]
        refine ⟨?_, trivial, keyB_ne hk.2.1, ih⟩
        simp only [rightB, Bool.and_eq_true, Bool.or_eq_true, decide_eq_true_eq]
        exact ⟨hr.1, .inr hk.2.1, .inr (by grind)⟩
theorem cutF_ok : ∀ (l : List Tx) {s : DSpan}, OkSp s → (∀ k ∈ l, OkT k) → ∀ x ∈ cutF s l, OkSp x
  | [], s, h, _, x, hx => by
    simp only [cutF, List.mem_singleton] at hx
    rw [hx]; exact h
  | k :: l, s, h, hl, x, hx => by
    have hk := hl k List.mem_cons_self
    have hl' : ∀ k ∈ l, OkT k := fun y hy => hl y (List.mem_cons_of_mem _ hy)
    rw [cutF_cons] at hx
    cases hh : hasB s k
    · rw [hh] at hx
      exact cutF_ok l h hl' x hx
    · rw [hh] at hx
      by_cases he : k = s.lo
      · rw [dT he] at hx
        exact cutF_ok l h hl' x hx
      · rw [dF he] at hx
        simp only [Bool.not_true, cond_false, List.mem_cons] at hx
        rcases hx with rfl | hx
        · exact ⟨h.1, hk⟩
        · exact cutF_ok l (s := ⟨k, s.hi⟩) ⟨hk, h.2⟩ hl' x hx
theorem right_iff_ {s : DSpan} : rightB s = true ↔ (s.lo = [] ∨ keyB s.lo = true) ∧ (s.hi = [] ∨ keyB s.hi = true) ∧ (s.hi = [] ∨ s.lo < s.hi) := by
  simp only [rightB, Bool.and_eq_true, Bool.or_eq_true, decide_eq_true_eq]
theorem has_iff {s : DSpan} {k : Tx} : hasB s k = true ↔ rightB s = true ∧ keyB k = true ∧ ¬ k < s.lo ∧ (s.hi = [] ∨ k < s.hi) := by
  simp only [hasB, Bool.and_eq_true, Bool.not_eq_true', decide_eq_false_iff_not, Bool.or_eq_true, decide_eq_true_eq]
theorem partsE_lt {h : Tx} : ∀ {l : List DSpan} {f : Tx}, partsE h f l = true → h = [] ∨ f < h
  | [], _, k => by cases k
  | [s], f, k => by
    simp only [partsE, Bool.and_eq_true, decide_eq_true_eq] at k
    obtain ⟨k1, rfl, rfl⟩ := k
    exact (right_iff_.1 k1).2.2
  | s :: t :: l, f, k => by
    rw [partsE_cons (by simp)] at k
    simp only [Bool.and_eq_true, decide_eq_true_eq, Bool.not_eq_true', decide_eq_false_iff_not] at k
    obtain ⟨k1, rfl, k3, k4⟩ := k
    have h1 := (right_iff_.1 k1).2.2.resolve_left k3
    rcases partsE_lt k4 with h2 | h2
    · exact .inl h2
    · right; grind
/-- Of spans that part, just one has a key. -/
theorem partsE_has {h : Tx} {k : Tx} : ∀ {l : List DSpan} {f : Tx}, partsE h f l = true → l.countP (fun s => hasB s k) = if keyB k = true ∧ ¬ k < f ∧ (h = [] ∨ k < h) then 1 else 0
  | [], _, q => by cases q
  | [s], f, q => by
    simp only [partsE, Bool.and_eq_true, decide_eq_true_eq] at q
    obtain ⟨q1, rfl, rfl⟩ := q
    rw [List.countP_singleton]
    by_cases hh : hasB s k = true
    · rw [if_pos hh, if_pos (has_iff.1 hh).2]
    · rw [if_neg hh, if_neg (fun c => hh (has_iff.2 ⟨q1, c⟩))]
  | s :: t :: l, f, q => by
    rw [partsE_cons (by simp)] at q
    simp only [Bool.and_eq_true, decide_eq_true_eq, Bool.not_eq_true', decide_eq_false_iff_not] at q
    obtain ⟨q1, rfl, q3, q4⟩ := q
    have h1 := (right_iff_.1 q1).2.2.resolve_left q3
    have h2 := partsE_lt q4
    rw [List.countP_cons, partsE_has q4]
    by_cases hh : hasB s k = true
    · have g := (has_iff.1 hh).2
      have g3 := g.2.2.resolve_left q3
      have c : h = [] ∨ k < h := by
        rcases h2 with h2 | h2
        · exact .inl h2
        · right; grind
      rw [if_pos hh, if_neg (fun c => c.2.1 g3), if_pos ⟨g.1, g.2.1, c⟩]
    · rw [if_neg hh]
      by_cases c : keyB k = true ∧ ¬ k < s.lo ∧ (h = [] ∨ k < h)
      · rw [if_pos c, if_pos ⟨c.1, fun hk => hh (has_iff.2 ⟨q1, c.1, c.2.1, .inr hk⟩), c.2.2⟩]
      · rw [if_neg c, if_neg (fun d => c ⟨d.1, fun hk => d.2.1 (by grind), d.2.2⟩)]
/-- Each of them lies within what they part. -/
theorem partsE_within {h : Tx} : ∀ {l : List DSpan} {f : Tx}, partsE h f l = true → ∀ x ∈ l, rightB x = true ∧ ¬ x.lo < f ∧ (h = [] ∨ (x.hi ≠ [] ∧ ¬ h < x.hi))
  | [], _, q, x, hx => by cases hx
  | [s], f, q, x, hx => by
    simp only [partsE, Bool.and_eq_true, decide_eq_true_eq] at q
    obtain ⟨q1, rfl, rfl⟩ := q
    simp only [List.mem_singleton] at hx
    subst hx
    refine ⟨q1, ltT _, ?_⟩
    by_cases c : x.hi = []
    · exact .inl c
    · exact .inr ⟨c, ltT _⟩
  | s :: t :: l, f, q, x, hx => by
    rw [partsE_cons (by simp)] at q
    simp only [Bool.and_eq_true, decide_eq_true_eq, Bool.not_eq_true', decide_eq_false_iff_not] at q
    obtain ⟨q1, rfl, q3, q4⟩ := q
    have h1 := (right_iff_.1 q1).2.2.resolve_left q3
    have h2 := partsE_lt q4
    rcases List.mem_cons.1 hx with rfl | hx
    · refine ⟨q1, ltT _, ?_⟩
      rcases h2 with h2 | h2
      · exact .inl h2
      · exact .inr ⟨q3, by grind⟩
    · obtain ⟨g1, g2, g3⟩ := partsE_within q4 x hx
      exact ⟨g1, by grind, g3⟩
/-- The pieces of a span. -/
def piecesF (s : DSpan) (l : List Tx) : List DSpan := bif rightB s then cutF s (sdF l) else []
theorem pieces_count (s : DSpan) (l : List Tx) (k : Tx) : (piecesF s l).countP (fun x => hasB x k) = if hasB s k = true then 1 else 0 := by
  unfold piecesF
  cases hr : rightB s
  · rw [if_neg (fun h => by have := (has_iff.1 h).1; rw [hr] at this; cases this)]
    simp
  · rw [cond_true, partsE_has (cutF_parts (sdF l) hr)]
    by_cases c : hasB s k = true
    · rw [if_pos c, if_pos (has_iff.1 c).2]
    · rw [if_neg c, if_neg (fun d => c (has_iff.2 ⟨hr, d⟩))]
theorem pieces_within {s : DSpan} {l : List Tx} : ∀ x ∈ piecesF s l, rightB x = true ∧ withinB x s = true := by
  unfold piecesF
  cases hr : rightB s
  · intro x hx; cases hx
  · intro x hx
    obtain ⟨g1, g2, g3⟩ := partsE_within (cutF_parts (sdF l) hr) x hx
    refine ⟨g1, ?_⟩
    simp only [withinB, Bool.and_eq_true, Bool.not_eq_true', decide_eq_false_iff_not, Bool.or_eq_true, decide_eq_true_eq]
    exact ⟨g1, hr, g2, g3⟩
theorem pieces_ok {s : DSpan} {l : List Tx} (hs : OkSp s) (hl : ∀ k ∈ l, OkT k) : ∀ x ∈ piecesF s l, OkSp x := by
  unfold piecesF
  cases rightB s
  · intro x hx; cases hx
  · exact cutF_ok _ hs fun k hk => hl k (mem_sdF.1 hk)
theorem pieces_len (s : DSpan) (l : List Tx) : (piecesF s l).length ≤ l.length + 1 := by
  unfold piecesF
  cases rightB s
  · simp
  · have := cutF_len s (sdF l)
    have := sdF_len l
    rw [cond_true]; omega
theorem pieces_ne {s : DSpan} (l : List Tx) (h : rightB s = true) : piecesF s l ≠ [] := by
  unfold piecesF
  rw [h]
  exact partsE_ne (cutF_parts (sdF l) h)
end Go.Proofs.Ytfgcknjlncognaa
