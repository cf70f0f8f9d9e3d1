/- Spans that part a span: put in the place of it, they part what was parted. -/
import Derived.Test.YtcamfdmgpmdmhaaTuy
namespace Go.Proofs.Ytcamfdmgpmdmhaa
open Go.RowKit
set_option maxRecDepth 100000
set_option linter.unusedVariables false
set_option linter.unusedSimpArgs false
/-- Do spans part all keys from a text on up to another one? -/
def partsE (h : Tx) : Tx → List DSpan → Bool
  | _, [] => false
  | f, [s] => rightB s && (decide (s.lo = f) && decide (s.hi = h))
  | f, s :: t :: l => rightB s && (decide (s.lo = f) && (!decide (s.hi = []) && partsE h s.hi (t :: l)))
theorem partsF_E : ∀ (f : Tx) (l : List DSpan), partsF f l = partsE [] f l
  | _, [] => rfl
  | _, [_] => rfl
  | f, s :: t :: l => by
    unfold partsF partsE
    rw [partsF_E s.hi (t :: l)]
theorem partsE_ne {h f : Tx} {l : List DSpan} (k : partsE h f l = true) : l ≠ [] := fun e => by subst e; cases k
theorem partsE_cons {h f : Tx} {s : DSpan} {l : List DSpan} (hl : l ≠ []) : partsE h f (s :: l) = (rightB s && (decide (s.lo = f) && (!decide (s.hi = []) && partsE h s.hi l))) := by
  cases l with
  | nil => exact absurd rfl hl
  | cons t l => rfl
theorem partsE_app {h m : Tx} {l2 : List DSpan} (hm : m ≠ []) (k2 : partsE h m l2 = true) : ∀ {l1 : List DSpan} {f : Tx}, partsE m f l1 = true → partsE h f (l1 ++ l2) = true
  | [], _, k => by cases k
  | [s], f, k => by
    simp only [partsE, Bool.and_eq_true, decide_eq_true_eq] at k
    rw [List.singleton_append, partsE_cons (partsE_ne k2), k.1, k.2.1, k.2.2, k2]
    simp [hm]
  | s :: t :: l, f, k => by
    rw [partsE_cons (by simp)] at k
    simp only [Bool.and_eq_true] at k
    rw [List.cons_append, partsE_cons (by simp)]
    simp only [Bool.and_eq_true]
    exact ⟨k.1, k.2.1, k.2.2.1, partsE_app hm k2 k.2.2.2⟩
/-- One of the spans gives way to spans that part it. -/
theorem partsE_put {h : Tx} {m : List DSpan} : ∀ {l : List DSpan} {f : Tx} {i : Nat} (hi : i < l.length), partsE h f l = true → partsE l[i].hi l[i].lo m = true → partsE h f (l.take i ++ m ++ l.drop (i + 1)) = true
  | [], _, _, hi, _, _ => absurd hi (Nat.not_lt_zero _)
  | [s], f, 0, hi, k, km => by
    simp only [partsE, Bool.and_eq_true, decide_eq_true_eq] at k
    simp only [List.getElem_cons_zero] at km
    rw [k.2.1, k.2.2] at km
    simpa using km
  | s :: t :: l, f, 0, hi, k, km => by
    rw [partsE_cons (by simp)] at k
    simp only [Bool.and_eq_true, decide_eq_true_eq, Bool.not_eq_true', decide_eq_false_iff_not] at k
    simp only [List.getElem_cons_zero] at km
    have := partsE_app k.2.2.1 k.2.2.2 km
    rw [k.2.1] at this
    simpa using this
  | [s], f, i + 1, hi, _, _ => absurd hi (by simp)
  | s :: t :: l, f, i + 1, hi, k, km => by
    rw [partsE_cons (by simp)] at k
    simp only [Bool.and_eq_true] at k
    have hi' : i < (t :: l).length := by simpa using hi
    have ih := partsE_put hi' k.2.2.2 (by simpa using km)
    have hne := partsE_ne ih
    rw [List.take_succ_cons, List.drop_succ_cons, List.cons_append, List.cons_append, partsE_cons hne]
    simp only [Bool.and_eq_true]
    exact ⟨k.1, k.2.1, k.2.2.1, ih⟩
theorem keyB_ne {k : Tx} (h : keyB k = true) : k ≠ [] := by
  unfold keyB at h
  simp only [Bool.and_eq_true, Bool.not_eq_true', decide_eq_false_iff_not] at h
  exact h.1
/-- Where a right span is cut, the pieces part it. -/
theorem cutF_parts : ∀ (l : List Tx) {s : DSpan}, rightB s = true → partsE s.hi s.lo (cutF s l) = true
  | [], s, h => by simp [cutF, partsE, h]
  | k :: l, s, h => by
    rw [cutF_cons]
    cases hk : hasB s k
    · exact cutF_parts l h
    · by_cases he : k = s.lo
      · rw [dT he]; exact cutF_parts l h
      · rw [dF he]
        simp only [Bool.not_true, cond_false]
        simp only [hasB, Bool.and_eq_true, Bool.not_eq_true', decide_eq_false_iff_not, Bool.or_eq_true, decide_eq_true_eq] at hk
        have hr := h
        simp only [rightB, Bool.and_eq_true, Bool.or_eq_true, decide_eq_true_eq] at hr
        have h2 : rightB ⟨k, s.hi⟩ = true := by
          simp only [rightB, Bool.and_eq_true, Bool.or_eq_true, decide_eq_true_eq]
          exact ⟨.inr hk.2.1, hr.2.1, hk.2.2.2⟩
        have ih := cutF_parts l h2
        rw [partsE_cons (partsE_ne ih)]
        simp only [Bool.and_eq_true, decide_eq_true_eq, Bool.not_eq_true', decide_eq_false_iff_not]
        refine ⟨?_, trivial, keyB_ne hk.2.1, ih⟩
        simp only [rightB, Bool.and_eq_true, Bool.or_eq_true, decide_eq_true_eq]
        exact ⟨hr.1, .inr hk.2.1, .inr (by grind)⟩
theorem piece_span (x : DShare) (a : DSpan) (g e : Int) (s : DSpan) : (pieceF x a g e s).span = s := by
  unfold pieceF
  cases (decide (s.lo = a.lo) && (decide (s.hi = a.hi) && true)) <;> rfl
theorem partF_spans (x : DShare) (a : DSpan) (g e : Int) : (partF x a g e).map (·.span) = cutF x.span (at2 a.lo a.hi) := by
  unfold partF
  rw [List.map_map]
  have : ((fun y : DShare => y.span) ∘ pieceF x a g e) = id := by
    funext s
    exact piece_span x a g e s
  rw [this, List.map_id]
theorem wrong_of {s : DShares} {x : DShare} : wrongB s x = false ↔ (1 ≤ x.group ∧ x.group ≤ 4) ∧ (1 ≤ x.epoch ∧ x.epoch ≤ s.epoch) := by
  unfold wrongB
  simp only [Bool.or_eq_false_iff, Bool.not_eq_false', Bool.and_eq_true, decide_eq_true_eq]
theorem right_iff {s : DShares} : rightW s = true ↔ (1 ≤ s.epoch ∧ s.epoch ≤ 1073741824) ∧ s.list.length ≤ 40 ∧ (∀ x ∈ s.list, wrongB s x = false) ∧ partsF [] (s.list.map (·.span)) = true := by
  unfold rightW
  simp only [Bool.and_eq_true, decide_eq_true_eq, Bool.not_eq_true', List.any_eq_false, Bool.not_eq_true]
theorem turn_right {s : DShares} (h : rightW s = true) {a : DSpan} {g : Int} (hg : 1 ≤ g ∧ g ≤ 4) (he : s.epoch ≠ 1073741824) {i : Nat} (hi : i < s.list.length) (hw : withinB a s.list[i].span = true) (hl : (turnF s i a g).list.length ≤ 40) : rightW (turnF s i a g) = true := by
  obtain ⟨h1, h2, h3, h4⟩ := right_iff.1 h
  have hx : s.list[i]?.getD noSh = s.list[i] := by rw [List.getElem?_eq_getElem hi]; rfl
  refine right_iff.2 ⟨⟨?_, ?_⟩, hl, fun x hx' => ?_, ?_⟩
  · show 1 ≤ s.epoch + 1; omega
  · show s.epoch + 1 ≤ 1073741824; omega
  · have hold : ∀ y ∈ s.list, wrongB (turnF s i a g) y = false := fun y hy => by
      have := wrong_of.1 (h3 y hy)
      exact wrong_of.2 ⟨this.1, this.2.1, by show y.epoch ≤ s.epoch + 1; omega⟩
    unfold turnF at hx'
    simp only [List.mem_append] at hx'
    rcases hx' with (hx' | hx') | hx'
    · exact hold _ (List.mem_of_mem_take hx')
    · rw [hx] at hx'
      unfold partF at hx'
      obtain ⟨p, _, rfl⟩ := List.mem_map.1 hx'
      have hs := wrong_of.1 (h3 _ (List.getElem_mem hi))
      unfold pieceF
      cases (decide (p.lo = a.lo) && (decide (p.hi = a.hi) && true))
      · exact wrong_of.2 ⟨hs.1, hs.2.1, by show s.list[i].epoch ≤ s.epoch + 1; omega⟩
      · exact wrong_of.2 ⟨hg, by show 1 ≤ s.epoch + 1; omega, by show s.epoch + 1 ≤ s.epoch + 1; omega⟩
    · exact hold _ (List.mem_of_mem_drop hx')
  · have hi' : i < (s.list.map (·.span)).length := by simpa using hi
    rw [partsF_E] at h4 ⊢
    have := partsE_put (m := cutF s.list[i].span (at2 a.lo a.hi)) hi' h4 (by
      rw [List.getElem_map]
      exact cutF_parts _ (within_right hw).2)
    unfold turnF
    rw [hx, List.map_append, List.map_append, partF_spans, List.map_take, List.map_drop]
    exact this
end Go.Proofs.Ytcamfdmgpmdmhaa
