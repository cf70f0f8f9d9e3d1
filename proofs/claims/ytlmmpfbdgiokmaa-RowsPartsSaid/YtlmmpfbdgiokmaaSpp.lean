/- Spans, plainly. -/
import Derived.Test.YtlmmpfbdgiokmaaG1
import Derived.Test.YtlmmpfbdgiokmaaPl
namespace Go.Proofs.Ytlmmpfbdgiokmaa
open Go.RowKit
set_option maxRecDepth 100000
set_option linter.unusedVariables false
set_option linter.unusedSimpArgs false
abbrev Tx := List UInt8
def OkT (s : Tx) : Prop := s.length ≤ 140737488355328
def OkSp (s : DSpan) : Prop := OkT s.lo ∧ OkT s.hi
theorem OkSp.of {s : DSpan} (h : ok_DSpan s) : OkSp s := ⟨h.1, h.2.1⟩
def charB (c : UInt8) : Bool := (decide ((97 : Int) ≤ (c.toNat : Int)) && decide ((c.toNat : Int) ≤ 122)) || (decide ((48 : Int) ≤ (c.toNat : Int)) && decide ((c.toNat : Int) ≤ 57))
/-- Is a text a key? -/
def keyB (s : Tx) : Bool := (!decide (s = [])) && (decide (s.length ≤ 20) && s.all charB)
theorem Key_p {s : Tx} (h : OkT s) : span_Key s = some (keyB s, ()) := by
  unfold OkT at h
  unfold span_Key keyB
  by_cases h1 : s = []
  · rw [dT h1, cond_true]; simp
  rw [dF h1, cond_false]
  by_cases h2 : s.length ≤ 20
  · have key : loopM span_Key_l1 ((s, (s.length : Int), 0, ()), ()) = some (if s.all charB then .inr ((), ()) else .inl ((false, ()), ())) := by
      refine loopM_eq_of (fun n a => ∃ i : Nat, a = ((s, (s.length : Int), (i : Int), ()), ()) ∧ i ≤ s.length ∧ (s.drop i).all charB = s.all charB ∧ n = s.length - i) _ ?_ (n := s.length) ⟨0, rfl, Nat.zero_le _, rfl, rfl⟩
      rintro n a ⟨i, rfl, g1, g2, rfl⟩
      unfold span_Key_l1
      dsimp only
      by_cases hi : i < s.length
      · rw [List.drop_eq_getElem_cons hi, List.all_cons] at g2
        rw [dT (by omega), cond_true, getI_lt hi, Option.bind_some, w64 (by omega)]
        cases hc : charB s[i]
        · right
          rw [hc] at g2
          rw [← g2]
          unfold charB at hc
          by_cases q1 : (97 : Int) ≤ (s[i].toNat : Int) <;> by_cases q2 : (s[i].toNat : Int) ≤ 122 <;> by_cases q3 : (48 : Int) ≤ (s[i].toNat : Int) <;> by_cases q4 : (s[i].toNat : Int) ≤ 57 <;> simp [q1, q2, q3, q4] at hc ⊢
        · left
          rw [hc, Bool.true_and] at g2
          refine ⟨s.length - (i + 1), _, by omega, ?_, i + 1, rfl, by omega, g2, rfl⟩
          unfold charB at hc
          by_cases q1 : (97 : Int) ≤ (s[i].toNat : Int) <;> by_cases q2 : (s[i].toNat : Int) ≤ 122 <;> by_cases q3 : (48 : Int) ≤ (s[i].toNat : Int) <;> by_cases q4 : (s[i].toNat : Int) ≤ 57 <;> simp [q1, q2, q3, q4] at hc ⊢
      · right
        obtain rfl : i = s.length := by omega
        rw [dF (by omega), cond_false, ← g2, List.drop_length]
        rfl
    rw [dF (by omega), cond_false, key, dT h2]
    cases s.all charB <;> rfl
  · rw [dT (by omega), cond_true, dF h2]
    simp
theorem ltT (a : Tx) : ¬ a < a := by grind
theorem compare_p (a b : Tx) : span_compare ⟨a⟩ ⟨b⟩ = some (if a < b then -1 else if a = b then 0 else 1, ()) := by
  unfold span_compare cmp_Compare cmp_isNaN
  simp only [Option.bind_some]
  rw [dF (p := a ≠ a) (by simp), dF (p := b ≠ b) (by simp), cond_false, cond_false]
  by_cases h1 : a < b
  · simp [h1]
  · by_cases h2 : a = b <;> simp [h1, h2, ltT]
theorem above_p (h t : Tx) : span_above ⟨⟨h⟩⟩ ⟨t⟩ = some (decide (h = []) || decide (t < h), ()) := by
  unfold span_above span_none
  simp only [Option.bind_some, compare_p]
  by_cases h1 : h = []
  · simp [h1]
  rw [dF h1, cond_false, Bool.false_or]
  by_cases h2 : h < t
  · have : ¬ t < h := by grind
    simp [h2, this]
  · by_cases h3 : h = t
    · simp [h3, ltT]
    · have : t < h := by grind
      simp [h2, h3, this]
def rightB (s : DSpan) : Bool := (decide (s.lo = []) || keyB s.lo) && ((decide (s.hi = []) || keyB s.hi) && (decide (s.hi = []) || decide (s.lo < s.hi)))
theorem Right_p {s : DSpan} (h : OkSp s) : span_Right s = some (rightB s, ()) := by
  obtain ⟨h1, h2⟩ := h
  unfold span_Right span_ends span_none rightB
  simp only [Option.bind_some, Key_p h1, Key_p h2, above_p]
  by_cases q1 : s.lo = [] <;> by_cases q2 : s.hi = [] <;> cases q3 : keyB s.lo <;> cases q4 : keyB s.hi <;> simp [q1, q2, q3, q4]
/-- Has a span a key? -/
def hasB (s : DSpan) (k : Tx) : Bool := rightB s && (keyB k && (!decide (k < s.lo) && (decide (s.hi = []) || decide (k < s.hi))))
theorem Has_p {s : DSpan} {k : Tx} (h : OkSp s) (hk : OkT k) : span_Has s k = some (hasB s k, ()) := by
  unfold span_Has span_ends hasB
  simp only [Option.bind_some, Right_p h, Key_p hk, above_p, compare_p]
  cases q1 : rightB s
  · simp
  cases q2 : keyB k
  · simp
  simp only [cond_true, Bool.true_and]
  by_cases g1 : s.lo < k
  · have : ¬ k < s.lo := by grind
    simp [g1, this]
  · by_cases g2 : s.lo = k
    · simp [g2, ltT]
    · have : k < s.lo := by grind
      simp [g1, g2, this]
def maxT (a b : Tx) : Tx := bif !decide (a < b) then a else b
def overB (h g : Tx) : Bool := decide (h = []) || (!decide (g = []) && !decide (h < g))
/-- What Cut's rounds make of the texts that are left. -/
def cutF : DSpan → List Tx → List DSpan
  | s, [] => [s]
  | s, k :: l => bif !hasB s k then cutF s l else bif decide (k = s.lo) then cutF s l else ⟨s.lo, k⟩ :: cutF ⟨k, s.hi⟩ l
theorem cutF_cons (s : DSpan) (k : Tx) (l : List Tx) : cutF s (k :: l) = bif !hasB s k then cutF s l else bif decide (k = s.lo) then cutF s l else ⟨s.lo, k⟩ :: cutF ⟨k, s.hi⟩ l := rfl
theorem cutF_len (s : DSpan) (l : List Tx) : (cutF s l).length ≤ l.length + 1 := by
  induction l generalizing s with
  | nil => simp [cutF]
  | cons k l ih =>
    unfold cutF
    cases hasB s k
    · have := ih s; simp; omega
    · by_cases h : k = s.lo
      · have := ih s; simp [h] at this ⊢; omega
      · have := ih ⟨k, s.hi⟩; simp [h]; omega
theorem cutLoop_p {xs at_ : List Tx} (zs : List Tx) (hx : ∀ k ∈ xs, OkT k) (hl : xs.length ≤ 100000) {s : DSpan} (hs : OkSp s) :
    ∃ out s', loopM span_Cut_l1 (((), [], (0, xs.length), (xs.length : Int), 0, ()), (s, xs ++ zs, (), ())) = some (((), out, ()), (s', xs ++ zs, (), (), ())) ∧ out ++ [s'] = cutF s xs := by
  obtain ⟨z, hz, out, s', rfl, h2⟩ : ∃ z, loopM span_Cut_l1 (((), [], (0, xs.length), (xs.length : Int), 0, ()), (s, xs ++ zs, (), ())) = some z ∧ ∃ out s', z = (((), out, ()), (s', xs ++ zs, (), (), ())) ∧ out ++ [s'] = cutF s xs := by
    refine loopM_spec (fun n a => ∃ (i : Nat) (out : List DSpan) (t : DSpan), a = (((), out, (0, xs.length), (xs.length : Int), (i : Int), ()), (t, xs ++ zs, (), ())) ∧ i ≤ xs.length ∧ OkSp t ∧ out ++ cutF t (xs.drop i) = cutF s xs ∧ out.length ≤ i ∧ n = xs.length - i) _ ?_ (n := xs.length) ⟨0, [], s, rfl, Nat.zero_le _, hs, rfl, Nat.le_refl _, rfl⟩
    rintro n a ⟨i, out, t, rfl, h1, ht, h2, h3, rfl⟩
    unfold span_Cut_l1
    by_cases hi : i < xs.length
    · left
      have hk := hx _ (List.getElem_mem hi)
      rw [List.drop_eq_getElem_cons hi, cutF_cons] at h2
      have hg : (xs ++ zs)[0 + ((i : Int)).toNat]? = some xs[i] := by
        rw [Nat.zero_add, Int.toNat_natCast, List.getElem?_append_left hi, List.getElem?_eq_getElem hi]
      cases hh : hasB t xs[i]
      · rw [hh] at h2
        refine ⟨xs.length - (i + 1), _, by omega, ?_, i + 1, out, t, rfl, by omega, ht, h2, by omega, rfl⟩
        refine condT (dT (by dsimp only; omega)) ?_
        refine iteT (by dsimp only; omega) ?_
        refine bindS hg ?_
        refine bindS (Has_p ht hk) ?_
        refine condT (by dsimp only; rw [hh]; rfl) ?_
        dsimp only
        rw [w64 (by omega)]
        rfl
      · rw [hh] at h2
        by_cases he : xs[i] = t.lo
        · rw [dT he] at h2
          refine ⟨xs.length - (i + 1), _, by omega, ?_, i + 1, out, t, rfl, by omega, ht, h2, by omega, rfl⟩
          refine condT (dT (by dsimp only; omega)) ?_
          refine iteT (by dsimp only; omega) ?_
          refine bindS hg ?_
          refine bindS (Has_p ht hk) ?_
          refine condF (by dsimp only; rw [hh]; rfl) ?_
          refine condT (dT he) ?_
          dsimp only
          rw [w64 (by omega)]
          rfl
        · rw [dF he] at h2
          refine ⟨xs.length - (i + 1), _, by omega, ?_, i + 1, out ++ [⟨t.lo, xs[i]⟩], ⟨xs[i], t.hi⟩, rfl, by omega, ⟨hk, ht.2⟩, by rw [List.append_assoc]; exact h2, by simp; omega, rfl⟩
          refine condT (dT (by dsimp only; omega)) ?_
          refine iteT (by dsimp only; omega) ?_
          refine bindS hg ?_
          refine bindS (Has_p ht hk) ?_
          refine condF (by dsimp only; rw [hh]; rfl) ?_
          refine condF (dF he) ?_
          refine iteT (by dsimp only; simp; omega) ?_
          dsimp only
          rw [w64 (by omega)]
          rfl
    · right
      obtain rfl : i = xs.length := by omega
      refine ⟨_, condF (dF (by dsimp only; omega)) rfl, out, t, rfl, ?_⟩
      rw [List.drop_length] at h2
      exact h2
  exact ⟨out, s', hz, h2⟩
end Go.Proofs.Ytlmmpfbdgiokmaa
