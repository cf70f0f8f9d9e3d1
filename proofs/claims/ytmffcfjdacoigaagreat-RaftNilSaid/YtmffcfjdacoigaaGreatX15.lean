/- Loops by their places. -/
import Derived.Test.YtmffcfjdacoigaaGreatX14
namespace Go.Proofs.YtmffcfjdacoigaaGreat
open Go.RowKit
set_option maxRecDepth 100000
set_option linter.unusedVariables false
variable {T : Nat → Type} {A : Type}
def bodyOf (fn : Func) : Code := fn.body.getD .skip
def nthL (c : Code) (i : Nat) : Code := (loopsOf c).getD i .skip
def LeOk {C : Codec T} {P : Program} (E : LE C P) (c : Code) : Prop := ∀ (A : Type) (env : XE T) (h : List (HI T)) (k : XK T A) (z : A), runLE E env h k = some z → ∃ ex env' h', k ex env' h' = some z ∧ CodeTr C P (.loop c) env h ex env' h'
section
variable {C : Codec T} {P : Program}
theorem lp_ok {tbl : List (LE C P)} {c : Code} {E : LE C P} (he : lfind tbl (headId c) = some E) (hok : LeOk E c) : (lpsOf tbl : Lps T A).Ok C P c := by
  intro env h k z hk
  unfold lpsOf at hk
  rw [he] at hk
  exact hok A env h k z hk
theorem lps_of {lps : Lps T A} {c : Code} {n : Nat} (hn : (loopsOf c).length = n) (h : ∀ i, i < n → lps.Ok C P (nthL c i)) : ∀ l ∈ loopsOf c, lps.Ok C P l := by
  intro l hl
  obtain ⟨i, hi, he⟩ := List.mem_iff_getElem.1 hl
  have := h i (by omega)
  unfold nthL at this
  rw [List.getD_eq_getElem?_getD, List.getElem?_eq_getElem hi, he] at this
  exact this
theorem lps_fn {lps : Lps T A} {fn : Func} (h : ∀ l ∈ loopsOf (bodyOf fn), lps.Ok C P l) : ∀ c, fn.body = some c → ∀ l ∈ loopsOf c, lps.Ok C P l := by
  intro c hc
  unfold bodyOf at h
  rw [hc] at h
  exact h
theorem no_loop {lps : Lps T A} {c : Code} (hn : (loopsOf c).length = 0) : ∀ l ∈ loopsOf c, lps.Ok C P l := lps_of hn fun i hi => absurd hi (Nat.not_lt_zero i)
end
end Go.Proofs.YtmffcfjdacoigaaGreat
