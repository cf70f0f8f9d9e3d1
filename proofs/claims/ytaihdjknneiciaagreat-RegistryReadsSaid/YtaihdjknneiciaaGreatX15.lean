/- Loops by their places. -/
import Derived.Test.YtaihdjknneiciaaGreatX14
namespace Go.Proofs.YtaihdjknneiciaaGreat
open Go.RowKit
set_option maxRecDepth 100000
set_option linter.unusedVariables false
variable {T : Nat -> Type} {A : Type}
def ZaD (fn : Func) : Code := fn.body.getD .skip
def ZcN (c : Code) (i : Nat) : Code := (ZbA c).getD i .skip
def ZdE {C : Zaz T} {P : Program} (E : LE C P) (c : Code) : Prop := ∀ (A : Type) (env : XE T) (h : List (HI T)) (k : XK T A) (z : A), ZCf E env h k = some z -> ∃ ex env' h', k ex env' h' = some z /\ ZqM C P (.loop c) env h ex env' h'
section
variable {C : Zaz T} {P : Program}
theorem Za4 {tbl : List (LE C P)} {c : Code} {E : LE C P} (he : ZDT tbl (ZjD c) = some E) (hok : ZdE E c) : (Zap tbl : Lps T A).Ok C P c := by
 intro env h k z hk
 unfold Zap at hk
 rw [he] at hk
 exact hok A env h k z hk
theorem ZaI {lps : Lps T A} {c : Code} {n : Nat} (hn : (ZbA c).length = n) (h : ∀ i, i < n -> lps.Ok C P (ZcN c i)) : ∀ l ∈ ZbA c, lps.Ok C P l := by
 intro l hl
 obtain ⟨i, hi, he⟩ := List.mem_iff_getElem.1 hl
 have := h i (by omega)
 unfold ZcN at this
 rw [List.getD_eq_getElem?_getD, List.getElem?_eq_getElem hi, he] at this
 exact this
theorem Zau {lps : Lps T A} {fn : Func} (h : ∀ l ∈ ZbA (ZaD fn), lps.Ok C P l) : ∀ c, fn.body = some c -> ∀ l ∈ ZbA c, lps.Ok C P l := by
 intro c hc
 unfold ZaD at h
 rw [hc] at h
 exact h
theorem Zal {lps : Lps T A} {c : Code} (hn : (ZbA c).length = 0) : ∀ l ∈ ZbA c, lps.Ok C P l := ZaI hn fun i hi => absurd hi (Nat.not_lt_zero i)
end
end Go.Proofs.YtaihdjknneiciaaGreat
