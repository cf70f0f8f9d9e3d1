/- Loops by their places. -/
import Derived.Test.YtinpiaibhjmfaaaX14
namespace Go.Proofs.Ytinpiaibhjmfaaa
open Go.RowKit
set_option maxRecDepth 100000
set_option linter.unusedVariables false
variable {T : Nat -> Type} {A : Type}
def Zhm (fn : Func) : Code := fn.body.getD .skip
def Zqn (c : Code) (i : Nat) : Code := (ZbF c).getD i .skip
def ZsB {C : Zav T} {P : Program} (E : LE C P) (c : Code) : Prop := ∀ (A : Type) (env : XE T) (h : List (HI T)) (k : XK T A) (z : A), ZqS E env h k = some z -> ∃ ex env' h', k ex env' h' = some z /\ ZmY C P (.loop c) env h ex env' h'
section
variable {C : Zav T} {P : Program}
theorem Zob {tbl : List (LE C P)} {c : Code} {E : LE C P} (he : ZsA tbl (Zgw c) = some E) (hok : ZsB E c) : (ZgB tbl : Lps T A).Ok C P c := by
 intro env h k z hk
 unfold ZgB at hk
 rw [he] at hk
 exact hok A env h k z hk
theorem Zk1 {lps : Lps T A} {c : Code} {n : Nat} (hn : (ZbF c).length = n) (h : ∀ i, i < n -> lps.Ok C P (Zqn c i)) : ∀ l ∈ ZbF c, lps.Ok C P l := by
 intro l hl
 obtain ⟨i, hi, he⟩ := List.mem_iff_getElem.1 hl
 have := h i (by omega)
 unfold Zqn at this
 rw [List.getD_eq_getElem?_getD, List.getElem?_eq_getElem hi, he] at this
 exact this
theorem Zjd {lps : Lps T A} {fn : Func} (h : ∀ l ∈ ZbF (Zhm fn), lps.Ok C P l) : ∀ c, fn.body = some c -> ∀ l ∈ ZbF c, lps.Ok C P l := by
 intro c hc
 unfold Zhm at h
 rw [hc] at h
 exact h
theorem Ze7 {lps : Lps T A} {c : Code} (hn : (ZbF c).length = 0) : ∀ l ∈ ZbF c, lps.Ok C P l := Zk1 hn fun i hi => absurd hi (Nat.not_lt_zero i)
end
end Go.Proofs.Ytinpiaibhjmfaaa
