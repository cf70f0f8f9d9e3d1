/- Loops by their places. -/
import Derived.Test.YtlmmpfbdgiokmaaGreatX14
namespace Go.Proofs.YtlmmpfbdgiokmaaGreat
open Go.RowKit
set_option maxRecDepth 100000
set_option linter.unusedVariables false
variable {T : Nat -> Type} {A : Type}
def Zbp (fn : Func) : Code := fn.body.getD .skip
def Zg9 (c : Code) (i : Nat) : Code := (Zdf c).getD i .skip
def Zh5 {C : Zau T} {P : Program} (E : LE C P) (c : Code) : Prop := ∀ (A : Type) (env : XE T) (h : List (HI T)) (k : XK T A) (z : A), ZyL E env h k = some z -> ∃ ex env' h', k ex env' h' = some z /\ Zjs C P (.loop c) env h ex env' h'
section
variable {C : Zau T} {P : Program}
theorem ZdM {tbl : List (LE C P)} {c : Code} {E : LE C P} (he : ZyM tbl (Zjr c) = some E) (hok : Zh5 E c) : (Zaq tbl : Lps T A).Ok C P c := by
 intro env h k z hk
 unfold Zaq at hk
 rw [he] at hk
 exact hok A env h k z hk
theorem Zcd {lps : Lps T A} {c : Code} {n : Nat} (hn : (Zdf c).length = n) (h : ∀ i, i < n -> lps.Ok C P (Zg9 c i)) : ∀ l ∈ Zdf c, lps.Ok C P l := by
 intro l hl
 obtain ⟨i, hi, he⟩ := List.mem_iff_getElem.1 hl
 have := h i (by omega)
 unfold Zg9 at this
 rw [List.getD_eq_getElem?_getD, List.getElem?_eq_getElem hi, he] at this
 exact this
theorem Zao {lps : Lps T A} {fn : Func} (h : ∀ l ∈ Zdf (Zbp fn), lps.Ok C P l) : ∀ c, fn.body = some c -> ∀ l ∈ Zdf c, lps.Ok C P l := by
 intro c hc
 unfold Zbp at h
 rw [hc] at h
 exact h
theorem Zai {lps : Lps T A} {c : Code} (hn : (Zdf c).length = 0) : ∀ l ∈ Zdf c, lps.Ok C P l := Zcd hn fun i hi => absurd hi (Nat.not_lt_zero i)
end
end Go.Proofs.YtlmmpfbdgiokmaaGreat
