/- Lists without neighbours that are the same; sorted lists of texts. -/
import Derived.Test.YtlmmpfbdgiokmaaPl
namespace Go.Proofs.Ytlmmpfbdgiokmaa
open Go.RowKit
set_option maxRecDepth 100000
set_option linter.unusedVariables false
set_option linter.unusedSimpArgs false
section
variable {α : Type} [DecidableEq α]
def dd : List α → List α
  | [] => []
  | [x] => [x]
  | x :: y :: l => if x = y then dd (y :: l) else x :: dd (y :: l)
theorem dd_snoc : ∀ (l : List α) (x : α), dd (l ++ [x]) = if l.getLast? = some x then dd l else dd l ++ [x]
  | [], x => by simp [dd]
  | [a], x => by
    simp only [List.cons_append, List.nil_append, dd, List.getLast?_singleton, Option.some.injEq]
    by_cases h : a = x
    · rw [if_pos h, if_pos h, h]
    · rw [if_neg h, if_neg h]
  | a :: b :: l, x => by
    have ih := dd_snoc (b :: l) x
    simp only [List.cons_append] at ih ⊢
    simp only [dd, List.getLast?_cons_cons]
    rw [ih]
    by_cases h : a = b
    · rw [if_pos h, if_pos h]
    · rw [if_neg h, if_neg h]
      split <;> rfl
theorem dd_sub : ∀ (l : List α), (dd l).Sublist l
  | [] => .slnil
  | [x] => by simp [dd]
  | x :: y :: l => by
    unfold dd
    split
    · exact (dd_sub (y :: l)).cons _
    · exact (dd_sub (y :: l)).cons_cons _
theorem mem_dd {x : α} : ∀ {l : List α}, x ∈ dd l ↔ x ∈ l
  | [] => by simp [dd]
  | [y] => by simp [dd]
  | a :: b :: l => by
    unfold dd
    have ih := mem_dd (x := x) (l := b :: l)
    split
    · rename_i h
      rw [ih]
      subst h
      simp
    · simp only [List.mem_cons] at ih ⊢
      rw [ih]
theorem dd_len (l : List α) : (dd l).length ≤ l.length := (dd_sub l).length_le
theorem dd_ne {l : List α} (h : l ≠ []) : dd l ≠ [] := fun e => by
  cases l with
  | nil => exact h rfl
  | cons x l =>
    have : x ∈ dd (x :: l) := mem_dd.2 List.mem_cons_self
    rw [e] at this
    cases this
end
abbrev leT (x y : List UInt8) : Bool := decide (x ≤ y)
/-- A list of texts, in order, each once. -/
def sdF (l : List (List UInt8)) : List (List UInt8) := dd (l.mergeSort leT)
theorem mem_sdF {x : List UInt8} {l : List (List UInt8)} : x ∈ sdF l ↔ x ∈ l := by
  unfold sdF
  rw [mem_dd, List.mem_mergeSort]
theorem sort_pw (l : List (List UInt8)) : (l.mergeSort leT).Pairwise fun x y => ¬ y < x := by
  have h := List.pairwise_mergeSort (le := leT) (fun a b c h1 h2 => by
    simp only [decide_eq_true_eq] at h1 h2 ⊢
    exact List.le_trans h1 h2) (fun a b => by
    simp only [Bool.or_eq_true, decide_eq_true_eq]
    exact List.le_total a b) l
  refine h.imp fun {a b} hab => ?_
  simp only [decide_eq_true_eq] at hab
  exact List.not_lt.2 hab
theorem sdF_pw (l : List (List UInt8)) : (sdF l).Pairwise fun x y => ¬ y < x := (sort_pw l).sublist (dd_sub _)
theorem sdF_len (l : List (List UInt8)) : (sdF l).length ≤ l.length := by
  have := dd_len (l.mergeSort leT)
  rw [List.length_mergeSort] at this
  exact this
end Go.Proofs.Ytlmmpfbdgiokmaa
