/- slices.Sort and slices.Compact at two elements. -/
import Derived.Test.YtnmimignbgdfgaaSpo
namespace Go.Proofs.Ytnmimignbgdfgaa
open Go.RowKit
set_option maxRecDepth 100000
set_option linter.unusedVariables false
set_option linter.unusedSimpArgs false

theorem lessT_p (a b : Tx) : cmp_Less a b = some (decide (a < b), ()) := by
  unfold cmp_Less cmp_isNaN
  refine bindS rfl ?_
  exact condF (by simp) rfl
theorem sortInT_p (x y : Tx) : loopM slices_insertionSortOrdered_l2 (((0, 2), 0, 2, 1, 1, ()), ([x, y], ())) = some (((0, 2), 0, 2, 1, ()), ((if y < x then [y, x] else [x, y]), ())) := by
  by_cases h : y < x
  · rw [if_pos h]
    have h1 : slices_insertionSortOrdered_l2 (((0, 2), 0, 2, 1, 1, ()), ([x, y], ())) = some (.inl (((0, 2), 0, 2, 1, 0, ()), ([y, x], ()))) := by
      unfold slices_insertionSortOrdered_l2
      dsimp only
      rw [show IntKind.i64.wrap (1 - 1) = 0 from by decide]
      refine condT rfl ?_
      refine iteT (by (try dsimp only); omega) ?_
      refine iteT (by (try dsimp only); omega) ?_
      refine bindS (v := y) rfl ?_
      refine bindS (v := x) rfl ?_
      refine bindS (lessT_p _ _) ?_
      refine condT (dT h) ?_
      refine iteT (by (try dsimp only); omega) ?_
      refine iteT (by (try dsimp only); omega) ?_
      refine bindS (v := x) rfl ?_
      refine bindS (v := y) rfl ?_
      refine iteT (by (try dsimp only); omega) ?_
      refine bindS (v := y) rfl ?_
      refine iteT (by (try dsimp only); omega) ?_
      refine bindS (v := x) rfl ?_
      rfl
    rw [loopM_next h1]
    refine loopM_end ?_
    unfold slices_insertionSortOrdered_l2
    exact condF rfl rfl
  · rw [if_neg h]
    refine loopM_end ?_
    unfold slices_insertionSortOrdered_l2
    dsimp only
    rw [show IntKind.i64.wrap (1 - 1) = 0 from by decide]
    refine condT rfl ?_
    refine iteT (by (try dsimp only); omega) ?_
    refine iteT (by (try dsimp only); omega) ?_
    refine bindS (v := y) rfl ?_
    refine bindS (v := x) rfl ?_
    refine bindS (lessT_p _ _) ?_
    exact condF (dF h) rfl
theorem insertT_p (x y : Tx) : slices_insertionSortOrdered (0, 2) 0 2 [x, y] = some ((), ((if y < x then [y, x] else [x, y]), ())) := by
  have h1 : slices_insertionSortOrdered_l1 (((0, 2), 0, 2, 1, ()), ([x, y], ())) = some (.inl (((0, 2), 0, 2, 2, ()), ((if y < x then [y, x] else [x, y]), ()))) := by
    unfold slices_insertionSortOrdered_l1
    refine condT rfl ?_
    refine bindS (sortInT_p x y) ?_
    dsimp only
    rw [show IntKind.i64.wrap (1 + 1) = 2 from by decide]
  have h2 : ∀ l, slices_insertionSortOrdered_l1 (((0, 2), 0, 2, 2, ()), (l, ())) = some (.inr ((), (l, ()))) := fun l => by
    unfold slices_insertionSortOrdered_l1
    exact condF rfl rfl
  unfold slices_insertionSortOrdered
  rw [show IntKind.i64.wrap (0 + 1) = 1 from by decide, loopM_next h1, loopM_end (h2 _)]
  rfl
theorem pdqT_p (q : Int) (x y : Tx) : slices_pdqsortOrdered (0, 2) 0 2 q [x, y] = some ((), ((if y < x then [y, x] else [x, y]), ())) := by
  have h1 : slices_pdqsortOrdered_l1 (((0, 2), 0, 2, q, true, true, ()), ([x, y], ())) = some (.inr ((), ((if y < x then [y, x] else [x, y]), ()))) := by
    unfold slices_pdqsortOrdered_l1
    refine condT rfl ?_
    exact bindS (insertT_p x y) rfl
  unfold slices_pdqsortOrdered
  exact bindS (loopM_end h1) rfl
theorem Sort2T_p (x y : Tx) : slices_Sort (0, 2) [x, y] = some ((), ((if y < x then [y, x] else [x, y]), ())) := by
  have hl : bits_Len (IntKind.u64.wrap ((2 : Nat) : Int)) = some (2, ()) := by
    rw [show IntKind.u64.wrap ((2 : Nat) : Int) = 2 from by decide]
    unfold bits_Len bits_Len64
    rfl
  unfold slices_Sort
  refine bindS hl ?_
  exact bindS (pdqT_p _ x y) rfl
theorem Compact2T_p (x y : Tx) : slices_Compact (0, 2) [x, y] = some ((0, if y = x then 1 else 2), ((if y = x then [x, []] else [x, y]), ())) := by
  unfold slices_Compact
  refine condF rfl ?_
  by_cases h : y = x
  · subst h
    rw [if_pos rfl, if_pos rfl]
    have h1 : slices_Compact_l1 (((0, 2), 1, ()), ([y, y], ())) = some (.inr (.inl (((0, 1), ()), ([y, []], ())))) := by
      unfold slices_Compact_l1
      dsimp only
      rw [show IntKind.i64.wrap (1 - 1) = 0 from by decide]
      refine condT rfl ?_
      refine iteT (by (try dsimp only); omega) ?_
      refine iteT (by (try dsimp only); omega) ?_
      refine bindS (v := y) rfl ?_
      refine bindS (v := y) rfl ?_
      refine condT (dT rfl) ?_
      refine iteT (by (try dsimp only); omega) ?_
      have h2 : slices_Compact_l2 (((0, 2), 1, (1, 1), 1, ()), ([y, y], ())) = some (.inr (((0, 2), 1, ()), ([y, y], ()))) := by
        unfold slices_Compact_l2
        exact condF rfl rfl
      refine bindS (loopM_end h2) ?_
      refine iteT (by (try dsimp only); omega) ?_
      refine iteT (by simp) ?_
      dsimp only
      refine iteT (by (try dsimp only); omega) ?_
      rfl
    exact bindS (loopM_end h1) rfl
  · rw [if_neg h, if_neg h]
    have h1 : slices_Compact_l1 (((0, 2), 1, ()), ([x, y], ())) = some (.inl (((0, 2), 2, ()), ([x, y], ()))) := by
      unfold slices_Compact_l1
      dsimp only
      rw [show IntKind.i64.wrap (1 - 1) = 0 from by decide, show IntKind.i64.wrap (1 + 1) = 2 from by decide]
      refine condT rfl ?_
      refine iteT (by (try dsimp only); omega) ?_
      refine iteT (by (try dsimp only); omega) ?_
      refine bindS (v := y) rfl ?_
      refine bindS (v := x) rfl ?_
      exact condF (dF h) rfl
    have h2 : slices_Compact_l1 (((0, 2), 2, ()), ([x, y], ())) = some (.inr (.inr (((0, 2), ()), ([x, y], ())))) := by
      unfold slices_Compact_l1
      exact condF rfl rfl
    rw [loopM_next h1]
    exact bindS (loopM_end h2) rfl

theorem lessI_p (a b : Int) : cmp_Less_2 a b = some (decide (a < b), ()) := by
  unfold cmp_Less_2 cmp_isNaN_2
  refine bindS rfl ?_
  exact condF (by simp) rfl
theorem sortInI_p (x y : Int) : loopM slices_insertionSortOrdered_3_l2 ((2, 0, 2, 1, 1, ()), ([x, y], ())) = some ((2, 0, 2, 1, ()), ((if y < x then [y, x] else [x, y]), ())) := by
  by_cases h : y < x
  · rw [if_pos h]
    have h1 : slices_insertionSortOrdered_3_l2 ((2, 0, 2, 1, 1, ()), ([x, y], ())) = some (.inl ((2, 0, 2, 1, 0, ()), ([y, x], ()))) := by
      unfold slices_insertionSortOrdered_3_l2
      dsimp only
      rw [show IntKind.i64.wrap (1 - 1) = 0 from by decide]
      refine condT rfl ?_
      refine iteT (by (try dsimp only); omega) ?_
      refine iteT (by (try dsimp only); omega) ?_
      refine bindS (v := y) rfl ?_
      refine bindS (v := x) rfl ?_
      refine bindS (lessI_p _ _) ?_
      refine condT (dT h) ?_
      refine iteT (by (try dsimp only); omega) ?_
      refine iteT (by (try dsimp only); omega) ?_
      refine bindS (v := x) rfl ?_
      refine bindS (v := y) rfl ?_
      refine iteT (by (try dsimp only); omega) ?_
      refine bindS (v := y) rfl ?_
      refine iteT (by (try dsimp only); omega) ?_
      refine bindS (v := x) rfl ?_
      rfl
    rw [loopM_next h1]
    refine loopM_end ?_
    unfold slices_insertionSortOrdered_3_l2
    exact condF rfl rfl
  · rw [if_neg h]
    refine loopM_end ?_
    unfold slices_insertionSortOrdered_3_l2
    dsimp only
    rw [show IntKind.i64.wrap (1 - 1) = 0 from by decide]
    refine condT rfl ?_
    refine iteT (by (try dsimp only); omega) ?_
    refine iteT (by (try dsimp only); omega) ?_
    refine bindS (v := y) rfl ?_
    refine bindS (v := x) rfl ?_
    refine bindS (lessI_p _ _) ?_
    exact condF (dF h) rfl
theorem insertI_p (x y : Int) : slices_insertionSortOrdered_3 2 0 2 [x, y] = some ((), ((if y < x then [y, x] else [x, y]), ())) := by
  have h1 : slices_insertionSortOrdered_3_l1 ((2, 0, 2, 1, ()), ([x, y], ())) = some (.inl ((2, 0, 2, 2, ()), ((if y < x then [y, x] else [x, y]), ()))) := by
    unfold slices_insertionSortOrdered_3_l1
    refine condT rfl ?_
    refine bindS (sortInI_p x y) ?_
    dsimp only
    rw [show IntKind.i64.wrap (1 + 1) = 2 from by decide]
  have h2 : ∀ l, slices_insertionSortOrdered_3_l1 ((2, 0, 2, 2, ()), (l, ())) = some (.inr ((), (l, ()))) := fun l => by
    unfold slices_insertionSortOrdered_3_l1
    exact condF rfl rfl
  unfold slices_insertionSortOrdered_3
  rw [show IntKind.i64.wrap (0 + 1) = 1 from by decide, loopM_next h1, loopM_end (h2 _)]
  rfl
theorem pdqI_p (q : Int) (x y : Int) : slices_pdqsortOrdered_3 2 0 2 q [x, y] = some ((), ((if y < x then [y, x] else [x, y]), ())) := by
  have h1 : slices_pdqsortOrdered_3_l1 ((2, 0, 2, q, true, true, ()), ([x, y], ())) = some (.inr ((), ((if y < x then [y, x] else [x, y]), ()))) := by
    unfold slices_pdqsortOrdered_3_l1
    refine condT rfl ?_
    exact bindS (insertI_p x y) rfl
  unfold slices_pdqsortOrdered_3
  exact bindS (loopM_end h1) rfl
theorem Sort2I_p (x y : Int) : slices_Sort_3 2 [x, y] = some ((), ((if y < x then [y, x] else [x, y]), ())) := by
  have hl : bits_Len (IntKind.u64.wrap ((2 : Nat) : Int)) = some (2, ()) := by
    rw [show IntKind.u64.wrap ((2 : Nat) : Int) = 2 from by decide]
    unfold bits_Len bits_Len64
    rfl
  unfold slices_Sort_3
  refine bindS hl ?_
  exact bindS (pdqI_p _ x y) rfl
theorem Compact2I_p (x y : Int) : slices_Compact_3 2 [x, y] = some ((0, if y = x then 1 else 2), ((if y = x then [x, 0] else [x, y]), ())) := by
  unfold slices_Compact_3
  refine condF rfl ?_
  by_cases h : y = x
  · subst h
    rw [if_pos rfl, if_pos rfl]
    have h1 : slices_Compact_3_l1 ((2, 1, ()), ([y, y], ())) = some (.inr (.inl (((0, 1), ()), ([y, 0], ())))) := by
      unfold slices_Compact_3_l1
      dsimp only
      rw [show IntKind.i64.wrap (1 - 1) = 0 from by decide]
      refine condT rfl ?_
      refine iteT (by (try dsimp only); omega) ?_
      refine iteT (by (try dsimp only); omega) ?_
      refine bindS (v := y) rfl ?_
      refine bindS (v := y) rfl ?_
      refine condT (dT rfl) ?_
      refine iteT (by (try dsimp only); omega) ?_
      have h2 : slices_Compact_3_l2 ((2, 1, (1, 1), 1, ()), ([y, y], ())) = some (.inr ((2, 1, ()), ([y, y], ()))) := by
        unfold slices_Compact_3_l2
        exact condF rfl rfl
      refine bindS (loopM_end h2) ?_
      refine iteT (by (try dsimp only); omega) ?_
      refine iteT (by simp) ?_
      dsimp only
      refine iteT (by (try dsimp only); omega) ?_
      rfl
    exact bindS (loopM_end h1) rfl
  · rw [if_neg h, if_neg h]
    have h1 : slices_Compact_3_l1 ((2, 1, ()), ([x, y], ())) = some (.inl ((2, 2, ()), ([x, y], ()))) := by
      unfold slices_Compact_3_l1
      dsimp only
      rw [show IntKind.i64.wrap (1 - 1) = 0 from by decide, show IntKind.i64.wrap (1 + 1) = 2 from by decide]
      refine condT rfl ?_
      refine iteT (by (try dsimp only); omega) ?_
      refine iteT (by (try dsimp only); omega) ?_
      refine bindS (v := y) rfl ?_
      refine bindS (v := x) rfl ?_
      exact condF (dF h) rfl
    have h2 : slices_Compact_3_l1 ((2, 2, ()), ([x, y], ())) = some (.inr (.inr ((2, ()), ([x, y], ())))) := by
      unfold slices_Compact_3_l1
      exact condF rfl rfl
    rw [loopM_next h1]
    exact bindS (loopM_end h2) rfl
end Go.Proofs.Ytnmimignbgdfgaa
