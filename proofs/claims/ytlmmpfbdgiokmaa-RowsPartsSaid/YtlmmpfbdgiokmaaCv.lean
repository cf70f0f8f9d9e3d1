/- Cut, plainly: at any texts. -/
import Derived.Test.YtlmmpfbdgiokmaaSpp
import Derived.Test.YtlmmpfbdgiokmaaDd
namespace Go.Proofs.Ytlmmpfbdgiokmaa
open Go.RowKit
set_option maxRecDepth 100000
set_option linter.unusedVariables false
set_option linter.unusedSimpArgs false
theorem get_of_drop {α : Type} {a b : List α} {i j : Nat} (h : a.drop i = b.drop i) (hj : i ≤ j) : a[j]? = b[j]? := by
  have := congrArg (·[j - i]?) h
  simp only [List.getElem?_drop] at this
  rwa [show i + (j - i) = j from by omega] at this
theorem drop_of_drop {α : Type} {a b : List α} {i j : Nat} (h : a.drop i = b.drop i) (hj : i ≤ j) : a.drop j = b.drop j := by
  have := congrArg (·.drop (j - i)) h
  simp only [List.drop_drop] at this
  rwa [show i + (j - i) = j from by omega] at this
theorem last_take {α : Type} {l : List α} {j : Nat} (hj : 1 ≤ j) (h : j ≤ l.length) : (l.take j).getLast? = l[j - 1]? := by
  rw [List.getLast?_eq_getElem?, List.length_take, List.getElem?_take]
  rw [show min j l.length = j from by omega, if_pos (by omega)]
theorem compactIn_p {xs : List Tx} {k : Nat} (hk : 1 ≤ k) (hkn : k < xs.length) (hn : xs.length ≤ 1000000) (hnd : dd (xs.take k) = xs.take k) (heq : xs[k]? = xs[k - 1]?) :
    ∃ arr : List Tx, loopM slices_Compact_l2 (((0, xs.length), (k : Int), (k, xs.length - k), 1, ()), (xs, ())) = some (((0, xs.length), ((dd xs).length : Int), ()), (arr, ())) ∧ arr.length = xs.length ∧ arr.take (dd xs).length = dd xs := by
  obtain ⟨z, hz, arr, rfl, h1, h2⟩ : ∃ z, loopM slices_Compact_l2 (((0, xs.length), (k : Int), (k, xs.length - k), 1, ()), (xs, ())) = some z ∧ ∃ arr : List Tx, z = (((0, xs.length), ((dd xs).length : Int), ()), (arr, ())) ∧ arr.length = xs.length ∧ arr.take (dd xs).length = dd xs := by
    refine loopM_spec (fun n a => ∃ (d k' : Nat) (arr : List Tx), a = (((0, xs.length), (k' : Int), (k, xs.length - k), (d : Int), ()), (arr, ())) ∧ 1 ≤ d ∧ k + d ≤ xs.length ∧ arr.length = xs.length ∧ arr.drop (k + d - 1) = xs.drop (k + d - 1) ∧ k' ≤ k + d - 1 ∧ k' = (dd (xs.take (k + d))).length ∧ arr.take k' = dd (xs.take (k + d)) ∧ n = xs.length - (k + d)) _ ?_ (n := xs.length - (k + 1)) ?_
    rotate_left
    · have hx : dd (xs.take (k + 1)) = xs.take k := by
        rw [List.take_succ_eq_append_getElem hkn, dd_snoc, last_take hk (by omega), ← heq, List.getElem?_eq_getElem hkn, if_pos rfl, hnd]
      refine ⟨1, k, xs, rfl, Nat.le_refl _, by omega, rfl, rfl, by omega, ?_, ?_, rfl⟩
      · rw [hx, List.length_take]; omega
      · rw [hx]
    rintro n a ⟨d, k', arr, rfl, h1, h2, h3, h4, h5, h6, h7, rfl⟩
    unfold slices_Compact_l2
    by_cases hd : k + d < xs.length
    · left
      have g1 : arr[k + d]? = some xs[k + d] := by rw [get_of_drop h4 (by omega), List.getElem?_eq_getElem hd]
      have g2 : arr[k + (d - 1)]? = some xs[k + d - 1] := by rw [get_of_drop h4 (by omega), show k + (d - 1) = k + d - 1 from by omega, List.getElem?_eq_getElem (by omega)]
      have hw : IntKind.i64.wrap ((d : Int) - 1) = ((d - 1 : Nat) : Int) := by rw [w64 (by omega)]; omega
      have hnext : dd (xs.take (k + d + 1)) = if xs[k + d - 1] = xs[k + d] then dd (xs.take (k + d)) else dd (xs.take (k + d)) ++ [xs[k + d]] := by
        rw [List.take_succ_eq_append_getElem hd, dd_snoc, last_take (by omega) (by omega), List.getElem?_eq_getElem (by omega)]
        by_cases he : xs[k + d - 1] = xs[k + d]
        · rw [if_pos (congrArg some he), if_pos he]
        · rw [if_neg (fun h => he (by injection h)), if_neg he]
      by_cases he : xs[k + d - 1] = xs[k + d]
      · rw [if_pos he] at hnext
        refine ⟨xs.length - (k + (d + 1)), _, by omega, ?_, d + 1, k', arr, rfl, by omega, by omega, h3, ?_, by omega, by rw [← Nat.add_assoc, hnext]; exact h6, by rw [← Nat.add_assoc, hnext]; exact h7, rfl⟩
        · refine condT (dT (by dsimp only; omega)) ?_
          refine iteT (by dsimp only; omega) ?_
          refine iteT (by dsimp only; rw [hw]; omega) ?_
          refine bindS g1 ?_
          refine bindS (v := xs[k + d - 1]) (by dsimp only; rw [hw, Int.toNat_natCast]; exact g2) ?_
          refine condF (dF (fun h => h he.symm)) ?_
          dsimp only
          rw [w64 (by omega)]
          rfl
        · exact drop_of_drop h4 (by omega)
      · rw [if_neg he] at hnext
        refine ⟨xs.length - (k + (d + 1)), _, by omega, ?_, d + 1, k' + 1, arr.set k' xs[k + d], rfl, by omega, by omega, by simpa using h3, ?_, by omega, by rw [← Nat.add_assoc, hnext, List.length_append, ← h6]; rfl, ?_, rfl⟩
        · refine condT (dT (by dsimp only; omega)) ?_
          refine iteT (by dsimp only; omega) ?_
          refine iteT (by dsimp only; rw [hw]; omega) ?_
          refine bindS g1 ?_
          refine bindS (v := xs[k + d - 1]) (by dsimp only; rw [hw, Int.toNat_natCast]; exact g2) ?_
          refine condT (dT (fun h => he h.symm)) ?_
          refine iteT (by dsimp only; omega) ?_
          refine bindS g1 ?_
          refine iteT (by dsimp only; omega) ?_
          refine bindS (v := arr[k']'(by omega)) (by dsimp only; rw [Nat.zero_add, Int.toNat_natCast]; exact List.getElem?_eq_getElem _) ?_
          dsimp only
          rw [w64 (by omega), w64 (by omega), Nat.zero_add, Int.toNat_natCast]
          rfl
        · rw [List.drop_set_of_lt (by omega)]
          exact drop_of_drop h4 (by omega)
        · rw [← Nat.add_assoc, hnext, List.take_succ_eq_append_getElem (by simp; omega), List.getElem_set_self, List.take_set_of_le (Nat.le_refl _), h7]
    · right
      have hkd : k + d = xs.length := by omega
      have ht : xs.take (k + d) = xs := by rw [hkd, List.take_length]
      rw [ht] at h6 h7
      refine ⟨_, condF (dF (by dsimp only; omega)) rfl, arr, ?_, h3, ?_⟩
      · dsimp only; rw [h6]
      · rw [← h6]; exact h7
  exact ⟨arr, hz, h1, h2⟩
theorem Compact_p {xs : List Tx} (hn : xs.length ≤ 1000000) : ∃ arr : List Tx, slices_Compact (0, xs.length) xs = some ((0, (dd xs).length), (arr, ())) ∧ arr.take (dd xs).length = dd xs := by
  unfold slices_Compact
  by_cases h2 : xs.length < 2
  · have hd : dd xs = xs := by
      match xs, h2 with
      | [], _ => rfl
      | [x], _ => rfl
    refine ⟨xs, condT (dT (by dsimp only; omega)) ?_, by rw [hd, List.take_length]⟩
    rw [hd]
  · have key : ∃ z, loopM slices_Compact_l1 (((0, xs.length), 1, ()), (xs, ())) = some z ∧ ((∃ arr : List Tx, z = .inl (((0, (dd xs).length), ()), (arr, ())) ∧ arr.take (dd xs).length = dd xs) ∨ z = .inr (((0, xs.length), ()), (xs, ())) ∧ dd xs = xs) := by
      refine loopM_spec (fun n a => ∃ k : Nat, a = (((0, xs.length), (k : Int), ()), (xs, ())) ∧ 1 ≤ k ∧ k ≤ xs.length ∧ dd (xs.take k) = xs.take k ∧ n = xs.length - k) _ ?_ (n := xs.length - 1) ⟨1, rfl, Nat.le_refl _, by omega, ?_, rfl⟩
      rotate_left
      · match xs, h2 with
        | [], h => exact absurd (by simp) h
        | x :: l, _ => rfl
      rintro n a ⟨k, rfl, g1, g2, g3, rfl⟩
      unfold slices_Compact_l1
      by_cases hk : k < xs.length
      · have hw : IntKind.i64.wrap ((k : Int) - 1) = ((k - 1 : Nat) : Int) := by rw [w64 (by omega)]; omega
        have r1 : xs[0 + k]? = some xs[k] := by rw [Nat.zero_add, List.getElem?_eq_getElem hk]
        have r2 : xs[0 + (k - 1)]? = some xs[k - 1] := by rw [Nat.zero_add, List.getElem?_eq_getElem (by omega)]
        by_cases he : xs[k] = xs[k - 1]
        · right
          obtain ⟨arr, q1, q2, q3⟩ := compactIn_p g1 hk hn g3 (by rw [List.getElem?_eq_getElem hk, List.getElem?_eq_getElem (by omega), he])
          have hdl := dd_len xs
          have hdt : dd (xs.take k) = xs.take k := g3
          refine ⟨_, ?_, .inl ⟨arr.take (dd xs).length ++ List.replicate (xs.length - (dd xs).length) [] ++ arr.drop ((dd xs).length + (xs.length - (dd xs).length)), rfl, ?_⟩⟩
          · refine condT (dT (by dsimp only; omega)) ?_
            refine iteT (by dsimp only; omega) ?_
            refine iteT (by dsimp only; rw [hw]; omega) ?_
            refine bindS r1 ?_
            refine bindS (v := xs[k - 1]) (by dsimp only; rw [hw, Int.toNat_natCast]; exact r2) ?_
            refine condT (dT he) ?_
            refine iteT (by dsimp only; omega) ?_
            refine bindS (v := (((0, xs.length), ((dd xs).length : Int), ()), (arr, ()))) (by dsimp only; rw [Nat.zero_add, Int.toNat_natCast, Int.toNat_natCast]; exact q1) ?_
            refine iteT (by dsimp only; omega) ?_
            refine iteT (by dsimp only; rw [Nat.zero_add, Int.toNat_natCast]; omega) ?_
            dsimp only
            refine iteT (by omega) ?_
            simp only [Nat.zero_add, Int.toNat_natCast]
            rfl
          · rw [List.append_assoc, List.take_append_of_le_length (by rw [List.length_take]; omega), List.take_take, Nat.min_self]
            exact q3
        · left
          refine ⟨xs.length - (k + 1), _, by omega, ?_, k + 1, rfl, by omega, by omega, ?_, rfl⟩
          · refine condT (dT (by dsimp only; omega)) ?_
            refine iteT (by dsimp only; omega) ?_
            refine iteT (by dsimp only; rw [hw]; omega) ?_
            refine bindS r1 ?_
            refine bindS (v := xs[k - 1]) (by dsimp only; rw [hw, Int.toNat_natCast]; exact r2) ?_
            refine condF (dF he) ?_
            dsimp only
            rw [w64 (by omega)]
            rfl
          · rw [List.take_succ_eq_append_getElem hk, dd_snoc, last_take g1 (by omega), List.getElem?_eq_getElem (by omega), if_neg (fun h => he (by injection h with h; exact h.symm)), g3]
      · right
        have hkx : k = xs.length := by omega
        refine ⟨_, condF (dF (by dsimp only; omega)) rfl, .inr ⟨rfl, ?_⟩⟩
        rw [hkx, List.take_length] at g3
        exact g3
    obtain ⟨z, hz, ⟨arr, rfl, q⟩ | ⟨rfl, q⟩⟩ := key
    · exact ⟨arr, condF (dF (by dsimp only; omega)) (bindS hz rfl), q⟩
    · refine ⟨xs, condF (dF (by dsimp only; omega)) (bindS hz ?_), by rw [q, List.take_length]⟩
      dsimp only
      rw [q]
theorem Sorted_p {xs : List Tx} (h : xs.length ≤ 1000000) : slices_Sorted xs = some ((0, xs.length), (xs, xs.mergeSort leT, ())) := by
  unfold slices_Sorted slices_Collect appendSeq
  rw [if_pos (by omega)]
  refine bindS rfl ?_
  refine bindS (v := ((), (xs.mergeSort leT, ()))) ?_ rfl
  unfold sortT
  exact if_pos ⟨rfl, rfl, by dsimp only; omega⟩
/-- Cut at any texts. -/
theorem Cut_p {s : DSpan} {xs : List Tx} (hs : OkSp s) (hx : ∀ k ∈ xs, OkT k) (hl : xs.length ≤ 100000) : span_Cut s xs = some (bif rightB s then cutF s (sdF xs) else [], ((), ())) := by
  unfold span_Cut
  rw [Right_p hs]
  refine bindS rfl ?_
  cases rightB s
  · exact condT rfl rfl
  refine condF rfl ?_
  refine bindS rfl ?_
  refine bindS (Sorted_p (xs := xs) (by omega)) ?_
  obtain ⟨arr, c1, c2⟩ := Compact_p (xs := xs.mergeSort leT) (by rw [List.length_mergeSort]; omega)
  rw [List.length_mergeSort] at c1
  refine bindS c1 ?_
  have hdl := sdF_len xs
  have harr : arr = sdF xs ++ arr.drop (sdF xs).length := by
    conv => lhs; rw [← List.take_append_drop (sdF xs).length arr]
    rw [show arr.take (sdF xs).length = sdF xs from c2]
  obtain ⟨out, s', h1, h2⟩ := cutLoop_p (at_ := []) (arr.drop (sdF xs).length) (xs := sdF xs) (fun k hk => hx k (mem_sdF.1 hk)) (by omega) hs
  rw [← harr] at h1
  refine bindS h1 ?_
  have hcl := cutF_len s (sdF xs)
  rw [← h2] at hcl
  simp at hcl
  refine iteT (by dsimp only; simp; omega) ?_
  rw [← h2]
  rfl
end Go.Proofs.Ytlmmpfbdgiokmaa
