/- XTa, XLn, XTc, XCi in one. -/
import Derived.Test.YtnmimignbgdfgaaGreatMb
/- SharesTells: which share is told; rows that are the same; rows that are lent, kept, written over. -/
namespace Go.Proofs.YtnmimignbgdfgaaGreat
open Go.RowKit
set_option maxRecDepth 100000
set_option linter.unusedVariables false
set_option linter.unusedSimpArgs false
theorem pick_first {s : DShares} {p : DShare → Bool} (hr : rightW s = true) (hany : s.list.any p = true) : ∃ (k : Nat) (hk : k < s.list.length), pickF s p = some s.list[k] ∧ p s.list[k] = true ∧ ∀ j (hj : j < s.list.length), j < k → p s.list[j] = false := by
  obtain ⟨hi, hp⟩ := ix_get hany
  refine ⟨s.list.findIdx p, hi, ?_, hp, fun j hj hlt => ?_⟩
  · unfold pickF
    rw [if_pos ⟨hr, hany⟩, List.getElem?_eq_getElem hi]
  · have := List.not_of_lt_findIdx hlt
    simpa using this
theorem pick_none {s : DShares} {p : DShare → Bool} (h : rightW s = false ∨ s.list.any p = false) : pickF s p = none := by
  unfold pickF
  refine if_neg fun c => ?_
  rcases h with h | h
  · rw [h] at c; cases c.1
  · rw [h] at c; cases c.2
theorem refIn_wrong {s : DShares} (h : OkSh s) {a : DSpan} (hr : rightW s = false) : watershedref05_In s a = some ((noSh, false, ()), ()) := by
  unfold watershedref05_In
  by_cases h0 : 0 < s.list.length
  · refine bindS (loopM_end (b := .inr (((), ()), (s, a, noSh, ()))) ?_) rfl
    unfold watershedref05_In_l1
    exact condT (dT (by dsimp only; omega)) (bindS (refR5_p h) (condF hr rfl))
  · refine bindS (loopM_end (b := .inr (((), ()), (s, a, noSh, ()))) ?_) rfl
    unfold watershedref05_In_l1
    exact condF (dF (by dsimp only; omega)) rfl
theorem refIn_p {s : DShares} (h : OkSh s) {a : DSpan} (ha : OkSp a) : watershedref05_In s a = some (((pickF s fun x => withinB a x.span).getD noSh, (pickF s fun x => withinB a x.span).isSome, ()), ()) := by
  cases hr : rightW s with
  | false => rw [pick_none (.inl hr)]; exact refIn_wrong h hr
  | true =>
    cases hany : s.list.any fun x => withinB a x.span with
    | false => rw [pick_none (.inr hany)]; exact refIn_none h ha hany
    | true =>
      obtain ⟨k, hk, h1, h2, h3⟩ := pick_first hr hany
      rw [h1]
      exact refIn_some h hr ha hk h2 h3
theorem refOf_p {s : DShares} (h : OkSh s) {k : Tx} (hk : OkT k) : watershedref05_Of s k = some (((pickF s fun x => hasB x.span k).getD noSh, (pickF s fun x => hasB x.span k).isSome, ()), ()) := by
  have hlen := h.len
  have key : ∃ z, loopM watershedref05_Of_l1 ((k, (), (), 0, ()), (s, noSh, ())) = some z ∧ ((∃ x, pickF s (fun x => hasB x.span k) = some x ∧ z = .inl (((), true, ()), (s, x, ()))) ∨ (pickF s (fun x => hasB x.span k) = none ∧ z = .inr (((), ()), (s, noSh, ())))) := by
    cases hr : rightW s with
    | false =>
      refine ⟨.inr (((), ()), (s, noSh, ())), loopM_end ?_, .inr ⟨pick_none (.inl hr), rfl⟩⟩
      unfold watershedref05_Of_l1
      by_cases h0 : 0 < s.list.length
      · exact condT (dT (by dsimp only; omega)) (bindS (refR5_p h) (condF hr rfl))
      · exact condF (dF (by dsimp only; omega)) rfl
    | true =>
      refine loopM_spec (fun n b => ∃ i : Nat, b = ((k, (), (), (i : Int), ()), (s, noSh, ())) ∧ i ≤ s.list.length ∧ (∀ j (hj : j < s.list.length), j < i → hasB s.list[j].span k = false) ∧ n = s.list.length - i) _ ?_ (n := s.list.length) ⟨0, rfl, Nat.zero_le _, fun j hj hlt => absurd hlt (Nat.not_lt_zero j), rfl⟩
      rintro n b ⟨i, rfl, g1, g2, rfl⟩
      unfold watershedref05_Of_l1
      by_cases hi : i < s.list.length
      · cases hh : hasB s.list[i].span k with
        | false =>
          left
          refine ⟨s.list.length - (i + 1), _, by omega, condT (dT (by dsimp only; omega)) (bindS (refR5_p h) (condT hr (bindS (getI_lt hi) (bindS (refHas_p (h.sp _ (List.getElem_mem hi)) hk) (condF hh rfl))))), i + 1, ?_, by omega, fun j hj hlt => ?_, rfl⟩
          · dsimp only
            rw [w64 (by omega)]
            rfl
          · by_cases hji : j = i
            · subst hji; exact hh
            · exact g2 j hj (by omega)
        | true =>
          right
          refine ⟨_, condT (dT (by dsimp only; omega)) (bindS (refR5_p h) (condT hr (bindS (getI_lt hi) (bindS (refHas_p (h.sp _ (List.getElem_mem hi)) hk) (condT hh (bindS (getI_lt hi) rfl)))))), .inl ⟨s.list[i], ?_, rfl⟩⟩
          have hany : s.list.any (fun x => hasB x.span k) = true := List.any_eq_true.2 ⟨_, List.getElem_mem hi, hh⟩
          obtain ⟨q, hq, h1, h2, h3⟩ := pick_first (p := fun x => hasB x.span k) hr hany
          have : q = i := by
            rcases Nat.lt_trichotomy q i with c | c | c
            · rw [g2 q hq c] at h2; cases h2
            · exact c
            · rw [h3 i hi c] at hh; cases hh
          subst this
          exact h1
      · right
        refine ⟨_, condF (dF (by dsimp only; omega)) rfl, .inr ⟨pick_none (.inr ?_), rfl⟩⟩
        refine List.any_eq_false.2 fun x hx => ?_
        obtain ⟨j, hj, rfl⟩ := List.getElem_of_mem hx
        rw [g2 j hj (by omega)]
        exact Bool.false_ne_true
  obtain ⟨z, hz, ⟨x, h1, rfl⟩ | ⟨h1, rfl⟩⟩ := key
  · rw [h1]; unfold watershedref05_Of; exact bindS hz rfl
  · rw [h1]; unfold watershedref05_Of; exact bindS hz rfl
end Go.Proofs.YtnmimignbgdfgaaGreat
/- Rows of shares that are lent, and kept; written over (written by plain05z.py). -/
namespace Go.Proofs.YtnmimignbgdfgaaGreat
open Go.RowKit
set_option maxRecDepth 100000
set_option linter.unusedVariables false
set_option linter.unusedSimpArgs false
theorem mark_ex (x : Int) : ∃ t, watershedkit_markShare 1 x = some (t, ()) := ⟨_, rfl⟩
noncomputable def mkT (j : Nat) : DShare := (mark_ex (j : Int)).choose
theorem mark_p (j : Nat) : watershedkit_markShare 1 (j : Int) = some (mkT j, ()) := (mark_ex (j : Int)).choose_spec
noncomputable def marks (j : Nat) : List DShare := (List.range j).map mkT
theorem marks_len (j : Nat) : (marks j).length = j := by simp [marks]
theorem marks_succ (j : Nat) : marks (j + 1) = marks j ++ [mkT j] := by simp [marks, List.range_succ]
theorem marks_get {j n : Nat} (h : j < n) : (marks n)[j]? = some (mkT j) := by simp [marks, h]
theorem Lent_p {l : List DShare} (hn : l.length ≤ 1000) : watershedkit_LentShareRows_x l = some ((l, marks 12), ()) := by
  have hw : IntKind.i64.wrap ((l.length : Int) + 12) = ((l.length + 12 : Nat) : Int) := by rw [w64 (by omega)]; rfl
  have hloop : loopM watershedkit_LentShareRows_l1 ((l, (0, l.length, l.length + 12), 0, ()), (l ++ List.replicate 12 noSh, ())) = some ((l, (0, l.length + 12, l.length + 12), ()), (l ++ marks 12, ())) := by
    refine loopM_run (step := watershedkit_LentShareRows_l1) (fun j : Nat => ((l, (0, l.length + j, l.length + 12), (j : Int), ()), (l ++ (marks j ++ List.replicate (12 - j) noSh), ()))) (N := 12) (fun j hj => ?_) ?_
    · have hml := marks_len j
      unfold watershedkit_LentShareRows_l1
      refine condT (dT (by dsimp only; omega)) (bindS (mark_p j) ?_)
      dsimp only
      simp only [List.length_singleton, Nat.zero_add]
      refine iteT (by simp only [List.length_append, List.length_replicate, hml]; omega) ?_
      refine iteT (by omega) ?_
      rw [w64 (by omega)]
      have e1 : (l ++ (marks j ++ List.replicate (12 - j) noSh)).take (l.length + j) = l ++ marks j := by
        rw [← List.append_assoc]
        exact List.take_left' (by rw [List.length_append, hml])
      have e2 : (l ++ (marks j ++ List.replicate (12 - j) noSh)).drop (l.length + j + 1) = List.replicate (12 - (j + 1)) noSh := by
        rw [← List.append_assoc, List.drop_append, List.drop_of_length_le (by rw [List.length_append, hml]; omega), List.nil_append, List.drop_replicate, List.length_append, hml]
        congr 1
        omega
      rw [e1, e2, marks_succ]
      simp only [List.append_assoc, Nat.add_assoc]
      rfl
    · unfold watershedkit_LentShareRows_l1
      exact condF (dF (by dsimp only; omega)) rfl
  have hL : watershedkit_LentShareRows l = some ((0, l.length, l.length + 12), (l ++ marks 12, ())) := by
    unfold watershedkit_LentShareRows
    simp only [hw, Int.toNat_natCast, Int.toNat_zero, Nat.zero_add, List.take_zero, List.nil_append, Nat.add_zero, Nat.sub_zero, List.length_replicate, List.drop_replicate, Nat.add_sub_cancel_left]
    refine iteT (by omega) ?_
    refine iteT (by omega) ?_
    refine iteT (by omega) ?_
    refine bindS hloop ?_
    dsimp only
    refine iteT (by omega) ?_
    simp
  unfold watershedkit_LentShareRows_x
  refine bindS hL ?_
  dsimp only
  refine iteT ⟨rfl, by rw [List.length_append]; omega, by rw [List.length_append, marks_len]; omega⟩ ?_
  rw [List.take_left, List.drop_left]
theorem Kept_p {l : List DShare} (hn : l.length ≤ 1000) : watershedkit_KeptShareRows (l, marks 12) l = some (true, ()) := by
  have hw : IntKind.i64.wrap ((l.length : Int) + 12) = ((l.length + 12 : Nat) : Int) := by rw [w64 (by omega)]; rfl
  have hml := marks_len 12
  have hloop : loopM watershedkit_KeptShareRows_l1 ((l, l ++ marks 12, 0, ()), ()) = some (.inr ((), ())) := by
    refine loopM_run (step := watershedkit_KeptShareRows_l1) (fun j : Nat => ((l, l ++ marks 12, (j : Int), ()), ())) (N := l.length + 12) (fun j hj => ?_) ?_
    · unfold watershedkit_KeptShareRows_l1
      refine condT (dT (by dsimp only; rw [List.length_append]; omega)) ?_
      by_cases hjl : j < l.length
      · refine condT (dT (by dsimp only; omega)) ?_
        refine bindS (v := l[j]) (by dsimp only; rw [getI_nat, List.getElem?_append_left hjl, List.getElem?_eq_getElem hjl]) ?_
        refine bindS (getI_lt hjl) ?_
        refine condF (by simp) ?_
        refine condF (dF (by dsimp only; omega)) ?_
        dsimp only
        rw [w64 (by omega)]
        rfl
      · refine condF (dF (by dsimp only; omega)) ?_
        refine condT (dT (by dsimp only; omega)) ?_
        refine bindS (v := mkT (j - l.length)) (by dsimp only; rw [getI_nat, List.getElem?_append_right (by omega)]; exact marks_get (by omega)) ?_
        refine bindS (v := (mkT (j - l.length), ())) (by
          dsimp only
          rw [w64 (by omega), show (j : Int) - (l.length : Int) = ((j - l.length : Nat) : Int) from by omega]
          exact mark_p _) ?_
        refine condF (by simp) ?_
        dsimp only
        rw [w64 (by omega)]
        rfl
    · unfold watershedkit_KeptShareRows_l1
      exact condF (dF (by dsimp only; rw [List.length_append]; omega)) rfl
  unfold watershedkit_KeptShareRows
  refine condF (dF (by simp)) ?_
  simp only [hw, Int.toNat_natCast, Int.toNat_zero, List.drop_zero, Nat.sub_zero]
  refine iteT (by rw [List.length_append, hml]; omega) ?_
  rw [List.take_of_length_le (by rw [List.length_append, hml]; omega)]
  exact bindS hloop rfl
end Go.Proofs.YtnmimignbgdfgaaGreat
/- SharesTells: shares that are the same, one of them an array; written over. -/
namespace Go.Proofs.YtnmimignbgdfgaaGreat
open Go.RowKit
set_option maxRecDepth 100000
set_option linter.unusedVariables false
set_option linter.unusedSimpArgs false
theorem sameRowsA_p (l : List DShare) (hl : l.length ≤ 140737488355328) : watershedkit_SameShareRows l.length l l = some (true, (l, ())) := by
  have h : loopM watershedkit_SameShareRows_l1 ((l.length, l, 0, ()), (l, ())) = some (.inr ((), (l, ()))) := by
    refine loopM_run (step := watershedkit_SameShareRows_l1) (fun j : Nat => ((l.length, l, (j : Int), ()), (l, ()))) (N := l.length) (fun j hj => ?_) ?_
    · unfold watershedkit_SameShareRows_l1
      have hg : l[0 + ((j : Int)).toNat]? = some l[j] := by rw [Nat.zero_add, Int.toNat_natCast, List.getElem?_eq_getElem hj]
      refine condT (dT (by dsimp only; omega)) (iteT (by dsimp only; omega) (bindS (getI_lt hj) (bindS hg (condF (by simp) ?_))))
      dsimp only
      rw [w64 (by omega)]
      rfl
    · unfold watershedkit_SameShareRows_l1
      exact condF (dF (by dsimp only; omega)) rfl
  unfold watershedkit_SameShareRows
  exact condF (dF (by simp)) (bindS h rfl)
theorem sameShA_p {t : DShares} (hl : t.list.length ≤ 140737488355328) : watershedkit_SameShares (t.epoch, t.list.length, ()) t t.list = some (true, (t.list, ())) := by
  unfold watershedkit_SameShares
  exact condT (dT rfl) (bindS (sameRowsA_p _ hl) rfl)
theorem sameRows2_p (l : List DShare) (hl : l.length ≤ 140737488355328) : watershedkit_SameShareRows_2 l l = some (true, ()) := by
  have h : loopM watershedkit_SameShareRows_2_l1 ((l, l, 0, ()), ()) = some (.inr ((), ())) := by
    refine loopM_run (step := watershedkit_SameShareRows_2_l1) (fun j : Nat => ((l, l, (j : Int), ()), ())) (N := l.length) (fun j hj => ?_) ?_
    · unfold watershedkit_SameShareRows_2_l1
      refine condT (dT (by dsimp only; omega)) (bindS (getI_lt hj) (bindS (getI_lt hj) (condF (by simp) ?_)))
      dsimp only
      rw [w64 (by omega)]
      rfl
    · unfold watershedkit_SameShareRows_2_l1
      exact condF (dF (by dsimp only; omega)) rfl
  unfold watershedkit_SameShareRows_2
  exact condF (dF (by simp)) (bindS h rfl)
theorem sameSh2_p {s : DShares} (hl : s.list.length ≤ 140737488355328) : watershedkit_SameShares_2 s s = some (true, ()) := by
  unfold watershedkit_SameShares_2
  exact condT (dT rfl) (bindS (sameRows2_p _ hl) rfl)
theorem OverSh_p (e : Int) (n : Nat) (hn : n ≤ 1000000) (l : List DShare) : watershedkit_OverShares (e, n, ()) l = some ((), ([], ())) := by
  unfold watershedkit_OverShares watershedkit_OverShareRows_v
  exact bindS (if_pos hn) rfl
theorem LentSh_p {s : DShares} (hn : s.list.length ≤ 1000) : watershedkit_LentShares s = some ((s.epoch, (s.list, marks 12), ()), ()) := by
  unfold watershedkit_LentShares
  exact bindS (Lent_p hn) rfl
theorem KeptSh_p {s : DShares} (hn : s.list.length ≤ 1000) : watershedkit_KeptShares (s.epoch, (s.list, marks 12), ()) s = some (true, ()) := by
  unfold watershedkit_KeptShares
  exact bindS (sameSh2_p (s := s) (by omega)) (condT rfl (bindS (Kept_p (l := s.list) hn) rfl))
theorem TurnA_p {s : DShares} (h : OkSh s) {a : DSpan} (ha : OkSp a) (g : Int) : ∃ t e, shares_Turn_ar s a g = some (((t.epoch, t.list.length, ()), e, ()), (t.list, ())) ∧ watershedref05_Turn s a g = some ((t, e, ()), ()) ∧ OkSh t := by
  obtain ⟨t, e, h1, h2, h3⟩ := Both_p h ha g
  refine ⟨t, e, ?_, h2, h3⟩
  unfold shares_Turn_ar
  exact bindS h1 rfl
theorem great_q (s : DShares) (l : List Tx) : ∃ r, watershedlaw05_great s l = some (r, ()) ∧ (r = false → s.list.length ≤ 60 ∧ l.length ≤ 60) := by
  by_cases hl : l.length ≤ 60
  · obtain ⟨r, h1, h2⟩ := great_p s l hl
    exact ⟨r, h1, fun h => ⟨h2 h, hl⟩⟩
  · refine ⟨true, ?_, fun h => by cases h⟩
    unfold watershedlaw05_great
    by_cases h : 60 < s.list.length
    · exact condT (dT (by omega)) rfl
    · exact condF (dF (by omega)) (condT (dT (by omega)) rfl)
end Go.Proofs.YtnmimignbgdfgaaGreat
/- Compact at numbers (written out of XCu by a program). -/
namespace Go.Proofs.YtnmimignbgdfgaaGreat
open Go.RowKit
set_option maxRecDepth 100000
set_option linter.unusedVariables false
set_option linter.unusedSimpArgs false
theorem compactInI_p {xs : List Int} {k : Nat} (hk : 1 ≤ k) (hkn : k < xs.length) (hn : xs.length ≤ 1000000) (hnd : dd (xs.take k) = xs.take k) (heq : xs[k]? = xs[k - 1]?) :
    ∃ arr : List Int, loopM slices_Compact_2_l2 ((xs.length, (k : Int), (k, xs.length - k), 1, ()), (xs, ())) = some ((xs.length, ((dd xs).length : Int), ()), (arr, ())) ∧ arr.length = xs.length ∧ arr.take (dd xs).length = dd xs := by
  obtain ⟨z, hz, arr, rfl, h1, h2⟩ : ∃ z, loopM slices_Compact_2_l2 ((xs.length, (k : Int), (k, xs.length - k), 1, ()), (xs, ())) = some z ∧ ∃ arr : List Int, z = ((xs.length, ((dd xs).length : Int), ()), (arr, ())) ∧ arr.length = xs.length ∧ arr.take (dd xs).length = dd xs := by
    refine loopM_spec (fun n a => ∃ (d k' : Nat) (arr : List Int), a = ((xs.length, (k' : Int), (k, xs.length - k), (d : Int), ()), (arr, ())) ∧ 1 ≤ d ∧ k + d ≤ xs.length ∧ arr.length = xs.length ∧ arr.drop (k + d - 1) = xs.drop (k + d - 1) ∧ k' ≤ k + d - 1 ∧ k' = (dd (xs.take (k + d))).length ∧ arr.take k' = dd (xs.take (k + d)) ∧ n = xs.length - (k + d)) _ ?_ (n := xs.length - (k + 1)) ?_
    rotate_left
    · have hx : dd (xs.take (k + 1)) = xs.take k := by
        rw [List.take_succ_eq_append_getElem hkn, dd_snoc, last_take hk (by omega), ← heq, List.getElem?_eq_getElem hkn, if_pos rfl, hnd]
      refine ⟨1, k, xs, rfl, Nat.le_refl _, by omega, rfl, rfl, by omega, ?_, ?_, rfl⟩
      · rw [hx, List.length_take]; omega
      · rw [hx]
    rintro n a ⟨d, k', arr, rfl, h1, h2, h3, h4, h5, h6, h7, rfl⟩
    unfold slices_Compact_2_l2
    by_cases hd : k + d < xs.length
    · left
      have g1 : arr[k + d]? = some xs[k + d] := by rw [get_of_drop h4 (by omega), List.getElem?_eq_getElem hd]
      have g2 : arr[k + (d - 1)]? = some xs[k + d - 1] := by rw [get_of_drop h4 (by omega), show k + (d - 1) = k + d - 1 from by omega, List.getElem?_eq_getElem (by omega)]
      have hw : IntKind.i64.wrap ((d : Int) - 1) = ((d - 1 : Nat) : Int) := by rw [w64 (by omega)]; omega
      have hnext : dd (xs.take (k + d + 1)) = if xs[k + d - 1] = xs[k + d] then dd (xs.take (k + d)) else dd (xs.take (k + d)) ++ [xs[k + d]] := by
        rw [List.take_succ_eq_append_getElem hd, dd_snoc, last_take (by omega) (by omega), List.getElem?_eq_getElem (by omega)]
        by_cases he : xs[k + d - 1] = xs[k + d]
        · rw [if_pos (congrArg some he), if_pos he]
        · rw [if_neg (fun h => he (by injection h)), if_neg he]
      by_cases he : xs[k + d - 1] = xs[k + d]
      · rw [if_pos he] at hnext
        refine ⟨xs.length - (k + (d + 1)), _, by omega, ?_, d + 1, k', arr, rfl, by omega, by omega, h3, ?_, by omega, by rw [← Nat.add_assoc, hnext]; exact h6, by rw [← Nat.add_assoc, hnext]; exact h7, rfl⟩
        · refine condT (dT (by dsimp only; omega)) ?_
          refine iteT (by dsimp only; omega) ?_
          refine iteT (by dsimp only; rw [hw]; omega) ?_
          refine bindS g1 ?_
          refine bindS (v := xs[k + d - 1]) (by dsimp only; rw [hw, Int.toNat_natCast]; exact g2) ?_
          refine condF (dF (fun h => h he.symm)) ?_
          dsimp only
          rw [w64 (by omega)]
          rfl
        · exact drop_of_drop h4 (by omega)
      · rw [if_neg he] at hnext
        refine ⟨xs.length - (k + (d + 1)), _, by omega, ?_, d + 1, k' + 1, arr.set k' xs[k + d], rfl, by omega, by omega, by simpa using h3, ?_, by omega, by rw [← Nat.add_assoc, hnext, List.length_append, ← h6]; rfl, ?_, rfl⟩
        · refine condT (dT (by dsimp only; omega)) ?_
          refine iteT (by dsimp only; omega) ?_
          refine iteT (by dsimp only; rw [hw]; omega) ?_
          refine bindS g1 ?_
          refine bindS (v := xs[k + d - 1]) (by dsimp only; rw [hw, Int.toNat_natCast]; exact g2) ?_
          refine condT (dT (fun h => he h.symm)) ?_
          refine iteT (by dsimp only; omega) ?_
          refine bindS g1 ?_
          refine iteT (by dsimp only; omega) ?_
          refine bindS (v := arr[k']'(by omega)) (by dsimp only; rw [Nat.zero_add, Int.toNat_natCast]; exact List.getElem?_eq_getElem _) ?_
          dsimp only
          rw [w64 (by omega), w64 (by omega), Nat.zero_add, Int.toNat_natCast]
          rfl
        · rw [List.drop_set_of_lt (by omega)]
          exact drop_of_drop h4 (by omega)
        · rw [← Nat.add_assoc, hnext, List.take_succ_eq_append_getElem (by simp; omega), List.getElem_set_self, List.take_set_of_le (Nat.le_refl _), h7]
    · right
      have hkd : k + d = xs.length := by omega
      have ht : xs.take (k + d) = xs := by rw [hkd, List.take_length]
      rw [ht] at h6 h7
      refine ⟨_, condF (dF (by dsimp only; omega)) rfl, arr, ?_, h3, ?_⟩
      · dsimp only; rw [h6]
      · rw [← h6]; exact h7
  exact ⟨arr, hz, h1, h2⟩
theorem CompactI_p {xs : List Int} (hn : xs.length ≤ 1000000) : ∃ arr : List Int, slices_Compact_2 xs.length xs = some ((0, (dd xs).length), (arr, ())) ∧ arr.take (dd xs).length = dd xs := by
  unfold slices_Compact_2
  by_cases h2 : xs.length < 2
  · have hd : dd xs = xs := by
      match xs, h2 with
      | [], _ => rfl
      | [x], _ => rfl
    refine ⟨xs, condT (dT (by omega)) ?_, by rw [hd, List.take_length]⟩
    rw [hd]
  · have key : ∃ z, loopM slices_Compact_2_l1 ((xs.length, 1, ()), (xs, ())) = some z ∧ ((∃ arr : List Int, z = .inl (((0, (dd xs).length), ()), (arr, ())) ∧ arr.take (dd xs).length = dd xs) ∨ z = .inr ((xs.length, ()), (xs, ())) ∧ dd xs = xs) := by
      refine loopM_spec (fun n a => ∃ k : Nat, a = ((xs.length, (k : Int), ()), (xs, ())) ∧ 1 ≤ k ∧ k ≤ xs.length ∧ dd (xs.take k) = xs.take k ∧ n = xs.length - k) _ ?_ (n := xs.length - 1) ⟨1, rfl, Nat.le_refl _, by omega, ?_, rfl⟩
      rotate_left
      · match xs, h2 with
        | [], h => exact absurd (by simp) h
        | x :: l, _ => rfl
      rintro n a ⟨k, rfl, g1, g2, g3, rfl⟩
      unfold slices_Compact_2_l1
      by_cases hk : k < xs.length
      · have hw : IntKind.i64.wrap ((k : Int) - 1) = ((k - 1 : Nat) : Int) := by rw [w64 (by omega)]; omega
        have r1 : xs[0 + k]? = some xs[k] := by rw [Nat.zero_add, List.getElem?_eq_getElem hk]
        have r2 : xs[0 + (k - 1)]? = some xs[k - 1] := by rw [Nat.zero_add, List.getElem?_eq_getElem (by omega)]
        by_cases he : xs[k] = xs[k - 1]
        · right
          obtain ⟨arr, q1, q2, q3⟩ := compactInI_p g1 hk hn g3 (by rw [List.getElem?_eq_getElem hk, List.getElem?_eq_getElem (by omega), he])
          have hdl := dd_len xs
          have hdt : dd (xs.take k) = xs.take k := g3
          refine ⟨_, ?_, .inl ⟨arr.take (dd xs).length ++ List.replicate (xs.length - (dd xs).length) 0 ++ arr.drop ((dd xs).length + (xs.length - (dd xs).length)), rfl, ?_⟩⟩
          · refine condT (dT (by dsimp only; omega)) ?_
            refine iteT (by dsimp only; omega) ?_
            refine iteT (by dsimp only; rw [hw]; omega) ?_
            refine bindS r1 ?_
            refine bindS (v := xs[k - 1]) (by dsimp only; rw [hw, Int.toNat_natCast]; exact r2) ?_
            refine condT (dT he) ?_
            refine iteT (by dsimp only; omega) ?_
            refine bindS (v := ((xs.length, ((dd xs).length : Int), ()), (arr, ()))) (by dsimp only; rw [Nat.zero_add, Int.toNat_natCast, Int.toNat_natCast]; exact q1) ?_
            refine iteT (by dsimp only; omega) ?_
            refine iteT (by dsimp only; rw [Nat.zero_add, Int.toNat_natCast]; omega) ?_
            dsimp only
            refine iteT (by omega) ?_
            simp only [Nat.zero_add, Int.toNat_natCast]
            rfl
          · rw [List.append_assoc, List.take_append_of_le_length (by rw [List.length_take]; omega), List.take_take, Nat.min_self]
            exact q3
        · left
          refine ⟨xs.length - (k + 1), _, by omega, ?_, k + 1, rfl, by omega, by omega, ?_, rfl⟩
          · refine condT (dT (by dsimp only; omega)) ?_
            refine iteT (by dsimp only; omega) ?_
            refine iteT (by dsimp only; rw [hw]; omega) ?_
            refine bindS r1 ?_
            refine bindS (v := xs[k - 1]) (by dsimp only; rw [hw, Int.toNat_natCast]; exact r2) ?_
            refine condF (dF he) ?_
            dsimp only
            rw [w64 (by omega)]
            rfl
          · rw [List.take_succ_eq_append_getElem hk, dd_snoc, last_take g1 (by omega), List.getElem?_eq_getElem (by omega), if_neg (fun h => he (by injection h with h; exact h.symm)), g3]
      · right
        have hkx : k = xs.length := by omega
        refine ⟨_, condF (dF (by dsimp only; omega)) rfl, .inr ⟨rfl, ?_⟩⟩
        rw [hkx, List.take_length] at g3
        exact g3
    obtain ⟨z, hz, ⟨arr, rfl, q⟩ | ⟨rfl, q⟩⟩ := key
    · exact ⟨arr, condF (dF (by omega)) (bindS hz rfl), q⟩
    · refine ⟨xs, condF (dF (by omega)) (bindS hz ?_), by rw [q, List.take_length]⟩
      dsimp only
      rw [q]
end Go.Proofs.YtnmimignbgdfgaaGreat
