/- The reference of Cut, plainly; whether two rows of spans are the same. -/
import Derived.Test.YtfgcknjlncognaaCe
import Derived.Test.YtfgcknjlncognaaAw
namespace Go.Proofs.Ytfgcknjlncognaa
open Go.RowKit
set_option maxRecDepth 100000
set_option linter.unusedVariables false
set_option linter.unusedSimpArgs false
theorem refCutIn_p {at_ : List Tx} {i : Nat} (hi : i < at_.length) (hk : OkT at_[i]) {L : List DSpan} (hL : ∀ x ∈ L, OkSp x) (hn : L.length ≤ 1000) :
    loopM watershedref04_Cut_l2 ((at_, L.length, (i : Int), 0, ()), (L, ())) = some ((at_, (insF at_[i] L).length, (i : Int), ()), ((), insF at_[i] L, ())) := by
  refine loopM_eq_of (fun n a => ∃ k : Nat, a = ((at_, L.length, (i : Int), (k : Int), ()), (L, ())) ∧ k ≤ L.length ∧ insF at_[i] L = L.take k ++ insF at_[i] (L.drop k) ∧ n = L.length - k) _ ?_ (n := L.length) ⟨0, rfl, Nat.zero_le _, rfl, rfl⟩
  rintro n a ⟨k, rfl, h1, h2, rfl⟩
  unfold watershedref04_Cut_l2
  by_cases hkl : k < L.length
  · have g : L[0 + ((k : Int)).toNat]? = some L[k] := by rw [Nat.zero_add, Int.toNat_natCast, List.getElem?_eq_getElem hkl]
    have next : (hasB L[k] at_[i] = false ∨ at_[i] = L[k].lo) → insF at_[i] L = L.take (k + 1) ++ insF at_[i] (L.drop (k + 1)) := fun h => by
      rw [h2, insF_skip hkl h, List.take_succ_eq_append_getElem hkl, List.append_assoc]; rfl
    cases hh : hasB L[k] at_[i]
    · left
      refine ⟨L.length - (k + 1), _, by omega, condT (dT (by dsimp only; omega)) (iteT (by dsimp only; omega) (bindS g (bindS (getI_lt hi) (bindS (refHas_p (hL _ (List.getElem_mem hkl)) hk) (condT (by dsimp only; rw [hh]; rfl) rfl))))), k + 1, ?_, by omega, next (.inl hh), rfl⟩
      dsimp only; rw [w64 (by omega)]; rfl
    · by_cases he : at_[i] = L[k].lo
      · left
        refine ⟨L.length - (k + 1), _, by omega, condT (dT (by dsimp only; omega)) (iteT (by dsimp only; omega) (bindS g (bindS (getI_lt hi) (bindS (refHas_p (hL _ (List.getElem_mem hkl)) hk) (condF (by dsimp only; rw [hh]; rfl) (bindS (getI_lt hi) (condT (dT he) rfl))))))), k + 1, ?_, by omega, next (.inr he), rfl⟩
        dsimp only; rw [w64 (by omega)]; rfl
      · right
        have hins : insF at_[i] L = L.take k ++ ⟨L[k].lo, at_[i]⟩ :: ⟨at_[i], L[k].hi⟩ :: L.drop (k + 1) := by
          rw [h2, List.drop_eq_getElem_cons hkl, insF, hh, dF he]; rfl
        have hw : IntKind.i64.wrap ((k : Int) + 1) = ((k + 1 : Nat) : Int) := by rw [w64 (by omega)]; rfl
        have e5 : (L.drop (k + 1)).take (L.length - (k + 1)) = L.drop (k + 1) := List.take_of_length_le (by rw [List.length_drop]; omega)
        have hdl : (L.drop (k + 1)).length = L.length - (k + 1) := List.length_drop
        have htl : (L.take k).length = k := by rw [List.length_take]; omega
        have hval : (L.take k ++ [(⟨L[k].lo, at_[i]⟩ : DSpan), ⟨at_[i], L[k].hi⟩]).take (k + 2) ++ L.drop (k + 1) = insF at_[i] L := by
          rw [hins, List.take_of_length_le (by rw [List.length_append, htl]; simp)]
          simp
        have hlen : k + 2 + (L.drop (k + 1)).length = (insF at_[i] L).length := by
          rw [hins]; simp only [List.length_append, List.length_cons, htl]; omega
        refine condT (dT (by dsimp only; omega)) ?_
        refine iteT (by dsimp only; omega) ?_
        refine bindS g ?_
        refine bindS (getI_lt hi) ?_
        refine bindS (refHas_p (hL _ (List.getElem_mem hkl)) hk) ?_
        refine condF (by dsimp only; rw [hh]; rfl) ?_
        refine bindS (getI_lt hi) ?_
        refine condF (dF he) ?_
        dsimp only
        simp only [hw, Int.toNat_natCast, Nat.zero_add, e5, List.take_nil, List.drop_nil, List.nil_append, List.append_nil, List.drop_zero, List.length_nil, Int.toNat_zero, Nat.sub_zero, Nat.add_zero, List.take_zero, List.length_cons, List.take_length]
        refine iteT (by omega) ?_
        refine iteT (by omega) ?_
        refine iteT (by omega) ?_
        by_cases hz : (L.drop (k + 1)).length ≤ 0
        · refine iteT hz ?_
          refine iteT (by omega) ?_
          refine bindS (getI_lt hi) (bindS (getI_lt hi) ?_)
          refine iteT (by omega) ?_
          refine iteT (Nat.le_refl _) ?_
          refine iteT (by rw [List.length_append, htl]; simp only [List.length_cons, List.length_nil]; omega) ?_
          rw [hval, hlen]
        · refine iteF hz ?_
          refine iteT (by omega) ?_
          refine bindS (getI_lt hi) (bindS (getI_lt hi) ?_)
          refine iteT (by omega) ?_
          refine iteT (Nat.le_refl _) ?_
          refine iteT (by rw [List.length_append, htl]; simp only [List.length_cons, List.length_nil]; omega) ?_
          rw [hval, hlen]
  · right
    obtain rfl : k = L.length := by omega
    rw [List.take_length, List.drop_length, insF, List.append_nil] at h2
    refine condF (dF (by dsimp only; omega)) ?_
    rw [h2]
theorem insAll_snoc (l : List DSpan) (at_ : List Tx) (k : Tx) : insAll l (at_ ++ [k]) = insF k (insAll l at_) := by simp [insAll]
theorem refCut_p {s : DSpan} {at_ : List Tx} (hs : OkSp s) (ha : ∀ k ∈ at_, OkT k) (hn : at_.length ≤ 900) : watershedref04_Cut s at_ = some ((piecesF s at_).length, (piecesF s at_, ())) := by
  unfold watershedref04_Cut piecesF
  refine bindS (refRight_p hs) ?_
  cases hr : rightB s
  · exact condT rfl rfl
  refine condF rfl ?_
  rw [cond_true, ← insAll_cut hr]
  have ok : ∀ (l : List Tx), (∀ k ∈ l, OkT k) → ∀ L : List DSpan, (∀ x ∈ L, OkSp x) → ∀ x ∈ insAll L l, OkSp x := by
    intro l
    induction l with
    | nil => intro _ L hL; exact hL
    | cons k l ih => intro hl L hL; exact ih (fun k hk => hl k (List.mem_cons_of_mem _ hk)) _ (insF_ok (hl k List.mem_cons_self) hL)
  have len : ∀ (l : List Tx) (L : List DSpan), (insAll L l).length ≤ L.length + l.length := by
    intro l
    induction l with
    | nil => intro L; exact Nat.le_refl _
    | cons k l ih => intro L; have := ih (insF k L); have := insF_len k L; change (insAll (insF k L) l).length ≤ _; rw [List.length_cons]; omega
  have hl : loopM watershedref04_Cut_l1 ((at_, 1, 0, ()), (([s] : List DSpan), ())) = some (((insAll [s] at_).length, ()), ((), insAll [s] at_, ())) := by
    refine loopM_run (step := watershedref04_Cut_l1) (fun j : Nat => ((at_, (insAll [s] (at_.take j)).length, (j : Int), ()), (insAll [s] (at_.take j), ()))) (N := at_.length) (fun j hj => ?_) ?_
    · have := len (at_.take j) [s]
      rw [List.length_take, List.length_singleton] at this
      unfold watershedref04_Cut_l1
      refine condT (dT (by dsimp only; omega)) ?_
      refine bindS (refCutIn_p hj (ha _ (List.getElem_mem hj)) (ok _ (fun k hk => ha k (List.mem_of_mem_take hk)) _ (by simpa using hs)) (by omega)) ?_
      dsimp only
      rw [w64 (by omega), List.take_succ_eq_append_getElem hj, insAll_snoc]
      rfl
    · unfold watershedref04_Cut_l1
      refine condF (dF (by dsimp only; omega)) ?_
      dsimp only
      rw [List.take_length]
  exact bindS hl rfl
theorem same_p (l : List DSpan) (hl : l.length ≤ 140737488355328) : watershedlaw04_same l l.length l = some (true, (l, ())) := by
  have h : loopM watershedlaw04_same_l1 ((l, l.length, 0, ()), (l, ())) = some (.inr ((), (l, ()))) := by
    refine loopM_run (step := watershedlaw04_same_l1) (fun j : Nat => ((l, l.length, (j : Int), ()), (l, ()))) (N := l.length) (fun j hj => ?_) ?_
    · unfold watershedlaw04_same_l1
      refine condT (dT (by dsimp only; omega)) (bindS (getI_lt hj) (iteT (by dsimp only; omega) (bindS (v := l[j]) (by dsimp only; rw [Nat.zero_add, Int.toNat_natCast, List.getElem?_eq_getElem hj]) (condF (by simp) ?_))))
      dsimp only
      rw [w64 (by omega)]
      rfl
    · unfold watershedlaw04_same_l1
      exact condF (dF (by dsimp only; omega)) rfl
  unfold watershedlaw04_same
  exact condF (dF (by simp)) (bindS h rfl)
end Go.Proofs.Ytfgcknjlncognaa
