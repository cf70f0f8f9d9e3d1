/- QuorumTells, plainly. -/
import Derived.Test.YthlalhjocefbbaaQn
import Derived.Test.YthlalhjocefbbaaQl
namespace Go.Proofs.Ythlalhjocefbbaa
open Go.RowKit
set_option maxRecDepth 100000
set_option linter.unusedVariables false
set_option linter.unusedSimpArgs false
theorem sameA_p (l : List Int) (hl : l.length ≤ 1000) : watershedkit_SameInts_2 l.length l l = some (true, (l, ())) := by
  have h : loopM watershedkit_SameInts_2_l1 ((l.length, l, 0, ()), (l, ())) = some (.inr ((), (l, ()))) := by
    refine loopM_run (step := watershedkit_SameInts_2_l1) (fun j : Nat => ((l.length, l, (j : Int), ()), (l, ()))) (N := l.length) (fun j hj => ?_) ?_
    · unfold watershedkit_SameInts_2_l1
      have hg : l[0 + ((j : Int)).toNat]? = some l[j] := by rw [Nat.zero_add, Int.toNat_natCast, List.getElem?_eq_getElem hj]
      refine condT (dT (by dsimp only; omega)) (iteT (by dsimp only; omega) (bindS (getI_lt hj) (bindS hg (condF (by simp) ?_))))
      dsimp only
      rw [w64 (by omega)]
      rfl
    · unfold watershedkit_SameInts_2_l1
      exact condF (dF (by dsimp only; omega)) rfl
  unfold watershedkit_SameInts_2
  exact condF (dF (by simp)) (bindS h rfl)
theorem sameN_p (l arr : List Int) (hl : l.length ≤ 1000) (ha : arr.take l.length = l) : watershedkit_SameInts_3 (0, l.length) l arr = some (true, (arr, ())) := by
  have h : loopM watershedkit_SameInts_3_l1 (((0, l.length), l, 0, ()), (arr, ())) = some (.inr ((), (arr, ()))) := by
    refine loopM_run (step := watershedkit_SameInts_3_l1) (fun j : Nat => (((0, l.length), l, (j : Int), ()), (arr, ()))) (N := l.length) (fun j hj => ?_) ?_
    · unfold watershedkit_SameInts_3_l1
      have hg : arr[0 + ((j : Int)).toNat]? = some l[j] := by
        rw [Nat.zero_add, Int.toNat_natCast, ← List.getElem?_eq_getElem hj]
        conv => rhs; rw [← ha]
        rw [List.getElem?_take_of_lt hj]
      refine condT (dT (by dsimp only; omega)) (iteT (by dsimp only; omega) (bindS (getI_lt hj) (bindS hg (condF (by simp) ?_))))
      dsimp only
      rw [w64 (by omega)]
      rfl
    · unfold watershedkit_SameInts_3_l1
      exact condF (dF (by dsimp only; omega)) rfl
  unfold watershedkit_SameInts_3
  exact condF (dF (by simp)) (bindS h rfl)
theorem sameCA_p (c : DConfig) (hc : c.few) : watershedlaw06_same_2 (c.voters.length, c.old.length, c.learners.length, c.want.length, ()) c c.voters c.old c.learners c.want = some (true, (c.voters, c.old, c.learners, c.want, ())) := by
  obtain ⟨h1, h2, h3, h4⟩ := id hc
  unfold watershedlaw06_same_2 watershedkit_SameConfig_2
  have e1 := sameA_p c.voters (by omega)
  have e2 := sameA_p c.old (by omega)
  have e3 := sameA_p c.learners (by omega)
  have e4 := sameA_p c.want (by omega)
  exact bindS (bindS e1 (condT rfl (bindS e2 (condT rfl (bindS e3 (condT rfl (bindS e4 rfl))))))) rfl
theorem LentC_p (c : DConfig) (hc : c.few) : watershedkit_LentConfig c = some (((c.voters, marks 12), (c.old, marks 12), (c.learners, marks 12), (c.want, marks 12), ()), ()) := by
  obtain ⟨h1, h2, h3, h4⟩ := id hc
  unfold watershedkit_LentConfig
  exact bindS (Lent_p (l := c.voters) (by omega)) (bindS (Lent_p (l := c.old) (by omega)) (bindS (Lent_p (l := c.learners) (by omega)) (bindS (Lent_p (l := c.want) (by omega)) rfl)))
theorem KeptC_p (c : DConfig) (hc : c.few) : watershedkit_KeptConfig ((c.voters, marks 12), (c.old, marks 12), (c.learners, marks 12), (c.want, marks 12), ()) c = some (true, ()) := by
  obtain ⟨h1, h2, h3, h4⟩ := id hc
  unfold watershedkit_KeptConfig
  refine bindS (SameConfig_p c c hc hc) (condT (by simp) ?_)
  exact bindS (Kept_p (l := c.voters) (by omega)) (condT rfl (bindS (Kept_p (l := c.old) (by omega)) (condT rfl (bindS (Kept_p (l := c.learners) (by omega)) (condT rfl (bindS (Kept_p (l := c.want) (by omega)) rfl))))))
theorem Over_p (n : Nat) (hn : n ≤ 1000) (l : List Int) : watershedkit_OverInts_v n l = some ((), ([], ())) := by
  unfold watershedkit_OverInts_v
  exact iteT (by omega) rfl
theorem OverC_p (c : DConfig) (hc : c.few) : watershedkit_OverConfig (c.voters.length, c.old.length, c.learners.length, c.want.length, ()) c.voters c.old c.learners c.want = some ((), ([], [], [], [], ())) := by
  obtain ⟨h1, h2, h3, h4⟩ := id hc
  unfold watershedkit_OverConfig
  have e1 := Over_p c.voters.length (by omega)
  have e2 := Over_p c.old.length (by omega)
  have e3 := Over_p c.learners.length (by omega)
  have e4 := Over_p c.want.length (by omega)
  exact bindS (e1 _) (bindS (e2 _) (bindS (e3 _) (bindS (e4 _) rfl)))
theorem beginL_few {c : DConfig} {w : List Int} (hc : c.few) (hw : w.length ≤ 40) : (beginL c w).1.few := by
  have f0 : (⟨[], [], [], []⟩ : DConfig).few := by unfold DConfig.few; decide
  unfold beginL
  split
  · exact f0
  split
  · exact f0
  split
  · exact f0
  have := woL_len w c.voters
  exact ⟨hc.1, by simp, by show (woL w c.voters).length ≤ 40; omega, hw⟩
theorem QuorumTells_q (x0 : DConfig) (x1 : List Int) (x2 : Int) : watershedlaw06_QuorumTells x0 x1 x2 = some (true, ()) := by
  unfold watershedlaw06_QuorumTells
  refine bindS awake_p (condF rfl ?_)
  refine bindS (great_p x0 x1) ?_
  by_cases hf : x0.few ∧ x1.length ≤ 40
  rotate_left
  · exact condT (by rw [dF hf]; rfl) rfl
  refine condF (by rw [dT hf]; rfl) ?_
  obtain ⟨hc, hs⟩ := hf
  have hb := beginL_few (w := x1) hc hs
  have hn := nextL_few hc
  refine bindS (LentC_p x0 hc) (bindS (Lent_p (l := x1) (by omega)) ?_)
  refine bindS (v := ((((beginL x0 x1).1.voters.length, (beginL x0 x1).1.old.length, (beginL x0 x1).1.learners.length, (beginL x0 x1).1.want.length, ()), (beginL x0 x1).2, ()), ((beginL x0 x1).1.voters, (beginL x0 x1).1.old, (beginL x0 x1).1.learners, (beginL x0 x1).1.want, ()))) (by
    unfold quorum_Begin_ar
    exact bindS (Begin_p x0 x1 hc hs) rfl) ?_
  refine bindS (refBegin_p x0 x1 hc hs) ?_
  refine bindS (v := ((((nextL x0).1.voters.length, (nextL x0).1.old.length, (nextL x0).1.learners.length, (nextL x0).1.want.length, ()), (nextL x0).2, ()), ((nextL x0).1.voters, (nextL x0).1.old, (nextL x0).1.learners, (nextL x0).1.want, ()))) (by
    unfold quorum_Next_ar
    exact bindS (Next_p x0 hc) rfl) ?_
  refine bindS (refNext_p x0 hc) (condF (by simp) (condF (by simp) ?_))
  refine bindS (sameCA_p _ hb) (condF rfl (bindS (sameCA_p _ hn) (condF rfl ?_)))
  refine bindS (Right_p x0 hc) (bindS (refRight_p x0 hc) (condF (by simp) ?_))
  refine bindS (Agrees_p x0 x1 hc hs) (bindS (refAgrees_p x0 x1 hc hs) (condF (by simp) ?_))
  refine bindS (Votes_p x0 x2 hc) (bindS (refVotes_p x0 x2 hc) (condF (by simp) ?_))
  refine bindS (Has_p x0 x2 hc) (bindS (refHas_p x0 x2 hc) (condF (by simp) ?_))
  obtain ⟨arr, n1, n2⟩ := Nodes_p x0 hc
  have hnl := nodes_len x0 hc
  refine bindS n1 (bindS (refNodes_p x0 hc) (bindS (sameN_p _ arr (by omega) n2) (condF rfl ?_)))
  refine bindS (OverC_p _ hb) (bindS (OverC_p _ hn) (bindS (KeptC_p x0 hc) (condT rfl (bindS (Kept_p (l := x1) (by omega)) rfl))))
theorem QuorumTells_p (x0 : DConfig) (x1 : List Int) (x2 : Int) (k0 : ok_DConfig x0) (k1 : ok_LIi64 x1) (k2 : ok_Ii64 x2) : watershedlaw06_QuorumTells x0 x1 x2 = some (true, ()) := QuorumTells_q x0 x1 x2
end Go.Proofs.Ythlalhjocefbbaa
