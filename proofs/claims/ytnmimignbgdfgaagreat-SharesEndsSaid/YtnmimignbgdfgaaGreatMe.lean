/- XTt in one. -/
import Derived.Test.YtnmimignbgdfgaaGreatMd
import Derived.Test.YtnmimignbgdfgaaGreatG2
/- SharesTells, plainly. -/
namespace Go.Proofs.YtnmimignbgdfgaaGreat
open Go.RowKit
set_option maxRecDepth 100000
set_option linter.unusedVariables false
set_option linter.unusedSimpArgs false
theorem First_both (g : Int) : ∃ s, shares_First g = some (s, ()) ∧ watershedref05_First g = some (s, ()) ∧ OkSh s := by
  unfold shares_First watershedref05_First span_All
  rw [within_p, Option.bind_some]
  by_cases h1 : g < 1
  · refine ⟨_, condT (by rw [dF (by omega : ¬ 1 ≤ g)]; rfl) rfl, condT (dT h1) rfl, ⟨by simp, ?_⟩⟩
    simpa using ok0
  · rw [dF h1, cond_false]
    by_cases h2 : 4 < g
    · refine ⟨_, condT (by rw [dF (by omega : ¬ g ≤ 4), Bool.and_false]; rfl) rfl, condT (dT h2) rfl, ⟨by simp, ?_⟩⟩
      simpa using ok0
    · refine ⟨_, condF (by rw [dT (by omega : 1 ≤ g), dT (by omega : g ≤ 4)]; rfl) rfl, condF (dF h2) rfl, ⟨by simp, ?_⟩⟩
      simpa using ok0
theorem SharesTells_p (x0 : DShares) (x1 : DSpan) (x2 : Int) (x3 : List Tx) (k0 : ok_DShares x0) (k1 : ok_DSpan x1) (k2 : ok_Ii64 x2) (k3 : ok_LListUInt8 x3) : watershedlaw05_SharesTells x0 x1 x2 x3 = some (true, ()) := by
  have ha : OkSp x1 := .of k1
  unfold watershedlaw05_SharesTells
  refine bindS awake_p (condF rfl ?_)
  have hroom := k3.room
  refine iteT (by simp only [List.length_cons, List.length_nil]; omega) ?_
  obtain ⟨r, hr, hr2⟩ := great_q x0 ([x1.lo, x1.hi] ++ x3)
  refine bindS hr ?_
  cases r with
  | true => exact condT rfl rfl
  | false =>
  refine condF rfl ?_
  obtain ⟨hl, hl3⟩ := hr2 rfl
  have hl3 : x3.length ≤ 60 := by simp only [List.length_append] at hl3; omega
  have hs : OkSh x0 := ⟨hl, fun x hx => .of (k0.2.1.all x hx).1⟩
  obtain ⟨t, e, t1, t2, t3⟩ := TurnA_p hs ha x2
  obtain ⟨n, b, arr, l, g1, g2, g3⟩ := GroupsBoth_p hs k3.all (by omega)
  obtain ⟨f, f1, f2, f3⟩ := First_both x2
  have htl := t3.len
  have hfl := f3.len
  refine bindS (LentSh_p (s := x0) (by omega)) (bindS t1 (bindS t2 (bindS (In_p hs ha) (bindS (refIn_p hs ha) (bindS g1 (bindS g2 (condF (by simp) (bindS (sameShA_p (t := t) (by omega)) (condF rfl (condF (by simp) (condF (by simp) (condF (by simp) (bindS g3 (condF rfl (bindS (Right_sh hs) (bindS (refR5_p hs) (condF (by simp) (bindS f1 (bindS f2 (bindS (sameSh2_p (s := f) (by omega)) (condF rfl ?_)))))))))))))))))))))
  have hloop : loopM watershedlaw05_SharesTells_l1 ((x3, (), (), (), 0, ()), (x0, (x0.epoch, (x0.list, marks 12), ()), (t.epoch, t.list.length, ()), t.list, ())) = some (.inr (((), (), (), ()), (x0, (x0.epoch, (x0.list, marks 12), ()), (t.epoch, t.list.length, ()), t.list, ()))) := by
    refine loopM_run (step := watershedlaw05_SharesTells_l1) (fun j : Nat => ((x3, (), (), (), (j : Int), ()), (x0, (x0.epoch, (x0.list, marks 12), ()), (t.epoch, t.list.length, ()), t.list, ()))) (N := x3.length) (fun j hj => ?_) ?_
    · have hkj : OkT x3[j] := k3.all _ (List.getElem_mem hj)
      unfold watershedlaw05_SharesTells_l1
      refine condT (dT (by dsimp only; omega)) (bindS (getI_lt hj) (bindS (Of_p hs hkj) (bindS (getI_lt hj) (bindS (refOf_p hs hkj) (condF (by simp) (condF (by simp) ?_))))))
      dsimp only
      rw [w64 (by omega)]
      rfl
    · unfold watershedlaw05_SharesTells_l1
      exact condF (dF (by dsimp only; omega)) rfl
  refine bindS hloop ?_
  exact bindS (OverSh_p t.epoch t.list.length (by omega) t.list) (bindS (KeptSh_p (s := x0) (by omega)) rfl)
end Go.Proofs.YtnmimignbgdfgaaGreat
