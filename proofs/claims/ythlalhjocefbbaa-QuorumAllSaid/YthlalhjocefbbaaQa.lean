/- QuorumAll, plainly. -/
import Derived.Test.YthlalhjocefbbaaQt
namespace Go.Proofs.Ythlalhjocefbbaa
open Go.RowKit
set_option maxRecDepth 100000
set_option linter.unusedVariables false
set_option linter.unusedSimpArgs false
theorem row_q (b : Int) : ∃ r : List Int, watershedlaw06_row b = some (r, ((), ())) ∧ r.length ≤ 4 := by
  have key : ∃ z, loopM watershedlaw06_row_l1 ((b, [], 0, ()), ((), ())) = some z ∧ ∃ r : List Int, z = ((r, ()), ((), (), ())) ∧ r.length ≤ 4 := by
    refine loopM_spec (fun n a => ∃ (i : Nat) (r : List Int), a = ((b, r, (i : Int), ()), ((), ())) ∧ i ≤ 4 ∧ r.length ≤ i ∧ n = 4 - i) _ ?_ (n := 4) ⟨0, [], rfl, Nat.zero_le _, Nat.le_refl _, rfl⟩
    rintro n a ⟨i, r, rfl, h1, h2, rfl⟩
    unfold watershedlaw06_row_l1
    by_cases hi : i < 4
    · left
      dsimp only
      rw [dT (by omega), cond_true, if_neg (by
        have : IntKind.u64.wrap (i : Int) = (i : Int) := by
          match i, hi with
          | 0, _ => rfl
          | 1, _ => rfl
          | 2, _ => rfl
          | 3, _ => rfl
        rw [this]; omega)]
      rw [Bool.cond_decide]
      split
      · rw [if_pos (by simp only [List.length_singleton]; omega)]
        refine ⟨4 - (i + 1), _, by omega, rfl, i + 1, r ++ [(i : Int) + 1], ?_, by omega, by simp; omega, rfl⟩
        rw [w64 (by omega)]; rfl
      · refine ⟨4 - (i + 1), _, by omega, rfl, i + 1, r, ?_, by omega, by omega, rfl⟩
        rw [w64 (by omega)]; rfl
    · right
      exact ⟨_, condF (dF (by dsimp only; omega)) rfl, r, rfl, by omega⟩
  obtain ⟨z, hz, r, rfl, hr⟩ := key
  refine ⟨r, ?_, hr⟩
  unfold watershedlaw06_row
  exact bindS hz rfl
theorem allS (v w : Int) (l : List DConfig) (hl : l.length ≤ 100) {i : Nat} (hi : i < l.length) : loopM watershedlaw06_QuorumAll_l4 ((v, w, l, (i : Int), 0, ()), ((), ())) = some (.inr ((v, w, l, (i : Int), ()), ((), (), ()))) := by
  obtain ⟨z, hz, rfl⟩ : ∃ z, loopM watershedlaw06_QuorumAll_l4 ((v, w, l, (i : Int), 0, ()), ((), ())) = some z ∧ z = .inr ((v, w, l, (i : Int), ()), ((), (), ())) := by
    refine loopM_spec (fun n a => ∃ s : Nat, a = ((v, w, l, (i : Int), (s : Int), ()), ((), ())) ∧ s ≤ 200 ∧ n = 200 - s) _ ?_ (n := 200) ⟨0, rfl, by omega, rfl⟩
    rintro n a ⟨s, rfl, h1, rfl⟩
    unfold watershedlaw06_QuorumAll_l4
    by_cases hs : s < 16
    · left
      obtain ⟨r, hr, _⟩ := row_q (s : Int)
      refine ⟨200 - (s + 1 + i / 3), _, by omega, condT (dT (by dsimp only; omega)) (bindS (getI_lt hi) (bindS hr (bindS (QuorumTells_q _ _ _) (condF rfl rfl)))), s + 1 + i / 3, ?_, by omega, rfl⟩
      dsimp only
      have h3 : ((i : Int).tdiv 3) = ((i / 3 : Nat) : Int) := by
        rw [Int.tdiv_eq_ediv_of_nonneg (by omega)]; rfl
      rw [h3, w64 (n := (s : Int) + 1) (by omega), w64 (n := ((i / 3 : Nat) : Int)) (by omega), w64 (by omega)]
      congr 6
    · right
      exact ⟨_, condF (dF (by dsimp only; omega)) rfl, rfl⟩
  exact hz
theorem allI (v w : Int) (l : List DConfig) (hl : l.length ≤ 100) : loopM watershedlaw06_QuorumAll_l3 ((v, w, l, 0, ()), ((), ())) = some (.inr ((v, w, ()), ((), ()))) := by
  refine loopM_run (step := watershedlaw06_QuorumAll_l3) (fun i : Nat => ((v, w, l, (i : Int), ()), ((), ()))) (N := l.length) (fun i hi => ?_) ?_
  · unfold watershedlaw06_QuorumAll_l3
    refine condT (dT (by dsimp only; omega)) (bindS (allS v w l hl hi) ?_)
    dsimp only
    rw [w64 (by omega)]
    rfl
  · unfold watershedlaw06_QuorumAll_l3
    exact condF (dF (by dsimp only; omega)) rfl
theorem allW (v : Int) : loopM watershedlaw06_QuorumAll_l2 ((v, 0, ()), ()) = some (.inr ((v, ()), ())) := by
  refine loopM_run (step := watershedlaw06_QuorumAll_l2) (fun w : Nat => ((v, (w : Int), ()), ())) (N := 16) (fun w hw => ?_) ?_
  · obtain ⟨rv, v1, v2⟩ := row_q v
    obtain ⟨rw_, w1, w2⟩ := row_q (w : Int)
    have hc : (⟨rv, [], [], []⟩ : DConfig).few := ⟨by show rv.length ≤ 40; omega, by simp, by simp, by simp⟩
    have hb := beginL_few (w := rw_) hc (by omega)
    unfold watershedlaw06_QuorumAll_l2
    refine condT (dT (by dsimp only; omega)) (bindS v1 (bindS w1 (bindS (Begin_p _ _ hc (by dsimp only; omega)) (bindS (Next_p _ hb) (bindS v1 (bindS w1 (bindS v1 (bindS v1 (bindS w1 (bindS v1 (bindS w1 ?_)))))))))))
    refine bindS (allI v (w : Int) _ (by simp)) ?_
    dsimp only
    rw [w64 (by omega)]
    rfl
  · unfold watershedlaw06_QuorumAll_l2
    exact condF rfl rfl
theorem allV : loopM watershedlaw06_QuorumAll_l1 ((0, ()), ()) = some (.inr ((), ())) := by
  refine loopM_run (step := watershedlaw06_QuorumAll_l1) (fun v : Nat => (((v : Int), ()), ())) (N := 16) (fun v hv => ?_) ?_
  · unfold watershedlaw06_QuorumAll_l1
    refine condT (dT (by dsimp only; omega)) (bindS (allW (v : Int)) ?_)
    dsimp only
    rw [w64 (by omega)]
    rfl
  · unfold watershedlaw06_QuorumAll_l1
    exact condF rfl rfl
theorem QuorumAll_p : watershedlaw06_QuorumAll = some (true, ()) := by
  unfold watershedlaw06_QuorumAll
  exact bindS awake_p (condF rfl (bindS allV rfl))
end Go.Proofs.Ythlalhjocefbbaa
