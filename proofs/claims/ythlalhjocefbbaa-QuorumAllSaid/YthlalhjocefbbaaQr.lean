/- The reference of quorums, plainly. -/
import Derived.Test.YthlalhjocefbbaaQz
namespace Go.Proofs.Ythlalhjocefbbaa
open Go.RowKit
set_option maxRecDepth 100000
set_option linter.unusedVariables false
set_option linter.unusedSimpArgs false
theorem refRow_p (x : List Int) (hx : x.length ≤ 40) : watershedref06_row x = some (riseB 0 x, ()) := by
  have key : loopM watershedref06_row_l1 ((x, 0, ()), ()) = some (if riseB 0 x then .inr ((), ()) else .inl ((false, ()), ())) := by
    refine loopM_eq_of (fun n a => ∃ (i : Nat) (p : Int), a = ((x, (i : Int), ()), ()) ∧ i ≤ x.length ∧ 0 ≤ p ∧ (i = 0 → p = 0) ∧ (∀ h : 0 < i, ∃ h' : i - 1 < x.length, p = x[i-1]) ∧ riseB p (x.drop i) = riseB 0 x ∧ n = x.length - i) _ ?_ (n := x.length) ⟨0, 0, rfl, Nat.zero_le _, Int.le_refl _, fun _ => rfl, fun h => absurd h (by omega), rfl, rfl⟩
    rintro n a ⟨i, p, rfl, h1, h0, hz, hp, he, rfl⟩
    unfold watershedref06_row_l1
    by_cases hi : i < x.length
    · rw [riseB_drop hi] at he
      dsimp only
      rw [dT (by omega), cond_true, getI_lt hi, Option.bind_some]
      by_cases c1 : x[i] < 1
      · right
        rw [dT c1, cond_true, ← he, dF (p := p < x[i]) (by omega)]; rfl
      · rw [dF c1, cond_false, Option.bind_some]
        by_cases c2 : 5 < x[i]
        · right
          rw [dT c2, cond_true, ← he, dF (p := x[i] ≤ 5) (by omega)]; simp
        · rw [dF c2, cond_false]
          rw [dT (p := x[i] ≤ 5) (by omega)] at he
          by_cases c3 : 0 < i
          · obtain ⟨h', hp'⟩ := hp c3
            rw [dT (by omega), cond_true, w64 (by omega), show ((i : Int) - 1) = ((i - 1 : Nat) : Int) from by omega, getI_lt h', Option.bind_some, ← hp', Option.bind_some]
            by_cases c4 : x[i] ≤ p
            · right
              rw [dT c4, cond_true, ← he, dF (p := p < x[i]) (by omega)]; rfl
            · left
              rw [dF c4, cond_false, w64 (by omega)]
              refine ⟨x.length - (i + 1), _, by omega, rfl, i + 1, x[i], rfl, by omega, by omega, by omega, fun _ => ⟨by omega, rfl⟩, ?_, rfl⟩
              rw [← he, dT (p := p < x[i]) (by omega)]; rfl
          · left
            obtain rfl : i = 0 := by omega
            rw [dF (by omega), cond_false, w64 (by omega)]
            refine ⟨x.length - 1, _, by omega, rfl, 1, x[0], rfl, by omega, by omega, by omega, fun _ => ⟨by omega, rfl⟩, ?_, rfl⟩
            rw [← he, dT (p := p < x[0]) (by have := hz rfl; omega)]; rfl
    · right
      obtain rfl : i = x.length := by omega
      dsimp only
      rw [dF (by omega), cond_false, ← he, List.drop_length]; rfl
  unfold watershedref06_row
  rw [key]
  cases riseB 0 x <;> rfl
theorem refIn_p (x : List Int) (v : Int) (hx : x.length ≤ 1000) : watershedref06_in x v = some (decide (v ∈ x), ()) := by
  have key : ∃ b, loopM watershedref06_in_l1 ((x, v, 0, ()), ()) = some b ∧ ((b = .inl ((true, ()), ()) ∧ v ∈ x) ∨ (b = .inr ((), ()) ∧ v ∉ x)) := by
    refine loopM_spec (fun n a => ∃ i : Nat, a = ((x, v, (i : Int), ()), ()) ∧ i ≤ x.length ∧ (v ∈ x ↔ v ∈ x.drop i) ∧ n = x.length - i) _ ?_ (n := x.length) ⟨0, rfl, Nat.zero_le _, by simp, rfl⟩
    rintro n a ⟨i, rfl, h1, he, rfl⟩
    unfold watershedref06_in_l1
    by_cases hi : i < x.length
    · rw [List.drop_eq_getElem_cons hi, List.mem_cons] at he
      by_cases hr : x[i] = v
      · right
        exact ⟨_, condT (dT (by dsimp only; omega)) (bindS (getI_lt hi) (condT (dT hr) rfl)), .inl ⟨rfl, he.2 (.inl hr.symm)⟩⟩
      · left
        refine ⟨x.length - (i + 1), _, by omega, condT (dT (by dsimp only; omega)) (bindS (getI_lt hi) (condF (dF hr) rfl)), i + 1, ?_, by omega, he.trans ⟨fun h => h.resolve_left fun e => hr e.symm, .inr⟩, rfl⟩
        dsimp only
        rw [w64 (by omega)]; rfl
    · right
      obtain rfl : i = x.length := by omega
      exact ⟨_, condF (dF (by dsimp only; omega)) rfl, .inr ⟨rfl, by rw [he, List.drop_length]; simp⟩⟩
  obtain ⟨b, h1, h2⟩ := key
  unfold watershedref06_in
  rw [h1]
  rcases h2 with ⟨rfl, h⟩ | ⟨rfl, h⟩
  · rw [dT h]; rfl
  · rw [dF h]; rfl
theorem refLess_p (x y : List Int) (hx : x.length ≤ 1000) (hy : y.length ≤ 1000) : watershedref06_less x y = some (woL x y, ((), ())) := by
  have key : loopM watershedref06_less_l1 ((x, y, [], 0, ()), ((), ())) = some ((woL x y, ()), ((), (), ())) := by
    refine loopM_run (step := watershedref06_less_l1) (fun i : Nat => ((x, y, woL (x.take i) y, (i : Int), ()), ((), ()))) (N := x.length) (fun i hi => ?_) ?_
    · have hl := woL_len (x.take i) y
      rw [List.length_take] at hl
      have hs : woL (x.take (i + 1)) y = woL (x.take i) y ++ woL [x[i]] y := by
        rw [List.take_succ_eq_append_getElem hi]; unfold woL; rw [List.filter_append]
      unfold watershedref06_less_l1
      refine condT (dT (by dsimp only; omega)) (bindS (getI_lt hi) (bindS (refIn_p y x[i] hy) ?_))
      by_cases hm : x[i] ∈ y
      · refine condF (by rw [dT hm]; rfl) ?_
        rw [hs, show woL [x[i]] y = [] from by simp [woL, hm], List.append_nil]
        dsimp only
        rw [w64 (by omega)]; rfl
      · refine condT (by rw [dF hm]; rfl) (bindS (getI_lt hi) (iteT (by dsimp only; simp only [List.length_singleton]; omega) ?_))
        rw [hs, show woL [x[i]] y = [x[i]] from by simp [woL, hm]]
        dsimp only
        rw [w64 (by omega)]; rfl
    · unfold watershedref06_less_l1
      refine condF (dF (by dsimp only; omega)) ?_
      dsimp only
      rw [List.take_length]
  unfold watershedref06_less
  exact bindS key rfl
theorem Copy_p {x : List Int} (h : x.length ≤ 1000) : watershedkit_CopyInts x = some (x, ((), ())) := by
  unfold watershedkit_CopyInts
  exact iteT (by omega) rfl
theorem refRightL_p (c : DConfig) (hc : c.few) : loopM watershedref06_Right_l1 (((), 0, ()), (c, ())) = some (if (c.learners.any fun x => decide (x ∈ c.voters)) = true then .inl ((false, ()), (c, ())) else .inr (((), ()), (c, ()))) := by
  obtain ⟨h1, h2, h3, h4⟩ := id hc
  refine loopM_eq_of (fun n a => ∃ i : Nat, a = (((), (i : Int), ()), (c, ())) ∧ i ≤ c.learners.length ∧ ((c.learners.drop i).any fun x => decide (x ∈ c.voters)) = (c.learners.any fun x => decide (x ∈ c.voters)) ∧ n = c.learners.length - i) _ ?_ (n := c.learners.length) ⟨0, rfl, Nat.zero_le _, rfl, rfl⟩
  rintro n a ⟨i, rfl, g1, he, rfl⟩
  unfold watershedref06_Right_l1
  by_cases hi : i < c.learners.length
  · rw [List.drop_eq_getElem_cons hi, List.any_cons] at he
    dsimp only
    rw [dT (by omega), cond_true, getI_lt hi, Option.bind_some, refIn_p _ _ (by omega), Option.bind_some]
    by_cases hm : c.learners[i] ∈ c.voters
    · right
      rw [dT hm] at he ⊢
      rw [← he]; rfl
    · left
      rw [dF hm, Bool.false_or] at he
      rw [dF hm]
      refine ⟨c.learners.length - (i + 1), _, by omega, rfl, i + 1, ?_, by omega, he, rfl⟩
      rw [w64 (by omega)]; rfl
  · right
    obtain rfl : i = c.learners.length := by omega
    dsimp only
    rw [dF (by omega), cond_false, ← he, List.drop_length]
    rfl
theorem refRight_p (c : DConfig) (hc : c.few) : watershedref06_Right c = some (rightB c, ()) := by
  obtain ⟨h1, h2, h3, h4⟩ := id hc
  unfold watershedref06_Right rightB
  rw [refRow_p _ h1, refRow_p _ h2, refRow_p _ h3, refRow_p _ h4]
  simp only [Option.bind_some, List.all_cons, List.all_nil, Bool.and_true]
  cases r1 : riseB 0 c.voters
  · rfl
  cases r2 : riseB 0 c.old
  · rfl
  cases r3 : riseB 0 c.learners
  · rfl
  cases r4 : riseB 0 c.want
  · rfl
  simp only [Bool.not_true, cond_false, Bool.true_and]
  by_cases hv : c.voters.length = 0
  · rw [dT (by omega), if_pos hv, cond_true]
    rw [w64 (n := (c.old.length : Int) + (c.learners.length : Int)) (by omega), w64 (by omega)]
    congr 2
    rw [decide_eq_decide]; omega
  rw [dF (by omega), if_neg hv, cond_false, refRightL_p c hc, Option.bind_some]
  have hwl := woL_len c.want c.voters
  have e3 : decide ((c.learners.length : Int) = 0) = decide (c.learners.length = 0) := by rw [decide_eq_decide]; omega
  by_cases hany : (c.learners.any fun x => decide (x ∈ c.voters)) = true
  · rw [if_pos hany]
    dsimp only
    obtain ⟨x, hx, hxv⟩ := List.any_eq_true.1 hany
    have hxv : x ∈ c.voters := by simpa using hxv
    have hln : c.learners.length ≠ 0 := fun e => by rw [List.length_eq_zero_iff.1 e] at hx; cases hx
    by_cases ho : 0 < c.old.length
    · rw [if_pos ho, dF hln, Bool.and_false]
    · rw [if_neg ho]
      by_cases hq : 0 < c.want.length
      · rw [if_pos hq]
        have : ¬ c.learners = woL c.want c.voters := fun e => (woL_mem.1 (e ▸ hx)).2 hxv
        rw [dF this, Bool.and_false]
      · rw [if_neg hq, dF hln]
  · rw [if_neg hany]
    dsimp only
    by_cases ho : 0 < c.old.length
    · rw [dT (p := (0 : Int) < (c.old.length : Int)) (by omega), if_pos ho, cond_true, SameInts_p _ _ (by omega) (by omega), Option.bind_some, e3]
      by_cases hw : c.want = c.voters <;> simp [hw]
    · rw [dF (p := (0 : Int) < (c.old.length : Int)) (by omega), if_neg ho, cond_false]
      by_cases hq : 0 < c.want.length
      · rw [dF (p := (c.want.length : Int) = 0) (by omega), if_pos hq, cond_false, SameInts_p _ _ (by omega) (by omega), Option.bind_some, refLess_p _ _ (by omega) (by omega), Option.bind_some, SameInts_p c.learners (woL c.want c.voters) (by omega) (by omega)]
        by_cases hw : c.want = c.voters <;> simp [hw]
      · rw [dT (p := (c.want.length : Int) = 0) (by omega), if_neg hq, cond_true, e3]
theorem refNext_p (c : DConfig) (hc : c.few) : watershedref06_Next c = some (((nextL c).1, (nextL c).2, ()), ()) := by
  obtain ⟨h1, h2, h3, h4⟩ := id hc
  unfold watershedref06_Next nextL
  rw [refRight_p _ hc, Copy_p (by omega), Copy_p (by omega)]
  simp only [Option.bind_some]
  cases hr : rightB c
  · simp
  · by_cases hw : 0 < c.want.length
    · rw [dF (p := (c.want.length : Int) = 0) (by omega)]
      by_cases ho : 0 < c.old.length <;> simp [hw, ho]
    · rw [dT (p := (c.want.length : Int) = 0) (by omega)]
      simp [hw]
theorem refBegin_p (c : DConfig) (w : List Int) (hc : c.few) (hw : w.length ≤ 40) : watershedref06_Begin c w = some (((beginL c w).1, (beginL c w).2, ()), ()) := by
  obtain ⟨h1, h2, h3, h4⟩ := id hc
  unfold watershedref06_Begin beginL
  rw [refRight_p _ hc, Copy_p (by omega), Copy_p (by omega), refRow_p _ hw, SameInts_p _ _ (by omega) (by omega), refLess_p _ _ (by omega) (by omega)]
  simp only [Option.bind_some]
  cases hr : rightB c
  · simp
  · by_cases hv : c.voters.length = 0
    · rw [dT (p := (c.voters.length : Int) = 0) (by omega), if_pos (.inr (.inl hv))]; rfl
    · rw [dF (p := (c.voters.length : Int) = 0) (by omega)]
      cases hq : riseB 0 w
      · rw [if_pos (.inr (.inr (.inl rfl)))]; rfl
      · by_cases hl : w.length = 0
        · rw [dT (p := (w.length : Int) = 0) (by omega), if_pos (.inr (.inr (.inr hl)))]; rfl
        · rw [dF (p := (w.length : Int) = 0) (by omega), if_neg (by simp only [hv, hl]; simp)]
          by_cases hw' : 0 < c.want.length
          · rw [dT (p := (0 : Int) < (c.want.length : Int)) (by omega), if_pos hw']; rfl
          · rw [dF (p := (0 : Int) < (c.want.length : Int)) (by omega), if_neg hw']
            by_cases he : w = c.voters
            · rw [dT he, if_pos he]; rfl
            · rw [dF he, if_neg he]; rfl
theorem refHalf_p (x s : List Int) (hx : x.length ≤ 40) (hs : s.length ≤ 40) : watershedref06_half x s = some (mostB x s, ()) := by
  have hcnt : ∀ l : List Int, l.length = (woL l s).length + (l.filter fun e => decide (e ∈ s)).length := fun l => by
    induction l with
    | nil => rfl
    | cons a l ih =>
      unfold woL at ih ⊢
      by_cases h : a ∈ s <;> simp [h] <;> omega
  have key : loopM watershedref06_half_l1 ((x, s, 0, 0, ()), ()) = some ((x, (((x.filter fun e => decide (e ∈ s)).length : Nat) : Int), ()), ()) := by
    refine loopM_run (step := watershedref06_half_l1) (fun i : Nat => ((x, s, ((((x.take i).filter fun e => decide (e ∈ s)).length : Nat) : Int), (i : Int), ()), ())) (N := x.length) (fun i hi => ?_) ?_
    · have hl := List.length_filter_le (fun e => decide (e ∈ s)) (x.take i)
      rw [List.length_take] at hl
      have hs1 : ((x.take (i + 1)).filter fun e => decide (e ∈ s)).length = ((x.take i).filter fun e => decide (e ∈ s)).length + ([x[i]].filter fun e => decide (e ∈ s)).length := by
        rw [List.take_succ_eq_append_getElem hi, List.filter_append, List.length_append]
      unfold watershedref06_half_l1
      refine condT (dT (by dsimp only; omega)) (bindS (getI_lt hi) (bindS (refIn_p s x[i] (by omega)) ?_))
      by_cases hm : x[i] ∈ s
      · refine condT (dT hm) ?_
        rw [hs1, show ([x[i]].filter fun e => decide (e ∈ s)) = [x[i]] from by simp [hm]]
        dsimp only
        rw [w64 (by omega), w64 (by omega)]; rfl
      · refine condF (dF hm) ?_
        rw [hs1, show ([x[i]].filter fun e => decide (e ∈ s)) = [] from by simp [hm]]
        dsimp only
        rw [w64 (by omega)]; rfl
    · unfold watershedref06_half_l1
      refine condF (dF (by dsimp only; omega)) ?_
      dsimp only
      rw [List.take_length]
  unfold watershedref06_half mostB
  refine bindS key ?_
  have := hcnt x
  dsimp only
  rw [w64 (by omega)]
  congr 2
  rw [decide_eq_decide]; omega
theorem refAgrees_p (c : DConfig) (s : List Int) (hc : c.few) (hs : s.length ≤ 40) : watershedref06_Agrees c s = some (agreesB c s, ()) := by
  obtain ⟨h1, h2, h3, h4⟩ := id hc
  unfold watershedref06_Agrees agreesB
  rw [refRight_p _ hc, refHalf_p _ _ (by omega) hs, refHalf_p _ _ (by omega) hs]
  simp only [Option.bind_some]
  have e1 : mostB c.voters s = true → 0 < c.voters.length := fun h => by
    have h : c.voters.length < 2 * (c.voters.length - (woL c.voters s).length) := of_decide_eq_true h
    omega
  cases rightB c
  · rfl
  · by_cases hv : 0 < c.voters.length
    · rw [dT (p := (0 : Int) < (c.voters.length : Int)) (by omega)]
      by_cases ho : 0 < c.old.length
      · rw [dF (p := (c.old.length : Int) = 0) (by omega), dT ho]
        cases mostB c.voters s <;> rfl
      · rw [dT (p := (c.old.length : Int) = 0) (by omega), dF ho]
        cases mostB c.voters s <;> rfl
    · have : mostB c.voters s = false := by
        cases h : mostB c.voters s
        · rfl
        · exact absurd (e1 h) hv
      rw [dF (p := (0 : Int) < (c.voters.length : Int)) (by omega), this]; rfl
theorem refVotes_p (c : DConfig) (v : Int) (hc : c.few) : watershedref06_Votes c v = some (decide (v ∈ c.voters) || decide (v ∈ c.old), ()) := by
  obtain ⟨h1, h2, h3, h4⟩ := id hc
  unfold watershedref06_Votes
  rw [refIn_p _ _ (by omega), refIn_p _ _ (by omega)]
  simp only [Option.bind_some]
  cases decide (v ∈ c.voters) <;> rfl
theorem refHas_p (c : DConfig) (v : Int) (hc : c.few) : watershedref06_Has c v = some (decide (v ∈ c.voters) || decide (v ∈ c.old) || decide (v ∈ c.learners), ()) := by
  obtain ⟨h1, h2, h3, h4⟩ := id hc
  unfold watershedref06_Has
  rw [refVotes_p _ _ hc, refIn_p _ _ (by omega)]
  simp only [Option.bind_some]
  cases decide (v ∈ c.voters) || decide (v ∈ c.old) <;> rfl
end Go.Proofs.Ythlalhjocefbbaa
