/- A change of a configuration, plainly. -/
import Derived.Test.YthlalhjocefbbaaQu
namespace Go.Proofs.Ythlalhjocefbbaa
open Go.RowKit
set_option maxRecDepth 100000
set_option linter.unusedVariables false
set_option linter.unusedSimpArgs false
theorem riseB_mono {p q : Int} (h : q ≤ p) : ∀ {l : List Int}, riseB p l = true → riseB q l = true
  | [], _ => rfl
  | a :: l, hr => by
    unfold riseB at hr ⊢
    simp only [Bool.and_eq_true, decide_eq_true_eq] at hr ⊢
    exact ⟨by omega, hr.2⟩
theorem riseB_wo (s : List Int) : ∀ {p : Int} {l : List Int}, riseB p l = true → riseB p (woL l s) = true
  | _, [], _ => rfl
  | p, a :: l, hr => by
    rw [woL_cons]
    unfold riseB at hr
    simp only [Bool.and_eq_true, decide_eq_true_eq] at hr
    by_cases h : a ∈ s
    · rw [if_pos h]
      exact riseB_mono (by omega) (riseB_wo s hr.2.2)
    · rw [if_neg h]
      unfold riseB
      simp only [Bool.and_eq_true, decide_eq_true_eq]
      exact ⟨hr.1, hr.2.1, riseB_wo s hr.2.2⟩
theorem woL_mem {x : Int} {l s : List Int} : x ∈ woL l s ↔ x ∈ l ∧ x ∉ s := by unfold woL; simp
theorem woL_self (l : List Int) : woL l l = [] := by unfold woL; rw [List.filter_eq_nil_iff]; simp
theorem woL_nil (l : List Int) : woL l [] = l := by unfold woL; rw [List.filter_eq_self]; simp
theorem most_self {l : List Int} (h : 0 < l.length) : mostB l l = true := by
  unfold mostB
  rw [woL_self, decide_eq_true_eq]
  simp only [List.length_nil]
  omega
theorem most_nil (l : List Int) : mostB l [] = false := by
  unfold mostB
  rw [woL_nil, decide_eq_false_iff_not]
  omega
theorem Votes_p (c : DConfig) (v : Int) (hc : c.few) : quorum_Votes c v = some (decide (v ∈ c.voters) || decide (v ∈ c.old), ()) := by
  obtain ⟨h1, h2, h3, h4⟩ := id hc
  unfold quorum_Votes
  rw [Contains_p _ _ (by omega), Contains_p _ _ (by omega)]
  simp only [Option.bind_some]
  cases decide (v ∈ c.voters) <;> rfl
theorem Has_p (c : DConfig) (v : Int) (hc : c.few) : quorum_Has c v = some (decide (v ∈ c.voters) || decide (v ∈ c.old) || decide (v ∈ c.learners), ()) := by
  obtain ⟨h1, h2, h3, h4⟩ := id hc
  unfold quorum_Has
  rw [Votes_p _ _ hc, Contains_p _ _ (by omega)]
  simp only [Option.bind_some]
  cases decide (v ∈ c.voters) || decide (v ∈ c.old) <;> rfl
theorem Right_p (c : DConfig) (hc : c.few) : quorum_Right c = some (rightB c, ()) := by unfold quorum_Right; rw [right_p _ hc]; rfl
theorem steps_loop (w : List Int) (c d j f : DConfig) (hw : w.length ≤ 40) (hd : d.few) (hj : j.few) (h1 : ∀ x ∈ w, x ∈ d.voters ∨ x ∈ d.learners) (h2 : ∀ x ∈ w, x ∈ j.voters) :
    loopM watershedlaw06_QuorumSteps_l1 ((w, (), (), (), (), 0, ()), (c, d, j, f, ())) = some (.inr ((w, (), (), ()), (c, d, j, f, ()))) := by
  refine loopM_run (fun i => ((w, (), (), (), (), (i : Int), ()), (c, d, j, f, ()))) (N := w.length) ?_ ?_
  · intro i hi
    unfold watershedlaw06_QuorumSteps_l1
    have hm := List.getElem_mem hi
    have e1 : (decide (w[i] ∈ d.voters) || decide (w[i] ∈ d.old) || decide (w[i] ∈ d.learners)) = true := by
      rcases h1 _ hm with h | h <;> simp [h]
    have e2 : (decide (w[i] ∈ j.voters) || decide (w[i] ∈ j.old)) = true := by simp [h2 _ hm]
    dsimp only
    rw [dT (by omega), cond_true, getI_lt hi, Option.bind_some, Has_p _ _ hd, e1, Option.bind_some]
    dsimp only
    refine condF rfl ?_
    refine bindS rfl ?_
    refine bindS (Votes_p _ _ hj) (condF (nF e2) ?_)
    rw [w64 (by omega)]
    rfl
  · unfold watershedlaw06_QuorumSteps_l1
    dsimp only
    rw [dF (by omega)]
    rfl
theorem QuorumSteps_p (c : DConfig) (w : List Int) (k0 : ok_DConfig c) (k1 : ok_LIi64 w) : watershedlaw06_QuorumSteps c w = some (true, ()) := by
  unfold watershedlaw06_QuorumSteps
  rw [awake_p, great_p]
  simp only [Option.bind_some, Bool.not_true, cond_false]
  by_cases g1 : c.few ∧ w.length ≤ 40
  · obtain ⟨hc, hw⟩ := g1
    obtain ⟨h1, h2, h3, h4⟩ := id hc
    have f0 : (⟨[], [], [], []⟩ : DConfig).few := by unfold DConfig.few; decide
    rw [dT (⟨hc, hw⟩ : c.few ∧ w.length ≤ 40), Begin_p _ _ hc hw]
    simp only [Option.bind_some, Bool.not_true, cond_false]
    unfold beginL
    by_cases g2 : rightB c = false ∨ c.voters.length = 0 ∨ riseB 0 w = false ∨ w.length = 0
    · rw [if_pos g2]
      simp only [ne_eq, decide_not]
      rw [SameConfig_p _ _ f0 f0]
      rfl
    · rw [if_neg g2]
      by_cases g3 : 0 < c.want.length
      · rw [if_pos g3]
        simp only [ne_eq, decide_not]
        rw [SameConfig_p _ _ f0 f0]
        rfl
      · rw [if_neg g3]
        by_cases g4 : w = c.voters
        · rw [if_pos g4]
          simp only [ne_eq, decide_not]
          rw [SameConfig_p _ _ f0 f0]
          rfl
        · rw [if_neg g4]
          simp only [not_or, Bool.not_eq_false] at g2
          obtain ⟨r1, r2, r3, r4⟩ := g2
          have hv : ¬ w.length = 0 := r4
          have rc := r1
          unfold rightB at rc
          rw [Bool.and_eq_true] at rc
          obtain ⟨rc1, rc2⟩ := rc
          rw [if_neg r2] at rc2
          have ho : ¬ 0 < c.old.length := by
            intro ho
            rw [if_pos ho] at rc2
            simp only [Bool.and_eq_true, decide_eq_true_eq] at rc2
            have : c.want.length = c.voters.length := by rw [rc2.1]
            omega
          simp only [List.all_cons, List.all_nil, Bool.and_true, Bool.and_eq_true] at rc1
          obtain ⟨s1, s2, s3, s4⟩ := rc1
          have hwo := woL_len w c.voters
          have fd : (⟨c.voters, [], woL w c.voters, w⟩ : DConfig).few := ⟨h1, by simp, by show (woL w c.voters).length ≤ 40; omega, hw⟩
          have fj : (⟨w, c.voters, [], w⟩ : DConfig).few := ⟨hw, h1, by simp, hw⟩
          have ff : (⟨w, [], [], []⟩ : DConfig).few := ⟨hw, by simp, by simp, by simp⟩
          have hw0 : 0 < w.length := by omega
          have hv0 : 0 < c.voters.length := by omega
          have rd : rightB ⟨c.voters, [], woL w c.voters, w⟩ = true := by
            unfold rightB
            have s5 := riseB_wo c.voters r3
            rw [Bool.and_eq_true]
            refine ⟨by simp [s1, r3, s5, riseB], ?_⟩
            dsimp only
            rw [if_neg r2, if_neg (by simp), if_pos hw0]
            simp [g4]
          have rj : rightB ⟨w, c.voters, [], w⟩ = true := by
            unfold rightB
            rw [Bool.and_eq_true]
            refine ⟨by simp [s1, r3, riseB], ?_⟩
            dsimp only
            rw [if_neg hv, if_pos hv0]
            simp
          have rf : rightB ⟨w, [], [], []⟩ = true := by
            unfold rightB
            rw [Bool.and_eq_true]
            refine ⟨by simp [r3, riseB], ?_⟩
            dsimp only
            rw [if_neg hv, if_neg (by simp), if_neg (by simp)]
            simp
          have nd : nextL ⟨c.voters, [], woL w c.voters, w⟩ = (⟨w, c.voters, [], w⟩, true) := by
            unfold nextL
            rw [if_pos ⟨rd, by show 0 < w.length; omega⟩, if_neg (by simp)]
          have nj : nextL ⟨w, c.voters, [], w⟩ = (⟨w, [], [], []⟩, true) := by
            unfold nextL
            rw [if_pos ⟨rj, by show 0 < w.length; omega⟩, if_pos (by show 0 < c.voters.length; omega)]
          have nf : nextL ⟨w, [], [], []⟩ = (⟨[], [], [], []⟩, false) := by
            unfold nextL
            rw [if_neg (by simp)]
          have af : agreesB ⟨w, [], [], []⟩ w = true := by
            unfold agreesB
            rw [rf, most_self (by show 0 < w.length; omega)]
            rfl
          have ac : agreesB c c.voters = true := by
            unfold agreesB
            rw [r1, most_self (by omega), dF ho]
            rfl
          have an : agreesB ⟨w, [], [], []⟩ [] = false := by
            unfold agreesB
            rw [most_nil, rf]
            rfl
          refine condF (dF (by simp)) ?_
          refine bindS (by rw [Next_p _ fd, nd]) ?_
          refine bindS (by show quorum_Next (⟨w, c.voters, [], w⟩ : DConfig) = _; rw [Next_p _ fj, nj]) ?_
          refine bindS (by show quorum_Next (⟨w, [], [], []⟩ : DConfig) = _; rw [Next_p _ ff, nf]) ?_
          refine condF rfl (condF rfl (condF rfl ?_))
          refine bindS (Right_p _ fd) (condF (nF rd) ?_)
          refine bindS (Right_p _ fj) (condF (nF rj) ?_)
          refine bindS (Right_p _ ff) (condF (nF rf) ?_)
          refine bindS (SameInts_p c.voters c.voters (by omega) (by omega)) (condF (nF (dT rfl)) ?_)
          refine bindS (SameInts_p c.voters c.voters (by omega) (by omega)) (condF (nF (dT rfl)) ?_)
          refine bindS (SameInts_p w w (by omega) (by omega)) (condF (nF (dT rfl)) ?_)
          refine bindS (SameInts_p w w (by omega) (by omega)) (condF (nF (dT rfl)) ?_)
          refine bindS (steps_loop w c _ _ ⟨w, [], [], []⟩ hw fd fj (fun x hx => ?_) (fun x hx => hx)) ?_
          · by_cases hm : x ∈ c.voters
            · exact .inl hm
            · exact .inr (woL_mem.2 ⟨hx, hm⟩)
          · refine bindS (Agrees_p _ _ ff hw) (condT af ?_)
            refine bindS (Agrees_p _ _ hc h1) (condT ac ?_)
            refine bindS (Agrees_p _ _ ff (by simp)) ?_
            rw [an]
            rfl
  · rw [dF g1]; rfl
end Go.Proofs.Ythlalhjocefbbaa
