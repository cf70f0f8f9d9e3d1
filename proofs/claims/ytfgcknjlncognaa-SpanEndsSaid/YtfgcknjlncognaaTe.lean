/- SpanEnds, plainly. -/
import Derived.Test.YtfgcknjlncognaaTl
namespace Go.Proofs.Ytfgcknjlncognaa
open Go.RowKit
set_option maxRecDepth 100000
set_option linter.unusedVariables false
set_option linter.unusedSimpArgs false
/-- One behind the other, as the document says it. -/
def chainB : DSpan → List DSpan → Bool
  | _, [] => true
  | p, s :: t => rightB s && ((!decide (p.hi = []) && decide (p.hi = s.lo)) && chainB s t)
theorem chainB_cons (p s : DSpan) (t : List DSpan) : chainB p (s :: t) = (rightB s && ((!decide (p.hi = []) && decide (p.hi = s.lo)) && chainB s t)) := rfl
theorem partsF_chain : ∀ (f : Tx) (s : DSpan) (l : List DSpan), partsF f (s :: l) = (decide (s.lo = f) && (decide (((s :: l).getLast (by simp)).hi = []) && (rightB s && chainB s l)))
  | f, s, [] => by
    show (rightB s && (decide (s.lo = f) && decide (s.hi = []))) = (decide (s.lo = f) && (decide (s.hi = []) && (rightB s && true)))
    cases rightB s <;> by_cases h1 : s.lo = f <;> by_cases h2 : s.hi = [] <;> simp [h1, h2]
  | f, s, t :: l => by
    have ih := partsF_chain s.hi t l
    have e : (s :: t :: l).getLast (by simp) = (t :: l).getLast (by simp) := List.getLast_cons (by simp)
    show (rightB s && (decide (s.lo = f) && (!decide (s.hi = []) && partsF s.hi (t :: l)))) = _
    rw [ih, e, chainB_cons]
    have e2 : decide (t.lo = s.hi) = decide (s.hi = t.lo) := by by_cases h : t.lo = s.hi <;> simp [h, eq_comm]
    rw [e2]
    cases rightB s <;> cases rightB t <;> cases chainB t l <;> by_cases h1 : s.lo = f <;> by_cases h2 : s.hi = [] <;> by_cases h3 : s.hi = t.lo <;> by_cases h4 : ((t :: l).getLast (by simp)).hi = [] <;> simp [h1, h2, h3, h4]
theorem refParts_p {l : List DSpan} (hl : l.length ≤ 140737488355328) (h : ∀ s ∈ l, OkSp s) : watershedref04_Parts l = some (partsF [] l, ()) := by
  unfold watershedref04_Parts
  cases l with
  | nil => rfl
  | cons s t =>
  rw [partsF_chain]
  have hlast : getI (s :: t) (IntKind.i64.wrap (((s :: t).length : Int) - 1)) = some ((s :: t).getLast (by simp)) := by
    have : (0 : Nat) < (s :: t).length := by simp
    rw [w64 (by omega), show (((s :: t).length : Int) - 1) = (((s :: t).length - 1 : Nat) : Int) from by omega, getI_lt (by omega), List.getLast_eq_getElem]
  refine condF (dF (by simp; omega)) ?_
  refine bindS (getI_zero _) ?_
  by_cases h1 : s.lo = []
  · refine condF (dF (by simp [h1])) ?_
    refine bindS hlast ?_
    by_cases h2 : ((s :: t).getLast (by simp)).hi = []
    · refine condF (dF (by simp [h2])) ?_
      rw [dT h1, dT h2, Bool.true_and, Bool.true_and]
      clear hlast h2
      generalize hL : s :: t = l at *
      have hpos : 0 < l.length := by rw [← hL]; simp
      have hval : (rightB s && chainB s t) = (rightB l[0] && chainB l[0] (l.drop 1)) := by subst hL; rfl
      rw [hval]
      have key : loopM watershedref04_Parts_l1 ((l, 0, ()), ()) = some (if (rightB l[0] && chainB l[0] (l.drop 1)) then .inr ((), ()) else .inl ((false, ()), ())) := by
        refine loopM_eq_of (fun n a => ∃ i : Nat, a = ((l, (i : Int), ()), ()) ∧ i ≤ l.length ∧ (0 < i → ∃ h : i - 1 < l.length, chainB l[i-1] (l.drop i) = (rightB l[0] && chainB l[0] (l.drop 1))) ∧ n = l.length - i) _ ?_ (n := l.length) ⟨0, rfl, Nat.zero_le _, (fun h => absurd h (Nat.lt_irrefl 0)), rfl⟩
        rintro n a ⟨i, rfl, g1, g2, rfl⟩
        unfold watershedref04_Parts_l1
        dsimp only
        by_cases hi : i < l.length
        · have ho := h _ (List.getElem_mem hi)
          rw [dT (by omega), cond_true, getI_lt hi, Option.bind_some, refRight_p ho, Option.bind_some]
          dsimp only
          by_cases h0 : 0 < i
          · obtain ⟨hp, g2⟩ := g2 h0
            rw [List.drop_eq_getElem_cons hi, chainB_cons] at g2
            rw [dT (by omega), cond_true, w64 (by omega), show ((i : Int) - 1) = ((i - 1 : Nat) : Int) from by omega, getI_lt hp, Option.bind_some, Option.bind_some, Option.bind_some, w64 (by omega)]
            rw [← g2]
            cases q1 : rightB l[i]
            · right; rfl
            · by_cases q2 : l[i-1].hi = []
              · right; simp [q2]
              · by_cases q3 : l[i-1].hi = l[i].lo
                · left
                  refine ⟨l.length - (i + 1), _, by omega, ?_, i + 1, rfl, by omega, fun _ => ⟨by omega, ?_⟩, rfl⟩
                  · have q4 : ¬ l[i].lo = [] := by rw [← q3]; exact q2
                    simp [q3, q4]
                  · have q4 : ¬ l[i].lo = [] := by rw [← q3]; exact q2
                    simp only [Nat.add_sub_cancel]
                    simp [q3, q4]
                · right; simp [q2, q3]
          · obtain rfl : i = 0 := by omega
            rw [dF (by omega), cond_false]
            cases q1 : rightB l[0]
            · right; rfl
            · left
              exact ⟨l.length - 1, _, by omega, rfl, 1, by rw [w64 (by omega)]; rfl, by omega, fun _ => ⟨by omega, by rw [Bool.true_and]⟩, rfl⟩
        · right
          obtain rfl : i = l.length := by omega
          obtain ⟨hp, g2⟩ := g2 hpos
          rw [List.drop_length] at g2
          rw [dF (by omega), cond_false, ← g2]
          rfl
      rw [key]
      cases (rightB l[0] && chainB l[0] (l.drop 1)) <;> rfl
    · refine condT (dT h2) ?_
      rw [dF h2]; simp
  · refine condT (dT h1) ?_
    rw [dF h1]; rfl
theorem SpanParts_q (x0 : List DSpan) (hl : x0.length ≤ 140737488355328) (ho : ∀ s ∈ x0, OkSp s) : watershedlaw04_SpanParts x0 = some (true, ()) := by
  unfold watershedlaw04_SpanParts
  refine bindS awake_p ?_
  refine condF rfl ?_
  obtain ⟨z, hz, all, rfl, ha⟩ : ∃ z, loopM watershedlaw04_SpanParts_l1 ((x0, [], 0, ()), ((), ())) = some z ∧ ∃ all, z = ((x0, all, ()), ((), (), ())) ∧ all.length ≤ 1000 := by
    refine loopM_spec (fun n a => ∃ (i : Nat) (all : List Tx), a = ((x0, all, (i : Int), ()), ((), ())) ∧ i ≤ x0.length ∧ all.length = 2 * i ∧ i ≤ 31 ∧ n = x0.length - i) _ ?_ (n := x0.length) ⟨0, [], rfl, Nat.zero_le _, rfl, by omega, rfl⟩
    rintro n a ⟨i, all, rfl, h1, h2, h3, rfl⟩
    unfold watershedlaw04_SpanParts_l1
    by_cases hi : i < x0.length
    · by_cases h6 : i < 31
      · left
        refine ⟨x0.length - (i + 1), _, by omega, condT (dT (by dsimp only; omega)) (condT (dT (by dsimp only; omega)) (bindS (getI_lt hi) (bindS (getI_lt hi) (iteT (by dsimp only; simp; omega) rfl)))), i + 1, all ++ [x0[i].lo, x0[i].hi], ?_, by omega, ?_, by omega, rfl⟩
        · dsimp only; rw [w64 (by omega)]; rfl
        · simp; omega
      · right
        exact ⟨_, condT (dT (by dsimp only; omega)) (condF (dF (by dsimp only; omega)) rfl), all, rfl, by omega⟩
    · right
      exact ⟨_, condF (dF (by dsimp only; omega)) rfl, all, rfl, by omega⟩
  refine bindS hz ?_
  obtain ⟨r, hr, _⟩ := few_q all (by omega)
  refine bindS hr ?_
  cases r
  · exact condT rfl rfl
  refine condF rfl ?_
  by_cases h3 : 30 < x0.length
  · exact condT (dT (by dsimp only; omega)) rfl
  refine condF (dF (by dsimp only; omega)) ?_
  refine bindS (Parts_p hl ho) ?_
  refine bindS (refParts_p hl ho) ?_
  dsimp only
  rw [dT rfl]
section
variable {Y : List Tx} (hY : ok_LListUInt8 Y) (hn : Y.length ≤ 1000)
include hY hn
theorem endsC {i j : Nat} (hi : i < Y.length) (hj : j < Y.length) : loopM watershedlaw04_SpanEnds_l3 ((Y, (i : Int), (j : Int), 0, ()), ((), ())) = some (.inr ((Y, (i : Int), (j : Int), ()), ((), (), ()))) := by
  have ok : ∀ {k : Nat} (hk : k < Y.length), OkT Y[k] := fun hk => hY.all _ (List.getElem_mem hk)
  have ok0 : OkT ([] : Tx) := by simp [OkT]
  refine loopM_run (step := watershedlaw04_SpanEnds_l3) (fun k : Nat => ((Y, (i : Int), (j : Int), (k : Int), ()), ((), ()))) (N := Y.length) (fun k hk => ?_) ?_
  · have hm : (i + j) % Y.length < Y.length := Nat.mod_lt _ (by omega)
    unfold watershedlaw04_SpanEnds_l3
    refine condT (dT (by dsimp only; omega)) (bindS (getI_lt hi) (bindS (getI_lt hj) (bindS (getI_lt hk) (iteF (by dsimp only; omega) ?_))))
    refine bindS (v := Y[(i + j) % Y.length]) (by
      dsimp only
      rw [w64 (by omega), ← Int.natCast_add, ← Int.ofNat_tmod]
      exact getI_lt hm) ?_
    refine bindS (SpanTells_p ⟨Y[i], Y[j]⟩ ⟨Y[k], Y[(i + j) % Y.length]⟩ Y ⟨ok hi, ok hj, trivial⟩ ⟨ok hk, ok hm, trivial⟩ hY) (condF rfl ?_)
    refine bindS (getI_lt hk) (bindS (getI_lt hi) (bindS (getI_lt hi) (bindS (getI_lt hj) (bindS (getI_lt hj) ?_))))
    refine bindS (SpanParts_q _ (by simp) (fun s hs => ?_)) (condF rfl ?_)
    · simp only [List.mem_cons, List.not_mem_nil, or_false] at hs
      rcases hs with rfl | rfl | rfl
      · exact ⟨ok hk, ok hi⟩
      · exact ⟨ok hi, ok hj⟩
      · exact ⟨ok hj, ok0⟩
    refine bindS (getI_lt hi) (bindS (getI_lt hi) (bindS (getI_lt hj) (bindS (getI_lt hj) ?_)))
    refine bindS (SpanParts_q _ (by simp) (fun s hs => ?_)) (condF rfl ?_)
    · simp only [List.mem_cons, List.not_mem_nil, or_false] at hs
      rcases hs with rfl | rfl | rfl
      · exact ⟨ok0, ok hi⟩
      · exact ⟨ok hi, ok hj⟩
      · exact ⟨ok hj, ok0⟩
    dsimp only
    rw [w64 (by omega)]
    rfl
  · unfold watershedlaw04_SpanEnds_l3
    exact condF (dF (by dsimp only; omega)) rfl
theorem endsB {i : Nat} (hi : i < Y.length) : loopM watershedlaw04_SpanEnds_l2 ((Y, (i : Int), 0, ()), ((), ())) = some (.inr ((Y, (i : Int), ()), ((), (), ()))) := by
  refine loopM_run (step := watershedlaw04_SpanEnds_l2) (fun j : Nat => ((Y, (i : Int), (j : Int), ()), ((), ()))) (N := Y.length) (fun j hj => ?_) ?_
  · unfold watershedlaw04_SpanEnds_l2
    refine condT (dT (by dsimp only; omega)) (bindS (endsC hY hn hi hj) ?_)
    dsimp only
    rw [w64 (by omega)]
    rfl
  · unfold watershedlaw04_SpanEnds_l2
    exact condF (dF (by dsimp only; omega)) rfl
theorem endsA : loopM watershedlaw04_SpanEnds_l1 ((Y, 0, ()), ((), ())) = some (.inr ((), ((), ()))) := by
  refine loopM_run (step := watershedlaw04_SpanEnds_l1) (fun j : Nat => ((Y, (j : Int), ()), ((), ()))) (N := Y.length) (fun j hj => ?_) ?_
  · unfold watershedlaw04_SpanEnds_l1
    refine condT (dT (by dsimp only; omega)) (bindS (endsB hY hn hj) ?_)
    dsimp only
    rw [w64 (by omega)]
    rfl
  · unfold watershedlaw04_SpanEnds_l1
    exact condF (dF (by dsimp only; omega)) rfl
end
theorem SpanEnds_p : watershedlaw04_SpanEnds = some (true, ()) := by
  have ok0 : OkSp ⟨[], []⟩ := ⟨by simp [OkT], by simp [OkT]⟩
  unfold watershedlaw04_SpanEnds
  refine bindS awake_p (condF rfl ?_)
  dsimp only
  refine bindS (endsA ⟨by simp, fun x hx => ?_, by simp⟩ (by simp)) ?_
  · simp only [List.mem_cons, List.not_mem_nil, or_false] at hx
    rcases hx with rfl | rfl | rfl | rfl | rfl | rfl | rfl | rfl | rfl | rfl | rfl | rfl <;> simp [ok_ListUInt8]
  refine bindS (SpanParts_q [] (by simp) (by simp)) (condT rfl ?_)
  refine bindS (SpanParts_q _ (by simp) (fun s hs => ?_)) (condT rfl ?_)
  · simp only [List.mem_cons, List.not_mem_nil, or_false] at hs
    rw [hs]; exact ok0
  refine bindS (SpanParts_q _ (by simp) (fun s hs => ?_)) rfl
  simp only [List.mem_cons, List.not_mem_nil, or_false] at hs
  rcases hs with rfl | rfl <;> exact ok0
end Go.Proofs.Ytfgcknjlncognaa
