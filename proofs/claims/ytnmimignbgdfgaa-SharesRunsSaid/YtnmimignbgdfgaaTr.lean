/- Turn and its reference tell the same; SharesRuns, plainly. -/
import Derived.Test.YtnmimignbgdfgaaTq
namespace Go.Proofs.Ytnmimignbgdfgaa
open Go.RowKit
set_option maxRecDepth 100000
set_option linter.unusedVariables false
set_option linter.unusedSimpArgs false
theorem turnPieces {g e : Int} {s : DShares} {a : DSpan} {x y : DShare} {out : List DShare} {i : Nat} {P : List DSpan} (hP : P.length ≤ 1000) (ho : out.length ≤ 1000) :
    loopM watershedref05_Turn_l2 ((g, (), (), (), (), (), (i : Int), (), P.length, 0, ()), (s, a, (0, [], ()), x, (e, out, ()), y, P, (), (), ())) = some ((g, (), (), (), (), (), (i : Int), ()), (s, a, (0, [], ()), x, (e, out ++ P.map (pieceF y a g e), ()), y, (), (), (), (), (), ())) := by
  have h0 : out = out ++ (P.take 0).map (pieceF y a g e) := by simp
  have hrun := loopM_run (step := watershedref05_Turn_l2) (fun k : Nat => ((g, (), (), (), (), (), (i : Int), (), P.length, (k : Int), ()), (s, a, (0, [], ()), x, (e, out ++ (P.take k).map (pieceF y a g e), ()), y, P, (), (), ()))) (N := P.length) (b := ((g, (), (), (), (), (), (i : Int), ()), (s, a, (0, [], ()), x, (e, out ++ P.map (pieceF y a g e), ()), y, (), (), (), (), (), ()))) (fun k hk => ?_) ?_
  · simpa using hrun
  · have hg : P[0 + ((k : Int)).toNat]? = some P[k] := by rw [Nat.zero_add, Int.toNat_natCast, List.getElem?_eq_getElem hk]
    have hn : (out ++ (P.take k).map (pieceF y a g e)).length ≤ 2000 := by simp only [List.length_append, List.length_map, List.length_take]; omega
    have hs : out ++ (P.take (k + 1)).map (pieceF y a g e) = out ++ (P.take k).map (pieceF y a g e) ++ [pieceF y a g e P[k]] := by
      rw [List.take_succ_eq_append_getElem hk, List.map_append, List.append_assoc]; rfl
    unfold watershedref05_Turn_l2
    refine condT (dT (by dsimp only; omega)) (iteT (by dsimp only; omega) (bindS hg (iteT (by dsimp only; omega) (bindS hg ?_))))
    rw [hs]
    unfold pieceF
    cases hc : (decide (P[k].lo = a.lo) && (decide (P[k].hi = a.hi) && true))
    · refine condF rfl (iteT ?_ ?_)
      · change (out ++ (P.take k).map (pieceF y a g e)).length + 1 ≤ _ ∧ ((out ++ (P.take k).map (pieceF y a g e)).length + 1) * 48 ≤ _
        omega
      · dsimp only
        rw [w64 (by omega)]
        rfl
    · refine condT rfl (iteT ?_ ?_)
      · change (out ++ (P.take k).map (pieceF y a g e)).length + 1 ≤ _ ∧ ((out ++ (P.take k).map (pieceF y a g e)).length + 1) * 48 ≤ _
        omega
      · dsimp only
        rw [w64 (by omega)]
        rfl
  · unfold watershedref05_Turn_l2
    refine condF (dF (by dsimp only; omega)) ?_
    dsimp only
    rw [List.take_length]
/-- What is there behind the first j shares. -/
def outF (s : DShares) (i : Nat) (a : DSpan) (g e : Int) (j : Nat) : List DShare := if j ≤ i then s.list.take j else s.list.take i ++ partF (s.list[i]?.getD noSh) a g e ++ (s.list.drop (i + 1)).take (j - (i + 1))
theorem turnLoop_p {g : Int} {s : DShares} {a : DSpan} {i : Nat} (h : OkSh s) (hr : rightW s = true) (ha : OkSp a) (hi : i < s.list.length) (hw : withinB a s.list[i].span = true) (e : Int) :
    loopM watershedref05_Turn_l1 ((g, (), (), (), (), (), 0, ()), (s, a, (0, [], ()), s.list[i], (e, [], ()), (), (), ())) = some (((), (), (), ()), (s, a, (0, [], ()), s.list[i], (e, s.list.take i ++ partF s.list[i] a g e ++ s.list.drop (i + 1), ()), (), (), (), (), ())) := by
  have hlen := h.len
  have hxe : s.list[i]?.getD noSh = s.list[i] := by rw [List.getElem?_eq_getElem hi]; rfl
  have hl1 := cutF_len s.list[i].span (at2 a.lo a.hi)
  have hl2 := at2_len a.lo a.hi
  have hpl : (partF s.list[i] a g e).length = (cutF s.list[i].span (at2 a.lo a.hi)).length := by unfold partF; simp
  have hol : ∀ j, (outF s i a g e j).length ≤ 200 := fun j => by
    unfold outF
    split
    · rw [List.length_take]; omega
    · rw [hxe]; simp only [List.length_append, List.length_take, List.length_drop]; omega
  have hrun := loopM_run (step := watershedref05_Turn_l1) (fun j : Nat => ((g, (), (), (), (), (), (j : Int), ()), (s, a, (0, [], ()), s.list[i], (e, outF s i a g e j, ()), (), (), ()))) (N := s.list.length) (b := (((), (), (), ()), (s, a, (0, [], ()), s.list[i], (e, s.list.take i ++ partF s.list[i] a g e ++ s.list.drop (i + 1), ()), (), (), (), (), ()))) (fun j hj => ?_) ?_
  · have h0 : outF s i a g e 0 = [] := by unfold outF; rw [if_pos (Nat.zero_le _)]; rfl
    rw [← hrun]
    show _ = loopM _ ((g, (), (), (), (), (), ((0 : Nat) : Int), ()), (s, a, (0, [], ()), s.list[i], (e, outF s i a g e 0, ()), (), (), ()))
    rw [h0]
    rfl
  · have hoj := hol j
    unfold watershedref05_Turn_l1
    refine condT (dT (by dsimp only; omega)) (bindS (getI_lt hj) ?_)
    by_cases hji : j = i
    · subst hji
      have hon : outF s j a g e (j + 1) = outF s j a g e j ++ (cutF s.list[j].span (at2 a.lo a.hi)).map (pieceF s.list[j] a g e) := by
        unfold outF
        rw [if_neg (by omega), if_pos (Nat.le_refl _), hxe, Nat.sub_self, List.take_zero, List.append_nil]
        rfl
      refine condF (by simp) ?_
      have hcut : watershedref04_Cut s.list[j].span (neF a) = some ((cutF s.list[j].span (at2 a.lo a.hi)).length, (cutF s.list[j].span (at2 a.lo a.hi), ())) := by
        have hrs := (within_right hw).2
        have hnl := neF_len a
        have := refCut_q (at_ := neF a) (h.sp _ (List.getElem_mem hj)) (neF_ok ha) (by omega) hrs
        rw [ins_cut hrs] at this
        exact this
      have hpc := turnPieces (g := g) (e := e) (s := s) (a := a) (x := s.list[j]) (y := s.list[j]) (out := outF s j a g e j) (i := j) (P := cutF s.list[j].span (at2 a.lo a.hi)) (by omega) (by omega)
      have hfin : (some (.inl ((g, (), (), (), (), (), IntKind.i64.wrap ((j : Int) + 1), ()), (s, a, (0, [], ()), s.list[j], (e, outF s j a g e j ++ (cutF s.list[j].span (at2 a.lo a.hi)).map (pieceF s.list[j] a g e), ()), (), (), ()))) : Option ((((Int) × (Unit) × (Unit) × (Unit) × (Unit) × (Unit) × (Int) × Unit) × ((DShares) × (DSpan) × ((Int) × (List (DShare)) × Unit) × (DShare) × ((Int) × (List (DShare)) × Unit) × (Unit) × (Unit) × Unit)) ⊕ ((((Unit) × (Unit) × (Unit) × Unit) × ((DShares) × (DSpan) × ((Int) × (List (DShare)) × Unit) × (DShare) × ((Int) × (List (DShare)) × Unit) × (Unit) × (Unit) × (Unit) × (Unit) × Unit))))) = some (.inl ((g, (), (), (), (), (), ((j + 1 : Nat) : Int), ()), (s, a, (0, [], ()), s.list[j], (e, outF s j a g e (j + 1), ()), (), (), ()))) := by
        rw [w64 (by omega), hon]; rfl
      by_cases q1 : a.lo = []
      · refine condF (dF (fun c => c q1)) ?_
        by_cases q2 : a.hi = []
        · have hne : neF a = [] := by unfold neF; rw [if_pos q1, if_pos q2]; rfl
          rw [hne] at hcut
          exact condF (dF (fun c => c q2)) (bindS hcut (bindS hpc hfin))
        · have hne : neF a = [a.hi] := by unfold neF; rw [if_pos q1, if_neg q2]; rfl
          rw [hne] at hcut
          exact condT (dT q2) (iteT (by simp) (bindS hcut (bindS hpc hfin)))
      · refine condT (dT q1) (iteT (by simp) ?_)
        by_cases q2 : a.hi = []
        · have hne : neF a = [a.lo] := by unfold neF; rw [if_neg q1, if_pos q2]; rfl
          rw [hne] at hcut
          exact condF (dF (fun c => c q2)) (bindS hcut (bindS hpc hfin))
        · have hne : neF a = [a.lo] ++ [a.hi] := by unfold neF; rw [if_neg q1, if_neg q2]
          rw [hne] at hcut
          exact condT (dT q2) (iteT (by simp) (bindS hcut (bindS hpc hfin)))
    · have hne : ¬ s.list[j].span.lo = s.list[i].span.lo := fun c => hji (lo_one hr hi hj c)
      have hon : outF s i a g e (j + 1) = outF s i a g e j ++ [s.list[j]] := by
        unfold outF
        by_cases hlt : j < i
        · rw [if_pos (by omega), if_pos (by omega), List.take_succ_eq_append_getElem hj]
        · rw [if_neg (by omega), if_neg (by omega), hxe, show j + 1 - (i + 1) = (j - (i + 1)) + 1 from by omega, List.take_succ_eq_append_getElem (by rw [List.length_drop]; omega), ← List.append_assoc]
          congr 2
          rw [List.getElem_drop]
          congr 1
          omega
      refine condT (by rw [dF hne]; rfl) (iteT (by dsimp only; simp only [List.length_singleton]; omega) ?_)
      dsimp only
      rw [w64 (by omega), hon]
      rfl
  · unfold watershedref05_Turn_l1
    refine condF (dF (by dsimp only; omega)) ?_
    have : outF s i a g e s.list.length = s.list.take i ++ partF s.list[i] a g e ++ s.list.drop (i + 1) := by
      unfold outF
      rw [if_neg (by omega), hxe, List.take_of_length_le (l := s.list.drop (i + 1)) (by rw [List.length_drop]; omega)]
    dsimp only
    rw [this]
/-- Both tell the same. -/
theorem Both_p {s : DShares} (h : OkSh s) {a : DSpan} (ha : OkSp a) (g : Int) : ∃ t e, shares_Turn s a g = some ((t, e, ()), ()) ∧ watershedref05_Turn s a g = some ((t, e, ()), ()) ∧ (e = 0 → OkSh t) := by
  unfold shares_Turn watershedref05_Turn
  rw [at_in h ha, Option.bind_some, right_p h, Option.bind_some, refR5_p h, Option.bind_some]
  cases hr : rightW s with
  | false => exact ⟨_, _, condT rfl rfl, condT rfl rfl, fun h => by cases h⟩
  | true =>
  simp only [Bool.not_true, cond_false, cond_true]
  rw [Right_p ha, Option.bind_some, refRight_p ha, Option.bind_some]
  cases hra : rightB a with
  | false => exact ⟨_, _, condT rfl rfl, condT rfl rfl, fun h => by cases h⟩
  | true =>
  simp only [Bool.not_true, cond_false]
  rw [within_p, Option.bind_some]
  by_cases hg1 : g < 1
  · exact ⟨_, _, condT (by rw [dF (by omega : ¬ 1 ≤ g)]; rfl) rfl, condT (dT hg1) rfl, fun h => by cases h⟩
  rw [dF hg1, cond_false]
  by_cases hg2 : 4 < g
  · exact ⟨_, _, condT (by rw [dF (by omega : ¬ g ≤ 4), Bool.and_false]; rfl) rfl, condT (dT hg2) rfl, fun h => by cases h⟩
  rw [dF hg2, cond_false]
  have hgb : (!(decide (1 ≤ g) && decide (g ≤ 4))) = false := by rw [dT (by omega : 1 ≤ g), dT (by omega : g ≤ 4)]; rfl
  rw [hgb, cond_false]
  unfold ixF
  by_cases hany : s.list.any (fun x => withinB a x.span) = true
  rotate_left
  · rw [if_neg hany]
    refine ⟨_, _, condT rfl rfl, bindS (refIn_none h ha (by simpa using hany)) (condT rfl rfl), fun h => by cases h⟩
  rw [if_pos hany]
  obtain ⟨hi, hp⟩ := ix_get hany
  have hbefore : ∀ j (hj : j < s.list.length), j < s.list.findIdx (fun x => withinB a x.span) → withinB a s.list[j].span = false := fun j hj hlt => by
    have := List.not_of_lt_findIdx hlt
    simpa using this
  generalize s.list.findIdx (fun x => withinB a x.span) = i at *
  rw [refIn_some h hr ha hi hp hbefore, Option.bind_some]
  rw [dF (by omega : ¬ (i : Int) < 0), cond_false, getI_lt hi, Option.bind_some, Option.bind_some]
  simp only [Bool.not_true, cond_false]
  by_cases hgr : s.list[i].group = g
  · rw [dT hgr, cond_true, cond_true]
    exact ⟨_, _, rfl, rfl, fun h => by cases h⟩
  rw [dF hgr, cond_false, cond_false]
  have hsx : OkSp s.list[i].span := h.sp _ (List.getElem_mem hi)
  have hlen := h.len
  have hc : cloneA27 s.list = some (s.list.length, (s.list, ())) := by
    unfold cloneA27
    exact if_pos (by omega)
  have he : 1 ≤ s.epoch ∧ s.epoch ≤ 1073741824 := by
    unfold rightW at hr
    simp only [Bool.and_eq_true, decide_eq_true_eq] at hr
    exact hr.1
  have hw : IntKind.i64.wrap (s.epoch + 1) = s.epoch + 1 := w64 (by omega)
  have hl1 := cutF_len s.list[i].span (at2 a.lo a.hi)
  have hl2 := at2_len a.lo a.hi
  have hl3 := cutF_ne s.list[i].span (at2 a.lo a.hi)
  have hpl : (partF s.list[i] a g (s.epoch + 1)).length = (cutF s.list[i].span (at2 a.lo a.hi)).length := by unfold partF; simp
  rw [hc, Option.bind_some, hw, parted_p hsx ha (within_right hp).2, Option.bind_some]
  dsimp only
  rw [w64 (by omega)]
  have hrp : replace s.list.length (i : Int) ((i : Int) + 1) (partF s.list[i] a g (s.epoch + 1)) s.list = some (s.list.take i ++ partF s.list[i] a g (s.epoch + 1) ++ s.list.drop (i + 1), ((), (), ())) := by
    unfold replace
    rw [if_pos ⟨rfl, by omega, by omega, by omega, by omega, by omega⟩]
    have : ((i : Int) + 1).toNat = i + 1 := by omega
    rw [this, Int.toNat_natCast]
  rw [hrp, Option.bind_some]
  rw [turnLoop_p h hr ha hi hp, Option.bind_some]
  dsimp only
  by_cases hme : s.epoch = 1073741824
  · rw [dT hme]; simp only [cond_true]
    exact ⟨_, _, rfl, rfl, fun h => by cases h⟩
  rw [dF hme]
  simp only [cond_false]
  have htf : turnF s i a g = ⟨s.epoch + 1, s.list.take i ++ partF s.list[i] a g (s.epoch + 1) ++ s.list.drop (i + 1)⟩ := by
    unfold turnF
    rw [List.getElem?_eq_getElem hi]
    rfl
  by_cases hmx : (40 : Int) < ((s.list.take i ++ partF s.list[i] a g (s.epoch + 1) ++ s.list.drop (i + 1)).length : Int)
  · rw [dT hmx]; simp only [cond_true]
    exact ⟨_, _, rfl, rfl, fun h => by cases h⟩
  · rw [dF hmx]; simp only [cond_false]
    refine ⟨_, _, rfl, rfl, fun _ => ⟨by dsimp only; omega, ?_⟩⟩
    have := turnF_ok (g := g) h.sp ha hi
    rw [htf] at this
    exact this
theorem sameRows_p (l : List DShare) (hl : l.length ≤ 140737488355328) : watershedkit_SameShareRows l l = some (true, ()) := by
  have h : loopM watershedkit_SameShareRows_l1 ((l, l, 0, ()), ()) = some (.inr ((), ())) := by
    refine loopM_run (step := watershedkit_SameShareRows_l1) (fun j : Nat => ((l, l, (j : Int), ()), ())) (N := l.length) (fun j hj => ?_) ?_
    · unfold watershedkit_SameShareRows_l1
      refine condT (dT (by dsimp only; omega)) (bindS (getI_lt hj) (bindS (getI_lt hj) (condF (by simp) ?_)))
      dsimp only
      rw [w64 (by omega)]
      rfl
    · unfold watershedkit_SameShareRows_l1
      exact condF (dF (by dsimp only; omega)) rfl
  unfold watershedkit_SameShareRows
  exact condF (dF (by simp)) (bindS h rfl)
theorem sameSh_p {s : DShares} (h : OkSh s) : watershedkit_SameShares s s = some (true, ()) := by
  have := h.len
  unfold watershedkit_SameShares
  exact condT (dT rfl) (bindS (sameRows_p _ (by omega)) rfl)
theorem First_both (g : Int) : ∃ s, shares_First g = some (s, ()) ∧ watershedref05_First g = some (s, ()) ∧ OkSh s := by
  unfold shares_First watershedref05_First span_All
  rw [within_p, Option.bind_some]
  by_cases h1 : g < 1
  · refine ⟨_, condT (by rw [dF (by omega : ¬ 1 ≤ g)]; rfl) rfl, condT (dT h1) rfl, ⟨by simp, ?_⟩⟩
    simpa using ok0
  · rw [dF h1, cond_false]
    by_cases h2 : 4 < g
    · refine ⟨_, condT (by rw [dF (by omega : ¬ g ≤ 4), Bool.and_false]; rfl) rfl, condT (dT h2) rfl, ⟨by simp, ?_⟩⟩
      simpa using ok0
    · refine ⟨_, condF (by rw [dT (by omega : 1 ≤ g), dT (by omega : g ≤ 4)]; rfl) rfl, condF (dF h2) rfl, ⟨by simp, ?_⟩⟩
      simpa using ok0
theorem SharesRuns_p (x0 : Int) (x1 : List DStep) (k0 : ok_Ii64 x0) (k1 : ok_LDStep x1) : watershedlaw05_SharesRuns x0 x1 = some (true, ()) := by
  unfold watershedlaw05_SharesRuns
  refine bindS awake_p (condF rfl ?_)
  by_cases h6 : (60 : Int) < (x1.length : Int)
  · exact condT (dT h6) rfl
  refine condF (dF h6) ?_
  obtain ⟨s0, f1, f2, f3⟩ := First_both x0
  refine bindS f1 (bindS f2 ?_)
  have key : ∃ z, loopM watershedlaw05_SharesRuns_l1 ((x1, (), (), 0, ()), (s0, s0, ())) = some z ∧ ((∃ s t, z = .inl ((true, ()), (s, t, ()))) ∨ ∃ s t, z = .inr ((), (s, t, ()))) := by
    refine loopM_spec (fun n b => ∃ (i : Nat) (s : DShares), b = ((x1, (), (), (i : Int), ()), (s, s, ())) ∧ i ≤ x1.length ∧ OkSh s ∧ n = x1.length - i) _ ?_ (n := x1.length) ⟨0, s0, rfl, Nat.zero_le _, f3, rfl⟩
    rintro n b ⟨i, s, rfl, g1, hs, rfl⟩
    unfold watershedlaw05_SharesRuns_l1
    by_cases hi : i < x1.length
    · have hk := k1.all _ (List.getElem_mem hi)
      have ha : OkSp x1[i].in_ := .of hk.1
      by_cases hc : (100 : Int) < IntKind.i64.wrap ((x1[i].in_.lo.length : Int) + (x1[i].in_.hi.length : Int))
      · right
        exact ⟨_, condT (dT (by dsimp only; omega)) (bindS (getI_lt hi) (bindS (getI_lt hi) (condT (dT hc) rfl))), .inl ⟨_, _, rfl⟩⟩
      obtain ⟨t, e, b1, b2, b3⟩ := Both_p hs ha x1[i].group
      left
      by_cases he : e = 0
      · refine ⟨x1.length - (i + 1), _, by omega, condT (dT (by dsimp only; omega)) (bindS (getI_lt hi) (bindS (getI_lt hi) (condF (dF hc) (bindS (getI_lt hi) (bindS (getI_lt hi) (bindS b1 (bindS (getI_lt hi) (bindS (getI_lt hi) (bindS b2 (condF (by simp) (condT (dT he) (bindS (sameSh_p (b3 he)) (condF rfl rfl))))))))))))), i + 1, t, ?_, by omega, b3 he, rfl⟩
        dsimp only
        rw [w64 (by omega)]
        rfl
      · refine ⟨x1.length - (i + 1), _, by omega, condT (dT (by dsimp only; omega)) (bindS (getI_lt hi) (bindS (getI_lt hi) (condF (dF hc) (bindS (getI_lt hi) (bindS (getI_lt hi) (bindS b1 (bindS (getI_lt hi) (bindS (getI_lt hi) (bindS b2 (condF (by simp) (condF (dF he) (bindS (sameSh_p hs) (condF rfl rfl))))))))))))), i + 1, s, ?_, by omega, hs, rfl⟩
        dsimp only
        rw [w64 (by omega)]
        rfl
    · right
      exact ⟨_, condF (dF (by dsimp only; omega)) rfl, .inr ⟨_, _, rfl⟩⟩
  obtain ⟨z, hz, ⟨s, t, rfl⟩ | ⟨s, t, rfl⟩⟩ := key
  · exact bindS hz rfl
  · exact bindS hz rfl
end Go.Proofs.Ytnmimignbgdfgaa
