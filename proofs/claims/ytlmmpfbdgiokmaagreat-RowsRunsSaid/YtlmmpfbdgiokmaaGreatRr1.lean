/- The reference of chapter 15, plainly. -/
import Derived.Test.YtlmmpfbdgiokmaaGreatRor
namespace Go.Proofs.YtlmmpfbdgiokmaaGreat
open Go.RowKit
set_option maxRecDepth 100000
set_option linter.unusedVariables false
set_option linter.unusedSimpArgs false
theorem refRight4_p {s : DSpan} (h : OkSp s) : watershedref04_Right s = some (rightB s, ()) := by
  unfold watershedref04_Right rightB
  rw [refKey_p h.1, refKey_p h.2]
  simp only [Option.bind_some]
  by_cases h1 : s.lo = [] <;> by_cases h2 : s.hi = [] <;> cases keyB s.lo <;> cases keyB s.hi <;> simp [h1, h2]
theorem refHas_p {s : DSpan} {k : Tx} (h : OkSp s) (hk : OkT k) : watershedref04_Has s k = some (hasB s k, ()) := by
  unfold watershedref04_Has hasB
  rw [refRight4_p h, refKey_p hk]
  simp only [Option.bind_some]
  have h1 : (decide (s.lo < k) || decide (s.lo = k)) = !decide (k < s.lo) := by
    by_cases h2 : k < s.lo
    · have h3 := ltAs h2
      have h4 : ¬ s.lo = k := fun e => by rw [e] at h2; exact ltT _ h2
      simp [h2, h3, h4]
    · by_cases h4 : s.lo = k
      · simp [h4, ltT]
      · have := ltTri h2 (fun e => h4 e.symm)
        simp [h2, this]
  rw [h1]
  cases rightB s <;> cases keyB k <;> cases decide (k < s.lo) <;> by_cases h2 : s.hi = [] <;> simp [h2]
theorem inF_snoc (s : DSpan) (l : List DRow) (r : DRow) : inF s (l ++ [r]) = inF s l ++ (if hasB s r.key = true then [r] else []) := by
  unfold inF
  rw [List.filter_append]
  congr 1
  cases h : hasB s r.key <;> simp [h]
theorem outF_snoc (s : DSpan) (l : List DRow) (r : DRow) : outF s (l ++ [r]) = outF s l ++ (if hasB s r.key = true then [] else [r]) := by
  unfold outF
  rw [List.filter_append]
  congr 1
  cases h : hasB s r.key <;> simp [h]
theorem inF_len (s : DSpan) (l : List DRow) : (inF s l).length ≤ l.length := List.length_filter_le _ _
theorem outF_len (s : DSpan) (l : List DRow) : (outF s l).length ≤ l.length := List.length_filter_le _ _
theorem refIn_p {s : DSpan} {L : List DRow} (hL : L.length ≤ 100000) (ho : OkSp s) (hk : ∀ r ∈ L, OkT r.key) : watershedref15_In_2 s ⟨L⟩ = some (inF s L, (⟨L⟩, (), ())) := by
  unfold watershedref15_In_2
  refine bindS (v := ((inF s L, ()), ((⟨L⟩ : DRows), s, (), (), ()))) ?_ rfl
  refine loopM_run (step := watershedref15_In_2_l1) (fun i : Nat => (((), (), inF s (L.take i), (i : Int), ()), ((⟨L⟩ : DRows), s, (), ()))) (N := L.length) (fun i hi => ?_) ?_
  · have hl := inF_len s (L.take i)
    rw [List.length_take] at hl
    unfold watershedref15_In_2_l1
    refine condT (dT (by dsimp only; omega)) (bindS (getI_lt hi) (bindS (refHas_p ho (hk _ (List.getElem_mem hi))) ?_))
    dsimp only
    rw [List.take_succ_eq_append_getElem hi, inF_snoc, w64 (by omega)]
    cases hb : hasB s L[i].key
    · refine condF rfl ?_
      simp
    · refine condT rfl (bindS (getI_lt hi) (iteT (by simp only [List.length_singleton]; omega) ?_))
      rfl
  · unfold watershedref15_In_2_l1
    refine condF (dF (by dsimp only; omega)) ?_
    dsimp only
    rw [List.take_length]
theorem refTake_p {s : DSpan} {L : List DRow} (hL : L.length ≤ 100000) (ho : OkSp s) (hk : ∀ r ∈ L, OkT r.key) : watershedref15_Take_2 s ⟨L⟩ = some (inF s L, ((outF s L, ()), (), (), ())) := by
  unfold watershedref15_Take_2
  refine bindS (refIn_p hL ho hk) (bindS (v := (((), inF s L, outF s L, ()), ((⟨L⟩ : DRows), s, (), (), (), (), ()))) ?_ rfl)
  refine loopM_run (step := watershedref15_Take_2_l1) (fun i : Nat => (((), (), inF s L, outF s (L.take i), (i : Int), ()), ((⟨L⟩ : DRows), s, (), (), ()))) (N := L.length) (fun i hi => ?_) ?_
  · have hl := outF_len s (L.take i)
    rw [List.length_take] at hl
    unfold watershedref15_Take_2_l1
    refine condT (dT (by dsimp only; omega)) (bindS (getI_lt hi) (bindS (refHas_p ho (hk _ (List.getElem_mem hi))) ?_))
    dsimp only
    rw [List.take_succ_eq_append_getElem hi, outF_snoc, w64 (by omega)]
    cases hb : hasB s L[i].key
    · refine condT rfl (bindS (getI_lt hi) (iteT (by simp only [List.length_singleton]; omega) ?_))
      rfl
    · refine condF rfl ?_
      simp
  · unfold watershedref15_Take_2_l1
    refine condF (dF (by dsimp only; omega)) ?_
    dsimp only
    rw [List.take_length]
theorem Get_no {k : Tx} {l : List DRow} (hs : srt l) (hl : l.length ≤ 400) (h : fnd k l = false) : rows_Get k (l.length, true, ()) l = some (([], false, ()), ((l.length, true, ()), l, ())) := by
  have ha := at2_p (k := k) hs (by omega : l.length ≤ 140737488355328)
  rw [h] at ha
  unfold rows_Get
  exact bindS (v := (true, ((l.length, true, ()), l, ()))) rfl (condF rfl (bindS ha (condT rfl rfl)))
/-- Both tell the same of a key. -/
theorem Get_both {k : Tx} {l : List DRow} (hs : srt l) (hl : l.length ≤ 400) : ∃ v b, rows_Get k (l.length, true, ()) l = some ((v, b, ()), ((l.length, true, ()), l, ())) ∧ watershedref15_Get k ⟨l⟩ = some ((v, b, ()), ((⟨l⟩ : DRows), ())) := by
  obtain ⟨v, h1, h2⟩ := Get_p (k := k) hs hl
  have key : ∃ z, loopM watershedref15_Get_l1 (((), k, 0, ()), ((⟨l⟩ : DRows), ())) = some z ∧ ((z = .inl ((v, true, ()), ((⟨l⟩ : DRows), ())) ∧ fnd k l = true) ∨ (z = .inr ((), ((⟨l⟩ : DRows), ())) ∧ ∀ r ∈ l, r.key ≠ k)) := by
    refine loopM_spec (fun m a => ∃ i : Nat, a = (((), k, (i : Int), ()), ((⟨l⟩ : DRows), ())) ∧ i ≤ l.length ∧ (∀ r ∈ l.take i, r.key ≠ k) ∧ m = l.length - i) _ ?_ (n := l.length) ⟨0, rfl, Nat.zero_le _, (fun r hr => by simp at hr), rfl⟩
    rintro m a ⟨i, rfl, g1, g2, rfl⟩
    unfold watershedref15_Get_l1
    by_cases hi : i < l.length
    · by_cases he : l[i].key = k
      · right
        obtain ⟨q1, q2⟩ := h2 _ (List.getElem_mem hi) he
        refine ⟨_, condT (dT (by dsimp only; omega)) (bindS (getI_lt hi) (condT (dT he) (bindS (getI_lt hi) rfl))), .inl ⟨?_, q1⟩⟩
        rw [q2]
      · left
        refine ⟨l.length - (i + 1), _, by omega, condT (dT (by dsimp only; omega)) (bindS (getI_lt hi) (condF (dF he) rfl)), i + 1, ?_, by omega, fun r hr => ?_, rfl⟩
        · dsimp only
          rw [w64 (by omega)]
          rfl
        · rw [List.take_succ_eq_append_getElem hi] at hr
          rcases List.mem_append.1 hr with hr | hr
          · exact g2 r hr
          · rw [List.mem_singleton.1 hr]; exact he
    · right
      obtain rfl : i = l.length := by omega
      rw [List.take_length] at g2
      exact ⟨_, condF (dF (by dsimp only; omega)) rfl, .inr ⟨rfl, g2⟩⟩
  obtain ⟨z, hz, ⟨rfl, hf⟩ | ⟨rfl, hf⟩⟩ := key
  · refine ⟨v, true, by rw [h1, hf], ?_⟩
    unfold watershedref15_Get
    exact bindS hz rfl
  · have hn : fnd k l = false := by
      cases h : fnd k l
      · rfl
      · obtain ⟨r, hr, hk⟩ := fnd_mem h
        exact absurd hk (hf r hr)
    refine ⟨[], false, Get_no hs hl hn, ?_⟩
    unfold watershedref15_Get
    exact bindS hz rfl
theorem putLoop_p {x : DRow} {L : List DRow} (hs : srt L) (hl : L.length ≤ 100000) : loopM watershedref15_put_l1 ((L, (), 0, ()), (x, ())) = some ((L, (), ((lb x.key L : Nat) : Int), ()), (x, ())) := by
  have hle := lb_le x.key L
  refine loopM_run (step := watershedref15_put_l1) (fun i : Nat => ((L, (), (i : Int), ()), (x, ()))) (N := lb x.key L) (fun i hi => ?_) ?_
  · have hi2 : i < L.length := by omega
    unfold watershedref15_put_l1
    refine condT (dT (by dsimp only; omega)) (bindS (getI_lt hi2) (condT (dT ((lb_get hs hi2).2 hi)) ?_))
    dsimp only
    rw [w64 (by omega)]
    rfl
  · unfold watershedref15_put_l1
    by_cases hi : lb x.key L < L.length
    · exact condT (dT (by dsimp only; omega)) (bindS (getI_lt hi) (condF (dF (fun h => absurd ((lb_get hs hi).1 h) (Nat.lt_irrefl _))) rfl))
    · exact condF (dF (by dsimp only; omega)) rfl
set_option maxHeartbeats 2000000 in
theorem refPut1_p {x : DRow} {L : List DRow} (hs : srt L) (hl : L.length ≤ 100000) : watershedref15_put_n L x = some (putL x L, ()) := by
  have hle := lb_le x.key L
  have ht : (L.take (lb x.key L)).length = lb x.key L := by rw [List.length_take]; omega
  have hd : (L.drop (lb x.key L)).length = L.length - lb x.key L := by rw [List.length_drop]
  unfold watershedref15_put_n watershedref15_put
  rw [putLoop_p hs hl]
  generalize hB : lb x.key L = B at hle ht hd
  have hdt : (L.drop B).take (L.length - B) = L.drop B := List.take_of_length_le (by omega)
  simp only [Option.bind_some, Nat.zero_add, List.drop_nil, List.take_nil, List.nil_append, List.append_nil, List.drop_zero, List.length_nil, Int.toNat_zero, Nat.sub_zero, Int.toNat_natCast, List.take_zero, List.length_singleton, ht, hdt, hd]
  have hput : putL x L = if fnd x.key L = true then L.set B x else L.take B ++ [x] ++ L.drop B := by unfold putL; rw [hB]
  rw [hput]
  have tail : ∀ n : Nat, n = B + 1 + (L.length - B) → ∀ z : List DRow, z = L.take B ++ [x] ++ L.drop B → ((some (n, (z, ())) : Option (Nat × (List DRow × Unit))).bind fun r => if r.1 ≤ r.2.1.length then some (r.2.1.take r.1, ()) else none) = some (L.take B ++ [x] ++ L.drop B, ()) := fun n hn z hz => by
    subst hz
    have hzl : (L.take B ++ [x] ++ L.drop B).length = n := by simp only [List.length_append, ht, hd, List.length_singleton]; omega
    rw [Option.bind_some, if_pos (by rw [hzl]; exact Nat.le_refl _), ← hzl, List.take_length]
  have t1 : List.take B (List.take B L) = List.take B L := by rw [List.take_take, Nat.min_self]
  have t2 : (List.take B L ++ [x]).length = B + 1 := by rw [List.length_append, ht, List.length_singleton]
  have t3 : List.take (B + 1) (List.take B L ++ [x]) = List.take B L ++ [x] := by rw [← t2, List.take_length]
  simp only [t1, t2, t3]
  have none_ : fnd x.key L = false → (if fnd x.key L = true then L.set B x else L.take B ++ [x] ++ L.drop B) = L.take B ++ [x] ++ L.drop B := fun h => by rw [h, if_neg Bool.false_ne_true]
  by_cases hlt : B < L.length
  · rw [decide_eq_true (by omega : (B : Int) < (L.length : Int)), cond_true, getI_lt hlt, Option.bind_some]
    have hf : fnd x.key L = decide (L[B].key = x.key) := by
      unfold fnd
      rw [hB, List.getElem?_eq_getElem hlt]
    by_cases hk : L[B].key = x.key
    · rw [decide_eq_true hk] at hf
      rw [hf, if_pos rfl, decide_eq_true hk, cond_true, if_pos (by omega), if_neg (by omega), if_pos (by omega), List.getElem?_eq_getElem hlt, Option.bind_some, Option.bind_some, if_pos (by simp), List.take_of_length_le (by simp)]
    · rw [decide_eq_false hk] at hf
      rw [none_ hf, decide_eq_false hk, cond_false, if_pos (by omega), if_pos (by omega)]
      by_cases hB0 : B ≤ 0
      · rw [if_pos hB0, if_pos (by omega), if_pos (by omega), if_neg (by omega), if_pos (by omega)]
        exact tail _ rfl _ rfl
      · rw [if_neg hB0, if_pos (by omega), if_pos (by omega), if_pos (by omega)]
        exact tail _ rfl _ rfl
  · have hf : fnd x.key L = false := by
      unfold fnd
      rw [hB, List.getElem?_eq_none (by omega)]
    rw [decide_eq_false (by omega : ¬ (B : Int) < (L.length : Int)), cond_false, none_ hf, if_pos (by omega), if_pos (by omega)]
    by_cases hB0 : B ≤ 0
    · rw [if_pos hB0, if_pos (by omega), if_pos (by omega), if_neg (by omega), if_pos (by omega)]
      exact tail _ rfl _ rfl
    · rw [if_neg hB0, if_pos (by omega), if_pos (by omega), if_pos (by omega)]
      exact tail _ rfl _ rfl
/-- Put of the reference: the same as of the program. -/
theorem refPut_p {xs L : List DRow} (hs : srt L) (hl : L.length ≤ 400) (hx : ∀ x ∈ xs, OkT x.key) (hn : xs.length ≤ 50000) : watershedref15_Put_2 xs ⟨L⟩ = some ((putF xs L).1, (⟨(putF xs L).2⟩, ())) := by
  have key : ∃ z, loopM watershedref15_Put_2_l1 (((), xs, L, 0, ()), ((⟨L⟩ : DRows), ())) = some z ∧ ((z = .inl ((2, ()), ((⟨L⟩ : DRows), ())) ∧ xs.all rightR = false) ∨ (z = .inr (((), xs, L, ()), ((⟨L⟩ : DRows), ())) ∧ xs.all rightR = true)) := by
    refine loopM_spec (fun m a => ∃ i : Nat, a = (((), xs, L, (i : Int), ()), ((⟨L⟩ : DRows), ())) ∧ i ≤ xs.length ∧ (xs.take i).all rightR = true ∧ m = xs.length - i) _ ?_ (n := xs.length) ⟨0, rfl, Nat.zero_le _, rfl, rfl⟩
    rintro m a ⟨i, rfl, g1, g2, rfl⟩
    unfold watershedref15_Put_2_l1
    by_cases hi : i < xs.length
    · have hr := refRight_r (hx _ (List.getElem_mem hi))
      cases hb : rightR xs[i]
      · right
        rw [hb] at hr
        refine ⟨_, condT (dT (by dsimp only; omega)) (bindS (getI_lt hi) (bindS hr (condT rfl rfl))), .inl ⟨rfl, ?_⟩⟩
        cases ha : xs.all rightR
        · rfl
        · have := List.all_eq_true.1 ha _ (List.getElem_mem hi)
          rw [hb] at this; cases this
      · left
        rw [hb] at hr
        refine ⟨xs.length - (i + 1), _, by omega, condT (dT (by dsimp only; omega)) (bindS (getI_lt hi) (bindS hr (condF rfl rfl))), i + 1, ?_, by omega, ?_, rfl⟩
        · dsimp only
          rw [w64 (by omega)]
          rfl
        · rw [List.take_succ_eq_append_getElem hi, List.all_append, g2]
          simp [hb]
    · right
      obtain rfl : i = xs.length := by omega
      rw [List.take_length] at g2
      exact ⟨_, condF (dF (by dsimp only; omega)) rfl, .inr ⟨rfl, g2⟩⟩
  unfold watershedref15_Put_2 putF
  obtain ⟨z, hz, ⟨rfl, ha⟩ | ⟨rfl, ha⟩⟩ := key
  · rw [ha, if_neg Bool.false_ne_true]
    exact bindS hz rfl
  · rw [ha, if_pos rfl]
    refine bindS hz ?_
    refine bindS (v := (((), putAll xs L, ()), ((⟨L⟩ : DRows), ()))) ?_ ?_
    · refine loopM_run (step := watershedref15_Put_2_l2) (fun i : Nat => (((), xs, putAll (xs.take i) L, (i : Int), ()), ((⟨L⟩ : DRows), ()))) (N := xs.length) (fun i hi => ?_) ?_
      · have h1 := putAll_len (xs.take i) L
        rw [List.length_take] at h1
        unfold watershedref15_Put_2_l2
        refine condT (dT (by dsimp only; omega)) (bindS (getI_lt hi) (bindS (refPut1_p (L := putAll (xs.take i) L) (putAll_srt (xs.take i) hs) (by omega)) ?_))
        dsimp only
        rw [List.take_succ_eq_append_getElem hi, putAll_snoc, w64 (by omega)]
        rfl
      · unfold watershedref15_Put_2_l2
        refine condF (dF (by dsimp only; omega)) ?_
        dsimp only
        rw [List.take_length]
    · by_cases hc : 400 < (putAll xs L).length
      · rw [if_pos hc]
        exact condT (dT (by dsimp only; omega)) rfl
      · rw [if_neg hc]
        exact condF (dF (by dsimp only; omega)) rfl
end Go.Proofs.YtlmmpfbdgiokmaaGreat
