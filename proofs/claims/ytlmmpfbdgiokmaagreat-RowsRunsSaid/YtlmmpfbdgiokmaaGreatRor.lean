/- Deeds, tables, plainly (written by plain15r.py). -/
import Derived.Test.YtlmmpfbdgiokmaaGreatLlr
import Derived.Test.YtlmmpfbdgiokmaaGreatRkr
import Derived.Test.YtlmmpfbdgiokmaaGreatG2
namespace Go.Proofs.YtlmmpfbdgiokmaaGreat
open Go.RowKit
set_option maxRecDepth 100000
set_option linter.unusedVariables false
set_option linter.unusedSimpArgs false
def wgt : List DRow → Nat
  | [] => 0
  | r :: l => 1 + r.key.length / 8 + r.value.length / 8 + wgt l
theorem wgt_snoc : ∀ (l : List DRow) (r : DRow), wgt (l ++ [r]) = wgt l + (1 + r.key.length / 8 + r.value.length / 8)
  | [], r => by simp [wgt]
  | x :: l, r => by
    have := wgt_snoc l r
    simp only [List.cons_append, wgt, this]; omega
theorem wgt_len : ∀ l : List DRow, l.length ≤ wgt l
  | [] => Nat.le_refl _
  | r :: l => by have := wgt_len l; simp only [List.length_cons, wgt]; omega
theorem wgt_mem : ∀ {l : List DRow} {r : DRow}, r ∈ l → r.key.length ≤ 8 * wgt l ∧ r.value.length ≤ 8 * wgt l
  | x :: l, r, h => by
    rcases List.mem_cons.1 h with rfl | h
    · simp only [wgt]; omega
    · have := wgt_mem h
      simp only [wgt]; omega
theorem refRight_r {x : DRow} (hx : OkT x.key) : watershedref15_Right x = some (rightR x, ()) := by
  unfold watershedref15_Right rightR
  refine bindS (refKey_p hx) ?_
  cases keyB x.key with
  | true =>
    refine condT rfl ?_
    have : decide ((x.value.length : Int) ≤ 20) = decide (x.value.length ≤ 20) := by
      by_cases h : x.value.length ≤ 20
      · rw [dT h, dT (by omega)]
      · rw [dF h, dF (by omega)]
    rw [this]; rfl
  | false => exact condF rfl rfl
theorem LinesOf_q {l : List DRow} (hl : l.length ≤ 140737488355328) (hx : ∀ r ∈ l, OkT r.key ∧ OkT r.value) : ∃ n : Int, watershedkit_LinesOf l 1200 = some (n, ()) ∧ (n ≤ 1200 → wgt l ≤ 1200) ∧ 0 ≤ n ∧ n ≤ 35184372090033 := by
  have key : ∃ z, loopM watershedkit_LinesOf_l1 ((l, 1200, 0, 0, ()), ()) = some z ∧ ∃ n : Int, z = ((n, ()), ()) ∧ (n ≤ 1200 → wgt l ≤ 1200) ∧ 0 ≤ n ∧ n ≤ 35184372090033 := by
    refine loopM_spec (fun m a => ∃ i : Nat, a = ((l, 1200, ((wgt (l.take i) : Nat) : Int), (i : Int), ()), ()) ∧ i ≤ l.length ∧ wgt (l.take i) ≤ 1200 + 2 * 17592186044416 + 1 ∧ m = l.length - i) _ ?_ (n := l.length) ⟨0, by simp [wgt], Nat.zero_le _, by simp [wgt], rfl⟩
    rintro m a ⟨i, rfl, h1, h2, rfl⟩
    unfold watershedkit_LinesOf_l1
    by_cases hi : i < l.length
    · by_cases hn : wgt (l.take i) ≤ 1200
      · left
        have h3 := hx _ (List.getElem_mem hi)
        unfold OkT at h3
        have hs := wgt_snoc (l.take i) l[i]
        rw [← List.take_succ_eq_append_getElem hi] at hs
        have d1 : IntKind.i64.wrap ((l[i].key.length : Int).tdiv 8) = ((l[i].key.length / 8 : Nat) : Int) := by
          rw [Int.tdiv_eq_ediv_of_nonneg (by omega), w64 (by omega)]; omega
        have d2 : IntKind.i64.wrap ((l[i].value.length : Int).tdiv 8) = ((l[i].value.length / 8 : Nat) : Int) := by
          rw [Int.tdiv_eq_ediv_of_nonneg (by omega), w64 (by omega)]; omega
        refine ⟨l.length - (i + 1), _, by omega, condT (dT (by dsimp only; omega)) (condT (dT (by dsimp only; omega)) (bindS (getI_lt hi) (bindS (getI_lt hi) rfl))), i + 1, ?_, by omega, by omega, rfl⟩
        dsimp only
        rw [d1, d2, w64 (n := ((wgt (l.take i) : Nat) : Int) + 1) (by omega), w64 (n := ((wgt (l.take i) : Nat) : Int) + 1 + _) (by omega), w64 (n := ((wgt (l.take i) : Nat) : Int) + 1 + _ + _) (by omega), w64 (n := (i : Int) + 1) (by omega), hs]
        congr 3
        have : (((wgt (l.take i) + (1 + l[i].key.length / 8 + l[i].value.length / 8) : Nat)) : Int) = ((wgt (l.take i) : Nat) : Int) + 1 + ((l[i].key.length / 8 : Nat) : Int) + ((l[i].value.length / 8 : Nat) : Int) := by omega
        rw [this]
        rfl
      · right
        exact ⟨_, condT (dT (by dsimp only; omega)) (condF (dF (by dsimp only; omega)) rfl), _, rfl, by dsimp only; omega, by dsimp only; omega, by dsimp only; omega⟩
    · right
      obtain rfl : i = l.length := by omega
      refine ⟨_, condF (dF (by dsimp only; omega)) rfl, _, rfl, fun h => ?_, by dsimp only; omega, by dsimp only; omega⟩
      dsimp only at h
      rw [List.take_length] at h
      omega
  obtain ⟨z, hz, n, rfl, hn⟩ := key
  exact ⟨n, by unfold watershedkit_LinesOf; exact bindS hz rfl, hn⟩
theorem light_p {l : List DDeed} (hl : l.length ≤ 140737488355328) (hx : ∀ d ∈ l, OkSp d.span ∧ d.rows.length ≤ 140737488355328 ∧ ∀ r ∈ d.rows, OkT r.key ∧ OkT r.value) : ∃ b, watershedlaw15_light l = some (b, ()) ∧ (b = true → l.length ≤ 60 ∧ ∀ d ∈ l, wgt d.rows ≤ 1200) := by
  have key : ∃ z, loopM watershedlaw15_light_l1 ((l, (l.length : Int), 0, ()), ()) = some z ∧ ∃ n : Int, z = ((l, n, ()), ()) ∧ (n ≤ 1200 → ∀ d ∈ l, wgt d.rows ≤ 1200) := by
    refine loopM_spec (fun m a => ∃ (i : Nat) (n : Int), a = ((l, n, (i : Int), ()), ()) ∧ i ≤ l.length ∧ 0 ≤ n ∧ n ≤ 300000000000000 ∧ (n ≤ 1200 → ∀ d ∈ l.take i, wgt d.rows ≤ 1200) ∧ m = l.length - i) _ ?_ (n := l.length) ⟨0, _, rfl, Nat.zero_le _, by omega, by omega, fun _ d hd => by simp at hd, rfl⟩
    rintro m a ⟨i, n, rfl, h1, h2, h3, h4, rfl⟩
    unfold watershedlaw15_light_l1
    by_cases hi : i < l.length
    · by_cases hn : n ≤ 1200
      · left
        obtain ⟨⟨q1, q2⟩, q3, q4⟩ := hx _ (List.getElem_mem hi)
        unfold OkT at q1 q2
        obtain ⟨k, k1, k2, k3, k4⟩ := LinesOf_q q3 q4
        have d1 : IntKind.i64.wrap ((l[i].span.lo.length : Int).tdiv 8) = ((l[i].span.lo.length / 8 : Nat) : Int) := by
          rw [Int.tdiv_eq_ediv_of_nonneg (by omega), w64 (by omega)]; omega
        have d2 : IntKind.i64.wrap ((l[i].span.hi.length : Int).tdiv 8) = ((l[i].span.hi.length / 8 : Nat) : Int) := by
          rw [Int.tdiv_eq_ediv_of_nonneg (by omega), w64 (by omega)]; omega
        refine ⟨l.length - (i + 1), _, by omega, condT (dT (by dsimp only; omega)) (condT (dT hn) (bindS (getI_lt hi) (bindS (getI_lt hi) (bindS (getI_lt hi) (bindS k1 rfl))))), i + 1, n + k + ((l[i].span.lo.length / 8 : Nat) : Int) + ((l[i].span.hi.length / 8 : Nat) : Int), ?_, by omega, by omega, by omega, fun h d hd => ?_, rfl⟩
        · dsimp only
          rw [d1, d2, w64 (n := n + k) (by omega), w64 (n := n + k + _) (by omega), w64 (n := n + k + _ + _) (by omega), w64 (n := (i : Int) + 1) (by omega)]
          rfl
        · rw [List.take_succ_eq_append_getElem hi] at hd
          rcases List.mem_append.1 hd with hd | hd
          · exact h4 hn d hd
          · rw [List.mem_singleton.1 hd]
            exact k2 (by omega)
      · right
        exact ⟨_, condT (dT (by dsimp only; omega)) (condF (dF hn) rfl), _, rfl, fun h => absurd h hn⟩
    · right
      obtain rfl : i = l.length := by omega
      rw [List.take_length] at h4
      exact ⟨_, condF (dF (by dsimp only; omega)) rfl, _, rfl, h4⟩
  obtain ⟨z, hz, n, rfl, hn⟩ := key
  unfold watershedlaw15_light
  by_cases h : n ≤ 1200
  · refine ⟨decide ((l.length : Int) ≤ 60), bindS hz (condT (dT h) rfl), fun hb => ⟨?_, hn h⟩⟩
    have := of_decide_eq_true hb
    omega
  · exact ⟨false, bindS hz (condF (dF h) rfl), fun hb => by cases hb⟩
theorem Pick_p (k n : Int) (hn : 1 ≤ n) : ∃ v, watershedkit_Pick k n = some (v, ()) := by
  unfold watershedkit_Pick
  by_cases h : (k.tmod n) < 0
  · exact ⟨_, condF (dF (by omega)) (iteF (by omega) (condT (dT h) rfl))⟩
  · exact ⟨_, condF (dF (by omega)) (iteF (by omega) (condF (dF h) rfl))⟩
def TabOk (L : List DRow) : Prop := srt L ∧ L.length ≤ 400 ∧ ∀ r ∈ L, rightR r = true
theorem in_all {L : List DRow} (h : ∀ r ∈ L, rightR r = true) : inF ⟨[], []⟩ L = L := by
  unfold inF
  refine List.filter_eq_self.2 fun r hr => ?_
  unfold hasB
  rw [rightR_key (h r hr)]
  have : ¬ r.key < [] := by simp
  simp [rightB, this]
theorem Get_p {k : Tx} {l : List DRow} (hs : srt l) (hl : l.length ≤ 400) : ∃ v, rows_Get k (l.length, true, ()) l = some ((v, fnd k l, ()), ((l.length, true, ()), l, ())) ∧ ∀ r ∈ l, r.key = k → fnd k l = true ∧ v = r.value := by
  have huniq : ∀ (h : fnd k l = true), ∀ r ∈ l, r.key = k → r = l[lb k l]'(fnd_get h).1 := by
    intro h r hr hk
    obtain ⟨h1, h2⟩ := fnd_get h
    obtain ⟨i, hi, hri⟩ := List.getElem_of_mem hr
    have hii : i = lb k l := by
      rcases Nat.lt_trichotomy i (lb k l) with h3 | h3 | h3
      · have := List.pairwise_iff_getElem.1 hs i (lb k l) hi h1 h3
        rw [hri, hk, h2] at this
        exact absurd this (ltT _)
      · exact h3
      · have := List.pairwise_iff_getElem.1 hs (lb k l) i h1 hi h3
        rw [hri, hk, h2] at this
        exact absurd this (ltT _)
    subst hii
    exact hri.symm
  have hex : ∀ r ∈ l, r.key = k → fnd k l = true := by
    intro r hr hk
    obtain ⟨i, hi, hri⟩ := List.getElem_of_mem hr
    have h1 : ¬ i < lb k l := fun h2 => by
      have := (lb_get hs hi).2 h2
      rw [hri, hk] at this
      exact ltT _ this
    have hlt : lb k l < l.length := by omega
    unfold fnd
    rw [List.getElem?_eq_getElem hlt]
    simp only [decide_eq_true_eq]
    rcases Nat.lt_or_ge (lb k l) i with h4 | h4
    · have h5 := List.pairwise_iff_getElem.1 hs (lb k l) i hlt hi h4
      rw [hri, hk] at h5
      exact absurd ((lb_get hs hlt).1 h5) (Nat.lt_irrefl _)
    · obtain rfl : i = lb k l := by omega
      rw [hri, hk]
  unfold rows_Get
  cases h : fnd k l with
  | false =>
    have ha := at2_p (k := k) hs (by omega : l.length ≤ 140737488355328)
    rw [h] at ha
    exact ⟨[], bindS (v := (true, ((l.length, true, ()), l, ()))) rfl (condF rfl (bindS ha (condT rfl rfl))), fun r hr hk => by rw [hex r hr hk] at h; cases h⟩
  | true =>
    have ha := at2_p (k := k) hs (by omega : l.length ≤ 140737488355328)
    rw [h] at ha
    obtain ⟨h1, h2⟩ := fnd_get h
    have hg : l[0 + ((lb k l : Nat) : Int).toNat]? = some l[lb k l] := by rw [Nat.zero_add, Int.toNat_natCast, List.getElem?_eq_getElem h1]
    exact ⟨l[lb k l].value, bindS (v := (true, ((l.length, true, ()), l, ()))) rfl (condF rfl (bindS ha (condF rfl (iteT (by dsimp only; omega) (bindS hg rfl))))), fun r hr hk => ⟨rfl, by rw [huniq h r hr hk]⟩⟩
theorem fnd_mem {k : Tx} {l : List DRow} (h : fnd k l = true) : ∃ r ∈ l, r.key = k := by
  obtain ⟨h1, h2⟩ := fnd_get h
  exact ⟨_, List.getElem_mem h1, h2⟩
theorem srt_uniq {L : List DRow} (hs : srt L) {a b : DRow} (ha : a ∈ L) (hb : b ∈ L) (hk : a.key = b.key) : a = b := by
  obtain ⟨i, hi, rfl⟩ := List.getElem_of_mem ha
  obtain ⟨j, hj, rfl⟩ := List.getElem_of_mem hb
  rcases Nat.lt_trichotomy i j with h | h | h
  · have := List.pairwise_iff_getElem.1 hs i j hi hj h
    rw [hk] at this; exact absurd this (ltT _)
  · subst h; rfl
  · have := List.pairwise_iff_getElem.1 hs j i hj hi h
    rw [hk] at this; exact absurd this (ltT _)
theorem Many_p {L : List DRow} : rows_Many (L.length, true, ()) L = some (((L.length : Nat) : Int), ((L.length, true, ()), L, ())) := by
  unfold rows_Many
  exact bindS (v := (true, ((L.length, true, ()), L, ()))) rfl (condF rfl rfl)
end Go.Proofs.YtlmmpfbdgiokmaaGreat
