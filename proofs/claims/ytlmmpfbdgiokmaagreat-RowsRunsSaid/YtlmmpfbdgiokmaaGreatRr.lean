/- RowsRuns, plainly. -/
import Derived.Test.YtlmmpfbdgiokmaaGreatRr1
namespace Go.Proofs.YtlmmpfbdgiokmaaGreat
open Go.RowKit
set_option maxRecDepth 100000
set_option linter.unusedVariables false
set_option linter.unusedSimpArgs false
theorem okAll : OkSp ⟨[], []⟩ := ⟨Nat.zero_le _, Nat.zero_le _⟩
theorem PickR (k : Int) {n : Nat} (hn : 1 ≤ n) (hm : n ≤ 1000000) : ∃ v : Nat, watershedkit_Pick k (n : Int) = some ((v : Int), ()) ∧ v < n := by
  unfold watershedkit_Pick
  by_cases h : (k.tmod n) < 0
  · have h1 := Int.lt_tmod_of_pos k (by omega : (0 : Int) < (n : Int))
    refine ⟨(k.tmod n + n).toNat, condF (dF (by omega)) (iteF (by omega) (condT (dT h) ?_)), by omega⟩
    rw [w64 (by omega), Int.toNat_of_nonneg (by omega)]
  · have h1 := Int.tmod_lt_of_pos k (by omega : (0 : Int) < (n : Int))
    refine ⟨(k.tmod n).toNat, condF (dF (by omega)) (iteF (by omega) (condF (dF h) ?_)), by omega⟩
    rw [Int.toNat_of_nonneg (by omega)]
theorem TabOk.keys {L : List DRow} (h : TabOk L) : ∀ r ∈ L, OkT r.key := fun r hr => by
  have := (rightR_ok (h.2.2 r hr)).1
  unfold OkT
  omega
theorem same_p {L : List DRow} (h : TabOk L) : watershedlaw15_same (L.length, true, ()) ⟨L⟩ L = some (true, ((L.length, true, ()), ⟨L⟩, L, ())) := by
  unfold watershedlaw15_same
  refine bindS Many_p (condT (dT rfl) (bindS (In_p h.1 h.2.1 h.2.2 okAll) ?_))
  have hl := h.2.1
  rw [in_all h.2.2]
  refine bindS (SameLines_p (by dsimp only; omega)) ?_
  dsimp only
  rw [decide_eq_true rfl]
theorem act_p {d : DDeed} {L : List DRow} (h : TabOk L) (ho : OkSp d.span) (hw : d.rows.length ≤ 1200) (hk : ∀ r ∈ d.rows, OkT r.key) : ∃ M, TabOk M ∧ watershedlaw15_act_2 d (L.length, true, ()) ⟨L⟩ L = some (true, ((M.length, true, ()), ⟨M⟩, (), M, ())) := by
  obtain ⟨v, hv, _⟩ := PickR d.kind (n := 5) (by omega) (by omega)
  have hl := h.2.1
  unfold watershedlaw15_act_2
  by_cases h3 : v = 3
  · refine ⟨L, h, bindS hv (condT (dT (by dsimp only; omega)) (bindS (In_p h.1 h.2.1 h.2.2 ho) (bindS (refIn_p (by omega) ho h.keys) ?_)))⟩
    have := inF_len d.span L
    refine bindS (SameLines_p (by dsimp only; omega)) ?_
    dsimp only
    rw [decide_eq_true rfl]
  by_cases h4 : v = 4
  · refine ⟨outF d.span L, outF_ok h.1 h.2.1 h.2.2, bindS hv (condF (dF (by dsimp only; omega)) (condT (dT (by dsimp only; omega)) (bindS (Take_p h.1 h.2.1 h.2.2 ho) (bindS (refTake_p (by omega) ho h.keys) ?_))))⟩
    have := inF_len d.span L
    refine bindS (SameLines_p (by dsimp only; omega)) ?_
    dsimp only
    rw [decide_eq_true rfl]
  · refine ⟨(putF d.rows L).2, putF_ok h.1 h.2.1 h.2.2, bindS hv (condF (dF (by dsimp only; omega)) (condF (dF (by dsimp only; omega)) (bindS (Lent_p hw) (bindS (Put_p (xs := d.rows) h.1 h.2.1 hk (by omega)) (bindS (refPut_p (xs := d.rows) h.1 h.2.1 hk (by omega)) (condT (dT rfl) (bindS (Kept_p hw) rfl)))))))⟩
theorem Copy_p {L : List DRow} (hl : L.length ≤ 400) : rows_Copy (L.length, true, ()) L = some ((), ((L.length, true, ()), L, (L.length, true, ()), L, ())) := by
  unfold rows_Copy
  refine bindS (v := (true, ((L.length, true, ()), L, ()))) rfl (condF rfl (bindS (v := (L.length, (L, L, ()))) ?_ rfl))
  unfold cloneEz26
  dsimp only
  rw [List.take_length]
  exact iteT (by omega) rfl
theorem CopyL_p {L : List DRow} (hl : L.length ≤ 400) : watershedkit_CopyLines L = some (L, ((), ())) := by
  unfold watershedkit_CopyLines
  exact iteT (by omega) rfl
theorem In2_p {s : DSpan} {l : List DRow} (hs : srt l) (hl : l.length ≤ 400) (hr : ∀ r ∈ l, rightR r = true) (ho : OkSp s) : rows_In_2 s (l.length, true, ()) l = some ((inF s l).length, ((l.length, true, ()), l, inF s l, ())) := by
  obtain ⟨b1, b2⟩ := bounds_le (s := s) (l := l)
  have hc := cut_in (s := s) hs hr
  unfold rows_In_2
  refine bindS (v := (true, ((l.length, true, ()), l, ()))) rfl (condF rfl (bindS (bounds_p hs hl ho) (iteT (by dsimp only; omega) (bindS (v := ((inF s l).length, (l, inF s l, ()))) ?_ rfl))))
  unfold cloneEu26
  dsimp only
  rw [Nat.zero_add, Int.toNat_natCast, Int.toNat_natCast, hc]
  have hlen : (inF s l).length ≤ 400 := Nat.le_trans (List.length_filter_le _ _) hl
  exact iteT (by omega) rfl
/-- Deeds that are gone through. -/
def OkD (l : List DDeed) : Prop := l.length ≤ 60 ∧ ∀ d ∈ l, OkSp d.span ∧ d.rows.length ≤ 1200 ∧ ∀ r ∈ d.rows, OkT r.key
theorem loop1_p {l : List DDeed} (hl : OkD l) (x2 : List DDeed) (x3 : List Tx) {k : Nat} (hk : k ≤ l.length) : ∃ L M, TabOk L ∧ TabOk M ∧ loopM watershedlaw15_RowsRuns_l1s (.inl ((l, x2, x3, (), (), (k : Int), (), (), 0, ()), ((0, true, ()), (⟨[]⟩ : DRows), ([], ()), [], (), ()))) = some (.inr ((x2, x3, (), (), (), (), ()), ((L.length, true, ()), (⟨L⟩ : DRows), (M, ()), (), (), (M.length, true, ()), L, (), M, ()))) := by
  have hl60 := hl.1
  have key : ∃ z, loopM watershedlaw15_RowsRuns_l1s (.inl ((l, x2, x3, (), (), (k : Int), (), (), 0, ()), ((0, true, ()), (⟨[]⟩ : DRows), ([], ()), [], (), ()))) = some z ∧ ∃ L M, TabOk L ∧ TabOk M ∧ z = .inr ((x2, x3, (), (), (), (), ()), ((L.length, true, ()), (⟨L⟩ : DRows), (M, ()), (), (), (M.length, true, ()), L, (), M, ())) := by
    refine loopM_spec (fun m a => (∃ (i : Nat) (L : List DRow), TabOk L ∧ i ≤ k ∧ m = l.length + 2 - i ∧ a = .inl ((l, x2, x3, (), (), (k : Int), (), (), (i : Int), ()), ((L.length, true, ()), (⟨L⟩ : DRows), ([], ()), L, (), ()))) ∨
      (∃ (i : Nat) (L M : List DRow), TabOk L ∧ TabOk M ∧ k < i ∧ i ≤ l.length + 1 ∧ m = l.length + 2 - i ∧ a = .inr ((l, x2, x3, (), (), (k : Int), (), (), (i : Int), ()), ((L.length, true, ()), (⟨L⟩ : DRows), (M, ()), (M.length, true, ()), L, (), M, ())))) _ ?_ (n := l.length + 2) (.inl ⟨0, [], ⟨.nil, Nat.zero_le _, fun r hr => by cases hr⟩, Nat.zero_le _, rfl, rfl⟩)
    rintro m a (⟨i, L, hL, hik, rfl, rfl⟩ | ⟨i, L, M, hL, hM, hik, hil, rfl, rfl⟩)
    · left
      have hL4 := hL.2.1
      unfold watershedlaw15_RowsRuns_l1s
      dsimp only
      unfold watershedlaw15_RowsRuns_l1
      by_cases hi : i < l.length
      · obtain ⟨o1, o2, o3⟩ := hl.2 _ (List.getElem_mem hi)
        obtain ⟨L', hL', ha⟩ := act_p hL o1 o2 o3
        have hs := same_p hL'
        by_cases he : i = k
        · refine ⟨l.length + 2 - (i + 1), _, by omega, condT (dT (by dsimp only; omega)) (condT (dT (by dsimp only; omega)) (bindS (Copy_p hL4) (bindS (CopyL_p hL4) (condT (dT (by dsimp only; omega)) (bindS (getI_lt hi) (bindS ha (condF rfl (bindS hs (condF rfl rfl))))))))), .inr ⟨i + 1, L', L, hL', hL, by omega, by omega, rfl, ?_⟩⟩
          dsimp only
          rw [w64 (by omega)]
          rfl
        · refine ⟨l.length + 2 - (i + 1), _, by omega, condT (dT (by dsimp only; omega)) (condF (dF (by dsimp only; omega)) (condT (dT (by dsimp only; omega)) (bindS (getI_lt hi) (bindS ha (condF rfl (bindS hs (condF rfl rfl))))))), .inl ⟨i + 1, L', hL', by omega, rfl, ?_⟩⟩
          dsimp only
          rw [w64 (by omega)]
          rfl
      · have he : i = k := by omega
        refine ⟨l.length + 2 - (i + 1), _, by omega, condT (dT (by dsimp only; omega)) (condT (dT (by dsimp only; omega)) (bindS (Copy_p hL4) (bindS (CopyL_p hL4) (condF (dF (by dsimp only; omega)) rfl)))), .inr ⟨i + 1, L, L, hL, hL, by omega, by omega, rfl, ?_⟩⟩
        dsimp only
        rw [w64 (by omega)]
        rfl
    · unfold watershedlaw15_RowsRuns_l1s
      dsimp only
      unfold watershedlaw15_RowsRuns_l1b
      by_cases hi : i < l.length
      · left
        obtain ⟨o1, o2, o3⟩ := hl.2 _ (List.getElem_mem hi)
        obtain ⟨L', hL', ha⟩ := act_p hL o1 o2 o3
        have hs := same_p hL'
        refine ⟨l.length + 2 - (i + 1), _, by omega, condT (dT (by dsimp only; omega)) (condF (dF (by dsimp only; omega)) (condT (dT (by dsimp only; omega)) (bindS (getI_lt hi) (bindS ha (condF rfl (bindS hs (condF rfl rfl))))))), .inr ⟨i + 1, L', M, hL', hM, by omega, by omega, rfl, ?_⟩⟩
        dsimp only
        rw [w64 (by omega)]
        rfl
      · by_cases he : i = l.length
        · left
          refine ⟨l.length + 2 - (i + 1), _, by omega, condT (dT (by dsimp only; omega)) (condF (dF (by dsimp only; omega)) (condF (dF (by dsimp only; omega)) rfl)), .inr ⟨i + 1, L, M, hL, hM, by omega, by omega, rfl, ?_⟩⟩
          dsimp only
          rw [w64 (by omega)]
          rfl
        · right
          exact ⟨_, condF (dF (by dsimp only; omega)) rfl, L, M, hL, hM, rfl⟩
  obtain ⟨z, hz, L, M, hL, hM, rfl⟩ := key
  exact ⟨L, M, hL, hM, hz⟩
theorem loop2_p {l : List DDeed} (hl : OkD l) (x3 : List Tx) {L M0 : List DRow} (hM0 : TabOk M0) : ∃ M, TabOk M ∧ loopM watershedlaw15_RowsRuns_l2 ((l, x3, (), (), (), (), 0, ()), ((L.length, true, ()), (⟨L⟩ : DRows), (M0.length, true, ()), (⟨M0⟩ : DRows), L, M0, ())) = some (.inr ((x3, (), (), (), (), ()), ((L.length, true, ()), (⟨L⟩ : DRows), (M.length, true, ()), (⟨M⟩ : DRows), (), (), L, M, ()))) := by
  have hl60 := hl.1
  have key : ∃ z, loopM watershedlaw15_RowsRuns_l2 ((l, x3, (), (), (), (), 0, ()), ((L.length, true, ()), (⟨L⟩ : DRows), (M0.length, true, ()), (⟨M0⟩ : DRows), L, M0, ())) = some z ∧ ∃ M, TabOk M ∧ z = .inr ((x3, (), (), (), (), ()), ((L.length, true, ()), (⟨L⟩ : DRows), (M.length, true, ()), (⟨M⟩ : DRows), (), (), L, M, ())) := by
    refine loopM_spec (fun m a => ∃ (i : Nat) (M : List DRow), TabOk M ∧ i ≤ l.length ∧ m = l.length - i ∧ a = ((l, x3, (), (), (), (), (i : Int), ()), ((L.length, true, ()), (⟨L⟩ : DRows), (M.length, true, ()), (⟨M⟩ : DRows), L, M, ()))) _ ?_ (n := l.length) ⟨0, M0, hM0, Nat.zero_le _, rfl, rfl⟩
    rintro m a ⟨i, M, hM, hil, rfl, rfl⟩
    unfold watershedlaw15_RowsRuns_l2
    by_cases hi : i < l.length
    · left
      obtain ⟨o1, o2, o3⟩ := hl.2 _ (List.getElem_mem hi)
      obtain ⟨M', hM', ha⟩ := act_p hM o1 o2 o3
      have hs := same_p hM'
      refine ⟨l.length - (i + 1), _, by omega, condT (dT (by dsimp only; omega)) (bindS (getI_lt hi) (bindS ha (condF rfl (bindS hs (condF rfl rfl))))), i + 1, M', hM', by omega, rfl, ?_⟩
      dsimp only
      rw [w64 (by omega)]
      rfl
    · right
      exact ⟨_, condF (dF (by dsimp only; omega)) rfl, M, hM, rfl⟩
  obtain ⟨z, hz, M, hM, rfl⟩ := key
  exact ⟨M, hM, hz⟩
theorem loop3_p {x3 : List Tx} (h3 : x3.length ≤ 200) {L M : List DRow} (hL : TabOk L) : loopM watershedlaw15_RowsRuns_l3 ((x3, (), (), (), (), 0, ()), ((L.length, true, ()), (⟨L⟩ : DRows), (M.length, true, ()), (⟨M⟩ : DRows), L, M, ())) = some (.inr (((), (), (), (), ()), ((L.length, true, ()), (⟨L⟩ : DRows), (M.length, true, ()), (⟨M⟩ : DRows), (), (), L, M, ()))) := by
  refine loopM_eq_of (fun m a => ∃ (i : Nat), i ≤ x3.length ∧ m = x3.length - i ∧ a = ((x3, (), (), (), (), (i : Int), ()), ((L.length, true, ()), (⟨L⟩ : DRows), (M.length, true, ()), (⟨M⟩ : DRows), L, M, ()))) _ ?_ (n := x3.length) ⟨0, Nat.zero_le _, rfl, rfl⟩
  rintro m a ⟨i, hil, rfl, rfl⟩
  unfold watershedlaw15_RowsRuns_l3
  by_cases hi : i < x3.length
  · left
    obtain ⟨v, b, g1, g2⟩ := Get_both (k := x3[i]) hL.1 hL.2.1
    refine ⟨x3.length - (i + 1), _, by omega, condT (dT (by dsimp only; omega)) (bindS (getI_lt hi) (bindS g1 (bindS (getI_lt hi) (bindS g2 (condF (dF (by simp)) (condF (dF (by simp)) rfl)))))), i + 1, by omega, rfl, ?_⟩
    dsimp only
    rw [w64 (by omega)]
    rfl
  · right
    exact condF (dF (by dsimp only; omega)) rfl
theorem RowsRuns_p (x0 : List DDeed) (x1 : Int) (x2 : List DDeed) (x3 : List Tx) (k0 : ok_LDDeed x0) (k1 : ok_Ii64 x1) (k2 : ok_LDDeed x2) (k3 : ok_LListUInt8 x3) : watershedlaw15_RowsRuns x0 x1 x2 x3 = some (true, ()) := by
  have hd : ∀ {l : List DDeed}, ok_LDDeed l → ∀ d ∈ l, OkSp d.span ∧ d.rows.length ≤ 140737488355328 ∧ ∀ r ∈ d.rows, OkT r.key ∧ OkT r.value := fun k d h => by
    obtain ⟨_, q1, q2, _⟩ := k.all d h
    exact ⟨OkSp.of q2, q1.len, fun r hr => ⟨(q1.all r hr).1, (q1.all r hr).2.1⟩⟩
  have ok : ∀ {l : List DDeed}, ok_LDDeed l → l.length ≤ 60 ∧ (∀ d ∈ l, wgt d.rows ≤ 1200) → OkD l := fun k h => ⟨h.1, fun d h2 => ⟨(hd k d h2).1, Nat.le_trans (wgt_len _) (h.2 d h2), fun r hr => ((hd k d h2).2.2 r hr).1⟩⟩
  obtain ⟨b0, e0, f0⟩ := light_p k0.len (hd k0)
  obtain ⟨b2, e2, f2⟩ := light_p k2.len (hd k2)
  unfold watershedlaw15_RowsRuns
  refine bindS e0 ?_
  cases b0 with
  | false => exact condT rfl (bindS awake_p rfl)
  | true =>
  refine condF rfl (bindS e2 ?_)
  cases b2 with
  | false => exact condT rfl (bindS awake_p rfl)
  | true =>
  by_cases h3 : (200 : Int) < (x3.length : Int)
  · exact condF rfl (condT (dT h3) (bindS awake_p rfl))
  have h0 := ok k0 (f0 rfl)
  have h2 := ok k2 (f2 rfl)
  have hl60 := h0.1
  obtain ⟨k, hk, hkl⟩ := PickR x1 (n := x0.length + 1) (by omega) (by omega)
  have hw : IntKind.i64.wrap ((x0.length : Int) + 1) = ((x0.length + 1 : Nat) : Int) := by rw [w64 (by omega)]; omega
  obtain ⟨L, M, hL, hM, hl1⟩ := loop1_p h0 x2 x3 (k := k) (by omega)
  obtain ⟨M', hM', hl2⟩ := loop2_p h2 x3 (L := L) hM
  have hl3 := loop3_p (x3 := x3) (by omega) (M := M') hL
  have hin := In2_p hL.1 hL.2.1 hL.2.2 okAll
  have hL4 := hL.2.1
  rw [in_all hL.2.2] at hin
  have hap : apartLines (L.length, L.length, ()) L L = some (true, ((), (), ())) := by
    unfold apartLines
    exact if_pos ⟨Nat.le_refl _, Nat.le_refl _, by dsimp only; omega, by dsimp only; omega⟩
  refine condF rfl (condF (dF h3) (bindS rfl (bindS (by rw [hw]; exact hk) ?_)))
  refine bindS hl1 ?_
  refine bindS hl2 ?_
  refine bindS hl3 ?_
  exact bindS (same_p hL) (condT rfl (bindS (same_p hM') (condT rfl (bindS hin (bindS hin (bindS hap (condT rfl (bindS (same_p hL) (condT rfl (bindS awake_p rfl))))))))))
end Go.Proofs.YtlmmpfbdgiokmaaGreat
