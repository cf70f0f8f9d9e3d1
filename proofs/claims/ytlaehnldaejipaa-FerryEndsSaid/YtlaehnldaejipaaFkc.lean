/- What writes over entries (written by plain13b.py). -/
import Derived.Test.YtlaehnldaejipaaFkb
namespace Go.Proofs.Ytlaehnldaejipaa
open Go.RowKit
set_option maxRecDepth 100000
set_option linter.unusedVariables false
set_option linter.unusedSimpArgs false
/-- The same lengths. -/
def shE (e e2 : DEntryX) : Prop := e2.command.1.length = e.command.1.length ∧ e2.command.2.length = e.command.2.length ∧ e2.config.voters.1.length = e.config.voters.1.length ∧ e2.config.voters.2.length = e.config.voters.2.length ∧ e2.config.old.1.length = e.config.old.1.length ∧ e2.config.old.2.length = e.config.old.2.length ∧ e2.config.learners.1.length = e.config.learners.1.length ∧ e2.config.learners.2.length = e.config.learners.2.length ∧ e2.config.want.1.length = e.config.want.1.length ∧ e2.config.want.2.length = e.config.want.2.length
theorem shE.rfl_ (e : DEntryX) : shE e e := by unfold shE; simp
theorem shE.trans {a b c : DEntryX} (h : shE a b) (h2 : shE b c) : shE a c := by unfold shE at *; omega
/-- Not too long. -/
def smE (e : DEntryX) : Prop := e.command.1.length + e.command.2.length ≤ 2000000 ∧ e.config.voters.1.length + e.config.voters.2.length ≤ 2000000 ∧ e.config.old.1.length + e.config.old.2.length ≤ 2000000 ∧ e.config.learners.1.length + e.config.learners.2.length ≤ 2000000 ∧ e.config.want.1.length + e.config.want.2.length ≤ 2000000
theorem shE.sm {a b : DEntryX} (h : shE a b) (h2 : smE a) : smE b := by unfold shE at h; unfold smE at *; omega
theorem mark2_ex (x : Int) : ∃ t, wk_mark 2 x = some (t, ()) := ⟨_, rfl⟩
theorem cap_ex (n c : Nat) (hn : n ≤ 2000000) : ∃ m : Nat, (if ((IntKind.i64.wrap (((n : Nat) : Int) + 12)) : Int) < ((c : Nat) : Int) then (IntKind.i64.wrap (((n : Nat) : Int) + 12)) else ((c : Nat) : Int)) = (m : Int) ∧ m ≤ c ∧ m ≤ 2000012 := by
  rw [w64 (by omega)]
  by_cases h : (n : Int) + 12 < (c : Int)
  · exact ⟨n + 12, by rw [if_pos h]; rfl, by omega, by omega⟩
  · exact ⟨c, by rw [if_neg h], by omega, by omega⟩
theorem OverBytes_2_p {h : List DEntryX} {k n c : Nat} {e : DEntryX} (hk : h[k]? = some e) (hn : n ≤ 2000000) (hc : c = e.command.1.length + e.command.2.length) : ∃ e2, shE e e2 ∧ wk_OverBytes_2 (k, 0, n, c, ()) h = some ((), (h.set k e2, ())) := by
  obtain ⟨m, hm, hmc, hm2⟩ := cap_ex n c hn
  obtain ⟨hkl, hke⟩ := List.getElem?_eq_some_iff.1 hk
  have key : ∃ z, loopM wk_OverBytes_2_l1 (((k, 0, m, c, ()), 0, ()), (h, ())) = some z ∧ ∃ e2, shE e e2 ∧ z = ((), (h.set k e2, ())) := by
    refine loopM_spec (fun r a => ∃ (i : Nat) (e2 : DEntryX), a = (((k, 0, m, c, ()), (i : Int), ()), (h.set k e2, ())) ∧ i ≤ m ∧ shE e e2 ∧ r = m - i) _ ?_ (n := m) ⟨0, e, by rw [← hke, List.set_getElem_self]; rfl, Nat.zero_le _, shE.rfl_ e, rfl⟩
    rintro r a ⟨i, e2, rfl, g1, g2, rfl⟩
    have hk2 : (h.set k e2)[k]? = some e2 := by simp [hkl]
    unfold wk_OverBytes_2_l1
    by_cases hi : i < m
    · left
      obtain ⟨y, hy⟩ := markByte_ex 2 (i : Int)
      have g3 := g2
      unfold shE at g3
      refine ⟨m - (i + 1), _, by omega, condT (dT (by dsimp only; omega)) (bindS hy (iteT (by dsimp only; omega) (bindS hk2 (iteT (by simp only [List.length_append, Int.toNat_natCast]; omega) (bindS (b8_u _) rfl))))), i + 1, (⟨e2.term_, e2.kind, (((e2.command.1 ++ e2.command.2).set (0 + ((i : Nat) : Int).toNat) y).take e2.command.1.length, ((e2.command.1 ++ e2.command.2).set (0 + ((i : Nat) : Int).toNat) y).drop e2.command.1.length), ⟨e2.config.voters, e2.config.old, e2.config.learners, e2.config.want⟩⟩ : DEntryX), ?_, by omega, ?_, rfl⟩
      · dsimp only
        rw [w64 (by omega), List.set_set]
        rfl
      · refine g2.trans ?_
        unfold shE
        simp
    · right
      exact ⟨_, condF (dF (by dsimp only; omega)) rfl, e2, g2, rfl⟩
  obtain ⟨z, hz, e2, g, rfl⟩ := key
  refine ⟨e2, g, ?_⟩
  unfold wk_OverBytes_2
  dsimp only
  rw [hm]
  refine iteT ⟨by omega, by omega, by omega, .inl rfl⟩ ?_
  refine bindS (v := ((), (h.set k e2, ()))) ?_ rfl
  simpa using hz
theorem OverInts_2_p {h : List DEntryX} {k n c : Nat} {e : DEntryX} (hk : h[k]? = some e) (hn : n ≤ 2000000) (hc : c = e.config.voters.1.length + e.config.voters.2.length) : ∃ e2, shE e e2 ∧ wk_OverInts_2 (k, 0, n, c, ()) h = some ((), (h.set k e2, ())) := by
  obtain ⟨m, hm, hmc, hm2⟩ := cap_ex n c hn
  obtain ⟨hkl, hke⟩ := List.getElem?_eq_some_iff.1 hk
  have key : ∃ z, loopM wk_OverInts_2_l1 (((k, 0, m, c, ()), 0, ()), (h, ())) = some z ∧ ∃ e2, shE e e2 ∧ z = ((), (h.set k e2, ())) := by
    refine loopM_spec (fun r a => ∃ (i : Nat) (e2 : DEntryX), a = (((k, 0, m, c, ()), (i : Int), ()), (h.set k e2, ())) ∧ i ≤ m ∧ shE e e2 ∧ r = m - i) _ ?_ (n := m) ⟨0, e, by rw [← hke, List.set_getElem_self]; rfl, Nat.zero_le _, shE.rfl_ e, rfl⟩
    rintro r a ⟨i, e2, rfl, g1, g2, rfl⟩
    have hk2 : (h.set k e2)[k]? = some e2 := by simp [hkl]
    unfold wk_OverInts_2_l1
    by_cases hi : i < m
    · left
      obtain ⟨y, hy⟩ := mark2_ex (i : Int)
      have g3 := g2
      unfold shE at g3
      refine ⟨m - (i + 1), _, by omega, condT (dT (by dsimp only; omega)) (bindS hy (iteT (by dsimp only; omega) (bindS hk2 (iteT (by simp only [List.length_append, Int.toNat_natCast]; omega) rfl)))), i + 1, (⟨e2.term_, e2.kind, e2.command, ⟨(((e2.config.voters.1 ++ e2.config.voters.2).set (0 + ((i : Nat) : Int).toNat) y).take e2.config.voters.1.length, ((e2.config.voters.1 ++ e2.config.voters.2).set (0 + ((i : Nat) : Int).toNat) y).drop e2.config.voters.1.length), e2.config.old, e2.config.learners, e2.config.want⟩⟩ : DEntryX), ?_, by omega, ?_, rfl⟩
      · dsimp only
        rw [w64 (by omega), List.set_set]
        rfl
      · refine g2.trans ?_
        unfold shE
        simp
    · right
      exact ⟨_, condF (dF (by dsimp only; omega)) rfl, e2, g2, rfl⟩
  obtain ⟨z, hz, e2, g, rfl⟩ := key
  refine ⟨e2, g, ?_⟩
  unfold wk_OverInts_2
  dsimp only
  rw [hm]
  refine iteT ⟨by omega, by omega, by omega, .inl rfl⟩ ?_
  refine bindS (v := ((), (h.set k e2, ()))) ?_ rfl
  simpa using hz
theorem OverInts_3_p {h : List DEntryX} {k n c : Nat} {e : DEntryX} (hk : h[k]? = some e) (hn : n ≤ 2000000) (hc : c = e.config.old.1.length + e.config.old.2.length) : ∃ e2, shE e e2 ∧ wk_OverInts_3 (k, 0, n, c, ()) h = some ((), (h.set k e2, ())) := by
  obtain ⟨m, hm, hmc, hm2⟩ := cap_ex n c hn
  obtain ⟨hkl, hke⟩ := List.getElem?_eq_some_iff.1 hk
  have key : ∃ z, loopM wk_OverInts_3_l1 (((k, 0, m, c, ()), 0, ()), (h, ())) = some z ∧ ∃ e2, shE e e2 ∧ z = ((), (h.set k e2, ())) := by
    refine loopM_spec (fun r a => ∃ (i : Nat) (e2 : DEntryX), a = (((k, 0, m, c, ()), (i : Int), ()), (h.set k e2, ())) ∧ i ≤ m ∧ shE e e2 ∧ r = m - i) _ ?_ (n := m) ⟨0, e, by rw [← hke, List.set_getElem_self]; rfl, Nat.zero_le _, shE.rfl_ e, rfl⟩
    rintro r a ⟨i, e2, rfl, g1, g2, rfl⟩
    have hk2 : (h.set k e2)[k]? = some e2 := by simp [hkl]
    unfold wk_OverInts_3_l1
    by_cases hi : i < m
    · left
      obtain ⟨y, hy⟩ := mark2_ex (i : Int)
      have g3 := g2
      unfold shE at g3
      refine ⟨m - (i + 1), _, by omega, condT (dT (by dsimp only; omega)) (bindS hy (iteT (by dsimp only; omega) (bindS hk2 (iteT (by simp only [List.length_append, Int.toNat_natCast]; omega) rfl)))), i + 1, (⟨e2.term_, e2.kind, e2.command, ⟨e2.config.voters, (((e2.config.old.1 ++ e2.config.old.2).set (0 + ((i : Nat) : Int).toNat) y).take e2.config.old.1.length, ((e2.config.old.1 ++ e2.config.old.2).set (0 + ((i : Nat) : Int).toNat) y).drop e2.config.old.1.length), e2.config.learners, e2.config.want⟩⟩ : DEntryX), ?_, by omega, ?_, rfl⟩
      · dsimp only
        rw [w64 (by omega), List.set_set]
        rfl
      · refine g2.trans ?_
        unfold shE
        simp
    · right
      exact ⟨_, condF (dF (by dsimp only; omega)) rfl, e2, g2, rfl⟩
  obtain ⟨z, hz, e2, g, rfl⟩ := key
  refine ⟨e2, g, ?_⟩
  unfold wk_OverInts_3
  dsimp only
  rw [hm]
  refine iteT ⟨by omega, by omega, by omega, .inl rfl⟩ ?_
  refine bindS (v := ((), (h.set k e2, ()))) ?_ rfl
  simpa using hz
theorem OverInts_4_p {h : List DEntryX} {k n c : Nat} {e : DEntryX} (hk : h[k]? = some e) (hn : n ≤ 2000000) (hc : c = e.config.learners.1.length + e.config.learners.2.length) : ∃ e2, shE e e2 ∧ wk_OverInts_4 (k, 0, n, c, ()) h = some ((), (h.set k e2, ())) := by
  obtain ⟨m, hm, hmc, hm2⟩ := cap_ex n c hn
  obtain ⟨hkl, hke⟩ := List.getElem?_eq_some_iff.1 hk
  have key : ∃ z, loopM wk_OverInts_4_l1 (((k, 0, m, c, ()), 0, ()), (h, ())) = some z ∧ ∃ e2, shE e e2 ∧ z = ((), (h.set k e2, ())) := by
    refine loopM_spec (fun r a => ∃ (i : Nat) (e2 : DEntryX), a = (((k, 0, m, c, ()), (i : Int), ()), (h.set k e2, ())) ∧ i ≤ m ∧ shE e e2 ∧ r = m - i) _ ?_ (n := m) ⟨0, e, by rw [← hke, List.set_getElem_self]; rfl, Nat.zero_le _, shE.rfl_ e, rfl⟩
    rintro r a ⟨i, e2, rfl, g1, g2, rfl⟩
    have hk2 : (h.set k e2)[k]? = some e2 := by simp [hkl]
    unfold wk_OverInts_4_l1
    by_cases hi : i < m
    · left
      obtain ⟨y, hy⟩ := mark2_ex (i : Int)
      have g3 := g2
      unfold shE at g3
      refine ⟨m - (i + 1), _, by omega, condT (dT (by dsimp only; omega)) (bindS hy (iteT (by dsimp only; omega) (bindS hk2 (iteT (by simp only [List.length_append, Int.toNat_natCast]; omega) rfl)))), i + 1, (⟨e2.term_, e2.kind, e2.command, ⟨e2.config.voters, e2.config.old, (((e2.config.learners.1 ++ e2.config.learners.2).set (0 + ((i : Nat) : Int).toNat) y).take e2.config.learners.1.length, ((e2.config.learners.1 ++ e2.config.learners.2).set (0 + ((i : Nat) : Int).toNat) y).drop e2.config.learners.1.length), e2.config.want⟩⟩ : DEntryX), ?_, by omega, ?_, rfl⟩
      · dsimp only
        rw [w64 (by omega), List.set_set]
        rfl
      · refine g2.trans ?_
        unfold shE
        simp
    · right
      exact ⟨_, condF (dF (by dsimp only; omega)) rfl, e2, g2, rfl⟩
  obtain ⟨z, hz, e2, g, rfl⟩ := key
  refine ⟨e2, g, ?_⟩
  unfold wk_OverInts_4
  dsimp only
  rw [hm]
  refine iteT ⟨by omega, by omega, by omega, .inl rfl⟩ ?_
  refine bindS (v := ((), (h.set k e2, ()))) ?_ rfl
  simpa using hz
theorem OverInts_5_p {h : List DEntryX} {k n c : Nat} {e : DEntryX} (hk : h[k]? = some e) (hn : n ≤ 2000000) (hc : c = e.config.want.1.length + e.config.want.2.length) : ∃ e2, shE e e2 ∧ wk_OverInts_5 (k, 0, n, c, ()) h = some ((), (h.set k e2, ())) := by
  obtain ⟨m, hm, hmc, hm2⟩ := cap_ex n c hn
  obtain ⟨hkl, hke⟩ := List.getElem?_eq_some_iff.1 hk
  have key : ∃ z, loopM wk_OverInts_5_l1 (((k, 0, m, c, ()), 0, ()), (h, ())) = some z ∧ ∃ e2, shE e e2 ∧ z = ((), (h.set k e2, ())) := by
    refine loopM_spec (fun r a => ∃ (i : Nat) (e2 : DEntryX), a = (((k, 0, m, c, ()), (i : Int), ()), (h.set k e2, ())) ∧ i ≤ m ∧ shE e e2 ∧ r = m - i) _ ?_ (n := m) ⟨0, e, by rw [← hke, List.set_getElem_self]; rfl, Nat.zero_le _, shE.rfl_ e, rfl⟩
    rintro r a ⟨i, e2, rfl, g1, g2, rfl⟩
    have hk2 : (h.set k e2)[k]? = some e2 := by simp [hkl]
    unfold wk_OverInts_5_l1
    by_cases hi : i < m
    · left
      obtain ⟨y, hy⟩ := mark2_ex (i : Int)
      have g3 := g2
      unfold shE at g3
      refine ⟨m - (i + 1), _, by omega, condT (dT (by dsimp only; omega)) (bindS hy (iteT (by dsimp only; omega) (bindS hk2 (iteT (by simp only [List.length_append, Int.toNat_natCast]; omega) rfl)))), i + 1, (⟨e2.term_, e2.kind, e2.command, ⟨e2.config.voters, e2.config.old, e2.config.learners, (((e2.config.want.1 ++ e2.config.want.2).set (0 + ((i : Nat) : Int).toNat) y).take e2.config.want.1.length, ((e2.config.want.1 ++ e2.config.want.2).set (0 + ((i : Nat) : Int).toNat) y).drop e2.config.want.1.length)⟩⟩ : DEntryX), ?_, by omega, ?_, rfl⟩
      · dsimp only
        rw [w64 (by omega), List.set_set]
        rfl
      · refine g2.trans ?_
        unfold shE
        simp
    · right
      exact ⟨_, condF (dF (by dsimp only; omega)) rfl, e2, g2, rfl⟩
  obtain ⟨z, hz, e2, g, rfl⟩ := key
  refine ⟨e2, g, ?_⟩
  unfold wk_OverInts_5
  dsimp only
  rw [hm]
  refine iteT ⟨by omega, by omega, by omega, .inl rfl⟩ ?_
  refine bindS (v := ((), (h.set k e2, ()))) ?_ rfl
  simpa using hz
theorem OverInts_6_p {h : List Int} {n c : Nat} (hn : n ≤ 2000000) (hc : c = h.length) : ∃ h2, wk_OverInts_6 (0, n, c) h = some ((), (h2, ())) := by
  obtain ⟨m, hm, hmc, hm2⟩ := cap_ex n c hn
  have key : ∃ z, loopM wk_OverInts_6_l1 (((0, m, c), 0, ()), (h, ())) = some z ∧ ∃ h2, z = ((), (h2, ())) := by
    refine loopM_spec (fun r a => ∃ (i : Nat) (h2 : List Int), a = (((0, m, c), (i : Int), ()), (h2, ())) ∧ i ≤ m ∧ h2.length = c ∧ r = m - i) _ ?_ (n := m) ⟨0, h, rfl, Nat.zero_le _, hc.symm, rfl⟩
    rintro r a ⟨i, h2, rfl, g1, g2, rfl⟩
    unfold wk_OverInts_6_l1
    by_cases hi : i < m
    · left
      obtain ⟨y, hy⟩ := mark2_ex (i : Int)
      have hg : h2[0 + ((i : Nat) : Int).toNat]? = some (h2[i]'(by omega)) := by rw [Int.toNat_natCast, Nat.zero_add, List.getElem?_eq_getElem (by omega)]
      refine ⟨m - (i + 1), _, by omega, condT (dT (by dsimp only; omega)) (bindS hy (iteT (by dsimp only; omega) (bindS hg rfl))), i + 1, h2.set (0 + ((i : Nat) : Int).toNat) y, ?_, by omega, ?_, rfl⟩
      · dsimp only
        rw [w64 (by omega)]
        rfl
      · rw [List.length_set]; exact g2
    · right
      exact ⟨_, condF (dF (by dsimp only; omega)) rfl, h2, rfl⟩
  obtain ⟨z, hz, h2, rfl⟩ := key
  refine ⟨h2, ?_⟩
  unfold wk_OverInts_6
  dsimp only
  rw [hm]
  refine iteT (by omega) ?_
  refine bindS (v := ((), (h2, ()))) ?_ rfl
  simpa using hz
theorem OverBytes_3_p {h : List UInt8} {n c : Nat} (hn : n ≤ 2000000) (hc : c = h.length) : ∃ h2, wk_OverBytes_3 (0, n, c) h = some ((), (h2, ())) := by
  obtain ⟨m, hm, hmc, hm2⟩ := cap_ex n c hn
  have key : ∃ z, loopM wk_OverBytes_3_l1 (((0, m, c), 0, ()), (h, ())) = some z ∧ ∃ h2, z = ((), (h2, ())) := by
    refine loopM_spec (fun r a => ∃ (i : Nat) (h2 : List UInt8), a = (((0, m, c), (i : Int), ()), (h2, ())) ∧ i ≤ m ∧ h2.length = c ∧ r = m - i) _ ?_ (n := m) ⟨0, h, rfl, Nat.zero_le _, hc.symm, rfl⟩
    rintro r a ⟨i, h2, rfl, g1, g2, rfl⟩
    unfold wk_OverBytes_3_l1
    by_cases hi : i < m
    · left
      obtain ⟨y, hy⟩ := markByte_ex 2 (i : Int)
      have hg : h2[0 + ((i : Nat) : Int).toNat]? = some (h2[i]'(by omega)) := by rw [Int.toNat_natCast, Nat.zero_add, List.getElem?_eq_getElem (by omega)]
      refine ⟨m - (i + 1), _, by omega, condT (dT (by dsimp only; omega)) (bindS hy (iteT (by dsimp only; omega) (bindS hg (bindS (b8_u _) rfl)))), i + 1, h2.set (0 + ((i : Nat) : Int).toNat) y, ?_, by omega, ?_, rfl⟩
      · dsimp only
        rw [w64 (by omega)]
        rfl
      · rw [List.length_set]; exact g2
    · right
      exact ⟨_, condF (dF (by dsimp only; omega)) rfl, h2, rfl⟩
  obtain ⟨z, hz, h2, rfl⟩ := key
  refine ⟨h2, ?_⟩
  unfold wk_OverBytes_3
  dsimp only
  rw [hm]
  refine iteT (by omega) ?_
  refine bindS (v := ((), (h2, ()))) ?_ rfl
  simpa using hz
theorem OverEntry_p {h : List DEntryX} {k n0 n1 n2 n3 n4 c0 c1 c2 c3 c4 : Nat} {t kd : Int} {e : DEntryX} (hk : h[k]? = some e) (hs : smE e) (l0 : n0 = e.command.1.length) (l1 : n1 = e.config.voters.1.length) (l2 : n2 = e.config.old.1.length) (l3 : n3 = e.config.learners.1.length) (l4 : n4 = e.config.want.1.length) (d0 : c0 = e.command.1.length + e.command.2.length) (d1 : c1 = e.config.voters.1.length + e.config.voters.2.length) (d2 : c2 = e.config.old.1.length + e.config.old.2.length) (d3 : c3 = e.config.learners.1.length + e.config.learners.2.length) (d4 : c4 = e.config.want.1.length + e.config.want.2.length) :
    ∃ e2, shE e e2 ∧ wk_OverEntry (t, kd, (k, 0, n0, c0, ()), (k, 0, n1, c1, ()), (k, 0, n2, c2, ()), (k, 0, n3, c3, ()), (k, 0, n4, c4, ()), ()) h = some ((), (h.set k e2, ())) := by
  have hs2 := hs
  unfold smE at hs2
  obtain ⟨hkl, hke⟩ := List.getElem?_eq_some_iff.1 hk
  have hset : ∀ x : DEntryX, (h.set k x)[k]? = some x := fun x => by simp [hkl]
  obtain ⟨e1, g1, q1⟩ := OverBytes_2_p (n := n0) hk (by omega) d0
  have s1 := g1
  obtain ⟨e2, g2, q2⟩ := OverInts_2_p (n := n1) (c := c1) (hset e1) (by omega) (by unfold shE at s1; omega)
  have s2 := s1.trans g2
  obtain ⟨e3, g3, q3⟩ := OverInts_3_p (n := n2) (c := c2) (hset e2) (by omega) (by unfold shE at s2; omega)
  have s3 := s2.trans g3
  obtain ⟨e4, g4, q4⟩ := OverInts_4_p (n := n3) (c := c3) (hset e3) (by omega) (by unfold shE at s3; omega)
  have s4 := s3.trans g4
  obtain ⟨e5, g5, q5⟩ := OverInts_5_p (n := n4) (c := c4) (hset e4) (by omega) (by unfold shE at s4; omega)
  rw [List.set_set] at q2 q3 q4 q5
  exact ⟨e5, s4.trans g5, bindS q1 (bindS (v := ((), (h.set k e5, ()))) (bindS q2 (bindS q3 (bindS q4 (bindS q5 rfl)))) rfl)⟩
theorem OverEntries_2_p {h : List DEntryX} {n : Nat} (hn : n ≤ 2000000) (hh : h.length = n + 12) (hs : ∀ e ∈ h, smE e) : ∃ h2, wk_OverEntries_2 (0, n, n + 12, ()) h = some ((), (h2, ())) := by
  have k1 : ∃ z, loopM wk_OverEntries_2_l1 (((0, n, n + 12, ()), 0, ()), (h, ())) = some z ∧ ∃ h2, h2.length = n + 12 ∧ z = (((0, n, n + 12, ()), ()), (h2, ())) := by
    refine loopM_spec (fun r a => ∃ (i : Nat) (h2 : List DEntryX), a = (((0, n, n + 12, ()), (i : Int), ()), (h2, ())) ∧ i ≤ n ∧ h2.length = n + 12 ∧ (∀ e ∈ h2, smE e) ∧ r = n - i) _ ?_ (n := n) ⟨0, h, rfl, Nat.zero_le _, hh, hs, rfl⟩
    rintro r a ⟨i, h2, rfl, g1, g2, g3, rfl⟩
    unfold wk_OverEntries_2_l1
    by_cases hi : i < n
    · left
      have hg : h2[0 + ((i : Nat) : Int).toNat]? = some (h2[i]'(by omega)) := by rw [Int.toNat_natCast, Nat.zero_add, List.getElem?_eq_getElem (by omega)]
      have hsm := g3 _ (List.getElem_mem (show i < h2.length by omega))
      obtain ⟨e2, q1, q2⟩ := OverEntry_p (t := (h2[i]'(by omega)).term_) (kd := (h2[i]'(by omega)).kind) hg hsm rfl rfl rfl rfl rfl rfl rfl rfl rfl rfl
      refine ⟨n - (i + 1), _, by omega, condT (dT (by dsimp only; omega)) (iteT (by dsimp only; omega) (bindS hg (bindS q2 rfl))), i + 1, h2.set (0 + ((i : Nat) : Int).toNat) e2, ?_, by omega, by rw [List.length_set]; exact g2, ?_, rfl⟩
      · dsimp only
        rw [w64 (by omega)]
        rfl
      · intro x hx
        rcases List.mem_or_eq_of_mem_set hx with hx | rfl
        · exact g3 x hx
        · exact q1.sm hsm
    · right
      exact ⟨_, condF (dF (by dsimp only; omega)) rfl, h2, g2, rfl⟩
  obtain ⟨z, hz, h2, hl2, rfl⟩ := k1
  obtain ⟨m, hm, hmc, hm2⟩ := cap_ex n (n + 12) hn
  have k2 : ∃ z, loopM wk_OverEntries_2_l2 (((0, m, n + 12, ()), 0, ()), (h2, ())) = some z ∧ ∃ h3, z = ((), (h3, ())) := by
    refine loopM_spec (fun r a => ∃ (i : Nat) (h3 : List DEntryX), a = (((0, m, n + 12, ()), (i : Int), ()), (h3, ())) ∧ i ≤ m ∧ h3.length = n + 12 ∧ r = m - i) _ ?_ (n := m) ⟨0, h2, rfl, Nat.zero_le _, hl2, rfl⟩
    rintro r a ⟨i, h3, rfl, g1, g2, rfl⟩
    unfold wk_OverEntries_2_l2
    by_cases hi : i < m
    · left
      obtain ⟨y, hy⟩ := mark2_ex (i : Int)
      have hy2 : wk_markEntry 2 (i : Int) = some ((y, 0, (), (), (), (), (), ()), ()) := bindS hy rfl
      refine ⟨m - (i + 1), _, by omega, condT (dT (by dsimp only; omega)) (bindS hy2 (iteT (by dsimp only; omega) (iteT (by dsimp only; rw [Int.toNat_natCast]; omega) rfl))), i + 1, h3.set (0 + ((i : Nat) : Int).toNat) ⟨y, 0, ([], []), ⟨([], []), ([], []), ([], []), ([], [])⟩⟩, ?_, by omega, ?_, rfl⟩
      · dsimp only
        rw [w64 (by omega)]
        rfl
      · rw [List.length_set]; exact g2
    · right
      exact ⟨_, condF (dF (by dsimp only; omega)) rfl, h3, rfl⟩
  obtain ⟨z, hz2, h3, rfl⟩ := k2
  refine ⟨h3, ?_⟩
  unfold wk_OverEntries_2
  refine bindS hz ?_
  dsimp only
  rw [Nat.sub_zero, hm]
  refine iteT ⟨by omega, by omega, by omega, by omega⟩ ?_
  refine bindS (v := ((), (h3, ()))) ?_ rfl
  simpa using hz2
theorem lnE_sm {e : DEntry} (h : e.few) : smE (lnE e) := by
  unfold DEntry.few DConfig.few at h
  unfold smE lnE lnC
  simp only [marks_len, marksB_len]
  omega
theorem lnEs_sm {l : List DEntry} (h : ∀ e ∈ l, e.few) : ∀ e ∈ lnEs l, smE e := by
  intro e he
  unfold lnEs mEs at he
  rw [List.mem_append, List.mem_map, List.mem_map] at he
  rcases he with ⟨d, hd, rfl⟩ | ⟨j, hj, rfl⟩
  · exact lnE_sm (h d hd)
  · unfold smE mE; simp
theorem OverLetter_2_p {x : DLetter} (h : x.few) {a0 a1 a2 a3 : List Int} {a4 : List UInt8} (l0 : a0.length = x.base.config.voters.length + 12) (l1 : a1.length = x.base.config.old.length + 12) (l2 : a2.length = x.base.config.learners.length + 12) (l3 : a3.length = x.base.config.want.length + 12) (l4 : a4.length = x.bytes.length + 12) :
    ∃ z, wk_OverLetter_2 (lentL x) (lnEs x.entries) a0 a1 a2 a3 a4 = some z := by
  obtain ⟨h1, h2, ⟨f0, f1, f2, f3⟩, h4⟩ := h
  obtain ⟨b, hb⟩ := OverEntries_2_p (h := lnEs x.entries) (n := x.entries.length) (by omega) (by simp [lnEs, mEs_len]) (lnEs_sm h2)
  obtain ⟨b0, hb0⟩ := OverInts_6_p (h := a0) (n := x.base.config.voters.length) (c := x.base.config.voters.length + 12) (by omega) l0.symm
  obtain ⟨b1, hb1⟩ := OverInts_6_p (h := a1) (n := x.base.config.old.length) (c := x.base.config.old.length + 12) (by omega) l1.symm
  obtain ⟨b2, hb2⟩ := OverInts_6_p (h := a2) (n := x.base.config.learners.length) (c := x.base.config.learners.length + 12) (by omega) l2.symm
  obtain ⟨b3, hb3⟩ := OverInts_6_p (h := a3) (n := x.base.config.want.length) (c := x.base.config.want.length + 12) (by omega) l3.symm
  obtain ⟨b4, hb4⟩ := OverBytes_3_p (h := a4) (n := x.bytes.length) (c := x.bytes.length + 12) (by omega) l4.symm
  exact ⟨_, bindS hb (bindS (v := ((), (b0, b1, b2, b3, ()))) (bindS (v := ((), (b0, b1, b2, b3, ()))) (bindS hb0 (bindS hb1 (bindS hb2 (bindS hb3 rfl)))) rfl) (bindS hb4 rfl))⟩
theorem OverIntsv_p {n : Nat} {xs : List Int} (h : n ≤ 1000000) : wk_OverInts_v n xs = some ((), ([], ())) := if_pos h
theorem OverBytesv_p {n : Nat} {xs : List UInt8} (h : n ≤ 1000000) : wk_OverBytes_v n xs = some ((), ([], ())) := if_pos h
theorem OverBase_p {b : DBase} {a0 a1 a2 a3 : List Int} (h : b.config.few) : wk_OverBase (b.index, b.term_, b.config.voters.length, b.config.old.length, b.config.learners.length, b.config.want.length, ()) a0 a1 a2 a3 = some ((), ([], [], [], [], ())) := by
  obtain ⟨f0, f1, f2, f3⟩ := h
  exact bindS (v := ((), ([], [], [], [], ()))) (bindS (OverIntsv_p f0) (bindS (OverIntsv_p f1) (bindS (OverIntsv_p f2) (bindS (OverIntsv_p f3) rfl)))) rfl
theorem OverImage_p {m : DImage} {a0 a1 a2 a3 : List Int} {a4 : List UInt8} (h : m.few) : wk_OverImage (m.base.index, m.base.term_, m.base.config.voters.length, m.base.config.old.length, m.base.config.learners.length, m.base.config.want.length, m.bytes.length, ()) a0 a1 a2 a3 a4 = some ((), ([], [], [], [], [], ())) := by
  have h5 : m.bytes.length ≤ 1000000 := Nat.le_trans h.2 (by omega)
  exact bindS (OverBase_p h.1) (bindS (OverBytesv_p h5) rfl)
theorem OverEntries_nil : wk_OverEntries (0, 0, 0) [] = some ((), ((), ())) := by
  unfold wk_OverEntries
  refine bindS (v := (((0, 0, 0), ()), ((), [], ()))) (loopM_end ?_) ?_
  · unfold wk_OverEntries_l1
    exact condF (dF (by simp)) rfl
  dsimp only
  rw [w64 (by omega)]
  refine iteT (by simp) ?_
  refine bindS (v := ((), ((), ()))) (loopM_end ?_) rfl
  unfold wk_OverEntries_l2
  exact condF (dF (by simp)) rfl
theorem OverLetter_p {b : DLetter} {a0 a1 a2 a3 : List Int} {a4 : List UInt8} (h : b.base.config.few) (hb : b.bytes.length ≤ 1000000) : wk_OverLetter (ownL b) a0 a1 a2 a3 a4 = some ((), ([], [], [], [], [], ())) :=
  bindS OverEntries_nil (bindS (OverBase_p h) (bindS (OverBytesv_p hb) rfl))
end Go.Proofs.Ytlaehnldaejipaa
