/- Fill, of lent things and of the document. -/
import Derived.Test.YtlaehnldaejipaaFkd
namespace Go.Proofs.Ytlaehnldaejipaa
open Go.RowKit
set_option maxRecDepth 100000
set_option linter.unusedVariables false
set_option linter.unusedSimpArgs false
theorem CopyInts_p {l : List Int} (h : l.length ≤ 1000000) : wk_CopyInts l = some (l, ((), ())) := iteT ⟨by omega, by omega⟩ rfl
theorem CopyBytes_p {l : List UInt8} (h : l.length ≤ 1000000) : wk_CopyBytes l = some (l, ((), ())) := iteT ⟨by omega, by omega⟩ rfl
theorem CopyConfig_p {c : DConfig} (h : c.few) : wk_CopyConfig c = some (c, ()) := bindS (CopyInts_p h.1) (bindS (CopyInts_p h.2.1) (bindS (CopyInts_p h.2.2.1) (bindS (CopyInts_p h.2.2.2) rfl)))
theorem CopyBase_p {b : DBase} (h : b.config.few) : wk_CopyBase b = some (b, ()) := bindS (CopyConfig_p h) rfl
theorem CopyEntry_p {e : DEntry} (h : e.few) : wk_CopyEntry e = some (e, ()) := bindS (CopyBytes_p h.1) (bindS (CopyConfig_p h.2) rfl)
theorem CopyEntries_p {l : List DEntry} (hn : l.length ≤ 100000) (hf : ∀ e ∈ l, e.few) : wk_CopyEntries l = some (l, ((), ())) := by
  have key : loopM wk_CopyEntries_l1 ((l, [], 0, ()), ((), ())) = some ((l, ()), ((), (), ())) := by
    refine loopM_run (step := wk_CopyEntries_l1) (fun i : Nat => ((l, l.take i, (i : Int), ()), ((), ()))) (N := l.length) (fun i hi => ?_) ?_
    · unfold wk_CopyEntries_l1
      refine condT (dT (by dsimp only; omega)) (bindS (getI_lt hi) (bindS (CopyEntry_p (hf _ (List.getElem_mem hi))) (iteT (by simp; omega) ?_)))
      dsimp only
      rw [w64 (by omega), ← List.take_succ_eq_append_getElem hi]
      rfl
    · unfold wk_CopyEntries_l1
      refine condF (dF (by dsimp only; omega)) ?_
      dsimp only
      rw [List.take_length]
  exact bindS key rfl
theorem CopyLetter_p {x : DLetter} (h : x.few) : wk_CopyLetter x = some (x, ()) := bindS (CopyEntries_p h.1 h.2.1) (bindS (CopyBase_p h.2.2.1) (bindS (CopyBytes_p (Nat.le_trans h.2.2.2 (by decide))) rfl))
def let0 : DLetter := ⟨0, 0, 0, 0, 0, 0, 0, 0, false, [], ⟨0, 0, ⟨[], [], [], []⟩⟩, 0, 0, 0, []⟩
def img0 : DImage := ⟨⟨0, 0, ⟨[], [], [], []⟩⟩, []⟩
def fillOk (x : DLetter) (m : DImage) : Prop := x.kind = 5 ∧ x.base.index = m.base.index ∧ x.base.term_ = m.base.term_ ∧ 0 ≤ x.at_ ∧ x.at_ ≤ m.bytes.length
instance (x : DLetter) (m : DImage) : Decidable (fillOk x m) := by unfold fillOk; infer_instance
def fillL (x : DLetter) (m : DImage) : DLetter := { x with entries := [], base := m.base, size := m.bytes.length, bytes := (m.bytes.drop x.at_.toNat).take 600 }
def fillR (x : DLetter) (m : DImage) : DLetter := if fillOk x m then fillL x m else let0
theorem few_nil : (⟨[], [], [], []⟩ : DConfig).few := by unfold DConfig.few; simp
theorem img0_few : img0.few := ⟨few_nil, by simp [img0]⟩
theorem fillR_few {x : DLetter} {m : DImage} (hm : m.few) : (fillR x m).few ∧ (fillR x m).entries = [] := by
  unfold fillR
  split
  · exact ⟨⟨by simp [fillL], by simp [fillL], hm.1, by have := hm.2; simp [fillL]; omega⟩, rfl⟩
  · exact ⟨⟨by simp [let0], by simp [let0], few_nil, by simp [let0]⟩, rfl⟩
theorem refFill_ok {x : DLetter} {m : DImage} (hx : x.few) (hm : m.few) (h : fillOk x m) : w13_Fill x m = some ((fillL x m, true, ()), ()) := by
  obtain ⟨h1, h2, h3, h4, h5⟩ := h
  have hb := hm.2
  obtain ⟨a, ha⟩ : ∃ a : Nat, x.at_ = (a : Int) := ⟨x.at_.toNat, by omega⟩
  have hat : a ≤ m.bytes.length := by omega
  have hw : IntKind.i64.wrap (x.at_ + 600) = x.at_ + 600 := w64 (by omega)
  have key : ∃ b, loopM w13_Fill_l1 (((), (), (), (), x.at_, ()), (x, m, (0, 0, 0, 0, 0, 0, 0, 0, false, [], 0, 0, [], [], [], [], 0, 0, 0, [], ()), (x.kind, x.group, x.from_, x.to_, x.term_, x.index, x.logTerm, x.commit, x.ok, [], m.base.index, m.base.term_, m.base.config.voters, m.base.config.old, m.base.config.learners, m.base.config.want, (m.bytes.length : Int), x.at_, x.tag, [], ()), (), (), (), (), (), (), (), (), ())) = some b ∧ b.2.2.2.2.1 = (x.kind, x.group, x.from_, x.to_, x.term_, x.index, x.logTerm, x.commit, x.ok, [], m.base.index, m.base.term_, m.base.config.voters, m.base.config.old, m.base.config.learners, m.base.config.want, (m.bytes.length : Int), x.at_, x.tag, (m.bytes.drop x.at_.toNat).take 600, ()) := by
    have hs : ∀ k, k < min 600 (m.bytes.length - a) → w13_Fill_l1 (((), (), (), (), x.at_ + ((k : Nat) : Int), ()), (x, m, (0, 0, 0, 0, 0, 0, 0, 0, false, [], 0, 0, [], [], [], [], 0, 0, 0, [], ()), (x.kind, x.group, x.from_, x.to_, x.term_, x.index, x.logTerm, x.commit, x.ok, [], m.base.index, m.base.term_, m.base.config.voters, m.base.config.old, m.base.config.learners, m.base.config.want, (m.bytes.length : Int), x.at_, x.tag, (m.bytes.drop x.at_.toNat).take k, ()), (), (), (), (), (), (), (), (), ())) = some (.inl (((), (), (), (), x.at_ + ((k + 1 : Nat) : Int), ()), (x, m, (0, 0, 0, 0, 0, 0, 0, 0, false, [], 0, 0, [], [], [], [], 0, 0, 0, [], ()), (x.kind, x.group, x.from_, x.to_, x.term_, x.index, x.logTerm, x.commit, x.ok, [], m.base.index, m.base.term_, m.base.config.voters, m.base.config.old, m.base.config.learners, m.base.config.want, (m.bytes.length : Int), x.at_, x.tag, (m.bytes.drop x.at_.toNat).take (k + 1), ()), (), (), (), (), (), (), (), (), ()))) := by
      intro k hk
      have hka : a + k < m.bytes.length := by omega
      have hg : getI m.bytes (x.at_ + (k : Int)) = some m.bytes[a + k] := by
        rw [show x.at_ + (k : Int) = ((a + k : Nat) : Int) from by omega]
        exact getI_lt hka
      have ht : (m.bytes.drop x.at_.toNat).take (k + 1) = (m.bytes.drop x.at_.toNat).take k ++ [m.bytes[a + k]] := by
        rw [ha, Int.toNat_natCast]
        rw [List.take_succ_eq_append_getElem (by simp; omega)]
        simp
      unfold w13_Fill_l1
      refine condT (dT (by dsimp only; omega)) (condT (dT (by dsimp only; rw [hw]; omega)) (bindS hg (bindS (b8_u _) (iteT (by simp; omega) ?_))))
      dsimp only
      rw [w64 (by omega), ht, show x.at_ + (k : Int) + 1 = x.at_ + ((k + 1 : Nat) : Int) from by omega]
    have he : ∃ b, w13_Fill_l1 (((), (), (), (), x.at_ + ((min 600 (m.bytes.length - a) : Nat) : Int), ()), (x, m, (0, 0, 0, 0, 0, 0, 0, 0, false, [], 0, 0, [], [], [], [], 0, 0, 0, [], ()), (x.kind, x.group, x.from_, x.to_, x.term_, x.index, x.logTerm, x.commit, x.ok, [], m.base.index, m.base.term_, m.base.config.voters, m.base.config.old, m.base.config.learners, m.base.config.want, (m.bytes.length : Int), x.at_, x.tag, (m.bytes.drop x.at_.toNat).take (min 600 (m.bytes.length - a)), ()), (), (), (), (), (), (), (), (), ())) = some (.inr b) ∧ b.2.2.2.2.1 = (x.kind, x.group, x.from_, x.to_, x.term_, x.index, x.logTerm, x.commit, x.ok, [], m.base.index, m.base.term_, m.base.config.voters, m.base.config.old, m.base.config.learners, m.base.config.want, (m.bytes.length : Int), x.at_, x.tag, (m.bytes.drop x.at_.toNat).take 600, ()) := by
      have ht : (m.bytes.drop x.at_.toNat).take (min 600 (m.bytes.length - a)) = (m.bytes.drop x.at_.toNat).take 600 := by
        rw [List.take_eq_take_iff]
        simp
        omega
      unfold w13_Fill_l1
      rw [ht]
      by_cases hl : a + min 600 (m.bytes.length - a) < m.bytes.length
      · exact ⟨_, condT (dT (by dsimp only; omega)) (condF (dF (by dsimp only; rw [hw]; omega)) rfl), rfl⟩
      · exact ⟨_, condF (dF (by dsimp only; omega)) rfl, rfl⟩
    have g := loopM_runQ (step := w13_Fill_l1) (fun b => b.2.2.2.2.1 = (x.kind, x.group, x.from_, x.to_, x.term_, x.index, x.logTerm, x.commit, x.ok, [], m.base.index, m.base.term_, m.base.config.voters, m.base.config.old, m.base.config.learners, m.base.config.want, (m.bytes.length : Int), x.at_, x.tag, (m.bytes.drop x.at_.toNat).take 600, ())) (fun k : Nat => (((), (), (), (), x.at_ + ((k : Nat) : Int), ()), (x, m, (0, 0, 0, 0, 0, 0, 0, 0, false, [], 0, 0, [], [], [], [], 0, 0, 0, [], ()), (x.kind, x.group, x.from_, x.to_, x.term_, x.index, x.logTerm, x.commit, x.ok, [], m.base.index, m.base.term_, m.base.config.voters, m.base.config.old, m.base.config.learners, m.base.config.want, (m.bytes.length : Int), x.at_, x.tag, (m.bytes.drop x.at_.toNat).take k, ()), (), (), (), (), (), (), (), (), ()))) hs he
    simpa using g
  obtain ⟨b, hb1, hb2⟩ := key
  unfold w13_Fill
  refine bindS (CopyLetter_p hx) (condF (dF (by omega)) (condF (dF (by omega)) (condF (dF (by omega)) (condF (dF (by omega)) (condF (dF (by omega)) (bindS (CopyBase_p hm.1) (bindS hb1 ?_)))))))
  rw [hb2]
  rfl
theorem refFill_no {x : DLetter} {m : DImage} (hx : x.few) (h : ¬ fillOk x m) : w13_Fill x m = some ((let0, false, ()), ()) := by
  unfold w13_Fill
  refine bindS (CopyLetter_p hx) ?_
  by_cases h1 : x.kind = 5
  · refine condF (dF (by omega)) ?_
    by_cases h2 : x.base.index = m.base.index
    · refine condF (dF (by omega)) ?_
      by_cases h3 : x.base.term_ = m.base.term_
      · refine condF (dF (by omega)) ?_
        by_cases h4 : x.at_ < 0
        · exact condT (dT h4) rfl
        · refine condF (dF h4) ?_
          by_cases h5 : (m.bytes.length : Int) < x.at_
          · exact condT (dT h5) rfl
          · exact absurd ⟨h1, h2, h3, by omega, by omega⟩ h
      · exact condT (dT (by omega)) rfl
    · exact condT (dT (by omega)) rfl
  · exact condT (dT (by omega)) rfl
theorem refFill_p {x : DLetter} {m : DImage} (hx : x.few) (hm : m.few) : w13_Fill x m = some ((fillR x m, decide (fillOk x m), ()), ()) := by
  unfold fillR
  by_cases h : fillOk x m
  · rw [decide_eq_true h, if_pos h]; exact refFill_ok hx hm h
  · rw [decide_eq_false h, if_neg h]; exact refFill_no hx h
theorem cloneEk54_p {xs t : List Int} {c : Nat} (h : xs.length ≤ 1000000) : cloneEk54 (0, xs.length, c) (xs ++ t) = some (xs.length, (xs ++ t, xs, ())) := by
  unfold cloneEk54
  have : ((xs ++ t).drop 0).take xs.length = xs := by simp
  refine iteT (by dsimp only; rw [this]; exact ⟨by simp, by omega, by omega⟩) ?_
  dsimp only
  rw [this]
theorem own_3_p {b : DBase} {t0 t1 t2 t3 : List Int} (h : b.config.few) : ferry_own_3 (b.index, b.term_, n3 b.config.voters, n3 b.config.old, n3 b.config.learners, n3 b.config.want, ()) (b.config.voters ++ t0) (b.config.old ++ t1) (b.config.learners ++ t2) (b.config.want ++ t3) = some ((b.index, b.term_, b.config.voters.length, b.config.old.length, b.config.learners.length, b.config.want.length, ()), (b.config.voters ++ t0, b.config.old ++ t1, b.config.learners ++ t2, b.config.want ++ t3, b.config.voters, b.config.old, b.config.learners, b.config.want, ())) :=
  bindS (cloneEk54_p h.1) (bindS (cloneEk54_p h.2.1) (bindS (cloneEk54_p h.2.2.1) (bindS (cloneEk54_p h.2.2.2) rfl)))
theorem cut600 {l : List UInt8} {a : Int} {y : Int} (h0 : 0 ≤ a) (h1 : a ≤ l.length) (hy : y = (if (l.length : Int) < a + 600 then (l.length : Int) else a + 600)) : (l.drop a.toNat).take (y.toNat - a.toNat) = (l.drop a.toNat).take 600 := by
  rw [List.take_eq_take_iff]
  simp
  split at hy <;> omega
theorem cloneEk34_p {l t : List UInt8} {a y : Int} {c : Nat} (h0 : 0 ≤ a) (h1 : a ≤ l.length) (hl : l.length ≤ 1000000) (hy : y = (if (l.length : Int) < a + 600 then (l.length : Int) else a + 600)) : cloneEk34 (0 + a.toNat, y.toNat - a.toNat, c) (l ++ t) = some (((l.drop a.toNat).take 600).length, (l ++ t, (l.drop a.toNat).take 600, ())) := by
  have hc := cut600 h0 h1 hy
  have hy2 : y ≤ l.length ∧ a ≤ y := by split at hy <;> omega
  have : ((l ++ t).drop (0 + a.toNat)).take (y.toNat - a.toNat) = (l.drop a.toNat).take 600 := by
    rw [← hc, Nat.zero_add, List.drop_append_of_le_length (by omega), List.take_append_of_le_length (by simp; omega)]
  unfold cloneEk34
  refine iteT (by dsimp only; rw [this]; exact ⟨by simp; omega, by simp; omega, by simp; omega⟩) ?_
  dsimp only
  rw [this]
theorem Fill_2_ok {x : DLetter} {m : DImage} (hm : m.few) (h : fillOk x m) {h0 : List DEntryX} {h1 h2 h3 h4 : List Int} {h5 : List UInt8} {t0 t1 t2 t3 : List Int} {t4 : List UInt8} (ht : t4.length = 12) : ferry_Fill_2 (lentL x) (lentI m) h0 h1 h2 h3 h4 h5 (m.base.config.voters ++ t0) (m.base.config.old ++ t1) (m.base.config.learners ++ t2) (m.base.config.want ++ t3) (m.bytes ++ t4) = some ((ownL (fillL x m), true, ()), (h0, h1, h2, h3, h4, h5, m.base.config.voters ++ t0, m.base.config.old ++ t1, m.base.config.learners ++ t2, m.base.config.want ++ t3, m.bytes ++ t4, (fillL x m).base.config.voters, (fillL x m).base.config.old, (fillL x m).base.config.learners, (fillL x m).base.config.want, (fillL x m).bytes, ())) := by
  obtain ⟨g1, g2, g3, g4, g5⟩ := h
  have hb := hm.2
  have hw : IntKind.i64.wrap (x.at_ + 600) = x.at_ + 600 := w64 (by omega)
  unfold ferry_Fill_2
  refine condF (dF (by dsimp only; omega)) (condF (dF (by dsimp only; omega)) (condF (dF (by dsimp only; omega)) (condF (dF (by dsimp only; omega)) (condF (dF (by dsimp only; omega)) (bindS (own_3_p hm.1) ?_)))))
  dsimp only
  rw [hw]
  refine iteT (by split <;> omega) (bindS (cloneEk34_p g4 g5 (by omega) rfl) ?_)
  rfl
theorem Fill_2_no {x : DLetter} {m : DImage} (h : ¬ fillOk x m) {h0 : List DEntryX} {h1 h2 h3 h4 : List Int} {h5 : List UInt8} {h6 h7 h8 h9 : List Int} {h10 : List UInt8} : ferry_Fill_2 (lentL x) (lentI m) h0 h1 h2 h3 h4 h5 h6 h7 h8 h9 h10 = some ((ownL let0, false, ()), (h0, h1, h2, h3, h4, h5, h6, h7, h8, h9, h10, [], [], [], [], [], ())) := by
  unfold ferry_Fill_2
  by_cases h1 : x.kind = 5
  · refine condF (dF (by dsimp only; omega)) ?_
    by_cases h2 : x.base.index = m.base.index
    · refine condF (dF (by dsimp only; omega)) ?_
      by_cases h3 : x.base.term_ = m.base.term_
      · refine condF (dF (by dsimp only; omega)) ?_
        by_cases h4 : x.at_ < 0
        · exact condT (dT h4) rfl
        · refine condF (dF h4) ?_
          by_cases h5 : (m.bytes.length : Int) < x.at_
          · exact condT (dT h5) rfl
          · exact absurd ⟨h1, h2, h3, by omega, by omega⟩ h
      · exact condT (dT (by dsimp only; omega)) rfl
    · exact condT (dT (by dsimp only; omega)) rfl
  · exact condT (dT (by dsimp only; omega)) rfl
theorem Fill_2_p {x : DLetter} {m : DImage} (hm : m.few) {h0 : List DEntryX} {h1 h2 h3 h4 : List Int} {h5 : List UInt8} {t0 t1 t2 t3 : List Int} {t4 : List UInt8} (ht : t4.length = 12) : ferry_Fill_2 (lentL x) (lentI m) h0 h1 h2 h3 h4 h5 (m.base.config.voters ++ t0) (m.base.config.old ++ t1) (m.base.config.learners ++ t2) (m.base.config.want ++ t3) (m.bytes ++ t4) = some ((ownL (fillR x m), decide (fillOk x m), ()), (h0, h1, h2, h3, h4, h5, m.base.config.voters ++ t0, m.base.config.old ++ t1, m.base.config.learners ++ t2, m.base.config.want ++ t3, m.bytes ++ t4, (fillR x m).base.config.voters, (fillR x m).base.config.old, (fillR x m).base.config.learners, (fillR x m).base.config.want, (fillR x m).bytes, ())) := by
  unfold fillR
  by_cases h : fillOk x m
  · rw [decide_eq_true h, if_pos h]; exact Fill_2_ok hm h ht
  · rw [decide_eq_false h, if_neg h]; exact Fill_2_no h
end Go.Proofs.Ytlaehnldaejipaa
