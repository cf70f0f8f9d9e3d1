/- Entries, letters, images: the same, lent, kept. -/
import Derived.Test.YtlaehnldaejipaaFka
namespace Go.Proofs.Ytlaehnldaejipaa
open Go.RowKit
set_option maxRecDepth 100000
set_option linter.unusedVariables false
set_option linter.unusedSimpArgs false
/-- What a law lets by. -/
def DConfig.few (c : DConfig) : Prop := c.voters.length ≤ 1000000 ∧ c.old.length ≤ 1000000 ∧ c.learners.length ≤ 1000000 ∧ c.want.length ≤ 1000000
def DEntry.few (e : DEntry) : Prop := e.command.length ≤ 1000000 ∧ e.config.few
def DLetter.few (x : DLetter) : Prop := x.entries.length ≤ 100000 ∧ (∀ e ∈ x.entries, e.few) ∧ x.base.config.few ∧ x.bytes.length ≤ 900000
def DImage.few (m : DImage) : Prop := m.base.config.few ∧ m.bytes.length ≤ 900000
noncomputable def lnC (c : DConfig) : DConfigX := ⟨(c.voters, marks 12), (c.old, marks 12), (c.learners, marks 12), (c.want, marks 12)⟩
noncomputable def lnE (e : DEntry) : DEntryX := ⟨e.term_, e.kind, (e.command, marksB 12), lnC e.config⟩
def zE : DEntryX := ⟨0, 0, ([], []), ⟨([], []), ([], []), ([], []), ([], [])⟩⟩
noncomputable def mE (j : Nat) : DEntryX := ⟨mkT j, 0, ([], []), ⟨([], []), ([], []), ([], []), ([], [])⟩⟩
noncomputable def dE (j : Nat) : DEntry := ⟨mkT j, 0, [], ⟨[], [], [], []⟩⟩
noncomputable def mEs (j : Nat) : List DEntryX := (List.range j).map mE
noncomputable def lnEs (l : List DEntry) : List DEntryX := l.map lnE ++ mEs 12
theorem mEs_len (j : Nat) : (mEs j).length = j := by simp [mEs]
theorem mEs_succ (j : Nat) : mEs (j + 1) = mEs j ++ [mE j] := by simp [mEs, List.range_succ]
abbrev n3 {α : Type} (l : List α) : Nat × Nat × Nat := (0, l.length, l.length + 12)
/-! Lent. -/
theorem LentConfig_p {c : DConfig} (h : c.few) : wk_LentConfig c = some ((n3 c.voters, n3 c.old, n3 c.learners, n3 c.want, ()), (c.voters ++ marks 12, c.old ++ marks 12, c.learners ++ marks 12, c.want ++ marks 12, ())) := by
  obtain ⟨h1, h2, h3, h4⟩ := h
  exact bindS (LentInts_p h1) (bindS (LentInts_p h2) (bindS (LentInts_p h3) (bindS (LentInts_p h4) rfl)))
theorem LentBase_p {b : DBase} (h : b.config.few) : wk_LentBase b = some ((b.index, b.term_, n3 b.config.voters, n3 b.config.old, n3 b.config.learners, n3 b.config.want, ()), (b.config.voters ++ marks 12, b.config.old ++ marks 12, b.config.learners ++ marks 12, b.config.want ++ marks 12, ())) := bindS (LentConfig_p h) rfl
theorem LentEntry_p {e : DEntry} (h : e.few) : wk_LentEntry e = some ((e.term_, e.kind, n3 e.command, n3 e.config.voters, n3 e.config.old, n3 e.config.learners, n3 e.config.want, ()), (e.command ++ marksB 12, e.config.voters ++ marks 12, e.config.old ++ marks 12, e.config.learners ++ marks 12, e.config.want ++ marks 12, ())) := bindS (LentBytes_p h.1) (bindS (LentConfig_p h.2) rfl)
theorem markEntry_p (j : Nat) : wk_markEntry 1 (j : Int) = some ((mkT j, 0, (), (), (), (), (), ()), ()) := bindS (mark_p j) rfl
theorem set_next {α : Type} (xs : List α) (k : Nat) (z x : α) (n : Nat) (hn : n = xs.length) (hk : 0 < k) : (xs ++ List.replicate k z).set n x = xs ++ [x] ++ List.replicate (k - 1) z := by
  subst hn
  obtain ⟨k, rfl⟩ : ∃ m, k = m + 1 := ⟨k - 1, by omega⟩
  rw [List.set_append_right _ _ (Nat.le_refl _)]
  simp [List.replicate_succ]
theorem LentEntries_p {l : List DEntry} (hn : l.length ≤ 100000) (hf : ∀ e ∈ l, e.few) : wk_LentEntries l = some ((0, l.length, l.length + 12, ()), (lnEs l, ())) := by
  have hw : IntKind.i64.wrap ((l.length : Int) + 12) = ((l.length + 12 : Nat) : Int) := by rw [w64 (by omega)]; rfl
  have l1 : loopM wk_LentEntries_l1 ((l, (0, 0, l.length + 12, ()), 0, ()), (List.replicate (l.length + 12) zE, ())) = some ((l, (0, l.length, l.length + 12, ()), ()), ((), l.map lnE ++ List.replicate 12 zE, ())) := by
    refine loopM_run (step := wk_LentEntries_l1) (fun i : Nat => ((l, (0, i, l.length + 12, ()), (i : Int), ()), ((l.take i).map lnE ++ List.replicate (l.length + 12 - i) zE, ()))) (N := l.length) (fun i hi => ?_) ?_
    · unfold wk_LentEntries_l1
      refine condT (dT (by dsimp only; omega)) ?_
      refine bindS (getI_lt hi) ?_
      refine bindS (LentEntry_p (hf _ (List.getElem_mem hi))) ?_
      refine iteT ⟨rfl, rfl, by simp [marksB_len], by dsimp only; omega, by dsimp only; omega⟩ ?_
      refine iteT ⟨rfl, rfl, by simp [marks_len], by dsimp only; omega, by dsimp only; omega⟩ ?_
      refine iteT ⟨rfl, rfl, by simp [marks_len], by dsimp only; omega, by dsimp only; omega⟩ ?_
      refine iteT ⟨rfl, rfl, by simp [marks_len], by dsimp only; omega, by dsimp only; omega⟩ ?_
      refine iteT ⟨rfl, rfl, by simp [marks_len], by dsimp only; omega, by dsimp only; omega⟩ ?_
      refine iteT ⟨rfl, by dsimp only; omega⟩ ?_
      dsimp only
      simp only [List.take_left, List.drop_left]
      rw [w64 (by omega)]
      have hs := set_next ((l.take i).map lnE) (l.length + 12 - i) zE (lnE l[i]) i (by simp; omega) (by omega)
      have he : (l.take i).map lnE ++ [lnE l[i]] = (l.take (i + 1)).map lnE := by rw [List.take_succ_eq_append_getElem hi, List.map_append]; rfl
      rw [he, show l.length + 12 - i - 1 = l.length + 12 - (i + 1) from by omega] at hs
      exact congrArg (fun z => some (Sum.inl ((l, (0, i + 1, l.length + 12, ()), ((i : Int) + 1), ()), (z, ())))) hs
    · unfold wk_LentEntries_l1
      refine condF (dF (by dsimp only; omega)) ?_
      dsimp only
      rw [List.take_length, show l.length + 12 - l.length = 12 from by omega]
  have l2 : loopM wk_LentEntries_l2 ((l, (0, l.length, l.length + 12, ()), 0, ()), (l.map lnE ++ List.replicate 12 zE, ())) = some ((l, (0, l.length + 12, l.length + 12, ()), ()), ((), lnEs l, ())) := by
    refine loopM_run (step := wk_LentEntries_l2) (fun j : Nat => ((l, (0, l.length + j, l.length + 12, ()), (j : Int), ()), (l.map lnE ++ (mEs j ++ List.replicate (12 - j) zE), ()))) (N := 12) (fun j hj => ?_) ?_
    · unfold wk_LentEntries_l2
      refine condT (dT (by dsimp only; omega)) ?_
      refine bindS (markEntry_p j) ?_
      refine iteT ⟨rfl, by dsimp only; omega⟩ ?_
      dsimp only
      rw [w64 (by omega)]
      have hs := set_next (l.map lnE ++ mEs j) (12 - j) zE (mE j) (l.length + j) (by simp [mEs_len]) (by omega)
      rw [List.append_assoc (l.map lnE) (mEs j) [mE j], ← mEs_succ, show 12 - j - 1 = 12 - (j + 1) from by omega, List.append_assoc, List.append_assoc] at hs
      exact congrArg (fun z => some (Sum.inl ((l, (0, l.length + (j + 1), l.length + 12, ()), ((j : Int) + 1), ()), (z, ())))) hs
    · unfold wk_LentEntries_l2
      refine condF (dF (by dsimp only; omega)) ?_
      simp [lnEs]
  unfold wk_LentEntries
  simp only [hw, Int.toNat_natCast, Int.toNat_zero]
  refine iteT (by omega) ?_
  refine bindS l1 ?_
  refine bindS l2 ?_
  dsimp only
  refine iteT ⟨by omega, by omega, by omega, by omega⟩ ?_
  simp
/-- A letter, an image, as they are lent. -/
abbrev lentL (x : DLetter) : (Int) × (Int) × (Int) × (Int) × (Int) × (Int) × (Int) × (Int) × (Bool) × (Nat × Nat × Nat × Unit) × (Int) × (Int) × (Nat × Nat × Nat) × (Nat × Nat × Nat) × (Nat × Nat × Nat) × (Nat × Nat × Nat) × (Int) × (Int) × (Int) × (Nat × Nat × Nat) × Unit :=
  (x.kind, x.group, x.from_, x.to_, x.term_, x.index, x.logTerm, x.commit, x.ok, (0, x.entries.length, x.entries.length + 12, ()), x.base.index, x.base.term_, n3 x.base.config.voters, n3 x.base.config.old, n3 x.base.config.learners, n3 x.base.config.want, x.size, x.at_, x.tag, n3 x.bytes, ())
abbrev lentI (m : DImage) : (Int) × (Int) × (Nat × Nat × Nat) × (Nat × Nat × Nat) × (Nat × Nat × Nat) × (Nat × Nat × Nat) × (Nat × Nat × Nat) × Unit :=
  (m.base.index, m.base.term_, n3 m.base.config.voters, n3 m.base.config.old, n3 m.base.config.learners, n3 m.base.config.want, n3 m.bytes, ())
theorem LentLetter_p {x : DLetter} (h : x.few) : wk_LentLetter x = some (lentL x, (lnEs x.entries, x.base.config.voters ++ marks 12, x.base.config.old ++ marks 12, x.base.config.learners ++ marks 12, x.base.config.want ++ marks 12, x.bytes ++ marksB 12, ())) := by
  obtain ⟨h1, h2, h3, h4⟩ := h
  exact bindS (LentEntries_p h1 h2) (bindS (LentBase_p h3) (bindS (LentBytes_p (by omega)) rfl))
theorem LentImage_p {m : DImage} (h : m.few) : wk_LentImage m = some (lentI m, (m.base.config.voters ++ marks 12, m.base.config.old ++ marks 12, m.base.config.learners ++ marks 12, m.base.config.want ++ marks 12, m.bytes ++ marksB 12, ())) := by
  have := h.2
  exact bindS (LentBase_p h.1) (bindS (LentBytes_p (by omega)) rfl)
/-! The same. -/
theorem SameConfig_p {c : DConfig} {t0 t1 t2 t3 : List Int} (h : c.few) : wk_SameConfig c (c.voters.length, c.old.length, c.learners.length, c.want.length, ()) (c.voters ++ t0) (c.old ++ t1) (c.learners ++ t2) (c.want ++ t3) = some (true, (c.voters ++ t0, c.old ++ t1, c.learners ++ t2, c.want ++ t3, ())) := by
  obtain ⟨h1, h2, h3, h4⟩ := h
  exact bindS (SameInts_p h1) (condT rfl (bindS (SameInts_p h2) (condT rfl (bindS (SameInts_p h3) (condT rfl (bindS (SameInts_p h4) rfl))))))
theorem SameConfig_3_p {c : DConfig} {t0 t1 t2 t3 : List Int} (h : c.few) : wk_SameConfig_3 (c.voters.length, c.old.length, c.learners.length, c.want.length, ()) c (c.voters ++ t0) (c.old ++ t1) (c.learners ++ t2) (c.want ++ t3) = some (true, (c.voters ++ t0, c.old ++ t1, c.learners ++ t2, c.want ++ t3, ())) := by
  obtain ⟨h1, h2, h3, h4⟩ := h
  exact bindS (SameInts_3_p h1) (condT rfl (bindS (SameInts_3_p h2) (condT rfl (bindS (SameInts_3_p h3) (condT rfl (bindS (SameInts_3_p h4) rfl))))))
theorem SameConfig_5_p {c : DConfig} (h : c.few) : wk_SameConfig_5 (n3 c.voters, n3 c.old, n3 c.learners, n3 c.want, ()) c (c.voters ++ marks 12) (c.old ++ marks 12) (c.learners ++ marks 12) (c.want ++ marks 12) = some (true, (c.voters ++ marks 12, c.old ++ marks 12, c.learners ++ marks 12, c.want ++ marks 12, ())) := by
  obtain ⟨h1, h2, h3, h4⟩ := h
  exact bindS (SameInts_8_p h1) (condT rfl (bindS (SameInts_8_p h2) (condT rfl (bindS (SameInts_8_p h3) (condT rfl (bindS (SameInts_8_p h4) rfl))))))
theorem KeptConfig_2_p {c : DConfig} (h : c.few) : wk_KeptConfig_2 (n3 c.voters, n3 c.old, n3 c.learners, n3 c.want, ()) c (c.voters ++ marks 12) (c.old ++ marks 12) (c.learners ++ marks 12) (c.want ++ marks 12) = some (true, (c.voters ++ marks 12, c.old ++ marks 12, c.learners ++ marks 12, c.want ++ marks 12, ())) := by
  refine bindS (SameConfig_5_p h) (condT rfl ?_)
  obtain ⟨h1, h2, h3, h4⟩ := h
  exact bindS (KeptInts_5_p h1) (condT rfl (bindS (KeptInts_5_p h2) (condT rfl (bindS (KeptInts_5_p h3) (condT rfl (bindS (KeptInts_5_p h4) rfl))))))
theorem SameBase_p {b : DBase} {t0 t1 t2 t3 : List Int} (h : b.config.few) : wk_SameBase b (b.index, b.term_, b.config.voters.length, b.config.old.length, b.config.learners.length, b.config.want.length, ()) (b.config.voters ++ t0) (b.config.old ++ t1) (b.config.learners ++ t2) (b.config.want ++ t3) = some (true, (b.config.voters ++ t0, b.config.old ++ t1, b.config.learners ++ t2, b.config.want ++ t3, ())) :=
  condT (dT rfl) (condT (dT rfl) (bindS (SameConfig_p h) rfl))
theorem SameBase_2_p {b : DBase} {t0 t1 t2 t3 : List Int} (h : b.config.few) : wk_SameBase_2 (b.index, b.term_, b.config.voters.length, b.config.old.length, b.config.learners.length, b.config.want.length, ()) b (b.config.voters ++ t0) (b.config.old ++ t1) (b.config.learners ++ t2) (b.config.want ++ t3) = some (true, (b.config.voters ++ t0, b.config.old ++ t1, b.config.learners ++ t2, b.config.want ++ t3, ())) :=
  condT (dT rfl) (condT (dT rfl) (bindS (SameConfig_3_p h) rfl))
theorem SameBase_3_p {b : DBase} (h : b.config.few) : wk_SameBase_3 (b.index, b.term_, n3 b.config.voters, n3 b.config.old, n3 b.config.learners, n3 b.config.want, ()) b (b.config.voters ++ marks 12) (b.config.old ++ marks 12) (b.config.learners ++ marks 12) (b.config.want ++ marks 12) = some (true, (b.config.voters ++ marks 12, b.config.old ++ marks 12, b.config.learners ++ marks 12, b.config.want ++ marks 12, ())) :=
  condT (dT rfl) (condT (dT rfl) (bindS (SameConfig_5_p h) rfl))
theorem KeptBase_p {b : DBase} (h : b.config.few) : wk_KeptBase (b.index, b.term_, n3 b.config.voters, n3 b.config.old, n3 b.config.learners, n3 b.config.want, ()) b (b.config.voters ++ marks 12) (b.config.old ++ marks 12) (b.config.learners ++ marks 12) (b.config.want ++ marks 12) = some (true, (b.config.voters ++ marks 12, b.config.old ++ marks 12, b.config.learners ++ marks 12, b.config.want ++ marks 12, ())) :=
  bindS (SameBase_3_p h) (condT rfl (bindS (KeptConfig_2_p h) rfl))
theorem KeptImage_p {m : DImage} (h : m.few) : wk_KeptImage (lentI m) m (m.base.config.voters ++ marks 12) (m.base.config.old ++ marks 12) (m.base.config.learners ++ marks 12) (m.base.config.want ++ marks 12) (m.bytes ++ marksB 12) = some (true, (m.base.config.voters ++ marks 12, m.base.config.old ++ marks 12, m.base.config.learners ++ marks 12, m.base.config.want ++ marks 12, m.bytes ++ marksB 12, ())) := by
  have := h.2
  have h5 : m.bytes.length ≤ 1000000 := by omega
  exact bindS (v := (true, (m.base.config.voters ++ marks 12, m.base.config.old ++ marks 12, m.base.config.learners ++ marks 12, m.base.config.want ++ marks 12, m.bytes ++ marksB 12, ()))) (bindS (SameBase_3_p h.1) (condT rfl (bindS (SameBytes_5_p h5) rfl))) (condT rfl (bindS (KeptBase_p h.1) (condT rfl (bindS (KeptBytes_2_p h5) rfl))))
theorem SameImage_p {m : DImage} {t0 t1 t2 t3 : List Int} {t4 : List UInt8} (h : m.few) : wk_SameImage m (m.base.index, m.base.term_, m.base.config.voters.length, m.base.config.old.length, m.base.config.learners.length, m.base.config.want.length, m.bytes.length, ()) (m.base.config.voters ++ t0) (m.base.config.old ++ t1) (m.base.config.learners ++ t2) (m.base.config.want ++ t3) (m.bytes ++ t4) = some (true, (m.base.config.voters ++ t0, m.base.config.old ++ t1, m.base.config.learners ++ t2, m.base.config.want ++ t3, m.bytes ++ t4, ())) := by
  have := h.2
  exact bindS (SameBase_p h.1) (condT rfl (bindS (SameBytes_p (by omega)) rfl))
theorem SameImage_3_p {m : DImage} {t0 t1 t2 t3 : List Int} {t4 : List UInt8} (h : m.few) : wk_SameImage_3 (m.base.index, m.base.term_, m.base.config.voters.length, m.base.config.old.length, m.base.config.learners.length, m.base.config.want.length, m.bytes.length, ()) m (m.base.config.voters ++ t0) (m.base.config.old ++ t1) (m.base.config.learners ++ t2) (m.base.config.want ++ t3) (m.bytes ++ t4) = some (true, (m.base.config.voters ++ t0, m.base.config.old ++ t1, m.base.config.learners ++ t2, m.base.config.want ++ t3, m.bytes ++ t4, ())) := by
  have := h.2
  exact bindS (SameBase_2_p h.1) (condT rfl (bindS (SameBytes_3_p (by omega)) rfl))
/-! Entries. -/
theorem SameConfig_4_p {h : List DEntryX} {k n1 n2 n3 n4 c1 c2 c3 c4 : Nat} {e : DEntryX} {d : DConfig} (hk : h[k]? = some e) (hf : d.few) (e1 : e.config.voters.1 = d.voters) (e2 : e.config.old.1 = d.old) (e3 : e.config.learners.1 = d.learners) (e4 : e.config.want.1 = d.want) (l1 : n1 = d.voters.length) (l2 : n2 = d.old.length) (l3 : n3 = d.learners.length) (l4 : n4 = d.want.length) : wk_SameConfig_4 ((k, 0, n1, c1, ()), (k, 0, n2, c2, ()), (k, 0, n3, c3, ()), (k, 0, n4, c4, ()), ()) d h = some (true, (h, ())) := by
  obtain ⟨h1, h2, h3, h4⟩ := hf
  exact bindS (SameInts_4_p h1 hk e1 l1) (condT rfl (bindS (SameInts_5_p h2 hk e2 l2) (condT rfl (bindS (SameInts_6_p h3 hk e3 l3) (condT rfl (bindS (SameInts_7_p h4 hk e4 l4) rfl))))))
theorem SameEntry_2_p {h : List DEntryX} {k n0 n1 n2 n3 n4 c0 c1 c2 c3 c4 : Nat} {e : DEntryX} {d : DEntry} {t kd : Int} (hk : h[k]? = some e) (hf : d.few) (ht : t = d.term_) (hkd : kd = d.kind) (e0 : e.command.1 = d.command) (e1 : e.config.voters.1 = d.config.voters) (e2 : e.config.old.1 = d.config.old) (e3 : e.config.learners.1 = d.config.learners) (e4 : e.config.want.1 = d.config.want) (l0 : n0 = d.command.length) (l1 : n1 = d.config.voters.length) (l2 : n2 = d.config.old.length) (l3 : n3 = d.config.learners.length) (l4 : n4 = d.config.want.length) : wk_SameEntry_2 (t, kd, (k, 0, n0, c0, ()), (k, 0, n1, c1, ()), (k, 0, n2, c2, ()), (k, 0, n3, c3, ()), (k, 0, n4, c4, ()), ()) d h = some (true, (h, ())) :=
  condT (dT ht) (condT (dT hkd) (bindS (SameBytes_4_p hf.1 hk e0 l0) (condT rfl (bindS (SameConfig_4_p hk hf.2 e1 e2 e3 e4 l1 l2 l3 l4) rfl))))
theorem lnEs_at {l : List DEntry} {i : Nat} (hi : i < l.length) : (lnEs l)[0 + ((i : Nat) : Int).toNat]? = some (lnE l[i]) := by
  rw [Int.toNat_natCast, Nat.zero_add, lnEs, List.getElem?_append_left (by simpa using hi)]
  simp [hi]
theorem lnEs_mark {l : List DEntry} {j : Nat} (h1 : l.length ≤ j) (h2 : j < l.length + 12) : (lnEs l)[0 + ((j : Nat) : Int).toNat]? = some (mE (j - l.length)) := by
  rw [Int.toNat_natCast, Nat.zero_add, lnEs, List.getElem?_append_right (by simpa using h1)]
  simp [mEs, show j - l.length < 12 by omega]
theorem SameEntries_2_p {l : List DEntry} (hn : l.length ≤ 100000) (hf : ∀ e ∈ l, e.few) : wk_SameEntries_2 (0, l.length, l.length + 12, ()) l (lnEs l) = some (true, (lnEs l, ())) := by
  unfold wk_SameEntries_2
  refine condF (by simp) ?_
  refine bindS (loopM_run (step := wk_SameEntries_2_l1) (fun i : Nat => (((0, l.length, l.length + 12, ()), l, (i : Int), ()), (lnEs l, ()))) (N := l.length) (b := .inr ((), (lnEs l, ()))) (fun i hi => ?_) ?_) rfl
  · unfold wk_SameEntries_2_l1
    refine condT (dT (by dsimp only; omega)) ?_
    refine iteT (by dsimp only; omega) ?_
    refine bindS (getI_lt hi) ?_
    refine bindS (lnEs_at hi) ?_
    refine bindS (SameEntry_2_p (lnEs_at hi) (hf _ (List.getElem_mem hi)) rfl rfl rfl rfl rfl rfl rfl rfl rfl rfl rfl rfl) ?_
    refine condF rfl ?_
    dsimp only
    rw [w64 (by omega)]
    rfl
  · unfold wk_SameEntries_2_l1
    exact condF (dF (by dsimp only; omega)) rfl
theorem KeptEntry_p {h : List DEntryX} {k c0 c1 c2 c3 c4 : Nat} {d : DEntry} (hk : h[k]? = some (lnE d)) (hf : d.few) (hc0 : c0 = d.command.length + (marksB 12).length) (hc1 : c1 = d.config.voters.length + (marks 12).length) (hc2 : c2 = d.config.old.length + (marks 12).length) (hc3 : c3 = d.config.learners.length + (marks 12).length) (hc4 : c4 = d.config.want.length + (marks 12).length) : wk_KeptEntry (d.term_, d.kind, (k, 0, d.command.length, c0, ()), (k, 0, d.config.voters.length, c1, ()), (k, 0, d.config.old.length, c2, ()), (k, 0, d.config.learners.length, c3, ()), (k, 0, d.config.want.length, c4, ()), ()) d h = some (true, (h, ())) := by
  rw [marksB_len] at hc0
  rw [marks_len] at hc1 hc2 hc3 hc4
  refine bindS (SameEntry_2_p hk hf rfl rfl rfl rfl rfl rfl rfl rfl rfl rfl rfl rfl) (condT rfl ?_)
  obtain ⟨f0, f1, f2, f3, f4⟩ := hf
  refine bindS (KeptBytes_p f0 hk rfl rfl hc0) (condT rfl ?_)
  exact bindS (v := (true, (h, ()))) (bindS (SameConfig_4_p hk ⟨f1, f2, f3, f4⟩ rfl rfl rfl rfl rfl rfl rfl rfl) (condT rfl (bindS (KeptInts_p f1 hk rfl rfl hc1) (condT rfl (bindS (KeptInts_2_p f2 hk rfl rfl hc2) (condT rfl (bindS (KeptInts_3_p f3 hk rfl rfl hc3) (condT rfl (bindS (KeptInts_4_p f4 hk rfl rfl hc4) rfl))))))))) rfl
theorem dE_few (j : Nat) : (dE j).few := by unfold DEntry.few DConfig.few dE; simp
theorem KeptEntries_p {l : List DEntry} (hn : l.length ≤ 100000) (hf : ∀ e ∈ l, e.few) : wk_KeptEntries (0, l.length, l.length + 12, ()) l (lnEs l) = some (true, (lnEs l, ())) := by
  have hw : IntKind.i64.wrap ((l.length : Int) + 12) = ((l.length + 12 : Nat) : Int) := by rw [w64 (by omega)]; rfl
  unfold wk_KeptEntries
  refine condF (by simp) ?_
  simp only [hw, Int.toNat_natCast, Int.toNat_zero, Nat.add_zero, Nat.sub_zero]
  refine iteT ⟨by omega, by omega, by omega, by omega⟩ ?_
  refine bindS (loopM_run (step := wk_KeptEntries_l1) (fun j : Nat => ((l, (0, l.length + 12, l.length + 12, ()), (j : Int), ()), (lnEs l, ()))) (N := l.length + 12) (b := .inr ((), (lnEs l, ()))) (fun j hj => ?_) ?_) rfl
  · unfold wk_KeptEntries_l1
    refine condT (dT (by dsimp only; omega)) ?_
    by_cases hjl : j < l.length
    · refine condT (dT (by dsimp only; omega)) ?_
      refine iteT (by dsimp only; omega) ?_
      refine bindS (getI_lt hjl) ?_
      refine bindS (lnEs_at hjl) ?_
      refine bindS (KeptEntry_p (lnEs_at hjl) (hf _ (List.getElem_mem hjl)) rfl rfl rfl rfl rfl) ?_
      refine condF rfl ?_
      refine condF (dF (by dsimp only; omega)) ?_
      dsimp only
      rw [w64 (by omega)]
      rfl
    · refine condF (dF (by dsimp only; omega)) ?_
      refine condT (dT (by dsimp only; omega)) ?_
      refine iteT (by dsimp only; omega) ?_
      refine bindS (lnEs_mark (l := l) (j := j) (by omega) (by omega)) ?_
      refine bindS (v := ((mkT (j - l.length), 0, (), (), (), (), (), ()), ())) (by
        dsimp only
        rw [w64 (by omega), show (j : Int) - (l.length : Int) = ((j - l.length : Nat) : Int) from by omega]
        exact markEntry_p _) ?_
      refine bindS (SameEntry_2_p (lnEs_mark (l := l) (j := j) (by omega) (by omega)) (dE_few (j - l.length)) rfl rfl rfl rfl rfl rfl rfl rfl rfl rfl rfl rfl) ?_
      refine condF rfl ?_
      dsimp only
      rw [w64 (by omega)]
      rfl
  · unfold wk_KeptEntries_l1
    exact condF (dF (by dsimp only; omega)) rfl
/-! Letters. -/
abbrev ownL (b : DLetter) : (Int) × (Int) × (Int) × (Int) × (Int) × (Int) × (Int) × (Int) × (Bool) × (Unit) × (Int) × (Int) × (Nat) × (Nat) × (Nat) × (Nat) × (Int) × (Int) × (Int) × (Nat) × Unit :=
  (b.kind, b.group, b.from_, b.to_, b.term_, b.index, b.logTerm, b.commit, b.ok, (), b.base.index, b.base.term_, b.base.config.voters.length, b.base.config.old.length, b.base.config.learners.length, b.base.config.want.length, b.size, b.at_, b.tag, b.bytes.length, ())
theorem SameEntries_nil : wk_SameEntries [] [] = some (true, ()) := by
  unfold wk_SameEntries
  refine condF (by simp) ?_
  refine bindS (v := .inr ((), ())) (loopM_end ?_) rfl
  unfold wk_SameEntries_l1
  exact condF (dF (by simp)) rfl
theorem SameLetter_p {b : DLetter} {t0 t1 t2 t3 : List Int} {t4 : List UInt8} (h : b.few) (he : b.entries = []) : wk_SameLetter (ownL b) b (b.base.config.voters ++ t0) (b.base.config.old ++ t1) (b.base.config.learners ++ t2) (b.base.config.want ++ t3) (b.bytes ++ t4) = some (true, (b.base.config.voters ++ t0, b.base.config.old ++ t1, b.base.config.learners ++ t2, b.base.config.want ++ t3, b.bytes ++ t4, ())) := by
  obtain ⟨h1, h2, h3, h4⟩ := h
  unfold wk_SameLetter
  refine condT (dT rfl) (condT (dT rfl) (condT (dT rfl) (condT (dT rfl) (condT (dT rfl) (condT (dT rfl) (condT (dT rfl) (condT (dT rfl) (condT (dT rfl) ?_))))))))
  rw [he]
  exact bindS SameEntries_nil (condT rfl (bindS (SameBase_2_p h3) (condT rfl (condT (dT rfl) (condT (dT rfl) (condT (dT rfl) (bindS (SameBytes_3_p (by omega)) rfl)))))))
theorem SameLetter_2_p {x : DLetter} (h : x.few) : wk_SameLetter_2 (lentL x) x (lnEs x.entries) (x.base.config.voters ++ marks 12) (x.base.config.old ++ marks 12) (x.base.config.learners ++ marks 12) (x.base.config.want ++ marks 12) (x.bytes ++ marksB 12) = some (true, (lnEs x.entries, x.base.config.voters ++ marks 12, x.base.config.old ++ marks 12, x.base.config.learners ++ marks 12, x.base.config.want ++ marks 12, x.bytes ++ marksB 12, ())) := by
  obtain ⟨h1, h2, h3, h4⟩ := h
  unfold wk_SameLetter_2
  refine condT (dT rfl) (condT (dT rfl) (condT (dT rfl) (condT (dT rfl) (condT (dT rfl) (condT (dT rfl) (condT (dT rfl) (condT (dT rfl) (condT (dT rfl) ?_))))))))
  exact bindS (SameEntries_2_p h1 h2) (condT rfl (bindS (SameBase_3_p h3) (condT rfl (condT (dT rfl) (condT (dT rfl) (condT (dT rfl) (bindS (SameBytes_5_p (by omega)) rfl)))))))
theorem KeptLetter_p {x : DLetter} (h : x.few) : wk_KeptLetter (lentL x) x (lnEs x.entries) (x.base.config.voters ++ marks 12) (x.base.config.old ++ marks 12) (x.base.config.learners ++ marks 12) (x.base.config.want ++ marks 12) (x.bytes ++ marksB 12) = some (true, (lnEs x.entries, x.base.config.voters ++ marks 12, x.base.config.old ++ marks 12, x.base.config.learners ++ marks 12, x.base.config.want ++ marks 12, x.bytes ++ marksB 12, ())) := by
  refine bindS (SameLetter_2_p h) (condT rfl ?_)
  obtain ⟨h1, h2, h3, h4⟩ := h
  exact bindS (KeptEntries_p h1 h2) (condT rfl (bindS (KeptBase_p h3) (condT rfl (bindS (KeptBytes_2_p (by omega)) rfl))))
end Go.Proofs.Ytlaehnldaejipaa
