/- What writes over entries (written by plain13b.py). -/
import Derived.Test.YtlaehnldaejipaaFkb
namespace Go.Proofs.Ytlaehnldaejipaa
open Go.RowKit
set_option maxRecDepth 100000
set_option linter.unusedVariables false
set_option linter.unusedSimpArgs false
/-- The same lengths. -/
def shE (e e2 : DEntryX) : Prop := e2.command.1.length = e.command.1.length ∧ e2.command.2.length = e.command.2.length ∧ e2.config.voters.1.length = e.config.voters.1.length ∧ e2.config.voters.2.length = e.config.voters.2.length ∧ e2.config.old.1.length = e.config.old.1.length ∧ e2.config.old.2.length = e.config.old.2.length ∧ e2.config.learners.1.length = e.config.learners.1.length ∧ e2.config.learners.2.length = e.config.learners.2.length ∧ e2.config.want.1.length = e.config.want.1.length ∧ e2.config.want.2.length = e.config.want.2.length
theorem shE.trans {a b c : DEntryX} (h : shE a b) (h2 : shE b c) : shE a c := by unfold shE at *; omega
/-- Not too long. -/
def smE (e : DEntryX) : Prop := e.command.1.length + e.command.2.length ≤ 2000000 ∧ e.config.voters.1.length + e.config.voters.2.length ≤ 2000000 ∧ e.config.old.1.length + e.config.old.2.length ≤ 2000000 ∧ e.config.learners.1.length + e.config.learners.2.length ≤ 2000000 ∧ e.config.want.1.length + e.config.want.2.length ≤ 2000000
theorem shE.sm {a b : DEntryX} (h : shE a b) (h2 : smE a) : smE b := by unfold shE at h; unfold smE at *; omega
theorem OverIntsv_p {n : Nat} {xs : List Int} (h : n ≤ 1000000) : watershedkit_OverInts_v n xs = some ((), ([], ())) := if_pos h
theorem OverBytesv_p {n : Nat} {xs : List UInt8} (h : n ≤ 1000000) : watershedkit_OverBytes_v n xs = some ((), ([], ())) := if_pos h
theorem OverBase_p {b : DBase} {a0 a1 a2 a3 : List Int} (h : b.config.few) : watershedkit_OverBase (b.index, b.term_, b.config.voters.length, b.config.old.length, b.config.learners.length, b.config.want.length, ()) a0 a1 a2 a3 = some ((), ([], [], [], [], ())) := by
  obtain ⟨f0, f1, f2, f3⟩ := h
  exact bindS (v := ((), ([], [], [], [], ()))) (bindS (OverIntsv_p f0) (bindS (OverIntsv_p f1) (bindS (OverIntsv_p f2) (bindS (OverIntsv_p f3) rfl)))) rfl
theorem OverEntries_nil : watershedkit_OverEntries (0, 0, 0) [] = some ((), ((), ())) := by
  unfold watershedkit_OverEntries
  refine bindS (v := (((0, 0, 0), ()), ((), [], ()))) (loopM_end ?_) ?_
  · unfold watershedkit_OverEntries_l1
    exact condF (dF (by simp)) rfl
  dsimp only
  rw [w64 (by omega)]
  refine iteT (by simp) ?_
  refine bindS (v := ((), ((), ()))) (loopM_end ?_) rfl
  unfold watershedkit_OverEntries_l2
  exact condF (dF (by simp)) rfl
theorem OverLetter_p {b : DLetter} {a0 a1 a2 a3 : List Int} {a4 : List UInt8} (h : b.base.config.few) (hb : b.bytes.length ≤ 1000000) : watershedkit_OverLetter (ownL b) a0 a1 a2 a3 a4 = some ((), ([], [], [], [], [], ())) :=
  bindS OverEntries_nil (bindS (OverBase_p h) (bindS (OverBytesv_p hb) rfl))
end Go.Proofs.Ytlaehnldaejipaa
