/- Fill, of lent things and of the document. -/
import Derived.Test.YtlaehnldaejipaaFkd
namespace Go.Proofs.Ytlaehnldaejipaa
open Go.RowKit
set_option maxRecDepth 100000
set_option linter.unusedVariables false
set_option linter.unusedSimpArgs false
theorem CopyInts_p {l : List Int} (h : l.length ≤ 1000000) : watershedkit_CopyInts l = some (l, ((), ())) := iteT ⟨by omega, by omega⟩ rfl
theorem CopyConfig_p {c : DConfig} (h : c.few) : watershedkit_CopyConfig c = some (c, ()) := bindS (CopyInts_p h.1) (bindS (CopyInts_p h.2.1) (bindS (CopyInts_p h.2.2.1) (bindS (CopyInts_p h.2.2.2) rfl)))
theorem CopyBase_p {b : DBase} (h : b.config.few) : watershedkit_CopyBase b = some (b, ()) := bindS (CopyConfig_p h) rfl
def img0 : DImage := ⟨⟨0, 0, ⟨[], [], [], []⟩⟩, []⟩
def fillOk (x : DLetter) (m : DImage) : Prop := x.kind = 5 ∧ x.base.index = m.base.index ∧ x.base.term_ = m.base.term_ ∧ 0 ≤ x.at_ ∧ x.at_ ≤ m.bytes.length
instance (x : DLetter) (m : DImage) : Decidable (fillOk x m) := by unfold fillOk; infer_instance
def fillL (x : DLetter) (m : DImage) : DLetter := { x with entries := [], base := m.base, size := m.bytes.length, bytes := (m.bytes.drop x.at_.toNat).take 600 }
theorem few_nil : (⟨[], [], [], []⟩ : DConfig).few := by unfold DConfig.few; simp
theorem img0_few : img0.few := ⟨few_nil, by simp [img0]⟩
theorem cloneEk54_p {xs t : List Int} {c : Nat} (h : xs.length ≤ 1000000) : cloneEk54 (0, xs.length, c) (xs ++ t) = some (xs.length, (xs ++ t, xs, ())) := by
  unfold cloneEk54
  have : ((xs ++ t).drop 0).take xs.length = xs := by simp
  refine iteT (by dsimp only; rw [this]; exact ⟨by simp, by omega, by omega⟩) ?_
  dsimp only
  rw [this]
theorem own_3_p {b : DBase} {t0 t1 t2 t3 : List Int} (h : b.config.few) : ferry_own_3 (b.index, b.term_, n3 b.config.voters, n3 b.config.old, n3 b.config.learners, n3 b.config.want, ()) (b.config.voters ++ t0) (b.config.old ++ t1) (b.config.learners ++ t2) (b.config.want ++ t3) = some ((b.index, b.term_, b.config.voters.length, b.config.old.length, b.config.learners.length, b.config.want.length, ()), (b.config.voters ++ t0, b.config.old ++ t1, b.config.learners ++ t2, b.config.want ++ t3, b.config.voters, b.config.old, b.config.learners, b.config.want, ())) :=
  bindS (cloneEk54_p h.1) (bindS (cloneEk54_p h.2.1) (bindS (cloneEk54_p h.2.2.1) (bindS (cloneEk54_p h.2.2.2) rfl)))
theorem cut600 {l : List UInt8} {a : Int} {y : Int} (h0 : 0 ≤ a) (h1 : a ≤ l.length) (hy : y = (if (l.length : Int) < a + 600 then (l.length : Int) else a + 600)) : (l.drop a.toNat).take (y.toNat - a.toNat) = (l.drop a.toNat).take 600 := by
  rw [List.take_eq_take_iff]
  simp
  split at hy <;> omega
end Go.Proofs.Ytlaehnldaejipaa
