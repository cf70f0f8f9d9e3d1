/- The kit's models, plainly: sameness. -/
import Derived.Test.YtlaehnldaejipaaG1
import Derived.Test.YtlaehnldaejipaaPl
namespace Go.Proofs.Ytlaehnldaejipaa
open Go.RowKit
set_option maxRecDepth 100000
set_option linter.unusedVariables false
theorem SameInts_p (x y : List Int) (hx : x.length ≤ 140737488355328) (hy : y.length ≤ 140737488355328) : watershedkit_SameInts x y = some (decide (x = y), ()) := by
  unfold watershedkit_SameInts
  by_cases hl : x.length = y.length
  · have hd : decide (((x.length : Int) : Int) ≠ (y.length : Int)) = false := by simp; omega
    rw [hd]
    rw [same_loop (step := watershedkit_SameInts_l1) x y (fun i => ((x, y, i, ()), ())) (.inl ((false, ()), ())) (.inr ((), ())) hl hx ?_ ?_]
    · by_cases he : x = y <;> simp [he]
    · intro i hi hj
      unfold watershedkit_SameInts_l1
      constructor <;> intro he <;> simp [getI_lt hi, getI_lt hj, he, hi, w64 (n := (i : Int) + 1) (by omega)]
    · unfold watershedkit_SameInts_l1
      simp
  · have hd : decide (((x.length : Int) : Int) ≠ (y.length : Int)) = true := by simp; omega
    have hne : x ≠ y := fun e => hl (by rw [e])
    rw [hd, decide_eq_false hne]
    rfl
theorem SameBytes_p (x y : List UInt8) (hx : x.length ≤ 140737488355328) (hy : y.length ≤ 140737488355328) : watershedkit_SameBytes x y = some (decide (x = y), ()) := by
  unfold watershedkit_SameBytes
  by_cases hl : x.length = y.length
  · have hd : decide (((x.length : Int) : Int) ≠ (y.length : Int)) = false := by simp; omega
    rw [hd]
    rw [same_loop (step := watershedkit_SameBytes_l1) x y (fun i => ((x, y, i, ()), ())) (.inl ((false, ()), ())) (.inr ((), ())) hl hx ?_ ?_]
    · by_cases he : x = y <;> simp [he]
    · intro i hi hj
      unfold watershedkit_SameBytes_l1
      have e2 : ((x[i].toNat : Int) = (y[i].toNat : Int)) ↔ x[i] = y[i] := ⟨fun h => UInt8.toNat_inj.1 (by omega), fun h => by rw [h]⟩
      constructor <;> intro he <;> simp [getI_lt hi, getI_lt hj, e2, he, hi, w64 (n := (i : Int) + 1) (by omega)]
    · unfold watershedkit_SameBytes_l1
      simp
  · have hd : decide (((x.length : Int) : Int) ≠ (y.length : Int)) = true := by simp; omega
    have hne : x ≠ y := fun e => hl (by rw [e])
    rw [hd, decide_eq_false hne]
    rfl
/-- How great things are. -/
def DConfig.small (x : DConfig) : Prop := x.voters.length ≤ 140737488355328 ∧ x.old.length ≤ 140737488355328 ∧ x.learners.length ≤ 140737488355328 ∧ x.want.length ≤ 140737488355328
theorem SameConfig_p (x y : DConfig) (hx : x.small) (hy : y.small) : watershedkit_SameConfig x y = some (decide (x = y), ()) := by
  obtain ⟨x1, x2, x3, x4⟩ := hx
  obtain ⟨y1, y2, y3, y4⟩ := hy
  unfold watershedkit_SameConfig
  rw [SameInts_p _ _ x1 y1, SameInts_p _ _ x2 y2, SameInts_p _ _ x3 y3, SameInts_p _ _ x4 y4]
  obtain ⟨a, b, c, d⟩ := x
  obtain ⟨a', b', c', d'⟩ := y
  by_cases h1 : a = a' <;> by_cases h2 : b = b' <;> by_cases h3 : c = c' <;> by_cases h4 : d = d' <;> simp [h1, h2, h3, h4]
theorem SameBase_p (x y : DBase) (hx : x.config.small) (hy : y.config.small) : watershedkit_SameBase x y = some (decide (x = y), ()) := by
  unfold watershedkit_SameBase
  rw [SameConfig_p _ _ hx hy]
  obtain ⟨a, b, c⟩ := x
  obtain ⟨a', b', c'⟩ := y
  by_cases h1 : a = a' <;> by_cases h2 : b = b' <;> by_cases h3 : c = c' <;> simp [h1, h2, h3]
theorem SameImage_p (x y : DImage) (hx : x.base.config.small) (hy : y.base.config.small) (hxb : x.bytes.length ≤ 140737488355328) (hyb : y.bytes.length ≤ 140737488355328) : watershedkit_SameImage x y = some (decide (x = y), ()) := by
  unfold watershedkit_SameImage
  rw [SameBase_p _ _ hx hy, SameBytes_p _ _ hxb hyb]
  obtain ⟨a, b⟩ := x
  obtain ⟨a', b'⟩ := y
  by_cases h1 : a = a' <;> by_cases h2 : b = b' <;> simp [h1, h2]
end Go.Proofs.Ytlaehnldaejipaa
