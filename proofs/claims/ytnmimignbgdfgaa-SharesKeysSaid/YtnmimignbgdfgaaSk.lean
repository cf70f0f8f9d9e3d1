/- SharesKeys, plainly: the share of a key has it, the share of a span has each key that the span has; the groups of keys are those of their shares. -/
import Derived.Test.YtnmimignbgdfgaaSk0
namespace Go.Proofs.Ytnmimignbgdfgaa
open Go.RowKit
set_option maxRecDepth 100000
set_option linter.unusedVariables false
set_option linter.unusedSimpArgs false
/-- The share of a span. -/
def inF (s : DShares) (a : DSpan) : Option DShare := pickF s fun x => withinB a x.span
theorem SharesKeys_p (x0 : DShares) (x1 : DSpan) (x2 x3 : List UInt8) (k0 : ok_DShares x0) (k1 : ok_DSpan x1) (k2 : ok_ListUInt8 x2) (k3 : ok_ListUInt8 x3) : watershedlaw05_SharesKeys x0 x1 x2 x3 = some (true, ()) := by
  obtain ⟨r, hg, hgf⟩ := great_p x0 [x1.lo, x1.hi, x2, x3] (by simp)
  unfold watershedlaw05_SharesKeys
  refine bindS awake_p ?_
  refine condF rfl ?_
  refine bindS hg ?_
  cases r with
  | true => exact condT rfl rfl
  | false =>
  refine condF rfl ?_
  have h : OkSh x0 := ⟨hgf rfl, fun x hx => OkSp.of (k0.2.1.2 x hx).1⟩
  have hin : OkSp x1 := .of k1
  have hx : OkT x2 := k2
  have hy : OkT x3 := k3
  have tail := keysTail_p h hx hy
  refine bindS (v := (((ofF x0 x2).getD noSh, (ofF x0 x2).isSome, ()), ())) (Of_p h hx) ?_
  refine bindS (v := (((inF x0 x1).getD noSh, (inF x0 x1).isSome, ()), ())) (In_p h hin) ?_
  have hB : ∀ b, inF x0 x1 = some b → withinB x1 b.span = true ∧ OkSp b.span := fun b hb => by
    obtain ⟨_, i, hi, rfl, hp⟩ := pick_some hb
    exact ⟨hp, h.sp _ (List.getElem_mem hi)⟩
  cases hA : ofF x0 x2 with
  | some a =>
    obtain ⟨hr, i, hi, hai, hp⟩ := pick_some hA
    have hsa : OkSp a.span := by rw [← hai]; exact h.sp _ (List.getElem_mem hi)
    have hkey : keyB x2 = true := by
      simp only [hasB, Bool.and_eq_true] at hp
      exact hp.2.1
    rw [hA] at tail
    refine condT rfl ?_
    refine bindS (Has_p (s := a.span) hsa hx) ?_
    refine condF (by dsimp only; rw [hp]; rfl) ?_
    refine bindS (Right_sh h) ?_
    refine condT hr ?_
    refine bindS (Key_p hx) ?_
    refine condF (by dsimp only; rw [hkey]; rfl) ?_
    cases hb : inF x0 x1 with
    | none =>
      refine condF rfl ?_
      exact condF rfl tail
    | some b =>
      obtain ⟨hw, hsb⟩ := hB b hb
      refine condT rfl ?_
      refine bindS (Has_p hin hx) ?_
      have rest : ((span_Within x1 b.span).bind fun r9 => (bif (!r9.1) then some (false, ()) else keysTail a true x0 x2 x3)) = some (true, ()) := by
        refine bindS (Within_p hin hsb) ?_
        exact condF (by dsimp only; rw [hw]; rfl) tail
      cases hh : hasB x1 x2
      · refine condF rfl ?_
        refine condT rfl ?_
        exact rest
      · refine condT rfl ?_
        have hab : a = b := by
          obtain ⟨_, j, hj, hbj, _⟩ := pick_some hb
          have h2 : hasB b.span x2 = true := within_has hw hh
          rw [← hai] at hp
          rw [← hbj] at h2
          have := one_key hr hi hj hp h2
          subst this
          rw [← hai, ← hbj]
        subst hab
        refine condF (by simp) ?_
        refine condT rfl ?_
        exact rest
  | none =>
    rw [hA] at tail
    refine condF rfl ?_
    refine bindS (Right_sh h) ?_
    have hno : (rightW x0 && x0.list.any (fun x => hasB x.span x2)) = false := by
      have := pick_is (s := x0) (p := fun x => hasB x.span x2)
      change (ofF x0 x2).isSome = _ at this
      rw [hA] at this
      exact this.symm
    cases hr : rightW x0 with
    | false =>
      have hb : inF x0 x1 = none := by
        have := pick_is (s := x0) (p := fun x => withinB x1 x.span)
        rw [hr] at this
        cases hq : inF x0 x1 with
        | none => rfl
        | some b => change (inF x0 x1).isSome = _ at this; rw [hq] at this; cases this
      refine condF rfl ?_
      refine condF rfl ?_
      rw [hb]
      refine condF rfl ?_
      exact condF rfl tail
    | true =>
      rw [hr, any_key hr] at hno
      have hkey : keyB x2 = false := hno
      refine condT rfl ?_
      refine bindS (Key_p hx) ?_
      refine condF (by dsimp only; rw [hkey]; rfl) ?_
      cases hb : inF x0 x1 with
      | none =>
        refine condF rfl ?_
        exact condF rfl tail
      | some b =>
        obtain ⟨hw, hsb⟩ := hB b hb
        refine condT rfl ?_
        refine bindS (Has_p hin hx) ?_
        have hh : hasB x1 x2 = false := by
          cases hq : hasB x1 x2
          · rfl
          · simp only [hasB, Bool.and_eq_true] at hq
            rw [hkey] at hq
            cases hq.2.1
        refine condF hh ?_
        refine condT rfl ?_
        refine bindS (v := (withinB x1 b.span, ())) (Within_p hin hsb) ?_
        exact condF (by rw [hw]; rfl) tail
end Go.Proofs.Ytnmimignbgdfgaa
