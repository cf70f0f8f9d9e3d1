/- What a turn makes of shares, plainly. -/
import Derived.Test.YtcamfdmgpmdmhaaSky
namespace Go.Proofs.Ytcamfdmgpmdmhaa
open Go.RowKit
set_option maxRecDepth 100000
set_option linter.unusedVariables false
set_option linter.unusedSimpArgs false
/-- A piece of a share. -/
def pieceF (x : DShare) (a : DSpan) (g e : Int) (s : DSpan) : DShare := bif decide (s.lo = a.lo) && (decide (s.hi = a.hi) && true) then ⟨s, g, e⟩ else ⟨s, x.group, x.epoch⟩
def partF (x : DShare) (a : DSpan) (g e : Int) : List DShare := (cutF x.span (at2 a.lo a.hi)).map (pieceF x a g e)
theorem at2_len (x y : Tx) : (at2 x y).length ≤ 2 := by
  unfold at2
  split
  · simp
  · split <;> simp
theorem parted_p {x : DShare} {a : DSpan} {g e : Int} (hx : OkSp x.span) (ha : OkSp a) (hr : rightB x.span = true) : shares_parted x a g e = some (partF x a g e, ((), ())) := by
  have hl := cutF_len x.span (at2 a.lo a.hi)
  have hl2 := at2_len a.lo a.hi
  unfold shares_parted
  refine bindS (CutAt_p hx ha.1 ha.2 hr) ?_
  unfold partF
  generalize cutF x.span (at2 a.lo a.hi) = l at *
  have h := loopM_run (step := shares_parted_l1) (fun i : Nat => ((g, e, (), (), (l.take i).map (pieceF x a g e), l, (l.length : Int), (i : Int), ()), (x, a, (), (), ()))) (N := l.length) (b := ((l.map (pieceF x a g e), ()), (x, a, (), (), (), ())))
    (fun i hi => by
      unfold shares_parted_l1
      refine condT (dT (by dsimp only; omega)) (bindS (getI_lt hi) ?_)
      have ht : (l.take (i + 1)).map (pieceF x a g e) = (l.take i).map (pieceF x a g e) ++ [pieceF x a g e l[i]] := by
        rw [List.take_succ_eq_append_getElem hi, List.map_append]
        rfl
      rw [ht]
      unfold pieceF
      cases (decide (l[i].lo = a.lo) && (decide (l[i].hi = a.hi) && true))
      · refine condF rfl (iteT (by simp; omega) ?_)
        dsimp only
        rw [w64 (by omega)]
        rfl
      · refine condT rfl (iteT (by simp; omega) ?_)
        dsimp only
        rw [w64 (by omega)]
        rfl)
    (by
      unfold shares_parted_l1
      refine condF (dF (by dsimp only; omega)) ?_
      dsimp only
      rw [List.take_length])
  exact bindS h rfl
/-- Shares, turned at a place. -/
def turnF (s : DShares) (i : Nat) (a : DSpan) (g : Int) : DShares := ⟨s.epoch + 1, s.list.take i ++ partF (s.list[i]?.getD noSh) a g (s.epoch + 1) ++ s.list.drop (i + 1)⟩
theorem cutF_ne (s : DSpan) (l : List Tx) : 1 ≤ (cutF s l).length := by
  induction l generalizing s with
  | nil => simp [cutF]
  | cons k l ih =>
    unfold cutF
    cases hasB s k
    · exact ih s
    · by_cases h : k = s.lo
      · simp [h]; exact ih s
      · simp [h]
theorem at_in {s : DShares} (h : OkSh s) {a : DSpan} (ha : OkSp a) : shares_at ⟨s⟩ a = some (bif rightW s then ixF (fun x => withinB a x.span) s.list else -1, (a, ())) := by
  unfold shares_at
  refine bindS (right_p h) ?_
  cases rightW s
  · rfl
  · exact condF rfl (bindS (ix0_p h.len h.sp ha) rfl)
theorem within_right {a b : DSpan} (h : withinB a b = true) : rightB a = true ∧ rightB b = true := by
  simp only [withinB, Bool.and_eq_true] at h
  exact ⟨h.1, h.2.1⟩
/-- What a turn tells. -/
theorem Turn_p {s : DShares} (h : OkSh s) {a : DSpan} (ha : OkSp a) (g : Int) : ∃ t e, shares_Turn s a g = some ((t, e, ()), ()) ∧ (e ≠ 0 → t = ⟨0, []⟩) ∧ (e = 0 → rightW s = true ∧ (1 ≤ g ∧ g ≤ 4) ∧ s.epoch ≠ 1073741824 ∧ ∃ (i : Nat) (hi : i < s.list.length), withinB a s.list[i].span = true ∧ s.list[i].group ≠ g ∧ t = turnF s i a g ∧ t.list.length ≤ 40 ∧ pickF s (fun x => withinB a x.span) = some s.list[i]) := by
  unfold shares_Turn
  rw [at_in h ha, Option.bind_some, right_p h, Option.bind_some]
  cases hr : rightW s with
  | false => exact ⟨_, _, condT rfl rfl, fun _ => rfl, fun h => by cases h⟩
  | true =>
  simp only [Bool.not_true, cond_false, cond_true]
  rw [Right_p ha, Option.bind_some]
  cases hra : rightB a with
  | false => exact ⟨_, _, condT rfl rfl, fun _ => rfl, fun h => by cases h⟩
  | true =>
  simp only [Bool.not_true, cond_false]
  rw [within_p, Option.bind_some]
  by_cases hg : 1 ≤ g ∧ g ≤ 4
  rotate_left
  · refine ⟨_, _, condT (by
      rw [Bool.not_eq_true', Bool.and_eq_false_iff]
      by_cases h1 : 1 ≤ g
      · exact .inr (dF fun h2 => hg ⟨h1, h2⟩)
      · exact .inl (dF h1)) rfl, fun _ => rfl, fun h => by cases h⟩
  have hgb : (!(decide (1 ≤ g) && decide (g ≤ 4))) = false := by rw [dT hg.1, dT hg.2]; rfl
  rw [hgb, cond_false]
  unfold ixF
  by_cases hany : s.list.any (fun x => withinB a x.span) = true
  rotate_left
  · rw [if_neg hany]
    exact ⟨_, _, condT rfl rfl, fun _ => rfl, fun h => by cases h⟩
  rw [if_pos hany]
  obtain ⟨hi, hp⟩ := ix_get hany
  have hpk : pickF s (fun x => withinB a x.span) = some (s.list[s.list.findIdx (fun x => withinB a x.span)]) := by
    unfold pickF
    rw [if_pos ⟨hr, hany⟩, List.getElem?_eq_getElem hi]
  generalize s.list.findIdx (fun x => withinB a x.span) = i at *
  rw [dF (by omega : ¬ (i : Int) < 0), cond_false, getI_lt hi, Option.bind_some, Option.bind_some]
  by_cases hgr : s.list[i].group = g
  · rw [dT hgr, cond_true]
    exact ⟨_, _, rfl, fun _ => rfl, fun h => by cases h⟩
  rw [dF hgr, cond_false]
  have hsx : OkSp s.list[i].span := h.sp _ (List.getElem_mem hi)
  have hlen := h.len
  have hc : cloneA43 s.list = some (s.list.length, (s.list, ())) := by
    unfold cloneA43
    exact if_pos (by omega)
  have he : 1 ≤ s.epoch ∧ s.epoch ≤ 1073741824 := by
    unfold rightW at hr
    simp only [Bool.and_eq_true, decide_eq_true_eq] at hr
    exact hr.1
  have hw : IntKind.i64.wrap (s.epoch + 1) = s.epoch + 1 := w64 (by omega)
  have hl1 := cutF_len s.list[i].span (at2 a.lo a.hi)
  have hl2 := at2_len a.lo a.hi
  have hl3 := cutF_ne s.list[i].span (at2 a.lo a.hi)
  have hpl : (partF s.list[i] a g (s.epoch + 1)).length = (cutF s.list[i].span (at2 a.lo a.hi)).length := by unfold partF; simp
  rw [hc, Option.bind_some, hw, parted_p hsx ha (within_right hp).2, Option.bind_some]
  dsimp only
  rw [w64 (by omega)]
  have hrp : replace s.list.length (i : Int) ((i : Int) + 1) (partF s.list[i] a g (s.epoch + 1)) s.list = some (s.list.take i ++ partF s.list[i] a g (s.epoch + 1) ++ s.list.drop (i + 1), ((), (), ())) := by
    unfold replace
    rw [if_pos ⟨rfl, by omega, by omega, by omega, by omega, by omega⟩]
    have : ((i : Int) + 1).toNat = i + 1 := by omega
    rw [this, Int.toNat_natCast]
  rw [hrp, Option.bind_some]
  by_cases hme : s.epoch = 1073741824
  · rw [dT hme, cond_true]
    exact ⟨_, _, rfl, fun _ => rfl, fun h => by cases h⟩
  rw [dF hme, cond_false]
  dsimp only
  have htf : turnF s i a g = ⟨s.epoch + 1, s.list.take i ++ partF s.list[i] a g (s.epoch + 1) ++ s.list.drop (i + 1)⟩ := by
    unfold turnF
    rw [List.getElem?_eq_getElem hi]
    rfl
  by_cases hmx : (40 : Int) < ((s.list.take i ++ partF s.list[i] a g (s.epoch + 1) ++ s.list.drop (i + 1)).length : Int)
  · rw [dT hmx, cond_true]
    exact ⟨_, _, rfl, fun _ => rfl, fun h => by cases h⟩
  · rw [dF hmx, cond_false]
    exact ⟨_, _, rfl, fun h => absurd rfl h, fun _ => ⟨trivial, hg, hme, i, hi, hp, hgr, htf.symm, by dsimp only; omega, hpk⟩⟩
end Go.Proofs.Ytcamfdmgpmdmhaa
