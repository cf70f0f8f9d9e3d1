/- What the laws of chapter 05 begin with; SharesKeys, plainly. -/
import Derived.Test.YtnmimignbgdfgaaSh
namespace Go.Proofs.Ytnmimignbgdfgaa
open Go.RowKit
set_option maxRecDepth 100000
set_option linter.unusedVariables false
set_option linter.unusedSimpArgs false
theorem Sorted2_p (x y : Tx) : slices_Sorted [x, y] = some ((0, 2), ([x, y], (if y < x then [y, x] else [x, y]), ())) := by
  unfold slices_Sorted slices_Collect appendSeq
  rw [if_pos (by simp)]
  exact bindS rfl (bindS (Sort2T_p x y) rfl)
theorem Cut2_p {s : DSpan} {x y : Tx} (hs : OkSp s) (hx : OkT x) (hy : OkT y) (hr : rightB s = true) (hn : x ≠ y) : span_Cut s [x, y] = some (cutF s (if y < x then [y, x] else [x, y]), ((), ())) := by
  unfold span_Cut
  rw [Right_p hs, hr]
  refine bindS rfl ?_
  refine condF rfl ?_
  refine bindS rfl ?_
  refine bindS (Sorted2_p x y) ?_
  have key : ∀ u v : Tx, u ≠ v → OkT u → OkT v → ((slices_Compact (0, 2) [u, v]).bind fun r4 =>
  (loopM span_Cut_l1 (((), [], (r4.1.1, r4.1.2), ((r4.1.2 : Nat) : Int), 0, ()), (s, r4.2.1, (), ()))).bind fun b5 =>
  (if b5.1.2.1.length + ([b5.2.1] : List (DSpan)).length ≤ 140737488355328 ∧ (b5.1.2.1.length + ([b5.2.1] : List (DSpan)).length) * 32 ≤ 140737488355328 then
  some ((b5.1.2.1 ++ ([b5.2.1] : List (DSpan))), ((), ()))
  else none)) = some (cutF s [u, v], ((), ())) := fun u v huv hu hv => by
    refine bindS (Compact2T_p u v) ?_
    rw [if_neg (Ne.symm huv), if_neg (Ne.symm huv)]
    obtain ⟨out, s', h1, h2⟩ := cutLoop_p (at_ := []) [] (xs := [u, v]) (by simpa using ⟨hu, hv⟩) (by simp) hs
    refine bindS h1 ?_
    have hl := cutF_len s [u, v]
    rw [← h2] at hl
    simp at hl
    refine iteT (by dsimp only; simp; omega) ?_
    rw [← h2]
  by_cases h : y < x
  · rw [if_pos h]; exact key y x (Ne.symm hn) hy hx
  · rw [if_neg h]; exact key x y hn hx hy
theorem Cut2e_p {s : DSpan} {x : Tx} (hs : OkSp s) (hx : OkT x) (hr : rightB s = true) : span_Cut s [x, x] = some (cutF s [x], ((), ())) := by
  unfold span_Cut
  rw [Right_p hs, hr]
  refine bindS rfl ?_
  refine condF rfl ?_
  refine bindS rfl ?_
  refine bindS (Sorted2_p x x) ?_
  dsimp only
  rw [if_neg (by simp)]
  refine bindS (Compact2T_p x x) ?_
  rw [if_pos rfl, if_pos rfl]
  obtain ⟨out, s', h1, h2⟩ := cutLoop_p (at_ := []) [[]] (xs := [x]) (by simpa using hx) (by simp) hs
  refine bindS h1 ?_
  have hl := cutF_len s [x]
  rw [← h2] at hl
  simp at hl
  refine iteT (by dsimp only; simp; omega) ?_
  rw [← h2]
/-- The places of a cut at two texts. -/
def at2 (x y : Tx) : List Tx := if x = y then [x] else if y < x then [y, x] else [x, y]
theorem CutAt_p {s : DSpan} {x y : Tx} (hs : OkSp s) (hx : OkT x) (hy : OkT y) (hr : rightB s = true) : span_Cut s [x, y] = some (cutF s (at2 x y), ((), ())) := by
  unfold at2
  by_cases h : x = y
  · subst h
    rw [if_pos rfl]
    exact Cut2e_p hs hx hr
  · rw [if_neg h]
    exact Cut2_p hs hx hy hr h
theorem ok0 : OkSp ⟨[], []⟩ := ⟨by simp [OkT], by simp [OkT]⟩
theorem okm : OkSp ⟨[109], []⟩ := ⟨by simp [OkT], by simp [OkT]⟩
theorem cut_m : cutF ⟨[], []⟩ [[], [109]] = [⟨[], [109]⟩, ⟨[109], []⟩] := by decide +kernel
theorem First_p : shares_First 1 = some (⟨1, [⟨⟨[], []⟩, 1, 1⟩]⟩, ()) := by
  unfold shares_First
  refine bindS (within_p _ _ _) ?_
  exact condF (by decide) (bindS rfl rfl)
theorem parted_m : shares_parted ⟨⟨[], []⟩, 1, 1⟩ ⟨[109], []⟩ 2 2 = some ([⟨⟨[], [109]⟩, 1, 1⟩, ⟨⟨[109], []⟩, 2, 2⟩], ((), ())) := by
  have hc : span_Cut ⟨[], []⟩ [[109], []] = some ([⟨[], [109]⟩, ⟨[109], []⟩], ((), ())) := by
    rw [Cut2_p ok0 (by simp [OkT]) (by simp [OkT]) (by decide +kernel) (by simp), if_pos (by decide), cut_m]
  have l1 : shares_parted_l1 ((2, 2, (), (), [], [⟨[], [109]⟩, ⟨[109], []⟩], 2, 0, ()), (⟨⟨[], []⟩, 1, 1⟩, ⟨[109], []⟩, (), (), ())) = some (.inl ((2, 2, (), (), [⟨⟨[], [109]⟩, 1, 1⟩], [⟨[], [109]⟩, ⟨[109], []⟩], 2, 1, ()), (⟨⟨[], []⟩, 1, 1⟩, ⟨[109], []⟩, (), (), ()))) := by
    unfold shares_parted_l1
    refine condT rfl (bindS (v := ⟨[], [109]⟩) rfl (condF (by decide) (iteT (by simp) ?_)))
    rfl
  have l2 : shares_parted_l1 ((2, 2, (), (), [⟨⟨[], [109]⟩, 1, 1⟩], [⟨[], [109]⟩, ⟨[109], []⟩], 2, 1, ()), (⟨⟨[], []⟩, 1, 1⟩, ⟨[109], []⟩, (), (), ())) = some (.inl ((2, 2, (), (), [⟨⟨[], [109]⟩, 1, 1⟩, ⟨⟨[109], []⟩, 2, 2⟩], [⟨[], [109]⟩, ⟨[109], []⟩], 2, 2, ()), (⟨⟨[], []⟩, 1, 1⟩, ⟨[109], []⟩, (), (), ()))) := by
    unfold shares_parted_l1
    refine condT rfl (bindS (v := ⟨[109], []⟩) rfl (condT (by decide) (iteT (by simp) ?_)))
    rfl
  have l3 : shares_parted_l1 ((2, 2, (), (), [⟨⟨[], [109]⟩, 1, 1⟩, ⟨⟨[109], []⟩, 2, 2⟩], [⟨[], [109]⟩, ⟨[109], []⟩], 2, 2, ()), (⟨⟨[], []⟩, 1, 1⟩, ⟨[109], []⟩, (), (), ())) = some (.inr (([⟨⟨[], [109]⟩, 1, 1⟩, ⟨⟨[109], []⟩, 2, 2⟩], ()), (⟨⟨[], []⟩, 1, 1⟩, ⟨[109], []⟩, (), (), (), ()))) := by
    unfold shares_parted_l1
    exact condF rfl rfl
  unfold shares_parted
  refine bindS hc ?_
  refine bindS ((loopM_next l1).trans ((loopM_next l2).trans (loopM_end l3))) ?_
  rfl
theorem okf : OkSh ⟨1, [⟨⟨[], []⟩, 1, 1⟩]⟩ := ⟨by simp, by simpa using ok0⟩
theorem Turn_m : shares_Turn ⟨1, [⟨⟨[], []⟩, 1, 1⟩]⟩ ⟨[109], []⟩ 2 = some ((⟨2, [⟨⟨[], [109]⟩, 1, 1⟩, ⟨⟨[109], []⟩, 2, 2⟩]⟩, 0, ()), ()) := by
  have hr : rightW ⟨1, [⟨⟨[], []⟩, 1, 1⟩]⟩ = true := by decide +kernel
  have ha : shares_at ⟨⟨1, [⟨⟨[], []⟩, 1, 1⟩]⟩⟩ ⟨[109], []⟩ = some (0, (⟨[109], []⟩, ())) := by
    unfold shares_at
    refine bindS (right_p okf) ?_
    refine condF (by rw [hr]; rfl) ?_
    refine bindS (ix0_p okf.len okf.sp okm) ?_
    have : ixF (fun x => withinB ⟨[109], []⟩ x.span) [⟨⟨[], []⟩, 1, 1⟩] = 0 := by decide +kernel
    dsimp only
    rw [this]
  unfold shares_Turn
  refine bindS ha ?_
  refine bindS (right_p okf) ?_
  refine condF (by rw [hr]; rfl) ?_
  refine bindS (Right_p okm) ?_
  refine condF (by decide +kernel) ?_
  refine bindS (within_p _ _ _) ?_
  refine condF (by decide) ?_
  refine condF rfl ?_
  refine bindS (v := ⟨⟨[], []⟩, 1, 1⟩) rfl ?_
  refine condF (by decide) ?_
  refine bindS (v := ⟨⟨[], []⟩, 1, 1⟩) rfl ?_
  refine bindS (v := (1, ([⟨⟨[], []⟩, 1, 1⟩], ()))) (by unfold cloneA27; exact if_pos (by simp)) ?_
  refine bindS (v := ([⟨⟨[], [109]⟩, 1, 1⟩, ⟨⟨[109], []⟩, 2, 2⟩], ((), ()))) (by
    show shares_parted _ _ _ (IntKind.i64.wrap (1 + 1)) = _
    rw [show IntKind.i64.wrap (1 + 1) = 2 from by decide]
    exact parted_m) ?_
  refine bindS (v := ([⟨⟨[], [109]⟩, 1, 1⟩, ⟨⟨[109], []⟩, 2, 2⟩], ((), (), ()))) (by
    unfold replace
    dsimp only
    rw [show IntKind.i64.wrap (0 + 1) = 1 from by decide]
    exact if_pos ⟨rfl, by omega, by omega, by simp, by simp, by simp⟩) ?_
  refine condF (by decide) ?_
  refine condF rfl ?_
  rfl
theorem awake_p : watershedlaw05_awake = some (true, ()) := by
  unfold watershedlaw05_awake
  refine bindS First_p ?_
  refine bindS Turn_m ?_
  refine condT rfl (condT rfl (condT rfl ?_))
  refine bindS (v := ⟨⟨[], [109]⟩, 1, 1⟩) rfl (condT (by decide) ?_)
  refine bindS (v := ⟨⟨[109], []⟩, 2, 2⟩) rfl ?_
  exact congrArg (fun b => some (b, ())) (by decide)
theorem great_p (s : DShares) (l : List Tx) (hl : l.length ≤ 60) : ∃ r, watershedlaw05_great s l = some (r, ()) ∧ (r = false → s.list.length ≤ 60) := by
  unfold watershedlaw05_great
  by_cases h : 60 < s.list.length
  · exact ⟨true, condT (dT (by omega)) rfl, fun h => by cases h⟩
  · have k1 : ∃ z, loopM watershedlaw05_great_l1 ((l, (), 0, ()), (s, ())) = some z ∧ (z = .inl ((true, ()), (s, ())) ∨ z = .inr ((l, ()), (s, ()))) := by
      refine loopM_spec (fun n a => ∃ i : Nat, a = ((l, (), (i : Int), ()), (s, ())) ∧ i ≤ s.list.length ∧ n = s.list.length - i) _ ?_ (n := s.list.length) ⟨0, rfl, Nat.zero_le _, rfl⟩
      rintro n a ⟨i, rfl, h1, rfl⟩
      unfold watershedlaw05_great_l1
      by_cases hi : i < s.list.length
      · by_cases hc : (100 : Int) < IntKind.i64.wrap ((s.list[i].span.lo.length : Int) + (s.list[i].span.hi.length : Int))
        · right
          exact ⟨_, condT (dT (by dsimp only; omega)) (bindS (getI_lt hi) (bindS (getI_lt hi) (condT (dT hc) rfl))), .inl rfl⟩
        · left
          refine ⟨s.list.length - (i + 1), _, by omega, condT (dT (by dsimp only; omega)) (bindS (getI_lt hi) (bindS (getI_lt hi) (condF (dF hc) rfl))), i + 1, ?_, by omega, rfl⟩
          dsimp only
          rw [w64 (by omega)]
          rfl
      · right
        exact ⟨_, condF (dF (by dsimp only; omega)) rfl, .inr rfl⟩
    have k2 : ∃ z, loopM watershedlaw05_great_l2 ((l, 0, ()), ()) = some z ∧ (z = .inl ((true, ()), ()) ∨ z = .inr ((), ())) := by
      refine loopM_spec (fun n a => ∃ i : Nat, a = ((l, (i : Int), ()), ()) ∧ i ≤ l.length ∧ n = l.length - i) _ ?_ (n := l.length) ⟨0, rfl, Nat.zero_le _, rfl⟩
      rintro n a ⟨i, rfl, h1, rfl⟩
      unfold watershedlaw05_great_l2
      by_cases hi : i < l.length
      · by_cases hc : (100 : Int) < (l[i].length : Int)
        · right
          exact ⟨_, condT (dT (by dsimp only; omega)) (bindS (getI_lt hi) (condT (dT hc) rfl)), .inl rfl⟩
        · left
          refine ⟨l.length - (i + 1), _, by omega, condT (dT (by dsimp only; omega)) (bindS (getI_lt hi) (condF (dF hc) rfl)), i + 1, ?_, by omega, rfl⟩
          dsimp only
          rw [w64 (by omega)]
          rfl
      · right
        exact ⟨_, condF (dF (by dsimp only; omega)) rfl, .inr rfl⟩
    obtain ⟨z1, e1, r1⟩ := k1
    obtain ⟨z2, e2, r2⟩ := k2
    refine (fun ⟨r, hr⟩ => ⟨r, hr, fun _ => by omega⟩ : (∃ r, _ = some (r, ())) → _) ?_
    rcases r1 with rfl | rfl
    · exact ⟨true, condF (dF (by omega)) (condF (dF (by omega)) (bindS e1 rfl))⟩
    · rcases r2 with rfl | rfl
      · exact ⟨true, condF (dF (by omega)) (condF (dF (by omega)) (bindS e1 (bindS e2 rfl)))⟩
      · exact ⟨false, condF (dF (by omega)) (condF (dF (by omega)) (bindS e1 (bindS e2 rfl)))⟩
/-- The shares of a key. -/
def ofF (s : DShares) (k : Tx) : Option DShare := pickF s fun x => hasB x.span k
theorem Groups_none {s : DShares} (h : OkSh s) {x y : Tx} (hx : OkT x) (hy : OkT y) (hn : ofF s x = none ∨ ofF s y = none) : shares_Groups s [x, y] = some (((0, 0), false, ()), ([], ())) := by
  unfold shares_Groups
  refine bindS (Right_sh h) ?_
  cases hr : rightW s
  · rfl
  refine condF rfl ?_
  have e1 : ([x, y] : List Tx).length = 2 := rfl
  have st : ∀ (n : Nat) (i : Nat) (k : Tx) (arr : List Int), [x, y][i]? = some k → OkT k → ofF s k = none → shares_Groups_l1 (((), n, [x, y], 2, (i : Int), ()), (s, arr, ())) = some (.inr (.inl (((), false, ()), (s, (), ())))) := fun n i k arr hk hok hnn => by
    have hi : i < 2 := by rw [← e1]; exact (List.getElem?_eq_some_iff.1 hk).1
    unfold shares_Groups_l1
    have ho : shares_Of s k = some ((noSh, false, ()), ()) := by
      have := Of_p h hok
      change shares_Of s k = some (((ofF s k).getD noSh, (ofF s k).isSome, ()), ()) at this
      rw [hnn] at this
      exact this
    exact condT (dT (by dsimp only; omega)) (bindS (v := k) (by rw [getI_nat]; exact hk) (bindS ho (condT rfl rfl)))
  have st2 : ∀ (n : Nat) (i : Nat) (k : Tx) (arr : List Int) (a : DShare), [x, y][i]? = some k → OkT k → ofF s k = some a → n ≤ 2 → n ≤ arr.length → shares_Groups_l1 (((), n, [x, y], 2, (i : Int), ()), (s, arr, ())) = some (.inl (((), n + 1, [x, y], 2, ((i + 1 : Nat) : Int), ()), (s, arr.take n ++ [a.group], ()))) := fun n i k arr a hk hok ha hn2 hna => by
    have hi : i < 2 := by rw [← e1]; exact (List.getElem?_eq_some_iff.1 hk).1
    unfold shares_Groups_l1
    have ho : shares_Of s k = some ((a, true, ()), ()) := by
      have := Of_p h hok
      change shares_Of s k = some (((ofF s k).getD noSh, (ofF s k).isSome, ()), ()) at this
      rw [ha] at this
      exact this
    refine condT (dT (by dsimp only; omega)) (bindS (v := k) (by rw [getI_nat]; exact hk) (bindS ho (condF rfl (iteT (by simp; omega) ?_))))
    dsimp only
    rw [w64 (by omega)]
    rfl
  change ((loopM shares_Groups_l1 (((), 0, [x, y], 2, ((0 : Nat) : Int), ()), (s, [], ()))).bind _) = _
  cases hx' : ofF s x with
  | none =>
    rw [loopM_end (st 0 0 x [] rfl hx hx')]
    rfl
  | some a =>
    have hy' : ofF s y = none := by
      rcases hn with hn | hn
      · rw [hx'] at hn; cases hn
      · exact hn
    rw [loopM_next (st2 0 0 x [] a rfl hx hx' (by omega) (by simp)), loopM_end (st 1 1 y _ rfl hy hy')]
    rfl
theorem Groups_two {s : DShares} (h : OkSh s) {x y : Tx} (hx : OkT x) (hy : OkT y) {a c : DShare} (ha : ofF s x = some a) (hc : ofF s y = some c) :
    ∃ u v : Int, (u = (if c.group < a.group then c.group else a.group) ∧ v = (if a.group < c.group then c.group else a.group)) ∧ shares_Groups s [x, y] = some (((0, if v = u then 1 else 2), true, ()), ((if v = u then [u, 0] else [u, v]), ())) := by
  have hr : rightW s = true := (pick_some ha).1
  have e1 : ([x, y] : List Tx).length = 2 := rfl
  have st2 : ∀ (n : Nat) (i : Nat) (k : Tx) (arr : List Int) (a : DShare), [x, y][i]? = some k → OkT k → ofF s k = some a → n ≤ 2 → n ≤ arr.length → shares_Groups_l1 (((), n, [x, y], 2, (i : Int), ()), (s, arr, ())) = some (.inl (((), n + 1, [x, y], 2, ((i + 1 : Nat) : Int), ()), (s, arr.take n ++ [a.group], ()))) := fun n i k arr a hk hok ha hn2 hna => by
    have hi : i < 2 := by rw [← e1]; exact (List.getElem?_eq_some_iff.1 hk).1
    unfold shares_Groups_l1
    have ho : shares_Of s k = some ((a, true, ()), ()) := by
      have := Of_p h hok
      change shares_Of s k = some (((ofF s k).getD noSh, (ofF s k).isSome, ()), ()) at this
      rw [ha] at this
      exact this
    refine condT (dT (by dsimp only; omega)) (bindS (v := k) (by rw [getI_nat]; exact hk) (bindS ho (condF rfl (iteT (by simp; omega) ?_))))
    dsimp only
    rw [w64 (by omega)]
    rfl
  have st3 : ∀ arr, shares_Groups_l1 (((), 2, [x, y], 2, ((2 : Nat) : Int), ()), (s, arr, ())) = some (.inr (.inr ((2, ()), (s, (), arr, ())))) := fun arr => by
    unfold shares_Groups_l1
    exact condF rfl rfl
  have hs : ∃ u v : Int, (u = (if c.group < a.group then c.group else a.group) ∧ v = (if a.group < c.group then c.group else a.group)) ∧ (if c.group < a.group then [c.group, a.group] else [a.group, c.group]) = [u, v] := by
    refine ⟨_, _, ⟨rfl, rfl⟩, ?_⟩
    by_cases h1 : c.group < a.group
    · rw [if_pos h1, if_pos h1, if_neg (by omega)]
    · rw [if_neg h1, if_neg h1]
      by_cases h2 : a.group < c.group
      · rw [if_pos h2]
      · rw [if_neg h2]
        have : a.group = c.group := by omega
        rw [this]
  obtain ⟨u, v, huv, hs⟩ := hs
  refine ⟨u, v, huv, ?_⟩
  unfold shares_Groups
  refine bindS (Right_sh h) ?_
  refine condF (by rw [hr]; rfl) ?_
  change ((loopM shares_Groups_l1 (((), 0, [x, y], 2, ((0 : Nat) : Int), ()), (s, [], ()))).bind _) = _
  rw [loopM_next (st2 0 0 x [] a rfl hx ha (by omega) (by simp)), loopM_next (st2 1 1 y _ c rfl hy hc (by omega) (by simp)), loopM_end (st3 _)]
  refine bindS rfl ?_
  refine bindS (Sort2I_p a.group c.group) ?_
  dsimp only
  rw [hs]
  refine bindS (Compact2I_p u v) ?_
  rfl
noncomputable def keysTail (a : DShare) (ok : Bool) (x0 : DShares) (x2 x3 : List UInt8) : Option (Bool × Unit) :=
  (shares_Of x0 x3).bind fun r10 =>
  (shares_Groups x0 ([x2, x3] : List (List UInt8))).bind fun r11 =>
  (bif ok then
  (bif (decide (r11.1.2.1 ≠ r10.1.2.1)) then
  some (false, ())
  else
  (bif (!r11.1.2.1) then
  some ((decide ((((r11.1.1.2 : Nat) : Int) : Int) = 0)), ())
  else
  (bif (decide ((1 : Int) ≤ ((r11.1.1.2 : Nat) : Int))) then
  (if 0 ≤ (0 : Int) ∧ (0 : Int) < ((r11.1.1.2 : Nat) : Int) then
  (r11.2.1[(r11.1.1.1 + (0 : Int).toNat)]?).bind fun e12 =>
  let y13 : Int := (if (r10.1.1.group : Int) < a.group then r10.1.1.group else a.group)
  (bif (decide ((e12 : Int) = y13)) then
  (if 0 ≤ ((IntKind.i64.wrap (((r11.1.1.2 : Nat) : Int) - 1)) : Int) ∧ ((IntKind.i64.wrap (((r11.1.1.2 : Nat) : Int) - 1)) : Int) < ((r11.1.1.2 : Nat) : Int) then
  (r11.2.1[(r11.1.1.1 + ((IntKind.i64.wrap (((r11.1.1.2 : Nat) : Int) - 1)) : Int).toNat)]?).bind fun e14 =>
  let y15 : Int := (if (a.group : Int) < r10.1.1.group then r10.1.1.group else a.group)
  (bif (decide ((e14 : Int) = y15)) then
  let y16 : Bool := (decide ((decide ((((r11.1.1.2 : Nat) : Int) : Int) = 1)) = (decide ((a.group : Int) = r10.1.1.group))))
  some (y16, ())
  else
  some (false, ()))
  else none)
  else
  some (false, ()))
  else none)
  else
  some (false, ()))))
  else
  (bif (decide (r11.1.2.1 ≠ false)) then
  some (false, ())
  else
  (bif (!r11.1.2.1) then
  some ((decide ((((r11.1.1.2 : Nat) : Int) : Int) = 0)), ())
  else
  (bif (decide ((1 : Int) ≤ ((r11.1.1.2 : Nat) : Int))) then
  (if 0 ≤ (0 : Int) ∧ (0 : Int) < ((r11.1.1.2 : Nat) : Int) then
  (r11.2.1[(r11.1.1.1 + (0 : Int).toNat)]?).bind fun e17 =>
  let y18 : Int := (if (r10.1.1.group : Int) < a.group then r10.1.1.group else a.group)
  (bif (decide ((e17 : Int) = y18)) then
  (if 0 ≤ ((IntKind.i64.wrap (((r11.1.1.2 : Nat) : Int) - 1)) : Int) ∧ ((IntKind.i64.wrap (((r11.1.1.2 : Nat) : Int) - 1)) : Int) < ((r11.1.1.2 : Nat) : Int) then
  (r11.2.1[(r11.1.1.1 + ((IntKind.i64.wrap (((r11.1.1.2 : Nat) : Int) - 1)) : Int).toNat)]?).bind fun e19 =>
  let y20 : Int := (if (a.group : Int) < r10.1.1.group then r10.1.1.group else a.group)
  (bif (decide ((e19 : Int) = y20)) then
  let y21 : Bool := (decide ((decide ((((r11.1.1.2 : Nat) : Int) : Int) = 1)) = (decide ((a.group : Int) = r10.1.1.group))))
  some (y21, ())
  else
  some (false, ()))
  else none)
  else
  some (false, ()))
  else none)
  else
  some (false, ())))))

theorem keysTail_p {s : DShares} (h : OkSh s) {x y : Tx} (hx : OkT x) (hy : OkT y) : keysTail ((ofF s x).getD noSh) (ofF s x).isSome s x y = some (true, ()) := by
  unfold keysTail
  refine bindS (Of_p h hy) ?_
  change ((shares_Groups s [x, y]).bind _) = _
  cases hx' : ofF s x with
  | none =>
    refine bindS (Groups_none h hx hy (.inl hx')) ?_
    rfl
  | some a =>
    cases hy' : ofF s y with
    | none =>
      refine bindS (Groups_none h hx hy (.inr hy')) ?_
      have e : (pickF s fun x => hasB x.span y).isSome = false := by change (ofF s y).isSome = false; rw [hy']; rfl
      refine condT rfl ?_
      refine condF (by dsimp only; rw [e]; rfl) ?_
      rfl
    | some c =>
      obtain ⟨u, v, ⟨hu, hv⟩, hG⟩ := Groups_two h hx hy hx' hy'
      refine bindS hG ?_
      have e : (pickF s fun x => hasB x.span y) = some c := hy'
      dsimp only
      rw [e]
      simp only [Option.getD_some, Option.isSome_some]
      refine condT rfl ?_
      refine condF (by simp) ?_
      refine condF rfl ?_
      by_cases hvu : v = u
      · rw [if_pos hvu, if_pos hvu]
        refine condT rfl ?_
        refine iteT (by omega) ?_
        refine bindS (v := u) rfl ?_
        refine condT (dT hu) ?_
        rw [show IntKind.i64.wrap (((1 : Nat) : Int) - 1) = 0 from by decide]
        refine iteT (by omega) ?_
        refine bindS (v := u) rfl ?_
        refine condT (dT (by rw [← hv]; exact hvu.symm)) ?_
        have hg : a.group = c.group := by
          by_cases h1 : c.group < a.group
          · rw [if_pos h1] at hu; rw [if_neg (by omega)] at hv; omega
          · rw [if_neg h1] at hu
            by_cases h2 : a.group < c.group
            · rw [if_pos h2] at hv; omega
            · omega
        simp [hg]
      · rw [if_neg hvu, if_neg hvu]
        refine condT rfl ?_
        refine iteT (by omega) ?_
        refine bindS (v := u) rfl ?_
        refine condT (dT hu) ?_
        rw [show IntKind.i64.wrap (((2 : Nat) : Int) - 1) = 1 from by decide]
        refine iteT (by omega) ?_
        refine bindS (v := v) rfl ?_
        refine condT (dT hv) ?_
        have hg : ¬ a.group = c.group := fun he => by
          rw [he, if_neg (by omega)] at hu
          rw [he, if_neg (by omega)] at hv
          exact hvu (hv.trans hu.symm)
        simp [hg]
end Go.Proofs.Ytnmimignbgdfgaa
