/- Cuts and a first turn, plainly (written by plain20.py). -/
import Derived.Test.YtcamfdmgpmdmhaaShy
namespace Go.Proofs.Ytcamfdmgpmdmhaa
open Go.RowKit
set_option maxRecDepth 100000
set_option linter.unusedVariables false
set_option linter.unusedSimpArgs false
/-- The places of a cut at two texts. -/
def at2 (x y : Tx) : List Tx := if x = y then [x] else if y < x then [y, x] else [x, y]
theorem sd2 (x y : Tx) : sdF [x, y] = at2 x y := by
  have hs : [x, y].mergeSort leT = if leT x y then [x, y] else [y, x] := by
    rw [List.mergeSort]
    simp [List.MergeSort.Internal.splitInTwo, List.merge]
  unfold sdF at2
  rw [hs]
  by_cases h : x = y
  · subst h; simp [dd]
  · rw [if_neg h]
    by_cases h2 : y < x
    · have : ¬ x ≤ y := List.not_le.2 h2
      rw [if_pos h2, if_neg (by simpa [leT] using this)]
      simp [dd, Ne.symm h]
    · have : x ≤ y := List.not_lt.1 h2
      rw [if_neg h2, if_pos (by simpa [leT] using this)]
      simp [dd, h]
theorem CutAt_p {s : DSpan} {x y : Tx} (hs : OkSp s) (hx : OkT x) (hy : OkT y) (hr : rightB s = true) : span_Cut s [x, y] = some (cutF s (at2 x y), ((), ())) := by
  have := Cut_p (xs := [x, y]) hs (fun k hk => by
    simp only [List.mem_cons, List.not_mem_nil, or_false] at hk
    rcases hk with rfl | rfl
    · exact hx
    · exact hy) (by simp)
  rw [hr, sd2] at this
  exact this
theorem ok0 : OkSp ⟨[], []⟩ := ⟨by simp [OkT], by simp [OkT]⟩
theorem okm : OkSp ⟨[109], []⟩ := ⟨by simp [OkT], by simp [OkT]⟩
theorem cut_m : cutF ⟨[], []⟩ [[], [109]] = [⟨[], [109]⟩, ⟨[109], []⟩] := by decide +kernel
theorem First_p : shares_First 1 = some (⟨1, [⟨⟨[], []⟩, 1, 1⟩]⟩, ()) := by
  unfold shares_First
  refine bindS (within_p _ _ _) ?_
  exact condF (by decide) (bindS rfl rfl)
theorem parted_m : shares_parted ⟨⟨[], []⟩, 1, 1⟩ ⟨[109], []⟩ 2 2 = some ([⟨⟨[], [109]⟩, 1, 1⟩, ⟨⟨[109], []⟩, 2, 2⟩], ((), ())) := by
  have hc : span_Cut ⟨[], []⟩ [[109], []] = some ([⟨[], [109]⟩, ⟨[109], []⟩], ((), ())) := by
    rw [CutAt_p ok0 (by simp [OkT]) (by simp [OkT]) (by decide +kernel), show at2 [109] [] = [[], [109]] from by decide +kernel, cut_m]
  have l1 : shares_parted_l1 ((2, 2, (), (), [], [⟨[], [109]⟩, ⟨[109], []⟩], 2, 0, ()), (⟨⟨[], []⟩, 1, 1⟩, ⟨[109], []⟩, (), (), ())) = some (.inl ((2, 2, (), (), [⟨⟨[], [109]⟩, 1, 1⟩], [⟨[], [109]⟩, ⟨[109], []⟩], 2, 1, ()), (⟨⟨[], []⟩, 1, 1⟩, ⟨[109], []⟩, (), (), ()))) := by
    unfold shares_parted_l1
    refine condT rfl (bindS (v := ⟨[], [109]⟩) rfl (condF (by decide) (iteT (by simp) ?_)))
    rfl
  have l2 : shares_parted_l1 ((2, 2, (), (), [⟨⟨[], [109]⟩, 1, 1⟩], [⟨[], [109]⟩, ⟨[109], []⟩], 2, 1, ()), (⟨⟨[], []⟩, 1, 1⟩, ⟨[109], []⟩, (), (), ())) = some (.inl ((2, 2, (), (), [⟨⟨[], [109]⟩, 1, 1⟩, ⟨⟨[109], []⟩, 2, 2⟩], [⟨[], [109]⟩, ⟨[109], []⟩], 2, 2, ()), (⟨⟨[], []⟩, 1, 1⟩, ⟨[109], []⟩, (), (), ()))) := by
    unfold shares_parted_l1
    refine condT rfl (bindS (v := ⟨[109], []⟩) rfl (condT (by decide) (iteT (by simp) ?_)))
    rfl
  have l3 : shares_parted_l1 ((2, 2, (), (), [⟨⟨[], [109]⟩, 1, 1⟩, ⟨⟨[109], []⟩, 2, 2⟩], [⟨[], [109]⟩, ⟨[109], []⟩], 2, 2, ()), (⟨⟨[], []⟩, 1, 1⟩, ⟨[109], []⟩, (), (), ())) = some (.inr (([⟨⟨[], [109]⟩, 1, 1⟩, ⟨⟨[109], []⟩, 2, 2⟩], ()), (⟨⟨[], []⟩, 1, 1⟩, ⟨[109], []⟩, (), (), (), ()))) := by
    unfold shares_parted_l1
    exact condF rfl rfl
  unfold shares_parted
  refine bindS hc ?_
  refine bindS ((loopM_next l1).trans ((loopM_next l2).trans (loopM_end l3))) ?_
  rfl
theorem okf : OkSh ⟨1, [⟨⟨[], []⟩, 1, 1⟩]⟩ := ⟨by simp, by simpa using ok0⟩
theorem Turn_m : shares_Turn ⟨1, [⟨⟨[], []⟩, 1, 1⟩]⟩ ⟨[109], []⟩ 2 = some ((⟨2, [⟨⟨[], [109]⟩, 1, 1⟩, ⟨⟨[109], []⟩, 2, 2⟩]⟩, 0, ()), ()) := by
  have hr : rightW ⟨1, [⟨⟨[], []⟩, 1, 1⟩]⟩ = true := by decide +kernel
  have ha : shares_at ⟨⟨1, [⟨⟨[], []⟩, 1, 1⟩]⟩⟩ ⟨[109], []⟩ = some (0, (⟨[109], []⟩, ())) := by
    unfold shares_at
    refine bindS (right_p okf) ?_
    refine condF (by rw [hr]; rfl) ?_
    refine bindS (ix0_p okf.len okf.sp okm) ?_
    have : ixF (fun x => withinB ⟨[109], []⟩ x.span) [⟨⟨[], []⟩, 1, 1⟩] = 0 := by decide +kernel
    dsimp only
    rw [this]
  unfold shares_Turn
  refine bindS ha ?_
  refine bindS (right_p okf) ?_
  refine condF (by rw [hr]; rfl) ?_
  refine bindS (Right_p okm) ?_
  refine condF (by decide +kernel) ?_
  refine bindS (within_p _ _ _) ?_
  refine condF (by decide) ?_
  refine condF rfl ?_
  refine bindS (v := ⟨⟨[], []⟩, 1, 1⟩) rfl ?_
  refine condF (by decide) ?_
  refine bindS (v := ⟨⟨[], []⟩, 1, 1⟩) rfl ?_
  refine bindS (v := (1, ([⟨⟨[], []⟩, 1, 1⟩], ()))) (by unfold cloneA43; exact if_pos (by simp)) ?_
  refine bindS (v := ([⟨⟨[], [109]⟩, 1, 1⟩, ⟨⟨[109], []⟩, 2, 2⟩], ((), ()))) (by
    show shares_parted _ _ _ (IntKind.i64.wrap (1 + 1)) = _
    rw [show IntKind.i64.wrap (1 + 1) = 2 from by decide]
    exact parted_m) ?_
  refine bindS (v := ([⟨⟨[], [109]⟩, 1, 1⟩, ⟨⟨[109], []⟩, 2, 2⟩], ((), (), ()))) (by
    unfold replace
    dsimp only
    rw [show IntKind.i64.wrap (0 + 1) = 1 from by decide]
    exact if_pos ⟨rfl, by omega, by omega, by simp, by simp, by simp⟩) ?_
  refine condF (by decide) ?_
  refine condF rfl ?_
  rfl
/-- The shares of a key. -/
def ofF (s : DShares) (k : Tx) : Option DShare := pickF s fun x => hasB x.span k
end Go.Proofs.Ytcamfdmgpmdmhaa
