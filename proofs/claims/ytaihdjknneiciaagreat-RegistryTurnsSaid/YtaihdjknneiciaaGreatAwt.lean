/- The example of chapter 21 (round 21Z). -/
import Derived.Test.YtaihdjknneiciaaGreatVwt
import Derived.Test.YtaihdjknneiciaaGreatG2
namespace Go.Proofs.YtaihdjknneiciaaGreat
open Go.RowKit
set_option maxRecDepth 100000
set_option linter.unusedVariables false
set_option linter.unusedSimpArgs false
def aS : DShares := ⟨1, [⟨⟨[], []⟩, 1, 1⟩]⟩
def aT : DShares := ⟨2, [⟨⟨[], [109]⟩, 1, 1⟩, ⟨⟨[109], []⟩, 2, 2⟩]⟩
def aX (st : Int) : DScheme := ⟨1, ⟨[109], []⟩, 1, 2, 1, 0, st⟩
def aY (st : Int) : DScheme := ⟨1, ⟨[109], []⟩, 1, 2, 1, 2, st⟩
theorem aBegin : scheme_Begin aS 1 ⟨[109], []⟩ 2 = some ((aX 1, 0, ()), ()) := by
  unfold scheme_Begin
  refine bindS (swithin_p _ _ _) (condF (by decide) (bindS Turn_m (condF rfl (bindS (In_p okf okm) ?_))))
  have : (pickF aS fun q => withinB ⟨[109], []⟩ q.span) = some ⟨⟨[], []⟩, 1, 1⟩ := by decide +kernel
  dsimp only
  rw [show (⟨1, [⟨⟨[], []⟩, 1, 1⟩]⟩ : DShares) = aS from rfl, this]
  rfl
theorem aTurn : scheme_Step (aX 3) aS 4 = some ((aY 4, aT, 0, ()), ()) := by
  obtain ⟨y, t, e, k1, k2, k3⟩ := Step_turn (x := aX 3) (s := aS) okm okf (by decide +kernel) (by decide +kernel) (by decide) (by decide +kernel) Turn_m (fun h => absurd rfl h)
  have he := k3 ⟨⟨[], []⟩, 1, 1⟩ rfl (by decide +kernel) rfl rfl
  obtain ⟨_, rfl, rfl⟩ := k2 he
  rw [k1, he]
  rfl
theorem okT : OkSh aT := ⟨by simp [aT], fun x hx => by
  simp only [aT, List.mem_cons, List.not_mem_nil, or_false] at hx
  rcases hx with rfl | rfl
  · exact ⟨by simp [OkT], by simp [OkT]⟩
  · exact okm⟩
theorem rStep_go {s t : DShares} {x y : DScheme} {st : Int} (hn : x.num = 1) (h1 : 1 ≤ st) (h9 : st ≤ 9) (hs : scheme_Step x s st = some ((y, t, 0, ()), ())) (ho : (decide (y.stage = 6) || decide (y.stage = 9)) = false) (l : List DVerdict) (m : Nm) :
    registry_Step 1 st (plc s true x 1) (l, (), ()) m = some ((st, 0, ()), (plc t true y 1, (l, (), ()), m, (), (), ())) := by
  unfold registry_Step
  exact bindS (v := (true, (plc s true x 1, (l, (), ()), m, (), (), ()))) rfl (condF rfl (condF (dF (by omega)) (condF (dF (by omega)) (condF (dF (by omega)) (condF (dF (by omega)) (condF (dF (by (try dsimp only); omega)) (condF rfl (condF (dF (fun hh => hh hn)) (bindS hs (condF rfl (bindS (Over_p y) (condF ho rfl))))))))))))
theorem rStep_over {s t : DShares} {x y : DScheme} {st : Int} (hn : x.num = 1) (h1 : 1 ≤ st) (h9 : st ≤ 9) (hs : scheme_Step x s st = some ((y, t, 0, ()), ())) (ho : (decide (y.stage = 6) || decide (y.stage = 9)) = true) (l : List DVerdict) (m : Nm) :
    registry_Step 1 st (plc s true x 1) (l, (), ()) m = some ((st, 0, ()), (plc t false noSc 1, (l, (), ()), m, (), (), ())) := by
  unfold registry_Step
  exact bindS (v := (true, (plc s true x 1, (l, (), ()), m, (), (), ()))) rfl (condF rfl (condF (dF (by omega)) (condF (dF (by omega)) (condF (dF (by omega)) (condF (dF (by omega)) (condF (dF (by (try dsimp only); omega)) (condF rfl (condF (dF (fun hh => hh hn)) (bindS hs (condF rfl (bindS (Over_p y) (condT ho rfl))))))))))))
theorem rStep_no {s : DShares} {x : DScheme} (l : List DVerdict) (m : Nm) : registry_Step 1 2 (plc s false x 1) (l, (), ()) m = some ((0, 0, ()), (plc s false x 1, (l, (), ()), m, (), (), ())) := by
  unfold registry_Step
  exact bindS (v := (true, (plc s false x 1, (l, (), ()), m, (), (), ()))) rfl (condF rfl (condF (dF (by omega)) (condF (dF (by omega)) (condF (dF (by omega)) (condF (dF (by omega)) (condF (dF (by (try dsimp only); omega)) (condT rfl rfl)))))))
theorem New_p {s : DShares} (hs : OkSh s) (hr : rightW s = true) : registry_New s = some ((), (plc s false noSc 0, ([], (), ()), [], (), ())) := by
  unfold registry_New registry_copied
  exact bindS (Right_sh hs) (condF (by rw [hr]; rfl) (bindS rfl (bindS (bindS (clone100_p hs.len) rfl) rfl)))
theorem aLoop : loopM wl_awake_l1 (((), 1, 0, 26, 2, ()), (plc aS true (aX 1) 1, ([], (), ()), [], (), ())) = some (.inr (((), 1, 0, 26, ()), (plc aT false noSc 1, ([], (), ()), [], (), (), ()))) := by
  have g2 := rStep_go (s := aS) (x := aX 1) (st := 2) rfl (by omega) (by omega) (Step_go (x := aX 1) (s := aS) (st := 2) okm okf (by decide +kernel) (by decide +kernel) (by decide) (by decide +kernel) (by decide)) (by decide) [] []
  have g3 := rStep_go (s := aS) (x := aX 2) (st := 3) rfl (by omega) (by omega) (Step_go (x := aX 2) (s := aS) (st := 3) okm okf (by decide +kernel) (by decide +kernel) (by decide) (by decide +kernel) (by decide)) (by decide) [] []
  have g4 := rStep_go (s := aS) (x := aX 3) (st := 4) rfl (by omega) (by omega) aTurn (by decide) [] []
  have g5 := rStep_go (s := aT) (x := aY 4) (st := 5) rfl (by omega) (by omega) (Step_go (x := aY 4) (s := aT) (st := 5) okm okT (by decide +kernel) (by decide +kernel) (by decide) (by decide +kernel) (by decide)) (by decide) [] []
  have g6 := rStep_over (s := aT) (x := aY 5) (st := 6) rfl (by omega) (by omega) (Step_go (x := aY 5) (s := aT) (st := 6) okm okT (by decide +kernel) (by decide +kernel) (by decide) (by decide +kernel) (by decide)) (by decide) [] []
  refine (loopM_next (a' := (((), 1, 0, 26, 3, ()), (plc aS true (aX 2) 1, ([], (), ()), [], (), ()))) ?_).trans ((loopM_next (a' := (((), 1, 0, 26, 4, ()), (plc aS true (aX 3) 1, ([], (), ()), [], (), ()))) ?_).trans ((loopM_next (a' := (((), 1, 0, 26, 5, ()), (plc aT true (aY 4) 1, ([], (), ()), [], (), ()))) ?_).trans ((loopM_next (a' := (((), 1, 0, 26, 6, ()), (plc aT true (aY 5) 1, ([], (), ()), [], (), ()))) ?_).trans ((loopM_next (a' := (((), 1, 0, 26, 7, ()), (plc aT false noSc 1, ([], (), ()), [], (), ()))) ?_).trans (loopM_end ?_)))))
  · unfold wl_awake_l1
    exact condT rfl (bindS g2 (condF rfl (condF rfl rfl)))
  · unfold wl_awake_l1
    exact condT rfl (bindS g3 (condF rfl (condF rfl rfl)))
  · unfold wl_awake_l1
    exact condT rfl (bindS g4 (condF rfl (condF rfl rfl)))
  · unfold wl_awake_l1
    exact condT rfl (bindS g5 (condF rfl (condF rfl rfl)))
  · unfold wl_awake_l1
    exact condT rfl (bindS g6 (condF rfl (condF rfl rfl)))
  · unfold wl_awake_l1
    exact condF rfl rfl
theorem rawake_p : wl_awake = some (true, ()) := by
  have ok110 : OkT [110] := by simp [OkT]
  have hof : ofF aT [110] = some ⟨⟨[109], []⟩, 2, 2⟩ := by decide +kernel
  have hn := New_p (s := aS) okf (by decide +kernel)
  have b1 : registry_Begin ⟨[109], []⟩ 2 (plc aS false noSc 0) ([], (), ()) [] = some ((1, 0, ()), (plc aS true (aX 1) 1, ([], (), ()), [], (), (), ())) := by
    unfold registry_Begin
    exact bindS (v := (true, (plc aS false noSc 0, ([], (), ()), [], (), (), ()))) rfl (condF rfl (condF rfl (bindS aBegin (condF rfl rfl))))
  have b2 : registry_Begin ⟨[109], []⟩ 2 (plc aS true (aX 1) 1) ([], (), ()) [] = some ((0, 26, ()), (plc aS true (aX 1) 1, ([], (), ()), [], (), (), ())) := by
    unfold registry_Begin
    exact bindS (v := (true, (plc aS true (aX 1) 1, ([], (), ()), [], (), (), ()))) rfl (condF rfl (condT rfl rfl))
  have c1 : registry_Scheme (plc aT false noSc 1) ([], (), ()) [] = some ((noSc, false, ()), (plc aT false noSc 1, ([], (), ()), [], (), (), ())) := by
    unfold registry_Scheme
    exact bindS (v := (true, (plc aT false noSc 1, ([], (), ()), [], (), (), ()))) rfl (condF rfl rfl)
  have c2 : registry_Shares (plc aT false noSc 1) ([], (), ()) [] = some (aT, (plc aT false noSc 1, ([], (), ()), [], (), (), ())) := by
    unfold registry_Shares registry_copied
    exact bindS (v := (true, (plc aT false noSc 1, ([], (), ()), [], (), (), ()))) rfl (condF rfl (bindS (bindS (clone100_p okT.len) rfl) rfl))
  unfold wl_awake
  refine bindS First_p (bindS hn (bindS b1 (bindS b2 (bindS aLoop ?_))))
  refine bindS c1 (bindS (rStep_no [] []) (bindS c2 (bindS (Of_o okT ok110) ?_)))
  dsimp only
  rw [hof]
  rfl
end Go.Proofs.YtaihdjknneiciaaGreat
