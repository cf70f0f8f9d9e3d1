/- What the laws of chapter 20 begin with; SchemeGoes, plainly. -/
import Derived.Test.YtcamfdmgpmdmhaaScb
namespace Go.Proofs.Ytcamfdmgpmdmhaa
open Go.RowKit
set_option maxRecDepth 100000
set_option linter.unusedVariables false
set_option linter.unusedSimpArgs false
def aS : DShares := ⟨1, [⟨⟨[], []⟩, 1, 1⟩]⟩
def aT : DShares := ⟨2, [⟨⟨[], [109]⟩, 1, 1⟩, ⟨⟨[109], []⟩, 2, 2⟩]⟩
def aX (st : Int) : DScheme := ⟨1, ⟨[109], []⟩, 1, 2, 1, 0, st⟩
def aY : DScheme := ⟨1, ⟨[109], []⟩, 1, 2, 1, 2, 4⟩
theorem awake_begin : scheme_Begin aS 1 ⟨[109], []⟩ 2 = some ((aX 1, 0, ()), ()) := by
  unfold scheme_Begin
  refine bindS (swithin_p _ _ _) (condF (by decide) (bindS Turn_m (condF rfl (bindS (In_p okf okm) ?_))))
  have : (pickF aS fun q => withinB ⟨[109], []⟩ q.span) = some ⟨⟨[], []⟩, 1, 1⟩ := by decide +kernel
  dsimp only
  rw [show (⟨1, [⟨⟨[], []⟩, 1, 1⟩]⟩ : DShares) = aS from rfl, this]
  rfl
theorem awake_turn : scheme_Step (aX 3) aS 4 = some ((aY, aT, 0, ()), ()) := by
  obtain ⟨y, t, e, k1, k2, k3⟩ := Step_turn (x := aX 3) (s := aS) okm okf (by decide +kernel) (by decide +kernel) (by decide) (by decide +kernel) Turn_m (fun h => absurd rfl h)
  have he := k3 ⟨⟨[], []⟩, 1, 1⟩ rfl (by decide +kernel) rfl rfl
  obtain ⟨_, rfl, rfl⟩ := k2 he
  rw [k1, he]
  rfl
theorem awake_p : watershedlaw20_awake = some (true, ()) := by
  have ok122 : OkT [122] := by simp [OkT]
  have okT : OkSh aT := ⟨by simp [aT], fun x hx => by
    simp only [aT, List.mem_cons, List.not_mem_nil, or_false] at hx
    rcases hx with rfl | rfl
    · exact ⟨by simp [OkT], by simp [OkT]⟩
    · exact okm⟩
  have hof : ofF aT [122] = some ⟨⟨[109], []⟩, 2, 2⟩ := by decide +kernel
  have hl : loopM watershedlaw20_awake_l1 (((), (), 0, ([2, 3, 4] : List UInt8), 0, ()), (aS, aX 1, (), ())) = some (((), (), 0, ()), (aT, aY, (), ())) := by
    refine (loopM_next (a' := (((), (), 0, ([2, 3, 4] : List UInt8), 1, ()), (aS, aX 2, (), ()))) ?_).trans ((loopM_next (a' := (((), (), 0, ([2, 3, 4] : List UInt8), 2, ()), (aS, aX 3, (), ()))) ?_).trans ((loopM_next (a' := (((), (), 0, ([2, 3, 4] : List UInt8), 3, ()), (aT, aY, (), ()))) ?_).trans (loopM_end ?_)))
    · unfold watershedlaw20_awake_l1
      exact condT rfl (condT rfl (bindS (v := 2) rfl (bindS (Step_go (x := aX 1) (s := aS) (st := 2) okm okf (by decide +kernel) (by decide +kernel) (by decide) (by decide +kernel) (by decide)) rfl)))
    · unfold watershedlaw20_awake_l1
      exact condT rfl (condT rfl (bindS (v := 3) rfl (bindS (Step_go (x := aX 2) (s := aS) (st := 3) okm okf (by decide +kernel) (by decide +kernel) (by decide) (by decide +kernel) (by decide)) rfl)))
    · unfold watershedlaw20_awake_l1
      exact condT rfl (condT rfl (bindS (v := 4) rfl (bindS awake_turn rfl)))
    · unfold watershedlaw20_awake_l1
      exact condF rfl rfl
  unfold watershedlaw20_awake
  refine bindS First_p (bindS awake_begin (bindS (v := 2) (by decide) (bindS (v := 3) (by decide) (bindS (v := 4) (by decide) (bindS hl (bindS (Of_o okT ok122) ?_))))))
  dsimp only
  rw [hof]
  exact condT rfl (condT (by decide) (condT rfl (condT rfl rfl)))
section
variable {s0 : DShares} {a : DSpan} {num g : Int} {i : Nat}
/-- The handoff, at a stage. -/
def mkX (s0 : DShares) (a : DSpan) (num g : Int) (i : Nat) (u st : Int) : DScheme := ⟨num, a, (s0.list[i]?.getD noSh).group, g, (s0.list[i]?.getD noSh).epoch, u, st⟩
structure Ctx (s0 : DShares) (a : DSpan) (num g : Int) (i : Nat) : Prop where
  hs : OkSh s0
  ha : OkSp a
  hn : 1 ≤ num ∧ num ≤ 1073741824
  hr : rightW s0 = true
  hg : 1 ≤ g ∧ g ≤ 4
  he : s0.epoch ≠ 1073741824
  hi : i < s0.list.length
  hw : withinB a (s0.list[i]?.getD noSh).span = true
  hgr : (s0.list[i]?.getD noSh).group ≠ g
  hl : (turnF s0 i a g).list.length ≤ 40
  hp : pickF s0 (fun q => withinB a q.span) = some (s0.list[i]?.getD noSh)
  ht : shares_Turn s0 a g = some ((turnF s0 i a g, 0, ()), ())
variable (c : Ctx s0 a num g i)
include c
theorem Ctx.get : s0.list[i]?.getD noSh = s0.list[i]'c.hi := by rw [List.getElem?_eq_getElem c.hi]; rfl
theorem Ctx.rightT : rightW (turnF s0 i a g) = true := turn_right c.hr c.hg c.he c.hi (by have := c.hw; rw [c.get] at this; exact this) c.hl
theorem Ctx.okT : OkSh (turnF s0 i a g) := ⟨by have := c.hl; omega, turnF_ok c.hs.sp c.ha c.hi⟩
theorem Ctx.ep : 1 ≤ s0.epoch ∧ s0.epoch < 1073741824 := by
  have := (right_iff.1 c.hr).1
  have := c.he
  omega
theorem Ctx.share : (1 ≤ (s0.list[i]?.getD noSh).group ∧ (s0.list[i]?.getD noSh).group ≤ 4) ∧ (1 ≤ (s0.list[i]?.getD noSh).epoch ∧ (s0.list[i]?.getD noSh).epoch ≤ s0.epoch) := by
  rw [c.get]
  exact wrong_of.1 ((right_iff.1 c.hr).2.2.1 _ (List.getElem_mem c.hi))
theorem Ctx.right0 {st : Int} (h : 1 ≤ st ∧ st ≤ 9) (h2 : ¬ (4 ≤ st ∧ st ≤ 6)) : rightS (mkX s0 a num g i 0 st) = true := by
  have h3 := c.share
  have h4 := c.ep
  refine rightS_iff.2 ⟨c.hn, (within_right c.hw).1, h3.1, c.hg, c.hgr, ⟨h3.2.1, ?_⟩, h, ?_⟩
  · show (s0.list[i]?.getD noSh).epoch ≤ 1073741824
    omega
  · show if 4 ≤ st ∧ st ≤ 6 then _ else (0 : Int) = 0
    rw [if_neg h2]
theorem Ctx.rightU {st : Int} (h : 4 ≤ st ∧ st ≤ 6) : rightS (mkX s0 a num g i (s0.epoch + 1) st) = true := by
  have h3 := c.share
  have h4 := c.ep
  refine rightS_iff.2 ⟨c.hn, (within_right c.hw).1, h3.1, c.hg, c.hgr, ⟨h3.2.1, ?_⟩, ⟨by show 1 ≤ st; omega, by show st ≤ 9; omega⟩, ?_⟩
  · show (s0.list[i]?.getD noSh).epoch ≤ 1073741824
    omega
  · show if 4 ≤ st ∧ st ≤ 6 then (s0.list[i]?.getD noSh).epoch + 1 ≤ s0.epoch + 1 ∧ s0.epoch + 1 ≤ 1073741824 else _
    rw [if_pos h]
    omega
omit c in
/-- How far it has gone. -/
def Inv (s0 : DShares) (a : DSpan) (num g : Int) (i : Nat) (x : DScheme) (now : DShares) (steps turns : Int) : Prop :=
  (∃ st : Int, (1 ≤ st ∧ st ≤ 3) ∧ x = mkX s0 a num g i 0 st ∧ now = s0 ∧ turns = 0 ∧ steps = st - 1) ∨
  (∃ st : Int, (4 ≤ st ∧ st ≤ 6) ∧ x = mkX s0 a num g i (s0.epoch + 1) st ∧ now = turnF s0 i a g ∧ turns = 1 ∧ steps = st - 1) ∨
  (∃ st : Int, (7 ≤ st ∧ st ≤ 9) ∧ x = mkX s0 a num g i 0 st ∧ now = s0 ∧ turns = 0 ∧ 0 ≤ steps ∧ steps ≤ st - 4)
theorem Inv.facts {x : DScheme} {now : DShares} {steps turns : Int} (h : Inv s0 a num g i x now steps turns) : OkSp x.span ∧ OkSh now ∧ rightS x = true ∧ rightW now = true ∧ (0 ≤ steps ∧ steps ≤ 5) ∧ (0 ≤ turns ∧ turns ≤ 1) := by
  rcases h with ⟨st, h, rfl, rfl, rfl, rfl⟩ | ⟨st, h, rfl, rfl, rfl, rfl⟩ | ⟨st, h, rfl, rfl, rfl, h2, h3⟩
  · exact ⟨c.ha, c.hs, c.right0 ⟨by omega, by omega⟩ (by omega), c.hr, by omega, by omega⟩
  · exact ⟨c.ha, c.okT, c.rightU h, c.rightT, by omega, by omega⟩
  · exact ⟨c.ha, c.hs, c.right0 ⟨by omega, by omega⟩ (by omega), c.hr, by omega, by omega⟩
theorem Inv.step {x : DScheme} {now : DShares} {steps turns : Int} (h : Inv s0 a num g i x now steps turns) (v : Int) :
    ∃ y t e, scheme_Step x now v = some ((y, t, e, ()), ()) ∧
      ((e ≠ 0 ∧ v ≠ x.stage ∧ goesB x.stage v = false ∧ y = noSc) ∨ (e = 0 ∧ y = x ∧ t = now) ∨
       (e = 0 ∧ y.stage ≠ x.stage ∧ (x.stage ≠ 6 ∧ x.stage ≠ 9) ∧ t = now ∧ Inv s0 a num g i y t (steps + 1) turns) ∨
       (e = 0 ∧ y.stage = 4 ∧ x.stage = 3 ∧ now = s0 ∧ t = turnF s0 i a g ∧ y.under = s0.epoch + 1 ∧ Inv s0 a num g i y t (steps + 1) (turns + 1))) := by
  obtain ⟨f1, f2, f3, f4, _, _⟩ := Inv.facts c h
  by_cases hv : x.stage = v
  · exact ⟨_, _, _, Step_same f1 f2 f3 f4 hv, .inr (.inl ⟨rfl, rfl, rfl⟩)⟩
  cases hgo : goesB x.stage v
  · exact ⟨_, _, _, Step_no f1 f2 f3 f4 hv hgo, .inl ⟨by decide, fun e => hv e.symm, rfl, rfl⟩⟩
  have hc := goes_cases hgo
  by_cases h4 : v = 4
  · subst h4
    have h3 : x.stage = 3 := by omega
    rcases h with ⟨st, h, rfl, rfl, rfl, rfl⟩ | ⟨st, h, rfl, rfl, rfl, rfl⟩ | ⟨st, h, rfl, rfl, rfl, q2, q3⟩
    · have hst : st = 3 := h3
      subst hst
      obtain ⟨y, t, e, k1, k2, k3⟩ := Step_turn (x := mkX now a num g i 0 3) f1 f2 f3 f4 hv hgo c.ht (fun h => absurd rfl h)
      have he := k3 _ rfl c.hp rfl rfl
      obtain ⟨_, rfl, rfl⟩ := k2 he
      subst he
      exact ⟨_, _, _, k1, .inr (.inr (.inr ⟨rfl, rfl, rfl, rfl, rfl, rfl, .inr (.inl ⟨4, by omega, rfl, rfl, by omega, by omega⟩)⟩))⟩
    · have hst : st = 3 := h3
      omega
    · have hst : st = 3 := h3
      omega
  · refine ⟨_, _, _, Step_go f1 f2 f3 f4 hv hgo h4, .inr (.inr (.inl ⟨rfl, fun e => hv e.symm, ⟨by omega, by omega⟩, rfl, ?_⟩))⟩
    rcases h with ⟨st, h, rfl, rfl, rfl, rfl⟩ | ⟨st, h, rfl, rfl, rfl, rfl⟩ | ⟨st, h, rfl, rfl, rfl, q2, q3⟩
    · change (st = 1 ∧ _) ∨ (st = 2 ∧ _) ∨ (st = 3 ∧ _) ∨ (st = 4 ∧ _) ∨ (st = 5 ∧ _) ∨ (st = 7 ∧ _) ∨ (st = 8 ∧ _) at hc
      by_cases h7 : v = 7
      · exact .inr (.inr ⟨v, by omega, rfl, rfl, rfl, by omega, by omega⟩)
      · exact .inl ⟨v, by omega, rfl, rfl, rfl, by omega⟩
    · change (st = 1 ∧ _) ∨ (st = 2 ∧ _) ∨ (st = 3 ∧ _) ∨ (st = 4 ∧ _) ∨ (st = 5 ∧ _) ∨ (st = 7 ∧ _) ∨ (st = 8 ∧ _) at hc
      exact .inr (.inl ⟨v, by omega, rfl, rfl, rfl, by omega⟩)
    · change (st = 1 ∧ _) ∨ (st = 2 ∧ _) ∨ (st = 3 ∧ _) ∨ (st = 4 ∧ _) ∨ (st = 5 ∧ _) ∨ (st = 7 ∧ _) ∨ (st = 8 ∧ _) at hc
      exact .inr (.inr ⟨v, by omega, rfl, rfl, rfl, by omega, by omega⟩)
/-- The share of a key, ahead of a step and behind it. -/
theorem Ctx.keys {now t : DShares} (h : t = now ∨ (now = s0 ∧ t = turnF s0 i a g)) (k : Tx) : (ofF now k).isSome = (ofF t k).isSome ∧ (hasB a k = false → (ofF now k).isSome = true → ((ofF now k).getD noSh).group = ((ofF t k).getD noSh).group ∧ ((ofF now k).getD noSh).epoch = ((ofF t k).getD noSh).epoch) := by
  rcases h with rfl | ⟨rfl, rfl⟩
  · exact ⟨rfl, fun _ _ => ⟨rfl, rfl⟩⟩
  · have hs : ∀ u : DShares, rightW u = true → (ofF u k).isSome = keyB k := fun u hu => by
      have := pick_is (s := u) (p := fun x => hasB x.span k)
      rw [hu, any_key hu, Bool.true_and] at this
      exact this
    refine ⟨by rw [hs _ c.hr, hs _ c.rightT], fun h1 h2 => ?_⟩
    rw [hs _ c.hr] at h2
    obtain ⟨x, y, x1, y1, _, z⟩ := turn_key c.hr c.hi (by have := c.hw; rw [c.get] at this; exact this) (by have := c.hgr; rw [c.get] at this; exact this) c.rightT h2
    rw [x1, y1]
    exact z h1
omit c in
theorem tail_p {β : Type} {now t : DShares} {k : Tx} (bad K : Option β) (h1 : OkSh now) (h2 : OkSh t) (ha : OkSp a) (hk : OkT k) (hq : (ofF now k).isSome = (ofF t k).isSome ∧ (hasB a k = false → (ofF now k).isSome = true → ((ofF now k).getD noSh).group = ((ofF t k).getD noSh).group ∧ ((ofF now k).getD noSh).epoch = ((ofF t k).getD noSh).epoch)) :
    ((shares_Of now k).bind fun r8 => (shares_Of t k).bind fun r9 => (bif (decide (r8.1.2.1 ≠ r9.1.2.1)) then bad else (span_Has a k).bind fun r10 => (bif (!r10.1) then (bif r8.1.2.1 then (bif (decide ((r8.1.1.group : Int) ≠ r9.1.1.group)) then bad else (bif (decide ((r8.1.1.epoch : Int) ≠ r9.1.1.epoch)) then bad else K)) else K) else K))) = K := by
  refine bindS (Of_o h1 hk) (bindS (Of_o h2 hk) (condF (by rw [hq.1]; simp) (bindS (Has_p ha hk) ?_)))
  dsimp only
  cases hh : hasB a k
  · refine condT rfl ?_
    cases ho : (ofF now k).isSome
    · rfl
    · obtain ⟨q1, q2⟩ := hq.2 hh ho
      exact condT rfl (condF (by rw [q1]; simp) (condF (by rw [q2]; simp) rfl))
  · rfl
end
theorem goes_loop {s0 : DShares} {a : DSpan} {num g : Int} {i : Nat} (c : Ctx s0 a num g i) (l : List UInt8) (k : Tx) (hl : l.length ≤ 200) (hk : OkT k) :
    ∃ z, loopM watershedlaw20_SchemeGoes_l1 ((l, k, (), (), (), 0, 0, 0, ()), (a, mkX s0 a num g i 0 1, s0, ())) = some z ∧ ∃ x now steps turns, z = .inr (((), (), steps, turns, ()), (a, x, now, ())) ∧ Inv s0 a num g i x now steps turns := by
  refine loopM_spec (fun n b => ∃ (j : Nat) (x : DScheme) (now : DShares) (steps turns : Int), b = ((l, k, (), (), (), steps, turns, (j : Int), ()), (a, x, now, ())) ∧ j ≤ l.length ∧ Inv s0 a num g i x now steps turns ∧ n = l.length - j) _ ?_ (n := l.length) ⟨0, mkX s0 a num g i 0 1, s0, 0, 0, rfl, Nat.zero_le _, .inl ⟨1, by omega, rfl, rfl, rfl, by omega⟩, rfl⟩
  rintro n b ⟨j, x, now, steps, turns, rfl, g1, hI, rfl⟩
  obtain ⟨f1, f2, f3, f4, f5, f6⟩ := Inv.facts c hI
  by_cases hj : j < l.length
  rotate_left
  · right
    refine ⟨_, ?_, x, now, steps, turns, rfl, hI⟩
    unfold watershedlaw20_SchemeGoes_l1
    exact condF (dF (by dsimp only; omega)) rfl
  left
  obtain ⟨y, t, e, k1, kc⟩ := Inv.step c hI (l[j].toNat : Int)
  rcases kc with ⟨e0, e1, e2, rfl⟩ | ⟨rfl, rfl, rfl⟩ | ⟨rfl, e1, e2, rfl, e3⟩ | ⟨rfl, e1, e2, rfl, rfl, e4, e3⟩
  · refine ⟨l.length - (j + 1), _, by omega, ?_, j + 1, x, now, steps, turns, rfl, by omega, hI, rfl⟩
    unfold watershedlaw20_SchemeGoes_l1
    refine condT (dT (by dsimp only; omega)) (bindS (getI_lt hj) (bindS k1 (condT (dT e0) (bindS (getI_lt hj) (condF (dF e1) (bindS (getI_lt hj) (bindS (Goes_p _ _) (condF e2 (condF (by simp [noSc]) ?_)))))))))
    dsimp only
    rw [w64 (by omega)]
    rfl
  · refine ⟨l.length - (j + 1), _, by omega, ?_, j + 1, y, t, steps, turns, rfl, by omega, hI, rfl⟩
    unfold watershedlaw20_SchemeGoes_l1
    refine condT (dT (by dsimp only; omega)) (bindS (getI_lt hj) (bindS k1 (condF (dF (fun h => h rfl)) (bindS (Over_p y) ?_))))
    dsimp only
    rw [w64 (n := (j : Int) + 1) (by omega)]
    cases (decide (y.stage = 6) || decide (y.stage = 9))
    · exact condF rfl (bindS (Right1_p f1) (condF (by rw [f3]; rfl) (condF (by simp) (condF (by simp) (bindS (sameSh_p f2) (condF rfl (tail_p _ _ f2 f2 c.ha hk (c.keys (.inl rfl) k))))))))
    · exact condT rfl (condF (by simp) (bindS (Right1_p f1) (condF (by rw [f3]; rfl) (condF (by simp) (condF (by simp) (bindS (sameSh_p f2) (condF rfl (tail_p _ _ f2 f2 c.ha hk (c.keys (.inl rfl) k)))))))))
  · obtain ⟨h1, h2, h3, h4, h5, h6⟩ := Inv.facts c e3
    refine ⟨l.length - (j + 1), _, by omega, ?_, j + 1, y, t, steps + 1, turns, rfl, by omega, e3, rfl⟩
    unfold watershedlaw20_SchemeGoes_l1
    refine condT (dT (by dsimp only; omega)) (bindS (getI_lt hj) (bindS k1 (condF (dF (fun h => h rfl)) (bindS (Over_p x) ?_))))
    dsimp only
    rw [w64 (n := (j : Int) + 1) (by omega), w64 (n := steps + 1) (by omega)]
    exact condF (by rw [dF e2.1, dF e2.2]; rfl) (bindS (Right1_p h1) (condF (by rw [h3]; rfl) (condT (dT e1) (condF (by simp) (bindS (sameSh_p f2) (condF rfl (tail_p _ _ f2 f2 c.ha hk (c.keys (.inl rfl) k))))))))
  · obtain ⟨h1, h2, h3, h4, h5, h6⟩ := Inv.facts c e3
    refine ⟨l.length - (j + 1), _, by omega, ?_, j + 1, y, turnF now i a g, steps + 1, turns + 1, rfl, by omega, e3, rfl⟩
    unfold watershedlaw20_SchemeGoes_l1
    refine condT (dT (by dsimp only; omega)) (bindS (getI_lt hj) (bindS k1 (condF (dF (fun h => h rfl)) (bindS (Over_p x) ?_))))
    dsimp only
    rw [w64 (n := (j : Int) + 1) (by omega), w64 (n := steps + 1) (by omega), w64 (n := turns + 1) (by omega)]
    exact condF (by rw [e2]; rfl) (bindS (Right1_p h1) (condF (by rw [h3]; rfl) (condT (dT (by omega)) (condT (dT (by show now.epoch + 1 ≠ now.epoch; omega)) (condF (dF (fun h => h e1)) (condF (dF (fun h => h e2)) (condF (dF (fun h => h e4)) (tail_p _ _ f2 h2 c.ha hk (c.keys (.inr ⟨rfl, rfl⟩) k)))))))))
theorem SchemeGoes_p (x0 : DShares) (x1 : Int) (x2 : DSpan) (x3 : Int) (x4 : List UInt8) (x5 : List UInt8) (k0 : ok_DShares x0) (k1 : ok_Ii64 x1) (k2 : ok_DSpan x2) (k3 : ok_Ii64 x3) (k4 : ok_LUInt8 x4) (k5 : ok_ListUInt8 x5) : watershedlaw20_SchemeGoes x0 x1 x2 x3 x4 x5 = some (true, ()) := by
  have ha : OkSp x2 := .of k2
  obtain ⟨r, r1, r2⟩ := great_s (s := x0) x2 k0.2.1.len (fun x hx => .of (k0.2.1.all x hx).1)
  unfold watershedlaw20_SchemeGoes
  refine bindS awake_p (condF rfl (bindS r1 ?_))
  cases r with
  | true => exact condT rfl rfl
  | false =>
  refine condF rfl ?_
  have hs := r2 rfl
  by_cases h4 : (200 : Int) < (x4.length : Int)
  · exact condT (dT h4) rfl
  refine condF (dF h4) ?_
  by_cases h5 : (100 : Int) < (x5.length : Int)
  · exact condT (dT h5) rfl
  refine condF (dF h5) ?_
  obtain ⟨x, e, b1, b2, b3⟩ := Begin_p hs ha x1 x3
  refine bindS b1 ?_
  by_cases he : e = 0
  rotate_left
  · rw [b2 he]
    exact condT (dT he) rfl
  subst he
  refine condF (dF (fun h => h rfl)) ?_
  obtain ⟨c1, c2, c3, c4, i, hi, c5, c6, c7, c8, c9, rfl⟩ := b3 rfl
  have hge : x0.list[i]?.getD noSh = x0.list[i] := by rw [List.getElem?_eq_getElem hi]; rfl
  have c : Ctx x0 x2 x1 x3 i := ⟨hs, ha, c1, c2, c3, c4, hi, by rw [hge]; exact c5, by rw [hge]; exact c6, c7, by rw [hge]; exact c8, c9⟩
  obtain ⟨z, hz, x, now, steps, turns, rfl, hI⟩ := goes_loop c x4 x5 (by omega) k5
  have hx : (⟨x1, x2, x0.list[i].group, x3, x0.list[i].epoch, 0, 1⟩ : DScheme) = mkX x0 x2 x1 x3 i 0 1 := by unfold mkX; rw [hge]
  rw [hx]
  refine bindS hz ?_
  obtain ⟨f1, f2, f3, f4, f5, f6⟩ := Inv.facts c hI
  refine condT (dT f5.2) (condT (dT f6.2) ?_)
  rcases hI with ⟨st, h, rfl, rfl, rfl, rfl⟩ | ⟨st, h, rfl, rfl, rfl, rfl⟩ | ⟨st, h, rfl, rfl, rfl, q2, q3⟩
  · refine condF (dF (by show ¬ (4 : Int) ≤ st; omega)) (condT rfl (bindS (Right_sh f2) (by rw [f4])))
  · refine condT (dT (by show (4 : Int) ≤ st; omega)) (condT (by
      show decide (decide ((1 : Int) = 1) = decide (st ≤ 6)) = true
      rw [dT h.2]; rfl) (bindS (Right_sh f2) (by rw [f4])))
  · refine condT (dT (by show (4 : Int) ≤ st; omega)) (condT (by
      show decide (decide ((0 : Int) = 1) = decide (st ≤ 6)) = true
      rw [dF (p := st ≤ 6) (by omega)]; rfl) (bindS (Right_sh f2) (by rw [f4])))
end Go.Proofs.Ytcamfdmgpmdmhaa
