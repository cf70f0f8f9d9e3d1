/- XSva, XSvb, XSct in one. -/
import Derived.Test.YtcamfdmgpmdmhaaGreatMb
import Derived.Test.YtcamfdmgpmdmhaaGreatG2
/- Handoffs, plainly: what is right, where one goes, a step. -/
namespace Go.Proofs.YtcamfdmgpmdmhaaGreat
open Go.RowKit
set_option maxRecDepth 100000
set_option linter.unusedVariables false
set_option linter.unusedSimpArgs false
theorem ContainsB_p (x : List UInt8) (v : Int) (hx : x.length ≤ 1000) : slices_Contains x v = some (x.any (fun e => decide (v = (e.toNat : Int))), ()) := by
  have key : ∃ b, loopM slices_Index_l1 ((x, v, (x.length : Int), 0, ()), ()) = some b ∧ ((∃ i : Nat, b = .inl (((i : Int), ()), ()) ∧ x.any (fun e => decide (v = (e.toNat : Int))) = true) ∨ (b = .inr ((), ()) ∧ x.any (fun e => decide (v = (e.toNat : Int))) = false)) := by
    refine loopM_spec (fun n a => ∃ i : Nat, a = ((x, v, (x.length : Int), (i : Int), ()), ()) ∧ i ≤ x.length ∧ (x.drop i).any (fun e => decide (v = (e.toNat : Int))) = x.any (fun e => decide (v = (e.toNat : Int))) ∧ n = x.length - i) _ ?_ (n := x.length) ⟨0, rfl, Nat.zero_le _, rfl, rfl⟩
    rintro n a ⟨i, rfl, h1, he, rfl⟩
    unfold slices_Index_l1
    by_cases hi : i < x.length
    · rw [List.drop_eq_getElem_cons hi, List.any_cons] at he
      by_cases hr : v = (x[i].toNat : Int)
      · right
        exact ⟨_, condT (dT (by dsimp only; omega)) (bindS (getI_lt hi) (condT (dT hr) rfl)), .inl ⟨i, rfl, by rw [← he, decide_eq_true hr]; rfl⟩⟩
      · left
        refine ⟨x.length - (i + 1), _, by omega, condT (dT (by dsimp only; omega)) (bindS (getI_lt hi) (condF (dF hr) rfl)), i + 1, ?_, by omega, by rw [decide_eq_false hr, Bool.false_or] at he; exact he, rfl⟩
        dsimp only
        rw [w64 (by omega)]; rfl
    · right
      obtain rfl : i = x.length := by omega
      exact ⟨_, condF (dF (by dsimp only; omega)) rfl, .inr ⟨rfl, by rw [← he, List.drop_length]; rfl⟩⟩
  obtain ⟨b, h1, h2⟩ := key
  unfold slices_Contains slices_Index
  rcases h2 with ⟨i, rfl, h2⟩ | ⟨rfl, h2⟩
  · rw [h2]
    refine bindS (bindS h1 rfl) ?_
    dsimp only
    rw [dT (by omega)]
  · rw [h2]
    exact bindS (bindS h1 rfl) rfl
/-- Does a handoff go so? -/
def goesB (a b : Int) : Bool := ((lkp waysM50_t a).getD []).any fun e => decide (b = (e.toNat : Int))
theorem lkp_len (a : Int) : ((lkp waysM50_t a).getD []).length ≤ 2 := by
  have : ∀ (tb : List (Int × List UInt8)), (∀ p ∈ tb, p.2.length ≤ 2) → ((lkp tb a).getD []).length ≤ 2 := fun tb => by
    induction tb with
    | nil => intro _; simp [lkp]
    | cons p l ih =>
      intro h
      unfold lkp
      by_cases hp : a = p.1
      · rw [decide_eq_true hp]; exact h p List.mem_cons_self
      · rw [decide_eq_false hp]; exact ih fun q hq => h q (List.mem_cons_of_mem _ hq)
  exact this _ (by decide)
theorem Goes_p (a b : Int) : scheme_Goes a b = some (goesB a b, ()) := by
  unfold scheme_Goes waysM50
  have := lkp_len a
  exact bindS rfl (bindS (ContainsB_p _ _ (by dsimp only; omega)) rfl)
theorem swithin_p (n lo hi : Int) : scheme_within n lo hi = some (decide (lo ≤ n) && decide (n ≤ hi), ()) := by
  unfold scheme_within
  by_cases h : lo ≤ n
  · rw [dT h]; rfl
  · rw [dF h]; rfl
def turnedB (st : Int) : Bool := decide (4 ≤ st) && decide (st ≤ 6)
theorem turned_p (w : DWork2) : scheme_turned w = some (turnedB w.scheme.stage, ()) := by
  unfold scheme_turned
  refine bindS (v := 4) (by decide) (bindS (v := 5) (by decide) (bindS (v := 6) (by decide) (bindS (ContainsB_p _ _ (by simp)) ?_)))
  dsimp only
  congr 2
  unfold turnedB
  simp only [List.any_cons, List.any_nil, Bool.or_false]
  rw [Bool.eq_iff_iff]
  simp only [Bool.or_eq_true, Bool.and_eq_true, decide_eq_true_eq]
  have e4 : ((4 : UInt8).toNat : Int) = 4 := rfl
  have e5 : ((5 : UInt8).toNat : Int) = 5 := rfl
  have e6 : ((6 : UInt8).toNat : Int) = 6 := rfl
  omega
/-- A right handoff. -/
def rightS (x : DScheme) : Bool :=
  (decide (1 ≤ x.num) && decide (x.num ≤ 1073741824)) && (rightB x.span && ((decide (1 ≤ x.from_) && decide (x.from_ ≤ 4)) && ((decide (1 ≤ x.to_) && decide (x.to_ ≤ 4)) && (!decide (x.from_ = x.to_) && ((decide (1 ≤ x.epoch) && decide (x.epoch ≤ 1073741824)) && ((decide (1 ≤ x.stage) && decide (x.stage ≤ 9)) && (if turnedB x.stage = true then decide (IntKind.i64.wrap (x.epoch + 1) ≤ x.under) && decide (x.under ≤ 1073741824) else decide (x.under = 0))))))))
theorem stage_p (st : Int) : (lkp waysM50_t st).isSome = (decide (1 ≤ st) && decide (st ≤ 9)) := by
  have : (lkp waysM50_t st).isSome = (decide (st = 1) || (decide (st = 2) || (decide (st = 3) || (decide (st = 4) || (decide (st = 5) || (decide (st = 7) || (decide (st = 8) || (decide (st = 6) || (decide (st = 9) || false))))))))) := by
    unfold waysM50_t
    simp only [lkp]
    cases decide (st = 1) <;> cases decide (st = 2) <;> cases decide (st = 3) <;> cases decide (st = 4) <;> cases decide (st = 5) <;> cases decide (st = 7) <;> cases decide (st = 8) <;> cases decide (st = 6) <;> cases decide (st = 9) <;> rfl
  rw [this, Bool.eq_iff_iff]
  simp only [Bool.or_eq_true, Bool.and_eq_true, decide_eq_true_eq, Bool.false_eq_true, or_false]
  omega
theorem rightS_p {x : DScheme} (hx : OkSp x.span) : scheme_right ⟨x⟩ = some (rightS x, ()) := by
  unfold scheme_right waysM50
  rw [Option.bind_some, turned_p, Option.bind_some]
  simp only [swithin_p, Right_p hx, Option.bind_some, stage_p]
  unfold rightS
  have hne : decide (x.from_ ≠ x.to_) = !decide (x.from_ = x.to_) := by simp
  rw [hne]
  generalize hu : turnedB x.stage = tu
  cases tu
  · simp only [cond_false, Bool.false_eq_true, if_false]
    cases (decide (1 ≤ x.from_) && decide (x.from_ ≤ 4)) <;> cases (decide (1 ≤ x.to_) && decide (x.to_ ≤ 4)) <;> cases (decide (1 ≤ x.num) && decide (x.num ≤ 1073741824)) <;> cases rightB x.span <;> cases decide (x.from_ = x.to_) <;> cases (decide (1 ≤ x.epoch) && decide (x.epoch ≤ 1073741824)) <;> cases (decide (1 ≤ x.stage) && decide (x.stage ≤ 9)) <;> rfl
  · simp only [cond_true, if_true]
    cases (decide (1 ≤ x.from_) && decide (x.from_ ≤ 4)) <;> cases (decide (1 ≤ x.to_) && decide (x.to_ ≤ 4)) <;> cases (decide (1 ≤ x.num) && decide (x.num ≤ 1073741824)) <;> cases rightB x.span <;> cases decide (x.from_ = x.to_) <;> cases (decide (1 ≤ x.epoch) && decide (x.epoch ≤ 1073741824)) <;> cases (decide (1 ≤ x.stage) && decide (x.stage ≤ 9)) <;> rfl
theorem Over_p (x : DScheme) : scheme_Over x = some (decide (x.stage = 6) || decide (x.stage = 9), ()) := by
  unfold scheme_Over
  cases decide (x.stage = 6) <;> rfl
theorem Right1_p {x : DScheme} (hx : OkSp x.span) : scheme_Right [x] = some (rightS x, ()) := by
  have h1 : scheme_Right1 x = some (!rightS x, ()) := by unfold scheme_Right1; exact bindS (rightS_p hx) rfl
  have key : loopM slices_IndexFunc_5_l1 (([x], (), 1, 0, ()), ()) = some (bif rightS x then .inr ((), ()) else .inl ((0, ()), ())) := by
    cases hr : rightS x
    · refine loopM_end ?_
      unfold slices_IndexFunc_5_l1
      exact condT rfl (bindS (v := x) rfl (bindS h1 (condT (by rw [hr]; rfl) rfl)))
    · refine (loopM_next (a' := (([x], (), 1, 1, ()), ())) ?_).trans (loopM_end ?_)
      · unfold slices_IndexFunc_5_l1
        exact condT rfl (bindS (v := x) rfl (bindS h1 (condF (by rw [hr]; rfl) rfl)))
      · unfold slices_IndexFunc_5_l1
        exact condF rfl rfl
  unfold scheme_Right slices_ContainsFunc_2 slices_IndexFunc_5
  refine bindS (v := (!rightS x, ())) (bindS (v := (bif rightS x then (-1 : Int) else 0, ())) (bindS key ?_) ?_) (by simp)
  · cases rightS x <;> rfl
  · cases rightS x <;> rfl
theorem clone71_p {l : List DShare} (h : l.length ≤ 1000) : clone71 l = some (l, ((), ())) := by
  unfold clone71
  exact iteT (by omega) rfl
theorem own_p {s : DShares} (h : OkSh s) : scheme_own s = some ((s.epoch, s.list, ()), ((), ())) := by
  unfold scheme_own
  exact bindS (clone71_p h.len) rfl
def noSc : DScheme := ⟨0, ⟨[], []⟩, 0, 0, 0, 0, 0⟩
theorem SharesOf_p {s : DShares} (h : s.list.length ≤ 140737488355328) (ho : ∀ x ∈ s.list, OkSp x.span) : ∃ n : Int, watershedkit_SharesOf s 400 = some (n, ()) ∧ (n ≤ 400 → s.list.length ≤ 399) := by
  have key : ∃ z, loopM watershedkit_SharesOf_l1 ((400, (), 1, 0, ()), (s, ())) = some z ∧ ∃ n : Int, z = ((n, ()), (s, ())) ∧ (n ≤ 400 → s.list.length ≤ 399) := by
    refine loopM_spec (fun k a => ∃ (i : Nat) (n : Int), a = ((400, (), n, (i : Int), ()), (s, ())) ∧ i ≤ s.list.length ∧ (i : Int) + 1 ≤ n ∧ k = s.list.length - i) _ ?_ (n := s.list.length) ⟨0, 1, rfl, Nat.zero_le _, by omega, rfl⟩
    rintro k a ⟨i, n, rfl, g1, g2, rfl⟩
    unfold watershedkit_SharesOf_l1
    by_cases hi : i < s.list.length
    · by_cases hn : n ≤ 400
      · left
        have ok := ho _ (List.getElem_mem hi)
        have o1 : s.list[i].span.lo.length ≤ 140737488355328 := ok.1
        have o2 : s.list[i].span.hi.length ≤ 140737488355328 := ok.2
        have t1 : ((s.list[i].span.lo.length : Int)).tdiv 8 = ((s.list[i].span.lo.length / 8 : Nat) : Int) := by
          rw [Int.tdiv_eq_ediv_of_nonneg (by omega)]; rfl
        have t2 : ((s.list[i].span.hi.length : Int)).tdiv 8 = ((s.list[i].span.hi.length / 8 : Nat) : Int) := by
          rw [Int.tdiv_eq_ediv_of_nonneg (by omega)]; rfl
        refine ⟨s.list.length - (i + 1), _, by omega, condT (dT (by dsimp only; omega)) (condT (dT (by dsimp only; omega)) (bindS (getI_lt hi) (bindS (getI_lt hi) rfl))), i + 1, n + 1 + ((s.list[i].span.lo.length / 8 : Nat) : Int) + ((s.list[i].span.hi.length / 8 : Nat) : Int), ?_, by omega, by omega, rfl⟩
        dsimp only
        rw [t1, t2, w64 (n := n + 1) (by omega), w64 (n := ((s.list[i].span.lo.length / 8 : Nat) : Int)) (by omega), w64 (n := ((s.list[i].span.hi.length / 8 : Nat) : Int)) (by omega), w64 (n := n + 1 + ((s.list[i].span.lo.length / 8 : Nat) : Int)) (by omega), w64 (by omega), w64 (by omega)]
        rfl
      · right
        exact ⟨_, condT (dT (by dsimp only; omega)) (condF (dF (by dsimp only; omega)) rfl), n, rfl, fun h => absurd h hn⟩
    · right
      exact ⟨_, condF (dF (by dsimp only; omega)) rfl, n, rfl, fun h => by omega⟩
  obtain ⟨z, hz, n, rfl, hn⟩ := key
  refine ⟨n, ?_, hn⟩
  unfold watershedkit_SharesOf
  exact bindS hz rfl
theorem sameRowsA_p (l : List DShare) (hl : l.length ≤ 140737488355328) : watershedkit_SameShareRows l.length l l = some (true, (l, ())) := by
  have h : loopM watershedkit_SameShareRows_l1 ((l.length, l, 0, ()), (l, ())) = some (.inr ((), (l, ()))) := by
    refine loopM_run (step := watershedkit_SameShareRows_l1) (fun j : Nat => ((l.length, l, (j : Int), ()), (l, ()))) (N := l.length) (fun j hj => ?_) ?_
    · unfold watershedkit_SameShareRows_l1
      have hg : l[0 + ((j : Int)).toNat]? = some l[j] := by rw [Nat.zero_add, Int.toNat_natCast, List.getElem?_eq_getElem hj]
      refine condT (dT (by dsimp only; omega)) (iteT (by dsimp only; omega) (bindS (getI_lt hj) (bindS hg (condF (by simp) ?_))))
      dsimp only
      rw [w64 (by omega)]
      rfl
    · unfold watershedkit_SameShareRows_l1
      exact condF (dF (by dsimp only; omega)) rfl
  unfold watershedkit_SameShareRows
  exact condF (dF (by simp)) (bindS h rfl)
theorem sameShA_p {t : DShares} (hl : t.list.length ≤ 140737488355328) : watershedkit_SameShares (t.epoch, t.list.length, ()) t t.list = some (true, (t.list, ())) := by
  unfold watershedkit_SameShares
  exact condT (dT rfl) (bindS (sameRowsA_p _ hl) rfl)
theorem sameRows2_p (l : List DShare) (hl : l.length ≤ 140737488355328) : watershedkit_SameShareRows_2 l l = some (true, ()) := by
  have h : loopM watershedkit_SameShareRows_2_l1 ((l, l, 0, ()), ()) = some (.inr ((), ())) := by
    refine loopM_run (step := watershedkit_SameShareRows_2_l1) (fun j : Nat => ((l, l, (j : Int), ()), ())) (N := l.length) (fun j hj => ?_) ?_
    · unfold watershedkit_SameShareRows_2_l1
      refine condT (dT (by dsimp only; omega)) (bindS (getI_lt hj) (bindS (getI_lt hj) (condF (by simp) ?_)))
      dsimp only
      rw [w64 (by omega)]
      rfl
    · unfold watershedkit_SameShareRows_2_l1
      exact condF (dF (by dsimp only; omega)) rfl
  unfold watershedkit_SameShareRows_2
  exact condF (dF (by simp)) (bindS h rfl)
theorem sameSh2_p {s : DShares} (hl : s.list.length ≤ 140737488355328) : watershedkit_SameShares_2 s s = some (true, ()) := by
  unfold watershedkit_SameShares_2
  exact condT (dT rfl) (bindS (sameRows2_p _ hl) rfl)
theorem OverSh_p (e : Int) (n : Nat) (hn : n ≤ 1000000) (l : List DShare) : watershedkit_OverShares (e, n, ()) l = some ((), ([], ())) := by
  unfold watershedkit_OverShares watershedkit_OverShareRows_v
  exact bindS (if_pos hn) rfl
theorem LentSh_p {s : DShares} (hn : s.list.length ≤ 1000) : watershedkit_LentShares s = some ((s.epoch, (s.list, marks 12), ()), ()) := by
  unfold watershedkit_LentShares
  exact bindS (Lent_p hn) rfl
theorem KeptSh_p {s : DShares} (hn : s.list.length ≤ 1000) : watershedkit_KeptShares (s.epoch, (s.list, marks 12), ()) s = some (true, ()) := by
  unfold watershedkit_KeptShares
  exact bindS (sameSh2_p (s := s) (by omega)) (condT rfl (bindS (Kept_p (l := s.list) hn) rfl))
theorem great_v {s : DShares} (l : List DSpan) (hn : l.length ≤ 1000) (h : s.list.length ≤ 140737488355328) (ho : ∀ x ∈ s.list, OkSp x.span) : ∃ r, watershedlaw20_great s l = some (r, ()) ∧ (r = false → OkSh s) := by
  obtain ⟨n, n1, n2⟩ := SharesOf_p h ho
  have key : ∃ z, loopM watershedlaw20_great_l1 ((l, (), 0, ()), (s, ())) = some z ∧ (z = .inl ((true, ()), (s, ())) ∨ z = .inr (((), ()), (s, ()))) := by
    refine loopM_spec (fun k a => ∃ i : Nat, a = ((l, (), (i : Int), ()), (s, ())) ∧ i ≤ l.length ∧ k = l.length - i) _ ?_ (n := l.length) ⟨0, rfl, Nat.zero_le _, rfl⟩
    rintro k a ⟨i, rfl, g1, rfl⟩
    unfold watershedlaw20_great_l1
    by_cases hi : i < l.length
    · by_cases hc : (100 : Int) < IntKind.i64.wrap ((l[i].lo.length : Int) + (l[i].hi.length : Int))
      · right
        exact ⟨_, condT (dT (by dsimp only; omega)) (bindS (getI_lt hi) (bindS (getI_lt hi) (condT (dT hc) rfl))), .inl rfl⟩
      · left
        refine ⟨l.length - (i + 1), _, by omega, condT (dT (by dsimp only; omega)) (bindS (getI_lt hi) (bindS (getI_lt hi) (condF (dF hc) rfl))), i + 1, ?_, by omega, rfl⟩
        dsimp only
        rw [w64 (by omega)]
        rfl
    · right
      exact ⟨_, condF (dF (by dsimp only; omega)) rfl, .inr rfl⟩
  obtain ⟨z, hz, rfl | rfl⟩ := key
  · exact ⟨true, by unfold watershedlaw20_great; exact bindS hz rfl, fun h => by cases h⟩
  · refine ⟨decide ((400 : Int) < n), by unfold watershedlaw20_great; exact bindS hz (bindS n1 rfl), fun h => ⟨?_, ho⟩⟩
    have h : ¬ (400 : Int) < n := of_decide_eq_false h
    have := n2 (by omega)
    omega
end Go.Proofs.YtcamfdmgpmdmhaaGreat
/- Steps of a handoff, and what the document says of them: the same. -/
namespace Go.Proofs.YtcamfdmgpmdmhaaGreat
open Go.RowKit
set_option maxRecDepth 100000
set_option linter.unusedVariables false
set_option linter.unusedSimpArgs false
theorem goes_other {a : Int} (h : ¬ (a = 1 ∨ a = 2 ∨ a = 3 ∨ a = 4 ∨ a = 5 ∨ a = 7 ∨ a = 8)) (b : Int) : goesB a b = false := by
  unfold goesB waysM50_t
  simp only [lkp]
  rw [decide_eq_false (p := a = 1) (by omega), decide_eq_false (p := a = 2) (by omega), decide_eq_false (p := a = 3) (by omega), decide_eq_false (p := a = 4) (by omega), decide_eq_false (p := a = 5) (by omega), decide_eq_false (p := a = 7) (by omega), decide_eq_false (p := a = 8) (by omega)]
  simp only [cond_false]
  generalize decide (a = 6) = u
  generalize decide (a = 9) = v
  cases u <;> cases v <;> simp
theorem refGoes_p (a b : Int) : watershedref20_Goes a b = some (goesB a b, ()) := by
  unfold watershedref20_Goes
  by_cases h1 : a = 1
  · subst h1
    refine condT (by decide) ?_
    have : goesB 1 b = (decide (b = 2) || (decide (b = 7) || false)) := rfl
    rw [this, show IntKind.u8.wrap ((1 : Int) + 1) = 2 from rfl]
    cases decide (b = 2) <;> simp
  by_cases h2 : a = 2
  · subst h2
    refine condF (by decide) (condT (by decide) ?_)
    have : goesB 2 b = (decide (b = 3) || (decide (b = 7) || false)) := rfl
    rw [this, show IntKind.u8.wrap ((2 : Int) + 1) = 3 from rfl]
    cases decide (b = 3) <;> simp
  by_cases h3 : a = 3
  · subst h3
    refine condF (by decide) (condF (by decide) (condT (by decide) ?_))
    have : goesB 3 b = (decide (b = 4) || (decide (b = 7) || false)) := rfl
    rw [this, show IntKind.u8.wrap ((3 : Int) + 1) = 4 from rfl]
    cases decide (b = 4) <;> simp
  by_cases h4 : a = 4
  · subst h4
    refine condF (by decide) (condF (by decide) (condF (by decide) (condT (by decide) ?_)))
    have : goesB 4 b = (decide (b = 5) || false) := rfl
    rw [this, show IntKind.u8.wrap ((4 : Int) + 1) = 5 from rfl, Bool.or_false]
  by_cases h5 : a = 5
  · subst h5
    refine condF (by decide) (condF (by decide) (condF (by decide) (condF (by decide) (condT (by decide) ?_))))
    have : goesB 5 b = (decide (b = 6) || false) := rfl
    rw [this, show IntKind.u8.wrap ((5 : Int) + 1) = 6 from rfl, Bool.or_false]
  by_cases h7 : a = 7
  · subst h7
    refine condF (by decide) (condF (by decide) (condF (by decide) (condF (by decide) (condF (by decide) (condT (by decide) ?_)))))
    have : goesB 7 b = (decide (b = 8) || false) := rfl
    rw [this, show IntKind.u8.wrap ((7 : Int) + 1) = 8 from rfl, Bool.or_false]
  by_cases h8 : a = 8
  · subst h8
    refine condF (by decide) (condF (by decide) (condF (by decide) (condF (by decide) (condF (by decide) (condF (by decide) (condT (by decide) ?_))))))
    have : goesB 8 b = (decide (b = 9) || false) := rfl
    rw [this, show IntKind.u8.wrap ((8 : Int) + 1) = 9 from rfl, Bool.or_false]
  rw [goes_other (by omega)]
  exact condF (dF h1) (condF (dF h2) (condF (dF h3) (condF (dF h4) (condF (dF h5) (condF (dF h7) (condF (dF h8) rfl))))))
theorem rightS_iff {x : DScheme} : rightS x = true ↔ (1 ≤ x.num ∧ x.num ≤ 1073741824) ∧ rightB x.span = true ∧ (1 ≤ x.from_ ∧ x.from_ ≤ 4) ∧ (1 ≤ x.to_ ∧ x.to_ ≤ 4) ∧ x.from_ ≠ x.to_ ∧ (1 ≤ x.epoch ∧ x.epoch ≤ 1073741824) ∧ (1 ≤ x.stage ∧ x.stage ≤ 9) ∧ (if 4 ≤ x.stage ∧ x.stage ≤ 6 then x.epoch + 1 ≤ x.under ∧ x.under ≤ 1073741824 else x.under = 0) := by
  unfold rightS turnedB
  simp only [Bool.and_eq_true, decide_eq_true_eq, Bool.not_eq_true', decide_eq_false_iff_not]
  constructor
  · rintro ⟨a, b, c, d, e, f, g, h⟩
    refine ⟨a, b, c, d, e, f, g, ?_⟩
    rw [w64 (by omega)] at h
    split at h
    · rename_i hh; rw [if_pos hh]; simpa using h
    · rename_i hh; rw [if_neg hh]; simpa using h
  · rintro ⟨a, b, c, d, e, f, g, h⟩
    refine ⟨a, b, c, d, e, f, g, ?_⟩
    rw [w64 (by omega)]
    split at h
    · rename_i hh; rw [if_pos hh]; simpa using h
    · rename_i hh; rw [if_neg hh]; simpa using h
theorem rightS_no {x : DScheme} (h : ¬ ((1 ≤ x.num ∧ x.num ≤ 1073741824) ∧ rightB x.span = true ∧ (1 ≤ x.from_ ∧ x.from_ ≤ 4) ∧ (1 ≤ x.to_ ∧ x.to_ ≤ 4) ∧ x.from_ ≠ x.to_ ∧ (1 ≤ x.epoch ∧ x.epoch ≤ 1073741824) ∧ (1 ≤ x.stage ∧ x.stage ≤ 9) ∧ (if 4 ≤ x.stage ∧ x.stage ≤ 6 then x.epoch + 1 ≤ x.under ∧ x.under ≤ 1073741824 else x.under = 0))) : some (false, ()) = some (rightS x, ()) := by
  have : rightS x = false := by
    cases hr : rightS x
    · rfl
    · exact absurd (rightS_iff.1 hr) h
  rw [this]
theorem refOne_p {x : DScheme} (hx : OkSp x.span) : watershedref20_one x = some (rightS x, ()) := by
  unfold watershedref20_one
  by_cases h1 : x.num < 1
  · exact condT (dT h1) (rightS_no fun h => by omega)
  refine condF (dF h1) ?_
  by_cases h2 : 1073741824 < x.num
  · exact condT (dT h2) (rightS_no fun h => by omega)
  refine condF (dF h2) (bindS (refRight_p hx) ?_)
  cases hb : rightB x.span
  · exact condT rfl (rightS_no fun h => by rw [hb] at h; exact Bool.false_ne_true h.2.1)
  refine condF rfl ?_
  by_cases h3 : x.from_ < 1
  · exact condT (dT h3) (rightS_no fun h => by omega)
  refine condF (dF h3) ?_
  by_cases h4 : 4 < x.from_
  · exact condT (dT h4) (rightS_no fun h => by omega)
  refine condF (dF h4) ?_
  by_cases h5 : x.to_ < 1
  · exact condT (dT h5) (rightS_no fun h => by omega)
  refine condF (dF h5) ?_
  by_cases h6 : 4 < x.to_
  · exact condT (dT h6) (rightS_no fun h => by omega)
  refine condF (dF h6) ?_
  by_cases h7 : x.from_ = x.to_
  · exact condT (dT h7) (rightS_no fun h => by omega)
  refine condF (dF h7) ?_
  by_cases h8 : x.epoch < 1
  · exact condT (dT h8) (rightS_no fun h => by omega)
  refine condF (dF h8) ?_
  by_cases h9 : 1073741824 < x.epoch
  · exact condT (dT h9) (rightS_no fun h => by omega)
  refine condF (dF h9) ?_
  by_cases h10 : x.stage < 1
  · exact condT (dT h10) (rightS_no fun h => by omega)
  refine condF (dF h10) ?_
  by_cases h11 : 9 < x.stage
  · exact condT (dT h11) (rightS_no fun h => by omega)
  refine condF (dF h11) ?_
  have base : ∀ {b : Bool}, (b = true ↔ (if 4 ≤ x.stage ∧ x.stage ≤ 6 then x.epoch + 1 ≤ x.under ∧ x.under ≤ 1073741824 else x.under = 0)) → some (b, ()) = some (rightS x, ()) := fun {b} hb' => by
    congr 2
    rw [Bool.eq_iff_iff, rightS_iff, hb']
    exact ⟨fun h => ⟨by omega, hb, by omega, by omega, h7, by omega, by omega, h⟩, fun h => h.2.2.2.2.2.2.2⟩
  by_cases h12 : 4 ≤ x.stage
  · refine condT (dT h12) ?_
    by_cases h13 : x.stage ≤ 6
    · refine condT (dT h13) ?_
      by_cases h14 : x.epoch < x.under
      · refine condT (dT h14) (base ?_)
        rw [if_pos ⟨h12, h13⟩, decide_eq_true_eq]
        omega
      · refine condF (dF h14) (base ?_)
        rw [if_pos ⟨h12, h13⟩]
        constructor
        · intro h; cases h
        · intro h; omega
    · refine condF (dF h13) (base ?_)
      rw [if_neg (by omega), decide_eq_true_eq]
  · refine condF (dF h12) (base ?_)
    rw [if_neg (by omega), decide_eq_true_eq]
/-- What a step tells; t, e: what a turn tells. -/
def stepF (x : DScheme) (s : DShares) (st : Int) (t : DShares) (e : Int) : DScheme × DShares × Int :=
  if rightS x = false then (noSc, ⟨0, []⟩, 2) else if rightW s = false then (noSc, ⟨0, []⟩, 2) else if x.stage = st then (x, s, 0) else if goesB x.stage st = false then (noSc, ⟨0, []⟩, 26) else
  if st = 4 then (if e ≠ 0 then (noSc, ⟨0, []⟩, e) else if ((pickF s fun q => withinB x.span q.span).getD noSh).group ≠ x.from_ then (noSc, ⟨0, []⟩, 26) else if ((pickF s fun q => withinB x.span q.span).getD noSh).epoch ≠ x.epoch then (noSc, ⟨0, []⟩, 26) else (⟨x.num, x.span, x.from_, x.to_, x.epoch, t.epoch, st⟩, t, 0))
  else (⟨x.num, x.span, x.from_, x.to_, x.epoch, x.under, st⟩, s, 0)
section
variable {x : DScheme} {s t : DShares} {st e : Int} (hx : OkSp x.span) (hs : OkSh s)
include hx hs
theorem refStep_v (ht : watershedref05_Turn s x.span x.to_ = some ((t, e, ()), ())) : watershedref20_Step x s st = some (((stepF x s st t e).1, (stepF x s st t e).2.1, (stepF x s st t e).2.2, ()), ()) := by
  unfold watershedref20_Step stepF
  refine bindS (refOne_p hx) ?_
  cases h1 : rightS x
  · exact condT rfl rfl
  refine condF rfl (bindS (refR5_p hs) ?_)
  rw [if_neg (by decide)]
  cases h2 : rightW s
  · exact condT rfl rfl
  rw [if_neg (by decide)]
  refine condF rfl ?_
  by_cases h3 : x.stage = st
  · rw [if_pos h3]; exact condT (dT h3) rfl
  rw [if_neg h3]
  refine condF (dF h3) (bindS (refGoes_p _ _) ?_)
  cases h4 : goesB x.stage st
  · exact condT rfl rfl
  rw [if_neg (by decide)]
  refine condF rfl ?_
  by_cases h5 : st = 4
  · rw [if_pos h5]
    refine condT (dT h5) (bindS ht ?_)
    by_cases h6 : e = 0
    · rw [if_neg (by omega)]
      refine condF (dF (fun c => c h6)) (bindS (refIn_p hs hx) ?_)
      by_cases h7 : ((pickF s fun q => withinB x.span q.span).getD noSh).group = x.from_
      · rw [if_neg (fun c => c h7)]
        refine condF (dF (fun c => c h7)) ?_
        by_cases h8 : ((pickF s fun q => withinB x.span q.span).getD noSh).epoch = x.epoch
        · rw [if_neg (fun c => c h8)]
          exact condF (dF (fun c => c h8)) rfl
        · rw [if_pos h8]
          exact condT (dT h8) rfl
      · rw [if_pos h7]
        exact condT (dT h7) rfl
    · rw [if_pos h6]
      exact condT (dT h6) rfl
  · rw [if_neg h5]
    exact condF (dF h5) rfl
theorem Step_v (ht : shares_Turn s x.span x.to_ = some (((t.epoch, t.list, ()), e, ()), ((), ()))) : scheme_Step x s st = some (((stepF x s st t e).1, ((stepF x s st t e).2.1.epoch, (stepF x s st t e).2.1.list, ()), (stepF x s st t e).2.2, ()), ((), ())) := by
  unfold scheme_Step stepF
  refine bindS (rightS_p hx) ?_
  cases h1 : rightS x
  · exact condT rfl rfl
  refine condF rfl (bindS (Right_sh hs) ?_)
  rw [if_neg (by decide)]
  cases h2 : rightW s
  · exact condT rfl rfl
  rw [if_neg (by decide)]
  refine condF rfl ?_
  by_cases h3 : x.stage = st
  · rw [if_pos h3]; exact condT (dT h3) (bindS (own_p hs) rfl)
  rw [if_neg h3]
  refine condF (dF h3) (bindS (Goes_p _ _) ?_)
  cases h4 : goesB x.stage st
  · exact condT rfl rfl
  rw [if_neg (by decide)]
  refine condF rfl (bindS (own_p hs) ?_)
  by_cases h5 : st = 4
  · rw [if_pos h5]
    refine condT (dT h5) ?_
    unfold scheme_turn
    by_cases h6 : e = 0
    · subst h6
      rw [if_neg (by omega)]
      by_cases h7 : ((pickF s fun q => withinB x.span q.span).getD noSh).group = x.from_
      · rw [if_neg (fun c => c h7)]
        by_cases h8 : ((pickF s fun q => withinB x.span q.span).getD noSh).epoch = x.epoch
        · rw [if_neg (fun c => c h8)]
          exact bindS (bindS ht (condF rfl (bindS (In_p hs hx) (condF (dF (fun c => c h7)) (condF (dF (fun c => c h8)) rfl))))) rfl
        · rw [if_pos h8]
          exact bindS (bindS ht (condF rfl (bindS (In_p hs hx) (condF (dF (fun c => c h7)) (condT (dT h8) rfl))))) rfl
      · rw [if_pos h7]
        exact bindS (bindS ht (condF rfl (bindS (In_p hs hx) (condT (dT h7) rfl)))) rfl
    · rw [if_pos h6]
      exact bindS (bindS ht (condT (dT h6) rfl)) (condT (dT h6) rfl)
  · rw [if_neg h5]
    exact condF (dF h5) rfl
theorem StepBoth_p (st : Int) : ∃ y t e, scheme_Step_ar x s st = some ((y, (t.epoch, t.list.length, ()), e, ()), (t.list, ())) ∧ watershedref20_Step x s st = some ((y, t, e, ()), ()) ∧ t.list.length ≤ 1000 := by
  obtain ⟨t, e, h1, h2, h3⟩ := Both_p hs hx x.to_
  refine ⟨(stepF x s st t e).1, (stepF x s st t e).2.1, (stepF x s st t e).2.2, ?_, refStep_v hx hs h2, ?_⟩
  · unfold scheme_Step_ar
    exact bindS (Step_v hx hs h1) rfl
  · unfold stepF
    have := h3.len
    have := hs.len
    repeat' split
    all_goals first | assumption | exact Nat.zero_le _
end
theorem BeginBoth_p {s : DShares} (hs : OkSh s) {a : DSpan} (ha : OkSp a) (num g : Int) : ∃ y e, scheme_Begin s num a g = some ((y, e, ()), ()) ∧ watershedref20_Begin s num a g = some ((y, e, ()), ()) ∧ OkSp y.span := by
  obtain ⟨t, e, h1, h2, h3⟩ := Both_p hs ha g
  unfold scheme_Begin watershedref20_Begin
  rw [swithin_p, Option.bind_some]
  by_cases n1 : num < 1
  · exact ⟨noSc, 2, condT (by rw [dF (by omega)]; rfl) rfl, condT (dT n1) rfl, ok0⟩
  by_cases n2 : 1073741824 < num
  · exact ⟨noSc, 2, condT (by rw [dT (by omega), dF (by omega)]; rfl) rfl, condF (dF n1) (condT (dT n2) rfl), ok0⟩
  have nb : (!(decide (1 ≤ num) && decide (num ≤ 1073741824))) = false := by rw [dT (by omega), dT (by omega)]; rfl
  by_cases he : e = 0
  · subst he
    exact ⟨_, _, condF nb (bindS h1 (condF rfl (bindS (In_p hs ha) rfl))), condF (dF n1) (condF (dF n2) (bindS h2 (condF rfl (bindS (refIn_p hs ha) rfl)))), ha⟩
  · exact ⟨noSc, e, condF nb (bindS h1 (condT (dT he) rfl)), condF (dF n1) (condF (dF n2) (bindS h2 (condT (dT he) rfl))), ok0⟩
theorem Right2_p {x y : DScheme} (hx : OkSp x.span) (hy : OkSp y.span) : scheme_Right [x, y] = some (rightS x && rightS y, ()) := by
  have h1 : scheme_Right1 x = some (!rightS x, ()) := by unfold scheme_Right1; exact bindS (rightS_p hx) rfl
  have h2 : scheme_Right1 y = some (!rightS y, ()) := by unfold scheme_Right1; exact bindS (rightS_p hy) rfl
  have key : loopM slices_IndexFunc_5_l1 (([x, y], (), 2, 0, ()), ()) = some (bif rightS x then (bif rightS y then .inr ((), ()) else .inl ((1, ()), ())) else .inl ((0, ()), ())) := by
    cases hr : rightS x
    · refine loopM_end ?_
      unfold slices_IndexFunc_5_l1
      exact condT rfl (bindS (v := x) rfl (bindS h1 (condT (by rw [hr]; rfl) rfl)))
    · refine (loopM_next (a' := (([x, y], (), 2, 1, ()), ())) ?_).trans ?_
      · unfold slices_IndexFunc_5_l1
        exact condT rfl (bindS (v := x) rfl (bindS h1 (condF (by rw [hr]; rfl) rfl)))
      · cases hq : rightS y
        · refine loopM_end ?_
          unfold slices_IndexFunc_5_l1
          exact condT rfl (bindS (v := y) rfl (bindS h2 (condT (by rw [hq]; rfl) rfl)))
        · refine (loopM_next (a' := (([x, y], (), 2, 2, ()), ())) ?_).trans (loopM_end ?_)
          · unfold slices_IndexFunc_5_l1
            exact condT rfl (bindS (v := y) rfl (bindS h2 (condF (by rw [hq]; rfl) rfl)))
          · unfold slices_IndexFunc_5_l1
            exact condF rfl rfl
  unfold scheme_Right slices_ContainsFunc_2 slices_IndexFunc_5
  cases hr : rightS x <;> cases hq : rightS y <;> rw [hr, hq] at key <;> exact bindS (bindS (bindS key rfl) rfl) rfl
theorem refRight2_p {x y : DScheme} (hx : OkSp x.span) (hy : OkSp y.span) : watershedref20_Right (0, 2, 2) [x, y] = some (rightS x && rightS y, ([x, y], ())) := by
  have key : loopM watershedref20_Right_l1 (((0, 2, 2), 0, ()), ([x, y], ())) = some (bif rightS x && rightS y then .inr ((), ([x, y], ())) else .inl ((false, ()), ([x, y], ()))) := by
    cases hr : rightS x
    · refine loopM_end ?_
      unfold watershedref20_Right_l1
      exact condT rfl (iteT (by dsimp only; omega) (bindS (v := x) rfl (bindS (refOne_p hx) (condT (by rw [hr]; rfl) rfl))))
    · refine (loopM_next (a' := (((0, 2, 2), 1, ()), ([x, y], ()))) ?_).trans ?_
      · unfold watershedref20_Right_l1
        exact condT rfl (iteT (by dsimp only; omega) (bindS (v := x) rfl (bindS (refOne_p hx) (condF (by rw [hr]; rfl) rfl))))
      · cases hq : rightS y
        · refine loopM_end ?_
          unfold watershedref20_Right_l1
          exact condT rfl (iteT (by dsimp only; omega) (bindS (v := y) rfl (bindS (refOne_p hy) (condT (by rw [hq]; rfl) rfl))))
        · refine (loopM_next (a' := (((0, 2, 2), 2, ()), ([x, y], ()))) ?_).trans (loopM_end ?_)
          · unfold watershedref20_Right_l1
            exact condT rfl (iteT (by dsimp only; omega) (bindS (v := y) rfl (bindS (refOne_p hy) (condF (by rw [hq]; rfl) rfl))))
          · unfold watershedref20_Right_l1
            exact condF rfl rfl
  unfold watershedref20_Right
  refine bindS key ?_
  cases hr : rightS x <;> cases hq : rightS y <;> rfl
theorem refOver_p (x : DScheme) : watershedref20_Over x = some (decide (x.stage = 6) || decide (x.stage = 9), ()) := by
  unfold watershedref20_Over
  cases decide (x.stage = 6) <;> rfl
end Go.Proofs.YtcamfdmgpmdmhaaGreat
/- SchemeTells, plainly. -/
namespace Go.Proofs.YtcamfdmgpmdmhaaGreat
open Go.RowKit
set_option maxRecDepth 100000
set_option linter.unusedVariables false
set_option linter.unusedSimpArgs false
def aS : DShares := ⟨1, [⟨⟨[], []⟩, 1, 1⟩]⟩
def aT : DShares := ⟨2, [⟨⟨[], [109]⟩, 1, 1⟩, ⟨⟨[109], []⟩, 2, 2⟩]⟩
def aX (st : Int) : DScheme := ⟨1, ⟨[109], []⟩, 1, 2, 1, 0, st⟩
def aY : DScheme := ⟨1, ⟨[109], []⟩, 1, 2, 1, 2, 4⟩
theorem awake_pick : (pickF aS fun q => withinB ⟨[109], []⟩ q.span) = some ⟨⟨[], []⟩, 1, 1⟩ := by decide +kernel
theorem awake_begin : scheme_Begin aS 1 ⟨[109], []⟩ 2 = some ((aX 1, 0, ()), ()) := by
  unfold scheme_Begin
  refine bindS (swithin_p _ _ _) (condF (by decide) (bindS Turn_m (condF rfl (bindS (In_p okf okm) ?_))))
  dsimp only
  rw [show (⟨1, [⟨⟨[], []⟩, 1, 1⟩]⟩ : DShares) = aS from rfl, awake_pick]
  rfl
theorem awake_step (a b : Int) (h1 : rightS (aX a) = true) (h2 : a ≠ b) (h3 : goesB a b = true) (h4 : b ≠ 4) : scheme_Step (aX a) aS b = some ((aX b, (1, aS.list, ()), 0, ()), ((), ())) := by
  have := Step_v (x := aX a) (s := aS) (st := b) (t := aT) (e := 0) okm okf Turn_m
  rw [this]
  have hf : stepF (aX a) aS b aT 0 = (aX b, aS, 0) := by
    unfold stepF
    rw [if_neg (by rw [h1]; decide), if_neg (by decide +kernel), if_neg (by show ¬ a = b; exact h2), if_neg (by show ¬ goesB a b = false; rw [h3]; decide), if_neg h4]
    rfl
  rw [hf]
  rfl
theorem awake_turn : scheme_Step (aX 3) aS 4 = some ((aY, (2, aT.list, ()), 0, ()), ((), ())) := by
  have := Step_v (x := aX 3) (s := aS) (st := 4) (t := aT) (e := 0) okm okf Turn_m
  rw [this]
  have hf : stepF (aX 3) aS 4 aT 0 = (aY, aT, 0) := by
    unfold stepF
    rw [if_neg (by decide +kernel), if_neg (by decide +kernel), if_neg (by decide), if_neg (by decide +kernel), if_pos rfl, if_neg (by decide)]
    rw [show (aX 3).span = ⟨[109], []⟩ from rfl, awake_pick]
    rfl
  rw [hf]
  rfl
theorem awake_p : watershedlaw20_awake = some (true, ()) := by
  have ok122 : OkT [122] := by simp [OkT]
  have okT : OkSh aT := ⟨by simp [aT], fun x hx => by
    simp only [aT, List.mem_cons, List.not_mem_nil, or_false] at hx
    rcases hx with rfl | rfl
    · exact ⟨by simp [OkT], by simp [OkT]⟩
    · exact okm⟩
  have hof : (pickF aT fun x => hasB x.span [122]) = some ⟨⟨[109], []⟩, 2, 2⟩ := by decide +kernel
  have hl : loopM watershedlaw20_awake_l1 (((), (), 0, ([2, 3, 4] : List UInt8), 0, ()), (aS, aX 1, (), ())) = some (((), (), 0, ()), (aT, aY, (), ())) := by
    refine (loopM_next (a' := (((), (), 0, ([2, 3, 4] : List UInt8), 1, ()), (aS, aX 2, (), ()))) ?_).trans ((loopM_next (a' := (((), (), 0, ([2, 3, 4] : List UInt8), 2, ()), (aS, aX 3, (), ()))) ?_).trans ((loopM_next (a' := (((), (), 0, ([2, 3, 4] : List UInt8), 3, ()), (aT, aY, (), ()))) ?_).trans (loopM_end ?_)))
    · unfold watershedlaw20_awake_l1
      exact condT rfl (condT rfl (bindS (v := 2) rfl (bindS (awake_step 1 2 (by decide +kernel) (by decide) (by decide +kernel) (by decide)) rfl)))
    · unfold watershedlaw20_awake_l1
      exact condT rfl (condT rfl (bindS (v := 3) rfl (bindS (awake_step 2 3 (by decide +kernel) (by decide) (by decide +kernel) (by decide)) rfl)))
    · unfold watershedlaw20_awake_l1
      exact condT rfl (condT rfl (bindS (v := 4) rfl (bindS awake_turn rfl)))
    · unfold watershedlaw20_awake_l1
      exact condF rfl rfl
  unfold watershedlaw20_awake
  refine bindS First_p (bindS awake_begin (bindS (v := 2) (by decide) (bindS (v := 3) (by decide) (bindS (v := 4) (by decide) (bindS hl (bindS (Of_p okT ok122) ?_))))))
  dsimp only
  rw [hof]
  exact condT rfl (condT (by decide) (condT rfl (condT rfl rfl)))
theorem SchemeTells_p (x0 : DScheme) (x1 : DShares) (x2 : Int) (x3 : Int) (x4 : DSpan) (x5 : Int) (k0 : ok_DScheme x0) (k1 : ok_DShares x1) (k2 : ok_Iu8 x2) (k3 : ok_Ii64 x3) (k4 : ok_DSpan x4) (k5 : ok_Ii64 x5) : watershedlaw20_SchemeTells x0 x1 x2 x3 x4 x5 = some (true, ()) := by
  have hx : OkSp x0.span := .of k0.2.1
  have ha : OkSp x4 := .of k4
  obtain ⟨r, r1, r2⟩ := great_v (s := x1) [x4, x0.span] (by simp) k1.2.1.len (fun x hx => .of (k1.2.1.all x hx).1)
  unfold watershedlaw20_SchemeTells
  refine bindS awake_p (condF rfl (bindS r1 ?_))
  cases r with
  | true => exact condT rfl rfl
  | false =>
  have hs := r2 rfl
  have hsl := hs.len
  obtain ⟨y, t, e, a1, a2, a3⟩ := StepBoth_p hx hs x2
  obtain ⟨z, f, b1, b2, b3⟩ := BeginBoth_p hs ha x3 x5
  refine condF rfl (bindS (LentSh_p (s := x1) hsl) (bindS a1 (bindS a2 (bindS b1 (bindS b2 (condF (by simp) (condF (by simp) (bindS (sameShA_p (t := t) (by omega)) (condF rfl (condF (by simp) (condF (by simp) (bindS (Right2_p hx b3) (bindS (refRight2_p hx b3) (condF (by simp) (bindS (Over_p x0) (bindS (refOver_p x0) (condF (by simp) (bindS (Goes_p _ _) (bindS (refGoes_p _ _) (condF (by simp) ?_))))))))))))))))))))
  exact bindS (OverSh_p t.epoch t.list.length (by omega) t.list) (bindS (KeptSh_p (s := x1) hsl) rfl)
end Go.Proofs.YtcamfdmgpmdmhaaGreat
