/- Handoffs, plainly: what is right, where one goes, a step. -/
import Derived.Test.YtaihdjknneiciaaGreatMc
import Derived.Test.YtaihdjknneiciaaGreatG2
namespace Go.Proofs.YtaihdjknneiciaaGreat
open Go.RowKit
set_option maxRecDepth 100000
set_option linter.unusedVariables false
set_option linter.unusedSimpArgs false
theorem ContainsB_p (x : List UInt8) (v : Int) (hx : x.length ≤ 1000) : slices_Contains x v = some (x.any (fun e => decide (v = (e.toNat : Int))), ()) := by
  have key : ∃ b, loopM slices_Index_l1 ((x, v, (x.length : Int), 0, ()), ()) = some b ∧ ((∃ i : Nat, b = .inl (((i : Int), ()), ()) ∧ x.any (fun e => decide (v = (e.toNat : Int))) = true) ∨ (b = .inr ((), ()) ∧ x.any (fun e => decide (v = (e.toNat : Int))) = false)) := by
    refine loopM_spec (fun n a => ∃ i : Nat, a = ((x, v, (x.length : Int), (i : Int), ()), ()) ∧ i ≤ x.length ∧ (x.drop i).any (fun e => decide (v = (e.toNat : Int))) = x.any (fun e => decide (v = (e.toNat : Int))) ∧ n = x.length - i) _ ?_ (n := x.length) ⟨0, rfl, Nat.zero_le _, rfl, rfl⟩
    rintro n a ⟨i, rfl, h1, he, rfl⟩
    unfold slices_Index_l1
    by_cases hi : i < x.length
    · rw [List.drop_eq_getElem_cons hi, List.any_cons] at he
      by_cases hr : v = (x[i].toNat : Int)
      · right
        exact ⟨_, condT (dT (by dsimp only; omega)) (bindS (getI_lt hi) (condT (dT hr) rfl)), .inl ⟨i, rfl, by rw [← he, decide_eq_true hr]; rfl⟩⟩
      · left
        refine ⟨x.length - (i + 1), _, by omega, condT (dT (by dsimp only; omega)) (bindS (getI_lt hi) (condF (dF hr) rfl)), i + 1, ?_, by omega, by rw [decide_eq_false hr, Bool.false_or] at he; exact he, rfl⟩
        dsimp only
        rw [w64 (by omega)]; rfl
    · right
      obtain rfl : i = x.length := by omega
      exact ⟨_, condF (dF (by dsimp only; omega)) rfl, .inr ⟨rfl, by rw [← he, List.drop_length]; rfl⟩⟩
  obtain ⟨b, h1, h2⟩ := key
  unfold slices_Contains slices_Index
  rcases h2 with ⟨i, rfl, h2⟩ | ⟨rfl, h2⟩
  · rw [h2]
    refine bindS (bindS h1 rfl) ?_
    dsimp only
    rw [dT (by omega)]
  · rw [h2]
    exact bindS (bindS h1 rfl) rfl
/-- Does a handoff go so? -/
def goesB (a b : Int) : Bool := ((lkp waysM227_t a).getD []).any fun e => decide (b = (e.toNat : Int))
theorem lkp_len (a : Int) : ((lkp waysM227_t a).getD []).length ≤ 2 := by
  have : ∀ (tb : List (Int × List UInt8)), (∀ p ∈ tb, p.2.length ≤ 2) → ((lkp tb a).getD []).length ≤ 2 := fun tb => by
    induction tb with
    | nil => intro _; simp [lkp]
    | cons p l ih =>
      intro h
      unfold lkp
      by_cases hp : a = p.1
      · rw [decide_eq_true hp]; exact h p List.mem_cons_self
      · rw [decide_eq_false hp]; exact ih fun q hq => h q (List.mem_cons_of_mem _ hq)
  exact this _ (by decide)
theorem Goes_p (a b : Int) : scheme_Goes a b = some (goesB a b, ()) := by
  unfold scheme_Goes waysM227
  have := lkp_len a
  exact bindS rfl (bindS (ContainsB_p _ _ (by dsimp only; omega)) rfl)
theorem swithin_p (n lo hi : Int) : scheme_within n lo hi = some (decide (lo ≤ n) && decide (n ≤ hi), ()) := by
  unfold scheme_within
  by_cases h : lo ≤ n
  · rw [dT h]; rfl
  · rw [dF h]; rfl
def turnedB (st : Int) : Bool := decide (4 ≤ st) && decide (st ≤ 6)
theorem turned_p (w : DWork2) : scheme_turned w = some (turnedB w.scheme.stage, ()) := by
  unfold scheme_turned
  refine bindS (v := 4) (by decide) (bindS (v := 5) (by decide) (bindS (v := 6) (by decide) (bindS (ContainsB_p _ _ (by simp)) ?_)))
  dsimp only
  congr 2
  unfold turnedB
  simp only [List.any_cons, List.any_nil, Bool.or_false]
  rw [Bool.eq_iff_iff]
  simp only [Bool.or_eq_true, Bool.and_eq_true, decide_eq_true_eq]
  have e4 : ((4 : UInt8).toNat : Int) = 4 := rfl
  have e5 : ((5 : UInt8).toNat : Int) = 5 := rfl
  have e6 : ((6 : UInt8).toNat : Int) = 6 := rfl
  omega
/-- A right handoff. -/
def rightS (x : DScheme) : Bool :=
  (decide (1 ≤ x.num) && decide (x.num ≤ 1073741824)) && (rightB x.span && ((decide (1 ≤ x.from_) && decide (x.from_ ≤ 4)) && ((decide (1 ≤ x.to_) && decide (x.to_ ≤ 4)) && (!decide (x.from_ = x.to_) && ((decide (1 ≤ x.epoch) && decide (x.epoch ≤ 1073741824)) && ((decide (1 ≤ x.stage) && decide (x.stage ≤ 9)) && (if turnedB x.stage = true then decide (IntKind.i64.wrap (x.epoch + 1) ≤ x.under) && decide (x.under ≤ 1073741824) else decide (x.under = 0))))))))
theorem stage_p (st : Int) : (lkp waysM227_t st).isSome = (decide (1 ≤ st) && decide (st ≤ 9)) := by
  have : (lkp waysM227_t st).isSome = (decide (st = 1) || (decide (st = 2) || (decide (st = 3) || (decide (st = 4) || (decide (st = 5) || (decide (st = 7) || (decide (st = 8) || (decide (st = 6) || (decide (st = 9) || false))))))))) := by
    unfold waysM227_t
    simp only [lkp]
    cases decide (st = 1) <;> cases decide (st = 2) <;> cases decide (st = 3) <;> cases decide (st = 4) <;> cases decide (st = 5) <;> cases decide (st = 7) <;> cases decide (st = 8) <;> cases decide (st = 6) <;> cases decide (st = 9) <;> rfl
  rw [this, Bool.eq_iff_iff]
  simp only [Bool.or_eq_true, Bool.and_eq_true, decide_eq_true_eq, Bool.false_eq_true, or_false]
  omega
theorem rightS_p {x : DScheme} (hx : OkSp x.span) : scheme_right ⟨x⟩ = some (rightS x, ()) := by
  unfold scheme_right waysM227
  rw [Option.bind_some, turned_p, Option.bind_some]
  simp only [swithin_p, Right_p hx, Option.bind_some, stage_p]
  unfold rightS
  have hne : decide (x.from_ ≠ x.to_) = !decide (x.from_ = x.to_) := by simp
  rw [hne]
  generalize hu : turnedB x.stage = tu
  cases tu
  · simp only [cond_false, Bool.false_eq_true, if_false]
    cases (decide (1 ≤ x.from_) && decide (x.from_ ≤ 4)) <;> cases (decide (1 ≤ x.to_) && decide (x.to_ ≤ 4)) <;> cases (decide (1 ≤ x.num) && decide (x.num ≤ 1073741824)) <;> cases rightB x.span <;> cases decide (x.from_ = x.to_) <;> cases (decide (1 ≤ x.epoch) && decide (x.epoch ≤ 1073741824)) <;> cases (decide (1 ≤ x.stage) && decide (x.stage ≤ 9)) <;> rfl
  · simp only [cond_true, if_true]
    cases (decide (1 ≤ x.from_) && decide (x.from_ ≤ 4)) <;> cases (decide (1 ≤ x.to_) && decide (x.to_ ≤ 4)) <;> cases (decide (1 ≤ x.num) && decide (x.num ≤ 1073741824)) <;> cases rightB x.span <;> cases decide (x.from_ = x.to_) <;> cases (decide (1 ≤ x.epoch) && decide (x.epoch ≤ 1073741824)) <;> cases (decide (1 ≤ x.stage) && decide (x.stage ≤ 9)) <;> rfl
theorem Over_p (x : DScheme) : scheme_Over x = some (decide (x.stage = 6) || decide (x.stage = 9), ()) := by
  unfold scheme_Over
  cases decide (x.stage = 6) <;> rfl
theorem clone100_p {l : List DShare} (h : l.length ≤ 1000) : clone100 l = some (l, ((), ())) := by
  unfold clone100
  exact iteT (by omega) rfl
theorem own_p {s : DShares} (h : OkSh s) : scheme_own s = some (s, ()) := by
  unfold scheme_own
  exact bindS (clone100_p h.len) rfl
def noSc : DScheme := ⟨0, ⟨[], []⟩, 0, 0, 0, 0, 0⟩
end Go.Proofs.YtaihdjknneiciaaGreat
