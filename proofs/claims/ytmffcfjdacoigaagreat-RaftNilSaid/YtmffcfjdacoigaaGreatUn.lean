/- Loops that are run step by step. -/
import Derived.Test.YtmffcfjdacoigaaGreatX16
namespace Go.Proofs.YtmffcfjdacoigaaGreat
open Go.RowKit
set_option maxRecDepth 100000
set_option linter.unusedVariables false
set_option linter.unusedSectionVars false
variable {T : Nat → Type} {A : Type}
section
variable (C : Codec T) (P : Program) (tou : Tou T) (orc : Orc T A) (dr : Nat → Nat → DrA) (lps : Lps T A)
def unroll (c : Code) : Nat → XE T → List (HI T) → XK T A → Option A
  | 0, _, _, _ => none
  | n + 1, env, h, k => xcode C P tou orc dr lps c env h fun ex env h => match ex with
    | .normal => unroll c n env h k
    | ex => k ex env h
def ufind : List (Code × Nat) → Nat → Option (Code × Nat)
  | [], _ => none
  | (c, n) :: l, i => cond (Nat.beq (headId c) i) (some (c, n)) (ufind l i)
def lpsU (us : List (Code × Nat)) : Lps T A := fun i env h k => match ufind us i with
  | some (c, n) => unroll C P tou orc dr lps c n env h k
  | none => lps i env h k
end
section
variable {C : Codec T} {P : Program} {tou : Tou T} {orc : Orc T A} {dr : Nat → Nat → DrA} {lps : Lps T A} {us : List (Code × Nat)} {c : Code} {z : A} {ex : Exit} {env' : XE T} {h' : List (HI T)}
inductive Chain (C : Codec T) (P : Program) (c : Code) (ex : Exit) (env' : XE T) (h' : List (HI T)) : Nat → XE T → List (HI T) → Prop where
  | stop {env h} : ex ≠ .normal → CodeTr C P c env h ex env' h' → Chain C P c ex env' h' 0 env h
  | step {n env h env1 h1} : CodeTr C P c env h .normal env1 h1 → Chain C P c ex env' h' n env1 h1 → Chain C P c ex env' h' (n + 1) env h
theorem Chain.tr {n : Nat} {env : XE T} {h : List (HI T)} (hc : Chain C P c ex env' h' n env h) : CodeTr C P (.loop c) env h ex env' h' := by
  intro O ρ e σ hs
  refine ⟨fun m e1 σ1 => ∃ env1 h1 ρ1, Chain C P c ex env' h' m env1 h1 ∧ Sat C ρ1 env1 h1 e1 σ1 ∧ Rel (fun _ => True) ρ h σ ρ1 h1 σ1, n, ⟨env, h, ρ, hc, hs, .refl _ _ _ _⟩, ?_⟩
  rintro m e1 σ1 ⟨env1, h1, ρ1, hc1, hs1, R⟩
  cases hc1 with
  | stop hne ht =>
    refine aCode_mono (c := c) ?_ (ht O ρ1 e1 σ1 hs1)
    rintro ex2 e2 σ2 ⟨rfl, ρ2, g1, g2⟩
    cases ex2 <;> first | exact ⟨rfl, ρ2, g1, R.trans hs.hp g2⟩ | exact absurd rfl hne
  | step ht hc2 =>
    refine aCode_mono (c := c) ?_ (ht O ρ1 e1 σ1 hs1)
    rintro ex2 e2 σ2 ⟨rfl, ρ2, g1, g2⟩
    exact ⟨_, Nat.lt_succ_self _, _, _, ρ2, hc2, g1, R.trans hs.hp g2⟩
theorem unroll_sound (hO : orc.Ok C P tou) (hL : ∀ l ∈ loopsOf c, lps.Ok C P l) : ∀ (n : Nat) (env : XE T) (h : List (HI T)) (k : XK T A), unroll C P tou orc dr lps c n env h k = some z → ∃ ex env' h', k ex env' h' = some z ∧ ∃ m, Chain C P c ex env' h' m env h
  | 0, env, h, k, hk => by cases hk
  | n + 1, env, h, k, hk => by
    unfold unroll at hk
    obtain ⟨ex, env1, h1, k1, t1⟩ := xcode_sound hO c env h _ hL hk
    by_cases hn : ex = .normal
    · subst hn
      obtain ⟨ex, env', h', g1, m, g2⟩ := unroll_sound hO hL n env1 h1 k k1
      exact ⟨ex, env', h', g1, m + 1, .step t1 g2⟩
    · refine ⟨ex, env1, h1, ?_, 0, .stop hn t1⟩
      cases ex <;> first | exact k1 | exact absurd rfl hn
theorem lpsU_hit (hO : orc.Ok C P tou) {n : Nat} (hL : ∀ l ∈ loopsOf c, lps.Ok C P l) (hf : ufind us (headId c) = some (c, n)) : (lpsU C P tou orc dr lps us).Ok C P c := by
  intro env h k z hk
  unfold lpsU at hk
  rw [hf] at hk
  obtain ⟨ex, env', h', h1, m, h2⟩ := unroll_sound hO hL n env h k hk
  exact ⟨ex, env', h', h1, h2.tr⟩
/-- A loop to which no run comes. -/
theorem lp_none {tbl : List (LE C P)} (he : lfind tbl (headId c) = none) : (lpsOf tbl : Lps T A).Ok C P c := by
  intro env h' k z hk
  unfold lpsOf at hk
  rw [he] at hk
  cases hk
end
end Go.Proofs.YtmffcfjdacoigaaGreat
