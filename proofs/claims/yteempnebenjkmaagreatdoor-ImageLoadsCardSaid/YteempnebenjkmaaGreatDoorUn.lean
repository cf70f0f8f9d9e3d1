/- Loops that are run step by step. -/
import Derived.Test.YteempnebenjkmaaGreatDoorMc
namespace Go.Proofs.YteempnebenjkmaaGreatDoor
open Go.RowKit
set_option maxRecDepth 100000
set_option linter.unusedVariables false
set_option linter.unusedSectionVars false
variable {T : Nat -> Type} {A : Type}
section
variable (C : ZaA T) (P : Program) (tou : Tou T) (orc : Orc T A) (dr : Nat -> Nat -> DrA) (lps : Lps T A)
end
section
variable {C : ZaA T} {P : Program} {tou : Tou T} {orc : Orc T A} {dr : Nat -> Nat -> DrA} {lps : Lps T A} {us : List (Code × Nat)} {c : Code} {z : A} {ex : Exit} {env' : XE T} {h' : List (HI T)}
inductive Ztp (C : ZaA T) (P : Program) (c : Code) (ex : Exit) (env' : XE T) (h' : List (HI T)) : Nat -> XE T -> List (HI T) -> Prop where
 | stop {env h} : ex ≠ .normal -> Zlx C P c env h ex env' h' -> Ztp C P c ex env' h' 0 env h
 | step {n env h env1 h1} : Zlx C P c env h .normal env1 h1 -> Ztp C P c ex env' h' n env1 h1 -> Ztp C P c ex env' h' (n + 1) env h
theorem Ztp.tr {n : Nat} {env : XE T} {h : List (HI T)} (hc : Ztp C P c ex env' h' n env h) : Zlx C P (.loop c) env h ex env' h' := by
 intro O ρ e σ hs
 refine ⟨fun m e1 σ1 => ∃ env1 h1 ρ1, Ztp C P c ex env' h' m env1 h1 /\ Sat C ρ1 env1 h1 e1 σ1 /\ Rel (fun _ => True) ρ h σ ρ1 h1 σ1, n, ⟨env, h, ρ, hc, hs, .refl _ _ _ _⟩, ?_⟩
 rintro m e1 σ1 ⟨env1, h1, ρ1, hc1, hs1, R⟩
 cases hc1 with
 | stop hne ht =>
  refine ZaR (c := c) ?_ (ht O ρ1 e1 σ1 hs1)
  rintro ex2 e2 σ2 ⟨rfl, ρ2, g1, g2⟩
  cases ex2 <;> first | exact ⟨rfl, ρ2, g1, R.trans hs.hp g2⟩ | exact absurd rfl hne
 | step ht hc2 =>
  refine ZaR (c := c) ?_ (ht O ρ1 e1 σ1 hs1)
  rintro ex2 e2 σ2 ⟨rfl, ρ2, g1, g2⟩
  exact ⟨_, Nat.lt_succ_self _, _, _, ρ2, hc2, g1, R.trans hs.hp g2⟩
end
end Go.Proofs.YteempnebenjkmaaGreatDoor
