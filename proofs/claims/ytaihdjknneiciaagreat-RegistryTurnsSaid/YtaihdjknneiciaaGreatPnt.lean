/- Plans, and what is done to a registry, plainly (round 21Z). -/
import Derived.Test.YtaihdjknneiciaaGreatBkt
namespace Go.Proofs.YtaihdjknneiciaaGreat
open Go.RowKit
set_option maxRecDepth 100000
set_option linter.unusedVariables false
set_option linter.unusedSimpArgs false
/-- A registry's cells. -/
@[reducible] def plc (s : DShares) (u : Bool) (x : DScheme) (n : Int) : (Unit) × (Int) × (List (DShare)) × (Bool) × (Int) × (List UInt8) × (List UInt8) × (Int) × (Int) × (Int) × (Int) × (Int) × (Int) × Unit :=
  ((), s.epoch, s.list, u, x.num, x.span.lo, x.span.hi, x.from_, x.to_, x.epoch, x.under, x.stage, n, ())
structure PlOk (s : DShares) (u : Bool) (x : DScheme) (n : Int) : Prop where
  sh : OkSh s
  rt : rightW s = true
  sp : OkSp x.span
  rx : rightB x.span = true
  lo : 0 ≤ n
  hi : n ≤ 1073741824
section
variable {s : DShares} {u : Bool} {x : DScheme} {n : Int} (h : PlOk s u x n)
include h
end
/-- What is known of a deed. -/
def OkD (d : DDeed) : Prop := OkSp d.span ∧ d.verdict.reads.length ≤ 20 ∧ ∀ x ∈ d.verdict.reads, OkT x.key
theorem light_p {xs : List DDeed} (hl : xs.length ≤ 140737488355328) (hx : ∀ d ∈ xs, OkSp d.span ∧ ∀ x ∈ d.verdict.reads, OkT x.key) : ∃ b, wl_light xs = some (b, ()) ∧ (b = true → xs.length ≤ 60 ∧ ∀ d ∈ xs, OkD d) := by
  unfold wl_light
  by_cases h60 : 60 < xs.length
  · exact ⟨false, condT (dT (by omega)) rfl, fun h => by cases h⟩
  have key : ∃ z, loopM wl_light_l1 ((xs, 0, ()), ()) = some z ∧ (z = .inl ((false, ()), ()) ∨ (z = .inr ((), ()) ∧ ∀ d ∈ xs, d.verdict.reads.length ≤ 20)) := by
    refine loopM_spec (fun k a => ∃ i : Nat, a = ((xs, (i : Int), ()), ()) ∧ i ≤ xs.length ∧ (∀ d ∈ xs.take i, d.verdict.reads.length ≤ 20) ∧ k = xs.length - i) _ ?_ (n := xs.length) ⟨0, rfl, Nat.zero_le _, (fun d hd => by simp at hd), rfl⟩
    rintro k a ⟨i, rfl, g1, g2, rfl⟩
    unfold wl_light_l1
    by_cases hi : i < xs.length
    · by_cases h20 : 20 < xs[i].verdict.reads.length
      · right
        exact ⟨_, condT (dT (by dsimp only; omega)) (bindS (getI_lt hi) (condT (dT (by omega)) rfl)), .inl rfl⟩
      · by_cases hc : (500 : Int) < IntKind.i64.wrap ((xs[i].span.lo.length : Int) + (xs[i].span.hi.length : Int))
        · right
          exact ⟨_, condT (dT (by dsimp only; omega)) (bindS (getI_lt hi) (condF (dF (by omega)) (bindS (getI_lt hi) (bindS (getI_lt hi) (condT (dT hc) rfl))))), .inl rfl⟩
        · left
          refine ⟨xs.length - (i + 1), _, by omega, condT (dT (by dsimp only; omega)) (bindS (getI_lt hi) (condF (dF (by omega)) (bindS (getI_lt hi) (bindS (getI_lt hi) (condF (dF hc) rfl))))), i + 1, ?_, by omega, ?_, rfl⟩
          · dsimp only
            rw [w64 (by omega)]; rfl
          · intro d hd
            rw [List.take_succ_eq_append_getElem hi] at hd
            rcases List.mem_append.1 hd with hd | hd
            · exact g2 d hd
            · rw [List.mem_singleton.1 hd]; omega
    · right
      obtain rfl : i = xs.length := by omega
      rw [List.take_length] at g2
      exact ⟨_, condF (dF (by dsimp only; omega)) rfl, .inr ⟨rfl, g2⟩⟩
  obtain ⟨z, hz, rfl | ⟨rfl, g⟩⟩ := key
  · exact ⟨false, condF (dF (by omega)) (bindS hz rfl), fun h => by cases h⟩
  · exact ⟨true, condF (dF (by omega)) (bindS hz rfl), fun _ => ⟨by omega, fun d hd => ⟨(hx d hd).1, g d hd, (hx d hd).2⟩⟩⟩
end Go.Proofs.YtaihdjknneiciaaGreat
