/- The key of the reference of chapter 04, plainly (written by plain15.py). -/
import Derived.Test.YtlmmpfbdgiokmaaGreatSpr
namespace Go.Proofs.YtlmmpfbdgiokmaaGreat
open Go.RowKit
set_option maxRecDepth 100000
set_option linter.unusedVariables false
set_option linter.unusedSimpArgs false
theorem ZnB {s : Tx} (h : OkT s) : Zbq s = some (ZsK s, ()) := by
 unfold OkT at h
 unfold Zbq ZsK
 by_cases h1 : s = []
 ·subst h1; rfl
 have h0 : 0 < s.length := List.length_pos_iff.2 h1
 rw [dF (by omega), cond_false, dF h1]
 by_cases h2 : s.length <= 20
 ·have key : ZaP Zdk ((s, 0, ()), ()) = some (if s.all Zlh then .inr ((), ()) else .inl ((false, ()), ())) := by
   refine ZfP (fun n a => ∃ i : Nat, a = ((s, (i : Int), ()), ()) /\ i <= s.length /\ (s.drop i).all Zlh = s.all Zlh /\ n = s.length - i) _ ?_ (n := s.length) ⟨0, rfl, Nat.zero_le _, rfl, rfl⟩
   rintro n a ⟨i, rfl, g1, g2, rfl⟩
   unfold Zdk
   dsimp only
   by_cases hi : i < s.length
   ·rw [List.drop_eq_getElem_cons hi, List.all_cons] at g2
    simp only [Zay hi, Option.bind_some]
    rw [dT (by omega), cond_true, w64 (by omega)]
    cases hc : Zlh s[i]
    ·right
     rw [hc] at g2
     rw [<- g2]
     unfold Zlh at hc
     by_cases q1 : (97 : Int) <= (s[i].toNat : Int) <;> by_cases q2 : (s[i].toNat : Int) <= 122 <;> by_cases q3 : (48 : Int) <= (s[i].toNat : Int) <;> by_cases q4 : (s[i].toNat : Int) <= 57 <;> simp [q1, q2, q3, q4] at hc ⊢
    ·left
     rw [hc, Bool.true_and] at g2
     refine ⟨s.length - (i + 1), _, by omega, ?_, i + 1, rfl, by omega, g2, rfl⟩
     unfold Zlh at hc
     by_cases q1 : (97 : Int) <= (s[i].toNat : Int) <;> by_cases q2 : (s[i].toNat : Int) <= 122 <;> by_cases q3 : (48 : Int) <= (s[i].toNat : Int) <;> by_cases q4 : (s[i].toNat : Int) <= 57 <;> simp [q1, q2, q3, q4] at hc ⊢
   ·right
    obtain rfl : i = s.length := by omega
    rw [dF (by omega), cond_false, <- g2, List.drop_length]
    rfl
  rw [dF (by omega), cond_false, key, dT h2]
  cases s.all Zlh <;> rfl
 ·rw [dT (by omega), cond_true, dF h2]
  simp
end Go.Proofs.YtlmmpfbdgiokmaaGreat
