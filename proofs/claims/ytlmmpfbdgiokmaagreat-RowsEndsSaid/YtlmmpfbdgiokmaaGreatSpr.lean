/- Spans, plainly. -/
import Derived.Test.YtlmmpfbdgiokmaaGreatG1
import Derived.Test.YtlmmpfbdgiokmaaGreatPl
namespace Go.Proofs.YtlmmpfbdgiokmaaGreat
open Go.RowKit
set_option maxRecDepth 100000
set_option linter.unusedVariables false
set_option linter.unusedSimpArgs false
abbrev Tx := List UInt8
def OkT (s : Tx) : Prop := s.length <= 140737488355328
def ZsJ (s : Za5) : Prop := OkT s.lo /\ OkT s.hi
theorem ZsJ.of {s : Za5} (h : ZuK s) : ZsJ s := ⟨h.1, h.2.1⟩
def Zlh (c : UInt8) : Bool := (decide ((97 : Int) <= (c.toNat : Int)) && decide ((c.toNat : Int) <= 122)) || (decide ((48 : Int) <= (c.toNat : Int)) && decide ((c.toNat : Int) <= 57))
def ZsK (s : Tx) : Bool := (!decide (s = [])) && (decide (s.length <= 20) && s.all Zlh)
theorem ZBi {s : Tx} (h : OkT s) : ZiU s = some (ZsK s, ()) := by
 unfold OkT at h
 unfold ZiU ZsK
 by_cases h1 : s = []
 ·rw [dT h1, cond_true]; simp
 rw [dF h1, cond_false]
 by_cases h2 : s.length <= 20
 ·have key : ZaP ZiS ((s, (s.length : Int), 0, ()), ()) = some (if s.all Zlh then .inr ((), ()) else .inl ((false, ()), ())) := by
   refine ZfP (fun n a => ∃ i : Nat, a = ((s, (s.length : Int), (i : Int), ()), ()) /\ i <= s.length /\ (s.drop i).all Zlh = s.all Zlh /\ n = s.length - i) _ ?_ (n := s.length) ⟨0, rfl, Nat.zero_le _, rfl, rfl⟩
   rintro n a ⟨i, rfl, g1, g2, rfl⟩
   unfold ZiS
   dsimp only
   by_cases hi : i < s.length
   ·rw [List.drop_eq_getElem_cons hi, List.all_cons] at g2
    rw [dT (by omega), cond_true, Zay hi, Option.bind_some, w64 (by omega)]
    cases hc : Zlh s[i]
    ·right
     rw [hc] at g2
     rw [<- g2]
     unfold Zlh at hc
     by_cases q1 : (97 : Int) <= (s[i].toNat : Int) <;> by_cases q2 : (s[i].toNat : Int) <= 122 <;> by_cases q3 : (48 : Int) <= (s[i].toNat : Int) <;> by_cases q4 : (s[i].toNat : Int) <= 57 <;> simp [q1, q2, q3, q4] at hc ⊢
    ·left
     rw [hc, Bool.true_and] at g2
     refine ⟨s.length - (i + 1), _, by omega, ?_, i + 1, rfl, by omega, g2, rfl⟩
     unfold Zlh at hc
     by_cases q1 : (97 : Int) <= (s[i].toNat : Int) <;> by_cases q2 : (s[i].toNat : Int) <= 122 <;> by_cases q3 : (48 : Int) <= (s[i].toNat : Int) <;> by_cases q4 : (s[i].toNat : Int) <= 57 <;> simp [q1, q2, q3, q4] at hc ⊢
   ·right
    obtain rfl : i = s.length := by omega
    rw [dF (by omega), cond_false, <- g2, List.drop_length]
    rfl
  rw [dF (by omega), cond_false, key, dT h2]
  cases s.all Zlh <;> rfl
 ·rw [dT (by omega), cond_true, dF h2]
  simp
theorem ltT (a : Tx) : ¬ a < a := by grind
theorem ZxF (a b : Tx) : ZhB ⟨a⟩ ⟨b⟩ = some (if a < b then -1 else if a = b then 0 else 1, ()) := by
 unfold ZhB Zlf ZlN
 simp only [Option.bind_some]
 rw [dF (p := a ≠ a) (by simp), dF (p := b ≠ b) (by simp), cond_false, cond_false]
 by_cases h1 : a < b
 ·simp [h1]
 ·by_cases h2 : a = b <;> simp [h1, h2, ltT]
theorem ZBj (h t : Tx) : ZfQ ⟨⟨h⟩⟩ ⟨t⟩ = some (decide (h = []) || decide (t < h), ()) := by
 unfold ZfQ Zg4
 simp only [Option.bind_some, ZxF]
 by_cases h1 : h = []
 ·simp [h1]
 rw [dF h1, cond_false, Bool.false_or]
 by_cases h2 : h < t
 ·have : ¬ t < h := by grind
  simp [h2, this]
 ·by_cases h3 : h = t
  ·simp [h3, ltT]
  ·have : t < h := by grind
   simp [h2, h3, this]
def Zjw (s : Za5) : Bool := (decide (s.lo = []) || ZsK s.lo) && ((decide (s.hi = []) || ZsK s.hi) && (decide (s.hi = []) || decide (s.lo < s.hi)))
theorem ZBk {s : Za5} (h : ZsJ s) : Zkz s = some (Zjw s, ()) := by
 obtain ⟨h1, h2⟩ := h
 unfold Zkz Zow Zg4 Zjw
 simp only [Option.bind_some, ZBi h1, ZBi h2, ZBj]
 by_cases q1 : s.lo = [] <;> by_cases q2 : s.hi = [] <;> cases q3 : ZsK s.lo <;> cases q4 : ZsK s.hi <;> simp [q1, q2, q3, q4]
def ZsL (s : Za5) (k : Tx) : Bool := Zjw s && (ZsK k && (!decide (k < s.lo) && (decide (s.hi = []) || decide (k < s.hi))))
end Go.Proofs.YtlmmpfbdgiokmaaGreat
