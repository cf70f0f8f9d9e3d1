/- The writer and the reader of wire, and the document's, plainly. -/
import Derived.Test.YtaihdjknneiciaaGreatSdw
import Derived.Test.YtaihdjknneiciaaGreatG1
namespace Go.Proofs.YtaihdjknneiciaaGreat
open Go.RowKit
set_option maxRecDepth 100000
set_option linter.unusedVariables false
set_option linter.unusedSimpArgs false
def goodB (x : Int) : Bool := decide (0 ≤ x) && decide (x ≤ 4611686018427387903)
theorem goodB_iff {x : Int} : goodB x = true ↔ 0 ≤ x ∧ x ≤ 4611686018427387903 := by simp [goodB]
theorem put_p {x b : List UInt8} {sp : Bool} (h : b.length + x.length ≤ 10000000) : wire_put x (true, sp, b, ()) = some ((), ((true, sp, b ++ x, ()), (), (), ())) := by
  unfold wire_put
  exact condT rfl (iteT (by (try dsimp only); omega) rfl)
theorem numberLoop_p {sp : Bool} {N : Nat} (hN : N ≤ 4611686018427387903) {b : List UInt8} (hb : b.length + (numF N).length ≤ 10000000) :
    ∃ (n : Nat) (b' : List UInt8), n < 128 ∧ b' ++ numF n = b ++ numF N ∧ loopM wire_number_l1 (((), (N : Int), ()), ((true, sp, b, ()), (), ())) = some (((), (n : Int), ()), ((true, sp, b', ()), (), (), ())) := by
  have key : ∃ z, loopM wire_number_l1 (((), (N : Int), ()), ((true, sp, b, ()), (), ())) = some z ∧ ∃ (n : Nat) (b' : List UInt8), n < 128 ∧ b' ++ numF n = b ++ numF N ∧ z = (((), (n : Int), ()), ((true, sp, b', ()), (), (), ())) := by
    refine loopM_spec (fun m a => ∃ b' : List UInt8, a = (((), (m : Int), ()), ((true, sp, b', ()), (), ())) ∧ b' ++ numF m = b ++ numF N ∧ m ≤ 4611686018427387903) _ ?_ (n := N) ⟨b, rfl, rfl, hN⟩
    rintro m a ⟨b', rfl, h1, h2⟩
    unfold wire_number_l1
    by_cases hm : m < 128
    · right
      exact ⟨_, condF (dF (by (try dsimp only); omega)) rfl, m, b', hm, h1, rfl⟩
    · left
      have hl := congrArg List.length h1
      rw [numF_hi hm, List.length_append, List.length_append, List.length_cons] at hl
      refine ⟨m / 128, _, by omega, condT (dT (by (try dsimp only); omega)) (bindS (byte_or m) (bindS (put_p (by simp only [List.length_singleton]; omega)) rfl)), b' ++ [UInt8.ofNat (m % 128 + 128)], ?_, ?_, by omega⟩
      · dsimp only
        rw [shr7]
      · rw [List.append_assoc, ← h1, numF_hi hm]; rfl
  obtain ⟨z, hz, n, b', h1, h2, rfl⟩ := key
  exact ⟨n, b', h1, h2, hz⟩
/-- A number, written. -/
def numW (x : Int) (w : Bool × List UInt8) : Bool × List UInt8 := if goodB x = true then (w.1, w.2 ++ numF x.toNat) else (true, w.2)
theorem number_p {x : Int} {sp : Bool} {b : List UInt8} (hb : b.length ≤ 1000000) : wire_number x (true, sp, b, ()) = some ((), ((true, (numW x (sp, b)).1, (numW x (sp, b)).2, ()), (), (), ())) := by
  unfold wire_number numW
  by_cases h1 : x < 0
  · rw [if_neg (by rw [goodB_iff]; omega)]
    exact condT (dT h1) rfl
  by_cases h2 : 4611686018427387903 < x
  · rw [if_neg (by rw [goodB_iff]; omega)]
    exact condF (dF h1) (condT (dT h2) rfl)
  rw [if_pos (goodB_iff.2 (by omega))]
  obtain ⟨N, rfl⟩ : ∃ N : Nat, x = (N : Int) := ⟨x.toNat, by omega⟩
  have hlen := numF_len9 (n := N) (by omega)
  obtain ⟨n, b', g1, g2, g3⟩ := numberLoop_p (sp := sp) (N := N) (by omega) (b := b) (by omega)
  have hl := congrArg List.length g2
  rw [List.length_append, List.length_append] at hl
  have hp := numF_pos n
  refine condF (dF h1) (condF (dF h2) (bindS g3 (bindS (byte_lo n) (bindS (put_p (by simp only [List.length_singleton]; omega)) ?_))))
  rw [numF_lo g1] at g2
  dsimp only
  rw [g2, Int.toNat_natCast]
def numsW (xs : List Int) (w : Bool × List UInt8) : Bool × List UInt8 := xs.foldl (fun w x => numW x w) w
theorem numsW_snoc (xs : List Int) (x : Int) (w : Bool × List UInt8) : numsW (xs ++ [x]) w = numW x (numsW xs w) := by simp [numsW]
theorem numW_len (x : Int) (w : Bool × List UInt8) : (numW x w).2.length ≤ w.2.length + 9 := by
  unfold numW
  split
  · rename_i h
    have := goodB_iff.1 h
    have := numF_len9 (n := x.toNat) (by omega)
    rw [List.length_append]; omega
  · exact Nat.le_add_right _ _
theorem numsW_len : ∀ (xs : List Int) (w : Bool × List UInt8), (numsW xs w).2.length ≤ w.2.length + 9 * xs.length
  | [], w => by simp [numsW]
  | x :: xs, w => by
    have h1 := numsW_len xs (numW x w)
    have h2 := numW_len x w
    have : numsW (x :: xs) w = numsW xs (numW x w) := rfl
    rw [this, List.length_cons]; omega
theorem Numbers_p {xs : List Int} {sp : Bool} {b : List UInt8} (hx : xs.length ≤ 1000) (hb : b.length ≤ 100000) : wire_Numbers xs (true, sp, b, ()) = some ((), ((true, (numsW xs (sp, b)).1, (numsW xs (sp, b)).2, ()), (), (), ())) := by
  have hrun := loopM_run (step := wire_Numbers_l1) (fun i : Nat => (((), xs, (xs.length : Int), (i : Int), ()), ((true, (numsW (xs.take i) (sp, b)).1, (numsW (xs.take i) (sp, b)).2, ()), (), ()))) (N := xs.length) (b := (((), ()), ((true, (numsW xs (sp, b)).1, (numsW xs (sp, b)).2, ()), (), (), ()))) (fun i hi => ?_) ?_
  · unfold wire_Numbers
    exact bindS rfl (condT rfl (bindS hrun rfl))
  · have hl := numsW_len (xs.take i) (sp, b)
    rw [List.length_take] at hl
    dsimp only at hl
    unfold wire_Numbers_l1
    refine condT (dT (by (try dsimp only); omega)) (bindS (getI_lt hi) (bindS (number_p (by (try dsimp only); omega)) ?_))
    dsimp only
    rw [w64 (by omega), List.take_succ_eq_append_getElem hi, numsW_snoc]
    rfl
  · unfold wire_Numbers_l1
    refine condF (dF (by (try dsimp only); omega)) ?_
    dsimp only
    rw [List.take_length]
theorem Numbers2_p {xs : List Int} {sp : Bool} {b : List UInt8} (hx : xs.length ≤ 1000) (hb : b.length ≤ 100000) : wire_Numbers_2 (0, xs.length, xs.length) (true, sp, b, ()) xs = some ((), ((true, (numsW xs (sp, b)).1, (numsW xs (sp, b)).2, ()), xs, (), (), ())) := by
  have hrun := loopM_run (step := wire_Numbers_2_l1) (fun i : Nat => (((), (0, xs.length, xs.length), (xs.length : Int), (i : Int), ()), ((true, (numsW (xs.take i) (sp, b)).1, (numsW (xs.take i) (sp, b)).2, ()), xs, (), ()))) (N := xs.length) (b := (((), ()), ((true, (numsW xs (sp, b)).1, (numsW xs (sp, b)).2, ()), xs, (), (), ()))) (fun i hi => ?_) ?_
  · unfold wire_Numbers_2
    exact bindS rfl (condT rfl (bindS hrun rfl))
  · have hl := numsW_len (xs.take i) (sp, b)
    rw [List.length_take] at hl
    dsimp only at hl
    have hg : xs[0 + ((i : Int)).toNat]? = some xs[i] := by rw [Nat.zero_add, Int.toNat_natCast, List.getElem?_eq_getElem hi]
    unfold wire_Numbers_2_l1
    refine condT (dT (by (try dsimp only); omega)) (iteT (by (try dsimp only); omega) (bindS hg (bindS (number_p (by (try dsimp only); omega)) ?_)))
    dsimp only
    rw [w64 (by omega), List.take_succ_eq_append_getElem hi, numsW_snoc]
    rfl
  · unfold wire_Numbers_2_l1
    refine condF (dF (by (try dsimp only); omega)) ?_
    dsimp only
    rw [List.take_length]
def rowF (t : List UInt8) : List UInt8 := numF t.length ++ t
theorem Rows1_p {t : List UInt8} {sp : Bool} {b : List UInt8} (ht : t.length ≤ 100000) (hb : b.length ≤ 1000000) : wire_Rows [t] (true, sp, b, ()) = some ((), ((true, sp, b ++ rowF t, ()), (), (), ())) := by
  have hg : goodB (t.length : Int) = true := goodB_iff.2 (by omega)
  have hlen := numF_len9 (n := t.length) (by omega)
  have hnum : wire_number (t.length : Int) (true, sp, b, ()) = some ((), ((true, sp, b ++ numF t.length, ()), (), (), ())) := by
    rw [number_p hb]
    unfold numW
    rw [if_pos hg, Int.toNat_natCast]
  unfold wire_Rows
  refine bindS rfl (condT rfl (bindS (v := (((), ()), ((true, sp, b ++ rowF t, ()), (), (), ()))) ((loopM_next (a' := (((), [t], 1, 1, ()), ((true, sp, b ++ rowF t, ()), (), ()))) ?_).trans (loopM_end ?_)) rfl))
  · unfold wire_Rows_l1
    refine condT rfl (bindS (v := t) rfl (bindS hnum (bindS (put_p (by simp only [List.length_append]; omega)) ?_)))
    dsimp only
    rw [List.append_assoc]
    rfl
  · unfold wire_Rows_l1
    exact condF rfl rfl
theorem Texts2_p {t u : List UInt8} {sp : Bool} {b : List UInt8} (ht : t.length ≤ 20000) (hu : u.length ≤ 20000) (hb : b.length ≤ 90000) : wire_Texts [t, u] (true, sp, b, ()) = some ((), ((true, sp, b ++ rowF t ++ rowF u, ()), (), (), ())) := by
  have hlen := numF_len9 (n := t.length) (by omega)
  have hrl : (rowF t).length ≤ 20009 := by unfold rowF; rw [List.length_append]; omega
  unfold wire_Texts
  refine bindS rfl (condT rfl (bindS (v := (((), ()), ((true, sp, b ++ rowF t ++ rowF u, ()), (), (), ()))) ((loopM_next (a' := (((), [t, u], 2, 1, ()), ((true, sp, b ++ rowF t, ()), (), ()))) ?_).trans ((loopM_next (a' := (((), [t, u], 2, 2, ()), ((true, sp, b ++ rowF t ++ rowF u, ()), (), ()))) ?_).trans (loopM_end ?_))) rfl))
  · unfold wire_Texts_l1
    exact condT rfl (bindS (v := t) rfl (iteT (by omega) (bindS (Rows1_p (by omega) (by (try dsimp only); omega)) rfl)))
  · unfold wire_Texts_l1
    exact condT rfl (bindS (v := u) rfl (iteT (by omega) (bindS (Rows1_p (by omega) (by (try dsimp only); rw [List.length_append]; omega)) rfl)))
  · unfold wire_Texts_l1
    exact condF rfl rfl
theorem TextsA_p {t u : List UInt8} {sp : Bool} {b : List UInt8} (ht : t.length ≤ 1000) (hu : u.length ≤ 1000) (hb : b.length ≤ 10000) : wire_Texts_2 (0, 2, 2) (true, sp, b, ()) [t, u] = some ((), ((true, sp, b ++ rowF t ++ rowF u, ()), [t, u], (), (), ())) := by
  have hlen := numF_len9 (n := t.length) (by omega)
  have hrl : (rowF t).length ≤ 1009 := by unfold rowF; rw [List.length_append]; omega
  unfold wire_Texts_2
  refine bindS rfl (condT rfl (bindS (v := (((), ()), ((true, sp, b ++ rowF t ++ rowF u, ()), [t, u], (), (), ()))) ((loopM_next (a' := (((), (0, 2, 2), 2, 1, ()), ((true, sp, b ++ rowF t, ()), [t, u], (), ()))) ?_).trans ((loopM_next (a' := (((), (0, 2, 2), 2, 2, ()), ((true, sp, b ++ rowF t ++ rowF u, ()), [t, u], (), ()))) ?_).trans (loopM_end ?_))) rfl))
  · unfold wire_Texts_2_l1
    exact condT rfl (iteT (by (try dsimp only); omega) (bindS (v := t) rfl (iteT (by omega) (bindS (Rows1_p (by omega) (by (try dsimp only); omega)) rfl))))
  · unfold wire_Texts_2_l1
    exact condT rfl (iteT (by (try dsimp only); omega) (bindS (v := u) rfl (iteT (by omega) (bindS (Rows1_p (by omega) (by (try dsimp only); rw [List.length_append]; omega)) rfl))))
  · unfold wire_Texts_2_l1
    exact condF rfl rfl
theorem Done_p {sp : Bool} {b : List UInt8} (hb : b.length ≤ 1000000) : ∃ st, wire_Done (true, sp, b, ()) = some ((if sp = true then ([], 2, ()) else (b, 0, ())), st) := by
  unfold wire_Done
  cases sp with
  | true => exact ⟨_, bindS rfl (condF rfl (condT rfl rfl))⟩
  | false => exact ⟨_, bindS rfl (condF rfl (condF rfl (bindS (v := (b, ((), ()))) (by unfold clone81; exact iteT (by (try dsimp only); omega) rfl) rfl)))⟩
end Go.Proofs.YtaihdjknneiciaaGreat
