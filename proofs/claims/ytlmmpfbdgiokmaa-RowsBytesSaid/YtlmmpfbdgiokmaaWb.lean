/- The writer and the reader of wire, and the document's, plainly. -/
import Derived.Test.YtlmmpfbdgiokmaaSdw
import Derived.Test.YtlmmpfbdgiokmaaG1
namespace Go.Proofs.Ytlmmpfbdgiokmaa
open Go.RowKit
set_option maxRecDepth 100000
set_option linter.unusedVariables false
set_option linter.unusedSimpArgs false
def goodB (x : Int) : Bool := decide (0 ≤ x) && decide (x ≤ 4611686018427387903)
theorem goodB_iff {x : Int} : goodB x = true ↔ 0 ≤ x ∧ x ≤ 4611686018427387903 := by simp [goodB]
theorem put_p {x b : List UInt8} {sp : Bool} (h : b.length + x.length ≤ 10000000) : wire_put x (true, sp, b, ()) = some ((), ((true, sp, b ++ x, ()), (), (), ())) := by
  unfold wire_put
  exact condT rfl (iteT (by dsimp only; omega) rfl)
theorem numberLoop_p {sp : Bool} {N : Nat} (hN : N ≤ 4611686018427387903) {b : List UInt8} (hb : b.length + (numF N).length ≤ 10000000) :
    ∃ (n : Nat) (b' : List UInt8), n < 128 ∧ b' ++ numF n = b ++ numF N ∧ loopM wire_number_l1 (((), (N : Int), ()), ((true, sp, b, ()), (), ())) = some (((), (n : Int), ()), ((true, sp, b', ()), (), (), ())) := by
  have key : ∃ z, loopM wire_number_l1 (((), (N : Int), ()), ((true, sp, b, ()), (), ())) = some z ∧ ∃ (n : Nat) (b' : List UInt8), n < 128 ∧ b' ++ numF n = b ++ numF N ∧ z = (((), (n : Int), ()), ((true, sp, b', ()), (), (), ())) := by
    refine loopM_spec (fun m a => ∃ b' : List UInt8, a = (((), (m : Int), ()), ((true, sp, b', ()), (), ())) ∧ b' ++ numF m = b ++ numF N ∧ m ≤ 4611686018427387903) _ ?_ (n := N) ⟨b, rfl, rfl, hN⟩
    rintro m a ⟨b', rfl, h1, h2⟩
    unfold wire_number_l1
    by_cases hm : m < 128
    · right
      exact ⟨_, condF (dF (by dsimp only; omega)) rfl, m, b', hm, h1, rfl⟩
    · left
      have hl := congrArg List.length h1
      rw [numF_hi hm, List.length_append, List.length_append, List.length_cons] at hl
      refine ⟨m / 128, _, by omega, condT (dT (by dsimp only; omega)) (bindS (byte_or m) (bindS (put_p (by simp only [List.length_singleton]; omega)) rfl)), b' ++ [UInt8.ofNat (m % 128 + 128)], ?_, ?_, by omega⟩
      · dsimp only
        rw [shr7]
      · rw [List.append_assoc, ← h1, numF_hi hm]; rfl
  obtain ⟨z, hz, n, b', h1, h2, rfl⟩ := key
  exact ⟨n, b', h1, h2, hz⟩
/-- A number, written. -/
def numW (x : Int) (w : Bool × List UInt8) : Bool × List UInt8 := if goodB x = true then (w.1, w.2 ++ numF x.toNat) else (true, w.2)
theorem number_p {x : Int} {sp : Bool} {b : List UInt8} (hb : b.length ≤ 1000000) : wire_number x (true, sp, b, ()) = some ((), ((true, (numW x (sp, b)).1, (numW x (sp, b)).2, ()), (), (), ())) := by
  unfold wire_number numW
  by_cases h1 : x < 0
  · rw [if_neg (by rw [goodB_iff]; omega)]
    exact condT (dT h1) rfl
  by_cases h2 : 4611686018427387903 < x
  · rw [if_neg (by rw [goodB_iff]; omega)]
    exact condF (dF h1) (condT (dT h2) rfl)
  rw [if_pos (goodB_iff.2 (by omega))]
  obtain ⟨N, rfl⟩ : ∃ N : Nat, x = (N : Int) := ⟨x.toNat, by omega⟩
  have hlen := numF_len9 (n := N) (by omega)
  obtain ⟨n, b', g1, g2, g3⟩ := numberLoop_p (sp := sp) (N := N) (by omega) (b := b) (by omega)
  have hl := congrArg List.length g2
  rw [List.length_append, List.length_append] at hl
  have hp := numF_pos n
  refine condF (dF h1) (condF (dF h2) (bindS g3 (bindS (byte_lo n) (bindS (put_p (by simp only [List.length_singleton]; omega)) ?_))))
  rw [numF_lo g1] at g2
  dsimp only
  rw [g2, Int.toNat_natCast]
def numsW (xs : List Int) (w : Bool × List UInt8) : Bool × List UInt8 := xs.foldl (fun w x => numW x w) w
theorem numsW_snoc (xs : List Int) (x : Int) (w : Bool × List UInt8) : numsW (xs ++ [x]) w = numW x (numsW xs w) := by simp [numsW]
theorem numW_len (x : Int) (w : Bool × List UInt8) : (numW x w).2.length ≤ w.2.length + 9 := by
  unfold numW
  split
  · rename_i h
    have := goodB_iff.1 h
    have := numF_len9 (n := x.toNat) (by omega)
    rw [List.length_append]; omega
  · exact Nat.le_add_right _ _
theorem numsW_len : ∀ (xs : List Int) (w : Bool × List UInt8), (numsW xs w).2.length ≤ w.2.length + 9 * xs.length
  | [], w => by simp [numsW]
  | x :: xs, w => by
    have h1 := numsW_len xs (numW x w)
    have h2 := numW_len x w
    have : numsW (x :: xs) w = numsW xs (numW x w) := rfl
    rw [this, List.length_cons]; omega
theorem Numbers_p {xs : List Int} {sp : Bool} {b : List UInt8} (hx : xs.length ≤ 1000) (hb : b.length ≤ 900000) : wire_Numbers xs (true, sp, b, ()) = some ((), ((true, (numsW xs (sp, b)).1, (numsW xs (sp, b)).2, ()), (), (), ())) := by
  have hrun := loopM_run (step := wire_Numbers_l1) (fun i : Nat => (((), xs, (xs.length : Int), (i : Int), ()), ((true, (numsW (xs.take i) (sp, b)).1, (numsW (xs.take i) (sp, b)).2, ()), (), ()))) (N := xs.length) (b := (((), ()), ((true, (numsW xs (sp, b)).1, (numsW xs (sp, b)).2, ()), (), (), ()))) (fun i hi => ?_) ?_
  · unfold wire_Numbers
    exact bindS rfl (condT rfl (bindS hrun rfl))
  · have hl := numsW_len (xs.take i) (sp, b)
    rw [List.length_take] at hl
    dsimp only at hl
    unfold wire_Numbers_l1
    refine condT (dT (by dsimp only; omega)) (bindS (getI_lt hi) (bindS (number_p (by dsimp only; omega)) ?_))
    dsimp only
    rw [w64 (by omega), List.take_succ_eq_append_getElem hi, numsW_snoc]
    rfl
  · unfold wire_Numbers_l1
    refine condF (dF (by dsimp only; omega)) ?_
    dsimp only
    rw [List.take_length]
def rowF (t : List UInt8) : List UInt8 := numF t.length ++ t
theorem Rows1_p {t : List UInt8} {sp : Bool} {b : List UInt8} (ht : t.length ≤ 100000) (hb : b.length ≤ 1000000) : wire_Rows [t] (true, sp, b, ()) = some ((), ((true, sp, b ++ rowF t, ()), (), (), ())) := by
  have hg : goodB (t.length : Int) = true := goodB_iff.2 (by omega)
  have hlen := numF_len9 (n := t.length) (by omega)
  have hnum : wire_number (t.length : Int) (true, sp, b, ()) = some ((), ((true, sp, b ++ numF t.length, ()), (), (), ())) := by
    rw [number_p hb]
    unfold numW
    rw [if_pos hg, Int.toNat_natCast]
  unfold wire_Rows
  refine bindS rfl (condT rfl (bindS (v := (((), ()), ((true, sp, b ++ rowF t, ()), (), (), ()))) ((loopM_next (a' := (((), [t], 1, 1, ()), ((true, sp, b ++ rowF t, ()), (), ()))) ?_).trans (loopM_end ?_)) rfl))
  · unfold wire_Rows_l1
    refine condT rfl (bindS (v := t) rfl (bindS hnum (bindS (put_p (by simp only [List.length_append]; omega)) ?_)))
    dsimp only
    rw [List.append_assoc]
    rfl
  · unfold wire_Rows_l1
    exact condF rfl rfl
theorem Texts2_p {t u : List UInt8} {sp : Bool} {b : List UInt8} (ht : t.length ≤ 20000) (hu : u.length ≤ 20000) (hb : b.length ≤ 900000) : wire_Texts [t, u] (true, sp, b, ()) = some ((), ((true, sp, b ++ rowF t ++ rowF u, ()), (), (), ())) := by
  have hlen := numF_len9 (n := t.length) (by omega)
  have hrl : (rowF t).length ≤ 20009 := by unfold rowF; rw [List.length_append]; omega
  unfold wire_Texts
  refine bindS rfl (condT rfl (bindS (v := (((), ()), ((true, sp, b ++ rowF t ++ rowF u, ()), (), (), ()))) ((loopM_next (a' := (((), [t, u], 2, 1, ()), ((true, sp, b ++ rowF t, ()), (), ()))) ?_).trans ((loopM_next (a' := (((), [t, u], 2, 2, ()), ((true, sp, b ++ rowF t ++ rowF u, ()), (), ()))) ?_).trans (loopM_end ?_))) rfl))
  · unfold wire_Texts_l1
    exact condT rfl (bindS (v := t) rfl (iteT (by omega) (bindS (Rows1_p (by omega) (by dsimp only; omega)) rfl)))
  · unfold wire_Texts_l1
    exact condT rfl (bindS (v := u) rfl (iteT (by omega) (bindS (Rows1_p (by omega) (by dsimp only; rw [List.length_append]; omega)) rfl)))
  · unfold wire_Texts_l1
    exact condF rfl rfl
theorem Done_p {sp : Bool} {b : List UInt8} (hb : b.length ≤ 1000000) : ∃ st, wire_Done (true, sp, b, ()) = some ((if sp = true then ([], 2, ()) else (b, 0, ())), st) := by
  unfold wire_Done
  cases sp with
  | true => exact ⟨_, bindS rfl (condF rfl (condT rfl rfl))⟩
  | false => exact ⟨_, bindS rfl (condF rfl (condF rfl (bindS (v := (b, ((), ()))) (by unfold clone42; exact iteT (by dsimp only; omega) rfl) rfl)))⟩
/-- The document's number. -/
theorem refNum_p (x : Int) : watershedref02_Number x = some (if goodB x = true then (((numF x.toNat).length, true, ()), (numF x.toNat, ())) else ((0, false, ()), ([], ()))) := by
  unfold watershedref02_Number
  by_cases h1 : x < 0
  · rw [if_neg (by rw [goodB_iff]; omega)]
    exact condT (dT h1) rfl
  by_cases h2 : 4611686018427387903 < x
  · rw [if_neg (by rw [goodB_iff]; omega)]
    exact condF (dF h1) (condT (dT h2) rfl)
  rw [if_pos (goodB_iff.2 (by omega))]
  obtain ⟨N, rfl⟩ : ∃ N : Nat, x = (N : Int) := ⟨x.toNat, by omega⟩
  rw [Int.toNat_natCast]
  have hfirst : b8 (IntKind.u8.wrap (IntKind.i64.wrap ((BitVec.ofInt (IntKind.i64.bits) (N : Int) &&& BitVec.ofInt (IntKind.i64.bits) 127).toNat))) = some (UInt8.ofNat (N % 128)) := by
    rw [and127 N (by omega), byte_lo]
  have key : loopM watershedref02_Number_l1 ((((N / 128 : Nat) : Int), 1, ()), ([UInt8.ofNat (N % 128)], ())) = some (((numF N).length, ()), ((), numF N, ())) := by
    refine loopM_eq_of (fun m a => ∃ (pre : List UInt8) (last : Nat), a = (((m : Int), (pre ++ [UInt8.ofNat last]).length, ()), (pre ++ [UInt8.ofNat last], ())) ∧ last < 128 ∧ m ≤ 4611686018427387903 ∧ numF N = pre ++ (if m = 0 then [UInt8.ofNat last] else UInt8.ofNat (last + 128) :: numF m)) _ ?_ (n := N / 128) ⟨[], N % 128, rfl, by omega, by omega, ?_⟩
    · rintro m a ⟨pre, last, rfl, h3, h4, h5⟩
      have hlen := numF_len9 (n := N) (by omega)
      unfold watershedref02_Number_l1
      by_cases hm : m = 0
      · right
        subst hm
        rw [if_pos rfl] at h5
        rw [h5]
        exact condF (dF (by dsimp only; omega)) rfl
      · left
        rw [if_neg hm] at h5
        have hl := congrArg List.length h5
        rw [List.length_append, List.length_cons] at hl
        have hpos := numF_pos m
        have hw : IntKind.i64.wrap ((((pre ++ [UInt8.ofNat last]).length : Nat) : Int) - 1) = ((pre.length : Nat) : Int) := by
          rw [List.length_append, List.length_singleton, w64 (by omega)]; omega
        have hg : (pre ++ [UInt8.ofNat last])[0 + (((pre.length : Nat) : Int)).toNat]? = some (UInt8.ofNat last) := by rw [Nat.zero_add, Int.toNat_natCast]; simp
        have hor : b8 (IntKind.u8.wrap ((BitVec.ofInt (IntKind.u8.bits) ((UInt8.ofNat last).toNat : Int) ||| BitVec.ofInt (IntKind.u8.bits) 128).toNat)) = some (UInt8.ofNat (last + 128)) := by
          have hq : (UInt8.ofNat last).toNat = last := by rw [UInt8.toNat_ofNat']; omega
          have := byte_or last
          rw [IntWalk.u8_in (last : Int) (by omega), Nat.mod_eq_of_lt h3] at this
          rw [hq]; exact this
        have hset : (pre ++ [UInt8.ofNat last]).set (0 + (((pre.length : Nat) : Int)).toNat) (UInt8.ofNat (last + 128)) = pre ++ [UInt8.ofNat (last + 128)] := by
          rw [Nat.zero_add, Int.toNat_natCast, List.set_append_right _ _ (Nat.le_refl _), Nat.sub_self]; rfl
        have hnext : b8 (IntKind.u8.wrap (IntKind.i64.wrap ((BitVec.ofInt (IntKind.i64.bits) (m : Int) &&& BitVec.ofInt (IntKind.i64.bits) 127).toNat))) = some (UInt8.ofNat (m % 128)) := by
          rw [and127 m h4, byte_lo]
        refine ⟨m / 128, (((((m / 128 : Nat) : Int)), ((pre ++ [UInt8.ofNat (last + 128)]) ++ [UInt8.ofNat (m % 128)]).length, ()), ((pre ++ [UInt8.ofNat (last + 128)]) ++ [UInt8.ofNat (m % 128)], ())), by omega, ?_, pre ++ [UInt8.ofNat (last + 128)], m % 128, rfl, by omega, by omega, ?_⟩
        · dsimp only
          rw [hw]
          refine condT (dT (by omega)) (iteT (by rw [List.length_append, List.length_singleton]; omega) (bindS hg (iteT (by rw [List.length_append, List.length_singleton]; omega) (bindS hg (bindS hor ?_)))))
          rw [hset]
          refine bindS hnext (iteT (by simp only [List.length_append, List.length_singleton]; omega) ?_)
          rw [shr7, List.take_of_length_le (by simp only [List.length_append, List.length_singleton]; omega)]
          simp only [List.length_append, List.length_singleton]
        · rw [h5, List.append_assoc]
          congr 1
          by_cases hm2 : m < 128
          · rw [numF_lo hm2, if_pos (by omega), Nat.mod_eq_of_lt hm2]; rfl
          · rw [numF_hi hm2, if_neg (by omega)]; rfl
    · by_cases hm2 : N < 128
      · rw [numF_lo hm2, if_pos (by omega), Nat.mod_eq_of_lt hm2]; rfl
      · rw [numF_hi hm2, if_neg (by omega)]; rfl
  refine condF (dF h1) (condF (dF h2) (bindS hfirst ?_))
  rw [shr7]
  exact bindS key rfl
theorem refNumN_p (x : Int) : watershedref02_Number_n x = some (if goodB x = true then ((numF x.toNat, true, ()), ()) else (([], false, ()), ())) := by
  unfold watershedref02_Number_n
  refine bindS (refNum_p x) ?_
  split
  · exact iteT (Nat.le_refl _) (by dsimp only; rw [List.take_length])
  · exact iteT (Nat.le_refl _) rfl
theorem refRowN_p {t : List UInt8} (ht : t.length ≤ 100000) : watershedref02_Row_n t = some (rowF t, ()) := by
  have hg : goodB (t.length : Int) = true := goodB_iff.2 (by omega)
  have hlen := numF_len9 (n := t.length) (by omega)
  have hr : watershedref02_Row t = some ((rowF t).length, (rowF t, ())) := by
    unfold watershedref02_Row
    refine bindS (refNum_p _) ?_
    rw [if_pos hg, Int.toNat_natCast]
    refine iteT (by dsimp only; omega) ?_
    dsimp only
    rw [List.take_length]
    unfold rowF
    rw [List.length_append]
  unfold watershedref02_Row_n
  exact bindS hr (iteT (Nat.le_refl _) (by dsimp only; rw [List.take_length]))
def catN (xs : List Int) : List UInt8 := (xs.map fun x => numF x.toNat).flatten
theorem catN_snoc (xs : List Int) (x : Int) : catN (xs ++ [x]) = catN xs ++ numF x.toNat := by simp [catN]
theorem numsW_good : ∀ (xs : List Int) (sp : Bool) (b : List UInt8), xs.all goodB = true → numsW xs (sp, b) = (sp, b ++ catN xs)
  | [], sp, b, _ => by simp [numsW, catN]
  | x :: xs, sp, b, h => by
    rw [List.all_cons, Bool.and_eq_true] at h
    have : numsW (x :: xs) (sp, b) = numsW xs (numW x (sp, b)) := rfl
    rw [this]
    unfold numW
    rw [if_pos h.1, numsW_good xs _ _ h.2]
    simp [catN]
theorem numsW_bad1 : ∀ (xs : List Int) (b : List UInt8), (numsW xs (true, b)).1 = true
  | [], b => rfl
  | x :: xs, b => by
    have : numsW (x :: xs) (true, b) = numsW xs (numW x (true, b)) := rfl
    rw [this]
    unfold numW
    split
    · exact numsW_bad1 xs _
    · exact numsW_bad1 xs _
theorem numsW_bad : ∀ (xs : List Int) (sp : Bool) (b : List UInt8), xs.all goodB = false → (numsW xs (sp, b)).1 = true
  | [], sp, b, h => by cases h
  | x :: xs, sp, b, h => by
    have h0 : numsW (x :: xs) (sp, b) = numsW xs (numW x (sp, b)) := rfl
    rw [h0]
    unfold numW
    split
    · rename_i hg
      rw [List.all_cons, hg, Bool.true_and] at h
      exact numsW_bad xs _ _ h
    · exact numsW_bad1 xs _
theorem catN_len : ∀ xs : List Int, xs.all goodB = true → (catN xs).length ≤ 9 * xs.length
  | [], _ => by simp [catN]
  | x :: xs, h => by
    rw [List.all_cons, Bool.and_eq_true] at h
    have h1 := catN_len xs h.2
    have h2 := goodB_iff.1 h.1
    have h3 := numF_len9 (n := x.toNat) (by omega)
    have : catN (x :: xs) = numF x.toNat ++ catN xs := by simp [catN]
    rw [this, List.length_append, List.length_cons]; omega
theorem refWriteN_p {xs : List Int} (hx : xs.length ≤ 1000) : watershedref02_Write xs [] [] [] = some ((if xs.all goodB = true then (catN xs, 0, ()) else ([], 2, ())), ((), ())) := by
  have key : ∃ z, loopM watershedref02_Write_l1 ((xs, [], [], [], [], 0, ()), ((), ())) = some z ∧ ((xs.all goodB = true ∧ z = .inr (([], [], [], catN xs, ()), ((), (), ()))) ∨ (xs.all goodB = false ∧ z = .inl (((), 2, ()), ((), ())))) := by
    refine loopM_spec (fun m a => ∃ i : Nat, a = ((xs, [], [], [], catN (xs.take i), (i : Int), ()), ((), ())) ∧ i ≤ xs.length ∧ (xs.take i).all goodB = true ∧ m = xs.length - i) _ ?_ (n := xs.length) ⟨0, by simp [catN], Nat.zero_le _, rfl, rfl⟩
    rintro m a ⟨i, rfl, h1, h2, rfl⟩
    unfold watershedref02_Write_l1
    by_cases hi : i < xs.length
    · have hl := catN_len _ h2
      rw [List.length_take] at hl
      cases hg : goodB xs[i] with
      | true =>
        left
        have hgi := goodB_iff.1 hg
        have h9 := numF_len9 (n := xs[i].toNat) (by omega)
        have hn := refNumN_p xs[i]
        rw [if_pos hg] at hn
        refine ⟨xs.length - (i + 1), _, by omega, condT (dT (by dsimp only; omega)) (bindS (getI_lt hi) (bindS hn (condF rfl (iteT (by dsimp only; omega) rfl)))), i + 1, ?_, by omega, ?_, rfl⟩
        · dsimp only
          rw [w64 (by omega), List.take_succ_eq_append_getElem hi, catN_snoc]
          rfl
        · rw [List.take_succ_eq_append_getElem hi, List.all_append, h2]; simp [hg]
      | false =>
        right
        have hn := refNumN_p xs[i]
        rw [hg, if_neg Bool.false_ne_true] at hn
        have hbad : xs.all goodB = false := by
          cases hall : xs.all goodB with
          | false => rfl
          | true =>
            rw [List.all_eq_true.1 hall _ (List.getElem_mem hi)] at hg
            cases hg
        exact ⟨_, condT (dT (by dsimp only; omega)) (bindS (getI_lt hi) (bindS hn (condT rfl rfl))), .inr ⟨hbad, rfl⟩⟩
    · right
      obtain rfl : i = xs.length := by omega
      rw [List.take_length] at h2
      exact ⟨_, condF (dF (by dsimp only; omega)) rfl, .inl ⟨h2, by dsimp only; rw [List.take_length]⟩⟩
  obtain ⟨z, hz, ⟨h1, rfl⟩ | ⟨h1, rfl⟩⟩ := key
  · rw [if_pos h1]
    unfold watershedref02_Write
    refine bindS hz ?_
    refine bindS (v := (([], [], catN xs, ()), ((), (), ()))) (loopM_end (by unfold watershedref02_Write_l2; exact condF rfl rfl)) ?_
    refine bindS (v := (([], catN xs, ()), ((), (), ()))) (loopM_end (by unfold watershedref02_Write_l3; exact condF rfl rfl)) ?_
    exact bindS (v := ((catN xs, ()), ((), (), ()))) (loopM_end (by unfold watershedref02_Write_l4; exact condF rfl rfl)) rfl
  · rw [if_neg (by rw [h1]; exact Bool.false_ne_true)]
    unfold watershedref02_Write
    exact bindS hz rfl
theorem refWriteT_p {t u : List UInt8} (ht : t.length ≤ 20000) (hu : u.length ≤ 20000) : watershedref02_Write [] [] [t, u] [] = some ((rowF t ++ rowF u, 0, ()), ((), ())) := by
  have hlen := numF_len9 (n := t.length) (by omega)
  have hlen2 := numF_len9 (n := u.length) (by omega)
  have hrl : (rowF t).length ≤ 20009 := by unfold rowF; rw [List.length_append]; omega
  have hru : (rowF u).length ≤ 20009 := by unfold rowF; rw [List.length_append]; omega
  unfold watershedref02_Write
  refine bindS (v := .inr (([], [t, u], [], [], ()), ((), (), ()))) (loopM_end (by unfold watershedref02_Write_l1; exact condF rfl rfl)) ?_
  refine bindS (v := (([t, u], [], [], ()), ((), (), ()))) (loopM_end (by unfold watershedref02_Write_l2; exact condF rfl rfl)) ?_
  refine bindS (v := (([], rowF t ++ rowF u, ()), ((), (), ()))) ((loopM_next (a' := (([t, u], [], rowF t, 1, ()), ((), ()))) ?_).trans ((loopM_next (a' := (([t, u], [], rowF t ++ rowF u, 2, ()), ((), ()))) ?_).trans (loopM_end ?_))) ?_
  · unfold watershedref02_Write_l3
    exact condT rfl (bindS (v := t) rfl (iteT (by omega) (bindS (refRowN_p (by omega)) (iteT (by simp only [List.length_nil]; omega) rfl))))
  · unfold watershedref02_Write_l3
    exact condT rfl (bindS (v := u) rfl (iteT (by omega) (bindS (refRowN_p (by omega)) (iteT (by dsimp only; omega) rfl))))
  · unfold watershedref02_Write_l3
    exact condF rfl rfl
  · exact bindS (v := ((rowF t ++ rowF u, ()), ((), (), ()))) (loopM_end (by unfold watershedref02_Write_l4; exact condF rfl rfl)) rfl
end Go.Proofs.Ytlmmpfbdgiokmaa
