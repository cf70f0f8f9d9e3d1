/- XSdw, XWb, XWc in one. -/
import Derived.Test.YtlmmpfbdgiokmaaPl
import Derived.Test.YtlmmpfbdgiokmaaTb
import Derived.Laws.BitsAllLaws
import Derived.Test.YtlmmpfbdgiokmaaG1
/- Numbers as bytes, and out of bytes, plainly. -/
namespace Go.Proofs.Ytlmmpfbdgiokmaa
open Go.RowKit
set_option maxRecDepth 100000
set_option linter.unusedVariables false
set_option linter.unusedSimpArgs false
theorem b8_q {n : Int} (h : 0 ≤ n ∧ n < 256) : b8 n = some (UInt8.ofNat n.toNat) := by
  unfold b8 g8
  dsimp only
  rw [if_pos h]
  rfl
/-- A number, seven bits a byte. -/
def numF (n : Nat) : List UInt8 := if h : n < 128 then [UInt8.ofNat n] else UInt8.ofNat (n % 128 + 128) :: numF (n / 128)
termination_by n
decreasing_by omega
theorem numF_lo {n : Nat} (h : n < 128) : numF n = [UInt8.ofNat n] := by rw [numF, dif_pos h]
theorem numF_hi {n : Nat} (h : ¬ n < 128) : numF n = UInt8.ofNat (n % 128 + 128) :: numF (n / 128) := by rw [numF, dif_neg h]
theorem numF_len (k : Nat) : ∀ n, n < 128 ^ (k + 1) → (numF n).length ≤ k + 1 := by
  induction k with
  | zero => intro n h; rw [numF_lo (by simpa using h)]; simp
  | succ k ih =>
    intro n h
    by_cases h1 : n < 128
    · rw [numF_lo h1]; simp
    · rw [numF_hi h1, List.length_cons]
      have := ih (n / 128) (by rw [Nat.pow_succ] at h; omega)
      omega
theorem numF_len9 {n : Nat} (h : n ≤ 4611686018427387903) : (numF n).length ≤ 9 := numF_len 8 n (by omega)
theorem numF_pos (n : Nat) : 1 ≤ (numF n).length := by
  by_cases h : n < 128
  · rw [numF_lo h]; simp
  · rw [numF_hi h]; simp
theorem or128 (m : Nat) (h : m < 128) : m ||| 128 = m + 128 := by
  have := Nat.two_pow_add_eq_or_of_lt (i := 7) (b := m) (by omega) 1
  rw [Nat.or_comm]
  simpa [Nat.add_comm] using this.symm
theorem bv_ofInt (w n : Nat) : BitVec.ofInt w (n : Int) = BitVec.ofNat w n := by
  apply BitVec.eq_of_toNat_eq
  simp
/-- A byte with its highest bit set. -/
theorem byte_or (n : Nat) : b8 (IntKind.u8.wrap ((BitVec.ofInt (IntKind.u8.bits) (IntKind.u8.wrap (n : Int)) ||| BitVec.ofInt (IntKind.u8.bits) 128).toNat)) = some (UInt8.ofNat (n % 128 + 128)) := by
  have hb : IntKind.u8.bits = 8 := rfl
  have hw : IntKind.u8.wrap (n : Int) = ((n % 256 : Nat) : Int) := by rw [IntKind.wrap_u8]; omega
  have h8 : (BitVec.ofNat 8 (n % 256) ||| BitVec.ofNat 8 128).toNat = n % 128 + 128 := by
    rw [BitVec.toNat_or, BitVec.toNat_ofNat, BitVec.toNat_ofNat]
    have hs : n % 256 % 2 ^ 8 = n % 128 ∨ n % 256 % 2 ^ 8 = n % 128 + 128 := by omega
    rw [show 128 % 2 ^ 8 = 128 from rfl]
    rcases hs with hs | hs
    · rw [hs, or128 _ (by omega)]
    · rw [hs, ← or128 _ (show n % 128 < 128 by omega), Nat.or_assoc, Nat.or_self]
  rw [hb, hw, bv_ofInt, show (128 : Int) = ((128 : Nat) : Int) from rfl, bv_ofInt, h8, IntKind.wrap_u8, b8_q (by omega)]
  congr 2
  omega
theorem byte_lo (n : Nat) : b8 (IntKind.u8.wrap (n : Int)) = some (UInt8.ofNat n) := by
  rw [IntKind.wrap_u8, b8_q (by omega)]
  congr 1
  apply UInt8.toNat_inj.1
  rw [UInt8.toNat_ofNat', UInt8.toNat_ofNat']
  omega
theorem shr7 (n : Nat) : (n : Int).fdiv (2 ^ min (7 : Int).toNat (IntKind.i64.bits)) = ((n / 128 : Nat) : Int) := by
  rw [show (2 : Int) ^ min (7 : Int).toNat (IntKind.i64.bits) = 128 from rfl, Int.fdiv_eq_ediv_of_nonneg _ (by omega)]
  rfl
theorem and127 (n : Nat) (h : n ≤ 4611686018427387903) : IntKind.i64.wrap ((BitVec.ofInt (IntKind.i64.bits) (n : Int) &&& BitVec.ofInt (IntKind.i64.bits) 127).toNat) = ((n % 128 : Nat) : Int) := by
  have hb : IntKind.i64.bits = 64 := rfl
  have h8 : (BitVec.ofNat 64 n &&& BitVec.ofNat 64 127).toNat = n % 128 := by
    rw [BitVec.toNat_and, BitVec.toNat_ofNat, BitVec.toNat_ofNat, Nat.mod_eq_of_lt (show n < 2 ^ 64 by omega), show 127 % 2 ^ 64 = 2 ^ 7 - 1 from rfl, Nat.and_two_pow_sub_one_eq_mod]
  rw [hb, bv_ofInt, show (127 : Int) = ((127 : Nat) : Int) from rfl, bv_ofInt, h8, w64 (by omega)]
/-- A byte's seven bits, at their place. -/
theorem byte_in (b : UInt8) (acc i : Nat) (hi : i ≤ 8) (ha : acc < 2 ^ (7 * i)) (s : Int) (hs : s.toNat = 7 * i) :
    (IntKind.i64.wrap ((BitVec.ofInt (IntKind.i64.bits) (acc : Int) ||| BitVec.ofInt (IntKind.i64.bits) (IntKind.i64.wrap ((IntKind.i64.wrap (IntKind.u8.wrap ((BitVec.ofInt (IntKind.u8.bits) (b.toNat : Int) &&& BitVec.ofInt (IntKind.u8.bits) 127).toNat))) * 2 ^ min s.toNat (IntKind.i64.bits)))).toNat)) = ((acc + b.toNat % 128 * 2 ^ (7 * i) : Nat) : Int) := by
  have hb : IntKind.i64.bits = 64 := rfl
  have hb8 : IntKind.u8.bits = 8 := rfl
  have hbl := b.toNat_lt
  have h8 : (BitVec.ofNat 8 b.toNat &&& BitVec.ofNat 8 127).toNat = b.toNat % 128 := by
    rw [BitVec.toNat_and, BitVec.toNat_ofNat, BitVec.toNat_ofNat, Nat.mod_eq_of_lt hbl, show 127 % 2 ^ 8 = 2 ^ 7 - 1 from rfl, Nat.and_two_pow_sub_one_eq_mod]
  have hp : (2 : Nat) ^ (7 * i) ≤ 2 ^ 56 := Nat.pow_le_pow_right (by omega) (by omega)
  have hm : b.toNat % 128 * 2 ^ (7 * i) ≤ 127 * 2 ^ 56 := Nat.mul_le_mul (by omega) hp
  have hmul : ((b.toNat % 128 : Nat) : Int) * 2 ^ (7 * i) = ((b.toNat % 128 * 2 ^ (7 * i) : Nat) : Int) := by simp
  rw [hb, hb8, bv_ofInt 8, show (127 : Int) = ((127 : Nat) : Int) from rfl, bv_ofInt 8, h8, IntWalk.u8_in _ (by omega), w64 (n := ((b.toNat % 128 : Nat) : Int)) (by omega), hs, Nat.min_eq_left (by omega), hmul]
  generalize hq : b.toNat % 128 * 2 ^ (7 * i) = q at hm
  rw [w64 (n := (q : Int)) (by omega), bv_ofInt, bv_ofInt, BitVec.toNat_or, BitVec.toNat_ofNat, BitVec.toNat_ofNat, Nat.mod_eq_of_lt (show acc < 2 ^ 64 by omega), Nat.mod_eq_of_lt (show q < 2 ^ 64 by omega)]
  have hor : acc ||| q = acc + q := by
    rw [← hq, Nat.mul_comm, Nat.or_comm, Nat.add_comm]
    exact (Nat.two_pow_add_eq_or_of_lt ha _).symm
  rw [hor, w64 (by omega)]
def top : Nat := 4611686018427387903
/-- A number, out of bytes: it, and what is left. -/
def getF : Nat → Nat → Nat → List UInt8 → Option (Nat × List UInt8)
  | 0, _, _, _ => none
  | k + 1, i, acc, l => match l with
    | [] => none
    | b :: l => if b.toNat < 128 then (if (0 < i ∧ b.toNat = 0) ∨ top < acc + b.toNat % 128 * 2 ^ (7 * i) then none else some (acc + b.toNat % 128 * 2 ^ (7 * i), l)) else getF k (i + 1) (acc + b.toNat % 128 * 2 ^ (7 * i)) l
def numR (most : Nat) (l : List UInt8) : Option (Nat × List UInt8) := (getF 9 0 0 l).bind fun p => if most < p.1 then none else some p
theorem getF_len : ∀ (k i acc : Nat) (l : List UInt8) {n : Nat} {r : List UInt8}, getF k i acc l = some (n, r) → n ≤ top ∧ r.length + 1 ≤ l.length ∧ ∃ m, r = l.drop m ∧ m ≤ l.length
  | 0, _, _, _, _, _, h => by cases h
  | k + 1, i, acc, [], _, _, h => by cases h
  | k + 1, i, acc, b :: l, n, r, h => by
    unfold getF at h
    dsimp only at h
    split at h
    · split at h
      · cases h
      · rename_i h2
        injection h with h
        injection h with h3 h4
        subst h3 h4
        exact ⟨by omega, by simp, 1, rfl, by simp⟩
    · obtain ⟨g1, g2, m, g3, g4⟩ := getF_len k _ _ l h
      exact ⟨g1, by rw [List.length_cons]; omega, m + 1, g3, by rw [List.length_cons]; omega⟩
end Go.Proofs.Ytlmmpfbdgiokmaa
/- The writer and the reader of wire, and the document's, plainly. -/
namespace Go.Proofs.Ytlmmpfbdgiokmaa
open Go.RowKit
set_option maxRecDepth 100000
set_option linter.unusedVariables false
set_option linter.unusedSimpArgs false
def goodB (x : Int) : Bool := decide (0 ≤ x) && decide (x ≤ 4611686018427387903)
theorem goodB_iff {x : Int} : goodB x = true ↔ 0 ≤ x ∧ x ≤ 4611686018427387903 := by simp [goodB]
theorem put_p {x b : List UInt8} {sp : Bool} (h : b.length + x.length ≤ 10000000) : wire_put x (true, sp, b, ()) = some ((), ((true, sp, b ++ x, ()), (), (), ())) := by
  unfold wire_put
  exact condT rfl (iteT (by dsimp only; omega) rfl)
theorem numberLoop_p {sp : Bool} {N : Nat} (hN : N ≤ 4611686018427387903) {b : List UInt8} (hb : b.length + (numF N).length ≤ 10000000) :
    ∃ (n : Nat) (b' : List UInt8), n < 128 ∧ b' ++ numF n = b ++ numF N ∧ loopM wire_number_l1 (((), (N : Int), ()), ((true, sp, b, ()), (), ())) = some (((), (n : Int), ()), ((true, sp, b', ()), (), (), ())) := by
  have key : ∃ z, loopM wire_number_l1 (((), (N : Int), ()), ((true, sp, b, ()), (), ())) = some z ∧ ∃ (n : Nat) (b' : List UInt8), n < 128 ∧ b' ++ numF n = b ++ numF N ∧ z = (((), (n : Int), ()), ((true, sp, b', ()), (), (), ())) := by
    refine loopM_spec (fun m a => ∃ b' : List UInt8, a = (((), (m : Int), ()), ((true, sp, b', ()), (), ())) ∧ b' ++ numF m = b ++ numF N ∧ m ≤ 4611686018427387903) _ ?_ (n := N) ⟨b, rfl, rfl, hN⟩
    rintro m a ⟨b', rfl, h1, h2⟩
    unfold wire_number_l1
    by_cases hm : m < 128
    · right
      exact ⟨_, condF (dF (by dsimp only; omega)) rfl, m, b', hm, h1, rfl⟩
    · left
      have hl := congrArg List.length h1
      rw [numF_hi hm, List.length_append, List.length_append, List.length_cons] at hl
      refine ⟨m / 128, _, by omega, condT (dT (by dsimp only; omega)) (bindS (byte_or m) (bindS (put_p (by simp only [List.length_singleton]; omega)) rfl)), b' ++ [UInt8.ofNat (m % 128 + 128)], ?_, ?_, by omega⟩
      · dsimp only
        rw [shr7]
      · rw [List.append_assoc, ← h1, numF_hi hm]; rfl
  obtain ⟨z, hz, n, b', h1, h2, rfl⟩ := key
  exact ⟨n, b', h1, h2, hz⟩
/-- A number, written. -/
def numW (x : Int) (w : Bool × List UInt8) : Bool × List UInt8 := if goodB x = true then (w.1, w.2 ++ numF x.toNat) else (true, w.2)
theorem number_p {x : Int} {sp : Bool} {b : List UInt8} (hb : b.length ≤ 1000000) : wire_number x (true, sp, b, ()) = some ((), ((true, (numW x (sp, b)).1, (numW x (sp, b)).2, ()), (), (), ())) := by
  unfold wire_number numW
  by_cases h1 : x < 0
  · rw [if_neg (by rw [goodB_iff]; omega)]
    exact condT (dT h1) rfl
  by_cases h2 : 4611686018427387903 < x
  · rw [if_neg (by rw [goodB_iff]; omega)]
    exact condF (dF h1) (condT (dT h2) rfl)
  rw [if_pos (goodB_iff.2 (by omega))]
  obtain ⟨N, rfl⟩ : ∃ N : Nat, x = (N : Int) := ⟨x.toNat, by omega⟩
  have hlen := numF_len9 (n := N) (by omega)
  obtain ⟨n, b', g1, g2, g3⟩ := numberLoop_p (sp := sp) (N := N) (by omega) (b := b) (by omega)
  have hl := congrArg List.length g2
  rw [List.length_append, List.length_append] at hl
  have hp := numF_pos n
  refine condF (dF h1) (condF (dF h2) (bindS g3 (bindS (byte_lo n) (bindS (put_p (by simp only [List.length_singleton]; omega)) ?_))))
  rw [numF_lo g1] at g2
  dsimp only
  rw [g2, Int.toNat_natCast]
def numsW (xs : List Int) (w : Bool × List UInt8) : Bool × List UInt8 := xs.foldl (fun w x => numW x w) w
theorem numsW_snoc (xs : List Int) (x : Int) (w : Bool × List UInt8) : numsW (xs ++ [x]) w = numW x (numsW xs w) := by simp [numsW]
theorem numW_len (x : Int) (w : Bool × List UInt8) : (numW x w).2.length ≤ w.2.length + 9 := by
  unfold numW
  split
  · rename_i h
    have := goodB_iff.1 h
    have := numF_len9 (n := x.toNat) (by omega)
    rw [List.length_append]; omega
  · exact Nat.le_add_right _ _
theorem numsW_len : ∀ (xs : List Int) (w : Bool × List UInt8), (numsW xs w).2.length ≤ w.2.length + 9 * xs.length
  | [], w => by simp [numsW]
  | x :: xs, w => by
    have h1 := numsW_len xs (numW x w)
    have h2 := numW_len x w
    have : numsW (x :: xs) w = numsW xs (numW x w) := rfl
    rw [this, List.length_cons]; omega
theorem Numbers_p {xs : List Int} {sp : Bool} {b : List UInt8} (hx : xs.length ≤ 1000) (hb : b.length ≤ 900000) : wire_Numbers xs (true, sp, b, ()) = some ((), ((true, (numsW xs (sp, b)).1, (numsW xs (sp, b)).2, ()), (), (), ())) := by
  have hrun := loopM_run (step := wire_Numbers_l1) (fun i : Nat => (((), xs, (xs.length : Int), (i : Int), ()), ((true, (numsW (xs.take i) (sp, b)).1, (numsW (xs.take i) (sp, b)).2, ()), (), ()))) (N := xs.length) (b := (((), ()), ((true, (numsW xs (sp, b)).1, (numsW xs (sp, b)).2, ()), (), (), ()))) (fun i hi => ?_) ?_
  · unfold wire_Numbers
    exact bindS rfl (condT rfl (bindS hrun rfl))
  · have hl := numsW_len (xs.take i) (sp, b)
    rw [List.length_take] at hl
    dsimp only at hl
    unfold wire_Numbers_l1
    refine condT (dT (by dsimp only; omega)) (bindS (getI_lt hi) (bindS (number_p (by dsimp only; omega)) ?_))
    dsimp only
    rw [w64 (by omega), List.take_succ_eq_append_getElem hi, numsW_snoc]
    rfl
  · unfold wire_Numbers_l1
    refine condF (dF (by dsimp only; omega)) ?_
    dsimp only
    rw [List.take_length]
def rowF (t : List UInt8) : List UInt8 := numF t.length ++ t
theorem Rows1_p {t : List UInt8} {sp : Bool} {b : List UInt8} (ht : t.length ≤ 100000) (hb : b.length ≤ 1000000) : wire_Rows [t] (true, sp, b, ()) = some ((), ((true, sp, b ++ rowF t, ()), (), (), ())) := by
  have hg : goodB (t.length : Int) = true := goodB_iff.2 (by omega)
  have hlen := numF_len9 (n := t.length) (by omega)
  have hnum : wire_number (t.length : Int) (true, sp, b, ()) = some ((), ((true, sp, b ++ numF t.length, ()), (), (), ())) := by
    rw [number_p hb]
    unfold numW
    rw [if_pos hg, Int.toNat_natCast]
  unfold wire_Rows
  refine bindS rfl (condT rfl (bindS (v := (((), ()), ((true, sp, b ++ rowF t, ()), (), (), ()))) ((loopM_next (a' := (((), [t], 1, 1, ()), ((true, sp, b ++ rowF t, ()), (), ()))) ?_).trans (loopM_end ?_)) rfl))
  · unfold wire_Rows_l1
    refine condT rfl (bindS (v := t) rfl (bindS hnum (bindS (put_p (by simp only [List.length_append]; omega)) ?_)))
    dsimp only
    rw [List.append_assoc]
    rfl
  · unfold wire_Rows_l1
    exact condF rfl rfl
theorem Texts2_p {t u : List UInt8} {sp : Bool} {b : List UInt8} (ht : t.length ≤ 20000) (hu : u.length ≤ 20000) (hb : b.length ≤ 900000) : wire_Texts [t, u] (true, sp, b, ()) = some ((), ((true, sp, b ++ rowF t ++ rowF u, ()), (), (), ())) := by
  have hlen := numF_len9 (n := t.length) (by omega)
  have hrl : (rowF t).length ≤ 20009 := by unfold rowF; rw [List.length_append]; omega
  unfold wire_Texts
  refine bindS rfl (condT rfl (bindS (v := (((), ()), ((true, sp, b ++ rowF t ++ rowF u, ()), (), (), ()))) ((loopM_next (a' := (((), [t, u], 2, 1, ()), ((true, sp, b ++ rowF t, ()), (), ()))) ?_).trans ((loopM_next (a' := (((), [t, u], 2, 2, ()), ((true, sp, b ++ rowF t ++ rowF u, ()), (), ()))) ?_).trans (loopM_end ?_))) rfl))
  · unfold wire_Texts_l1
    exact condT rfl (bindS (v := t) rfl (iteT (by omega) (bindS (Rows1_p (by omega) (by dsimp only; omega)) rfl)))
  · unfold wire_Texts_l1
    exact condT rfl (bindS (v := u) rfl (iteT (by omega) (bindS (Rows1_p (by omega) (by dsimp only; rw [List.length_append]; omega)) rfl)))
  · unfold wire_Texts_l1
    exact condF rfl rfl
theorem Done_p {sp : Bool} {b : List UInt8} (hb : b.length ≤ 1000000) : ∃ st, wire_Done (true, sp, b, ()) = some ((if sp = true then ([], 2, ()) else (b, 0, ())), st) := by
  unfold wire_Done
  cases sp with
  | true => exact ⟨_, bindS rfl (condF rfl (condT rfl rfl))⟩
  | false => exact ⟨_, bindS rfl (condF rfl (condF rfl (bindS (v := (b, ((), ()))) (by unfold clone42; exact iteT (by dsimp only; omega) rfl) rfl)))⟩
/-- The document's number. -/
theorem refNum_p (x : Int) : watershedref02_Number x = some (if goodB x = true then (((numF x.toNat).length, true, ()), (numF x.toNat, ())) else ((0, false, ()), ([], ()))) := by
  unfold watershedref02_Number
  by_cases h1 : x < 0
  · rw [if_neg (by rw [goodB_iff]; omega)]
    exact condT (dT h1) rfl
  by_cases h2 : 4611686018427387903 < x
  · rw [if_neg (by rw [goodB_iff]; omega)]
    exact condF (dF h1) (condT (dT h2) rfl)
  rw [if_pos (goodB_iff.2 (by omega))]
  obtain ⟨N, rfl⟩ : ∃ N : Nat, x = (N : Int) := ⟨x.toNat, by omega⟩
  rw [Int.toNat_natCast]
  have hfirst : b8 (IntKind.u8.wrap (IntKind.i64.wrap ((BitVec.ofInt (IntKind.i64.bits) (N : Int) &&& BitVec.ofInt (IntKind.i64.bits) 127).toNat))) = some (UInt8.ofNat (N % 128)) := by
    rw [and127 N (by omega), byte_lo]
  have key : loopM watershedref02_Number_l1 ((((N / 128 : Nat) : Int), 1, ()), ([UInt8.ofNat (N % 128)], ())) = some (((numF N).length, ()), ((), numF N, ())) := by
    refine loopM_eq_of (fun m a => ∃ (pre : List UInt8) (last : Nat), a = (((m : Int), (pre ++ [UInt8.ofNat last]).length, ()), (pre ++ [UInt8.ofNat last], ())) ∧ last < 128 ∧ m ≤ 4611686018427387903 ∧ numF N = pre ++ (if m = 0 then [UInt8.ofNat last] else UInt8.ofNat (last + 128) :: numF m)) _ ?_ (n := N / 128) ⟨[], N % 128, rfl, by omega, by omega, ?_⟩
    · rintro m a ⟨pre, last, rfl, h3, h4, h5⟩
      have hlen := numF_len9 (n := N) (by omega)
      unfold watershedref02_Number_l1
      by_cases hm : m = 0
      · right
        subst hm
        rw [if_pos rfl] at h5
        rw [h5]
        exact condF (dF (by dsimp only; omega)) rfl
      · left
        rw [if_neg hm] at h5
        have hl := congrArg List.length h5
        rw [List.length_append, List.length_cons] at hl
        have hpos := numF_pos m
        have hw : IntKind.i64.wrap ((((pre ++ [UInt8.ofNat last]).length : Nat) : Int) - 1) = ((pre.length : Nat) : Int) := by
          rw [List.length_append, List.length_singleton, w64 (by omega)]; omega
        have hg : (pre ++ [UInt8.ofNat last])[0 + (((pre.length : Nat) : Int)).toNat]? = some (UInt8.ofNat last) := by rw [Nat.zero_add, Int.toNat_natCast]; simp
        have hor : b8 (IntKind.u8.wrap ((BitVec.ofInt (IntKind.u8.bits) ((UInt8.ofNat last).toNat : Int) ||| BitVec.ofInt (IntKind.u8.bits) 128).toNat)) = some (UInt8.ofNat (last + 128)) := by
          have hq : (UInt8.ofNat last).toNat = last := by rw [UInt8.toNat_ofNat']; omega
          have := byte_or last
          rw [IntWalk.u8_in (last : Int) (by omega), Nat.mod_eq_of_lt h3] at this
          rw [hq]; exact this
        have hset : (pre ++ [UInt8.ofNat last]).set (0 + (((pre.length : Nat) : Int)).toNat) (UInt8.ofNat (last + 128)) = pre ++ [UInt8.ofNat (last + 128)] := by
          rw [Nat.zero_add, Int.toNat_natCast, List.set_append_right _ _ (Nat.le_refl _), Nat.sub_self]; rfl
        have hnext : b8 (IntKind.u8.wrap (IntKind.i64.wrap ((BitVec.ofInt (IntKind.i64.bits) (m : Int) &&& BitVec.ofInt (IntKind.i64.bits) 127).toNat))) = some (UInt8.ofNat (m % 128)) := by
          rw [and127 m h4, byte_lo]
        refine ⟨m / 128, (((((m / 128 : Nat) : Int)), ((pre ++ [UInt8.ofNat (last + 128)]) ++ [UInt8.ofNat (m % 128)]).length, ()), ((pre ++ [UInt8.ofNat (last + 128)]) ++ [UInt8.ofNat (m % 128)], ())), by omega, ?_, pre ++ [UInt8.ofNat (last + 128)], m % 128, rfl, by omega, by omega, ?_⟩
        · dsimp only
          rw [hw]
          refine condT (dT (by omega)) (iteT (by rw [List.length_append, List.length_singleton]; omega) (bindS hg (iteT (by rw [List.length_append, List.length_singleton]; omega) (bindS hg (bindS hor ?_)))))
          rw [hset]
          refine bindS hnext (iteT (by simp only [List.length_append, List.length_singleton]; omega) ?_)
          rw [shr7, List.take_of_length_le (by simp only [List.length_append, List.length_singleton]; omega)]
          simp only [List.length_append, List.length_singleton]
        · rw [h5, List.append_assoc]
          congr 1
          by_cases hm2 : m < 128
          · rw [numF_lo hm2, if_pos (by omega), Nat.mod_eq_of_lt hm2]; rfl
          · rw [numF_hi hm2, if_neg (by omega)]; rfl
    · by_cases hm2 : N < 128
      · rw [numF_lo hm2, if_pos (by omega), Nat.mod_eq_of_lt hm2]; rfl
      · rw [numF_hi hm2, if_neg (by omega)]; rfl
  refine condF (dF h1) (condF (dF h2) (bindS hfirst ?_))
  rw [shr7]
  exact bindS key rfl
theorem refNumN_p (x : Int) : watershedref02_Number_n x = some (if goodB x = true then ((numF x.toNat, true, ()), ()) else (([], false, ()), ())) := by
  unfold watershedref02_Number_n
  refine bindS (refNum_p x) ?_
  split
  · exact iteT (Nat.le_refl _) (by dsimp only; rw [List.take_length])
  · exact iteT (Nat.le_refl _) rfl
theorem refRowN_p {t : List UInt8} (ht : t.length ≤ 100000) : watershedref02_Row_n t = some (rowF t, ()) := by
  have hg : goodB (t.length : Int) = true := goodB_iff.2 (by omega)
  have hlen := numF_len9 (n := t.length) (by omega)
  have hr : watershedref02_Row t = some ((rowF t).length, (rowF t, ())) := by
    unfold watershedref02_Row
    refine bindS (refNum_p _) ?_
    rw [if_pos hg, Int.toNat_natCast]
    refine iteT (by dsimp only; omega) ?_
    dsimp only
    rw [List.take_length]
    unfold rowF
    rw [List.length_append]
  unfold watershedref02_Row_n
  exact bindS hr (iteT (Nat.le_refl _) (by dsimp only; rw [List.take_length]))
def catN (xs : List Int) : List UInt8 := (xs.map fun x => numF x.toNat).flatten
theorem catN_snoc (xs : List Int) (x : Int) : catN (xs ++ [x]) = catN xs ++ numF x.toNat := by simp [catN]
theorem numsW_good : ∀ (xs : List Int) (sp : Bool) (b : List UInt8), xs.all goodB = true → numsW xs (sp, b) = (sp, b ++ catN xs)
  | [], sp, b, _ => by simp [numsW, catN]
  | x :: xs, sp, b, h => by
    rw [List.all_cons, Bool.and_eq_true] at h
    have : numsW (x :: xs) (sp, b) = numsW xs (numW x (sp, b)) := rfl
    rw [this]
    unfold numW
    rw [if_pos h.1, numsW_good xs _ _ h.2]
    simp [catN]
theorem numsW_bad1 : ∀ (xs : List Int) (b : List UInt8), (numsW xs (true, b)).1 = true
  | [], b => rfl
  | x :: xs, b => by
    have : numsW (x :: xs) (true, b) = numsW xs (numW x (true, b)) := rfl
    rw [this]
    unfold numW
    split
    · exact numsW_bad1 xs _
    · exact numsW_bad1 xs _
theorem numsW_bad : ∀ (xs : List Int) (sp : Bool) (b : List UInt8), xs.all goodB = false → (numsW xs (sp, b)).1 = true
  | [], sp, b, h => by cases h
  | x :: xs, sp, b, h => by
    have h0 : numsW (x :: xs) (sp, b) = numsW xs (numW x (sp, b)) := rfl
    rw [h0]
    unfold numW
    split
    · rename_i hg
      rw [List.all_cons, hg, Bool.true_and] at h
      exact numsW_bad xs _ _ h
    · exact numsW_bad1 xs _
theorem catN_len : ∀ xs : List Int, xs.all goodB = true → (catN xs).length ≤ 9 * xs.length
  | [], _ => by simp [catN]
  | x :: xs, h => by
    rw [List.all_cons, Bool.and_eq_true] at h
    have h1 := catN_len xs h.2
    have h2 := goodB_iff.1 h.1
    have h3 := numF_len9 (n := x.toNat) (by omega)
    have : catN (x :: xs) = numF x.toNat ++ catN xs := by simp [catN]
    rw [this, List.length_append, List.length_cons]; omega
theorem refWriteN_p {xs : List Int} (hx : xs.length ≤ 1000) : watershedref02_Write xs [] [] [] = some ((if xs.all goodB = true then (catN xs, 0, ()) else ([], 2, ())), ((), ())) := by
  have key : ∃ z, loopM watershedref02_Write_l1 ((xs, [], [], [], [], 0, ()), ((), ())) = some z ∧ ((xs.all goodB = true ∧ z = .inr (([], [], [], catN xs, ()), ((), (), ()))) ∨ (xs.all goodB = false ∧ z = .inl (((), 2, ()), ((), ())))) := by
    refine loopM_spec (fun m a => ∃ i : Nat, a = ((xs, [], [], [], catN (xs.take i), (i : Int), ()), ((), ())) ∧ i ≤ xs.length ∧ (xs.take i).all goodB = true ∧ m = xs.length - i) _ ?_ (n := xs.length) ⟨0, by simp [catN], Nat.zero_le _, rfl, rfl⟩
    rintro m a ⟨i, rfl, h1, h2, rfl⟩
    unfold watershedref02_Write_l1
    by_cases hi : i < xs.length
    · have hl := catN_len _ h2
      rw [List.length_take] at hl
      cases hg : goodB xs[i] with
      | true =>
        left
        have hgi := goodB_iff.1 hg
        have h9 := numF_len9 (n := xs[i].toNat) (by omega)
        have hn := refNumN_p xs[i]
        rw [if_pos hg] at hn
        refine ⟨xs.length - (i + 1), _, by omega, condT (dT (by dsimp only; omega)) (bindS (getI_lt hi) (bindS hn (condF rfl (iteT (by dsimp only; omega) rfl)))), i + 1, ?_, by omega, ?_, rfl⟩
        · dsimp only
          rw [w64 (by omega), List.take_succ_eq_append_getElem hi, catN_snoc]
          rfl
        · rw [List.take_succ_eq_append_getElem hi, List.all_append, h2]; simp [hg]
      | false =>
        right
        have hn := refNumN_p xs[i]
        rw [hg, if_neg Bool.false_ne_true] at hn
        have hbad : xs.all goodB = false := by
          cases hall : xs.all goodB with
          | false => rfl
          | true =>
            rw [List.all_eq_true.1 hall _ (List.getElem_mem hi)] at hg
            cases hg
        exact ⟨_, condT (dT (by dsimp only; omega)) (bindS (getI_lt hi) (bindS hn (condT rfl rfl))), .inr ⟨hbad, rfl⟩⟩
    · right
      obtain rfl : i = xs.length := by omega
      rw [List.take_length] at h2
      exact ⟨_, condF (dF (by dsimp only; omega)) rfl, .inl ⟨h2, by dsimp only; rw [List.take_length]⟩⟩
  obtain ⟨z, hz, ⟨h1, rfl⟩ | ⟨h1, rfl⟩⟩ := key
  · rw [if_pos h1]
    unfold watershedref02_Write
    refine bindS hz ?_
    refine bindS (v := (([], [], catN xs, ()), ((), (), ()))) (loopM_end (by unfold watershedref02_Write_l2; exact condF rfl rfl)) ?_
    refine bindS (v := (([], catN xs, ()), ((), (), ()))) (loopM_end (by unfold watershedref02_Write_l3; exact condF rfl rfl)) ?_
    exact bindS (v := ((catN xs, ()), ((), (), ()))) (loopM_end (by unfold watershedref02_Write_l4; exact condF rfl rfl)) rfl
  · rw [if_neg (by rw [h1]; exact Bool.false_ne_true)]
    unfold watershedref02_Write
    exact bindS hz rfl
theorem refWriteT_p {t u : List UInt8} (ht : t.length ≤ 20000) (hu : u.length ≤ 20000) : watershedref02_Write [] [] [t, u] [] = some ((rowF t ++ rowF u, 0, ()), ((), ())) := by
  have hlen := numF_len9 (n := t.length) (by omega)
  have hlen2 := numF_len9 (n := u.length) (by omega)
  have hrl : (rowF t).length ≤ 20009 := by unfold rowF; rw [List.length_append]; omega
  have hru : (rowF u).length ≤ 20009 := by unfold rowF; rw [List.length_append]; omega
  unfold watershedref02_Write
  refine bindS (v := .inr (([], [t, u], [], [], ()), ((), (), ()))) (loopM_end (by unfold watershedref02_Write_l1; exact condF rfl rfl)) ?_
  refine bindS (v := (([t, u], [], [], ()), ((), (), ()))) (loopM_end (by unfold watershedref02_Write_l2; exact condF rfl rfl)) ?_
  refine bindS (v := (([], rowF t ++ rowF u, ()), ((), (), ()))) ((loopM_next (a' := (([t, u], [], rowF t, 1, ()), ((), ()))) ?_).trans ((loopM_next (a' := (([t, u], [], rowF t ++ rowF u, 2, ()), ((), ()))) ?_).trans (loopM_end ?_))) ?_
  · unfold watershedref02_Write_l3
    exact condT rfl (bindS (v := t) rfl (iteT (by omega) (bindS (refRowN_p (by omega)) (iteT (by simp only [List.length_nil]; omega) rfl))))
  · unfold watershedref02_Write_l3
    exact condT rfl (bindS (v := u) rfl (iteT (by omega) (bindS (refRowN_p (by omega)) (iteT (by dsimp only; omega) rfl))))
  · unfold watershedref02_Write_l3
    exact condF rfl rfl
  · exact bindS (v := ((rowF t ++ rowF u, ()), ((), (), ()))) (loopM_end (by unfold watershedref02_Write_l4; exact condF rfl rfl)) rfl
end Go.Proofs.Ytlmmpfbdgiokmaa
/- The reader of wire, and the document's, plainly. -/
namespace Go.Proofs.Ytlmmpfbdgiokmaa
open Go.RowKit
set_option maxRecDepth 100000
set_option linter.unusedVariables false
set_option linter.unusedSimpArgs false
/-- Readers, by what is left; none: they failed. -/
def rdR : Option (List UInt8) → DReader
  | some l => ⟨⟨true, false, l⟩⟩
  | none => ⟨⟨true, true, []⟩⟩
def rfR : Option (List UInt8) → DReader2
  | some l => ⟨l, false⟩
  | none => ⟨[], true⟩
def numO (most : Nat) : Option (List UInt8) → Int × Option (List UInt8)
  | none => (0, none)
  | some l => match numR most l with
    | some p => ((p.1 : Int), some p.2)
    | none => (0, none)
theorem numO_no {most : Nat} {l : List UInt8} (h : getF 9 0 0 l = none) : numO most (some l) = (0, none) := by
  show (match (getF 9 0 0 l).bind (fun p => if most < p.1 then none else some p) with | some p => ((p.1 : Int), some p.2) | none => (0, none)) = _
  rw [h]; rfl
theorem numO_yes {most : Nat} {l : List UInt8} {p : Nat × List UInt8} (h : getF 9 0 0 l = some p) : numO most (some l) = if most < p.1 then (0, none) else ((p.1 : Int), some p.2) := by
  show (match (getF 9 0 0 l).bind (fun p => if most < p.1 then none else some p) with | some p => ((p.1 : Int), some p.2) | none => (0, none)) = _
  rw [h]
  show (match (if most < p.1 then none else some p) with | some p => ((p.1 : Int), some p.2) | none => (0, none)) = _
  by_cases h9 : most < p.1
  · rw [if_pos h9, if_pos h9]
  · rw [if_neg h9, if_neg h9]
theorem take1_p (b : UInt8) (l : List UInt8) : wire_take_2 1 (rdR (some (b :: l))) = some ([b], (rdR (some l), ())) := by
  unfold wire_take_2 rdR
  refine condF (dF (by dsimp only [List.length_cons]; omega)) (iteT (by dsimp only [List.length_cons]; omega) (iteT (by dsimp only [List.length_cons]; omega) ?_))
  have h : (((b :: l).length : Int)).toNat - (1 : Int).toNat = l.length := by rw [List.length_cons]; omega
  dsimp only
  rw [h]
  show some ([b], ((⟨⟨true, false, l.take l.length⟩⟩ : DReader), ())) = _
  rw [List.take_length]
theorem take0_p {n : Int} (hn : 0 < n) : wire_take_2 n (rdR (some [])) = some ([], (rdR none, ())) := by
  unfold wire_take_2 rdR
  exact condT (dT hn) rfl
theorem numLoop_p {most : Nat} (f : ((Unit) × (Int) × (Int) × (Int) × Unit) × ((DReader) × Unit) → Option ((((Unit) × (Int) × (Int) × (Int) × Unit) × ((DReader) × Unit)) ⊕ ((((Int) × Unit) × ((DReader) × Unit)) ⊕ (((Unit) × Unit) × ((DReader) × Unit))))) (hf : f = wire_Number_2_l1) (l : List UInt8) :
    ∃ z, loopM f (((), (most : Int), 0, 0, ()), (rdR (some l), ())) = some z ∧ (z = .inl (((numO most (some l)).1, ()), (rdR (numO most (some l)).2, ())) ∨ ((∃ l', z = .inr (((), ()), (rdR (some l'), ()))) ∧ numO most (some l) = (0, none))) := by
  subst hf
  refine loopM_spec (fun m a => ∃ (i acc : Nat) (r : List UInt8), a = (((), (most : Int), (acc : Int), ((7 * i : Nat) : Int), ()), (rdR (some r), ())) ∧ i ≤ 9 ∧ acc < 2 ^ (7 * i) ∧ m = 9 - i ∧ getF 9 0 0 l = getF (9 - i) i acc r) _ ?_ (n := 9) ⟨0, 0, l, rfl, by omega, by omega, rfl, rfl⟩
  rintro m a ⟨i, acc, r, rfl, h1, h2, rfl, h3⟩
  unfold wire_Number_2_l1
  have hno : getF (9 - i) i acc r = none → numO most (some l) = (0, none) := by
    intro h
    exact numO_no (by rw [h3, h])
  by_cases hi : i < 9
  · cases r with
    | nil =>
      right
      refine ⟨_, condT (dT (by dsimp only; omega)) (bindS (take0_p (by omega)) (condT rfl rfl)), .inl ?_⟩
      rw [hno (by rw [show 9 - i = (8 - i) + 1 by omega]; rfl)]
    | cons b r =>
      have hk : getF (9 - i) i acc (b :: r) = if b.toNat < 128 then (if (0 < i ∧ b.toNat = 0) ∨ top < acc + b.toNat % 128 * 2 ^ (7 * i) then none else some (acc + b.toNat % 128 * 2 ^ (7 * i), r)) else getF (8 - i) (i + 1) (acc + b.toNat % 128 * 2 ^ (7 * i)) r := by
        rw [show 9 - i = (8 - i) + 1 by omega]; rfl
      have hb := b.toNat_lt
      have hy := byte_in b acc i (by omega) h2 (((7 * i : Nat) : Int)) (by rw [Int.toNat_natCast])
      by_cases h5 : b.toNat < 128
      · right
        rw [if_pos h5] at hk
        by_cases h6 : 0 < i ∧ b.toNat = 0
        · rw [if_pos (.inl h6)] at hk
          refine ⟨_, condT (dT (by dsimp only; omega)) (bindS (take1_p b r) (condF rfl (bindS (v := b) rfl (iteF (by dsimp only; omega) (bindS (v := b) rfl (condT (dT (by omega)) (condT (dT (by dsimp only; omega)) (bindS (v := b) rfl (condT (dT (by omega)) (bindS rfl rfl)))))))))), .inl ?_⟩
          rw [hno hk]
          rfl
        · by_cases h7 : top < acc + b.toNat % 128 * 2 ^ (7 * i)
          · rw [if_pos (.inr h7)] at hk
            rw [hno hk]
            have h7' : (4611686018427387903 : Int) < ((acc + b.toNat % 128 * 2 ^ (7 * i) : Nat) : Int) := by unfold top at h7; omega
            refine ⟨.inl ((0, ()), (rdR none, ())), condT (dT (by dsimp only; omega)) (bindS (take1_p b r) (condF rfl (bindS (v := b) rfl (iteF (by dsimp only; omega) ?_)))), .inl rfl⟩
            dsimp only
            rw [hy]
            by_cases h8 : 0 < i
            · exact bindS (v := b) rfl (condT (dT (by omega)) (condT (dT (by omega)) (bindS (v := b) rfl (condF (dF (by omega)) (condT (dT h7') rfl)))))
            · exact bindS (v := b) rfl (condT (dT (by omega)) (condF (dF (by omega)) (condT (dT h7') rfl)))
          · rw [if_neg (by omega)] at hk
            have h7' : ¬ (4611686018427387903 : Int) < ((acc + b.toNat % 128 * 2 ^ (7 * i) : Nat) : Int) := by unfold top at h7; omega
            have hnum : numO most (some l) = if most < acc + b.toNat % 128 * 2 ^ (7 * i) then (0, none) else (((acc + b.toNat % 128 * 2 ^ (7 * i) : Nat) : Int), some r) := by
              exact numO_yes (by rw [h3, hk])
            rw [hnum]
            by_cases h9 : most < acc + b.toNat % 128 * 2 ^ (7 * i)
            · rw [if_pos h9]
              have h9' : ((most : Nat) : Int) < ((acc + b.toNat % 128 * 2 ^ (7 * i) : Nat) : Int) := by omega
              refine ⟨.inl ((0, ()), (rdR none, ())), condT (dT (by dsimp only; omega)) (bindS (take1_p b r) (condF rfl (bindS (v := b) rfl (iteF (by dsimp only; omega) ?_)))), .inl rfl⟩
              dsimp only
              rw [hy]
              by_cases h8 : 0 < i
              · exact bindS (v := b) rfl (condT (dT (by omega)) (condT (dT (by omega)) (bindS (v := b) rfl (condF (dF (by omega)) (condF (dF h7') (condT (dT h9') rfl))))))
              · exact bindS (v := b) rfl (condT (dT (by omega)) (condF (dF (by omega)) (condF (dF h7') (condT (dT h9') rfl))))
            · rw [if_neg h9]
              have h9' : ¬ ((most : Nat) : Int) < ((acc + b.toNat % 128 * 2 ^ (7 * i) : Nat) : Int) := by omega
              refine ⟨.inl ((((acc + b.toNat % 128 * 2 ^ (7 * i) : Nat) : Int), ()), (rdR (some r), ())), condT (dT (by dsimp only; omega)) (bindS (take1_p b r) (condF rfl (bindS (v := b) rfl (iteF (by dsimp only; omega) ?_)))), .inl rfl⟩
              dsimp only
              rw [hy]
              by_cases h8 : 0 < i
              · exact bindS (v := b) rfl (condT (dT (by omega)) (condT (dT (by omega)) (bindS (v := b) rfl (condF (dF (by omega)) (condF (dF h7') (condF (dF h9') rfl))))))
              · exact bindS (v := b) rfl (condT (dT (by omega)) (condF (dF (by omega)) (condF (dF h7') (condF (dF h9') rfl))))
      · left
        rw [if_neg h5] at hk
        refine ⟨9 - (i + 1), (((), (most : Int), ((acc + b.toNat % 128 * 2 ^ (7 * i) : Nat) : Int), ((7 * (i + 1) : Nat) : Int), ()), (rdR (some r), ())), by omega, condT (dT (by dsimp only; omega)) (bindS (take1_p b r) (condF rfl (bindS (v := b) rfl (iteF (by dsimp only; omega) ?_)))), i + 1, _, r, rfl, by omega, ?_, rfl, ?_⟩
        · dsimp only
          rw [hy, w64 (n := ((7 * i : Nat) : Int) + 7) (by omega)]
          exact bindS (v := b) rfl (condF (dF (by omega)) rfl)
        · have hm : b.toNat % 128 * 2 ^ (7 * i) ≤ 127 * 2 ^ (7 * i) := Nat.mul_le_mul_right _ (by omega)
          have hp : 2 ^ (7 * (i + 1)) = 128 * 2 ^ (7 * i) := by rw [Nat.mul_add, Nat.pow_add, Nat.mul_comm]
          omega
        · rw [h3, hk, show 8 - i = 9 - (i + 1) by omega]
  · right
    obtain rfl : i = 9 := by omega
    exact ⟨_, condF (dF (by dsimp only; omega)) rfl, .inr ⟨⟨r, rfl⟩, hno rfl⟩⟩
theorem Num2_p (most : Nat) (o : Option (List UInt8)) : wire_Number_2 (most : Int) (rdR o) = some ((numO most o).1, (rdR (numO most o).2, ())) := by
  unfold wire_Number_2
  cases o with
  | none => exact bindS (v := (false, (rdR none, ()))) rfl (condT rfl rfl)
  | some l =>
    refine bindS (v := (true, (rdR (some l), ()))) rfl (condF rfl ?_)
    obtain ⟨z, hz, rfl | ⟨⟨l', rfl⟩, h2⟩⟩ := numLoop_p (most := most) _ rfl l
    · exact bindS hz rfl
    · rw [h2]
      exact bindS hz rfl
theorem Num1_p (most : Nat) (l : List UInt8) : wire_Number (most : Int) (true, false, l, ()) = some ((numO most (some l)).1, (rdR (numO most (some l)).2, (), ())) := by
  unfold wire_Number
  refine bindS (v := (true, ((true, false, l, ()), (), (), ()))) rfl (condF rfl ?_)
  obtain ⟨z, hz, rfl | ⟨⟨l', rfl⟩, h2⟩⟩ := numLoop_p (most := most) wire_Number_l1 rfl l
  · exact bindS hz rfl
  · rw [h2]
    exact bindS hz rfl
/-- A row of bytes, read. -/
def rowO (most : Nat) (o : Option (List UInt8)) : List UInt8 × Option (List UInt8) := match (numO most o).2 with
  | none => ([], none)
  | some l => if (l.length : Int) < (numO most o).1 then ([], none) else (l.take (numO most o).1.toNat, some (l.drop (numO most o).1.toNat))
theorem numO_le {most : Nat} {o : Option (List UInt8)} {l : List UInt8} (h : (numO most o).2 = some l) : 0 ≤ (numO most o).1 ∧ (numO most o).1 ≤ most := by
  unfold numO at h ⊢
  cases o with
  | none => cases h
  | some x =>
    dsimp only at h ⊢
    cases hn : numR most x with
    | none => rw [hn] at h; cases h
    | some p =>
      unfold numR at hn
      obtain ⟨q, hq, hn⟩ := bind_some' hn
      split at hn
      · cases hn
      · injection hn with hn
        subst hn
        dsimp only
        omega
theorem take_p {n : Nat} {l : List UInt8} : wire_take_2 (n : Int) (rdR (some l)) = some (if l.length < n then ([], (rdR none, ())) else (l.take n, (rdR (some (l.drop n)), ()))) := by
  unfold wire_take_2 rdR
  by_cases h : l.length < n
  · rw [if_pos h]
    exact condT (dT (by dsimp only; omega)) rfl
  · rw [if_neg h]
    refine condF (dF (by dsimp only; omega)) (iteT (by dsimp only; omega) (iteT (by dsimp only; omega) ?_))
    have h1 : ((l.length : Int)).toNat - ((n : Int)).toNat = (l.drop n).length := by rw [List.length_drop]; omega
    dsimp only
    rw [h1, Int.toNat_natCast, List.take_length]
    rfl
theorem Row_p (most : Nat) (hm : most ≤ 1000000000) (o : Option (List UInt8)) : wire_Row (most : Int) (rdR o) = some ((rowO most o).1, (rdR (rowO most o).2, (), ())) := by
  unfold wire_Row
  refine bindS (Num2_p most o) ?_
  unfold rowO
  cases h : (numO most o).2 with
  | none => exact bindS (v := (false, (rdR none, ()))) rfl (condT rfl rfl)
  | some l =>
    obtain ⟨h1, h2⟩ := numO_le h
    obtain ⟨n, hn⟩ : ∃ n : Nat, (numO most o).1 = (n : Int) := ⟨(numO most o).1.toNat, by omega⟩
    refine bindS (v := (true, (rdR (some l), ()))) rfl (condF rfl (bindS (v := if l.length < n then ([], (rdR none, ())) else (l.take n, (rdR (some (l.drop n)), ()))) (by dsimp only; rw [hn]; exact take_p) ?_))
    dsimp only
    rw [hn, Int.toNat_natCast]
    by_cases hl : l.length < n
    · rw [if_pos hl, if_pos (by omega)]
      exact bindS (v := ([], ((), ()))) rfl rfl
    · rw [if_neg hl, if_neg (by omega)]
      have hlen : (l.take n).length ≤ n := by rw [List.length_take]; omega
      refine bindS (v := (l.take n, ((), ()))) (by unfold clone42; exact iteT (by dsimp only; omega) rfl) rfl
theorem Text_p (most : Nat) (hm : most ≤ 1000000000) (o : Option (List UInt8)) : wire_Text (most : Int) (rdR o) = some ((rowO most o).1, (rdR (rowO most o).2, ())) := by
  unfold wire_Text
  exact bindS (Row_p most hm o) rfl
/-- The document's. -/
theorem refGet_p {l : List UInt8} (hl : l.length ≤ 140737488355328) : watershedref02_Get l = some (match getF 9 0 0 l with | some p => (((p.1 : Int), ((l.length - p.2.length : Nat) : Int), ()), ()) | none => ((0, 0, ()), ())) := by
  have key : ∃ z, loopM watershedref02_Get_l1 ((l, 0, 0, ()), ()) = some z ∧ ((∃ p, getF 9 0 0 l = some p ∧ z = .inl (((p.1 : Int), ((l.length - p.2.length : Nat) : Int), ()), ())) ∨ (getF 9 0 0 l = none ∧ (z = .inl ((0, 0, ()), ()) ∨ z = .inr ((), ())))) := by
    refine loopM_spec (fun m a => ∃ i acc : Nat, a = ((l, (acc : Int), (i : Int), ()), ()) ∧ i ≤ 9 ∧ i ≤ l.length ∧ acc < 2 ^ (7 * i) ∧ m = 9 - i ∧ getF 9 0 0 l = getF (9 - i) i acc (l.drop i)) _ ?_ (n := 9) ⟨0, 0, rfl, by omega, by omega, by omega, rfl, rfl⟩
    rintro m a ⟨i, acc, rfl, h1, h1', h2, rfl, h3⟩
    unfold watershedref02_Get_l1
    by_cases hi : i < l.length
    · by_cases hi9 : i < 9
      · have hd : l.drop i = l[i] :: l.drop (i + 1) := List.drop_eq_getElem_cons hi
        have hk : getF (9 - i) i acc (l.drop i) = if (l[i]).toNat < 128 then (if (0 < i ∧ (l[i]).toNat = 0) ∨ top < acc + (l[i]).toNat % 128 * 2 ^ (7 * i) then none else some (acc + (l[i]).toNat % 128 * 2 ^ (7 * i), l.drop (i + 1))) else getF (8 - i) (i + 1) (acc + (l[i]).toNat % 128 * 2 ^ (7 * i)) (l.drop (i + 1)) := by
          rw [hd, show 9 - i = (8 - i) + 1 by omega]; rfl
        have hg : getI l (i : Int) = some l[i] := getI_lt hi
        generalize hb' : l[i] = b at hk hg
        have hb := b.toNat_lt
        have hsh : IntKind.u64.wrap (IntKind.i64.wrap (7 * (i : Int))) = ((7 * i : Nat) : Int) := by rw [w64 (by omega), IntKind.wrap_u64]; omega
        have hy := byte_in b acc i (by omega) h2 (((7 * i : Nat) : Int)) (by rw [Int.toNat_natCast])
        by_cases h5 : b.toNat < 128
        · right
          rw [if_pos h5] at hk
          by_cases h6 : 0 < i ∧ b.toNat = 0
          · rw [if_pos (.inl h6)] at hk
            refine ⟨.inl ((0, 0, ()), ()), condT (dT (by dsimp only; omega)) (condT (dT (by dsimp only; omega)) (bindS hg (iteF (by dsimp only; rw [hsh]; omega) ?_))), .inr ⟨by rw [h3, hk], .inl rfl⟩⟩
            exact bindS hg (condT (dT (by omega)) (condT (dT (by dsimp only; omega)) (bindS hg (condT (dT (by omega)) rfl))))
          · by_cases h7 : top < acc + b.toNat % 128 * 2 ^ (7 * i)
            · rw [if_pos (.inr h7)] at hk
              have h7' : (4611686018427387903 : Int) < ((acc + b.toNat % 128 * 2 ^ (7 * i) : Nat) : Int) := by unfold top at h7; omega
              refine ⟨.inl ((0, 0, ()), ()), condT (dT (by dsimp only; omega)) (condT (dT (by dsimp only; omega)) (bindS hg (iteF (by dsimp only; rw [hsh]; omega) ?_))), .inr ⟨by rw [h3, hk], .inl rfl⟩⟩
              dsimp only
              rw [hsh, hy]
              by_cases h8 : 0 < i
              · exact bindS hg (condT (dT (by omega)) (condT (dT (by omega)) (bindS hg (condF (dF (by omega)) (condT (dT h7') rfl)))))
              · exact bindS hg (condT (dT (by omega)) (condF (dF (by omega)) (condT (dT h7') rfl)))
            · rw [if_neg (by omega)] at hk
              have h7' : ¬ (4611686018427387903 : Int) < ((acc + b.toNat % 128 * 2 ^ (7 * i) : Nat) : Int) := by unfold top at h7; omega
              have hlen : l.length - (l.drop (i + 1)).length = i + 1 := by rw [List.length_drop]; omega
              refine ⟨.inl ((((acc + b.toNat % 128 * 2 ^ (7 * i) : Nat) : Int), ((i + 1 : Nat) : Int), ()), ()), condT (dT (by dsimp only; omega)) (condT (dT (by dsimp only; omega)) (bindS hg (iteF (by dsimp only; rw [hsh]; omega) ?_))), .inl ⟨_, by rw [h3, hk], by rw [hlen]⟩⟩
              dsimp only
              rw [hsh, hy, w64 (n := (i : Int) + 1) (by omega)]
              by_cases h8 : 0 < i
              · exact bindS hg (condT (dT (by omega)) (condT (dT (by omega)) (bindS hg (condF (dF (by omega)) (condF (dF h7') (condF (dF (by omega)) rfl))))))
              · exact bindS hg (condT (dT (by omega)) (condF (dF (by omega)) (condF (dF h7') (condF (dF (by omega)) rfl))))
        · left
          rw [if_neg h5] at hk
          refine ⟨9 - (i + 1), ((l, ((acc + b.toNat % 128 * 2 ^ (7 * i) : Nat) : Int), ((i + 1 : Nat) : Int), ()), ()), by omega, condT (dT (by dsimp only; omega)) (condT (dT (by dsimp only; omega)) (bindS hg (iteF (by dsimp only; rw [hsh]; omega) ?_))), i + 1, _, rfl, by omega, by omega, ?_, rfl, ?_⟩
          · dsimp only
            rw [hsh, hy, w64 (n := (i : Int) + 1) (by omega)]
            exact bindS hg (condF (dF (by omega)) rfl)
          · have hm : b.toNat % 128 * 2 ^ (7 * i) ≤ 127 * 2 ^ (7 * i) := Nat.mul_le_mul_right _ (by omega)
            have hp : 2 ^ (7 * (i + 1)) = 128 * 2 ^ (7 * i) := by rw [Nat.mul_add, Nat.pow_add, Nat.mul_comm]
            omega
          · rw [h3, hk, show 8 - i = 9 - (i + 1) by omega]
      · right
        obtain rfl : i = 9 := by omega
        exact ⟨_, condT (dT (by dsimp only; omega)) (condF (dF (by dsimp only; omega)) rfl), .inr ⟨h3, .inr rfl⟩⟩
    · right
      obtain rfl : i = l.length := by omega
      refine ⟨_, condF (dF (by dsimp only; omega)) rfl, .inr ⟨?_, .inr rfl⟩⟩
      rw [h3, List.drop_length]
      cases hc : 9 - l.length with
      | zero => rfl
      | succ k => rfl
  unfold watershedref02_Get
  obtain ⟨z, hz, ⟨p, h1, rfl⟩ | ⟨h1, h2⟩⟩ := key
  · rw [h1]
    exact bindS hz rfl
  · rw [h1]
    rcases h2 with rfl | rfl
    · exact bindS hz rfl
    · exact bindS hz rfl
def okL : Option (List UInt8) → Prop
  | some l => l.length ≤ 140737488355328
  | none => True
theorem numO_ok {most : Nat} {o : Option (List UInt8)} (h : okL o) : okL (numO most o).2 := by
  unfold numO
  cases o with
  | none => trivial
  | some l =>
    dsimp only
    cases hn : numR most l with
    | none => trivial
    | some p =>
      unfold numR at hn
      obtain ⟨q, hq, hn⟩ := bind_some' hn
      split at hn
      · cases hn
      · injection hn with hn
        subst hn
        have := (getF_len _ _ _ _ hq).2.1
        show q.2.length ≤ _
        have h : l.length ≤ 140737488355328 := h
        omega
theorem rowO_ok {most : Nat} {o : Option (List UInt8)} (h : okL o) : okL (rowO most o).2 := by
  have h1 := numO_ok (most := most) h
  unfold rowO
  cases hn : (numO most o).2 with
  | none => trivial
  | some l =>
    rw [hn] at h1
    dsimp only
    split
    · trivial
    · show (List.drop _ l).length ≤ _
      have h1 : l.length ≤ 140737488355328 := h1
      rw [List.length_drop]; omega
theorem refNum2_p (most : Nat) {o : Option (List UInt8)} (h : okL o) : watershedref02_Number_2 (most : Int) (rfR o) = some ((numO most o).1, (rfR (numO most o).2, ())) := by
  unfold watershedref02_Number_2
  cases o with
  | none => exact condT rfl rfl
  | some l =>
    have hget := refGet_p h
    cases hg : getF 9 0 0 l with
    | none =>
      rw [hg] at hget
      rw [numO_no hg]
      exact condF rfl (bindS hget (condT rfl rfl))
    | some p =>
      rw [hg] at hget
      obtain ⟨h1, h2, m, h3, h4⟩ := getF_len _ _ _ _ hg
      have hlen : l.length - p.2.length = m := by rw [h3, List.length_drop]; omega
      have hm : 0 < m := by omega
      dsimp only at hget
      rw [hlen] at hget
      rw [numO_yes hg]
      refine condF rfl (bindS hget (condF (dF (by dsimp only; omega)) ?_))
      by_cases hq : most < p.1
      · rw [if_pos hq]
        exact condT (dT (by dsimp only; omega)) rfl
      · rw [if_neg hq]
        refine condF (dF (by dsimp only; omega)) ?_
        refine iteT (by show 0 ≤ (m : Int) ∧ (m : Int) ≤ (l.length : Int) ∧ _; exact ⟨by omega, by omega, Int.le_refl _⟩) ?_
        have hd : (l.length : Int).toNat - ((m : Int)).toNat = p.2.length := by omega
        show some ((p.1 : Int), ((⟨(l.drop ((m : Int)).toNat).take ((l.length : Int).toNat - ((m : Int)).toNat), false⟩ : DReader2), ())) = _
        rw [hd, Int.toNat_natCast, ← h3, List.take_length]
        rfl
theorem refRow2_p (most : Nat) (hm : most ≤ 1000000000) {o : Option (List UInt8)} (h : okL o) : watershedref02_Row_2 (most : Int) (rfR o) = some ((rowO most o).1, (rfR (rowO most o).2, (), ())) := by
  unfold watershedref02_Row_2
  refine bindS (refNum2_p most h) ?_
  have hok := numO_ok (most := most) h
  unfold rowO
  cases hn : (numO most o).2 with
  | none => exact condT rfl rfl
  | some l =>
    rw [hn] at hok
    have hok : l.length ≤ 140737488355328 := hok
    obtain ⟨h1, h2⟩ := numO_le hn
    refine condF rfl ?_
    dsimp only
    obtain ⟨n, hnn⟩ : ∃ n : Nat, (numO most o).1 = (n : Int) := ⟨(numO most o).1.toNat, by omega⟩
    rw [hnn]
    by_cases hl : (l.length : Int) < (n : Int)
    · rw [if_pos hl]
      exact condT (dT hl) rfl
    · rw [if_neg hl]
      have hlen : (List.take ((n : Int).toNat - (0 : Int).toNat) (List.drop (0 : Int).toNat l)).length ≤ n := by rw [List.length_take]; omega
      have hd : (l.length : Int).toNat - ((n : Int)).toNat = (l.drop n).length := by rw [List.length_drop]; omega
      refine condF (dF hl) (iteT (by show 0 ≤ (0 : Int) ∧ (0 : Int) ≤ (n : Int) ∧ (n : Int) ≤ (l.length : Int); omega) (iteT (by dsimp only [rfR, List.length_nil]; omega) (iteT (by show 0 ≤ (n : Int) ∧ (n : Int) ≤ (l.length : Int) ∧ _; exact ⟨by omega, by omega, Int.le_refl _⟩) ?_)))
      show some (([] : List UInt8) ++ (List.take ((n : Int).toNat - (0 : Int).toNat) (List.drop (0 : Int).toNat l)), ((⟨(l.drop ((n : Int)).toNat).take ((l.length : Int).toNat - ((n : Int)).toNat), false⟩ : DReader2), (), ())) = _
      rw [hd, Int.toNat_natCast, List.take_length]
      rfl
end Go.Proofs.Ytlmmpfbdgiokmaa
