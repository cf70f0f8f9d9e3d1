/- XSdw, XWd1, XBk1, XPn1, XVw1, XAw1, XGa in one. -/
import Derived.Test.YtaihdjknneiciaaGreatPl
import Derived.Test.YtaihdjknneiciaaGreatTb
import Derived.Laws.BitsAllLaws
import Derived.Test.YtaihdjknneiciaaGreatG1
import Derived.Test.YtaihdjknneiciaaGreatMs
import Derived.Test.YtaihdjknneiciaaGreatG2
/- Numbers as bytes, and out of bytes, plainly. -/
namespace Go.Proofs.YtaihdjknneiciaaGreat
open Go.RowKit
set_option maxRecDepth 100000
set_option linter.unusedVariables false
set_option linter.unusedSimpArgs false
theorem b8_q {n : Int} (h : 0 ≤ n ∧ n < 256) : b8 n = some (UInt8.ofNat n.toNat) := by
  unfold b8 g8
  dsimp only
  rw [if_pos h]
  rfl
/-- A number, seven bits a byte. -/
def numF (n : Nat) : List UInt8 := if h : n < 128 then [UInt8.ofNat n] else UInt8.ofNat (n % 128 + 128) :: numF (n / 128)
termination_by n
decreasing_by omega
theorem numF_lo {n : Nat} (h : n < 128) : numF n = [UInt8.ofNat n] := by rw [numF, dif_pos h]
theorem numF_hi {n : Nat} (h : ¬ n < 128) : numF n = UInt8.ofNat (n % 128 + 128) :: numF (n / 128) := by rw [numF, dif_neg h]
theorem numF_len (k : Nat) : ∀ n, n < 128 ^ (k + 1) → (numF n).length ≤ k + 1 := by
  induction k with
  | zero => intro n h; rw [numF_lo (by simpa using h)]; simp
  | succ k ih =>
    intro n h
    by_cases h1 : n < 128
    · rw [numF_lo h1]; simp
    · rw [numF_hi h1, List.length_cons]
      have := ih (n / 128) (by rw [Nat.pow_succ] at h; omega)
      omega
theorem numF_len9 {n : Nat} (h : n ≤ 4611686018427387903) : (numF n).length ≤ 9 := numF_len 8 n (by omega)
theorem numF_pos (n : Nat) : 1 ≤ (numF n).length := by
  by_cases h : n < 128
  · rw [numF_lo h]; simp
  · rw [numF_hi h]; simp
theorem or128 (m : Nat) (h : m < 128) : m ||| 128 = m + 128 := by
  have := Nat.two_pow_add_eq_or_of_lt (i := 7) (b := m) (by omega) 1
  rw [Nat.or_comm]
  simpa [Nat.add_comm] using this.symm
theorem bv_ofInt (w n : Nat) : BitVec.ofInt w (n : Int) = BitVec.ofNat w n := by
  apply BitVec.eq_of_toNat_eq
  simp
/-- A byte with its highest bit set. -/
theorem byte_or (n : Nat) : b8 (IntKind.u8.wrap ((BitVec.ofInt (IntKind.u8.bits) (IntKind.u8.wrap (n : Int)) ||| BitVec.ofInt (IntKind.u8.bits) 128).toNat)) = some (UInt8.ofNat (n % 128 + 128)) := by
  have hb : IntKind.u8.bits = 8 := rfl
  have hw : IntKind.u8.wrap (n : Int) = ((n % 256 : Nat) : Int) := by rw [IntKind.wrap_u8]; omega
  have h8 : (BitVec.ofNat 8 (n % 256) ||| BitVec.ofNat 8 128).toNat = n % 128 + 128 := by
    rw [BitVec.toNat_or, BitVec.toNat_ofNat, BitVec.toNat_ofNat]
    have hs : n % 256 % 2 ^ 8 = n % 128 ∨ n % 256 % 2 ^ 8 = n % 128 + 128 := by omega
    rw [show 128 % 2 ^ 8 = 128 from rfl]
    rcases hs with hs | hs
    · rw [hs, or128 _ (by omega)]
    · rw [hs, ← or128 _ (show n % 128 < 128 by omega), Nat.or_assoc, Nat.or_self]
  rw [hb, hw, bv_ofInt, show (128 : Int) = ((128 : Nat) : Int) from rfl, bv_ofInt, h8, IntKind.wrap_u8, b8_q (by omega)]
  congr 2
  omega
theorem byte_lo (n : Nat) : b8 (IntKind.u8.wrap (n : Int)) = some (UInt8.ofNat n) := by
  rw [IntKind.wrap_u8, b8_q (by omega)]
  congr 1
  apply UInt8.toNat_inj.1
  rw [UInt8.toNat_ofNat', UInt8.toNat_ofNat']
  omega
theorem shr7 (n : Nat) : (n : Int).fdiv (2 ^ min (7 : Int).toNat (IntKind.i64.bits)) = ((n / 128 : Nat) : Int) := by
  rw [show (2 : Int) ^ min (7 : Int).toNat (IntKind.i64.bits) = 128 from rfl, Int.fdiv_eq_ediv_of_nonneg _ (by omega)]
  rfl
theorem and127 (n : Nat) (h : n ≤ 4611686018427387903) : IntKind.i64.wrap ((BitVec.ofInt (IntKind.i64.bits) (n : Int) &&& BitVec.ofInt (IntKind.i64.bits) 127).toNat) = ((n % 128 : Nat) : Int) := by
  have hb : IntKind.i64.bits = 64 := rfl
  have h8 : (BitVec.ofNat 64 n &&& BitVec.ofNat 64 127).toNat = n % 128 := by
    rw [BitVec.toNat_and, BitVec.toNat_ofNat, BitVec.toNat_ofNat, Nat.mod_eq_of_lt (show n < 2 ^ 64 by omega), show 127 % 2 ^ 64 = 2 ^ 7 - 1 from rfl, Nat.and_two_pow_sub_one_eq_mod]
  rw [hb, bv_ofInt, show (127 : Int) = ((127 : Nat) : Int) from rfl, bv_ofInt, h8, w64 (by omega)]
/-- A byte's seven bits, at their place. -/
theorem byte_in (b : UInt8) (acc i : Nat) (hi : i ≤ 8) (ha : acc < 2 ^ (7 * i)) (s : Int) (hs : s.toNat = 7 * i) :
    (IntKind.i64.wrap ((BitVec.ofInt (IntKind.i64.bits) (acc : Int) ||| BitVec.ofInt (IntKind.i64.bits) (IntKind.i64.wrap ((IntKind.i64.wrap (IntKind.u8.wrap ((BitVec.ofInt (IntKind.u8.bits) (b.toNat : Int) &&& BitVec.ofInt (IntKind.u8.bits) 127).toNat))) * 2 ^ min s.toNat (IntKind.i64.bits)))).toNat)) = ((acc + b.toNat % 128 * 2 ^ (7 * i) : Nat) : Int) := by
  have hb : IntKind.i64.bits = 64 := rfl
  have hb8 : IntKind.u8.bits = 8 := rfl
  have hbl := b.toNat_lt
  have h8 : (BitVec.ofNat 8 b.toNat &&& BitVec.ofNat 8 127).toNat = b.toNat % 128 := by
    rw [BitVec.toNat_and, BitVec.toNat_ofNat, BitVec.toNat_ofNat, Nat.mod_eq_of_lt hbl, show 127 % 2 ^ 8 = 2 ^ 7 - 1 from rfl, Nat.and_two_pow_sub_one_eq_mod]
  have hp : (2 : Nat) ^ (7 * i) ≤ 2 ^ 56 := Nat.pow_le_pow_right (by omega) (by omega)
  have hm : b.toNat % 128 * 2 ^ (7 * i) ≤ 127 * 2 ^ 56 := Nat.mul_le_mul (by omega) hp
  have hmul : ((b.toNat % 128 : Nat) : Int) * 2 ^ (7 * i) = ((b.toNat % 128 * 2 ^ (7 * i) : Nat) : Int) := by simp
  rw [hb, hb8, bv_ofInt 8, show (127 : Int) = ((127 : Nat) : Int) from rfl, bv_ofInt 8, h8, IntWalk.u8_in _ (by omega), w64 (n := ((b.toNat % 128 : Nat) : Int)) (by omega), hs, Nat.min_eq_left (by omega), hmul]
  generalize hq : b.toNat % 128 * 2 ^ (7 * i) = q at hm
  rw [w64 (n := (q : Int)) (by omega), bv_ofInt, bv_ofInt, BitVec.toNat_or, BitVec.toNat_ofNat, BitVec.toNat_ofNat, Nat.mod_eq_of_lt (show acc < 2 ^ 64 by omega), Nat.mod_eq_of_lt (show q < 2 ^ 64 by omega)]
  have hor : acc ||| q = acc + q := by
    rw [← hq, Nat.mul_comm, Nat.or_comm, Nat.add_comm]
    exact (Nat.two_pow_add_eq_or_of_lt ha _).symm
  rw [hor, w64 (by omega)]
def top : Nat := 4611686018427387903
/-- A number, out of bytes: it, and what is left. -/
def getF : Nat → Nat → Nat → List UInt8 → Option (Nat × List UInt8)
  | 0, _, _, _ => none
  | k + 1, i, acc, l => match l with
    | [] => none
    | b :: l => if b.toNat < 128 then (if (0 < i ∧ b.toNat = 0) ∨ top < acc + b.toNat % 128 * 2 ^ (7 * i) then none else some (acc + b.toNat % 128 * 2 ^ (7 * i), l)) else getF k (i + 1) (acc + b.toNat % 128 * 2 ^ (7 * i)) l
def numR (most : Nat) (l : List UInt8) : Option (Nat × List UInt8) := (getF 9 0 0 l).bind fun p => if most < p.1 then none else some p
theorem getF_len : ∀ (k i acc : Nat) (l : List UInt8) {n : Nat} {r : List UInt8}, getF k i acc l = some (n, r) → n ≤ top ∧ r.length + 1 ≤ l.length ∧ ∃ m, r = l.drop m ∧ m ≤ l.length
  | 0, _, _, _, _, _, h => by cases h
  | k + 1, i, acc, [], _, _, h => by cases h
  | k + 1, i, acc, b :: l, n, r, h => by
    unfold getF at h
    dsimp only at h
    split at h
    · split at h
      · cases h
      · rename_i h2
        injection h with h
        injection h with h3 h4
        subst h3 h4
        exact ⟨by omega, by simp, 1, rfl, by simp⟩
    · obtain ⟨g1, g2, m, g3, g4⟩ := getF_len k _ _ l h
      exact ⟨g1, by rw [List.length_cons]; omega, m + 1, g3, by rw [List.length_cons]; omega⟩
end Go.Proofs.YtaihdjknneiciaaGreat
/- The writer and the reader of wire, and the document's, plainly. -/
namespace Go.Proofs.YtaihdjknneiciaaGreat
open Go.RowKit
set_option maxRecDepth 100000
set_option linter.unusedVariables false
set_option linter.unusedSimpArgs false
def goodB (x : Int) : Bool := decide (0 ≤ x) && decide (x ≤ 4611686018427387903)
theorem goodB_iff {x : Int} : goodB x = true ↔ 0 ≤ x ∧ x ≤ 4611686018427387903 := by simp [goodB]
theorem put_p {x b : List UInt8} {sp : Bool} (h : b.length + x.length ≤ 10000000) : wire_put x (true, sp, b, ()) = some ((), ((true, sp, b ++ x, ()), (), (), ())) := by
  unfold wire_put
  exact condT rfl (iteT (by dsimp only; omega) rfl)
theorem numberLoop_p {sp : Bool} {N : Nat} (hN : N ≤ 4611686018427387903) {b : List UInt8} (hb : b.length + (numF N).length ≤ 10000000) :
    ∃ (n : Nat) (b' : List UInt8), n < 128 ∧ b' ++ numF n = b ++ numF N ∧ loopM wire_number_l1 (((), (N : Int), ()), ((true, sp, b, ()), (), ())) = some (((), (n : Int), ()), ((true, sp, b', ()), (), (), ())) := by
  have key : ∃ z, loopM wire_number_l1 (((), (N : Int), ()), ((true, sp, b, ()), (), ())) = some z ∧ ∃ (n : Nat) (b' : List UInt8), n < 128 ∧ b' ++ numF n = b ++ numF N ∧ z = (((), (n : Int), ()), ((true, sp, b', ()), (), (), ())) := by
    refine loopM_spec (fun m a => ∃ b' : List UInt8, a = (((), (m : Int), ()), ((true, sp, b', ()), (), ())) ∧ b' ++ numF m = b ++ numF N ∧ m ≤ 4611686018427387903) _ ?_ (n := N) ⟨b, rfl, rfl, hN⟩
    rintro m a ⟨b', rfl, h1, h2⟩
    unfold wire_number_l1
    by_cases hm : m < 128
    · right
      exact ⟨_, condF (dF (by dsimp only; omega)) rfl, m, b', hm, h1, rfl⟩
    · left
      have hl := congrArg List.length h1
      rw [numF_hi hm, List.length_append, List.length_append, List.length_cons] at hl
      refine ⟨m / 128, _, by omega, condT (dT (by dsimp only; omega)) (bindS (byte_or m) (bindS (put_p (by simp only [List.length_singleton]; omega)) rfl)), b' ++ [UInt8.ofNat (m % 128 + 128)], ?_, ?_, by omega⟩
      · dsimp only
        rw [shr7]
      · rw [List.append_assoc, ← h1, numF_hi hm]; rfl
  obtain ⟨z, hz, n, b', h1, h2, rfl⟩ := key
  exact ⟨n, b', h1, h2, hz⟩
/-- A number, written. -/
def numW (x : Int) (w : Bool × List UInt8) : Bool × List UInt8 := if goodB x = true then (w.1, w.2 ++ numF x.toNat) else (true, w.2)
theorem number_p {x : Int} {sp : Bool} {b : List UInt8} (hb : b.length ≤ 1000000) : wire_number x (true, sp, b, ()) = some ((), ((true, (numW x (sp, b)).1, (numW x (sp, b)).2, ()), (), (), ())) := by
  unfold wire_number numW
  by_cases h1 : x < 0
  · rw [if_neg (by rw [goodB_iff]; omega)]
    exact condT (dT h1) rfl
  by_cases h2 : 4611686018427387903 < x
  · rw [if_neg (by rw [goodB_iff]; omega)]
    exact condF (dF h1) (condT (dT h2) rfl)
  rw [if_pos (goodB_iff.2 (by omega))]
  obtain ⟨N, rfl⟩ : ∃ N : Nat, x = (N : Int) := ⟨x.toNat, by omega⟩
  have hlen := numF_len9 (n := N) (by omega)
  obtain ⟨n, b', g1, g2, g3⟩ := numberLoop_p (sp := sp) (N := N) (by omega) (b := b) (by omega)
  have hl := congrArg List.length g2
  rw [List.length_append, List.length_append] at hl
  have hp := numF_pos n
  refine condF (dF h1) (condF (dF h2) (bindS g3 (bindS (byte_lo n) (bindS (put_p (by simp only [List.length_singleton]; omega)) ?_))))
  rw [numF_lo g1] at g2
  dsimp only
  rw [g2, Int.toNat_natCast]
def numsW (xs : List Int) (w : Bool × List UInt8) : Bool × List UInt8 := xs.foldl (fun w x => numW x w) w
theorem numsW_snoc (xs : List Int) (x : Int) (w : Bool × List UInt8) : numsW (xs ++ [x]) w = numW x (numsW xs w) := by simp [numsW]
theorem numW_len (x : Int) (w : Bool × List UInt8) : (numW x w).2.length ≤ w.2.length + 9 := by
  unfold numW
  split
  · rename_i h
    have := goodB_iff.1 h
    have := numF_len9 (n := x.toNat) (by omega)
    rw [List.length_append]; omega
  · exact Nat.le_add_right _ _
theorem numsW_len : ∀ (xs : List Int) (w : Bool × List UInt8), (numsW xs w).2.length ≤ w.2.length + 9 * xs.length
  | [], w => by simp [numsW]
  | x :: xs, w => by
    have h1 := numsW_len xs (numW x w)
    have h2 := numW_len x w
    have : numsW (x :: xs) w = numsW xs (numW x w) := rfl
    rw [this, List.length_cons]; omega
theorem Numbers_p {xs : List Int} {sp : Bool} {b : List UInt8} (hx : xs.length ≤ 1000) (hb : b.length ≤ 100000) : wire_Numbers xs (true, sp, b, ()) = some ((), ((true, (numsW xs (sp, b)).1, (numsW xs (sp, b)).2, ()), (), (), ())) := by
  have hrun := loopM_run (step := wire_Numbers_l1) (fun i : Nat => (((), xs, (xs.length : Int), (i : Int), ()), ((true, (numsW (xs.take i) (sp, b)).1, (numsW (xs.take i) (sp, b)).2, ()), (), ()))) (N := xs.length) (b := (((), ()), ((true, (numsW xs (sp, b)).1, (numsW xs (sp, b)).2, ()), (), (), ()))) (fun i hi => ?_) ?_
  · unfold wire_Numbers
    exact bindS rfl (condT rfl (bindS hrun rfl))
  · have hl := numsW_len (xs.take i) (sp, b)
    rw [List.length_take] at hl
    dsimp only at hl
    unfold wire_Numbers_l1
    refine condT (dT (by dsimp only; omega)) (bindS (getI_lt hi) (bindS (number_p (by dsimp only; omega)) ?_))
    dsimp only
    rw [w64 (by omega), List.take_succ_eq_append_getElem hi, numsW_snoc]
    rfl
  · unfold wire_Numbers_l1
    refine condF (dF (by dsimp only; omega)) ?_
    dsimp only
    rw [List.take_length]
theorem Numbers2_p {xs : List Int} {sp : Bool} {b : List UInt8} (hx : xs.length ≤ 1000) (hb : b.length ≤ 100000) : wire_Numbers_2 (0, xs.length, xs.length) (true, sp, b, ()) xs = some ((), ((true, (numsW xs (sp, b)).1, (numsW xs (sp, b)).2, ()), xs, (), (), ())) := by
  have hrun := loopM_run (step := wire_Numbers_2_l1) (fun i : Nat => (((), (0, xs.length, xs.length), (xs.length : Int), (i : Int), ()), ((true, (numsW (xs.take i) (sp, b)).1, (numsW (xs.take i) (sp, b)).2, ()), xs, (), ()))) (N := xs.length) (b := (((), ()), ((true, (numsW xs (sp, b)).1, (numsW xs (sp, b)).2, ()), xs, (), (), ()))) (fun i hi => ?_) ?_
  · unfold wire_Numbers_2
    exact bindS rfl (condT rfl (bindS hrun rfl))
  · have hl := numsW_len (xs.take i) (sp, b)
    rw [List.length_take] at hl
    dsimp only at hl
    have hg : xs[0 + ((i : Int)).toNat]? = some xs[i] := by rw [Nat.zero_add, Int.toNat_natCast, List.getElem?_eq_getElem hi]
    unfold wire_Numbers_2_l1
    refine condT (dT (by dsimp only; omega)) (iteT (by dsimp only; omega) (bindS hg (bindS (number_p (by dsimp only; omega)) ?_)))
    dsimp only
    rw [w64 (by omega), List.take_succ_eq_append_getElem hi, numsW_snoc]
    rfl
  · unfold wire_Numbers_2_l1
    refine condF (dF (by dsimp only; omega)) ?_
    dsimp only
    rw [List.take_length]
def rowF (t : List UInt8) : List UInt8 := numF t.length ++ t
theorem Rows1_p {t : List UInt8} {sp : Bool} {b : List UInt8} (ht : t.length ≤ 100000) (hb : b.length ≤ 1000000) : wire_Rows [t] (true, sp, b, ()) = some ((), ((true, sp, b ++ rowF t, ()), (), (), ())) := by
  have hg : goodB (t.length : Int) = true := goodB_iff.2 (by omega)
  have hlen := numF_len9 (n := t.length) (by omega)
  have hnum : wire_number (t.length : Int) (true, sp, b, ()) = some ((), ((true, sp, b ++ numF t.length, ()), (), (), ())) := by
    rw [number_p hb]
    unfold numW
    rw [if_pos hg, Int.toNat_natCast]
  unfold wire_Rows
  refine bindS rfl (condT rfl (bindS (v := (((), ()), ((true, sp, b ++ rowF t, ()), (), (), ()))) ((loopM_next (a' := (((), [t], 1, 1, ()), ((true, sp, b ++ rowF t, ()), (), ()))) ?_).trans (loopM_end ?_)) rfl))
  · unfold wire_Rows_l1
    refine condT rfl (bindS (v := t) rfl (bindS hnum (bindS (put_p (by simp only [List.length_append]; omega)) ?_)))
    dsimp only
    rw [List.append_assoc]
    rfl
  · unfold wire_Rows_l1
    exact condF rfl rfl
theorem Texts2_p {t u : List UInt8} {sp : Bool} {b : List UInt8} (ht : t.length ≤ 20000) (hu : u.length ≤ 20000) (hb : b.length ≤ 90000) : wire_Texts [t, u] (true, sp, b, ()) = some ((), ((true, sp, b ++ rowF t ++ rowF u, ()), (), (), ())) := by
  have hlen := numF_len9 (n := t.length) (by omega)
  have hrl : (rowF t).length ≤ 20009 := by unfold rowF; rw [List.length_append]; omega
  unfold wire_Texts
  refine bindS rfl (condT rfl (bindS (v := (((), ()), ((true, sp, b ++ rowF t ++ rowF u, ()), (), (), ()))) ((loopM_next (a' := (((), [t, u], 2, 1, ()), ((true, sp, b ++ rowF t, ()), (), ()))) ?_).trans ((loopM_next (a' := (((), [t, u], 2, 2, ()), ((true, sp, b ++ rowF t ++ rowF u, ()), (), ()))) ?_).trans (loopM_end ?_))) rfl))
  · unfold wire_Texts_l1
    exact condT rfl (bindS (v := t) rfl (iteT (by omega) (bindS (Rows1_p (by omega) (by dsimp only; omega)) rfl)))
  · unfold wire_Texts_l1
    exact condT rfl (bindS (v := u) rfl (iteT (by omega) (bindS (Rows1_p (by omega) (by dsimp only; rw [List.length_append]; omega)) rfl)))
  · unfold wire_Texts_l1
    exact condF rfl rfl
theorem TextsA_p {t u : List UInt8} {sp : Bool} {b : List UInt8} (ht : t.length ≤ 1000) (hu : u.length ≤ 1000) (hb : b.length ≤ 10000) : wire_Texts_2 (0, 2, 2) (true, sp, b, ()) [t, u] = some ((), ((true, sp, b ++ rowF t ++ rowF u, ()), [t, u], (), (), ())) := by
  have hlen := numF_len9 (n := t.length) (by omega)
  have hrl : (rowF t).length ≤ 1009 := by unfold rowF; rw [List.length_append]; omega
  unfold wire_Texts_2
  refine bindS rfl (condT rfl (bindS (v := (((), ()), ((true, sp, b ++ rowF t ++ rowF u, ()), [t, u], (), (), ()))) ((loopM_next (a' := (((), (0, 2, 2), 2, 1, ()), ((true, sp, b ++ rowF t, ()), [t, u], (), ()))) ?_).trans ((loopM_next (a' := (((), (0, 2, 2), 2, 2, ()), ((true, sp, b ++ rowF t ++ rowF u, ()), [t, u], (), ()))) ?_).trans (loopM_end ?_))) rfl))
  · unfold wire_Texts_2_l1
    exact condT rfl (iteT (by dsimp only; omega) (bindS (v := t) rfl (iteT (by omega) (bindS (Rows1_p (by omega) (by dsimp only; omega)) rfl))))
  · unfold wire_Texts_2_l1
    exact condT rfl (iteT (by dsimp only; omega) (bindS (v := u) rfl (iteT (by omega) (bindS (Rows1_p (by omega) (by dsimp only; rw [List.length_append]; omega)) rfl))))
  · unfold wire_Texts_2_l1
    exact condF rfl rfl
theorem Done_p {sp : Bool} {b : List UInt8} (hb : b.length ≤ 1000000) : ∃ st, wire_Done (true, sp, b, ()) = some ((if sp = true then ([], 2, ()) else (b, 0, ())), st) := by
  unfold wire_Done
  cases sp with
  | true => exact ⟨_, bindS rfl (condF rfl (condT rfl rfl))⟩
  | false => exact ⟨_, bindS rfl (condF rfl (condF rfl (bindS (v := (b, ((), ()))) (by unfold clone81; exact iteT (by dsimp only; omega) rfl) rfl)))⟩
end Go.Proofs.YtaihdjknneiciaaGreat
/- Books of verdicts, plainly (round 21Z). -/
namespace Go.Proofs.YtaihdjknneiciaaGreat
open Go.RowKit
set_option maxRecDepth 100000
set_option linter.unusedVariables false
set_option linter.unusedSimpArgs false
theorem copied_p {v : DVerdict} (h : v.reads.length ≤ 1000) : ruling_copied v = some (v, ()) := by
  unfold ruling_copied clone187
  exact bindS (iteT (by omega) rfl) rfl
def vwrongB (x : DRead) : Bool := !keyB x.key || (decide (20 < x.value.length) || (!x.is && decide (x.value ≠ [])))
theorem vwrong_p {x : DRead} (hx : OkT x.key) : ruling_wrong x = some (vwrongB x, ()) := by
  unfold ruling_wrong vwrongB
  refine bindS (Key_p hx) ?_
  dsimp only
  cases keyB x.key with
  | false => rfl
  | true =>
    by_cases h : 20 < x.value.length
    · refine condF rfl (condT (dT (by omega)) ?_)
      rw [dT h]; rfl
    · refine condF rfl (condF (dF (by omega)) ?_)
      rw [dF h]
      cases x.is <;> rfl
theorem any6_p {xs : List DRead} (hx : ∀ x ∈ xs, OkT x.key) (hl : xs.length ≤ 140737488355328) : slices_ContainsFunc_3 xs = some (xs.any vwrongB, ()) := by
  have key : ∃ z, loopM slices_IndexFunc_6_l1 ((xs, (), (xs.length : Int), 0, ()), ()) = some z ∧ ((xs.any vwrongB = false ∧ z = .inr ((), ())) ∨ (xs.any vwrongB = true ∧ ∃ i : Nat, z = .inl (((i : Int), ()), ()))) := by
    refine loopM_spec (fun m a => ∃ i : Nat, a = ((xs, (), (xs.length : Int), (i : Int), ()), ()) ∧ i ≤ xs.length ∧ (xs.take i).any vwrongB = false ∧ m = xs.length - i) _ ?_ (n := xs.length) ⟨0, rfl, Nat.zero_le _, rfl, rfl⟩
    rintro m a ⟨i, rfl, h1, h2, rfl⟩
    unfold slices_IndexFunc_6_l1
    by_cases hi : i < xs.length
    · have hp := vwrong_p (hx _ (List.getElem_mem hi))
      cases hr : vwrongB xs[i] with
      | false =>
        left
        refine ⟨xs.length - (i + 1), _, by omega, condT (dT (by dsimp only; omega)) (bindS (getI_lt hi) (bindS hp (condF hr rfl))), i + 1, ?_, by omega, ?_, rfl⟩
        · dsimp only
          rw [w64 (by omega)]; rfl
        · rw [List.take_succ_eq_append_getElem hi, List.any_append, h2]; simp [hr]
      | true =>
        right
        refine ⟨_, condT (dT (by dsimp only; omega)) (bindS (getI_lt hi) (bindS hp (condT hr rfl))), .inr ⟨?_, i, rfl⟩⟩
        exact List.any_eq_true.2 ⟨_, List.getElem_mem hi, hr⟩
    · right
      obtain rfl : i = xs.length := by omega
      rw [List.take_length] at h2
      exact ⟨_, condF (dF (by dsimp only; omega)) rfl, .inl ⟨h2, rfl⟩⟩
  unfold slices_ContainsFunc_3 slices_IndexFunc_6
  obtain ⟨z, hz, ⟨h1, rfl⟩ | ⟨h1, i, rfl⟩⟩ := key
  · rw [h1]
    exact bindS (bindS hz rfl) rfl
  · rw [h1]
    refine bindS (bindS hz rfl) ?_
    dsimp only
    rw [dT (by omega)]
/-- Is a verdict right? (Whatever it is, it is told.) -/
theorem vright1_p {v : DVerdict} (hx : ∀ x ∈ v.reads, OkT x.key) (hl : v.reads.length ≤ 140737488355328) : ∃ b, ruling_Right1 v = some (b, ()) := by
  have hn : ∃ b, act_Name v.name = some (b, ()) := by
    unfold act_Name
    cases decide ((1 : Int) ≤ v.name.client)
    · exact ⟨_, rfl⟩
    cases decide ((v.name.client : Int) ≤ 8)
    · exact ⟨_, rfl⟩
    cases decide ((1 : Int) ≤ v.name.num) <;> exact ⟨_, rfl⟩
  obtain ⟨b, hb⟩ := hn
  have ha := any6_p hx hl
  unfold ruling_Right1
  rw [hb, Option.bind_some]
  cases b
  · exact ⟨_, rfl⟩
  simp only [Bool.not_true, cond_false]
  cases decide ((v.at_ : Int) < 1)
  rotate_left
  · exact ⟨_, rfl⟩
  cases decide ((1073741824 : Int) < v.at_)
  rotate_left
  · exact ⟨_, rfl⟩
  cases decide ((6 : Int) < (v.reads.length : Int))
  rotate_left
  · exact ⟨_, rfl⟩
  simp only [cond_false]
  cases v.commit
  · simp only [Bool.not_false, cond_true]
    cases decide ((0 : Int) < (v.reads.length : Int))
    · exact ⟨_, bindS ha rfl⟩
    · exact ⟨_, rfl⟩
  · exact ⟨_, bindS ha rfl⟩
theorem vright_p {v : DVerdict} (hx : ∀ x ∈ v.reads, OkT x.key) (hl : v.reads.length ≤ 140737488355328) : ∃ b, ruling_Right [v] = some (b, ()) := by
  obtain ⟨b, hb⟩ := vright1_p hx hl
  unfold ruling_Right slices_ContainsFunc_2 slices_IndexFunc_5
  cases b with
  | true =>
    have h1 : loopM slices_IndexFunc_5_l1 (([v], (), (([v] : List DVerdict).length : Int), 0, ()), ()) = some (.inl ((0, ()), ())) := by
      refine loopM_end ?_
      unfold slices_IndexFunc_5_l1
      exact condT (dT (by simp)) (bindS (v := v) rfl (bindS hb (condT rfl rfl)))
    exact ⟨_, bindS (bindS (bindS h1 rfl) rfl) rfl⟩
  | false =>
    have h1 : loopM slices_IndexFunc_5_l1 (([v], (), (([v] : List DVerdict).length : Int), 0, ()), ()) = some (.inr ((), ())) := by
      refine (loopM_next (a' := (([v], (), (([v] : List DVerdict).length : Int), 1, ()), ())) ?_).trans (loopM_end ?_)
      · unfold slices_IndexFunc_5_l1
        refine condT (dT (by simp)) (bindS (v := v) rfl (bindS hb (condF rfl ?_)))
        rfl
      · unfold slices_IndexFunc_5_l1
        exact condF (dF (by simp)) rfl
    exact ⟨_, bindS (bindS (bindS h1 rfl) rfl) rfl⟩
abbrev Nm := List ((Int × Int) × Int)
def nk (n : DName) : Int × Int := (n.client, n.num)
theorem eqb_two (a b : Int × Int) : MK.eqb (.two .i64 .i64) a b = decide (a = b) := by
  obtain ⟨a1, a2⟩ := a
  obtain ⟨b1, b2⟩ := b
  show (decide (a1 = b1) && decide (a2 = b2)) = _
  by_cases h1 : a1 = b1 <;> by_cases h2 : a2 = b2 <;> simp [h1, h2]
theorem mget_two (k j : Int × Int) (v : Int) : ∀ m : Nm, mget (.two .i64 .i64) (mput (.two .i64 .i64) m k v) j = if j = k then some v else mget (.two .i64 .i64) m j
  | [] => by
    show (bif MK.eqb (.two .i64 .i64) j k then some v else mget (.two .i64 .i64) ([] : Nm) j) = _
    rw [eqb_two]
    by_cases h : j = k <;> simp [h, mget]
  | p :: m => by
    have ih := mget_two k j v m
    show mget (.two .i64 .i64) (bif MK.eqb (.two .i64 .i64) k p.1 then (k, v) :: m else p :: mput (.two .i64 .i64) m k v) j = if j = k then some v else (bif MK.eqb (.two .i64 .i64) j p.1 then some p.2 else mget (.two .i64 .i64) m j)
    rw [eqb_two, eqb_two]
    by_cases h1 : k = p.1
    · rw [decide_eq_true h1, cond_true]
      show (bif MK.eqb (.two .i64 .i64) j k then some v else mget (.two .i64 .i64) m j) = _
      rw [eqb_two]
      by_cases h2 : j = k
      · simp [h2]
      · have : j ≠ p.1 := fun e => h2 (e.trans h1.symm)
        simp [h2, this]
    · rw [decide_eq_false h1, cond_false]
      show (bif MK.eqb (.two .i64 .i64) j p.1 then some p.2 else mget (.two .i64 .i64) (mput (.two .i64 .i64) m k v) j) = _
      rw [eqb_two, ih]
      by_cases h2 : j = p.1
      · have : j ≠ k := fun e => h1 (e.symm.trans h2)
        simp [h2]
        intro e; exact absurd e.symm h1
      · simp [h2]
/-- A book: each verdict is where the map says; the map has no other names. -/
structure BookOk (l : List DVerdict) (m : Nm) : Prop where
  at_ : ∀ (k : Nat) (h : k < l.length), mget (.two .i64 .i64) m (nk l[k].name) = some (k : Int)
  of_ : ∀ n i, mget (.two .i64 .i64) m n = some i → ∃ (k : Nat) (h : k < l.length), i = (k : Int) ∧ nk l[k].name = n
  few : ∀ v ∈ l, v.reads.length ≤ 20
theorem BookOk.nil : BookOk [] [] := ⟨fun k h => (by cases h), fun n i h => (by cases h), fun v h => (by cases h)⟩
def noV : DVerdict := ⟨⟨0, 0⟩, false, 0, []⟩
theorem bOf_p {l : List DVerdict} {m : Nm} (h : BookOk l m) (n : DName) :
    (mget (.two .i64 .i64) m (nk n) = none ∧ ruling_Of n (l, (), ()) m = some ((noV, false, ()), ((l, (), ()), m, (), (), ()))) ∨
    (∃ (k : Nat) (hk : k < l.length), nk l[k].name = nk n ∧ ruling_Of n (l, (), ()) m = some ((l[k], true, ()), ((l, (), ()), m, (), (), ()))) := by
  unfold ruling_Of ruling_known
  rw [Option.bind_some]
  dsimp only
  cases hg : mget (.two .i64 .i64) m (nk n) with
  | none => exact .inl ⟨rfl, condF rfl (condT (by show (!(mget (.two .i64 .i64) m (nk n)).isSome) = true; rw [hg]; rfl) rfl)⟩
  | some i =>
    obtain ⟨k, hk, rfl, hn⟩ := h.of_ _ _ hg
    refine .inr ⟨k, hk, hn, condF rfl (condF (by show (!(mget (.two .i64 .i64) m (nk n)).isSome) = false; rw [hg]; rfl) (bindS (v := l[k]) ?_ (bindS (copied_p (by have := h.few _ (List.getElem_mem hk); omega)) rfl)))⟩
    show getI l ((mget (.two .i64 .i64) m (nk n)).getD 0) = _
    rw [hg]
    exact getI_lt hk
theorem last_p (l : List DVerdict) (m : Nm) (hl : l.length ≤ 1000000) : ∃ a, ruling_last (l, (), ()) m = some (a, ((l, (), ()), m, (), (), ())) := by
  unfold ruling_last
  by_cases h0 : l = []
  · subst h0; exact ⟨_, condT rfl rfl⟩
  · have hp : 0 < l.length := List.length_pos_iff.2 h0
    refine ⟨_, condF (dF (by dsimp only; omega)) (bindS (v := l[l.length - 1]) ?_ rfl)⟩
    dsimp only
    rw [w64 (by omega), show (l.length : Int) - 1 = ((l.length - 1 : Nat) : Int) from by omega]
    exact getI_lt (by omega)
theorem put_b {l : List DVerdict} {m : Nm} (h : BookOk l m) (v : DVerdict) (hv : v.reads.length ≤ 20) (hl : l.length ≤ 1000000) (hn : mget (.two .i64 .i64) m (nk v.name) = none) :
    ruling_put v (l, (), ()) m = some ((), ((l ++ [v], (), ()), mput (.two .i64 .i64) m (nk v.name) (l.length : Int), (), (), ())) ∧ BookOk (l ++ [v]) (mput (.two .i64 .i64) m (nk v.name) (l.length : Int)) := by
  refine ⟨?_, ?_⟩
  · unfold ruling_put
    refine bindS (copied_p (by omega)) (iteT ?_ rfl)
    dsimp only
    simp only [List.length_singleton]
    omega
  · have hne : ∀ (k : Nat) (hk : k < l.length), nk l[k].name ≠ nk v.name := fun k hk e => by
      have := h.at_ k hk
      rw [e, hn] at this
      cases this
    refine ⟨fun k hk => ?_, fun n i hi => ?_, fun w hw => ?_⟩
    · rw [mget_two]
      by_cases hkl : k < l.length
      · rw [List.getElem_append_left hkl, if_neg (hne k hkl)]
        exact h.at_ k hkl
      · rw [List.length_append, List.length_singleton] at hk
        obtain rfl : k = l.length := by omega
        simp
    · rw [mget_two] at hi
      by_cases hnv : n = nk v.name
      · rw [if_pos hnv] at hi
        injection hi with hi
        exact ⟨l.length, by simp, hi.symm, by simp [hnv]⟩
      · rw [if_neg hnv] at hi
        obtain ⟨k, hk, e1, e2⟩ := h.of_ n i hi
        exact ⟨k, by rw [List.length_append]; omega, e1, by rw [List.getElem_append_left hk]; exact e2⟩
    · rcases List.mem_append.1 hw with hw | hw
      · exact h.few w hw
      · rw [List.mem_singleton.1 hw]; exact hv
/-- A decision, whatever the rest of a registry is. -/
theorem Decide_p {l : List DVerdict} {m : Nm} (h : BookOk l m) (v : DVerdict) (hv : v.reads.length ≤ 20) (hx : ∀ x ∈ v.reads, OkT x.key) (hl : l.length ≤ 1000000) :
    ∃ r l' m', ruling_Decide v (l, (), ()) m = some (r, ((l', (), ()), m', (), (), ())) ∧ BookOk l' m' ∧ l'.length ≤ l.length + 1 := by
  obtain ⟨b, hb⟩ := vright_p hx (by omega)
  obtain ⟨a, ha⟩ := last_p l m hl
  unfold ruling_Decide
  have hk : ruling_known (l, (), ()) m = some (true, ((l, (), ()), m, (), (), ())) := rfl
  cases b with
  | false => exact ⟨_, l, m, bindS hk (condF rfl (bindS hb (condT rfl rfl))), h, by omega⟩
  | true =>
    rcases bOf_p h v.name with ⟨h1, h2⟩ | ⟨k, hk', h1, h2⟩
    · by_cases hc : v.at_ ≤ a
      · exact ⟨_, l, m, bindS hk (condF rfl (bindS hb (condF rfl (bindS h2 (condF rfl (bindS ha (condT (dT hc) rfl))))))), h, by omega⟩
      · obtain ⟨p1, p2⟩ := put_b h v hv hl h1
        exact ⟨_, _, _, bindS hk (condF rfl (bindS hb (condF rfl (bindS h2 (condF rfl (bindS ha (condF (dF hc) (bindS p1 (bindS (copied_p (by omega)) rfl))))))))), p2, by simp⟩
    · exact ⟨_, l, m, bindS hk (condF rfl (bindS hb (condF rfl (bindS h2 (condT rfl rfl))))), h, by omega⟩
end Go.Proofs.YtaihdjknneiciaaGreat
/- Plans, and what is done to a registry, plainly (round 21Z). -/
namespace Go.Proofs.YtaihdjknneiciaaGreat
open Go.RowKit
set_option maxRecDepth 100000
set_option linter.unusedVariables false
set_option linter.unusedSimpArgs false
/-- A registry's cells. -/
@[reducible] def plc (s : DShares) (u : Bool) (x : DScheme) (n : Int) : (Unit) × (Int) × (List (DShare)) × (Bool) × (Int) × (List UInt8) × (List UInt8) × (Int) × (Int) × (Int) × (Int) × (Int) × (Int) × Unit :=
  ((), s.epoch, s.list, u, x.num, x.span.lo, x.span.hi, x.from_, x.to_, x.epoch, x.under, x.stage, n, ())
structure PlOk (s : DShares) (u : Bool) (x : DScheme) (n : Int) : Prop where
  sh : OkSh s
  rt : rightW s = true
  sp : OkSp x.span
  rx : rightB x.span = true
  lo : 0 ≤ n
  hi : n ≤ 1073741824
theorem StepAll {x : DScheme} {s : DShares} (hx : OkSp x.span) (hs : OkSh s) (st : Int) : ∃ y t e, scheme_Step x s st = some ((y, t, e, ()), ()) ∧ (e = 0 → y.span = x.span ∧ OkSh t ∧ rightW t = true) := by
  cases hb : (rightS x && rightW s) with
  | false => exact ⟨_, _, _, Step_bad hx hs hb, fun h => by cases h⟩
  | true =>
  simp only [Bool.and_eq_true] at hb
  obtain ⟨h1, h2⟩ := hb
  by_cases h : x.stage = st
  · exact ⟨_, _, _, Step_same hx hs h1 h2 h, fun _ => ⟨rfl, hs, h2⟩⟩
  cases hg : goesB x.stage st with
  | false => exact ⟨_, _, _, Step_no hx hs h1 h2 h hg, fun h => by cases h⟩
  | true =>
  by_cases h4 : st = 4
  · subst h4
    obtain ⟨t, e, t1, t2, t3⟩ := Turn_p hs hx x.to_
    obtain ⟨y, t', e', k1, k2, _⟩ := Step_turn hx hs h1 h2 h hg t1 t2
    refine ⟨_, _, _, k1, fun he => ?_⟩
    obtain ⟨q1, q2, q3⟩ := k2 he
    obtain ⟨_, f1, f2, i, hi, f4, _, f6, f7, _⟩ := t3 q1
    subst q2 q3
    subst f6
    exact ⟨rfl, ⟨by omega, turnF_ok hs.2 hx hi⟩, turn_right h2 f1 f2 hi f4 f7⟩
  · exact ⟨_, _, _, Step_go hx hs h1 h2 h hg h4, fun _ => ⟨rfl, hs, h2⟩⟩
section
variable {s : DShares} {u : Bool} {x : DScheme} {n : Int} (h : PlOk s u x n)
include h
theorem rBegin_p {a : DSpan} (ha : OkSp a) (g : Int) : ∃ r u' x' n', PlOk s u' x' n' ∧ ∀ (l : List DVerdict) (m : Nm), registry_Begin a g (plc s u x n) (l, (), ()) m = some (r, (plc s u' x' n', (l, (), ()), m, (), (), ())) := by
  cases hu : u with
  | true =>
    subst hu
    exact ⟨_, true, x, n, h, fun l m => by unfold registry_Begin; exact bindS (v := (true, (plc s true x n, (l, (), ()), m, (), (), ()))) rfl (condF rfl (condT rfl rfl))⟩
  | false =>
    subst hu
    obtain ⟨x', e, b1, b2, b3⟩ := Begin_p h.sh ha (IntKind.i64.wrap (n + 1)) g
    by_cases he : e = 0
    · obtain ⟨c1, _, _, _, i, hi, c3, _, _, _, _, c2⟩ := b3 he
      refine ⟨(x'.num, 0, ()), true, x', x'.num, ⟨h.sh, h.rt, by rw [c2]; exact ha, by rw [c2]; exact (within_right c3).1, by rw [c2]; dsimp only; omega, by rw [c2]; dsimp only; omega⟩, fun l m => ?_⟩
      unfold registry_Begin
      exact bindS (v := (true, (plc s false x n, (l, (), ()), m, (), (), ()))) rfl (condF rfl (condF rfl (bindS b1 (condF (by simpa using he) rfl))))
    · refine ⟨(0, e, ()), false, x, n, h, fun l m => ?_⟩
      unfold registry_Begin
      exact bindS (v := (true, (plc s false x n, (l, (), ()), m, (), (), ()))) rfl (condF rfl (condF rfl (bindS b1 (condT (by simpa using he) rfl))))
theorem rStep_p (k st : Int) : ∃ r s' u' x' n', PlOk s' u' x' n' ∧ ∀ (l : List DVerdict) (m : Nm), registry_Step k st (plc s u x n) (l, (), ()) m = some (r, (plc s' u' x' n', (l, (), ()), m, (), (), ())) := by
  have kn : ∀ (l : List DVerdict) (m : Nm), registry_known (plc s u x n) (l, (), ()) m = some (true, (plc s u x n, (l, (), ()), m, (), (), ())) := fun l m => rfl
  by_cases c1 : k < 1
  · exact ⟨_, s, u, x, n, h, fun l m => by unfold registry_Step; exact bindS (kn l m) (condF rfl (condT (dT c1) rfl))⟩
  by_cases c2 : 1073741824 < k
  · exact ⟨_, s, u, x, n, h, fun l m => by unfold registry_Step; exact bindS (kn l m) (condF rfl (condF (dF c1) (condT (dT c2) rfl)))⟩
  by_cases c3 : st < 1
  · exact ⟨_, s, u, x, n, h, fun l m => by unfold registry_Step; exact bindS (kn l m) (condF rfl (condF (dF c1) (condF (dF c2) (condT (dT c3) rfl))))⟩
  by_cases c4 : 9 < st
  · exact ⟨_, s, u, x, n, h, fun l m => by unfold registry_Step; exact bindS (kn l m) (condF rfl (condF (dF c1) (condF (dF c2) (condF (dF c3) (condT (dT c4) rfl)))))⟩
  by_cases c5 : n < k
  · exact ⟨_, s, u, x, n, h, fun l m => by unfold registry_Step; exact bindS (kn l m) (condF rfl (condF (dF c1) (condF (dF c2) (condF (dF c3) (condF (dF c4) (condT (dT c5) rfl))))))⟩
  cases hu : u with
  | false =>
    subst hu
    exact ⟨_, s, false, x, n, h, fun l m => by unfold registry_Step; exact bindS (kn l m) (condF rfl (condF (dF c1) (condF (dF c2) (condF (dF c3) (condF (dF c4) (condF (dF c5) (condT rfl rfl)))))))⟩
  | true =>
  subst hu
  by_cases c6 : x.num = k
  rotate_left
  · exact ⟨_, s, true, x, n, h, fun l m => by unfold registry_Step; exact bindS (kn l m) (condF rfl (condF (dF c1) (condF (dF c2) (condF (dF c3) (condF (dF c4) (condF (dF c5) (condF rfl (condT (dT c6) rfl))))))))⟩
  obtain ⟨y, t, e, e1, e2⟩ := StepAll h.sp h.sh st
  by_cases he : e = 0
  rotate_left
  · refine ⟨(0, e, ()), s, true, x, n, h, fun l m => ?_⟩
    unfold registry_Step
    exact bindS (kn l m) (condF rfl (condF (dF c1) (condF (dF c2) (condF (dF c3) (condF (dF c4) (condF (dF c5) (condF rfl (condF (dF (fun hh => hh c6)) (bindS e1 (condT (by simpa using he) rfl))))))))))
  obtain ⟨q1, q2, q3⟩ := e2 he
  cases ho : (decide (y.stage = 6) || decide (y.stage = 9)) with
  | true =>
    refine ⟨(st, 0, ()), t, false, noSc, n, ⟨q2, q3, ⟨Nat.zero_le _, Nat.zero_le _⟩, by simp [noSc, rightB], h.lo, h.hi⟩, fun l m => ?_⟩
    unfold registry_Step
    exact bindS (kn l m) (condF rfl (condF (dF c1) (condF (dF c2) (condF (dF c3) (condF (dF c4) (condF (dF c5) (condF rfl (condF (dF (fun hh => hh c6)) (bindS e1 (condF (by simpa using he) (bindS (Over_p y) (condT ho rfl))))))))))))
  | false =>
    refine ⟨(st, 0, ()), t, true, y, n, ⟨q2, q3, by rw [q1]; exact h.sp, by rw [q1]; exact h.rx, h.lo, h.hi⟩, fun l m => ?_⟩
    unfold registry_Step
    exact bindS (kn l m) (condF rfl (condF (dF c1) (condF (dF c2) (condF (dF c3) (condF (dF c4) (condF (dF c5) (condF rfl (condF (dF (fun hh => hh c6)) (bindS e1 (condF (by simpa using he) (bindS (Over_p y) (condF ho rfl))))))))))))
end
theorem pick_p (k : Int) : ∃ v, watershedkit_Pick k 8 = some (v, ()) := by
  unfold watershedkit_Pick
  by_cases h : (k.tmod 8) < 0
  · exact ⟨_, condF (dF (by omega)) (iteF (by omega) (condT (dT h) rfl))⟩
  · exact ⟨_, condF (dF (by omega)) (iteF (by omega) (condF (dF h) rfl))⟩
theorem rDecide_p {l : List DVerdict} {m : Nm} (h : BookOk l m) (v : DVerdict) (hv : v.reads.length ≤ 20) (hx : ∀ x ∈ v.reads, OkT x.key) (hl : l.length ≤ 1000000) :
    ∃ r l' m', BookOk l' m' ∧ l'.length ≤ l.length + 1 ∧ ∀ (s : DShares) (u : Bool) (x : DScheme) (n : Int), registry_Decide v (plc s u x n) (l, (), ()) m = some (r, (plc s u x n, (l', (), ()), m', (), (), ())) := by
  obtain ⟨r, l', m', h1, h2, h3⟩ := Decide_p h v hv hx hl
  exact ⟨_, l', m', h2, h3, fun s u x n => by unfold registry_Decide; exact bindS (v := (true, (plc s u x n, (l, (), ()), m, (), (), ()))) rfl (condF rfl (bindS h1 rfl))⟩
/-- A deed: of a plan alone, or of a book alone. -/
theorem do_p {s : DShares} {u : Bool} {x : DScheme} {n : Int} (h : PlOk s u x n) {l : List DVerdict} {m : Nm} (hb : BookOk l m) (hl : l.length ≤ 1000000) {d : DDeed} (hs : OkSp d.span) (hv : d.verdict.reads.length ≤ 20) (hx : ∀ x ∈ d.verdict.reads, OkT x.key) :
    ∃ k, watershedkit_Pick d.kind 8 = some (k, ()) ∧
      ((k = 6 ∧ ∃ r l' m', BookOk l' m' ∧ l'.length ≤ l.length + 1 ∧ ∀ (s : DShares) (u : Bool) (x : DScheme) (n : Int), watershedlaw21_do d (plc s u x n) (l, (), ()) m = some (r, (plc s u x n, (l', (), ()), m', (), (), ()))) ∨
       (k ≠ 6 ∧ ∃ r s' u' x' n', PlOk s' u' x' n' ∧ ∀ (l : List DVerdict) (m : Nm), watershedlaw21_do d (plc s u x n) (l, (), ()) m = some (r, (plc s' u' x' n', (l, (), ()), m, (), (), ())))) := by
  obtain ⟨k, hk⟩ := pick_p d.kind
  refine ⟨k, hk, ?_⟩
  by_cases h6 : k = 6
  · obtain ⟨r, l', m', b1, b2, b3⟩ := rDecide_p hb d.verdict hv hx hl
    exact .inl ⟨h6, (0, r.2.1, ()), l', m', b1, b2, fun s u x n => by unfold watershedlaw21_do; exact bindS hk (condF (dF (by dsimp only; omega)) (condF (dF (by dsimp only; omega)) (condT (dT h6) (bindS (b3 s u x n) rfl))))⟩
  right
  refine ⟨h6, ?_⟩
  by_cases h0 : k = 0
  · obtain ⟨r, u', x', n', p1, p2⟩ := rBegin_p h hs d.to_
    exact ⟨(r.1, r.2.1, ()), s, u', x', n', p1, fun l m => by unfold watershedlaw21_do; exact bindS hk (condT (dT h0) (bindS (p2 l m) rfl))⟩
  by_cases h1 : k = 1
  · obtain ⟨r, u', x', n', p1, p2⟩ := rBegin_p h hs d.to_
    exact ⟨(r.1, r.2.1, ()), s, u', x', n', p1, fun l m => by unfold watershedlaw21_do; exact bindS hk (condF (dF h0) (condT (dT h1) (bindS (p2 l m) rfl)))⟩
  by_cases h7 : k = 7
  · exact ⟨_, s, u, x, n, h, fun l m => by unfold watershedlaw21_do; exact bindS hk (condF (dF h0) (condF (dF h1) (condF (dF h6) (condT (dT h7) rfl))))⟩
  · obtain ⟨r, s', u', x', n', p1, p2⟩ := rStep_p h d.num d.stage
    exact ⟨(IntKind.i64.wrap r.1, r.2.1, ()), s', u', x', n', p1, fun l m => by unfold watershedlaw21_do; exact bindS hk (condF (dF h0) (condF (dF h1) (condF (dF h6) (condF (dF h7) (bindS (p2 l m) rfl)))))⟩
/-- What is known of a deed. -/
def OkD (d : DDeed) : Prop := OkSp d.span ∧ d.verdict.reads.length ≤ 20 ∧ ∀ x ∈ d.verdict.reads, OkT x.key
theorem light_p {xs : List DDeed} (hl : xs.length ≤ 140737488355328) (hx : ∀ d ∈ xs, OkSp d.span ∧ ∀ x ∈ d.verdict.reads, OkT x.key) : ∃ b, watershedlaw21_light xs = some (b, ()) ∧ (b = true → xs.length ≤ 60 ∧ ∀ d ∈ xs, OkD d) := by
  unfold watershedlaw21_light
  by_cases h60 : 60 < xs.length
  · exact ⟨false, condT (dT (by omega)) rfl, fun h => by cases h⟩
  have key : ∃ z, loopM watershedlaw21_light_l1 ((xs, 0, ()), ()) = some z ∧ (z = .inl ((false, ()), ()) ∨ (z = .inr ((), ()) ∧ ∀ d ∈ xs, d.verdict.reads.length ≤ 20)) := by
    refine loopM_spec (fun k a => ∃ i : Nat, a = ((xs, (i : Int), ()), ()) ∧ i ≤ xs.length ∧ (∀ d ∈ xs.take i, d.verdict.reads.length ≤ 20) ∧ k = xs.length - i) _ ?_ (n := xs.length) ⟨0, rfl, Nat.zero_le _, (fun d hd => by simp at hd), rfl⟩
    rintro k a ⟨i, rfl, g1, g2, rfl⟩
    unfold watershedlaw21_light_l1
    by_cases hi : i < xs.length
    · by_cases h20 : 20 < xs[i].verdict.reads.length
      · right
        exact ⟨_, condT (dT (by dsimp only; omega)) (bindS (getI_lt hi) (condT (dT (by omega)) rfl)), .inl rfl⟩
      · by_cases hc : (500 : Int) < IntKind.i64.wrap ((xs[i].span.lo.length : Int) + (xs[i].span.hi.length : Int))
        · right
          exact ⟨_, condT (dT (by dsimp only; omega)) (bindS (getI_lt hi) (condF (dF (by omega)) (bindS (getI_lt hi) (bindS (getI_lt hi) (condT (dT hc) rfl))))), .inl rfl⟩
        · left
          refine ⟨xs.length - (i + 1), _, by omega, condT (dT (by dsimp only; omega)) (bindS (getI_lt hi) (condF (dF (by omega)) (bindS (getI_lt hi) (bindS (getI_lt hi) (condF (dF hc) rfl))))), i + 1, ?_, by omega, ?_, rfl⟩
          · dsimp only
            rw [w64 (by omega)]; rfl
          · intro d hd
            rw [List.take_succ_eq_append_getElem hi] at hd
            rcases List.mem_append.1 hd with hd | hd
            · exact g2 d hd
            · rw [List.mem_singleton.1 hd]; omega
    · right
      obtain rfl : i = xs.length := by omega
      rw [List.take_length] at g2
      exact ⟨_, condF (dF (by dsimp only; omega)) rfl, .inr ⟨rfl, g2⟩⟩
  obtain ⟨z, hz, rfl | ⟨rfl, g⟩⟩ := key
  · exact ⟨false, condF (dF (by omega)) (bindS hz rfl), fun h => by cases h⟩
  · exact ⟨true, condF (dF (by omega)) (bindS hz rfl), fun _ => ⟨by omega, fun d hd => ⟨(hx d hd).1, g d hd, (hx d hd).2⟩⟩⟩
end Go.Proofs.YtaihdjknneiciaaGreat
/- What a registry tells of itself, plainly (round 21Z). -/
namespace Go.Proofs.YtaihdjknneiciaaGreat
open Go.RowKit
set_option maxRecDepth 100000
set_option linter.unusedVariables false
set_option linter.unusedSimpArgs false
theorem parts_all : ∀ (l : List DSpan) (f : Tx), partsF f l = true → ∀ s ∈ l, rightB s = true
  | [], f, h, s, hs => by cases hs
  | [a], f, h, s, hs => by
    rw [List.mem_singleton.1 hs]
    unfold partsF at h
    simp only [Bool.and_eq_true] at h
    exact h.1
  | a :: b :: l, f, h, s, hs => by
    unfold partsF at h
    simp only [Bool.and_eq_true] at h
    rcases List.mem_cons.1 hs with rfl | hs
    · exact h.1
    · exact parts_all (b :: l) _ h.2.2.2 s hs
theorem keyB_len {t : Tx} (h : keyB t = true) : t.length ≤ 20 := by
  unfold keyB at h
  simp only [Bool.and_eq_true, decide_eq_true_eq] at h
  exact h.2.1
theorem rightB_len {s : DSpan} (h : rightB s = true) : s.lo.length ≤ 20 ∧ s.hi.length ≤ 20 := by
  unfold rightB at h
  simp only [Bool.and_eq_true, Bool.or_eq_true, decide_eq_true_eq] at h
  obtain ⟨h1, h2, _⟩ := h
  constructor
  · rcases h1 with h1 | h1
    · rw [h1]; simp
    · exact keyB_len h1
  · rcases h2 with h2 | h2
    · rw [h2]; simp
    · exact keyB_len h2
theorem rightW_spans {s : DShares} (h : rightW s = true) : s.list.length ≤ 40 ∧ ∀ x ∈ s.list, rightB x.span = true := by
  obtain ⟨_, h2, _, h4⟩ := right_iff.1 h
  exact ⟨h2, fun x hx => parts_all _ _ h4 _ (List.mem_map.2 ⟨x, hx, rfl⟩)⟩
theorem rowF_len {t : Tx} (h : t.length ≤ 20) : (rowF t).length ≤ 29 := by
  have h1 := numF_len9 (n := t.length) (by omega)
  unfold rowF
  rw [List.length_append]; omega
theorem flag_p (u sp : Bool) {b : List UInt8} (hb : b.length ≤ 100000) : ∃ c : List UInt8, c.length = b.length + 1 ∧ wire_Flags [u] (true, sp, b, ()) = some ((), ((true, sp, c, ()), (), (), ())) := by
  cases u with
  | true =>
    refine ⟨b ++ [1], by simp, ?_⟩
    have h1 : loopM wire_Flags_l1 (((), [true], (([true] : List Bool).length : Int), 0, ()), ((true, sp, b, ()), (), ())) = some (((), ()), ((true, sp, b ++ [1], ()), (), (), ())) := by
      refine (loopM_next (a' := (((), [true], (([true] : List Bool).length : Int), 1, ()), ((true, sp, b ++ [1], ()), (), ()))) ?_).trans (loopM_end ?_)
      · unfold wire_Flags_l1
        exact condT (dT (by simp)) (bindS (v := true) rfl (condT rfl (bindS (v := (1 : UInt8)) rfl (bindS (put_p (by simp only [List.length_singleton]; omega)) rfl))))
      · unfold wire_Flags_l1
        exact condF (dF (by simp)) rfl
    unfold wire_Flags wire_known
    exact bindS rfl (condT rfl (bindS h1 rfl))
  | false =>
    refine ⟨b ++ [0], by simp, ?_⟩
    have h1 : loopM wire_Flags_l1 (((), [false], (([false] : List Bool).length : Int), 0, ()), ((true, sp, b, ()), (), ())) = some (((), ()), ((true, sp, b ++ [0], ()), (), (), ())) := by
      refine (loopM_next (a' := (((), [false], (([false] : List Bool).length : Int), 1, ()), ((true, sp, b ++ [0], ()), (), ()))) ?_).trans (loopM_end ?_)
      · unfold wire_Flags_l1
        exact condT (dT (by simp)) (bindS (v := false) rfl (condF rfl (bindS (v := (0 : UInt8)) rfl (bindS (put_p (by simp only [List.length_singleton]; omega)) rfl))))
      · unfold wire_Flags_l1
        exact condF (dF (by simp)) rfl
    unfold wire_Flags wire_known
    exact bindS rfl (condT rfl (bindS h1 rfl))
theorem swrite_p {x : DScheme} (hx : rightB x.span = true) (sp : Bool) {b : List UInt8} (hb : b.length ≤ 9000) : ∃ (sp' : Bool) (c : List UInt8), c.length ≤ 20000 ∧ scheme_Write x (true, sp, b, ()) = some ((), ((true, sp', c, ()), (), (), ())) := by
  obtain ⟨l1, l2⟩ := rightB_len hx
  have n1 := Numbers_p (xs := [x.num]) (sp := sp) (b := b) (by simp) (by omega)
  have m1 := numsW_len [x.num] (sp, b)
  simp only [List.length_singleton] at m1
  generalize numsW [x.num] (sp, b) = w1 at n1 m1
  have t1 := TextsA_p (t := x.span.lo) (u := x.span.hi) (sp := w1.1) (b := w1.2) (by omega) (by omega) (by omega)
  have r1 := rowF_len l1
  have r2 := rowF_len l2
  have hl : (w1.2 ++ rowF x.span.lo ++ rowF x.span.hi).length ≤ 9100 := by simp only [List.length_append]; omega
  generalize w1.2 ++ rowF x.span.lo ++ rowF x.span.hi = c1 at t1 hl
  have n2 := Numbers2_p (xs := [x.from_, x.to_, x.epoch, x.under, IntKind.i64.wrap x.stage]) (sp := w1.1) (b := c1) (by simp) (by omega)
  have m2 := numsW_len [x.from_, x.to_, x.epoch, x.under, IntKind.i64.wrap x.stage] (w1.1, c1)
  simp only [List.length_cons, List.length_nil] at m2 n2
  generalize numsW [x.from_, x.to_, x.epoch, x.under, IntKind.i64.wrap x.stage] (w1.1, c1) = w2 at n2 m2
  exact ⟨w2.1, w2.2, by omega, by unfold scheme_Write; exact bindS n1 (bindS t1 (bindS n2 rfl))⟩
theorem write_p {s : DShares} {u : Bool} {x : DScheme} {n : Int} (h : PlOk s u x n) : ∃ (sp : Bool) (c : List UInt8), c.length ≤ 20000 ∧ registry_write ⟨s, u, x⟩ (true, false, [], ()) = some ((), ((true, sp, c, ()), (), (), ())) := by
  obtain ⟨h40, hsp⟩ := rightW_spans h.rt
  have n1 := Numbers_p (xs := [s.epoch, (s.list.length : Int)]) (sp := false) (b := []) (by simp) (by simp)
  have m1 := numsW_len [s.epoch, (s.list.length : Int)] (false, [])
  simp only [List.length_cons, List.length_nil] at m1
  generalize numsW [s.epoch, (s.list.length : Int)] (false, []) = w1 at n1 m1
  have key : ∃ z, loopM registry_write_l1 (((), (), s.list, (s.list.length : Int), 0, ()), ((true, w1.1, w1.2, ()), ⟨s, u, x⟩, (), ())) = some z ∧ ∃ (sp : Bool) (c : List UInt8), c.length ≤ 5000 ∧ z = (((), (), ()), ((true, sp, c, ()), ⟨s, u, x⟩, (), (), ())) := by
    refine loopM_spec (fun k a => ∃ (i : Nat) (sp : Bool) (c : List UInt8), a = (((), (), s.list, (s.list.length : Int), (i : Int), ()), ((true, sp, c, ()), ⟨s, u, x⟩, (), ())) ∧ i ≤ s.list.length ∧ c.length ≤ 18 + 100 * i ∧ k = s.list.length - i) _ ?_ (n := s.list.length) ⟨0, w1.1, w1.2, rfl, Nat.zero_le _, by omega, rfl⟩
    rintro k a ⟨i, sp, c, rfl, g1, g2, rfl⟩
    unfold registry_write_l1
    by_cases hi : i < s.list.length
    · left
      obtain ⟨l1, l2⟩ := rightB_len (hsp _ (List.getElem_mem hi))
      have t1 := Texts2_p (t := s.list[i].span.lo) (u := s.list[i].span.hi) (sp := sp) (b := c) (by omega) (by omega) (by omega)
      have r1 := rowF_len l1
      have r2 := rowF_len l2
      have hl : (c ++ rowF s.list[i].span.lo ++ rowF s.list[i].span.hi).length ≤ c.length + 58 := by simp only [List.length_append]; omega
      generalize c ++ rowF s.list[i].span.lo ++ rowF s.list[i].span.hi = c1 at t1 hl
      have n2 := Numbers2_p (xs := [s.list[i].group, s.list[i].epoch]) (sp := sp) (b := c1) (by simp) (by omega)
      have m2 := numsW_len [s.list[i].group, s.list[i].epoch] (sp, c1)
      simp only [List.length_cons, List.length_nil] at m2 n2
      generalize numsW [s.list[i].group, s.list[i].epoch] (sp, c1) = w2 at n2 m2
      refine ⟨s.list.length - (i + 1), _, by omega, condT (dT (by dsimp only; omega)) (bindS (getI_lt hi) (bindS t1 (bindS n2 rfl))), i + 1, w2.1, w2.2, ?_, by omega, by omega, rfl⟩
      dsimp only
      rw [w64 (by omega)]; rfl
    · right
      exact ⟨_, condF (dF (by dsimp only; omega)) rfl, sp, c, by omega, rfl⟩
  obtain ⟨z, hz, sp, c, hc, rfl⟩ := key
  obtain ⟨c2, q1, q2⟩ := flag_p u sp (b := c) (by omega)
  cases u with
  | true =>
    obtain ⟨sp', c3, q3, q4⟩ := swrite_p h.rx sp (b := c2) (by omega)
    exact ⟨sp', c3, q3, by unfold registry_write; exact bindS n1 (bindS hz (bindS q2 (condT rfl (bindS q4 rfl))))⟩
  | false => exact ⟨sp, c2, by omega, by unfold registry_write; exact bindS n1 (bindS hz (bindS q2 (condF rfl rfl)))⟩
/-- The view: of the plan alone. -/
theorem View_p {s : DShares} {u : Bool} {x : DScheme} {n : Int} (h : PlOk s u x n) : ∃ b : List UInt8, b.length ≤ 20000 ∧ ∀ (l : List DVerdict) (m : Nm), registry_View (plc s u x n) (l, (), ()) m = some (b, (plc s u x n, (l, (), ()), m, (), (), (), ())) := by
  obtain ⟨sp, c, hc, hw⟩ := write_p h
  obtain ⟨st, hd⟩ := Done_p (sp := sp) (b := c) (by omega)
  have hlen : (if sp = true then ([] : List UInt8) else c).length ≤ 20000 := by
    cases sp
    · simpa using hc
    · simp
  refine ⟨(if sp = true then [] else c), hlen, fun l m => ?_⟩
  unfold registry_View
  refine bindS (v := (true, (plc s u x n, (l, (), ()), m, (), (), ()))) rfl (condF rfl (bindS rfl (bindS hw (bindS hd ?_))))
  cases sp <;> rfl
theorem All_p {l : List DVerdict} {m : Nm} (h : BookOk l m) (hl : l.length ≤ 1000000) : ruling_All [] (l, (), ()) m = some (l, ((l, (), ()), m, (), (), (), ())) := by
  have hrun := loopM_run (step := ruling_All_l1) (fun i : Nat => ((([] : List Bool), l.take i, l, (l.length : Int), (i : Int), ()), ((), ()))) (N := l.length) (b := ((l, ()), ((), (), ()))) (fun i hi => ?_) ?_
  · unfold ruling_All ruling_known
    exact bindS rfl (condF rfl (bindS hrun rfl))
  · unfold ruling_All_l1
    refine condT (dT (by dsimp only; omega)) (bindS (getI_lt hi) (condT (dT (by simp)) (bindS (copied_p (by have := h.few _ (List.getElem_mem hi); omega)) (iteT ?_ ?_))))
    · dsimp only
      simp only [List.length_singleton, List.length_take]
      omega
    · dsimp only
      rw [w64 (by omega), List.take_succ_eq_append_getElem hi]
      rfl
  · unfold ruling_All_l1
    refine condF (dF (by dsimp only; omega)) ?_
    dsimp only
    rw [List.take_length]
theorem Rulings_p {l : List DVerdict} {m : Nm} (h : BookOk l m) (hl : l.length ≤ 1000000) (s : DShares) (u : Bool) (x : DScheme) (n : Int) : ∃ st, registry_Rulings [] (plc s u x n) (l, (), ()) m = some (l, st) ∧ st.1 = plc s u x n ∧ st.2.1 = (l, (), ()) ∧ st.2.2.1 = m := by
  unfold registry_Rulings
  exact ⟨_, bindS (v := (true, (plc s u x n, (l, (), ()), m, (), (), ()))) rfl (condF rfl (bindS (All_p h hl) rfl)), rfl, rfl, rfl⟩
theorem reads_p {l : List DRead} (hl : l.length ≤ 100000) : watershedkit_SameReads l l = some (true, ()) := by
  have hrun := loopM_run (step := watershedkit_SameReads_l1) (fun i : Nat => ((l, l, (i : Int), ()), ())) (N := l.length) (b := .inr ((), ())) (fun i hi => ?_) ?_
  · unfold watershedkit_SameReads
    exact condF (dF (by simp)) (bindS hrun rfl)
  · unfold watershedkit_SameReads_l1
    refine condT (dT (by dsimp only; omega)) (bindS (getI_lt hi) (bindS (getI_lt hi) (condF (by simp) ?_)))
    dsimp only
    rw [w64 (by omega)]; rfl
  · unfold watershedkit_SameReads_l1
    exact condF (dF (by dsimp only; omega)) rfl
theorem same2_p {v : DVerdict} (h : v.reads.length ≤ 20) : watershedlaw21_same2 v v = some (true, ()) := by
  unfold watershedlaw21_same2 watershedlaw21_verdict watershedlaw21_equal
  exact bindS rfl (bindS (condT (by simp) (condT (dT rfl) (condT (dT rfl) (bindS (reads_p (by omega)) rfl)))) rfl)
theorem bytes_p {l : List UInt8} (hl : l.length ≤ 100000) : watershedkit_SameBytes l l = some (true, ()) := by
  have hrun := loopM_run (step := watershedkit_SameBytes_l1) (fun i : Nat => ((l, l, (i : Int), ()), ())) (N := l.length) (b := .inr ((), ())) (fun i hi => ?_) ?_
  · unfold watershedkit_SameBytes
    exact condF (dF (by simp)) (bindS hrun rfl)
  · unfold watershedkit_SameBytes_l1
    refine condT (dT (by dsimp only; omega)) (bindS (getI_lt hi) (bindS (getI_lt hi) (condF (dF (by simp)) ?_)))
    dsimp only
    rw [w64 (by omega)]; rfl
  · unfold watershedkit_SameBytes_l1
    exact condF (dF (by dsimp only; omega)) rfl
end Go.Proofs.YtaihdjknneiciaaGreat
/- The example of chapter 21 (round 21Z). -/
namespace Go.Proofs.YtaihdjknneiciaaGreat
open Go.RowKit
set_option maxRecDepth 100000
set_option linter.unusedVariables false
set_option linter.unusedSimpArgs false
def aS : DShares := ⟨1, [⟨⟨[], []⟩, 1, 1⟩]⟩
def aT : DShares := ⟨2, [⟨⟨[], [109]⟩, 1, 1⟩, ⟨⟨[109], []⟩, 2, 2⟩]⟩
def aX (st : Int) : DScheme := ⟨1, ⟨[109], []⟩, 1, 2, 1, 0, st⟩
def aY (st : Int) : DScheme := ⟨1, ⟨[109], []⟩, 1, 2, 1, 2, st⟩
theorem aBegin : scheme_Begin aS 1 ⟨[109], []⟩ 2 = some ((aX 1, 0, ()), ()) := by
  unfold scheme_Begin
  refine bindS (swithin_p _ _ _) (condF (by decide) (bindS Turn_m (condF rfl (bindS (In_p okf okm) ?_))))
  have : (pickF aS fun q => withinB ⟨[109], []⟩ q.span) = some ⟨⟨[], []⟩, 1, 1⟩ := by decide +kernel
  dsimp only
  rw [show (⟨1, [⟨⟨[], []⟩, 1, 1⟩]⟩ : DShares) = aS from rfl, this]
  rfl
theorem aTurn : scheme_Step (aX 3) aS 4 = some ((aY 4, aT, 0, ()), ()) := by
  obtain ⟨y, t, e, k1, k2, k3⟩ := Step_turn (x := aX 3) (s := aS) okm okf (by decide +kernel) (by decide +kernel) (by decide) (by decide +kernel) Turn_m (fun h => absurd rfl h)
  have he := k3 ⟨⟨[], []⟩, 1, 1⟩ rfl (by decide +kernel) rfl rfl
  obtain ⟨_, rfl, rfl⟩ := k2 he
  rw [k1, he]
  rfl
theorem okT : OkSh aT := ⟨by simp [aT], fun x hx => by
  simp only [aT, List.mem_cons, List.not_mem_nil, or_false] at hx
  rcases hx with rfl | rfl
  · exact ⟨by simp [OkT], by simp [OkT]⟩
  · exact okm⟩
theorem rStep_go {s t : DShares} {x y : DScheme} {st : Int} (hn : x.num = 1) (h1 : 1 ≤ st) (h9 : st ≤ 9) (hs : scheme_Step x s st = some ((y, t, 0, ()), ())) (ho : (decide (y.stage = 6) || decide (y.stage = 9)) = false) (l : List DVerdict) (m : Nm) :
    registry_Step 1 st (plc s true x 1) (l, (), ()) m = some ((st, 0, ()), (plc t true y 1, (l, (), ()), m, (), (), ())) := by
  unfold registry_Step
  exact bindS (v := (true, (plc s true x 1, (l, (), ()), m, (), (), ()))) rfl (condF rfl (condF (dF (by omega)) (condF (dF (by omega)) (condF (dF (by omega)) (condF (dF (by omega)) (condF (dF (by dsimp only; omega)) (condF rfl (condF (dF (fun hh => hh hn)) (bindS hs (condF rfl (bindS (Over_p y) (condF ho rfl))))))))))))
theorem rStep_over {s t : DShares} {x y : DScheme} {st : Int} (hn : x.num = 1) (h1 : 1 ≤ st) (h9 : st ≤ 9) (hs : scheme_Step x s st = some ((y, t, 0, ()), ())) (ho : (decide (y.stage = 6) || decide (y.stage = 9)) = true) (l : List DVerdict) (m : Nm) :
    registry_Step 1 st (plc s true x 1) (l, (), ()) m = some ((st, 0, ()), (plc t false noSc 1, (l, (), ()), m, (), (), ())) := by
  unfold registry_Step
  exact bindS (v := (true, (plc s true x 1, (l, (), ()), m, (), (), ()))) rfl (condF rfl (condF (dF (by omega)) (condF (dF (by omega)) (condF (dF (by omega)) (condF (dF (by omega)) (condF (dF (by dsimp only; omega)) (condF rfl (condF (dF (fun hh => hh hn)) (bindS hs (condF rfl (bindS (Over_p y) (condT ho rfl))))))))))))
theorem rStep_no {s : DShares} {x : DScheme} (l : List DVerdict) (m : Nm) : registry_Step 1 2 (plc s false x 1) (l, (), ()) m = some ((0, 0, ()), (plc s false x 1, (l, (), ()), m, (), (), ())) := by
  unfold registry_Step
  exact bindS (v := (true, (plc s false x 1, (l, (), ()), m, (), (), ()))) rfl (condF rfl (condF (dF (by omega)) (condF (dF (by omega)) (condF (dF (by omega)) (condF (dF (by omega)) (condF (dF (by dsimp only; omega)) (condT rfl rfl)))))))
theorem New_p {s : DShares} (hs : OkSh s) (hr : rightW s = true) : registry_New s = some ((), (plc s false noSc 0, ([], (), ()), [], (), ())) := by
  unfold registry_New registry_copied
  exact bindS (Right_sh hs) (condF (by rw [hr]; rfl) (bindS rfl (bindS (bindS (clone100_p hs.len) rfl) rfl)))
theorem aLoop : loopM watershedlaw21_awake_l1 (((), 1, 0, 26, 2, ()), (plc aS true (aX 1) 1, ([], (), ()), [], (), ())) = some (.inr (((), 1, 0, 26, ()), (plc aT false noSc 1, ([], (), ()), [], (), (), ()))) := by
  have g2 := rStep_go (s := aS) (x := aX 1) (st := 2) rfl (by omega) (by omega) (Step_go (x := aX 1) (s := aS) (st := 2) okm okf (by decide +kernel) (by decide +kernel) (by decide) (by decide +kernel) (by decide)) (by decide) [] []
  have g3 := rStep_go (s := aS) (x := aX 2) (st := 3) rfl (by omega) (by omega) (Step_go (x := aX 2) (s := aS) (st := 3) okm okf (by decide +kernel) (by decide +kernel) (by decide) (by decide +kernel) (by decide)) (by decide) [] []
  have g4 := rStep_go (s := aS) (x := aX 3) (st := 4) rfl (by omega) (by omega) aTurn (by decide) [] []
  have g5 := rStep_go (s := aT) (x := aY 4) (st := 5) rfl (by omega) (by omega) (Step_go (x := aY 4) (s := aT) (st := 5) okm okT (by decide +kernel) (by decide +kernel) (by decide) (by decide +kernel) (by decide)) (by decide) [] []
  have g6 := rStep_over (s := aT) (x := aY 5) (st := 6) rfl (by omega) (by omega) (Step_go (x := aY 5) (s := aT) (st := 6) okm okT (by decide +kernel) (by decide +kernel) (by decide) (by decide +kernel) (by decide)) (by decide) [] []
  refine (loopM_next (a' := (((), 1, 0, 26, 3, ()), (plc aS true (aX 2) 1, ([], (), ()), [], (), ()))) ?_).trans ((loopM_next (a' := (((), 1, 0, 26, 4, ()), (plc aS true (aX 3) 1, ([], (), ()), [], (), ()))) ?_).trans ((loopM_next (a' := (((), 1, 0, 26, 5, ()), (plc aT true (aY 4) 1, ([], (), ()), [], (), ()))) ?_).trans ((loopM_next (a' := (((), 1, 0, 26, 6, ()), (plc aT true (aY 5) 1, ([], (), ()), [], (), ()))) ?_).trans ((loopM_next (a' := (((), 1, 0, 26, 7, ()), (plc aT false noSc 1, ([], (), ()), [], (), ()))) ?_).trans (loopM_end ?_)))))
  · unfold watershedlaw21_awake_l1
    exact condT rfl (bindS g2 (condF rfl (condF rfl rfl)))
  · unfold watershedlaw21_awake_l1
    exact condT rfl (bindS g3 (condF rfl (condF rfl rfl)))
  · unfold watershedlaw21_awake_l1
    exact condT rfl (bindS g4 (condF rfl (condF rfl rfl)))
  · unfold watershedlaw21_awake_l1
    exact condT rfl (bindS g5 (condF rfl (condF rfl rfl)))
  · unfold watershedlaw21_awake_l1
    exact condT rfl (bindS g6 (condF rfl (condF rfl rfl)))
  · unfold watershedlaw21_awake_l1
    exact condF rfl rfl
theorem rawake_p : watershedlaw21_awake = some (true, ()) := by
  have ok110 : OkT [110] := by simp [OkT]
  have hof : ofF aT [110] = some ⟨⟨[109], []⟩, 2, 2⟩ := by decide +kernel
  have hn := New_p (s := aS) okf (by decide +kernel)
  have b1 : registry_Begin ⟨[109], []⟩ 2 (plc aS false noSc 0) ([], (), ()) [] = some ((1, 0, ()), (plc aS true (aX 1) 1, ([], (), ()), [], (), (), ())) := by
    unfold registry_Begin
    exact bindS (v := (true, (plc aS false noSc 0, ([], (), ()), [], (), (), ()))) rfl (condF rfl (condF rfl (bindS aBegin (condF rfl rfl))))
  have b2 : registry_Begin ⟨[109], []⟩ 2 (plc aS true (aX 1) 1) ([], (), ()) [] = some ((0, 26, ()), (plc aS true (aX 1) 1, ([], (), ()), [], (), (), ())) := by
    unfold registry_Begin
    exact bindS (v := (true, (plc aS true (aX 1) 1, ([], (), ()), [], (), (), ()))) rfl (condF rfl (condT rfl rfl))
  have c1 : registry_Scheme (plc aT false noSc 1) ([], (), ()) [] = some ((noSc, false, ()), (plc aT false noSc 1, ([], (), ()), [], (), (), ())) := by
    unfold registry_Scheme
    exact bindS (v := (true, (plc aT false noSc 1, ([], (), ()), [], (), (), ()))) rfl (condF rfl rfl)
  have c2 : registry_Shares (plc aT false noSc 1) ([], (), ()) [] = some (aT, (plc aT false noSc 1, ([], (), ()), [], (), (), ())) := by
    unfold registry_Shares registry_copied
    exact bindS (v := (true, (plc aT false noSc 1, ([], (), ()), [], (), (), ()))) rfl (condF rfl (bindS (bindS (clone100_p okT.len) rfl) rfl))
  unfold watershedlaw21_awake
  refine bindS First_p (bindS hn (bindS b1 (bindS b2 (bindS aLoop ?_))))
  refine bindS c1 (bindS (rStep_no [] []) (bindS c2 (bindS (Of_o okT ok110) ?_)))
  dsimp only
  rw [hof]
  rfl
end Go.Proofs.YtaihdjknneiciaaGreat
/- RegistryApart, plainly (round 21Z). -/
namespace Go.Proofs.YtaihdjknneiciaaGreat
open Go.RowKit
set_option maxRecDepth 100000
set_option linter.unusedVariables false
set_option linter.unusedSimpArgs false
/-- Three registries behind deeds: the plan of one, the book of the other. -/
theorem deeds_p {xs : List DDeed} (hlen : xs.length ≤ 60) (hx : ∀ d ∈ xs, OkD d) {s0 : DShares} {u0 : Bool} {x0 : DScheme} {n0 : Int} (h0 : PlOk s0 u0 x0 n0) :
    ∃ s u x n l m, PlOk s u x n ∧ BookOk l m ∧ l.length ≤ 60 ∧
      loopM watershedlaw21_RegistryApart_l1 ((xs, (), (), (), 0, ()), (plc s0 u0 x0 n0, plc s0 u0 x0 n0, plc s0 u0 x0 n0, ([], (), ()), ([], (), ()), ([], (), ()), [], [], [], (), (), (), ())) =
        some (.inr (((), (), (), ()), (plc s u x n, plc s u x n, plc s0 u0 x0 n0, (l, (), ()), ([], (), ()), (l, (), ()), m, [], m, (), (), (), (), (), (), ()))) := by
  have key : ∃ z, loopM watershedlaw21_RegistryApart_l1 ((xs, (), (), (), 0, ()), (plc s0 u0 x0 n0, plc s0 u0 x0 n0, plc s0 u0 x0 n0, ([], (), ()), ([], (), ()), ([], (), ()), [], [], [], (), (), (), ())) = some z ∧
      ∃ s u x n l m, PlOk s u x n ∧ BookOk l m ∧ l.length ≤ 60 ∧ z = .inr (((), (), (), ()), (plc s u x n, plc s u x n, plc s0 u0 x0 n0, (l, (), ()), ([], (), ()), (l, (), ()), m, [], m, (), (), (), (), (), (), ())) := by
    refine loopM_spec (fun k a => ∃ (i : Nat) (s : DShares) (u : Bool) (x : DScheme) (n : Int) (l : List DVerdict) (m : Nm), a = ((xs, (), (), (), (i : Int), ()), (plc s u x n, plc s u x n, plc s0 u0 x0 n0, (l, (), ()), ([], (), ()), (l, (), ()), m, [], m, (), (), (), ())) ∧ i ≤ xs.length ∧ PlOk s u x n ∧ BookOk l m ∧ l.length ≤ i ∧ k = xs.length - i) _ ?_ (n := xs.length) ⟨0, s0, u0, x0, n0, [], [], rfl, Nat.zero_le _, h0, BookOk.nil, Nat.le_refl _, rfl⟩
    rintro k a ⟨i, s, u, x, n, l, m, rfl, g1, g2, g3, g4, rfl⟩
    unfold watershedlaw21_RegistryApart_l1
    by_cases hi : i < xs.length
    · left
      obtain ⟨d1, d2, d3⟩ := hx _ (List.getElem_mem hi)
      obtain ⟨q, hq, ⟨h6, r, l', m', b1, b2, b3⟩ | ⟨h6, r, s', u', x', n', p1, p2⟩⟩ := do_p g2 g3 (by omega) d1 d2 d3
      · refine ⟨xs.length - (i + 1), _, by omega, condT (dT (by dsimp only; omega)) (bindS (getI_lt hi) (bindS (b3 s u x n) (bindS (getI_lt hi) (bindS hq (condT (dT h6) (bindS (getI_lt hi) (bindS (b3 s0 u0 x0 n0) (condF (dF (fun h => h rfl)) (condF (dF (fun h => h rfl)) rfl))))))))), i + 1, s, u, x, n, l', m', ?_, by omega, g2, b1, by omega, rfl⟩
        dsimp only
        rw [w64 (by omega)]; rfl
      · refine ⟨xs.length - (i + 1), _, by omega, condT (dT (by dsimp only; omega)) (bindS (getI_lt hi) (bindS (p2 l m) (bindS (getI_lt hi) (bindS hq (condF (dF h6) (bindS (getI_lt hi) (bindS (p2 [] []) (condF (dF (fun h => h rfl)) (condF (dF (fun h => h rfl)) rfl))))))))), i + 1, s', u', x', n', l, m, ?_, by omega, p1, g3, by omega, rfl⟩
        dsimp only
        rw [w64 (by omega)]; rfl
    · right
      exact ⟨_, condF (dF (by dsimp only; omega)) rfl, s, u, x, n, l, m, g2, g3, by omega, rfl⟩
  obtain ⟨z, hz, s, u, x, n, l, m, q1, q2, q3, rfl⟩ := key
  exact ⟨s, u, x, n, l, m, q1, q2, q3, hz⟩
theorem rOf_p {l : List DVerdict} {m : Nm} (h : BookOk l m) {i : Nat} (hi : i < l.length) (s : DShares) (u : Bool) (x : DScheme) (n : Int) : ∃ st, registry_Of l[i].name (plc s u x n) (l, (), ()) m = some ((l[i], true, ()), st) ∧ st.1 = plc s u x n ∧ st.2.1 = (l, (), ()) ∧ st.2.2.1 = m := by
  rcases bOf_p h l[i].name with ⟨h1, h2⟩ | ⟨k, hk, h1, h2⟩
  · rw [h.at_ i hi] at h1; cases h1
  · have e : k = i := by
      have a := h.at_ k hk
      rw [h1, h.at_ i hi] at a
      injection a with a
      omega
    subst e
    unfold registry_Of
    exact ⟨_, bindS (v := (true, (plc s u x n, (l, (), ()), m, (), (), ()))) rfl (condF rfl (bindS h2 rfl)), rfl, rfl, rfl⟩
theorem look_loop {l : List DVerdict} {m : Nm} (h : BookOk l m) (hl : l.length ≤ 1000) (s : DShares) (u : Bool) (x : DScheme) (n : Int) :
    ∃ z, loopM watershedlaw21_RegistryApart_l2 (((), l, l, 0, ()), (plc s u x n, (l, (), ()), m, (), (), (), ())) = some (.inr z) := by
  have hrun := loopM_run (step := watershedlaw21_RegistryApart_l2) (fun i : Nat => (((), l, l, (i : Int), ()), (plc s u x n, (l, (), ()), m, (), (), (), ()))) (N := l.length) (b := .inr (((), (plc s u x n, (l, (), ()), m, (), (), (), (), ())))) (fun i hi => ?_) ?_
  · exact ⟨_, hrun⟩
  · unfold watershedlaw21_RegistryApart_l2
    obtain ⟨st, o1, o2, o3, o4⟩ := rOf_p h hi s u x n
    obtain ⟨st1, st2, st3, st4⟩ := st
    dsimp only at o2 o3 o4
    have o2 := o2.symm
    have o3 := o3.symm
    have o4 := o4.symm
    subst o2 o3 o4
    have hv := same2_p (h.few _ (List.getElem_mem hi))
    refine condT (dT (by dsimp only; omega)) (bindS (getI_lt hi) (bindS o1 (condF rfl (bindS (getI_lt hi) (bindS (getI_lt hi) (bindS hv (condF rfl (bindS (getI_lt hi) (bindS hv (condF rfl ?_))))))))))
    dsimp only
    rw [w64 (by omega)]
    rfl
  · unfold watershedlaw21_RegistryApart_l2
    exact condF (dF (by dsimp only; omega)) rfl
theorem FirstG_p (g : Int) : ∃ s, shares_First g = some (s, ()) ∧ OkSh s ∧ rightW s = true := by
  unfold shares_First
  rw [within_p, Option.bind_some]
  have ok1 : ∀ k : Int, OkSh ⟨1, [⟨⟨[], []⟩, k, 1⟩]⟩ := fun k => ⟨by simp, by simpa using ok0⟩
  by_cases h : 1 ≤ g ∧ g ≤ 4
  · refine ⟨⟨1, [⟨⟨[], []⟩, g, 1⟩]⟩, condF (by rw [dT h.1, dT h.2]; rfl) (bindS rfl rfl), ok1 g, ?_⟩
    have : g = 1 ∨ g = 2 ∨ g = 3 ∨ g = 4 := by omega
    rcases this with rfl | rfl | rfl | rfl <;> decide +kernel
  · refine ⟨⟨1, [⟨⟨[], []⟩, 1, 1⟩]⟩, condT ?_ (bindS rfl rfl), ok1 1, by decide +kernel⟩
    by_cases h1 : 1 ≤ g
    · rw [dF (fun h2 => h ⟨h1, h2⟩ : ¬ g ≤ 4)]; simp
    · rw [dF h1]; rfl
theorem RegistryApart_p (x0 : Int) (x1 : List DDeed) (k0 : ok_Ii64 x0) (k1 : ok_LDDeed x1) : watershedlaw21_RegistryApart x0 x1 = some (true, ()) := by
  obtain ⟨b, b1, b2⟩ := light_p k1.len (fun d hd => ⟨.of (k1.all d hd).2.1, fun r hr => (((k1.all d hd).2.2.2.2.2.1.2.2.2.1).all r hr).1⟩)
  unfold watershedlaw21_RegistryApart
  refine bindS rawake_p (condF rfl (bindS b1 ?_))
  cases b with
  | false => exact condT rfl rfl
  | true =>
  obtain ⟨h60, hD⟩ := b2 rfl
  obtain ⟨s0, f1, f2, f3⟩ := FirstG_p x0
  have hn := New_p f2 f3
  have hP : PlOk s0 false noSc 0 := ⟨f2, f3, ⟨Nat.zero_le _, Nat.zero_le _⟩, by simp [noSc, rightB], by omega, by omega⟩
  obtain ⟨s, u, x, n, l, m, q1, q2, q3, q4⟩ := deeds_p h60 hD hP
  obtain ⟨st1, r1, r2, r3, r4⟩ := Rulings_p q2 (by omega) s u x n
  obtain ⟨st2, t1, t2, t3, t4⟩ := Rulings_p q2 (by omega) s0 false noSc 0
  obtain ⟨a1, a2, a3, a4⟩ := st1
  obtain ⟨c1, c2, c3, c4⟩ := st2
  dsimp only at r2 r3 r4 t2 t3 t4
  have r2 := r2.symm
  have r3 := r3.symm
  have r4 := r4.symm
  have t2 := t2.symm
  have t3 := t3.symm
  have t4 := t4.symm
  subst r2 r3 r4 t2 t3 t4
  obtain ⟨v, v1, v2⟩ := View_p q1
  obtain ⟨z, hz⟩ := look_loop q2 (by omega) s u x n
  have hlast : ∀ (l : List DVerdict) (m : Nm), registry_Last (plc s u x n) (l, (), ()) m = some (n, (plc s u x n, (l, (), ()), m, (), (), ())) := fun l m => by
    unfold registry_Last
    exact bindS (v := (true, (plc s u x n, (l, (), ()), m, (), (), ()))) rfl (condF rfl rfl)
  refine condF rfl (bindS f1 (bindS hn (bindS f1 (bindS hn (bindS f1 (bindS hn (bindS q4 ?_)))))))
  refine bindS r1 (bindS t1 (condF (by simp) (bindS (v2 l m) (bindS (v2 [] []) (bindS (bytes_p (l := v) (by omega)) (condF rfl (bindS (hlast l m) (bindS (hlast [] []) (condF (by simp) (bindS hz rfl))))))))))
end Go.Proofs.YtaihdjknneiciaaGreat
