/- The reader of wire, and the document's, plainly. -/
import Derived.Test.YtaihdjknneiciaaGreatWd1
namespace Go.Proofs.YtaihdjknneiciaaGreat
open Go.RowKit
set_option maxRecDepth 100000
set_option linter.unusedVariables false
set_option linter.unusedSimpArgs false
/-- Readers, by what is left; none: they failed. -/
def rdR : Option (List UInt8) → DReader
  | some l => ⟨⟨true, false, l⟩⟩
  | none => ⟨⟨true, true, []⟩⟩
def numO (most : Nat) : Option (List UInt8) → Int × Option (List UInt8)
  | none => (0, none)
  | some l => match numR most l with
    | some p => ((p.1 : Int), some p.2)
    | none => (0, none)
theorem numO_no {most : Nat} {l : List UInt8} (h : getF 9 0 0 l = none) : numO most (some l) = (0, none) := by
  show (match (getF 9 0 0 l).bind (fun p => if most < p.1 then none else some p) with | some p => ((p.1 : Int), some p.2) | none => (0, none)) = _
  rw [h]; rfl
theorem numO_yes {most : Nat} {l : List UInt8} {p : Nat × List UInt8} (h : getF 9 0 0 l = some p) : numO most (some l) = if most < p.1 then (0, none) else ((p.1 : Int), some p.2) := by
  show (match (getF 9 0 0 l).bind (fun p => if most < p.1 then none else some p) with | some p => ((p.1 : Int), some p.2) | none => (0, none)) = _
  rw [h]
  show (match (if most < p.1 then none else some p) with | some p => ((p.1 : Int), some p.2) | none => (0, none)) = _
  by_cases h9 : most < p.1
  · rw [if_pos h9, if_pos h9]
  · rw [if_neg h9, if_neg h9]
theorem take1_p (b : UInt8) (l : List UInt8) : wire_take_2 1 (rdR (some (b :: l))) = some ([b], (rdR (some l), ())) := by
  unfold wire_take_2 rdR
  refine condF (dF (by dsimp only [List.length_cons]; omega)) (iteT (by dsimp only [List.length_cons]; omega) (iteT (by dsimp only [List.length_cons]; omega) ?_))
  have h : (((b :: l).length : Int)).toNat - (1 : Int).toNat = l.length := by rw [List.length_cons]; omega
  dsimp only
  rw [h]
  show some ([b], ((⟨⟨true, false, l.take l.length⟩⟩ : DReader), ())) = _
  rw [List.take_length]
theorem take0_p {n : Int} (hn : 0 < n) : wire_take_2 n (rdR (some [])) = some ([], (rdR none, ())) := by
  unfold wire_take_2 rdR
  exact condT (dT hn) rfl
theorem numLoop_p {most : Nat} (f : ((Unit) × (Int) × (Int) × (Int) × Unit) × ((DReader) × Unit) → Option ((((Unit) × (Int) × (Int) × (Int) × Unit) × ((DReader) × Unit)) ⊕ ((((Int) × Unit) × ((DReader) × Unit)) ⊕ (((Unit) × Unit) × ((DReader) × Unit))))) (hf : f = wire_Number_2_l1) (l : List UInt8) :
    ∃ z, loopM f (((), (most : Int), 0, 0, ()), (rdR (some l), ())) = some z ∧ (z = .inl (((numO most (some l)).1, ()), (rdR (numO most (some l)).2, ())) ∨ ((∃ l', z = .inr (((), ()), (rdR (some l'), ()))) ∧ numO most (some l) = (0, none))) := by
  subst hf
  refine loopM_spec (fun m a => ∃ (i acc : Nat) (r : List UInt8), a = (((), (most : Int), (acc : Int), ((7 * i : Nat) : Int), ()), (rdR (some r), ())) ∧ i ≤ 9 ∧ acc < 2 ^ (7 * i) ∧ m = 9 - i ∧ getF 9 0 0 l = getF (9 - i) i acc r) _ ?_ (n := 9) ⟨0, 0, l, rfl, by omega, by omega, rfl, rfl⟩
  rintro m a ⟨i, acc, r, rfl, h1, h2, rfl, h3⟩
  unfold wire_Number_2_l1
  have hno : getF (9 - i) i acc r = none → numO most (some l) = (0, none) := by
    intro h
    exact numO_no (by rw [h3, h])
  by_cases hi : i < 9
  · cases r with
    | nil =>
      right
      refine ⟨_, condT (dT (by (try dsimp only); omega)) (bindS (take0_p (by omega)) (condT rfl rfl)), .inl ?_⟩
      rw [hno (by rw [show 9 - i = (8 - i) + 1 by omega]; rfl)]
    | cons b r =>
      have hk : getF (9 - i) i acc (b :: r) = if b.toNat < 128 then (if (0 < i ∧ b.toNat = 0) ∨ top < acc + b.toNat % 128 * 2 ^ (7 * i) then none else some (acc + b.toNat % 128 * 2 ^ (7 * i), r)) else getF (8 - i) (i + 1) (acc + b.toNat % 128 * 2 ^ (7 * i)) r := by
        rw [show 9 - i = (8 - i) + 1 by omega]; rfl
      have hb := b.toNat_lt
      have hy := byte_in b acc i (by omega) h2 (((7 * i : Nat) : Int)) (by rw [Int.toNat_natCast])
      by_cases h5 : b.toNat < 128
      · right
        rw [if_pos h5] at hk
        by_cases h6 : 0 < i ∧ b.toNat = 0
        · rw [if_pos (.inl h6)] at hk
          refine ⟨_, condT (dT (by (try dsimp only); omega)) (bindS (take1_p b r) (condF rfl (bindS (v := b) rfl (iteF (by (try dsimp only); omega) (bindS (v := b) rfl (condT (dT (by omega)) (condT (dT (by (try dsimp only); omega)) (bindS (v := b) rfl (condT (dT (by omega)) (bindS rfl rfl)))))))))), .inl ?_⟩
          rw [hno hk]
          rfl
        · by_cases h7 : top < acc + b.toNat % 128 * 2 ^ (7 * i)
          · rw [if_pos (.inr h7)] at hk
            rw [hno hk]
            have h7' : (4611686018427387903 : Int) < ((acc + b.toNat % 128 * 2 ^ (7 * i) : Nat) : Int) := by unfold top at h7; omega
            refine ⟨.inl ((0, ()), (rdR none, ())), condT (dT (by (try dsimp only); omega)) (bindS (take1_p b r) (condF rfl (bindS (v := b) rfl (iteF (by (try dsimp only); omega) ?_)))), .inl rfl⟩
            dsimp only
            rw [hy]
            by_cases h8 : 0 < i
            · exact bindS (v := b) rfl (condT (dT (by omega)) (condT (dT (by omega)) (bindS (v := b) rfl (condF (dF (by omega)) (condT (dT h7') rfl)))))
            · exact bindS (v := b) rfl (condT (dT (by omega)) (condF (dF (by omega)) (condT (dT h7') rfl)))
          · rw [if_neg (by omega)] at hk
            have h7' : ¬ (4611686018427387903 : Int) < ((acc + b.toNat % 128 * 2 ^ (7 * i) : Nat) : Int) := by unfold top at h7; omega
            have hnum : numO most (some l) = if most < acc + b.toNat % 128 * 2 ^ (7 * i) then (0, none) else (((acc + b.toNat % 128 * 2 ^ (7 * i) : Nat) : Int), some r) := by
              exact numO_yes (by rw [h3, hk])
            rw [hnum]
            by_cases h9 : most < acc + b.toNat % 128 * 2 ^ (7 * i)
            · rw [if_pos h9]
              have h9' : ((most : Nat) : Int) < ((acc + b.toNat % 128 * 2 ^ (7 * i) : Nat) : Int) := by omega
              refine ⟨.inl ((0, ()), (rdR none, ())), condT (dT (by (try dsimp only); omega)) (bindS (take1_p b r) (condF rfl (bindS (v := b) rfl (iteF (by (try dsimp only); omega) ?_)))), .inl rfl⟩
              dsimp only
              rw [hy]
              by_cases h8 : 0 < i
              · exact bindS (v := b) rfl (condT (dT (by omega)) (condT (dT (by omega)) (bindS (v := b) rfl (condF (dF (by omega)) (condF (dF h7') (condT (dT h9') rfl))))))
              · exact bindS (v := b) rfl (condT (dT (by omega)) (condF (dF (by omega)) (condF (dF h7') (condT (dT h9') rfl))))
            · rw [if_neg h9]
              have h9' : ¬ ((most : Nat) : Int) < ((acc + b.toNat % 128 * 2 ^ (7 * i) : Nat) : Int) := by omega
              refine ⟨.inl ((((acc + b.toNat % 128 * 2 ^ (7 * i) : Nat) : Int), ()), (rdR (some r), ())), condT (dT (by (try dsimp only); omega)) (bindS (take1_p b r) (condF rfl (bindS (v := b) rfl (iteF (by (try dsimp only); omega) ?_)))), .inl rfl⟩
              dsimp only
              rw [hy]
              by_cases h8 : 0 < i
              · exact bindS (v := b) rfl (condT (dT (by omega)) (condT (dT (by omega)) (bindS (v := b) rfl (condF (dF (by omega)) (condF (dF h7') (condF (dF h9') rfl))))))
              · exact bindS (v := b) rfl (condT (dT (by omega)) (condF (dF (by omega)) (condF (dF h7') (condF (dF h9') rfl))))
      · left
        rw [if_neg h5] at hk
        refine ⟨9 - (i + 1), (((), (most : Int), ((acc + b.toNat % 128 * 2 ^ (7 * i) : Nat) : Int), ((7 * (i + 1) : Nat) : Int), ()), (rdR (some r), ())), by omega, condT (dT (by (try dsimp only); omega)) (bindS (take1_p b r) (condF rfl (bindS (v := b) rfl (iteF (by (try dsimp only); omega) ?_)))), i + 1, _, r, rfl, by omega, ?_, rfl, ?_⟩
        · dsimp only
          rw [hy, w64 (n := ((7 * i : Nat) : Int) + 7) (by omega)]
          exact bindS (v := b) rfl (condF (dF (by omega)) rfl)
        · have hm : b.toNat % 128 * 2 ^ (7 * i) ≤ 127 * 2 ^ (7 * i) := Nat.mul_le_mul_right _ (by omega)
          have hp : 2 ^ (7 * (i + 1)) = 128 * 2 ^ (7 * i) := by rw [Nat.mul_add, Nat.pow_add, Nat.mul_comm]
          omega
        · rw [h3, hk, show 8 - i = 9 - (i + 1) by omega]
  · right
    obtain rfl : i = 9 := by omega
    exact ⟨_, condF (dF (by (try dsimp only); omega)) rfl, .inr ⟨⟨r, rfl⟩, hno rfl⟩⟩
theorem Num2_p (most : Nat) (o : Option (List UInt8)) : wire_Number_2 (most : Int) (rdR o) = some ((numO most o).1, (rdR (numO most o).2, ())) := by
  unfold wire_Number_2
  cases o with
  | none => exact bindS (v := (false, (rdR none, ()))) rfl (condT rfl rfl)
  | some l =>
    refine bindS (v := (true, (rdR (some l), ()))) rfl (condF rfl ?_)
    obtain ⟨z, hz, rfl | ⟨⟨l', rfl⟩, h2⟩⟩ := numLoop_p (most := most) _ rfl l
    · exact bindS hz rfl
    · rw [h2]
      exact bindS hz rfl
theorem Num1_p (most : Nat) (l : List UInt8) : wire_Number (most : Int) (true, false, l, ()) = some ((numO most (some l)).1, (rdR (numO most (some l)).2, (), ())) := by
  unfold wire_Number
  refine bindS (v := (true, ((true, false, l, ()), (), (), ()))) rfl (condF rfl ?_)
  obtain ⟨z, hz, rfl | ⟨⟨l', rfl⟩, h2⟩⟩ := numLoop_p (most := most) wire_Number_l1 rfl l
  · exact bindS hz rfl
  · rw [h2]
    exact bindS hz rfl
/-- A row of bytes, read. -/
def rowO (most : Nat) (o : Option (List UInt8)) : List UInt8 × Option (List UInt8) := match (numO most o).2 with
  | none => ([], none)
  | some l => if (l.length : Int) < (numO most o).1 then ([], none) else (l.take (numO most o).1.toNat, some (l.drop (numO most o).1.toNat))
theorem numO_le {most : Nat} {o : Option (List UInt8)} {l : List UInt8} (h : (numO most o).2 = some l) : 0 ≤ (numO most o).1 ∧ (numO most o).1 ≤ most := by
  unfold numO at h ⊢
  cases o with
  | none => cases h
  | some x =>
    dsimp only at h ⊢
    cases hn : numR most x with
    | none => rw [hn] at h; cases h
    | some p =>
      unfold numR at hn
      obtain ⟨q, hq, hn⟩ := bind_some' hn
      split at hn
      · cases hn
      · injection hn with hn
        subst hn
        dsimp only
        omega
theorem take_p {n : Nat} {l : List UInt8} : wire_take_2 (n : Int) (rdR (some l)) = some (if l.length < n then ([], (rdR none, ())) else (l.take n, (rdR (some (l.drop n)), ()))) := by
  unfold wire_take_2 rdR
  by_cases h : l.length < n
  · rw [if_pos h]
    exact condT (dT (by (try dsimp only); omega)) rfl
  · rw [if_neg h]
    refine condF (dF (by (try dsimp only); omega)) (iteT (by (try dsimp only); omega) (iteT (by (try dsimp only); omega) ?_))
    have h1 : ((l.length : Int)).toNat - ((n : Int)).toNat = (l.drop n).length := by rw [List.length_drop]; omega
    dsimp only
    rw [h1, Int.toNat_natCast, List.take_length]
    rfl
theorem Row_p (most : Nat) (hm : most ≤ 1000000000) (o : Option (List UInt8)) : wire_Row (most : Int) (rdR o) = some ((rowO most o).1, (rdR (rowO most o).2, (), ())) := by
  unfold wire_Row
  refine bindS (Num2_p most o) ?_
  unfold rowO
  cases h : (numO most o).2 with
  | none => exact bindS (v := (false, (rdR none, ()))) rfl (condT rfl rfl)
  | some l =>
    obtain ⟨h1, h2⟩ := numO_le h
    obtain ⟨n, hn⟩ : ∃ n : Nat, (numO most o).1 = (n : Int) := ⟨(numO most o).1.toNat, by omega⟩
    refine bindS (v := (true, (rdR (some l), ()))) rfl (condF rfl (bindS (v := if l.length < n then ([], (rdR none, ())) else (l.take n, (rdR (some (l.drop n)), ()))) (by (try dsimp only); rw [hn]; exact take_p) ?_))
    dsimp only
    rw [hn, Int.toNat_natCast]
    by_cases hl : l.length < n
    · rw [if_pos hl, if_pos (by omega)]
      exact bindS (v := ([], ((), ()))) rfl rfl
    · rw [if_neg hl, if_neg (by omega)]
      have hlen : (l.take n).length ≤ n := by rw [List.length_take]; omega
      refine bindS (v := (l.take n, ((), ()))) (by unfold clone81; exact iteT (by (try dsimp only); omega) rfl) rfl
theorem Text_p (most : Nat) (hm : most ≤ 1000000000) (o : Option (List UInt8)) : wire_Text (most : Int) (rdR o) = some ((rowO most o).1, (rdR (rowO most o).2, ())) := by
  unfold wire_Text
  exact bindS (Row_p most hm o) rfl
/-- What is written, read. -/
theorem getF_num : ∀ (k i acc n : Nat) (r : List UInt8), n < 128 ^ (k + 1) → (0 < i → 0 < n) → acc + n * 2 ^ (7 * i) ≤ top → getF (k + 1) i acc (numF n ++ r) = some (acc + n * 2 ^ (7 * i), r) := by
  intro k
  induction k with
  | zero =>
    intro i acc n r h h0 ht
    have hn : n < 128 := by simpa using h
    rw [numF_lo hn, List.singleton_append]
    have hb : (UInt8.ofNat n).toNat = n := by rw [UInt8.toNat_ofNat']; omega
    have hm : n % 128 = n := Nat.mod_eq_of_lt hn
    unfold getF
    dsimp only
    rw [hb, hm, if_pos hn, if_neg (by omega)]
  | succ k ih =>
    intro i acc n r h h0 ht
    by_cases hn : n < 128
    · rw [numF_lo hn, List.singleton_append]
      have hb : (UInt8.ofNat n).toNat = n := by rw [UInt8.toNat_ofNat']; omega
      have hm : n % 128 = n := Nat.mod_eq_of_lt hn
      unfold getF
      dsimp only
      rw [hb, hm, if_pos hn, if_neg (by omega)]
    · rw [numF_hi hn, List.cons_append]
      have hb : (UInt8.ofNat (n % 128 + 128)).toNat = n % 128 + 128 := by rw [UInt8.toNat_ofNat']; omega
      have hm : (n % 128 + 128) % 128 = n % 128 := by omega
      have hp : 2 ^ (7 * (i + 1)) = 128 * 2 ^ (7 * i) := by rw [Nat.mul_add, Nat.pow_add, Nat.mul_comm]
      have hsum : acc + n % 128 * 2 ^ (7 * i) + n / 128 * 2 ^ (7 * (i + 1)) = acc + n * 2 ^ (7 * i) := by
        rw [hp, ← Nat.mul_assoc, Nat.add_assoc, ← Nat.add_mul]
        congr 2
        omega
      unfold getF
      dsimp only
      rw [hb, hm, if_neg (by omega), ih (i + 1) _ (n / 128) r (by rw [Nat.pow_succ] at h; omega) (by omega) (by rw [hsum]; exact ht), hsum]
theorem numO_num {most n : Nat} (r : List UInt8) (h : n ≤ most) (ht : n ≤ top) : numO most (some (numF n ++ r)) = ((n : Int), some r) := by
  have := getF_num 8 0 0 n r (by unfold top at ht; omega) (by omega) (by simpa using ht)
  simp only [Nat.mul_zero, Nat.pow_zero, Nat.mul_one, Nat.zero_add] at this
  rw [numO_yes this, if_neg (by (try dsimp only); omega)]
theorem rowO_row {most : Nat} {t : List UInt8} (r : List UInt8) (h : t.length ≤ most) (hm : most ≤ 1000000) : rowO most (some (rowF t ++ r)) = (t, some r) := by
  unfold rowO rowF
  rw [List.append_assoc, numO_num (t ++ r) h (by unfold top; omega)]
  dsimp only
  rw [if_neg (by rw [List.length_append]; omega), Int.toNat_natCast, List.take_left, List.drop_left]
end Go.Proofs.YtaihdjknneiciaaGreat
