/- The reader of wire, and the document's, plainly. -/
import Derived.Test.YtlmmpfbdgiokmaaWb
namespace Go.Proofs.Ytlmmpfbdgiokmaa
open Go.RowKit
set_option maxRecDepth 100000
set_option linter.unusedVariables false
set_option linter.unusedSimpArgs false
/-- Readers, by what is left; none: they failed. -/
def rdR : Option (List UInt8) → DReader
  | some l => ⟨⟨true, false, l⟩⟩
  | none => ⟨⟨true, true, []⟩⟩
def rfR : Option (List UInt8) → DReader2
  | some l => ⟨l, false⟩
  | none => ⟨[], true⟩
def numO (most : Nat) : Option (List UInt8) → Int × Option (List UInt8)
  | none => (0, none)
  | some l => match numR most l with
    | some p => ((p.1 : Int), some p.2)
    | none => (0, none)
theorem numO_no {most : Nat} {l : List UInt8} (h : getF 9 0 0 l = none) : numO most (some l) = (0, none) := by
  show (match (getF 9 0 0 l).bind (fun p => if most < p.1 then none else some p) with | some p => ((p.1 : Int), some p.2) | none => (0, none)) = _
  rw [h]; rfl
theorem numO_yes {most : Nat} {l : List UInt8} {p : Nat × List UInt8} (h : getF 9 0 0 l = some p) : numO most (some l) = if most < p.1 then (0, none) else ((p.1 : Int), some p.2) := by
  show (match (getF 9 0 0 l).bind (fun p => if most < p.1 then none else some p) with | some p => ((p.1 : Int), some p.2) | none => (0, none)) = _
  rw [h]
  show (match (if most < p.1 then none else some p) with | some p => ((p.1 : Int), some p.2) | none => (0, none)) = _
  by_cases h9 : most < p.1
  · rw [if_pos h9, if_pos h9]
  · rw [if_neg h9, if_neg h9]
theorem take1_p (b : UInt8) (l : List UInt8) : wire_take_2 1 (rdR (some (b :: l))) = some ([b], (rdR (some l), ())) := by
  unfold wire_take_2 rdR
  refine condF (dF (by dsimp only [List.length_cons]; omega)) (iteT (by dsimp only [List.length_cons]; omega) (iteT (by dsimp only [List.length_cons]; omega) ?_))
  have h : (((b :: l).length : Int)).toNat - (1 : Int).toNat = l.length := by rw [List.length_cons]; omega
  dsimp only
  rw [h]
  show some ([b], ((⟨⟨true, false, l.take l.length⟩⟩ : DReader), ())) = _
  rw [List.take_length]
theorem take0_p {n : Int} (hn : 0 < n) : wire_take_2 n (rdR (some [])) = some ([], (rdR none, ())) := by
  unfold wire_take_2 rdR
  exact condT (dT hn) rfl
theorem numLoop_p {most : Nat} (f : ((Unit) × (Int) × (Int) × (Int) × Unit) × ((DReader) × Unit) → Option ((((Unit) × (Int) × (Int) × (Int) × Unit) × ((DReader) × Unit)) ⊕ ((((Int) × Unit) × ((DReader) × Unit)) ⊕ (((Unit) × Unit) × ((DReader) × Unit))))) (hf : f = wire_Number_2_l1) (l : List UInt8) :
    ∃ z, loopM f (((), (most : Int), 0, 0, ()), (rdR (some l), ())) = some z ∧ (z = .inl (((numO most (some l)).1, ()), (rdR (numO most (some l)).2, ())) ∨ ((∃ l', z = .inr (((), ()), (rdR (some l'), ()))) ∧ numO most (some l) = (0, none))) := by
  subst hf
  refine loopM_spec (fun m a => ∃ (i acc : Nat) (r : List UInt8), a = (((), (most : Int), (acc : Int), ((7 * i : Nat) : Int), ()), (rdR (some r), ())) ∧ i ≤ 9 ∧ acc < 2 ^ (7 * i) ∧ m = 9 - i ∧ getF 9 0 0 l = getF (9 - i) i acc r) _ ?_ (n := 9) ⟨0, 0, l, rfl, by omega, by omega, rfl, rfl⟩
  rintro m a ⟨i, acc, r, rfl, h1, h2, rfl, h3⟩
  unfold wire_Number_2_l1
  have hno : getF (9 - i) i acc r = none → numO most (some l) = (0, none) := by
    intro h
    exact numO_no (by rw [h3, h])
  by_cases hi : i < 9
  · cases r with
    | nil =>
      right
      refine ⟨_, condT (dT (by dsimp only; omega)) (bindS (take0_p (by omega)) (condT rfl rfl)), .inl ?_⟩
      rw [hno (by rw [show 9 - i = (8 - i) + 1 by omega]; rfl)]
    | cons b r =>
      have hk : getF (9 - i) i acc (b :: r) = if b.toNat < 128 then (if (0 < i ∧ b.toNat = 0) ∨ top < acc + b.toNat % 128 * 2 ^ (7 * i) then none else some (acc + b.toNat % 128 * 2 ^ (7 * i), r)) else getF (8 - i) (i + 1) (acc + b.toNat % 128 * 2 ^ (7 * i)) r := by
        rw [show 9 - i = (8 - i) + 1 by omega]; rfl
      have hb := b.toNat_lt
      have hy := byte_in b acc i (by omega) h2 (((7 * i : Nat) : Int)) (by rw [Int.toNat_natCast])
      by_cases h5 : b.toNat < 128
      · right
        rw [if_pos h5] at hk
        by_cases h6 : 0 < i ∧ b.toNat = 0
        · rw [if_pos (.inl h6)] at hk
          refine ⟨_, condT (dT (by dsimp only; omega)) (bindS (take1_p b r) (condF rfl (bindS (v := b) rfl (iteF (by dsimp only; omega) (bindS (v := b) rfl (condT (dT (by omega)) (condT (dT (by dsimp only; omega)) (bindS (v := b) rfl (condT (dT (by omega)) (bindS rfl rfl)))))))))), .inl ?_⟩
          rw [hno hk]
          rfl
        · by_cases h7 : top < acc + b.toNat % 128 * 2 ^ (7 * i)
          · rw [if_pos (.inr h7)] at hk
            rw [hno hk]
            have h7' : (4611686018427387903 : Int) < ((acc + b.toNat % 128 * 2 ^ (7 * i) : Nat) : Int) := by unfold top at h7; omega
            refine ⟨.inl ((0, ()), (rdR none, ())), condT (dT (by dsimp only; omega)) (bindS (take1_p b r) (condF rfl (bindS (v := b) rfl (iteF (by dsimp only; omega) ?_)))), .inl rfl⟩
            dsimp only
            rw [hy]
            by_cases h8 : 0 < i
            · exact bindS (v := b) rfl (condT (dT (by omega)) (condT (dT (by omega)) (bindS (v := b) rfl (condF (dF (by omega)) (condT (dT h7') rfl)))))
            · exact bindS (v := b) rfl (condT (dT (by omega)) (condF (dF (by omega)) (condT (dT h7') rfl)))
          · rw [if_neg (by omega)] at hk
            have h7' : ¬ (4611686018427387903 : Int) < ((acc + b.toNat % 128 * 2 ^ (7 * i) : Nat) : Int) := by unfold top at h7; omega
            have hnum : numO most (some l) = if most < acc + b.toNat % 128 * 2 ^ (7 * i) then (0, none) else (((acc + b.toNat % 128 * 2 ^ (7 * i) : Nat) : Int), some r) := by
              exact numO_yes (by rw [h3, hk])
            rw [hnum]
            by_cases h9 : most < acc + b.toNat % 128 * 2 ^ (7 * i)
            · rw [if_pos h9]
              have h9' : ((most : Nat) : Int) < ((acc + b.toNat % 128 * 2 ^ (7 * i) : Nat) : Int) := by omega
              refine ⟨.inl ((0, ()), (rdR none, ())), condT (dT (by dsimp only; omega)) (bindS (take1_p b r) (condF rfl (bindS (v := b) rfl (iteF (by dsimp only; omega) ?_)))), .inl rfl⟩
              dsimp only
              rw [hy]
              by_cases h8 : 0 < i
              · exact bindS (v := b) rfl (condT (dT (by omega)) (condT (dT (by omega)) (bindS (v := b) rfl (condF (dF (by omega)) (condF (dF h7') (condT (dT h9') rfl))))))
              · exact bindS (v := b) rfl (condT (dT (by omega)) (condF (dF (by omega)) (condF (dF h7') (condT (dT h9') rfl))))
            · rw [if_neg h9]
              have h9' : ¬ ((most : Nat) : Int) < ((acc + b.toNat % 128 * 2 ^ (7 * i) : Nat) : Int) := by omega
              refine ⟨.inl ((((acc + b.toNat % 128 * 2 ^ (7 * i) : Nat) : Int), ()), (rdR (some r), ())), condT (dT (by dsimp only; omega)) (bindS (take1_p b r) (condF rfl (bindS (v := b) rfl (iteF (by dsimp only; omega) ?_)))), .inl rfl⟩
              dsimp only
              rw [hy]
              by_cases h8 : 0 < i
              · exact bindS (v := b) rfl (condT (dT (by omega)) (condT (dT (by omega)) (bindS (v := b) rfl (condF (dF (by omega)) (condF (dF h7') (condF (dF h9') rfl))))))
              · exact bindS (v := b) rfl (condT (dT (by omega)) (condF (dF (by omega)) (condF (dF h7') (condF (dF h9') rfl))))
      · left
        rw [if_neg h5] at hk
        refine ⟨9 - (i + 1), (((), (most : Int), ((acc + b.toNat % 128 * 2 ^ (7 * i) : Nat) : Int), ((7 * (i + 1) : Nat) : Int), ()), (rdR (some r), ())), by omega, condT (dT (by dsimp only; omega)) (bindS (take1_p b r) (condF rfl (bindS (v := b) rfl (iteF (by dsimp only; omega) ?_)))), i + 1, _, r, rfl, by omega, ?_, rfl, ?_⟩
        · dsimp only
          rw [hy, w64 (n := ((7 * i : Nat) : Int) + 7) (by omega)]
          exact bindS (v := b) rfl (condF (dF (by omega)) rfl)
        · have hm : b.toNat % 128 * 2 ^ (7 * i) ≤ 127 * 2 ^ (7 * i) := Nat.mul_le_mul_right _ (by omega)
          have hp : 2 ^ (7 * (i + 1)) = 128 * 2 ^ (7 * i) := by rw [Nat.mul_add, Nat.pow_add, Nat.mul_comm]
          omega
        · rw [h3, hk, show 8 - i = 9 - (i + 1) by omega]
  · right
    obtain rfl : i = 9 := by omega
    exact ⟨_, condF (dF (by dsimp only; omega)) rfl, .inr ⟨⟨r, rfl⟩, hno rfl⟩⟩
theorem Num2_p (most : Nat) (o : Option (List UInt8)) : wire_Number_2 (most : Int) (rdR o) = some ((numO most o).1, (rdR (numO most o).2, ())) := by
  unfold wire_Number_2
  cases o with
  | none => exact bindS (v := (false, (rdR none, ()))) rfl (condT rfl rfl)
  | some l =>
    refine bindS (v := (true, (rdR (some l), ()))) rfl (condF rfl ?_)
    obtain ⟨z, hz, rfl | ⟨⟨l', rfl⟩, h2⟩⟩ := numLoop_p (most := most) _ rfl l
    · exact bindS hz rfl
    · rw [h2]
      exact bindS hz rfl
theorem Num1_p (most : Nat) (l : List UInt8) : wire_Number (most : Int) (true, false, l, ()) = some ((numO most (some l)).1, (rdR (numO most (some l)).2, (), ())) := by
  unfold wire_Number
  refine bindS (v := (true, ((true, false, l, ()), (), (), ()))) rfl (condF rfl ?_)
  obtain ⟨z, hz, rfl | ⟨⟨l', rfl⟩, h2⟩⟩ := numLoop_p (most := most) wire_Number_l1 rfl l
  · exact bindS hz rfl
  · rw [h2]
    exact bindS hz rfl
/-- A row of bytes, read. -/
def rowO (most : Nat) (o : Option (List UInt8)) : List UInt8 × Option (List UInt8) := match (numO most o).2 with
  | none => ([], none)
  | some l => if (l.length : Int) < (numO most o).1 then ([], none) else (l.take (numO most o).1.toNat, some (l.drop (numO most o).1.toNat))
theorem numO_le {most : Nat} {o : Option (List UInt8)} {l : List UInt8} (h : (numO most o).2 = some l) : 0 ≤ (numO most o).1 ∧ (numO most o).1 ≤ most := by
  unfold numO at h ⊢
  cases o with
  | none => cases h
  | some x =>
    dsimp only at h ⊢
    cases hn : numR most x with
    | none => rw [hn] at h; cases h
    | some p =>
      unfold numR at hn
      obtain ⟨q, hq, hn⟩ := bind_some' hn
      split at hn
      · cases hn
      · injection hn with hn
        subst hn
        dsimp only
        omega
theorem take_p {n : Nat} {l : List UInt8} : wire_take_2 (n : Int) (rdR (some l)) = some (if l.length < n then ([], (rdR none, ())) else (l.take n, (rdR (some (l.drop n)), ()))) := by
  unfold wire_take_2 rdR
  by_cases h : l.length < n
  · rw [if_pos h]
    exact condT (dT (by dsimp only; omega)) rfl
  · rw [if_neg h]
    refine condF (dF (by dsimp only; omega)) (iteT (by dsimp only; omega) (iteT (by dsimp only; omega) ?_))
    have h1 : ((l.length : Int)).toNat - ((n : Int)).toNat = (l.drop n).length := by rw [List.length_drop]; omega
    dsimp only
    rw [h1, Int.toNat_natCast, List.take_length]
    rfl
theorem Row_p (most : Nat) (hm : most ≤ 1000000000) (o : Option (List UInt8)) : wire_Row (most : Int) (rdR o) = some ((rowO most o).1, (rdR (rowO most o).2, (), ())) := by
  unfold wire_Row
  refine bindS (Num2_p most o) ?_
  unfold rowO
  cases h : (numO most o).2 with
  | none => exact bindS (v := (false, (rdR none, ()))) rfl (condT rfl rfl)
  | some l =>
    obtain ⟨h1, h2⟩ := numO_le h
    obtain ⟨n, hn⟩ : ∃ n : Nat, (numO most o).1 = (n : Int) := ⟨(numO most o).1.toNat, by omega⟩
    refine bindS (v := (true, (rdR (some l), ()))) rfl (condF rfl (bindS (v := if l.length < n then ([], (rdR none, ())) else (l.take n, (rdR (some (l.drop n)), ()))) (by dsimp only; rw [hn]; exact take_p) ?_))
    dsimp only
    rw [hn, Int.toNat_natCast]
    by_cases hl : l.length < n
    · rw [if_pos hl, if_pos (by omega)]
      exact bindS (v := ([], ((), ()))) rfl rfl
    · rw [if_neg hl, if_neg (by omega)]
      have hlen : (l.take n).length ≤ n := by rw [List.length_take]; omega
      refine bindS (v := (l.take n, ((), ()))) (by unfold clone42; exact iteT (by dsimp only; omega) rfl) rfl
theorem Text_p (most : Nat) (hm : most ≤ 1000000000) (o : Option (List UInt8)) : wire_Text (most : Int) (rdR o) = some ((rowO most o).1, (rdR (rowO most o).2, ())) := by
  unfold wire_Text
  exact bindS (Row_p most hm o) rfl
/-- The document's. -/
theorem refGet_p {l : List UInt8} (hl : l.length ≤ 140737488355328) : watershedref02_Get l = some (match getF 9 0 0 l with | some p => (((p.1 : Int), ((l.length - p.2.length : Nat) : Int), ()), ()) | none => ((0, 0, ()), ())) := by
  have key : ∃ z, loopM watershedref02_Get_l1 ((l, 0, 0, ()), ()) = some z ∧ ((∃ p, getF 9 0 0 l = some p ∧ z = .inl (((p.1 : Int), ((l.length - p.2.length : Nat) : Int), ()), ())) ∨ (getF 9 0 0 l = none ∧ (z = .inl ((0, 0, ()), ()) ∨ z = .inr ((), ())))) := by
    refine loopM_spec (fun m a => ∃ i acc : Nat, a = ((l, (acc : Int), (i : Int), ()), ()) ∧ i ≤ 9 ∧ i ≤ l.length ∧ acc < 2 ^ (7 * i) ∧ m = 9 - i ∧ getF 9 0 0 l = getF (9 - i) i acc (l.drop i)) _ ?_ (n := 9) ⟨0, 0, rfl, by omega, by omega, by omega, rfl, rfl⟩
    rintro m a ⟨i, acc, rfl, h1, h1', h2, rfl, h3⟩
    unfold watershedref02_Get_l1
    by_cases hi : i < l.length
    · by_cases hi9 : i < 9
      · have hd : l.drop i = l[i] :: l.drop (i + 1) := List.drop_eq_getElem_cons hi
        have hk : getF (9 - i) i acc (l.drop i) = if (l[i]).toNat < 128 then (if (0 < i ∧ (l[i]).toNat = 0) ∨ top < acc + (l[i]).toNat % 128 * 2 ^ (7 * i) then none else some (acc + (l[i]).toNat % 128 * 2 ^ (7 * i), l.drop (i + 1))) else getF (8 - i) (i + 1) (acc + (l[i]).toNat % 128 * 2 ^ (7 * i)) (l.drop (i + 1)) := by
          rw [hd, show 9 - i = (8 - i) + 1 by omega]; rfl
        have hg : getI l (i : Int) = some l[i] := getI_lt hi
        generalize hb' : l[i] = b at hk hg
        have hb := b.toNat_lt
        have hsh : IntKind.u64.wrap (IntKind.i64.wrap (7 * (i : Int))) = ((7 * i : Nat) : Int) := by rw [w64 (by omega), IntKind.wrap_u64]; omega
        have hy := byte_in b acc i (by omega) h2 (((7 * i : Nat) : Int)) (by rw [Int.toNat_natCast])
        by_cases h5 : b.toNat < 128
        · right
          rw [if_pos h5] at hk
          by_cases h6 : 0 < i ∧ b.toNat = 0
          · rw [if_pos (.inl h6)] at hk
            refine ⟨.inl ((0, 0, ()), ()), condT (dT (by dsimp only; omega)) (condT (dT (by dsimp only; omega)) (bindS hg (iteF (by dsimp only; rw [hsh]; omega) ?_))), .inr ⟨by rw [h3, hk], .inl rfl⟩⟩
            exact bindS hg (condT (dT (by omega)) (condT (dT (by dsimp only; omega)) (bindS hg (condT (dT (by omega)) rfl))))
          · by_cases h7 : top < acc + b.toNat % 128 * 2 ^ (7 * i)
            · rw [if_pos (.inr h7)] at hk
              have h7' : (4611686018427387903 : Int) < ((acc + b.toNat % 128 * 2 ^ (7 * i) : Nat) : Int) := by unfold top at h7; omega
              refine ⟨.inl ((0, 0, ()), ()), condT (dT (by dsimp only; omega)) (condT (dT (by dsimp only; omega)) (bindS hg (iteF (by dsimp only; rw [hsh]; omega) ?_))), .inr ⟨by rw [h3, hk], .inl rfl⟩⟩
              dsimp only
              rw [hsh, hy]
              by_cases h8 : 0 < i
              · exact bindS hg (condT (dT (by omega)) (condT (dT (by omega)) (bindS hg (condF (dF (by omega)) (condT (dT h7') rfl)))))
              · exact bindS hg (condT (dT (by omega)) (condF (dF (by omega)) (condT (dT h7') rfl)))
            · rw [if_neg (by omega)] at hk
              have h7' : ¬ (4611686018427387903 : Int) < ((acc + b.toNat % 128 * 2 ^ (7 * i) : Nat) : Int) := by unfold top at h7; omega
              have hlen : l.length - (l.drop (i + 1)).length = i + 1 := by rw [List.length_drop]; omega
              refine ⟨.inl ((((acc + b.toNat % 128 * 2 ^ (7 * i) : Nat) : Int), ((i + 1 : Nat) : Int), ()), ()), condT (dT (by dsimp only; omega)) (condT (dT (by dsimp only; omega)) (bindS hg (iteF (by dsimp only; rw [hsh]; omega) ?_))), .inl ⟨_, by rw [h3, hk], by rw [hlen]⟩⟩
              dsimp only
              rw [hsh, hy, w64 (n := (i : Int) + 1) (by omega)]
              by_cases h8 : 0 < i
              · exact bindS hg (condT (dT (by omega)) (condT (dT (by omega)) (bindS hg (condF (dF (by omega)) (condF (dF h7') (condF (dF (by omega)) rfl))))))
              · exact bindS hg (condT (dT (by omega)) (condF (dF (by omega)) (condF (dF h7') (condF (dF (by omega)) rfl))))
        · left
          rw [if_neg h5] at hk
          refine ⟨9 - (i + 1), ((l, ((acc + b.toNat % 128 * 2 ^ (7 * i) : Nat) : Int), ((i + 1 : Nat) : Int), ()), ()), by omega, condT (dT (by dsimp only; omega)) (condT (dT (by dsimp only; omega)) (bindS hg (iteF (by dsimp only; rw [hsh]; omega) ?_))), i + 1, _, rfl, by omega, by omega, ?_, rfl, ?_⟩
          · dsimp only
            rw [hsh, hy, w64 (n := (i : Int) + 1) (by omega)]
            exact bindS hg (condF (dF (by omega)) rfl)
          · have hm : b.toNat % 128 * 2 ^ (7 * i) ≤ 127 * 2 ^ (7 * i) := Nat.mul_le_mul_right _ (by omega)
            have hp : 2 ^ (7 * (i + 1)) = 128 * 2 ^ (7 * i) := by rw [Nat.mul_add, Nat.pow_add, Nat.mul_comm]
            omega
          · rw [h3, hk, show 8 - i = 9 - (i + 1) by omega]
      · right
        obtain rfl : i = 9 := by omega
        exact ⟨_, condT (dT (by dsimp only; omega)) (condF (dF (by dsimp only; omega)) rfl), .inr ⟨h3, .inr rfl⟩⟩
    · right
      obtain rfl : i = l.length := by omega
      refine ⟨_, condF (dF (by dsimp only; omega)) rfl, .inr ⟨?_, .inr rfl⟩⟩
      rw [h3, List.drop_length]
      cases hc : 9 - l.length with
      | zero => rfl
      | succ k => rfl
  unfold watershedref02_Get
  obtain ⟨z, hz, ⟨p, h1, rfl⟩ | ⟨h1, h2⟩⟩ := key
  · rw [h1]
    exact bindS hz rfl
  · rw [h1]
    rcases h2 with rfl | rfl
    · exact bindS hz rfl
    · exact bindS hz rfl
def okL : Option (List UInt8) → Prop
  | some l => l.length ≤ 140737488355328
  | none => True
theorem numO_ok {most : Nat} {o : Option (List UInt8)} (h : okL o) : okL (numO most o).2 := by
  unfold numO
  cases o with
  | none => trivial
  | some l =>
    dsimp only
    cases hn : numR most l with
    | none => trivial
    | some p =>
      unfold numR at hn
      obtain ⟨q, hq, hn⟩ := bind_some' hn
      split at hn
      · cases hn
      · injection hn with hn
        subst hn
        have := (getF_len _ _ _ _ hq).2.1
        show q.2.length ≤ _
        have h : l.length ≤ 140737488355328 := h
        omega
theorem rowO_ok {most : Nat} {o : Option (List UInt8)} (h : okL o) : okL (rowO most o).2 := by
  have h1 := numO_ok (most := most) h
  unfold rowO
  cases hn : (numO most o).2 with
  | none => trivial
  | some l =>
    rw [hn] at h1
    dsimp only
    split
    · trivial
    · show (List.drop _ l).length ≤ _
      have h1 : l.length ≤ 140737488355328 := h1
      rw [List.length_drop]; omega
theorem refNum2_p (most : Nat) {o : Option (List UInt8)} (h : okL o) : watershedref02_Number_2 (most : Int) (rfR o) = some ((numO most o).1, (rfR (numO most o).2, ())) := by
  unfold watershedref02_Number_2
  cases o with
  | none => exact condT rfl rfl
  | some l =>
    have hget := refGet_p h
    cases hg : getF 9 0 0 l with
    | none =>
      rw [hg] at hget
      rw [numO_no hg]
      exact condF rfl (bindS hget (condT rfl rfl))
    | some p =>
      rw [hg] at hget
      obtain ⟨h1, h2, m, h3, h4⟩ := getF_len _ _ _ _ hg
      have hlen : l.length - p.2.length = m := by rw [h3, List.length_drop]; omega
      have hm : 0 < m := by omega
      dsimp only at hget
      rw [hlen] at hget
      rw [numO_yes hg]
      refine condF rfl (bindS hget (condF (dF (by dsimp only; omega)) ?_))
      by_cases hq : most < p.1
      · rw [if_pos hq]
        exact condT (dT (by dsimp only; omega)) rfl
      · rw [if_neg hq]
        refine condF (dF (by dsimp only; omega)) ?_
        refine iteT (by show 0 ≤ (m : Int) ∧ (m : Int) ≤ (l.length : Int) ∧ _; exact ⟨by omega, by omega, Int.le_refl _⟩) ?_
        have hd : (l.length : Int).toNat - ((m : Int)).toNat = p.2.length := by omega
        show some ((p.1 : Int), ((⟨(l.drop ((m : Int)).toNat).take ((l.length : Int).toNat - ((m : Int)).toNat), false⟩ : DReader2), ())) = _
        rw [hd, Int.toNat_natCast, ← h3, List.take_length]
        rfl
theorem refRow2_p (most : Nat) (hm : most ≤ 1000000000) {o : Option (List UInt8)} (h : okL o) : watershedref02_Row_2 (most : Int) (rfR o) = some ((rowO most o).1, (rfR (rowO most o).2, (), ())) := by
  unfold watershedref02_Row_2
  refine bindS (refNum2_p most h) ?_
  have hok := numO_ok (most := most) h
  unfold rowO
  cases hn : (numO most o).2 with
  | none => exact condT rfl rfl
  | some l =>
    rw [hn] at hok
    have hok : l.length ≤ 140737488355328 := hok
    obtain ⟨h1, h2⟩ := numO_le hn
    refine condF rfl ?_
    dsimp only
    obtain ⟨n, hnn⟩ : ∃ n : Nat, (numO most o).1 = (n : Int) := ⟨(numO most o).1.toNat, by omega⟩
    rw [hnn]
    by_cases hl : (l.length : Int) < (n : Int)
    · rw [if_pos hl]
      exact condT (dT hl) rfl
    · rw [if_neg hl]
      have hlen : (List.take ((n : Int).toNat - (0 : Int).toNat) (List.drop (0 : Int).toNat l)).length ≤ n := by rw [List.length_take]; omega
      have hd : (l.length : Int).toNat - ((n : Int)).toNat = (l.drop n).length := by rw [List.length_drop]; omega
      refine condF (dF hl) (iteT (by show 0 ≤ (0 : Int) ∧ (0 : Int) ≤ (n : Int) ∧ (n : Int) ≤ (l.length : Int); omega) (iteT (by dsimp only [rfR, List.length_nil]; omega) (iteT (by show 0 ≤ (n : Int) ∧ (n : Int) ≤ (l.length : Int) ∧ _; exact ⟨by omega, by omega, Int.le_refl _⟩) ?_)))
      show some (([] : List UInt8) ++ (List.take ((n : Int).toNat - (0 : Int).toNat) (List.drop (0 : Int).toNat l)), ((⟨(l.drop ((n : Int)).toNat).take ((l.length : Int).toNat - ((n : Int)).toNat), false⟩ : DReader2), (), ())) = _
      rw [hd, Int.toNat_natCast, List.take_length]
      rfl
end Go.Proofs.Ytlmmpfbdgiokmaa
