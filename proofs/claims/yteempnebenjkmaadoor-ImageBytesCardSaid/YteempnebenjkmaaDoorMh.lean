/- XPw, XPr, XPi, XPj, XPk, XPm, XPn in one. -/
import Derived.Test.YteempnebenjkmaaDoorSdw
import Derived.Test.YteempnebenjkmaaDoorG1
namespace Go.Proofs.YteempnebenjkmaaDoor
open Go.RowKit
set_option maxRecDepth 100000
set_option linter.unusedVariables false
set_option linter.unusedSimpArgs false
def ZdW (x : Int) : Bool := decide (0 <= x) && decide (x <= 4611686018427387903)
theorem Zc3 {x : Int} : ZdW x = true ↔ 0 <= x /\ x <= 4611686018427387903 := by simp [ZdW]
theorem Zyd {x b : List UInt8} {sp : Bool} (h : b.length + x.length <= 10000000) : ZhN x (true, sp, b, ()) = some ((), ((true, sp, b ++ x, ()), (), (), ())) := by
 unfold ZhN
 exact Zap rfl (Zfi (by dsimp only; omega) rfl)
theorem ZpF {sp : Bool} {N : Nat} (hN : N <= 4611686018427387903) {b : List UInt8} (hb : b.length + (Zkl N).length <= 10000000) :
 ∃ (n : Nat) (b' : List UInt8), n < 128 /\ b' ++ Zkl n = b ++ Zkl N /\ Zbl ZcW (((), (N : Int), ()), ((true, sp, b, ()), (), ())) = some (((), (n : Int), ()), ((true, sp, b', ()), (), (), ())) := by
 have key : ∃ z, Zbl ZcW (((), (N : Int), ()), ((true, sp, b, ()), (), ())) = some z /\ ∃ (n : Nat) (b' : List UInt8), n < 128 /\ b' ++ Zkl n = b ++ Zkl N /\ z = (((), (n : Int), ()), ((true, sp, b', ()), (), (), ())) := by
  refine ZdV (fun m a => ∃ b' : List UInt8, a = (((), (m : Int), ()), ((true, sp, b', ()), (), ())) /\ b' ++ Zkl m = b ++ Zkl N /\ m <= 4611686018427387903) _ ?_ (n := N) ⟨b, rfl, rfl, hN⟩
  rintro m a ⟨b', rfl, h1, h2⟩
  unfold ZcW
  by_cases hm : m < 128
  ·right
   exact ⟨_, ZaC (dF (by dsimp only; omega)) rfl, m, b', hm, h1, rfl⟩
  ·left
   have hl := congrArg List.length h1
   rw [Zmk hm, List.length_append, List.length_append, List.length_cons] at hl
   refine ⟨m / 128, _, by omega, Zap (dT (by dsimp only; omega)) (Zag (Zya m) (Zag (Zyd (by simp only [List.length_singleton]; omega)) rfl)), b' ++ [UInt8.ofNat (m % 128 + 128)], ?_, ?_, by omega⟩
   ·dsimp only
    rw [ZB1]
   ·rw [List.append_assoc, <- h1, Zmk hm]; rfl
 obtain ⟨z, hz, n, b', h1, h2, rfl⟩ := key
 exact ⟨n, b', h1, h2, hz⟩
def Zp5 (x : Int) (w : Bool × List UInt8) : Bool × List UInt8 := if ZdW x = true then (w.1, w.2 ++ Zkl x.toNat) else (true, w.2)
theorem ZrJ {x : Int} {sp : Bool} {b : List UInt8} (hb : b.length <= 1000000) : ZdT x (true, sp, b, ()) = some ((), ((true, (Zp5 x (sp, b)).1, (Zp5 x (sp, b)).2, ()), (), (), ())) := by
 unfold ZdT Zp5
 by_cases h1 : x < 0
 ·rw [if_neg (by rw [Zc3]; omega)]
  exact Zap (dT h1) rfl
 by_cases h2 : 4611686018427387903 < x
 ·rw [if_neg (by rw [Zc3]; omega)]
  exact ZaC (dF h1) (Zap (dT h2) rfl)
 rw [if_pos (Zc3.2 (by omega))]
 obtain ⟨N, rfl⟩ : ∃ N : Nat, x = (N : Int) := ⟨x.toNat, by omega⟩
 have hlen := Zhx (n := N) (by omega)
 obtain ⟨n, b', g1, g2, g3⟩ := ZpF (sp := sp) (N := N) (by omega) (b := b) (by omega)
 have hl := congrArg List.length g2
 rw [List.length_append, List.length_append] at hl
 have hp := Zom n
 refine ZaC (dF h1) (ZaC (dF h2) (Zag g3 (Zag (Zyb n) (Zag (Zyd (by simp only [List.length_singleton]; omega)) ?_))))
 rw [ZiO g1] at g2
 dsimp only
 rw [g2, Int.toNat_natCast]
def Zcs (xs : List Int) (w : Bool × List UInt8) : Bool × List UInt8 := xs.foldl (fun w x => Zp5 x w) w
theorem ZsS (xs : List Int) (x : Int) (w : Bool × List UInt8) : Zcs (xs ++ [x]) w = Zp5 x (Zcs xs w) := by simp [Zcs]
theorem ZvX (x : Int) (w : Bool × List UInt8) : (Zp5 x w).2.length <= w.2.length + 9 := by
 unfold Zp5
 split
 ·rename_i h
  have := Zc3.1 h
  have := Zhx (n := x.toNat) (by omega)
  rw [List.length_append]; omega
 ·exact Nat.le_add_right _ _
theorem Ze2 : ∀ (xs : List Int) (w : Bool × List UInt8), (Zcs xs w).2.length <= w.2.length + 9 * xs.length
 | [], w => by simp [Zcs]
 | x :: xs, w => by
  have h1 := Ze2 xs (Zp5 x w)
  have h2 := ZvX x w
  have : Zcs (x :: xs) w = Zcs xs (Zp5 x w) := rfl
  rw [this, List.length_cons]; omega
theorem Zml {xs : List Int} {sp : Bool} {b : List UInt8} (hx : xs.length <= 10000) (hb : b.length <= 900000) : Zdn xs (true, sp, b, ()) = some ((), ((true, (Zcs xs (sp, b)).1, (Zcs xs (sp, b)).2, ()), (), (), ())) := by
 have hrun := Zhw (step := ZcA) (fun i : Nat => (((), xs, (xs.length : Int), (i : Int), ()), ((true, (Zcs (xs.take i) (sp, b)).1, (Zcs (xs.take i) (sp, b)).2, ()), (), ()))) (N := xs.length) (b := (((), ()), ((true, (Zcs xs (sp, b)).1, (Zcs xs (sp, b)).2, ()), (), (), ()))) (fun i hi => ?_) ?_
 ·unfold Zdn
  exact Zag rfl (Zap rfl (Zag hrun rfl))
 ·have hl := Ze2 (xs.take i) (sp, b)
  rw [List.length_take] at hl
  dsimp only at hl
  unfold ZcA
  refine Zap (dT (by dsimp only; omega)) (Zag (ZcE hi) (Zag (ZrJ (by dsimp only; omega)) ?_))
  dsimp only
  rw [w64 (by omega), List.take_succ_eq_append_getElem hi, ZsS]
  rfl
 ·unfold ZcA
  refine ZaC (dF (by dsimp only; omega)) ?_
  dsimp only
  rw [List.take_length]
def Zm4 (t : List UInt8) : List UInt8 := Zkl t.length ++ t
theorem Zye {t : List UInt8} {sp : Bool} {b : List UInt8} (ht : t.length <= 100000) (hb : b.length <= 1000000) : Zjk (0, 1, 1) (true, sp, b, ()) [t] = some ((), ((true, sp, b ++ Zm4 t, ()), [t], (), (), ())) := by
 have hg : ZdW (t.length : Int) = true := Zc3.2 (by omega)
 have hlen := Zhx (n := t.length) (by omega)
 have hnum : ZdT (t.length : Int) (true, sp, b, ()) = some ((), ((true, sp, b ++ Zkl t.length, ()), (), (), ())) := by
  rw [ZrJ hb]
  unfold Zp5
  rw [if_pos hg, Int.toNat_natCast]
 unfold Zjk
 refine Zag rfl (Zap rfl (Zag (v := (((), ()), ((true, sp, b ++ Zm4 t, ()), [t], (), (), ()))) ((ZhO (a' := (((), (0, 1, 1), 1, 1, ()), ((true, sp, b ++ Zm4 t, ()), [t], (), ()))) ?_).trans (ZdC ?_)) rfl))
 ·unfold Zfw
  refine Zap rfl ?_
  dsimp only
  rw [if_pos (by omega)]
  refine Zag (v := t) rfl (Zag hnum (Zag (Zyd (by simp only [List.length_append]; omega)) ?_))
  dsimp only
  rw [List.append_assoc]
  rfl
 ·unfold Zfw
  exact ZaC rfl rfl
theorem Zw7 {sp : Bool} {b : List UInt8} (hb : b.length <= 1000000) : ∃ st, Zga (true, sp, b, ()) = some ((if sp = true then ([], 2, ()) else (b, 0, ())), st) := by
 unfold Zga
 cases sp with
 | true => exact ⟨_, Zag rfl (ZaC rfl (Zap rfl rfl))⟩
 | false => exact ⟨_, Zag rfl (ZaC rfl (ZaC rfl (Zag (v := (b, ((), ()))) (by unfold ZfF; exact Zfi (by dsimp only; omega) rfl) rfl)))⟩
def Zon (xs : List Int) : List UInt8 := (xs.map fun x => Zkl x.toNat).flatten
theorem ZhQ : ∀ (xs : List Int) (sp : Bool) (b : List UInt8), xs.all ZdW = true -> Zcs xs (sp, b) = (sp, b ++ Zon xs)
 | [], sp, b, _ => by simp [Zcs, Zon]
 | x :: xs, sp, b, h => by
  rw [List.all_cons, Bool.and_eq_true] at h
  have : Zcs (x :: xs) (sp, b) = Zcs xs (Zp5 x (sp, b)) := rfl
  rw [this]
  unfold Zp5
  rw [if_pos h.1, ZhQ xs _ _ h.2]
  simp [Zon]
theorem Zgn : ∀ (xs : List Int) (b : List UInt8), (Zcs xs (true, b)).1 = true
 | [], b => rfl
 | x :: xs, b => by
  have : Zcs (x :: xs) (true, b) = Zcs xs (Zp5 x (true, b)) := rfl
  rw [this]
  unfold Zp5
  split
  ·exact Zgn xs _
  ·exact Zgn xs _
theorem Zmm : ∀ (xs : List Int) (sp : Bool) (b : List UInt8), xs.all ZdW = false -> (Zcs xs (sp, b)).1 = true
 | [], sp, b, h => by cases h
 | x :: xs, sp, b, h => by
  have h0 : Zcs (x :: xs) (sp, b) = Zcs xs (Zp5 x (sp, b)) := rfl
  rw [h0]
  unfold Zp5
  split
  ·rename_i hg
   rw [List.all_cons, hg, Bool.true_and] at h
   exact Zmm xs _ _ h
  ·exact Zgn xs _
end Go.Proofs.YteempnebenjkmaaDoor
namespace Go.Proofs.YteempnebenjkmaaDoor
open Go.RowKit
set_option maxRecDepth 100000
set_option linter.unusedVariables false
set_option linter.unusedSimpArgs false
def rdR : Option (List UInt8) -> Zao
 | some l => ⟨⟨true, false, l⟩⟩
 | none => ⟨⟨true, true, []⟩⟩
def ZcM (most : Nat) : Option (List UInt8) -> Int × Option (List UInt8)
 | none => (0, none)
 | some l => match ZBn most l with
  | some p => ((p.1 : Int), some p.2)
  | none => (0, none)
theorem Zyf {most : Nat} {l : List UInt8} (h : ZqR 9 0 0 l = none) : ZcM most (some l) = (0, none) := by
 show (match (ZqR 9 0 0 l).bind (fun p => if most < p.1 then none else some p) with | some p => ((p.1 : Int), some p.2) | none => (0, none)) = _
 rw [h]; rfl
theorem ZrK {most : Nat} {l : List UInt8} {p : Nat × List UInt8} (h : ZqR 9 0 0 l = some p) : ZcM most (some l) = if most < p.1 then (0, none) else ((p.1 : Int), some p.2) := by
 show (match (ZqR 9 0 0 l).bind (fun p => if most < p.1 then none else some p) with | some p => ((p.1 : Int), some p.2) | none => (0, none)) = _
 rw [h]
 show (match (if most < p.1 then none else some p) with | some p => ((p.1 : Int), some p.2) | none => (0, none)) = _
 by_cases h9 : most < p.1
 ·rw [if_pos h9, if_pos h9]
 ·rw [if_neg h9, if_neg h9]
theorem Zmn (b : UInt8) (l : List UInt8) : ZbZ 1 (rdR (some (b :: l))) = some ([b], (rdR (some l), ())) := by
 unfold ZbZ rdR
 refine ZaC (dF (by dsimp only [List.length_cons]; omega)) (Zfi (by dsimp only [List.length_cons]; omega) (Zfi (by dsimp only [List.length_cons]; omega) ?_))
 have h : (((b :: l).length : Int)).toNat - (1 : Int).toNat = l.length := by rw [List.length_cons]; omega
 dsimp only
 rw [h]
 show some ([b], ((⟨⟨true, false, l.take l.length⟩⟩ : Zao), ())) = _
 rw [List.take_length]
theorem Zyg {n : Int} (hn : 0 < n) : ZbZ n (rdR (some [])) = some ([], (rdR none, ())) := by
 unfold ZbZ rdR
 exact Zap (dT hn) rfl
theorem ZpG {most : Nat} (f : ((Unit) × (Int) × (Int) × (Int) × Unit) × ((Zao) × Unit) -> Option ((((Unit) × (Int) × (Int) × (Int) × Unit) × ((Zao) × Unit)) ⊕ ((((Int) × Unit) × ((Zao) × Unit)) ⊕ (((Unit) × Unit) × ((Zao) × Unit))))) (hf : f = Zdd) (l : List UInt8) :
 ∃ z, Zbl f (((), (most : Int), 0, 0, ()), (rdR (some l), ())) = some z /\ (z = .inl (((ZcM most (some l)).1, ()), (rdR (ZcM most (some l)).2, ())) \/ ((∃ l', z = .inr (((), ()), (rdR (some l'), ()))) /\ ZcM most (some l) = (0, none))) := by
 subst hf
 refine ZdV (fun m a => ∃ (i acc : Nat) (r : List UInt8), a = (((), (most : Int), (acc : Int), ((7 * i : Nat) : Int), ()), (rdR (some r), ())) /\ i <= 9 /\ acc < 2 ^ (7 * i) /\ m = 9 - i /\ ZqR 9 0 0 l = ZqR (9 - i) i acc r) _ ?_ (n := 9) ⟨0, 0, l, rfl, by omega, by omega, rfl, rfl⟩
 rintro m a ⟨i, acc, r, rfl, h1, h2, rfl, h3⟩
 unfold Zdd
 have hno : ZqR (9 - i) i acc r = none -> ZcM most (some l) = (0, none) := by
  intro h
  exact Zyf (by rw [h3, h])
 by_cases hi : i < 9
 ·cases r with
  | nil =>
   right
   refine ⟨_, Zap (dT (by dsimp only; omega)) (Zag (Zyg (by omega)) (Zap rfl rfl)), .inl ?_⟩
   rw [hno (by rw [show 9 - i = (8 - i) + 1 by omega]; rfl)]
  | cons b r =>
   have hk : ZqR (9 - i) i acc (b :: r) = if b.toNat < 128 then (if (0 < i /\ b.toNat = 0) \/ top < acc + b.toNat % 128 * 2 ^ (7 * i) then none else some (acc + b.toNat % 128 * 2 ^ (7 * i), r)) else ZqR (8 - i) (i + 1) (acc + b.toNat % 128 * 2 ^ (7 * i)) r := by
    rw [show 9 - i = (8 - i) + 1 by omega]; rfl
   have hb := b.toNat_lt
   have hy := Zyc b acc i (by omega) h2 (((7 * i : Nat) : Int)) (by rw [Int.toNat_natCast])
   by_cases h5 : b.toNat < 128
   ·right
    rw [if_pos h5] at hk
    by_cases h6 : 0 < i /\ b.toNat = 0
    ·rw [if_pos (.inl h6)] at hk
     refine ⟨_, Zap (dT (by dsimp only; omega)) (Zag (Zmn b r) (ZaC rfl (Zag (v := b) rfl (ZpE (by dsimp only; omega) (Zag (v := b) rfl (Zap (dT (by omega)) (Zap (dT (by dsimp only; omega)) (Zag (v := b) rfl (Zap (dT (by omega)) (Zag rfl rfl)))))))))), .inl ?_⟩
     rw [hno hk]
     rfl
    ·by_cases h7 : top < acc + b.toNat % 128 * 2 ^ (7 * i)
     ·rw [if_pos (.inr h7)] at hk
      rw [hno hk]
      have h7' : (4611686018427387903 : Int) < ((acc + b.toNat % 128 * 2 ^ (7 * i) : Nat) : Int) := by unfold top at h7; omega
      refine ⟨.inl ((0, ()), (rdR none, ())), Zap (dT (by dsimp only; omega)) (Zag (Zmn b r) (ZaC rfl (Zag (v := b) rfl (ZpE (by dsimp only; omega) ?_)))), .inl rfl⟩
      dsimp only
      rw [hy]
      by_cases h8 : 0 < i
      ·exact Zag (v := b) rfl (Zap (dT (by omega)) (Zap (dT (by omega)) (Zag (v := b) rfl (ZaC (dF (by omega)) (Zap (dT h7') rfl)))))
      ·exact Zag (v := b) rfl (Zap (dT (by omega)) (ZaC (dF (by omega)) (Zap (dT h7') rfl)))
     ·rw [if_neg (by omega)] at hk
      have h7' : ¬ (4611686018427387903 : Int) < ((acc + b.toNat % 128 * 2 ^ (7 * i) : Nat) : Int) := by unfold top at h7; omega
      have hnum : ZcM most (some l) = if most < acc + b.toNat % 128 * 2 ^ (7 * i) then (0, none) else (((acc + b.toNat % 128 * 2 ^ (7 * i) : Nat) : Int), some r) := by
       exact ZrK (by rw [h3, hk])
      rw [hnum]
      by_cases h9 : most < acc + b.toNat % 128 * 2 ^ (7 * i)
      ·rw [if_pos h9]
       have h9' : ((most : Nat) : Int) < ((acc + b.toNat % 128 * 2 ^ (7 * i) : Nat) : Int) := by omega
       refine ⟨.inl ((0, ()), (rdR none, ())), Zap (dT (by dsimp only; omega)) (Zag (Zmn b r) (ZaC rfl (Zag (v := b) rfl (ZpE (by dsimp only; omega) ?_)))), .inl rfl⟩
       dsimp only
       rw [hy]
       by_cases h8 : 0 < i
       ·exact Zag (v := b) rfl (Zap (dT (by omega)) (Zap (dT (by omega)) (Zag (v := b) rfl (ZaC (dF (by omega)) (ZaC (dF h7') (Zap (dT h9') rfl))))))
       ·exact Zag (v := b) rfl (Zap (dT (by omega)) (ZaC (dF (by omega)) (ZaC (dF h7') (Zap (dT h9') rfl))))
      ·rw [if_neg h9]
       have h9' : ¬ ((most : Nat) : Int) < ((acc + b.toNat % 128 * 2 ^ (7 * i) : Nat) : Int) := by omega
       refine ⟨.inl ((((acc + b.toNat % 128 * 2 ^ (7 * i) : Nat) : Int), ()), (rdR (some r), ())), Zap (dT (by dsimp only; omega)) (Zag (Zmn b r) (ZaC rfl (Zag (v := b) rfl (ZpE (by dsimp only; omega) ?_)))), .inl rfl⟩
       dsimp only
       rw [hy]
       by_cases h8 : 0 < i
       ·exact Zag (v := b) rfl (Zap (dT (by omega)) (Zap (dT (by omega)) (Zag (v := b) rfl (ZaC (dF (by omega)) (ZaC (dF h7') (ZaC (dF h9') rfl))))))
       ·exact Zag (v := b) rfl (Zap (dT (by omega)) (ZaC (dF (by omega)) (ZaC (dF h7') (ZaC (dF h9') rfl))))
   ·left
    rw [if_neg h5] at hk
    refine ⟨9 - (i + 1), (((), (most : Int), ((acc + b.toNat % 128 * 2 ^ (7 * i) : Nat) : Int), ((7 * (i + 1) : Nat) : Int), ()), (rdR (some r), ())), by omega, Zap (dT (by dsimp only; omega)) (Zag (Zmn b r) (ZaC rfl (Zag (v := b) rfl (ZpE (by dsimp only; omega) ?_)))), i + 1, _, r, rfl, by omega, ?_, rfl, ?_⟩
    ·dsimp only
     rw [hy, w64 (n := ((7 * i : Nat) : Int) + 7) (by omega)]
     exact Zag (v := b) rfl (ZaC (dF (by omega)) rfl)
    ·have hm : b.toNat % 128 * 2 ^ (7 * i) <= 127 * 2 ^ (7 * i) := Nat.mul_le_mul_right _ (by omega)
     have hp : 2 ^ (7 * (i + 1)) = 128 * 2 ^ (7 * i) := by rw [Nat.mul_add, Nat.pow_add, Nat.mul_comm]
     omega
    ·rw [h3, hk, show 8 - i = 9 - (i + 1) by omega]
 ·right
  obtain rfl : i = 9 := by omega
  exact ⟨_, ZaC (dF (by dsimp only; omega)) rfl, .inr ⟨⟨r, rfl⟩, hno rfl⟩⟩
theorem Zin (most : Nat) (o : Option (List UInt8)) : Zbo (most : Int) (rdR o) = some ((ZcM most o).1, (rdR (ZcM most o).2, ())) := by
 unfold Zbo
 cases o with
 | none => exact Zag (v := (false, (rdR none, ()))) rfl (Zap rfl rfl)
 | some l =>
  refine Zag (v := (true, (rdR (some l), ()))) rfl (ZaC rfl ?_)
  obtain ⟨z, hz, rfl | ⟨⟨l', rfl⟩, h2⟩⟩ := ZpG (most := most) _ rfl l
  ·exact Zag hz rfl
  ·rw [h2]
   exact Zag hz rfl
theorem ZzS (most : Nat) (l : List UInt8) : ZgH (most : Int) (true, false, l, ()) = some ((ZcM most (some l)).1, (rdR (ZcM most (some l)).2, (), ())) := by
 unfold ZgH
 refine Zag (v := (true, ((true, false, l, ()), (), (), ()))) rfl (ZaC rfl ?_)
 obtain ⟨z, hz, rfl | ⟨⟨l', rfl⟩, h2⟩⟩ := ZpG (most := most) ZfJ rfl l
 ·exact Zag hz rfl
 ·rw [h2]
  exact Zag hz rfl
def ZsT (most : Nat) (o : Option (List UInt8)) : List UInt8 × Option (List UInt8) := match (ZcM most o).2 with
 | none => ([], none)
 | some l => if (l.length : Int) < (ZcM most o).1 then ([], none) else (l.take (ZcM most o).1.toNat, some (l.drop (ZcM most o).1.toNat))
theorem Zus {most : Nat} {o : Option (List UInt8)} {l : List UInt8} (h : (ZcM most o).2 = some l) : 0 <= (ZcM most o).1 /\ (ZcM most o).1 <= most := by
 unfold ZcM at h ⊢
 cases o with
 | none => cases h
 | some x =>
  dsimp only at h ⊢
  cases hn : ZBn most x with
  | none => rw [hn] at h; cases h
  | some p =>
   unfold ZBn at hn
   obtain ⟨q, hq, hn⟩ := Zal hn
   split at hn
   ·cases hn
   ·injection hn with hn
    subst hn
    dsimp only
    omega
theorem ZzT {n : Nat} {l : List UInt8} : ZbZ (n : Int) (rdR (some l)) = some (if l.length < n then ([], (rdR none, ())) else (l.take n, (rdR (some (l.drop n)), ()))) := by
 unfold ZbZ rdR
 by_cases h : l.length < n
 ·rw [if_pos h]
  exact Zap (dT (by dsimp only; omega)) rfl
 ·rw [if_neg h]
  refine ZaC (dF (by dsimp only; omega)) (Zfi (by dsimp only; omega) (Zfi (by dsimp only; omega) ?_))
  have h1 : ((l.length : Int)).toNat - ((n : Int)).toNat = (l.drop n).length := by rw [List.length_drop]; omega
  dsimp only
  rw [h1, Int.toNat_natCast, List.take_length]
  rfl
theorem Zyh (most : Nat) (hm : most <= 1000000000) (o : Option (List UInt8)) : Zlk (most : Int) (rdR o) = some ((ZsT most o).1, (rdR (ZsT most o).2, (), ())) := by
 unfold Zlk
 refine Zag (Zin most o) ?_
 unfold ZsT
 cases h : (ZcM most o).2 with
 | none => exact Zag (v := (false, (rdR none, ()))) rfl (Zap rfl rfl)
 | some l =>
  obtain ⟨h1, h2⟩ := Zus h
  obtain ⟨n, hn⟩ : ∃ n : Nat, (ZcM most o).1 = (n : Int) := ⟨(ZcM most o).1.toNat, by omega⟩
  refine Zag (v := (true, (rdR (some l), ()))) rfl (ZaC rfl (Zag (v := if l.length < n then ([], (rdR none, ())) else (l.take n, (rdR (some (l.drop n)), ()))) (by dsimp only; rw [hn]; exact ZzT) ?_))
  dsimp only
  rw [hn, Int.toNat_natCast]
  by_cases hl : l.length < n
  ·rw [if_pos hl, if_pos (by omega)]
   exact Zag (v := ([], ((), ()))) rfl rfl
  ·rw [if_neg hl, if_neg (by omega)]
   have hlen : (l.take n).length <= n := by rw [List.length_take]; omega
   refine Zag (v := (l.take n, ((), ()))) (by unfold ZfF; exact Zfi (by dsimp only; omega) rfl) rfl
end Go.Proofs.YteempnebenjkmaaDoor
namespace Go.Proofs.YteempnebenjkmaaDoor
open Go.RowKit
set_option maxRecDepth 100000
set_option linter.unusedVariables false
set_option linter.unusedSimpArgs false
theorem Zk6 {α β : Type} {step : α -> Option (α ⊕ β)} {a a' : α} {b : β} (h : step a = some (.inl a')) (h2 : Zbl step a' = some b) : Zbl step a = some b := (ZhO h).trans h2
abbrev WB := Bool × List UInt8
def ZkX (l : List Int) (w : WB) : WB := Zcs l (Zcs [(l.length : Int)] w)
theorem ZgN (l : List Int) (w : WB) : (ZkX l w).2.length <= w.2.length + 9 + 9 * l.length := by
 have h1 := Ze2 l (Zcs [(l.length : Int)] w)
 have h2 := Ze2 [(l.length : Int)] w
 rw [List.length_singleton] at h2
 unfold ZkX
 omega
theorem ZhR {l : List Int} {w : WB} (hl : l.length <= 10000) (hb : w.2.length <= 500000) : ZdB l (true, w.1, w.2, ()) = some ((), ((true, (ZkX l w).1, (ZkX l w).2, ()), (), (), ())) := by
 have h2 := Ze2 [(l.length : Int)] w
 rw [List.length_singleton] at h2
 unfold ZdB
 exact Zag (Zml (xs := [(l.length : Int)]) (sp := w.1) (b := w.2) (by simp) (by omega)) (Zag (Zml (sp := (Zcs [(l.length : Int)] w).1) (b := (Zcs [(l.length : Int)] w).2) hl (by omega)) rfl)
def Zw8 (c : ZbY) (w : WB) : WB := ZkX c.want (ZkX c.learners (ZkX c.old (ZkX c.voters w)))
def ZjD (c : ZbY) : Prop := c.voters.length + c.old.length + c.learners.length + c.want.length <= 10000
theorem ZvY {c : ZbY} {w : WB} (hc : ZjD c) (hb : w.2.length <= 300000) : Zd1 c (true, w.1, w.2, ()) = some ((), ((true, (Zw8 c w).1, (Zw8 c w).2, ()), (), (), ())) := by
 unfold ZjD at hc
 have l1 := ZgN c.voters w
 have l2 := ZgN c.old (ZkX c.voters w)
 have l3 := ZgN c.learners (ZkX c.old (ZkX c.voters w))
 have key : Zbl ZdU (((), [c.voters, c.old, c.learners, c.want], 4, 0, ()), ((true, w.1, w.2, ()), (), (), ())) = some ((), ((true, (Zw8 c w).1, (Zw8 c w).2, ()), (), (), (), ())) :=
  Zk6 (Zap rfl (Zag (v := c.voters) rfl (Zag (ZhR (by omega) (by omega)) rfl))) <|
  Zk6 (Zap rfl (Zag (v := c.old) rfl (Zag (ZhR (by omega) (by omega)) rfl))) <|
  Zk6 (Zap rfl (Zag (v := c.learners) rfl (Zag (ZhR (by omega) (by omega)) rfl))) <|
  Zk6 (Zap rfl (Zag (v := c.want) rfl (Zag (ZhR (by omega) (by omega)) rfl))) <| ZdC (ZaC rfl rfl)
 unfold Zd1
 exact Zag key rfl
def Zoo (x : Zes) : WB := Zw8 x.config (Zcs [x.index, x.term_] (false, []))
theorem Zmo {x : Zes} (hc : ZjD x.config) : Zcf x (true, false, [], ()) = some ((), ((true, (Zoo x).1, (Zoo x).2, ()), (), (), ())) := by
 have l := Ze2 [x.index, x.term_] (false, [])
 simp only [List.length_cons, List.length_nil] at l
 unfold Zcf
 exact Zag (Zml (xs := [x.index, x.term_]) (sp := false) (b := []) (by simp) (by simp)) (Zag (ZvY (w := Zcs [x.index, x.term_] (false, [])) hc (by omega)) rfl)
theorem Zmp {x : Zes} (hc : ZjD x.config) : (Zoo x).2.length <= 100000 := by
 unfold ZjD at hc
 have l := Ze2 [x.index, x.term_] (false, [])
 simp only [List.length_cons, List.length_nil] at l
 have l1 := ZgN x.config.voters (Zcs [x.index, x.term_] (false, []))
 have l2 := ZgN x.config.old (ZkX x.config.voters (Zcs [x.index, x.term_] (false, [])))
 have l3 := ZgN x.config.learners (ZkX x.config.old (ZkX x.config.voters (Zcs [x.index, x.term_] (false, []))))
 have l4 := ZgN x.config.want (ZkX x.config.learners (ZkX x.config.old (ZkX x.config.voters (Zcs [x.index, x.term_] (false, [])))))
 unfold Zoo Zw8
 omega
abbrev OB := Option (List UInt8)
def Zdj : Nat -> OB -> List Int × OB
 | 0, o => ([], o)
 | n + 1, o => ((ZcM 5 o).1 :: (Zdj n (ZcM 5 o).2).1, (Zdj n (ZcM 5 o).2).2)
def Zjm (o : OB) : List Int × OB := Zdj (ZcM 5 o).1.toNat (ZcM 5 o).2
abbrev S2 (i : Int) (c : Int) (k : Nat) (o : OB) (h0 h1 h2 h3 : List Int) : ((Unit) × (Unit) × (Unit) × (Int) × (Int) × (Int) × (Int) × Unit) × ((Zao) × ((List (Int)) × (List (Int)) × (List (Int)) × (List (Int)) × Unit) × ((Nat) × (Nat) × (Nat) × (Nat) × Unit) × (Unit) × (Unit) × (Unit) × (Unit) × (List (Int)) × (List (Int)) × (List (Int)) × (List (Int)) × Unit) :=
 (((), (), (), i, i, c, (k : Int), ()), (rdR o, ([], [], [], [], ()), (h0.length, h1.length, h2.length, h3.length, ()), (), (), (), (), h0, h1, h2, h3, ()))
theorem Zut (o : OB) : 0 <= (ZcM 5 o).1 /\ (ZcM 5 o).1 <= 5 := by
 cases h : (ZcM 5 o).2 with
 | some l => exact Zus h
 | none =>
  cases o with
  | none => exact ⟨Int.le_refl _, by decide⟩
  | some l =>
   unfold ZcM at h ⊢
   dsimp only at h ⊢
   split at h
   ·cases h
   ·exact ⟨Int.le_refl _, by decide⟩
theorem ZvZ {c : Int} {k : Nat} {o : OB} {h0 h1 h2 h3 : List Int} (hk : (k : Int) < c) (hc : c <= 5) (hl : h0.length <= 1000) : Zaj (S2 0 c k o h0 h1 h2 h3) = some (.inl (S2 0 c (k + 1) (ZcM 5 o).2 (h0 ++ [(ZcM 5 o).1]) h1 h2 h3)) := by
 unfold Zaj
 refine Zap (dT (by dsimp only; omega)) <| Zfi rfl <| Zag (Zin 5 o) <| Zfi (by dsimp only [List.length_singleton]; omega) <| Zfi rfl ?_
 dsimp only
 rw [w64 (n := (k : Int) + 1) (by omega), List.take_length]
 simp only [S2, List.length_append, List.length_singleton, Int.natCast_add, Int.natCast_one, Int.cast_ofNat_Int]
theorem ZBQ {c : Int} (hc : c <= 5) : ∀ (n : Nat) {k : Nat} {o : OB} {h0 h1 h2 h3 : List Int}, (k : Int) + n = c -> h0.length = k -> Zbl Zaj (S2 0 c k o h0 h1 h2 h3) = some (((), (), (), (0 : Int), ()), (rdR (Zdj n o).2, ([], [], [], [], ()), ((h0 ++ (Zdj n o).1).length, h1.length, h2.length, h3.length, ()), (), (), (), (), (), (), (), (), (), (), (), (), (h0 ++ (Zdj n o).1), h1, h2, h3, ()))
 | 0, k, o, h0, h1, h2, h3, hk, hl => ZdC (by
  unfold Zaj
  refine ZaC (dF (by dsimp only; omega)) ?_
  simp only [Zdj, List.append_nil])
 | n + 1, k, o, h0, h1, h2, h3, hk, hl => by
  refine Zk6 (ZvZ (by omega) hc (by omega)) ?_
  rw [ZBQ hc n (k := k + 1) (by omega) (by rw [List.length_append, hl]; rfl)]
  simp only [Zdj, List.append_assoc, List.singleton_append]
theorem Zv0 {c : Int} {k : Nat} {o : OB} {h0 h1 h2 h3 : List Int} (hk : (k : Int) < c) (hc : c <= 5) (hl : h1.length <= 1000) : Zaj (S2 1 c k o h0 h1 h2 h3) = some (.inl (S2 1 c (k + 1) (ZcM 5 o).2 h0 (h1 ++ [(ZcM 5 o).1]) h2 h3)) := by
 unfold Zaj
 refine Zap (dT (by dsimp only; omega)) <| ZpE (show ¬ ((1 : Int) = ((0 : Nat) : Int)) by decide) <| Zfi rfl <| Zag (Zin 5 o) <| Zfi (by dsimp only [List.length_singleton]; omega) <| ZpE (show ¬ ((1 : Int) = ((0 : Nat) : Int)) by decide) <| Zfi rfl ?_
 dsimp only
 rw [w64 (n := (k : Int) + 1) (by omega), List.take_length]
 simp only [S2, List.length_append, List.length_singleton, Int.natCast_add, Int.natCast_one, Int.cast_ofNat_Int]
theorem ZBR {c : Int} (hc : c <= 5) : ∀ (n : Nat) {k : Nat} {o : OB} {h0 h1 h2 h3 : List Int}, (k : Int) + n = c -> h1.length = k -> Zbl Zaj (S2 1 c k o h0 h1 h2 h3) = some (((), (), (), (1 : Int), ()), (rdR (Zdj n o).2, ([], [], [], [], ()), (h0.length, (h1 ++ (Zdj n o).1).length, h2.length, h3.length, ()), (), (), (), (), (), (), (), (), (), (), (), (), h0, (h1 ++ (Zdj n o).1), h2, h3, ()))
 | 0, k, o, h0, h1, h2, h3, hk, hl => ZdC (by
  unfold Zaj
  refine ZaC (dF (by dsimp only; omega)) ?_
  simp only [Zdj, List.append_nil])
 | n + 1, k, o, h0, h1, h2, h3, hk, hl => by
  refine Zk6 (Zv0 (by omega) hc (by omega)) ?_
  rw [ZBR hc n (k := k + 1) (by omega) (by rw [List.length_append, hl]; rfl)]
  simp only [Zdj, List.append_assoc, List.singleton_append]
theorem Zv1 {c : Int} {k : Nat} {o : OB} {h0 h1 h2 h3 : List Int} (hk : (k : Int) < c) (hc : c <= 5) (hl : h2.length <= 1000) : Zaj (S2 2 c k o h0 h1 h2 h3) = some (.inl (S2 2 c (k + 1) (ZcM 5 o).2 h0 h1 (h2 ++ [(ZcM 5 o).1]) h3)) := by
 unfold Zaj
 refine Zap (dT (by dsimp only; omega)) <| ZpE (show ¬ ((2 : Int) = ((0 : Nat) : Int)) by decide) <| ZpE (show ¬ ((2 : Int) = ((1 : Nat) : Int)) by decide) <| Zfi rfl <| Zag (Zin 5 o) <| Zfi (by dsimp only [List.length_singleton]; omega) <| ZpE (show ¬ ((2 : Int) = ((0 : Nat) : Int)) by decide) <| ZpE (show ¬ ((2 : Int) = ((1 : Nat) : Int)) by decide) <| Zfi rfl ?_
 dsimp only
 rw [w64 (n := (k : Int) + 1) (by omega), List.take_length]
 simp only [S2, List.length_append, List.length_singleton, Int.natCast_add, Int.natCast_one, Int.cast_ofNat_Int]
theorem ZBS {c : Int} (hc : c <= 5) : ∀ (n : Nat) {k : Nat} {o : OB} {h0 h1 h2 h3 : List Int}, (k : Int) + n = c -> h2.length = k -> Zbl Zaj (S2 2 c k o h0 h1 h2 h3) = some (((), (), (), (2 : Int), ()), (rdR (Zdj n o).2, ([], [], [], [], ()), (h0.length, h1.length, (h2 ++ (Zdj n o).1).length, h3.length, ()), (), (), (), (), (), (), (), (), (), (), (), (), h0, h1, (h2 ++ (Zdj n o).1), h3, ()))
 | 0, k, o, h0, h1, h2, h3, hk, hl => ZdC (by
  unfold Zaj
  refine ZaC (dF (by dsimp only; omega)) ?_
  simp only [Zdj, List.append_nil])
 | n + 1, k, o, h0, h1, h2, h3, hk, hl => by
  refine Zk6 (Zv1 (by omega) hc (by omega)) ?_
  rw [ZBS hc n (k := k + 1) (by omega) (by rw [List.length_append, hl]; rfl)]
  simp only [Zdj, List.append_assoc, List.singleton_append]
theorem Zv2 {c : Int} {k : Nat} {o : OB} {h0 h1 h2 h3 : List Int} (hk : (k : Int) < c) (hc : c <= 5) (hl : h3.length <= 1000) : Zaj (S2 3 c k o h0 h1 h2 h3) = some (.inl (S2 3 c (k + 1) (ZcM 5 o).2 h0 h1 h2 (h3 ++ [(ZcM 5 o).1]))) := by
 unfold Zaj
 refine Zap (dT (by dsimp only; omega)) <| ZpE (show ¬ ((3 : Int) = ((0 : Nat) : Int)) by decide) <| ZpE (show ¬ ((3 : Int) = ((1 : Nat) : Int)) by decide) <| ZpE (show ¬ ((3 : Int) = ((2 : Nat) : Int)) by decide) <| Zfi rfl <| Zag (Zin 5 o) <| Zfi (by dsimp only [List.length_singleton]; omega) <| ZpE (show ¬ ((3 : Int) = ((0 : Nat) : Int)) by decide) <| ZpE (show ¬ ((3 : Int) = ((1 : Nat) : Int)) by decide) <| ZpE (show ¬ ((3 : Int) = ((2 : Nat) : Int)) by decide) <| Zfi rfl ?_
 dsimp only
 rw [w64 (n := (k : Int) + 1) (by omega), List.take_length]
 simp only [S2, List.length_append, List.length_singleton, Int.natCast_add, Int.natCast_one, Int.cast_ofNat_Int]
theorem ZBT {c : Int} (hc : c <= 5) : ∀ (n : Nat) {k : Nat} {o : OB} {h0 h1 h2 h3 : List Int}, (k : Int) + n = c -> h3.length = k -> Zbl Zaj (S2 3 c k o h0 h1 h2 h3) = some (((), (), (), (3 : Int), ()), (rdR (Zdj n o).2, ([], [], [], [], ()), (h0.length, h1.length, h2.length, (h3 ++ (Zdj n o).1).length, ()), (), (), (), (), (), (), (), (), (), (), (), (), h0, h1, h2, (h3 ++ (Zdj n o).1), ()))
 | 0, k, o, h0, h1, h2, h3, hk, hl => ZdC (by
  unfold Zaj
  refine ZaC (dF (by dsimp only; omega)) ?_
  simp only [Zdj, List.append_nil])
 | n + 1, k, o, h0, h1, h2, h3, hk, hl => by
  refine Zk6 (Zv2 (by omega) hc (by omega)) ?_
  rw [ZBT hc n (k := k + 1) (by omega) (by rw [List.length_append, hl]; rfl)]
  simp only [Zdj, List.append_assoc, List.singleton_append]
abbrev S1 (i : Int) (o : OB) (h0 h1 h2 h3 : List Int) : ((Unit) × (Unit) × (Unit) × (Int) × Unit) × ((Zao) × ((List (Int)) × (List (Int)) × (List (Int)) × (List (Int)) × Unit) × ((Nat) × (Nat) × (Nat) × (Nat) × Unit) × (Unit) × (Unit) × (Unit) × (Unit) × (List (Int)) × (List (Int)) × (List (Int)) × (List (Int)) × Unit) :=
 (((), (), (), i, ()), (rdR o, ([], [], [], [], ()), (h0.length, h1.length, h2.length, h3.length, ()), (), (), (), (), h0, h1, h2, h3, ()))
theorem Zv3 {o : OB} {h1 h2 h3 : List Int} : ZaH (S1 0 o [] h1 h2 h3) = some (.inl (S1 1 (Zjm o).2 (Zjm o).1 h1 h2 h3)) := by
 have h5 := Zut o
 unfold ZaH
 refine Zap (dT (by dsimp only; omega)) (Zag (Zin 5 o) (Zag (ZBQ h5.2 (ZcM 5 o).1.toNat (k := 0) (o := (ZcM 5 o).2) (by omega) rfl) ?_))
 rfl
theorem Zv4 {o : OB} {h0 h2 h3 : List Int} : ZaH (S1 1 o h0 [] h2 h3) = some (.inl (S1 2 (Zjm o).2 h0 (Zjm o).1 h2 h3)) := by
 have h5 := Zut o
 unfold ZaH
 refine Zap (dT (by dsimp only; omega)) (Zag (Zin 5 o) (Zag (ZBR h5.2 (ZcM 5 o).1.toNat (k := 0) (o := (ZcM 5 o).2) (by omega) rfl) ?_))
 rfl
theorem Zv5 {o : OB} {h0 h1 h3 : List Int} : ZaH (S1 2 o h0 h1 [] h3) = some (.inl (S1 3 (Zjm o).2 h0 h1 (Zjm o).1 h3)) := by
 have h5 := Zut o
 unfold ZaH
 refine Zap (dT (by dsimp only; omega)) (Zag (Zin 5 o) (Zag (ZBS h5.2 (ZcM 5 o).1.toNat (k := 0) (o := (ZcM 5 o).2) (by omega) rfl) ?_))
 rfl
theorem Zv6 {o : OB} {h0 h1 h2 : List Int} : ZaH (S1 3 o h0 h1 h2 []) = some (.inl (S1 4 (Zjm o).2 h0 h1 h2 (Zjm o).1)) := by
 have h5 := Zut o
 unfold ZaH
 refine Zap (dT (by dsimp only; omega)) (Zag (Zin 5 o) (Zag (ZBT h5.2 (ZcM 5 o).1.toNat (k := 0) (o := (ZcM 5 o).2) (by omega) rfl) ?_))
 rfl
def ZjE (o : OB) : ZbY × OB := (⟨(Zjm o).1, (Zjm (Zjm o).2).1, (Zjm (Zjm (Zjm o).2).2).1, (Zjm (Zjm (Zjm (Zjm o).2).2).2).1⟩, (Zjm (Zjm (Zjm (Zjm o).2).2).2).2)
theorem ZpH (o : OB) : Zcu (rdR o) = some (((ZjE o).1.voters.length, (ZjE o).1.old.length, (ZjE o).1.learners.length, (ZjE o).1.want.length, ()), (rdR (ZjE o).2, (ZjE o).1.voters, (ZjE o).1.old, (ZjE o).1.learners, (ZjE o).1.want, ())) := by
 have key : Zbl ZaH (S1 0 o [] [] [] []) = some (((), (), ()), (rdR (ZjE o).2, ([], [], [], [], ()), ((ZjE o).1.voters.length, (ZjE o).1.old.length, (ZjE o).1.learners.length, (ZjE o).1.want.length, ()), (), (), (), (), (), (), (), (), (), (), (), (), (ZjE o).1.voters, (ZjE o).1.old, (ZjE o).1.learners, (ZjE o).1.want, ())) :=
  Zk6 Zv3 <| Zk6 Zv4 <| Zk6 Zv5 <| Zk6 Zv6 <| ZdC (ZaC rfl rfl)
 unfold Zcu
 exact Zag key rfl
theorem Zv7 (o : OB) : Zd3 (rdR o) = some (o.isNone, (rdR o, ())) := by
 cases o with
 | none => rfl
 | some l =>
  unfold Zd3
  refine Zag (v := ((l.length : Int), (rdR (some l), ()))) rfl ?_
  by_cases h : l.length = 0
  ·obtain rfl := List.eq_nil_of_length_eq_zero h
   rfl
  ·exact ZaC (dF (by dsimp only; omega)) rfl
def Zed (l : List Int) : Bool := decide ((∀ x ∈ l, 1 <= x /\ x <= 5) /\ l.Pairwise (· < ·))
theorem Zop {l : List Int} (hl : l.length <= 1000000) : ZbV l.length l = some (Zed l, (l, ())) := by
 have key : ∃ z, Zbl Zdf ((l.length, l.length, (l.length : Int), 0, ()), (l, ())) = some z /\ ((z = .inl ((false, ()), (l, ())) /\ Zed l = false) \/ (z = .inr ((), (l, ())) /\ Zed l = true)) := by
  refine ZdV (fun r a => ∃ i : Nat, a = ((l.length, l.length, (l.length : Int), (i : Int), ()), (l, ())) /\ i <= l.length /\ ((∀ x ∈ l.take i, 1 <= x /\ x <= 5) /\ (l.take i).Pairwise (· < ·)) /\ r = l.length - i) _ ?_ (n := l.length) ⟨0, rfl, Nat.zero_le _, ⟨by simp, by simp⟩, rfl⟩
  rintro r a ⟨i, rfl, g1, ⟨g2, g3⟩, rfl⟩
  unfold Zdf
  by_cases hi : i < l.length
  ·have hget : l[(0 + (i : Int).toNat)]? = some l[i] := by rw [Nat.zero_add, Int.toNat_natCast]; exact List.getElem?_eq_getElem hi
   have hmem : l[i] ∈ l := List.getElem_mem hi
   by_cases h1 : l[i] < 1
   ·right
    exact ⟨_, Zap (dT (by dsimp only; omega)) (Zfi (by dsimp only; omega) (Zag hget (Zap (dT h1) rfl))), .inl ⟨rfl, decide_eq_false fun q => by have := q.1 _ hmem; omega⟩⟩
   by_cases h2 : (5 : Int) < l[i]
   ·right
    exact ⟨_, Zap (dT (by dsimp only; omega)) (Zfi (by dsimp only; omega) (Zag hget (ZaC (dF h1) (Zap (dT h2) rfl)))), .inl ⟨rfl, decide_eq_false fun q => by have := q.1 _ hmem; omega⟩⟩
   have ht : l.take (i + 1) = l.take i ++ [l[i]] := by rw [List.take_add_one, List.getElem?_eq_getElem hi]; rfl
   have hin : ∀ x ∈ l.take (i + 1), 1 <= x /\ x <= 5 := fun x hx => by
    rw [ht] at hx
    rcases List.mem_append.1 hx with hx | hx
    ·exact g2 x hx
    ·rw [List.mem_singleton.1 hx]; omega
   by_cases h0 : 0 < i
   ·have hw : IntKind.i64.wrap ((i : Int) - 1) = ((i - 1 : Nat) : Int) := by rw [w64 (by omega)]; omega
    have hget2 : l[(0 + (IntKind.i64.wrap ((i : Int) - 1)).toNat)]? = some l[i - 1] := by rw [hw, Nat.zero_add, Int.toNat_natCast]; exact List.getElem?_eq_getElem (by omega)
    by_cases h3 : l[i] <= l[i - 1]
    ·right
     refine ⟨_, Zap (dT (by dsimp only; omega)) (Zfi (by dsimp only; omega) (Zag hget (ZaC (dF h1) (ZaC (dF h2) (Zap (dT (by dsimp only; omega)) (Zfi (by dsimp only; rw [hw]; omega) (Zag hget2 (Zap (dT h3) rfl)))))))), .inl ⟨rfl, decide_eq_false fun q => ?_⟩⟩
     have := List.pairwise_iff_getElem.1 q.2 (i - 1) i (by omega) hi (by omega)
     omega
    ·left
     refine ⟨l.length - (i + 1), ((l.length, l.length, (l.length : Int), ((i + 1 : Nat) : Int), ()), (l, ())), by omega, Zap (dT (by dsimp only; omega)) (Zfi (by dsimp only; omega) (Zag hget (ZaC (dF h1) (ZaC (dF h2) (Zap (dT (by dsimp only; omega)) (Zfi (by dsimp only; rw [hw]; omega) (Zag hget2 (ZaC (dF h3) ?_)))))))), i + 1, rfl, by omega, ⟨hin, ?_⟩, rfl⟩
     ·dsimp only
      rw [w64 (n := (i : Int) + 1) (by omega)]
      rfl
     ·rw [ht, List.pairwise_append]
      refine ⟨g3, by simp, fun x hx y hy => ?_⟩
      rw [List.mem_singleton.1 hy]
      obtain ⟨j, hj, rfl⟩ := List.getElem_of_mem hx
      rw [List.length_take] at hj
      rw [List.getElem_take]
      by_cases hji : j = i - 1
      ·subst hji; omega
      ·have := List.pairwise_iff_getElem.1 g3 j (i - 1) (by rw [List.length_take]; omega) (by rw [List.length_take]; omega) (by omega)
       rw [List.getElem_take, List.getElem_take] at this
       omega
   ·left
    refine ⟨l.length - (i + 1), ((l.length, l.length, (l.length : Int), ((i + 1 : Nat) : Int), ()), (l, ())), by omega, Zap (dT (by dsimp only; omega)) (Zfi (by dsimp only; omega) (Zag hget (ZaC (dF h1) (ZaC (dF h2) (ZaC (dF (by dsimp only; omega)) ?_))))), i + 1, rfl, by omega, ⟨hin, ?_⟩, rfl⟩
    ·dsimp only
     rw [w64 (n := (i : Int) + 1) (by omega)]
     rfl
    ·obtain rfl : i = 0 := by omega
     rw [ht]; simp
  ·right
   have hie : i = l.length := by omega
   subst hie
   rw [List.take_length] at g2 g3
   exact ⟨_, ZaC (dF (by dsimp only; omega)) rfl, .inr ⟨rfl, decide_eq_true ⟨g2, g3⟩⟩⟩
 obtain ⟨z, hz, ⟨rfl, h⟩ | ⟨rfl, h⟩⟩ := key
 ·unfold ZbV; rw [h]; exact Zag hz rfl
 ·unfold ZbV; rw [h]; exact Zag hz rfl
theorem ZpI : ∀ (n : Nat) (o : OB), (Zdj n o).1.length = n
 | 0, _ => rfl
 | n + 1, o => by show (Zdj n (ZcM 5 o).2).1.length + 1 = _; rw [ZpI]
theorem Zll (o : OB) : (Zjm o).1.length <= 5 := by
 have := Zut o
 unfold Zjm
 rw [ZpI]
 omega
def Zyi (c : ZbY) : Bool := Zed c.voters && (Zed c.old && (Zed c.learners && Zed c.want))
def Zez (x : Zes) : Bool := decide (0 <= x.index /\ x.index <= 1073741824) && (decide (0 <= x.term_ /\ x.term_ <= 1073741824) && Zyi x.config)
theorem Zv8 {c : ZbY} (h1 : c.voters.length <= 1000000) (h2 : c.old.length <= 1000000) (h3 : c.learners.length <= 1000000) (h4 : c.want.length <= 1000000) : Zd4 (c.voters.length, c.old.length, c.learners.length, c.want.length, ()) c.voters c.old c.learners c.want = some (Zyi c, (c.voters, c.old, c.learners, c.want, ())) := by
 unfold Zd4 Zyi
 refine Zag (Zop h1) ?_
 cases Zed c.voters
 ·exact ZaC rfl rfl
 refine Zap rfl (Zag (Zop h2) ?_)
 cases Zed c.old
 ·exact ZaC rfl rfl
 refine Zap rfl (Zag (Zop h3) ?_)
 cases Zed c.learners
 ·exact ZaC rfl rfl
 refine Zap rfl (Zag (Zop h4) ?_)
 rfl
theorem ZrL (x : Int) : ZcY x 1073741824 = some (decide (0 <= x /\ x <= 1073741824), ()) := by
 unfold ZcY
 by_cases h : 0 <= x
 ·refine Zap (dT h) ?_
  by_cases h2 : x <= 1073741824
  ·rw [dT h2, dT (p := 0 <= x /\ x <= 1073741824) ⟨h, h2⟩]
  ·rw [dF h2, dF (p := 0 <= x /\ x <= 1073741824) fun q => h2 q.2]
 ·refine ZaC (dF h) ?_
  rw [dF (p := 0 <= x /\ x <= 1073741824) fun q => h q.1]
theorem ZzU {x : Zes} (h1 : x.config.voters.length <= 1000000) (h2 : x.config.old.length <= 1000000) (h3 : x.config.learners.length <= 1000000) (h4 : x.config.want.length <= 1000000) : Zfv (x.index, x.term_, x.config.voters.length, x.config.old.length, x.config.learners.length, x.config.want.length, ()) x.config.voters x.config.old x.config.learners x.config.want = some (Zez x, (x.config.voters, x.config.old, x.config.learners, x.config.want, ())) := by
 unfold Zfv Zez
 refine Zag (ZrL _) ?_
 cases decide (0 <= x.index /\ x.index <= 1073741824)
 ·exact ZaC rfl rfl
 refine Zap rfl (Zag (ZrL _) ?_)
 cases decide (0 <= x.term_ /\ x.term_ <= 1073741824)
 ·exact ZaC rfl rfl
 exact Zap rfl (Zag (Zv8 h1 h2 h3 h4) rfl)
def Zb0 (l : List UInt8) : Zes × OB :=
 (⟨(ZcM 1073741824 (some l)).1, (ZcM 1073741824 (ZcM 1073741824 (some l)).2).1, (ZjE (ZcM 1073741824 (ZcM 1073741824 (some l)).2).2).1⟩, (ZjE (ZcM 1073741824 (ZcM 1073741824 (some l)).2).2).2)
theorem Zuu (l : List UInt8) : (Zb0 l).1.config.voters.length <= 5 /\ (Zb0 l).1.config.old.length <= 5 /\ (Zb0 l).1.config.learners.length <= 5 /\ (Zb0 l).1.config.want.length <= 5 := ⟨Zll _, Zll _, Zll _, Zll _⟩
def okO (l : List UInt8) : Bool := (Zb0 l).2.isSome && Zez (Zb0 l).1
theorem Zkm (l : List UInt8) : Zco (true, false, l, ()) = some (if okO l = true then
 ((((Zb0 l).1.index, (Zb0 l).1.term_, (Zb0 l).1.config.voters.length, (Zb0 l).1.config.old.length, (Zb0 l).1.config.learners.length, (Zb0 l).1.config.want.length, ()), true, ()), (rdR (Zb0 l).2, (), (Zb0 l).1.config.voters, (Zb0 l).1.config.old, (Zb0 l).1.config.learners, (Zb0 l).1.config.want, ()))
 else (((0, 0, 0, 0, 0, 0, ()), false, ()), (rdR (Zb0 l).2, (), [], [], [], [], ()))) := by
 obtain ⟨q1, q2, q3, q4⟩ := Zuu l
 unfold Zco
 refine Zag (ZzS 1073741824 l) (Zag (Zin 1073741824 _) (Zag (ZpH _) (Zag (Zv7 _) ?_)))
 unfold okO
 show (bif (Zb0 l).2.isNone then _ else _) = _
 cases h : (Zb0 l).2 with
 | none => exact congrArg some (by rw [if_neg (by simp)]; rw [show (ZjE (ZcM 1073741824 (ZcM 1073741824 (some l)).2).2).2 = none from h])
 | some r =>
  refine ZaC rfl (Zag (ZzU (x := (Zb0 l).1) (by omega) (by omega) (by omega) (by omega)) ?_)
  cases hb : Zez (Zb0 l).1
  ·refine Zap rfl ?_
   rw [if_neg (by simp)]
   dsimp only
   rw [show (ZjE (ZcM 1073741824 (ZcM 1073741824 (some l)).2).2).2 = some r from h]
  ·refine ZaC rfl ?_
   rw [if_pos (by simp)]
   dsimp only
   rw [show (ZjE (ZcM 1073741824 (ZcM 1073741824 (some l)).2).2).2 = some r from h]
   rfl
end Go.Proofs.YteempnebenjkmaaDoor
namespace Go.Proofs.YteempnebenjkmaaDoor
open Go.RowKit
set_option maxRecDepth 100000
set_option linter.unusedVariables false
set_option linter.unusedSimpArgs false
theorem Zv9 : ∀ (k i acc n : Nat) (r : List UInt8), n < 128 ^ (k + 1) -> (0 < i -> 0 < n) -> acc + n * 2 ^ (7 * i) <= top -> ZqR (k + 1) i acc (Zkl n ++ r) = some (acc + n * 2 ^ (7 * i), r) := by
 intro k
 induction k with
 | zero =>
  intro i acc n r h h0 ht
  have hn : n < 128 := by simpa using h
  rw [ZiO hn, List.singleton_append]
  have hb : (UInt8.ofNat n).toNat = n := by rw [UInt8.toNat_ofNat']; omega
  have hm : n % 128 = n := Nat.mod_eq_of_lt hn
  unfold ZqR
  dsimp only
  rw [hb, hm, if_pos hn, if_neg (by omega)]
 | succ k ih =>
  intro i acc n r h h0 ht
  by_cases hn : n < 128
  ·rw [ZiO hn, List.singleton_append]
   have hb : (UInt8.ofNat n).toNat = n := by rw [UInt8.toNat_ofNat']; omega
   have hm : n % 128 = n := Nat.mod_eq_of_lt hn
   unfold ZqR
   dsimp only
   rw [hb, hm, if_pos hn, if_neg (by omega)]
  ·rw [Zmk hn, List.cons_append]
   have hb : (UInt8.ofNat (n % 128 + 128)).toNat = n % 128 + 128 := by rw [UInt8.toNat_ofNat']; omega
   have hm : (n % 128 + 128) % 128 = n % 128 := by omega
   have hp : 2 ^ (7 * (i + 1)) = 128 * 2 ^ (7 * i) := by rw [Nat.mul_add, Nat.pow_add, Nat.mul_comm]
   have hsum : acc + n % 128 * 2 ^ (7 * i) + n / 128 * 2 ^ (7 * (i + 1)) = acc + n * 2 ^ (7 * i) := by
    rw [hp, <- Nat.mul_assoc, Nat.add_assoc, <- Nat.add_mul]
    congr 2
    omega
   unfold ZqR
   dsimp only
   rw [hb, hm, if_neg (by omega), ih (i + 1) _ (n / 128) r (by rw [Nat.pow_succ] at h; omega) (by omega) (by rw [hsum]; exact ht), hsum]
theorem Zc4 {n : Nat} (most : Nat) (r : List UInt8) (hn : n <= top) : ZcM most (some (Zkl n ++ r)) = if most < n then (0, none) else ((n : Int), some r) := by
 have h := Zv9 8 0 0 n r (by unfold top at hn; omega) (fun q => absurd q (by omega)) (by simpa using hn)
 rw [ZrK (p := (n, r)) (by simpa using h)]
theorem ZpJ (x : Int) (xs : List Int) : Zon (x :: xs) = Zkl x.toNat ++ Zon xs := by simp [Zon]
theorem Zkn : ∀ n, (Zdj n none).2 = none
 | 0 => rfl
 | n + 1 => Zkn n
theorem Zgo : (Zjm none).2 = none := Zkn _
theorem ZhS {x : Int} (h : ZdW x = true) : x.toNat <= top /\ (x.toNat : Int) = x := by
 have := Zc3.1 h
 unfold top
 omega
theorem Znw : ∀ (xs : List Int) (r : List UInt8), xs.all ZdW = true -> (∀ x ∈ xs, x <= 5) -> Zdj xs.length (some (Zon xs ++ r)) = (xs, some r)
 | [], r, _, _ => rfl
 | x :: xs, r, hg, hl => by
  rw [List.all_cons, Bool.and_eq_true] at hg
  obtain ⟨t1, t2⟩ := ZhS hg.1
  have hx := hl x List.mem_cons_self
  have e : ZcM 5 (some (Zon (x :: xs) ++ r)) = (x, some (Zon xs ++ r)) := by
   rw [ZpJ, List.append_assoc, Zc4 5 _ t1, if_neg (by omega), t2]
  show ((ZcM 5 (some (Zon (x :: xs) ++ r))).1 :: (Zdj xs.length (ZcM 5 (some (Zon (x :: xs) ++ r))).2).1, (Zdj xs.length (ZcM 5 (some (Zon (x :: xs) ++ r))).2).2) = _
  rw [e, Znw xs r hg.2 fun y hy => hl y (List.mem_cons_of_mem _ hy)]
theorem Znx : ∀ (xs : List Int) (r : List UInt8), xs.all ZdW = true -> ¬ (∀ x ∈ xs, x <= 5) -> (Zdj xs.length (some (Zon xs ++ r))).2 = none
 | [], r, _, hl => absurd (fun _ h => by cases h) hl
 | x :: xs, r, hg, hl => by
  rw [List.all_cons, Bool.and_eq_true] at hg
  obtain ⟨t1, t2⟩ := ZhS hg.1
  show (Zdj xs.length (ZcM 5 (some (Zon (x :: xs) ++ r))).2).2 = none
  rw [ZpJ, List.append_assoc, Zc4 5 _ t1]
  by_cases hx : x <= 5
  ·rw [if_neg (by omega)]
   exact Znx xs r hg.2 fun q => hl fun y hy => by
    rcases List.mem_cons.1 hy with rfl | hy
    ·exact hx
    ·exact q y hy
  ·rw [if_pos (by omega)]
   exact Zkn _
def Zs5 (xs : List Int) : List UInt8 := Zkl xs.length ++ Zon xs
def Zvi (xs : List Int) : Prop := xs.length <= 5 /\ ∀ x ∈ xs, x <= 5
theorem Ze3 {xs : List Int} {r : List UInt8} (hg : xs.all ZdW = true) (hl : Zvi xs) : Zjm (some (Zs5 xs ++ r)) = (xs, some r) := by
 have h5 := hl.1
 have e : ZcM 5 (some (Zs5 xs ++ r)) = ((xs.length : Int), some (Zon xs ++ r)) := by
  unfold Zs5
  rw [List.append_assoc, Zc4 5 _ (by unfold top; omega), if_neg (by omega)]
 unfold Zjm
 rw [e]
 exact Znw xs r hg hl.2
theorem Zjn {xs : List Int} {r : List UInt8} (hn : xs.length <= 10000) (hg : xs.all ZdW = true) (hl : ¬ Zvi xs) : (Zjm (some (Zs5 xs ++ r))).2 = none := by
 have e : ZcM 5 (some (Zs5 xs ++ r)) = if 5 < xs.length then (0, none) else ((xs.length : Int), some (Zon xs ++ r)) := by
  unfold Zs5
  rw [List.append_assoc, Zc4 5 _ (by unfold top; omega)]
 unfold Zjm
 rw [e]
 by_cases h : 5 < xs.length
 ·rw [if_pos h]; rfl
 ·rw [if_neg h]
  exact Znx xs r hg fun q => hl ⟨by omega, q⟩
def Zza (c : ZbY) : List UInt8 := Zs5 c.voters ++ (Zs5 c.old ++ (Zs5 c.learners ++ Zs5 c.want))
def Zyj (c : ZbY) : Prop := c.voters.all ZdW = true /\ c.old.all ZdW = true /\ c.learners.all ZdW = true /\ c.want.all ZdW = true
def ZBo (c : ZbY) : Prop := Zvi c.voters /\ Zvi c.old /\ Zvi c.learners /\ Zvi c.want
theorem Zuv {c : ZbY} {r : List UInt8} (hg : Zyj c) (hl : ZBo c) : ZjE (some (Zza c ++ r)) = (c, some r) := by
 obtain ⟨a1, a2, a3, a4⟩ := hg
 obtain ⟨b1, b2, b3, b4⟩ := hl
 unfold ZjE Zza
 rw [List.append_assoc, Ze3 a1 b1]
 dsimp only
 rw [List.append_assoc, Ze3 a2 b2]
 dsimp only
 rw [List.append_assoc, Ze3 a3 b3]
 dsimp only
 rw [Ze3 a4 b4]
theorem Zuw {c : ZbY} {r : List UInt8} (hf : ZjD c) (hg : Zyj c) (hl : ¬ ZBo c) : (ZjE (some (Zza c ++ r))).2 = none := by
 obtain ⟨a1, a2, a3, a4⟩ := hg
 unfold ZjD at hf
 unfold ZjE Zza
 dsimp only
 rw [List.append_assoc]
 by_cases b1 : Zvi c.voters
 ·rw [Ze3 a1 b1]
  dsimp only
  rw [List.append_assoc]
  by_cases b2 : Zvi c.old
  ·rw [Ze3 a2 b2]
   dsimp only
   rw [List.append_assoc]
   by_cases b3 : Zvi c.learners
   ·rw [Ze3 a3 b3]
    exact Zjn (by omega) a4 fun b4 => hl ⟨b1, b2, b3, b4⟩
   ·rw [Zjn (by omega) a3 b3]; exact Zgo
  ·rw [Zjn (by omega) a2 b2, Zgo]; exact Zgo
 ·rw [Zjn (by omega) a1 b1, Zgo, Zgo]; exact Zgo
end Go.Proofs.YteempnebenjkmaaDoor
namespace Go.Proofs.YteempnebenjkmaaDoor
open Go.RowKit
set_option maxRecDepth 100000
set_option linter.unusedVariables false
set_option linter.unusedSimpArgs false
def Zjo (x : Zes) : List UInt8 := Zkl x.index.toNat ++ (Zkl x.term_.toNat ++ Zza x.config)
def ZqS (x : Zes) : Prop := ZdW x.index = true /\ ZdW x.term_ = true /\ Zyj x.config
def ZAx (x : Zes) : Prop := x.index <= 1073741824 /\ x.term_ <= 1073741824 /\ ZBo x.config
theorem Zny {x : Zes} {r : List UInt8} (hg : ZqS x) (hl : ZAx x) : Zb0 (Zjo x ++ r) = (x, some r) := by
 obtain ⟨a1, a2, a3⟩ := hg
 obtain ⟨b1, b2, b3⟩ := hl
 obtain ⟨t1, t2⟩ := ZhS a1
 obtain ⟨s1, s2⟩ := ZhS a2
 unfold Zb0 Zjo
 rw [List.append_assoc, Zc4 _ _ t1, if_neg (by omega)]
 dsimp only
 rw [List.append_assoc, Zc4 _ _ s1, if_neg (by omega)]
 dsimp only
 rw [Zuv a3 b3, t2, s2]
theorem ZpK : (ZjE none).2 = none := rfl
theorem ZsU {x : Zes} {r : List UInt8} (hf : ZjD x.config) (hg : ZqS x) (hl : ¬ ZAx x) : (Zb0 (Zjo x ++ r)).2 = none := by
 obtain ⟨a1, a2, a3⟩ := hg
 obtain ⟨t1, t2⟩ := ZhS a1
 obtain ⟨s1, s2⟩ := ZhS a2
 unfold Zb0 Zjo
 dsimp only
 rw [List.append_assoc, Zc4 _ _ t1]
 by_cases b1 : x.index <= 1073741824
 ·rw [if_neg (by omega)]
  dsimp only
  rw [List.append_assoc, Zc4 _ _ s1]
  by_cases b2 : x.term_ <= 1073741824
  ·rw [if_neg (by omega)]
   exact Zuw hf a3 fun b3 => hl ⟨b1, b2, b3⟩
  ·rw [if_pos (by omega)]; exact ZpK
 ·rw [if_pos (by omega)]; exact ZpK
theorem ZrM : ∀ (l : List Int) (m : Nat), m <= 6 -> (∀ x ∈ l, (m : Int) <= x /\ x <= 5) -> l.Pairwise (· < ·) -> l.length <= 6 - m
 | [], m, _, _, _ => Nat.zero_le _
 | x :: l, m, hm, h1, h2 => by
  obtain ⟨p1, p2⟩ := List.pairwise_cons.1 h2
  have hx := h1 x List.mem_cons_self
  have := ZrM l (m + 1) (by omega) (fun y hy => ⟨by have := p1 y hy; omega, (h1 y (List.mem_cons_of_mem _ hy)).2⟩) p2
  rw [List.length_cons]
  omega
theorem Zee {l : List Int} (h : Zed l = true) : Zvi l /\ l.all ZdW = true := by
 obtain ⟨h1, h2⟩ := of_decide_eq_true h
 refine ⟨⟨ZrM l 1 (by omega) (fun x hx => h1 x hx) h2, fun x hx => (h1 x hx).2⟩, List.all_eq_true.2 fun x hx => Zc3.2 ?_⟩
 have := h1 x hx
 omega
theorem Zef {x : Zes} (h : Zez x = true) : ZAx x /\ ZqS x := by
 unfold Zez Zyi at h
 simp only [Bool.and_eq_true] at h
 obtain ⟨h1, h2, h3, h4, h5, h6⟩ := h
 have h1 := of_decide_eq_true h1
 have h2 := of_decide_eq_true h2
 exact ⟨⟨h1.2, h2.2, (Zee h3).1, (Zee h4).1, (Zee h5).1, (Zee h6).1⟩, Zc3.2 (by omega), Zc3.2 (by omega), (Zee h3).2, (Zee h4).2, (Zee h5).2, (Zee h6).2⟩
theorem ZrN {x : Zes} {r : List UInt8} (hf : ZjD x.config) (hg : ZqS x) : okO (Zjo x ++ r) = Zez x := by
 unfold okO
 by_cases hl : ZAx x
 ·rw [Zny hg hl]; rfl
 ·rw [ZsU hf hg hl]
  cases hb : Zez x with
  | false => rfl
  | true => exact absurd (Zef hb).1 hl
theorem Zjp {xs : List Int} {b : List UInt8} (hn : xs.length <= 10000) (hg : xs.all ZdW = true) : ZkX xs (false, b) = (false, b ++ Zs5 xs) := by
 unfold ZkX Zs5
 have h1 : [(xs.length : Int)].all ZdW = true := by
  rw [List.all_cons, List.all_nil, Bool.and_true]
  exact Zc3.2 (by omega)
 rw [ZhQ _ _ _ h1, ZhQ _ _ _ hg]
 simp [Zon]
theorem Zc5 (xs : List Int) {w : WB} (h : w.1 = true) : (ZkX xs w).1 = true := by
 obtain ⟨w1, w2⟩ := w
 dsimp only at h
 subst h
 have h1 := Zgn [(xs.length : Int)] w2
 unfold ZkX
 generalize hq : Zcs [(xs.length : Int)] (true, w2) = q at h1
 obtain ⟨q1, q2⟩ := q
 dsimp only at h1
 subst h1
 exact Zgn xs q2
theorem Zlm {xs : List Int} {b : List UInt8} (hg : xs.all ZdW = false) (sp : Bool) : (ZkX xs (sp, b)).1 = true := by
 unfold ZkX
 generalize Zcs [(xs.length : Int)] (sp, b) = q
 obtain ⟨q1, q2⟩ := q
 exact Zmm xs q1 q2 hg
theorem ZhT {x : Zes} (hf : ZjD x.config) (hg : ZqS x) : Zoo x = (false, Zjo x) := by
 obtain ⟨a1, a2, b1, b2, b3, b4⟩ := hg
 unfold ZjD at hf
 have h0 : [x.index, x.term_].all ZdW = true := by simp [a1, a2]
 unfold Zoo Zw8
 rw [ZhQ _ _ _ h0, Zjp (by omega) b1, Zjp (by omega) b2, Zjp (by omega) b3, Zjp (by omega) b4]
 simp [Zjo, Zza, Zon, List.append_assoc]
theorem Zux {x : Zes} (hf : ZjD x.config) (hg : ¬ ZqS x) : (Zoo x).1 = true := by
 unfold Zoo Zw8
 by_cases h0 : [x.index, x.term_].all ZdW = true
 ·by_cases b1 : x.config.voters.all ZdW = true
  ·by_cases b2 : x.config.old.all ZdW = true
   ·by_cases b3 : x.config.learners.all ZdW = true
    ·by_cases b4 : x.config.want.all ZdW = true
     ·simp only [List.all_cons, List.all_nil, Bool.and_true, Bool.and_eq_true] at h0
      exact absurd ⟨h0.1, h0.2, b1, b2, b3, b4⟩ hg
     ·generalize ZkX x.config.learners _ = q
      obtain ⟨q1, q2⟩ := q
      exact Zlm (by simpa using b4) q1
    ·refine Zc5 _ ?_
     generalize ZkX x.config.old _ = q
     obtain ⟨q1, q2⟩ := q
     exact Zlm (by simpa using b3) q1
   ·refine Zc5 _ (Zc5 _ ?_)
    generalize ZkX x.config.voters _ = q
    obtain ⟨q1, q2⟩ := q
    exact Zlm (by simpa using b2) q1
  ·refine Zc5 _ (Zc5 _ (Zc5 _ ?_))
   generalize Zcs [x.index, x.term_] _ = q
   obtain ⟨q1, q2⟩ := q
   exact Zlm (by simpa using b1) q1
 ·exact Zc5 _ (Zc5 _ (Zc5 _ (Zc5 _ (Zmm _ _ _ (by simpa using h0)))))
theorem Zln {l : List UInt8} (h : l.length <= 1000000) : ZcX l = some ((), ((true, false, l, ()), (), ())) := by
 unfold ZcX
 exact Zag (v := (l, ((), ()))) (by unfold ZfF; exact Zfi (by omega) rfl) rfl
theorem Zwa {b : List UInt8} : ∃ st, Zga (true, true, b, ()) = some (([], 2, ()), st) := ⟨_, Zag rfl (ZaC rfl (Zap rfl rfl))⟩
theorem Zyk {x : Zes} (hf : ZjD x.config) : ZgI x = some (Zez x, ()) := by
 have hl := Zmp hf
 unfold ZgI
 refine Zag rfl (Zag (Zmo hf) ?_)
 by_cases hg : ZqS x
 ·rw [ZhT hf hg] at hl ⊢
  obtain ⟨st, hd⟩ := Zw7 (sp := false) (b := Zjo x) (by dsimp only at hl; omega)
  refine Zag hd (ZaC (by rfl) (Zag (Zln (by dsimp only at hl ⊢; exact (by simpa using hl : (Zjo x).length <= 100000) |> fun q => by simpa using Nat.le_trans q (by omega))) (Zag (Zkm _) ?_)))
  have := ZrN (r := []) hf hg
  rw [List.append_nil] at this
  rw [show okO (if false = true then ([], 2, ()) else (Zjo x, (0 : Int), ())).1 = Zez x from this]
  cases Zez x <;> rfl
 ·have hb := Zux hf hg
  obtain ⟨st, hd⟩ := Zwa (b := (Zoo x).2)
  have hnb : Zez x = false := by
   cases h : Zez x with
   | false => rfl
   | true => exact absurd (Zef h).2 hg
  rw [hnb]
  dsimp only
  rw [hb]
  exact Zag hd (Zap rfl rfl)
end Go.Proofs.YteempnebenjkmaaDoor
namespace Go.Proofs.YteempnebenjkmaaDoor
open Go.RowKit
set_option maxRecDepth 100000
set_option linter.unusedVariables false
set_option linter.unusedSimpArgs false
def Zlo (x : Zcd) : List UInt8 := Zjo x.base ++ Zm4 x.bytes
theorem Zuy {x : Zcd} (hf : ZjD x.base.config) (hb : x.bytes.length <= 5000) : Zdi x = some ((if Zez x.base = true then (Zlo x, 0, ()) else ([], 2, ())), ((), ())) := by
 have hl := Zmp hf
 unfold Zdi
 refine Zag (Zyk hf) ?_
 cases h : Zez x.base
 ·exact Zap rfl rfl
 ·have hg := (Zef h).2
  rw [ZhT hf hg] at hl
  dsimp only at hl
  refine ZaC rfl (ZaC (dF (by omega)) (Zag rfl (Zag (Zmo hf) ?_)))
  rw [ZhT hf hg]
  refine Zag (Zye (t := x.bytes) (sp := false) (b := Zjo x.base) (by omega) (by omega)) ?_
  have hr : (Zm4 x.bytes).length <= 5009 := by
   have := Zhx (n := x.bytes.length) (by omega)
   unfold Zm4
   rw [List.length_append]
   omega
  obtain ⟨st, hd⟩ := Zw7 (sp := false) (b := Zjo x.base ++ Zm4 x.bytes) (by rw [List.length_append]; omega)
  exact Zag hd rfl
theorem ZzV (o : OB) : Zjj (rdR o) = some (if o = some [] then 0 else 4, (rdR o, ())) := by
 cases o with
 | none => rfl
 | some l =>
  cases l with
  | nil => rfl
  | cons a l =>
   unfold Zjj
   refine ZaC rfl (ZaC rfl (Zap (dT (by show (0 : Int) < ((l.length + 1 : Nat) : Int); omega)) ?_))
   rw [if_neg (by simp)]
def okG (l : List UInt8) : Prop := okO l = true /\ (ZsT 131072 (Zb0 l).2).2 = some []
theorem Zuz {l : List UInt8} (hl : l.length <= 1000000) (h : okG l) : Za6 l = some ((((Zb0 l).1.index, (Zb0 l).1.term_, (Zb0 l).1.config.voters.length, (Zb0 l).1.config.old.length, (Zb0 l).1.config.learners.length, (Zb0 l).1.config.want.length, (ZsT 131072 (Zb0 l).2).1, ()), true, ()), ((Zb0 l).1.config.voters, (Zb0 l).1.config.old, (Zb0 l).1.config.learners, (Zb0 l).1.config.want, ())) := by
 have hR := Zkm l
 rw [if_pos h.1] at hR
 have hE := ZzV (ZsT 131072 (Zb0 l).2).2
 rw [if_pos h.2] at hE
 unfold Za6
 exact Zag (Zln hl) (Zag hR (Zag (Zyh 131072 (by omega) _) (ZaC rfl (Zag hE (ZaC rfl rfl)))))
theorem Zw9 {l : List UInt8} (hl : l.length <= 1000000) (h : ¬ okG l) : Za6 l = some (((0, 0, 0, 0, 0, 0, [], ()), false, ()), ([], [], [], [], ())) := by
 have hR := Zkm l
 unfold Za6
 by_cases h1 : okO l = true
 ·rw [if_pos h1] at hR
  have hE := ZzV (ZsT 131072 (Zb0 l).2).2
  rw [if_neg fun q => h ⟨h1, q⟩] at hE
  exact Zag (Zln hl) (Zag hR (Zag (Zyh 131072 (by omega) _) (ZaC rfl (Zag hE (Zap rfl rfl)))))
 ·rw [if_neg h1] at hR
  exact Zag (Zln hl) (Zag hR (Zag (Zyh 131072 (by omega) _) (Zap rfl rfl)))
theorem Zlp {t r : List UInt8} (ht : t.length <= 131072) : ZsT 131072 (some (Zm4 t ++ r)) = (t, some r) := by
 unfold ZsT Zm4
 rw [List.append_assoc, Zc4 131072 _ (by unfold top; omega), if_neg (by omega)]
 dsimp only
 rw [if_neg (by rw [List.length_append]; omega), Int.toNat_natCast]
 simp
theorem Zwb {t : List UInt8} (ht : t.length <= 131072) : (ZsT 131072 (some ((Zm4 t).dropLast))).2 = none := by
 by_cases h0 : t = []
 ·subst h0
  have : (Zm4 []).dropLast = [] := by unfold Zm4; rw [ZiO (by simp)]; rfl
  rw [this]
  rfl
 ·have hd : (Zm4 t).dropLast = Zkl t.length ++ t.dropLast := by unfold Zm4; exact List.dropLast_append_of_ne_nil h0
  rw [hd]
  unfold ZsT
  rw [Zc4 131072 _ (by unfold top; omega), if_neg (by omega)]
  dsimp only
  rw [if_pos (by rw [List.length_dropLast]; have := List.length_pos_iff.2 h0; omega)]
theorem Zjq {x : Zcd} {r : List UInt8} (h : Zez x.base = true) : Zb0 (Zjo x.base ++ r) = (x.base, some r) := Zny (Zef h).2 (Zef h).1
theorem ZuA {x : Zcd} (hf : ZjD x.base.config) (hb : x.bytes.length <= 5000) (h : Zez x.base = true) : okG (Zlo x) := by
 unfold Zlo
 refine ⟨by rw [ZrN hf (Zef h).2, h], ?_⟩
 rw [Zjq h]
 have := Zlp (t := x.bytes) (r := []) (by omega)
 rw [List.append_nil] at this
 rw [this]
theorem Zwc {x : Zcd} (hf : ZjD x.base.config) (hb : x.bytes.length <= 5000) (h : Zez x.base = true) (b : UInt8) : ¬ okG (Zlo x ++ [b]) := fun q => by
 have q2 := q.2
 unfold Zlo at q2
 rw [List.append_assoc, Zjq h] at q2
 dsimp only at q2
 rw [Zlp (by omega)] at q2
 cases q2
theorem Zwd {x : Zcd} (hf : ZjD x.base.config) (hb : x.bytes.length <= 5000) (h : Zez x.base = true) : ¬ okG (Zlo x).dropLast := fun q => by
 have q2 := q.2
 have hne : Zm4 x.bytes ≠ [] := fun q => by
  have := congrArg List.length q
  have h2 := Zom x.bytes.length
  unfold Zm4 at this
  rw [List.length_append, List.length_nil] at this
  omega
 unfold Zlo at q2
 rw [List.dropLast_append_of_ne_nil hne, Zjq h] at q2
 dsimp only at q2
 rw [Zwb (by omega)] at q2
 cases q2
end Go.Proofs.YteempnebenjkmaaDoor
namespace Go.Proofs.YteempnebenjkmaaDoor
open Go.RowKit
set_option maxRecDepth 100000
set_option linter.unusedVariables false
set_option linter.unusedSimpArgs false
theorem Zjr {l : List Int} (hl : l.length <= 1000000) : Zbs l = some (Zed l, ()) := by
 have key : ∃ z, Zbl Zcv ((l, l, (l.length : Int), 0, ()), ()) = some z /\ ((z = .inl ((false, ()), ()) /\ Zed l = false) \/ (z = .inr ((), ()) /\ Zed l = true)) := by
  refine ZdV (fun r a => ∃ i : Nat, a = ((l, l, (l.length : Int), (i : Int), ()), ()) /\ i <= l.length /\ ((∀ x ∈ l.take i, 1 <= x /\ x <= 5) /\ (l.take i).Pairwise (· < ·)) /\ r = l.length - i) _ ?_ (n := l.length) ⟨0, rfl, Nat.zero_le _, ⟨by simp, by simp⟩, rfl⟩
  rintro r a ⟨i, rfl, g1, ⟨g2, g3⟩, rfl⟩
  unfold Zcv
  by_cases hi : i < l.length
  ·have hget : ZhG l (i : Int) = some l[i] := ZcE hi
   have hmem : l[i] ∈ l := List.getElem_mem hi
   by_cases h1 : l[i] < 1
   ·right
    exact ⟨_, Zap (dT (by dsimp only; omega)) (id (Zag hget (Zap (dT h1) rfl))), .inl ⟨rfl, decide_eq_false fun q => by have := q.1 _ hmem; omega⟩⟩
   by_cases h2 : (5 : Int) < l[i]
   ·right
    exact ⟨_, Zap (dT (by dsimp only; omega)) (id (Zag hget (ZaC (dF h1) (Zap (dT h2) rfl)))), .inl ⟨rfl, decide_eq_false fun q => by have := q.1 _ hmem; omega⟩⟩
   have ht : l.take (i + 1) = l.take i ++ [l[i]] := by rw [List.take_add_one, List.getElem?_eq_getElem hi]; rfl
   have hin : ∀ x ∈ l.take (i + 1), 1 <= x /\ x <= 5 := fun x hx => by
    rw [ht] at hx
    rcases List.mem_append.1 hx with hx | hx
    ·exact g2 x hx
    ·rw [List.mem_singleton.1 hx]; omega
   by_cases h0 : 0 < i
   ·have hw : IntKind.i64.wrap ((i : Int) - 1) = ((i - 1 : Nat) : Int) := by rw [w64 (by omega)]; omega
    have hget2 : ZhG l (IntKind.i64.wrap ((i : Int) - 1)) = some l[i - 1] := by rw [hw]; exact ZcE (by omega)
    by_cases h3 : l[i] <= l[i - 1]
    ·right
     refine ⟨_, Zap (dT (by dsimp only; omega)) (id (Zag hget (ZaC (dF h1) (ZaC (dF h2) (Zap (dT (by dsimp only; omega)) (id (Zag hget2 (Zap (dT h3) rfl)))))))), .inl ⟨rfl, decide_eq_false fun q => ?_⟩⟩
     have := List.pairwise_iff_getElem.1 q.2 (i - 1) i (by omega) hi (by omega)
     omega
    ·left
     refine ⟨l.length - (i + 1), ((l, l, (l.length : Int), ((i + 1 : Nat) : Int), ()), ()), by omega, Zap (dT (by dsimp only; omega)) (id (Zag hget (ZaC (dF h1) (ZaC (dF h2) (Zap (dT (by dsimp only; omega)) (id (Zag hget2 (ZaC (dF h3) ?_)))))))), i + 1, rfl, by omega, ⟨hin, ?_⟩, rfl⟩
     ·dsimp only
      rw [w64 (n := (i : Int) + 1) (by omega)]
      rfl
     ·rw [ht, List.pairwise_append]
      refine ⟨g3, by simp, fun x hx y hy => ?_⟩
      rw [List.mem_singleton.1 hy]
      obtain ⟨j, hj, rfl⟩ := List.getElem_of_mem hx
      rw [List.length_take] at hj
      rw [List.getElem_take]
      by_cases hji : j = i - 1
      ·subst hji; omega
      ·have := List.pairwise_iff_getElem.1 g3 j (i - 1) (by rw [List.length_take]; omega) (by rw [List.length_take]; omega) (by omega)
       rw [List.getElem_take, List.getElem_take] at this
       omega
   ·left
    refine ⟨l.length - (i + 1), ((l, l, (l.length : Int), ((i + 1 : Nat) : Int), ()), ()), by omega, Zap (dT (by dsimp only; omega)) (id (Zag hget (ZaC (dF h1) (ZaC (dF h2) (ZaC (dF (by dsimp only; omega)) ?_))))), i + 1, rfl, by omega, ⟨hin, ?_⟩, rfl⟩
    ·dsimp only
     rw [w64 (n := (i : Int) + 1) (by omega)]
     rfl
    ·obtain rfl : i = 0 := by omega
     rw [ht]; simp
  ·right
   have hie : i = l.length := by omega
   subst hie
   rw [List.take_length] at g2 g3
   exact ⟨_, ZaC (dF (by dsimp only; omega)) rfl, .inr ⟨rfl, decide_eq_true ⟨g2, g3⟩⟩⟩
 obtain ⟨z, hz, ⟨rfl, h⟩ | ⟨rfl, h⟩⟩ := key
 ·unfold Zbs; rw [h]; exact Zag hz rfl
 ·unfold Zbs; rw [h]; exact Zag hz rfl
theorem Zmq (a b : List UInt8) (ha : a.length <= 140737488355328) : Zbi a b = some (decide (a = b), ()) := by
 unfold Zbi
 by_cases hl : a.length = b.length
 ·refine ZaC (dF (by omega)) ?_
  refine Zag (Zur (step := ZaY) a b (fun i => ((a, b, i, ()), ())) (.inl ((false, ()), ())) (.inr ((), ())) hl ha (fun i hi hj => ⟨fun he => ?_, fun he => ?_⟩) ?_) ?_
  ·unfold ZaY
   refine Zap (dT (by dsimp only; omega)) (Zag (ZcE hi) (Zag (ZcE hj) (ZaC (dF (by rw [he]; simp)) ?_)))
   dsimp only
   rw [w64 (by omega)]
   rfl
  ·unfold ZaY
   refine Zap (dT (by dsimp only; omega)) (Zag (ZcE hi) (Zag (ZcE hj) (Zap (dT ?_) rfl)))
   intro h
   exact he (UInt8.toNat_inj.1 (by omega))
  ·unfold ZaY
   exact ZaC (dF (by dsimp only; omega)) rfl
  ·by_cases he : a = b
   ·rw [if_pos he, decide_eq_true he]
   ·rw [if_neg he, decide_eq_false he]
 ·refine Zap (dT (by omega)) ?_
  rw [decide_eq_false (fun e => hl (by rw [e]))]
theorem ZhU {xs : List Int} (hn : xs.length <= 1000000) : Za7 xs xs = some (true, ()) := by
 unfold Za7
 refine ZaC (by simp) ?_
 refine Zag (Zhw (step := Zbb) (fun i : Nat => ((xs, xs, (i : Int), ()), ())) (N := xs.length) (b := .inr ((), ())) (fun i hi => ?_) ?_) rfl
 ·unfold Zbb
  refine Zap (dT (by dsimp only; omega)) ?_
  refine Zag (ZcE hi) ?_
  refine Zag (ZcE hi) ?_
  refine ZaC (by simp) ?_
  dsimp only
  rw [w64 (by omega)]
  rfl
 ·unfold Zbb
  exact ZaC (dF (by dsimp only; omega)) rfl
theorem ZfB {xs : List Int} (hn : xs.length <= 1000000) : ZaS xs xs.length xs = some (true, (xs, ())) := by
 unfold ZaS
 refine ZaC (by simp) ?_
 refine Zag (Zhw (step := Zba) (fun i : Nat => ((xs, xs.length, (i : Int), ()), (xs, ()))) (N := xs.length) (b := .inr ((), (xs, ()))) (fun i hi => ?_) ?_) rfl
 ·unfold Zba
  refine Zap (dT (by dsimp only; omega)) ?_
  refine Zag (ZcE hi) ?_
  refine Zfi (by dsimp only; omega) ?_
  refine Zag (v := xs[i]) (by show xs[(0 + (i : Int).toNat)]? = _; rw [Nat.zero_add, Int.toNat_natCast]; exact List.getElem?_eq_getElem hi) ?_
  refine ZaC (by simp) ?_
  dsimp only
  rw [w64 (by omega)]
  rfl
 ·unfold Zba
  exact ZaC (dF (by dsimp only; omega)) rfl
theorem Zoq {x : Zcd} (hf : ZjD x.base.config) (hb : x.bytes.length <= 5000) : ∃ z, Zbw x (x.base.index, x.base.term_, x.base.config.voters.length, x.base.config.old.length, x.base.config.learners.length, x.base.config.want.length, x.bytes, ()) x.base.config.voters x.base.config.old x.base.config.learners x.base.config.want = some (true, z) := by
 unfold ZjD at hf
 have hC : Zbq x.base.config (x.base.config.voters.length, x.base.config.old.length, x.base.config.learners.length, x.base.config.want.length, ()) x.base.config.voters x.base.config.old x.base.config.learners x.base.config.want = some (true, (x.base.config.voters, x.base.config.old, x.base.config.learners, x.base.config.want, ())) := by
  unfold Zbq
  exact Zag (ZfB (by omega)) (Zap rfl (Zag (ZfB (by omega)) (Zap rfl (Zag (ZfB (by omega)) (Zap rfl (Zag (ZfB (by omega)) rfl))))))
 have hB : ZbF x.base (x.base.index, x.base.term_, x.base.config.voters.length, x.base.config.old.length, x.base.config.learners.length, x.base.config.want.length, ()) x.base.config.voters x.base.config.old x.base.config.learners x.base.config.want = some (true, (x.base.config.voters, x.base.config.old, x.base.config.learners, x.base.config.want, ())) := by
  unfold ZbF
  exact Zap (by simp) (Zap (by simp) (Zag hC rfl))
 have hS := Zmq x.bytes x.bytes (by omega)
 rw [decide_eq_true rfl] at hS
 unfold Zbw
 exact ⟨_, Zag hB (Zap rfl (Zag hS rfl))⟩
theorem ZqT {x : Zcd} (hf : ZjD x.base.config) (hb : x.bytes.length <= 5000) : Zbj x x = some (true, ()) := by
 unfold ZjD at hf
 have hC : ZbE x.base.config x.base.config = some (true, ()) := by
  unfold ZbE
  exact Zag (ZhU (by omega)) (Zap rfl (Zag (ZhU (by omega)) (Zap rfl (Zag (ZhU (by omega)) (Zap rfl (Zag (ZhU (by omega)) rfl))))))
 have hB : ZbW x.base x.base = some (true, ()) := by
  unfold ZbW
  exact Zap (by simp) (Zap (by simp) (Zag hC rfl))
 have hS := Zmq x.bytes x.bytes (by omega)
 rw [decide_eq_true rfl] at hS
 unfold Zbj
 exact Zag hB (Zap rfl (Zag hS rfl))
theorem ZsV {c : ZbY} (hf : ZjD c) : Zdh c = some (Zyi c, ()) := by
 unfold ZjD at hf
 unfold Zdh Zyi
 refine Zag (Zjr (by omega)) ?_
 cases Zed c.voters
 ·exact ZaC rfl rfl
 refine Zap rfl (Zag (Zjr (by omega)) ?_)
 cases Zed c.old
 ·exact ZaC rfl rfl
 refine Zap rfl (Zag (Zjr (by omega)) ?_)
 cases Zed c.learners
 ·exact ZaC rfl rfl
 exact Zap rfl (Zag (Zjr (by omega)) rfl)
end Go.Proofs.YteempnebenjkmaaDoor
