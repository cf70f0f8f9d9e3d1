/- XPw, XPr, XPi, XPj, XPk, XPm, XPn in one. -/
import Derived.Test.YteempnebenjkmaaGreatDoorSdw
import Derived.Test.YteempnebenjkmaaGreatDoorG1
namespace Go.Proofs.YteempnebenjkmaaGreatDoor
open Go.RowKit
set_option maxRecDepth 100000
set_option linter.unusedVariables false
set_option linter.unusedSimpArgs false
def ZdN (x : Int) : Bool := decide (0 <= x) && decide (x <= 4611686018427387903)
theorem ZcX {x : Int} : ZdN x = true ↔ 0 <= x /\ x <= 4611686018427387903 := by simp [ZdN]
theorem Zzb {x b : List UInt8} {sp : Bool} (h : b.length + x.length <= 10000000) : Zho x (true, sp, b, ()) = some ((), ((true, sp, b ++ x, ()), (), (), ())) := by
 unfold Zho
 exact ZaH rfl (ZfT (by dsimp only; omega) rfl)
theorem ZpA {sp : Bool} {N : Nat} (hN : N <= 4611686018427387903) {b : List UInt8} (hb : b.length + (Zkt N).length <= 10000000) :
 ∃ (n : Nat) (b' : List UInt8), n < 128 /\ b' ++ Zkt n = b ++ Zkt N /\ Zbm ZcQ (((), (N : Int), ()), ((true, sp, b, ()), (), ())) = some (((), (n : Int), ()), ((true, sp, b', ()), (), (), ())) := by
 have key : ∃ z, Zbm ZcQ (((), (N : Int), ()), ((true, sp, b, ()), (), ())) = some z /\ ∃ (n : Nat) (b' : List UInt8), n < 128 /\ b' ++ Zkt n = b ++ Zkt N /\ z = (((), (n : Int), ()), ((true, sp, b', ()), (), (), ())) := by
  refine Zep (fun m a => ∃ b' : List UInt8, a = (((), (m : Int), ()), ((true, sp, b', ()), (), ())) /\ b' ++ Zkt m = b ++ Zkt N /\ m <= 4611686018427387903) _ ?_ (n := N) ⟨b, rfl, rfl, hN⟩
  rintro m a ⟨b', rfl, h1, h2⟩
  unfold ZcQ
  by_cases hm : m < 128
  ·right
   exact ⟨_, ZaM (dF (by dsimp only; omega)) rfl, m, b', hm, h1, rfl⟩
  ·left
   have hl := congrArg List.length h1
   rw [Zl2 hm, List.length_append, List.length_append, List.length_cons] at hl
   refine ⟨m / 128, _, by omega, ZaH (dT (by dsimp only; omega)) (Zak (Zy8 m) (Zak (Zzb (by simp only [List.length_singleton]; omega)) rfl)), b' ++ [UInt8.ofNat (m % 128 + 128)], ?_, ?_, by omega⟩
   ·dsimp only
    rw [ZCD]
   ·rw [List.append_assoc, <- h1, Zl2 hm]; rfl
 obtain ⟨z, hz, n, b', h1, h2, rfl⟩ := key
 exact ⟨n, b', h1, h2, hz⟩
def ZpW (x : Int) (w : Bool × List UInt8) : Bool × List UInt8 := if ZdN x = true then (w.1, w.2 ++ Zkt x.toNat) else (true, w.2)
theorem ZrZ {x : Int} {sp : Bool} {b : List UInt8} (hb : b.length <= 1000000) : ZdL x (true, sp, b, ()) = some ((), ((true, (ZpW x (sp, b)).1, (ZpW x (sp, b)).2, ()), (), (), ())) := by
 unfold ZdL ZpW
 by_cases h1 : x < 0
 ·rw [if_neg (by rw [ZcX]; omega)]
  exact ZaH (dT h1) rfl
 by_cases h2 : 4611686018427387903 < x
 ·rw [if_neg (by rw [ZcX]; omega)]
  exact ZaM (dF h1) (ZaH (dT h2) rfl)
 rw [if_pos (ZcX.2 (by omega))]
 obtain ⟨N, rfl⟩ : ∃ N : Nat, x = (N : Int) := ⟨x.toNat, by omega⟩
 have hlen := Zhc (n := N) (by omega)
 obtain ⟨n, b', g1, g2, g3⟩ := ZpA (sp := sp) (N := N) (by omega) (b := b) (by omega)
 have hl := congrArg List.length g2
 rw [List.length_append, List.length_append] at hl
 have hp := ZrY n
 refine ZaM (dF h1) (ZaM (dF h2) (Zak g3 (Zak (Zy9 n) (Zak (Zzb (by simp only [List.length_singleton]; omega)) ?_))))
 rw [Zj3 g1] at g2
 dsimp only
 rw [g2, Int.toNat_natCast]
def Zcl (xs : List Int) (w : Bool × List UInt8) : Bool × List UInt8 := xs.foldl (fun w x => ZpW x w) w
theorem Ztc (xs : List Int) (x : Int) (w : Bool × List UInt8) : Zcl (xs ++ [x]) w = ZpW x (Zcl xs w) := by simp [Zcl]
theorem ZwV (x : Int) (w : Bool × List UInt8) : (ZpW x w).2.length <= w.2.length + 9 := by
 unfold ZpW
 split
 ·rename_i h
  have := ZcX.1 h
  have := Zhc (n := x.toNat) (by omega)
  rw [List.length_append]; omega
 ·exact Nat.le_add_right _ _
theorem ZeI : ∀ (xs : List Int) (w : Bool × List UInt8), (Zcl xs w).2.length <= w.2.length + 9 * xs.length
 | [], w => by simp [Zcl]
 | x :: xs, w => by
  have h1 := ZeI xs (ZpW x w)
  have h2 := ZwV x w
  have : Zcl (x :: xs) w = Zcl xs (ZpW x w) := rfl
  rw [this, List.length_cons]; omega
theorem Zl3 {xs : List Int} {sp : Bool} {b : List UInt8} (hx : xs.length <= 10000) (hb : b.length <= 900000) : Zdf xs (true, sp, b, ()) = some ((), ((true, (Zcl xs (sp, b)).1, (Zcl xs (sp, b)).2, ()), (), (), ())) := by
 have hrun := Zi3 (step := Zcw) (fun i : Nat => (((), xs, (xs.length : Int), (i : Int), ()), ((true, (Zcl (xs.take i) (sp, b)).1, (Zcl (xs.take i) (sp, b)).2, ()), (), ()))) (N := xs.length) (b := (((), ()), ((true, (Zcl xs (sp, b)).1, (Zcl xs (sp, b)).2, ()), (), (), ()))) (fun i hi => ?_) ?_
 ·unfold Zdf
  exact Zak rfl (ZaH rfl (Zak hrun rfl))
 ·have hl := ZeI (xs.take i) (sp, b)
  rw [List.length_take] at hl
  dsimp only at hl
  unfold Zcw
  refine ZaH (dT (by dsimp only; omega)) (Zak (Zdz hi) (Zak (ZrZ (by dsimp only; omega)) ?_))
  dsimp only
  rw [w64 (by omega), List.take_succ_eq_append_getElem hi, Ztc]
  rfl
 ·unfold Zcw
  refine ZaM (dF (by dsimp only; omega)) ?_
  dsimp only
  rw [List.take_length]
def Zr0 (t : List UInt8) : List UInt8 := Zkt t.length ++ t
theorem Zzc {t : List UInt8} {sp : Bool} {b : List UInt8} (ht : t.length <= 100000) (hb : b.length <= 1000000) : ZiZ (0, 1, 1) (true, sp, b, ()) [t] = some ((), ((true, sp, b ++ Zr0 t, ()), [t], (), (), ())) := by
 have hg : ZdN (t.length : Int) = true := ZcX.2 (by omega)
 have hlen := Zhc (n := t.length) (by omega)
 have hnum : ZdL (t.length : Int) (true, sp, b, ()) = some ((), ((true, sp, b ++ Zkt t.length, ()), (), (), ())) := by
  rw [ZrZ hb]
  unfold ZpW
  rw [if_pos hg, Int.toNat_natCast]
 unfold ZiZ
 refine Zak rfl (ZaH rfl (Zak (v := (((), ()), ((true, sp, b ++ Zr0 t, ()), [t], (), (), ()))) ((Zhp (a' := (((), (0, 1, 1), 1, 1, ()), ((true, sp, b ++ Zr0 t, ()), [t], (), ()))) ?_).trans (Zdy ?_)) rfl))
 ·unfold Ze5
  refine ZaH rfl ?_
  dsimp only
  rw [if_pos (by omega)]
  refine Zak (v := t) rfl (Zak hnum (Zak (Zzb (by simp only [List.length_append]; omega)) ?_))
  dsimp only
  rw [List.append_assoc]
  rfl
 ·unfold Ze5
  exact ZaM rfl rfl
theorem ZxM {sp : Bool} {b : List UInt8} (hb : b.length <= 1000000) : ∃ st, ZfE (true, sp, b, ()) = some ((if sp = true then ([], 2, ()) else (b, 0, ())), st) := by
 unfold ZfE
 cases sp with
 | true => exact ⟨_, Zak rfl (ZaM rfl (ZaH rfl rfl))⟩
 | false => exact ⟨_, Zak rfl (ZaM rfl (ZaM rfl (Zak (v := (b, ((), ()))) (by unfold Zfa; exact ZfT (by dsimp only; omega) rfl) rfl)))⟩
def Zn9 (xs : List Int) : List UInt8 := (xs.map fun x => Zkt x.toNat).flatten
theorem Zhr : ∀ (xs : List Int) (sp : Bool) (b : List UInt8), xs.all ZdN = true -> Zcl xs (sp, b) = (sp, b ++ Zn9 xs)
 | [], sp, b, _ => by simp [Zcl, Zn9]
 | x :: xs, sp, b, h => by
  rw [List.all_cons, Bool.and_eq_true] at h
  have : Zcl (x :: xs) (sp, b) = Zcl xs (ZpW x (sp, b)) := rfl
  rw [this]
  unfold ZpW
  rw [if_pos h.1, Zhr xs _ _ h.2]
  simp [Zn9]
theorem ZfU : ∀ (xs : List Int) (b : List UInt8), (Zcl xs (true, b)).1 = true
 | [], b => rfl
 | x :: xs, b => by
  have : Zcl (x :: xs) (true, b) = Zcl xs (ZpW x (true, b)) := rfl
  rw [this]
  unfold ZpW
  split
  ·exact ZfU xs _
  ·exact ZfU xs _
theorem Zl4 : ∀ (xs : List Int) (sp : Bool) (b : List UInt8), xs.all ZdN = false -> (Zcl xs (sp, b)).1 = true
 | [], sp, b, h => by cases h
 | x :: xs, sp, b, h => by
  have h0 : Zcl (x :: xs) (sp, b) = Zcl xs (ZpW x (sp, b)) := rfl
  rw [h0]
  unfold ZpW
  split
  ·rename_i hg
   rw [List.all_cons, hg, Bool.true_and] at h
   exact Zl4 xs _ _ h
  ·exact ZfU xs _
end Go.Proofs.YteempnebenjkmaaGreatDoor
namespace Go.Proofs.YteempnebenjkmaaGreatDoor
open Go.RowKit
set_option maxRecDepth 100000
set_option linter.unusedVariables false
set_option linter.unusedSimpArgs false
def rdR : Option (List UInt8) -> Zap
 | some l => ⟨⟨true, false, l⟩⟩
 | none => ⟨⟨true, true, []⟩⟩
def ZcJ (most : Nat) : Option (List UInt8) -> Int × Option (List UInt8)
 | none => (0, none)
 | some l => match ZBU most l with
  | some p => ((p.1 : Int), some p.2)
  | none => (0, none)
theorem Zzd {most : Nat} {l : List UInt8} (h : ZqU 9 0 0 l = none) : ZcJ most (some l) = (0, none) := by
 show (match (ZqU 9 0 0 l).bind (fun p => if most < p.1 then none else some p) with | some p => ((p.1 : Int), some p.2) | none => (0, none)) = _
 rw [h]; rfl
theorem Zr1 {most : Nat} {l : List UInt8} {p : Nat × List UInt8} (h : ZqU 9 0 0 l = some p) : ZcJ most (some l) = if most < p.1 then (0, none) else ((p.1 : Int), some p.2) := by
 show (match (ZqU 9 0 0 l).bind (fun p => if most < p.1 then none else some p) with | some p => ((p.1 : Int), some p.2) | none => (0, none)) = _
 rw [h]
 show (match (if most < p.1 then none else some p) with | some p => ((p.1 : Int), some p.2) | none => (0, none)) = _
 by_cases h9 : most < p.1
 ·rw [if_pos h9, if_pos h9]
 ·rw [if_neg h9, if_neg h9]
theorem Zl5 (b : UInt8) (l : List UInt8) : ZbT 1 (rdR (some (b :: l))) = some ([b], (rdR (some l), ())) := by
 unfold ZbT rdR
 refine ZaM (dF (by dsimp only [List.length_cons]; omega)) (ZfT (by dsimp only [List.length_cons]; omega) (ZfT (by dsimp only [List.length_cons]; omega) ?_))
 have h : (((b :: l).length : Int)).toNat - (1 : Int).toNat = l.length := by rw [List.length_cons]; omega
 dsimp only
 rw [h]
 show some ([b], ((⟨⟨true, false, l.take l.length⟩⟩ : Zap), ())) = _
 rw [List.take_length]
theorem Zze {n : Int} (hn : 0 < n) : ZbT n (rdR (some [])) = some ([], (rdR none, ())) := by
 unfold ZbT rdR
 exact ZaH (dT hn) rfl
theorem ZpB {most : Nat} (f : ((Unit) × (Int) × (Int) × (Int) × Unit) × ((Zap) × Unit) -> Option ((((Unit) × (Int) × (Int) × (Int) × Unit) × ((Zap) × Unit)) ⊕ ((((Int) × Unit) × ((Zap) × Unit)) ⊕ (((Unit) × Unit) × ((Zap) × Unit))))) (hf : f = Zc5) (l : List UInt8) :
 ∃ z, Zbm f (((), (most : Int), 0, 0, ()), (rdR (some l), ())) = some z /\ (z = .inl (((ZcJ most (some l)).1, ()), (rdR (ZcJ most (some l)).2, ())) \/ ((∃ l', z = .inr (((), ()), (rdR (some l'), ()))) /\ ZcJ most (some l) = (0, none))) := by
 subst hf
 refine Zep (fun m a => ∃ (i acc : Nat) (r : List UInt8), a = (((), (most : Int), (acc : Int), ((7 * i : Nat) : Int), ()), (rdR (some r), ())) /\ i <= 9 /\ acc < 2 ^ (7 * i) /\ m = 9 - i /\ ZqU 9 0 0 l = ZqU (9 - i) i acc r) _ ?_ (n := 9) ⟨0, 0, l, rfl, by omega, by omega, rfl, rfl⟩
 rintro m a ⟨i, acc, r, rfl, h1, h2, rfl, h3⟩
 unfold Zc5
 have hno : ZqU (9 - i) i acc r = none -> ZcJ most (some l) = (0, none) := by
  intro h
  exact Zzd (by rw [h3, h])
 by_cases hi : i < 9
 ·cases r with
  | nil =>
   right
   refine ⟨_, ZaH (dT (by dsimp only; omega)) (Zak (Zze (by omega)) (ZaH rfl rfl)), .inl ?_⟩
   rw [hno (by rw [show 9 - i = (8 - i) + 1 by omega]; rfl)]
  | cons b r =>
   have hk : ZqU (9 - i) i acc (b :: r) = if b.toNat < 128 then (if (0 < i /\ b.toNat = 0) \/ top < acc + b.toNat % 128 * 2 ^ (7 * i) then none else some (acc + b.toNat % 128 * 2 ^ (7 * i), r)) else ZqU (8 - i) (i + 1) (acc + b.toNat % 128 * 2 ^ (7 * i)) r := by
    rw [show 9 - i = (8 - i) + 1 by omega]; rfl
   have hb := b.toNat_lt
   have hy := Zza b acc i (by omega) h2 (((7 * i : Nat) : Int)) (by rw [Int.toNat_natCast])
   by_cases h5 : b.toNat < 128
   ·right
    rw [if_pos h5] at hk
    by_cases h6 : 0 < i /\ b.toNat = 0
    ·rw [if_pos (.inl h6)] at hk
     refine ⟨_, ZaH (dT (by dsimp only; omega)) (Zak (Zl5 b r) (ZaM rfl (Zak (v := b) rfl (Zpz (by dsimp only; omega) (Zak (v := b) rfl (ZaH (dT (by omega)) (ZaH (dT (by dsimp only; omega)) (Zak (v := b) rfl (ZaH (dT (by omega)) (Zak rfl rfl)))))))))), .inl ?_⟩
     rw [hno hk]
     rfl
    ·by_cases h7 : top < acc + b.toNat % 128 * 2 ^ (7 * i)
     ·rw [if_pos (.inr h7)] at hk
      rw [hno hk]
      have h7' : (4611686018427387903 : Int) < ((acc + b.toNat % 128 * 2 ^ (7 * i) : Nat) : Int) := by unfold top at h7; omega
      refine ⟨.inl ((0, ()), (rdR none, ())), ZaH (dT (by dsimp only; omega)) (Zak (Zl5 b r) (ZaM rfl (Zak (v := b) rfl (Zpz (by dsimp only; omega) ?_)))), .inl rfl⟩
      dsimp only
      rw [hy]
      by_cases h8 : 0 < i
      ·exact Zak (v := b) rfl (ZaH (dT (by omega)) (ZaH (dT (by omega)) (Zak (v := b) rfl (ZaM (dF (by omega)) (ZaH (dT h7') rfl)))))
      ·exact Zak (v := b) rfl (ZaH (dT (by omega)) (ZaM (dF (by omega)) (ZaH (dT h7') rfl)))
     ·rw [if_neg (by omega)] at hk
      have h7' : ¬ (4611686018427387903 : Int) < ((acc + b.toNat % 128 * 2 ^ (7 * i) : Nat) : Int) := by unfold top at h7; omega
      have hnum : ZcJ most (some l) = if most < acc + b.toNat % 128 * 2 ^ (7 * i) then (0, none) else (((acc + b.toNat % 128 * 2 ^ (7 * i) : Nat) : Int), some r) := by
       exact Zr1 (by rw [h3, hk])
      rw [hnum]
      by_cases h9 : most < acc + b.toNat % 128 * 2 ^ (7 * i)
      ·rw [if_pos h9]
       have h9' : ((most : Nat) : Int) < ((acc + b.toNat % 128 * 2 ^ (7 * i) : Nat) : Int) := by omega
       refine ⟨.inl ((0, ()), (rdR none, ())), ZaH (dT (by dsimp only; omega)) (Zak (Zl5 b r) (ZaM rfl (Zak (v := b) rfl (Zpz (by dsimp only; omega) ?_)))), .inl rfl⟩
       dsimp only
       rw [hy]
       by_cases h8 : 0 < i
       ·exact Zak (v := b) rfl (ZaH (dT (by omega)) (ZaH (dT (by omega)) (Zak (v := b) rfl (ZaM (dF (by omega)) (ZaM (dF h7') (ZaH (dT h9') rfl))))))
       ·exact Zak (v := b) rfl (ZaH (dT (by omega)) (ZaM (dF (by omega)) (ZaM (dF h7') (ZaH (dT h9') rfl))))
      ·rw [if_neg h9]
       have h9' : ¬ ((most : Nat) : Int) < ((acc + b.toNat % 128 * 2 ^ (7 * i) : Nat) : Int) := by omega
       refine ⟨.inl ((((acc + b.toNat % 128 * 2 ^ (7 * i) : Nat) : Int), ()), (rdR (some r), ())), ZaH (dT (by dsimp only; omega)) (Zak (Zl5 b r) (ZaM rfl (Zak (v := b) rfl (Zpz (by dsimp only; omega) ?_)))), .inl rfl⟩
       dsimp only
       rw [hy]
       by_cases h8 : 0 < i
       ·exact Zak (v := b) rfl (ZaH (dT (by omega)) (ZaH (dT (by omega)) (Zak (v := b) rfl (ZaM (dF (by omega)) (ZaM (dF h7') (ZaM (dF h9') rfl))))))
       ·exact Zak (v := b) rfl (ZaH (dT (by omega)) (ZaM (dF (by omega)) (ZaM (dF h7') (ZaM (dF h9') rfl))))
   ·left
    rw [if_neg h5] at hk
    refine ⟨9 - (i + 1), (((), (most : Int), ((acc + b.toNat % 128 * 2 ^ (7 * i) : Nat) : Int), ((7 * (i + 1) : Nat) : Int), ()), (rdR (some r), ())), by omega, ZaH (dT (by dsimp only; omega)) (Zak (Zl5 b r) (ZaM rfl (Zak (v := b) rfl (Zpz (by dsimp only; omega) ?_)))), i + 1, _, r, rfl, by omega, ?_, rfl, ?_⟩
    ·dsimp only
     rw [hy, w64 (n := ((7 * i : Nat) : Int) + 7) (by omega)]
     exact Zak (v := b) rfl (ZaM (dF (by omega)) rfl)
    ·have hm : b.toNat % 128 * 2 ^ (7 * i) <= 127 * 2 ^ (7 * i) := Nat.mul_le_mul_right _ (by omega)
     have hp : 2 ^ (7 * (i + 1)) = 128 * 2 ^ (7 * i) := by rw [Nat.mul_add, Nat.pow_add, Nat.mul_comm]
     omega
    ·rw [h3, hk, show 8 - i = 9 - (i + 1) by omega]
 ·right
  obtain rfl : i = 9 := by omega
  exact ⟨_, ZaM (dF (by dsimp only; omega)) rfl, .inr ⟨⟨r, rfl⟩, hno rfl⟩⟩
theorem ZhZ (most : Nat) (o : Option (List UInt8)) : Zbj (most : Int) (rdR o) = some ((ZcJ most o).1, (rdR (ZcJ most o).2, ())) := by
 unfold Zbj
 cases o with
 | none => exact Zak (v := (false, (rdR none, ()))) rfl (ZaH rfl rfl)
 | some l =>
  refine Zak (v := (true, (rdR (some l), ()))) rfl (ZaM rfl ?_)
  obtain ⟨z, hz, rfl | ⟨⟨l', rfl⟩, h2⟩⟩ := ZpB (most := most) _ rfl l
  ·exact Zak hz rfl
  ·rw [h2]
   exact Zak hz rfl
theorem ZAB (most : Nat) (l : List UInt8) : Zgn (most : Int) (true, false, l, ()) = some ((ZcJ most (some l)).1, (rdR (ZcJ most (some l)).2, (), ())) := by
 unfold Zgn
 refine Zak (v := (true, ((true, false, l, ()), (), (), ()))) rfl (ZaM rfl ?_)
 obtain ⟨z, hz, rfl | ⟨⟨l', rfl⟩, h2⟩⟩ := ZpB (most := most) Zfe rfl l
 ·exact Zak hz rfl
 ·rw [h2]
  exact Zak hz rfl
def ZvN (most : Nat) (o : Option (List UInt8)) : List UInt8 × Option (List UInt8) := match (ZcJ most o).2 with
 | none => ([], none)
 | some l => if (l.length : Int) < (ZcJ most o).1 then ([], none) else (l.take (ZcJ most o).1.toNat, some (l.drop (ZcJ most o).1.toNat))
theorem Zvg {most : Nat} {o : Option (List UInt8)} {l : List UInt8} (h : (ZcJ most o).2 = some l) : 0 <= (ZcJ most o).1 /\ (ZcJ most o).1 <= most := by
 unfold ZcJ at h ⊢
 cases o with
 | none => cases h
 | some x =>
  dsimp only at h ⊢
  cases hn : ZBU most x with
  | none => rw [hn] at h; cases h
  | some p =>
   unfold ZBU at hn
   obtain ⟨q, hq, hn⟩ := Zal hn
   split at hn
   ·cases hn
   ·injection hn with hn
    subst hn
    dsimp only
    omega
theorem ZAC {n : Nat} {l : List UInt8} : ZbT (n : Int) (rdR (some l)) = some (if l.length < n then ([], (rdR none, ())) else (l.take n, (rdR (some (l.drop n)), ()))) := by
 unfold ZbT rdR
 by_cases h : l.length < n
 ·rw [if_pos h]
  exact ZaH (dT (by dsimp only; omega)) rfl
 ·rw [if_neg h]
  refine ZaM (dF (by dsimp only; omega)) (ZfT (by dsimp only; omega) (ZfT (by dsimp only; omega) ?_))
  have h1 : ((l.length : Int)).toNat - ((n : Int)).toNat = (l.drop n).length := by rw [List.length_drop]; omega
  dsimp only
  rw [h1, Int.toNat_natCast, List.take_length]
  rfl
theorem ZBV (most : Nat) (hm : most <= 1000000000) (o : Option (List UInt8)) : ZkV (most : Int) (rdR o) = some ((ZvN most o).1, (rdR (ZvN most o).2, (), ())) := by
 unfold ZkV
 refine Zak (ZhZ most o) ?_
 unfold ZvN
 cases h : (ZcJ most o).2 with
 | none => exact Zak (v := (false, (rdR none, ()))) rfl (ZaH rfl rfl)
 | some l =>
  obtain ⟨h1, h2⟩ := Zvg h
  obtain ⟨n, hn⟩ : ∃ n : Nat, (ZcJ most o).1 = (n : Int) := ⟨(ZcJ most o).1.toNat, by omega⟩
  refine Zak (v := (true, (rdR (some l), ()))) rfl (ZaM rfl (Zak (v := if l.length < n then ([], (rdR none, ())) else (l.take n, (rdR (some (l.drop n)), ()))) (by dsimp only; rw [hn]; exact ZAC) ?_))
  dsimp only
  rw [hn, Int.toNat_natCast]
  by_cases hl : l.length < n
  ·rw [if_pos hl, if_pos (by omega)]
   exact Zak (v := ([], ((), ()))) rfl rfl
  ·rw [if_neg hl, if_neg (by omega)]
   have hlen : (l.take n).length <= n := by rw [List.length_take]; omega
   refine Zak (v := (l.take n, ((), ()))) (by unfold Zfa; exact ZfT (by dsimp only; omega) rfl) rfl
end Go.Proofs.YteempnebenjkmaaGreatDoor
namespace Go.Proofs.YteempnebenjkmaaGreatDoor
open Go.RowKit
set_option maxRecDepth 100000
set_option linter.unusedVariables false
set_option linter.unusedSimpArgs false
theorem ZkE {α β : Type} {step : α -> Option (α ⊕ β)} {a a' : α} {b : β} (h : step a = some (.inl a')) (h2 : Zbm step a' = some b) : Zbm step a = some b := (Zhp h).trans h2
abbrev WB := Bool × List UInt8
def Zku (l : List Int) (w : WB) : WB := Zcl l (Zcl [(l.length : Int)] w)
theorem Zgv (l : List Int) (w : WB) : (Zku l w).2.length <= w.2.length + 9 + 9 * l.length := by
 have h1 := ZeI l (Zcl [(l.length : Int)] w)
 have h2 := ZeI [(l.length : Int)] w
 rw [List.length_singleton] at h2
 unfold Zku
 omega
theorem Zhs {l : List Int} {w : WB} (hl : l.length <= 10000) (hb : w.2.length <= 500000) : Zdx l (true, w.1, w.2, ()) = some ((), ((true, (Zku l w).1, (Zku l w).2, ()), (), (), ())) := by
 have h2 := ZeI [(l.length : Int)] w
 rw [List.length_singleton] at h2
 unfold Zdx
 exact Zak (Zl3 (xs := [(l.length : Int)]) (sp := w.1) (b := w.2) (by simp) (by omega)) (Zak (Zl3 (sp := (Zcl [(l.length : Int)] w).1) (b := (Zcl [(l.length : Int)] w).2) hl (by omega)) rfl)
def ZxN (c : Zck) (w : WB) : WB := Zku c.want (Zku c.learners (Zku c.old (Zku c.voters w)))
def Zkv (c : Zck) : Prop := c.voters.length + c.old.length + c.learners.length + c.want.length <= 10000
theorem ZwW {c : Zck} {w : WB} (hc : Zkv c) (hb : w.2.length <= 300000) : ZdQ c (true, w.1, w.2, ()) = some ((), ((true, (ZxN c w).1, (ZxN c w).2, ()), (), (), ())) := by
 unfold Zkv at hc
 have l1 := Zgv c.voters w
 have l2 := Zgv c.old (Zku c.voters w)
 have l3 := Zgv c.learners (Zku c.old (Zku c.voters w))
 have key : Zbm ZdM (((), [c.voters, c.old, c.learners, c.want], 4, 0, ()), ((true, w.1, w.2, ()), (), (), ())) = some ((), ((true, (ZxN c w).1, (ZxN c w).2, ()), (), (), (), ())) :=
  ZkE (ZaH rfl (Zak (v := c.voters) rfl (Zak (Zhs (by omega) (by omega)) rfl))) <|
  ZkE (ZaH rfl (Zak (v := c.old) rfl (Zak (Zhs (by omega) (by omega)) rfl))) <|
  ZkE (ZaH rfl (Zak (v := c.learners) rfl (Zak (Zhs (by omega) (by omega)) rfl))) <|
  ZkE (ZaH rfl (Zak (v := c.want) rfl (Zak (Zhs (by omega) (by omega)) rfl))) <| Zdy (ZaM rfl rfl)
 unfold ZdQ
 exact Zak key rfl
def Zoa (x : ZeC) : WB := ZxN x.config (Zcl [x.index, x.term_] (false, []))
theorem Zl6 {x : ZeC} (hc : Zkv x.config) : Zb5 x (true, false, [], ()) = some ((), ((true, (Zoa x).1, (Zoa x).2, ()), (), (), ())) := by
 have l := ZeI [x.index, x.term_] (false, [])
 simp only [List.length_cons, List.length_nil] at l
 unfold Zb5
 exact Zak (Zl3 (xs := [x.index, x.term_]) (sp := false) (b := []) (by simp) (by simp)) (Zak (ZwW (w := Zcl [x.index, x.term_] (false, [])) hc (by omega)) rfl)
theorem Zl7 {x : ZeC} (hc : Zkv x.config) : (Zoa x).2.length <= 100000 := by
 unfold Zkv at hc
 have l := ZeI [x.index, x.term_] (false, [])
 simp only [List.length_cons, List.length_nil] at l
 have l1 := Zgv x.config.voters (Zcl [x.index, x.term_] (false, []))
 have l2 := Zgv x.config.old (Zku x.config.voters (Zcl [x.index, x.term_] (false, [])))
 have l3 := Zgv x.config.learners (Zku x.config.old (Zku x.config.voters (Zcl [x.index, x.term_] (false, []))))
 have l4 := Zgv x.config.want (Zku x.config.learners (Zku x.config.old (Zku x.config.voters (Zcl [x.index, x.term_] (false, [])))))
 unfold Zoa ZxN
 omega
abbrev OB := Option (List UInt8)
def Zdb : Nat -> OB -> List Int × OB
 | 0, o => ([], o)
 | n + 1, o => ((ZcJ 5 o).1 :: (Zdb n (ZcJ 5 o).2).1, (Zdb n (ZcJ 5 o).2).2)
def Zi4 (o : OB) : List Int × OB := Zdb (ZcJ 5 o).1.toNat (ZcJ 5 o).2
abbrev S2 (i : Int) (c : Int) (k : Nat) (o : OB) (h0 h1 h2 h3 : List Int) : ((Unit) × (Unit) × (Unit) × (Int) × (Int) × (Int) × (Int) × Unit) × ((Zap) × ((List (Int)) × (List (Int)) × (List (Int)) × (List (Int)) × Unit) × ((Nat) × (Nat) × (Nat) × (Nat) × Unit) × (Unit) × (Unit) × (Unit) × (Unit) × (List (Int)) × (List (Int)) × (List (Int)) × (List (Int)) × Unit) :=
 (((), (), (), i, i, c, (k : Int), ()), (rdR o, ([], [], [], [], ()), (h0.length, h1.length, h2.length, h3.length, ()), (), (), (), (), h0, h1, h2, h3, ()))
theorem Zvh (o : OB) : 0 <= (ZcJ 5 o).1 /\ (ZcJ 5 o).1 <= 5 := by
 cases h : (ZcJ 5 o).2 with
 | some l => exact Zvg h
 | none =>
  cases o with
  | none => exact ⟨Int.le_refl _, by decide⟩
  | some l =>
   unfold ZcJ at h ⊢
   dsimp only at h ⊢
   split at h
   ·cases h
   ·exact ⟨Int.le_refl _, by decide⟩
theorem ZwX {c : Int} {k : Nat} {o : OB} {h0 h1 h2 h3 : List Int} (hk : (k : Int) < c) (hc : c <= 5) (hl : h0.length <= 1000) : Zai (S2 0 c k o h0 h1 h2 h3) = some (.inl (S2 0 c (k + 1) (ZcJ 5 o).2 (h0 ++ [(ZcJ 5 o).1]) h1 h2 h3)) := by
 unfold Zai
 refine ZaH (dT (by dsimp only; omega)) <| ZfT rfl <| Zak (ZhZ 5 o) <| ZfT (by dsimp only [List.length_singleton]; omega) <| ZfT rfl ?_
 dsimp only
 rw [w64 (n := (k : Int) + 1) (by omega), List.take_length]
 simp only [S2, List.length_append, List.length_singleton, Int.natCast_add, Int.natCast_one, Int.cast_ofNat_Int]
theorem ZCq {c : Int} (hc : c <= 5) : ∀ (n : Nat) {k : Nat} {o : OB} {h0 h1 h2 h3 : List Int}, (k : Int) + n = c -> h0.length = k -> Zbm Zai (S2 0 c k o h0 h1 h2 h3) = some (((), (), (), (0 : Int), ()), (rdR (Zdb n o).2, ([], [], [], [], ()), ((h0 ++ (Zdb n o).1).length, h1.length, h2.length, h3.length, ()), (), (), (), (), (), (), (), (), (), (), (), (), (h0 ++ (Zdb n o).1), h1, h2, h3, ()))
 | 0, k, o, h0, h1, h2, h3, hk, hl => Zdy (by
  unfold Zai
  refine ZaM (dF (by dsimp only; omega)) ?_
  simp only [Zdb, List.append_nil])
 | n + 1, k, o, h0, h1, h2, h3, hk, hl => by
  refine ZkE (ZwX (by omega) hc (by omega)) ?_
  rw [ZCq hc n (k := k + 1) (by omega) (by rw [List.length_append, hl]; rfl)]
  simp only [Zdb, List.append_assoc, List.singleton_append]
theorem ZwY {c : Int} {k : Nat} {o : OB} {h0 h1 h2 h3 : List Int} (hk : (k : Int) < c) (hc : c <= 5) (hl : h1.length <= 1000) : Zai (S2 1 c k o h0 h1 h2 h3) = some (.inl (S2 1 c (k + 1) (ZcJ 5 o).2 h0 (h1 ++ [(ZcJ 5 o).1]) h2 h3)) := by
 unfold Zai
 refine ZaH (dT (by dsimp only; omega)) <| Zpz (show ¬ ((1 : Int) = ((0 : Nat) : Int)) by decide) <| ZfT rfl <| Zak (ZhZ 5 o) <| ZfT (by dsimp only [List.length_singleton]; omega) <| Zpz (show ¬ ((1 : Int) = ((0 : Nat) : Int)) by decide) <| ZfT rfl ?_
 dsimp only
 rw [w64 (n := (k : Int) + 1) (by omega), List.take_length]
 simp only [S2, List.length_append, List.length_singleton, Int.natCast_add, Int.natCast_one, Int.cast_ofNat_Int]
theorem ZCr {c : Int} (hc : c <= 5) : ∀ (n : Nat) {k : Nat} {o : OB} {h0 h1 h2 h3 : List Int}, (k : Int) + n = c -> h1.length = k -> Zbm Zai (S2 1 c k o h0 h1 h2 h3) = some (((), (), (), (1 : Int), ()), (rdR (Zdb n o).2, ([], [], [], [], ()), (h0.length, (h1 ++ (Zdb n o).1).length, h2.length, h3.length, ()), (), (), (), (), (), (), (), (), (), (), (), (), h0, (h1 ++ (Zdb n o).1), h2, h3, ()))
 | 0, k, o, h0, h1, h2, h3, hk, hl => Zdy (by
  unfold Zai
  refine ZaM (dF (by dsimp only; omega)) ?_
  simp only [Zdb, List.append_nil])
 | n + 1, k, o, h0, h1, h2, h3, hk, hl => by
  refine ZkE (ZwY (by omega) hc (by omega)) ?_
  rw [ZCr hc n (k := k + 1) (by omega) (by rw [List.length_append, hl]; rfl)]
  simp only [Zdb, List.append_assoc, List.singleton_append]
theorem ZwZ {c : Int} {k : Nat} {o : OB} {h0 h1 h2 h3 : List Int} (hk : (k : Int) < c) (hc : c <= 5) (hl : h2.length <= 1000) : Zai (S2 2 c k o h0 h1 h2 h3) = some (.inl (S2 2 c (k + 1) (ZcJ 5 o).2 h0 h1 (h2 ++ [(ZcJ 5 o).1]) h3)) := by
 unfold Zai
 refine ZaH (dT (by dsimp only; omega)) <| Zpz (show ¬ ((2 : Int) = ((0 : Nat) : Int)) by decide) <| Zpz (show ¬ ((2 : Int) = ((1 : Nat) : Int)) by decide) <| ZfT rfl <| Zak (ZhZ 5 o) <| ZfT (by dsimp only [List.length_singleton]; omega) <| Zpz (show ¬ ((2 : Int) = ((0 : Nat) : Int)) by decide) <| Zpz (show ¬ ((2 : Int) = ((1 : Nat) : Int)) by decide) <| ZfT rfl ?_
 dsimp only
 rw [w64 (n := (k : Int) + 1) (by omega), List.take_length]
 simp only [S2, List.length_append, List.length_singleton, Int.natCast_add, Int.natCast_one, Int.cast_ofNat_Int]
theorem ZCs {c : Int} (hc : c <= 5) : ∀ (n : Nat) {k : Nat} {o : OB} {h0 h1 h2 h3 : List Int}, (k : Int) + n = c -> h2.length = k -> Zbm Zai (S2 2 c k o h0 h1 h2 h3) = some (((), (), (), (2 : Int), ()), (rdR (Zdb n o).2, ([], [], [], [], ()), (h0.length, h1.length, (h2 ++ (Zdb n o).1).length, h3.length, ()), (), (), (), (), (), (), (), (), (), (), (), (), h0, h1, (h2 ++ (Zdb n o).1), h3, ()))
 | 0, k, o, h0, h1, h2, h3, hk, hl => Zdy (by
  unfold Zai
  refine ZaM (dF (by dsimp only; omega)) ?_
  simp only [Zdb, List.append_nil])
 | n + 1, k, o, h0, h1, h2, h3, hk, hl => by
  refine ZkE (ZwZ (by omega) hc (by omega)) ?_
  rw [ZCs hc n (k := k + 1) (by omega) (by rw [List.length_append, hl]; rfl)]
  simp only [Zdb, List.append_assoc, List.singleton_append]
theorem Zw0 {c : Int} {k : Nat} {o : OB} {h0 h1 h2 h3 : List Int} (hk : (k : Int) < c) (hc : c <= 5) (hl : h3.length <= 1000) : Zai (S2 3 c k o h0 h1 h2 h3) = some (.inl (S2 3 c (k + 1) (ZcJ 5 o).2 h0 h1 h2 (h3 ++ [(ZcJ 5 o).1]))) := by
 unfold Zai
 refine ZaH (dT (by dsimp only; omega)) <| Zpz (show ¬ ((3 : Int) = ((0 : Nat) : Int)) by decide) <| Zpz (show ¬ ((3 : Int) = ((1 : Nat) : Int)) by decide) <| Zpz (show ¬ ((3 : Int) = ((2 : Nat) : Int)) by decide) <| ZfT rfl <| Zak (ZhZ 5 o) <| ZfT (by dsimp only [List.length_singleton]; omega) <| Zpz (show ¬ ((3 : Int) = ((0 : Nat) : Int)) by decide) <| Zpz (show ¬ ((3 : Int) = ((1 : Nat) : Int)) by decide) <| Zpz (show ¬ ((3 : Int) = ((2 : Nat) : Int)) by decide) <| ZfT rfl ?_
 dsimp only
 rw [w64 (n := (k : Int) + 1) (by omega), List.take_length]
 simp only [S2, List.length_append, List.length_singleton, Int.natCast_add, Int.natCast_one, Int.cast_ofNat_Int]
theorem ZCt {c : Int} (hc : c <= 5) : ∀ (n : Nat) {k : Nat} {o : OB} {h0 h1 h2 h3 : List Int}, (k : Int) + n = c -> h3.length = k -> Zbm Zai (S2 3 c k o h0 h1 h2 h3) = some (((), (), (), (3 : Int), ()), (rdR (Zdb n o).2, ([], [], [], [], ()), (h0.length, h1.length, h2.length, (h3 ++ (Zdb n o).1).length, ()), (), (), (), (), (), (), (), (), (), (), (), (), h0, h1, h2, (h3 ++ (Zdb n o).1), ()))
 | 0, k, o, h0, h1, h2, h3, hk, hl => Zdy (by
  unfold Zai
  refine ZaM (dF (by dsimp only; omega)) ?_
  simp only [Zdb, List.append_nil])
 | n + 1, k, o, h0, h1, h2, h3, hk, hl => by
  refine ZkE (Zw0 (by omega) hc (by omega)) ?_
  rw [ZCt hc n (k := k + 1) (by omega) (by rw [List.length_append, hl]; rfl)]
  simp only [Zdb, List.append_assoc, List.singleton_append]
abbrev S1 (i : Int) (o : OB) (h0 h1 h2 h3 : List Int) : ((Unit) × (Unit) × (Unit) × (Int) × Unit) × ((Zap) × ((List (Int)) × (List (Int)) × (List (Int)) × (List (Int)) × Unit) × ((Nat) × (Nat) × (Nat) × (Nat) × Unit) × (Unit) × (Unit) × (Unit) × (Unit) × (List (Int)) × (List (Int)) × (List (Int)) × (List (Int)) × Unit) :=
 (((), (), (), i, ()), (rdR o, ([], [], [], [], ()), (h0.length, h1.length, h2.length, h3.length, ()), (), (), (), (), h0, h1, h2, h3, ()))
theorem Zw1 {o : OB} {h1 h2 h3 : List Int} : ZaD (S1 0 o [] h1 h2 h3) = some (.inl (S1 1 (Zi4 o).2 (Zi4 o).1 h1 h2 h3)) := by
 have h5 := Zvh o
 unfold ZaD
 refine ZaH (dT (by dsimp only; omega)) (Zak (ZhZ 5 o) (Zak (ZCq h5.2 (ZcJ 5 o).1.toNat (k := 0) (o := (ZcJ 5 o).2) (by omega) rfl) ?_))
 rfl
theorem Zw2 {o : OB} {h0 h2 h3 : List Int} : ZaD (S1 1 o h0 [] h2 h3) = some (.inl (S1 2 (Zi4 o).2 h0 (Zi4 o).1 h2 h3)) := by
 have h5 := Zvh o
 unfold ZaD
 refine ZaH (dT (by dsimp only; omega)) (Zak (ZhZ 5 o) (Zak (ZCr h5.2 (ZcJ 5 o).1.toNat (k := 0) (o := (ZcJ 5 o).2) (by omega) rfl) ?_))
 rfl
theorem Zw3 {o : OB} {h0 h1 h3 : List Int} : ZaD (S1 2 o h0 h1 [] h3) = some (.inl (S1 3 (Zi4 o).2 h0 h1 (Zi4 o).1 h3)) := by
 have h5 := Zvh o
 unfold ZaD
 refine ZaH (dT (by dsimp only; omega)) (Zak (ZhZ 5 o) (Zak (ZCs h5.2 (ZcJ 5 o).1.toNat (k := 0) (o := (ZcJ 5 o).2) (by omega) rfl) ?_))
 rfl
theorem Zw4 {o : OB} {h0 h1 h2 : List Int} : ZaD (S1 3 o h0 h1 h2 []) = some (.inl (S1 4 (Zi4 o).2 h0 h1 h2 (Zi4 o).1)) := by
 have h5 := Zvh o
 unfold ZaD
 refine ZaH (dT (by dsimp only; omega)) (Zak (ZhZ 5 o) (Zak (ZCt h5.2 (ZcJ 5 o).1.toNat (k := 0) (o := (ZcJ 5 o).2) (by omega) rfl) ?_))
 rfl
def Zjc (o : OB) : Zck × OB := (⟨(Zi4 o).1, (Zi4 (Zi4 o).2).1, (Zi4 (Zi4 (Zi4 o).2).2).1, (Zi4 (Zi4 (Zi4 (Zi4 o).2).2).2).1⟩, (Zi4 (Zi4 (Zi4 (Zi4 o).2).2).2).2)
theorem ZpC (o : OB) : Zcn (rdR o) = some (((Zjc o).1.voters.length, (Zjc o).1.old.length, (Zjc o).1.learners.length, (Zjc o).1.want.length, ()), (rdR (Zjc o).2, (Zjc o).1.voters, (Zjc o).1.old, (Zjc o).1.learners, (Zjc o).1.want, ())) := by
 have key : Zbm ZaD (S1 0 o [] [] [] []) = some (((), (), ()), (rdR (Zjc o).2, ([], [], [], [], ()), ((Zjc o).1.voters.length, (Zjc o).1.old.length, (Zjc o).1.learners.length, (Zjc o).1.want.length, ()), (), (), (), (), (), (), (), (), (), (), (), (), (Zjc o).1.voters, (Zjc o).1.old, (Zjc o).1.learners, (Zjc o).1.want, ())) :=
  ZkE Zw1 <| ZkE Zw2 <| ZkE Zw3 <| ZkE Zw4 <| Zdy (ZaM rfl rfl)
 unfold Zcn
 exact Zak key rfl
theorem Zw5 (o : OB) : ZdS (rdR o) = some (o.isNone, (rdR o, ())) := by
 cases o with
 | none => rfl
 | some l =>
  unfold ZdS
  refine Zak (v := ((l.length : Int), (rdR (some l), ()))) rfl ?_
  by_cases h : l.length = 0
  ·obtain rfl := List.eq_nil_of_length_eq_zero h
   rfl
  ·exact ZaM (dF (by dsimp only; omega)) rfl
def Zhd (l : List Int) : Bool := decide ((∀ x ∈ l, 1 <= x /\ x <= 5) /\ l.Pairwise (· < ·))
theorem Zob {l : List Int} (hl : l.length <= 1000000) : ZbO l.length l = some (Zhd l, (l, ())) := by
 have key : ∃ z, Zbm Zc7 ((l.length, l.length, (l.length : Int), 0, ()), (l, ())) = some z /\ ((z = .inl ((false, ()), (l, ())) /\ Zhd l = false) \/ (z = .inr ((), (l, ())) /\ Zhd l = true)) := by
  refine Zep (fun r a => ∃ i : Nat, a = ((l.length, l.length, (l.length : Int), (i : Int), ()), (l, ())) /\ i <= l.length /\ ((∀ x ∈ l.take i, 1 <= x /\ x <= 5) /\ (l.take i).Pairwise (· < ·)) /\ r = l.length - i) _ ?_ (n := l.length) ⟨0, rfl, Nat.zero_le _, ⟨by simp, by simp⟩, rfl⟩
  rintro r a ⟨i, rfl, g1, ⟨g2, g3⟩, rfl⟩
  unfold Zc7
  by_cases hi : i < l.length
  ·have hget : l[(0 + (i : Int).toNat)]? = some l[i] := by rw [Nat.zero_add, Int.toNat_natCast]; exact List.getElem?_eq_getElem hi
   have hmem : l[i] ∈ l := List.getElem_mem hi
   by_cases h1 : l[i] < 1
   ·right
    exact ⟨_, ZaH (dT (by dsimp only; omega)) (ZfT (by dsimp only; omega) (Zak hget (ZaH (dT h1) rfl))), .inl ⟨rfl, decide_eq_false fun q => by have := q.1 _ hmem; omega⟩⟩
   by_cases h2 : (5 : Int) < l[i]
   ·right
    exact ⟨_, ZaH (dT (by dsimp only; omega)) (ZfT (by dsimp only; omega) (Zak hget (ZaM (dF h1) (ZaH (dT h2) rfl)))), .inl ⟨rfl, decide_eq_false fun q => by have := q.1 _ hmem; omega⟩⟩
   have ht : l.take (i + 1) = l.take i ++ [l[i]] := by rw [List.take_add_one, List.getElem?_eq_getElem hi]; rfl
   have hin : ∀ x ∈ l.take (i + 1), 1 <= x /\ x <= 5 := fun x hx => by
    rw [ht] at hx
    rcases List.mem_append.1 hx with hx | hx
    ·exact g2 x hx
    ·rw [List.mem_singleton.1 hx]; omega
   by_cases h0 : 0 < i
   ·have hw : IntKind.i64.wrap ((i : Int) - 1) = ((i - 1 : Nat) : Int) := by rw [w64 (by omega)]; omega
    have hget2 : l[(0 + (IntKind.i64.wrap ((i : Int) - 1)).toNat)]? = some l[i - 1] := by rw [hw, Nat.zero_add, Int.toNat_natCast]; exact List.getElem?_eq_getElem (by omega)
    by_cases h3 : l[i] <= l[i - 1]
    ·right
     refine ⟨_, ZaH (dT (by dsimp only; omega)) (ZfT (by dsimp only; omega) (Zak hget (ZaM (dF h1) (ZaM (dF h2) (ZaH (dT (by dsimp only; omega)) (ZfT (by dsimp only; rw [hw]; omega) (Zak hget2 (ZaH (dT h3) rfl)))))))), .inl ⟨rfl, decide_eq_false fun q => ?_⟩⟩
     have := List.pairwise_iff_getElem.1 q.2 (i - 1) i (by omega) hi (by omega)
     omega
    ·left
     refine ⟨l.length - (i + 1), ((l.length, l.length, (l.length : Int), ((i + 1 : Nat) : Int), ()), (l, ())), by omega, ZaH (dT (by dsimp only; omega)) (ZfT (by dsimp only; omega) (Zak hget (ZaM (dF h1) (ZaM (dF h2) (ZaH (dT (by dsimp only; omega)) (ZfT (by dsimp only; rw [hw]; omega) (Zak hget2 (ZaM (dF h3) ?_)))))))), i + 1, rfl, by omega, ⟨hin, ?_⟩, rfl⟩
     ·dsimp only
      rw [w64 (n := (i : Int) + 1) (by omega)]
      rfl
     ·rw [ht, List.pairwise_append]
      refine ⟨g3, by simp, fun x hx y hy => ?_⟩
      rw [List.mem_singleton.1 hy]
      obtain ⟨j, hj, rfl⟩ := List.getElem_of_mem hx
      rw [List.length_take] at hj
      rw [List.getElem_take]
      by_cases hji : j = i - 1
      ·subst hji; omega
      ·have := List.pairwise_iff_getElem.1 g3 j (i - 1) (by rw [List.length_take]; omega) (by rw [List.length_take]; omega) (by omega)
       rw [List.getElem_take, List.getElem_take] at this
       omega
   ·left
    refine ⟨l.length - (i + 1), ((l.length, l.length, (l.length : Int), ((i + 1 : Nat) : Int), ()), (l, ())), by omega, ZaH (dT (by dsimp only; omega)) (ZfT (by dsimp only; omega) (Zak hget (ZaM (dF h1) (ZaM (dF h2) (ZaM (dF (by dsimp only; omega)) ?_))))), i + 1, rfl, by omega, ⟨hin, ?_⟩, rfl⟩
    ·dsimp only
     rw [w64 (n := (i : Int) + 1) (by omega)]
     rfl
    ·obtain rfl : i = 0 := by omega
     rw [ht]; simp
  ·right
   have hie : i = l.length := by omega
   subst hie
   rw [List.take_length] at g2 g3
   exact ⟨_, ZaM (dF (by dsimp only; omega)) rfl, .inr ⟨rfl, decide_eq_true ⟨g2, g3⟩⟩⟩
 obtain ⟨z, hz, ⟨rfl, h⟩ | ⟨rfl, h⟩⟩ := key
 ·unfold ZbO; rw [h]; exact Zak hz rfl
 ·unfold ZbO; rw [h]; exact Zak hz rfl
theorem ZpD : ∀ (n : Nat) (o : OB), (Zdb n o).1.length = n
 | 0, _ => rfl
 | n + 1, o => by show (Zdb n (ZcJ 5 o).2).1.length + 1 = _; rw [ZpD]
theorem ZkX (o : OB) : (Zi4 o).1.length <= 5 := by
 have := Zvh o
 unfold Zi4
 rw [ZpD]
 omega
def ZAZ (c : Zck) : Bool := Zhd c.voters && (Zhd c.old && (Zhd c.learners && Zhd c.want))
def Zfk (x : ZeC) : Bool := decide (0 <= x.index /\ x.index <= 1073741824) && (decide (0 <= x.term_ /\ x.term_ <= 1073741824) && ZAZ x.config)
theorem Zw6 {c : Zck} (h1 : c.voters.length <= 1000000) (h2 : c.old.length <= 1000000) (h3 : c.learners.length <= 1000000) (h4 : c.want.length <= 1000000) : ZdT (c.voters.length, c.old.length, c.learners.length, c.want.length, ()) c.voters c.old c.learners c.want = some (ZAZ c, (c.voters, c.old, c.learners, c.want, ())) := by
 unfold ZdT ZAZ
 refine Zak (Zob h1) ?_
 cases Zhd c.voters
 ·exact ZaM rfl rfl
 refine ZaH rfl (Zak (Zob h2) ?_)
 cases Zhd c.old
 ·exact ZaM rfl rfl
 refine ZaH rfl (Zak (Zob h3) ?_)
 cases Zhd c.learners
 ·exact ZaM rfl rfl
 refine ZaH rfl (Zak (Zob h4) ?_)
 rfl
theorem Zr2 (x : Int) : ZcS x 1073741824 = some (decide (0 <= x /\ x <= 1073741824), ()) := by
 unfold ZcS
 by_cases h : 0 <= x
 ·refine ZaH (dT h) ?_
  by_cases h2 : x <= 1073741824
  ·rw [dT h2, dT (p := 0 <= x /\ x <= 1073741824) ⟨h, h2⟩]
  ·rw [dF h2, dF (p := 0 <= x /\ x <= 1073741824) fun q => h2 q.2]
 ·refine ZaM (dF h) ?_
  rw [dF (p := 0 <= x /\ x <= 1073741824) fun q => h q.1]
theorem ZAD {x : ZeC} (h1 : x.config.voters.length <= 1000000) (h2 : x.config.old.length <= 1000000) (h3 : x.config.learners.length <= 1000000) (h4 : x.config.want.length <= 1000000) : Ze4 (x.index, x.term_, x.config.voters.length, x.config.old.length, x.config.learners.length, x.config.want.length, ()) x.config.voters x.config.old x.config.learners x.config.want = some (Zfk x, (x.config.voters, x.config.old, x.config.learners, x.config.want, ())) := by
 unfold Ze4 Zfk
 refine Zak (Zr2 _) ?_
 cases decide (0 <= x.index /\ x.index <= 1073741824)
 ·exact ZaM rfl rfl
 refine ZaH rfl (Zak (Zr2 _) ?_)
 cases decide (0 <= x.term_ /\ x.term_ <= 1073741824)
 ·exact ZaM rfl rfl
 exact ZaH rfl (Zak (Zw6 h1 h2 h3 h4) rfl)
def ZbY (l : List UInt8) : ZeC × OB :=
 (⟨(ZcJ 1073741824 (some l)).1, (ZcJ 1073741824 (ZcJ 1073741824 (some l)).2).1, (Zjc (ZcJ 1073741824 (ZcJ 1073741824 (some l)).2).2).1⟩, (Zjc (ZcJ 1073741824 (ZcJ 1073741824 (some l)).2).2).2)
theorem Zvi (l : List UInt8) : (ZbY l).1.config.voters.length <= 5 /\ (ZbY l).1.config.old.length <= 5 /\ (ZbY l).1.config.learners.length <= 5 /\ (ZbY l).1.config.want.length <= 5 := ⟨ZkX _, ZkX _, ZkX _, ZkX _⟩
def okO (l : List UInt8) : Bool := (ZbY l).2.isSome && Zfk (ZbY l).1
theorem Zm7 (l : List UInt8) : Zcg (true, false, l, ()) = some (if okO l = true then
 ((((ZbY l).1.index, (ZbY l).1.term_, (ZbY l).1.config.voters.length, (ZbY l).1.config.old.length, (ZbY l).1.config.learners.length, (ZbY l).1.config.want.length, ()), true, ()), (rdR (ZbY l).2, (), (ZbY l).1.config.voters, (ZbY l).1.config.old, (ZbY l).1.config.learners, (ZbY l).1.config.want, ()))
 else (((0, 0, 0, 0, 0, 0, ()), false, ()), (rdR (ZbY l).2, (), [], [], [], [], ()))) := by
 obtain ⟨q1, q2, q3, q4⟩ := Zvi l
 unfold Zcg
 refine Zak (ZAB 1073741824 l) (Zak (ZhZ 1073741824 _) (Zak (ZpC _) (Zak (Zw5 _) ?_)))
 unfold okO
 show (bif (ZbY l).2.isNone then _ else _) = _
 cases h : (ZbY l).2 with
 | none => exact congrArg some (by rw [if_neg (by simp)]; rw [show (Zjc (ZcJ 1073741824 (ZcJ 1073741824 (some l)).2).2).2 = none from h])
 | some r =>
  refine ZaM rfl (Zak (ZAD (x := (ZbY l).1) (by omega) (by omega) (by omega) (by omega)) ?_)
  cases hb : Zfk (ZbY l).1
  ·refine ZaH rfl ?_
   rw [if_neg (by simp)]
   dsimp only
   rw [show (Zjc (ZcJ 1073741824 (ZcJ 1073741824 (some l)).2).2).2 = some r from h]
  ·refine ZaM rfl ?_
   rw [if_pos (by simp)]
   dsimp only
   rw [show (Zjc (ZcJ 1073741824 (ZcJ 1073741824 (some l)).2).2).2 = some r from h]
   rfl
end Go.Proofs.YteempnebenjkmaaGreatDoor
namespace Go.Proofs.YteempnebenjkmaaGreatDoor
open Go.RowKit
set_option maxRecDepth 100000
set_option linter.unusedVariables false
set_option linter.unusedSimpArgs false
theorem Zw7 : ∀ (k i acc n : Nat) (r : List UInt8), n < 128 ^ (k + 1) -> (0 < i -> 0 < n) -> acc + n * 2 ^ (7 * i) <= top -> ZqU (k + 1) i acc (Zkt n ++ r) = some (acc + n * 2 ^ (7 * i), r) := by
 intro k
 induction k with
 | zero =>
  intro i acc n r h h0 ht
  have hn : n < 128 := by simpa using h
  rw [Zj3 hn, List.singleton_append]
  have hb : (UInt8.ofNat n).toNat = n := by rw [UInt8.toNat_ofNat']; omega
  have hm : n % 128 = n := Nat.mod_eq_of_lt hn
  unfold ZqU
  dsimp only
  rw [hb, hm, if_pos hn, if_neg (by omega)]
 | succ k ih =>
  intro i acc n r h h0 ht
  by_cases hn : n < 128
  ·rw [Zj3 hn, List.singleton_append]
   have hb : (UInt8.ofNat n).toNat = n := by rw [UInt8.toNat_ofNat']; omega
   have hm : n % 128 = n := Nat.mod_eq_of_lt hn
   unfold ZqU
   dsimp only
   rw [hb, hm, if_pos hn, if_neg (by omega)]
  ·rw [Zl2 hn, List.cons_append]
   have hb : (UInt8.ofNat (n % 128 + 128)).toNat = n % 128 + 128 := by rw [UInt8.toNat_ofNat']; omega
   have hm : (n % 128 + 128) % 128 = n % 128 := by omega
   have hp : 2 ^ (7 * (i + 1)) = 128 * 2 ^ (7 * i) := by rw [Nat.mul_add, Nat.pow_add, Nat.mul_comm]
   have hsum : acc + n % 128 * 2 ^ (7 * i) + n / 128 * 2 ^ (7 * (i + 1)) = acc + n * 2 ^ (7 * i) := by
    rw [hp, <- Nat.mul_assoc, Nat.add_assoc, <- Nat.add_mul]
    congr 2
    omega
   unfold ZqU
   dsimp only
   rw [hb, hm, if_neg (by omega), ih (i + 1) _ (n / 128) r (by rw [Nat.pow_succ] at h; omega) (by omega) (by rw [hsum]; exact ht), hsum]
theorem ZdA {n : Nat} (most : Nat) (r : List UInt8) (hn : n <= top) : ZcJ most (some (Zkt n ++ r)) = if most < n then (0, none) else ((n : Int), some r) := by
 have h := Zw7 8 0 0 n r (by unfold top at hn; omega) (fun q => absurd q (by omega)) (by simpa using hn)
 rw [Zr1 (p := (n, r)) (by simpa using h)]
theorem ZpE (x : Int) (xs : List Int) : Zn9 (x :: xs) = Zkt x.toNat ++ Zn9 xs := by simp [Zn9]
theorem Zj4 : ∀ n, (Zdb n none).2 = none
 | 0 => rfl
 | n + 1 => Zj4 n
theorem ZfV : (Zi4 none).2 = none := Zj4 _
theorem Zht {x : Int} (h : ZdN x = true) : x.toNat <= top /\ (x.toNat : Int) = x := by
 have := ZcX.1 h
 unfold top
 omega
theorem Zm8 : ∀ (xs : List Int) (r : List UInt8), xs.all ZdN = true -> (∀ x ∈ xs, x <= 5) -> Zdb xs.length (some (Zn9 xs ++ r)) = (xs, some r)
 | [], r, _, _ => rfl
 | x :: xs, r, hg, hl => by
  rw [List.all_cons, Bool.and_eq_true] at hg
  obtain ⟨t1, t2⟩ := Zht hg.1
  have hx := hl x List.mem_cons_self
  have e : ZcJ 5 (some (Zn9 (x :: xs) ++ r)) = (x, some (Zn9 xs ++ r)) := by
   rw [ZpE, List.append_assoc, ZdA 5 _ t1, if_neg (by omega), t2]
  show ((ZcJ 5 (some (Zn9 (x :: xs) ++ r))).1 :: (Zdb xs.length (ZcJ 5 (some (Zn9 (x :: xs) ++ r))).2).1, (Zdb xs.length (ZcJ 5 (some (Zn9 (x :: xs) ++ r))).2).2) = _
  rw [e, Zm8 xs r hg.2 fun y hy => hl y (List.mem_cons_of_mem _ hy)]
theorem Zm9 : ∀ (xs : List Int) (r : List UInt8), xs.all ZdN = true -> ¬ (∀ x ∈ xs, x <= 5) -> (Zdb xs.length (some (Zn9 xs ++ r))).2 = none
 | [], r, _, hl => absurd (fun _ h => by cases h) hl
 | x :: xs, r, hg, hl => by
  rw [List.all_cons, Bool.and_eq_true] at hg
  obtain ⟨t1, t2⟩ := Zht hg.1
  show (Zdb xs.length (ZcJ 5 (some (Zn9 (x :: xs) ++ r))).2).2 = none
  rw [ZpE, List.append_assoc, ZdA 5 _ t1]
  by_cases hx : x <= 5
  ·rw [if_neg (by omega)]
   exact Zm9 xs r hg.2 fun q => hl fun y hy => by
    rcases List.mem_cons.1 hy with rfl | hy
    ·exact hx
    ·exact q y hy
  ·rw [if_pos (by omega)]
   exact Zj4 _
def Ztl (xs : List Int) : List UInt8 := Zkt xs.length ++ Zn9 xs
def ZvO (xs : List Int) : Prop := xs.length <= 5 /\ ∀ x ∈ xs, x <= 5
theorem ZeJ {xs : List Int} {r : List UInt8} (hg : xs.all ZdN = true) (hl : ZvO xs) : Zi4 (some (Ztl xs ++ r)) = (xs, some r) := by
 have h5 := hl.1
 have e : ZcJ 5 (some (Ztl xs ++ r)) = ((xs.length : Int), some (Zn9 xs ++ r)) := by
  unfold Ztl
  rw [List.append_assoc, ZdA 5 _ (by unfold top; omega), if_neg (by omega)]
 unfold Zi4
 rw [e]
 exact Zm8 xs r hg hl.2
theorem Zi5 {xs : List Int} {r : List UInt8} (hn : xs.length <= 10000) (hg : xs.all ZdN = true) (hl : ¬ ZvO xs) : (Zi4 (some (Ztl xs ++ r))).2 = none := by
 have e : ZcJ 5 (some (Ztl xs ++ r)) = if 5 < xs.length then (0, none) else ((xs.length : Int), some (Zn9 xs ++ r)) := by
  unfold Ztl
  rw [List.append_assoc, ZdA 5 _ (by unfold top; omega)]
 unfold Zi4
 rw [e]
 by_cases h : 5 < xs.length
 ·rw [if_pos h]; rfl
 ·rw [if_neg h]
  exact Zm9 xs r hg fun q => hl ⟨by omega, q⟩
def Zzx (c : Zck) : List UInt8 := Ztl c.voters ++ (Ztl c.old ++ (Ztl c.learners ++ Ztl c.want))
def Zzf (c : Zck) : Prop := c.voters.all ZdN = true /\ c.old.all ZdN = true /\ c.learners.all ZdN = true /\ c.want.all ZdN = true
def ZBW (c : Zck) : Prop := ZvO c.voters /\ ZvO c.old /\ ZvO c.learners /\ ZvO c.want
theorem Zvj {c : Zck} {r : List UInt8} (hg : Zzf c) (hl : ZBW c) : Zjc (some (Zzx c ++ r)) = (c, some r) := by
 obtain ⟨a1, a2, a3, a4⟩ := hg
 obtain ⟨b1, b2, b3, b4⟩ := hl
 unfold Zjc Zzx
 rw [List.append_assoc, ZeJ a1 b1]
 dsimp only
 rw [List.append_assoc, ZeJ a2 b2]
 dsimp only
 rw [List.append_assoc, ZeJ a3 b3]
 dsimp only
 rw [ZeJ a4 b4]
theorem Zvk {c : Zck} {r : List UInt8} (hf : Zkv c) (hg : Zzf c) (hl : ¬ ZBW c) : (Zjc (some (Zzx c ++ r))).2 = none := by
 obtain ⟨a1, a2, a3, a4⟩ := hg
 unfold Zkv at hf
 unfold Zjc Zzx
 dsimp only
 rw [List.append_assoc]
 by_cases b1 : ZvO c.voters
 ·rw [ZeJ a1 b1]
  dsimp only
  rw [List.append_assoc]
  by_cases b2 : ZvO c.old
  ·rw [ZeJ a2 b2]
   dsimp only
   rw [List.append_assoc]
   by_cases b3 : ZvO c.learners
   ·rw [ZeJ a3 b3]
    exact Zi5 (by omega) a4 fun b4 => hl ⟨b1, b2, b3, b4⟩
   ·rw [Zi5 (by omega) a3 b3]; exact ZfV
  ·rw [Zi5 (by omega) a2 b2, ZfV]; exact ZfV
 ·rw [Zi5 (by omega) a1 b1, ZfV, ZfV]; exact ZfV
end Go.Proofs.YteempnebenjkmaaGreatDoor
namespace Go.Proofs.YteempnebenjkmaaGreatDoor
open Go.RowKit
set_option maxRecDepth 100000
set_option linter.unusedVariables false
set_option linter.unusedSimpArgs false
def Zi6 (x : ZeC) : List UInt8 := Zkt x.index.toNat ++ (Zkt x.term_.toNat ++ Zzx x.config)
def ZqV (x : ZeC) : Prop := ZdN x.index = true /\ ZdN x.term_ = true /\ Zzf x.config
def ZA0 (x : ZeC) : Prop := x.index <= 1073741824 /\ x.term_ <= 1073741824 /\ ZBW x.config
theorem Zna {x : ZeC} {r : List UInt8} (hg : ZqV x) (hl : ZA0 x) : ZbY (Zi6 x ++ r) = (x, some r) := by
 obtain ⟨a1, a2, a3⟩ := hg
 obtain ⟨b1, b2, b3⟩ := hl
 obtain ⟨t1, t2⟩ := Zht a1
 obtain ⟨s1, s2⟩ := Zht a2
 unfold ZbY Zi6
 rw [List.append_assoc, ZdA _ _ t1, if_neg (by omega)]
 dsimp only
 rw [List.append_assoc, ZdA _ _ s1, if_neg (by omega)]
 dsimp only
 rw [Zvj a3 b3, t2, s2]
theorem ZpF : (Zjc none).2 = none := rfl
theorem Ztd {x : ZeC} {r : List UInt8} (hf : Zkv x.config) (hg : ZqV x) (hl : ¬ ZA0 x) : (ZbY (Zi6 x ++ r)).2 = none := by
 obtain ⟨a1, a2, a3⟩ := hg
 obtain ⟨t1, t2⟩ := Zht a1
 obtain ⟨s1, s2⟩ := Zht a2
 unfold ZbY Zi6
 dsimp only
 rw [List.append_assoc, ZdA _ _ t1]
 by_cases b1 : x.index <= 1073741824
 ·rw [if_neg (by omega)]
  dsimp only
  rw [List.append_assoc, ZdA _ _ s1]
  by_cases b2 : x.term_ <= 1073741824
  ·rw [if_neg (by omega)]
   exact Zvk hf a3 fun b3 => hl ⟨b1, b2, b3⟩
  ·rw [if_pos (by omega)]; exact ZpF
 ·rw [if_pos (by omega)]; exact ZpF
theorem Zr3 : ∀ (l : List Int) (m : Nat), m <= 6 -> (∀ x ∈ l, (m : Int) <= x /\ x <= 5) -> l.Pairwise (· < ·) -> l.length <= 6 - m
 | [], m, _, _, _ => Nat.zero_le _
 | x :: l, m, hm, h1, h2 => by
  obtain ⟨p1, p2⟩ := List.pairwise_cons.1 h2
  have hx := h1 x List.mem_cons_self
  have := Zr3 l (m + 1) (by omega) (fun y hy => ⟨by have := p1 y hy; omega, (h1 y (List.mem_cons_of_mem _ hy)).2⟩) p2
  rw [List.length_cons]
  omega
theorem Zd1 {l : List Int} (h : Zhd l = true) : ZvO l /\ l.all ZdN = true := by
 obtain ⟨h1, h2⟩ := of_decide_eq_true h
 refine ⟨⟨Zr3 l 1 (by omega) (fun x hx => h1 x hx) h2, fun x hx => (h1 x hx).2⟩, List.all_eq_true.2 fun x hx => ZcX.2 ?_⟩
 have := h1 x hx
 omega
theorem ZeK {x : ZeC} (h : Zfk x = true) : ZA0 x /\ ZqV x := by
 unfold Zfk ZAZ at h
 simp only [Bool.and_eq_true] at h
 obtain ⟨h1, h2, h3, h4, h5, h6⟩ := h
 have h1 := of_decide_eq_true h1
 have h2 := of_decide_eq_true h2
 exact ⟨⟨h1.2, h2.2, (Zd1 h3).1, (Zd1 h4).1, (Zd1 h5).1, (Zd1 h6).1⟩, ZcX.2 (by omega), ZcX.2 (by omega), (Zd1 h3).2, (Zd1 h4).2, (Zd1 h5).2, (Zd1 h6).2⟩
theorem Zr4 {x : ZeC} {r : List UInt8} (hf : Zkv x.config) (hg : ZqV x) : okO (Zi6 x ++ r) = Zfk x := by
 unfold okO
 by_cases hl : ZA0 x
 ·rw [Zna hg hl]; rfl
 ·rw [Ztd hf hg hl]
  cases hb : Zfk x with
  | false => rfl
  | true => exact absurd (ZeK hb).1 hl
theorem Zi7 {xs : List Int} {b : List UInt8} (hn : xs.length <= 10000) (hg : xs.all ZdN = true) : Zku xs (false, b) = (false, b ++ Ztl xs) := by
 unfold Zku Ztl
 have h1 : [(xs.length : Int)].all ZdN = true := by
  rw [List.all_cons, List.all_nil, Bool.and_true]
  exact ZcX.2 (by omega)
 rw [Zhr _ _ _ h1, Zhr _ _ _ hg]
 simp [Zn9]
theorem ZcY (xs : List Int) {w : WB} (h : w.1 = true) : (Zku xs w).1 = true := by
 obtain ⟨w1, w2⟩ := w
 dsimp only at h
 subst h
 have h1 := ZfU [(xs.length : Int)] w2
 unfold Zku
 generalize hq : Zcl [(xs.length : Int)] (true, w2) = q at h1
 obtain ⟨q1, q2⟩ := q
 dsimp only at h1
 subst h1
 exact ZfU xs q2
theorem ZkY {xs : List Int} {b : List UInt8} (hg : xs.all ZdN = false) (sp : Bool) : (Zku xs (sp, b)).1 = true := by
 unfold Zku
 generalize Zcl [(xs.length : Int)] (sp, b) = q
 obtain ⟨q1, q2⟩ := q
 exact Zl4 xs q1 q2 hg
theorem Zhu {x : ZeC} (hf : Zkv x.config) (hg : ZqV x) : Zoa x = (false, Zi6 x) := by
 obtain ⟨a1, a2, b1, b2, b3, b4⟩ := hg
 unfold Zkv at hf
 have h0 : [x.index, x.term_].all ZdN = true := by simp [a1, a2]
 unfold Zoa ZxN
 rw [Zhr _ _ _ h0, Zi7 (by omega) b1, Zi7 (by omega) b2, Zi7 (by omega) b3, Zi7 (by omega) b4]
 simp [Zi6, Zzx, Zn9, List.append_assoc]
theorem Zvl {x : ZeC} (hf : Zkv x.config) (hg : ¬ ZqV x) : (Zoa x).1 = true := by
 unfold Zoa ZxN
 by_cases h0 : [x.index, x.term_].all ZdN = true
 ·by_cases b1 : x.config.voters.all ZdN = true
  ·by_cases b2 : x.config.old.all ZdN = true
   ·by_cases b3 : x.config.learners.all ZdN = true
    ·by_cases b4 : x.config.want.all ZdN = true
     ·simp only [List.all_cons, List.all_nil, Bool.and_true, Bool.and_eq_true] at h0
      exact absurd ⟨h0.1, h0.2, b1, b2, b3, b4⟩ hg
     ·generalize Zku x.config.learners _ = q
      obtain ⟨q1, q2⟩ := q
      exact ZkY (by simpa using b4) q1
    ·refine ZcY _ ?_
     generalize Zku x.config.old _ = q
     obtain ⟨q1, q2⟩ := q
     exact ZkY (by simpa using b3) q1
   ·refine ZcY _ (ZcY _ ?_)
    generalize Zku x.config.voters _ = q
    obtain ⟨q1, q2⟩ := q
    exact ZkY (by simpa using b2) q1
  ·refine ZcY _ (ZcY _ (ZcY _ ?_))
   generalize Zcl [x.index, x.term_] _ = q
   obtain ⟨q1, q2⟩ := q
   exact ZkY (by simpa using b1) q1
 ·exact ZcY _ (ZcY _ (ZcY _ (ZcY _ (Zl4 _ _ _ (by simpa using h0)))))
theorem Zr5 {l : List UInt8} (h : l.length <= 1000000) : ZcR l = some ((), ((true, false, l, ()), (), ())) := by
 unfold ZcR
 exact Zak (v := (l, ((), ()))) (by unfold Zfa; exact ZfT (by omega) rfl) rfl
theorem Zw8 {b : List UInt8} : ∃ st, ZfE (true, true, b, ()) = some (([], 2, ()), st) := ⟨_, Zak rfl (ZaM rfl (ZaH rfl rfl))⟩
theorem Zzg {x : ZeC} (hf : Zkv x.config) : Zgo x = some (Zfk x, ()) := by
 have hl := Zl7 hf
 unfold Zgo
 refine Zak rfl (Zak (Zl6 hf) ?_)
 by_cases hg : ZqV x
 ·rw [Zhu hf hg] at hl ⊢
  obtain ⟨st, hd⟩ := ZxM (sp := false) (b := Zi6 x) (by dsimp only at hl; omega)
  refine Zak hd (ZaM (by rfl) (Zak (Zr5 (by dsimp only at hl ⊢; exact (by simpa using hl : (Zi6 x).length <= 100000) |> fun q => by simpa using Nat.le_trans q (by omega))) (Zak (Zm7 _) ?_)))
  have := Zr4 (r := []) hf hg
  rw [List.append_nil] at this
  rw [show okO (if false = true then ([], 2, ()) else (Zi6 x, (0 : Int), ())).1 = Zfk x from this]
  cases Zfk x <;> rfl
 ·have hb := Zvl hf hg
  obtain ⟨st, hd⟩ := Zw8 (b := (Zoa x).2)
  have hnb : Zfk x = false := by
   cases h : Zfk x with
   | false => rfl
   | true => exact absurd (ZeK h).2 hg
  rw [hnb]
  dsimp only
  rw [hb]
  exact Zak hd (ZaH rfl rfl)
end Go.Proofs.YteempnebenjkmaaGreatDoor
namespace Go.Proofs.YteempnebenjkmaaGreatDoor
open Go.RowKit
set_option maxRecDepth 100000
set_option linter.unusedVariables false
set_option linter.unusedSimpArgs false
def Zoi (x : Zbe) : List UInt8 := Zi6 x.base ++ Zr0 x.bytes
theorem Zvm {x : Zbe} (hf : Zkv x.base.config) (hb : x.bytes.length <= 5000) : Zda x = some ((if Zfk x.base = true then (Zoi x, 0, ()) else ([], 2, ())), ((), ())) := by
 have hl := Zl7 hf
 unfold Zda
 refine Zak (Zzg hf) ?_
 cases h : Zfk x.base
 ·exact ZaH rfl rfl
 ·have hg := (ZeK h).2
  rw [Zhu hf hg] at hl
  dsimp only at hl
  refine ZaM rfl (ZaM (dF (by omega)) (Zak rfl (Zak (Zl6 hf) ?_)))
  rw [Zhu hf hg]
  refine Zak (Zzc (t := x.bytes) (sp := false) (b := Zi6 x.base) (by omega) (by omega)) ?_
  have hr : (Zr0 x.bytes).length <= 5009 := by
   have := Zhc (n := x.bytes.length) (by omega)
   unfold Zr0
   rw [List.length_append]
   omega
  obtain ⟨st, hd⟩ := ZxM (sp := false) (b := Zi6 x.base ++ Zr0 x.bytes) (by rw [List.length_append]; omega)
  exact Zak hd rfl
theorem ZBX (o : OB) : ZiY (rdR o) = some (if o = some [] then 0 else 4, (rdR o, ())) := by
 cases o with
 | none => rfl
 | some l =>
  cases l with
  | nil => rfl
  | cons a l =>
   unfold ZiY
   refine ZaM rfl (ZaM rfl (ZaH (dT (by show (0 : Int) < ((l.length + 1 : Nat) : Int); omega)) ?_))
   rw [if_neg (by simp)]
def okG (l : List UInt8) : Prop := okO l = true /\ (ZvN 131072 (ZbY l).2).2 = some []
theorem Zvn {l : List UInt8} (hl : l.length <= 1000000) (h : okG l) : ZfI l = some ((((ZbY l).1.index, (ZbY l).1.term_, (ZbY l).1.config.voters.length, (ZbY l).1.config.old.length, (ZbY l).1.config.learners.length, (ZbY l).1.config.want.length, (ZvN 131072 (ZbY l).2).1, ()), true, ()), ((ZbY l).1.config.voters, (ZbY l).1.config.old, (ZbY l).1.config.learners, (ZbY l).1.config.want, ())) := by
 have hR := Zm7 l
 rw [if_pos h.1] at hR
 have hE := ZBX (ZvN 131072 (ZbY l).2).2
 rw [if_pos h.2] at hE
 unfold ZfI
 exact Zak (Zr5 hl) (Zak hR (Zak (ZBV 131072 (by omega) _) (ZaM rfl (Zak hE (ZaM rfl rfl)))))
theorem Zoc {t r : List UInt8} (ht : t.length <= 131072) : ZvN 131072 (some (Zr0 t ++ r)) = (t, some r) := by
 unfold ZvN Zr0
 rw [List.append_assoc, ZdA 131072 _ (by unfold top; omega), if_neg (by omega)]
 dsimp only
 rw [if_neg (by rw [List.length_append]; omega), Int.toNat_natCast]
 simp
theorem Zod {x : Zbe} {r : List UInt8} (h : Zfk x.base = true) : ZbY (Zi6 x.base ++ r) = (x.base, some r) := Zna (ZeK h).2 (ZeK h).1
theorem Zvo {x : Zbe} (hf : Zkv x.base.config) (hb : x.bytes.length <= 5000) (h : Zfk x.base = true) : okG (Zoi x) := by
 unfold Zoi
 refine ⟨by rw [Zr4 hf (ZeK h).2, h], ?_⟩
 rw [Zod h]
 have := Zoc (t := x.bytes) (r := []) (by omega)
 rw [List.append_nil] at this
 rw [this]
end Go.Proofs.YteempnebenjkmaaGreatDoor
namespace Go.Proofs.YteempnebenjkmaaGreatDoor
open Go.RowKit
set_option maxRecDepth 100000
set_option linter.unusedVariables false
set_option linter.unusedSimpArgs false
theorem Zl8 (a b : List UInt8) (ha : a.length <= 140737488355328) : ZbD a b = some (decide (a = b), ()) := by
 unfold ZbD
 by_cases hl : a.length = b.length
 ·refine ZaM (dF (by omega)) ?_
  refine Zak (Zvf (step := ZaU) a b (fun i => ((a, b, i, ()), ())) (.inl ((false, ()), ())) (.inr ((), ())) hl ha (fun i hi hj => ⟨fun he => ?_, fun he => ?_⟩) ?_) ?_
  ·unfold ZaU
   refine ZaH (dT (by dsimp only; omega)) (Zak (Zdz hi) (Zak (Zdz hj) (ZaM (dF (by rw [he]; simp)) ?_)))
   dsimp only
   rw [w64 (by omega)]
   rfl
  ·unfold ZaU
   refine ZaH (dT (by dsimp only; omega)) (Zak (Zdz hi) (Zak (Zdz hj) (ZaH (dT ?_) rfl)))
   intro h
   exact he (UInt8.toNat_inj.1 (by omega))
  ·unfold ZaU
   exact ZaM (dF (by dsimp only; omega)) rfl
  ·by_cases he : a = b
   ·rw [if_pos he, decide_eq_true he]
   ·rw [if_neg he, decide_eq_false he]
 ·refine ZaH (dT (by omega)) ?_
  rw [decide_eq_false (fun e => hl (by rw [e]))]
theorem Zhv {xs : List Int} (hn : xs.length <= 1000000) : ZaZ xs xs = some (true, ()) := by
 unfold ZaZ
 refine ZaM (by simp) ?_
 refine Zak (Zi3 (step := Za6) (fun i : Nat => ((xs, xs, (i : Int), ()), ())) (N := xs.length) (b := .inr ((), ())) (fun i hi => ?_) ?_) rfl
 ·unfold Za6
  refine ZaH (dT (by dsimp only; omega)) ?_
  refine Zak (Zdz hi) ?_
  refine Zak (Zdz hi) ?_
  refine ZaM (by simp) ?_
  dsimp only
  rw [w64 (by omega)]
  rfl
 ·unfold Za6
  exact ZaM (dF (by dsimp only; omega)) rfl
theorem Zgw {x : Zbe} (hf : Zkv x.base.config) (hb : x.bytes.length <= 5000) : Zbf x x = some (true, ()) := by
 unfold Zkv at hf
 have hC : Zbu x.base.config x.base.config = some (true, ()) := by
  unfold Zbu
  exact Zak (Zhv (by omega)) (ZaH rfl (Zak (Zhv (by omega)) (ZaH rfl (Zak (Zhv (by omega)) (ZaH rfl (Zak (Zhv (by omega)) rfl))))))
 have hB : ZbP x.base x.base = some (true, ()) := by
  unfold ZbP
  exact ZaH (by simp) (ZaH (by simp) (Zak hC rfl))
 have hS := Zl8 x.bytes x.bytes (by omega)
 rw [decide_eq_true rfl] at hS
 unfold Zbf
 exact Zak hB (ZaH rfl (Zak hS rfl))
end Go.Proofs.YteempnebenjkmaaGreatDoor
