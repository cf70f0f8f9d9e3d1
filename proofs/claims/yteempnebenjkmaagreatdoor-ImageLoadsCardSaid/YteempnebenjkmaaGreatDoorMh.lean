/- XPw, XPr, XPi, XPj, XPk, XPm, XPx, XPy in one. -/
import Derived.Test.YteempnebenjkmaaGreatDoorSdw
import Derived.Test.YteempnebenjkmaaGreatDoorG1
import Derived.Test.YteempnebenjkmaaGreatDoorG1b
namespace Go.Proofs.YteempnebenjkmaaGreatDoor
open Go.RowKit
set_option maxRecDepth 100000
set_option linter.unusedVariables false
set_option linter.unusedSimpArgs false
def ZdQ (x : Int) : Bool := decide (0 <= x) && decide (x <= 4611686018427387903)
theorem ZcX {x : Int} : ZdQ x = true ↔ 0 <= x /\ x <= 4611686018427387903 := by simp [ZdQ]
theorem ZzU {x b : List UInt8} {sp : Bool} (h : b.length + x.length <= 10000000) : Zhx x (true, sp, b, ()) = some ((), ((true, sp, b ++ x, ()), (), (), ())) := by
 unfold Zhx
 exact Zam rfl (Zdz (by (try dsimp only); omega) rfl)
theorem Zp1 {sp : Bool} {N : Nat} (hN : N <= 4611686018427387903) {b : List UInt8} (hb : b.length + (ZkE N).length <= 10000000) :
 ∃ (n : Nat) (b' : List UInt8), n < 128 /\ b' ++ ZkE n = b ++ ZkE N /\ Za2 ZcR (((), (N : Int), ()), ((true, sp, b, ()), (), ())) = some (((), (n : Int), ()), ((true, sp, b', ()), (), (), ())) := by
 have key : ∃ z, Za2 ZcR (((), (N : Int), ()), ((true, sp, b, ()), (), ())) = some z /\ ∃ (n : Nat) (b' : List UInt8), n < 128 /\ b' ++ ZkE n = b ++ ZkE N /\ z = (((), (n : Int), ()), ((true, sp, b', ()), (), (), ())) := by
  refine Zcj (fun m a => ∃ b' : List UInt8, a = (((), (m : Int), ()), ((true, sp, b', ()), (), ())) /\ b' ++ ZkE m = b ++ ZkE N /\ m <= 4611686018427387903) _ ?_ (n := N) ⟨b, rfl, rfl, hN⟩
  rintro m a ⟨b', rfl, h1, h2⟩
  unfold ZcR
  by_cases hm : m < 128
  ·right
   exact ⟨_, Zaq (dF (by (try dsimp only); omega)) rfl, m, b', hm, h1, rfl⟩
  ·left
   have hl := congrArg List.length h1
   rw [Zmp hm, List.length_append, List.length_append, List.length_cons] at hl
   refine ⟨m / 128, _, by omega, Zam (dT (by (try dsimp only); omega)) (Zaf (ZzS m) (Zaf (ZzU (by simp only [List.length_singleton]; omega)) rfl)), b' ++ [UInt8.ofNat (m % 128 + 128)], ?_, ?_, by omega⟩
   ·dsimp only
    rw [ZDX]
   ·rw [List.append_assoc, <- h1, Zmp hm]; rfl
 obtain ⟨z, hz, n, b', h1, h2, rfl⟩ := key
 exact ⟨n, b', h1, h2, hz⟩
def Zqk (x : Int) (w : Bool × List UInt8) : Bool × List UInt8 := if ZdQ x = true then (w.1, w.2 ++ ZkE x.toNat) else (true, w.2)
theorem Zsi {x : Int} {sp : Bool} {b : List UInt8} (hb : b.length <= 1000000) : ZdO x (true, sp, b, ()) = some ((), ((true, (Zqk x (sp, b)).1, (Zqk x (sp, b)).2, ()), (), (), ())) := by
 unfold ZdO Zqk
 by_cases h1 : x < 0
 ·rw [if_neg (by rw [ZcX]; omega)]
  exact Zam (dT h1) rfl
 by_cases h2 : 4611686018427387903 < x
 ·rw [if_neg (by rw [ZcX]; omega)]
  exact Zaq (dF h1) (Zam (dT h2) rfl)
 rw [if_pos (ZcX.2 (by omega))]
 obtain ⟨N, rfl⟩ : ∃ N : Nat, x = (N : Int) := ⟨x.toNat, by omega⟩
 have hlen := Zhc (n := N) (by omega)
 obtain ⟨n, b', g1, g2, g3⟩ := Zp1 (sp := sp) (N := N) (by omega) (b := b) (by omega)
 have hl := congrArg List.length g2
 rw [List.length_append, List.length_append] at hl
 have hp := Zsh n
 refine Zaq (dF h1) (Zaq (dF h2) (Zaf g3 (Zaf (ZzT n) (Zaf (ZzU (by simp only [List.length_singleton]; omega)) ?_))))
 rw [Zj6 g1] at g2
 dsimp only
 rw [g2, Int.toNat_natCast]
def Zcm (xs : List Int) (w : Bool × List UInt8) : Bool × List UInt8 := xs.foldl (fun w x => Zqk x w) w
theorem ZtJ (xs : List Int) (x : Int) (w : Bool × List UInt8) : Zcm (xs ++ [x]) w = Zqk x (Zcm xs w) := by simp [Zcm]
theorem ZxI (x : Int) (w : Bool × List UInt8) : (Zqk x w).2.length <= w.2.length + 9 := by
 unfold Zqk
 split
 ·rename_i h
  have := ZcX.1 h
  have := Zhc (n := x.toNat) (by omega)
  rw [List.length_append]; omega
 ·exact Nat.le_add_right _ _
theorem ZeT : ∀ (xs : List Int) (w : Bool × List UInt8), (Zcm xs w).2.length <= w.2.length + 9 * xs.length
 | [], w => by simp [Zcm]
 | x :: xs, w => by
  have h1 := ZeT xs (Zqk x w)
  have h2 := ZxI x w
  have : Zcm (x :: xs) w = Zcm xs (Zqk x w) := rfl
  rw [this, List.length_cons]; omega
theorem Zmq {xs : List Int} {sp : Bool} {b : List UInt8} (hx : xs.length <= 10000) (hb : b.length <= 900000) : Zdf xs (true, sp, b, ()) = some ((), ((true, (Zcm xs (sp, b)).1, (Zcm xs (sp, b)).2, ()), (), (), ())) := by
 have hrun := ZfZ (step := Zcv) (fun i : Nat => (((), xs, (xs.length : Int), (i : Int), ()), ((true, (Zcm (xs.take i) (sp, b)).1, (Zcm (xs.take i) (sp, b)).2, ()), (), ()))) (N := xs.length) (b := (((), ()), ((true, (Zcm xs (sp, b)).1, (Zcm xs (sp, b)).2, ()), (), (), ()))) (fun i hi => ?_) ?_
 ·unfold Zdf
  exact Zaf rfl (Zam rfl (Zaf hrun rfl))
 ·have hl := ZeT (xs.take i) (sp, b)
  rw [List.length_take] at hl
  dsimp only at hl
  unfold Zcv
  refine Zam (dT (by (try dsimp only); omega)) (Zaf (Zbg hi) (Zaf (Zsi (by (try dsimp only); omega)) ?_))
  dsimp only
  rw [w64 (by omega), List.take_succ_eq_append_getElem hi, ZtJ]
  rfl
 ·unfold Zcv
  refine Zaq (dF (by (try dsimp only); omega)) ?_
  dsimp only
  rw [List.take_length]
def ZtW (t : List UInt8) : List UInt8 := ZkE t.length ++ t
theorem ZzV {t : List UInt8} {sp : Bool} {b : List UInt8} (ht : t.length <= 100000) (hb : b.length <= 1000000) : Zi3 (0, 1, 1) (true, sp, b, ()) [t] = some ((), ((true, sp, b ++ ZtW t, ()), [t], (), (), ())) := by
 have hg : ZdQ (t.length : Int) = true := ZcX.2 (by omega)
 have hlen := Zhc (n := t.length) (by omega)
 have hnum : ZdO (t.length : Int) (true, sp, b, ()) = some ((), ((true, sp, b ++ ZkE t.length, ()), (), (), ())) := by
  rw [Zsi hb]
  unfold Zqk
  rw [if_pos hg, Int.toNat_natCast]
 unfold Zi3
 refine Zaf rfl (Zam rfl (Zaf (v := (((), ()), ((true, sp, b ++ ZtW t, ()), [t], (), (), ()))) ((ZhA (a' := (((), (0, 1, 1), 1, 1, ()), ((true, sp, b ++ ZtW t, ()), [t], (), ()))) ?_).trans (ZcW ?_)) rfl))
 ·unfold Zfh
  refine Zam rfl ?_
  dsimp only
  rw [if_pos (by omega)]
  refine Zaf (v := t) rfl (Zaf hnum (Zaf (ZzU (by simp only [List.length_append]; omega)) ?_))
  dsimp only
  rw [List.append_assoc]
  rfl
 ·unfold Zfh
  exact Zaq rfl rfl
theorem ZyG {sp : Bool} {b : List UInt8} (hb : b.length <= 1000000) : ∃ st, ZfT (true, sp, b, ()) = some ((if sp = true then ([], 2, ()) else (b, 0, ())), st) := by
 unfold ZfT
 cases sp with
 | true => exact ⟨_, Zaf rfl (Zaq rfl (Zam rfl rfl))⟩
 | false => exact ⟨_, Zaf rfl (Zaq rfl (Zaq rfl (Zaf (v := (b, ((), ()))) (by unfold Zfv; exact Zdz (by (try dsimp only); omega) rfl) rfl)))⟩
def ZoD (xs : List Int) : List UInt8 := (xs.map fun x => ZkE x.toNat).flatten
theorem ZhI : ∀ (xs : List Int) (sp : Bool) (b : List UInt8), xs.all ZdQ = true -> Zcm xs (sp, b) = (sp, b ++ ZoD xs)
 | [], sp, b, _ => by simp [Zcm, ZoD]
 | x :: xs, sp, b, h => by
  rw [List.all_cons, Bool.and_eq_true] at h
  have : Zcm (x :: xs) (sp, b) = Zcm xs (Zqk x (sp, b)) := rfl
  rw [this]
  unfold Zqk
  rw [if_pos h.1, ZhI xs _ _ h.2]
  simp [ZoD]
theorem Zf0 : ∀ (xs : List Int) (b : List UInt8), (Zcm xs (true, b)).1 = true
 | [], b => rfl
 | x :: xs, b => by
  have : Zcm (x :: xs) (true, b) = Zcm xs (Zqk x (true, b)) := rfl
  rw [this]
  unfold Zqk
  split
  ·exact Zf0 xs _
  ·exact Zf0 xs _
theorem Zmr : ∀ (xs : List Int) (sp : Bool) (b : List UInt8), xs.all ZdQ = false -> (Zcm xs (sp, b)).1 = true
 | [], sp, b, h => by cases h
 | x :: xs, sp, b, h => by
  have h0 : Zcm (x :: xs) (sp, b) = Zcm xs (Zqk x (sp, b)) := rfl
  rw [h0]
  unfold Zqk
  split
  ·rename_i hg
   rw [List.all_cons, hg, Bool.true_and] at h
   exact Zmr xs _ _ h
  ·exact Zf0 xs _
def rdR : Option (List UInt8) -> Zao
 | some l => ⟨⟨true, false, l⟩⟩
 | none => ⟨⟨true, true, []⟩⟩
def ZbO (most : Nat) : Option (List UInt8) -> Int × Option (List UInt8)
 | none => (0, none)
 | some l => match ZBM most l with
  | some p => ((p.1 : Int), some p.2)
  | none => (0, none)
theorem ZvZ {most : Nat} {l : List UInt8} (h : ZkR 9 0 0 l = none) : ZbO most (some l) = (0, none) := by
 show (match (ZkR 9 0 0 l).bind (fun p => if most < p.1 then none else some p) with | some p => ((p.1 : Int), some p.2) | none => (0, none)) = _
 rw [h]; rfl
theorem ZoE {most : Nat} {l : List UInt8} {p : Nat × List UInt8} (h : ZkR 9 0 0 l = some p) : ZbO most (some l) = if most < p.1 then (0, none) else ((p.1 : Int), some p.2) := by
 show (match (ZkR 9 0 0 l).bind (fun p => if most < p.1 then none else some p) with | some p => ((p.1 : Int), some p.2) | none => (0, none)) = _
 rw [h]
 show (match (if most < p.1 then none else some p) with | some p => ((p.1 : Int), some p.2) | none => (0, none)) = _
 by_cases h9 : most < p.1
 ·rw [if_pos h9, if_pos h9]
 ·rw [if_neg h9, if_neg h9]
theorem Zms (b : UInt8) (l : List UInt8) : ZbN 1 (rdR (some (b :: l))) = some ([b], (rdR (some l), ())) := by
 unfold ZbN rdR
 refine Zaq (dF (by dsimp only [List.length_cons]; omega)) (Zdz (by dsimp only [List.length_cons]; omega) (Zdz (by dsimp only [List.length_cons]; omega) ?_))
 have h : (((b :: l).length : Int)).toNat - (1 : Int).toNat = l.length := by rw [List.length_cons]; omega
 dsimp only
 rw [h]
 show some ([b], ((⟨⟨true, false, l.take l.length⟩⟩ : Zao), ())) = _
 rw [List.take_length]
theorem ZzW {n : Int} (hn : 0 < n) : ZbN n (rdR (some [])) = some ([], (rdR none, ())) := by
 unfold ZbN rdR
 exact Zam (dT hn) rfl
theorem Zp2 {most : Nat} (f : ((Unit) × (Int) × (Int) × (Int) × Unit) × ((Zao) × Unit) -> Option ((((Unit) × (Int) × (Int) × (Int) × Unit) × ((Zao) × Unit)) ⊕ ((((Int) × Unit) × ((Zao) × Unit)) ⊕ (((Unit) × Unit) × ((Zao) × Unit))))) (hf : f = Zc5) (l : List UInt8) :
 ∃ z, Za2 f (((), (most : Int), 0, 0, ()), (rdR (some l), ())) = some z /\ (z = .inl (((ZbO most (some l)).1, ()), (rdR (ZbO most (some l)).2, ())) \/ ((∃ l', z = .inr (((), ()), (rdR (some l'), ()))) /\ ZbO most (some l) = (0, none))) := by
 subst hf
 refine Zcj (fun m a => ∃ (i acc : Nat) (r : List UInt8), a = (((), (most : Int), (acc : Int), ((7 * i : Nat) : Int), ()), (rdR (some r), ())) /\ i <= 9 /\ acc < 2 ^ (7 * i) /\ m = 9 - i /\ ZkR 9 0 0 l = ZkR (9 - i) i acc r) _ ?_ (n := 9) ⟨0, 0, l, rfl, by omega, by omega, rfl, rfl⟩
 rintro m a ⟨i, acc, r, rfl, h1, h2, rfl, h3⟩
 unfold Zc5
 have hno : ZkR (9 - i) i acc r = none -> ZbO most (some l) = (0, none) := by
  intro h
  exact ZvZ (by rw [h3, h])
 by_cases hi : i < 9
 ·cases r with
  | nil =>
   right
   refine ⟨_, Zam (dT (by (try dsimp only); omega)) (Zaf (ZzW (by omega)) (Zam rfl rfl)), .inl ?_⟩
   rw [hno (by rw [show 9 - i = (8 - i) + 1 by omega]; rfl)]
  | cons b r =>
   have hk : ZkR (9 - i) i acc (b :: r) = if b.toNat < 128 then (if (0 < i /\ b.toNat = 0) \/ top < acc + b.toNat % 128 * 2 ^ (7 * i) then none else some (acc + b.toNat % 128 * 2 ^ (7 * i), r)) else ZkR (8 - i) (i + 1) (acc + b.toNat % 128 * 2 ^ (7 * i)) r := by
    rw [show 9 - i = (8 - i) + 1 by omega]; rfl
   have hb := b.toNat_lt
   have hy := ZvY b acc i (by omega) h2 (((7 * i : Nat) : Int)) (by rw [Int.toNat_natCast])
   by_cases h5 : b.toNat < 128
   ·right
    rw [if_pos h5] at hk
    by_cases h6 : 0 < i /\ b.toNat = 0
    ·rw [if_pos (.inl h6)] at hk
     refine ⟨_, Zam (dT (by (try dsimp only); omega)) (Zaf (Zms b r) (Zaq rfl (Zaf (v := b) rfl (ZmY (by (try dsimp only); omega) (Zaf (v := b) rfl (Zam (dT (by omega)) (Zam (dT (by (try dsimp only); omega)) (Zaf (v := b) rfl (Zam (dT (by omega)) (Zaf rfl rfl)))))))))), .inl ?_⟩
     rw [hno hk]
     rfl
    ·by_cases h7 : top < acc + b.toNat % 128 * 2 ^ (7 * i)
     ·rw [if_pos (.inr h7)] at hk
      rw [hno hk]
      have h7' : (4611686018427387903 : Int) < ((acc + b.toNat % 128 * 2 ^ (7 * i) : Nat) : Int) := by unfold top at h7; omega
      refine ⟨.inl ((0, ()), (rdR none, ())), Zam (dT (by (try dsimp only); omega)) (Zaf (Zms b r) (Zaq rfl (Zaf (v := b) rfl (ZmY (by (try dsimp only); omega) ?_)))), .inl rfl⟩
      dsimp only
      rw [hy]
      by_cases h8 : 0 < i
      ·exact Zaf (v := b) rfl (Zam (dT (by omega)) (Zam (dT (by omega)) (Zaf (v := b) rfl (Zaq (dF (by omega)) (Zam (dT h7') rfl)))))
      ·exact Zaf (v := b) rfl (Zam (dT (by omega)) (Zaq (dF (by omega)) (Zam (dT h7') rfl)))
     ·rw [if_neg (by omega)] at hk
      have h7' : ¬ (4611686018427387903 : Int) < ((acc + b.toNat % 128 * 2 ^ (7 * i) : Nat) : Int) := by unfold top at h7; omega
      have hnum : ZbO most (some l) = if most < acc + b.toNat % 128 * 2 ^ (7 * i) then (0, none) else (((acc + b.toNat % 128 * 2 ^ (7 * i) : Nat) : Int), some r) := by
       exact ZoE (by rw [h3, hk])
      rw [hnum]
      by_cases h9 : most < acc + b.toNat % 128 * 2 ^ (7 * i)
      ·rw [if_pos h9]
       have h9' : ((most : Nat) : Int) < ((acc + b.toNat % 128 * 2 ^ (7 * i) : Nat) : Int) := by omega
       refine ⟨.inl ((0, ()), (rdR none, ())), Zam (dT (by (try dsimp only); omega)) (Zaf (Zms b r) (Zaq rfl (Zaf (v := b) rfl (ZmY (by (try dsimp only); omega) ?_)))), .inl rfl⟩
       dsimp only
       rw [hy]
       by_cases h8 : 0 < i
       ·exact Zaf (v := b) rfl (Zam (dT (by omega)) (Zam (dT (by omega)) (Zaf (v := b) rfl (Zaq (dF (by omega)) (Zaq (dF h7') (Zam (dT h9') rfl))))))
       ·exact Zaf (v := b) rfl (Zam (dT (by omega)) (Zaq (dF (by omega)) (Zaq (dF h7') (Zam (dT h9') rfl))))
      ·rw [if_neg h9]
       have h9' : ¬ ((most : Nat) : Int) < ((acc + b.toNat % 128 * 2 ^ (7 * i) : Nat) : Int) := by omega
       refine ⟨.inl ((((acc + b.toNat % 128 * 2 ^ (7 * i) : Nat) : Int), ()), (rdR (some r), ())), Zam (dT (by (try dsimp only); omega)) (Zaf (Zms b r) (Zaq rfl (Zaf (v := b) rfl (ZmY (by (try dsimp only); omega) ?_)))), .inl rfl⟩
       dsimp only
       rw [hy]
       by_cases h8 : 0 < i
       ·exact Zaf (v := b) rfl (Zam (dT (by omega)) (Zam (dT (by omega)) (Zaf (v := b) rfl (Zaq (dF (by omega)) (Zaq (dF h7') (Zaq (dF h9') rfl))))))
       ·exact Zaf (v := b) rfl (Zam (dT (by omega)) (Zaq (dF (by omega)) (Zaq (dF h7') (Zaq (dF h9') rfl))))
   ·left
    rw [if_neg h5] at hk
    refine ⟨9 - (i + 1), (((), (most : Int), ((acc + b.toNat % 128 * 2 ^ (7 * i) : Nat) : Int), ((7 * (i + 1) : Nat) : Int), ()), (rdR (some r), ())), by omega, Zam (dT (by (try dsimp only); omega)) (Zaf (Zms b r) (Zaq rfl (Zaf (v := b) rfl (ZmY (by (try dsimp only); omega) ?_)))), i + 1, _, r, rfl, by omega, ?_, rfl, ?_⟩
    ·dsimp only
     rw [hy, w64 (n := ((7 * i : Nat) : Int) + 7) (by omega)]
     exact Zaf (v := b) rfl (Zaq (dF (by omega)) rfl)
    ·have hm : b.toNat % 128 * 2 ^ (7 * i) <= 127 * 2 ^ (7 * i) := Nat.mul_le_mul_right _ (by omega)
     have hp : 2 ^ (7 * (i + 1)) = 128 * 2 ^ (7 * i) := by rw [Nat.mul_add, Nat.pow_add, Nat.mul_comm]
     omega
    ·rw [h3, hk, show 8 - i = 9 - (i + 1) by omega]
 ·right
  obtain rfl : i = 9 := by omega
  exact ⟨_, Zaq (dF (by (try dsimp only); omega)) rfl, .inr ⟨⟨r, rfl⟩, hno rfl⟩⟩
theorem Zh9 (most : Nat) (o : Option (List UInt8)) : Zbi (most : Int) (rdR o) = some ((ZbO most o).1, (rdR (ZbO most o).2, ())) := by
 unfold Zbi
 cases o with
 | none => exact Zaf (v := (false, (rdR none, ()))) rfl (Zam rfl rfl)
 | some l =>
  refine Zaf (v := (true, (rdR (some l), ()))) rfl (Zaq rfl ?_)
  obtain ⟨z, hz, rfl | ⟨⟨l', rfl⟩, h2⟩⟩ := Zp2 (most := most) _ rfl l
  ·exact Zaf hz rfl
  ·rw [h2]
   exact Zaf hz rfl
theorem ZBN (most : Nat) (l : List UInt8) : Zgk (most : Int) (true, false, l, ()) = some ((ZbO most (some l)).1, (rdR (ZbO most (some l)).2, (), ())) := by
 unfold Zgk
 refine Zaf (v := (true, ((true, false, l, ()), (), (), ()))) rfl (Zaq rfl ?_)
 obtain ⟨z, hz, rfl | ⟨⟨l', rfl⟩, h2⟩⟩ := Zp2 (most := most) Zfz rfl l
 ·exact Zaf hz rfl
 ·rw [h2]
  exact Zaf hz rfl
def ZoF (most : Nat) (o : Option (List UInt8)) : List UInt8 × Option (List UInt8) := match (ZbO most o).2 with
 | none => ([], none)
 | some l => if (l.length : Int) < (ZbO most o).1 then ([], none) else (l.take (ZbO most o).1.toNat, some (l.drop (ZbO most o).1.toNat))
theorem ZoG {most : Nat} {o : Option (List UInt8)} {l : List UInt8} (h : (ZbO most o).2 = some l) : 0 <= (ZbO most o).1 /\ (ZbO most o).1 <= most := by
 unfold ZbO at h ⊢
 cases o with
 | none => cases h
 | some x =>
  dsimp only at h ⊢
  cases hn : ZBM most x with
  | none => rw [hn] at h; cases h
  | some p =>
   unfold ZBM at hn
   obtain ⟨q, hq, hn⟩ := Zaj hn
   split at hn
   ·cases hn
   ·injection hn with hn
    subst hn
    dsimp only
    omega
theorem ZBO {n : Nat} {l : List UInt8} : ZbN (n : Int) (rdR (some l)) = some (if l.length < n then ([], (rdR none, ())) else (l.take n, (rdR (some (l.drop n)), ()))) := by
 unfold ZbN rdR
 by_cases h : l.length < n
 ·rw [if_pos h]
  exact Zam (dT (by (try dsimp only); omega)) rfl
 ·rw [if_neg h]
  refine Zaq (dF (by (try dsimp only); omega)) (Zdz (by (try dsimp only); omega) (Zdz (by (try dsimp only); omega) ?_))
  have h1 : ((l.length : Int)).toNat - ((n : Int)).toNat = (l.drop n).length := by rw [List.length_drop]; omega
  dsimp only
  rw [h1, Int.toNat_natCast, List.take_length]
  rfl
theorem ZzX (most : Nat) (hm : most <= 1000000000) (o : Option (List UInt8)) : Zk3 (most : Int) (rdR o) = some ((ZoF most o).1, (rdR (ZoF most o).2, (), ())) := by
 unfold Zk3
 refine Zaf (Zh9 most o) ?_
 unfold ZoF
 cases h : (ZbO most o).2 with
 | none => exact Zaf (v := (false, (rdR none, ()))) rfl (Zam rfl rfl)
 | some l =>
  obtain ⟨h1, h2⟩ := ZoG h
  obtain ⟨n, hn⟩ : ∃ n : Nat, (ZbO most o).1 = (n : Int) := ⟨(ZbO most o).1.toNat, by omega⟩
  refine Zaf (v := (true, (rdR (some l), ()))) rfl (Zaq rfl (Zaf (v := if l.length < n then ([], (rdR none, ())) else (l.take n, (rdR (some (l.drop n)), ()))) (by (try dsimp only); rw [hn]; exact ZBO) ?_))
  dsimp only
  rw [hn, Int.toNat_natCast]
  by_cases hl : l.length < n
  ·rw [if_pos hl, if_pos (by omega)]
   exact Zaf (v := ([], ((), ()))) rfl rfl
  ·rw [if_neg hl, if_neg (by omega)]
   have hlen : (l.take n).length <= n := by rw [List.length_take]; omega
   refine Zaf (v := (l.take n, ((), ()))) (by unfold Zfv; exact Zdz (by (try dsimp only); omega) rfl) rfl
theorem Zj7 {α β : Type} {step : α -> Option (α ⊕ β)} {a a' : α} {b : β} (h : step a = some (.inl a')) (h2 : Za2 step a' = some b) : Za2 step a = some b := (ZhA h).trans h2
abbrev WB := Bool × List UInt8
def ZkF (l : List Int) (w : WB) : WB := Zcm l (Zcm [(l.length : Int)] w)
theorem Zgq (l : List Int) (w : WB) : (ZkF l w).2.length <= w.2.length + 9 + 9 * l.length := by
 have h1 := ZeT l (Zcm [(l.length : Int)] w)
 have h2 := ZeT [(l.length : Int)] w
 rw [List.length_singleton] at h2
 unfold ZkF
 omega
theorem ZhJ {l : List Int} {w : WB} (hl : l.length <= 10000) (hb : w.2.length <= 500000) : Zdv l (true, w.1, w.2, ()) = some ((), ((true, (ZkF l w).1, (ZkF l w).2, ()), (), (), ())) := by
 have h2 := ZeT [(l.length : Int)] w
 rw [List.length_singleton] at h2
 unfold Zdv
 exact Zaf (Zmq (xs := [(l.length : Int)]) (sp := w.1) (b := w.2) (by simp) (by omega)) (Zaf (Zmq (sp := (Zcm [(l.length : Int)] w).1) (b := (Zcm [(l.length : Int)] w).2) hl (by omega)) rfl)
def ZyH (c : Zbv) (w : WB) : WB := ZkF c.want (ZkF c.learners (ZkF c.old (ZkF c.voters w)))
def Zjc (c : Zbv) : Prop := c.voters.length + c.old.length + c.learners.length + c.want.length <= 10000
theorem ZxJ {c : Zbv} {w : WB} (hc : Zjc c) (hb : w.2.length <= 300000) : ZdX c (true, w.1, w.2, ()) = some ((), ((true, (ZyH c w).1, (ZyH c w).2, ()), (), (), ())) := by
 unfold Zjc at hc
 have l1 := Zgq c.voters w
 have l2 := Zgq c.old (ZkF c.voters w)
 have l3 := Zgq c.learners (ZkF c.old (ZkF c.voters w))
 have key : Za2 ZdP (((), [c.voters, c.old, c.learners, c.want], 4, 0, ()), ((true, w.1, w.2, ()), (), (), ())) = some ((), ((true, (ZyH c w).1, (ZyH c w).2, ()), (), (), (), ())) :=
  Zj7 (Zam rfl (Zaf (v := c.voters) rfl (Zaf (ZhJ (by omega) (by omega)) rfl))) <|
  Zj7 (Zam rfl (Zaf (v := c.old) rfl (Zaf (ZhJ (by omega) (by omega)) rfl))) <|
  Zj7 (Zam rfl (Zaf (v := c.learners) rfl (Zaf (ZhJ (by omega) (by omega)) rfl))) <|
  Zj7 (Zam rfl (Zaf (v := c.want) rfl (Zaf (ZhJ (by omega) (by omega)) rfl))) <| ZcW (Zaq rfl rfl)
 unfold ZdX
 exact Zaf key rfl
def ZoH (x : ZcP) : WB := ZyH x.config (Zcm [x.index, x.term_] (false, []))
theorem Zmt {x : ZcP} (hc : Zjc x.config) : ZbZ x (true, false, [], ()) = some ((), ((true, (ZoH x).1, (ZoH x).2, ()), (), (), ())) := by
 have l := ZeT [x.index, x.term_] (false, [])
 simp only [List.length_cons, List.length_nil] at l
 unfold ZbZ
 exact Zaf (Zmq (xs := [x.index, x.term_]) (sp := false) (b := []) (by simp) (by simp)) (Zaf (ZxJ (w := Zcm [x.index, x.term_] (false, [])) hc (by omega)) rfl)
theorem Zmu {x : ZcP} (hc : Zjc x.config) : (ZoH x).2.length <= 100000 := by
 unfold Zjc at hc
 have l := ZeT [x.index, x.term_] (false, [])
 simp only [List.length_cons, List.length_nil] at l
 have l1 := Zgq x.config.voters (Zcm [x.index, x.term_] (false, []))
 have l2 := Zgq x.config.old (ZkF x.config.voters (Zcm [x.index, x.term_] (false, [])))
 have l3 := Zgq x.config.learners (ZkF x.config.old (ZkF x.config.voters (Zcm [x.index, x.term_] (false, []))))
 have l4 := Zgq x.config.want (ZkF x.config.learners (ZkF x.config.old (ZkF x.config.voters (Zcm [x.index, x.term_] (false, [])))))
 unfold ZoH ZyH
 omega
abbrev OB := Option (List UInt8)
def Zcp : Nat -> OB -> List Int × OB
 | 0, o => ([], o)
 | n + 1, o => ((ZbO 5 o).1 :: (Zcp n (ZbO 5 o).2).1, (Zcp n (ZbO 5 o).2).2)
def Zia (o : OB) : List Int × OB := Zcp (ZbO 5 o).1.toNat (ZbO 5 o).2
abbrev S2 (i : Int) (c : Int) (k : Nat) (o : OB) (h0 h1 h2 h3 : List Int) : ((Unit) × (Unit) × (Unit) × (Int) × (Int) × (Int) × (Int) × Unit) × ((Zao) × ((List (Int)) × (List (Int)) × (List (Int)) × (List (Int)) × Unit) × ((Nat) × (Nat) × (Nat) × (Nat) × Unit) × (Unit) × (Unit) × (Unit) × (Unit) × (List (Int)) × (List (Int)) × (List (Int)) × (List (Int)) × Unit) :=
 (((), (), (), i, i, c, (k : Int), ()), (rdR o, ([], [], [], [], ()), (h0.length, h1.length, h2.length, h3.length, ()), (), (), (), (), h0, h1, h2, h3, ()))
theorem ZtK (o : OB) : 0 <= (ZbO 5 o).1 /\ (ZbO 5 o).1 <= 5 := by
 cases h : (ZbO 5 o).2 with
 | some l => exact ZoG h
 | none =>
  cases o with
  | none => exact ⟨Int.le_refl _, by decide⟩
  | some l =>
   unfold ZbO at h ⊢
   dsimp only at h ⊢
   split at h
   ·cases h
   ·exact ⟨Int.le_refl _, by decide⟩
theorem ZxK {c : Int} {k : Nat} {o : OB} {h0 h1 h2 h3 : List Int} (hk : (k : Int) < c) (hc : c <= 5) (hl : h0.length <= 1000) : Zak (S2 0 c k o h0 h1 h2 h3) = some (.inl (S2 0 c (k + 1) (ZbO 5 o).2 (h0 ++ [(ZbO 5 o).1]) h1 h2 h3)) := by
 unfold Zak
 refine Zam (dT (by (try dsimp only); omega)) <| Zdz rfl <| Zaf (Zh9 5 o) <| Zdz (by dsimp only [List.length_singleton]; omega) <| Zdz rfl ?_
 dsimp only
 rw [w64 (n := (k : Int) + 1) (by omega), List.take_length]
 simp only [S2, List.length_append, List.length_singleton, Int.natCast_add, Int.natCast_one, Int.cast_ofNat_Int]
theorem ZDF {c : Int} (hc : c <= 5) : ∀ (n : Nat) {k : Nat} {o : OB} {h0 h1 h2 h3 : List Int}, (k : Int) + n = c -> h0.length = k -> Za2 Zak (S2 0 c k o h0 h1 h2 h3) = some (((), (), (), (0 : Int), ()), (rdR (Zcp n o).2, ([], [], [], [], ()), ((h0 ++ (Zcp n o).1).length, h1.length, h2.length, h3.length, ()), (), (), (), (), (), (), (), (), (), (), (), (), (h0 ++ (Zcp n o).1), h1, h2, h3, ()))
 | 0, k, o, h0, h1, h2, h3, hk, hl => ZcW (by
  unfold Zak
  refine Zaq (dF (by (try dsimp only); omega)) ?_
  simp only [Zcp, List.append_nil])
 | n + 1, k, o, h0, h1, h2, h3, hk, hl => by
  refine Zj7 (ZxK (by omega) hc (by omega)) ?_
  rw [ZDF hc n (k := k + 1) (by omega) (by rw [List.length_append, hl]; rfl)]
  simp only [Zcp, List.append_assoc, List.singleton_append]
theorem ZxL {c : Int} {k : Nat} {o : OB} {h0 h1 h2 h3 : List Int} (hk : (k : Int) < c) (hc : c <= 5) (hl : h1.length <= 1000) : Zak (S2 1 c k o h0 h1 h2 h3) = some (.inl (S2 1 c (k + 1) (ZbO 5 o).2 h0 (h1 ++ [(ZbO 5 o).1]) h2 h3)) := by
 unfold Zak
 refine Zam (dT (by (try dsimp only); omega)) <| ZmY (show ¬ ((1 : Int) = ((0 : Nat) : Int)) by decide) <| Zdz rfl <| Zaf (Zh9 5 o) <| Zdz (by dsimp only [List.length_singleton]; omega) <| ZmY (show ¬ ((1 : Int) = ((0 : Nat) : Int)) by decide) <| Zdz rfl ?_
 dsimp only
 rw [w64 (n := (k : Int) + 1) (by omega), List.take_length]
 simp only [S2, List.length_append, List.length_singleton, Int.natCast_add, Int.natCast_one, Int.cast_ofNat_Int]
theorem ZDG {c : Int} (hc : c <= 5) : ∀ (n : Nat) {k : Nat} {o : OB} {h0 h1 h2 h3 : List Int}, (k : Int) + n = c -> h1.length = k -> Za2 Zak (S2 1 c k o h0 h1 h2 h3) = some (((), (), (), (1 : Int), ()), (rdR (Zcp n o).2, ([], [], [], [], ()), (h0.length, (h1 ++ (Zcp n o).1).length, h2.length, h3.length, ()), (), (), (), (), (), (), (), (), (), (), (), (), h0, (h1 ++ (Zcp n o).1), h2, h3, ()))
 | 0, k, o, h0, h1, h2, h3, hk, hl => ZcW (by
  unfold Zak
  refine Zaq (dF (by (try dsimp only); omega)) ?_
  simp only [Zcp, List.append_nil])
 | n + 1, k, o, h0, h1, h2, h3, hk, hl => by
  refine Zj7 (ZxL (by omega) hc (by omega)) ?_
  rw [ZDG hc n (k := k + 1) (by omega) (by rw [List.length_append, hl]; rfl)]
  simp only [Zcp, List.append_assoc, List.singleton_append]
theorem ZxM {c : Int} {k : Nat} {o : OB} {h0 h1 h2 h3 : List Int} (hk : (k : Int) < c) (hc : c <= 5) (hl : h2.length <= 1000) : Zak (S2 2 c k o h0 h1 h2 h3) = some (.inl (S2 2 c (k + 1) (ZbO 5 o).2 h0 h1 (h2 ++ [(ZbO 5 o).1]) h3)) := by
 unfold Zak
 refine Zam (dT (by (try dsimp only); omega)) <| ZmY (show ¬ ((2 : Int) = ((0 : Nat) : Int)) by decide) <| ZmY (show ¬ ((2 : Int) = ((1 : Nat) : Int)) by decide) <| Zdz rfl <| Zaf (Zh9 5 o) <| Zdz (by dsimp only [List.length_singleton]; omega) <| ZmY (show ¬ ((2 : Int) = ((0 : Nat) : Int)) by decide) <| ZmY (show ¬ ((2 : Int) = ((1 : Nat) : Int)) by decide) <| Zdz rfl ?_
 dsimp only
 rw [w64 (n := (k : Int) + 1) (by omega), List.take_length]
 simp only [S2, List.length_append, List.length_singleton, Int.natCast_add, Int.natCast_one, Int.cast_ofNat_Int]
theorem ZDH {c : Int} (hc : c <= 5) : ∀ (n : Nat) {k : Nat} {o : OB} {h0 h1 h2 h3 : List Int}, (k : Int) + n = c -> h2.length = k -> Za2 Zak (S2 2 c k o h0 h1 h2 h3) = some (((), (), (), (2 : Int), ()), (rdR (Zcp n o).2, ([], [], [], [], ()), (h0.length, h1.length, (h2 ++ (Zcp n o).1).length, h3.length, ()), (), (), (), (), (), (), (), (), (), (), (), (), h0, h1, (h2 ++ (Zcp n o).1), h3, ()))
 | 0, k, o, h0, h1, h2, h3, hk, hl => ZcW (by
  unfold Zak
  refine Zaq (dF (by (try dsimp only); omega)) ?_
  simp only [Zcp, List.append_nil])
 | n + 1, k, o, h0, h1, h2, h3, hk, hl => by
  refine Zj7 (ZxM (by omega) hc (by omega)) ?_
  rw [ZDH hc n (k := k + 1) (by omega) (by rw [List.length_append, hl]; rfl)]
  simp only [Zcp, List.append_assoc, List.singleton_append]
theorem ZxN {c : Int} {k : Nat} {o : OB} {h0 h1 h2 h3 : List Int} (hk : (k : Int) < c) (hc : c <= 5) (hl : h3.length <= 1000) : Zak (S2 3 c k o h0 h1 h2 h3) = some (.inl (S2 3 c (k + 1) (ZbO 5 o).2 h0 h1 h2 (h3 ++ [(ZbO 5 o).1]))) := by
 unfold Zak
 refine Zam (dT (by (try dsimp only); omega)) <| ZmY (show ¬ ((3 : Int) = ((0 : Nat) : Int)) by decide) <| ZmY (show ¬ ((3 : Int) = ((1 : Nat) : Int)) by decide) <| ZmY (show ¬ ((3 : Int) = ((2 : Nat) : Int)) by decide) <| Zdz rfl <| Zaf (Zh9 5 o) <| Zdz (by dsimp only [List.length_singleton]; omega) <| ZmY (show ¬ ((3 : Int) = ((0 : Nat) : Int)) by decide) <| ZmY (show ¬ ((3 : Int) = ((1 : Nat) : Int)) by decide) <| ZmY (show ¬ ((3 : Int) = ((2 : Nat) : Int)) by decide) <| Zdz rfl ?_
 dsimp only
 rw [w64 (n := (k : Int) + 1) (by omega), List.take_length]
 simp only [S2, List.length_append, List.length_singleton, Int.natCast_add, Int.natCast_one, Int.cast_ofNat_Int]
theorem ZDI {c : Int} (hc : c <= 5) : ∀ (n : Nat) {k : Nat} {o : OB} {h0 h1 h2 h3 : List Int}, (k : Int) + n = c -> h3.length = k -> Za2 Zak (S2 3 c k o h0 h1 h2 h3) = some (((), (), (), (3 : Int), ()), (rdR (Zcp n o).2, ([], [], [], [], ()), (h0.length, h1.length, h2.length, (h3 ++ (Zcp n o).1).length, ()), (), (), (), (), (), (), (), (), (), (), (), (), h0, h1, h2, (h3 ++ (Zcp n o).1), ()))
 | 0, k, o, h0, h1, h2, h3, hk, hl => ZcW (by
  unfold Zak
  refine Zaq (dF (by (try dsimp only); omega)) ?_
  simp only [Zcp, List.append_nil])
 | n + 1, k, o, h0, h1, h2, h3, hk, hl => by
  refine Zj7 (ZxN (by omega) hc (by omega)) ?_
  rw [ZDI hc n (k := k + 1) (by omega) (by rw [List.length_append, hl]; rfl)]
  simp only [Zcp, List.append_assoc, List.singleton_append]
abbrev S1 (i : Int) (o : OB) (h0 h1 h2 h3 : List Int) : ((Unit) × (Unit) × (Unit) × (Int) × Unit) × ((Zao) × ((List (Int)) × (List (Int)) × (List (Int)) × (List (Int)) × Unit) × ((Nat) × (Nat) × (Nat) × (Nat) × Unit) × (Unit) × (Unit) × (Unit) × (Unit) × (List (Int)) × (List (Int)) × (List (Int)) × (List (Int)) × Unit) :=
 (((), (), (), i, ()), (rdR o, ([], [], [], [], ()), (h0.length, h1.length, h2.length, h3.length, ()), (), (), (), (), h0, h1, h2, h3, ()))
theorem ZxO {o : OB} {h1 h2 h3 : List Int} : ZaE (S1 0 o [] h1 h2 h3) = some (.inl (S1 1 (Zia o).2 (Zia o).1 h1 h2 h3)) := by
 have h5 := ZtK o
 unfold ZaE
 refine Zam (dT (by (try dsimp only); omega)) (Zaf (Zh9 5 o) (Zaf (ZDF h5.2 (ZbO 5 o).1.toNat (k := 0) (o := (ZbO 5 o).2) (by omega) rfl) ?_))
 rfl
theorem ZxP {o : OB} {h0 h2 h3 : List Int} : ZaE (S1 1 o h0 [] h2 h3) = some (.inl (S1 2 (Zia o).2 h0 (Zia o).1 h2 h3)) := by
 have h5 := ZtK o
 unfold ZaE
 refine Zam (dT (by (try dsimp only); omega)) (Zaf (Zh9 5 o) (Zaf (ZDG h5.2 (ZbO 5 o).1.toNat (k := 0) (o := (ZbO 5 o).2) (by omega) rfl) ?_))
 rfl
theorem ZxQ {o : OB} {h0 h1 h3 : List Int} : ZaE (S1 2 o h0 h1 [] h3) = some (.inl (S1 3 (Zia o).2 h0 h1 (Zia o).1 h3)) := by
 have h5 := ZtK o
 unfold ZaE
 refine Zam (dT (by (try dsimp only); omega)) (Zaf (Zh9 5 o) (Zaf (ZDH h5.2 (ZbO 5 o).1.toNat (k := 0) (o := (ZbO 5 o).2) (by omega) rfl) ?_))
 rfl
theorem ZxR {o : OB} {h0 h1 h2 : List Int} : ZaE (S1 3 o h0 h1 h2 []) = some (.inl (S1 4 (Zia o).2 h0 h1 h2 (Zia o).1)) := by
 have h5 := ZtK o
 unfold ZaE
 refine Zam (dT (by (try dsimp only); omega)) (Zaf (Zh9 5 o) (Zaf (ZDI h5.2 (ZbO 5 o).1.toNat (k := 0) (o := (ZbO 5 o).2) (by omega) rfl) ?_))
 rfl
def ZhK (o : OB) : Zbv × OB := (⟨(Zia o).1, (Zia (Zia o).2).1, (Zia (Zia (Zia o).2).2).1, (Zia (Zia (Zia (Zia o).2).2).2).1⟩, (Zia (Zia (Zia (Zia o).2).2).2).2)
theorem Zp3 (o : OB) : Zco (rdR o) = some (((ZhK o).1.voters.length, (ZhK o).1.old.length, (ZhK o).1.learners.length, (ZhK o).1.want.length, ()), (rdR (ZhK o).2, (ZhK o).1.voters, (ZhK o).1.old, (ZhK o).1.learners, (ZhK o).1.want, ())) := by
 have key : Za2 ZaE (S1 0 o [] [] [] []) = some (((), (), ()), (rdR (ZhK o).2, ([], [], [], [], ()), ((ZhK o).1.voters.length, (ZhK o).1.old.length, (ZhK o).1.learners.length, (ZhK o).1.want.length, ()), (), (), (), (), (), (), (), (), (), (), (), (), (ZhK o).1.voters, (ZhK o).1.old, (ZhK o).1.learners, (ZhK o).1.want, ())) :=
  Zj7 ZxO <| Zj7 ZxP <| Zj7 ZxQ <| Zj7 ZxR <| ZcW (Zaq rfl rfl)
 unfold Zco
 exact Zaf key rfl
theorem ZxS (o : OB) : ZdZ (rdR o) = some (o.isNone, (rdR o, ())) := by
 cases o with
 | none => rfl
 | some l =>
  unfold ZdZ
  refine Zaf (v := ((l.length : Int), (rdR (some l), ()))) rfl ?_
  by_cases h : l.length = 0
  ·obtain rfl := List.eq_nil_of_length_eq_zero h
   rfl
  ·exact Zaq (dF (by (try dsimp only); omega)) rfl
def Zea (l : List Int) : Bool := decide ((∀ x ∈ l, 1 <= x /\ x <= 5) /\ l.Pairwise (· < ·))
theorem ZoI {l : List Int} (hl : l.length <= 1000000) : ZbL l.length l = some (Zea l, (l, ())) := by
 have key : ∃ z, Za2 Zc7 ((l.length, l.length, (l.length : Int), 0, ()), (l, ())) = some z /\ ((z = .inl ((false, ()), (l, ())) /\ Zea l = false) \/ (z = .inr ((), (l, ())) /\ Zea l = true)) := by
  refine Zcj (fun r a => ∃ i : Nat, a = ((l.length, l.length, (l.length : Int), (i : Int), ()), (l, ())) /\ i <= l.length /\ ((∀ x ∈ l.take i, 1 <= x /\ x <= 5) /\ (l.take i).Pairwise (· < ·)) /\ r = l.length - i) _ ?_ (n := l.length) ⟨0, rfl, Nat.zero_le _, ⟨by simp, by simp⟩, rfl⟩
  rintro r a ⟨i, rfl, g1, ⟨g2, g3⟩, rfl⟩
  unfold Zc7
  by_cases hi : i < l.length
  ·have hget : l[(0 + (i : Int).toNat)]? = some l[i] := by rw [Nat.zero_add, Int.toNat_natCast]; exact List.getElem?_eq_getElem hi
   have hmem : l[i] ∈ l := List.getElem_mem hi
   by_cases h1 : l[i] < 1
   ·right
    exact ⟨_, Zam (dT (by (try dsimp only); omega)) (Zdz (by (try dsimp only); omega) (Zaf hget (Zam (dT h1) rfl))), .inl ⟨rfl, decide_eq_false fun q => by have := q.1 _ hmem; omega⟩⟩
   by_cases h2 : (5 : Int) < l[i]
   ·right
    exact ⟨_, Zam (dT (by (try dsimp only); omega)) (Zdz (by (try dsimp only); omega) (Zaf hget (Zaq (dF h1) (Zam (dT h2) rfl)))), .inl ⟨rfl, decide_eq_false fun q => by have := q.1 _ hmem; omega⟩⟩
   have ht : l.take (i + 1) = l.take i ++ [l[i]] := by rw [List.take_add_one, List.getElem?_eq_getElem hi]; rfl
   have hin : ∀ x ∈ l.take (i + 1), 1 <= x /\ x <= 5 := fun x hx => by
    rw [ht] at hx
    rcases List.mem_append.1 hx with hx | hx
    ·exact g2 x hx
    ·rw [List.mem_singleton.1 hx]; omega
   by_cases h0 : 0 < i
   ·have hw : IntKind.i64.wrap ((i : Int) - 1) = ((i - 1 : Nat) : Int) := by rw [w64 (by omega)]; omega
    have hget2 : l[(0 + (IntKind.i64.wrap ((i : Int) - 1)).toNat)]? = some l[i - 1] := by rw [hw, Nat.zero_add, Int.toNat_natCast]; exact List.getElem?_eq_getElem (by omega)
    by_cases h3 : l[i] <= l[i - 1]
    ·right
     refine ⟨_, Zam (dT (by (try dsimp only); omega)) (Zdz (by (try dsimp only); omega) (Zaf hget (Zaq (dF h1) (Zaq (dF h2) (Zam (dT (by (try dsimp only); omega)) (Zdz (by (try dsimp only); rw [hw]; omega) (Zaf hget2 (Zam (dT h3) rfl)))))))), .inl ⟨rfl, decide_eq_false fun q => ?_⟩⟩
     have := List.pairwise_iff_getElem.1 q.2 (i - 1) i (by omega) hi (by omega)
     omega
    ·left
     refine ⟨l.length - (i + 1), ((l.length, l.length, (l.length : Int), ((i + 1 : Nat) : Int), ()), (l, ())), by omega, Zam (dT (by (try dsimp only); omega)) (Zdz (by (try dsimp only); omega) (Zaf hget (Zaq (dF h1) (Zaq (dF h2) (Zam (dT (by (try dsimp only); omega)) (Zdz (by (try dsimp only); rw [hw]; omega) (Zaf hget2 (Zaq (dF h3) ?_)))))))), i + 1, rfl, by omega, ⟨hin, ?_⟩, rfl⟩
     ·dsimp only
      rw [w64 (n := (i : Int) + 1) (by omega)]
      rfl
     ·rw [ht, List.pairwise_append]
      refine ⟨g3, by simp, fun x hx y hy => ?_⟩
      rw [List.mem_singleton.1 hy]
      obtain ⟨j, hj, rfl⟩ := List.getElem_of_mem hx
      rw [List.length_take] at hj
      rw [List.getElem_take]
      by_cases hji : j = i - 1
      ·subst hji; omega
      ·have := List.pairwise_iff_getElem.1 g3 j (i - 1) (by rw [List.length_take]; omega) (by rw [List.length_take]; omega) (by omega)
       rw [List.getElem_take, List.getElem_take] at this
       omega
   ·left
    refine ⟨l.length - (i + 1), ((l.length, l.length, (l.length : Int), ((i + 1 : Nat) : Int), ()), (l, ())), by omega, Zam (dT (by (try dsimp only); omega)) (Zdz (by (try dsimp only); omega) (Zaf hget (Zaq (dF h1) (Zaq (dF h2) (Zaq (dF (by (try dsimp only); omega)) ?_))))), i + 1, rfl, by omega, ⟨hin, ?_⟩, rfl⟩
    ·dsimp only
     rw [w64 (n := (i : Int) + 1) (by omega)]
     rfl
    ·obtain rfl : i = 0 := by omega
     rw [ht]; simp
  ·right
   have hie : i = l.length := by omega
   subst hie
   rw [List.take_length] at g2 g3
   exact ⟨_, Zaq (dF (by (try dsimp only); omega)) rfl, .inr ⟨rfl, decide_eq_true ⟨g2, g3⟩⟩⟩
 obtain ⟨z, hz, ⟨rfl, h⟩ | ⟨rfl, h⟩⟩ := key
 ·unfold ZbL; rw [h]; exact Zaf hz rfl
 ·unfold ZbL; rw [h]; exact Zaf hz rfl
theorem Zp4 : ∀ (n : Nat) (o : OB), (Zcp n o).1.length = n
 | 0, _ => rfl
 | n + 1, o => by show (Zcp n (ZbO 5 o).2).1.length + 1 = _; rw [Zp4]
theorem Zk7 (o : OB) : (Zia o).1.length <= 5 := by
 have := ZtK o
 unfold Zia
 rw [Zp4]
 omega
def ZAI (c : Zbv) : Bool := Zea c.voters && (Zea c.old && (Zea c.learners && Zea c.want))
def ZeU (x : ZcP) : Bool := decide (0 <= x.index /\ x.index <= 1073741824) && (decide (0 <= x.term_ /\ x.term_ <= 1073741824) && ZAI x.config)
theorem ZxT {c : Zbv} (h1 : c.voters.length <= 1000000) (h2 : c.old.length <= 1000000) (h3 : c.learners.length <= 1000000) (h4 : c.want.length <= 1000000) : Zd0 (c.voters.length, c.old.length, c.learners.length, c.want.length, ()) c.voters c.old c.learners c.want = some (ZAI c, (c.voters, c.old, c.learners, c.want, ())) := by
 unfold Zd0 ZAI
 refine Zaf (ZoI h1) ?_
 cases Zea c.voters
 ·exact Zaq rfl rfl
 refine Zam rfl (Zaf (ZoI h2) ?_)
 cases Zea c.old
 ·exact Zaq rfl rfl
 refine Zam rfl (Zaf (ZoI h3) ?_)
 cases Zea c.learners
 ·exact Zaq rfl rfl
 refine Zam rfl (Zaf (ZoI h4) ?_)
 rfl
theorem Zsj (x : Int) : ZcT x 1073741824 = some (decide (0 <= x /\ x <= 1073741824), ()) := by
 unfold ZcT
 by_cases h : 0 <= x
 ·refine Zam (dT h) ?_
  by_cases h2 : x <= 1073741824
  ·rw [dT h2, dT (p := 0 <= x /\ x <= 1073741824) ⟨h, h2⟩]
  ·rw [dF h2, dF (p := 0 <= x /\ x <= 1073741824) fun q => h2 q.2]
 ·refine Zaq (dF h) ?_
  rw [dF (p := 0 <= x /\ x <= 1073741824) fun q => h q.1]
theorem ZBP {x : ZcP} (h1 : x.config.voters.length <= 1000000) (h2 : x.config.old.length <= 1000000) (h3 : x.config.learners.length <= 1000000) (h4 : x.config.want.length <= 1000000) : Zfg (x.index, x.term_, x.config.voters.length, x.config.old.length, x.config.learners.length, x.config.want.length, ()) x.config.voters x.config.old x.config.learners x.config.want = some (ZeU x, (x.config.voters, x.config.old, x.config.learners, x.config.want, ())) := by
 unfold Zfg ZeU
 refine Zaf (Zsj _) ?_
 cases decide (0 <= x.index /\ x.index <= 1073741824)
 ·exact Zaq rfl rfl
 refine Zam rfl (Zaf (Zsj _) ?_)
 cases decide (0 <= x.term_ /\ x.term_ <= 1073741824)
 ·exact Zaq rfl rfl
 exact Zam rfl (Zaf (ZxT h1 h2 h3 h4) rfl)
def Za8 (l : List UInt8) : ZcP × OB :=
 (⟨(ZbO 1073741824 (some l)).1, (ZbO 1073741824 (ZbO 1073741824 (some l)).2).1, (ZhK (ZbO 1073741824 (ZbO 1073741824 (some l)).2).2).1⟩, (ZhK (ZbO 1073741824 (ZbO 1073741824 (some l)).2).2).2)
theorem Zjd (l : List UInt8) : (Za8 l).1.config.voters.length <= 5 /\ (Za8 l).1.config.old.length <= 5 /\ (Za8 l).1.config.learners.length <= 5 /\ (Za8 l).1.config.want.length <= 5 := ⟨Zk7 _, Zk7 _, Zk7 _, Zk7 _⟩
def okO (l : List UInt8) : Bool := (Za8 l).2.isSome && ZeU (Za8 l).1
theorem Zj8 (l : List UInt8) : Zci (true, false, l, ()) = some (if okO l = true then
 ((((Za8 l).1.index, (Za8 l).1.term_, (Za8 l).1.config.voters.length, (Za8 l).1.config.old.length, (Za8 l).1.config.learners.length, (Za8 l).1.config.want.length, ()), true, ()), (rdR (Za8 l).2, (), (Za8 l).1.config.voters, (Za8 l).1.config.old, (Za8 l).1.config.learners, (Za8 l).1.config.want, ()))
 else (((0, 0, 0, 0, 0, 0, ()), false, ()), (rdR (Za8 l).2, (), [], [], [], [], ()))) := by
 obtain ⟨q1, q2, q3, q4⟩ := Zjd l
 unfold Zci
 refine Zaf (ZBN 1073741824 l) (Zaf (Zh9 1073741824 _) (Zaf (Zp3 _) (Zaf (ZxS _) ?_)))
 unfold okO
 show (bif (Za8 l).2.isNone then _ else _) = _
 cases h : (Za8 l).2 with
 | none => exact congrArg some (by rw [if_neg (by simp)]; rw [show (ZhK (ZbO 1073741824 (ZbO 1073741824 (some l)).2).2).2 = none from h])
 | some r =>
  refine Zaq rfl (Zaf (ZBP (x := (Za8 l).1) (by omega) (by omega) (by omega) (by omega)) ?_)
  cases hb : ZeU (Za8 l).1
  ·refine Zam rfl ?_
   rw [if_neg (by simp)]
   dsimp only
   rw [show (ZhK (ZbO 1073741824 (ZbO 1073741824 (some l)).2).2).2 = some r from h]
  ·refine Zaq rfl ?_
   rw [if_pos (by simp)]
   dsimp only
   rw [show (ZhK (ZbO 1073741824 (ZbO 1073741824 (some l)).2).2).2 = some r from h]
   rfl
theorem ZxU : ∀ (k i acc n : Nat) (r : List UInt8), n < 128 ^ (k + 1) -> (0 < i -> 0 < n) -> acc + n * 2 ^ (7 * i) <= top -> ZkR (k + 1) i acc (ZkE n ++ r) = some (acc + n * 2 ^ (7 * i), r) := by
 intro k
 induction k with
 | zero =>
  intro i acc n r h h0 ht
  have hn : n < 128 := by simpa using h
  rw [Zj6 hn, List.singleton_append]
  have hb : (UInt8.ofNat n).toNat = n := by rw [UInt8.toNat_ofNat']; omega
  have hm : n % 128 = n := Nat.mod_eq_of_lt hn
  unfold ZkR
  dsimp only
  rw [hb, hm, if_pos hn, if_neg (by omega)]
 | succ k ih =>
  intro i acc n r h h0 ht
  by_cases hn : n < 128
  ·rw [Zj6 hn, List.singleton_append]
   have hb : (UInt8.ofNat n).toNat = n := by rw [UInt8.toNat_ofNat']; omega
   have hm : n % 128 = n := Nat.mod_eq_of_lt hn
   unfold ZkR
   dsimp only
   rw [hb, hm, if_pos hn, if_neg (by omega)]
  ·rw [Zmp hn, List.cons_append]
   have hb : (UInt8.ofNat (n % 128 + 128)).toNat = n % 128 + 128 := by rw [UInt8.toNat_ofNat']; omega
   have hm : (n % 128 + 128) % 128 = n % 128 := by omega
   have hp : 2 ^ (7 * (i + 1)) = 128 * 2 ^ (7 * i) := by rw [Nat.mul_add, Nat.pow_add, Nat.mul_comm]
   have hsum : acc + n % 128 * 2 ^ (7 * i) + n / 128 * 2 ^ (7 * (i + 1)) = acc + n * 2 ^ (7 * i) := by
    rw [hp, <- Nat.mul_assoc, Nat.add_assoc, <- Nat.add_mul]
    congr 2
    omega
   unfold ZkR
   dsimp only
   rw [hb, hm, if_neg (by omega), ih (i + 1) _ (n / 128) r (by rw [Nat.pow_succ] at h; omega) (by omega) (by rw [hsum]; exact ht), hsum]
theorem ZdC {n : Nat} (most : Nat) (r : List UInt8) (hn : n <= top) : ZbO most (some (ZkE n ++ r)) = if most < n then (0, none) else ((n : Int), some r) := by
 have h := ZxU 8 0 0 n r (by unfold top at hn; omega) (fun q => absurd q (by omega)) (by simpa using hn)
 rw [ZoE (p := (n, r)) (by simpa using h)]
theorem Zp5 (x : Int) (xs : List Int) : ZoD (x :: xs) = ZkE x.toNat ++ ZoD xs := by simp [ZoD]
theorem Zj9 : ∀ n, (Zcp n none).2 = none
 | 0 => rfl
 | n + 1 => Zj9 n
theorem Zf1 : (Zia none).2 = none := Zj9 _
theorem ZhL {x : Int} (h : ZdQ x = true) : x.toNat <= top /\ (x.toNat : Int) = x := by
 have := ZcX.1 h
 unfold top
 omega
theorem Znv : ∀ (xs : List Int) (r : List UInt8), xs.all ZdQ = true -> (∀ x ∈ xs, x <= 5) -> Zcp xs.length (some (ZoD xs ++ r)) = (xs, some r)
 | [], r, _, _ => rfl
 | x :: xs, r, hg, hl => by
  rw [List.all_cons, Bool.and_eq_true] at hg
  obtain ⟨t1, t2⟩ := ZhL hg.1
  have hx := hl x List.mem_cons_self
  have e : ZbO 5 (some (ZoD (x :: xs) ++ r)) = (x, some (ZoD xs ++ r)) := by
   rw [Zp5, List.append_assoc, ZdC 5 _ t1, if_neg (by omega), t2]
  show ((ZbO 5 (some (ZoD (x :: xs) ++ r))).1 :: (Zcp xs.length (ZbO 5 (some (ZoD (x :: xs) ++ r))).2).1, (Zcp xs.length (ZbO 5 (some (ZoD (x :: xs) ++ r))).2).2) = _
  rw [e, Znv xs r hg.2 fun y hy => hl y (List.mem_cons_of_mem _ hy)]
theorem Znw : ∀ (xs : List Int) (r : List UInt8), xs.all ZdQ = true -> ¬ (∀ x ∈ xs, x <= 5) -> (Zcp xs.length (some (ZoD xs ++ r))).2 = none
 | [], r, _, hl => absurd (fun _ h => by cases h) hl
 | x :: xs, r, hg, hl => by
  rw [List.all_cons, Bool.and_eq_true] at hg
  obtain ⟨t1, t2⟩ := ZhL hg.1
  show (Zcp xs.length (ZbO 5 (some (ZoD (x :: xs) ++ r))).2).2 = none
  rw [Zp5, List.append_assoc, ZdC 5 _ t1]
  by_cases hx : x <= 5
  ·rw [if_neg (by omega)]
   exact Znw xs r hg.2 fun q => hl fun y hy => by
    rcases List.mem_cons.1 hy with rfl | hy
    ·exact hx
    ·exact q y hy
  ·rw [if_pos (by omega)]
   exact Zj9 _
def ZtX (xs : List Int) : List UInt8 := ZkE xs.length ++ ZoD xs
def ZwE (xs : List Int) : Prop := xs.length <= 5 /\ ∀ x ∈ xs, x <= 5
theorem ZeV {xs : List Int} {r : List UInt8} (hg : xs.all ZdQ = true) (hl : ZwE xs) : Zia (some (ZtX xs ++ r)) = (xs, some r) := by
 have h5 := hl.1
 have e : ZbO 5 (some (ZtX xs ++ r)) = ((xs.length : Int), some (ZoD xs ++ r)) := by
  unfold ZtX
  rw [List.append_assoc, ZdC 5 _ (by unfold top; omega), if_neg (by omega)]
 unfold Zia
 rw [e]
 exact Znv xs r hg hl.2
theorem Zje {xs : List Int} {r : List UInt8} (hn : xs.length <= 10000) (hg : xs.all ZdQ = true) (hl : ¬ ZwE xs) : (Zia (some (ZtX xs ++ r))).2 = none := by
 have e : ZbO 5 (some (ZtX xs ++ r)) = if 5 < xs.length then (0, none) else ((xs.length : Int), some (ZoD xs ++ r)) := by
  unfold ZtX
  rw [List.append_assoc, ZdC 5 _ (by unfold top; omega)]
 unfold Zia
 rw [e]
 by_cases h : 5 < xs.length
 ·rw [if_pos h]; rfl
 ·rw [if_neg h]
  exact Znw xs r hg fun q => hl ⟨by omega, q⟩
def ZAJ (c : Zbv) : List UInt8 := ZtX c.voters ++ (ZtX c.old ++ (ZtX c.learners ++ ZtX c.want))
def ZzY (c : Zbv) : Prop := c.voters.all ZdQ = true /\ c.old.all ZdQ = true /\ c.learners.all ZdQ = true /\ c.want.all ZdQ = true
def ZDd (c : Zbv) : Prop := ZwE c.voters /\ ZwE c.old /\ ZwE c.learners /\ ZwE c.want
theorem Zv0 {c : Zbv} {r : List UInt8} (hg : ZzY c) (hl : ZDd c) : ZhK (some (ZAJ c ++ r)) = (c, some r) := by
 obtain ⟨a1, a2, a3, a4⟩ := hg
 obtain ⟨b1, b2, b3, b4⟩ := hl
 unfold ZhK ZAJ
 rw [List.append_assoc, ZeV a1 b1]
 dsimp only
 rw [List.append_assoc, ZeV a2 b2]
 dsimp only
 rw [List.append_assoc, ZeV a3 b3]
 dsimp only
 rw [ZeV a4 b4]
theorem Zv1 {c : Zbv} {r : List UInt8} (hf : Zjc c) (hg : ZzY c) (hl : ¬ ZDd c) : (ZhK (some (ZAJ c ++ r))).2 = none := by
 obtain ⟨a1, a2, a3, a4⟩ := hg
 unfold Zjc at hf
 unfold ZhK ZAJ
 dsimp only
 rw [List.append_assoc]
 by_cases b1 : ZwE c.voters
 ·rw [ZeV a1 b1]
  dsimp only
  rw [List.append_assoc]
  by_cases b2 : ZwE c.old
  ·rw [ZeV a2 b2]
   dsimp only
   rw [List.append_assoc]
   by_cases b3 : ZwE c.learners
   ·rw [ZeV a3 b3]
    exact Zje (by omega) a4 fun b4 => hl ⟨b1, b2, b3, b4⟩
   ·rw [Zje (by omega) a3 b3]; exact Zf1
  ·rw [Zje (by omega) a2 b2, Zf1]; exact Zf1
 ·rw [Zje (by omega) a1 b1, Zf1, Zf1]; exact Zf1
def Zjf (x : ZcP) : List UInt8 := ZkE x.index.toNat ++ (ZkE x.term_.toNat ++ ZAJ x.config)
def Zri (x : ZcP) : Prop := ZdQ x.index = true /\ ZdQ x.term_ = true /\ ZzY x.config
def ZCn (x : ZcP) : Prop := x.index <= 1073741824 /\ x.term_ <= 1073741824 /\ ZDd x.config
theorem Znx {x : ZcP} {r : List UInt8} (hg : Zri x) (hl : ZCn x) : Za8 (Zjf x ++ r) = (x, some r) := by
 obtain ⟨a1, a2, a3⟩ := hg
 obtain ⟨b1, b2, b3⟩ := hl
 obtain ⟨t1, t2⟩ := ZhL a1
 obtain ⟨s1, s2⟩ := ZhL a2
 unfold Za8 Zjf
 rw [List.append_assoc, ZdC _ _ t1, if_neg (by omega)]
 dsimp only
 rw [List.append_assoc, ZdC _ _ s1, if_neg (by omega)]
 dsimp only
 rw [Zv0 a3 b3, t2, s2]
theorem Zp6 : (ZhK none).2 = none := rfl
theorem ZtL {x : ZcP} {r : List UInt8} (hf : Zjc x.config) (hg : Zri x) (hl : ¬ ZCn x) : (Za8 (Zjf x ++ r)).2 = none := by
 obtain ⟨a1, a2, a3⟩ := hg
 obtain ⟨t1, t2⟩ := ZhL a1
 obtain ⟨s1, s2⟩ := ZhL a2
 unfold Za8 Zjf
 dsimp only
 rw [List.append_assoc, ZdC _ _ t1]
 by_cases b1 : x.index <= 1073741824
 ·rw [if_neg (by omega)]
  dsimp only
  rw [List.append_assoc, ZdC _ _ s1]
  by_cases b2 : x.term_ <= 1073741824
  ·rw [if_neg (by omega)]
   exact Zv1 hf a3 fun b3 => hl ⟨b1, b2, b3⟩
  ·rw [if_pos (by omega)]; exact Zp6
 ·rw [if_pos (by omega)]; exact Zp6
theorem Zsk : ∀ (l : List Int) (m : Nat), m <= 6 -> (∀ x ∈ l, (m : Int) <= x /\ x <= 5) -> l.Pairwise (· < ·) -> l.length <= 6 - m
 | [], m, _, _, _ => Nat.zero_le _
 | x :: l, m, hm, h1, h2 => by
  obtain ⟨p1, p2⟩ := List.pairwise_cons.1 h2
  have hx := h1 x List.mem_cons_self
  have := Zsk l (m + 1) (by omega) (fun y hy => ⟨by have := p1 y hy; omega, (h1 y (List.mem_cons_of_mem _ hy)).2⟩) p2
  rw [List.length_cons]
  omega
theorem Zeb {l : List Int} (h : Zea l = true) : ZwE l /\ l.all ZdQ = true := by
 obtain ⟨h1, h2⟩ := of_decide_eq_true h
 refine ⟨⟨Zsk l 1 (by omega) (fun x hx => h1 x hx) h2, fun x hx => (h1 x hx).2⟩, List.all_eq_true.2 fun x hx => ZcX.2 ?_⟩
 have := h1 x hx
 omega
theorem ZeW {x : ZcP} (h : ZeU x = true) : ZCn x /\ Zri x := by
 unfold ZeU ZAI at h
 simp only [Bool.and_eq_true] at h
 obtain ⟨h1, h2, h3, h4, h5, h6⟩ := h
 have h1 := of_decide_eq_true h1
 have h2 := of_decide_eq_true h2
 exact ⟨⟨h1.2, h2.2, (Zeb h3).1, (Zeb h4).1, (Zeb h5).1, (Zeb h6).1⟩, ZcX.2 (by omega), ZcX.2 (by omega), (Zeb h3).2, (Zeb h4).2, (Zeb h5).2, (Zeb h6).2⟩
theorem Zsl {x : ZcP} {r : List UInt8} (hf : Zjc x.config) (hg : Zri x) : okO (Zjf x ++ r) = ZeU x := by
 unfold okO
 by_cases hl : ZCn x
 ·rw [Znx hg hl]; rfl
 ·rw [ZtL hf hg hl]
  cases hb : ZeU x with
  | false => rfl
  | true => exact absurd (ZeW hb).1 hl
theorem Zjg {xs : List Int} {b : List UInt8} (hn : xs.length <= 10000) (hg : xs.all ZdQ = true) : ZkF xs (false, b) = (false, b ++ ZtX xs) := by
 unfold ZkF ZtX
 have h1 : [(xs.length : Int)].all ZdQ = true := by
  rw [List.all_cons, List.all_nil, Bool.and_true]
  exact ZcX.2 (by omega)
 rw [ZhI _ _ _ h1, ZhI _ _ _ hg]
 simp [ZoD]
theorem ZcY (xs : List Int) {w : WB} (h : w.1 = true) : (ZkF xs w).1 = true := by
 obtain ⟨w1, w2⟩ := w
 dsimp only at h
 subst h
 have h1 := Zf0 [(xs.length : Int)] w2
 unfold ZkF
 generalize hq : Zcm [(xs.length : Int)] (true, w2) = q at h1
 obtain ⟨q1, q2⟩ := q
 dsimp only at h1
 subst h1
 exact Zf0 xs q2
theorem Zk8 {xs : List Int} {b : List UInt8} (hg : xs.all ZdQ = false) (sp : Bool) : (ZkF xs (sp, b)).1 = true := by
 unfold ZkF
 generalize Zcm [(xs.length : Int)] (sp, b) = q
 obtain ⟨q1, q2⟩ := q
 exact Zmr xs q1 q2 hg
theorem ZhM {x : ZcP} (hf : Zjc x.config) (hg : Zri x) : ZoH x = (false, Zjf x) := by
 obtain ⟨a1, a2, b1, b2, b3, b4⟩ := hg
 unfold Zjc at hf
 have h0 : [x.index, x.term_].all ZdQ = true := by simp [a1, a2]
 unfold ZoH ZyH
 rw [ZhI _ _ _ h0, Zjg (by omega) b1, Zjg (by omega) b2, Zjg (by omega) b3, Zjg (by omega) b4]
 simp [Zjf, ZAJ, ZoD, List.append_assoc]
theorem Zv2 {x : ZcP} (hf : Zjc x.config) (hg : ¬ Zri x) : (ZoH x).1 = true := by
 unfold ZoH ZyH
 by_cases h0 : [x.index, x.term_].all ZdQ = true
 ·by_cases b1 : x.config.voters.all ZdQ = true
  ·by_cases b2 : x.config.old.all ZdQ = true
   ·by_cases b3 : x.config.learners.all ZdQ = true
    ·by_cases b4 : x.config.want.all ZdQ = true
     ·simp only [List.all_cons, List.all_nil, Bool.and_true, Bool.and_eq_true] at h0
      exact absurd ⟨h0.1, h0.2, b1, b2, b3, b4⟩ hg
     ·generalize ZkF x.config.learners _ = q
      obtain ⟨q1, q2⟩ := q
      exact Zk8 (by simpa using b4) q1
    ·refine ZcY _ ?_
     generalize ZkF x.config.old _ = q
     obtain ⟨q1, q2⟩ := q
     exact Zk8 (by simpa using b3) q1
   ·refine ZcY _ (ZcY _ ?_)
    generalize ZkF x.config.voters _ = q
    obtain ⟨q1, q2⟩ := q
    exact Zk8 (by simpa using b2) q1
  ·refine ZcY _ (ZcY _ (ZcY _ ?_))
   generalize Zcm [x.index, x.term_] _ = q
   obtain ⟨q1, q2⟩ := q
   exact Zk8 (by simpa using b1) q1
 ·exact ZcY _ (ZcY _ (ZcY _ (ZcY _ (Zmr _ _ _ (by simpa using h0)))))
theorem Zk9 {l : List UInt8} (h : l.length <= 1000000) : ZcS l = some ((), ((true, false, l, ()), (), ())) := by
 unfold ZcS
 exact Zaf (v := (l, ((), ()))) (by unfold Zfv; exact Zdz (by omega) rfl) rfl
theorem ZxV {b : List UInt8} : ∃ st, ZfT (true, true, b, ()) = some (([], 2, ()), st) := ⟨_, Zaf rfl (Zaq rfl (Zam rfl rfl))⟩
theorem ZzZ {x : ZcP} (hf : Zjc x.config) : Zgl x = some (ZeU x, ()) := by
 have hl := Zmu hf
 unfold Zgl
 refine Zaf rfl (Zaf (Zmt hf) ?_)
 by_cases hg : Zri x
 ·rw [ZhM hf hg] at hl ⊢
  obtain ⟨st, hd⟩ := ZyG (sp := false) (b := Zjf x) (by dsimp only at hl; omega)
  refine Zaf hd (Zaq (by rfl) (Zaf (Zk9 (by dsimp only at hl ⊢; exact (by simpa using hl : (Zjf x).length <= 100000) |> fun q => by simpa using Nat.le_trans q (by omega))) (Zaf (Zj8 _) ?_)))
  have := Zsl (r := []) hf hg
  rw [List.append_nil] at this
  rw [show okO (if false = true then ([], 2, ()) else (Zjf x, (0 : Int), ())).1 = ZeU x from this]
  cases ZeU x <;> rfl
 ·have hb := Zv2 hf hg
  obtain ⟨st, hd⟩ := ZxV (b := (ZoH x).2)
  have hnb : ZeU x = false := by
   cases h : ZeU x with
   | false => rfl
   | true => exact absurd (ZeW h).2 hg
  rw [hnb]
  dsimp only
  rw [hb]
  exact Zaf hd (Zam rfl rfl)
def Zsm (x : Zb6) : List UInt8 := Zjf x.base ++ ZtW x.bytes
theorem Zz0 {x : Zb6} (hf : Zjc x.base.config) (hb : x.bytes.length <= 5000) : Zdb x = some ((if ZeU x.base = true then (Zsm x, 0, ()) else ([], 2, ())), ((), ())) := by
 have hl := Zmu hf
 unfold Zdb
 refine Zaf (ZzZ hf) ?_
 cases h : ZeU x.base
 ·exact Zam rfl rfl
 ·have hg := (ZeW h).2
  rw [ZhM hf hg] at hl
  dsimp only at hl
  refine Zaq rfl (Zaq (dF (by omega)) (Zaf rfl (Zaf (Zmt hf) ?_)))
  rw [ZhM hf hg]
  refine Zaf (ZzV (t := x.bytes) (sp := false) (b := Zjf x.base) (by omega) (by omega)) ?_
  have hr : (ZtW x.bytes).length <= 5009 := by
   have := Zhc (n := x.bytes.length) (by omega)
   unfold ZtW
   rw [List.length_append]
   omega
  obtain ⟨st, hd⟩ := ZyG (sp := false) (b := Zjf x.base ++ ZtW x.bytes) (by rw [List.length_append]; omega)
  exact Zaf hd rfl
theorem ZBQ (o : OB) : Zi2 (rdR o) = some (if o = some [] then 0 else 4, (rdR o, ())) := by
 cases o with
 | none => rfl
 | some l =>
  cases l with
  | nil => rfl
  | cons a l =>
   unfold Zi2
   refine Zaq rfl (Zaq rfl (Zam (dT (by show (0 : Int) < ((l.length + 1 : Nat) : Int); omega)) ?_))
   rw [if_neg (by simp)]
def okG (l : List UInt8) : Prop := okO l = true /\ (ZoF 131072 (Za8 l).2).2 = some []
theorem Zz1 {l : List UInt8} (hl : l.length <= 1000000) (h : okG l) : ZfX l = some ((((Za8 l).1.index, (Za8 l).1.term_, (Za8 l).1.config.voters.length, (Za8 l).1.config.old.length, (Za8 l).1.config.learners.length, (Za8 l).1.config.want.length, (ZoF 131072 (Za8 l).2).1, ()), true, ()), ((Za8 l).1.config.voters, (Za8 l).1.config.old, (Za8 l).1.config.learners, (Za8 l).1.config.want, ())) := by
 have hR := Zj8 l
 rw [if_pos h.1] at hR
 have hE := ZBQ (ZoF 131072 (Za8 l).2).2
 rw [if_pos h.2] at hE
 unfold ZfX
 exact Zaf (Zk9 hl) (Zaf hR (Zaf (ZzX 131072 (by omega) _) (Zaq rfl (Zaf hE (Zaq rfl rfl)))))
theorem ZBR {l : List UInt8} (hl : l.length <= 1000000) (h : ¬ okG l) : ZfX l = some (((0, 0, 0, 0, 0, 0, [], ()), false, ()), ([], [], [], [], ())) := by
 have hR := Zj8 l
 unfold ZfX
 by_cases h1 : okO l = true
 ·rw [if_pos h1] at hR
  have hE := ZBQ (ZoF 131072 (Za8 l).2).2
  rw [if_neg fun q => h ⟨h1, q⟩] at hE
  exact Zaf (Zk9 hl) (Zaf hR (Zaf (ZzX 131072 (by omega) _) (Zaq rfl (Zaf hE (Zam rfl rfl)))))
 ·rw [if_neg h1] at hR
  exact Zaf (Zk9 hl) (Zaf hR (Zaf (ZzX 131072 (by omega) _) (Zam rfl rfl)))
theorem Zsn {t r : List UInt8} (ht : t.length <= 131072) : ZoF 131072 (some (ZtW t ++ r)) = (t, some r) := by
 unfold ZoF ZtW
 rw [List.append_assoc, ZdC 131072 _ (by unfold top; omega), if_neg (by omega)]
 dsimp only
 rw [if_neg (by rw [List.length_append]; omega), Int.toNat_natCast]
 simp
theorem Zso {x : Zb6} {r : List UInt8} (h : ZeU x.base = true) : Za8 (Zjf x.base ++ r) = (x.base, some r) := Znx (ZeW h).2 (ZeW h).1
theorem Zz2 {x : Zb6} (hf : Zjc x.base.config) (hb : x.bytes.length <= 5000) (h : ZeU x.base = true) : okG (Zsm x) := by
 unfold Zsm
 refine ⟨by rw [Zsl hf (ZeW h).2, h], ?_⟩
 rw [Zso h]
 have := Zsn (t := x.bytes) (r := []) (by omega)
 rw [List.append_nil] at this
 rw [this]
def rfR : Option (List UInt8) -> ZaO
 | some l => ⟨l, false⟩
 | none => ⟨[], true⟩
theorem ZxW {l : List UInt8} (hl : l.length <= 140737488355328) : Zou l = some (match ZkR 9 0 0 l with | some p => (((p.1 : Int), ((l.length - p.2.length : Nat) : Int), ()), ()) | none => ((0, 0, ()), ())) := by
 have key : ∃ z, Za2 ZhD ((l, 0, 0, ()), ()) = some z /\ ((∃ p, ZkR 9 0 0 l = some p /\ z = .inl (((p.1 : Int), ((l.length - p.2.length : Nat) : Int), ()), ())) \/ (ZkR 9 0 0 l = none /\ (z = .inl ((0, 0, ()), ()) \/ z = .inr ((), ())))) := by
  refine Zcj (fun m a => ∃ i acc : Nat, a = ((l, (acc : Int), (i : Int), ()), ()) /\ i <= 9 /\ i <= l.length /\ acc < 2 ^ (7 * i) /\ m = 9 - i /\ ZkR 9 0 0 l = ZkR (9 - i) i acc (l.drop i)) _ ?_ (n := 9) ⟨0, 0, rfl, by omega, by omega, by omega, rfl, rfl⟩
  rintro m a ⟨i, acc, rfl, h1, h1', h2, rfl, h3⟩
  unfold ZhD
  by_cases hi : i < l.length
  ·by_cases hi9 : i < 9
   ·have hd : l.drop i = l[i] :: l.drop (i + 1) := List.drop_eq_getElem_cons hi
    have hk : ZkR (9 - i) i acc (l.drop i) = if (l[i]).toNat < 128 then (if (0 < i /\ (l[i]).toNat = 0) \/ top < acc + (l[i]).toNat % 128 * 2 ^ (7 * i) then none else some (acc + (l[i]).toNat % 128 * 2 ^ (7 * i), l.drop (i + 1))) else ZkR (8 - i) (i + 1) (acc + (l[i]).toNat % 128 * 2 ^ (7 * i)) (l.drop (i + 1)) := by
     rw [hd, show 9 - i = (8 - i) + 1 by omega]; rfl
    have hg : Ze1 l (i : Int) = some l[i] := Zbg hi
    generalize hb' : l[i] = b at hk hg
    have hb := b.toNat_lt
    have hsh : IntKind.u64.wrap (IntKind.i64.wrap (7 * (i : Int))) = ((7 * i : Nat) : Int) := by rw [w64 (by omega), IntKind.wrap_u64]; omega
    have hy := ZvY b acc i (by omega) h2 (((7 * i : Nat) : Int)) (by rw [Int.toNat_natCast])
    by_cases h5 : b.toNat < 128
    ·right
     rw [if_pos h5] at hk
     by_cases h6 : 0 < i /\ b.toNat = 0
     ·rw [if_pos (.inl h6)] at hk
      refine ⟨.inl ((0, 0, ()), ()), Zam (dT (by (try dsimp only); omega)) (Zam (dT (by (try dsimp only); omega)) (Zaf hg (ZmY (by (try dsimp only); rw [hsh]; omega) ?_))), .inr ⟨by rw [h3, hk], .inl rfl⟩⟩
      exact Zaf hg (Zam (dT (by omega)) (Zam (dT (by (try dsimp only); omega)) (Zaf hg (Zam (dT (by omega)) rfl))))
     ·by_cases h7 : top < acc + b.toNat % 128 * 2 ^ (7 * i)
      ·rw [if_pos (.inr h7)] at hk
       have h7' : (4611686018427387903 : Int) < ((acc + b.toNat % 128 * 2 ^ (7 * i) : Nat) : Int) := by unfold top at h7; omega
       refine ⟨.inl ((0, 0, ()), ()), Zam (dT (by (try dsimp only); omega)) (Zam (dT (by (try dsimp only); omega)) (Zaf hg (ZmY (by (try dsimp only); rw [hsh]; omega) ?_))), .inr ⟨by rw [h3, hk], .inl rfl⟩⟩
       dsimp only
       rw [hsh, hy]
       by_cases h8 : 0 < i
       ·exact Zaf hg (Zam (dT (by omega)) (Zam (dT (by omega)) (Zaf hg (Zaq (dF (by omega)) (Zam (dT h7') rfl)))))
       ·exact Zaf hg (Zam (dT (by omega)) (Zaq (dF (by omega)) (Zam (dT h7') rfl)))
      ·rw [if_neg (by omega)] at hk
       have h7' : ¬ (4611686018427387903 : Int) < ((acc + b.toNat % 128 * 2 ^ (7 * i) : Nat) : Int) := by unfold top at h7; omega
       have hlen : l.length - (l.drop (i + 1)).length = i + 1 := by rw [List.length_drop]; omega
       refine ⟨.inl ((((acc + b.toNat % 128 * 2 ^ (7 * i) : Nat) : Int), ((i + 1 : Nat) : Int), ()), ()), Zam (dT (by (try dsimp only); omega)) (Zam (dT (by (try dsimp only); omega)) (Zaf hg (ZmY (by (try dsimp only); rw [hsh]; omega) ?_))), .inl ⟨_, by rw [h3, hk], by rw [hlen]⟩⟩
       dsimp only
       rw [hsh, hy, w64 (n := (i : Int) + 1) (by omega)]
       by_cases h8 : 0 < i
       ·exact Zaf hg (Zam (dT (by omega)) (Zam (dT (by omega)) (Zaf hg (Zaq (dF (by omega)) (Zaq (dF h7') (Zaq (dF (by omega)) rfl))))))
       ·exact Zaf hg (Zam (dT (by omega)) (Zaq (dF (by omega)) (Zaq (dF h7') (Zaq (dF (by omega)) rfl))))
    ·left
     rw [if_neg h5] at hk
     refine ⟨9 - (i + 1), ((l, ((acc + b.toNat % 128 * 2 ^ (7 * i) : Nat) : Int), ((i + 1 : Nat) : Int), ()), ()), by omega, Zam (dT (by (try dsimp only); omega)) (Zam (dT (by (try dsimp only); omega)) (Zaf hg (ZmY (by (try dsimp only); rw [hsh]; omega) ?_))), i + 1, _, rfl, by omega, by omega, ?_, rfl, ?_⟩
     ·dsimp only
      rw [hsh, hy, w64 (n := (i : Int) + 1) (by omega)]
      exact Zaf hg (Zaq (dF (by omega)) rfl)
     ·have hm : b.toNat % 128 * 2 ^ (7 * i) <= 127 * 2 ^ (7 * i) := Nat.mul_le_mul_right _ (by omega)
      have hp : 2 ^ (7 * (i + 1)) = 128 * 2 ^ (7 * i) := by rw [Nat.mul_add, Nat.pow_add, Nat.mul_comm]
      omega
     ·rw [h3, hk, show 8 - i = 9 - (i + 1) by omega]
   ·right
    obtain rfl : i = 9 := by omega
    exact ⟨_, Zam (dT (by (try dsimp only); omega)) (Zaq (dF (by (try dsimp only); omega)) rfl), .inr ⟨h3, .inr rfl⟩⟩
  ·right
   obtain rfl : i = l.length := by omega
   refine ⟨_, Zaq (dF (by (try dsimp only); omega)) rfl, .inr ⟨?_, .inr rfl⟩⟩
   rw [h3, List.drop_length]
   cases hc : 9 - l.length with
   | zero => rfl
   | succ k => rfl
 unfold Zou
 obtain ⟨z, hz, ⟨p, h1, rfl⟩ | ⟨h1, h2⟩⟩ := key
 ·rw [h1]
  exact Zaf hz rfl
 ·rw [h1]
  rcases h2 with rfl | rfl
  ·exact Zaf hz rfl
  ·exact Zaf hz rfl
def okL : Option (List UInt8) -> Prop
 | some l => l.length <= 140737488355328
 | none => True
theorem ZfD {most : Nat} {o : Option (List UInt8)} (h : okL o) : okL (ZbO most o).2 := by
 unfold ZbO
 cases o with
 | none => trivial
 | some l =>
  dsimp only
  cases hn : ZBM most l with
  | none => trivial
  | some p =>
   unfold ZBM at hn
   obtain ⟨q, hq, hn⟩ := Zaj hn
   split at hn
   ·cases hn
   ·injection hn with hn
    subst hn
    have := (ZoC _ _ _ _ hq).2.1
    show q.2.length <= _
    have h : l.length <= 140737488355328 := h
    omega
theorem Zhd (most : Nat) {o : Option (List UInt8)} (h : okL o) : Zdh (most : Int) (rfR o) = some ((ZbO most o).1, (rfR (ZbO most o).2, ())) := by
 unfold Zdh
 cases o with
 | none => exact Zam rfl rfl
 | some l =>
  have hget := ZxW h
  cases hg : ZkR 9 0 0 l with
  | none =>
   rw [hg] at hget
   rw [ZvZ hg]
   exact Zaq rfl (Zaf hget (Zam rfl rfl))
  | some p =>
   rw [hg] at hget
   obtain ⟨h1, h2, m, h3, h4⟩ := ZoC _ _ _ _ hg
   have hlen : l.length - p.2.length = m := by rw [h3, List.length_drop]; omega
   have hm : 0 < m := by omega
   dsimp only at hget
   rw [hlen] at hget
   rw [ZoE hg]
   refine Zaq rfl (Zaf hget (Zaq (dF (by (try dsimp only); omega)) ?_))
   by_cases hq : most < p.1
   ·rw [if_pos hq]
    exact Zam (dT (by (try dsimp only); omega)) rfl
   ·rw [if_neg hq]
    refine Zaq (dF (by (try dsimp only); omega)) ?_
    refine Zdz (by show 0 <= (m : Int) /\ (m : Int) <= (l.length : Int) /\ _; exact ⟨by omega, by omega, Int.le_refl _⟩) ?_
    have hd : (l.length : Int).toNat - ((m : Int)).toNat = p.2.length := by omega
    show some ((p.1 : Int), ((⟨(l.drop ((m : Int)).toNat).take ((l.length : Int).toNat - ((m : Int)).toNat), false⟩ : ZaO), ())) = _
    rw [hd, Int.toNat_natCast, <- h3, List.take_length]
    rfl
theorem Zv3 (most : Nat) (hm : most <= 1000000000) {o : Option (List UInt8)} (h : okL o) : ZoA (most : Int) (rfR o) = some ((ZoF most o).1, (rfR (ZoF most o).2, (), ())) := by
 unfold ZoA
 refine Zaf (Zhd most h) ?_
 have hok := ZfD (most := most) h
 unfold ZoF
 cases hn : (ZbO most o).2 with
 | none => exact Zam rfl rfl
 | some l =>
  rw [hn] at hok
  have hok : l.length <= 140737488355328 := hok
  obtain ⟨h1, h2⟩ := ZoG hn
  refine Zaq rfl ?_
  dsimp only
  obtain ⟨n, hnn⟩ : ∃ n : Nat, (ZbO most o).1 = (n : Int) := ⟨(ZbO most o).1.toNat, by omega⟩
  rw [hnn]
  by_cases hl : (l.length : Int) < (n : Int)
  ·rw [if_pos hl]
   exact Zam (dT hl) rfl
  ·rw [if_neg hl]
   have hlen : (List.take ((n : Int).toNat - (0 : Int).toNat) (List.drop (0 : Int).toNat l)).length <= n := by rw [List.length_take]; omega
   have hd : (l.length : Int).toNat - ((n : Int)).toNat = (l.drop n).length := by rw [List.length_drop]; omega
   refine Zaq (dF hl) (Zdz (by show 0 <= (0 : Int) /\ (0 : Int) <= (n : Int) /\ (n : Int) <= (l.length : Int); omega) (Zdz (by dsimp only [rfR, List.length_nil]; omega) (Zdz (by show 0 <= (n : Int) /\ (n : Int) <= (l.length : Int) /\ _; exact ⟨by omega, by omega, Int.le_refl _⟩) ?_)))
   show some (([] : List UInt8) ++ (List.take ((n : Int).toNat - (0 : Int).toNat) (List.drop (0 : Int).toNat l)), ((⟨(l.drop ((n : Int)).toNat).take ((l.length : Int).toNat - ((n : Int)).toNat), false⟩ : ZaO), (), ())) = _
   rw [hd, Int.toNat_natCast, List.take_length]
   rfl
theorem Zla {l : List Int} (hl : l.length <= 1000000) : Zd9 l = some (Zea l, ()) := by
 have key : ∃ z, Za2 Zfk ((l, 0, ()), ()) = some z /\ ((z = .inl ((false, ()), ()) /\ Zea l = false) \/ (z = .inr ((), ()) /\ Zea l = true)) := by
  refine Zcj (fun r a => ∃ i : Nat, a = ((l, (i : Int), ()), ()) /\ i <= l.length /\ ((∀ x ∈ l.take i, 1 <= x /\ x <= 5) /\ (l.take i).Pairwise (· < ·)) /\ r = l.length - i) _ ?_ (n := l.length) ⟨0, rfl, Nat.zero_le _, ⟨by simp, by simp⟩, rfl⟩
  rintro r a ⟨i, rfl, g1, ⟨g2, g3⟩, rfl⟩
  unfold Zfk
  by_cases hi : i < l.length
  ·have hget : Ze1 l (i : Int) = some l[i] := Zbg hi
   have hmem : l[i] ∈ l := List.getElem_mem hi
   by_cases h1 : l[i] < 1
   ·right
    exact ⟨_, Zam (dT (by (try dsimp only); omega)) (id (Zaf hget (Zam (dT h1) rfl))), .inl ⟨rfl, decide_eq_false fun q => by have := q.1 _ hmem; omega⟩⟩
   by_cases h2 : (5 : Int) < l[i]
   ·right
    exact ⟨_, Zam (dT (by (try dsimp only); omega)) (id (Zaf hget (Zaq (dF h1) (Zaf hget <| Zam (dT h2) rfl)))), .inl ⟨rfl, decide_eq_false fun q => by have := q.1 _ hmem; omega⟩⟩
   have ht : l.take (i + 1) = l.take i ++ [l[i]] := by rw [List.take_add_one, List.getElem?_eq_getElem hi]; rfl
   have hin : ∀ x ∈ l.take (i + 1), 1 <= x /\ x <= 5 := fun x hx => by
    rw [ht] at hx
    rcases List.mem_append.1 hx with hx | hx
    ·exact g2 x hx
    ·rw [List.mem_singleton.1 hx]; omega
   by_cases h0 : 0 < i
   ·have hw : IntKind.i64.wrap ((i : Int) - 1) = ((i - 1 : Nat) : Int) := by rw [w64 (by omega)]; omega
    have hget2 : Ze1 l (IntKind.i64.wrap ((i : Int) - 1)) = some l[i - 1] := by rw [hw]; exact Zbg (by omega)
    by_cases h3 : l[i] <= l[i - 1]
    ·right
     refine ⟨_, Zam (dT (by (try dsimp only); omega)) (id (Zaf hget (Zaq (dF h1) (Zaf hget <| Zaq (dF h2) (Zam (dT (by (try dsimp only); omega)) (id (Zaf hget2 (Zaf hget <| Zam (dT h3) rfl)))))))), .inl ⟨rfl, decide_eq_false fun q => ?_⟩⟩
     have := List.pairwise_iff_getElem.1 q.2 (i - 1) i (by omega) hi (by omega)
     omega
    ·left
     refine ⟨l.length - (i + 1), ((l, ((i + 1 : Nat) : Int), ()), ()), by omega, Zam (dT (by (try dsimp only); omega)) (id (Zaf hget (Zaq (dF h1) (Zaf hget <| Zaq (dF h2) (Zam (dT (by (try dsimp only); omega)) (id (Zaf hget2 (Zaf hget <| Zaq (dF h3) ?_)))))))), i + 1, rfl, by omega, ⟨hin, ?_⟩, rfl⟩
     ·dsimp only
      rw [w64 (n := (i : Int) + 1) (by omega)]
      rfl
     ·rw [ht, List.pairwise_append]
      refine ⟨g3, by simp, fun x hx y hy => ?_⟩
      rw [List.mem_singleton.1 hy]
      obtain ⟨j, hj, rfl⟩ := List.getElem_of_mem hx
      rw [List.length_take] at hj
      rw [List.getElem_take]
      by_cases hji : j = i - 1
      ·subst hji; omega
      ·have := List.pairwise_iff_getElem.1 g3 j (i - 1) (by rw [List.length_take]; omega) (by rw [List.length_take]; omega) (by omega)
       rw [List.getElem_take, List.getElem_take] at this
       omega
   ·left
    refine ⟨l.length - (i + 1), ((l, ((i + 1 : Nat) : Int), ()), ()), by omega, Zam (dT (by (try dsimp only); omega)) (id (Zaf hget (Zaq (dF h1) (Zaf hget <| Zaq (dF h2) (Zaq (dF (by (try dsimp only); omega)) ?_))))), i + 1, rfl, by omega, ⟨hin, ?_⟩, rfl⟩
    ·dsimp only
     rw [w64 (n := (i : Int) + 1) (by omega)]
     rfl
    ·obtain rfl : i = 0 := by omega
     rw [ht]; simp
  ·right
   have hie : i = l.length := by omega
   subst hie
   rw [List.take_length] at g2 g3
   exact ⟨_, Zaq (dF (by (try dsimp only); omega)) rfl, .inr ⟨rfl, decide_eq_true ⟨g2, g3⟩⟩⟩
 obtain ⟨z, hz, ⟨rfl, h⟩ | ⟨rfl, h⟩⟩ := key
 ·unfold Zd9; rw [h]; exact Zaf hz rfl
 ·unfold Zd9; rw [h]; exact Zaf hz rfl
theorem Zv4 {c : Zbv} (h1 : c.voters.length <= 1000000) (h2 : c.old.length <= 1000000) (h3 : c.learners.length <= 1000000) (h4 : c.want.length <= 1000000) : ZhG c = some (ZAI c, ()) := by
 unfold ZhG ZAI
 refine Zaf (Zla h1) ?_
 cases Zea c.voters
 ·exact Zaq rfl rfl
 refine Zam rfl (Zaf (Zla h2) ?_)
 cases Zea c.old
 ·exact Zaq rfl rfl
 refine Zam rfl (Zaf (Zla h3) ?_)
 cases Zea c.learners
 ·exact Zaq rfl rfl
 exact Zam rfl (Zaf (Zla h4) rfl)
theorem Zz3 {x : ZcP} (h1 : x.config.voters.length <= 1000000) (h2 : x.config.old.length <= 1000000) (h3 : x.config.learners.length <= 1000000) (h4 : x.config.want.length <= 1000000) : Zk6 x = some (ZeU x, ()) := by
 unfold Zk6 ZeU
 by_cases a1 : 0 <= x.index
 rotate_left
 ·rw [dF (p := 0 <= x.index /\ x.index <= 1073741824) fun q => a1 q.1]; exact Zaq (dF a1) rfl
 by_cases a2 : x.index <= 1073741824
 rotate_left
 ·rw [dF (p := 0 <= x.index /\ x.index <= 1073741824) fun q => a2 q.2]; exact Zam (dT a1) (Zaq (dF a2) rfl)
 rw [dT (p := 0 <= x.index /\ x.index <= 1073741824) ⟨a1, a2⟩]
 by_cases a3 : 0 <= x.term_
 rotate_left
 ·rw [dF (p := 0 <= x.term_ /\ x.term_ <= 1073741824) fun q => a3 q.1]; exact Zam (dT a1) (Zam (dT a2) (Zaq (dF a3) rfl))
 by_cases a4 : x.term_ <= 1073741824
 rotate_left
 ·rw [dF (p := 0 <= x.term_ /\ x.term_ <= 1073741824) fun q => a4 q.2]; exact Zam (dT a1) (Zam (dT a2) (Zam (dT a3) (Zaq (dF a4) rfl)))
 rw [dT (p := 0 <= x.term_ /\ x.term_ <= 1073741824) ⟨a3, a4⟩]
 exact Zam (dT a1) (Zam (dT a2) (Zam (dT a3) (Zam (dT a4) (Zaf (Zv4 h1 h2 h3 h4) rfl))))
theorem Zsp : ∀ (n : Nat) {o : OB}, okL o -> okL (Zcp n o).2
 | 0, o, h => h
 | n + 1, o, h => Zsp n (ZfD h)
theorem ZfE {o : OB} (h : okL o) : okL (Zia o).2 := Zsp _ (ZfD h)
theorem rl1 {c : Int} (hc : c <= 5) : ∀ (n : Nat) {k : Nat} {o : OB} {acc : List Int}, (k : Int) + n = c -> acc.length = k -> okL o -> Za2 ZeS (((), c, acc, (k : Int), ()), (rfR o, (), ())) = some ((acc ++ (Zcp n o).1, ()), (rfR (Zcp n o).2, (), (), ()))
 | 0, k, o, acc, hk, hl, ho => ZcW (by
  unfold ZeS
  refine Zaq (dF (by (try dsimp only); omega)) ?_
  simp only [Zcp, List.append_nil])
 | n + 1, k, o, acc, hk, hl, ho => by
  have hn : ((0 : Int) + n + 1 + k) = c := by omega
  refine Zj7 (a' := (((), c, acc ++ [(ZbO 5 o).1], ((k + 1 : Nat) : Int), ()), (rfR (ZbO 5 o).2, (), ()))) ?_ ?_
  ·unfold ZeS
   refine Zam (dT (by (try dsimp only); omega)) (Zaf (Zhd 5 ho) (Zdz (by dsimp only [List.length_singleton]; omega) ?_))
   dsimp only
   rw [w64 (n := (k : Int) + 1) (by omega)]
   rfl
  ·rw [rl1 hc n (k := k + 1) (by omega) (by rw [List.length_append, hl]; rfl) (ZfD ho)]
   simp only [Zcp, List.append_assoc, List.singleton_append]
theorem Zsq {o : OB} (h : okL o) : Zgp (rfR o) = some ((Zia o).1, (rfR (Zia o).2, (), ())) := by
 have h5 := ZtK o
 unfold Zgp
 refine Zaf (Zhd 5 h) (Zaf (rl1 (c := (ZbO 5 o).1) h5.2 (ZbO 5 o).1.toNat (k := 0) (o := (ZbO 5 o).2) (acc := []) (by omega) rfl (ZfD h)) ?_)
 rfl
theorem ZBS {o : OB} (h : okL o) : ZhF (rfR o) = some ((ZhK o).1, (rfR (ZhK o).2, ())) := by
 unfold ZhF
 exact Zaf (Zsq h) (Zaf (Zsq (ZfE h)) (Zaf (Zsq (ZfE (ZfE h))) (Zaf (Zsq (ZfE (ZfE (ZfE h)))) rfl)))
theorem Zz4 {o : OB} (h : okL o) : okL (ZhK o).2 := ZfE (ZfE (ZfE (ZfE h)))
abbrev Zz5 : ZcP := ⟨0, 0, ⟨[], [], [], []⟩⟩
theorem Zrj {l : List UInt8} (hl : okL (some l)) : Zfm (⟨l, false⟩ : ZaO) = some (if okO l = true then (((Za8 l).1, true, ()), (rfR (Za8 l).2, ())) else ((Zz5, false, ()), (rfR (Za8 l).2, ()))) := by
 obtain ⟨q1, q2, q3, q4⟩ := Zjd l
 unfold Zfm
 refine Zaf (Zhd 1073741824 hl) (Zaf (Zhd 1073741824 (ZfD hl)) (Zaf (ZBS (ZfD (ZfD hl))) ?_))
 unfold okO
 show (bif (rfR (Za8 l).2).failed then _ else _) = _
 cases h : (Za8 l).2 with
 | none =>
  refine Zam rfl ?_
  rw [if_neg (by simp)]
  rw [show (ZhK (ZbO 1073741824 (ZbO 1073741824 (some l)).2).2).2 = none from h]
 | some r =>
  refine Zaq rfl (Zaf (Zz3 (x := (Za8 l).1) (by omega) (by omega) (by omega) (by omega)) ?_)
  cases hb : ZeU (Za8 l).1
  ·refine Zam rfl ?_
   rw [if_neg (by simp)]
   dsimp only
   rw [show (ZhK (ZbO 1073741824 (ZbO 1073741824 (some l)).2).2).2 = some r from h]
  ·refine Zaq rfl ?_
   rw [if_pos (by simp)]
   dsimp only
   rw [show (ZhK (ZbO 1073741824 (ZbO 1073741824 (some l)).2).2).2 = some r from h]
   rfl
theorem ZBT (o : OB) : ZoB (rfR o) = some (if o = some [] then 0 else 4, (rfR o, ())) := by
 cases o with
 | none => rfl
 | some l =>
  cases l with
  | nil => rfl
  | cons a l =>
   unfold ZoB
   refine Zaq rfl (Zam (dT (by show (0 : Int) < ((l.length + 1 : Nat) : Int); omega)) ?_)
   rw [if_neg (by simp)]
theorem ZxX {l : List UInt8} (hl : okL (some l)) : okL (Za8 l).2 := Zz4 (ZfD (ZfD hl))
instance (l : List UInt8) : Decidable (okG l) := inferInstanceAs (Decidable (_ /\ _))
def ZgA (l : List UInt8) : Option Zb6 := if okG l then some ⟨(Za8 l).1, (ZoF 131072 (Za8 l).2).1⟩ else none
theorem Zz6 {l : List UInt8} (hl : l.length <= 1000000) : Zrg l = some ((((ZgA l).getD ⟨Zz5, []⟩, (ZgA l).isSome, ()), ())) := by
 have ho : okL (some l) := by show l.length <= 140737488355328; omega
 have hR := Zrj ho
 have hW := Zv3 131072 (by omega) (ZxX ho)
 have hE := ZBT (ZoF 131072 (Za8 l).2).2
 unfold Zrg ZgA
 by_cases h1 : okO l = true
 ·rw [if_pos h1] at hR
  refine Zaf hR (Zaf hW (Zaq rfl (Zaf hE ?_)))
  by_cases h2 : (ZoF 131072 (Za8 l).2).2 = some []
  ·rw [if_pos h2, if_pos (show okG l from ⟨h1, h2⟩)]
   exact Zaq rfl rfl
  ·rw [if_neg h2, if_neg (show ¬ okG l from fun q => h2 q.2)]
   exact Zam rfl rfl
 ·rw [if_neg h1] at hR
  rw [if_neg (show ¬ okG l from fun q => h1 q.1)]
  exact Zaf hR (Zaf hW (Zam rfl rfl))
end Go.Proofs.YteempnebenjkmaaGreatDoor
