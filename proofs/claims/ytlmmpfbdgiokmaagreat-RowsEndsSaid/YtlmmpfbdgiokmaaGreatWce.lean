/- The reader of wire, and the document's, plainly. -/
import Derived.Test.YtlmmpfbdgiokmaaGreatWbe
namespace Go.Proofs.YtlmmpfbdgiokmaaGreat
open Go.RowKit
set_option maxRecDepth 100000
set_option linter.unusedVariables false
set_option linter.unusedSimpArgs false
def rdR : Option (List UInt8) -> ZaA
 | some l => ⟨⟨true, false, l⟩⟩
 | none => ⟨⟨true, true, []⟩⟩
def rfR : Option (List UInt8) -> Zch
 | some l => ⟨l, false⟩
 | none => ⟨[], true⟩
def ZhY (most : Nat) : Option (List UInt8) -> Int × Option (List UInt8)
 | none => (0, none)
 | some l => match ZBM most l with
  | some p => ((p.1 : Int), some p.2)
  | none => (0, none)
theorem ZxV {most : Nat} {l : List UInt8} (h : Zpt 9 0 0 l = none) : ZhY most (some l) = (0, none) := by
 show (match (Zpt 9 0 0 l).bind (fun p => if most < p.1 then none else some p) with | some p => ((p.1 : Int), some p.2) | none => (0, none)) = _
 rw [h]; rfl
theorem Zu5 {most : Nat} {l : List UInt8} {p : Nat × List UInt8} (h : Zpt 9 0 0 l = some p) : ZhY most (some l) = if most < p.1 then (0, none) else ((p.1 : Int), some p.2) := by
 show (match (Zpt 9 0 0 l).bind (fun p => if most < p.1 then none else some p) with | some p => ((p.1 : Int), some p.2) | none => (0, none)) = _
 rw [h]
 show (match (if most < p.1 then none else some p) with | some p => ((p.1 : Int), some p.2) | none => (0, none)) = _
 by_cases h9 : most < p.1
 ·rw [if_pos h9, if_pos h9]
 ·rw [if_neg h9, if_neg h9]
theorem ZoO (b : UInt8) (l : List UInt8) : Zdx 1 (rdR (some (b :: l))) = some ([b], (rdR (some l), ())) := by
 unfold Zdx rdR
 refine Zaj (dF (by dsimp only [List.length_cons]; omega)) (ZeK (by dsimp only [List.length_cons]; omega) (ZeK (by dsimp only [List.length_cons]; omega) ?_))
 have h : (((b :: l).length : Int)).toNat - (1 : Int).toNat = l.length := by rw [List.length_cons]; omega
 dsimp only
 rw [h]
 show some ([b], ((⟨⟨true, false, l.take l.length⟩⟩ : ZaA), ())) = _
 rw [List.take_length]
theorem ZBp {n : Int} (hn : 0 < n) : Zdx n (rdR (some [])) = some ([], (rdR none, ())) := by
 unfold Zdx rdR
 exact Zak (dT hn) rfl
theorem ZsS {most : Nat} (f : ((Unit) × (Int) × (Int) × (Int) × Unit) × ((ZaA) × Unit) -> Option ((((Unit) × (Int) × (Int) × (Int) × Unit) × ((ZaA) × Unit)) ⊕ ((((Int) × Unit) × ((ZaA) × Unit)) ⊕ (((Unit) × Unit) × ((ZaA) × Unit))))) (hf : f = Ze4) (l : List UInt8) :
 ∃ z, ZaP f (((), (most : Int), 0, 0, ()), (rdR (some l), ())) = some z /\ (z = .inl (((ZhY most (some l)).1, ()), (rdR (ZhY most (some l)).2, ())) \/ ((∃ l', z = .inr (((), ()), (rdR (some l'), ()))) /\ ZhY most (some l) = (0, none))) := by
 subst hf
 refine ZbL (fun m a => ∃ (i acc : Nat) (r : List UInt8), a = (((), (most : Int), (acc : Int), ((7 * i : Nat) : Int), ()), (rdR (some r), ())) /\ i <= 9 /\ acc < 2 ^ (7 * i) /\ m = 9 - i /\ Zpt 9 0 0 l = Zpt (9 - i) i acc r) _ ?_ (n := 9) ⟨0, 0, l, rfl, by omega, by omega, rfl, rfl⟩
 rintro m a ⟨i, acc, r, rfl, h1, h2, rfl, h3⟩
 unfold Ze4
 have hno : Zpt (9 - i) i acc r = none -> ZhY most (some l) = (0, none) := by
  intro h
  exact ZxV (by rw [h3, h])
 by_cases hi : i < 9
 ·cases r with
  | nil =>
   right
   refine ⟨_, Zak (dT (by dsimp only; omega)) (Zab (ZBp (by omega)) (Zak rfl rfl)), .inl ?_⟩
   rw [hno (by rw [show 9 - i = (8 - i) + 1 by omega]; rfl)]
  | cons b r =>
   have hk : Zpt (9 - i) i acc (b :: r) = if b.toNat < 128 then (if (0 < i /\ b.toNat = 0) \/ top < acc + b.toNat % 128 * 2 ^ (7 * i) then none else some (acc + b.toNat % 128 * 2 ^ (7 * i), r)) else Zpt (8 - i) (i + 1) (acc + b.toNat % 128 * 2 ^ (7 * i)) r := by
    rw [show 9 - i = (8 - i) + 1 by omega]; rfl
   have hb := b.toNat_lt
   have hy := ZxR b acc i (by omega) h2 (((7 * i : Nat) : Int)) (by rw [Int.toNat_natCast])
   by_cases h5 : b.toNat < 128
   ·right
    rw [if_pos h5] at hk
    by_cases h6 : 0 < i /\ b.toNat = 0
    ·rw [if_pos (.inl h6)] at hk
     refine ⟨_, Zak (dT (by dsimp only; omega)) (Zab (ZoO b r) (Zaj rfl (Zab (v := b) rfl (Zwb (by dsimp only; omega) (Zab (v := b) rfl (Zak (dT (by omega)) (Zak (dT (by dsimp only; omega)) (Zab (v := b) rfl (Zak (dT (by omega)) (Zab rfl rfl)))))))))), .inl ?_⟩
     rw [hno hk]
     rfl
    ·by_cases h7 : top < acc + b.toNat % 128 * 2 ^ (7 * i)
     ·rw [if_pos (.inr h7)] at hk
      rw [hno hk]
      have h7' : (4611686018427387903 : Int) < ((acc + b.toNat % 128 * 2 ^ (7 * i) : Nat) : Int) := by unfold top at h7; omega
      refine ⟨.inl ((0, ()), (rdR none, ())), Zak (dT (by dsimp only; omega)) (Zab (ZoO b r) (Zaj rfl (Zab (v := b) rfl (Zwb (by dsimp only; omega) ?_)))), .inl rfl⟩
      dsimp only
      rw [hy]
      by_cases h8 : 0 < i
      ·exact Zab (v := b) rfl (Zak (dT (by omega)) (Zak (dT (by omega)) (Zab (v := b) rfl (Zaj (dF (by omega)) (Zak (dT h7') rfl)))))
      ·exact Zab (v := b) rfl (Zak (dT (by omega)) (Zaj (dF (by omega)) (Zak (dT h7') rfl)))
     ·rw [if_neg (by omega)] at hk
      have h7' : ¬ (4611686018427387903 : Int) < ((acc + b.toNat % 128 * 2 ^ (7 * i) : Nat) : Int) := by unfold top at h7; omega
      have hnum : ZhY most (some l) = if most < acc + b.toNat % 128 * 2 ^ (7 * i) then (0, none) else (((acc + b.toNat % 128 * 2 ^ (7 * i) : Nat) : Int), some r) := by
       exact Zu5 (by rw [h3, hk])
      rw [hnum]
      by_cases h9 : most < acc + b.toNat % 128 * 2 ^ (7 * i)
      ·rw [if_pos h9]
       have h9' : ((most : Nat) : Int) < ((acc + b.toNat % 128 * 2 ^ (7 * i) : Nat) : Int) := by omega
       refine ⟨.inl ((0, ()), (rdR none, ())), Zak (dT (by dsimp only; omega)) (Zab (ZoO b r) (Zaj rfl (Zab (v := b) rfl (Zwb (by dsimp only; omega) ?_)))), .inl rfl⟩
       dsimp only
       rw [hy]
       by_cases h8 : 0 < i
       ·exact Zab (v := b) rfl (Zak (dT (by omega)) (Zak (dT (by omega)) (Zab (v := b) rfl (Zaj (dF (by omega)) (Zaj (dF h7') (Zak (dT h9') rfl))))))
       ·exact Zab (v := b) rfl (Zak (dT (by omega)) (Zaj (dF (by omega)) (Zaj (dF h7') (Zak (dT h9') rfl))))
      ·rw [if_neg h9]
       have h9' : ¬ ((most : Nat) : Int) < ((acc + b.toNat % 128 * 2 ^ (7 * i) : Nat) : Int) := by omega
       refine ⟨.inl ((((acc + b.toNat % 128 * 2 ^ (7 * i) : Nat) : Int), ()), (rdR (some r), ())), Zak (dT (by dsimp only; omega)) (Zab (ZoO b r) (Zaj rfl (Zab (v := b) rfl (Zwb (by dsimp only; omega) ?_)))), .inl rfl⟩
       dsimp only
       rw [hy]
       by_cases h8 : 0 < i
       ·exact Zab (v := b) rfl (Zak (dT (by omega)) (Zak (dT (by omega)) (Zab (v := b) rfl (Zaj (dF (by omega)) (Zaj (dF h7') (Zaj (dF h9') rfl))))))
       ·exact Zab (v := b) rfl (Zak (dT (by omega)) (Zaj (dF (by omega)) (Zaj (dF h7') (Zaj (dF h9') rfl))))
   ·left
    rw [if_neg h5] at hk
    refine ⟨9 - (i + 1), (((), (most : Int), ((acc + b.toNat % 128 * 2 ^ (7 * i) : Nat) : Int), ((7 * (i + 1) : Nat) : Int), ()), (rdR (some r), ())), by omega, Zak (dT (by dsimp only; omega)) (Zab (ZoO b r) (Zaj rfl (Zab (v := b) rfl (Zwb (by dsimp only; omega) ?_)))), i + 1, _, r, rfl, by omega, ?_, rfl, ?_⟩
    ·dsimp only
     rw [hy, w64 (n := ((7 * i : Nat) : Int) + 7) (by omega)]
     exact Zab (v := b) rfl (Zaj (dF (by omega)) rfl)
    ·have hm : b.toNat % 128 * 2 ^ (7 * i) <= 127 * 2 ^ (7 * i) := Nat.mul_le_mul_right _ (by omega)
     have hp : 2 ^ (7 * (i + 1)) = 128 * 2 ^ (7 * i) := by rw [Nat.mul_add, Nat.pow_add, Nat.mul_comm]
     omega
    ·rw [h3, hk, show 8 - i = 9 - (i + 1) by omega]
 ·right
  obtain rfl : i = 9 := by omega
  exact ⟨_, Zaj (dF (by dsimp only; omega)) rfl, .inr ⟨⟨r, rfl⟩, hno rfl⟩⟩
theorem ZCB (most : Nat) (o : Option (List UInt8)) : ZgI (most : Int) (rdR o) = some ((ZhY most o).1, (rdR (ZhY most o).2, ())) := by
 unfold ZgI
 cases o with
 | none => exact Zab (v := (false, (rdR none, ()))) rfl (Zak rfl rfl)
 | some l =>
  refine Zab (v := (true, (rdR (some l), ()))) rfl (Zaj rfl ?_)
  obtain ⟨z, hz, rfl | ⟨⟨l', rfl⟩, h2⟩⟩ := ZsS (most := most) _ rfl l
  ·exact Zab hz rfl
  ·rw [h2]
   exact Zab hz rfl
theorem ZCC (most : Nat) (l : List UInt8) : Zjf (most : Int) (true, false, l, ()) = some ((ZhY most (some l)).1, (rdR (ZhY most (some l)).2, (), ())) := by
 unfold Zjf
 refine Zab (v := (true, ((true, false, l, ()), (), (), ()))) rfl (Zaj rfl ?_)
 obtain ⟨z, hz, rfl | ⟨⟨l', rfl⟩, h2⟩⟩ := ZsS (most := most) ZhW rfl l
 ·exact Zab hz rfl
 ·rw [h2]
  exact Zab hz rfl
def ZdK (most : Nat) (o : Option (List UInt8)) : List UInt8 × Option (List UInt8) := match (ZhY most o).2 with
 | none => ([], none)
 | some l => if (l.length : Int) < (ZhY most o).1 then ([], none) else (l.take (ZhY most o).1.toNat, some (l.drop (ZhY most o).1.toNat))
theorem ZmF {most : Nat} {o : Option (List UInt8)} {l : List UInt8} (h : (ZhY most o).2 = some l) : 0 <= (ZhY most o).1 /\ (ZhY most o).1 <= most := by
 unfold ZhY at h ⊢
 cases o with
 | none => cases h
 | some x =>
  dsimp only at h ⊢
  cases hn : ZBM most x with
  | none => rw [hn] at h; cases h
  | some p =>
   unfold ZBM at hn
   obtain ⟨q, hq, hn⟩ := Zam hn
   split at hn
   ·cases hn
   ·injection hn with hn
    subst hn
    dsimp only
    omega
theorem ZCD {n : Nat} {l : List UInt8} : Zdx (n : Int) (rdR (some l)) = some (if l.length < n then ([], (rdR none, ())) else (l.take n, (rdR (some (l.drop n)), ()))) := by
 unfold Zdx rdR
 by_cases h : l.length < n
 ·rw [if_pos h]
  exact Zak (dT (by dsimp only; omega)) rfl
 ·rw [if_neg h]
  refine Zaj (dF (by dsimp only; omega)) (ZeK (by dsimp only; omega) (ZeK (by dsimp only; omega) ?_))
  have h1 : ((l.length : Int)).toNat - ((n : Int)).toNat = (l.drop n).length := by rw [List.length_drop]; omega
  dsimp only
  rw [h1, Int.toNat_natCast, List.take_length]
  rfl
theorem ZDN (most : Nat) (hm : most <= 1000000000) (o : Option (List UInt8)) : Znz (most : Int) (rdR o) = some ((ZdK most o).1, (rdR (ZdK most o).2, (), ())) := by
 unfold Znz
 refine Zab (ZCB most o) ?_
 unfold ZdK
 cases h : (ZhY most o).2 with
 | none => exact Zab (v := (false, (rdR none, ()))) rfl (Zak rfl rfl)
 | some l =>
  obtain ⟨h1, h2⟩ := ZmF h
  obtain ⟨n, hn⟩ : ∃ n : Nat, (ZhY most o).1 = (n : Int) := ⟨(ZhY most o).1.toNat, by omega⟩
  refine Zab (v := (true, (rdR (some l), ()))) rfl (Zaj rfl (Zab (v := if l.length < n then ([], (rdR none, ())) else (l.take n, (rdR (some (l.drop n)), ()))) (by dsimp only; rw [hn]; exact ZCD) ?_))
  dsimp only
  rw [hn, Int.toNat_natCast]
  by_cases hl : l.length < n
  ·rw [if_pos hl, if_pos (by omega)]
   exact Zab (v := ([], ((), ()))) rfl rfl
  ·rw [if_neg hl, if_neg (by omega)]
   have hlen : (l.take n).length <= n := by rw [List.length_take]; omega
   refine Zab (v := (l.take n, ((), ()))) (by unfold Zkf; exact ZeK (by dsimp only; omega) rfl) rfl
theorem ZAp (most : Nat) (hm : most <= 1000000000) (o : Option (List UInt8)) : Zkl (most : Int) (rdR o) = some ((ZdK most o).1, (rdR (ZdK most o).2, ())) := by
 unfold Zkl
 exact Zab (ZDN most hm o) rfl
theorem ZzR {l : List UInt8} (hl : l.length <= 140737488355328) : Zed l = some (match Zpt 9 0 0 l with | some p => (((p.1 : Int), ((l.length - p.2.length : Nat) : Int), ()), ()) | none => ((0, 0, ()), ())) := by
 have key : ∃ z, ZaP Zdt ((l, 0, 0, ()), ()) = some z /\ ((∃ p, Zpt 9 0 0 l = some p /\ z = .inl (((p.1 : Int), ((l.length - p.2.length : Nat) : Int), ()), ())) \/ (Zpt 9 0 0 l = none /\ (z = .inl ((0, 0, ()), ()) \/ z = .inr ((), ())))) := by
  refine ZbL (fun m a => ∃ i acc : Nat, a = ((l, (acc : Int), (i : Int), ()), ()) /\ i <= 9 /\ i <= l.length /\ acc < 2 ^ (7 * i) /\ m = 9 - i /\ Zpt 9 0 0 l = Zpt (9 - i) i acc (l.drop i)) _ ?_ (n := 9) ⟨0, 0, rfl, by omega, by omega, by omega, rfl, rfl⟩
  rintro m a ⟨i, acc, rfl, h1, h1', h2, rfl, h3⟩
  unfold Zdt
  by_cases hi : i < l.length
  ·by_cases hi9 : i < 9
   ·have hd : l.drop i = l[i] :: l.drop (i + 1) := List.drop_eq_getElem_cons hi
    have hk : Zpt (9 - i) i acc (l.drop i) = if (l[i]).toNat < 128 then (if (0 < i /\ (l[i]).toNat = 0) \/ top < acc + (l[i]).toNat % 128 * 2 ^ (7 * i) then none else some (acc + (l[i]).toNat % 128 * 2 ^ (7 * i), l.drop (i + 1))) else Zpt (8 - i) (i + 1) (acc + (l[i]).toNat % 128 * 2 ^ (7 * i)) (l.drop (i + 1)) := by
     rw [hd, show 9 - i = (8 - i) + 1 by omega]; rfl
    have hg : Zdg l (i : Int) = some l[i] := Zay hi
    generalize hb' : l[i] = b at hk hg
    have hb := b.toNat_lt
    have hsh : IntKind.u64.wrap (IntKind.i64.wrap (7 * (i : Int))) = ((7 * i : Nat) : Int) := by rw [w64 (by omega), IntKind.wrap_u64]; omega
    have hy := ZxR b acc i (by omega) h2 (((7 * i : Nat) : Int)) (by rw [Int.toNat_natCast])
    by_cases h5 : b.toNat < 128
    ·right
     rw [if_pos h5] at hk
     by_cases h6 : 0 < i /\ b.toNat = 0
     ·rw [if_pos (.inl h6)] at hk
      refine ⟨.inl ((0, 0, ()), ()), Zak (dT (by dsimp only; omega)) (Zak (dT (by dsimp only; omega)) (Zab hg (Zwb (by dsimp only; rw [hsh]; omega) ?_))), .inr ⟨by rw [h3, hk], .inl rfl⟩⟩
      exact Zab hg (Zak (dT (by omega)) (Zak (dT (by dsimp only; omega)) (Zab hg (Zak (dT (by omega)) rfl))))
     ·by_cases h7 : top < acc + b.toNat % 128 * 2 ^ (7 * i)
      ·rw [if_pos (.inr h7)] at hk
       have h7' : (4611686018427387903 : Int) < ((acc + b.toNat % 128 * 2 ^ (7 * i) : Nat) : Int) := by unfold top at h7; omega
       refine ⟨.inl ((0, 0, ()), ()), Zak (dT (by dsimp only; omega)) (Zak (dT (by dsimp only; omega)) (Zab hg (Zwb (by dsimp only; rw [hsh]; omega) ?_))), .inr ⟨by rw [h3, hk], .inl rfl⟩⟩
       dsimp only
       rw [hsh, hy]
       by_cases h8 : 0 < i
       ·exact Zab hg (Zak (dT (by omega)) (Zak (dT (by omega)) (Zab hg (Zaj (dF (by omega)) (Zak (dT h7') rfl)))))
       ·exact Zab hg (Zak (dT (by omega)) (Zaj (dF (by omega)) (Zak (dT h7') rfl)))
      ·rw [if_neg (by omega)] at hk
       have h7' : ¬ (4611686018427387903 : Int) < ((acc + b.toNat % 128 * 2 ^ (7 * i) : Nat) : Int) := by unfold top at h7; omega
       have hlen : l.length - (l.drop (i + 1)).length = i + 1 := by rw [List.length_drop]; omega
       refine ⟨.inl ((((acc + b.toNat % 128 * 2 ^ (7 * i) : Nat) : Int), ((i + 1 : Nat) : Int), ()), ()), Zak (dT (by dsimp only; omega)) (Zak (dT (by dsimp only; omega)) (Zab hg (Zwb (by dsimp only; rw [hsh]; omega) ?_))), .inl ⟨_, by rw [h3, hk], by rw [hlen]⟩⟩
       dsimp only
       rw [hsh, hy, w64 (n := (i : Int) + 1) (by omega)]
       by_cases h8 : 0 < i
       ·exact Zab hg (Zak (dT (by omega)) (Zak (dT (by omega)) (Zab hg (Zaj (dF (by omega)) (Zaj (dF h7') (Zaj (dF (by omega)) rfl))))))
       ·exact Zab hg (Zak (dT (by omega)) (Zaj (dF (by omega)) (Zaj (dF h7') (Zaj (dF (by omega)) rfl))))
    ·left
     rw [if_neg h5] at hk
     refine ⟨9 - (i + 1), ((l, ((acc + b.toNat % 128 * 2 ^ (7 * i) : Nat) : Int), ((i + 1 : Nat) : Int), ()), ()), by omega, Zak (dT (by dsimp only; omega)) (Zak (dT (by dsimp only; omega)) (Zab hg (Zwb (by dsimp only; rw [hsh]; omega) ?_))), i + 1, _, rfl, by omega, by omega, ?_, rfl, ?_⟩
     ·dsimp only
      rw [hsh, hy, w64 (n := (i : Int) + 1) (by omega)]
      exact Zab hg (Zaj (dF (by omega)) rfl)
     ·have hm : b.toNat % 128 * 2 ^ (7 * i) <= 127 * 2 ^ (7 * i) := Nat.mul_le_mul_right _ (by omega)
      have hp : 2 ^ (7 * (i + 1)) = 128 * 2 ^ (7 * i) := by rw [Nat.mul_add, Nat.pow_add, Nat.mul_comm]
      omega
     ·rw [h3, hk, show 8 - i = 9 - (i + 1) by omega]
   ·right
    obtain rfl : i = 9 := by omega
    exact ⟨_, Zak (dT (by dsimp only; omega)) (Zaj (dF (by dsimp only; omega)) rfl), .inr ⟨h3, .inr rfl⟩⟩
  ·right
   obtain rfl : i = l.length := by omega
   refine ⟨_, Zaj (dF (by dsimp only; omega)) rfl, .inr ⟨?_, .inr rfl⟩⟩
   rw [h3, List.drop_length]
   cases hc : 9 - l.length with
   | zero => rfl
   | succ k => rfl
 unfold Zed
 obtain ⟨z, hz, ⟨p, h1, rfl⟩ | ⟨h1, h2⟩⟩ := key
 ·rw [h1]
  exact Zab hz rfl
 ·rw [h1]
  rcases h2 with rfl | rfl
  ·exact Zab hz rfl
  ·exact Zab hz rfl
def okL : Option (List UInt8) -> Prop
 | some l => l.length <= 140737488355328
 | none => True
theorem Zt6 {most : Nat} {o : Option (List UInt8)} (h : okL o) : okL (ZhY most o).2 := by
 unfold ZhY
 cases o with
 | none => trivial
 | some l =>
  dsimp only
  cases hn : ZBM most l with
  | none => trivial
  | some p =>
   unfold ZBM at hn
   obtain ⟨q, hq, hn⟩ := Zam hn
   split at hn
   ·cases hn
   ·injection hn with hn
    subst hn
    have := (Zq0 _ _ _ _ hq).2.1
    show q.2.length <= _
    have h : l.length <= 140737488355328 := h
    omega
theorem ZxW {most : Nat} {o : Option (List UInt8)} (h : okL o) : okL (ZdK most o).2 := by
 have h1 := Zt6 (most := most) h
 unfold ZdK
 cases hn : (ZhY most o).2 with
 | none => trivial
 | some l =>
  rw [hn] at h1
  dsimp only
  split
  ·trivial
  ·show (List.drop _ l).length <= _
   have h1 : l.length <= 140737488355328 := h1
   rw [List.length_drop]; omega
theorem ZsT (most : Nat) {o : Option (List UInt8)} (h : okL o) : ZbJ (most : Int) (rfR o) = some ((ZhY most o).1, (rfR (ZhY most o).2, ())) := by
 unfold ZbJ
 cases o with
 | none => exact Zak rfl rfl
 | some l =>
  have hget := ZzR h
  cases hg : Zpt 9 0 0 l with
  | none =>
   rw [hg] at hget
   rw [ZxV hg]
   exact Zaj rfl (Zab hget (Zak rfl rfl))
  | some p =>
   rw [hg] at hget
   obtain ⟨h1, h2, m, h3, h4⟩ := Zq0 _ _ _ _ hg
   have hlen : l.length - p.2.length = m := by rw [h3, List.length_drop]; omega
   have hm : 0 < m := by omega
   dsimp only at hget
   rw [hlen] at hget
   rw [Zu5 hg]
   refine Zaj rfl (Zab hget (Zaj (dF (by dsimp only; omega)) ?_))
   by_cases hq : most < p.1
   ·rw [if_pos hq]
    exact Zak (dT (by dsimp only; omega)) rfl
   ·rw [if_neg hq]
    refine Zaj (dF (by dsimp only; omega)) ?_
    refine ZeK (by show 0 <= (m : Int) /\ (m : Int) <= (l.length : Int) /\ _; exact ⟨by omega, by omega, Int.le_refl _⟩) ?_
    have hd : (l.length : Int).toNat - ((m : Int)).toNat = p.2.length := by omega
    show some ((p.1 : Int), ((⟨(l.drop ((m : Int)).toNat).take ((l.length : Int).toNat - ((m : Int)).toNat), false⟩ : Zch), ())) = _
    rw [hd, Int.toNat_natCast, <- h3, List.take_length]
    rfl
theorem ZsU (most : Nat) (hm : most <= 1000000000) {o : Option (List UInt8)} (h : okL o) : Zcz (most : Int) (rfR o) = some ((ZdK most o).1, (rfR (ZdK most o).2, (), ())) := by
 unfold Zcz
 refine Zab (ZsT most h) ?_
 have hok := Zt6 (most := most) h
 unfold ZdK
 cases hn : (ZhY most o).2 with
 | none => exact Zak rfl rfl
 | some l =>
  rw [hn] at hok
  have hok : l.length <= 140737488355328 := hok
  obtain ⟨h1, h2⟩ := ZmF hn
  refine Zaj rfl ?_
  dsimp only
  obtain ⟨n, hnn⟩ : ∃ n : Nat, (ZhY most o).1 = (n : Int) := ⟨(ZhY most o).1.toNat, by omega⟩
  rw [hnn]
  by_cases hl : (l.length : Int) < (n : Int)
  ·rw [if_pos hl]
   exact Zak (dT hl) rfl
  ·rw [if_neg hl]
   have hlen : (List.take ((n : Int).toNat - (0 : Int).toNat) (List.drop (0 : Int).toNat l)).length <= n := by rw [List.length_take]; omega
   have hd : (l.length : Int).toNat - ((n : Int)).toNat = (l.drop n).length := by rw [List.length_drop]; omega
   refine Zaj (dF hl) (ZeK (by show 0 <= (0 : Int) /\ (0 : Int) <= (n : Int) /\ (n : Int) <= (l.length : Int); omega) (ZeK (by dsimp only [rfR, List.length_nil]; omega) (ZeK (by show 0 <= (n : Int) /\ (n : Int) <= (l.length : Int) /\ _; exact ⟨by omega, by omega, Int.le_refl _⟩) ?_)))
   show some (([] : List UInt8) ++ (List.take ((n : Int).toNat - (0 : Int).toNat) (List.drop (0 : Int).toNat l)), ((⟨(l.drop ((n : Int)).toNat).take ((l.length : Int).toNat - ((n : Int)).toNat), false⟩ : Zch), (), ())) = _
   rw [hd, Int.toNat_natCast, List.take_length]
   rfl
end Go.Proofs.YtlmmpfbdgiokmaaGreat
