/- XFrr, XRqr, XGr1, XGr2, XAlr, XWfr, XGr3, XLbr, XGc in one. -/
import Derived.Test.YtaihdjknneiciaaGreatMd
import Derived.Test.YtaihdjknneiciaaGreatG2
namespace Go.Proofs.YtaihdjknneiciaaGreat
open Go.RowKit
set_option maxRecDepth 100000
set_option linter.unusedVariables false
set_option linter.unusedSimpArgs false
def rfR : Option (List UInt8) -> ZaA
 | some l => ⟨l, false⟩
 | none => ⟨[], true⟩
theorem ZCQ {l : List UInt8} (hl : l.length <= 140737488355328) : Zuz l = some (match Ztm 9 0 0 l with | some p => (((p.1 : Int), ((l.length - p.2.length : Nat) : Int), ()), ()) | none => ((0, 0, ()), ())) := by
 have key : ∃ z, Zas ZkP ((l, 0, 0, ()), ()) = some z /\ ((∃ p, Ztm 9 0 0 l = some p /\ z = .inl (((p.1 : Int), ((l.length - p.2.length : Nat) : Int), ()), ())) \/ (Ztm 9 0 0 l = none /\ (z = .inl ((0, 0, ()), ()) \/ z = .inr ((), ())))) := by
  refine Zbx (fun m a => ∃ i acc : Nat, a = ((l, (acc : Int), (i : Int), ()), ()) /\ i <= 9 /\ i <= l.length /\ acc < 2 ^ (7 * i) /\ m = 9 - i /\ Ztm 9 0 0 l = Ztm (9 - i) i acc (l.drop i)) _ ?_ (n := 9) ⟨0, 0, rfl, by omega, by omega, by omega, rfl, rfl⟩
  rintro m a ⟨i, acc, rfl, h1, h1', h2, rfl, h3⟩
  unfold ZkP
  by_cases hi : i < l.length
  ·by_cases hi9 : i < 9
   ·have hd : l.drop i = l[i] :: l.drop (i + 1) := List.drop_eq_getElem_cons hi
    have hk : Ztm (9 - i) i acc (l.drop i) = if (l[i]).toNat < 128 then (if (0 < i /\ (l[i]).toNat = 0) \/ top < acc + (l[i]).toNat % 128 * 2 ^ (7 * i) then none else some (acc + (l[i]).toNat % 128 * 2 ^ (7 * i), l.drop (i + 1))) else Ztm (8 - i) (i + 1) (acc + (l[i]).toNat % 128 * 2 ^ (7 * i)) (l.drop (i + 1)) := by
     rw [hd, show 9 - i = (8 - i) + 1 by omega]; rfl
    have hg : Zbs l (i : Int) = some l[i] := ZaE hi
    generalize hb' : l[i] = b at hk hg
    have hb := b.toNat_lt
    have hsh : IntKind.u64.wrap (IntKind.i64.wrap (7 * (i : Int))) = ((7 * i : Nat) : Int) := by rw [w64 (by omega), IntKind.wrap_u64]; omega
    have hy := ZBq b acc i (by omega) h2 (((7 * i : Nat) : Int)) (by rw [Int.toNat_natCast])
    by_cases h5 : b.toNat < 128
    ·right
     rw [if_pos h5] at hk
     by_cases h6 : 0 < i /\ b.toNat = 0
     ·rw [if_pos (.inl h6)] at hk
      refine ⟨.inl ((0, 0, ()), ()), Zag (dT (by (try dsimp only); omega)) (Zag (dT (by (try dsimp only); omega)) (Zaa hg (ZCj (by (try dsimp only); rw [hsh]; omega) ?_))), .inr ⟨by rw [h3, hk], .inl rfl⟩⟩
      exact Zaa hg (Zag (dT (by omega)) (Zag (dT (by (try dsimp only); omega)) (Zaa hg (Zag (dT (by omega)) rfl))))
     ·by_cases h7 : top < acc + b.toNat % 128 * 2 ^ (7 * i)
      ·rw [if_pos (.inr h7)] at hk
       have h7' : (4611686018427387903 : Int) < ((acc + b.toNat % 128 * 2 ^ (7 * i) : Nat) : Int) := by unfold top at h7; omega
       refine ⟨.inl ((0, 0, ()), ()), Zag (dT (by (try dsimp only); omega)) (Zag (dT (by (try dsimp only); omega)) (Zaa hg (ZCj (by (try dsimp only); rw [hsh]; omega) ?_))), .inr ⟨by rw [h3, hk], .inl rfl⟩⟩
       dsimp only
       rw [hsh, hy]
       by_cases h8 : 0 < i
       ·exact Zaa hg (Zag (dT (by omega)) (Zag (dT (by omega)) (Zaa hg (Zab (dF (by omega)) (Zag (dT h7') rfl)))))
       ·exact Zaa hg (Zag (dT (by omega)) (Zab (dF (by omega)) (Zag (dT h7') rfl)))
      ·rw [if_neg (by omega)] at hk
       have h7' : ¬ (4611686018427387903 : Int) < ((acc + b.toNat % 128 * 2 ^ (7 * i) : Nat) : Int) := by unfold top at h7; omega
       have hlen : l.length - (l.drop (i + 1)).length = i + 1 := by rw [List.length_drop]; omega
       refine ⟨.inl ((((acc + b.toNat % 128 * 2 ^ (7 * i) : Nat) : Int), ((i + 1 : Nat) : Int), ()), ()), Zag (dT (by (try dsimp only); omega)) (Zag (dT (by (try dsimp only); omega)) (Zaa hg (ZCj (by (try dsimp only); rw [hsh]; omega) ?_))), .inl ⟨_, by rw [h3, hk], by rw [hlen]⟩⟩
       dsimp only
       rw [hsh, hy, w64 (n := (i : Int) + 1) (by omega)]
       by_cases h8 : 0 < i
       ·exact Zaa hg (Zag (dT (by omega)) (Zag (dT (by omega)) (Zaa hg (Zab (dF (by omega)) (Zab (dF h7') (Zab (dF (by omega)) rfl))))))
       ·exact Zaa hg (Zag (dT (by omega)) (Zab (dF (by omega)) (Zab (dF h7') (Zab (dF (by omega)) rfl))))
    ·left
     rw [if_neg h5] at hk
     refine ⟨9 - (i + 1), ((l, ((acc + b.toNat % 128 * 2 ^ (7 * i) : Nat) : Int), ((i + 1 : Nat) : Int), ()), ()), by omega, Zag (dT (by (try dsimp only); omega)) (Zag (dT (by (try dsimp only); omega)) (Zaa hg (ZCj (by (try dsimp only); rw [hsh]; omega) ?_))), i + 1, _, rfl, by omega, by omega, ?_, rfl, ?_⟩
     ·dsimp only
      rw [hsh, hy, w64 (n := (i : Int) + 1) (by omega)]
      exact Zaa hg (Zab (dF (by omega)) rfl)
     ·have hm : b.toNat % 128 * 2 ^ (7 * i) <= 127 * 2 ^ (7 * i) := Nat.mul_le_mul_right _ (by omega)
      have hp : 2 ^ (7 * (i + 1)) = 128 * 2 ^ (7 * i) := by rw [Nat.mul_add, Nat.pow_add, Nat.mul_comm]
      omega
     ·rw [h3, hk, show 8 - i = 9 - (i + 1) by omega]
   ·right
    obtain rfl : i = 9 := by omega
    exact ⟨_, Zag (dT (by (try dsimp only); omega)) (Zab (dF (by (try dsimp only); omega)) rfl), .inr ⟨h3, .inr rfl⟩⟩
  ·right
   obtain rfl : i = l.length := by omega
   refine ⟨_, Zab (dF (by (try dsimp only); omega)) rfl, .inr ⟨?_, .inr rfl⟩⟩
   rw [h3, List.drop_length]
   cases hc : 9 - l.length with
   | zero => rfl
   | succ k => rfl
 unfold Zuz
 obtain ⟨z, hz, ⟨p, h1, rfl⟩ | ⟨h1, h2⟩⟩ := key
 ·rw [h1]
  exact Zaa hz rfl
 ·rw [h1]
  rcases h2 with rfl | rfl
  ·exact Zaa hz rfl
  ·exact Zaa hz rfl
def okL : Option (List UInt8) -> Prop
 | some l => l.length <= 140737488355328
 | none => True
theorem Zbc {most : Nat} {o : Option (List UInt8)} (h : okL o) : okL (ZaB most o).2 := by
 unfold ZaB
 cases o with
 | none => trivial
 | some l =>
  dsimp only
  cases hn : ZDj most l with
  | none => trivial
  | some p =>
   unfold ZDj at hn
   obtain ⟨q, hq, hn⟩ := Zah hn
   split at hn
   ·cases hn
   ·injection hn with hn
    subst hn
    have := (Zqm _ _ _ _ hq).2.1
    show q.2.length <= _
    have h : l.length <= 140737488355328 := h
    omega
theorem ZfZ {most : Nat} {o : Option (List UInt8)} (h : okL o) : okL (Zcf most o).2 := by
 have h1 := Zbc (most := most) h
 unfold Zcf
 cases hn : (ZaB most o).2 with
 | none => trivial
 | some l =>
  rw [hn] at h1
  dsimp only
  split
  ·trivial
  ·show (List.drop _ l).length <= _
   have h1 : l.length <= 140737488355328 := h1
   rw [List.length_drop]; omega
theorem Zde (most : Nat) {o : Option (List UInt8)} (h : okL o) : ZaU (most : Int) (rfR o) = some ((ZaB most o).1, (rfR (ZaB most o).2, ())) := by
 unfold ZaU
 cases o with
 | none => exact Zag rfl rfl
 | some l =>
  have hget := ZCQ h
  cases hg : Ztm 9 0 0 l with
  | none =>
   rw [hg] at hget
   rw [ZBs hg]
   exact Zab rfl (Zaa hget (Zag rfl rfl))
  | some p =>
   rw [hg] at hget
   obtain ⟨h1, h2, m, h3, h4⟩ := Zqm _ _ _ _ hg
   have hlen : l.length - p.2.length = m := by rw [h3, List.length_drop]; omega
   have hm : 0 < m := by omega
   dsimp only at hget
   rw [hlen] at hget
   rw [ZyZ hg]
   refine Zab rfl (Zaa hget (Zab (dF (by (try dsimp only); omega)) ?_))
   by_cases hq : most < p.1
   ·rw [if_pos hq]
    exact Zag (dT (by (try dsimp only); omega)) rfl
   ·rw [if_neg hq]
    refine Zab (dF (by (try dsimp only); omega)) ?_
    refine Zbk (by show 0 <= (m : Int) /\ (m : Int) <= (l.length : Int) /\ _; exact ⟨by omega, by omega, Int.le_refl _⟩) ?_
    have hd : (l.length : Int).toNat - ((m : Int)).toNat = p.2.length := by omega
    show some ((p.1 : Int), ((⟨(l.drop ((m : Int)).toNat).take ((l.length : Int).toNat - ((m : Int)).toNat), false⟩ : ZaA), ())) = _
    rw [hd, Int.toNat_natCast, <- h3, List.take_length]
    rfl
theorem ZoG (most : Nat) (hm : most <= 1000000000) {o : Option (List UInt8)} (h : okL o) : Zi1 (most : Int) (rfR o) = some ((Zcf most o).1, (rfR (Zcf most o).2, (), ())) := by
 unfold Zi1
 refine Zaa (Zde most h) ?_
 have hok := Zbc (most := most) h
 unfold Zcf
 cases hn : (ZaB most o).2 with
 | none => exact Zag rfl rfl
 | some l =>
  rw [hn] at hok
  have hok : l.length <= 140737488355328 := hok
  obtain ⟨h1, h2⟩ := Zu9 hn
  refine Zab rfl ?_
  dsimp only
  obtain ⟨n, hnn⟩ : ∃ n : Nat, (ZaB most o).1 = (n : Int) := ⟨(ZaB most o).1.toNat, by omega⟩
  rw [hnn]
  by_cases hl : (l.length : Int) < (n : Int)
  ·rw [if_pos hl]
   exact Zag (dT hl) rfl
  ·rw [if_neg hl]
   have hlen : (List.take ((n : Int).toNat - (0 : Int).toNat) (List.drop (0 : Int).toNat l)).length <= n := by rw [List.length_take]; omega
   have hd : (l.length : Int).toNat - ((n : Int)).toNat = (l.drop n).length := by rw [List.length_drop]; omega
   refine Zab (dF hl) (Zbk (by show 0 <= (0 : Int) /\ (0 : Int) <= (n : Int) /\ (n : Int) <= (l.length : Int); omega) (Zbk (by dsimp only [rfR, List.length_nil]; omega) (Zbk (by show 0 <= (n : Int) /\ (n : Int) <= (l.length : Int) /\ _; exact ⟨by omega, by omega, Int.le_refl _⟩) ?_)))
   show some (([] : List UInt8) ++ (List.take ((n : Int).toNat - (0 : Int).toNat) (List.drop (0 : Int).toNat l)), ((⟨(l.drop ((n : Int)).toNat).take ((l.length : Int).toNat - ((n : Int)).toNat), false⟩ : ZaA), (), ())) = _
   rw [hd, Int.toNat_natCast, List.take_length]
   rfl
theorem Zk8 {o : OB} (h : okL o) : okL (ZeQ o).2 := by
 cases o with
 | none => trivial
 | some l =>
  cases l with
  | nil => trivial
  | cons b l =>
   rw [Zk7]
   split
   ·trivial
   ·have h : (b :: l).length <= 140737488355328 := h
    show l.length <= _
    rw [List.length_cons] at h; omega
theorem Zvf {o : OB} (h : okL o) : ZkS (rfR o) = some ((ZeQ o).1, (rfR (ZeQ o).2, ())) := by
 unfold ZkS
 cases o with
 | none => exact Zag rfl rfl
 | some l =>
  refine Zab rfl ?_
  cases l with
  | nil => exact Zag rfl rfl
  | cons b l =>
   rw [Zk7]
   refine Zab (dF (by dsimp only [rfR]; rw [List.length_cons]; omega)) (Zaa (v := b) rfl ?_)
   by_cases hb : (1 : Int) < (b.toNat : Int)
   ·rw [if_pos hb]
    exact Zag (dT hb) rfl
   ·rw [if_neg hb]
    refine Zab (dF hb) (Zaa (v := b) rfl (Zbk (by dsimp only [rfR]; rw [List.length_cons]; omega) ?_))
    have hd : (((b :: l).drop (1 : Int).toNat).take (((b :: l).length : Int).toNat - (1 : Int).toNat)) = l := by
     show l.take _ = l
     rw [List.take_of_length_le]
     rw [List.length_cons]; omega
    dsimp only [rfR]
    rw [hd]
theorem Zy1 (o : OB) : (rfR o).failed = o.isNone := by cases o <;> rfl
theorem ZEi (o : OB) : ZuD (rfR o) = some ((if o = some [] then 0 else 4), (rfR o, ())) := by
 unfold ZuD
 cases o with
 | none => exact Zag rfl rfl
 | some l =>
  refine Zab rfl ?_
  cases l with
  | nil => exact Zab rfl rfl
  | cons b l =>
   rw [if_neg (by simp)]
   exact Zag (dT (by dsimp only [rfR]; rw [List.length_cons]; omega)) rfl
end Go.Proofs.YtaihdjknneiciaaGreat
namespace Go.Proofs.YtaihdjknneiciaaGreat
open Go.RowKit
set_option maxRecDepth 100000
set_option linter.unusedVariables false
set_option linter.unusedSimpArgs false
theorem Zvg {s : Tx} (h : OkT s) : Zl3 s = some (ZwM s, ()) := by
 unfold OkT at h
 unfold Zl3 ZwM
 by_cases h1 : s = []
 ·subst h1; rfl
 have h0 : 0 < s.length := List.length_pos_iff.2 h1
 rw [dF (by omega), cond_false, dF h1]
 by_cases h2 : s.length <= 20
 ·have key : Zas ZkT ((s, 0, ()), ()) = some (if s.all Zl9 then .inr ((), ()) else .inl ((false, ()), ())) := by
   refine ZgF (fun n a => ∃ i : Nat, a = ((s, (i : Int), ()), ()) /\ i <= s.length /\ (s.drop i).all Zl9 = s.all Zl9 /\ n = s.length - i) _ ?_ (n := s.length) ⟨0, rfl, Nat.zero_le _, rfl, rfl⟩
   rintro n a ⟨i, rfl, g1, g2, rfl⟩
   unfold ZkT
   dsimp only
   by_cases hi : i < s.length
   ·rw [List.drop_eq_getElem_cons hi, List.all_cons] at g2
    simp only [ZaE hi, Option.bind_some]
    rw [dT (by omega), cond_true, w64 (by omega)]
    cases hc : Zl9 s[i]
    ·right
     rw [hc] at g2
     rw [<- g2]
     unfold Zl9 at hc
     by_cases q1 : (97 : Int) <= (s[i].toNat : Int) <;> by_cases q2 : (s[i].toNat : Int) <= 122 <;> by_cases q3 : (48 : Int) <= (s[i].toNat : Int) <;> by_cases q4 : (s[i].toNat : Int) <= 57 <;> simp [q1, q2, q3, q4] at hc ⊢
    ·left
     rw [hc, Bool.true_and] at g2
     refine ⟨s.length - (i + 1), _, by omega, ?_, i + 1, rfl, by omega, g2, rfl⟩
     unfold Zl9 at hc
     by_cases q1 : (97 : Int) <= (s[i].toNat : Int) <;> by_cases q2 : (s[i].toNat : Int) <= 122 <;> by_cases q3 : (48 : Int) <= (s[i].toNat : Int) <;> by_cases q4 : (s[i].toNat : Int) <= 57 <;> simp [q1, q2, q3, q4] at hc ⊢
   ·right
    obtain rfl : i = s.length := by omega
    rw [dF (by omega), cond_false, <- g2, List.drop_length]
    rfl
  rw [dF (by omega), cond_false, key, dT h2]
  cases s.all Zl9 <;> rfl
 ·rw [dT (by omega), cond_true, dF h2]
  simp
theorem ZtS {s : Zao} (h : ZlH s) : Zj4 s = some (Za1 s, ()) := by
 obtain ⟨h1, h2⟩ := h
 unfold Zj4 Za1
 simp only [Option.bind_some, Zvg h1, Zvg h2]
 by_cases q1 : s.lo = [] <;> by_cases q2 : s.hi = [] <;> cases q3 : ZwM s.lo <;> cases q4 : ZwM s.hi <;> simp [q1, q2, q3, q4]
def ZkE : Zao -> List Zao -> Bool
 | _, [] => true
 | p, s :: t => Za1 s && ((!decide (p.hi = []) && decide (p.hi = s.lo)) && ZkE s t)
theorem Zsp (p s : Zao) (t : List Zao) : ZkE p (s :: t) = (Za1 s && ((!decide (p.hi = []) && decide (p.hi = s.lo)) && ZkE s t)) := rfl
theorem Zpi : ∀ (f : Tx) (s : Zao) (l : List Zao), Zdc f (s :: l) = (decide (s.lo = f) && (decide (((s :: l).getLast (by simp)).hi = []) && (Za1 s && ZkE s l)))
 | f, s, [] => by
  show (Za1 s && (decide (s.lo = f) && decide (s.hi = []))) = (decide (s.lo = f) && (decide (s.hi = []) && (Za1 s && true)))
  cases Za1 s <;> by_cases h1 : s.lo = f <;> by_cases h2 : s.hi = [] <;> simp [h1, h2]
 | f, s, t :: l => by
  have ih := Zpi s.hi t l
  have e : (s :: t :: l).getLast (by simp) = (t :: l).getLast (by simp) := List.getLast_cons (by simp)
  show (Za1 s && (decide (s.lo = f) && (!decide (s.hi = []) && Zdc s.hi (t :: l)))) = _
  rw [ih, e, Zsp]
  have e2 : decide (t.lo = s.hi) = decide (s.hi = t.lo) := by by_cases h : t.lo = s.hi <;> simp [h, eq_comm]
  rw [e2]
  cases Za1 s <;> cases Za1 t <;> cases ZkE t l <;> by_cases h1 : s.lo = f <;> by_cases h2 : s.hi = [] <;> by_cases h3 : s.hi = t.lo <;> by_cases h4 : ((t :: l).getLast (by simp)).hi = [] <;> simp [h1, h2, h3, h4]
theorem Zz1 {l : List Zao} (hl : l.length <= 140737488355328) (h : ∀ s ∈ l, ZlH s) : ZmZ l = some (Zdc [] l, ()) := by
 unfold ZmZ
 cases l with
 | nil => rfl
 | cons s t =>
 rw [Zpi]
 have hlast : Zbs (s :: t) (IntKind.i64.wrap (((s :: t).length : Int) - 1)) = some ((s :: t).getLast (by simp)) := by
  have : (0 : Nat) < (s :: t).length := by simp
  rw [w64 (by omega), show (((s :: t).length : Int) - 1) = (((s :: t).length - 1 : Nat) : Int) from by omega, ZaE (by omega), List.getLast_eq_getElem]
 refine Zab (dF (by simp; omega)) ?_
 refine Zaa (ZA9 _) ?_
 by_cases h1 : s.lo = []
 ·refine Zab (dF (by simp [h1])) ?_
  refine Zaa hlast ?_
  by_cases h2 : ((s :: t).getLast (by simp)).hi = []
  ·refine Zab (dF (by simp [h2])) ?_
   rw [dT h1, dT h2, Bool.true_and, Bool.true_and]
   clear hlast h2
   generalize hL : s :: t = l at *
   have hpos : 0 < l.length := by rw [<- hL]; simp
   have hval : (Za1 s && ZkE s t) = (Za1 l[0] && ZkE l[0] (l.drop 1)) := by subst hL; rfl
   rw [hval]
   have key : Zas Zhi ((l, 0, ()), ()) = some (if (Za1 l[0] && ZkE l[0] (l.drop 1)) then .inr ((), ()) else .inl ((false, ()), ())) := by
    refine ZgF (fun n a => ∃ i : Nat, a = ((l, (i : Int), ()), ()) /\ i <= l.length /\ (0 < i -> ∃ h : i - 1 < l.length, ZkE l[i-1] (l.drop i) = (Za1 l[0] && ZkE l[0] (l.drop 1))) /\ n = l.length - i) _ ?_ (n := l.length) ⟨0, rfl, Nat.zero_le _, (fun h => absurd h (Nat.lt_irrefl 0)), rfl⟩
    rintro n a ⟨i, rfl, g1, g2, rfl⟩
    unfold Zhi
    dsimp only
    by_cases hi : i < l.length
    ·have ho := h _ (List.getElem_mem hi)
     rw [dT (by omega), cond_true, ZaE hi, Option.bind_some, ZtS ho, Option.bind_some]
     dsimp only
     by_cases h0 : 0 < i
     ·obtain ⟨hp, g2⟩ := g2 h0
      rw [List.drop_eq_getElem_cons hi, Zsp] at g2
      rw [dT (by omega), cond_true, w64 (by omega), show ((i : Int) - 1) = ((i - 1 : Nat) : Int) from by omega, ZaE hp, Option.bind_some, Option.bind_some, Option.bind_some, w64 (by omega)]
      rw [<- g2]
      cases q1 : Za1 l[i]
      ·right; rfl
      ·by_cases q2 : l[i-1].hi = []
       ·right; simp [q2]
       ·by_cases q3 : l[i-1].hi = l[i].lo
        ·left
         refine ⟨l.length - (i + 1), _, by omega, ?_, i + 1, rfl, by omega, fun _ => ⟨by omega, ?_⟩, rfl⟩
         ·have q4 : ¬ l[i].lo = [] := by rw [<- q3]; exact q2
          simp [q3, q4]
         ·have q4 : ¬ l[i].lo = [] := by rw [<- q3]; exact q2
          simp only [Nat.add_sub_cancel]
          simp [q3, q4]
        ·right; simp [q2, q3]
     ·obtain rfl : i = 0 := by omega
      rw [dF (by omega), cond_false]
      cases q1 : Za1 l[0]
      ·right; rfl
      ·left
       exact ⟨l.length - 1, _, by omega, rfl, 1, by rw [w64 (by omega)]; rfl, by omega, fun _ => ⟨by omega, by rw [Bool.true_and]⟩, rfl⟩
    ·right
     obtain rfl : i = l.length := by omega
     obtain ⟨hp, g2⟩ := g2 hpos
     rw [List.drop_length] at g2
     rw [dF (by omega), cond_false, <- g2]
     rfl
   rw [key]
   cases (Za1 l[0] && ZkE l[0] (l.drop 1)) <;> rfl
  ·refine Zag (dT h2) ?_
   rw [dF h2]; simp
 ·refine Zag (dT h1) ?_
  rw [dF h1]; rfl
theorem ZEj {s : Zai} (h : ZyU s) : Zm0 s = some (Za2 s, ()) := by
 have hlen := h.len
 unfold Zm0
 by_cases h1 : s.epoch < 1
 ·refine Zag (dT h1) ?_
  have : Za2 s = false := by unfold Za2; rw [dF (by omega : ¬ 1 <= s.epoch)]; rfl
  rw [this]
 refine Zab (dF h1) ?_
 by_cases h2 : 1073741824 < s.epoch
 ·refine Zag (dT h2) ?_
  have : Za2 s = false := by unfold Za2; rw [dF (by omega : ¬ s.epoch <= 1073741824), Bool.and_false]; rfl
  rw [this]
 refine Zab (dF h2) ?_
 by_cases h3 : (40 : Int) < (s.list.length : Int)
 ·refine Zag (dT h3) ?_
  have : Za2 s = false := by unfold Za2; rw [dF (by omega : ¬ s.list.length <= 40)]; simp
  rw [this]
 refine Zab (dF h3) ?_
 have hrw : Za2 s = (!(s.list.any (ZdA s)) && Zdc [] (s.list.map (·.span))) := by
  unfold Za2
  rw [dT (by omega : 1 <= s.epoch), dT (by omega : s.epoch <= 1073741824), dT (by omega : s.list.length <= 40)]
  rfl
 have key : ∃ z, Zas Zhk (((), [], 0, ()), (s, (), ())) = some z /\ (((∃ e : Unit × Unit, z = .inl ((false, ()), (s, (), ()))) /\ s.list.any (ZdA s) = true) \/ (z = .inr ((s.list.map (·.span), ()), (s, (), (), ())) /\ s.list.any (ZdA s) = false)) := by
  refine Zbx (fun n a => ∃ i : Nat, a = (((), (s.list.take i).map (·.span), (i : Int), ()), (s, (), ())) /\ i <= s.list.length /\ (s.list.take i).any (ZdA s) = false /\ n = s.list.length - i) _ ?_ (n := s.list.length) ⟨0, rfl, Nat.zero_le _, rfl, rfl⟩
  rintro n a ⟨i, rfl, g1, g2, rfl⟩
  unfold Zhk
  by_cases hi : i < s.list.length
  ·have hw : ∀ b, ZdA s s.list[i] = b -> (b = true -> s.list.any (ZdA s) = true) := fun b hb ht => List.any_eq_true.2 ⟨_, List.getElem_mem hi, by rw [hb, ht]⟩
   by_cases q1 : s.list[i].group < 1
   ·right
    exact ⟨_, Zag (dT (by (try dsimp only); omega)) (Zaa (ZaE hi) (Zag (dT q1) rfl)), .inl ⟨⟨((), ()), rfl⟩, hw true (by unfold ZdA; rw [dF (by omega : ¬ 1 <= s.list[i].group)]; rfl) rfl⟩⟩
   by_cases q2 : 4 < s.list[i].group
   ·right
    exact ⟨_, Zag (dT (by (try dsimp only); omega)) (Zaa (ZaE hi) (Zab (dF q1) (Zag (dT q2) rfl))), .inl ⟨⟨((), ()), rfl⟩, hw true (by unfold ZdA; rw [dF (by omega : ¬ s.list[i].group <= 4), Bool.and_false]; rfl) rfl⟩⟩
   by_cases q3 : s.list[i].epoch < 1
   ·right
    exact ⟨_, Zag (dT (by (try dsimp only); omega)) (Zaa (ZaE hi) (Zab (dF q1) (Zab (dF q2) (Zag (dT q3) rfl)))), .inl ⟨⟨((), ()), rfl⟩, hw true (by unfold ZdA; rw [dF (by omega : ¬ 1 <= s.list[i].epoch)]; simp) rfl⟩⟩
   by_cases q4 : s.epoch < s.list[i].epoch
   ·right
    exact ⟨_, Zag (dT (by (try dsimp only); omega)) (Zaa (ZaE hi) (Zab (dF q1) (Zab (dF q2) (Zab (dF q3) (Zag (dT q4) rfl))))), .inl ⟨⟨((), ()), rfl⟩, hw true (by unfold ZdA; rw [dF (by omega : ¬ s.list[i].epoch <= s.epoch)]; simp) rfl⟩⟩
   ·left
    refine ⟨s.list.length - (i + 1), _, by omega, Zag (dT (by (try dsimp only); omega)) (Zaa (ZaE hi) (Zab (dF q1) (Zab (dF q2) (Zab (dF q3) (Zab (dF q4) (Zbk ?_ rfl)))))), i + 1, ?_, by omega, ?_, rfl⟩
    ·dsimp only
     simp only [List.length_map, List.length_take, List.length_cons, List.length_nil]
     omega
    ·dsimp only
     rw [w64 (by omega), List.take_succ_eq_append_getElem hi, List.map_append]
     rfl
    ·rw [List.take_succ_eq_append_getElem hi, List.any_append, g2, Bool.false_or, List.any_cons, List.any_nil, Bool.or_false]
     exact ZyW.2 ⟨⟨by omega, by omega⟩, by omega, by omega⟩
  ·right
   obtain rfl : i = s.list.length := by omega
   rw [List.take_length] at g2 ⊢
   exact ⟨_, Zab (dF (by (try dsimp only); omega)) rfl, .inr ⟨rfl, g2⟩⟩
 obtain ⟨z, hz, ⟨⟨_, rfl⟩, q⟩ | ⟨rfl, q⟩⟩ := key
 ·refine Zaa hz ?_
  rw [hrw, q]
  rfl
 ·refine Zaa hz ?_
  refine Zaa (Zz1 (l := s.list.map (·.span)) (by rw [List.length_map]; omega) (fun x hx => ?_)) ?_
  ·obtain ⟨y, hy, rfl⟩ := List.mem_map.1 hx
   exact h.sp y hy
  ·rw [hrw, q]
   rfl
theorem ZcL {x : Zak} (h : ¬ ((1 <= x.num /\ x.num <= 1073741824) /\ Za1 x.span = true /\ (1 <= x.from_ /\ x.from_ <= 4) /\ (1 <= x.to_ /\ x.to_ <= 4) /\ x.from_ ≠ x.to_ /\ (1 <= x.epoch /\ x.epoch <= 1073741824) /\ (1 <= x.stage /\ x.stage <= 9) /\ (if 4 <= x.stage /\ x.stage <= 6 then x.epoch + 1 <= x.under /\ x.under <= 1073741824 else x.under = 0))) : some (false, ()) = some (Zbu x, ()) := by
 have : Zbu x = false := by
  cases hr : Zbu x
  ·rfl
  ·exact absurd (Zow.1 hr) h
 rw [this]
theorem ZCR {x : Zak} (hx : ZlH x.span) : ZuC x = some (Zbu x, ()) := by
 unfold ZuC
 by_cases h1 : x.num < 1
 ·exact Zag (dT h1) (ZcL fun h => by omega)
 refine Zab (dF h1) ?_
 by_cases h2 : 1073741824 < x.num
 ·exact Zag (dT h2) (ZcL fun h => by omega)
 refine Zab (dF h2) (Zaa (ZtS hx) ?_)
 cases hb : Za1 x.span
 ·exact Zag rfl (ZcL fun h => by rw [hb] at h; exact Bool.false_ne_true h.2.1)
 refine Zab rfl ?_
 by_cases h3 : x.from_ < 1
 ·exact Zag (dT h3) (ZcL fun h => by omega)
 refine Zab (dF h3) ?_
 by_cases h4 : 4 < x.from_
 ·exact Zag (dT h4) (ZcL fun h => by omega)
 refine Zab (dF h4) ?_
 by_cases h5 : x.to_ < 1
 ·exact Zag (dT h5) (ZcL fun h => by omega)
 refine Zab (dF h5) ?_
 by_cases h6 : 4 < x.to_
 ·exact Zag (dT h6) (ZcL fun h => by omega)
 refine Zab (dF h6) ?_
 by_cases h7 : x.from_ = x.to_
 ·exact Zag (dT h7) (ZcL fun h => by omega)
 refine Zab (dF h7) ?_
 by_cases h8 : x.epoch < 1
 ·exact Zag (dT h8) (ZcL fun h => by omega)
 refine Zab (dF h8) ?_
 by_cases h9 : 1073741824 < x.epoch
 ·exact Zag (dT h9) (ZcL fun h => by omega)
 refine Zab (dF h9) ?_
 by_cases h10 : x.stage < 1
 ·exact Zag (dT h10) (ZcL fun h => by omega)
 refine Zab (dF h10) ?_
 by_cases h11 : 9 < x.stage
 ·exact Zag (dT h11) (ZcL fun h => by omega)
 refine Zab (dF h11) ?_
 have base : ∀ {b : Bool}, (b = true ↔ (if 4 <= x.stage /\ x.stage <= 6 then x.epoch + 1 <= x.under /\ x.under <= 1073741824 else x.under = 0)) -> some (b, ()) = some (Zbu x, ()) := fun {b} hb' => by
  congr 2
  rw [Bool.eq_iff_iff, Zow, hb']
  exact ⟨fun h => ⟨by omega, hb, by omega, by omega, h7, by omega, by omega, h⟩, fun h => h.2.2.2.2.2.2.2⟩
 by_cases h12 : 4 <= x.stage
 ·refine Zag (dT h12) ?_
  by_cases h13 : x.stage <= 6
  ·refine Zag (dT h13) ?_
   by_cases h14 : x.epoch < x.under
   ·refine Zag (dT h14) (base ?_)
    rw [if_pos ⟨h12, h13⟩, decide_eq_true_eq]
    omega
   ·refine Zab (dF h14) (base ?_)
    rw [if_pos ⟨h12, h13⟩]
    constructor
    ·intro h; cases h
    ·intro h; omega
  ·refine Zab (dF h13) (base ?_)
   rw [if_neg (by omega), decide_eq_true_eq]
 ·refine Zab (dF h12) (base ?_)
  rw [if_neg (by omega), decide_eq_true_eq]
theorem ZwV (x : Zak) : Zqg x = some (decide (x.stage = 6) || decide (x.stage = 9), ()) := by
 unfold Zqg
 cases decide (x.stage = 6) <;> rfl
end Go.Proofs.YtaihdjknneiciaaGreat
namespace Go.Proofs.YtaihdjknneiciaaGreat
open Go.RowKit
set_option maxRecDepth 100000
set_option linter.unusedVariables false
set_option linter.unusedSimpArgs false
theorem ZEk {o : OB} (h : okL o) : Zqf (rfR o) = some ((if (Zbu (Zdf o).1 && (Zdf o).2.isSome) = true then ((Zdf o).1, true, ()) else (Ziw, false, ())), (rfR (Zdf o).2, ())) := by
 have h1 : (Zcf 20 (ZaB 1073741824 o).2).1.length <= 20 := Ze8
 have h2 : (Zcf 20 (Zcf 20 (ZaB 1073741824 o).2).2).1.length <= 20 := Ze8
 have hok : ZlH (Zdf o).1.span := ⟨by show (Zcf 20 (ZaB 1073741824 o).2).1.length <= _; omega, by show (Zcf 20 (Zcf 20 (ZaB 1073741824 o).2).2).1.length <= _; omega⟩
 have hst := ZgZ 9 (ZaB 1073741824 (ZaB 1073741824 (ZaB 4 (ZaB 4 (Zcf 20 (Zcf 20 (ZaB 1073741824 o).2).2).2).2).2).2).2
 have hw : IntKind.u8.wrap (Zdf o).1.stage = (Zdf o).1.stage := by
  rw [IntKind.wrap_u8]
  have : 0 <= (Zdf o).1.stage /\ (Zdf o).1.stage <= 9 := hst
  omega
 have hR := ZCR hok
 have k1 := Zbc (most := 1073741824) h
 have k2 := ZfZ (most := 20) k1
 have k3 := ZfZ (most := 20) k2
 have k4 := Zbc (most := 4) k3
 have k5 := Zbc (most := 4) k4
 have k6 := Zbc (most := 1073741824) k5
 have k7 := Zbc (most := 1073741824) k6
 unfold Zqf
 refine Zaa (Zde 1073741824 h) (Zaa (ZoG 20 (by omega) k1) (Zaa (ZoG 20 (by omega) k2) (Zaa (Zde 4 k3) (Zaa (Zde 4 k4) (Zaa (Zde 1073741824 k5) (Zaa (Zde 1073741824 k6) (Zaa (Zde 9 k7) ?_)))))))
 have hx : (⟨(ZaB 1073741824 o).1, ⟨(Zcf 20 (ZaB 1073741824 o).2).1, (Zcf 20 (Zcf 20 (ZaB 1073741824 o).2).2).1⟩, (ZaB 4 (Zcf 20 (Zcf 20 (ZaB 1073741824 o).2).2).2).1, (ZaB 4 (ZaB 4 (Zcf 20 (Zcf 20 (ZaB 1073741824 o).2).2).2).2).1, (ZaB 1073741824 (ZaB 4 (ZaB 4 (Zcf 20 (Zcf 20 (ZaB 1073741824 o).2).2).2).2).2).1, (ZaB 1073741824 (ZaB 1073741824 (ZaB 4 (ZaB 4 (Zcf 20 (Zcf 20 (ZaB 1073741824 o).2).2).2).2).2).2).1, IntKind.u8.wrap (ZaB 9 (ZaB 1073741824 (ZaB 1073741824 (ZaB 4 (ZaB 4 (Zcf 20 (Zcf 20 (ZaB 1073741824 o).2).2).2).2).2).2).2).1⟩ : Zak) = (Zdf o).1 := by
  have : IntKind.u8.wrap (ZaB 9 (ZaB 1073741824 (ZaB 1073741824 (ZaB 4 (ZaB 4 (Zcf 20 (Zcf 20 (ZaB 1073741824 o).2).2).2).2).2).2).2).1 = (Zdf o).1.stage := hw
  rw [this]
  rfl
 show (bif (rfR (Zdf o).2).failed then _ else _) = _
 rw [Zy1]
 cases hs : (Zdf o).2 with
 | none =>
  refine Zag rfl ?_
  show some ((Ziw, false, ()), (rfR (Zdf o).2, ())) = _
  rw [hs, Option.isSome_none, Bool.and_false, if_neg Bool.false_ne_true]
 | some r =>
  refine Zab rfl ?_
  dsimp only
  rw [hx]
  refine Zaa hR ?_
  cases hr : Zbu (Zdf o).1 with
  | false =>
   refine Zag rfl ?_
   show some ((Ziw, false, ()), (rfR (Zdf o).2, ())) = _
   rw [hs]; rfl
  | true =>
   refine Zab rfl ?_
   show some (((Zdf o).1, true, ()), (rfR (Zdf o).2, ())) = _
   rw [hs]; rfl
theorem ZtT {o : OB} (h : okL o) : okL (ZlI o).2 := Zbc (Zbc (ZfZ (ZfZ h)))
theorem Zme : ∀ (n : Nat) (out : List Zaf) (o : OB), okL o -> okL (ZdD n out o).2
 | 0, out, o, h => h
 | n + 1, out, o, h => Zme n _ _ (ZtT h)
theorem Zy2 {o : OB} (h : okL o) : okL (Zdf o).2 := Zbc (Zbc (Zbc (Zbc (Zbc (ZfZ (ZfZ (Zbc h)))))))
theorem ZBx {l : List UInt8} (h : l.length <= 140737488355328) : okL (Zdd l).2 := by
 have h0 : okL (some l) := h
 have h1 := Zk8 (Zme (ZaB 40 (ZaB 1073741824 (some l)).2).1.toNat [] _ (Zbc (most := 40) (Zbc (most := 1073741824) h0)))
 unfold Zdd
 dsimp only
 split
 ·split
  ·split
   ·exact Zy2 h1
   ·exact Zy2 h1
  ·exact h1
 ·exact h1
def Zp4 (u : Bool) (x : Zak) : List Zak := if u = true then [x] else []
theorem Zy3 {l : List UInt8} (hl : l.length <= 140737488355328) : Zm1 (rfR (some l)) = some (((Zdd l).1.1, (0, (Zp4 (Zdd l).1.2.1 (Zdd l).1.2.2.1).length, (Zp4 (Zdd l).1.2.1 (Zdd l).1.2.2.1).length), (Zdd l).1.2.2.2, ()), (rfR (Zdd l).2, Zp4 (Zdd l).1.2.1 (Zdd l).1.2.2.1, ())) := by
 have h0 : okL (some l) := hl
 have b1 := Zde 1073741824 h0
 have k1 := Zbc (most := 1073741824) h0
 unfold Zdd
 dsimp only
 generalize ZaB 1073741824 (some l) = e at b1 k1
 have b2 := Zde 40 k1
 have k2 := Zbc (most := 40) k1
 have hm := ZgZ 40 e.2
 generalize ZaB 40 e.2 = m at b2 k2 hm
 obtain ⟨N, hN⟩ : ∃ N : Nat, m.1 = (N : Int) := ⟨m.1.toNat, by omega⟩
 have key : ∀ (k i : Nat) (out : List Zaf) (o : OB), okL o -> i + k = N -> out.length = i -> Zas ZgM (((), (), (), (N : Int), (i : Int), ()), (rfR o, (0, [], ()), (e.1, out, ()), (), (), ())) = some (((), (), (), ()), (rfR (ZdD k out o).2, (0, [], ()), (e.1, (ZdD k out o).1, ()), (), (), (), (), ())) := by
  intro k
  induction k with
  | zero =>
   intro i out o ho hi hl
   refine Zat ?_
   unfold ZgM
   exact Zab (dF (by (try dsimp only); omega)) rfl
  | succ k ih =>
   intro i out o ho hi hl
   have q1 := ZfZ (most := 20) ho
   have q2 := ZfZ (most := 20) q1
   have q3 := Zbc (most := 1073741824) q2
   refine (ZaC ?_).trans (ih (i + 1) (out ++ [(ZlI o).1]) (ZlI o).2 (ZtT ho) (by omega) (by simp [hl]))
   unfold ZgM
   refine Zag (dT (by (try dsimp only); omega)) (Zaa (ZoG 20 (by omega) ho) (Zaa (ZoG 20 (by omega) q1) (Zaa (Zde 1073741824 q2) (Zaa (Zde 1073741824 q3) (Zbk (by (try dsimp only); simp only [List.length_singleton]; omega) ?_)))))
   dsimp only
   rw [w64 (by omega)]
   rfl
 have kk := key N 0 [] m.2 k2 (by omega) rfl
 have hlen := Zjc N [] m.2
 have hoks := ZoC N [] m.2 (fun x hx => by simp at hx)
 have k3 := Zme N [] m.2 k2
 rw [show m.1.toNat = N by omega]
 generalize ZdD N [] m.2 = sh at kk hlen hoks k3
 have hF := Zvf k3
 have k4 := Zk8 k3
 generalize ZeQ sh.2 = f at hF k4
 have hs : ZyU ⟨e.1, sh.1⟩ := ⟨by (try dsimp only); simp only [List.length_nil] at hlen; omega, hoks⟩
 have hR := ZEj hs
 unfold Zm1
 refine Zaa b1 (Zaa b2 ?_)
 dsimp only
 rw [hN]
 refine Zaa kk (Zaa hF ?_)
 dsimp only
 rw [Zy1]
 cases h2 : f.2 with
 | none =>
  rw [if_neg (by simp)]
  exact Zag rfl rfl
 | some r =>
  refine Zab rfl (Zaa hR ?_)
  cases hw : Za2 ⟨e.1, sh.1⟩ with
  | false =>
   rw [if_neg (by simp)]
   exact Zag rfl rfl
  | true =>
   rw [if_pos (by simp)]
   refine Zab rfl ?_
   cases hu : f.1 with
   | false =>
    rw [if_neg (by simp)]
    exact Zag rfl rfl
   | true =>
    rw [if_pos rfl]
    have hS := ZEk (o := some r) (by rw [h2] at k4; exact k4)
    refine Zab rfl ?_
    by_cases hg : Zbu (Zdf (some r)).1 = true /\ (Zdf (some r)).2.isSome = true /\ ¬ (Zdf (some r)).1.stage = 6 /\ ¬ (Zdf (some r)).1.stage = 9
    ·rw [if_pos hg]
     obtain ⟨g1, g2, g3, g4⟩ := hg
     rw [if_pos (by rw [g1, g2]; rfl)] at hS
     have hov := ZwV (Zdf (some r)).1
     rw [dF g3, dF g4] at hov
     exact Zaa hS (Zab rfl (Zaa hov (Zab rfl rfl)))
    ·rw [if_neg hg]
     by_cases hq : (Zbu (Zdf (some r)).1 && (Zdf (some r)).2.isSome) = true
     ·rw [if_pos hq] at hS
      simp only [Bool.and_eq_true] at hq
      have hov := ZwV (Zdf (some r)).1
      have : (decide ((Zdf (some r)).1.stage = 6) || decide ((Zdf (some r)).1.stage = 9)) = true := by
       by_cases q1 : (Zdf (some r)).1.stage = 6
       ·simp [q1]
       ·by_cases q2 : (Zdf (some r)).1.stage = 9
        ·simp [q2]
        ·exact absurd ⟨hq.1, hq.2, q1, q2⟩ hg
      rw [this] at hov
      exact Zaa hS (Zab rfl (Zaa hov (Zag rfl rfl)))
     ·rw [if_neg hq] at hS
      exact Zaa hS (Zag rfl rfl)
theorem ZEl {l : List UInt8} (hl : l.length <= 100000) : ∃ r, Zdq l = some (r, ()) /\ Zhm l = some (r, ()) /\ r.1.list.length <= 1000 := by
 have hP := ZDl l
 have hV := Zy3 (l := l) (by omega)
 have hlen : (Zdd l).1.1.list.length <= 1000 := by
  have hm := ZgZ 40 (ZaB 1073741824 (some l)).2
  have := Zjc (ZaB 40 (ZaB 1073741824 (some l)).2).1.toNat [] (ZaB 40 (ZaB 1073741824 (some l)).2).2
  simp only [List.length_nil] at this
  unfold Zdd
  dsimp only
  split
  ·split
   ·split
    ·dsimp only; omega
    ·simp
   ·dsimp only; omega
  ·simp
 have hfa : (Zdd l).1.2.2.2 = true -> (Zdd l).1.2.1 = false -> (Zdd l).1.2.2.1 = Ziw := by
  unfold Zdd
  dsimp only
  split
  ·split
   ·split
    ·intro _ h; cases h
    ·intro h; cases h
   ·intro _ _; rfl
  ·intro h; cases h
 generalize Zdd l = p at hP hV hlen hfa
 have hN : Zcc l = some ((), ((true, false, l, ()), (), ())) := by
  unfold Zcc ZiU
  exact Zaa (Zbk (by omega) rfl) rfl
 unfold Zdq Zhm
 cases hok : p.1.2.2.2 with
 | false =>
  rw [hok] at hP hV
  exact ⟨_, Zaa hN (Zaa hP (Zag rfl rfl)), Zaa hV (Zag rfl rfl), by simp⟩
 | true =>
  rw [hok] at hP hV
  have hE : ZiX (rdR p.2) = some ((if p.2 = some [] then 0 else 4), (rdR p.2, ())) := by
   unfold ZiX
   cases p.2 with
   | none => exact Zab rfl (Zag rfl rfl)
   | some q =>
    refine Zab rfl (Zab rfl ?_)
    cases q with
    | nil => exact Zab rfl rfl
    | cons b q =>
     rw [if_neg (by simp)]
     exact Zag (dT (by show (0 : Int) < ((b :: q).length : Int); rw [List.length_cons]; omega)) rfl
  have hE2 := ZEi p.2
  by_cases he : p.2 = some []
  ·rw [if_pos he] at hE hE2
   cases hu : p.1.2.1 with
   | false =>
    rw [hu] at hP hV
    have hx := hfa hok hu
    rw [hx] at hP hV
    exact ⟨(p.1.1, Ziw, false, true, ()), Zaa hN (Zaa hP (Zab rfl (Zaa hE (Zab rfl rfl)))), Zaa hV (Zab rfl (Zaa hE2 (Zab rfl (Zag rfl rfl)))), hlen⟩
   | true =>
    rw [hu] at hP hV
    exact ⟨(p.1.1, p.1.2.2.1, true, true, ()), Zaa hN (Zaa hP (Zab rfl (Zaa hE (Zab rfl rfl)))), Zaa hV (Zab rfl (Zaa hE2 (Zab rfl (Zab rfl (Zbk (by show (0 : Int) <= 0 /\ (0 : Int) < ((1 : Nat) : Int); omega) rfl))))), hlen⟩
  ·rw [if_neg he] at hE hE2
   exact ⟨_, Zaa hN (Zaa hP (Zab rfl (Zaa hE (Zag rfl rfl)))), Zaa hV (Zab rfl (Zaa hE2 (Zag rfl rfl))), by simp⟩
end Go.Proofs.YtaihdjknneiciaaGreat
namespace Go.Proofs.YtaihdjknneiciaaGreat
open Go.RowKit
set_option maxRecDepth 100000
set_option linter.unusedVariables false
set_option linter.unusedSimpArgs false
def v2 (v : Zac) : Zae := ⟨v.name, v.commit, v.at_, v.reads⟩
theorem ZBy {x : ZaZ} (hx : OkT x.key) : Zgi x = some (!ZbR x, ()) := by
 unfold Zgi ZbR
 refine Zaa (Zvg hx) ?_
 dsimp only
 cases ZwM x.key with
 | false => rfl
 | true =>
  by_cases h : 20 < x.value.length
  ·refine Zag rfl (Zab (dF (by omega)) ?_)
   rw [dT h]; rfl
  ·refine Zag rfl (Zag (dT (by omega)) ?_)
   rw [dF h]
   cases x.is with
   | true => rfl
   | false =>
    refine Zab rfl ?_
    by_cases hv : x.value = [] <;> simp [hv]
theorem Zya {v : Zac} (hx : ∀ x ∈ v.reads, OkT x.key) (hl : v.reads.length <= 140737488355328) : ∃ z, Zas ZfO (((), 0, ()), (v2 v, ())) = some z /\ ((v.reads.any ZbR = true /\ z = .inl ((false, ()), (v2 v, ()))) \/ (v.reads.any ZbR = false /\ z = .inr ((), (v2 v, ())))) := by
 refine Zbx (fun m a => ∃ i : Nat, a = (((), (i : Int), ()), (v2 v, ())) /\ i <= v.reads.length /\ (v.reads.take i).any ZbR = false /\ m = v.reads.length - i) _ ?_ (n := v.reads.length) ⟨0, rfl, Nat.zero_le _, rfl, rfl⟩
 rintro m a ⟨i, rfl, h1, h2, rfl⟩
 unfold ZfO
 by_cases hi : i < v.reads.length
 ·have hp := ZBy (hx _ (List.getElem_mem hi))
  cases hr : ZbR v.reads[i] with
  | false =>
   left
   rw [hr] at hp
   refine ⟨v.reads.length - (i + 1), _, by omega, Zag (dT (by show (i : Int) < (v.reads.length : Int); omega)) (Zaa (v := v.reads[i]) (ZaE hi) (Zaa hp (Zab rfl rfl))), i + 1, ?_, by omega, ?_, rfl⟩
   ·dsimp only
    rw [w64 (by omega)]; rfl
   ·rw [List.take_succ_eq_append_getElem hi, List.any_append, h2]; simp [hr]
  | true =>
   right
   rw [hr] at hp
   exact ⟨_, Zag (dT (by show (i : Int) < (v.reads.length : Int); omega)) (Zaa (v := v.reads[i]) (ZaE hi) (Zaa hp (Zag rfl rfl))), .inl ⟨List.any_eq_true.2 ⟨_, List.getElem_mem hi, hr⟩, rfl⟩⟩
 ·right
  obtain rfl : i = v.reads.length := by omega
  rw [List.take_length] at h2
  exact ⟨_, Zab (dF (by show ¬ (v.reads.length : Int) < (v.reads.length : Int); omega)) rfl, .inr ⟨h2, rfl⟩⟩
theorem vNo {v : Zac} (h : ¬ ((1 <= v.name.client /\ v.name.client <= 8) /\ (1 <= v.name.num /\ v.name.num <= 1073741824) /\ (1 <= v.at_ /\ v.at_ <= 1073741824) /\ v.reads.length <= 6 /\ (v.commit = true \/ v.reads.length = 0) /\ v.reads.any ZbR = false)) : (some (false, ()) : Option (Bool × Unit)) = some (Zbo v, ()) := by
 have : Zbo v = false := by
  cases hr : Zbo v
  ·rfl
  ·exact absurd (Zce.1 hr) h
 rw [this]
theorem ZBz {v : Zac} (hx : ∀ x ∈ v.reads, OkT x.key) (hl : v.reads.length <= 140737488355328) : Zm6 (v2 v) = some (Zbo v, ()) := by
 obtain ⟨z, hz, hz2⟩ := Zya hx hl
 have hN : Zqj v.name = some (decide (1 <= v.name.client) && (decide (v.name.client <= 8) && (decide (1 <= v.name.num) && decide (v.name.num <= 1073741824))), ()) := by
  unfold Zqj
  cases decide ((1 : Int) <= v.name.client) <;> cases decide (v.name.client <= (8 : Int)) <;> cases decide ((1 : Int) <= v.name.num) <;> rfl
 unfold Zm6
 refine Zaa hN ?_
 dsimp only
 by_cases hn : (1 <= v.name.client /\ v.name.client <= 8) /\ (1 <= v.name.num /\ v.name.num <= 1073741824)
 rotate_left
 ·refine Zag ?_ (vNo fun h => hn ⟨h.1, h.2.1⟩)
  rw [Bool.not_eq_true', Bool.eq_false_iff]
  intro hh
  simp only [Bool.and_eq_true, decide_eq_true_eq] at hh
  exact hn ⟨⟨hh.1, hh.2.1⟩, hh.2.2⟩
 obtain ⟨⟨n1, n2⟩, n3, n4⟩ := hn
 refine Zab (by rw [dT n1, dT n2, dT n3, dT n4]; rfl) ?_
 show (bif decide (v.at_ < 1) then _ else _) = _
 by_cases h1 : v.at_ < 1
 ·exact Zag (dT h1) (vNo fun h => by omega)
 refine Zab (dF h1) ?_
 by_cases h2 : 1073741824 < v.at_
 ·exact Zag (dT h2) (vNo fun h => by omega)
 refine Zab (dF h2) ?_
 by_cases h3 : (6 : Int) < (v.reads.length : Int)
 ·exact Zag (dT h3) (vNo fun h => by omega)
 refine Zab (dF h3) ?_
 have fin : ∀ {α : Type} {b : Bool}, (v.commit = true \/ v.reads.length = 0) -> (b = !v.reads.any ZbR) -> some (b, ()) = some (Zbo v, ()) := fun {α b} hc hb => by
  congr 2
  rw [hb, Bool.eq_iff_iff, Zce, Bool.not_eq_true']
  exact ⟨fun h => ⟨⟨n1, n2⟩, ⟨n3, n4⟩, ⟨by omega, by omega⟩, by omega, hc, h⟩, fun h => h.2.2.2.2.2⟩
 cases hc : v.commit with
 | false =>
  refine Zag (by show (!v.commit) = true; rw [hc]; rfl) ?_
  by_cases h4 : (0 : Int) < (v.reads.length : Int)
  ·refine Zag (dT h4) (vNo fun h => ?_)
   rcases h.2.2.2.2.1 with h | h
   ·rw [hc] at h; cases h
   ·omega
  ·refine Zab (dF h4) (Zaa hz ?_)
   rcases hz2 with ⟨e, rfl⟩ | ⟨e, rfl⟩
   ·exact fin (α := Unit) (.inr (by omega)) (by rw [e]; rfl)
   ·exact fin (α := Unit) (.inr (by omega)) (by rw [e]; rfl)
 | true =>
  refine Zab (by show (!v.commit) = false; rw [hc]; rfl) (Zaa hz ?_)
  rcases hz2 with ⟨e, rfl⟩ | ⟨e, rfl⟩
  ·exact fin (α := Unit) (.inl hc) (by rw [e]; rfl)
  ·exact fin (α := Unit) (.inl hc) (by rw [e]; rfl)
theorem ZnC {v : Zac} (h : v.reads.length <= 1000) : ZbT (v2 v) = some (v2 v, ()) := by
 unfold ZbT Zj7
 exact Zaa (Zbk (by show v.reads.length <= _ /\ v.reads.length * 40 <= _; omega) rfl) rfl
theorem ZBA {l : List Zac} {m : Nm} (h : Zjp l m) (hl : l.length <= 1000000) (n : ZfX) :
 (ZiI (.two .i64 .i64) m (nk n) = none /\ Zo9 n (l.map v2, ()) = some ((v2 noV, false, ()), ((l.map v2, ()), (), (), ()))) \/
 (∃ (k : Nat) (hk : k < l.length), nk l[k].name = nk n /\ Zo9 n (l.map v2, ()) = some ((v2 l[k], true, ()), ((l.map v2, ()), (), (), ()))) := by
 have key : ∃ z, Zas Zm4 (((), (), (), 0, ()), ((l.map v2, ()), n, (0, 0, false, 0, [], ()), (), (), ())) = some z /\
  (((∀ (j : Nat) (hj : j < l.length), nk l[j].name ≠ nk n) /\ z = .inr (((), ()), ((l.map v2, ()), n, (0, 0, false, 0, [], ()), (), (), (), (), ()))) \/
   (∃ (k : Nat) (hk : k < l.length), nk l[k].name = nk n /\ z = .inl (((), true, ()), ((l.map v2, ()), n, v2 l[k], (), (), (), ())))) := by
  refine Zbx (fun q a => ∃ i : Nat, a = (((), (), (), (i : Int), ()), ((l.map v2, ()), n, (0, 0, false, 0, [], ()), (), (), ())) /\ i <= l.length /\ (∀ (j : Nat) (hj : j < l.length), j < i -> nk l[j].name ≠ nk n) /\ q = l.length - i) _ ?_ (n := l.length) ⟨0, rfl, Nat.zero_le _, fun j hj h => absurd h (Nat.not_lt_zero j), rfl⟩
  rintro q a ⟨i, rfl, h1, h2, rfl⟩
  unfold Zm4
  by_cases hi : i < l.length
  ·have hg : Zbs (l.map v2) (i : Int) = some (v2 l[i]) := by rw [Zfa, List.getElem?_map, List.getElem?_eq_getElem hi]; rfl
   have hlt : decide ((i : Int) < (((l.map v2).length : Nat) : Int)) = true := dT (by rw [List.length_map]; omega)
   by_cases he : nk l[i].name = nk n
   ·right
    have hv := h.few _ (List.getElem_mem hi)
    have e1 : l[i].name.client = n.client := congrArg Prod.fst he
    have e2 : l[i].name.num = n.num := congrArg Prod.snd he
    exact ⟨_, Zag hlt (Zaa hg (Zag (by show (decide (l[i].name.client = n.client) && (decide (l[i].name.num = n.num) && true)) = true; rw [dT e1, dT e2]; rfl) (Zaa hg (Zaa (ZnC (by omega)) rfl)))), .inr ⟨i, hi, he, rfl⟩⟩
   ·left
    refine ⟨l.length - (i + 1), _, by omega, Zag hlt (Zaa hg (Zab ?_ rfl)), i + 1, ?_, by omega, ?_, rfl⟩
    ·show (decide (l[i].name.client = n.client) && (decide (l[i].name.num = n.num) && true)) = false
     rw [Bool.eq_false_iff]
     intro hh
     simp only [Bool.and_true, Bool.and_eq_true, decide_eq_true_eq] at hh
     exact he (Prod.ext hh.1 hh.2)
    ·dsimp only
     rw [w64 (by omega)]; rfl
    ·intro j hj hji
     rcases Nat.lt_or_ge j i with c | c
     ·exact h2 j hj c
     ·obtain rfl : j = i := by omega
      exact he
  ·right
   obtain rfl : i = l.length := by omega
   exact ⟨_, Zab (dF (by (try dsimp only); rw [List.length_map]; omega)) rfl, .inl ⟨fun j hj => h2 j hj hj, rfl⟩⟩
 obtain ⟨z, hz, ⟨h1, rfl⟩ | ⟨k, hk, h1, rfl⟩⟩ := key
 ·left
  refine ⟨?_, by unfold Zo9; exact Zaa hz rfl⟩
  cases hg : ZiI (.two .i64 .i64) m (nk n) with
  | none => rfl
  | some i =>
   obtain ⟨k, hk, _, hn⟩ := h.of_ _ _ hg
   exact absurd hn (h1 k hk)
 ·right
  exact ⟨k, hk, h1, by unfold Zo9; exact Zaa hz rfl⟩
theorem Zyb {l : List Zac} {m : Nm} (h : Zjp l m) (v : Zac) (hv : v.reads.length <= 1000) (hx : ∀ x ∈ v.reads, OkT x.key) (hl : l.length <= 1000000) :
 Zik (v2 v) (l.map v2, ()) = some ((v2 (ZlJ l m v).1.1, (ZlJ l m v).1.2, ()), (((ZlJ l m v).2.1.map v2, ()), (), (), ())) := by
 have hb := ZBz hx (by omega)
 unfold Zik
 refine Zaa hb ?_
 unfold ZlJ
 cases hr : Zbo v with
 | false => exact Zag rfl rfl
 | true =>
  rw [if_pos rfl]
  refine Zab rfl ?_
  rcases ZBA h hl v.name with ⟨h1, h2⟩ | ⟨k, hk', h1, h2⟩
  ·rw [h1]
   refine Zaa h2 (Zab rfl ?_)
   dsimp only
   have hc1 := ZnC (v := v) hv
   have grow : ∀ {z : Option ((Zae × Int × Unit) × ((List Zae × Unit) × Unit × Unit × Unit))}, some ((v2 v, 0, ()), (((l.map v2 ++ [v2 v]), ()), (), (), ())) = z -> ((ZbT (v2 v)).bind fun r4 => (if (l.map v2).length + ([r4.1] : List Zae).length <= 140737488355328 /\ ((l.map v2).length + ([r4.1] : List Zae).length) * 56 <= 140737488355328 then (ZbT (v2 v)).bind fun r5 => some ((r5.1, 0, ()), (((l.map v2 ++ ([r4.1] : List Zae)), ()), (), (), ())) else none)) = z := fun hz => by
    refine Zaa hc1 (Zbk ?_ (Zaa hc1 hz))
    simp only [List.length_map, List.length_singleton]
    omega
   by_cases h0 : (0 : Int) < (((l.map v2).length : Nat) : Int)
   ·refine Zag (dT h0) ?_
    rw [List.length_map] at h0
    have hne : l ≠ [] := fun e => by rw [e] at h0; simp at h0
    have hg : Zbs (l.map v2) (IntKind.i64.wrap ((((l.map v2).length : Nat) : Int) - 1)) = some (v2 l[l.length - 1]) := by
     rw [List.length_map, w64 (by omega), show (l.length : Int) - 1 = ((l.length - 1 : Nat) : Int) by omega, Zfa, List.getElem?_map, List.getElem?_eq_getElem (by omega)]; rfl
    have hla : Zvc l = l[l.length - 1].at_ := by
     unfold Zvc
     rw [List.getLast?_eq_getElem?, List.getElem?_eq_getElem (by omega)]; rfl
    refine Zaa hg ?_
    show (bif decide (v.at_ <= l[l.length - 1].at_) then _ else _) = _
    rw [<- hla]
    by_cases hc : v.at_ <= Zvc l
    ·rw [if_pos hc]
     exact Zag (dT hc) rfl
    ·rw [if_neg hc]
     refine Zab (dF hc) (grow ?_)
     simp
   ·refine Zab (dF h0) ?_
    rw [List.length_map] at h0
    have he : l = [] := List.eq_nil_of_length_eq_zero (by omega)
    have hc : ¬ v.at_ <= Zvc l := by
     obtain ⟨_, _, q, _⟩ := Zce.1 hr
     rw [he]
     show ¬ v.at_ <= 0
     omega
    rw [if_neg hc]
    refine grow ?_
    simp
  ·have hm := h.at_ k hk'
   rw [h1] at hm
   rw [hm]
   refine Zaa h2 (Zag rfl ?_)
   dsimp only
   rw [Int.toNat_natCast, List.getD_eq_getElem?_getD, List.getElem?_eq_getElem hk']
   rfl
def Zsv : OB -> Nat
 | some l => l.length
 | none => 0
theorem Zy4 {most : Nat} {o : OB} {r : List UInt8} (h : (ZaB most o).2 = some r) : r.length + 1 <= Zsv o := by
 unfold ZaB at h
 cases o with
 | none => cases h
 | some l =>
  dsimp only at h
  cases hn : ZDj most l with
  | none => rw [hn] at h; cases h
  | some p =>
   rw [hn] at h
   injection h with h
   subst h
   unfold ZDj at hn
   obtain ⟨q, hq, hn⟩ := Zah hn
   split at hn
   ·cases hn
   ·injection hn with hn
    subst hn
    exact (Zqm _ _ _ _ hq).2.1
theorem ZbC {most : Nat} {o : OB} : Zsv (ZaB most o).2 <= Zsv o := by
 cases h : (ZaB most o).2 with
 | none => exact Nat.zero_le _
 | some r => have := Zy4 h; show r.length <= _; omega
theorem Ziz {most : Nat} {o : OB} : Zsv (Zcf most o).2 <= Zsv o := by
 have h := ZbC (most := most) (o := o)
 unfold Zcf
 cases hn : (ZaB most o).2 with
 | none => exact Nat.zero_le _
 | some l =>
  rw [hn] at h
  have h : l.length <= Zsv o := h
  dsimp only
  split
  ·exact Nat.zero_le _
  ·show (List.drop _ l).length <= _
   rw [List.length_drop]; omega
theorem ZoH {o : OB} : Zsv (ZeQ o).2 <= Zsv o := by
 cases o with
 | none => exact Nat.le_refl _
 | some l =>
  cases l with
  | nil => exact Nat.le_refl _
  | cons b l =>
   rw [Zk7]
   split
   ·exact Nat.zero_le _
   ·show l.length <= (b :: l).length
    simp
theorem Zsq : ∀ (n : Nat) (out : List ZaZ) (o : OB), Zsv (ZhK n out o).2 <= Zsv o /\ (o = none -> (ZhK n out o).2 = none)
 | 0, out, o => ⟨Nat.le_refl _, fun h => h⟩
 | n + 1, out, o => by
  obtain ⟨h1, h2⟩ := Zsq n (out ++ [(ZoF o).1]) (ZoF o).2
  refine ⟨Nat.le_trans h1 (Nat.le_trans Ziz (Nat.le_trans ZoH Ziz)), fun h => h2 (by subst h; rfl)⟩
theorem Zvh {o : OB} {r : List UInt8} (h : (Zgt o).2 = some r) : r.length + 1 <= Zsv o := by
 unfold Zgt at h
 dsimp only at h
 obtain ⟨h1, h2⟩ := Zsq (ZaB 6 (ZeQ (ZaB 1073741824 (ZaB 1073741824 (ZaB 1073741824 o).2).2).2).2).1.toNat [] (ZaB 6 (ZeQ (ZaB 1073741824 (ZaB 1073741824 (ZaB 1073741824 o).2).2).2).2).2
 rw [h] at h1 h2
 have h1 : r.length <= _ := h1
 have a1 := ZbC (most := 6) (o := (ZeQ (ZaB 1073741824 (ZaB 1073741824 (ZaB 1073741824 o).2).2).2).2)
 have a2 := ZoH (o := (ZaB 1073741824 (ZaB 1073741824 (ZaB 1073741824 o).2).2).2)
 have a3 := ZbC (most := 1073741824) (o := (ZaB 1073741824 (ZaB 1073741824 o).2).2)
 have a4 := ZbC (most := 1073741824) (o := (ZaB 1073741824 o).2)
 cases hn : (ZaB 1073741824 o).2 with
 | none =>
  rw [hn] at h2
  exact absurd (h2 rfl) (by simp)
 | some q =>
  have := Zy4 hn
  rw [hn] at a4
  have a4 : Zsv (ZaB 1073741824 (some q)).2 <= q.length := a4
  rw [hn] at a1 a2 a3 h1
  omega
theorem ZtU : ∀ (n : Nat) (out : List ZaZ) (o : OB), okL o -> okL (ZhK n out o).2
 | 0, out, o, h => h
 | n + 1, out, o, h => ZtU n _ _ (ZfZ (Zk8 (ZfZ h)))
theorem ZtV : ∀ (n : Nat) (out : List ZaZ) (o : OB), (ZhK n out o).1.length = out.length + n /\ ((∀ x ∈ out, OkT x.key) -> ∀ x ∈ (ZhK n out o).1, OkT x.key)
 | 0, out, o => ⟨rfl, fun h => h⟩
 | n + 1, out, o => by
  obtain ⟨h1, h2⟩ := ZtV n (out ++ [(ZoF o).1]) (ZoF o).2
  refine ⟨by rw [show ZhK (n + 1) out o = ZhK n (out ++ [(ZoF o).1]) (ZoF o).2 from rfl, h1, List.length_append, List.length_singleton]; omega, fun h => h2 fun x hx => ?_⟩
  rcases List.mem_append.1 hx with hx | hx
  ·exact h x hx
  ·rw [List.mem_singleton.1 hx]; exact ZCP o
theorem Zvi (o : OB) : (Zgt o).1.reads.length <= 6 /\ ∀ x ∈ (Zgt o).1.reads, OkT x.key := by
 have hk := ZgZ 6 (ZeQ (ZaB 1073741824 (ZaB 1073741824 (ZaB 1073741824 o).2).2).2).2
 obtain ⟨h1, h2⟩ := ZtV (ZaB 6 (ZeQ (ZaB 1073741824 (ZaB 1073741824 (ZaB 1073741824 o).2).2).2).2).1.toNat [] (ZaB 6 (ZeQ (ZaB 1073741824 (ZaB 1073741824 (ZaB 1073741824 o).2).2).2).2).2
 refine ⟨?_, h2 (fun x hx => by simp at hx)⟩
 show (ZhK _ [] _).1.length <= 6
 rw [h1]
 simp only [List.length_nil]
 omega
theorem ZCS {o : OB} (h : okL o) : okL (Zgt o).2 := ZtU _ _ _ (Zbc (Zk8 (Zbc (Zbc (Zbc h)))))
noncomputable def Zd5 : Nat -> List Zac -> Nm -> OB -> Option (List Zac × Nm) × OB
 | 0, l, m, o => (some (l, m), o)
 | n + 1, l, m, o =>
  if (ZiI (.two .i64 .i64) m (nk (Zgt o).1.name)).isSome = true \/ (Zgt o).2 = none \/ (ZlJ l m (Zgt o).1).1.2 ≠ 0 then (none, (Zgt o).2)
  else Zd5 n (ZlJ l m (Zgt o).1).2.1 (ZlJ l m (Zgt o).1).2.2 (Zgt o).2
theorem Zy5 : ∀ (n : Nat) (l : List Zac) (m : Nm) (o : OB), Bks l m -> l.length + Zsv o <= 4500 -> ∀ l' m', (Zd5 n l m o).1 = some (l', m') -> Bks l' m' /\ l'.length <= 4500
 | 0, l, m, o, hb, hl, l', m', h => by
  injection h with h
  injection h with h1 h2
  subst h1 h2
  exact ⟨hb, by omega⟩
 | n + 1, l, m, o, hb, hl, l', m', h => by
  unfold Zd5 at h
  split at h
  ·cases h
  ·rename_i hc
   obtain ⟨_, hc2, _⟩ : ¬ (ZiI (.two .i64 .i64) m (nk (Zgt o).1.name)).isSome = true /\ ¬ (Zgt o).2 = none /\ ¬ (ZlJ l m (Zgt o).1).1.2 ≠ 0 := ⟨fun q => hc (.inl q), fun q => hc (.inr (.inl q)), fun q => hc (.inr (.inr q))⟩
   obtain ⟨r, hr⟩ : ∃ r, (Zgt o).2 = some r := by
    cases hq : (Zgt o).2 with
    | none => exact absurd hq hc2
    | some r => exact ⟨r, rfl⟩
   have hd := Zvh hr
   obtain ⟨k1, k2, _⟩ := hb.dec (Zvi o).2 (by omega)
   refine Zy5 n _ _ _ k1 ?_ l' m' h
   rw [hr]
   show _ + r.length <= _
   omega
theorem ZEm (N : Nat) (hN : N <= 1073741824) : ∀ (n i : Nat) (l : List Zac) (m : Nm) (o : OB), Bks l m -> l.length + Zsv o <= 4500 -> i + n = N ->
 ∃ z, Zas Za5 (((), (), (), (N : Int), (i : Int), ()), (((), ()), (l, (), ()), rdR o, m, (), ())) = some z /\
  (((Zd5 n l m o).1 = none /\ ∃ l' m', z = .inl (((), false, ()), (((), ()), (l', (), ()), rdR (Zd5 n l m o).2, m', (), (), ()))) \/
   ∃ l' m', (Zd5 n l m o).1 = some (l', m') /\ z = .inr (((), (), ()), (((), ()), (l', (), ()), rdR (Zd5 n l m o).2, m', (), (), ()))) := by
 intro n
 induction n with
 | zero =>
  intro i l m o hb hl hi
  refine ⟨_, Zat (by unfold Za5; exact Zab (dF (by (try dsimp only); omega)) rfl), .inr ⟨l, m, rfl, rfl⟩⟩
 | succ n ih =>
  intro i l m o hb hl hi
  have ho := ZGz o
  obtain ⟨f1, f2⟩ := Zvi o
  rcases ZFl hb.ok (Zgt o).1.name with ⟨g1, g2⟩ | ⟨k, hk, g1, g2⟩
  ·cases hv : (Zgt o).2 with
   | none =>
    have hn : Zd5 (n + 1) l m o = (none, none) := by unfold Zd5; rw [if_pos (.inr (.inl hv)), hv]
    rw [hn]
    rw [hv] at ho
    refine ⟨_, Zat (step := Za5) (b := .inl _) ?_, .inl ⟨rfl, l, m, rfl⟩⟩
    unfold Za5
    exact Zag (dT (by (try dsimp only); omega)) (Zaa ho (Zaa g2 (Zab rfl (Zaa (ZkD none) (Zag rfl rfl)))))
   | some r =>
    have hd := Zvh hv
    have hD := ZCL hb.ok (Zgt o).1 (by omega) f2 (by omega)
    rw [hv] at ho
    by_cases he : (ZlJ l m (Zgt o).1).1.2 ≠ 0
    ·have hn : Zd5 (n + 1) l m o = (none, some r) := by unfold Zd5; rw [if_pos (.inr (.inr he)), hv]
     rw [hn]
     refine ⟨_, Zat (step := Za5) (b := .inl _) ?_, .inl ⟨rfl, (ZlJ l m (Zgt o).1).2.1, (ZlJ l m (Zgt o).1).2.2, rfl⟩⟩
     unfold Za5
     exact Zag (dT (by (try dsimp only); omega)) (Zaa ho (Zaa g2 (Zab rfl (Zaa (ZkD (some r)) (Zab rfl (Zaa hD (Zag (dT he) rfl)))))))
    ·have hn : Zd5 (n + 1) l m o = Zd5 n (ZlJ l m (Zgt o).1).2.1 (ZlJ l m (Zgt o).1).2.2 (some r) := by
      conv => lhs; unfold Zd5
      rw [if_neg (by rw [g1, hv]; simp only [Option.isSome_none]; intro q; rcases q with q | q | q; exact Bool.false_ne_true q; cases q; exact he q), hv]
     obtain ⟨k1, k2, _⟩ := hb.dec f2 (by omega)
     obtain ⟨z, hz, hz2⟩ := ih (i + 1) (ZlJ l m (Zgt o).1).2.1 (ZlJ l m (Zgt o).1).2.2 (some r) k1 (by show _ + r.length <= _; omega) (by omega)
     rw [<- hn] at hz2
     refine ⟨z, (ZaC ?_).trans hz, hz2⟩
     unfold Za5
     refine Zag (dT (by (try dsimp only); omega)) (Zaa ho (Zaa g2 (Zab rfl (Zaa (ZkD (some r)) (Zab rfl (Zaa hD (Zab (dF he) ?_)))))))
     dsimp only
     rw [w64 (by omega)]
     rfl
  ·have hm := hb.ok.at_ k hk
   rw [g1] at hm
   have hn : Zd5 (n + 1) l m o = (none, (Zgt o).2) := by unfold Zd5; rw [if_pos (.inl (by rw [hm]; rfl))]
   rw [hn]
   refine ⟨_, Zat (step := Za5) (b := .inl _) ?_, .inl ⟨rfl, l, m, rfl⟩⟩
   unfold Za5
   exact Zag (dT (by (try dsimp only); omega)) (Zaa ho (Zaa g2 (Zag rfl rfl)))
theorem ZEn {N i : Int} {L : List Zae} {a b c : Int} {f : Bool} (k : Nat) : ∀ (n j : Nat) (out : List ZaZ) (o : OB), okL o -> j + n = k -> k <= 6 -> out.length = j ->
 Zas ZgN (((), (), N, i, (), (k : Int), (j : Int), ()), (rfR o, (L, ()), (a, b, f, c, out, ()), (), (), ())) = some (((), (), N, i, (), ()), (rfR (ZhK n out o).2, (L, ()), (a, b, f, c, (ZhK n out o).1, ()), (), (), (), (), ())) := by
 intro n
 induction n with
 | zero =>
  intro j out o ho hj hk hl
  exact Zat (by unfold ZgN; exact Zab (dF (by (try dsimp only); omega)) rfl)
 | succ n ih =>
  intro j out o ho hj hk hl
  have q1 := ZfZ (most := 20) ho
  have q2 := Zk8 q1
  have q3 := ZfZ (most := 20) q2
  refine (ZaC ?_).trans (ih (j + 1) (out ++ [(ZoF o).1]) (ZoF o).2 q3 (by omega) hk (by simp [hl]))
  unfold ZgN
  refine Zag (dT (by (try dsimp only); omega)) (Zaa (ZoG 20 (by omega) ho) (Zaa (Zvf q1) (Zaa (ZoG 20 (by omega) q2) (Zbk (by (try dsimp only); simp only [List.length_singleton]; omega) ?_))))
  dsimp only
  rw [w64 (by omega)]
  rfl
theorem ZEo (N : Nat) (hN : N <= 1073741824) : ∀ (n i : Nat) (l : List Zac) (m : Nm) (o : OB), Bks l m -> okL o -> l.length + Zsv o <= 4500 -> i + n = N ->
 ∃ z, Zas Ze6 (((), (), (N : Int), (i : Int), ()), (rfR o, (l.map v2, ()), (), ())) = some z /\
  (((Zd5 n l m o).1 = none /\ ∃ l', z = .inl (((), false, ()), (rfR (Zd5 n l m o).2, (l', ()), (), (), ()))) \/
   ∃ l' m', (Zd5 n l m o).1 = some (l', m') /\ z = .inr (((), (), ()), (rfR (Zd5 n l m o).2, (l'.map v2, ()), (), (), ()))) := by
 intro n
 induction n with
 | zero =>
  intro i l m o hb hok hl hi
  refine ⟨_, Zat (by unfold Ze6; exact Zab (dF (by (try dsimp only); omega)) rfl), .inr ⟨l, m, rfl, rfl⟩⟩
 | succ n ih =>
  intro i l m o hb hok hl hi
  obtain ⟨f1, f2⟩ := Zvi o
  have hvk := ZCS hok
  have q1 := Zbc (most := 1073741824) hok
  have q2 := Zbc (most := 1073741824) q1
  have q3 := Zbc (most := 1073741824) q2
  have q4 := Zk8 q3
  have q5 := Zbc (most := 6) q4
  have hk6 := ZgZ 6 (ZeQ (ZaB 1073741824 (ZaB 1073741824 (ZaB 1073741824 o).2).2).2).2
  obtain ⟨K, hK⟩ : ∃ K : Nat, (ZaB 6 (ZeQ (ZaB 1073741824 (ZaB 1073741824 (ZaB 1073741824 o).2).2).2).2).1 = (K : Int) := ⟨(ZaB 6 (ZeQ (ZaB 1073741824 (ZaB 1073741824 (ZaB 1073741824 o).2).2).2).2).1.toNat, by omega⟩
  have hone := ZEn (N := (N : Int)) (i := (i : Int)) (L := l.map v2) (a := (ZaB 1073741824 o).1) (b := (ZaB 1073741824 (ZaB 1073741824 o).2).1) (c := (ZaB 1073741824 (ZaB 1073741824 (ZaB 1073741824 o).2).2).1) (f := (ZeQ (ZaB 1073741824 (ZaB 1073741824 (ZaB 1073741824 o).2).2).2).1) K K 0 [] _ q5 (by omega) (by omega) rfl
  rw [show K = (ZaB 6 (ZeQ (ZaB 1073741824 (ZaB 1073741824 (ZaB 1073741824 o).2).2).2).2).1.toNat by omega] at hone
  rw [show (((ZaB 6 (ZeQ (ZaB 1073741824 (ZaB 1073741824 (ZaB 1073741824 o).2).2).2).2).1.toNat : Nat) : Int) = (ZaB 6 (ZeQ (ZaB 1073741824 (ZaB 1073741824 (ZaB 1073741824 o).2).2).2).2).1 by omega] at hone
  have run : ∀ {z : Option ((((Unit) × (Unit) × (Int) × (Int) × Unit) × ((ZaA) × ((List (Zae)) × Unit) × (Unit) × Unit)) ⊕ ((((Unit) × (Bool) × Unit) × ((ZaA) × ((List (Zae)) × Unit) × (Unit) × (Unit) × Unit)) ⊕ (((Unit) × (Unit) × Unit) × ((ZaA) × ((List (Zae)) × Unit) × (Unit) × (Unit) × Unit))))},
   ((Zo9 (Zgt o).1.name (l.map v2, ())).bind fun r7 => (bif (rfR (Zgt o).2).failed then some (.inr (.inl (((), false, ()), (rfR (Zgt o).2, (r7.2.1.1, ()), (), (), ())))) else (bif r7.1.2.1 then some (.inr (.inl (((), false, ()), (rfR (Zgt o).2, (r7.2.1.1, ()), (), (), ())))) else (Zik (v2 (Zgt o).1) (r7.2.1.1, ())).bind fun r8 => (bif (decide ((r8.1.2.1 : Int) ≠ 0)) then some (.inr (.inl (((), false, ()), (rfR (Zgt o).2, (r8.2.1.1, ()), (), (), ())))) else some (.inl (((), (), (N : Int), (IntKind.i64.wrap ((i : Int) + 1)), ()), (rfR (Zgt o).2, (r8.2.1.1, ()), (), ()))))))) = z ->
   Ze6 (((), (), (N : Int), (i : Int), ()), (rfR o, (l.map v2, ()), (), ())) = z := fun hz => by
   unfold Ze6
   refine Zag (dT (by (try dsimp only); omega)) (Zaa (Zde 1073741824 hok) (Zaa (Zde 1073741824 q1) (Zaa (Zde 1073741824 q2) (Zaa (Zvf q3) (Zaa (Zde 6 q4) (Zaa hone ?_))))))
   exact hz
  rcases ZBA hb.ok (by omega) (Zgt o).1.name with ⟨g1, g2⟩ | ⟨k, hk, g1, g2⟩
  ·cases hv : (Zgt o).2 with
   | none =>
    have hn : Zd5 (n + 1) l m o = (none, none) := by unfold Zd5; rw [if_pos (.inr (.inl hv)), hv]
    rw [hn]
    rw [hv] at run
    exact ⟨_, Zat (run (Zaa g2 (Zag rfl rfl))), .inl ⟨rfl, _, rfl⟩⟩
   | some r =>
    have hd := Zvh hv
    have hD := Zyb hb.ok (Zgt o).1 (by omega) f2 (by omega)
    rw [hv] at run hvk
    by_cases he : (ZlJ l m (Zgt o).1).1.2 ≠ 0
    ·have hn : Zd5 (n + 1) l m o = (none, some r) := by unfold Zd5; rw [if_pos (.inr (.inr he)), hv]
     rw [hn]
     exact ⟨_, Zat (run (Zaa g2 (Zab rfl (Zab rfl (Zaa hD (Zag (dT he) rfl)))))), .inl ⟨rfl, _, rfl⟩⟩
    ·have hn : Zd5 (n + 1) l m o = Zd5 n (ZlJ l m (Zgt o).1).2.1 (ZlJ l m (Zgt o).1).2.2 (some r) := by
      conv => lhs; unfold Zd5
      rw [if_neg (by rw [g1, hv]; simp only [Option.isSome_none]; intro q; rcases q with q | q | q; exact Bool.false_ne_true q; cases q; exact he q), hv]
     obtain ⟨k1, k2, _⟩ := hb.dec f2 (by omega)
     obtain ⟨z, hz, hz2⟩ := ih (i + 1) (ZlJ l m (Zgt o).1).2.1 (ZlJ l m (Zgt o).1).2.2 (some r) k1 hvk (by show _ + r.length <= _; omega) (by omega)
     rw [<- hn] at hz2
     refine ⟨z, (ZaC (run (Zaa g2 (Zab rfl (Zab rfl (Zaa hD (Zab (dF he) ?_))))))).trans hz, hz2⟩
     rw [w64 (by omega)]
     rfl
  ·have hm := hb.ok.at_ k hk
   rw [g1] at hm
   have hn : Zd5 (n + 1) l m o = (none, (Zgt o).2) := by unfold Zd5; rw [if_pos (.inl (by rw [hm]; rfl))]
   rw [hn]
   cases hv : (Zgt o).2 with
   | none =>
    rw [hv] at run
    exact ⟨_, Zat (run (Zaa g2 (Zag rfl rfl))), .inl ⟨rfl, _, rfl⟩⟩
   | some r =>
    rw [hv] at run
    exact ⟨_, Zat (run (Zaa g2 (Zab rfl (Zag rfl rfl)))), .inl ⟨rfl, _, rfl⟩⟩
noncomputable def ZEp (o : OB) : Option (List Zac × Nm) × OB :=
 let r := Zd5 (ZaB 1073741824 o).1.toNat [] [] (ZaB 1073741824 o).2
 match r.1 with
 | none => (none, r.2)
 | some x => if r.2 = none then (none, none) else (some x, r.2)
theorem ZEq {o : OB} (hok : okL o) (hl : Zsv o <= 4400) :
 (∃ q, ZEp o = (none, q) /\ Ze5 (rdR o) = some (.inr (((), false, ()), (rdR q, ()))) /\ ZkX (rfR o) = some (.inr (((), false, ()), (rfR q, ())))) \/
 ∃ l m r, ZEp o = (some (l, m), some r) /\ Bks l m /\ l.length <= 4500 /\ Ze5 (rdR o) = some (.inl (((), true, ()), (rdR (some r), (l, (), ()), m, (), ()))) /\ ZkX (rfR o) = some (.inl (((), true, ()), (rfR (some r), (l.map v2, ()), (), ()))) := by
 have hn := ZgZ 1073741824 o
 have hl2 := ZbC (most := 1073741824) (o := o)
 have b1 := Zf2 1073741824 o
 have b2 := Zde 1073741824 hok
 have q1 := Zbc (most := 1073741824) hok
 unfold ZEp
 dsimp only
 generalize ZaB 1073741824 o = a at hn hl2 b1 b2 q1
 obtain ⟨N, hN⟩ : ∃ N : Nat, a.1 = (N : Int) := ⟨a.1.toNat, by omega⟩
 rw [hN] at b1 b2
 rw [show a.1.toNat = N by omega]
 obtain ⟨z, hz, hz2⟩ := ZEm N (by omega) N 0 [] [] a.2 .nil (by simp only [List.length_nil]; omega) (by omega)
 obtain ⟨y, hy, hy2⟩ := ZEo N (by omega) N 0 [] [] a.2 .nil q1 (by simp only [List.length_nil]; omega) (by omega)
 have hbk := Zy5 N [] [] a.2 .nil (by simp only [List.length_nil]; omega)
 generalize Zd5 N [] [] a.2 = r at hz2 hy2 hbk
 have hNew : ZkM = some ((), (([], (), ()), [], (), ())) := rfl
 unfold Ze5 ZkX
 rcases hz2 with ⟨e, l', m', rfl⟩ | ⟨l', m', e, rfl⟩
 ·rcases hy2 with ⟨_, l2, rfl⟩ | ⟨l2, m2, e2, _⟩
  ·rw [e]
   exact .inl ⟨_, rfl, Zaa hNew (Zaa b1 (Zaa hz rfl)), Zaa b2 (Zaa hy rfl)⟩
  ·rw [e] at e2; cases e2
 ·rcases hy2 with ⟨e2, _⟩ | ⟨l2, m2, e2, rfl⟩
  ·rw [e] at e2; cases e2
  ·rw [e] at e2
   injection e2 with e2
   injection e2 with e3 e4
   subst e3 e4
   obtain ⟨k1, k2⟩ := hbk l' m' e
   rw [e]
   dsimp only
   cases hr : r.2 with
   | none =>
    rw [if_pos rfl]
    rw [hr] at hz hy
    exact .inl ⟨_, rfl, Zaa hNew (Zaa b1 (Zaa hz (Zaa (ZkD none) (Zag rfl rfl)))), Zaa b2 (Zaa hy (Zag rfl rfl))⟩
   | some s =>
    rw [if_neg (by simp)]
    rw [hr] at hz hy
    exact .inr ⟨l', m', s, rfl, k1, k2, Zaa hNew (Zaa b1 (Zaa hz (Zaa (ZkD (some s)) (Zab rfl rfl)))), Zaa b2 (Zaa hy (Zab rfl rfl))⟩
end Go.Proofs.YtaihdjknneiciaaGreat
namespace Go.Proofs.YtaihdjknneiciaaGreat
open Go.RowKit
set_option maxRecDepth 100000
set_option linter.unusedVariables false
set_option linter.unusedSimpArgs false
theorem ZGA {l : List Zac} {m : Nm} (h : Zjp l m) (hl : l.length <= 1000000) : Zgq [] (l, (), ()) m = some (l, ((l, (), ()), m, (), (), (), ())) := by
 have hrun := Zbg (step := Zb8) (fun i : Nat => ((([] : List Bool), l.take i, l, (l.length : Int), (i : Int), ()), ((), ()))) (N := l.length) (b := ((l, ()), ((), (), ()))) (fun i hi => ?_) ?_
 ·unfold Zgq Zb1
  exact Zaa rfl (Zab rfl (Zaa hrun rfl))
 ·unfold Zb8
  refine Zag (dT (by (try dsimp only); omega)) (Zaa (ZaE hi) (Zag (dT (by simp)) (Zaa (Zny (by have := h.few _ (List.getElem_mem hi); omega)) (Zbk ?_ ?_))))
  ·dsimp only
   simp only [List.length_singleton, List.length_take]
   omega
  ·dsimp only
   rw [w64 (by omega), List.take_succ_eq_append_getElem hi]
   rfl
 ·unfold Zb8
  refine Zab (dF (by (try dsimp only); omega)) ?_
  dsimp only
  rw [List.take_length]
theorem ZEr {l : List ZaZ} (hl : l.length <= 100000) : ZhI l l = some (true, ()) := by
 have hrun := Zbg (step := Zdb) (fun i : Nat => ((l, l, (i : Int), ()), ())) (N := l.length) (b := .inr ((), ())) (fun i hi => ?_) ?_
 ·unfold ZhI
  exact Zab (dF (by simp)) (Zaa hrun rfl)
 ·unfold Zdb
  refine Zag (dT (by (try dsimp only); omega)) (Zaa (ZaE hi) (Zaa (ZaE hi) (Zab (by simp) ?_)))
  dsimp only
  rw [w64 (by omega)]; rfl
 ·unfold Zdb
  exact Zab (dF (by (try dsimp only); omega)) rfl
end Go.Proofs.YtaihdjknneiciaaGreat
namespace Go.Proofs.YtaihdjknneiciaaGreat
open Go.RowKit
set_option maxRecDepth 100000
set_option linter.unusedVariables false
set_option linter.unusedSimpArgs false
theorem ZBB (xs : List Int) (x : Int) : ZeP (xs ++ [x]) = ZeP xs ++ Znz x.toNat := by simp [ZeP]
theorem Zy6 (x : Int) : ZfQ x = some (if Zdy x = true then (((Znz x.toNat).length, true, ()), (Znz x.toNat, ())) else ((0, false, ()), ([], ()))) := by
 unfold ZfQ
 by_cases h1 : x < 0
 ·rw [if_neg (by rw [Zcz]; omega)]
  exact Zag (dT h1) rfl
 by_cases h2 : 4611686018427387903 < x
 ·rw [if_neg (by rw [Zcz]; omega)]
  exact Zab (dF h1) (Zag (dT h2) rfl)
 rw [if_pos (Zcz.2 (by omega))]
 obtain ⟨N, rfl⟩ : ∃ N : Nat, x = (N : Int) := ⟨x.toNat, by omega⟩
 rw [Int.toNat_natCast]
 have hfirst : b8 (IntKind.u8.wrap (IntKind.i64.wrap ((BitVec.ofInt (IntKind.i64.bits) (N : Int) &&& BitVec.ofInt (IntKind.i64.bits) 127).toNat))) = some (UInt8.ofNat (N % 128)) := by
  rw [ZDi N (by omega), Zx8]
 have key : Zas ZeK ((((N / 128 : Nat) : Int), 1, ()), ([UInt8.ofNat (N % 128)], ())) = some (((Znz N).length, ()), ((), Znz N, ())) := by
  refine ZgF (fun m a => ∃ (pre : List UInt8) (last : Nat), a = (((m : Int), (pre ++ [UInt8.ofNat last]).length, ()), (pre ++ [UInt8.ofNat last], ())) /\ last < 128 /\ m <= 4611686018427387903 /\ Znz N = pre ++ (if m = 0 then [UInt8.ofNat last] else UInt8.ofNat (last + 128) :: Znz m)) _ ?_ (n := N / 128) ⟨[], N % 128, rfl, by omega, by omega, ?_⟩
  ·rintro m a ⟨pre, last, rfl, h3, h4, h5⟩
   have hlen := Zcy (n := N) (by omega)
   unfold ZeK
   by_cases hm : m = 0
   ·right
    subst hm
    rw [if_pos rfl] at h5
    rw [h5]
    exact Zab (dF (by (try dsimp only); omega)) rfl
   ·left
    rw [if_neg hm] at h5
    have hl := congrArg List.length h5
    rw [List.length_append, List.length_cons] at hl
    have hpos := ZyY m
    have hw : IntKind.i64.wrap ((((pre ++ [UInt8.ofNat last]).length : Nat) : Int) - 1) = ((pre.length : Nat) : Int) := by
     rw [List.length_append, List.length_singleton, w64 (by omega)]; omega
    have hg : (pre ++ [UInt8.ofNat last])[0 + (((pre.length : Nat) : Int)).toNat]? = some (UInt8.ofNat last) := by rw [Nat.zero_add, Int.toNat_natCast]; simp
    have hor : b8 (IntKind.u8.wrap ((BitVec.ofInt (IntKind.u8.bits) ((UInt8.ofNat last).toNat : Int) ||| BitVec.ofInt (IntKind.u8.bits) 128).toNat)) = some (UInt8.ofNat (last + 128)) := by
     have hq : (UInt8.ofNat last).toNat = last := by rw [UInt8.toNat_ofNat']; omega
     have := ZBp last
     rw [IntWalk.u8_in (last : Int) (by omega), Nat.mod_eq_of_lt h3] at this
     rw [hq]; exact this
    have hset : (pre ++ [UInt8.ofNat last]).set (0 + (((pre.length : Nat) : Int)).toNat) (UInt8.ofNat (last + 128)) = pre ++ [UInt8.ofNat (last + 128)] := by
     rw [Nat.zero_add, Int.toNat_natCast, List.set_append_right _ _ (Nat.le_refl _), Nat.sub_self]; rfl
    have hnext : b8 (IntKind.u8.wrap (IntKind.i64.wrap ((BitVec.ofInt (IntKind.i64.bits) (m : Int) &&& BitVec.ofInt (IntKind.i64.bits) 127).toNat))) = some (UInt8.ofNat (m % 128)) := by
     rw [ZDi m h4, Zx8]
    refine ⟨m / 128, (((((m / 128 : Nat) : Int)), ((pre ++ [UInt8.ofNat (last + 128)]) ++ [UInt8.ofNat (m % 128)]).length, ()), ((pre ++ [UInt8.ofNat (last + 128)]) ++ [UInt8.ofNat (m % 128)], ())), by omega, ?_, pre ++ [UInt8.ofNat (last + 128)], m % 128, rfl, by omega, by omega, ?_⟩
    ·dsimp only
     rw [hw]
     refine Zag (dT (by omega)) (Zbk (by rw [List.length_append, List.length_singleton]; omega) (Zaa hg (Zbk (by rw [List.length_append, List.length_singleton]; omega) (Zaa hg (Zaa hor ?_)))))
     rw [hset]
     refine Zaa hnext (Zbk (by simp only [List.length_append, List.length_singleton]; omega) ?_)
     rw [ZGu, List.take_of_length_le (by simp only [List.length_append, List.length_singleton]; omega)]
     simp only [List.length_append, List.length_singleton]
    ·rw [h5, List.append_assoc]
     congr 1
     by_cases hm2 : m < 128
     ·rw [Zox hm2, if_pos (by omega), Nat.mod_eq_of_lt hm2]; rfl
     ·rw [Zoy hm2, if_neg (by omega)]; rfl
  ·by_cases hm2 : N < 128
   ·rw [Zox hm2, if_pos (by omega), Nat.mod_eq_of_lt hm2]; rfl
   ·rw [Zoy hm2, if_neg (by omega)]; rfl
 refine Zab (dF h1) (Zab (dF h2) (Zaa hfirst ?_))
 rw [ZGu]
 exact Zaa key rfl
theorem Zsr (x : Int) : ZcO x = some (if Zdy x = true then ((Znz x.toNat, true, ()), ()) else (([], false, ()), ())) := by
 unfold ZcO
 refine Zaa (Zy6 x) ?_
 split
 ·exact Zbk (Nat.le_refl _) (by (try dsimp only); rw [List.take_length])
 ·exact Zbk (Nat.le_refl _) rfl
theorem ZnD {t : List UInt8} (ht : t.length <= 100000) : Zcd t = some (Zeh t, ()) := by
 have hg : Zdy (t.length : Int) = true := Zcz.2 (by omega)
 have hlen := Zcy (n := t.length) (by omega)
 have hr : Znl t = some ((Zeh t).length, (Zeh t, ())) := by
  unfold Znl
  refine Zaa (Zy6 _) ?_
  rw [if_pos hg, Int.toNat_natCast]
  refine Zbk (by (try dsimp only); omega) ?_
  dsimp only
  rw [List.take_length]
  unfold Zeh
  rw [List.length_append]
 unfold Zcd
 exact Zaa hr (Zbk (Nat.le_refl _) (by (try dsimp only); rw [List.take_length]))
theorem Zjd {xs : List Int} (hx : xs.length <= 1000) : Zc8 xs [] [] [] = some ((if xs.all Zdy = true then (ZeP xs, 0, ()) else ([], 2, ())), ((), ())) := by
 have key : ∃ z, Zas ZfS ((xs, [], [], [], [], 0, ()), ((), ())) = some z /\ ((xs.all Zdy = true /\ z = .inr (([], [], [], ZeP xs, ()), ((), (), ()))) \/ (xs.all Zdy = false /\ z = .inl (((), 2, ()), ((), ())))) := by
  refine Zbx (fun m a => ∃ i : Nat, a = ((xs, [], [], [], ZeP (xs.take i), (i : Int), ()), ((), ())) /\ i <= xs.length /\ (xs.take i).all Zdy = true /\ m = xs.length - i) _ ?_ (n := xs.length) ⟨0, by simp [ZeP], Nat.zero_le _, rfl, rfl⟩
  rintro m a ⟨i, rfl, h1, h2, rfl⟩
  unfold ZfS
  by_cases hi : i < xs.length
  ·have hl := Zbh _ h2
   rw [List.length_take] at hl
   cases hg : Zdy xs[i] with
   | true =>
    left
    have hgi := Zcz.1 hg
    have h9 := Zcy (n := xs[i].toNat) (by omega)
    have hn := Zsr xs[i]
    rw [if_pos hg] at hn
    refine ⟨xs.length - (i + 1), _, by omega, Zag (dT (by (try dsimp only); omega)) (Zaa (ZaE hi) (Zaa hn (Zab rfl (Zbk (by (try dsimp only); omega) rfl)))), i + 1, ?_, by omega, ?_, rfl⟩
    ·dsimp only
     rw [w64 (by omega), List.take_succ_eq_append_getElem hi, ZBB]
     rfl
    ·rw [List.take_succ_eq_append_getElem hi, List.all_append, h2]; simp [hg]
   | false =>
    right
    have hn := Zsr xs[i]
    rw [hg, if_neg Bool.false_ne_true] at hn
    have hbad : xs.all Zdy = false := by
     cases hall : xs.all Zdy with
     | false => rfl
     | true =>
      rw [List.all_eq_true.1 hall _ (List.getElem_mem hi)] at hg
      cases hg
    exact ⟨_, Zag (dT (by (try dsimp only); omega)) (Zaa (ZaE hi) (Zaa hn (Zag rfl rfl))), .inr ⟨hbad, rfl⟩⟩
  ·right
   obtain rfl : i = xs.length := by omega
   rw [List.take_length] at h2
   exact ⟨_, Zab (dF (by (try dsimp only); omega)) rfl, .inl ⟨h2, by (try dsimp only); rw [List.take_length]⟩⟩
 obtain ⟨z, hz, ⟨h1, rfl⟩ | ⟨h1, rfl⟩⟩ := key
 ·rw [if_pos h1]
  unfold Zc8
  refine Zaa hz ?_
  refine Zaa (v := (([], [], ZeP xs, ()), ((), (), ()))) (Zat (by unfold Zhv; exact Zab rfl rfl)) ?_
  refine Zaa (v := (([], ZeP xs, ()), ((), (), ()))) (Zat (by unfold Zed; exact Zab rfl rfl)) ?_
  exact Zaa (v := ((ZeP xs, ()), ((), (), ()))) (Zat (by unfold Zhy; exact Zab rfl rfl)) rfl
 ·rw [if_neg (by rw [h1]; exact Bool.false_ne_true)]
  unfold Zc8
  exact Zaa hz rfl
theorem Zyc {t u : List UInt8} (ht : t.length <= 1000) (hu : u.length <= 1000) : Zc8 [] [] [t, u] [] = some ((Zeh t ++ Zeh u, 0, ()), ((), ())) := by
 have hlen := Zcy (n := t.length) (by omega)
 have hlen2 := Zcy (n := u.length) (by omega)
 have hrl : (Zeh t).length <= 1009 := by unfold Zeh; rw [List.length_append]; omega
 have hru : (Zeh u).length <= 1009 := by unfold Zeh; rw [List.length_append]; omega
 unfold Zc8
 refine Zaa (v := .inr (([], [t, u], [], [], ()), ((), (), ()))) (Zat (by unfold ZfS; exact Zab rfl rfl)) ?_
 refine Zaa (v := (([t, u], [], [], ()), ((), (), ()))) (Zat (by unfold Zhv; exact Zab rfl rfl)) ?_
 refine Zaa (v := (([], Zeh t ++ Zeh u, ()), ((), (), ()))) ((ZaC (a' := (([t, u], [], Zeh t, 1, ()), ((), ()))) ?_).trans ((ZaC (a' := (([t, u], [], Zeh t ++ Zeh u, 2, ()), ((), ()))) ?_).trans (Zat ?_))) ?_
 ·unfold Zed
  exact Zag rfl (Zaa (v := t) rfl (Zbk (by omega) (Zaa (ZnD (by omega)) (Zbk (by simp only [List.length_nil]; omega) rfl))))
 ·unfold Zed
  exact Zag rfl (Zaa (v := u) rfl (Zbk (by omega) (Zaa (ZnD (by omega)) (Zbk (by (try dsimp only); omega) rfl))))
 ·unfold Zed
  exact Zab rfl rfl
 ·exact Zaa (v := ((Zeh t ++ Zeh u, ()), ((), (), ()))) (Zat (by unfold Zhy; exact Zab rfl rfl)) rfl
end Go.Proofs.YtaihdjknneiciaaGreat
namespace Go.Proofs.YtaihdjknneiciaaGreat
open Go.RowKit
set_option maxRecDepth 100000
set_option linter.unusedVariables false
set_option linter.unusedSimpArgs false
theorem Zy7 {xs : List Int} (hg : xs.all Zdy = true) (hx : xs.length <= 1000) : Zi9 xs = some (ZeP xs, ((), ())) := by
 have h := Zjd hx
 rw [if_pos hg] at h
 exact Zaa h rfl
theorem Zvj {xs : List Int} (hg : xs.all Zdy = true) (hx : xs.length <= 1000) : ZgV xs = some (ZeP xs, ((), ())) := by
 have h := Zjd hx
 rw [if_pos hg] at h
 exact Zaa h rfl
theorem ZBC {x : Int} (hg : Zdy x = true) : Zgn (0, 1, 1) [x] = some (ZeP [x], ([x], (), ())) := by
 have hn := Zsr x
 rw [if_pos hg] at hn
 have hgi := Zcz.1 hg
 have h9 := Zcy (n := x.toNat) (by omega)
 unfold Zgn
 have k1 : Zas ZdP (((0, 1, 1), [], [], [], [], 0, ()), ([x], (), ())) = some (.inr (([], [], [], ZeP [x], ()), ([x], (), (), ()))) := by
  refine (ZaC (a' := (((0, 1, 1), [], [], [], ZeP [x], 1, ()), ([x], (), ()))) ?_).trans (Zat ?_)
  ·unfold ZdP
   refine Zag rfl (Zbk (by show (0 : Int) <= 0 /\ (0 : Int) < ((1 : Nat) : Int); omega) (Zaa (v := x) rfl (Zaa hn (Zab rfl (Zbk (by (try dsimp only); simp only [List.length_nil]; omega) ?_)))))
   dsimp only
   simp [ZeP]
   rfl
  ·unfold ZdP
   exact Zab rfl rfl
 have k2 : Zas Zfm (([], [], [], ZeP [x], 0, ()), ((), ())) = some (([], [], ZeP [x], ()), ((), (), ())) := Zat (by unfold Zfm; exact Zab rfl rfl)
 have k3 : Zas Zfo (([], [], ZeP [x], 0, ()), ((), ())) = some (([], ZeP [x], ()), ((), (), ())) := Zat (by unfold Zfo; exact Zab rfl rfl)
 have k4 : Zas Zfq (([], ZeP [x], 0, ()), ((), ())) = some ((ZeP [x], ()), ((), (), ())) := Zat (by unfold Zfq; exact Zab rfl rfl)
 have k5 : Zja (0, 1, 1) [] [] [] [x] = some ((ZeP [x], 0, ()), ([x], (), ())) := by
  unfold Zja
  refine Zaa k1 ?_
  refine Zaa k2 ?_
  refine Zaa k3 ?_
  exact Zaa k4 rfl
 exact Zaa k5 rfl
theorem Zy8 {t : List UInt8} (ht : t.length <= 100000) : Znm t = some (Zeh t, ()) := by
 unfold Znm
 exact Zbk (by omega) (Zaa (ZnD ht) rfl)
theorem Zy9 {t : List UInt8} (ht : t.length <= 100000) : Znp t = some (Zeh t, ()) := by
 unfold Znp
 exact Zbk (by omega) (Zaa (ZnD ht) rfl)
theorem ZoI (u : Bool) : Zec u = some (ZdR u, ((), ())) := by
 cases u <;> rfl
theorem ZwW {s : Zai} (hr : Za2 s = true) : Zc9 s = some (ZeP [s.epoch, (s.list.length : Int)] ++ Ztn s.list, ((), ())) := by
 obtain ⟨e1, e2, e3, e4⟩ := ZgX.1 hr
 have hg := Zsl hr
 have hl := Zbh _ hg
 simp only [List.length_cons, List.length_nil] at hl
 generalize hC : ZeP [s.epoch, (s.list.length : Int)] = C at hl
 have hn := Zy7 hg (by simp)
 rw [hC] at hn
 have key : Zas Zbz (((), C, 0, ()), (s, (), ())) = some ((C ++ Ztn s.list, ()), (s, (), (), ())) := by
  have h0 : C = C ++ Ztn (s.list.take 0) := by simp [Ztn]
  conv => lhs; rw [h0]
  refine Zbg (step := Zbz) (fun i : Nat => (((), C ++ Ztn (s.list.take i), (i : Int), ()), (s, (), ()))) (N := s.list.length) (fun i hi => ?_) ?_
  ·obtain ⟨h1, h2, h3, h4⟩ := Zk6 hr (List.getElem_mem hi)
   have hb := Zqo hr i
   have r1 := Zb9 h3
   have r2 := Zb9 h4
   have hq := Zva hr (List.getElem_mem hi)
   have hql := Zbh _ hq
   simp only [List.length_cons, List.length_nil] at hql
   unfold Zbz
   refine Zag (dT (by (try dsimp only); omega)) (Zaa (ZaE hi) (Zaa (Zy8 (by omega)) (Zbk (by (try dsimp only); simp only [List.length_append]; omega) (Zaa (Zy8 (by omega)) (Zbk (by (try dsimp only); simp only [List.length_append]; omega) (Zaa (Zy7 hq (by simp)) (Zbk (by (try dsimp only); simp only [List.length_append]; omega) ?_)))))))
   dsimp only
   rw [w64 (by omega), List.take_succ_eq_append_getElem hi, Zsk]
   unfold shB
   simp only [List.append_assoc]
   rfl
  ·unfold Zbz
   refine Zab (dF (by (try dsimp only); omega)) ?_
   dsimp only
   rw [List.take_length]
 unfold Zc9
 exact Zaa hn (Zaa key rfl)
theorem ZtW {x : Zak} (h : Zbu x = true) : Zkq x = some ((ZEF x, true, ()), ((), ())) := by
 obtain ⟨g1, g2⟩ := Zsj h
 obtain ⟨q1, q2, q3, q4, q5, q6, q7⟩ := Zjb h
 obtain ⟨p1, p2⟩ := Zk5 q7
 have hst : IntKind.i64.wrap x.stage = x.stage := w64 (by omega)
 have w1 := Zjd (xs := [x.num]) (by simp)
 rw [if_pos g1] at w1
 have w2 := Zyc (t := x.span.lo) (u := x.span.hi) (by omega) (by omega)
 have w3 := Zjd (xs := [x.from_, x.to_, x.epoch, x.under, x.stage]) (by simp)
 rw [if_pos g2] at w3
 have l1 := Zbh _ g1
 have l3 := Zbh _ g2
 have r1 := Zb9 p1
 have r2 := Zb9 p2
 simp only [List.length_cons, List.length_nil] at l1 l3
 unfold Zkq
 rw [hst]
 exact Zaa w1 (Zaa w2 (Zaa w3 (Zbk (by (try dsimp only); simp only [List.length_append]; omega) (Zbk (by (try dsimp only); simp only [List.length_append]; omega) (Zag rfl rfl)))))
theorem ZBD {s : Zai} {u : Bool} {x : Zak} {n : Int} (hr : Za2 s = true) (hu : u = true -> Zbu x = true) : Znn (s.epoch, s.list, Zp4 u x, n, (), ()) = some (Zmd s u x, ((), ())) := by
 have hb := Ziy hr hu
 have hs := ZwW hr
 unfold Zmd at hb ⊢
 simp only [List.length_append] at hb
 generalize hC : ZeP [s.epoch, (s.list.length : Int)] ++ Ztn s.list = C at hs hb ⊢
 have hCl := congrArg List.length hC
 rw [List.length_append] at hCl
 unfold Znn Zp4
 cases u with
 | false =>
  simp only [Bool.false_eq_true, if_false, List.append_nil]
  exact Zaa hs (Zaa (ZoI false) (Zbk (by (try dsimp only); simp only [List.length_append, ZdR, List.length_singleton]; omega) (Zab rfl rfl)))
 | true =>
  simp only [if_true] at hb ⊢
  exact Zaa hs (Zaa (ZoI true) (Zbk (by (try dsimp only); simp only [List.length_append, ZdR, List.length_singleton]; omega) (Zag rfl (Zaa (v := x) rfl (Zaa (ZtW (hu rfl)) (Zbk (by (try dsimp only); simp only [List.length_append, ZdR, List.length_singleton]; omega) rfl))))))
abbrev ZBE (s : Zai) (u : Bool) (x : Zak) (n : Int) : (Int) × (List (Zaf)) × (Nat × Nat × Nat) × (Int) × (Unit) × Unit := (s.epoch, s.list, (0, (Zp4 u x).length, (Zp4 u x).length), n, (), ())
theorem Zz2 {s : Zai} {u : Bool} {x : Zak} {n : Int} (hr : Za2 s = true) (hu : u = true -> Zbu x = true) (L : List Zae) : Zk3 (ZBE s u x n) (Zp4 u x) (L, ()) = some (Zmd s u x, (ZBE s u x n, Zp4 u x, (L, ()), (), (), (), ())) := by
 have hb := Ziy hr hu
 have hs := ZwW hr
 unfold Zmd at hb ⊢
 simp only [List.length_append] at hb
 generalize hC : ZeP [s.epoch, (s.list.length : Int)] ++ Ztn s.list = C at hs hb ⊢
 have hCl := congrArg List.length hC
 rw [List.length_append] at hCl
 unfold Zk3 Zp4 ZBE
 cases u with
 | false =>
  simp only [Bool.false_eq_true, if_false, List.append_nil]
  exact Zaa hs (Zaa (ZoI false) (Zbk (by (try dsimp only); simp only [List.length_append, ZdR, List.length_singleton]; omega) (Zab rfl rfl)))
 | true =>
  simp only [if_true] at hb ⊢
  exact Zaa hs (Zaa (ZoI true) (Zbk (by (try dsimp only); simp only [List.length_append, ZdR, List.length_singleton]; omega) (Zag rfl (Zbk (by show (0 : Int) <= 0 /\ (0 : Int) < ((1 : Nat) : Int); omega) (Zaa (v := x) rfl (Zaa (ZtW (hu rfl)) (Zbk (by (try dsimp only); simp only [List.length_append, ZdR, List.length_singleton]; omega) rfl)))))))
theorem Zz3 {v : Zac} (h : Zbo v = true) {L : List Zae} {i : Int} {b : List UInt8} (hb : b.length <= 30000000) : Zas Zee (((), b, i, (), 0, ()), ((L, ()), v2 v, (), (), ())) = some (((), b ++ ZwU v.reads, i, ()), ((L, ()), v2 v, (), (), (), (), ())) := by
 obtain ⟨_, _, _, q, _⟩ := Zce.1 h
 have h0 : b = b ++ ZwU (v.reads.take 0) := by simp [ZwU]
 conv => lhs; rw [h0]
 refine Zbg (step := Zee) (fun k : Nat => (((), b ++ ZwU (v.reads.take k), i, (), (k : Int), ()), ((L, ()), v2 v, (), (), ()))) (N := v.reads.length) (fun k hk => ?_) ?_
 ·obtain ⟨g1, g2, _⟩ := ZoE h (List.getElem_mem hk)
  have hsl := Zvd h k
  have r1 := Zb9 g1
  have r2 := Zb9 g2
  unfold Zee
  refine Zag (dT (by show (k : Int) < (v.reads.length : Int); omega)) (Zaa (v := v.reads[k]) (ZaE hk) (Zaa (Zy9 (by omega)) (Zbk (by (try dsimp only); simp only [List.length_append]; omega) (Zaa (ZoI _) (Zbk (by (try dsimp only); simp only [List.length_append, ZdR, List.length_singleton]; omega) (Zaa (Zy9 (by omega)) (Zbk (by (try dsimp only); simp only [List.length_append, ZdR, List.length_singleton]; omega) ?_)))))))
  dsimp only
  rw [w64 (by omega), List.take_succ_eq_append_getElem hk, Zsn]
  unfold rdB
  simp only [List.append_assoc]
  rfl
 ·unfold Zee
  refine Zab (dF (by show ¬ (v.reads.length : Int) < (v.reads.length : Int); omega)) ?_
  dsimp only
  rw [List.take_length]
theorem ZBF {l : List Zac} (h : ∀ v ∈ l, Zbo v = true) (hl : l.length <= 5000) : Znq (l.map v2, ()) = some (ZeP [(l.length : Int)] ++ ZhS l, ((l.map v2, ()), (), (), (), ())) := by
 have hg : ([(l.length : Int)] : List Int).all Zdy = true := by simp [Zix (x := (l.length : Int)) (by omega) (by omega)]
 have l1 := Zbh _ hg
 simp only [List.length_cons, List.length_nil] at l1
 have n1 := Zvj hg (by simp)
 generalize hC : ZeP [(l.length : Int)] = C at n1 l1
 have key : Zas Zef (((), C, 0, ()), ((l.map v2, ()), (), (), ())) = some ((C ++ ZhS l, ()), ((l.map v2, ()), (), (), (), (), ())) := by
  have h0 : C = C ++ ZhS (l.take 0) := by simp [ZhS]
  conv => lhs; rw [h0]
  refine Zbg (step := Zef) (fun i : Nat => (((), C ++ ZhS (l.take i), (i : Int), ()), ((l.map v2, ()), (), (), ()))) (N := l.length) (fun i hi => ?_) ?_
  ·have hv := h _ (List.getElem_mem hi)
   obtain ⟨g1, g2⟩ := Zve hv
   have c1 := Zbh _ g1
   have c2 := Zbh _ g2
   simp only [List.length_cons, List.length_nil] at c1 c2
   have hbl := Zso h i
   have hgi : Zbs (l.map v2) (i : Int) = some (v2 l[i]) := by rw [Zfa, List.getElem?_map, List.getElem?_eq_getElem hi]; rfl
   have w := Zz3 hv (L := l.map v2) (i := (i : Int)) (b := C ++ ZhS (l.take i) ++ ZeP [l[i].name.client, l[i].name.num, l[i].at_] ++ ZdR l[i].commit ++ ZeP [(l[i].reads.length : Int)]) (by simp only [List.length_append, ZdR, List.length_singleton]; omega)
   unfold Zef
   refine Zag (dT (by (try dsimp only); rw [List.length_map]; omega)) (Zaa hgi (Zaa (Zvj (xs := [l[i].name.client, l[i].name.num, l[i].at_]) g1 (by simp)) (Zbk (by (try dsimp only); simp only [List.length_append]; omega) (Zaa (ZoI l[i].commit) (Zbk (by (try dsimp only); simp only [List.length_append, ZdR, List.length_singleton]; omega) (Zaa (Zvj (xs := [(l[i].reads.length : Int)]) g2 (by simp)) (Zbk (by (try dsimp only); simp only [List.length_append, ZdR, List.length_singleton]; omega) (Zaa w ?_))))))))
   dsimp only
   rw [w64 (by omega), List.take_succ_eq_append_getElem hi, ZoD]
   unfold ZEG
   simp only [List.append_assoc]
   rfl
  ·unfold Zef
   refine Zab (dF (by (try dsimp only); rw [List.length_map]; omega)) ?_
   dsimp only
   rw [List.take_length]
 unfold Znq
 rw [List.length_map]
 exact Zaa n1 (Zaa key rfl)
def ZDm (s : Zai) (u : Bool) (x : Zak) (n : Int) (l : List Zac) : List UInt8 := Zmd s u x ++ ZeP [n] ++ (ZeP [(l.length : Int)] ++ ZhS l)
structure Zvk (s : Zai) (u : Bool) (x : Zak) (n : Int) (l : List Zac) (m : Nm) : Prop where
 rw_ : Za2 s = true
 rs : u = true -> Zbu x = true
 off : u = false -> x = Ziw
 n0 : 0 <= n
 n1 : n <= 1073741824
 bk : Bks l m
 few : l.length <= 4600
theorem Zvk.ver {s : Zai} {u : Bool} {x : Zak} {n : Int} {l : List Zac} {m : Nm} (h : Zvk s u x n l m) : ∀ v ∈ l, Zbo v = true := fun v hv => (h.bk.all v hv).1
theorem Zvk.len {s : Zai} {u : Bool} {x : Zak} {n : Int} {l : List Zac} {m : Nm} (h : Zvk s u x n l m) : (ZDm s u x n l).length <= 2000000 := by
 have h1 := Ziy h.rw_ h.rs
 have hg : ([n] : List Int).all Zdy = true := by simp [Zix h.n0 h.n1]
 have hg2 : ([(l.length : Int)] : List Int).all Zdy = true := by simp [Zix (x := (l.length : Int)) (by omega) (by have := h.few; omega)]
 have l1 := Zbh _ hg
 have l2 := Zbh _ hg2
 simp only [List.length_cons, List.length_nil] at l1 l2
 have hb := Zso h.ver l.length
 rw [List.take_length] at hb
 have hf := h.few
 unfold ZDm
 simp only [List.length_append]
 omega
theorem Zz4 {s : Zai} {u : Bool} {x : Zak} {n : Int} {l : List Zac} {m : Nm} (h : Zvk s u x n l m) : Znr (ZBE s u x n) (Zp4 u x) (l.map v2, ()) = some (ZDm s u x n l, (ZBE s u x n, Zp4 u x, (l.map v2, ()), (), (), (), ())) := by
 have hl := h.len
 have hf := h.few
 unfold ZDm at hl ⊢
 simp only [List.length_append] at hl
 have hv : Zgr (ZBE s u x n) (Zp4 u x) (l.map v2, ()) = some (Zmd s u x, (ZBE s u x n, Zp4 u x, (l.map v2, ()), (), (), ())) := by
  unfold Zgr
  refine Zbk (by show 0 + (Zp4 u x).length <= (Zp4 u x).length; omega) ?_
  have hd : ((Zp4 u x).drop 0).take (Zp4 u x).length = Zp4 u x := by rw [List.drop_zero, List.take_length]
  show (Znn (s.epoch, s.list, ((Zp4 u x).drop 0).take (Zp4 u x).length, n, (), ())).bind _ = _
  rw [hd]
  exact Zaa (ZBD h.rw_ h.rs) rfl
 have hg : Zdy n = true := Zix h.n0 h.n1
 unfold Znr
 exact Zaa hv (Zaa (ZBC hg) (Zbk (by (try dsimp only); omega) (Zaa (ZBF h.ver (by omega)) (Zbk (by (try dsimp only); simp only [List.length_append]; omega) rfl))))
theorem Zz5 {s : Zai} {u : Bool} {x : Zak} {n : Int} {l : List Zac} {m : Nm} (h : Zvk s u x n l m) : Zfj (plc s u x n) (true, false, [], ()) (l, (), ()) m = some ((), (plc s u x n, (true, false, ZDm s u x n l, ()), (l, (), ()), m, (), (), (), (), ())) := by
 have hl := h.len
 have hf := h.few
 unfold ZDm at hl ⊢
 simp only [List.length_append] at hl
 have hg : ([n] : List Int).all Zdy = true := by simp [Zix h.n0 h.n1]
 have hw := ZBu h.rw_ h.rs
 have hn := ZnB (xs := [n]) (sp := false) (b := Zmd s u x) hg (by simp) (by omega)
 have hp := Ziy h.rw_ h.rs
 have l1 := Zbh _ hg
 simp only [List.length_cons, List.length_nil] at l1
 have hb := ZCO h.ver (by omega) m (sp := false) (b := Zmd s u x ++ ZeP [n]) (by rw [List.length_append]; omega)
 unfold Zfj
 exact Zaa (v := (true, (plc s u x n, (l, (), ()), m, (), (), ()))) rfl (Zab rfl (Zaa hw (Zaa hn (Zaa hb rfl))))
theorem ZCT {l : List Zac} (h : ∀ v ∈ l, v.reads.length <= 1000) (hl : l.length <= 1000000) : ZuU [] (l.map v2, ()) = some (l.map v2, ((l.map v2, ()), (), (), (), ())) := by
 have hrun := Zbg (step := Ziu) (fun i : Nat => (((), [], (l.take i).map v2, (i : Int), ()), ((l.map v2, ()), (), (), ()))) (N := l.length) (b := ((l.map v2, ()), ((l.map v2, ()), (), (), (), (), ()))) (fun i hi => ?_) ?_
 ·unfold ZuU
  exact Zaa hrun rfl
 ·have hg : Zbs (l.map v2) (i : Int) = some (v2 l[i]) := by rw [Zfa, List.getElem?_map, List.getElem?_eq_getElem hi]; rfl
  have h2 : Zas Zk0 (((), [], (l.take i).map v2, (i : Int), true, 0, ()), ((l.map v2, ()), (), (), ())) = some (((), [], (l.take i).map v2, (i : Int), true, ()), ((l.map v2, ()), (), (), (), (), ())) := by
   refine Zat ?_
   unfold Zk0
   exact Zab rfl rfl
  unfold Ziu
  refine Zag (dT (by (try dsimp only); rw [List.length_map]; omega)) (Zaa h2 (Zag rfl (Zaa hg (Zaa (ZnC (h _ (List.getElem_mem hi))) (Zbk (by (try dsimp only); simp only [List.length_map, List.length_take, List.length_singleton]; omega) ?_)))))
  dsimp only
  rw [w64 (by omega), List.take_succ_eq_append_getElem hi, List.map_append]
  rfl
 ·unfold Ziu
  refine Zab (dF (by (try dsimp only); rw [List.length_map]; omega)) ?_
  dsimp only
  rw [List.take_length]
theorem ZBG {l : List Zac} (h : ∀ v ∈ l, v.reads.length <= 1000) (hl : l.length <= 1000000) : Znt (0, 1, 1) (l.map v2, ()) [true] = some ((l.filter (·.commit)).map v2, ((l.map v2, ()), [true], (), (), (), ())) := by
 have hrun := Zbg (step := ZfW) (fun i : Nat => (((), (0, 1, 1), ((l.take i).filter (·.commit)).map v2, (i : Int), ()), ((l.map v2, ()), [true], (), (), ()))) (N := l.length) (b := (((l.filter (·.commit)).map v2, ()), ((l.map v2, ()), [true], (), (), (), (), ()))) (fun i hi => ?_) ?_
 ·unfold Znt
  exact Zaa hrun rfl
 ·have hg : Zbs (l.map v2) (i : Int) = some (v2 l[i]) := by rw [Zfa, List.getElem?_map, List.getElem?_eq_getElem hi]; rfl
  have hfl : ((l.take i).filter (·.commit)).length <= l.length := Nat.le_trans (List.length_filter_le _ _) (by rw [List.length_take]; omega)
  have h2 : Zas ZfV (((), (0, 1, 1), ((l.take i).filter (·.commit)).map v2, (i : Int), false, 0, ()), ((l.map v2, ()), [true], (), (), ())) = some (((), (0, 1, 1), ((l.take i).filter (·.commit)).map v2, (i : Int), l[i].commit, ()), ((l.map v2, ()), [true], (), (), (), (), ())) := by
   refine (ZaC (a' := (((), (0, 1, 1), ((l.take i).filter (·.commit)).map v2, (i : Int), l[i].commit, 1, ()), ((l.map v2, ()), [true], (), (), ()))) ?_).trans (Zat ?_)
   ·unfold ZfV
    refine Zag rfl (Zab rfl (Zbk (by show (0 : Int) <= 0 /\ (0 : Int) < ((1 : Nat) : Int); omega) (Zaa (v := true) rfl (Zaa hg ?_))))
    have : decide (true = (v2 l[i]).commit) = l[i].commit := by
     show decide (true = l[i].commit) = _
     cases l[i].commit <;> rfl
    dsimp only
    rw [this]
    rfl
   ·unfold ZfV
    exact Zab rfl rfl
  unfold ZfW
  refine Zag (dT (by (try dsimp only); rw [List.length_map]; omega)) (Zaa h2 ?_)
  dsimp only
  cases hc : l[i].commit with
  | true =>
   refine Zag rfl (Zaa hg (Zaa (ZnC (h _ (List.getElem_mem hi))) (Zbk (by simp only [List.length_map, List.length_singleton]; omega) ?_)))
   rw [w64 (by omega), List.take_succ_eq_append_getElem hi, List.filter_append, List.map_append]
   simp [hc]
  | false =>
   refine Zab rfl ?_
   rw [w64 (by omega), List.take_succ_eq_append_getElem hi, List.filter_append]
   simp [hc]
 ·unfold ZfW
  refine Zab (dF (by (try dsimp only); rw [List.length_map]; omega)) ?_
  dsimp only
  rw [List.take_length]
theorem ZFt (b : Bool) : Zdx [true] b = some (b, ()) := by
 unfold Zdx ZhR
 cases b with
 | true =>
  refine Zaa (Zaa (v := .inl ((0, ()), ())) (Zat ?_) rfl) rfl
  unfold Zcx
  exact Zag rfl (Zaa (v := true) rfl (Zag rfl rfl))
 | false =>
  refine Zaa (Zaa (v := .inr ((), ())) ((ZaC (a' := (([true], false, 1, 1, ()), ())) ?_).trans (Zat ?_)) rfl) rfl
  ·unfold Zcx
   exact Zag rfl (Zaa (v := true) rfl (Zab rfl rfl))
  ·unfold Zcx
   exact Zab rfl rfl
theorem ZFu {l : List Zac} {m : Nm} (h : Zjp l m) (hl : l.length <= 1000000) : Zgq [true] (l, (), ()) m = some (l.filter (·.commit), ((l, (), ()), m, (), (), (), ())) := by
 have hrun := Zbg (step := Zb8) (fun i : Nat => ((([true] : List Bool), (l.take i).filter (·.commit), l, (l.length : Int), (i : Int), ()), ((), ()))) (N := l.length) (b := ((l.filter (·.commit), ()), ((), (), ()))) (fun i hi => ?_) ?_
 ·unfold Zgq Zb1
  exact Zaa rfl (Zab rfl (Zaa hrun rfl))
 ·have hfl : ((l.take i).filter (·.commit)).length <= l.length := Nat.le_trans (List.length_filter_le _ _) (by rw [List.length_take]; omega)
  unfold Zb8
  refine Zag (dT (by (try dsimp only); omega)) (Zaa (ZaE hi) (Zab (dF (by simp)) (Zaa (ZFt _) ?_)))
  dsimp only
  cases hc : l[i].commit with
  | true =>
   refine Zag rfl (Zaa (Zny (by have := h.few _ (List.getElem_mem hi); omega)) (Zbk (by simp only [List.length_singleton]; omega) ?_))
   rw [w64 (by omega), List.take_succ_eq_append_getElem hi, List.filter_append]
   simp [hc]
  | false =>
   refine Zab rfl ?_
   rw [w64 (by omega), List.take_succ_eq_append_getElem hi, List.filter_append]
   simp [hc]
 ·unfold Zb8
  refine Zab (dF (by (try dsimp only); omega)) ?_
  dsimp only
  rw [List.take_length]
theorem ZEs {v : Zac} (h : v.reads.length <= 1000) : Zqk v (v2 v) = some (true, ()) := by
 unfold Zqk
 exact Zag (by simp [v2]) (Zag (dT rfl) (Zag (dT rfl) (Zaa (ZEr (by omega)) rfl)))
theorem Zz6 {l : List Zaf} (hl : l.length <= 100000) : Zd0 l l = some (true, ()) := by
 have hrun := Zbg (step := ZbP) (fun i : Nat => ((l, l, (i : Int), ()), ())) (N := l.length) (b := .inr ((), ())) (fun i hi => ?_) ?_
 ·unfold Zd0
  exact Zab (dF (by simp)) (Zaa hrun rfl)
 ·unfold ZbP
  refine Zag (dT (by (try dsimp only); omega)) (Zaa (ZaE hi) (Zaa (ZaE hi) (Zab (by simp) ?_)))
  dsimp only
  rw [w64 (by omega)]; rfl
 ·unfold ZbP
  exact Zab (dF (by (try dsimp only); omega)) rfl
theorem Zpj {s : Zai} (hl : s.list.length <= 100000) : Zb6 s s = some (true, ()) := by
 unfold Zb6
 exact Zag (dT rfl) (Zaa (Zz6 hl) rfl)
theorem ZBH {l : List UInt8} (hl : l.length <= 10000000) : ZfU l l = some (true, ()) := by
 have hrun := Zbg (step := Zda) (fun i : Nat => ((l, l, (i : Int), ()), ())) (N := l.length) (b := .inr ((), ())) (fun i hi => ?_) ?_
 ·unfold ZfU
  exact Zab (dF (by simp)) (Zaa hrun rfl)
 ·unfold Zda
  refine Zag (dT (by (try dsimp only); omega)) (Zaa (ZaE hi) (Zaa (ZaE hi) (Zab (dF (by simp)) ?_)))
  dsimp only
  rw [w64 (by omega)]; rfl
 ·unfold Zda
  exact Zab (dF (by (try dsimp only); omega)) rfl
theorem ZFv {s : Zai} {u : Bool} {x : Zak} {n : Int} {l : List Zac} {m : Nm} (h : Zvk s u x n l m) : ∃ st, Zu1 (plc s u x n) (ZBE s u x n) (l, (), ()) (Zp4 u x) (l.map v2, ()) m = some (true, st) := by
 have hf := h.few
 have hb := h.bk.ok
 have hL := h.len
 obtain ⟨_, e2, _⟩ := ZgX.1 h.rw_
 have hfew : ∀ v ∈ l, v.reads.length <= 1000 := fun v hv => by have := hb.few v hv; omega
 have kn : Zbd (plc s u x n) (l, (), ()) m = some (true, (plc s u x n, (l, (), ()), m, (), (), ())) := rfl
 have sc : Zcp (plc s u x n) (l, (), ()) m = some ((x, u, ()), (plc s u x n, (l, (), ()), m, (), (), ())) := Zaa kn (Zab rfl rfl)
 have rs : ZkY (ZBE s u x n) (Zp4 u x) (l.map v2, ()) = some ((x, u, ()), (ZBE s u x n, Zp4 u x, (l.map v2, ()), (), (), ())) := by
  unfold ZkY
  cases u with
  | false =>
   rw [h.off rfl]
   exact Zag rfl rfl
  | true => exact Zab rfl (Zbk (by show (0 : Int) <= 0 /\ (0 : Int) < ((1 : Nat) : Int); omega) (Zaa (v := x) rfl rfl))
 obtain ⟨sd, hd⟩ := ZDk (sp := false) (b := ZDm s u x n l) (by omega)
 have ru : ZcK [] (plc s u x n) (l, (), ()) m = some (l, (plc s u x n, (l, (), ()), m, (), (), (), ())) := Zaa kn (Zab rfl (Zaa (ZGA hb (by show l.length <= _; omega)) rfl))
 have ru1 : ZcK [true] (plc s u x n) (l, (), ()) m = some (l.filter (·.commit), (plc s u x n, (l, (), ()), m, (), (), (), ())) := Zaa kn (Zab rfl (Zaa (ZFu hb (by show l.length <= _; omega)) rfl))
 have la : Zi8 (plc s u x n) (l, (), ()) m = some (n, (plc s u x n, (l, (), ()), m, (), (), ())) := Zaa kn (Zab rfl rfl)
 have sh : Zcq (plc s u x n) (l, (), ()) m = some (s, (plc s u x n, (l, (), ()), m, (), (), ())) := Zaa kn (Zab rfl (Zaa (v := (⟨s, u, x⟩, ())) (by unfold Zcn ZiN; exact Zaa (Zbk (by (try dsimp only); omega) rfl) rfl) rfl))
 have lp : Zas Zgs ((l, l.map v2, 0, ()), ((), (), ())) = some (.inr ((), ((), (), ()))) := by
  refine Zbg (step := Zgs) (fun i : Nat => ((l, l.map v2, (i : Int), ()), ((), (), ()))) (N := l.length) (fun i hi => ?_) ?_
  ·have hg : Zbs (l.map v2) (i : Int) = some (v2 l[i]) := by rw [Zfa, List.getElem?_map, List.getElem?_eq_getElem hi]; rfl
   unfold Zgs
   refine Zag (dT (by (try dsimp only); omega)) (Zaa (ZaE hi) (Zaa hg (Zaa (ZEs (hfew _ (List.getElem_mem hi))) (Zab rfl ?_))))
   dsimp only
   rw [w64 (by omega)]
   rfl
  ·unfold Zgs
   exact Zab (dF (by (try dsimp only); omega)) rfl
 have hpl := Ziy h.rw_ h.rs
 refine ⟨?_, ?_⟩
 rotate_left
 unfold Zu1
 refine Zaa sc (Zaa rs (Zaa rfl (Zaa (Zz5 h) (Zaa hd (Zaa ru (Zaa (ZCT hfew (by omega)) (Zab (by simp) (Zab (by simp) (Zaa la (Zab (by simp) (Zaa sh (Zaa (Zpj (by show s.list.length <= _; omega)) (Zab rfl (Zab rfl (Zaa (Zz4 h) (Zaa (ZBH (by show (ZDm s u x n l).length <= _; omega)) (Zab rfl (Zaa (ZFr h.rw_ h.rs l m) (Zaa (Zz2 h.rw_ h.rs (l.map v2)) (Zaa (ZBH (by show (Zmd s u x).length <= _; omega)) (Zab rfl (Zab (dF (by simp)) (Zaa ru1 (Zaa (ZBG hfew (by omega)) (Zab (dF (by simp)) (Zaa lp ?_))))))))))))))))))))))))))
 rfl
end Go.Proofs.YtaihdjknneiciaaGreat
namespace Go.Proofs.YtaihdjknneiciaaGreat
open Go.RowKit
set_option maxRecDepth 100000
set_option linter.unusedVariables false
set_option linter.unusedSimpArgs false
theorem ZG5 (u : UInt8) : b8 (u.toNat : Int) = some u := by
 have := u.toNat_lt
 unfold b8 g8
 dsimp only
 rw [if_pos (by omega)]
 simp
theorem Zss (k x : Int) : ∃ u : UInt8, Zd3 k x = some ((u.toNat : Int), ()) := by
 have hw : ∀ z : Int, ∃ u : UInt8, IntKind.u8.wrap z = (u.toNat : Int) := fun z => by
  have h : 0 <= IntKind.u8.wrap z /\ IntKind.u8.wrap z < 256 := by simp [IntKind.wrap, IntKind.bits, IntKind.signed]; omega
  refine ⟨UInt8.ofNat (IntKind.u8.wrap z).toNat, ?_⟩
  rw [UInt8.toNat_ofNat_of_lt' (by show (IntKind.u8.wrap z).toNat < 256; omega)]
  omega
 obtain ⟨y, hy⟩ : ∃ y, ZxF k x = some (y, ()) := ⟨_, rfl⟩
 obtain ⟨u, hu⟩ := hw ((IntKind.u64.wrap (IntKind.u64.wrap y * 11400714819323198485) : Int).fdiv (2 ^ min (56 : Int).toNat (IntKind.u64.bits)))
 exact ⟨u, by unfold Zd3; rw [hy]; simp only [Option.bind_some]; rw [<- hu]⟩
noncomputable def mkB (j : Nat) : UInt8 := (Zss 1 (j : Int)).choose
theorem ZBI (j : Nat) : Zd3 1 (j : Int) = some (((mkB j).toNat : Int), ()) := (Zss 1 (j : Int)).choose_spec
noncomputable def Zf3 (j : Nat) : List UInt8 := (List.range j).map mkB
theorem ZoJ (j : Nat) : (Zf3 j).length = j := by simp [Zf3]
theorem Zyd (j : Nat) : Zf3 (j + 1) = Zf3 j ++ [mkB j] := by simp [Zf3, List.range_succ]
theorem Zye {l : List UInt8} (hn : l.length <= 1000000) : Zhe l = some ((0, l.length, l.length + 12), (l ++ Zf3 12, ())) := by
 have hw : IntKind.i64.wrap ((l.length : Int) + 12) = ((l.length + 12 : Nat) : Int) := by rw [w64 (by omega)]; rfl
 have hloop : Zas Zcr ((l, (0, l.length, l.length + 12), 0, ()), (l ++ List.replicate 12 (0 : UInt8), ())) = some ((l, (0, l.length + 12, l.length + 12), ()), (l ++ Zf3 12, ())) := by
  refine Zbg (step := Zcr) (fun j : Nat => ((l, (0, l.length + j, l.length + 12), (j : Int), ()), (l ++ (Zf3 j ++ List.replicate (12 - j) (0 : UInt8)), ()))) (N := 12) (fun j hj => ?_) ?_
  ·have hml := ZoJ j
   unfold Zcr
   refine Zag (dT (by (try dsimp only); omega)) (Zaa (ZBI j) (Zaa (ZG5 _) ?_))
   dsimp only
   simp only [List.length_singleton, Nat.zero_add]
   refine Zbk (by simp only [List.length_append, List.length_replicate, hml]; omega) ?_
   refine Zbk (by omega) ?_
   rw [w64 (by omega)]
   have e1 : (l ++ (Zf3 j ++ List.replicate (12 - j) (0 : UInt8))).take (l.length + j) = l ++ Zf3 j := by
    rw [<- List.append_assoc]
    exact List.take_left' (by rw [List.length_append, hml])
   have e2 : (l ++ (Zf3 j ++ List.replicate (12 - j) (0 : UInt8))).drop (l.length + j + 1) = List.replicate (12 - (j + 1)) (0 : UInt8) := by
    rw [<- List.append_assoc, List.drop_append, List.drop_of_length_le (by rw [List.length_append, hml]; omega), List.nil_append, List.drop_replicate, List.length_append, hml]
    congr 1
    omega
   rw [e1, e2, Zyd]
   simp only [List.append_assoc, Nat.add_assoc]
   rfl
  ·unfold Zcr
   exact Zab (dF (by (try dsimp only); omega)) rfl
 unfold Zhe
 simp only [hw, Int.toNat_natCast, Int.toNat_zero, Nat.zero_add, List.take_zero, List.nil_append, Nat.add_zero, Nat.sub_zero, List.length_replicate, List.drop_replicate, Nat.add_sub_cancel_left]
 refine Zbk (by omega) ?_
 refine Zbk (by omega) ?_
 refine Zbk (by omega) ?_
 refine Zaa hloop ?_
 dsimp only
 refine Zbk (by omega) ?_
 simp
theorem ZCU {l : List UInt8} (hn : l.length <= 1000000) : ZdK l = some ((l, Zf3 12), ()) := by
 unfold ZdK
 refine Zaa (Zye hn) ?_
 dsimp only
 refine Zbk ⟨rfl, by rw [List.length_append]; omega, by rw [List.length_append, ZoJ]; omega⟩ ?_
 rw [List.take_left, List.drop_left]
theorem ZCV {l : List UInt8} (hn : l.length <= 1000000) : Zc5 (l, Zf3 12) l = some (true, ()) := by
 have hw : IntKind.i64.wrap ((l.length : Int) + 12) = ((l.length + 12 : Nat) : Int) := by rw [w64 (by omega)]; rfl
 have hml := ZoJ 12
 have hloop : Zas Zct ((l, l ++ Zf3 12, 0, ()), ()) = some (.inr ((), ())) := by
  refine Zbg (step := Zct) (fun j : Nat => ((l, l ++ Zf3 12, (j : Int), ()), ())) (N := l.length + 12) (fun j hj => ?_) ?_
  ·unfold Zct
   refine Zag (dT (by (try dsimp only); rw [List.length_append]; omega)) ?_
   by_cases hjl : j < l.length
   ·refine Zag (dT (by (try dsimp only); omega)) ?_
    refine Zaa (v := l[j]) (by (try dsimp only); rw [Zfa, List.getElem?_append_left hjl, List.getElem?_eq_getElem hjl]) ?_
    refine Zaa (ZaE hjl) ?_
    refine Zab (by simp) ?_
    refine Zab (dF (by (try dsimp only); omega)) ?_
    dsimp only
    rw [w64 (by omega)]
    rfl
   ·refine Zab (dF (by (try dsimp only); omega)) ?_
    refine Zag (dT (by (try dsimp only); omega)) ?_
    refine Zaa (v := mkB (j - l.length)) (by (try dsimp only); rw [Zfa, List.getElem?_append_right (by omega)]; simp [Zf3, show j - l.length < 12 by omega]) ?_
    refine Zaa (v := (((mkB (j - l.length)).toNat : Int), ())) (by
     dsimp only
     rw [w64 (by omega), show (j : Int) - (l.length : Int) = ((j - l.length : Nat) : Int) from by omega]
     exact ZBI _) ?_
    refine Zab (by simp) ?_
    dsimp only
    rw [w64 (by omega)]
    rfl
  ·unfold Zct
   exact Zab (dF (by (try dsimp only); rw [List.length_append]; omega)) rfl
 unfold Zc5
 refine Zab (dF (by simp)) ?_
 simp only [hw, Int.toNat_natCast, Int.toNat_zero, List.drop_zero, Nat.sub_zero]
 refine Zbk (by rw [List.length_append, hml]; omega) ?_
 rw [List.take_of_length_le (by rw [List.length_append, hml]; omega)]
 exact Zaa hloop rfl
end Go.Proofs.YtaihdjknneiciaaGreat
namespace Go.Proofs.YtaihdjknneiciaaGreat
open Go.RowKit
set_option maxRecDepth 100000
set_option linter.unusedVariables false
set_option linter.unusedSimpArgs false
theorem Zpk : ∀ (n : Nat) (out : List Zaf) (o : OB), Zsv (ZdD n out o).2 <= Zsv o
 | 0, out, o => Nat.le_refl _
 | n + 1, out, o => Nat.le_trans (Zpk n _ _) (Nat.le_trans ZbC (Nat.le_trans ZbC (Nat.le_trans Ziz Ziz)))
theorem ZwX {o : OB} : Zsv (Zdf o).2 <= Zsv o := Nat.le_trans ZbC (Nat.le_trans ZbC (Nat.le_trans ZbC (Nat.le_trans ZbC (Nat.le_trans ZbC (Nat.le_trans Ziz (Nat.le_trans Ziz ZbC))))))
theorem Zz7 (l : List UInt8) : Zsv (Zdd l).2 <= l.length := by
 have h1 : Zsv (ZeQ (ZdD (ZaB 40 (ZaB 1073741824 (some l)).2).1.toNat [] (ZaB 40 (ZaB 1073741824 (some l)).2).2).2).2 <= l.length := Nat.le_trans ZoH (Nat.le_trans (Zpk _ _ _) (Nat.le_trans ZbC (ZbC (o := some l))))
 unfold Zdd
 dsimp only
 split
 ·split
  ·split
   ·exact Nat.le_trans ZwX h1
   ·exact Nat.le_trans ZwX h1
  ·exact h1
 ·exact h1
theorem Zyf (l : List UInt8) (h : (Zdd l).1.2.2.2 = true) : Za2 (Zdd l).1.1 = true /\ ((Zdd l).1.2.1 = true -> Zbu (Zdd l).1.2.2.1 = true) /\ ((Zdd l).1.2.1 = false -> (Zdd l).1.2.2.1 = Ziw) := by
 revert h
 unfold Zdd
 dsimp only
 split
 ·rename_i hc
  split
  ·split
   ·rename_i hg
    intro _
    dsimp only
    exact ⟨hc.2, fun _ => hg.1, fun h => absurd h (by simp)⟩
   ·intro h; cases h
  ·intro _
   dsimp only
   exact ⟨hc.2, fun h => absurd h (by simp), fun _ => rfl⟩
 ·intro h; cases h
theorem Zz8 {l : List UInt8} (hl : l.length <= 4000) :
 (∃ q q', Zdr (true, false, l, ()) = some (.inr (((), false, ()), (rdR q, (), ()))) /\ Zi6 (rfR (some l)) = some (.inr (((), false, ()), (rfR q', ())))) \/
 ∃ s u x n l' m r, Zvk s u x n l' m /\ Zdr (true, false, l, ()) = some (.inl (((), true, ()), (rdR (some r), (), plc s u x n, (l', (), ()), m, (), ()))) /\ Zi6 (rfR (some l)) = some (.inl (((), true, ()), (rfR (some r), ZBE s u x n, (l'.map v2, ()), Zp4 u x, (), ()))) := by
 have hP := ZDl l
 have hV := Zy3 (l := l) (by omega)
 have hR := Zyf l
 have hO := Zz7 l
 have hK := ZBx (l := l) (by omega)
 generalize Zdd l = p at hP hV hR hO hK
 unfold Zdr Zi6
 cases hok : p.1.2.2.2 with
 | false =>
  rw [hok] at hP hV
  exact .inl ⟨_, _, Zaa hP (Zag rfl rfl), Zaa hV (Zag rfl rfl)⟩
 | true =>
  rw [hok] at hP hV
  obtain ⟨r1, r2, r3⟩ := hR hok
  have b1 := Zf2 1073741824 p.2
  have b2 := Zde 1073741824 hK
  have hn := ZgZ 1073741824 p.2
  have hol := ZbC (most := 1073741824) (o := p.2)
  have hok2 := Zbc (most := 1073741824) hK
  generalize ZaB 1073741824 p.2 = a at b1 b2 hn hol hok2
  rcases ZEq hok2 (by omega) with ⟨q, _, e1, e2⟩ | ⟨l', m, r, _, k1, k2, e1, e2⟩
  ·refine .inl ⟨q, q, Zaa hP (Zab rfl (Zaa b1 (Zaa e1 (Zag rfl rfl)))), Zaa hV (Zab rfl (Zaa b2 (Zaa e2 (Zag rfl rfl))))⟩
  ·have hreg : Zvk p.1.1 p.1.2.1 p.1.2.2.1 a.1 l' m := ⟨r1, r2, r3, hn.1, hn.2, k1, by omega⟩
   cases hu : p.1.2.1 with
   | false =>
    rw [hu] at hP hV hreg
    exact .inr ⟨p.1.1, false, p.1.2.2.1, a.1, l', m, r, hreg, Zaa hP (Zab rfl (Zaa b1 (Zaa e1 (Zab rfl (Zab rfl rfl))))), Zaa hV (Zab rfl (Zaa b2 (Zaa e2 (Zab rfl (Zab rfl rfl)))))⟩
   | true =>
    rw [hu] at hP hV hreg
    by_cases hc : p.1.2.2.1.num ≠ a.1
    ·exact .inl ⟨some r, some r, Zaa hP (Zab rfl (Zaa b1 (Zaa e1 (Zab rfl (Zag rfl (Zag (dT hc) rfl)))))), Zaa hV (Zab rfl (Zaa b2 (Zaa e2 (Zab rfl (Zag rfl (Zbk (by show (0 : Int) <= 0 /\ (0 : Int) < ((1 : Nat) : Int); omega) (Zaa (v := p.1.2.2.1) rfl (Zag (dT hc) rfl))))))))⟩
    ·exact .inr ⟨p.1.1, true, p.1.2.2.1, a.1, l', m, r, hreg, Zaa hP (Zab rfl (Zaa b1 (Zaa e1 (Zab rfl (Zag rfl (Zab (dF hc) rfl)))))), Zaa hV (Zab rfl (Zaa b2 (Zaa e2 (Zab rfl (Zag rfl (Zbk (by show (0 : Int) <= 0 /\ (0 : Int) < ((1 : Nat) : Int); omega) (Zaa (v := p.1.2.2.1) rfl (Zab (dF hc) rfl))))))))⟩
theorem Zst (x0 : List UInt8) (k0 : ZvV x0) : ZfY x0 = some (true, ()) := by
 unfold ZfY
 by_cases hl : (4000 : Int) < (x0.length : Int)
 ·exact Zag (dT hl) (Zaa Zu8 rfl)
 refine Zab (dF hl) (Zaa (ZCU (by omega)) ?_)
 obtain ⟨v, h1, h2, h3⟩ := ZEl (l := x0) (by omega)
 obtain ⟨vs, vx, vu, vk, ve⟩ := v
 have hN : Zcc x0 = some ((), ((true, false, x0, ()), (), ())) := by
  unfold Zcc ZiU
  exact Zaa (Zbk (by omega) rfl) rfl
 have hS := Zpj (s := vs) (by have : vs.list.length <= 1000 := h3; omega)
 have hKp := ZCV (l := x0) (by omega)
 refine Zaa h1 (Zaa h2 (Zaa hN ?_))
 rcases Zz8 (l := x0) (by omega) with ⟨q, q', e1, e2⟩ | ⟨s, u, x, n, l', m, r, hR, e1, e2⟩
 ·refine Zaa e1 (Zaa e2 (Zab (by simp) (Zab (by simp) (Zab (by simp) (Zaa hS (Zab rfl (Zab (by simp) (Zaa hKp (Zab rfl (Zag rfl (Zag rfl (Zaa Zu8 rfl))))))))))))
 ·obtain ⟨st, hs⟩ := ZFv hR
  refine Zaa e1 (Zaa e2 (Zab (by simp) (Zab (by simp) (Zab (by simp) (Zaa hS (Zab rfl (Zab (by simp) (Zaa hKp (Zab rfl (Zab rfl (Zab rfl (Zaa hs (Zag rfl (Zaa (v := ((r.length : Int), (rdR (some r), ()))) rfl (Zag (dT rfl) (Zaa Zu8 rfl))))))))))))))))
end Go.Proofs.YtaihdjknneiciaaGreat
