/- XSpo, XDd, XCu, XSh1, XSk1, XTu1, XTp1, XSt1 in one. -/
import Derived.Test.YtaihdjknneiciaaGreatG1
import Derived.Test.YtaihdjknneiciaaGreatPl
namespace Go.Proofs.YtaihdjknneiciaaGreat
open Go.RowKit
set_option maxRecDepth 100000
set_option linter.unusedVariables false
set_option linter.unusedSimpArgs false
abbrev Tx := List UInt8
def OkT (s : Tx) : Prop := s.length <= 140737488355328
def ZlH (s : Zao) : Prop := OkT s.lo /\ OkT s.hi
theorem ZlH.of {s : Zao} (h : ZCh s) : ZlH s := ⟨h.1, h.2.1⟩
def Zl9 (c : UInt8) : Bool := (decide ((97 : Int) <= (c.toNat : Int)) && decide ((c.toNat : Int) <= 122)) || (decide ((48 : Int) <= (c.toNat : Int)) && decide ((c.toNat : Int) <= 57))
def ZwM (s : Tx) : Bool := (!decide (s = [])) && (decide (s.length <= 20) && s.all Zl9)
theorem ZCv {s : Tx} (h : OkT s) : Zg5 s = some (ZwM s, ()) := by
 unfold OkT at h
 unfold Zg5 ZwM
 by_cases h1 : s = []
 ·rw [dT h1, cond_true]; simp
 rw [dF h1, cond_false]
 by_cases h2 : s.length <= 20
 ·have key : Zas ZiL ((s, (s.length : Int), 0, ()), ()) = some (if s.all Zl9 then .inr ((), ()) else .inl ((false, ()), ())) := by
   refine ZgF (fun n a => ∃ i : Nat, a = ((s, (s.length : Int), (i : Int), ()), ()) /\ i <= s.length /\ (s.drop i).all Zl9 = s.all Zl9 /\ n = s.length - i) _ ?_ (n := s.length) ⟨0, rfl, Nat.zero_le _, rfl, rfl⟩
   rintro n a ⟨i, rfl, g1, g2, rfl⟩
   unfold ZiL
   dsimp only
   by_cases hi : i < s.length
   ·rw [List.drop_eq_getElem_cons hi, List.all_cons] at g2
    rw [dT (by omega), cond_true, ZaE hi, Option.bind_some, w64 (by omega)]
    cases hc : Zl9 s[i]
    ·right
     rw [hc] at g2
     rw [<- g2]
     unfold Zl9 at hc
     by_cases q1 : (97 : Int) <= (s[i].toNat : Int) <;> by_cases q2 : (s[i].toNat : Int) <= 122 <;> by_cases q3 : (48 : Int) <= (s[i].toNat : Int) <;> by_cases q4 : (s[i].toNat : Int) <= 57 <;> simp [q1, q2, q3, q4] at hc ⊢
    ·left
     rw [hc, Bool.true_and] at g2
     refine ⟨s.length - (i + 1), _, by omega, ?_, i + 1, rfl, by omega, g2, rfl⟩
     unfold Zl9 at hc
     by_cases q1 : (97 : Int) <= (s[i].toNat : Int) <;> by_cases q2 : (s[i].toNat : Int) <= 122 <;> by_cases q3 : (48 : Int) <= (s[i].toNat : Int) <;> by_cases q4 : (s[i].toNat : Int) <= 57 <;> simp [q1, q2, q3, q4] at hc ⊢
   ·right
    obtain rfl : i = s.length := by omega
    rw [dF (by omega), cond_false, <- g2, List.drop_length]
    rfl
  rw [dF (by omega), cond_false, key, dT h2]
  cases s.all Zl9 <;> rfl
 ·rw [dT (by omega), cond_true, dF h2]
  simp
theorem ltT (a : Tx) : ¬ a < a := by grind
theorem Znv (a b : Tx) : ZcZ ⟨a⟩ ⟨b⟩ = some (if a < b then -1 else if a = b then 0 else 1, ()) := by
 unfold ZcZ ZlY ZmB
 simp only [Option.bind_some]
 rw [dF (p := a ≠ a) (by simp), dF (p := b ≠ b) (by simp), cond_false, cond_false]
 by_cases h1 : a < b
 ·simp [h1]
 ·by_cases h2 : a = b <;> simp [h1, h2, ltT]
theorem ZBh (h t : Tx) : Zd9 ⟨⟨h⟩⟩ ⟨t⟩ = some (decide (h = []) || decide (t < h), ()) := by
 unfold Zd9 ZdJ
 simp only [Option.bind_some, Znv]
 by_cases h1 : h = []
 ·simp [h1]
 rw [dF h1, cond_false, Bool.false_or]
 by_cases h2 : h < t
 ·have : ¬ t < h := by grind
  simp [h2, this]
 ·by_cases h3 : h = t
  ·simp [h3, ltT]
  ·have : t < h := by grind
   simp [h2, h3, this]
theorem ZFi (h g : Tx) : ZmI ⟨⟨h⟩⟩ ⟨⟨g⟩⟩ = some (decide (h = []) || (!decide (g = []) && !decide (h < g)), ()) := by
 unfold ZmI ZdJ
 simp only [Option.bind_some, Znv]
 by_cases h1 : h = []
 ·simp [h1]
 rw [dF h1, cond_false, Bool.false_or]
 by_cases h0 : g = []
 ·simp [h0]
 rw [dF h0]
 by_cases h2 : h < g
 ·simp [h2]
 ·by_cases h3 : h = g <;> simp [h2, h3, ltT]
def Za1 (s : Zao) : Bool := (decide (s.lo = []) || ZwM s.lo) && ((decide (s.hi = []) || ZwM s.hi) && (decide (s.hi = []) || decide (s.lo < s.hi)))
theorem ZgW {s : Zao} (h : ZlH s) : Zbn s = some (Za1 s, ()) := by
 obtain ⟨h1, h2⟩ := h
 unfold Zbn Zfy ZdJ Za1
 simp only [Option.bind_some, ZCv h1, ZCv h2, ZBh]
 by_cases q1 : s.lo = [] <;> by_cases q2 : s.hi = [] <;> cases q3 : ZwM s.lo <;> cases q4 : ZwM s.hi <;> simp [q1, q2, q3, q4]
def ZyS (s : Zao) (k : Tx) : Bool := Za1 s && (ZwM k && (!decide (k < s.lo) && (decide (s.hi = []) || decide (k < s.hi))))
theorem ZCw {s : Zao} {k : Tx} (h : ZlH s) (hk : OkT k) : ZmM s k = some (ZyS s k, ()) := by
 unfold ZmM Zfy ZyS
 simp only [Option.bind_some, ZgW h, ZCv hk, ZBh, Znv]
 cases q1 : Za1 s
 ·simp
 cases q2 : ZwM k
 ·simp
 simp only [cond_true, Bool.true_and]
 by_cases g1 : s.lo < k
 ·have : ¬ k < s.lo := by grind
  simp [g1, this]
 ·by_cases g2 : s.lo = k
  ·simp [g2, ltT]
  ·have : k < s.lo := by grind
   simp [g1, g2, this]
def ZcJ (a s : Zao) : Bool := Za1 a && (Za1 s && (!decide (a.lo < s.lo) && (decide (s.hi = []) || (!decide (a.hi = []) && !decide (s.hi < a.hi)))))
theorem ZyT {a s : Zao} (ha : ZlH a) (hs : ZlH s) : ZgJ a s = some (ZcJ a s, ()) := by
 unfold ZgJ Zfy ZcJ
 simp only [Option.bind_some, ZgW ha, ZgW hs, ZFi, Znv]
 cases q1 : Za1 a
 ·simp
 cases q2 : Za1 s
 ·simp
 simp only [cond_true, Bool.true_and]
 by_cases g1 : s.lo < a.lo
 ·have : ¬ a.lo < s.lo := by grind
  simp [g1, this]
 ·by_cases g2 : s.lo = a.lo
  ·simp [g2, ltT]
  ·have : a.lo < s.lo := by grind
   simp [g1, g2, this]
def ZwN : Zao -> List Tx -> List Zao
 | s, [] => [s]
 | s, k :: l => bif !ZyS s k then ZwN s l else bif decide (k = s.lo) then ZwN s l else ⟨s.lo, k⟩ :: ZwN ⟨k, s.hi⟩ l
theorem ZBi (s : Zao) (k : Tx) (l : List Tx) : ZwN s (k :: l) = bif !ZyS s k then ZwN s l else bif decide (k = s.lo) then ZwN s l else ⟨s.lo, k⟩ :: ZwN ⟨k, s.hi⟩ l := rfl
theorem ZCx (s : Zao) (l : List Tx) : (ZwN s l).length <= l.length + 1 := by
 induction l generalizing s with
 | nil => simp [ZwN]
 | cons k l ih =>
  unfold ZwN
  cases ZyS s k
  ·have := ih s; simp; omega
  ·by_cases h : k = s.lo
   ·have := ih s; simp [h] at this ⊢; omega
   ·have := ih ⟨k, s.hi⟩; simp [h]; omega
theorem ZBj {xs at_ : List Tx} (zs : List Tx) (hx : ∀ k ∈ xs, OkT k) (hl : xs.length <= 100000) {s : Zao} (hs : ZlH s) :
 ∃ out s', Zas ZgK (((), [], (0, xs.length), (xs.length : Int), 0, ()), (s, xs ++ zs, (), ())) = some (((), out, ()), (s', xs ++ zs, (), (), ())) /\ out ++ [s'] = ZwN s xs := by
 obtain ⟨z, hz, out, s', rfl, h2⟩ : ∃ z, Zas ZgK (((), [], (0, xs.length), (xs.length : Int), 0, ()), (s, xs ++ zs, (), ())) = some z /\ ∃ out s', z = (((), out, ()), (s', xs ++ zs, (), (), ())) /\ out ++ [s'] = ZwN s xs := by
  refine Zbx (fun n a => ∃ (i : Nat) (out : List Zao) (t : Zao), a = (((), out, (0, xs.length), (xs.length : Int), (i : Int), ()), (t, xs ++ zs, (), ())) /\ i <= xs.length /\ ZlH t /\ out ++ ZwN t (xs.drop i) = ZwN s xs /\ out.length <= i /\ n = xs.length - i) _ ?_ (n := xs.length) ⟨0, [], s, rfl, Nat.zero_le _, hs, rfl, Nat.le_refl _, rfl⟩
  rintro n a ⟨i, out, t, rfl, h1, ht, h2, h3, rfl⟩
  unfold ZgK
  by_cases hi : i < xs.length
  ·left
   have hk := hx _ (List.getElem_mem hi)
   rw [List.drop_eq_getElem_cons hi, ZBi] at h2
   have hg : (xs ++ zs)[0 + ((i : Int)).toNat]? = some xs[i] := by
    rw [Nat.zero_add, Int.toNat_natCast, List.getElem?_append_left hi, List.getElem?_eq_getElem hi]
   cases hh : ZyS t xs[i]
   ·rw [hh] at h2
    refine ⟨xs.length - (i + 1), _, by omega, ?_, i + 1, out, t, rfl, by omega, ht, h2, by omega, rfl⟩
    refine Zag (dT (by (try dsimp only); omega)) ?_
    refine Zbk (by (try dsimp only); omega) ?_
    refine Zaa hg ?_
    refine Zaa (ZCw ht hk) ?_
    refine Zag (by (try dsimp only); rw [hh]; rfl) ?_
    dsimp only
    rw [w64 (by omega)]
    rfl
   ·rw [hh] at h2
    by_cases he : xs[i] = t.lo
    ·rw [dT he] at h2
     refine ⟨xs.length - (i + 1), _, by omega, ?_, i + 1, out, t, rfl, by omega, ht, h2, by omega, rfl⟩
     refine Zag (dT (by (try dsimp only); omega)) ?_
     refine Zbk (by (try dsimp only); omega) ?_
     refine Zaa hg ?_
     refine Zaa (ZCw ht hk) ?_
     refine Zab (by (try dsimp only); rw [hh]; rfl) ?_
     refine Zag (dT he) ?_
     dsimp only
     rw [w64 (by omega)]
     rfl
    ·rw [dF he] at h2
     refine ⟨xs.length - (i + 1), _, by omega, ?_, i + 1, out ++ [⟨t.lo, xs[i]⟩], ⟨xs[i], t.hi⟩, rfl, by omega, ⟨hk, ht.2⟩, by rw [List.append_assoc]; exact h2, by simp; omega, rfl⟩
     refine Zag (dT (by (try dsimp only); omega)) ?_
     refine Zbk (by (try dsimp only); omega) ?_
     refine Zaa hg ?_
     refine Zaa (ZCw ht hk) ?_
     refine Zab (by (try dsimp only); rw [hh]; rfl) ?_
     refine Zab (dF he) ?_
     refine Zbk (by (try dsimp only); simp; omega) ?_
     dsimp only
     rw [w64 (by omega)]
     rfl
  ·right
   obtain rfl : i = xs.length := by omega
   refine ⟨_, Zab (dF (by (try dsimp only); omega)) rfl, out, t, rfl, ?_⟩
   rw [List.drop_length] at h2
   exact h2
 exact ⟨out, s', hz, h2⟩
def Zdc : Tx -> List Zao -> Bool
 | _, [] => false
 | f, [s] => Za1 s && (decide (s.lo = f) && decide (s.hi = []))
 | f, s :: t :: l => Za1 s && (decide (s.lo = f) && (!decide (s.hi = []) && Zdc s.hi (t :: l)))
theorem ZD1 {l : List Zao} (hl : l.length <= 140737488355328) (h : ∀ s ∈ l, ZlH s) : ZhY l = some (Zdc [] l, ()) := by
 have key : ∃ z, Zas Zga ((l, ([] : List UInt8), false, l, (l.length : Int), 0, ()), ()) = some z /\ (z = .inl ((false, ()), ()) /\ Zdc [] l = false \/ z = .inr ((Zdc [] l, ()), ())) := by
  refine Zbx (fun n a => ∃ (i : Nat) (f : Tx) (o : Bool), a = ((l, f, o, l, (l.length : Int), (i : Int), ()), ()) /\ i <= l.length /\ (o = false -> Zdc f (l.drop i) = Zdc [] l) /\ (o = true -> i = l.length /\ Zdc [] l = true) /\ n = l.length - i) _ ?_ (n := l.length) ⟨0, [], false, rfl, Nat.zero_le _, fun _ => rfl, (fun h => by cases h), rfl⟩
  rintro n a ⟨i, f, o, rfl, h1, h2, h3, rfl⟩
  unfold Zga
  by_cases hi : i < l.length
  ·cases o with
   | true => have := (h3 rfl).1; omega
   | false =>
   have h2 := h2 rfl
   have ho := h _ (List.getElem_mem hi)
   rw [List.drop_eq_getElem_cons hi] at h2
   cases hr : Za1 l[i]
   ·right
    refine ⟨_, Zag (dT (by (try dsimp only); omega)) (Zaa (ZaE hi) (Zaa (ZgW ho) (Zag (by (try dsimp only); rw [hr]; rfl) rfl))), .inl ⟨rfl, ?_⟩⟩
    rw [<- h2]
    cases hd : l.drop (i + 1) <;> simp [Zdc, hr]
   ·by_cases hf : l[i].lo = f
    ·by_cases hh : l[i].hi = []
     ·by_cases hlast : i + 1 = l.length
      ·left
       refine ⟨l.length - (i + 1), _, by omega, Zag (dT (by (try dsimp only); omega)) (Zaa (ZaE hi) (Zaa (ZgW ho) (Zab (by (try dsimp only); rw [hr]; rfl) (Zab (dF (by (try dsimp only); rw [hf]; simp)) (Zab rfl (Zag (dT hh) (Zab (dF ?_) rfl))))))), i + 1, l[i].hi, true, ?_, by omega, (fun h => by cases h), fun _ => ⟨hlast, ?_⟩, rfl⟩
       ·dsimp only; rw [w64 (by omega)]; omega
       ·dsimp only; rw [dT hh, w64 (by omega)]; rfl
       ·rw [<- h2, List.drop_of_length_le (by omega)]
        simp [Zdc, hr, hf, hh]
      ·right
       refine ⟨_, Zag (dT (by (try dsimp only); omega)) (Zaa (ZaE hi) (Zaa (ZgW ho) (Zab (by (try dsimp only); rw [hr]; rfl) (Zab (dF (by (try dsimp only); rw [hf]; simp)) (Zab rfl (Zag (dT hh) (Zag (dT (by (try dsimp only); rw [w64 (by omega)]; omega)) rfl))))))), .inl ⟨rfl, ?_⟩⟩
       rw [<- h2, List.drop_eq_getElem_cons (by omega : i + 1 < l.length)]
       simp [Zdc, hh]
     ·left
      refine ⟨l.length - (i + 1), _, by omega, Zag (dT (by (try dsimp only); omega)) (Zaa (ZaE hi) (Zaa (ZgW ho) (Zab (by (try dsimp only); rw [hr]; rfl) (Zab (dF (by (try dsimp only); rw [hf]; simp)) (Zab rfl (Zab (dF hh) rfl)))))), i + 1, l[i].hi, false, ?_, by omega, fun _ => ?_, (fun h => by cases h), rfl⟩
      ·dsimp only; rw [dF hh, w64 (by omega)]; rfl
      ·rw [<- h2]
       by_cases hlast : i + 1 = l.length
       ·rw [List.drop_of_length_le (by omega)]
        simp [Zdc, hh]
       ·rw [List.drop_eq_getElem_cons (by omega : i + 1 < l.length)]
        simp [Zdc, hr, hf, hh]
    ·right
     refine ⟨_, Zag (dT (by (try dsimp only); omega)) (Zaa (ZaE hi) (Zaa (ZgW ho) (Zab (by (try dsimp only); rw [hr]; rfl) (Zag (dT hf) rfl)))), .inl ⟨rfl, ?_⟩⟩
     rw [<- h2]
     cases hd : l.drop (i + 1) <;> simp [Zdc, hf]
  ·right
   obtain rfl : i = l.length := by omega
   refine ⟨_, Zab (dF (by (try dsimp only); omega)) rfl, .inr ?_⟩
   cases o with
   | true => rw [(h3 rfl).2]
   | false =>
    have := h2 rfl
    rw [List.drop_length] at this
    rw [<- this]; rfl
 obtain ⟨z, h1, h2⟩ := key
 unfold ZhY
 refine Zaa h1 ?_
 rcases h2 with ⟨rfl, h3⟩ | rfl
 ·rw [h3]
 ·rfl
end Go.Proofs.YtaihdjknneiciaaGreat
namespace Go.Proofs.YtaihdjknneiciaaGreat
open Go.RowKit
set_option maxRecDepth 100000
set_option linter.unusedVariables false
set_option linter.unusedSimpArgs false
section
variable {α : Type} [DecidableEq α]
def dd : List α -> List α
 | [] => []
 | [x] => [x]
 | x :: y :: l => if x = y then dd (y :: l) else x :: dd (y :: l)
theorem Zu2 : ∀ (l : List α) (x : α), dd (l ++ [x]) = if l.getLast? = some x then dd l else dd l ++ [x]
 | [], x => by simp [dd]
 | [a], x => by
  simp only [List.cons_append, List.nil_append, dd, List.getLast?_singleton, Option.some.injEq]
  by_cases h : a = x
  ·rw [if_pos h, if_pos h, h]
  ·rw [if_neg h, if_neg h]
 | a :: b :: l, x => by
  have ih := Zu2 (b :: l) x
  simp only [List.cons_append] at ih ⊢
  simp only [dd, List.getLast?_cons_cons]
  rw [ih]
  by_cases h : a = b
  ·rw [if_pos h, if_pos h]
  ·rw [if_neg h, if_neg h]
   split <;> rfl
theorem ZBk : ∀ (l : List α), (dd l).Sublist l
 | [] => .slnil
 | [x] => by simp [dd]
 | x :: y :: l => by
  unfold dd
  split
  ·exact (ZBk (y :: l)).cons _
  ·exact (ZBk (y :: l)).cons_cons _
theorem ZDf {x : α} : ∀ {l : List α}, x ∈ dd l ↔ x ∈ l
 | [] => by simp [dd]
 | [y] => by simp [dd]
 | a :: b :: l => by
  unfold dd
  have ih := ZDf (x := x) (l := b :: l)
  split
  ·rename_i h
   rw [ih]
   subst h
   simp
  ·simp only [List.mem_cons] at ih ⊢
   rw [ih]
theorem ZDg (l : List α) : (dd l).length <= l.length := (ZBk l).length_le
end
abbrev leT (x y : List UInt8) : Bool := decide (x <= y)
def sdF (l : List (List UInt8)) : List (List UInt8) := dd (l.mergeSort leT)
theorem ZD2 {x : List UInt8} {l : List (List UInt8)} : x ∈ sdF l ↔ x ∈ l := by
 unfold sdF
 rw [ZDf, List.mem_mergeSort]
theorem ZD3 (l : List (List UInt8)) : (sdF l).length <= l.length := by
 have := ZDg (l.mergeSort leT)
 rw [List.length_mergeSort] at this
 exact this
end Go.Proofs.YtaihdjknneiciaaGreat
namespace Go.Proofs.YtaihdjknneiciaaGreat
open Go.RowKit
set_option maxRecDepth 100000
set_option linter.unusedVariables false
set_option linter.unusedSimpArgs false
theorem Zsc {α : Type} {a b : List α} {i j : Nat} (h : a.drop i = b.drop i) (hj : i <= j) : a[j]? = b[j]? := by
 have := congrArg (·[j - i]?) h
 simp only [List.getElem?_drop] at this
 rwa [show i + (j - i) = j from by omega] at this
theorem Zph {α : Type} {a b : List α} {i j : Nat} (h : a.drop i = b.drop i) (hj : i <= j) : a.drop j = b.drop j := by
 have := congrArg (·.drop (j - i)) h
 simp only [List.drop_drop] at this
 rwa [show i + (j - i) = j from by omega] at this
theorem Zsd {α : Type} {l : List α} {j : Nat} (hj : 1 <= j) (h : j <= l.length) : (l.take j).getLast? = l[j - 1]? := by
 rw [List.getLast?_eq_getElem?, List.length_take, List.getElem?_take]
 rw [show min j l.length = j from by omega, if_pos (by omega)]
theorem Zx7 {xs : List Tx} {k : Nat} (hk : 1 <= k) (hkn : k < xs.length) (hn : xs.length <= 1000000) (hnd : dd (xs.take k) = xs.take k) (heq : xs[k]? = xs[k - 1]?) :
 ∃ arr : List Tx, Zas Zco (((0, xs.length), (k : Int), (k, xs.length - k), 1, ()), (xs, ())) = some (((0, xs.length), ((dd xs).length : Int), ()), (arr, ())) /\ arr.length = xs.length /\ arr.take (dd xs).length = dd xs := by
 obtain ⟨z, hz, arr, rfl, h1, h2⟩ : ∃ z, Zas Zco (((0, xs.length), (k : Int), (k, xs.length - k), 1, ()), (xs, ())) = some z /\ ∃ arr : List Tx, z = (((0, xs.length), ((dd xs).length : Int), ()), (arr, ())) /\ arr.length = xs.length /\ arr.take (dd xs).length = dd xs := by
  refine Zbx (fun n a => ∃ (d k' : Nat) (arr : List Tx), a = (((0, xs.length), (k' : Int), (k, xs.length - k), (d : Int), ()), (arr, ())) /\ 1 <= d /\ k + d <= xs.length /\ arr.length = xs.length /\ arr.drop (k + d - 1) = xs.drop (k + d - 1) /\ k' <= k + d - 1 /\ k' = (dd (xs.take (k + d))).length /\ arr.take k' = dd (xs.take (k + d)) /\ n = xs.length - (k + d)) _ ?_ (n := xs.length - (k + 1)) ?_
  rotate_left
  ·have hx : dd (xs.take (k + 1)) = xs.take k := by
    rw [List.take_succ_eq_append_getElem hkn, Zu2, Zsd hk (by omega), <- heq, List.getElem?_eq_getElem hkn, if_pos rfl, hnd]
   refine ⟨1, k, xs, rfl, Nat.le_refl _, by omega, rfl, rfl, by omega, ?_, ?_, rfl⟩
   ·rw [hx, List.length_take]; omega
   ·rw [hx]
  rintro n a ⟨d, k', arr, rfl, h1, h2, h3, h4, h5, h6, h7, rfl⟩
  unfold Zco
  by_cases hd : k + d < xs.length
  ·left
   have g1 : arr[k + d]? = some xs[k + d] := by rw [Zsc h4 (by omega), List.getElem?_eq_getElem hd]
   have g2 : arr[k + (d - 1)]? = some xs[k + d - 1] := by rw [Zsc h4 (by omega), show k + (d - 1) = k + d - 1 from by omega, List.getElem?_eq_getElem (by omega)]
   have hw : IntKind.i64.wrap ((d : Int) - 1) = ((d - 1 : Nat) : Int) := by rw [w64 (by omega)]; omega
   have hnext : dd (xs.take (k + d + 1)) = if xs[k + d - 1] = xs[k + d] then dd (xs.take (k + d)) else dd (xs.take (k + d)) ++ [xs[k + d]] := by
    rw [List.take_succ_eq_append_getElem hd, Zu2, Zsd (by omega) (by omega), List.getElem?_eq_getElem (by omega)]
    by_cases he : xs[k + d - 1] = xs[k + d]
    ·rw [if_pos (congrArg some he), if_pos he]
    ·rw [if_neg (fun h => he (by injection h)), if_neg he]
   by_cases he : xs[k + d - 1] = xs[k + d]
   ·rw [if_pos he] at hnext
    refine ⟨xs.length - (k + (d + 1)), _, by omega, ?_, d + 1, k', arr, rfl, by omega, by omega, h3, ?_, by omega, by rw [<- Nat.add_assoc, hnext]; exact h6, by rw [<- Nat.add_assoc, hnext]; exact h7, rfl⟩
    ·refine Zag (dT (by (try dsimp only); omega)) ?_
     refine Zbk (by (try dsimp only); omega) ?_
     refine Zbk (by (try dsimp only); rw [hw]; omega) ?_
     refine Zaa g1 ?_
     refine Zaa (v := xs[k + d - 1]) (by (try dsimp only); rw [hw, Int.toNat_natCast]; exact g2) ?_
     refine Zab (dF (fun h => h he.symm)) ?_
     dsimp only
     rw [w64 (by omega)]
     rfl
    ·exact Zph h4 (by omega)
   ·rw [if_neg he] at hnext
    refine ⟨xs.length - (k + (d + 1)), _, by omega, ?_, d + 1, k' + 1, arr.set k' xs[k + d], rfl, by omega, by omega, by simpa using h3, ?_, by omega, by rw [<- Nat.add_assoc, hnext, List.length_append, <- h6]; rfl, ?_, rfl⟩
    ·refine Zag (dT (by (try dsimp only); omega)) ?_
     refine Zbk (by (try dsimp only); omega) ?_
     refine Zbk (by (try dsimp only); rw [hw]; omega) ?_
     refine Zaa g1 ?_
     refine Zaa (v := xs[k + d - 1]) (by (try dsimp only); rw [hw, Int.toNat_natCast]; exact g2) ?_
     refine Zag (dT (fun h => he h.symm)) ?_
     refine Zbk (by (try dsimp only); omega) ?_
     refine Zaa g1 ?_
     refine Zbk (by (try dsimp only); omega) ?_
     refine Zaa (v := arr[k']'(by omega)) (by (try dsimp only); rw [Nat.zero_add, Int.toNat_natCast]; exact List.getElem?_eq_getElem _) ?_
     dsimp only
     rw [w64 (by omega), w64 (by omega), Nat.zero_add, Int.toNat_natCast]
     rfl
    ·rw [List.drop_set_of_lt (by omega)]
     exact Zph h4 (by omega)
    ·rw [<- Nat.add_assoc, hnext, List.take_succ_eq_append_getElem (by simp; omega), List.getElem_set_self, List.take_set_of_le (Nat.le_refl _), h7]
  ·right
   have hkd : k + d = xs.length := by omega
   have ht : xs.take (k + d) = xs := by rw [hkd, List.take_length]
   rw [ht] at h6 h7
   refine ⟨_, Zab (dF (by (try dsimp only); omega)) rfl, arr, ?_, h3, ?_⟩
   ·dsimp only; rw [h6]
   ·rw [<- h6]; exact h7
 exact ⟨arr, hz, h1, h2⟩
theorem ZBl {xs : List Tx} (hn : xs.length <= 1000000) : ∃ arr : List Tx, Zfb (0, xs.length) xs = some ((0, (dd xs).length), (arr, ())) /\ arr.take (dd xs).length = dd xs := by
 unfold Zfb
 by_cases h2 : xs.length < 2
 ·have hd : dd xs = xs := by
   match xs, h2 with
   | [], _ => rfl
   | [x], _ => rfl
  refine ⟨xs, Zag (dT (by (try dsimp only); omega)) ?_, by rw [hd, List.take_length]⟩
  rw [hd]
 ·have key : ∃ z, Zas Zdn (((0, xs.length), 1, ()), (xs, ())) = some z /\ ((∃ arr : List Tx, z = .inl (((0, (dd xs).length), ()), (arr, ())) /\ arr.take (dd xs).length = dd xs) \/ z = .inr (((0, xs.length), ()), (xs, ())) /\ dd xs = xs) := by
   refine Zbx (fun n a => ∃ k : Nat, a = (((0, xs.length), (k : Int), ()), (xs, ())) /\ 1 <= k /\ k <= xs.length /\ dd (xs.take k) = xs.take k /\ n = xs.length - k) _ ?_ (n := xs.length - 1) ⟨1, rfl, Nat.le_refl _, by omega, ?_, rfl⟩
   rotate_left
   ·match xs, h2 with
    | [], h => exact absurd (by simp) h
    | x :: l, _ => rfl
   rintro n a ⟨k, rfl, g1, g2, g3, rfl⟩
   unfold Zdn
   by_cases hk : k < xs.length
   ·have hw : IntKind.i64.wrap ((k : Int) - 1) = ((k - 1 : Nat) : Int) := by rw [w64 (by omega)]; omega
    have r1 : xs[0 + k]? = some xs[k] := by rw [Nat.zero_add, List.getElem?_eq_getElem hk]
    have r2 : xs[0 + (k - 1)]? = some xs[k - 1] := by rw [Nat.zero_add, List.getElem?_eq_getElem (by omega)]
    by_cases he : xs[k] = xs[k - 1]
    ·right
     obtain ⟨arr, q1, q2, q3⟩ := Zx7 g1 hk hn g3 (by rw [List.getElem?_eq_getElem hk, List.getElem?_eq_getElem (by omega), he])
     have hdl := ZDg xs
     have hdt : dd (xs.take k) = xs.take k := g3
     refine ⟨_, ?_, .inl ⟨arr.take (dd xs).length ++ List.replicate (xs.length - (dd xs).length) [] ++ arr.drop ((dd xs).length + (xs.length - (dd xs).length)), rfl, ?_⟩⟩
     ·refine Zag (dT (by (try dsimp only); omega)) ?_
      refine Zbk (by (try dsimp only); omega) ?_
      refine Zbk (by (try dsimp only); rw [hw]; omega) ?_
      refine Zaa r1 ?_
      refine Zaa (v := xs[k - 1]) (by (try dsimp only); rw [hw, Int.toNat_natCast]; exact r2) ?_
      refine Zag (dT he) ?_
      refine Zbk (by (try dsimp only); omega) ?_
      refine Zaa (v := (((0, xs.length), ((dd xs).length : Int), ()), (arr, ()))) (by (try dsimp only); rw [Nat.zero_add, Int.toNat_natCast, Int.toNat_natCast]; exact q1) ?_
      refine Zbk (by (try dsimp only); omega) ?_
      refine Zbk (by (try dsimp only); rw [Nat.zero_add, Int.toNat_natCast]; omega) ?_
      dsimp only
      refine Zbk (by omega) ?_
      simp only [Nat.zero_add, Int.toNat_natCast]
      rfl
     ·rw [List.append_assoc, List.take_append_of_le_length (by rw [List.length_take]; omega), List.take_take, Nat.min_self]
      exact q3
    ·left
     refine ⟨xs.length - (k + 1), _, by omega, ?_, k + 1, rfl, by omega, by omega, ?_, rfl⟩
     ·refine Zag (dT (by (try dsimp only); omega)) ?_
      refine Zbk (by (try dsimp only); omega) ?_
      refine Zbk (by (try dsimp only); rw [hw]; omega) ?_
      refine Zaa r1 ?_
      refine Zaa (v := xs[k - 1]) (by (try dsimp only); rw [hw, Int.toNat_natCast]; exact r2) ?_
      refine Zab (dF he) ?_
      dsimp only
      rw [w64 (by omega)]
      rfl
     ·rw [List.take_succ_eq_append_getElem hk, Zu2, Zsd g1 (by omega), List.getElem?_eq_getElem (by omega), if_neg (fun h => he (by injection h with h; exact h.symm)), g3]
   ·right
    have hkx : k = xs.length := by omega
    refine ⟨_, Zab (dF (by (try dsimp only); omega)) rfl, .inr ⟨rfl, ?_⟩⟩
    rw [hkx, List.take_length] at g3
    exact g3
  obtain ⟨z, hz, ⟨arr, rfl, q⟩ | ⟨rfl, q⟩⟩ := key
  ·exact ⟨arr, Zab (dF (by (try dsimp only); omega)) (Zaa hz rfl), q⟩
  ·refine ⟨xs, Zab (dF (by (try dsimp only); omega)) (Zaa hz ?_), by rw [q, List.take_length]⟩
   dsimp only
   rw [q]
theorem ZCy {xs : List Tx} (h : xs.length <= 1000000) : Zgc xs = some ((0, xs.length), (xs, xs.mergeSort leT, ())) := by
 unfold Zgc ZhN Zmx
 rw [if_pos (by omega)]
 refine Zaa rfl ?_
 refine Zaa (v := ((), (xs.mergeSort leT, ()))) ?_ rfl
 unfold ZCt
 exact if_pos ⟨rfl, rfl, by (try dsimp only); omega⟩
theorem ZGo {s : Zao} {xs : List Tx} (hs : ZlH s) (hx : ∀ k ∈ xs, OkT k) (hl : xs.length <= 100000) : ZkO s xs = some (bif Za1 s then ZwN s (sdF xs) else [], ((), ())) := by
 unfold ZkO
 rw [ZgW hs]
 refine Zaa rfl ?_
 cases Za1 s
 ·exact Zag rfl rfl
 refine Zab rfl ?_
 refine Zaa rfl ?_
 refine Zaa (ZCy (xs := xs) (by omega)) ?_
 obtain ⟨arr, c1, c2⟩ := ZBl (xs := xs.mergeSort leT) (by rw [List.length_mergeSort]; omega)
 rw [List.length_mergeSort] at c1
 refine Zaa c1 ?_
 have hdl := ZD3 xs
 have harr : arr = sdF xs ++ arr.drop (sdF xs).length := by
  conv => lhs; rw [<- List.take_append_drop (sdF xs).length arr]
  rw [show arr.take (sdF xs).length = sdF xs from c2]
 obtain ⟨out, s', h1, h2⟩ := ZBj (at_ := []) (arr.drop (sdF xs).length) (xs := sdF xs) (fun k hk => hx k (ZD2.1 hk)) (by omega) hs
 rw [<- harr] at h1
 refine Zaa h1 ?_
 have hcl := ZCx s (sdF xs)
 rw [<- h2] at hcl
 simp at hcl
 refine Zbk (by (try dsimp only); simp; omega) ?_
 rw [<- h2]
 rfl
end Go.Proofs.YtaihdjknneiciaaGreat
namespace Go.Proofs.YtaihdjknneiciaaGreat
open Go.RowKit
set_option maxRecDepth 100000
set_option linter.unusedVariables false
set_option linter.unusedSimpArgs false
theorem Znw (n lo hi : Int) : ZbU n lo hi = some (decide (lo <= n) && decide (n <= hi), ()) := by
 unfold ZbU
 by_cases h : lo <= n <;> simp [h]
def ixF (p : Zaf -> Bool) (l : List Zaf) : Int := if l.any p = true then (l.findIdx p : Int) else -1
theorem Zu3 {α β : Type} {step : α -> Option (α ⊕ β)} (l : List Zaf) (p : Zaf -> Bool) (st : Int -> α) (hit : Int -> β) (miss : β)
 (h1 : ∀ (i : Nat) (hi : i < l.length), p l[i] = true -> step (st i) = some (.inr (hit i))) (h2 : ∀ (i : Nat) (hi : i < l.length), p l[i] = false -> step (st i) = some (.inl (st ((i + 1 : Nat) : Int)))) (h3 : step (st l.length) = some (.inr miss)) :
 Zas step (st 0) = some (if l.any p = true then hit (l.findIdx p) else miss) := by
 refine ZgF (fun n a => ∃ i : Nat, a = st i /\ i <= l.length /\ (∀ (j : Nat) (hj : j < l.length), j < i -> p l[j] = false) /\ n = l.length - i) _ ?_ (n := l.length) ⟨0, rfl, Nat.zero_le _, fun j _ h => absurd h (Nat.not_lt_zero j), rfl⟩
 rintro n a ⟨i, rfl, k1, k2, rfl⟩
 by_cases hi : i < l.length
 ·cases hp : p l[i]
  ·refine .inl ⟨_, _, by omega, h2 i hi hp, i + 1, rfl, by omega, fun j hj hji => ?_, rfl⟩
   by_cases he : j = i
   ·subst he; exact hp
   ·exact k2 j hj (by omega)
  ·right
   have hany : l.any p = true := List.any_eq_true.2 ⟨l[i], List.getElem_mem hi, hp⟩
   have hix : l.findIdx p = i := (List.findIdx_eq hi).2 ⟨hp, fun j hj => k2 j (by omega) hj⟩
   rw [h1 i hi hp, if_pos hany, hix]
 ·right
  obtain rfl : i = l.length := by omega
  have hany : ¬ l.any p = true := by
   intro h
   obtain ⟨x, hx, hp⟩ := List.any_eq_true.1 h
   obtain ⟨j, hj, rfl⟩ := List.mem_iff_getElem.1 hx
   rw [k2 j hj hj] at hp
   cases hp
  rw [h3, if_neg hany]
theorem ZFj {p : Zaf -> Bool} {l : List Zaf} (h : l.any p = true) : ∃ (hi : l.findIdx p < l.length), p l[l.findIdx p] = true := by
 obtain ⟨x, hx, hp⟩ := List.any_eq_true.1 h
 have hi : l.findIdx p < l.length := List.findIdx_lt_length_of_exists ⟨x, hx, hp⟩
 exact ⟨hi, List.findIdx_getElem (w := hi)⟩
structure ZyU (s : Zai) : Prop where
 len : s.list.length <= 1000
 sp : ∀ x ∈ s.list, ZlH x.span
def ZdA (s : Zai) (x : Zaf) : Bool := !(decide ((1 : Int) <= x.group) && decide (x.group <= 4)) || !(decide ((1 : Int) <= x.epoch) && decide (x.epoch <= s.epoch))
theorem ZyV (x : Zaf) (w : ZeT) : Zf9 x w = some (ZdA w.shares x, (w, ())) := by
 unfold Zf9
 rw [Znw, Option.bind_some, Znw, Option.bind_some]
 unfold ZdA
 cases (decide ((1 : Int) <= x.group) && decide (x.group <= 4)) <;> simp
theorem ZGp {l : List Zaf} (hl : l.length <= 1000) (w : ZeT) : ZdV l w = some (ixF (ZdA w.shares) l, (w, ())) := by
 have h := Zu3 (step := Zbm) l (ZdA w.shares) (fun i => ((l, (), (l.length : Int), i, ()), (w, ()))) (fun i => .inl ((i, ()), (w, ()))) (.inr ((), (w, ())))
  (fun i hi hp => by
   unfold Zbm
   exact Zag (dT (by (try dsimp only); omega)) (Zaa (ZaE hi) (Zaa (ZyV _ _) (Zag hp rfl))))
  (fun i hi hp => by
   unfold Zbm
   refine Zag (dT (by (try dsimp only); omega)) (Zaa (ZaE hi) (Zaa (ZyV _ _) (Zab hp ?_)))
   dsimp only
   rw [w64 (by omega)]
   rfl)
  (by unfold Zbm; exact Zab (dF (by (try dsimp only); omega)) rfl)
 unfold ZdV ixF
 refine Zaa h ?_
 by_cases hq : l.any (ZdA w.shares) = true
 ·rw [if_pos hq, if_pos hq]
 ·rw [if_neg hq, if_neg hq]
theorem ZzY {l : List Zaf} (hl : l.length <= 1000) (w : ZeT) : ZcE l w = some (l.any (ZdA w.shares), (w, ())) := by
 unfold ZcE
 refine Zaa (ZGp hl w) ?_
 dsimp only
 unfold ixF
 cases h : l.any (ZdA w.shares) <;> simp
theorem ZD4 {w : ZeT} (hl : w.shares.list.length <= 1000) : Zg4 w = some (w.shares.list.map (·.span), ((), ())) := by
 have h := Zbg (step := ZcY) (fun i : Nat => (((w.shares.list.take i).map (·.span), w.shares.list, (w.shares.list.length : Int), (i : Int), ()), ((), ()))) (N := w.shares.list.length) (b := ((w.shares.list.map (·.span), ()), ((), (), ())))
  (fun i hi => by
   unfold ZcY
   refine Zag (dT (by (try dsimp only); omega)) (Zaa (ZaE hi) (Zbk (by simp; omega) ?_))
   dsimp only
   rw [w64 (by omega), List.take_succ_eq_append_getElem hi, List.map_append]
   rfl)
  (by
   unfold ZcY
   refine Zab (dF (by (try dsimp only); omega)) ?_
   dsimp only
   rw [List.take_length])
 unfold Zg4
 exact Zaa h rfl
def Za2 (s : Zai) : Bool := (decide ((1 : Int) <= s.epoch) && decide (s.epoch <= 1073741824)) && (decide (s.list.length <= 40) && (!(s.list.any (ZdA s)) && Zdc [] (s.list.map (·.span))))
theorem Zse {s : Zai} (h : ZyU s) : ZcA ⟨s⟩ = some (Za2 s, ()) := by
 have hp : ZhY (s.list.map (·.span)) = some (Zdc [] (s.list.map (·.span)), ()) := ZD1 (by have := h.len; simp; omega) (fun x hx => by
  obtain ⟨y, hy, rfl⟩ := List.mem_map.1 hx
  exact h.sp y hy)
 unfold ZcA
 refine Zaa (ZzY h.len _) ?_
 refine Zaa (Znw _ _ _) ?_
 dsimp only
 unfold Za2
 cases (decide ((1 : Int) <= s.epoch) && decide (s.epoch <= 1073741824))
 ·rfl
 simp only [cond_true, Bool.true_and]
 have e : decide ((s.list.length : Int) <= 40) = decide (s.list.length <= 40) := by
  by_cases h : s.list.length <= 40
  ·rw [dT h, dT (by omega)]
  ·rw [dF h, dF (by omega)]
 rw [e]
 cases decide (s.list.length <= 40)
 ·rfl
 simp only [cond_true, Bool.true_and]
 cases s.list.any (ZdA s)
 ·simp only [Bool.not_false, cond_true, Bool.true_and]
  exact Zaa (ZD4 h.len) (Zaa hp rfl)
 ·rfl
theorem Znx {s : Zai} (h : ZyU s) : Zea s = some (Za2 s, ()) := by
 unfold Zea
 exact Zaa (Zse h) rfl
theorem ZGq {l : List Zaf} (hl : l.length <= 1000) (hs : ∀ x ∈ l, ZlH x.span) {k : Tx} (hk : OkT k) : ZcS l ((), ()) k = some (ixF (fun x => ZyS x.span k) l, (((), ()), k, ())) := by
 have hc : ∀ x ∈ l, Zhd x ((), ()) k = some (ZyS x.span k, (((), ()), k, ())) := fun x hx => by
  unfold Zhd Zn5
  exact Zaa (Zaa (ZCw (hs x hx) hk) rfl) rfl
 have h := Zu3 (step := Zba) l (fun x => ZyS x.span k) (fun i => ((l, (), (l.length : Int), i, ()), (((), ()), k, ()))) (fun i => .inl ((i, ()), (((), ()), k, ()))) (.inr ((), (((), ()), k, ())))
  (fun i hi hp => by
   unfold Zba
   exact Zag (dT (by (try dsimp only); omega)) (Zaa (ZaE hi) (Zaa (hc _ (List.getElem_mem hi)) (Zag hp rfl))))
  (fun i hi hp => by
   unfold Zba
   refine Zag (dT (by (try dsimp only); omega)) (Zaa (ZaE hi) (Zaa (hc _ (List.getElem_mem hi)) (Zab hp ?_)))
   dsimp only
   rw [w64 (by omega)]
   rfl)
  (by unfold Zba; exact Zab (dF (by (try dsimp only); omega)) rfl)
 unfold ZcS ixF
 refine Zaa h ?_
 by_cases hq : l.any (fun x => ZyS x.span k) = true
 ·rw [if_pos hq, if_pos hq]
 ·rw [if_neg hq, if_neg hq]
theorem ZGr {l : List Zaf} (hl : l.length <= 1000) (hs : ∀ x ∈ l, ZlH x.span) {a : Zao} (ha : ZlH a) : ZcR l ((), ()) a = some (ixF (fun x => ZcJ a x.span) l, (((), ()), a, ())) := by
 have hc : ∀ x ∈ l, Zg8 x ((), ()) a = some (ZcJ a x.span, (((), ()), a, ())) := fun x hx => by
  unfold Zg8 Zn1
  exact Zaa (Zaa (ZyT ha (hs x hx)) rfl) rfl
 have h := Zu3 (step := Za9) l (fun x => ZcJ a x.span) (fun i => ((l, (), (l.length : Int), i, ()), (((), ()), a, ()))) (fun i => .inl ((i, ()), (((), ()), a, ()))) (.inr ((), (((), ()), a, ())))
  (fun i hi hp => by
   unfold Za9
   exact Zag (dT (by (try dsimp only); omega)) (Zaa (ZaE hi) (Zaa (hc _ (List.getElem_mem hi)) (Zag hp rfl))))
  (fun i hi hp => by
   unfold Za9
   refine Zag (dT (by (try dsimp only); omega)) (Zaa (ZaE hi) (Zaa (hc _ (List.getElem_mem hi)) (Zab hp ?_)))
   dsimp only
   rw [w64 (by omega)]
   rfl)
  (by unfold Za9; exact Zab (dF (by (try dsimp only); omega)) rfl)
 unfold ZcR ixF
 refine Zaa h ?_
 by_cases hq : l.any (fun x => ZcJ a x.span) = true
 ·rw [if_pos hq, if_pos hq]
 ·rw [if_neg hq, if_neg hq]
theorem ZGs {l : List Zaf} (hl : l.length <= 1000) (hs : ∀ x ∈ l, ZlH x.span) {a : Zao} (ha : ZlH a) : ZcQ l ((), ()) a = some (ixF (fun x => ZcJ a x.span) l, (((), ()), a, ())) := by
 have hc : ∀ x ∈ l, ZkN x ((), ()) a = some (ZcJ a x.span, (((), ()), a, ())) := fun x hx => by
  unfold ZkN ZjM
  exact Zaa (Zaa (ZyT ha (hs x hx)) rfl) rfl
 have h := Zu3 (step := Za8) l (fun x => ZcJ a x.span) (fun i => ((l, (), (l.length : Int), i, ()), (((), ()), a, ()))) (fun i => .inl ((i, ()), (((), ()), a, ()))) (.inr ((), (((), ()), a, ())))
  (fun i hi hp => by
   unfold Za8
   exact Zag (dT (by (try dsimp only); omega)) (Zaa (ZaE hi) (Zaa (hc _ (List.getElem_mem hi)) (Zag hp rfl))))
  (fun i hi hp => by
   unfold Za8
   refine Zag (dT (by (try dsimp only); omega)) (Zaa (ZaE hi) (Zaa (hc _ (List.getElem_mem hi)) (Zab hp ?_)))
   dsimp only
   rw [w64 (by omega)]
   rfl)
  (by unfold Za8; exact Zab (dF (by (try dsimp only); omega)) rfl)
 unfold ZcQ ixF
 refine Zaa h ?_
 by_cases hq : l.any (fun x => ZcJ a x.span) = true
 ·rw [if_pos hq, if_pos hq]
 ·rw [if_neg hq, if_neg hq]
def ZD5 : Zaf := ⟨⟨[], []⟩, 0, 0⟩
def Zou (s : Zai) (p : Zaf -> Bool) : Option Zaf := if Za2 s = true /\ s.list.any p = true then s.list[s.list.findIdx p]? else none
theorem ZBm (s : Zai) (p : Zaf -> Bool) : ZfD ⟨s⟩ (bif Za2 s then ixF p s.list else -1) = some (((Zou s p).getD ZD5, (Zou s p).isSome, ()), ()) := by
 unfold ZfD Zou
 cases hr : Za2 s
 ·exact Zag rfl (by simp [ZD5])
 ·simp only [cond_true, true_and]
  unfold ixF
  by_cases h : s.list.any p = true
  ·obtain ⟨hi, _⟩ := ZFj h
   rw [if_pos h, if_pos h]
   refine Zab (dF (by omega)) ?_
   refine Zaa (ZaE hi) ?_
   rw [List.getElem?_eq_getElem hi]
   rfl
  ·rw [if_neg h, if_neg h]
   exact Zag rfl rfl
theorem ZG3 {s : Zai} (h : ZyU s) {k : Tx} (hk : OkT k) : ZjW s k = some (((Zou s fun x => ZyS x.span k).getD ZD5, (Zou s fun x => ZyS x.span k).isSome, ()), ()) := by
 have ha : ZiS ⟨s⟩ k = some (bif Za2 s then ixF (fun x => ZyS x.span k) s.list else -1, (k, ())) := by
  unfold ZiS
  refine Zaa (Zse h) ?_
  cases Za2 s
  ·rfl
  ·exact Zab rfl (Zaa (ZGq h.len h.sp hk) rfl)
 unfold ZjW
 exact Zaa ha (Zaa (ZBm s _) rfl)
theorem ZGV {s : Zai} (h : ZyU s) {a : Zao} (hk : ZlH a) : ZjQ s a = some (((Zou s fun x => ZcJ a x.span).getD ZD5, (Zou s fun x => ZcJ a x.span).isSome, ()), ()) := by
 have ha : ZiP ⟨s⟩ a = some (bif Za2 s then ixF (fun x => ZcJ a x.span) s.list else -1, (a, ())) := by
  unfold ZiP
  refine Zaa (Zse h) ?_
  cases Za2 s
  ·rfl
  ·exact Zab rfl (Zaa (ZGr h.len h.sp hk) rfl)
 unfold ZjQ
 exact Zaa ha (Zaa (ZBm s _) rfl)
end Go.Proofs.YtaihdjknneiciaaGreat
namespace Go.Proofs.YtaihdjknneiciaaGreat
open Go.RowKit
set_option maxRecDepth 100000
set_option linter.unusedVariables false
set_option linter.unusedSimpArgs false
def at2 (x y : Tx) : List Tx := if x = y then [x] else if y < x then [y, x] else [x, y]
theorem sd2 (x y : Tx) : sdF [x, y] = at2 x y := by
 have hs : [x, y].mergeSort leT = if leT x y then [x, y] else [y, x] := by
  rw [List.mergeSort]
  simp [List.MergeSort.Internal.splitInTwo, List.merge]
 unfold sdF at2
 rw [hs]
 by_cases h : x = y
 ·subst h; simp [dd]
 ·rw [if_neg h]
  by_cases h2 : y < x
  ·have : ¬ x <= y := List.not_le.2 h2
   rw [if_pos h2, if_neg (by simpa [leT] using this)]
   simp [dd, Ne.symm h]
  ·have : x <= y := List.not_lt.1 h2
   rw [if_neg h2, if_pos (by simpa [leT] using this)]
   simp [dd, h]
theorem ZD6 {s : Zao} {x y : Tx} (hs : ZlH s) (hx : OkT x) (hy : OkT y) (hr : Za1 s = true) : ZkO s [x, y] = some (ZwN s (at2 x y), ((), ())) := by
 have := ZGo (xs := [x, y]) hs (fun k hk => by
  simp only [List.mem_cons, List.not_mem_nil, or_false] at hk
  rcases hk with rfl | rfl
  ·exact hx
  ·exact hy) (by simp)
 rw [hr, sd2] at this
 exact this
theorem ok0 : ZlH ⟨[], []⟩ := ⟨by simp [OkT], by simp [OkT]⟩
theorem okm : ZlH ⟨[109], []⟩ := ⟨by simp [OkT], by simp [OkT]⟩
theorem ZGt : ZwN ⟨[], []⟩ [[], [109]] = [⟨[], [109]⟩, ⟨[109], []⟩] := by decide +kernel
theorem ZD7 : Zg3 1 = some (⟨1, [⟨⟨[], []⟩, 1, 1⟩]⟩, ()) := by
 unfold Zg3
 refine Zaa (Znw _ _ _) ?_
 exact Zab (by decide) (Zaa rfl rfl)
theorem ZCz : Zep ⟨⟨[], []⟩, 1, 1⟩ ⟨[109], []⟩ 2 2 = some ([⟨⟨[], [109]⟩, 1, 1⟩, ⟨⟨[109], []⟩, 2, 2⟩], ((), ())) := by
 have hc : ZkO ⟨[], []⟩ [[109], []] = some ([⟨[], [109]⟩, ⟨[109], []⟩], ((), ())) := by
  rw [ZD6 ok0 (by simp [OkT]) (by simp [OkT]) (by decide +kernel), show at2 [109] [] = [[], [109]] from by decide +kernel, ZGt]
 have l1 : Zbi ((2, 2, (), (), [], [⟨[], [109]⟩, ⟨[109], []⟩], 2, 0, ()), (⟨⟨[], []⟩, 1, 1⟩, ⟨[109], []⟩, (), (), ())) = some (.inl ((2, 2, (), (), [⟨⟨[], [109]⟩, 1, 1⟩], [⟨[], [109]⟩, ⟨[109], []⟩], 2, 1, ()), (⟨⟨[], []⟩, 1, 1⟩, ⟨[109], []⟩, (), (), ()))) := by
  unfold Zbi
  refine Zag rfl (Zaa (v := ⟨[], [109]⟩) rfl (Zab (by decide) (Zbk (by simp) ?_)))
  rfl
 have l2 : Zbi ((2, 2, (), (), [⟨⟨[], [109]⟩, 1, 1⟩], [⟨[], [109]⟩, ⟨[109], []⟩], 2, 1, ()), (⟨⟨[], []⟩, 1, 1⟩, ⟨[109], []⟩, (), (), ())) = some (.inl ((2, 2, (), (), [⟨⟨[], [109]⟩, 1, 1⟩, ⟨⟨[109], []⟩, 2, 2⟩], [⟨[], [109]⟩, ⟨[109], []⟩], 2, 2, ()), (⟨⟨[], []⟩, 1, 1⟩, ⟨[109], []⟩, (), (), ()))) := by
  unfold Zbi
  refine Zag rfl (Zaa (v := ⟨[109], []⟩) rfl (Zag (by decide) (Zbk (by simp) ?_)))
  rfl
 have l3 : Zbi ((2, 2, (), (), [⟨⟨[], [109]⟩, 1, 1⟩, ⟨⟨[109], []⟩, 2, 2⟩], [⟨[], [109]⟩, ⟨[109], []⟩], 2, 2, ()), (⟨⟨[], []⟩, 1, 1⟩, ⟨[109], []⟩, (), (), ())) = some (.inr (([⟨⟨[], [109]⟩, 1, 1⟩, ⟨⟨[109], []⟩, 2, 2⟩], ()), (⟨⟨[], []⟩, 1, 1⟩, ⟨[109], []⟩, (), (), (), ()))) := by
  unfold Zbi
  exact Zab rfl rfl
 unfold Zep
 refine Zaa hc ?_
 refine Zaa ((ZaC l1).trans ((ZaC l2).trans (Zat l3))) ?_
 rfl
theorem okf : ZyU ⟨1, [⟨⟨[], []⟩, 1, 1⟩]⟩ := ⟨by simp, by simpa using ok0⟩
theorem ZDh : Ze4 ⟨1, [⟨⟨[], []⟩, 1, 1⟩]⟩ ⟨[109], []⟩ 2 = some ((⟨2, [⟨⟨[], [109]⟩, 1, 1⟩, ⟨⟨[109], []⟩, 2, 2⟩]⟩, 0, ()), ()) := by
 have hr : Za2 ⟨1, [⟨⟨[], []⟩, 1, 1⟩]⟩ = true := by decide +kernel
 have ha : ZmJ ⟨⟨1, [⟨⟨[], []⟩, 1, 1⟩]⟩⟩ ⟨[109], []⟩ = some (0, (⟨[109], []⟩, ())) := by
  unfold ZmJ
  refine Zaa (Zse okf) ?_
  refine Zab (by rw [hr]; rfl) ?_
  refine Zaa (ZGs okf.len okf.sp okm) ?_
  have : ixF (fun x => ZcJ ⟨[109], []⟩ x.span) [⟨⟨[], []⟩, 1, 1⟩] = 0 := by decide +kernel
  dsimp only
  rw [this]
 unfold Ze4
 refine Zaa ha ?_
 refine Zaa (Zse okf) ?_
 refine Zab (by rw [hr]; rfl) ?_
 refine Zaa (ZgW okm) ?_
 refine Zab (by decide +kernel) ?_
 refine Zaa (Znw _ _ _) ?_
 refine Zab (by decide) ?_
 refine Zab rfl ?_
 refine Zaa (v := ⟨⟨[], []⟩, 1, 1⟩) rfl ?_
 refine Zab (by decide) ?_
 refine Zaa (v := ⟨⟨[], []⟩, 1, 1⟩) rfl ?_
 refine Zaa (v := (1, ([⟨⟨[], []⟩, 1, 1⟩], ()))) (by unfold ZmK; exact if_pos (by simp)) ?_
 refine Zaa (v := ([⟨⟨[], [109]⟩, 1, 1⟩, ⟨⟨[109], []⟩, 2, 2⟩], ((), ()))) (by
  show Zep _ _ _ (IntKind.i64.wrap (1 + 1)) = _
  rw [show IntKind.i64.wrap (1 + 1) = 2 from by decide]
  exact ZCz) ?_
 refine Zaa (v := ([⟨⟨[], [109]⟩, 1, 1⟩, ⟨⟨[109], []⟩, 2, 2⟩], ((), (), ()))) (by
  unfold Zuk
  dsimp only
  rw [show IntKind.i64.wrap (0 + 1) = 1 from by decide]
  exact if_pos ⟨rfl, by omega, by omega, by simp, by simp, by simp⟩) ?_
 refine Zab (by decide) ?_
 refine Zab rfl ?_
 rfl
def ofF (s : Zai) (k : Tx) : Option Zaf := Zou s fun x => ZyS x.span k
end Go.Proofs.YtaihdjknneiciaaGreat
namespace Go.Proofs.YtaihdjknneiciaaGreat
open Go.RowKit
set_option maxRecDepth 100000
set_option linter.unusedVariables false
set_option linter.unusedSimpArgs false
end Go.Proofs.YtaihdjknneiciaaGreat
namespace Go.Proofs.YtaihdjknneiciaaGreat
open Go.RowKit
set_option maxRecDepth 100000
set_option linter.unusedVariables false
set_option linter.unusedSimpArgs false
theorem ZyW {s : Zai} {x : Zaf} : ZdA s x = false ↔ (1 <= x.group /\ x.group <= 4) /\ (1 <= x.epoch /\ x.epoch <= s.epoch) := by
 unfold ZdA
 simp only [Bool.or_eq_false_iff, Bool.not_eq_false', Bool.and_eq_true, decide_eq_true_eq]
theorem ZgX {s : Zai} : Za2 s = true ↔ (1 <= s.epoch /\ s.epoch <= 1073741824) /\ s.list.length <= 40 /\ (∀ x ∈ s.list, ZdA s x = false) /\ Zdc [] (s.list.map (·.span)) = true := by
 unfold Za2
 simp only [Bool.and_eq_true, decide_eq_true_eq, Bool.not_eq_true', List.any_eq_false, Bool.not_eq_true]
end Go.Proofs.YtaihdjknneiciaaGreat
namespace Go.Proofs.YtaihdjknneiciaaGreat
open Go.RowKit
set_option maxRecDepth 100000
set_option linter.unusedVariables false
set_option linter.unusedSimpArgs false
theorem ZG4 {s : Zai} (h : ZyU s) {k : Tx} (hk : OkT k) : ZjW s k = some (((ofF s k).getD ZD5, (ofF s k).isSome, ()), ()) := ZG3 h hk
end Go.Proofs.YtaihdjknneiciaaGreat
