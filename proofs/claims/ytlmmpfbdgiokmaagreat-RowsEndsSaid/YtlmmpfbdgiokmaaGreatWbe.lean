/- The writer and the reader of wire, and the document's, plainly. -/
import Derived.Test.YtlmmpfbdgiokmaaGreatSdw
import Derived.Test.YtlmmpfbdgiokmaaGreatG1
namespace Go.Proofs.YtlmmpfbdgiokmaaGreat
open Go.RowKit
set_option maxRecDepth 100000
set_option linter.unusedVariables false
set_option linter.unusedSimpArgs false
def ZjP (x : Int) : Bool := decide (0 <= x) && decide (x <= 4611686018427387903)
theorem ZdJ {x : Int} : ZjP x = true ↔ 0 <= x /\ x <= 4611686018427387903 := by simp [ZjP]
theorem ZBo {x b : List UInt8} {sp : Bool} (h : b.length + x.length <= 10000000) : ZkA x (true, sp, b, ()) = some ((), ((true, sp, b ++ x, ()), (), (), ())) := by
 unfold ZkA
 exact Zak rfl (ZeK (by dsimp only; omega) rfl)
theorem ZsO {sp : Bool} {N : Nat} (hN : N <= 4611686018427387903) {b : List UInt8} (hb : b.length + (Zjx N).length <= 10000000) :
 ∃ (n : Nat) (b' : List UInt8), n < 128 /\ b' ++ Zjx n = b ++ Zjx N /\ ZaP ZeW (((), (N : Int), ()), ((true, sp, b, ()), (), ())) = some (((), (n : Int), ()), ((true, sp, b', ()), (), (), ())) := by
 have key : ∃ z, ZaP ZeW (((), (N : Int), ()), ((true, sp, b, ()), (), ())) = some z /\ ∃ (n : Nat) (b' : List UInt8), n < 128 /\ b' ++ Zjx n = b ++ Zjx N /\ z = (((), (n : Int), ()), ((true, sp, b', ()), (), (), ())) := by
  refine ZbL (fun m a => ∃ b' : List UInt8, a = (((), (m : Int), ()), ((true, sp, b', ()), (), ())) /\ b' ++ Zjx m = b ++ Zjx N /\ m <= 4611686018427387903) _ ?_ (n := N) ⟨b, rfl, rfl, hN⟩
  rintro m a ⟨b', rfl, h1, h2⟩
  unfold ZeW
  by_cases hm : m < 128
  ·right
   exact ⟨_, Zaj (dF (by dsimp only; omega)) rfl, m, b', hm, h1, rfl⟩
  ·left
   have hl := congrArg List.length h1
   rw [ZmE hm, List.length_append, List.length_append, List.length_cons] at hl
   refine ⟨m / 128, _, by omega, Zak (dT (by dsimp only; omega)) (Zab (ZxQ m) (Zab (ZBo (by simp only [List.length_singleton]; omega)) rfl)), b' ++ [UInt8.ofNat (m % 128 + 128)], ?_, ?_, by omega⟩
   ·dsimp only
    rw [ZDM]
   ·rw [List.append_assoc, <- h1, ZmE hm]; rfl
 obtain ⟨z, hz, n, b', h1, h2, rfl⟩ := key
 exact ⟨n, b', h1, h2, hz⟩
def Zwc (x : Int) (w : Bool × List UInt8) : Bool × List UInt8 := if ZjP x = true then (w.1, w.2 ++ Zjx x.toNat) else (true, w.2)
theorem Zu2 {x : Int} {sp : Bool} {b : List UInt8} (hb : b.length <= 1000000) : ZfS x (true, sp, b, ()) = some ((), ((true, (Zwc x (sp, b)).1, (Zwc x (sp, b)).2, ()), (), (), ())) := by
 unfold ZfS Zwc
 by_cases h1 : x < 0
 ·rw [if_neg (by rw [ZdJ]; omega)]
  exact Zak (dT h1) rfl
 by_cases h2 : 4611686018427387903 < x
 ·rw [if_neg (by rw [ZdJ]; omega)]
  exact Zaj (dF h1) (Zak (dT h2) rfl)
 rw [if_pos (ZdJ.2 (by omega))]
 obtain ⟨N, rfl⟩ : ∃ N : Nat, x = (N : Int) := ⟨x.toNat, by omega⟩
 have hlen := Zc7 (n := N) (by omega)
 obtain ⟨n, b', g1, g2, g3⟩ := ZsO (sp := sp) (N := N) (by omega) (b := b) (by omega)
 have hl := congrArg List.length g2
 rw [List.length_append, List.length_append] at hl
 have hp := Zu1 n
 refine Zaj (dF h1) (Zaj (dF h2) (Zab g3 (Zab (Zt3 n) (Zab (ZBo (by simp only [List.length_singleton]; omega)) ?_))))
 rw [ZmD g1] at g2
 dsimp only
 rw [g2, Int.toNat_natCast]
def Zkp (xs : List Int) (w : Bool × List UInt8) : Bool × List UInt8 := xs.foldl (fun w x => Zwc x w) w
theorem Zv3 (xs : List Int) (x : Int) (w : Bool × List UInt8) : Zkp (xs ++ [x]) w = Zwc x (Zkp xs w) := by simp [Zkp]
theorem ZzP (x : Int) (w : Bool × List UInt8) : (Zwc x w).2.length <= w.2.length + 9 := by
 unfold Zwc
 split
 ·rename_i h
  have := ZdJ.1 h
  have := Zc7 (n := x.toNat) (by omega)
  rw [List.length_append]; omega
 ·exact Nat.le_add_right _ _
theorem ZsP : ∀ (xs : List Int) (w : Bool × List UInt8), (Zkp xs w).2.length <= w.2.length + 9 * xs.length
 | [], w => by simp [Zkp]
 | x :: xs, w => by
  have h1 := ZsP xs (Zwc x w)
  have h2 := ZzP x w
  have : Zkp (x :: xs) w = Zkp xs (Zwc x w) := rfl
  rw [this, List.length_cons]; omega
theorem ZxS {xs : List Int} {sp : Bool} {b : List UInt8} (hx : xs.length <= 1000) (hb : b.length <= 900000) : ZhD xs (true, sp, b, ()) = some ((), ((true, (Zkp xs (sp, b)).1, (Zkp xs (sp, b)).2, ()), (), (), ())) := by
 have hrun := Zc4 (step := Zel) (fun i : Nat => (((), xs, (xs.length : Int), (i : Int), ()), ((true, (Zkp (xs.take i) (sp, b)).1, (Zkp (xs.take i) (sp, b)).2, ()), (), ()))) (N := xs.length) (b := (((), ()), ((true, (Zkp xs (sp, b)).1, (Zkp xs (sp, b)).2, ()), (), (), ()))) (fun i hi => ?_) ?_
 ·unfold ZhD
  exact Zab rfl (Zak rfl (Zab hrun rfl))
 ·have hl := ZsP (xs.take i) (sp, b)
  rw [List.length_take] at hl
  dsimp only at hl
  unfold Zel
  refine Zak (dT (by dsimp only; omega)) (Zab (Zay hi) (Zab (Zu2 (by dsimp only; omega)) ?_))
  dsimp only
  rw [w64 (by omega), List.take_succ_eq_append_getElem hi, Zv3]
  rfl
 ·unfold Zel
  refine Zaj (dF (by dsimp only; omega)) ?_
  dsimp only
  rw [List.take_length]
def Zkq (t : List UInt8) : List UInt8 := Zjx t.length ++ t
theorem ZxT {t : List UInt8} {sp : Bool} {b : List UInt8} (ht : t.length <= 100000) (hb : b.length <= 1000000) : ZlR [t] (true, sp, b, ()) = some ((), ((true, sp, b ++ Zkq t, ()), (), (), ())) := by
 have hg : ZjP (t.length : Int) = true := ZdJ.2 (by omega)
 have hlen := Zc7 (n := t.length) (by omega)
 have hnum : ZfS (t.length : Int) (true, sp, b, ()) = some ((), ((true, sp, b ++ Zjx t.length, ()), (), (), ())) := by
  rw [Zu2 hb]
  unfold Zwc
  rw [if_pos hg, Int.toNat_natCast]
 unfold ZlR
 refine Zab rfl (Zak rfl (Zab (v := (((), ()), ((true, sp, b ++ Zkq t, ()), (), (), ()))) ((Zew (a' := (((), [t], 1, 1, ()), ((true, sp, b ++ Zkq t, ()), (), ()))) ?_).trans (Zd6 ?_)) rfl))
 ·unfold ZhE
  refine Zak rfl (Zab (v := t) rfl (Zab hnum (Zab (ZBo (by simp only [List.length_append]; omega)) ?_)))
  dsimp only
  rw [List.append_assoc]
  rfl
 ·unfold ZhE
  exact Zaj rfl rfl
theorem ZzQ {t u : List UInt8} {sp : Bool} {b : List UInt8} (ht : t.length <= 20000) (hu : u.length <= 20000) (hb : b.length <= 900000) : ZkB [t, u] (true, sp, b, ()) = some ((), ((true, sp, b ++ Zkq t ++ Zkq u, ()), (), (), ())) := by
 have hlen := Zc7 (n := t.length) (by omega)
 have hrl : (Zkq t).length <= 20009 := by unfold Zkq; rw [List.length_append]; omega
 unfold ZkB
 refine Zab rfl (Zak rfl (Zab (v := (((), ()), ((true, sp, b ++ Zkq t ++ Zkq u, ()), (), (), ()))) ((Zew (a' := (((), [t, u], 2, 1, ()), ((true, sp, b ++ Zkq t, ()), (), ()))) ?_).trans ((Zew (a' := (((), [t, u], 2, 2, ()), ((true, sp, b ++ Zkq t ++ Zkq u, ()), (), ()))) ?_).trans (Zd6 ?_))) rfl))
 ·unfold Zfv
  exact Zak rfl (Zab (v := t) rfl (ZeK (by omega) (Zab (ZxT (by omega) (by dsimp only; omega)) rfl)))
 ·unfold Zfv
  exact Zak rfl (Zab (v := u) rfl (ZeK (by omega) (Zab (ZxT (by omega) (by dsimp only; rw [List.length_append]; omega)) rfl)))
 ·unfold Zfv
  exact Zaj rfl rfl
theorem ZCA {sp : Bool} {b : List UInt8} (hb : b.length <= 1000000) : ∃ st, ZlY (true, sp, b, ()) = some ((if sp = true then ([], 2, ()) else (b, 0, ())), st) := by
 unfold ZlY
 cases sp with
 | true => exact ⟨_, Zab rfl (Zaj rfl (Zak rfl rfl))⟩
 | false => exact ⟨_, Zab rfl (Zaj rfl (Zaj rfl (Zab (v := (b, ((), ()))) (by unfold Zkf; exact ZeK (by dsimp only; omega) rfl) rfl)))⟩
theorem Zu3 (x : Int) : Zco x = some (if ZjP x = true then (((Zjx x.toNat).length, true, ()), (Zjx x.toNat, ())) else ((0, false, ()), ([], ()))) := by
 unfold Zco
 by_cases h1 : x < 0
 ·rw [if_neg (by rw [ZdJ]; omega)]
  exact Zak (dT h1) rfl
 by_cases h2 : 4611686018427387903 < x
 ·rw [if_neg (by rw [ZdJ]; omega)]
  exact Zaj (dF h1) (Zak (dT h2) rfl)
 rw [if_pos (ZdJ.2 (by omega))]
 obtain ⟨N, rfl⟩ : ∃ N : Nat, x = (N : Int) := ⟨x.toNat, by omega⟩
 rw [Int.toNat_natCast]
 have hfirst : b8 (IntKind.u8.wrap (IntKind.i64.wrap ((BitVec.ofInt (IntKind.i64.bits) (N : Int) &&& BitVec.ofInt (IntKind.i64.bits) 127).toNat))) = some (UInt8.ofNat (N % 128)) := by
  rw [ZAo N (by omega), Zt3]
 have key : ZaP Zcs ((((N / 128 : Nat) : Int), 1, ()), ([UInt8.ofNat (N % 128)], ())) = some (((Zjx N).length, ()), ((), Zjx N, ())) := by
  refine ZfP (fun m a => ∃ (pre : List UInt8) (last : Nat), a = (((m : Int), (pre ++ [UInt8.ofNat last]).length, ()), (pre ++ [UInt8.ofNat last], ())) /\ last < 128 /\ m <= 4611686018427387903 /\ Zjx N = pre ++ (if m = 0 then [UInt8.ofNat last] else UInt8.ofNat (last + 128) :: Zjx m)) _ ?_ (n := N / 128) ⟨[], N % 128, rfl, by omega, by omega, ?_⟩
  ·rintro m a ⟨pre, last, rfl, h3, h4, h5⟩
   have hlen := Zc7 (n := N) (by omega)
   unfold Zcs
   by_cases hm : m = 0
   ·right
    subst hm
    rw [if_pos rfl] at h5
    rw [h5]
    exact Zaj (dF (by dsimp only; omega)) rfl
   ·left
    rw [if_neg hm] at h5
    have hl := congrArg List.length h5
    rw [List.length_append, List.length_cons] at hl
    have hpos := Zu1 m
    have hw : IntKind.i64.wrap ((((pre ++ [UInt8.ofNat last]).length : Nat) : Int) - 1) = ((pre.length : Nat) : Int) := by
     rw [List.length_append, List.length_singleton, w64 (by omega)]; omega
    have hg : (pre ++ [UInt8.ofNat last])[0 + (((pre.length : Nat) : Int)).toNat]? = some (UInt8.ofNat last) := by rw [Nat.zero_add, Int.toNat_natCast]; simp
    have hor : b8 (IntKind.u8.wrap ((BitVec.ofInt (IntKind.u8.bits) ((UInt8.ofNat last).toNat : Int) ||| BitVec.ofInt (IntKind.u8.bits) 128).toNat)) = some (UInt8.ofNat (last + 128)) := by
     have hq : (UInt8.ofNat last).toNat = last := by rw [UInt8.toNat_ofNat']; omega
     have := ZxQ last
     rw [IntWalk.u8_in (last : Int) (by omega), Nat.mod_eq_of_lt h3] at this
     rw [hq]; exact this
    have hset : (pre ++ [UInt8.ofNat last]).set (0 + (((pre.length : Nat) : Int)).toNat) (UInt8.ofNat (last + 128)) = pre ++ [UInt8.ofNat (last + 128)] := by
     rw [Nat.zero_add, Int.toNat_natCast, List.set_append_right _ _ (Nat.le_refl _), Nat.sub_self]; rfl
    have hnext : b8 (IntKind.u8.wrap (IntKind.i64.wrap ((BitVec.ofInt (IntKind.i64.bits) (m : Int) &&& BitVec.ofInt (IntKind.i64.bits) 127).toNat))) = some (UInt8.ofNat (m % 128)) := by
     rw [ZAo m h4, Zt3]
    refine ⟨m / 128, (((((m / 128 : Nat) : Int)), ((pre ++ [UInt8.ofNat (last + 128)]) ++ [UInt8.ofNat (m % 128)]).length, ()), ((pre ++ [UInt8.ofNat (last + 128)]) ++ [UInt8.ofNat (m % 128)], ())), by omega, ?_, pre ++ [UInt8.ofNat (last + 128)], m % 128, rfl, by omega, by omega, ?_⟩
    ·dsimp only
     rw [hw]
     refine Zak (dT (by omega)) (ZeK (by rw [List.length_append, List.length_singleton]; omega) (Zab hg (ZeK (by rw [List.length_append, List.length_singleton]; omega) (Zab hg (Zab hor ?_)))))
     rw [hset]
     refine Zab hnext (ZeK (by simp only [List.length_append, List.length_singleton]; omega) ?_)
     rw [ZDM, List.take_of_length_le (by simp only [List.length_append, List.length_singleton]; omega)]
     simp only [List.length_append, List.length_singleton]
    ·rw [h5, List.append_assoc]
     congr 1
     by_cases hm2 : m < 128
     ·rw [ZmD hm2, if_pos (by omega), Nat.mod_eq_of_lt hm2]; rfl
     ·rw [ZmE hm2, if_neg (by omega)]; rfl
  ·by_cases hm2 : N < 128
   ·rw [ZmD hm2, if_pos (by omega), Nat.mod_eq_of_lt hm2]; rfl
   ·rw [ZmE hm2, if_neg (by omega)]; rfl
 refine Zaj (dF h1) (Zaj (dF h2) (Zab hfirst ?_))
 rw [ZDM]
 exact Zab key rfl
theorem ZsQ (x : Int) : ZbC x = some (if ZjP x = true then ((Zjx x.toNat, true, ()), ()) else (([], false, ()), ())) := by
 unfold ZbC
 refine Zab (Zu3 x) ?_
 split
 ·exact ZeK (Nat.le_refl _) (by dsimp only; rw [List.take_length])
 ·exact ZeK (Nat.le_refl _) rfl
theorem ZsR {t : List UInt8} (ht : t.length <= 100000) : ZbO t = some (Zkq t, ()) := by
 have hg : ZjP (t.length : Int) = true := ZdJ.2 (by omega)
 have hlen := Zc7 (n := t.length) (by omega)
 have hr : Zec t = some ((Zkq t).length, (Zkq t, ())) := by
  unfold Zec
  refine Zab (Zu3 _) ?_
  rw [if_pos hg, Int.toNat_natCast]
  refine ZeK (by dsimp only; omega) ?_
  dsimp only
  rw [List.take_length]
  unfold Zkq
  rw [List.length_append]
 unfold ZbO
 exact Zab hr (ZeK (Nat.le_refl _) (by dsimp only; rw [List.take_length]))
def ZoS (xs : List Int) : List UInt8 := (xs.map fun x => Zjx x.toNat).flatten
theorem ZxU (xs : List Int) (x : Int) : ZoS (xs ++ [x]) = ZoS xs ++ Zjx x.toNat := by simp [ZoS]
theorem ZpP : ∀ (xs : List Int) (sp : Bool) (b : List UInt8), xs.all ZjP = true -> Zkp xs (sp, b) = (sp, b ++ ZoS xs)
 | [], sp, b, _ => by simp [Zkp, ZoS]
 | x :: xs, sp, b, h => by
  rw [List.all_cons, Bool.and_eq_true] at h
  have : Zkp (x :: xs) (sp, b) = Zkp xs (Zwc x (sp, b)) := rfl
  rw [this]
  unfold Zwc
  rw [if_pos h.1, ZpP xs _ _ h.2]
  simp [ZoS]
theorem Zu4 : ∀ xs : List Int, xs.all ZjP = true -> (ZoS xs).length <= 9 * xs.length
 | [], _ => by simp [ZoS]
 | x :: xs, h => by
  rw [List.all_cons, Bool.and_eq_true] at h
  have h1 := Zu4 xs h.2
  have h2 := ZdJ.1 h.1
  have h3 := Zc7 (n := x.toNat) (by omega)
  have : ZoS (x :: xs) = Zjx x.toNat ++ ZoS xs := by simp [ZoS]
  rw [this, List.length_append, List.length_cons]; omega
theorem Zt4 {xs : List Int} (hx : xs.length <= 1000) : Zbb xs [] [] [] = some ((if xs.all ZjP = true then (ZoS xs, 0, ()) else ([], 2, ())), ((), ())) := by
 have key : ∃ z, ZaP ZbF ((xs, [], [], [], [], 0, ()), ((), ())) = some z /\ ((xs.all ZjP = true /\ z = .inr (([], [], [], ZoS xs, ()), ((), (), ()))) \/ (xs.all ZjP = false /\ z = .inl (((), 2, ()), ((), ())))) := by
  refine ZbL (fun m a => ∃ i : Nat, a = ((xs, [], [], [], ZoS (xs.take i), (i : Int), ()), ((), ())) /\ i <= xs.length /\ (xs.take i).all ZjP = true /\ m = xs.length - i) _ ?_ (n := xs.length) ⟨0, by simp [ZoS], Nat.zero_le _, rfl, rfl⟩
  rintro m a ⟨i, rfl, h1, h2, rfl⟩
  unfold ZbF
  by_cases hi : i < xs.length
  ·have hl := Zu4 _ h2
   rw [List.length_take] at hl
   cases hg : ZjP xs[i] with
   | true =>
    left
    have hgi := ZdJ.1 hg
    have h9 := Zc7 (n := xs[i].toNat) (by omega)
    have hn := ZsQ xs[i]
    rw [if_pos hg] at hn
    refine ⟨xs.length - (i + 1), _, by omega, Zak (dT (by dsimp only; omega)) (Zab (Zay hi) (Zab hn (Zaj rfl (ZeK (by dsimp only; omega) rfl)))), i + 1, ?_, by omega, ?_, rfl⟩
    ·dsimp only
     rw [w64 (by omega), List.take_succ_eq_append_getElem hi, ZxU]
     rfl
    ·rw [List.take_succ_eq_append_getElem hi, List.all_append, h2]; simp [hg]
   | false =>
    right
    have hn := ZsQ xs[i]
    rw [hg, if_neg Bool.false_ne_true] at hn
    have hbad : xs.all ZjP = false := by
     cases hall : xs.all ZjP with
     | false => rfl
     | true =>
      rw [List.all_eq_true.1 hall _ (List.getElem_mem hi)] at hg
      cases hg
    exact ⟨_, Zak (dT (by dsimp only; omega)) (Zab (Zay hi) (Zab hn (Zak rfl rfl))), .inr ⟨hbad, rfl⟩⟩
  ·right
   obtain rfl : i = xs.length := by omega
   rw [List.take_length] at h2
   exact ⟨_, Zaj (dF (by dsimp only; omega)) rfl, .inl ⟨h2, by dsimp only; rw [List.take_length]⟩⟩
 obtain ⟨z, hz, ⟨h1, rfl⟩ | ⟨h1, rfl⟩⟩ := key
 ·rw [if_pos h1]
  unfold Zbb
  refine Zab hz ?_
  refine Zab (v := (([], [], ZoS xs, ()), ((), (), ()))) (Zd6 (by unfold ZcM; exact Zaj rfl rfl)) ?_
  refine Zab (v := (([], ZoS xs, ()), ((), (), ()))) (Zd6 (by unfold Zbj; exact Zaj rfl rfl)) ?_
  exact Zab (v := ((ZoS xs, ()), ((), (), ()))) (Zd6 (by unfold ZcP; exact Zaj rfl rfl)) rfl
 ·rw [if_neg (by rw [h1]; exact Bool.false_ne_true)]
  unfold Zbb
  exact Zab hz rfl
theorem Zt5 {t u : List UInt8} (ht : t.length <= 20000) (hu : u.length <= 20000) : Zbb [] [] [t, u] [] = some ((Zkq t ++ Zkq u, 0, ()), ((), ())) := by
 have hlen := Zc7 (n := t.length) (by omega)
 have hlen2 := Zc7 (n := u.length) (by omega)
 have hrl : (Zkq t).length <= 20009 := by unfold Zkq; rw [List.length_append]; omega
 have hru : (Zkq u).length <= 20009 := by unfold Zkq; rw [List.length_append]; omega
 unfold Zbb
 refine Zab (v := .inr (([], [t, u], [], [], ()), ((), (), ()))) (Zd6 (by unfold ZbF; exact Zaj rfl rfl)) ?_
 refine Zab (v := (([t, u], [], [], ()), ((), (), ()))) (Zd6 (by unfold ZcM; exact Zaj rfl rfl)) ?_
 refine Zab (v := (([], Zkq t ++ Zkq u, ()), ((), (), ()))) ((Zew (a' := (([t, u], [], Zkq t, 1, ()), ((), ()))) ?_).trans ((Zew (a' := (([t, u], [], Zkq t ++ Zkq u, 2, ()), ((), ()))) ?_).trans (Zd6 ?_))) ?_
 ·unfold Zbj
  exact Zak rfl (Zab (v := t) rfl (ZeK (by omega) (Zab (ZsR (by omega)) (ZeK (by simp only [List.length_nil]; omega) rfl))))
 ·unfold Zbj
  exact Zak rfl (Zab (v := u) rfl (ZeK (by omega) (Zab (ZsR (by omega)) (ZeK (by dsimp only; omega) rfl))))
 ·unfold Zbj
  exact Zaj rfl rfl
 ·exact Zab (v := ((Zkq t ++ Zkq u, ()), ((), (), ()))) (Zd6 (by unfold ZcP; exact Zaj rfl rfl)) rfl
end Go.Proofs.YtlmmpfbdgiokmaaGreat
