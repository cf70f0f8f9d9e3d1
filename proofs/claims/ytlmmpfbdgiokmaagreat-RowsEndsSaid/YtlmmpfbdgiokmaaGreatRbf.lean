/- RowsBytes, plainly. -/
import Derived.Test.YtlmmpfbdgiokmaaGreatLlr
import Derived.Test.YtlmmpfbdgiokmaaGreatWce
import Derived.Test.YtlmmpfbdgiokmaaGreatRkr
import Derived.Test.YtlmmpfbdgiokmaaGreatG2
namespace Go.Proofs.YtlmmpfbdgiokmaaGreat
open Go.RowKit
set_option maxRecDepth 100000
set_option linter.unusedVariables false
set_option linter.unusedSimpArgs false
def wgt : List Zae -> Nat
 | [] => 0
 | r :: l => 1 + r.key.length / 8 + r.value.length / 8 + wgt l
theorem Zq1 : ∀ (l : List Zae) (r : Zae), wgt (l ++ [r]) = wgt l + (1 + r.key.length / 8 + r.value.length / 8)
 | [], r => by simp [wgt]
 | x :: l, r => by
  have := Zq1 l r
  simp only [List.cons_append, wgt, this]; omega
theorem ZxX {l : List Zae} (hl : l.length <= 140737488355328) (hx : ∀ r ∈ l, OkT r.key /\ OkT r.value) : ∃ n : Int, Zbm l 1200 = some (n, ()) /\ (n <= 1200 -> wgt l <= 1200) := by
 have key : ∃ z, ZaP Zbi ((l, 1200, 0, 0, ()), ()) = some z /\ ∃ n : Int, z = ((n, ()), ()) /\ (n <= 1200 -> wgt l <= 1200) := by
  refine ZbL (fun m a => ∃ i : Nat, a = ((l, 1200, ((wgt (l.take i) : Nat) : Int), (i : Int), ()), ()) /\ i <= l.length /\ wgt (l.take i) <= 1200 + 2 * 17592186044416 + 1 /\ m = l.length - i) _ ?_ (n := l.length) ⟨0, by simp [wgt], Nat.zero_le _, by simp [wgt], rfl⟩
  rintro m a ⟨i, rfl, h1, h2, rfl⟩
  unfold Zbi
  by_cases hi : i < l.length
  ·by_cases hn : wgt (l.take i) <= 1200
   ·left
    have h3 := hx _ (List.getElem_mem hi)
    unfold OkT at h3
    have hs := Zq1 (l.take i) l[i]
    rw [<- List.take_succ_eq_append_getElem hi] at hs
    have d1 : IntKind.i64.wrap ((l[i].key.length : Int).tdiv 8) = ((l[i].key.length / 8 : Nat) : Int) := by
     rw [Int.tdiv_eq_ediv_of_nonneg (by omega), w64 (by omega)]; omega
    have d2 : IntKind.i64.wrap ((l[i].value.length : Int).tdiv 8) = ((l[i].value.length / 8 : Nat) : Int) := by
     rw [Int.tdiv_eq_ediv_of_nonneg (by omega), w64 (by omega)]; omega
    refine ⟨l.length - (i + 1), _, by omega, Zak (dT (by dsimp only; omega)) (Zak (dT (by dsimp only; omega)) (Zab (Zay hi) (Zab (Zay hi) rfl))), i + 1, ?_, by omega, by omega, rfl⟩
    dsimp only
    rw [d1, d2, w64 (n := ((wgt (l.take i) : Nat) : Int) + 1) (by omega), w64 (n := ((wgt (l.take i) : Nat) : Int) + 1 + _) (by omega), w64 (n := ((wgt (l.take i) : Nat) : Int) + 1 + _ + _) (by omega), w64 (n := (i : Int) + 1) (by omega), hs]
    congr 3
    have : (((wgt (l.take i) + (1 + l[i].key.length / 8 + l[i].value.length / 8) : Nat)) : Int) = ((wgt (l.take i) : Nat) : Int) + 1 + ((l[i].key.length / 8 : Nat) : Int) + ((l[i].value.length / 8 : Nat) : Int) := by omega
    rw [this]
    rfl
   ·right
    exact ⟨_, Zak (dT (by dsimp only; omega)) (Zaj (dF (by dsimp only; omega)) rfl), _, rfl, fun h => by dsimp only at h; omega⟩
  ·right
   obtain rfl : i = l.length := by omega
   refine ⟨_, Zaj (dF (by dsimp only; omega)) rfl, _, rfl, fun h => ?_⟩
   dsimp only at h
   rw [List.take_length] at h
   omega
 obtain ⟨z, hz, n, rfl, hn⟩ := key
 exact ⟨n, by unfold Zbm; exact Zab hz rfl, hn⟩
theorem ZoP : ∀ l : List Zae, l.length <= wgt l
 | [] => Nat.le_refl _
 | r :: l => by have := ZoP l; simp only [List.length_cons, wgt]; omega
theorem Zq2 : ∀ {l : List Zae} {r : Zae}, r ∈ l -> r.key.length <= 8 * wgt l /\ r.value.length <= 8 * wgt l
 | x :: l, r, h => by
  rcases List.mem_cons.1 h with rfl | h
  ·simp only [wgt]; omega
  ·have := Zq2 h
   simp only [wgt]; omega
def ZCE (r : Zae) : List UInt8 := Zkq r.key ++ Zkq r.value
def ZkI (l : List Zae) : List UInt8 := (l.map ZCE).flatten
theorem ZpQ (l : List Zae) (r : Zae) : ZkI (l ++ [r]) = ZkI l ++ ZCE r := by simp [ZkI]
def Zk2 (l : List Zae) : List UInt8 := Zjx l.length ++ ZkI l
theorem ZnC {t : List UInt8} (h : t.length <= 1000000) : (Zkq t).length <= t.length + 9 := by
 have := Zc7 (n := t.length) (by omega)
 unfold Zkq
 rw [List.length_append]; omega
theorem Zl5 : ∀ (l : List Zae), wgt l <= 1200 -> (ZkI l).length <= 32 * wgt l
 | [], _ => by simp [ZkI]
 | r :: l, h => by
  have hm := Zq2 (l := r :: l) (r := r) List.mem_cons_self
  have h1 := ZnC (t := r.key) (by omega)
  have h2 := ZnC (t := r.value) (by omega)
  simp only [wgt] at h ⊢
  have ih := Zl5 l (by omega)
  have : ZkI (r :: l) = Zkq r.key ++ Zkq r.value ++ ZkI l := by simp [ZkI, ZCE]
  rw [this, List.length_append, List.length_append]; omega
theorem ZpR (l : List Zae) (h : wgt l <= 1200) (i : Nat) : (ZkI (l.take i)).length <= 38400 := by
 have h1 : wgt (l.take i) <= wgt l := by
  clear h
  induction l generalizing i with
  | nil => simp [wgt]
  | cons r l ih =>
   cases i with
   | zero => simp [wgt]
   | succ i => simp only [List.take_succ_cons, wgt]; have := ih i; omega
 have := Zl5 (l.take i) (by omega)
 omega
theorem ZBq {l : List Zae} (h : wgt l <= 1200) : ZkC l (true, false, [], ()) = some ((), ((true, false, Zk2 l, ()), (), (), ())) := by
 have hlen := ZoP l
 have hg : [(l.length : Int)].all ZjP = true := by
  simp only [List.all_cons, List.all_nil, Bool.and_true]
  exact ZdJ.2 (by omega)
 have hn := ZxS (xs := [(l.length : Int)]) (sp := false) (b := []) (by simp) (by simp)
 rw [ZpP _ _ _ hg] at hn
 have hc : ZoS [(l.length : Int)] = Zjx l.length := by simp [ZoS]
 rw [List.nil_append, hc] at hn
 have h9 := Zc7 (n := l.length) (by omega)
 unfold ZkC
 refine Zab hn ?_
 have hrun := Zc4 (step := Zfw) (fun i : Nat => (((), l, (l.length : Int), (i : Int), ()), ((true, false, Zjx l.length ++ ZkI (l.take i), ()), (), ()))) (N := l.length) (b := (((), ()), ((true, false, Zk2 l, ()), (), (), ()))) (fun i hi => ?_) ?_
 ·have e0 : Zjx l.length ++ ZkI (l.take 0) = Zjx l.length := by simp [ZkI]
  rw [e0] at hrun
  exact Zab hrun rfl
 ·have hm := Zq2 (List.getElem_mem hi)
  have ht := ZpR l h i
  unfold Zfw
  refine Zak (dT (by dsimp only; omega)) (Zab (Zay hi) (Zab (ZzQ (by omega) (by omega) (by rw [List.length_append]; omega)) ?_))
  dsimp only
  rw [w64 (by omega), List.take_succ_eq_append_getElem hi, ZpQ]
  simp only [ZCE, List.append_assoc]
  rfl
 ·unfold Zfw
  refine Zaj (dF (by dsimp only; omega)) ?_
  dsimp only
  rw [List.take_length]
  rfl
theorem ZpS {l : List Zae} (h : wgt l <= 1200) : Zcy l = some (Zk2 l, ((), ())) := by
 have hlen := ZoP l
 have hg : [(l.length : Int)].all ZjP = true := by
  simp only [List.all_cons, List.all_nil, Bool.and_true]
  exact ZdJ.2 (by omega)
 have hn := Zt4 (xs := [(l.length : Int)]) (by simp)
 rw [if_pos hg] at hn
 have hc : ZoS [(l.length : Int)] = Zjx l.length := by simp [ZoS]
 rw [hc] at hn
 have h9 := Zc7 (n := l.length) (by omega)
 unfold Zcy
 refine Zab hn ?_
 have hrun := Zc4 (step := ZbH) (fun i : Nat => ((l, Zjx l.length ++ ZkI (l.take i), (i : Int), ()), ((), ()))) (N := l.length) (b := ((Zk2 l, ()), ((), (), ()))) (fun i hi => ?_) ?_
 ·have e0 : Zjx l.length ++ ZkI (l.take 0) = Zjx l.length := by simp [ZkI]
  rw [e0] at hrun
  exact Zab hrun rfl
 ·have hm := Zq2 (List.getElem_mem hi)
  have ht := ZpR l h i
  have h1 := ZnC (t := l[i].key) (by omega)
  have h2 := ZnC (t := l[i].value) (by omega)
  unfold ZbH
  refine Zak (dT (by dsimp only; omega)) (Zab (Zay hi) (Zab (Zay hi) (Zab (Zt5 (by omega) (by omega)) (ZeK (by dsimp only; simp only [List.length_append]; omega) ?_))))
  dsimp only
  rw [w64 (by omega), List.take_succ_eq_append_getElem hi, ZpQ]
  simp only [ZCE, List.append_assoc]
  rfl
 ·unfold ZbH
  refine Zaj (dF (by dsimp only; omega)) ?_
  dsimp only
  rw [List.take_length]
  rfl
theorem Zt7 (l : List UInt8) (hl : l.length <= 140737488355328) : Zdb l l = some (true, ()) := by
 have hrun := Zc4 (step := Zbs) (fun i : Nat => ((l, l, (i : Int), ()), ())) (N := l.length) (b := .inr ((), ())) (fun i hi => ?_) ?_
 ·unfold Zdb
  exact Zaj (by simp) (Zab hrun rfl)
 ·unfold Zbs
  refine Zak (dT (by dsimp only; omega)) (Zab (Zay hi) (Zab (Zay hi) (Zaj (by simp) ?_)))
  dsimp only
  rw [w64 (by omega)]
  rfl
 ·unfold Zbs
  exact Zaj (dF (by dsimp only; omega)) rfl
def Zl6 (out : List Zae) (x : Zae) : Bool := Zbh x && match out.getLast? with
 | some y => decide (y.key < x.key)
 | none => true
def ZjQ : Nat -> List Zae -> Option (List UInt8) -> Option (List Zae × Option (List UInt8))
 | 0, out, o => some (out, o)
 | k + 1, out, o =>
  let x : Zae := ⟨(ZdK 20 o).1, (ZdK 20 (ZdK 20 o).2).1⟩
  if ((ZdK 20 (ZdK 20 o).2).2.isSome && Zl6 out x) = true then ZjQ k (out ++ [x]) (ZdK 20 (ZdK 20 o).2).2 else none
theorem ZpT {most : Nat} {o : Option (List UInt8)} : (ZdK most o).1.length <= most := by
 unfold ZdK
 cases h : (ZhY most o).2 with
 | none => exact Nat.zero_le _
 | some l =>
  have := ZmF h
  dsimp only
  split
  ·exact Nat.zero_le _
  ·dsimp only
   rw [List.length_take]; omega
theorem ZnD (o : Option (List UInt8)) : Zix ((), ()) (rdR o) = some (o.isNone, (((), ()), rdR o, ())) := by
 unfold Zix
 cases o with
 | none => exact Zab (v := (0, (rdR none, ()))) rfl (Zak rfl (Zab (v := (4, (rdR none, ()))) rfl rfl))
 | some l =>
  refine Zab (v := ((l.length : Int), (rdR (some l), ()))) rfl ?_
  cases l with
  | nil => exact Zak rfl (Zab (v := (0, (rdR (some []), ()))) rfl rfl)
  | cons b l => exact Zaj (dF (by simp only [List.length_cons]; omega)) rfl
theorem ZDO (o : Option (List UInt8)) : ZkD ((), ()) ((), ()) (rdR o) = some (((⟨(ZdK 20 o).1, (ZdK 20 (ZdK 20 o).2).1⟩ : Zae), (ZdK 20 (ZdK 20 o).2).2.isSome && Zbh ⟨(ZdK 20 o).1, (ZdK 20 (ZdK 20 o).2).1⟩, ()), (((), ()), ((), ()), rdR (ZdK 20 (ZdK 20 o).2).2, ())) := by
 have h1 : (ZdK 20 o).1.length <= 20 := ZpT
 have hr := ZxI (x := ⟨(ZdK 20 o).1, (ZdK 20 (ZdK 20 o).2).1⟩) (by unfold OkT; dsimp only; omega)
 unfold ZkD
 refine Zab (ZAp 20 (by omega) _) (Zab (ZAp 20 (by omega) _) (Zab (ZnD _) ?_))
 dsimp only
 cases h : (ZdK 20 (ZdK 20 o).2).2 with
 | none => exact Zaj rfl rfl
 | some l => exact Zak rfl (Zab hr rfl)
theorem Zu6 {out : List Zae} (h : 0 < out.length) (hl : out.length <= 1000) : ∃ y, out.getLast? = some y /\ Zdg out (IntKind.i64.wrap ((out.length : Int) - 1)) = some y := by
 refine ⟨out[out.length - 1], ?_, ?_⟩
 ·rw [List.getLast?_eq_getElem?, List.getElem?_eq_getElem (by omega)]
 ·rw [w64 (by omega), show (out.length : Int) - 1 = ((out.length - 1 : Nat) : Int) by omega]
  exact Zay (by omega)
theorem Zv4 {n : Nat} (hn : n <= 400) (o : Option (List UInt8)) : ∃ z, ZaP ZhG (((), [], (n : Int), 0, ()), (((), ()), ((), ()), rdR o, (), ())) = some z /\ match ZjQ n [] o with
 | some (l, o') => z = .inr ((l, ()), (((), ()), ((), ()), rdR o', (), (), ()))
 | none => ∃ o', z = .inl (((), false, ()), (((), ()), ((), ()), rdR o', (), ())) := by
 refine ZbL (fun m a => ∃ (i : Nat) (out : List Zae) (q : Option (List UInt8)), a = (((), out, (n : Int), (i : Int), ()), (((), ()), ((), ()), rdR q, (), ())) /\ i <= n /\ out.length = i /\ m = n - i /\ ZjQ n [] o = ZjQ (n - i) out q) _ ?_ (n := n) ⟨0, [], o, rfl, Nat.zero_le _, rfl, rfl, rfl⟩
 rintro m a ⟨i, out, q, rfl, h1, h2, rfl, h3⟩
 unfold ZhG
 by_cases hi : i < n
 ·have hk : ZjQ (n - i) out q = if ((ZdK 20 (ZdK 20 q).2).2.isSome && Zl6 out ⟨(ZdK 20 q).1, (ZdK 20 (ZdK 20 q).2).1⟩) = true then ZjQ (n - (i + 1)) (out ++ [⟨(ZdK 20 q).1, (ZdK 20 (ZdK 20 q).2).1⟩]) (ZdK 20 (ZdK 20 q).2).2 else none := by
   rw [show n - i = (n - (i + 1)) + 1 by omega]; rfl
  have hp := ZDO q
  generalize (⟨(ZdK 20 q).1, (ZdK 20 (ZdK 20 q).2).1⟩ : Zae) = x at *
  generalize (ZdK 20 (ZdK 20 q).2).2 = q2 at *
  cases hs : (q2.isSome && Zbh x) with
  | false =>
   right
   rw [hs] at hp
   have hno : ¬ (q2.isSome && Zl6 out x) = true := by
    unfold Zl6
    cases hq : q2.isSome with
    | false => simp
    | true => rw [hq, Bool.true_and] at hs; rw [hs]; simp
   rw [h3, hk, if_neg hno]
   exact ⟨_, Zak (dT (by dsimp only; omega)) (Zab hp (Zak rfl rfl)), _, rfl⟩
  | true =>
   rw [hs] at hp
   rw [Bool.and_eq_true] at hs
   by_cases h0 : 0 < out.length
   ·obtain ⟨y, y1, y2⟩ := Zu6 h0 (by omega)
    have hgood : (q2.isSome && Zl6 out x) = decide (y.key < x.key) := by
     unfold Zl6; rw [hs.1, hs.2, y1]; simp
    by_cases hlt : y.key < x.key
    ·left
     refine ⟨n - (i + 1), (((), out ++ [x], (n : Int), ((i + 1 : Nat) : Int), ()), (((), ()), ((), ()), rdR q2, (), ())), by omega, Zak (dT (by dsimp only; omega)) (Zab hp (Zaj rfl (Zak (dT (by dsimp only; omega)) (Zab y2 (Zaj (by simp [hlt]) (ZeK (by simp only [List.length_singleton]; omega) ?_)))))), i + 1, _, _, rfl, by omega, by rw [List.length_append]; simp; omega, rfl, ?_⟩
     ·dsimp only
      rw [w64 (by omega)]; rfl
     ·rw [h3, hk, hgood, dT hlt, if_pos rfl]
    ·right
     rw [h3, hk, hgood, dF hlt, if_neg Bool.false_ne_true]
     exact ⟨_, Zak (dT (by dsimp only; omega)) (Zab hp (Zaj rfl (Zak (dT (by dsimp only; omega)) (Zab y2 (Zak (by simp [hlt]) rfl))))), _, rfl⟩
   ·left
    have hnil : out = [] := List.eq_nil_of_length_eq_zero (by omega)
    have hgood : (q2.isSome && Zl6 out x) = true := by
     unfold Zl6; rw [hs.1, hs.2, hnil]; rfl
    refine ⟨n - (i + 1), (((), out ++ [x], (n : Int), ((i + 1 : Nat) : Int), ()), (((), ()), ((), ()), rdR q2, (), ())), by omega, Zak (dT (by dsimp only; omega)) (Zab hp (Zaj rfl (Zaj (dF (by dsimp only; omega)) (ZeK (by simp only [List.length_singleton]; omega) ?_)))), i + 1, _, _, rfl, by omega, by rw [List.length_append]; simp; omega, rfl, ?_⟩
    ·dsimp only
     rw [w64 (by omega)]; rfl
    ·rw [h3, hk, if_pos hgood]
 ·right
  obtain rfl : i = n := by omega
  rw [h3, Nat.sub_self]
  exact ⟨_, Zaj (dF (by dsimp only; omega)) rfl, rfl⟩
theorem ZmG {x : Zae} (hx : OkT x.key) : ZbM x = some (Zbh x, ()) := by
 unfold ZbM Zbh
 refine Zab (ZnB hx) ?_
 cases ZsK x.key with
 | true =>
  refine Zak rfl ?_
  have : decide ((x.value.length : Int) <= 20) = decide (x.value.length <= 20) := by
   by_cases h : x.value.length <= 20
   ·rw [dT h, dT (by omega)]
   ·rw [dF h, dF (by omega)]
  rw [this]; rfl
 | false => exact Zaj rfl rfl
theorem ZsV {n : Nat} (hn : n <= 400) {o : Option (List UInt8)} (ho : okL o) : ∃ z, ZaP Zdc (((), (n : Int), [], 0, ()), (rfR o, (), ())) = some z /\ match ZjQ n [] o with
 | some (l, o') => z = .inr (((), l, ()), (rfR o', (), (), ()))
 | none => ∃ o', z = .inl (((), false, ()), (rfR o', (), ())) := by
 refine ZbL (fun m a => ∃ (i : Nat) (out : List Zae) (q : Option (List UInt8)), a = (((), (n : Int), out, (i : Int), ()), (rfR q, (), ())) /\ okL q /\ i <= n /\ out.length = i /\ m = n - i /\ ZjQ n [] o = ZjQ (n - i) out q) _ ?_ (n := n) ⟨0, [], o, rfl, ho, Nat.zero_le _, rfl, rfl, rfl⟩
 rintro m a ⟨i, out, q, rfl, hq, h1, h2, rfl, h3⟩
 unfold Zdc
 by_cases hi : i < n
 ·have hk : ZjQ (n - i) out q = if ((ZdK 20 (ZdK 20 q).2).2.isSome && Zl6 out ⟨(ZdK 20 q).1, (ZdK 20 (ZdK 20 q).2).1⟩) = true then ZjQ (n - (i + 1)) (out ++ [⟨(ZdK 20 q).1, (ZdK 20 (ZdK 20 q).2).1⟩]) (ZdK 20 (ZdK 20 q).2).2 else none := by
   rw [show n - i = (n - (i + 1)) + 1 by omega]; rfl
  have k1 := ZxW (most := 20) hq
  have k2 := ZxW (most := 20) k1
  have hp1 := ZsU 20 (by omega) hq
  have hp2 := ZsU 20 (by omega) k1
  have hlen : (ZdK 20 q).1.length <= 20 := ZpT
  have hr := ZmG (x := ⟨(ZdK 20 q).1, (ZdK 20 (ZdK 20 q).2).1⟩) (by unfold OkT; dsimp only; omega)
  cases hs : (ZdK 20 (ZdK 20 q).2).2 with
  | none =>
   right
   rw [hs] at hp2
   rw [h3, hk, hs, if_neg (by simp)]
   exact ⟨_, Zak (dT (by dsimp only; omega)) (Zab hp1 (Zab hp2 (Zak rfl rfl))), none, rfl⟩
  | some l2 =>
   rw [hs] at hp2 k2
   cases hrr : Zbh ⟨(ZdK 20 q).1, (ZdK 20 (ZdK 20 q).2).1⟩ with
   | false =>
    right
    rw [hrr] at hr
    rw [h3, hk, hs, if_neg (by unfold Zl6; rw [hrr]; simp)]
    exact ⟨_, Zak (dT (by dsimp only; omega)) (Zab hp1 (Zab hp2 (Zaj rfl (Zab hr (Zak rfl rfl))))), some l2, rfl⟩
   | true =>
    rw [hrr] at hr
    by_cases h0 : 0 < out.length
    ·obtain ⟨y, y1, y2⟩ := Zu6 h0 (by omega)
     rw [h2] at y2
     have hgood : ((some l2).isSome && Zl6 out ⟨(ZdK 20 q).1, (ZdK 20 (ZdK 20 q).2).1⟩) = decide (y.key < (ZdK 20 q).1) := by
      unfold Zl6; rw [hrr, y1]; simp
     by_cases hlt : y.key < (ZdK 20 q).1
     ·left
      refine ⟨n - (i + 1), (((), (n : Int), out ++ [⟨(ZdK 20 q).1, (ZdK 20 (ZdK 20 q).2).1⟩], ((i + 1 : Nat) : Int), ()), (rfR (some l2), (), ())), by omega, Zak (dT (by dsimp only; omega)) (Zab hp1 (Zab hp2 (Zaj rfl (Zab hr (Zaj rfl (Zak (dT (by dsimp only; omega)) (Zab y2 (Zaj (by simp [hlt]) (ZeK (by simp only [List.length_singleton]; omega) ?_))))))))), i + 1, _, _, rfl, k2, by omega, by rw [List.length_append]; simp; omega, rfl, ?_⟩
      ·dsimp only
       rw [w64 (by omega)]; rfl
      ·rw [h3, hk, hs, hgood, dT hlt, if_pos rfl]
     ·right
      rw [h3, hk, hs, hgood, dF hlt, if_neg Bool.false_ne_true]
      exact ⟨_, Zak (dT (by dsimp only; omega)) (Zab hp1 (Zab hp2 (Zaj rfl (Zab hr (Zaj rfl (Zak (dT (by dsimp only; omega)) (Zab y2 (Zak (by simp [hlt]) rfl)))))))), some l2, rfl⟩
    ·left
     have hnil : out = [] := List.eq_nil_of_length_eq_zero (by omega)
     have hgood : ((some l2).isSome && Zl6 out ⟨(ZdK 20 q).1, (ZdK 20 (ZdK 20 q).2).1⟩) = true := by
      unfold Zl6; rw [hrr, hnil]; rfl
     refine ⟨n - (i + 1), (((), (n : Int), out ++ [⟨(ZdK 20 q).1, (ZdK 20 (ZdK 20 q).2).1⟩], ((i + 1 : Nat) : Int), ()), (rfR (some l2), (), ())), by omega, Zak (dT (by dsimp only; omega)) (Zab hp1 (Zab hp2 (Zaj rfl (Zab hr (Zaj rfl (Zaj (dF (by dsimp only; omega)) (ZeK (by simp only [List.length_singleton]; omega) ?_))))))), i + 1, _, _, rfl, k2, by omega, by rw [List.length_append]; simp; omega, rfl, ?_⟩
     ·dsimp only
      rw [w64 (by omega)]; rfl
     ·rw [h3, hk, hs, if_pos hgood]
 ·right
  obtain rfl : i = n := by omega
  rw [h3, Nat.sub_self]
  exact ⟨_, Zaj (dF (by dsimp only; omega)) rfl, rfl⟩
def ZsW (l : List UInt8) : Option (List Zae × Option (List UInt8)) := match (ZhY 400 (some l)).2 with
 | none => none
 | some r => ZjQ (ZhY 400 (some l)).1.toNat [] (some r)
theorem ZmH : ∀ (k : Nat) (out : List Zae) (r : List UInt8) {l : List Zae} {o : Option (List UInt8)}, ZjQ k out (some r) = some (l, o) -> ∃ r', o = some r'
 | 0, out, r, l, o, h => by
  injection h with h
  injection h with h1 h2
  exact ⟨r, h2.symm⟩
 | k + 1, out, r, l, o, h => by
  unfold ZjQ at h
  dsimp only at h
  split at h
  ·rename_i hc
   rw [Bool.and_eq_true] at hc
   obtain ⟨r', hr⟩ := Option.isSome_iff_exists.1 hc.1
   rw [hr] at h
   exact ZmH k _ r' h
  ·cases h
theorem ZCF (l : List UInt8) : ∃ o, Zl2 (true, false, l, ()) = some ((match ZsW l with | some p => (p.1, true, ()) | none => ([], false, ())), (rdR o, (), (), ())) /\ ∀ p, ZsW l = some p -> o = p.2 := by
 have hn := ZCC 400 l
 unfold Zl2 ZsW
 cases h : (ZhY 400 (some l)).2 with
 | none =>
  rw [h] at hn
  exact ⟨none, Zab hn (Zab (ZnD none) (Zak rfl rfl)), fun p hp => by cases hp⟩
 | some r =>
  rw [h] at hn
  obtain ⟨h1, h2⟩ := ZmF h
  obtain ⟨n, hn'⟩ : ∃ n : Nat, (ZhY 400 (some l)).1 = (n : Int) := ⟨(ZhY 400 (some l)).1.toNat, by omega⟩
  rw [hn', Int.toNat_natCast]
  rw [hn'] at hn
  obtain ⟨z, hz, hm⟩ := Zv4 (n := n) (by omega) (some r)
  dsimp only
  cases hr : ZjQ n [] (some r) with
  | none =>
   rw [hr] at hm
   obtain ⟨o', rfl⟩ := hm
   refine ⟨o', Zab hn (Zab (ZnD (some r)) (Zaj rfl (Zab (v := (([], false, ()), (((), ()), ((), ()), rdR o', (), ()))) (by unfold Zl1; exact Zab hz rfl) rfl))), fun p hp => by cases hp⟩
  | some p =>
   obtain ⟨l', o'⟩ := p
   rw [hr] at hm
   dsimp only at hm
   subst hm
   refine ⟨o', Zab hn (Zab (ZnD (some r)) (Zaj rfl (Zab (v := ((l', true, ()), (((), ()), ((), ()), rdR o', (), ()))) (by unfold Zl1; exact Zab hz rfl) rfl))), fun p hp => by injection hp with hp; subst hp; rfl⟩
theorem ZxY {l : List UInt8} (hl : l.length <= 140737488355328) : ∃ o, Zd1 ⟨l, false⟩ = some ((match ZsW l with | some p => (p.1, true, ()) | none => ([], false, ())), (rfR o, (), ())) /\ ∀ p, ZsW l = some p -> o = p.2 := by
 have k0 : okL (some l) := hl
 have k1 := Zt6 (most := 400) k0
 have hn := ZsT 400 k0
 unfold Zd1 ZsW
 cases h : (ZhY 400 (some l)).2 with
 | none =>
  rw [h] at hn
  have hz : (ZhY 400 (some l)).1 = 0 := by
   unfold ZhY at h ⊢
   dsimp only at h ⊢
   cases hq : ZBM 400 l with
   | none => rfl
   | some p => rw [hq] at h; cases h
  rw [hz] at hn
  obtain ⟨z, hzz, hm⟩ := ZsV (n := 0) (by omega) (o := none) trivial
  change z = _ at hm
  subst hm
  exact ⟨none, Zab hn (Zab hzz (Zak rfl rfl)), fun p hp => by cases hp⟩
 | some r =>
  rw [h] at hn k1
  obtain ⟨h1, h2⟩ := ZmF h
  obtain ⟨n, hn'⟩ : ∃ n : Nat, (ZhY 400 (some l)).1 = (n : Int) := ⟨(ZhY 400 (some l)).1.toNat, by omega⟩
  rw [hn', Int.toNat_natCast]
  rw [hn'] at hn
  obtain ⟨z, hz, hm⟩ := ZsV (n := n) (by omega) k1
  dsimp only
  cases hr : ZjQ n [] (some r) with
  | none =>
   rw [hr] at hm
   obtain ⟨o', rfl⟩ := hm
   exact ⟨o', Zab hn (Zab hz rfl), fun p hp => by cases hp⟩
  | some p =>
   obtain ⟨l', o'⟩ := p
   rw [hr] at hm
   dsimp only at hm
   subst hm
   obtain ⟨r', rfl⟩ := ZmH _ _ _ hr
   exact ⟨some r', Zab hn (Zab hz (Zaj rfl rfl)), fun p hp => by injection hp with hp; subst hp; rfl⟩
theorem ZsX : ∀ (k : Nat) (out : List Zae) (o : Option (List UInt8)) {l : List Zae} {o' : Option (List UInt8)}, ZjQ k out o = some (l, o') -> l.length <= out.length + k
 | 0, out, o, l, o', h => by
  injection h with h
  injection h with h1 h2
  subst h1
  exact Nat.le_refl _
 | k + 1, out, o, l, o', h => by
  unfold ZjQ at h
  dsimp only at h
  split at h
  ·have := ZsX k _ _ h
   rw [List.length_append, List.length_singleton] at this
   omega
  ·cases h
theorem Zt8 {s b : List UInt8} (hs : s.length <= 140737488355328) (hb : b.length <= 140737488355328) : ZaP ZaX (([s, b], 0, ()), ((), ())) = some (.inr ((), ((), ()))) := by
 have step (l : List UInt8) (hl : l.length <= 140737488355328) (i : Int) (hi : Zdg [s, b] i = some l) (h2 : i < 2) (h0 : 0 <= i) : ZaX (([s, b], i, ()), ((), ())) = some (.inl (([s, b], i + 1, ()), ((), ()))) := by
  obtain ⟨o1, r1, q1⟩ := ZCF l
  obtain ⟨o2, r2, q2⟩ := ZxY hl
  unfold ZaX
  refine Zak (dT h2) (Zab hi (Zab hi (Zab (v := ((), ((true, false, l, ()), (), ()))) (by unfold ZhT Zkf; exact Zab (ZeK (by omega) rfl) rfl) (Zab r1 (Zab r2 ?_)))))
  cases hs : ZsW l with
  | some p =>
   obtain ⟨rows, o⟩ := p
   have e1 := q1 _ hs
   have e2 := q2 _ hs
   have hrl : rows.length <= 400 /\ ∃ r', o = some r' := by
    unfold ZsW at hs
    cases hn : (ZhY 400 (some l)).2 with
    | none => rw [hn] at hs; cases hs
    | some r =>
     rw [hn] at hs
     have h1 := ZmF hn
     have h3 := ZsX _ _ _ hs
     simp only [List.length_nil] at h3
     exact ⟨by omega, ZmH _ _ _ hs⟩
   obtain ⟨hrl, r', rfl⟩ := hrl
   dsimp only at e1 e2
   subst e1 e2
   refine Zaj (by simp) (Zab (Zeq (a := rows) (by omega)) (Zaj (by simp) (Zak rfl ?_)))
   refine Zab (v := ((r'.length : Int), (rdR (some r'), ()))) rfl (Zaj (by simp [rfR]) ?_)
   dsimp only
   rw [w64 (by omega)]
  | none =>
   refine Zaj (by simp) (Zab (Zeq (by simp)) (Zaj (by simp) (Zaj rfl ?_)))
   dsimp only
   rw [w64 (by omega)]
 refine (Zew (step s hs 0 rfl (by omega) (by omega))).trans ((Zew (step b hb 1 rfl (by omega) (by omega))).trans (Zd6 ?_))
 unfold ZaX
 exact Zaj rfl rfl
theorem ZoQ (x0 : List Zae) (x1 : List UInt8) (k0 : ZuL x0) (k1 : Zxc x1) : Zby x0 x1 = some (true, ()) := by
 obtain ⟨n, n1, n2⟩ := ZxX k0.len (fun r hr => ⟨(k0.all r hr).1, (k0.all r hr).2.1⟩)
 have hl1 := k1.len
 unfold Zby
 refine Zab n1 ?_
 by_cases hn : (1200 : Int) < n
 ·exact Zak (dT hn) (Zab Zkn rfl)
 refine Zaj (dF hn) ?_
 by_cases hlong : (20000 : Int) < (x1.length : Int)
 ·exact Zak (dT hlong) (Zab Zkn rfl)
 have hw := n2 (by omega)
 have hlen := ZoP x0
 have hbl : (Zk2 x0).length <= 40000 := by
  have := Zl5 x0 hw
  have := Zc7 (n := x0.length) (by omega)
  unfold Zk2
  rw [List.length_append]; omega
 obtain ⟨st, d1⟩ := ZCA (sp := false) (b := Zk2 x0) (by omega)
 rw [if_neg Bool.false_ne_true] at d1
 refine Zaj (dF hlong) (Zab (ZAm (l := x0) (by omega)) (Zab (v := ((), ((true, false, [], ()), (), ()))) rfl (Zab (ZBq hw) (Zab d1 (Zaj rfl (Zab (ZpS hw) (Zab (Zt7 (Zk2 x0) (by omega)) (Zaj rfl (Zab (ZAn (l := x0) (by omega)) (Zaj rfl (Zab (Zt8 (s := Zk2 x0) (b := x1) (by omega) hl1) (Zab Zkn rfl))))))))))))
end Go.Proofs.YtlmmpfbdgiokmaaGreat
