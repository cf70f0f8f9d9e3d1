/- Tables of rows, plainly. -/
import Derived.Test.YtlmmpfbdgiokmaaGreatSpr
import Derived.Test.YtlmmpfbdgiokmaaGreatPl
namespace Go.Proofs.YtlmmpfbdgiokmaaGreat
open Go.RowKit
set_option maxRecDepth 100000
set_option linter.unusedVariables false
set_option linter.unusedSimpArgs false
theorem ZD8 : ∀ a b : Tx, Lib.compareBytes a b = if a < b then -1 else if a = b then 0 else 1
 | [], [] => by simp [Lib.compareBytes]
 | [], b :: bs => by simp [Lib.compareBytes]
 | a :: cs, [] => by simp [Lib.compareBytes]
 | a :: cs, b :: bs => by
  rw [Lib.compareBytes, ZD8 cs bs]
  by_cases h1 : a < b
  ·rw [if_pos h1, if_pos (by rw [List.cons_lt_cons_iff]; exact .inl h1)]
  ·by_cases h2 : b < a
   ·rw [if_neg h1, if_pos h2, if_neg (by rw [List.cons_lt_cons_iff]; rintro (h | ⟨h, _⟩); exact h1 h; subst h; exact h1 h2), if_neg (by intro h; injection h with h; subst h; exact h1 h2)]
   ·have h3 : a = b := by
     rcases UInt8.lt_or_lt_of_ne (a := a) (b := b) |> fun f => Classical.em (a = b) with h | h
     ·exact h
     ·exact absurd (UInt8.lt_or_lt_of_ne h) (by rintro (h | h); exact h1 h; exact h2 h)
    subst h3
    rw [if_neg h1, if_neg h2]
    have e1 : (a :: cs < a :: bs) ↔ cs < bs := by rw [List.cons_lt_cons_iff]; simp [h1]
    by_cases h4 : cs < bs
    ·rw [if_pos h4, if_pos (e1.2 h4)]
    ·rw [if_neg h4, if_neg (fun h => h4 (e1.1 h))]
     by_cases h5 : cs = bs
     ·rw [if_pos h5, if_pos (by rw [h5])]
     ·rw [if_neg h5, if_neg (by intro h; injection h with _ h; exact h5 h)]
theorem ZxG (a b : Tx) : Zft a b = some (if a < b then -1 else if a = b then 0 else 1, ()) := by
 unfold Zft Zeh ZuU
 rw [ZD8]
 rfl
theorem ZBl (r : Zae) (k : Tx) : ZlM r k = some (if r.key < k then -1 else if r.key = k then 0 else 1, ()) := by
 unfold ZlM
 rw [ZxG]
 rfl
theorem ZC0 {a b c : Tx} (h1 : a < b) (h2 : b < c) : a < c := by grind
theorem ZzM {a b : Tx} (h : a < b) : ¬ b < a := by grind
theorem ZBm {a b : Tx} (h1 : ¬ a < b) (h2 : a ≠ b) : b < a := by grind
theorem ZEi {a b c : Tx} (h1 : a < b) (h2 : ¬ c < b) : a < c := by grind
def srt (l : List Zae) : Prop := l.Pairwise fun a b => a.key < b.key
def lb (k : Tx) : List Zae -> Nat
 | [] => 0
 | r :: l => if r.key < k then lb k l + 1 else 0
theorem ZsM (k : Tx) : ∀ l, lb k l <= l.length
 | [] => Nat.le_refl _
 | r :: l => by
  unfold lb
  split
  ·exact Nat.succ_le_succ (ZsM k l)
  ·exact Nat.zero_le _
theorem Zl3 {k : Tx} : ∀ {l : List Zae} (hs : srt l) {i : Nat} (hi : i < l.length), (l[i].key < k ↔ i < lb k l)
 | [], _, _, hi => by cases hi
 | r :: l, hs, 0, hi => by
  unfold lb
  rw [List.getElem_cons_zero]
  split
  ·rename_i h; simp [h]
  ·rename_i h; simp [h]
 | r :: l, hs, i + 1, hi => by
  have hs' : srt l := (List.pairwise_cons.1 hs).2
  have ih := Zl3 hs' (k := k) (i := i) (by simpa using hi)
  unfold lb
  rw [List.getElem_cons_succ]
  split
  ·rw [ih]; omega
  ·rename_i h
   have h1 := (List.pairwise_cons.1 hs).1 (l[i]'(by simpa using hi)) (List.getElem_mem _)
   constructor
   ·intro h2; exact absurd (ZC0 h1 h2) h
   ·intro h2; omega
theorem ZqX {k : Tx} : ∀ {l : List Zae} (hs : srt l), l.take (lb k l) = l.filter fun r => decide (r.key < k)
 | [], _ => rfl
 | r :: l, hs => by
  have hs' := List.pairwise_cons.1 hs
  unfold lb
  by_cases h : r.key < k
  ·rw [if_pos h, List.take_succ_cons, ZqX hs'.2, List.filter_cons_of_pos (by simpa using h)]
  ·rw [if_neg h, List.take_zero, List.filter_cons_of_neg (by simpa using h)]
   refine (List.filter_eq_nil_iff.2 fun x hx => ?_).symm
   have := hs'.1 x hx
   simp only [decide_eq_true_eq]
   exact fun h2 => h (ZC0 this h2)
theorem ZqY {k : Tx} : ∀ {l : List Zae} (hs : srt l), l.drop (lb k l) = l.filter fun r => !decide (r.key < k)
 | [], _ => rfl
 | r :: l, hs => by
  have hs' := List.pairwise_cons.1 hs
  unfold lb
  by_cases h : r.key < k
  ·rw [if_pos h, List.drop_succ_cons, ZqY hs'.2, List.filter_cons_of_neg (by simpa using h)]
  ·rw [if_neg h, List.drop_zero]
   refine (List.filter_eq_self.2 fun x hx => ?_).symm
   simp only [Bool.not_eq_true', decide_eq_false_iff_not]
   rcases List.mem_cons.1 hx with rfl | hx
   ·exact h
   ·exact fun h2 => h (ZC0 (hs'.1 x hx) h2)
theorem Zt2 {a b : Tx} (h : ¬ b < a) : ∀ l : List Zae, lb a l <= lb b l
 | [] => Nat.le_refl _
 | r :: l => by
  unfold lb
  by_cases h1 : r.key < a
  ·rw [if_pos h1, if_pos (ZEi h1 h)]
   exact Nat.succ_le_succ (Zt2 h l)
  ·rw [if_neg h1]; exact Nat.zero_le _
def fnd (k : Tx) (l : List Zae) : Bool := match l[lb k l]? with
 | some r => decide (r.key = k)
 | none => false
theorem ZDK {i j : Nat} (h : i <= j) (hj : j <= 140737488355328) : IntKind.i64.wrap ((IntKind.u64.wrap (IntKind.i64.wrap ((i : Int) + (j : Int)))).fdiv (2 ^ min (1 : Int).toNat (IntKind.u64.bits))) = (((i + j) / 2 : Nat) : Int) := by
 rw [w64 (n := (i : Int) + (j : Int)) (by omega), IntKind.wrap_u64, show (2 : Int) ^ min (1 : Int).toNat (IntKind.u64.bits) = 2 from rfl, Int.fdiv_eq_ediv_of_nonneg _ (by omega), w64 (by omega)]
 omega
theorem ZuY {k : Tx} {l : List Zae} (hs : srt l) (hl : l.length <= 140737488355328) : ZbA l.length k l = some ((((lb k l : Nat) : Int), fnd k l, ()), (l, ())) := by
 have hle := ZsM k l
 have key : ZaP ZbT ((l.length, k, (), ((l.length : Nat) : Int), 0, ((l.length : Nat) : Int), ()), (l, ())) = some ((l.length, k, (), ((l.length : Nat) : Int), ((lb k l : Nat) : Int), ()), (l, ())) := by
  refine ZfP (fun m a => ∃ i j : Nat, a = ((l.length, k, (), ((l.length : Nat) : Int), (i : Int), (j : Int), ()), (l, ())) /\ i <= lb k l /\ lb k l <= j /\ j <= l.length /\ m = j - i) _ ?_ (n := l.length) ⟨0, l.length, rfl, Nat.zero_le _, hle, Nat.le_refl _, rfl⟩
  rintro m a ⟨i, j, rfl, h1, h2, h3, rfl⟩
  unfold ZbT
  by_cases hij : i < j
  ·left
   have hm := ZDK (i := i) (j := j) (by omega) (by omega)
   have hmid : (i + j) / 2 < l.length := by omega
   have hg : l[0 + (((i + j) / 2 : Nat) : Int).toNat]? = some l[(i + j) / 2] := by rw [Nat.zero_add, Int.toNat_natCast, List.getElem?_eq_getElem hmid]
   have hiff := Zl3 hs (k := k) hmid
   by_cases hc : l[(i + j) / 2].key < k
   ·refine ⟨j - ((i + j) / 2 + 1), ((l.length, k, (), ((l.length : Nat) : Int), ((((i + j) / 2 + 1 : Nat)) : Int), (j : Int), ()), (l, ())), by omega, Zak (dT (by dsimp only; omega)) ?_, (i + j) / 2 + 1, j, rfl, by have := hiff.1 hc; omega, h2, h3, rfl⟩
    dsimp only
    rw [hm]
    refine ZeK (by omega) (Zab hg (Zab (ZBl _ _) ?_))
    rw [if_pos hc]
    refine Zak rfl ?_
    rw [w64 (by omega)]
    rfl
   ·refine ⟨(i + j) / 2 - i, ((l.length, k, (), ((l.length : Nat) : Int), (i : Int), (((i + j) / 2 : Nat) : Int), ()), (l, ())), by omega, Zak (dT (by dsimp only; omega)) ?_, i, (i + j) / 2, rfl, h1, ?_, by omega, rfl⟩
    ·dsimp only
     rw [hm]
     refine ZeK (by omega) (Zab hg (Zab (ZBl _ _) ?_))
     rw [if_neg hc]
     exact Zaj (by split <;> rfl) rfl
    ·rcases Nat.lt_or_ge ((i + j) / 2) (lb k l) with h | h
     ·exact absurd (hiff.2 h) hc
     ·exact h
  ·right
   obtain rfl : i = lb k l := by omega
   exact Zaj (dF (by dsimp only; omega)) rfl
 unfold ZbA
 refine Zab key ?_
 unfold fnd
 by_cases hi : lb k l < l.length
 ·have hg : l[0 + ((lb k l : Nat) : Int).toNat]? = some l[lb k l] := by rw [Nat.zero_add, Int.toNat_natCast, List.getElem?_eq_getElem hi]
  refine Zak (dT (by dsimp only; omega)) (ZeK (by dsimp only; omega) (Zab hg (Zab (ZBl _ _) ?_)))
  rw [List.getElem?_eq_getElem hi]
  have hno : ¬ l[lb k l].key < k := fun h => Nat.lt_irrefl _ ((Zl3 hs hi).1 h)
  rw [if_neg hno]
  dsimp only
  by_cases he : l[lb k l].key = k
  ·rw [if_pos he]; simp [he]
  ·rw [if_neg he]; simp [he]
 ·refine Zaj (dF (by dsimp only; omega)) ?_
  rw [List.getElem?_eq_none (by omega)]
theorem ZEj {k : Tx} {l : List Zae} (hs : srt l) (hl : l.length <= 140737488355328) : Zqu k (l.length, ()) l = some ((((lb k l : Nat) : Int), fnd k l, ()), ((l.length, ()), l, ())) := by
 unfold Zqu
 exact Zab (ZuY hs hl) rfl
theorem ZxH {k : Tx} {l : List Zae} (hs : srt l) (hl : l.length <= 140737488355328) : Zil k (l.length, true, ()) l = some ((((lb k l : Nat) : Int), fnd k l, ()), ((l.length, true, ()), l, ())) := by
 unfold Zil
 exact Zab (ZuY hs hl) rfl
def Znh (x : Zae) (l : List Zae) : List Zae := if fnd x.key l = true then l.set (lb x.key l) x else l.take (lb x.key l) ++ [x] ++ l.drop (lb x.key l)
theorem ZmB {k : Tx} {l : List Zae} (h : fnd k l = true) : ∃ h : lb k l < l.length, l[lb k l].key = k := by
 unfold fnd at h
 cases hg : l[lb k l]? with
 | none => rw [hg] at h; cases h
 | some r =>
  rw [hg] at h
  obtain ⟨h1, h2⟩ := List.getElem?_eq_some_iff.1 hg
  exact ⟨h1, by rw [h2]; exact of_decide_eq_true h⟩
theorem ZzN (x : Zae) (l : List Zae) : l.length <= (Znh x l).length /\ (Znh x l).length <= l.length + 1 := by
 have := ZsM x.key l
 unfold Znh
 split
 ·rw [List.length_set]; omega
 ·simp only [List.length_append, List.length_take, List.length_drop, List.length_singleton]; omega
theorem ZoM {x : Zae} {l : List Zae} (hs : srt l) : Znh x l = (l.filter fun r => decide (r.key < x.key)) ++ [x] ++ l.filter fun r => decide (x.key < r.key) := by
 have hd := ZqY (k := x.key) hs
 have ht := ZqX (k := x.key) hs
 unfold Znh
 split
 ·rename_i h
  obtain ⟨h1, h2⟩ := ZmB h
  have hset : l.set (lb x.key l) x = l.take (lb x.key l) ++ [x] ++ l.drop (lb x.key l + 1) := by
   rw [List.set_eq_take_append_cons_drop, if_pos h1, List.append_assoc]; rfl
  rw [hset, ht]
  congr 1
  rw [List.drop_eq_getElem_cons h1] at hd
  have hp : (l[lb x.key l] :: l.drop (lb x.key l + 1)).Pairwise fun a b => a.key < b.key := by
   rw [<- List.drop_eq_getElem_cons h1]
   exact hs.sublist (List.drop_sublist _ _)
  have hp := List.pairwise_cons.1 hp
  rw [h2] at hp
  have e : (l.filter fun r => decide (x.key < r.key)) = (l.filter fun r => !decide (r.key < x.key)).filter fun r => decide (x.key < r.key) := by
   rw [List.filter_filter]
   congr 1
   funext r
   by_cases hq : x.key < r.key
   ·simp [hq, ZzM hq]
   ·simp [hq]
  rw [e, <- hd, List.filter_cons_of_neg (by rw [h2]; simp [ltT])]
  exact (List.filter_eq_self.2 fun r hr => by simpa using hp.1 r hr).symm
 ·rename_i h
  rw [ht, hd]
  congr 1
  refine List.filter_congr fun r hr => ?_
  have hne : r.key ≠ x.key := fun he => by
   obtain ⟨i, hi, hri⟩ := List.getElem_of_mem hr
   have h1 : ¬ i < lb x.key l := fun h2 => by
    have := (Zl3 hs hi).2 h2
    rw [hri, he] at this
    exact ltT _ this
   have hlt : lb x.key l < l.length := by omega
   have h2 : ¬ l[lb x.key l].key < x.key := fun h3 => Nat.lt_irrefl _ ((Zl3 hs hlt).1 h3)
   apply h
   unfold fnd
   rw [List.getElem?_eq_getElem hlt]
   simp only [decide_eq_true_eq]
   rcases Nat.lt_or_ge (lb x.key l) i with h4 | h4
   ·have h5 := List.pairwise_iff_getElem.1 hs (lb x.key l) i hlt hi h4
    rw [hri, he] at h5
    exact absurd h5 h2
   ·obtain rfl : i = lb x.key l := by omega
    rw [hri, he]
  by_cases hq : x.key < r.key
  ·simp [hq, ZzM hq]
  ·simp [hq, ZBm hq (fun e => hne e.symm)]
theorem ZuZ {x : Zae} {l : List Zae} (hs : srt l) : srt (Znh x l) := by
 rw [ZoM hs]
 unfold srt
 rw [List.append_assoc, List.pairwise_append]
 refine ⟨hs.filter _, ?_, fun a ha b hb => ?_⟩
 ·rw [List.singleton_append, List.pairwise_cons]
  exact ⟨fun r hr => by simpa using (List.mem_filter.1 hr).2, hs.filter _⟩
 ·have h1 : a.key < x.key := by simpa using (List.mem_filter.1 ha).2
  rcases List.mem_append.1 hb with hb | hb
  ·rw [List.mem_singleton.1 hb]; exact h1
  ·have h2 : x.key < b.key := by simpa using (List.mem_filter.1 hb).2
   exact ZC0 h1 h2
theorem Zu0 {x y : Zae} {l : List Zae} (hs : srt l) : y ∈ Znh x l ↔ y = x \/ (y ∈ l /\ y.key ≠ x.key) := by
 rw [ZoM hs]
 simp only [List.mem_append, List.mem_filter, decide_eq_true_eq, List.mem_singleton]
 constructor
 ·rintro ((⟨h1, h2⟩ | rfl) | ⟨h1, h2⟩)
  ·exact .inr ⟨h1, fun e => by rw [e] at h2; exact ltT _ h2⟩
  ·exact .inl rfl
  ·exact .inr ⟨h1, fun e => by rw [e] at h2; exact ltT _ h2⟩
 ·rintro (rfl | ⟨h1, h2⟩)
  ·exact .inl (.inr rfl)
  ·by_cases hq : y.key < x.key
   ·exact .inl (.inl ⟨h1, hq⟩)
   ·exact .inr ⟨h1, ZBm hq h2⟩
theorem ZDL {x : Zae} {l : List Zae} (hs : srt l) (hl : l.length + 1 <= 1000000) : Zny x (l.length, ()) l = some ((), (((Znh x l).length, ()), (), Znh x l, ())) := by
 unfold Zny
 refine Zab (ZEj hs (by omega)) ?_
 have hle := ZsM x.key l
 unfold Znh
 cases h : fnd x.key l with
 | true =>
  obtain ⟨h1, h2⟩ := ZmB h
  have hg : l[0 + ((lb x.key l : Nat) : Int).toNat]? = some l[lb x.key l] := by rw [Nat.zero_add, Int.toNat_natCast, List.getElem?_eq_getElem h1]
  refine Zak rfl (ZeK (by dsimp only; omega) (Zab hg ?_))
  rw [if_pos rfl, List.length_set]
  dsimp only
  rw [Nat.zero_add, Int.toNat_natCast]
 | false =>
  rw [if_neg Bool.false_ne_true]
  have hok : ZlC l.length ((lb x.key l : Nat) : Int) 0 1 1 l [x] := ⟨rfl, by omega, by omega, rfl, rfl, Nat.le_refl _, by omega⟩
  refine Zaj rfl (Zab (v := (l.length + 1, ((), (), l.take (lb x.key l) ++ [x] ++ l.drop (lb x.key l), ()))) ?_ ?_)
  ·unfold ZuV
   exact ZeK hok rfl
  ·have hlen : (l.take (lb x.key l) ++ [x] ++ l.drop (lb x.key l)).length = l.length + 1 := by simp only [List.length_append, List.length_take, List.length_drop, List.length_singleton]; omega
   rw [hlen]
def Zbh (x : Zae) : Bool := ZsK x.key && decide (x.value.length <= 20)
theorem ZxI {x : Zae} (hx : OkT x.key) : Zig x = some (Zbh x, ()) := by
 unfold Zig Zbh
 refine Zab (ZBi hx) ?_
 cases ZsK x.key with
 | true =>
  refine Zak rfl ?_
  have : decide ((x.value.length : Int) <= 20) = decide (x.value.length <= 20) := by
   by_cases h : x.value.length <= 20
   ·rw [dT h, dT (by omega)]
   ·rw [dF h, dF (by omega)]
  rw [this]; rfl
 | false => exact Zaj rfl rfl
theorem ZxJ {x : Zae} (h : Zbh x = true) : x.key.length <= 20 /\ x.value.length <= 20 := by
 unfold Zbh ZsK at h
 simp only [Bool.and_eq_true, decide_eq_true_eq] at h
 exact ⟨h.1.2.1, h.2⟩
def ZcX (xs l : List Zae) : List Zae := xs.foldl (fun l x => Znh x l) l
theorem Zli (xs : List Zae) (x : Zae) (l : List Zae) : ZcX (xs ++ [x]) l = Znh x (ZcX xs l) := by simp [ZcX]
theorem Ziz : ∀ (xs : List Zae) {l : List Zae}, srt l -> srt (ZcX xs l)
 | [], _, h => h
 | x :: xs, l, h => Ziz xs (ZuZ h)
theorem ZkE : ∀ (xs l : List Zae), (ZcX xs l).length <= l.length + xs.length
 | [], l => Nat.le_refl _
 | x :: xs, l => by
  have h1 := ZkE xs (Znh x l)
  have h2 := (ZzN x l).2
  have : ZcX (x :: xs) l = ZcX xs (Znh x l) := rfl
  rw [this, List.length_cons]; omega
theorem ZpO {p : Zae -> Prop} : ∀ (xs : List Zae) {l : List Zae}, srt l -> (∀ x ∈ xs, p x) -> (∀ x ∈ l, p x) -> ∀ x ∈ ZcX xs l, p x
 | [], _, _, _, h => h
 | x :: xs, l, hs, h1, h2 => by
  have : ZcX (x :: xs) l = ZcX xs (Znh x l) := rfl
  rw [this]
  refine ZpO xs (ZuZ hs) (fun y hy => h1 y (List.mem_cons_of_mem _ hy)) fun y hy => ?_
  rcases (Zu0 hs).1 hy with rfl | ⟨hy, _⟩
  ·exact h1 _ List.mem_cons_self
  ·exact h2 y hy
theorem Zv0 {xs : List Zae} (hx : ∀ x ∈ xs, OkT x.key) (hl : xs.length <= 140737488355328) : Zc5 xs = some (!xs.all Zbh, ()) := by
 have key : ∃ z, ZaP ZdT ((xs, (), (xs.length : Int), 0, ()), ()) = some z /\ ((xs.all Zbh = true /\ z = .inr ((), ())) \/ (xs.all Zbh = false /\ ∃ i : Nat, z = .inl (((i : Int), ()), ()))) := by
  refine ZbL (fun m a => ∃ i : Nat, a = ((xs, (), (xs.length : Int), (i : Int), ()), ()) /\ i <= xs.length /\ (xs.take i).all Zbh = true /\ m = xs.length - i) _ ?_ (n := xs.length) ⟨0, rfl, Nat.zero_le _, rfl, rfl⟩
  rintro m a ⟨i, rfl, h1, h2, rfl⟩
  unfold ZdT
  by_cases hi : i < xs.length
  ·have hp : ZlH xs[i] = some (!Zbh xs[i], ()) := by unfold ZlH; exact Zab (ZxI (hx _ (List.getElem_mem hi))) rfl
   cases hr : Zbh xs[i] with
   | true =>
    left
    refine ⟨xs.length - (i + 1), _, by omega, Zak (dT (by dsimp only; omega)) (Zab (Zay hi) (Zab hp (Zaj (by rw [hr]; rfl) rfl))), i + 1, ?_, by omega, ?_, rfl⟩
    ·dsimp only
     rw [w64 (by omega)]; rfl
    ·rw [List.take_succ_eq_append_getElem hi, List.all_append, h2]; simp [hr]
   | false =>
    right
    refine ⟨_, Zak (dT (by dsimp only; omega)) (Zab (Zay hi) (Zab hp (Zak (by rw [hr]; rfl) rfl))), .inr ⟨?_, i, rfl⟩⟩
    cases ha : xs.all Zbh with
    | false => rfl
    | true => rw [List.all_eq_true.1 ha _ (List.getElem_mem hi)] at hr; cases hr
  ·right
   obtain rfl : i = xs.length := by omega
   rw [List.take_length] at h2
   exact ⟨_, Zaj (dF (by dsimp only; omega)) rfl, .inl ⟨h2, rfl⟩⟩
 unfold Zc5 Zgl
 obtain ⟨z, hz, ⟨h1, rfl⟩ | ⟨h1, i, rfl⟩⟩ := key
 ·rw [h1]
  exact Zab (Zab hz rfl) rfl
 ·rw [h1]
  refine Zab (Zab hz rfl) ?_
  dsimp only
  rw [dT (by omega)]
  rfl
def ZnA (xs l : List Zae) : Int × List Zae := if xs.all Zbh = true then (if 400 < (ZcX xs l).length then (8, l) else (0, ZcX xs l)) else (2, l)
theorem Zv1 {xs l : List Zae} (hs : srt l) (hl : l.length <= 400) (hx : ∀ x ∈ xs, OkT x.key) (hn : xs.length <= 100000) : ZfT xs (l.length, true, ()) l = some ((ZnA xs l).1, (((ZnA xs l).2.length, true, ()), (), (ZnA xs l).2, ())) := by
 unfold ZfT
 refine Zab (v := (true, ((l.length, true, ()), l, ()))) rfl (Zaj rfl (Zab (Zv0 hx (by omega)) ?_))
 unfold ZnA
 cases hr : xs.all Zbh with
 | false => rw [if_neg Bool.false_ne_true]; exact Zak rfl rfl
 | true =>
  rw [if_pos rfl]
  refine Zaj rfl (Zab (v := (l.length, (l, l, ()))) ?_ ?_)
  ·unfold Zg2
   dsimp only
   rw [List.take_length]
   exact ZeK (by omega) rfl
  have hrun := Zc4 (step := Zg3) (fun i : Nat => (((), (), xs, (xs.length : Int), (i : Int), ()), ((l.length, true, ()), ((ZcX (xs.take i) l).length, ()), l, ZcX (xs.take i) l, ()))) (N := xs.length) (b := (((), (), ()), ((l.length, true, ()), ((ZcX xs l).length, ()), (), (), l, ZcX xs l, ()))) (fun i hi => ?_) ?_
  ·refine Zab hrun ?_
   by_cases h4 : 400 < (ZcX xs l).length
   ·rw [if_pos h4]
    exact Zak (dT (by dsimp only; omega)) rfl
   ·rw [if_neg h4]
    exact Zaj (dF (by dsimp only; omega)) rfl
  ·have h1 := ZkE (xs.take i) l
   rw [List.length_take] at h1
   unfold Zg3
   refine Zak (dT (by dsimp only; omega)) (Zab (Zay hi) (Zab (ZDL (Ziz _ hs) (by omega)) ?_))
   dsimp only
   rw [w64 (by omega), List.take_succ_eq_append_getElem hi, Zli]
   rfl
  ·unfold Zg3
   refine Zaj (dF (by dsimp only; omega)) ?_
   dsimp only
   rw [List.take_length]
theorem ZxK {xs l : List Zae} (hs : srt l) (hl : l.length <= 400) (hr : ∀ r ∈ l, Zbh r = true) : srt (ZnA xs l).2 /\ (ZnA xs l).2.length <= 400 /\ ∀ r ∈ (ZnA xs l).2, Zbh r = true := by
 unfold ZnA
 split
 ·rename_i h
  split
  ·exact ⟨hs, hl, hr⟩
  ·rename_i h4
   exact ⟨Ziz _ hs, by dsimp only; omega, ZpO (p := fun r => Zbh r = true) xs hs (fun x hx => List.all_eq_true.1 h x hx) hr⟩
 ·exact ⟨hs, hl, hr⟩
def Zbo (s : Za5) (l : List Zae) : Nat × Nat := if Zjw s = true then (lb s.lo l, if s.hi = [] then l.length else lb s.hi l) else (0, 0)
theorem ZqZ {s : Za5} {l : List Zae} (hs : srt l) (hl : l.length <= 400) (ho : ZsJ s) : ZfR s (l.length, true, ()) l = some (((((Zbo s l).1 : Nat) : Int), (((Zbo s l).2 : Nat) : Int), ()), ((l.length, true, ()), l, ())) := by
 unfold ZfR Zbo
 refine Zab (ZBk ho) ?_
 cases h : Zjw s with
 | false => rw [if_neg Bool.false_ne_true]; exact Zak rfl rfl
 | true =>
  rw [if_pos rfl]
  refine Zaj rfl (Zab (ZxH hs (by omega)) ?_)
  by_cases hh : s.hi = []
  ·rw [if_pos hh]
   exact Zaj (by simp [hh]) rfl
  ·rw [if_neg hh]
   exact Zak (by simp [hh]) (Zab (ZxH hs (by omega)) rfl)
theorem ZsN {s : Za5} (h : Zjw s = true) (hh : s.hi ≠ []) : s.lo < s.hi := by
 unfold Zjw at h
 simp only [Bool.and_eq_true, Bool.or_eq_true, decide_eq_true_eq] at h
 rcases h.2.2 with h | h
 ·exact absurd h hh
 ·exact h
theorem Zl4 {s : Za5} {l : List Zae} : (Zbo s l).1 <= (Zbo s l).2 /\ (Zbo s l).2 <= l.length := by
 unfold Zbo
 split
 ·rename_i h
  by_cases hh : s.hi = []
  ·dsimp only; rw [if_pos hh]; exact ⟨ZsM _ _, Nat.le_refl _⟩
  ·dsimp only; rw [if_neg hh]; exact ⟨Zt2 (ZzM (ZsN h hh)) l, ZsM _ _⟩
 ·exact ⟨Nat.le_refl _, Nat.zero_le _⟩
def inF (s : Za5) (l : List Zae) : List Zae := l.filter fun r => ZsL s r.key
theorem ZmC {r : Zae} (h : Zbh r = true) : ZsK r.key = true := by
 unfold Zbh at h
 rw [Bool.and_eq_true] at h
 exact h.1
theorem ZxL {s : Za5} {l : List Zae} (hs : srt l) (hr : ∀ r ∈ l, Zbh r = true) : (l.drop (Zbo s l).1).take ((Zbo s l).2 - (Zbo s l).1) = inF s l := by
 unfold inF Zbo
 cases h : Zjw s with
 | false =>
  rw [if_neg Bool.false_ne_true]
  refine (List.filter_eq_nil_iff.2 fun r _ => ?_).symm
  unfold ZsL
  rw [h]; simp
 | true =>
  rw [if_pos rfl]
  dsimp only
  have hcong : ∀ (p : Zae -> Bool), (∀ r ∈ l, p r = ZsL s r.key) -> l.filter p = l.filter fun r => ZsL s r.key := fun p hp => List.filter_congr hp
  by_cases hh : s.hi = []
  ·rw [if_pos hh, List.take_of_length_le (by rw [List.length_drop]; omega), ZqY hs]
   refine hcong _ fun r hm => ?_
   unfold ZsL
   rw [h, ZmC (hr r hm)]
   simp [hh]
  ·rw [if_neg hh]
   have hm := Zt2 (ZzM (ZsN h hh)) l
   have e : (l.drop (lb s.lo l)).take (lb s.hi l - lb s.lo l) = (l.take (lb s.hi l)).drop (lb s.lo l) := by rw [List.drop_take]
   rw [e, ZqX hs]
   have e2 : lb s.lo (l.filter fun r => decide (r.key < s.hi)) = lb s.lo l := by
    have key : ∀ l : List Zae, lb s.lo (l.filter fun r => decide (r.key < s.hi)) = lb s.lo (l.filter fun r => decide (r.key < s.hi)) := fun _ => rfl
    have h1 : (l.filter fun r => decide (r.key < s.hi)) = l.take (lb s.hi l) := (ZqX hs).symm
    rw [h1]
    have h2 : ∀ (l : List Zae) (n : Nat), lb s.lo l <= n -> lb s.lo (l.take n) = lb s.lo l := by
     intro l
     induction l with
     | nil => intro n _; simp
     | cons r l ih =>
      intro n hn
      cases n with
      | zero =>
       have : lb s.lo (r :: l) = 0 := by omega
       rw [List.take_zero, this]; rfl
      | succ n =>
       rw [List.take_succ_cons]
       unfold lb at hn ⊢
       split
       ·rename_i hc
        rw [if_pos hc] at hn
        rw [ih n (by omega)]
       ·rfl
    exact h2 l _ hm
   have hs2 : srt (l.filter fun r => decide (r.key < s.hi)) := hs.filter _
   rw [<- e2, ZqY hs2, List.filter_filter]
   refine hcong _ fun r hm => ?_
   unfold ZsL
   rw [h, ZmC (hr r hm)]
   simp [hh]
theorem ZCy {s : Za5} {l : List Zae} (hs : srt l) (hl : l.length <= 400) (hr : ∀ r ∈ l, Zbh r = true) (ho : ZsJ s) : Zj4 s (l.length, true, ()) l = some (inF s l, ((l.length, true, ()), l, (), ())) := by
 obtain ⟨b1, b2⟩ := Zl4 (s := s) (l := l)
 have hc := ZxL (s := s) hs hr
 unfold Zj4
 refine Zab (v := (true, ((l.length, true, ()), l, ()))) rfl (Zaj rfl (Zab (ZqZ hs hl ho) (ZeK (by dsimp only; omega) (Zab (v := (inF s l, (l, (), ()))) ?_ rfl))))
 unfold ZlO
 dsimp only
 rw [Nat.zero_add, Int.toNat_natCast, Int.toNat_natCast, hc]
 have hlen : (inF s l).length <= 400 := Nat.le_trans (List.length_filter_le _ _) hl
 exact ZeK (by omega) rfl
def Zq3 (s : Za5) (l : List Zae) : List Zae := l.filter fun r => !ZsL s r.key
theorem ZxM {s : Za5} {l : List Zae} (hs : srt l) (hr : ∀ r ∈ l, Zbh r = true) : l.take (Zbo s l).1 ++ l.drop (Zbo s l).2 = Zq3 s l := by
 obtain ⟨b1, b2⟩ := Zl4 (s := s) (l := l)
 have hc := ZxL (s := s) hs hr
 have hl : l = l.take (Zbo s l).1 ++ ((l.drop (Zbo s l).1).take ((Zbo s l).2 - (Zbo s l).1) ++ l.drop (Zbo s l).2) := by
  have h1 : l.drop (Zbo s l).1 = (l.drop (Zbo s l).1).take ((Zbo s l).2 - (Zbo s l).1) ++ (l.drop (Zbo s l).1).drop ((Zbo s l).2 - (Zbo s l).1) := (List.take_append_drop _ _).symm
  rw [List.drop_drop, show (Zbo s l).1 + ((Zbo s l).2 - (Zbo s l).1) = (Zbo s l).2 by omega] at h1
  rw [<- h1, List.take_append_drop]
 rw [hc] at hl
 have hcnt : ∀ (a b c : List Zae) (p : Zae -> Bool), a ++ (b ++ c) = l -> b = l.filter p -> (∀ r ∈ b, p r = true) -> a ++ c = l.filter fun r => !p r := by
  intro a b c p h1 h2 h3
  have h4 : l.filter p = a.filter p ++ (b ++ c.filter p) := by rw [<- h1, List.filter_append, List.filter_append, List.filter_eq_self.2 h3]
  have h5 := congrArg List.length (h2.trans h4)
  simp only [List.length_append] at h5
  have ha : a.filter p = [] := List.eq_nil_of_length_eq_zero (by omega)
  have hc : c.filter p = [] := List.eq_nil_of_length_eq_zero (by omega)
  have hno : ∀ (x : List Zae), x.filter p = [] -> x.filter (fun r => !p r) = x := fun x hx => List.filter_eq_self.2 fun r hr => by
   have := List.filter_eq_nil_iff.1 hx r hr
   simpa using this
  rw [<- h1, List.filter_append, List.filter_append, hno a ha, hno c hc]
  have hb : b.filter (fun r => !p r) = [] := List.filter_eq_nil_iff.2 fun r hr => by rw [h3 r hr]; simp
  rw [hb, List.nil_append]
 exact hcnt _ _ _ (fun r => ZsL s r.key) hl.symm rfl (fun r hr => (List.mem_filter.1 hr).2)
theorem ZAk {s : Za5} {l : List Zae} (hs : srt l) (hl : l.length <= 400) (hr : ∀ r ∈ l, Zbh r = true) (ho : ZsJ s) : Zin s (l.length, true, ()) l = some (inF s l, (((Zq3 s l).length, true, ()), (), (), Zq3 s l, ())) := by
 obtain ⟨b1, b2⟩ := Zl4 (s := s) (l := l)
 unfold Zin
 refine Zab (ZCy hs hl hr ho) (Zab (v := (true, ((l.length, true, ()), l, ()))) rfl (Zak rfl (Zab (ZqZ hs hl ho) (Zab (v := ((Zq3 s l).length, ((), Zq3 s l, ()))) ?_ rfl))))
 have hok : ZlD l.length ((Zbo s l).1 : Nat) ((Zbo s l).2 : Nat) l := ⟨rfl, by omega, by omega, by omega, by omega⟩
 unfold ZuW
 refine ZeK hok ?_
 rw [Int.toNat_natCast, Int.toNat_natCast, ZxM hs hr]
 have h := congrArg List.length (ZxM (s := s) hs hr)
 simp only [List.length_append, List.length_take, List.length_drop] at h
 have : l.length - ((Zbo s l).2 - (Zbo s l).1) = (Zq3 s l).length := by omega
 rw [this]
theorem ZBn {s : Za5} {l : List Zae} (hs : srt l) (hl : l.length <= 400) (hr : ∀ r ∈ l, Zbh r = true) : srt (Zq3 s l) /\ (Zq3 s l).length <= 400 /\ ∀ r ∈ Zq3 s l, Zbh r = true :=
 ⟨hs.filter _, Nat.le_trans (List.length_filter_le _ _) hl, fun r h => hr r (List.mem_filter.1 h).1⟩
theorem Zeq {a b : List Zae} (hl : a.length <= 140737488355328) : ZaG a b = some (decide (a = b), ()) := by
 unfold ZaG
 by_cases hlen : a.length = b.length
 ·refine Zaj (by simp [hlen]) ?_
  have hrun := Zxj (step := Za7) a b (fun i => ((a, b, i, ()), ())) (.inl ((false, ()), ())) (.inr ((), ())) hlen hl (fun i hi hj => ⟨fun he => ?_, fun he => ?_⟩) ?_
  ·rw [hrun]
   by_cases hab : a = b
   ·rw [if_pos hab, dT hab]; rfl
   ·rw [if_neg hab, dF hab]; rfl
  ·unfold Za7
   refine Zak (dT (by dsimp only; omega)) (Zab (Zay hi) (Zab (Zay hj) (Zaj (by rw [he]; simp) ?_)))
   dsimp only
   rw [w64 (by omega)]; rfl
  ·unfold Za7
   refine Zak (dT (by dsimp only; omega)) (Zab (Zay hi) (Zab (Zay hj) (Zak ?_ rfl)))
   have hne : ¬ (a[i].key = b[i].key /\ a[i].value = b[i].value) := fun ⟨h1, h2⟩ => he (by
    cases ha : a[i]; cases hb : b[i]
    rw [ha, hb] at h1 h2
    cases h1; cases h2; rfl)
   by_cases h1 : a[i].key = b[i].key
   ·have h2 : ¬ a[i].value = b[i].value := fun h => hne ⟨h1, h⟩
    simp [h1, h2]
   ·simp [h1]
  ·unfold Za7
   exact Zaj (dF (by dsimp only; omega)) rfl
 ·refine Zak (by simpa using fun h => hlen (by omega)) ?_
  rw [dF (fun h => hlen (by rw [h]))]
theorem Zkn : ZaK = some (true, ()) := by
 have s0 : srt [] := List.Pairwise.nil
 have hx : ∀ x ∈ ([⟨[98], [49]⟩, ⟨[97], [50]⟩, ⟨[98], [51]⟩] : List Zae), OkT x.key := fun x hx => by
  simp only [List.mem_cons, List.not_mem_nil, or_false] at hx
  rcases hx with rfl | rfl | rfl <;> simp [OkT]
 have hp := Zv1 (xs := [⟨[98], [49]⟩, ⟨[97], [50]⟩, ⟨[98], [51]⟩]) s0 (Nat.zero_le _) hx (by simp)
 have hF : ZnA [⟨[98], [49]⟩, ⟨[97], [50]⟩, ⟨[98], [51]⟩] [] = (0, [⟨[97], [50]⟩, ⟨[98], [51]⟩]) := by decide +kernel
 have hok := ZxK (xs := [⟨[98], [49]⟩, ⟨[97], [50]⟩, ⟨[98], [51]⟩]) s0 (Nat.zero_le _) (fun r hr => by cases hr)
 rw [hF] at hp hok
 obtain ⟨o1, o2, o3⟩ := hok
 have i1 := ZCy (s := ⟨[], []⟩) o1 o2 o3 ⟨Nat.zero_le _, Nat.zero_le _⟩
 have i2 := ZAk (s := ⟨[97], [98]⟩) o1 o2 o3 ⟨by show 1 <= 140737488355328; omega, by show 1 <= 140737488355328; omega⟩
 have e1 : inF ⟨[], []⟩ [⟨[97], [50]⟩, ⟨[98], [51]⟩] = [⟨[97], [50]⟩, ⟨[98], [51]⟩] := by decide +kernel
 have e2 : inF ⟨[97], [98]⟩ [⟨[97], [50]⟩, ⟨[98], [51]⟩] = [⟨[97], [50]⟩] := by decide +kernel
 have e3 : Zq3 ⟨[97], [98]⟩ [⟨[97], [50]⟩, ⟨[98], [51]⟩] = [⟨[98], [51]⟩] := by decide +kernel
 rw [e1] at i1
 rw [e2, e3] at i2
 unfold ZaK
 refine Zab (v := ((), ((0, true, ()), [], ()))) rfl (Zab hp (Zab i1 (Zab i2 (Zak rfl (Zab (Zeq (by simp)) (Zak (by decide +kernel) (Zab (Zeq (by simp)) (Zak (by decide +kernel) (Zab (v := (1, ((1, true, ()), [⟨[98], [51]⟩], ()))) rfl rfl)))))))))
end Go.Proofs.YtlmmpfbdgiokmaaGreat
