/- slices.Replace, of a clone, by a list: its contract. -/
import Derived.Test.YtaihdjknneiciaaGreatG0
import Derived.Test.YtaihdjknneiciaaGreatPl
namespace Go.Proofs.YtaihdjknneiciaaGreat
open Go.RowKit
set_option linter.unusedSimpArgs false
set_option maxRecDepth 100000
set_option linter.unusedVariables false
structure Zmv (n : Nat) (i j : Int) (ys xs : List (Zaf)) : Prop where
 len : xs.length = n
 i0 : 0 <= i
 ij : i < j
 jn : j <= (n : Int)
 ny : 1 <= ys.length
 max : (n : Int) + ys.length <= 1000000
instance (n : Nat) (i j : Int) (ys xs : List (Zaf)) : Decidable (Zmv n i j ys xs) :=
 decidable_of_iff (xs.length = n /\ 0 <= i /\ i < j /\ j <= (n : Int) /\ 1 <= ys.length /\ (n : Int) + ys.length <= 1000000) ⟨fun ⟨a, b, c, d, e, f⟩ => ⟨a, b, c, d, e, f⟩, fun h => ⟨h.len, h.i0, h.ij, h.jn, h.ny, h.max⟩⟩
section
variable {α : Type}
def cpL (A : List α) (lo : Nat) (s : List α) : List α := A.take lo ++ s ++ A.drop (lo + s.length)
theorem ZzG (A : List α) (lo : Nat) (s : List α) {k : Nat} (hk : s.length <= k) : A.take lo ++ s.take k ++ A.drop (lo + min s.length k) = cpL A lo s := by
 rw [List.take_of_length_le hk, Nat.min_eq_left hk]
 rfl
theorem ZlS (A : List α) {lo : Nat} (s : List α) (h : lo <= A.length) : lo + s.length <= (cpL A lo s).length /\ A.length <= (cpL A lo s).length := by
 unfold cpL
 simp only [List.length_append, List.length_take, List.length_drop]
 omega
theorem ZkK (A : List α) {lo : Nat} (s : List α) (h : lo <= A.length) (k : Nat) : (cpL A lo s).take (lo + s.length + k) = A.take lo ++ s ++ (A.drop (lo + s.length)).take k := by
 unfold cpL
 have hl : (A.take lo ++ s).length = lo + s.length := by rw [List.length_append, List.length_take]; omega
 rw [<- hl, List.take_length_add_append]
theorem ZBa (A : List α) {lo : Nat} (s : List α) (h : lo <= A.length) {q : Nat} (hq : q <= lo) : (cpL A lo s).take q = A.take q := by
 unfold cpL
 rw [List.append_assoc, List.take_append_of_le_length (by rw [List.length_take]; omega), List.take_take, Nat.min_eq_left hq]
theorem ZCk (A : List α) {lo : Nat} (s : List α) (h : lo <= A.length) {q : Nat} (hq : lo + s.length <= q) : (cpL A lo s).drop q = A.drop q := by
 unfold cpL
 have hl : (A.take lo ++ s).length = lo + s.length := by rw [List.length_append, List.length_take]; omega
 rw [List.drop_append, List.drop_eq_nil_of_le (by omega), List.nil_append, List.drop_drop, hl]
 congr 1
 omega
theorem ZBb (A : List α) {lo : Nat} (s : List α) (h : lo <= A.length) : ((cpL A lo s).drop lo).take s.length = s := by
 unfold cpL
 have hl : (A.take lo).length = lo := by rw [List.length_take]; omega
 rw [List.append_assoc, List.drop_append, List.drop_eq_nil_of_le (by omega), List.nil_append, hl, Nat.sub_self, List.drop_zero, List.take_append_of_le_length (Nat.le_refl _), List.take_length]
end
theorem ZBc {n : Nat} {i j : Int} {ys xs zs : List (Zaf)} (h : Zmv n i j ys xs) :
 ∃ lo n' Z, ZhM (0, n, n + zs.length) i j ys (xs ++ zs) = some ((lo, n'), ((), Z, ())) /\ lo = 0 /\ n' = i.toNat + ys.length + (n - j.toNat) /\ n' <= Z.length /\ Z.take n' = xs.take i.toNat ++ ys ++ xs.drop j.toNat := by
 obtain ⟨h1, h2, h3, h4, h5, h6⟩ := h
 obtain ⟨I, rfl⟩ : ∃ I : Nat, i = (I : Int) := ⟨i.toNat, by omega⟩
 obtain ⟨J, rfl⟩ : ∃ J : Nat, j = (J : Int) := ⟨j.toNat, by omega⟩
 have hI : I < J := by omega
 have hJ : J <= n := by omega
 have hL : (xs ++ zs).length = n + zs.length := by rw [List.length_append, h1]
 have tI : (xs ++ zs).take I = xs.take I := List.take_append_of_le_length (by omega)
 have dJ : ((xs ++ zs).drop J).take (n - J) = xs.drop J := by rw [List.drop_append_of_le_length (by omega), List.take_append_of_le_length (by rw [List.length_drop]; omega), List.take_of_length_le (by rw [List.length_drop]; omega)]
 have xl : (xs.take I).length = I := by rw [List.length_take]; omega
 have xd : (xs.drop J).length = n - J := by rw [List.length_drop, h1]
 rw [Int.toNat_natCast, Int.toNat_natCast]
 have hnc : n <= n + zs.length := by omega
 generalize xs ++ zs = L at *
 generalize n + zs.length = c at *
 have w1 : IntKind.i64.wrap ((I : Int) + (ys.length : Int)) = ((I + ys.length : Nat) : Int) := by rw [w64 (by omega)]; omega
 have w2 : IntKind.i64.wrap (((I + ys.length : Nat) : Int) + ((n - J : Nat) : Int)) = ((I + ys.length + (n - J) : Nat) : Int) := by rw [w64 (by omega)]; omega
 have w3 : IntKind.i64.wrap (((I + ys.length + (n - J) : Nat) : Int) - (I : Int)) = ((ys.length + (n - J) : Nat) : Int) := by rw [w64 (by omega)]; omega
 unfold ZhM
 simp only [Int.toNat_natCast, Int.toNat_zero, Nat.sub_zero, Nat.zero_add, Nat.add_zero, List.drop_zero, w1, w2, w3]
 rw [if_pos (by omega), decide_eq_false (by omega : ¬ (I : Int) = (J : Int)), cond_false]
 by_cases hj : J = n
 ·subst hj
  have hd : xs.drop J = [] := List.drop_eq_nil_of_le (by omega)
  rw [hd, List.append_nil, Nat.sub_self]
  simp only [decide_true, cond_true]
  rw [if_pos (by omega), if_pos (by omega)]
  by_cases hf : I + ys.length <= c
  ·rw [if_pos hf]
   have hcp : L.take I ++ ys ++ L.drop (I + ys.length) = cpL L I ys := rfl
   have hl := ZlS L (lo := I) ys (by omega)
   have ht := ZkK L (lo := I) ys (by omega) 0
   rw [List.take_zero, List.append_nil, Nat.add_zero, tI] at ht
   simp only [hcp]
   by_cases hlt : I + ys.length < J
   ·have e1 : (decide (((I + ys.length : Nat) : Int) < ((J : Nat) : Int))) = true := by simp only [decide_eq_true_eq]; omega
    rw [e1, cond_true, if_pos (by omega), if_pos (by omega)]
    refine ⟨_, _, _, rfl, rfl, rfl, ?_, ?_⟩
    ·simp only [List.length_append, List.length_take, List.length_drop, List.length_replicate]; omega
    ·rw [List.append_assoc, List.take_append_of_le_length (by rw [List.length_take]; omega), List.take_take, Nat.min_self, ht]
   ·have e1 : (decide (((I + ys.length : Nat) : Int) < ((J : Nat) : Int))) = false := by simp only [decide_eq_false_iff_not]; omega
    rw [e1, cond_false]
    refine ⟨_, _, _, rfl, rfl, rfl, by omega, ?_⟩
    exact ht
  ·rw [if_neg hf]
   have e1 : (decide (((I + ys.length : Nat) : Int) < ((J : Nat) : Int))) = false := by simp only [decide_eq_false_iff_not]; omega
   rw [e1, cond_false]
   refine ⟨_, _, _, rfl, rfl, rfl, ?_, ?_⟩
   ·rw [List.length_append, tI, xl]; omega
   ·rw [tI]
    exact List.take_of_length_le (by rw [List.length_append, xl]; omega)
 ·rw [decide_eq_false (by omega : ¬ (J : Int) = (n : Int)), cond_false]
  rw [if_pos (by omega), if_pos (by omega)]
  simp only [dJ]
  by_cases hc : c < I + ys.length + (n - J)
  ·rw [decide_eq_true (by omega : (c : Int) < _), cond_true]
   have ht1 := ZzG (L.take I) I ys (k := I + (ys.length + (n - J)) - I) (by omega)
   have hl1 := ZlS (L.take I) (lo := I) ys (by rw [tI, xl]; exact Nat.le_refl _)
   have ht2 := ZzG (cpL (L.take I) I ys) (I + ys.length) (xs.drop J) (k := I + (ys.length + (n - J)) - (I + ys.length)) (by rw [xd]; omega)
   have hl2 := ZlS (cpL (L.take I) I ys) (lo := I + ys.length) (xs.drop J) hl1.1
   simp only [ht1, ht2]
   rw [if_pos (by omega), if_pos (by omega), if_pos (by omega), if_pos (by rw [tI, xl]; exact Nat.le_refl _), if_pos (by omega), if_pos (by omega), if_pos (by omega), if_pos hl1.1]
   refine ⟨_, _, _, rfl, rfl, by omega, by rw [xd] at hl2; omega, ?_⟩
   have k1 := ZkK (cpL (L.take I) I ys) (lo := I + ys.length) (xs.drop J) hl1.1 0
   have k2 := ZkK (L.take I) (lo := I) ys (by rw [tI, xl]; exact Nat.le_refl _) 0
   rw [List.take_zero, List.append_nil, Nat.add_zero] at k1 k2
   rw [List.take_take, Nat.min_self] at k2
   rw [k2, xd] at k1
   rw [<- tI, <- k1]
   congr 1
   omega
  ·rw [decide_eq_false (by omega : ¬ (c : Int) < _), cond_false]
   rw [if_pos (by omega)]
   by_cases hm : I + ys.length <= J
   ·rw [decide_eq_true (by omega : ((I + ys.length : Nat) : Int) <= (J : Int)), cond_true]
    have ht1 := ZzG L I ys (k := I + ys.length + (n - J) - I) (by omega)
    have hl1 := ZlS L (lo := I) ys (by omega)
    have hdd : ((cpL L I ys).drop J).take (n - J) = xs.drop J := by rw [ZCk L ys (by omega) hm, dJ]
    have ht2 := ZzG (cpL L I ys) (I + ys.length) (xs.drop J) (k := I + ys.length + (n - J) - (I + ys.length)) (by rw [xd]; omega)
    have hl2 := ZlS (cpL L I ys) (lo := I + ys.length) (xs.drop J) hl1.1
    simp only [ht1, hdd, ht2]
    rw [if_pos (by omega), if_pos (by omega), if_pos (by omega), if_pos (by omega), if_pos (by omega), if_pos (by omega), if_pos (by omega), if_pos (by omega)]
    refine ⟨_, _, _, rfl, rfl, rfl, ?_, ?_⟩
    ·rw [xd] at hl2
     simp only [List.length_append, List.length_take, List.length_drop, List.length_replicate]; omega
    ·have k1 := ZkK (cpL L I ys) (lo := I + ys.length) (xs.drop J) hl1.1 0
     have k2 := ZkK L (lo := I) ys (by omega) 0
     rw [List.take_zero, List.append_nil, Nat.add_zero] at k1 k2
     rw [k2, xd, tI] at k1
     rw [xd] at hl2
     rw [List.append_assoc, List.take_append_of_le_length (by rw [List.length_take]; omega), List.take_take, Nat.min_self, k1]
   ·rw [decide_eq_false (by omega : ¬ ((I + ys.length : Nat) : Int) <= (J : Int)), cond_false]
    rw [if_pos (by omega)]
    have hov : ∀ q r, q ≠ 0 -> Zd2 (I + ys.length, q, r) ys L = some (false, (L, ())) := fun q r hq => by
     unfold Zd2
     exact if_pos ⟨hq, by omega⟩
    rw [hov _ _ (by omega), Option.bind_some]
    simp only [Bool.not_false, cond_true, dJ]
    have ht1 := ZzG L (I + ys.length) (xs.drop J) (k := I + ys.length + (n - J) - (I + ys.length)) (by rw [xd]; omega)
    have hl1 := ZlS L (lo := I + ys.length) (xs.drop J) (by omega)
    have ht2 := ZzG (cpL L (I + ys.length) (xs.drop J)) I ys (k := I + ys.length + (n - J) - I) (by omega)
    have hl2 := ZlS (cpL L (I + ys.length) (xs.drop J)) (lo := I) ys (by omega)
    simp only [ht1, ht2]
    rw [if_pos (by omega), if_pos (by omega), if_pos (by omega), if_pos (by omega), if_pos (by omega), if_pos (by omega)]
    refine ⟨_, _, _, rfl, rfl, rfl, by rw [xd] at hl1; omega, ?_⟩
    have k1 := ZkK (cpL L (I + ys.length) (xs.drop J)) (lo := I) ys (by omega) (n - J)
    have k2 := ZBb L (lo := I + ys.length) (xs.drop J) (by omega)
    rw [xd] at k2
    rw [k1, k2, ZBa L _ (by omega) (by omega), tI]
theorem ZzH {n : Nat} {i j : Int} {ys xs : List (Zaf)} (h : Zmv n i j ys xs) : Tr CT Tryz.prog (fun _ => True) 231 [.as 6 0 0 n none, .int .i64 i, .int .i64 j, .sl 5 ys none] [.arr 99 6 true xs] (.sl 5 (xs.take i.toNat ++ ys ++ xs.drop j.toNat) (some 1)) [.dead, .row 99 4] := by
 intro ρ σ vs hs H
 obtain ⟨a, bs, rfl, h1, h2⟩ := hs.to
 have hn : n ≠ 0 := by have := h.i0; have := h.ij; have := h.jn; omega
 rcases Zbv.1 h1 with ⟨ad, c, rfl, hA⟩ | ⟨rfl, hn0, _⟩
 ·obtain ⟨b, q1, q2⟩ := hA.at_
  obtain ⟨pre, rest, hb2, hb3, hb4, hb5, hb6, hb7⟩ := H.arrAt (i := 0) rfl q1
  obtain ⟨zs, hzs⟩ := hb7 rfl
  have hpl := (hb4 0 ρ).len
  have hrl := (hzs 0 ρ).len
  rw [ZbE] at hpl hrl
  have hsz : CT.sz 6 = 4 := rfl
  rw [hsz] at hpl hrl hb5
  have hxn : xs.length = n := h.len
  have hK : c = n + zs.length := by
   rw [List.length_append, hpl, hrl] at hb5
   omega
  have hH2 : Hp CT ρ [.arr 99 5 false (xs ++ zs)] σ := ⟨fun i x hx => (by
   match i, hx with
   | 0, hx =>
    injection hx with hx
    subst hx
    refine .inl ⟨b, 0 + c, pre ++ rest, [], q1, by rw [List.append_nil]; exact hb2, hb3, fun N ρ => ?_, by rw [List.append_nil]; exact hb5, hb6, fun _ => ⟨[], fun _ _ => .none⟩⟩
    rw [List.flatMap_append]
    exact (hb4 N ρ).app (hzs N ρ)), fun i j x y b hx hy _ _ _ _ => (by
   match i, j, hx, hy with
   | 0, 0, _, _ => rfl)⟩
  obtain ⟨lo, n', Z, e1, e2, e3, e4, e5⟩ := ZBc (zs := zs) h
  subst e2
  have hce : Tr CT Tryz.prog (fun _ => True) 231 [.as 5 0 0 n (some (n + zs.length)), .int .i64 i, .int .i64 j, .sl 5 ys none] [.arr 99 5 false (xs ++ zs)] (.as 5 1 0 n' none) [.dead, .arr 99 5 false Z] := ZnW.ok ((0, n, n + zs.length), i, j, ys, ()) (xs ++ zs, ()) _ e1
  have hfr := Tr.freeze (T := Ty) (C := CT) (E := 5) (n := n') (co := none) (xs := Z) (by have := h.ny; omega) e4 hce
  rw [e5] at hfr
  refine (hfr ρ σ _ (.cons (Zbv.2 (.inl ⟨ad, c, rfl, hA.lt, hA.le, hA.max, hA.len, ⟨b, q1, q2⟩, fun c' hc => by injection hc with hc; omega⟩)) h2) hH2).mono ?_
  rintro rv τ ⟨ρ', g1, g2, g3⟩
  have hmp : ∀ (i : Nat) (x : HI Ty), ([HI.arr 99 5 false (xs ++ zs)] : List (HI Ty))[i]? = some x -> ∃ x' : HI Ty, ([HI.arr 99 6 true xs] : List (HI Ty))[i]? = some x' /\ x'.alive = true := fun i x hx => (by
   match i, hx with
   | 0, _ => exact ⟨_, rfl, rfl⟩)
  refine ⟨ρ', g1, g2, ⟨g3.len, g3.ext, g3.but.more fun b ⟨i, x, hu, hx, ax, bx⟩ => ?_, fun b hb => ?_⟩⟩
  ·obtain ⟨x', q1, q2⟩ := hmp i x hx
   exact ⟨i, x', hu, q1, q2, bx⟩
  ·rcases g3.born b hb with ⟨i, x, hx, ax, bx⟩ | h
   ·obtain ⟨x', q1, q2⟩ := hmp i x hx
    exact .inl ⟨i, x', q1, q2, bx⟩
   ·exact .inr h
 ·exact absurd hn0 hn
end Go.Proofs.YtaihdjknneiciaaGreat
