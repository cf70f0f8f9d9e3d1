/- slices.Insert and slices.Delete, of an array of ours: their contracts. -/
import Derived.Test.YtlmmpfbdgiokmaaGreatG0
import Derived.Test.YtlmmpfbdgiokmaaGreatPl
namespace Go.Proofs.YtlmmpfbdgiokmaaGreat
open Go.RowKit
set_option linter.unusedSimpArgs false
set_option maxRecDepth 100000
set_option linter.unusedVariables false
structure ZlC (n : Nat) (i : Int) (lo m c : Nat) (xs ys : List (Zae)) : Prop where
 len : xs.length = n
 i0 : 0 <= i
 i1 : i <= (n : Int)
 l0 : lo = 0
 ly : ys.length = m
 m1 : 1 <= m
 max : n + m <= 1000000
instance (n : Nat) (i : Int) (lo m c : Nat) (xs ys : List (Zae)) : Decidable (ZlC n i lo m c xs ys) :=
 decidable_of_iff (xs.length = n /\ 0 <= i /\ i <= (n : Int) /\ lo = 0 /\ ys.length = m /\ 1 <= m /\ n + m <= 1000000) ⟨fun ⟨a, b, c, d, e, f, g⟩ => ⟨a, b, c, d, e, f, g⟩, fun h => ⟨h.len, h.i0, h.i1, h.l0, h.ly, h.m1, h.max⟩⟩
structure ZlD (n : Nat) (i j : Int) (xs : List (Zae)) : Prop where
 len : xs.length = n
 i0 : 0 <= i
 ij : i <= j
 jn : j <= (n : Int)
 max : n <= 1000000
instance (n : Nat) (i j : Int) (xs : List (Zae)) : Decidable (ZlD n i j xs) :=
 decidable_of_iff (xs.length = n /\ 0 <= i /\ i <= j /\ j <= (n : Int) /\ n <= 1000000) ⟨fun ⟨a, b, c, d, e⟩ => ⟨a, b, c, d, e⟩, fun h => ⟨h.len, h.i0, h.ij, h.jn, h.max⟩⟩
section
variable {α : Type}
def cpI (A : List α) (lo : Nat) (s : List α) : List α := A.take lo ++ s ++ A.drop (lo + s.length)
theorem ZAf (A : List α) (lo : Nat) (s : List α) {k : Nat} (hk : s.length <= k) : A.take lo ++ s.take k ++ A.drop (lo + min s.length k) = cpI A lo s := by
 rw [List.take_of_length_le hk, Nat.min_eq_left hk]
 rfl
theorem Zom (A : List α) {lo : Nat} (s : List α) (h : lo <= A.length) : lo + s.length <= (cpI A lo s).length /\ A.length <= (cpI A lo s).length := by
 unfold cpI
 simp only [List.length_append, List.length_take, List.length_drop]
 omega
theorem Znu (A : List α) {lo : Nat} (s : List α) (h : lo <= A.length) (k : Nat) : (cpI A lo s).take (lo + s.length + k) = A.take lo ++ s ++ (A.drop (lo + s.length)).take k := by
 unfold cpI
 have hl : (A.take lo ++ s).length = lo + s.length := by rw [List.length_append, List.length_take]; omega
 rw [<- hl, List.take_length_add_append]
theorem Zxk (A : List α) {lo : Nat} (s : List α) (h : lo <= A.length) {q : Nat} (hq : q <= lo) : (cpI A lo s).take q = A.take q := by
 unfold cpI
 rw [List.append_assoc, List.take_append_of_le_length (by rw [List.length_take]; omega), List.take_take, Nat.min_eq_left hq]
theorem Zxl (A : List α) {lo : Nat} (s : List α) (h : lo <= A.length) : ((cpI A lo s).drop lo).take s.length = s := by
 unfold cpI
 have hl : (A.take lo).length = lo := by rw [List.length_take]; omega
 rw [List.append_assoc, List.drop_append, List.drop_eq_nil_of_le (by omega), List.nil_append, hl, Nat.sub_self, List.drop_zero, List.take_append_of_le_length (Nat.le_refl _), List.take_length]
end
theorem ZyT {n : Nat} {i : Int} {lo m c : Nat} {ys xs zs : List (Zae)} (h : ZlC n i lo m c xs ys) :
 ∃ lo' n' Z, ZiM (0, n, n + zs.length) i (0, m, c) (xs ++ zs) ys = some ((lo', n'), ((), (), Z, ())) /\ lo' = 0 /\ n' = n + m /\ n' <= Z.length /\ Z.take n' = xs.take i.toNat ++ ys ++ xs.drop i.toNat := by
 obtain ⟨h1, h2, h3, h4, h5, h6, h7⟩ := h
 obtain ⟨I, rfl⟩ : ∃ I : Nat, i = (I : Int) := ⟨i.toNat, by omega⟩
 have hI : I <= n := by omega
 have hL : (xs ++ zs).length = n + zs.length := by rw [List.length_append, h1]
 have tI : (xs ++ zs).take I = xs.take I := List.take_append_of_le_length (by omega)
 have tN : (xs ++ zs).take n = xs := by rw [<- h1, List.take_left]
 have dI : ((xs ++ zs).drop I).take (n - I) = xs.drop I := by rw [List.drop_append_of_le_length (by omega), List.take_append_of_le_length (by rw [List.length_drop]; omega), List.take_of_length_le (by rw [List.length_drop]; omega)]
 have dI2 : ((xs ++ zs).drop I).take (n + m - I) = xs.drop I ++ zs.take m := by
  rw [List.drop_append_of_le_length (by omega), List.take_append, List.take_of_length_le (by rw [List.length_drop]; omega), List.length_drop]
  congr 2
  omega
 have xl : (xs.take I).length = I := by rw [List.length_take]; omega
 have xd : (xs.drop I).length = n - I := by rw [List.length_drop, h1]
 have yt : ys.take m = ys := List.take_of_length_le (by omega)
 rw [Int.toNat_natCast]
 have w1 : IntKind.i64.wrap ((n : Int) + (m : Int)) = ((n + m : Nat) : Int) := by rw [w64 (by omega)]; omega
 have w2 : IntKind.i64.wrap (((n + m : Nat) : Int) - (I : Int)) = ((n + m - I : Nat) : Int) := by rw [w64 (by omega)]; omega
 have w3 : IntKind.i64.wrap ((I : Int) + (m : Int)) = ((I + m : Nat) : Int) := by rw [w64 (by omega)]; omega
 have e3 : I + (n + m - I) = n + m := by omega
 unfold ZiM
 simp only [Int.toNat_natCast, Int.toNat_zero, Nat.sub_zero, Nat.zero_add, Nat.add_zero, List.drop_zero, w1, w2, w3, yt, h5, e3]
 rw [if_pos (by omega), decide_eq_false (by omega : ¬ (m : Int) = 0), cond_false]
 by_cases hn : I = n
 ·subst hn
  have hd : xs.drop I = [] := List.drop_eq_nil_of_le (by omega)
  have ht : xs.take I = xs := List.take_of_length_le (by omega)
  simp only [decide_true, cond_true]
  rw [if_pos (Nat.le_refl _), if_pos (by rw [hL]; omega), hd, List.append_nil, ht]
  by_cases hf : I + m <= I + zs.length
  ·rw [if_pos hf]
   refine ⟨_, _, _, rfl, rfl, rfl, ?_, ?_⟩
   ·simp only [List.length_append, List.length_take, List.length_drop, h1, h5]; omega
   ·rw [tN, List.take_append_of_le_length (by rw [List.length_append]; omega), List.take_of_length_le (by rw [List.length_append]; omega)]
  ·rw [if_neg hf]
   refine ⟨_, _, _, rfl, rfl, rfl, ?_, ?_⟩
   ·rw [tN, List.length_append]; omega
   ·rw [tN, List.take_of_length_le (by rw [List.length_append]; omega)]
 ·rw [decide_eq_false (by omega : ¬ (I : Int) = (n : Int)), cond_false]
  by_cases hc : n + zs.length < n + m
  ·rw [decide_eq_true (by omega : ((n + zs.length : Nat) : Int) < ((n + m : Nat) : Int)), cond_true]
   have ht1 := ZAf ((xs ++ zs).take I) I ys (k := n + m - I) (by omega)
   have hl1 := Zom ((xs ++ zs).take I) (lo := I) ys (by rw [tI, xl]; exact Nat.le_refl _)
   have yt2 : ys.take (n + m - I) = ys := List.take_of_length_le (by omega)
   have ym : min m (n + m - I) = m := by omega
   rw [yt2, h5, ym] at ht1
   have ht2 := ZAf (cpI ((xs ++ zs).take I) I ys) (I + m) (xs.drop I) (k := n + m - (I + m)) (by rw [xd]; omega)
   have hl2 := Zom (cpI ((xs ++ zs).take I) I ys) (lo := I + m) (xs.drop I) (by rw [<- h5]; exact hl1.1)
   simp only [yt2, ym, ht1, dI, ht2]
   rw [if_pos (by omega), if_pos (by omega), if_pos (by omega), if_pos (Nat.le_refl _), if_pos (by rw [tI, xl]; exact Nat.le_refl _), if_pos (by omega), if_pos (by omega), if_pos (by omega), if_pos (by rw [<- h5]; exact hl1.1)]
   refine ⟨_, _, _, rfl, rfl, by omega, by rw [xd] at hl2; omega, ?_⟩
   have k1 := Znu (cpI ((xs ++ zs).take I) I ys) (lo := I + m) (xs.drop I) (by rw [<- h5]; exact hl1.1) 0
   have k2 := Znu ((xs ++ zs).take I) (lo := I) ys (by rw [tI, xl]; exact Nat.le_refl _) 0
   rw [List.take_zero, List.append_nil, Nat.add_zero] at k1 k2
   rw [List.take_take, Nat.min_self, h5] at k2
   rw [k2, xd] at k1
   rw [<- tI, <- k1]
   congr 1
   omega
  ·rw [decide_eq_false (by omega : ¬ ((n + zs.length : Nat) : Int) < ((n + m : Nat) : Int)), cond_false]
   have hov : ∀ p q r, q ≠ 0 -> Zf1 (0, m, c) (p, q, r) ys (xs ++ zs) = some (false, (ys, xs ++ zs, ())) := fun p q r hq => by
    unfold Zf1
    exact if_pos ⟨by show m ≠ 0; omega, hq⟩
   rw [if_pos (by omega), if_pos (by omega), hov _ _ _ (by omega), Option.bind_some]
   simp only [Bool.not_false, cond_true, dI2]
   have hdl : (xs.drop I ++ zs.take m).take (n + m - (I + m)) = xs.drop I := by rw [List.take_append_of_le_length (by rw [xd]; omega), List.take_of_length_le (by rw [xd]; omega)]
   have hml : min (xs.drop I ++ zs.take m).length (n + m - (I + m)) = (xs.drop I).length := by rw [List.length_append, xd]; omega
   have yt2 : ys.take (n + m - I) = ys := List.take_of_length_le (by omega)
   have ym : min m (n + m - I) = m := by omega
   have ht1 : (xs ++ zs).take (I + m) ++ xs.drop I ++ (xs ++ zs).drop (I + m + (xs.drop I).length) = cpI (xs ++ zs) (I + m) (xs.drop I) := rfl
   have hl1 := Zom (xs ++ zs) (lo := I + m) (xs.drop I) (by omega)
   have ht2 : (cpI (xs ++ zs) (I + m) (xs.drop I)).take I ++ ys ++ (cpI (xs ++ zs) (I + m) (xs.drop I)).drop (I + m) = cpI (cpI (xs ++ zs) (I + m) (xs.drop I)) I ys := by unfold cpI; rw [h5]
   have hl2 := Zom (cpI (xs ++ zs) (I + m) (xs.drop I)) (lo := I) ys (by omega)
   simp only [hdl, hml, yt, h5, yt2, ym, ht1, ht2]
   rw [if_pos (by omega), if_pos (by omega), if_pos (by omega), if_pos (by omega), if_pos (Nat.le_refl _), if_pos (by omega), if_pos (by omega)]
   refine ⟨_, _, _, rfl, rfl, rfl, Nat.le_trans (by rw [xd] at hl1; omega) hl2.2, ?_⟩
   have k1 := Znu (cpI (xs ++ zs) (I + m) (xs.drop I)) (lo := I) ys (by omega) (n - I)
   have k2 := Zxl (xs ++ zs) (lo := I + m) (xs.drop I) (by omega)
   rw [xd] at k2
   rw [h5, k2, Zxk (xs ++ zs) _ (by omega) (by omega), tI] at k1
   rw [<- k1]
   congr 1
   omega
theorem ZyU {n : Nat} {i j : Int} {xs zs : List (Zae)} (h : ZlD n i j xs) :
 ∃ lo' n' Z, ZiN (0, n, n + zs.length) i j (xs ++ zs) = some ((lo', n'), ((), Z, ())) /\ lo' = 0 /\ n' = n - (j.toNat - i.toNat) /\ n' <= Z.length /\ Z.take n' = xs.take i.toNat ++ xs.drop j.toNat := by
 obtain ⟨h1, h2, h3, h4, h5⟩ := h
 obtain ⟨I, rfl⟩ : ∃ I : Nat, i = (I : Int) := ⟨i.toNat, by omega⟩
 obtain ⟨J, rfl⟩ : ∃ J : Nat, j = (J : Int) := ⟨j.toNat, by omega⟩
 have hI : I <= J := by omega
 have hJ : J <= n := by omega
 have hL : (xs ++ zs).length = n + zs.length := by rw [List.length_append, h1]
 have tI : (xs ++ zs).take I = xs.take I := List.take_append_of_le_length (by omega)
 have tN : (xs ++ zs).take n = xs := by rw [<- h1, List.take_left]
 have dJ : ((xs ++ zs).drop J).take (n - J) = xs.drop J := by rw [List.drop_append_of_le_length (by omega), List.take_append_of_le_length (by rw [List.length_drop]; omega), List.take_of_length_le (by rw [List.length_drop]; omega)]
 have xl : (xs.take I).length = I := by rw [List.length_take]; omega
 have xd : (xs.drop J).length = n - J := by rw [List.length_drop, h1]
 unfold ZiN
 simp only [Int.toNat_natCast, Int.toNat_zero, Nat.sub_zero, Nat.zero_add, Nat.add_zero, List.drop_zero]
 rw [if_pos (by omega)]
 by_cases hij : I = J
 ·subst hij
  simp only [decide_true, cond_true]
  exact ⟨_, _, _, rfl, rfl, by omega, by omega, by rw [List.take_append_drop, tN]⟩
 ·rw [decide_eq_false (by omega : ¬ (I : Int) = (J : Int)), cond_false]
  simp only [dJ, xd]
  have hcp : (xs ++ zs).take I ++ xs.drop J ++ (xs ++ zs).drop (I + (n - J)) = cpI (xs ++ zs) I (xs.drop J) := by unfold cpI; rw [xd]
  have hl := Zom (xs ++ zs) (lo := I) (xs.drop J) (by omega)
  rw [xd] at hl
  simp only [hcp]
  rw [if_pos (by omega), if_pos (by omega), if_pos (by omega), if_pos (by omega), if_pos (by omega), if_pos (by omega), if_pos (by omega)]
  refine ⟨_, _, _, rfl, rfl, by omega, ?_, ?_⟩
  ·simp only [List.length_append, List.length_take, List.length_drop, List.length_replicate]; omega
  ·have k1 := Znu (xs ++ zs) (lo := I) (xs.drop J) (by omega) 0
   rw [List.take_zero, List.append_nil, Nat.add_zero, tI, xd] at k1
   rw [List.append_assoc, List.take_append_of_le_length (by rw [List.length_take]; omega), List.take_take, Nat.min_self, k1]
theorem ZrH {ρ : Nat -> AV} {σ : St} {n : Nat} {kp : Bool} {xs : List (Zae)} {hp : List (HI Ty)} {i : Nat} {a : AV} {N : Nat} (H : Hp CT ρ hp σ) (hi : hp[i]? = some (.arr 48 3 kp xs)) (hs : SV CT N ρ (.as 3 i 0 n none) a) (hx : xs.length = n) :
 ∃ zs, SV CT N ρ (.as 3 i 0 n (some (n + zs.length))) a /\ SH CT hp.length ρ σ i (.arr 48 3 false (xs ++ zs)) := by
 rcases Zbz.1 hs with ⟨ad, c, rfl, hA⟩ | ⟨rfl, hn0, hiN, hρ, _⟩
 ·obtain ⟨b, q1, q2⟩ := hA.at_
  obtain ⟨pre, rest, hb2, hb3, hb4, hb5, hb6, hb7⟩ := H.arrAt hi q1
  obtain ⟨zs, hzs⟩ := hb7 rfl
  have hpl := (hb4 0 ρ).len
  have hrl := (hzs 0 ρ).len
  rw [Zc2] at hpl hrl
  have hpos := CT.pos 3
  have hK : c = n + zs.length := by
   have h5 := hb5
   rw [List.length_append, hpl, hrl, <- Nat.add_mul, Nat.zero_add] at h5
   have := Nat.eq_of_mul_eq_mul_right hpos h5
   omega
  refine ⟨zs, Zbz.2 (.inl ⟨ad, c, rfl, hA.lt, hA.le, hA.max, hA.len, ⟨b, q1, q2⟩, fun c' hc => by injection hc with hc; omega⟩), .inl ⟨b, 0 + c, pre ++ rest, [], q1, by rw [List.append_nil]; exact hb2, hb3, fun N ρ => ?_, by rw [List.append_nil]; exact hb5, hb6, fun _ => ⟨[], fun _ _ => .none⟩⟩⟩
  rw [List.flatMap_append]
  exact (hb4 N ρ).app (hzs N ρ)
 ·subst hn0
  have hx0 : xs = [] := List.eq_nil_of_length_eq_zero hx
  subst hx0
  exact ⟨[], Zbz.2 (.inr ⟨rfl, rfl, hiN, hρ, fun c' hc => by injection hc with hc; subst hc; rfl⟩), .inr ⟨hρ, rfl⟩⟩
theorem Zxm {n : Nat} {i : Int} {lo m c : Nat} {ys xs : List (Zae)} (h : ZlC n i lo m c xs ys) : Tr CT Tryz.prog (fun _ => True) 94 [.as 3 0 0 n none, .int .i64 i, .as 3 1 lo m (some c)] [.arr 48 3 true xs, .arr 48 3 true ys] (.as 3 2 0 (n + m) none) [.dead, .dead, .arr 48 3 false (xs.take i.toNat ++ ys ++ xs.drop i.toNat)] := by
 intro ρ σ vs hs H
 obtain rfl := h.l0
 obtain ⟨a, bs, rfl, h1, h2⟩ := hs.to
 obtain ⟨zs, g1, g2⟩ := ZrH (i := 0) H rfl h1 h.len
 have hH2 : Hp CT ρ [.arr 48 3 false (xs ++ zs), .arr 48 3 false ys] σ := ⟨fun i x hx => (by
  match i, hx with
  | 0, hx => injection hx with hx; subst hx; exact g2
  | 1, hx =>
   injection hx with hx
   subst hx
   have := H.it 1 _ rfl
   exact this), fun i j x y b hx hy ax ay bx by_ => (by
  match i, j, hx, hy with
  | 0, 0, _, _ => rfl
  | 1, 1, _, _ => rfl
  | 0, 1, _, _ => exact H.dist 0 1 _ _ b rfl rfl rfl rfl bx by_
  | 1, 0, _, _ => exact H.dist 1 0 _ _ b rfl rfl rfl rfl bx by_)⟩
 obtain ⟨lo', n', Z, e1, e2, e3, e4, e5⟩ := ZyT (zs := zs) h
 subst e2 e3
 have hce : Tr CT Tryz.prog (fun _ => True) 94 [.as 3 0 0 n (some (n + zs.length)), .int .i64 i, .as 3 1 0 m (some c)] [.arr 48 3 false (xs ++ zs), .arr 48 3 false ys] (.as 3 2 0 (n + m) none) [.dead, .dead, .arr 48 3 false Z] := Zm8.ok ((0, n, n + zs.length), i, (0, m, c), ()) (xs ++ zs, ys, ()) _ e1
 refine (hce ρ σ _ (.cons g1 h2) hH2).mono ?_
 rintro rv τ ⟨ρ', q1, q2, q3⟩
 have hmp : ∀ (i : Nat) (x : HI Ty), ([HI.arr 48 3 false (xs ++ zs), HI.arr 48 3 false ys] : List (HI Ty))[i]? = some x -> ∃ x' : HI Ty, ([HI.arr 48 3 true xs, HI.arr 48 3 true ys] : List (HI Ty))[i]? = some x' /\ x'.alive = true := fun i x hx => (by
  match i, hx with
  | 0, _ => exact ⟨_, rfl, rfl⟩
  | 1, _ => exact ⟨_, rfl, rfl⟩)
 have R : Rel (fun _ => True) ρ [.arr 48 3 true xs, .arr 48 3 true ys] σ ρ' [.dead, .dead, .arr 48 3 false Z] τ := ⟨q3.len, q3.ext, q3.but.more fun b ⟨i, x, hu, hx, ax, bx⟩ => (by
  obtain ⟨x', p1, p2⟩ := hmp i x hx
  exact ⟨i, x', hu, p1, p2, bx⟩), fun b hb => (by
  rcases q3.born b hb with ⟨i, x, hx, ax, bx⟩ | h
  ·obtain ⟨x', p1, p2⟩ := hmp i x hx
   exact .inl ⟨i, x', p1, p2, bx⟩
  ·exact .inr h)⟩
 obtain ⟨k1, k2⟩ := q2.cutArr R (i := 2) (e := 48) (E := 3) (kp := false) (xs := Z.take (n + m)) (zs := Z.drop (n + m)) (by rw [List.take_append_drop]; rfl)
 rw [e5] at k1 k2
 exact ⟨ρ', q1, k1, k2⟩
theorem Zxn {n : Nat} {i j : Int} {xs : List (Zae)} (h : ZlD n i j xs) : Tr CT Tryz.prog (fun _ => True) 49 [.as 3 0 0 n none, .int .i64 i, .int .i64 j] [.arr 48 3 true xs] (.as 3 1 0 (n - (j.toNat - i.toNat)) none) [.dead, .arr 48 3 false (xs.take i.toNat ++ xs.drop j.toNat)] := by
 intro ρ σ vs hs H
 obtain ⟨a, bs, rfl, h1, h2⟩ := hs.to
 obtain ⟨zs, g1, g2⟩ := ZrH (i := 0) H rfl h1 h.len
 have hH2 : Hp CT ρ [.arr 48 3 false (xs ++ zs)] σ := ⟨fun i x hx => (by
  match i, hx with
  | 0, hx => injection hx with hx; subst hx; exact g2), fun i j x y b hx hy ax ay bx by_ => (by
  match i, j, hx, hy with
  | 0, 0, _, _ => rfl)⟩
 obtain ⟨lo', n', Z, e1, e2, e3, e4, e5⟩ := ZyU (zs := zs) h
 subst e2 e3
 have hce : Tr CT Tryz.prog (fun _ => True) 49 [.as 3 0 0 n (some (n + zs.length)), .int .i64 i, .int .i64 j] [.arr 48 3 false (xs ++ zs)] (.as 3 1 0 (n - (j.toNat - i.toNat)) none) [.dead, .arr 48 3 false Z] := Znc.ok ((0, n, n + zs.length), i, j, ()) (xs ++ zs, ()) _ e1
 refine (hce ρ σ _ (.cons g1 h2) hH2).mono ?_
 rintro rv τ ⟨ρ', q1, q2, q3⟩
 have hmp : ∀ (i : Nat) (x : HI Ty), ([HI.arr 48 3 false (xs ++ zs)] : List (HI Ty))[i]? = some x -> ∃ x' : HI Ty, ([HI.arr 48 3 true xs] : List (HI Ty))[i]? = some x' /\ x'.alive = true := fun i x hx => (by
  match i, hx with
  | 0, _ => exact ⟨_, rfl, rfl⟩)
 have R : Rel (fun _ => True) ρ [.arr 48 3 true xs] σ ρ' [.dead, .arr 48 3 false Z] τ := ⟨q3.len, q3.ext, q3.but.more fun b ⟨i, x, hu, hx, ax, bx⟩ => (by
  obtain ⟨x', p1, p2⟩ := hmp i x hx
  exact ⟨i, x', hu, p1, p2, bx⟩), fun b hb => (by
  rcases q3.born b hb with ⟨i, x, hx, ax, bx⟩ | h
  ·obtain ⟨x', p1, p2⟩ := hmp i x hx
   exact .inl ⟨i, x', p1, p2, bx⟩
  ·exact .inr h)⟩
 obtain ⟨k1, k2⟩ := q2.cutArr R (i := 1) (e := 48) (E := 3) (kp := false) (xs := Z.take (n - (j.toNat - i.toNat))) (zs := Z.drop (n - (j.toNat - i.toNat))) (by rw [List.take_append_drop]; rfl)
 rw [e5] at k1 k2
 exact ⟨ρ', q1, k1, k2⟩
end Go.Proofs.YtlmmpfbdgiokmaaGreat
