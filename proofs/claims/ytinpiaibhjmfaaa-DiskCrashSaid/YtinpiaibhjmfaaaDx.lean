/- The disk's laws, plainly: what is called. -/
import Derived.Test.YtinpiaibhjmfaaaG0
import Derived.Test.YtinpiaibhjmfaaaPl
namespace Go.Proofs.Ytinpiaibhjmfaaa
open Go.RowKit
set_option maxRecDepth 100000
set_option linter.unusedVariables false
set_option linter.unusedSimpArgs false
theorem ZsM {α : Type} (rows : List (List α)) (i : Nat) : (rows.take i).flatten.length <= rows.flatten.length := by
 conv => rhs; rw [<- List.take_append_drop i rows, List.flatten_append, List.length_append]
 omega
theorem Ziv {α : Type} (rows : List (List α)) (i : Nat) (h : i < rows.length) : (rows.take (i + 1)).flatten = (rows.take i).flatten ++ rows[i] := by
 rw [List.take_succ_eq_append_getElem h, List.flatten_append, List.flatten_singleton]
theorem Zre (rows : List (List UInt8)) (hr : rows.length <= 1000000) (hf : rows.flatten.length <= 100000000) : ZeE rows = some (rows.flatten.length, (rows.flatten, ())) := by
 have hle := fun i => ZsM rows i
 have hsn : ∀ i (h : i < rows.length), (rows.take i).flatten.length + rows[i].length <= 100000000 := fun i h => by
  have := hle (i + 1)
  rw [Ziv rows i h, List.length_append] at this
  omega
 have l1 : Zco Zby ((rows, 0, rows, (rows.length : Int), 0, ()), ()) = some ((rows, (rows.flatten.length : Int), ()), ()) := by
  have := Zle (step := Zby) (fun i : Nat => ((rows, (((rows.take i).flatten.length : Nat) : Int), rows, (rows.length : Int), (i : Int), ()), ())) (N := rows.length) (b := ((rows, (rows.flatten.length : Int), ()), ())) (fun i hi => ?_) ?_
  ·simpa using this
  ·unfold Zby
   have h1 := hsn i hi
   refine ZeG (dT (by dsimp only; omega)) (Zc3 (ZbU hi) (Zff (dF ?_) ?_))
   ·dsimp only; rw [w64 (by omega)]; omega
   ·dsimp only
    rw [w64 (by omega), w64 (by omega), Ziv rows i hi, List.length_append]
    rfl
  ·unfold Zby
   refine Zff (dF (by dsimp only; omega)) ?_
   dsimp only
   rw [List.take_length]
 have l2 : Zco Zbz ((0, rows, (rows.length : Int), 0, ()), ([], ())) = some ((rows.flatten.length, ()), ((), rows.flatten, ())) := by
  have := Zle (step := Zbz) (fun i : Nat => (((rows.take i).flatten.length, rows, (rows.length : Int), (i : Int), ()), ((rows.take i).flatten, ()))) (N := rows.length) (b := ((rows.flatten.length, ()), ((), rows.flatten, ()))) (fun i hi => ?_) ?_
  ·simpa using this
  ·unfold Zbz
   have h1 := hsn i hi
   refine ZeG (dT (by dsimp only; omega)) (Zc3 (ZbU hi) (Zud (by dsimp only; omega) ?_))
   dsimp only
   rw [w64 (by omega), Ziv rows i hi, List.length_append, List.take_length]
   rfl
  ·unfold Zbz
   refine Zff (dF (by dsimp only; omega)) ?_
   dsimp only
   rw [List.take_length]
 unfold ZeE
 refine Zc3 l1 (Zc3 (v := (0, ([], ()))) (by unfold Zj0; exact Zud (by dsimp only; omega) rfl) (Zc3 l2 rfl))
theorem Ziw (a b : List UInt8) (ha : a.length <= 140737488355328) : Zbw a b = some (decide (a = b), ()) := by
 unfold Zbw
 by_cases hl : a.length = b.length
 ·refine Zff (dF (by omega)) ?_
  refine Zc3 (ZpO (step := ZaM) a b (fun i => ((a, b, i, ()), ())) (.inl ((false, ()), ())) (.inr ((), ())) hl ha (fun i hi hj => ⟨fun he => ?_, fun he => ?_⟩) ?_) ?_
  ·unfold ZaM
   refine ZeG (dT (by dsimp only; omega)) (Zc3 (ZbU hi) (Zc3 (ZbU hj) (Zff (dF (by rw [he]; simp)) ?_)))
   dsimp only
   rw [w64 (by omega)]
   rfl
  ·unfold ZaM
   refine ZeG (dT (by dsimp only; omega)) (Zc3 (ZbU hi) (Zc3 (ZbU hj) (ZeG (dT ?_) rfl)))
   intro h
   exact he (UInt8.toNat_inj.1 (by omega))
  ·unfold ZaM
   exact Zff (dF (by dsimp only; omega)) rfl
  ·by_cases he : a = b
   ·rw [if_pos he, decide_eq_true he]
   ·rw [if_neg he, decide_eq_false he]
 ·refine ZeG (dT (by omega)) ?_
  rw [decide_eq_false (fun e => hl (by rw [e]))]
theorem Zrf (a b : List UInt8) (ha : a.length <= 140737488355328) (h : a = b.take a.length) : Zcc a b = some (true, ()) := by
 have hl : a.length <= b.length := by
  have := congrArg List.length h
  rw [List.length_take] at this
  omega
 unfold Zcc
 refine ZeG (dT (by omega)) (Zud ⟨by omega, by omega, by omega⟩ ?_)
 have e : ((b.drop ((0 : Int) : Int).toNat).take (((a.length : Int) : Int).toNat - ((0 : Int) : Int).toNat)) = a := by
  simpa using h.symm
 dsimp only
 rw [e]
 exact Zc3 (Ziw a a ha) (by rw [decide_eq_true rfl])
theorem ZsN (k : List UInt8) : Zg9 k = some (decide (k ≠ [] /\ k.length <= 40), ()) := by
 unfold Zg9
 by_cases hk : k = []
 ·refine Zff (dF (by simp [hk])) ?_
  rw [decide_eq_false (fun h => h.1 hk)]
 ·refine ZeG (dT hk) ?_
  congr 2
  refine decide_eq_decide.2 ⟨fun h => ⟨hk, by omega⟩, fun h => by omega⟩
def ZpT {α : Type} (l : List (List α)) : Nat := (l.map (·.length)).sum
theorem ZpU {α : Type} (l : List (List α)) (x : List α) : ZpT (l ++ [x]) = ZpT l + x.length := by simp [ZpT]
theorem ZpV {α : Type} (l : List (List α)) : ZpT l = l.flatten.length := by
 unfold ZpT
 rw [List.length_flatten]
theorem Znn {α β γ : Type} {step : α -> Option (α ⊕ β)} (xs : List (List γ)) (st : Int -> Int -> α) (out : Int -> β) (hx : ∀ x ∈ xs, x.length <= 140737488355328) (hxl : xs.length <= 140737488355328)
 (h1 : ∀ (n : Int) (k : Nat) (hk : k < xs.length), 0 <= n -> n <= 20000 -> step (st n k) = some (.inl (st (n + xs[k].length) ((k + 1 : Nat) : Int)))) (h2 : ∀ (n : Int) (k : Nat), k < xs.length -> 20000 < n -> step (st n k) = some (.inr (out n))) (h3 : ∀ n : Int, step (st n xs.length) = some (.inr (out n)))
 (n0 : Int) (hn0 : 0 <= n0 /\ n0 <= 1000000000000000) : ∃ n' : Int, Zco step (st n0 0) = some (out n') /\ n0 <= n' /\ n' <= 1000000000000000 /\ (n' <= 20000 -> n' = n0 + ZpT xs) := by
 have key : ∃ z, Zco step (st n0 0) = some z /\ ∃ n' : Int, z = out n' /\ n0 <= n' /\ n' <= 1000000000000000 /\ (n' <= 20000 -> n' = n0 + ZpT xs) := by
  refine Zha (fun r a => ∃ (i : Nat) (n : Int), a = st n i /\ i <= xs.length /\ n0 <= n /\ n <= 1000000000000000 /\ (n <= 20000 -> n = n0 + ZpT (xs.take i)) /\ r = xs.length - i) _ ?_ (n := xs.length) ⟨0, n0, rfl, Nat.zero_le _, Int.le_refl _, hn0.2, fun _ => by simp [ZpT], rfl⟩
  rintro r a ⟨i, n, rfl, g1, g2, g3, g4, rfl⟩
  by_cases hi : i < xs.length
  ·have hxi := hx _ (List.getElem_mem hi)
   by_cases hn : n <= 20000
   ·left
    refine ⟨xs.length - (i + 1), _, by omega, h1 n i hi (by omega) hn, i + 1, _, rfl, hi, by omega, by omega, fun h => ?_, rfl⟩
    rw [List.take_succ_eq_append_getElem hi, ZpU, g4 hn]
    omega
   ·right
    exact ⟨_, h2 n i hi (by omega), n, rfl, g2, g3, fun h => absurd h hn⟩
  ·right
   obtain rfl : i = xs.length := by omega
   refine ⟨_, h3 n, n, rfl, g2, g3, fun h => ?_⟩
   rw [g4 h, List.take_length]
 obtain ⟨z, hz, n', rfl, hn⟩ := key
 exact ⟨n', hz, hn⟩
def Zmf (x : Zc1) : Nat := x.name.length + x.names.length + x.parts.length + ZpT x.parts + ZpT x.names
def Zfg (l : List Zc1) : Nat := (l.map Zmf).sum
theorem ZsO {l : List Zc1} (h : ∀ x ∈ l, Zfv x) (hlen : l.length <= 140737488355328) : ∃ r, Zcl l = some (r, ()) /\ (r = true -> l.length <= 300 /\ Zfg l <= 20000) := by
 unfold Zcl
 by_cases hl : 300 < l.length
 ·exact ⟨false, ZeG (dT (by omega)) rfl, fun h => by cases h⟩
 have key : ∃ z, Zco Zbj ((l, 0, 0, ()), ()) = some z /\ ∃ n : Int, z = ((n, ()), ()) /\ (n <= 20000 -> Zfg l <= 20000) := by
  refine Zha (fun r a => ∃ (i : Nat) (n : Int), a = ((l, n, (i : Int), ()), ()) /\ i <= l.length /\ 0 <= n /\ n <= 1000000000000000 /\ (n <= 20000 -> n = Zfg (l.take i)) /\ r = l.length - i) _ ?_ (n := l.length) ⟨0, 0, rfl, Nat.zero_le _, Int.le_refl _, by omega, fun _ => by simp [Zfg], rfl⟩
  rintro r a ⟨i, n, rfl, g1, g2, g3, g4, rfl⟩
  unfold Zbj
  by_cases hi : i < l.length
  ·by_cases hn : n <= 20000
   ·left
    have hok := h _ (List.getElem_mem hi)
    obtain ⟨_, k1, k2, _, k3, _⟩ := hok
    have a1 : l[i].name.length <= 140737488355328 := k1
    have a2 := k2.len
    have a3 := k3.len
    have b2 : ∀ x ∈ l[i].names, x.length <= 140737488355328 := fun x hx => (k2.all x hx : x.length <= 140737488355328)
    have b3 : ∀ x ∈ l[i].parts, x.length <= 140737488355328 := fun x hx => (k3.all x hx).len
    obtain ⟨n1, q1, q2, q3, q4⟩ := Znn (step := ZaT) l[i].parts (fun n k => ((l, n, (i : Int), k, ()), ())) (fun n => ((l, n, (i : Int), ()), ())) b3 a3 (fun n k hk h0 hn => by
     unfold ZaT
     have := b3 _ (List.getElem_mem hk)
     refine Zc3 (ZbU hi) (ZeG (dT (by dsimp only; omega)) (ZeG (dT (by dsimp only; omega)) (Zc3 (ZbU hi) (Zc3 (ZbU hk) ?_))))
     dsimp only
     rw [w64 (by omega), w64 (by omega)]
     rfl) (fun n k hk hn => by
     unfold ZaT
     exact Zc3 (ZbU hi) (ZeG (dT (by dsimp only; omega)) (Zff (dF (by dsimp only; omega)) rfl))) (fun n => by
     unfold ZaT
     exact Zc3 (ZbU hi) (Zff (dF (by dsimp only; omega)) rfl)) (n + (l[i].name.length : Int) + (l[i].names.length : Int) + (l[i].parts.length : Int)) ⟨by omega, by omega⟩
    obtain ⟨n2, r1, r2, r3, r4⟩ := Znn (step := ZaU) l[i].names (fun n k => ((l, n, (i : Int), k, ()), ())) (fun n => ((l, n, (i : Int), ()), ())) b2 a2 (fun n k hk h0 hn => by
     unfold ZaU
     have := b2 _ (List.getElem_mem hk)
     refine Zc3 (ZbU hi) (ZeG (dT (by dsimp only; omega)) (ZeG (dT (by dsimp only; omega)) (Zc3 (ZbU hi) (Zc3 (ZbU hk) ?_))))
     dsimp only
     rw [w64 (by omega), w64 (by omega)]
     rfl) (fun n k hk hn => by
     unfold ZaU
     exact Zc3 (ZbU hi) (ZeG (dT (by dsimp only; omega)) (Zff (dF (by dsimp only; omega)) rfl))) (fun n => by
     unfold ZaU
     exact Zc3 (ZbU hi) (Zff (dF (by dsimp only; omega)) rfl)) n1 ⟨by omega, q3⟩
    refine ⟨l.length - (i + 1), ((l, n2, ((i + 1 : Nat) : Int), ()), ()), by omega, ZeG (dT (by dsimp only; omega)) (ZeG (dT (by dsimp only; omega)) (Zc3 (ZbU hi) (Zc3 (ZbU hi) (Zc3 (ZbU hi) ?_)))), i + 1, n2, rfl, hi, by omega, r3, fun h2 => ?_, rfl⟩
    ·dsimp only
     rw [w64 (n := n + (l[i].name.length : Int)) (by omega), w64 (n := n + (l[i].name.length : Int) + (l[i].names.length : Int)) (by omega), w64 (n := n + (l[i].name.length : Int) + (l[i].names.length : Int) + (l[i].parts.length : Int)) (by omega)]
     refine Zc3 q1 (Zc3 r1 ?_)
     dsimp only
     rw [w64 (by omega)]
     rfl
    ·have e1 := r4 h2
     have e2 := q4 (by omega)
     have e3 := g4 hn
     rw [List.take_succ_eq_append_getElem hi]
     simp only [Zfg, List.map_append, List.map_cons, List.map_nil, List.sum_append, List.sum_cons, List.sum_nil, Zmf] at e3 ⊢
     omega
   ·right
    exact ⟨_, ZeG (dT (by dsimp only; omega)) (Zff (dF (by dsimp only; omega)) rfl), n, rfl, fun h => absurd h hn⟩
  ·right
   obtain rfl : i = l.length := by omega
   refine ⟨_, Zff (dF (by dsimp only; omega)) rfl, n, rfl, fun h => ?_⟩
   have := g4 h
   rw [List.take_length] at this
   omega
 obtain ⟨z, hz, n, rfl, hn⟩ := key
 refine ⟨decide (n <= 20000), Zff (dF (by omega)) (Zc3 hz rfl), fun h => ⟨by omega, hn (of_decide_eq_true h)⟩⟩
end Go.Proofs.Ytinpiaibhjmfaaa
