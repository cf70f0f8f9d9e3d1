/- Deeds, tables, plainly (written by plain15r.py). -/
import Derived.Test.YtlmmpfbdgiokmaaGreatRbf
namespace Go.Proofs.YtlmmpfbdgiokmaaGreat
open Go.RowKit
set_option maxRecDepth 100000
set_option linter.unusedVariables false
set_option linter.unusedSimpArgs false
theorem ZxZ {l : List Zae} (hl : l.length <= 140737488355328) (hx : ∀ r ∈ l, OkT r.key /\ OkT r.value) : ∃ n : Int, Zbm l 1200 = some (n, ()) /\ (n <= 1200 -> wgt l <= 1200) /\ 0 <= n /\ n <= 35184372090033 := by
 have key : ∃ z, ZaP Zbi ((l, 1200, 0, 0, ()), ()) = some z /\ ∃ n : Int, z = ((n, ()), ()) /\ (n <= 1200 -> wgt l <= 1200) /\ 0 <= n /\ n <= 35184372090033 := by
  refine ZbL (fun m a => ∃ i : Nat, a = ((l, 1200, ((wgt (l.take i) : Nat) : Int), (i : Int), ()), ()) /\ i <= l.length /\ wgt (l.take i) <= 1200 + 2 * 17592186044416 + 1 /\ m = l.length - i) _ ?_ (n := l.length) ⟨0, by simp [wgt], Nat.zero_le _, by simp [wgt], rfl⟩
  rintro m a ⟨i, rfl, h1, h2, rfl⟩
  unfold Zbi
  by_cases hi : i < l.length
  ·by_cases hn : wgt (l.take i) <= 1200
   ·left
    have h3 := hx _ (List.getElem_mem hi)
    unfold OkT at h3
    have hs := Zq1 (l.take i) l[i]
    rw [<- List.take_succ_eq_append_getElem hi] at hs
    have d1 : IntKind.i64.wrap ((l[i].key.length : Int).tdiv 8) = ((l[i].key.length / 8 : Nat) : Int) := by
     rw [Int.tdiv_eq_ediv_of_nonneg (by omega), w64 (by omega)]; omega
    have d2 : IntKind.i64.wrap ((l[i].value.length : Int).tdiv 8) = ((l[i].value.length / 8 : Nat) : Int) := by
     rw [Int.tdiv_eq_ediv_of_nonneg (by omega), w64 (by omega)]; omega
    refine ⟨l.length - (i + 1), _, by omega, Zak (dT (by dsimp only; omega)) (Zak (dT (by dsimp only; omega)) (Zab (Zay hi) (Zab (Zay hi) rfl))), i + 1, ?_, by omega, by omega, rfl⟩
    dsimp only
    rw [d1, d2, w64 (n := ((wgt (l.take i) : Nat) : Int) + 1) (by omega), w64 (n := ((wgt (l.take i) : Nat) : Int) + 1 + _) (by omega), w64 (n := ((wgt (l.take i) : Nat) : Int) + 1 + _ + _) (by omega), w64 (n := (i : Int) + 1) (by omega), hs]
    congr 3
    have : (((wgt (l.take i) + (1 + l[i].key.length / 8 + l[i].value.length / 8) : Nat)) : Int) = ((wgt (l.take i) : Nat) : Int) + 1 + ((l[i].key.length / 8 : Nat) : Int) + ((l[i].value.length / 8 : Nat) : Int) := by omega
    rw [this]
    rfl
   ·right
    exact ⟨_, Zak (dT (by dsimp only; omega)) (Zaj (dF (by dsimp only; omega)) rfl), _, rfl, by dsimp only; omega, by dsimp only; omega, by dsimp only; omega⟩
  ·right
   obtain rfl : i = l.length := by omega
   refine ⟨_, Zaj (dF (by dsimp only; omega)) rfl, _, rfl, fun h => ?_, by dsimp only; omega, by dsimp only; omega⟩
   dsimp only at h
   rw [List.take_length] at h
   omega
 obtain ⟨z, hz, n, rfl, hn⟩ := key
 exact ⟨n, by unfold Zbm; exact Zab hz rfl, hn⟩
theorem Zx0 {l : List Zcg} (hl : l.length <= 140737488355328) (hx : ∀ d ∈ l, ZsJ d.span /\ d.rows.length <= 140737488355328 /\ ∀ r ∈ d.rows, OkT r.key /\ OkT r.value) : ∃ b, Zcx l = some (b, ()) /\ (b = true -> l.length <= 60 /\ ∀ d ∈ l, wgt d.rows <= 1200) := by
 have key : ∃ z, ZaP ZcF ((l, (l.length : Int), 0, ()), ()) = some z /\ ∃ n : Int, z = ((l, n, ()), ()) /\ (n <= 1200 -> ∀ d ∈ l, wgt d.rows <= 1200) := by
  refine ZbL (fun m a => ∃ (i : Nat) (n : Int), a = ((l, n, (i : Int), ()), ()) /\ i <= l.length /\ 0 <= n /\ n <= 300000000000000 /\ (n <= 1200 -> ∀ d ∈ l.take i, wgt d.rows <= 1200) /\ m = l.length - i) _ ?_ (n := l.length) ⟨0, _, rfl, Nat.zero_le _, by omega, by omega, fun _ d hd => by simp at hd, rfl⟩
  rintro m a ⟨i, n, rfl, h1, h2, h3, h4, rfl⟩
  unfold ZcF
  by_cases hi : i < l.length
  ·by_cases hn : n <= 1200
   ·left
    obtain ⟨⟨q1, q2⟩, q3, q4⟩ := hx _ (List.getElem_mem hi)
    unfold OkT at q1 q2
    obtain ⟨k, k1, k2, k3, k4⟩ := ZxZ q3 q4
    have d1 : IntKind.i64.wrap ((l[i].span.lo.length : Int).tdiv 8) = ((l[i].span.lo.length / 8 : Nat) : Int) := by
     rw [Int.tdiv_eq_ediv_of_nonneg (by omega), w64 (by omega)]; omega
    have d2 : IntKind.i64.wrap ((l[i].span.hi.length : Int).tdiv 8) = ((l[i].span.hi.length / 8 : Nat) : Int) := by
     rw [Int.tdiv_eq_ediv_of_nonneg (by omega), w64 (by omega)]; omega
    refine ⟨l.length - (i + 1), _, by omega, Zak (dT (by dsimp only; omega)) (Zak (dT hn) (Zab (Zay hi) (Zab (Zay hi) (Zab (Zay hi) (Zab k1 rfl))))), i + 1, n + k + ((l[i].span.lo.length / 8 : Nat) : Int) + ((l[i].span.hi.length / 8 : Nat) : Int), ?_, by omega, by omega, by omega, fun h d hd => ?_, rfl⟩
    ·dsimp only
     rw [d1, d2, w64 (n := n + k) (by omega), w64 (n := n + k + _) (by omega), w64 (n := n + k + _ + _) (by omega), w64 (n := (i : Int) + 1) (by omega)]
     rfl
    ·rw [List.take_succ_eq_append_getElem hi] at hd
     rcases List.mem_append.1 hd with hd | hd
     ·exact h4 hn d hd
     ·rw [List.mem_singleton.1 hd]
      exact k2 (by omega)
   ·right
    exact ⟨_, Zak (dT (by dsimp only; omega)) (Zaj (dF hn) rfl), _, rfl, fun h => absurd h hn⟩
  ·right
   obtain rfl : i = l.length := by omega
   rw [List.take_length] at h4
   exact ⟨_, Zaj (dF (by dsimp only; omega)) rfl, _, rfl, h4⟩
 obtain ⟨z, hz, n, rfl, hn⟩ := key
 unfold Zcx
 by_cases h : n <= 1200
 ·refine ⟨decide ((l.length : Int) <= 60), Zab hz (Zak (dT h) rfl), fun hb => ⟨?_, hn h⟩⟩
  have := of_decide_eq_true hb
  omega
 ·exact ⟨false, Zab hz (Zaj (dF h) rfl), fun hb => by cases hb⟩
def Zjn (L : List Zae) : Prop := srt L /\ L.length <= 400 /\ ∀ r ∈ L, Zbh r = true
theorem Zx1 {L : List Zae} (h : ∀ r ∈ L, Zbh r = true) : inF ⟨[], []⟩ L = L := by
 unfold inF
 refine List.filter_eq_self.2 fun r hr => ?_
 unfold ZsL
 rw [ZmC (h r hr)]
 have : ¬ r.key < [] := by simp
 simp [Zjw, this]
theorem ZDP {k : Tx} {l : List Zae} (hs : srt l) (hl : l.length <= 400) : ∃ v, Zjc k (l.length, true, ()) l = some ((v, fnd k l, ()), ((l.length, true, ()), l, ())) /\ ∀ r ∈ l, r.key = k -> fnd k l = true /\ v = r.value := by
 have huniq : ∀ (h : fnd k l = true), ∀ r ∈ l, r.key = k -> r = l[lb k l]'(ZmB h).1 := by
  intro h r hr hk
  obtain ⟨h1, h2⟩ := ZmB h
  obtain ⟨i, hi, hri⟩ := List.getElem_of_mem hr
  have hii : i = lb k l := by
   rcases Nat.lt_trichotomy i (lb k l) with h3 | h3 | h3
   ·have := List.pairwise_iff_getElem.1 hs i (lb k l) hi h1 h3
    rw [hri, hk, h2] at this
    exact absurd this (ltT _)
   ·exact h3
   ·have := List.pairwise_iff_getElem.1 hs (lb k l) i h1 hi h3
    rw [hri, hk, h2] at this
    exact absurd this (ltT _)
  subst hii
  exact hri.symm
 have hex : ∀ r ∈ l, r.key = k -> fnd k l = true := by
  intro r hr hk
  obtain ⟨i, hi, hri⟩ := List.getElem_of_mem hr
  have h1 : ¬ i < lb k l := fun h2 => by
   have := (Zl3 hs hi).2 h2
   rw [hri, hk] at this
   exact ltT _ this
  have hlt : lb k l < l.length := by omega
  unfold fnd
  rw [List.getElem?_eq_getElem hlt]
  simp only [decide_eq_true_eq]
  rcases Nat.lt_or_ge (lb k l) i with h4 | h4
  ·have h5 := List.pairwise_iff_getElem.1 hs (lb k l) i hlt hi h4
   rw [hri, hk] at h5
   exact absurd ((Zl3 hs hlt).1 h5) (Nat.lt_irrefl _)
  ·obtain rfl : i = lb k l := by omega
   rw [hri, hk]
 unfold Zjc
 cases h : fnd k l with
 | false =>
  have ha := ZxH (k := k) hs (by omega : l.length <= 140737488355328)
  rw [h] at ha
  exact ⟨[], Zab (v := (true, ((l.length, true, ()), l, ()))) rfl (Zaj rfl (Zab ha (Zak rfl rfl))), fun r hr hk => by rw [hex r hr hk] at h; cases h⟩
 | true =>
  have ha := ZxH (k := k) hs (by omega : l.length <= 140737488355328)
  rw [h] at ha
  obtain ⟨h1, h2⟩ := ZmB h
  have hg : l[0 + ((lb k l : Nat) : Int).toNat]? = some l[lb k l] := by rw [Nat.zero_add, Int.toNat_natCast, List.getElem?_eq_getElem h1]
  exact ⟨l[lb k l].value, Zab (v := (true, ((l.length, true, ()), l, ()))) rfl (Zaj rfl (Zab ha (Zaj rfl (ZeK (by dsimp only; omega) (Zab hg rfl))))), fun r hr hk => ⟨rfl, by rw [huniq h r hr hk]⟩⟩
theorem ZBr {k : Tx} {l : List Zae} (h : fnd k l = true) : ∃ r ∈ l, r.key = k := by
 obtain ⟨h1, h2⟩ := ZmB h
 exact ⟨_, List.getElem_mem h1, h2⟩
theorem Zx2 {L : List Zae} : Zf2 (L.length, true, ()) L = some (((L.length : Nat) : Int), ((L.length, true, ()), L, ())) := by
 unfold Zf2
 exact Zab (v := (true, ((L.length, true, ()), L, ()))) rfl (Zaj rfl rfl)
end Go.Proofs.YtlmmpfbdgiokmaaGreat
