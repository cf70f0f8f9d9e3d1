/- The reference of chapter 15, plainly. -/
import Derived.Test.YtlmmpfbdgiokmaaGreatRor
namespace Go.Proofs.YtlmmpfbdgiokmaaGreat
open Go.RowKit
set_option maxRecDepth 100000
set_option linter.unusedVariables false
set_option linter.unusedSimpArgs false
theorem Zt9 {s : Za5} (h : ZsJ s) : Zdy s = some (Zjw s, ()) := by
 unfold Zdy Zjw
 rw [ZnB h.1, ZnB h.2]
 simp only [Option.bind_some]
 by_cases h1 : s.lo = [] <;> by_cases h2 : s.hi = [] <;> cases ZsK s.lo <;> cases ZsK s.hi <;> simp [h1, h2]
theorem Zu7 {s : Za5} {k : Tx} (h : ZsJ s) (hk : OkT k) : Zdm s k = some (ZsL s k, ()) := by
 unfold Zdm ZsL
 rw [Zt9 h, ZnB hk]
 simp only [Option.bind_some]
 have h1 : (decide (s.lo < k) || decide (s.lo = k)) = !decide (k < s.lo) := by
  by_cases h2 : k < s.lo
  ·have h3 := ZzM h2
   have h4 : ¬ s.lo = k := fun e => by rw [e] at h2; exact ltT _ h2
   simp [h2, h3, h4]
  ·by_cases h4 : s.lo = k
   ·simp [h4, ltT]
   ·have := ZBm h2 (fun e => h4 e.symm)
    simp [h2, this]
 rw [h1]
 cases Zjw s <;> cases ZsK k <;> cases decide (k < s.lo) <;> by_cases h2 : s.hi = [] <;> simp [h2]
theorem ZzS (s : Za5) (l : List Zae) (r : Zae) : inF s (l ++ [r]) = inF s l ++ (if ZsL s r.key = true then [r] else []) := by
 unfold inF
 rw [List.filter_append]
 congr 1
 cases h : ZsL s r.key <;> simp [h]
theorem Zx3 (s : Za5) (l : List Zae) (r : Zae) : Zq3 s (l ++ [r]) = Zq3 s l ++ (if ZsL s r.key = true then [] else [r]) := by
 unfold Zq3
 rw [List.filter_append]
 congr 1
 cases h : ZsL s r.key <;> simp [h]
theorem Zua (s : Za5) (l : List Zae) : (inF s l).length <= l.length := List.length_filter_le _ _
theorem ZzT (s : Za5) (l : List Zae) : (Zq3 s l).length <= l.length := List.length_filter_le _ _
theorem Zx4 {s : Za5} {L : List Zae} (hL : L.length <= 100000) (ho : ZsJ s) (hk : ∀ r ∈ L, OkT r.key) : Zc6 s ⟨L⟩ = some (inF s L, (⟨L⟩, (), ())) := by
 unfold Zc6
 refine Zab (v := ((inF s L, ()), ((⟨L⟩ : ZaI), s, (), (), ()))) ?_ rfl
 refine Zc4 (step := Zca) (fun i : Nat => (((), (), inF s (L.take i), (i : Int), ()), ((⟨L⟩ : ZaI), s, (), ()))) (N := L.length) (fun i hi => ?_) ?_
 ·have hl := Zua s (L.take i)
  rw [List.length_take] at hl
  unfold Zca
  refine Zak (dT (by dsimp only; omega)) (Zab (Zay hi) (Zab (Zu7 ho (hk _ (List.getElem_mem hi))) ?_))
  dsimp only
  rw [List.take_succ_eq_append_getElem hi, ZzS, w64 (by omega)]
  cases hb : ZsL s L[i].key
  ·refine Zaj rfl ?_
   simp
  ·refine Zak rfl (Zab (Zay hi) (ZeK (by simp only [List.length_singleton]; omega) ?_))
   rfl
 ·unfold Zca
  refine Zaj (dF (by dsimp only; omega)) ?_
  dsimp only
  rw [List.take_length]
theorem Zx5 {s : Za5} {L : List Zae} (hL : L.length <= 100000) (ho : ZsJ s) (hk : ∀ r ∈ L, OkT r.key) : Zdo s ⟨L⟩ = some (inF s L, ((Zq3 s L, ()), (), (), ())) := by
 unfold Zdo
 refine Zab (Zx4 hL ho hk) (Zab (v := (((), inF s L, Zq3 s L, ()), ((⟨L⟩ : ZaI), s, (), (), (), (), ()))) ?_ rfl)
 refine Zc4 (step := Zbx) (fun i : Nat => (((), (), inF s L, Zq3 s (L.take i), (i : Int), ()), ((⟨L⟩ : ZaI), s, (), (), ()))) (N := L.length) (fun i hi => ?_) ?_
 ·have hl := ZzT s (L.take i)
  rw [List.length_take] at hl
  unfold Zbx
  refine Zak (dT (by dsimp only; omega)) (Zab (Zay hi) (Zab (Zu7 ho (hk _ (List.getElem_mem hi))) ?_))
  dsimp only
  rw [List.take_succ_eq_append_getElem hi, Zx3, w64 (by omega)]
  cases hb : ZsL s L[i].key
  ·refine Zak rfl (Zab (Zay hi) (ZeK (by simp only [List.length_singleton]; omega) ?_))
   rfl
  ·refine Zaj rfl ?_
   simp
 ·unfold Zbx
  refine Zaj (dF (by dsimp only; omega)) ?_
  dsimp only
  rw [List.take_length]
theorem ZCG {k : Tx} {l : List Zae} (hs : srt l) (hl : l.length <= 400) (h : fnd k l = false) : Zjc k (l.length, true, ()) l = some (([], false, ()), ((l.length, true, ()), l, ())) := by
 have ha := ZxH (k := k) hs (by omega : l.length <= 140737488355328)
 rw [h] at ha
 unfold Zjc
 exact Zab (v := (true, ((l.length, true, ()), l, ()))) rfl (Zaj rfl (Zab ha (Zak rfl rfl)))
theorem ZzU {k : Tx} {l : List Zae} (hs : srt l) (hl : l.length <= 400) : ∃ v b, Zjc k (l.length, true, ()) l = some ((v, b, ()), ((l.length, true, ()), l, ())) /\ Zdr k ⟨l⟩ = some ((v, b, ()), ((⟨l⟩ : ZaI), ())) := by
 obtain ⟨v, h1, h2⟩ := ZDP (k := k) hs hl
 have key : ∃ z, ZaP Zdp (((), k, 0, ()), ((⟨l⟩ : ZaI), ())) = some z /\ ((z = .inl ((v, true, ()), ((⟨l⟩ : ZaI), ())) /\ fnd k l = true) \/ (z = .inr ((), ((⟨l⟩ : ZaI), ())) /\ ∀ r ∈ l, r.key ≠ k)) := by
  refine ZbL (fun m a => ∃ i : Nat, a = (((), k, (i : Int), ()), ((⟨l⟩ : ZaI), ())) /\ i <= l.length /\ (∀ r ∈ l.take i, r.key ≠ k) /\ m = l.length - i) _ ?_ (n := l.length) ⟨0, rfl, Nat.zero_le _, (fun r hr => by simp at hr), rfl⟩
  rintro m a ⟨i, rfl, g1, g2, rfl⟩
  unfold Zdp
  by_cases hi : i < l.length
  ·by_cases he : l[i].key = k
   ·right
    obtain ⟨q1, q2⟩ := h2 _ (List.getElem_mem hi) he
    refine ⟨_, Zak (dT (by dsimp only; omega)) (Zab (Zay hi) (Zak (dT he) (Zab (Zay hi) rfl))), .inl ⟨?_, q1⟩⟩
    rw [q2]
   ·left
    refine ⟨l.length - (i + 1), _, by omega, Zak (dT (by dsimp only; omega)) (Zab (Zay hi) (Zaj (dF he) rfl)), i + 1, ?_, by omega, fun r hr => ?_, rfl⟩
    ·dsimp only
     rw [w64 (by omega)]
     rfl
    ·rw [List.take_succ_eq_append_getElem hi] at hr
     rcases List.mem_append.1 hr with hr | hr
     ·exact g2 r hr
     ·rw [List.mem_singleton.1 hr]; exact he
  ·right
   obtain rfl : i = l.length := by omega
   rw [List.take_length] at g2
   exact ⟨_, Zaj (dF (by dsimp only; omega)) rfl, .inr ⟨rfl, g2⟩⟩
 obtain ⟨z, hz, ⟨rfl, hf⟩ | ⟨rfl, hf⟩⟩ := key
 ·refine ⟨v, true, by rw [h1, hf], ?_⟩
  unfold Zdr
  exact Zab hz rfl
 ·have hn : fnd k l = false := by
   cases h : fnd k l
   ·rfl
   ·obtain ⟨r, hr, hk⟩ := ZBr h
    exact absurd hk (hf r hr)
  refine ⟨[], false, ZCG hs hl hn, ?_⟩
  unfold Zdr
  exact Zab hz rfl
theorem Zx6 {x : Zae} {L : List Zae} (hs : srt L) (hl : L.length <= 100000) : ZaP Zbw ((L, (), 0, ()), (x, ())) = some ((L, (), ((lb x.key L : Nat) : Int), ()), (x, ())) := by
 have hle := ZsM x.key L
 refine Zc4 (step := Zbw) (fun i : Nat => ((L, (), (i : Int), ()), (x, ()))) (N := lb x.key L) (fun i hi => ?_) ?_
 ·have hi2 : i < L.length := by omega
  unfold Zbw
  refine Zak (dT (by dsimp only; omega)) (Zab (Zay hi2) (Zak (dT ((Zl3 hs hi2).2 hi)) ?_))
  dsimp only
  rw [w64 (by omega)]
  rfl
 ·unfold Zbw
  by_cases hi : lb x.key L < L.length
  ·exact Zak (dT (by dsimp only; omega)) (Zab (Zay hi) (Zaj (dF (fun h => absurd ((Zl3 hs hi).1 h) (Nat.lt_irrefl _))) rfl))
  ·exact Zaj (dF (by dsimp only; omega)) rfl
set_option maxHeartbeats 2000000 in
theorem ZsY {x : Zae} {L : List Zae} (hs : srt L) (hl : L.length <= 100000) : ZbN L x = some (Znh x L, ()) := by
 have hle := ZsM x.key L
 have ht : (L.take (lb x.key L)).length = lb x.key L := by rw [List.length_take]; omega
 have hd : (L.drop (lb x.key L)).length = L.length - lb x.key L := by rw [List.length_drop]
 unfold ZbN Zeb
 rw [Zx6 hs hl]
 generalize hB : lb x.key L = B at hle ht hd
 have hdt : (L.drop B).take (L.length - B) = L.drop B := List.take_of_length_le (by omega)
 simp only [Option.bind_some, Nat.zero_add, List.drop_nil, List.take_nil, List.nil_append, List.append_nil, List.drop_zero, List.length_nil, Int.toNat_zero, Nat.sub_zero, Int.toNat_natCast, List.take_zero, List.length_singleton, ht, hdt, hd]
 have hput : Znh x L = if fnd x.key L = true then L.set B x else L.take B ++ [x] ++ L.drop B := by unfold Znh; rw [hB]
 rw [hput]
 have tail : ∀ n : Nat, n = B + 1 + (L.length - B) -> ∀ z : List Zae, z = L.take B ++ [x] ++ L.drop B -> ((some (n, (z, ())) : Option (Nat × (List Zae × Unit))).bind fun r => if r.1 <= r.2.1.length then some (r.2.1.take r.1, ()) else none) = some (L.take B ++ [x] ++ L.drop B, ()) := fun n hn z hz => by
  subst hz
  have hzl : (L.take B ++ [x] ++ L.drop B).length = n := by simp only [List.length_append, ht, hd, List.length_singleton]; omega
  rw [Option.bind_some, if_pos (by rw [hzl]; exact Nat.le_refl _), <- hzl, List.take_length]
 have t1 : List.take B (List.take B L) = List.take B L := by rw [List.take_take, Nat.min_self]
 have t2 : (List.take B L ++ [x]).length = B + 1 := by rw [List.length_append, ht, List.length_singleton]
 have t3 : List.take (B + 1) (List.take B L ++ [x]) = List.take B L ++ [x] := by rw [<- t2, List.take_length]
 simp only [t1, t2, t3]
 have none_ : fnd x.key L = false -> (if fnd x.key L = true then L.set B x else L.take B ++ [x] ++ L.drop B) = L.take B ++ [x] ++ L.drop B := fun h => by rw [h, if_neg Bool.false_ne_true]
 by_cases hlt : B < L.length
 ·rw [decide_eq_true (by omega : (B : Int) < (L.length : Int)), cond_true, Zay hlt, Option.bind_some]
  have hf : fnd x.key L = decide (L[B].key = x.key) := by
   unfold fnd
   rw [hB, List.getElem?_eq_getElem hlt]
  by_cases hk : L[B].key = x.key
  ·rw [decide_eq_true hk] at hf
   rw [hf, if_pos rfl, decide_eq_true hk, cond_true, if_pos (by omega), if_neg (by omega), if_pos (by omega), List.getElem?_eq_getElem hlt, Option.bind_some, Option.bind_some, if_pos (by simp), List.take_of_length_le (by simp)]
  ·rw [decide_eq_false hk] at hf
   rw [none_ hf, decide_eq_false hk, cond_false, if_pos (by omega), if_pos (by omega)]
   by_cases hB0 : B <= 0
   ·rw [if_pos hB0, if_pos (by omega), if_pos (by omega), if_neg (by omega), if_pos (by omega)]
    exact tail _ rfl _ rfl
   ·rw [if_neg hB0, if_pos (by omega), if_pos (by omega), if_pos (by omega)]
    exact tail _ rfl _ rfl
 ·have hf : fnd x.key L = false := by
   unfold fnd
   rw [hB, List.getElem?_eq_none (by omega)]
  rw [decide_eq_false (by omega : ¬ (B : Int) < (L.length : Int)), cond_false, none_ hf, if_pos (by omega), if_pos (by omega)]
  by_cases hB0 : B <= 0
  ·rw [if_pos hB0, if_pos (by omega), if_pos (by omega), if_neg (by omega), if_pos (by omega)]
   exact tail _ rfl _ rfl
  ·rw [if_neg hB0, if_pos (by omega), if_pos (by omega), if_pos (by omega)]
   exact tail _ rfl _ rfl
theorem ZzV {xs L : List Zae} (hs : srt L) (hl : L.length <= 400) (hx : ∀ x ∈ xs, OkT x.key) (hn : xs.length <= 50000) : Zdz xs ⟨L⟩ = some ((ZnA xs L).1, (⟨(ZnA xs L).2⟩, ())) := by
 have key : ∃ z, ZaP ZcH (((), xs, L, 0, ()), ((⟨L⟩ : ZaI), ())) = some z /\ ((z = .inl ((2, ()), ((⟨L⟩ : ZaI), ())) /\ xs.all Zbh = false) \/ (z = .inr (((), xs, L, ()), ((⟨L⟩ : ZaI), ())) /\ xs.all Zbh = true)) := by
  refine ZbL (fun m a => ∃ i : Nat, a = (((), xs, L, (i : Int), ()), ((⟨L⟩ : ZaI), ())) /\ i <= xs.length /\ (xs.take i).all Zbh = true /\ m = xs.length - i) _ ?_ (n := xs.length) ⟨0, rfl, Nat.zero_le _, rfl, rfl⟩
  rintro m a ⟨i, rfl, g1, g2, rfl⟩
  unfold ZcH
  by_cases hi : i < xs.length
  ·have hr := ZmG (hx _ (List.getElem_mem hi))
   cases hb : Zbh xs[i]
   ·right
    rw [hb] at hr
    refine ⟨_, Zak (dT (by dsimp only; omega)) (Zab (Zay hi) (Zab hr (Zak rfl rfl))), .inl ⟨rfl, ?_⟩⟩
    cases ha : xs.all Zbh
    ·rfl
    ·have := List.all_eq_true.1 ha _ (List.getElem_mem hi)
     rw [hb] at this; cases this
   ·left
    rw [hb] at hr
    refine ⟨xs.length - (i + 1), _, by omega, Zak (dT (by dsimp only; omega)) (Zab (Zay hi) (Zab hr (Zaj rfl rfl))), i + 1, ?_, by omega, ?_, rfl⟩
    ·dsimp only
     rw [w64 (by omega)]
     rfl
    ·rw [List.take_succ_eq_append_getElem hi, List.all_append, g2]
     simp [hb]
  ·right
   obtain rfl : i = xs.length := by omega
   rw [List.take_length] at g2
   exact ⟨_, Zaj (dF (by dsimp only; omega)) rfl, .inr ⟨rfl, g2⟩⟩
 unfold Zdz ZnA
 obtain ⟨z, hz, ⟨rfl, ha⟩ | ⟨rfl, ha⟩⟩ := key
 ·rw [ha, if_neg Bool.false_ne_true]
  exact Zab hz rfl
 ·rw [ha, if_pos rfl]
  refine Zab hz ?_
  refine Zab (v := (((), ZcX xs L, ()), ((⟨L⟩ : ZaI), ()))) ?_ ?_
  ·refine Zc4 (step := ZbB) (fun i : Nat => (((), xs, ZcX (xs.take i) L, (i : Int), ()), ((⟨L⟩ : ZaI), ()))) (N := xs.length) (fun i hi => ?_) ?_
   ·have h1 := ZkE (xs.take i) L
    rw [List.length_take] at h1
    unfold ZbB
    refine Zak (dT (by dsimp only; omega)) (Zab (Zay hi) (Zab (ZsY (L := ZcX (xs.take i) L) (Ziz (xs.take i) hs) (by omega)) ?_))
    dsimp only
    rw [List.take_succ_eq_append_getElem hi, Zli, w64 (by omega)]
    rfl
   ·unfold ZbB
    refine Zaj (dF (by dsimp only; omega)) ?_
    dsimp only
    rw [List.take_length]
  ·by_cases hc : 400 < (ZcX xs L).length
   ·rw [if_pos hc]
    exact Zak (dT (by dsimp only; omega)) rfl
   ·rw [if_neg hc]
    exact Zaj (dF (by dsimp only; omega)) rfl
end Go.Proofs.YtlmmpfbdgiokmaaGreat
