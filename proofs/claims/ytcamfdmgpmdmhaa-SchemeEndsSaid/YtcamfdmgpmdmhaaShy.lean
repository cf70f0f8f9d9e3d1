/- Shares, plainly. -/
import Derived.Test.YtcamfdmgpmdmhaaCu
namespace Go.Proofs.Ytcamfdmgpmdmhaa
open Go.RowKit
set_option maxRecDepth 100000
set_option linter.unusedVariables false
set_option linter.unusedSimpArgs false
theorem within_p (n lo hi : Int) : shares_within n lo hi = some (decide (lo ≤ n) && decide (n ≤ hi), ()) := by
  unfold shares_within
  by_cases h : lo ≤ n <;> simp [h]
/-- The first place of a list at which something holds. -/
def ixF (p : DShare → Bool) (l : List DShare) : Int := if l.any p = true then (l.findIdx p : Int) else -1
theorem ix_loop {α β : Type} {step : α → Option (α ⊕ β)} (l : List DShare) (p : DShare → Bool) (st : Int → α) (hit : Int → β) (miss : β)
    (h1 : ∀ (i : Nat) (hi : i < l.length), p l[i] = true → step (st i) = some (.inr (hit i))) (h2 : ∀ (i : Nat) (hi : i < l.length), p l[i] = false → step (st i) = some (.inl (st ((i + 1 : Nat) : Int)))) (h3 : step (st l.length) = some (.inr miss)) :
    loopM step (st 0) = some (if l.any p = true then hit (l.findIdx p) else miss) := by
  refine loopM_eq_of (fun n a => ∃ i : Nat, a = st i ∧ i ≤ l.length ∧ (∀ (j : Nat) (hj : j < l.length), j < i → p l[j] = false) ∧ n = l.length - i) _ ?_ (n := l.length) ⟨0, rfl, Nat.zero_le _, fun j _ h => absurd h (Nat.not_lt_zero j), rfl⟩
  rintro n a ⟨i, rfl, k1, k2, rfl⟩
  by_cases hi : i < l.length
  · cases hp : p l[i]
    · refine .inl ⟨_, _, by omega, h2 i hi hp, i + 1, rfl, by omega, fun j hj hji => ?_, rfl⟩
      by_cases he : j = i
      · subst he; exact hp
      · exact k2 j hj (by omega)
    · right
      have hany : l.any p = true := List.any_eq_true.2 ⟨l[i], List.getElem_mem hi, hp⟩
      have hix : l.findIdx p = i := (List.findIdx_eq hi).2 ⟨hp, fun j hj => k2 j (by omega) hj⟩
      rw [h1 i hi hp, if_pos hany, hix]
  · right
    obtain rfl : i = l.length := by omega
    have hany : ¬ l.any p = true := by
      intro h
      obtain ⟨x, hx, hp⟩ := List.any_eq_true.1 h
      obtain ⟨j, hj, rfl⟩ := List.mem_iff_getElem.1 hx
      rw [k2 j hj hj] at hp
      cases hp
    rw [h3, if_neg hany]
theorem ix_get {p : DShare → Bool} {l : List DShare} (h : l.any p = true) : ∃ (hi : l.findIdx p < l.length), p l[l.findIdx p] = true := by
  obtain ⟨x, hx, hp⟩ := List.any_eq_true.1 h
  have hi : l.findIdx p < l.length := List.findIdx_lt_length_of_exists ⟨x, hx, hp⟩
  exact ⟨hi, List.findIdx_getElem (w := hi)⟩
/-- Shares as they may come. -/
structure OkSh (s : DShares) : Prop where
  len : s.list.length ≤ 1000
  sp : ∀ x ∈ s.list, OkSp x.span
def wrongB (s : DShares) (x : DShare) : Bool := !(decide ((1 : Int) ≤ x.group) && decide (x.group ≤ 4)) || !(decide ((1 : Int) ≤ x.epoch) && decide (x.epoch ≤ s.epoch))
theorem right1_p (x : DShare) (w : DWork) : shares_right1 x w = some (wrongB w.shares x, (w, ())) := by
  unfold shares_right1
  rw [within_p, Option.bind_some, within_p, Option.bind_some]
  unfold wrongB
  cases (decide ((1 : Int) ≤ x.group) && decide (x.group ≤ 4)) <;> simp
theorem ix1_p {l : List DShare} (hl : l.length ≤ 1000) (w : DWork) : slices_IndexFunc l w = some (ixF (wrongB w.shares) l, (w, ())) := by
  have h := ix_loop (step := slices_IndexFunc_l1) l (wrongB w.shares) (fun i => ((l, (), (l.length : Int), i, ()), (w, ()))) (fun i => .inl ((i, ()), (w, ()))) (.inr ((), (w, ())))
    (fun i hi hp => by
      unfold slices_IndexFunc_l1
      exact condT (dT (by dsimp only; omega)) (bindS (getI_lt hi) (bindS (right1_p _ _) (condT hp rfl))))
    (fun i hi hp => by
      unfold slices_IndexFunc_l1
      refine condT (dT (by dsimp only; omega)) (bindS (getI_lt hi) (bindS (right1_p _ _) (condF hp ?_)))
      dsimp only
      rw [w64 (by omega)]
      rfl)
    (by unfold slices_IndexFunc_l1; exact condF (dF (by dsimp only; omega)) rfl)
  unfold slices_IndexFunc ixF
  refine bindS h ?_
  by_cases hq : l.any (wrongB w.shares) = true
  · rw [if_pos hq, if_pos hq]
  · rw [if_neg hq, if_neg hq]
theorem contains_p {l : List DShare} (hl : l.length ≤ 1000) (w : DWork) : slices_ContainsFunc l w = some (l.any (wrongB w.shares), (w, ())) := by
  unfold slices_ContainsFunc
  refine bindS (ix1_p hl w) ?_
  dsimp only
  unfold ixF
  cases h : l.any (wrongB w.shares) <;> simp
theorem spans_p {w : DWork} (hl : w.shares.list.length ≤ 1000) : shares_spans w = some (w.shares.list.map (·.span), ((), ())) := by
  have h := loopM_run (step := shares_spans_l1) (fun i : Nat => (((w.shares.list.take i).map (·.span), w.shares.list, (w.shares.list.length : Int), (i : Int), ()), ((), ()))) (N := w.shares.list.length) (b := ((w.shares.list.map (·.span), ()), ((), (), ())))
    (fun i hi => by
      unfold shares_spans_l1
      refine condT (dT (by dsimp only; omega)) (bindS (getI_lt hi) (iteT (by simp; omega) ?_))
      dsimp only
      rw [w64 (by omega), List.take_succ_eq_append_getElem hi, List.map_append]
      rfl)
    (by
      unfold shares_spans_l1
      refine condF (dF (by dsimp only; omega)) ?_
      dsimp only
      rw [List.take_length])
  unfold shares_spans
  exact bindS h rfl
def rightW (s : DShares) : Bool := (decide ((1 : Int) ≤ s.epoch) && decide (s.epoch ≤ 1073741824)) && (decide (s.list.length ≤ 40) && (!(s.list.any (wrongB s)) && partsF [] (s.list.map (·.span))))
theorem right_p {s : DShares} (h : OkSh s) : shares_right ⟨s⟩ = some (rightW s, ()) := by
  have hp : span_Parts (s.list.map (·.span)) = some (partsF [] (s.list.map (·.span)), ()) := Parts_p (by have := h.len; simp; omega) (fun x hx => by
    obtain ⟨y, hy, rfl⟩ := List.mem_map.1 hx
    exact h.sp y hy)
  unfold shares_right
  refine bindS (contains_p h.len _) ?_
  refine bindS (within_p _ _ _) ?_
  dsimp only
  unfold rightW
  cases (decide ((1 : Int) ≤ s.epoch) && decide (s.epoch ≤ 1073741824))
  · rfl
  simp only [cond_true, Bool.true_and]
  have e : decide ((s.list.length : Int) ≤ 40) = decide (s.list.length ≤ 40) := by
    by_cases h : s.list.length ≤ 40
    · rw [dT h, dT (by omega)]
    · rw [dF h, dF (by omega)]
  rw [e]
  cases decide (s.list.length ≤ 40)
  · rfl
  simp only [cond_true, Bool.true_and]
  cases s.list.any (wrongB s)
  · simp only [Bool.not_false, cond_true, Bool.true_and]
    exact bindS (spans_p h.len) (bindS hp rfl)
  · rfl
theorem Right_sh {s : DShares} (h : OkSh s) : shares_Right s = some (rightW s, ()) := by
  unfold shares_Right
  exact bindS (right_p h) rfl
theorem ix2_p {l : List DShare} (hl : l.length ≤ 1000) (hs : ∀ x ∈ l, OkSp x.span) {k : Tx} (hk : OkT k) : slices_IndexFunc_4 l ((), ()) k = some (ixF (fun x => hasB x.span k) l, (((), ()), k, ())) := by
  have hc : ∀ x ∈ l, shares_at1_3 x ((), ()) k = some (hasB x.span k, (((), ()), k, ())) := fun x hx => by
    unfold shares_at1_3 shares_Of1
    exact bindS (bindS (Has_p (hs x hx) hk) rfl) rfl
  have h := ix_loop (step := slices_IndexFunc_4_l1) l (fun x => hasB x.span k) (fun i => ((l, (), (l.length : Int), i, ()), (((), ()), k, ()))) (fun i => .inl ((i, ()), (((), ()), k, ()))) (.inr ((), (((), ()), k, ())))
    (fun i hi hp => by
      unfold slices_IndexFunc_4_l1
      exact condT (dT (by dsimp only; omega)) (bindS (getI_lt hi) (bindS (hc _ (List.getElem_mem hi)) (condT hp rfl))))
    (fun i hi hp => by
      unfold slices_IndexFunc_4_l1
      refine condT (dT (by dsimp only; omega)) (bindS (getI_lt hi) (bindS (hc _ (List.getElem_mem hi)) (condF hp ?_)))
      dsimp only
      rw [w64 (by omega)]
      rfl)
    (by unfold slices_IndexFunc_4_l1; exact condF (dF (by dsimp only; omega)) rfl)
  unfold slices_IndexFunc_4 ixF
  refine bindS h ?_
  by_cases hq : l.any (fun x => hasB x.span k) = true
  · rw [if_pos hq, if_pos hq]
  · rw [if_neg hq, if_neg hq]
theorem ix3_p {l : List DShare} (hl : l.length ≤ 1000) (hs : ∀ x ∈ l, OkSp x.span) {a : DSpan} (ha : OkSp a) : slices_IndexFunc_3 l ((), ()) a = some (ixF (fun x => withinB a x.span) l, (((), ()), a, ())) := by
  have hc : ∀ x ∈ l, shares_at1_2 x ((), ()) a = some (withinB a x.span, (((), ()), a, ())) := fun x hx => by
    unfold shares_at1_2 shares_In1
    exact bindS (bindS (Within_p ha (hs x hx)) rfl) rfl
  have h := ix_loop (step := slices_IndexFunc_3_l1) l (fun x => withinB a x.span) (fun i => ((l, (), (l.length : Int), i, ()), (((), ()), a, ()))) (fun i => .inl ((i, ()), (((), ()), a, ()))) (.inr ((), (((), ()), a, ())))
    (fun i hi hp => by
      unfold slices_IndexFunc_3_l1
      exact condT (dT (by dsimp only; omega)) (bindS (getI_lt hi) (bindS (hc _ (List.getElem_mem hi)) (condT hp rfl))))
    (fun i hi hp => by
      unfold slices_IndexFunc_3_l1
      refine condT (dT (by dsimp only; omega)) (bindS (getI_lt hi) (bindS (hc _ (List.getElem_mem hi)) (condF hp ?_)))
      dsimp only
      rw [w64 (by omega)]
      rfl)
    (by unfold slices_IndexFunc_3_l1; exact condF (dF (by dsimp only; omega)) rfl)
  unfold slices_IndexFunc_3 ixF
  refine bindS h ?_
  by_cases hq : l.any (fun x => withinB a x.span) = true
  · rw [if_pos hq, if_pos hq]
  · rw [if_neg hq, if_neg hq]
theorem ix0_p {l : List DShare} (hl : l.length ≤ 1000) (hs : ∀ x ∈ l, OkSp x.span) {a : DSpan} (ha : OkSp a) : slices_IndexFunc_2 l ((), ()) a = some (ixF (fun x => withinB a x.span) l, (((), ()), a, ())) := by
  have hc : ∀ x ∈ l, shares_at1 x ((), ()) a = some (withinB a x.span, (((), ()), a, ())) := fun x hx => by
    unfold shares_at1 shares_Turn1
    exact bindS (bindS (Within_p ha (hs x hx)) rfl) rfl
  have h := ix_loop (step := slices_IndexFunc_2_l1) l (fun x => withinB a x.span) (fun i => ((l, (), (l.length : Int), i, ()), (((), ()), a, ()))) (fun i => .inl ((i, ()), (((), ()), a, ()))) (.inr ((), (((), ()), a, ())))
    (fun i hi hp => by
      unfold slices_IndexFunc_2_l1
      exact condT (dT (by dsimp only; omega)) (bindS (getI_lt hi) (bindS (hc _ (List.getElem_mem hi)) (condT hp rfl))))
    (fun i hi hp => by
      unfold slices_IndexFunc_2_l1
      refine condT (dT (by dsimp only; omega)) (bindS (getI_lt hi) (bindS (hc _ (List.getElem_mem hi)) (condF hp ?_)))
      dsimp only
      rw [w64 (by omega)]
      rfl)
    (by unfold slices_IndexFunc_2_l1; exact condF (dF (by dsimp only; omega)) rfl)
  unfold slices_IndexFunc_2 ixF
  refine bindS h ?_
  by_cases hq : l.any (fun x => withinB a x.span) = true
  · rw [if_pos hq, if_pos hq]
  · rw [if_neg hq, if_neg hq]
def noSh : DShare := ⟨⟨[], []⟩, 0, 0⟩
/-- The first share at which something holds. -/
def pickF (s : DShares) (p : DShare → Bool) : Option DShare := if rightW s = true ∧ s.list.any p = true then s.list[s.list.findIdx p]? else none
theorem share_p (s : DShares) (p : DShare → Bool) : shares_share ⟨s⟩ (bif rightW s then ixF p s.list else -1) = some (((pickF s p).getD noSh, (pickF s p).isSome, ()), ()) := by
  unfold shares_share pickF
  cases hr : rightW s
  · exact condT rfl (by simp [noSh])
  · simp only [cond_true, true_and]
    unfold ixF
    by_cases h : s.list.any p = true
    · obtain ⟨hi, _⟩ := ix_get h
      rw [if_pos h, if_pos h]
      refine condF (dF (by omega)) ?_
      refine bindS (getI_lt hi) ?_
      rw [List.getElem?_eq_getElem hi]
      rfl
    · rw [if_neg h, if_neg h]
      exact condT rfl rfl
theorem Of_p {s : DShares} (h : OkSh s) {k : Tx} (hk : OkT k) : shares_Of s k = some (((pickF s fun x => hasB x.span k).getD noSh, (pickF s fun x => hasB x.span k).isSome, ()), ()) := by
  have ha : shares_at_3 ⟨s⟩ k = some (bif rightW s then ixF (fun x => hasB x.span k) s.list else -1, (k, ())) := by
    unfold shares_at_3
    refine bindS (right_p h) ?_
    cases rightW s
    · rfl
    · exact condF rfl (bindS (ix2_p h.len h.sp hk) rfl)
  unfold shares_Of
  exact bindS ha (bindS (share_p s _) rfl)
theorem In_p {s : DShares} (h : OkSh s) {a : DSpan} (hk : OkSp a) : shares_In s a = some (((pickF s fun x => withinB a x.span).getD noSh, (pickF s fun x => withinB a x.span).isSome, ()), ()) := by
  have ha : shares_at_2 ⟨s⟩ a = some (bif rightW s then ixF (fun x => withinB a x.span) s.list else -1, (a, ())) := by
    unfold shares_at_2
    refine bindS (right_p h) ?_
    cases rightW s
    · rfl
    · exact condF rfl (bindS (ix3_p h.len h.sp hk) rfl)
  unfold shares_In
  exact bindS ha (bindS (share_p s _) rfl)
theorem pick_some {s : DShares} {p : DShare → Bool} {x : DShare} (h : pickF s p = some x) : rightW s = true ∧ ∃ (i : Nat) (hi : i < s.list.length), s.list[i] = x ∧ p x = true := by
  unfold pickF at h
  split at h
  · rename_i hc
    obtain ⟨hi, hp⟩ := ix_get hc.2
    rw [List.getElem?_eq_getElem hi] at h
    injection h with h
    subst h
    exact ⟨hc.1, _, hi, rfl, hp⟩
  · cases h
theorem pick_is {s : DShares} {p : DShare → Bool} : (pickF s p).isSome = (rightW s && s.list.any p) := by
  unfold pickF
  by_cases h : rightW s = true ∧ s.list.any p = true
  · obtain ⟨hi, _⟩ := ix_get h.2
    rw [if_pos h, List.getElem?_eq_getElem hi, h.1, h.2]
    rfl
  · rw [if_neg h]
    cases hr : rightW s
    · rfl
    · cases ha : s.list.any p
      · rfl
      · exact absurd ⟨hr, ha⟩ h
-- spans that part all keys
theorem has_ge {f : Tx} {l : List DSpan} {k : Tx} (h : partsF f l = true) : (∀ s ∈ l, hasB s k = true → ¬ k < f) ∧ (keyB k = true → ¬ k < f → ∃ s ∈ l, hasB s k = true) ∧ l.Pairwise (fun s t => ¬ (hasB s k = true ∧ hasB t k = true)) := by
  induction l generalizing f with
  | nil => cases h
  | cons s l ih =>
    cases l with
    | nil =>
      simp only [partsF, Bool.and_eq_true, decide_eq_true_eq] at h
      obtain ⟨h1, h2, h3⟩ := h
      refine ⟨fun t ht hk => ?_, fun hk hf => ⟨s, by simp, ?_⟩, by simp⟩
      · simp at ht
        subst ht
        simp only [hasB, Bool.and_eq_true, Bool.not_eq_true', decide_eq_false_iff_not] at hk
        rw [← h2]; exact hk.2.2.1
      · simp only [hasB, Bool.and_eq_true, Bool.not_eq_true', decide_eq_false_iff_not, Bool.or_eq_true, decide_eq_true_eq]
        exact ⟨h1, hk, by rw [h2]; exact hf, .inl h3⟩
    | cons t l =>
      simp only [partsF, Bool.and_eq_true, decide_eq_true_eq, Bool.not_eq_true', decide_eq_false_iff_not] at h
      obtain ⟨h1, h2, h3, h4⟩ := h
      obtain ⟨i1, i2, i3⟩ := ih h4
      have hlt : s.lo < s.hi := by
        simp only [rightB, Bool.and_eq_true, Bool.or_eq_true, decide_eq_true_eq] at h1
        exact h1.2.2.resolve_left h3
      refine ⟨fun u hu hk => ?_, fun hk hf => ?_, List.pairwise_cons.2 ⟨fun u hu hh => ?_, i3⟩⟩
      · rcases List.mem_cons.1 hu with rfl | hu
        · simp only [hasB, Bool.and_eq_true, Bool.not_eq_true', decide_eq_false_iff_not] at hk
          rw [← h2]; exact hk.2.2.1
        · have := i1 u hu hk
          rw [← h2]
          grind
      · by_cases hh : k < s.hi
        · refine ⟨s, by simp, ?_⟩
          simp only [hasB, Bool.and_eq_true, Bool.not_eq_true', decide_eq_false_iff_not, Bool.or_eq_true, decide_eq_true_eq]
          exact ⟨h1, hk, by rw [h2]; exact hf, .inr hh⟩
        · obtain ⟨u, hu, hu2⟩ := i2 hk hh
          exact ⟨u, List.mem_cons_of_mem _ hu, hu2⟩
      · have g1 := i1 u hu hh.2
        have g2 := hh.1
        simp only [hasB, Bool.and_eq_true, Bool.not_eq_true', decide_eq_false_iff_not, Bool.or_eq_true, decide_eq_true_eq] at g2
        exact g1 (g2.2.2.2.resolve_left h3)
theorem right_parts {s : DShares} (h : rightW s = true) : partsF [] (s.list.map (·.span)) = true := by
  unfold rightW at h
  simp only [Bool.and_eq_true] at h
  exact h.2.2.2
theorem any_key {s : DShares} (h : rightW s = true) (k : Tx) : s.list.any (fun x => hasB x.span k) = keyB k := by
  cases hk : keyB k
  · rw [List.any_eq_false]
    intro x hx hh
    simp only [hasB, Bool.and_eq_true] at hh
    rw [hk] at hh
    cases hh.2.1
  · obtain ⟨u, hu, hu2⟩ := (has_ge (k := k) (right_parts h)).2.1 hk (by simp)
    obtain ⟨x, hx, rfl⟩ := List.mem_map.1 hu
    exact List.any_eq_true.2 ⟨x, hx, hu2⟩
theorem one_key {s : DShares} (h : rightW s = true) {k : Tx} {i j : Nat} (hi : i < s.list.length) (hj : j < s.list.length) (h1 : hasB s.list[i].span k = true) (h2 : hasB s.list[j].span k = true) : i = j := by
  have hp := (has_ge (k := k) (right_parts h)).2.2
  rw [List.pairwise_map, List.pairwise_iff_getElem] at hp
  rcases Nat.lt_trichotomy i j with hlt | he | hlt
  · exact absurd ⟨h1, h2⟩ (hp i j hi hj hlt)
  · exact he
  · exact absurd ⟨h2, h1⟩ (hp j i hj hi hlt)
theorem within_has {a b : DSpan} {k : Tx} (h : withinB a b = true) (hk : hasB a k = true) : hasB b k = true := by
  simp only [withinB, Bool.and_eq_true, Bool.not_eq_true', decide_eq_false_iff_not, Bool.or_eq_true, decide_eq_true_eq] at h
  simp only [hasB, Bool.and_eq_true, Bool.not_eq_true', decide_eq_false_iff_not, Bool.or_eq_true, decide_eq_true_eq] at hk ⊢
  obtain ⟨h1, h2, h3, h4⟩ := h
  obtain ⟨k1, k2, k3, k4⟩ := hk
  refine ⟨h2, k2, by grind, ?_⟩
  rcases h4 with h4 | ⟨h4, h5⟩
  · exact .inl h4
  · rcases k4 with k4 | k4
    · exact absurd k4 h4
    · right; grind
end Go.Proofs.Ytcamfdmgpmdmhaa
