/- XShv, XSkv, XTuv, XTpv in one. -/
import Derived.Test.YtcamfdmgpmdmhaaGreatCu
/- Shares, plainly. -/
namespace Go.Proofs.YtcamfdmgpmdmhaaGreat
open Go.RowKit
set_option maxRecDepth 100000
set_option linter.unusedVariables false
set_option linter.unusedSimpArgs false
theorem within_p (n lo hi : Int) : shares_within n lo hi = some (decide (lo ≤ n) && decide (n ≤ hi), ()) := by
  unfold shares_within
  by_cases h : lo ≤ n <;> simp [h]
/-- The first place of a list at which something holds. -/
def ixF (p : DShare → Bool) (l : List DShare) : Int := if l.any p = true then (l.findIdx p : Int) else -1
theorem ix_loop {α β : Type} {step : α → Option (α ⊕ β)} (l : List DShare) (p : DShare → Bool) (st : Int → α) (hit : Int → β) (miss : β)
    (h1 : ∀ (i : Nat) (hi : i < l.length), p l[i] = true → step (st i) = some (.inr (hit i))) (h2 : ∀ (i : Nat) (hi : i < l.length), p l[i] = false → step (st i) = some (.inl (st ((i + 1 : Nat) : Int)))) (h3 : step (st l.length) = some (.inr miss)) :
    loopM step (st 0) = some (if l.any p = true then hit (l.findIdx p) else miss) := by
  refine loopM_eq_of (fun n a => ∃ i : Nat, a = st i ∧ i ≤ l.length ∧ (∀ (j : Nat) (hj : j < l.length), j < i → p l[j] = false) ∧ n = l.length - i) _ ?_ (n := l.length) ⟨0, rfl, Nat.zero_le _, fun j _ h => absurd h (Nat.not_lt_zero j), rfl⟩
  rintro n a ⟨i, rfl, k1, k2, rfl⟩
  by_cases hi : i < l.length
  · cases hp : p l[i]
    · refine .inl ⟨_, _, by omega, h2 i hi hp, i + 1, rfl, by omega, fun j hj hji => ?_, rfl⟩
      by_cases he : j = i
      · subst he; exact hp
      · exact k2 j hj (by omega)
    · right
      have hany : l.any p = true := List.any_eq_true.2 ⟨l[i], List.getElem_mem hi, hp⟩
      have hix : l.findIdx p = i := (List.findIdx_eq hi).2 ⟨hp, fun j hj => k2 j (by omega) hj⟩
      rw [h1 i hi hp, if_pos hany, hix]
  · right
    obtain rfl : i = l.length := by omega
    have hany : ¬ l.any p = true := by
      intro h
      obtain ⟨x, hx, hp⟩ := List.any_eq_true.1 h
      obtain ⟨j, hj, rfl⟩ := List.mem_iff_getElem.1 hx
      rw [k2 j hj hj] at hp
      cases hp
    rw [h3, if_neg hany]
theorem ix_get {p : DShare → Bool} {l : List DShare} (h : l.any p = true) : ∃ (hi : l.findIdx p < l.length), p l[l.findIdx p] = true := by
  obtain ⟨x, hx, hp⟩ := List.any_eq_true.1 h
  have hi : l.findIdx p < l.length := List.findIdx_lt_length_of_exists ⟨x, hx, hp⟩
  exact ⟨hi, List.findIdx_getElem (w := hi)⟩
/-- Shares as they may come. -/
structure OkSh (s : DShares) : Prop where
  len : s.list.length ≤ 1000
  sp : ∀ x ∈ s.list, OkSp x.span
def wrongB (s : DShares) (x : DShare) : Bool := !(decide ((1 : Int) ≤ x.group) && decide (x.group ≤ 4)) || !(decide ((1 : Int) ≤ x.epoch) && decide (x.epoch ≤ s.epoch))
theorem right1_p (x : DShare) (w : DWork) : shares_right1 x w = some (wrongB w.shares x, (w, ())) := by
  unfold shares_right1
  rw [within_p, Option.bind_some, within_p, Option.bind_some]
  unfold wrongB
  cases (decide ((1 : Int) ≤ x.group) && decide (x.group ≤ 4)) <;> simp
theorem ix1_p {l : List DShare} (hl : l.length ≤ 1000) (w : DWork) : slices_IndexFunc l w = some (ixF (wrongB w.shares) l, (w, ())) := by
  have h := ix_loop (step := slices_IndexFunc_l1) l (wrongB w.shares) (fun i => ((l, (), (l.length : Int), i, ()), (w, ()))) (fun i => .inl ((i, ()), (w, ()))) (.inr ((), (w, ())))
    (fun i hi hp => by
      unfold slices_IndexFunc_l1
      exact condT (dT (by dsimp only; omega)) (bindS (getI_lt hi) (bindS (right1_p _ _) (condT hp rfl))))
    (fun i hi hp => by
      unfold slices_IndexFunc_l1
      refine condT (dT (by dsimp only; omega)) (bindS (getI_lt hi) (bindS (right1_p _ _) (condF hp ?_)))
      dsimp only
      rw [w64 (by omega)]
      rfl)
    (by unfold slices_IndexFunc_l1; exact condF (dF (by dsimp only; omega)) rfl)
  unfold slices_IndexFunc ixF
  refine bindS h ?_
  by_cases hq : l.any (wrongB w.shares) = true
  · rw [if_pos hq, if_pos hq]
  · rw [if_neg hq, if_neg hq]
theorem contains_p {l : List DShare} (hl : l.length ≤ 1000) (w : DWork) : slices_ContainsFunc l w = some (l.any (wrongB w.shares), (w, ())) := by
  unfold slices_ContainsFunc
  refine bindS (ix1_p hl w) ?_
  dsimp only
  unfold ixF
  cases h : l.any (wrongB w.shares) <;> simp
theorem spans_p {w : DWork} (hl : w.shares.list.length ≤ 1000) : shares_spans w = some (w.shares.list.map (·.span), ((), ())) := by
  have h := loopM_run (step := shares_spans_l1) (fun i : Nat => (((w.shares.list.take i).map (·.span), w.shares.list, (w.shares.list.length : Int), (i : Int), ()), ((), ()))) (N := w.shares.list.length) (b := ((w.shares.list.map (·.span), ()), ((), (), ())))
    (fun i hi => by
      unfold shares_spans_l1
      refine condT (dT (by dsimp only; omega)) (bindS (getI_lt hi) (iteT (by simp; omega) ?_))
      dsimp only
      rw [w64 (by omega), List.take_succ_eq_append_getElem hi, List.map_append]
      rfl)
    (by
      unfold shares_spans_l1
      refine condF (dF (by dsimp only; omega)) ?_
      dsimp only
      rw [List.take_length])
  unfold shares_spans
  exact bindS h rfl
def rightW (s : DShares) : Bool := (decide ((1 : Int) ≤ s.epoch) && decide (s.epoch ≤ 1073741824)) && (decide (s.list.length ≤ 40) && (!(s.list.any (wrongB s)) && partsF [] (s.list.map (·.span))))
theorem right_p {s : DShares} (h : OkSh s) : shares_right ⟨s⟩ = some (rightW s, ()) := by
  have hp : span_Parts (s.list.map (·.span)) = some (partsF [] (s.list.map (·.span)), ()) := Parts_p (by have := h.len; simp; omega) (fun x hx => by
    obtain ⟨y, hy, rfl⟩ := List.mem_map.1 hx
    exact h.sp y hy)
  unfold shares_right
  refine bindS (contains_p h.len _) ?_
  refine bindS (within_p _ _ _) ?_
  dsimp only
  unfold rightW
  cases (decide ((1 : Int) ≤ s.epoch) && decide (s.epoch ≤ 1073741824))
  · rfl
  simp only [cond_true, Bool.true_and]
  have e : decide ((s.list.length : Int) ≤ 40) = decide (s.list.length ≤ 40) := by
    by_cases h : s.list.length ≤ 40
    · rw [dT h, dT (by omega)]
    · rw [dF h, dF (by omega)]
  rw [e]
  cases decide (s.list.length ≤ 40)
  · rfl
  simp only [cond_true, Bool.true_and]
  cases s.list.any (wrongB s)
  · simp only [Bool.not_false, cond_true, Bool.true_and]
    exact bindS (spans_p h.len) (bindS hp rfl)
  · rfl
theorem Right_sh {s : DShares} (h : OkSh s) : shares_Right s = some (rightW s, ()) := by
  unfold shares_Right
  exact bindS (right_p h) rfl
theorem ix2_p {l : List DShare} (hl : l.length ≤ 1000) (hs : ∀ x ∈ l, OkSp x.span) {k : Tx} (hk : OkT k) : slices_IndexFunc_4 l ((), ()) k = some (ixF (fun x => hasB x.span k) l, (((), ()), k, ())) := by
  have hc : ∀ x ∈ l, shares_at1_3 x ((), ()) k = some (hasB x.span k, (((), ()), k, ())) := fun x hx => by
    unfold shares_at1_3 shares_Of1
    exact bindS (bindS (Has_p (hs x hx) hk) rfl) rfl
  have h := ix_loop (step := slices_IndexFunc_4_l1) l (fun x => hasB x.span k) (fun i => ((l, (), (l.length : Int), i, ()), (((), ()), k, ()))) (fun i => .inl ((i, ()), (((), ()), k, ()))) (.inr ((), (((), ()), k, ())))
    (fun i hi hp => by
      unfold slices_IndexFunc_4_l1
      exact condT (dT (by dsimp only; omega)) (bindS (getI_lt hi) (bindS (hc _ (List.getElem_mem hi)) (condT hp rfl))))
    (fun i hi hp => by
      unfold slices_IndexFunc_4_l1
      refine condT (dT (by dsimp only; omega)) (bindS (getI_lt hi) (bindS (hc _ (List.getElem_mem hi)) (condF hp ?_)))
      dsimp only
      rw [w64 (by omega)]
      rfl)
    (by unfold slices_IndexFunc_4_l1; exact condF (dF (by dsimp only; omega)) rfl)
  unfold slices_IndexFunc_4 ixF
  refine bindS h ?_
  by_cases hq : l.any (fun x => hasB x.span k) = true
  · rw [if_pos hq, if_pos hq]
  · rw [if_neg hq, if_neg hq]
theorem ix3_p {l : List DShare} (hl : l.length ≤ 1000) (hs : ∀ x ∈ l, OkSp x.span) {a : DSpan} (ha : OkSp a) : slices_IndexFunc_3 l ((), ()) a = some (ixF (fun x => withinB a x.span) l, (((), ()), a, ())) := by
  have hc : ∀ x ∈ l, shares_at1_2 x ((), ()) a = some (withinB a x.span, (((), ()), a, ())) := fun x hx => by
    unfold shares_at1_2 shares_In1
    exact bindS (bindS (Within_p ha (hs x hx)) rfl) rfl
  have h := ix_loop (step := slices_IndexFunc_3_l1) l (fun x => withinB a x.span) (fun i => ((l, (), (l.length : Int), i, ()), (((), ()), a, ()))) (fun i => .inl ((i, ()), (((), ()), a, ()))) (.inr ((), (((), ()), a, ())))
    (fun i hi hp => by
      unfold slices_IndexFunc_3_l1
      exact condT (dT (by dsimp only; omega)) (bindS (getI_lt hi) (bindS (hc _ (List.getElem_mem hi)) (condT hp rfl))))
    (fun i hi hp => by
      unfold slices_IndexFunc_3_l1
      refine condT (dT (by dsimp only; omega)) (bindS (getI_lt hi) (bindS (hc _ (List.getElem_mem hi)) (condF hp ?_)))
      dsimp only
      rw [w64 (by omega)]
      rfl)
    (by unfold slices_IndexFunc_3_l1; exact condF (dF (by dsimp only; omega)) rfl)
  unfold slices_IndexFunc_3 ixF
  refine bindS h ?_
  by_cases hq : l.any (fun x => withinB a x.span) = true
  · rw [if_pos hq, if_pos hq]
  · rw [if_neg hq, if_neg hq]
theorem ix0_p {l : List DShare} (hl : l.length ≤ 1000) (hs : ∀ x ∈ l, OkSp x.span) {a : DSpan} (ha : OkSp a) : slices_IndexFunc_2 l ((), ()) a = some (ixF (fun x => withinB a x.span) l, (((), ()), a, ())) := by
  have hc : ∀ x ∈ l, shares_at1 x ((), ()) a = some (withinB a x.span, (((), ()), a, ())) := fun x hx => by
    unfold shares_at1 shares_Turn1
    exact bindS (bindS (Within_p ha (hs x hx)) rfl) rfl
  have h := ix_loop (step := slices_IndexFunc_2_l1) l (fun x => withinB a x.span) (fun i => ((l, (), (l.length : Int), i, ()), (((), ()), a, ()))) (fun i => .inl ((i, ()), (((), ()), a, ()))) (.inr ((), (((), ()), a, ())))
    (fun i hi hp => by
      unfold slices_IndexFunc_2_l1
      exact condT (dT (by dsimp only; omega)) (bindS (getI_lt hi) (bindS (hc _ (List.getElem_mem hi)) (condT hp rfl))))
    (fun i hi hp => by
      unfold slices_IndexFunc_2_l1
      refine condT (dT (by dsimp only; omega)) (bindS (getI_lt hi) (bindS (hc _ (List.getElem_mem hi)) (condF hp ?_)))
      dsimp only
      rw [w64 (by omega)]
      rfl)
    (by unfold slices_IndexFunc_2_l1; exact condF (dF (by dsimp only; omega)) rfl)
  unfold slices_IndexFunc_2 ixF
  refine bindS h ?_
  by_cases hq : l.any (fun x => withinB a x.span) = true
  · rw [if_pos hq, if_pos hq]
  · rw [if_neg hq, if_neg hq]
def noSh : DShare := ⟨⟨[], []⟩, 0, 0⟩
/-- The first share at which something holds. -/
def pickF (s : DShares) (p : DShare → Bool) : Option DShare := if rightW s = true ∧ s.list.any p = true then s.list[s.list.findIdx p]? else none
theorem share_p (s : DShares) (p : DShare → Bool) : shares_share ⟨s⟩ (bif rightW s then ixF p s.list else -1) = some (((pickF s p).getD noSh, (pickF s p).isSome, ()), ()) := by
  unfold shares_share pickF
  cases hr : rightW s
  · exact condT rfl (by simp [noSh])
  · simp only [cond_true, true_and]
    unfold ixF
    by_cases h : s.list.any p = true
    · obtain ⟨hi, _⟩ := ix_get h
      rw [if_pos h, if_pos h]
      refine condF (dF (by omega)) ?_
      refine bindS (getI_lt hi) ?_
      rw [List.getElem?_eq_getElem hi]
      rfl
    · rw [if_neg h, if_neg h]
      exact condT rfl rfl
theorem Of_p {s : DShares} (h : OkSh s) {k : Tx} (hk : OkT k) : shares_Of s k = some (((pickF s fun x => hasB x.span k).getD noSh, (pickF s fun x => hasB x.span k).isSome, ()), ()) := by
  have ha : shares_at_3 ⟨s⟩ k = some (bif rightW s then ixF (fun x => hasB x.span k) s.list else -1, (k, ())) := by
    unfold shares_at_3
    refine bindS (right_p h) ?_
    cases rightW s
    · rfl
    · exact condF rfl (bindS (ix2_p h.len h.sp hk) rfl)
  unfold shares_Of
  exact bindS ha (bindS (share_p s _) rfl)
theorem In_p {s : DShares} (h : OkSh s) {a : DSpan} (hk : OkSp a) : shares_In s a = some (((pickF s fun x => withinB a x.span).getD noSh, (pickF s fun x => withinB a x.span).isSome, ()), ()) := by
  have ha : shares_at_2 ⟨s⟩ a = some (bif rightW s then ixF (fun x => withinB a x.span) s.list else -1, (a, ())) := by
    unfold shares_at_2
    refine bindS (right_p h) ?_
    cases rightW s
    · rfl
    · exact condF rfl (bindS (ix3_p h.len h.sp hk) rfl)
  unfold shares_In
  exact bindS ha (bindS (share_p s _) rfl)
theorem has_ge {f : Tx} {l : List DSpan} {k : Tx} (h : partsF f l = true) : (∀ s ∈ l, hasB s k = true → ¬ k < f) ∧ (keyB k = true → ¬ k < f → ∃ s ∈ l, hasB s k = true) ∧ l.Pairwise (fun s t => ¬ (hasB s k = true ∧ hasB t k = true)) := by
  induction l generalizing f with
  | nil => cases h
  | cons s l ih =>
    cases l with
    | nil =>
      simp only [partsF, Bool.and_eq_true, decide_eq_true_eq] at h
      obtain ⟨h1, h2, h3⟩ := h
      refine ⟨fun t ht hk => ?_, fun hk hf => ⟨s, by simp, ?_⟩, by simp⟩
      · simp at ht
        subst ht
        simp only [hasB, Bool.and_eq_true, Bool.not_eq_true', decide_eq_false_iff_not] at hk
        rw [← h2]; exact hk.2.2.1
      · simp only [hasB, Bool.and_eq_true, Bool.not_eq_true', decide_eq_false_iff_not, Bool.or_eq_true, decide_eq_true_eq]
        exact ⟨h1, hk, by rw [h2]; exact hf, .inl h3⟩
    | cons t l =>
      simp only [partsF, Bool.and_eq_true, decide_eq_true_eq, Bool.not_eq_true', decide_eq_false_iff_not] at h
      obtain ⟨h1, h2, h3, h4⟩ := h
      obtain ⟨i1, i2, i3⟩ := ih h4
      have hlt : s.lo < s.hi := by
        simp only [rightB, Bool.and_eq_true, Bool.or_eq_true, decide_eq_true_eq] at h1
        exact h1.2.2.resolve_left h3
      refine ⟨fun u hu hk => ?_, fun hk hf => ?_, List.pairwise_cons.2 ⟨fun u hu hh => ?_, i3⟩⟩
      · rcases List.mem_cons.1 hu with rfl | hu
        · simp only [hasB, Bool.and_eq_true, Bool.not_eq_true', decide_eq_false_iff_not] at hk
          rw [← h2]; exact hk.2.2.1
        · have := i1 u hu hk
          rw [← h2]
          grind
      · by_cases hh : k < s.hi
        · refine ⟨s, by simp, ?_⟩
          simp only [hasB, Bool.and_eq_true, Bool.not_eq_true', decide_eq_false_iff_not, Bool.or_eq_true, decide_eq_true_eq]
          exact ⟨h1, hk, by rw [h2]; exact hf, .inr hh⟩
        · obtain ⟨u, hu, hu2⟩ := i2 hk hh
          exact ⟨u, List.mem_cons_of_mem _ hu, hu2⟩
      · have g1 := i1 u hu hh.2
        have g2 := hh.1
        simp only [hasB, Bool.and_eq_true, Bool.not_eq_true', decide_eq_false_iff_not, Bool.or_eq_true, decide_eq_true_eq] at g2
        exact g1 (g2.2.2.2.resolve_left h3)
end Go.Proofs.YtcamfdmgpmdmhaaGreat
/- What the laws of chapter 05 begin with; SharesKeys, plainly. -/
namespace Go.Proofs.YtcamfdmgpmdmhaaGreat
open Go.RowKit
set_option maxRecDepth 100000
set_option linter.unusedVariables false
set_option linter.unusedSimpArgs false
/-- The places of a cut at two texts. -/
def at2 (x y : Tx) : List Tx := if x = y then [x] else if y < x then [y, x] else [x, y]
theorem sd2 (x y : Tx) : sdF [x, y] = at2 x y := by
  have hs : [x, y].mergeSort leT = if leT x y then [x, y] else [y, x] := by
    rw [List.mergeSort]
    simp [List.MergeSort.Internal.splitInTwo, List.merge]
  unfold sdF at2
  rw [hs]
  by_cases h : x = y
  · subst h; simp [dd]
  · rw [if_neg h]
    by_cases h2 : y < x
    · have : ¬ x ≤ y := List.not_le.2 h2
      rw [if_pos h2, if_neg (by simpa [leT] using this)]
      simp [dd, Ne.symm h]
    · have : x ≤ y := List.not_lt.1 h2
      rw [if_neg h2, if_pos (by simpa [leT] using this)]
      simp [dd, h]
theorem CutAt_p {s : DSpan} {x y : Tx} (hs : OkSp s) (hx : OkT x) (hy : OkT y) (hr : rightB s = true) : span_Cut s [x, y] = some (cutF s (at2 x y), ((), ())) := by
  have := Cut_p (xs := [x, y]) hs (fun k hk => by
    simp only [List.mem_cons, List.not_mem_nil, or_false] at hk
    rcases hk with rfl | rfl
    · exact hx
    · exact hy) (by simp)
  rw [hr, sd2] at this
  exact this
theorem ok0 : OkSp ⟨[], []⟩ := ⟨by simp [OkT], by simp [OkT]⟩
theorem okm : OkSp ⟨[109], []⟩ := ⟨by simp [OkT], by simp [OkT]⟩
theorem cut_m : cutF ⟨[], []⟩ [[], [109]] = [⟨[], [109]⟩, ⟨[109], []⟩] := by decide +kernel
theorem First_p : shares_First 1 = some (⟨1, [⟨⟨[], []⟩, 1, 1⟩]⟩, ()) := by
  unfold shares_First
  refine bindS (within_p _ _ _) ?_
  exact condF (by decide) (bindS rfl rfl)
theorem parted_m : shares_parted ⟨⟨[], []⟩, 1, 1⟩ ⟨[109], []⟩ 2 2 = some ([⟨⟨[], [109]⟩, 1, 1⟩, ⟨⟨[109], []⟩, 2, 2⟩], ((), ())) := by
  have hc : span_Cut ⟨[], []⟩ [[109], []] = some ([⟨[], [109]⟩, ⟨[109], []⟩], ((), ())) := by
    rw [CutAt_p ok0 (by simp [OkT]) (by simp [OkT]) (by decide +kernel), show at2 [109] [] = [[], [109]] from by decide +kernel, cut_m]
  have l1 : shares_parted_l1 ((2, 2, (), (), [], [⟨[], [109]⟩, ⟨[109], []⟩], 2, 0, ()), (⟨⟨[], []⟩, 1, 1⟩, ⟨[109], []⟩, (), (), ())) = some (.inl ((2, 2, (), (), [⟨⟨[], [109]⟩, 1, 1⟩], [⟨[], [109]⟩, ⟨[109], []⟩], 2, 1, ()), (⟨⟨[], []⟩, 1, 1⟩, ⟨[109], []⟩, (), (), ()))) := by
    unfold shares_parted_l1
    refine condT rfl (bindS (v := ⟨[], [109]⟩) rfl (condF (by decide) (iteT (by simp) ?_)))
    rfl
  have l2 : shares_parted_l1 ((2, 2, (), (), [⟨⟨[], [109]⟩, 1, 1⟩], [⟨[], [109]⟩, ⟨[109], []⟩], 2, 1, ()), (⟨⟨[], []⟩, 1, 1⟩, ⟨[109], []⟩, (), (), ())) = some (.inl ((2, 2, (), (), [⟨⟨[], [109]⟩, 1, 1⟩, ⟨⟨[109], []⟩, 2, 2⟩], [⟨[], [109]⟩, ⟨[109], []⟩], 2, 2, ()), (⟨⟨[], []⟩, 1, 1⟩, ⟨[109], []⟩, (), (), ()))) := by
    unfold shares_parted_l1
    refine condT rfl (bindS (v := ⟨[109], []⟩) rfl (condT (by decide) (iteT (by simp) ?_)))
    rfl
  have l3 : shares_parted_l1 ((2, 2, (), (), [⟨⟨[], [109]⟩, 1, 1⟩, ⟨⟨[109], []⟩, 2, 2⟩], [⟨[], [109]⟩, ⟨[109], []⟩], 2, 2, ()), (⟨⟨[], []⟩, 1, 1⟩, ⟨[109], []⟩, (), (), ())) = some (.inr (([⟨⟨[], [109]⟩, 1, 1⟩, ⟨⟨[109], []⟩, 2, 2⟩], ()), (⟨⟨[], []⟩, 1, 1⟩, ⟨[109], []⟩, (), (), (), ()))) := by
    unfold shares_parted_l1
    exact condF rfl rfl
  unfold shares_parted
  refine bindS hc ?_
  refine bindS ((loopM_next l1).trans ((loopM_next l2).trans (loopM_end l3))) ?_
  rfl
theorem okf : OkSh ⟨1, [⟨⟨[], []⟩, 1, 1⟩]⟩ := ⟨by simp, by simpa using ok0⟩
theorem Turn_m : shares_Turn ⟨1, [⟨⟨[], []⟩, 1, 1⟩]⟩ ⟨[109], []⟩ 2 = some (((2, [⟨⟨[], [109]⟩, 1, 1⟩, ⟨⟨[109], []⟩, 2, 2⟩], ()), 0, ()), ((), ())) := by
  have hr : rightW ⟨1, [⟨⟨[], []⟩, 1, 1⟩]⟩ = true := by decide +kernel
  have ha : shares_at ⟨⟨1, [⟨⟨[], []⟩, 1, 1⟩]⟩⟩ ⟨[109], []⟩ = some (0, (⟨[109], []⟩, ())) := by
    unfold shares_at
    refine bindS (right_p okf) ?_
    refine condF (by rw [hr]; rfl) ?_
    refine bindS (ix0_p okf.len okf.sp okm) ?_
    have : ixF (fun x => withinB ⟨[109], []⟩ x.span) [⟨⟨[], []⟩, 1, 1⟩] = 0 := by decide +kernel
    dsimp only
    rw [this]
  unfold shares_Turn
  refine bindS ha ?_
  refine bindS (right_p okf) ?_
  refine condF (by rw [hr]; rfl) ?_
  refine bindS (Right_p okm) ?_
  refine condF (by decide +kernel) ?_
  refine bindS (within_p _ _ _) ?_
  refine condF (by decide) ?_
  refine condF rfl ?_
  refine bindS (v := ⟨⟨[], []⟩, 1, 1⟩) rfl ?_
  refine condF (by decide) ?_
  refine bindS (v := ⟨⟨[], []⟩, 1, 1⟩) rfl ?_
  refine bindS (v := (1, ([⟨⟨[], []⟩, 1, 1⟩], ()))) (by unfold cloneA71; exact if_pos (by simp)) ?_
  refine bindS (v := ([⟨⟨[], [109]⟩, 1, 1⟩, ⟨⟨[109], []⟩, 2, 2⟩], ((), ()))) (by
    show shares_parted _ _ _ (IntKind.i64.wrap (1 + 1)) = _
    rw [show IntKind.i64.wrap (1 + 1) = 2 from by decide]
    exact parted_m) ?_
  refine bindS (v := ([⟨⟨[], [109]⟩, 1, 1⟩, ⟨⟨[109], []⟩, 2, 2⟩], ((), (), ()))) (by
    unfold replace
    dsimp only
    rw [show IntKind.i64.wrap (0 + 1) = 1 from by decide]
    exact if_pos ⟨rfl, by omega, by omega, by simp, by simp, by simp⟩) ?_
  refine condF (by decide) ?_
  refine condF rfl ?_
  rfl
/-- The shares of a key. -/
def ofF (s : DShares) (k : Tx) : Option DShare := pickF s fun x => hasB x.span k
end Go.Proofs.YtcamfdmgpmdmhaaGreat
/- What a turn makes of shares, plainly. -/
namespace Go.Proofs.YtcamfdmgpmdmhaaGreat
open Go.RowKit
set_option maxRecDepth 100000
set_option linter.unusedVariables false
set_option linter.unusedSimpArgs false
/-- A piece of a share. -/
def pieceF (x : DShare) (a : DSpan) (g e : Int) (s : DSpan) : DShare := bif decide (s.lo = a.lo) && (decide (s.hi = a.hi) && true) then ⟨s, g, e⟩ else ⟨s, x.group, x.epoch⟩
def partF (x : DShare) (a : DSpan) (g e : Int) : List DShare := (cutF x.span (at2 a.lo a.hi)).map (pieceF x a g e)
theorem at2_len (x y : Tx) : (at2 x y).length ≤ 2 := by
  unfold at2
  split
  · simp
  · split <;> simp
theorem parted_p {x : DShare} {a : DSpan} {g e : Int} (hx : OkSp x.span) (ha : OkSp a) (hr : rightB x.span = true) : shares_parted x a g e = some (partF x a g e, ((), ())) := by
  have hl := cutF_len x.span (at2 a.lo a.hi)
  have hl2 := at2_len a.lo a.hi
  unfold shares_parted
  refine bindS (CutAt_p hx ha.1 ha.2 hr) ?_
  unfold partF
  generalize cutF x.span (at2 a.lo a.hi) = l at *
  have h := loopM_run (step := shares_parted_l1) (fun i : Nat => ((g, e, (), (), (l.take i).map (pieceF x a g e), l, (l.length : Int), (i : Int), ()), (x, a, (), (), ()))) (N := l.length) (b := ((l.map (pieceF x a g e), ()), (x, a, (), (), (), ())))
    (fun i hi => by
      unfold shares_parted_l1
      refine condT (dT (by dsimp only; omega)) (bindS (getI_lt hi) ?_)
      have ht : (l.take (i + 1)).map (pieceF x a g e) = (l.take i).map (pieceF x a g e) ++ [pieceF x a g e l[i]] := by
        rw [List.take_succ_eq_append_getElem hi, List.map_append]
        rfl
      rw [ht]
      unfold pieceF
      cases (decide (l[i].lo = a.lo) && (decide (l[i].hi = a.hi) && true))
      · refine condF rfl (iteT (by simp; omega) ?_)
        dsimp only
        rw [w64 (by omega)]
        rfl
      · refine condT rfl (iteT (by simp; omega) ?_)
        dsimp only
        rw [w64 (by omega)]
        rfl)
    (by
      unfold shares_parted_l1
      refine condF (dF (by dsimp only; omega)) ?_
      dsimp only
      rw [List.take_length])
  exact bindS h rfl
/-- Shares, turned at a place. -/
def turnF (s : DShares) (i : Nat) (a : DSpan) (g : Int) : DShares := ⟨s.epoch + 1, s.list.take i ++ partF (s.list[i]?.getD noSh) a g (s.epoch + 1) ++ s.list.drop (i + 1)⟩
theorem cutF_ne (s : DSpan) (l : List Tx) : 1 ≤ (cutF s l).length := by
  induction l generalizing s with
  | nil => simp [cutF]
  | cons k l ih =>
    unfold cutF
    cases hasB s k
    · exact ih s
    · by_cases h : k = s.lo
      · simp [h]; exact ih s
      · simp [h]
theorem at_in {s : DShares} (h : OkSh s) {a : DSpan} (ha : OkSp a) : shares_at ⟨s⟩ a = some (bif rightW s then ixF (fun x => withinB a x.span) s.list else -1, (a, ())) := by
  unfold shares_at
  refine bindS (right_p h) ?_
  cases rightW s
  · rfl
  · exact condF rfl (bindS (ix0_p h.len h.sp ha) rfl)
theorem within_right {a b : DSpan} (h : withinB a b = true) : rightB a = true ∧ rightB b = true := by
  simp only [withinB, Bool.and_eq_true] at h
  exact ⟨h.1, h.2.1⟩
end Go.Proofs.YtcamfdmgpmdmhaaGreat
/- Spans that part a span: put in the place of it, they part what was parted. -/
namespace Go.Proofs.YtcamfdmgpmdmhaaGreat
open Go.RowKit
set_option maxRecDepth 100000
set_option linter.unusedVariables false
set_option linter.unusedSimpArgs false
/-- Do spans part all keys from a text on up to another one? -/
def partsE (h : Tx) : Tx → List DSpan → Bool
  | _, [] => false
  | f, [s] => rightB s && (decide (s.lo = f) && decide (s.hi = h))
  | f, s :: t :: l => rightB s && (decide (s.lo = f) && (!decide (s.hi = []) && partsE h s.hi (t :: l)))
theorem partsF_E : ∀ (f : Tx) (l : List DSpan), partsF f l = partsE [] f l
  | _, [] => rfl
  | _, [_] => rfl
  | f, s :: t :: l => by
    unfold partsF partsE
    rw [partsF_E s.hi (t :: l)]
theorem partsE_ne {h f : Tx} {l : List DSpan} (k : partsE h f l = true) : l ≠ [] := fun e => by subst e; cases k
theorem partsE_cons {h f : Tx} {s : DSpan} {l : List DSpan} (hl : l ≠ []) : partsE h f (s :: l) = (rightB s && (decide (s.lo = f) && (!decide (s.hi = []) && partsE h s.hi l))) := by
  cases l with
  | nil => exact absurd rfl hl
  | cons t l => rfl
theorem keyB_ne {k : Tx} (h : keyB k = true) : k ≠ [] := by
  unfold keyB at h
  simp only [Bool.and_eq_true, Bool.not_eq_true', decide_eq_false_iff_not] at h
  exact h.1
/-- Where a right span is cut, the pieces part it. -/
theorem cutF_parts : ∀ (l : List Tx) {s : DSpan}, rightB s = true → partsE s.hi s.lo (cutF s l) = true
  | [], s, h => by simp [cutF, partsE, h]
  | k :: l, s, h => by
    rw [cutF_cons]
    cases hk : hasB s k
    · exact cutF_parts l h
    · by_cases he : k = s.lo
      · rw [dT he]; exact cutF_parts l h
      · rw [dF he]
        simp only [Bool.not_true, cond_false]
        simp only [hasB, Bool.and_eq_true, Bool.not_eq_true', decide_eq_false_iff_not, Bool.or_eq_true, decide_eq_true_eq] at hk
        have hr := h
        simp only [rightB, Bool.and_eq_true, Bool.or_eq_true, decide_eq_true_eq] at hr
        have h2 : rightB ⟨k, s.hi⟩ = true := by
          simp only [rightB, Bool.and_eq_true, Bool.or_eq_true, decide_eq_true_eq]
          exact ⟨.inr hk.2.1, hr.2.1, hk.2.2.2⟩
        have ih := cutF_parts l h2
        rw [partsE_cons (partsE_ne ih)]
        simp only [Bool.and_eq_true, decide_eq_true_eq, Bool.not_eq_true', decide_eq_false_iff_not]
        refine ⟨?_, trivial, keyB_ne hk.2.1, ih⟩
        simp only [rightB, Bool.and_eq_true, Bool.or_eq_true, decide_eq_true_eq]
        exact ⟨hr.1, .inr hk.2.1, .inr (by grind)⟩
theorem piece_span (x : DShare) (a : DSpan) (g e : Int) (s : DSpan) : (pieceF x a g e s).span = s := by
  unfold pieceF
  cases (decide (s.lo = a.lo) && (decide (s.hi = a.hi) && true)) <;> rfl
theorem wrong_of {s : DShares} {x : DShare} : wrongB s x = false ↔ (1 ≤ x.group ∧ x.group ≤ 4) ∧ (1 ≤ x.epoch ∧ x.epoch ≤ s.epoch) := by
  unfold wrongB
  simp only [Bool.or_eq_false_iff, Bool.not_eq_false', Bool.and_eq_true, decide_eq_true_eq]
theorem right_iff {s : DShares} : rightW s = true ↔ (1 ≤ s.epoch ∧ s.epoch ≤ 1073741824) ∧ s.list.length ≤ 40 ∧ (∀ x ∈ s.list, wrongB s x = false) ∧ partsF [] (s.list.map (·.span)) = true := by
  unfold rightW
  simp only [Bool.and_eq_true, decide_eq_true_eq, Bool.not_eq_true', List.any_eq_false, Bool.not_eq_true]
end Go.Proofs.YtcamfdmgpmdmhaaGreat
