/- SharesTurn, plainly: what is turned is right, and has the groups and the epochs that it must have. -/
import Derived.Test.YtcamfdmgpmdmhaaTpy
namespace Go.Proofs.Ytcamfdmgpmdmhaa
open Go.RowKit
set_option maxRecDepth 100000
set_option linter.unusedVariables false
set_option linter.unusedSimpArgs false
theorem lt_nil (a : Tx) : ¬ a < [] := by simp
theorem nil_lt {a : Tx} (h : a ≠ []) : ([] : Tx) < a := by
  cases a with
  | nil => exact absurd rfl h
  | cons x l => exact List.nil_lt_cons x l
theorem no_nil (s : DSpan) : hasB s [] = false := by
  have : keyB ([] : Tx) = false := by decide
  simp [hasB, this]
/-- What lies within a span is one of its pieces, where it is cut at its ends. -/
theorem in_mem {a s : DSpan} (h : withinB a s = true) : a ∈ cutF s (at2 a.lo a.hi) := by
  obtain ⟨al, ah⟩ := a
  obtain ⟨sl, sh⟩ := s
  simp only [withinB, Bool.and_eq_true, Bool.not_eq_true', decide_eq_false_iff_not, Bool.or_eq_true, decide_eq_true_eq] at h
  obtain ⟨h1, h2, h3, h4⟩ := h
  have hr := h1
  simp only [rightB, Bool.and_eq_true, Bool.or_eq_true, decide_eq_true_eq] at hr
  obtain ⟨r1, r2, r3⟩ := hr
  have has : ∀ (t : DSpan) (k : Tx), rightB t = true → keyB k = true → ¬ k < t.lo → (t.hi = [] ∨ k < t.hi) → hasB t k = true := fun t k q1 q2 q3 q4 => by
    simp only [hasB, Bool.and_eq_true, Bool.not_eq_true', decide_eq_false_iff_not, Bool.or_eq_true, decide_eq_true_eq]
    exact ⟨q1, q2, q3, q4⟩
  -- cut at the upper end
  have upper : ∀ t : DSpan, rightB t = true → t.lo = al → t.hi = sh → ah ≠ [] → (⟨al, ah⟩ : DSpan) ∈ cutF t [ah] := fun t q1 q2 q3 q4 => by
    have hk : keyB ah = true := r2.resolve_left q4
    have hlt : al < ah := r3.resolve_left q4
    rw [cutF_cons]
    by_cases he : ah = sh
    · have hn : hasB t ah = false := by
        cases hh : hasB t ah
        · rfl
        · simp only [hasB, Bool.and_eq_true, Bool.not_eq_true', decide_eq_false_iff_not, Bool.or_eq_true, decide_eq_true_eq] at hh
          rw [q3, ← he] at hh
          rcases hh.2.2.2 with q | q
          · exact absurd q q4
          · exact absurd q (by grind)
      rw [hn]
      simp only [Bool.not_false, cond_true, cutF, List.mem_singleton]
      rw [← q2, he, ← q3]
    · have hh : hasB t ah = true := has t ah q1 hk (by rw [q2]; grind) (by
        rw [q3]
        rcases h4 with q | q
        · exact .inl q
        · right; have := q.2; grind)
      rw [hh, dF (by rw [q2]; grind)]
      simp only [Bool.not_true, cond_false]
      rw [q2]
      exact List.mem_cons_self
  have nl : ∀ x : Tx, ¬ ([] : Tx) < x → x = [] := fun x hx => by
    cases x with
    | nil => rfl
    | cons y l => exact absurd (List.nil_lt_cons y l) hx
  have sR : rightB ⟨sl, sh⟩ = true := h2
  have hal : al ≠ [] → (sh = [] ∨ al < sh) → hasB ⟨sl, sh⟩ al = true := fun q1 q2 => has ⟨sl, sh⟩ al h2 (r1.resolve_left q1) h3 q2
  unfold at2
  dsimp only
  by_cases e : al = ah
  · rw [if_pos e]
    have hah : ah = [] := r3.resolve_right (by rw [e]; grind)
    have hal0 : al = [] := by rw [e, hah]
    rw [hal0] at h3 ⊢
    rw [hah] at h4 ⊢
    rw [cutF_cons, no_nil]
    simp only [Bool.not_false, cond_true, cutF, List.mem_singleton]
    rw [nl sl h3, h4.resolve_right (fun q => absurd rfl q.1)]
  · rw [if_neg e]
    by_cases hlt : ah < al
    · rw [if_pos hlt]
      have hah : ah = [] := r3.resolve_right (by grind)
      have hsh : sh = [] := h4.resolve_right (fun q => absurd hah q.1)
      have hne : al ≠ [] := fun q => e (by rw [q, hah])
      rw [hah, cutF_cons, no_nil]
      simp only [Bool.not_false, cond_true]
      rw [cutF_cons, hal hne (.inl hsh)]
      simp only [Bool.not_true, cond_false]
      by_cases hq : al = sl
      · rw [dT hq]
        simp only [cond_true, cutF, List.mem_singleton]
        rw [hq, hsh]
      · rw [dF hq]
        simp only [cond_false, cutF, List.mem_cons]
        exact .inr (.inl (by rw [hsh]))
    · rw [if_neg hlt]
      have hne : ah ≠ [] := fun q => by
        rw [q] at hlt e
        exact e (nl al hlt)
      have hlt2 : al < ah := r3.resolve_left hne
      by_cases ha0 : al = []
      · rw [cutF_cons, ha0, no_nil]
        simp only [Bool.not_false, cond_true]
        rw [ha0] at h3
        have := upper ⟨sl, sh⟩ h2 (by rw [ha0]; exact nl sl h3) rfl hne
        rw [ha0] at this
        exact this
      · have hin : sh = [] ∨ al < sh := by
          rcases h4 with q | q
          · exact .inl q
          · right; have := q.2; grind
        rw [cutF_cons, hal ha0 hin]
        simp only [Bool.not_true, cond_false]
        by_cases hq : al = sl
        · rw [dT hq]
          exact upper ⟨sl, sh⟩ h2 hq.symm rfl hne
        · rw [dF hq]
          have hs := h2
          simp only [rightB, Bool.and_eq_true, Bool.or_eq_true, decide_eq_true_eq] at hs
          have h5 : rightB ⟨al, sh⟩ = true := by
            simp only [rightB, Bool.and_eq_true, Bool.or_eq_true, decide_eq_true_eq]
            exact ⟨r1, hs.2.1, hin⟩
          exact List.mem_cons_of_mem _ (upper ⟨al, sh⟩ h5 rfl rfl hne)
theorem one_mem {s : DShares} (h : rightW s = true) {k : Tx} {x y : DShare} (hx : x ∈ s.list) (hy : y ∈ s.list) (h1 : hasB x.span k = true) (h2 : hasB y.span k = true) : x = y := by
  obtain ⟨i, hi, rfl⟩ := List.mem_iff_getElem.1 hx
  obtain ⟨j, hj, rfl⟩ := List.mem_iff_getElem.1 hy
  have := one_key h hi hj h1 h2
  subst this
  rfl
theorem of_key {s : DShares} (h : rightW s = true) {k : Tx} (hk : keyB k = true) : ∃ x, ofF s k = some x ∧ x ∈ s.list ∧ hasB x.span k = true := by
  have hs := pick_is (s := s) (p := fun x => hasB x.span k)
  rw [h, any_key h, hk] at hs
  cases hq : ofF s k with
  | none => change (ofF s k).isSome = _ at hs; rw [hq] at hs; cases hs
  | some x =>
    obtain ⟨_, i, hi, rfl, hp⟩ := pick_some hq
    exact ⟨_, rfl, List.getElem_mem hi, hp⟩
/-- The shares of a key ahead of a turn and behind it. -/
theorem turn_key {s : DShares} (h : rightW s = true) {a : DSpan} {g : Int} {i : Nat} (hi : i < s.list.length) (hw : withinB a s.list[i].span = true) (hgr : s.list[i].group ≠ g) (ht : rightW (turnF s i a g) = true) {k : Tx} (hk : keyB k = true) :
    ∃ x y, ofF s k = some x ∧ ofF (turnF s i a g) k = some y ∧ (hasB a k = true → y.group = g ∧ y.epoch = s.epoch + 1 ∧ x.group ≠ g) ∧ (hasB a k = false → x.group = y.group ∧ x.epoch = y.epoch) := by
  obtain ⟨x, hx, mx, kx⟩ := of_key h hk
  obtain ⟨y, hy, my, ky⟩ := of_key ht hk
  have hxe : s.list[i]?.getD noSh = s.list[i] := by rw [List.getElem?_eq_getElem hi]; rfl
  refine ⟨x, y, hx, hy, fun ha => ?_, fun ha => ?_⟩
  · have e1 : x = s.list[i] := one_mem h mx (List.getElem_mem hi) kx (within_has hw ha)
    have e2 : y = ⟨a, g, s.epoch + 1⟩ := by
      refine one_mem ht my ?_ ky ha
      unfold turnF
      rw [hxe]
      simp only [List.mem_append]
      refine .inl (.inr ?_)
      unfold partF
      refine List.mem_map.2 ⟨a, in_mem hw, ?_⟩
      unfold pieceF
      simp
    rw [e1, e2]
    exact ⟨rfl, rfl, hgr⟩
  · obtain ⟨j, hj, rfl⟩ := List.mem_iff_getElem.1 mx
    by_cases hji : j = i
    · subst hji
      have my2 := my
      unfold turnF at my2
      rw [hxe] at my2
      simp only [List.mem_append] at my2
      rcases my2 with (my2 | my2) | my2
      · rw [one_mem h mx (List.mem_of_mem_take my2) kx ky]; exact ⟨rfl, rfl⟩
      · unfold partF at my2
        obtain ⟨p, _, rfl⟩ := List.mem_map.1 my2
        rw [piece_span] at ky
        unfold pieceF
        by_cases hp : p.lo = a.lo ∧ p.hi = a.hi
        · have : p = a := by cases p; cases a; simp_all
          rw [this, ha] at ky
          cases ky
        · have : (decide (p.lo = a.lo) && (decide (p.hi = a.hi) && true)) = false := by
            simp only [Bool.and_true, Bool.and_eq_false_iff, decide_eq_false_iff_not]
            by_cases h1 : p.lo = a.lo
            · exact .inr fun h2 => hp ⟨h1, h2⟩
            · exact .inl h1
          rw [this]
          exact ⟨rfl, rfl⟩
      · rw [one_mem h mx (List.mem_of_mem_drop my2) kx ky]; exact ⟨rfl, rfl⟩
    · have mt : s.list[j] ∈ (turnF s i a g).list := by
        unfold turnF
        simp only [List.mem_append]
        rcases Nat.lt_or_gt_of_ne hji with hlt | hgt
        · exact .inl (.inl (List.mem_take_iff_getElem.2 ⟨j, by omega, rfl⟩))
        · refine .inr (List.mem_drop_iff_getElem.2 ⟨j - (i + 1), by omega, ?_⟩)
          congr 1
          omega
      rw [one_mem ht mt my kx ky]
      exact ⟨rfl, rfl⟩
theorem cutF_ok : ∀ (l : List Tx) {s : DSpan}, OkSp s → (∀ k ∈ l, OkT k) → ∀ x ∈ cutF s l, OkSp x
  | [], s, h, _, x, hx => by
    simp only [cutF, List.mem_singleton] at hx
    rw [hx]; exact h
  | k :: l, s, h, hl, x, hx => by
    have hk := hl k List.mem_cons_self
    have hl' : ∀ k ∈ l, OkT k := fun y hy => hl y (List.mem_cons_of_mem _ hy)
    rw [cutF_cons] at hx
    cases hh : hasB s k
    · rw [hh] at hx
      exact cutF_ok l h hl' x hx
    · rw [hh] at hx
      by_cases he : k = s.lo
      · rw [dT he] at hx
        exact cutF_ok l h hl' x hx
      · rw [dF he] at hx
        simp only [Bool.not_true, cond_false, List.mem_cons] at hx
        rcases hx with rfl | hx
        · exact ⟨h.1, hk⟩
        · exact cutF_ok l (s := ⟨k, s.hi⟩) ⟨hk, h.2⟩ hl' x hx
theorem turnF_ok {s : DShares} (h : ∀ x ∈ s.list, OkSp x.span) {a : DSpan} (ha : OkSp a) {g : Int} {i : Nat} (hi : i < s.list.length) : ∀ x ∈ (turnF s i a g).list, OkSp x.span := by
  intro x hx
  have hxe : s.list[i]?.getD noSh = s.list[i] := by rw [List.getElem?_eq_getElem hi]; rfl
  unfold turnF at hx
  rw [hxe] at hx
  simp only [List.mem_append] at hx
  rcases hx with (hx | hx) | hx
  · exact h _ (List.mem_of_mem_take hx)
  · unfold partF at hx
    obtain ⟨p, hp, rfl⟩ := List.mem_map.1 hx
    rw [piece_span]
    refine cutF_ok _ (h _ (List.getElem_mem hi)) (fun k hk => ?_) p hp
    unfold at2 at hk
    split at hk
    · simp only [List.mem_singleton] at hk; rw [hk]; exact ha.1
    · split at hk <;> simp only [List.mem_cons, List.not_mem_nil, or_false] at hk <;> rcases hk with rfl | rfl
      · exact ha.2
      · exact ha.1
      · exact ha.1
      · exact ha.2
  · exact h _ (List.mem_of_mem_drop hx)
theorem Of_o {s : DShares} (h : OkSh s) {k : Tx} (hk : OkT k) : shares_Of s k = some (((ofF s k).getD noSh, (ofF s k).isSome, ()), ()) := Of_p h hk
end Go.Proofs.Ytcamfdmgpmdmhaa
