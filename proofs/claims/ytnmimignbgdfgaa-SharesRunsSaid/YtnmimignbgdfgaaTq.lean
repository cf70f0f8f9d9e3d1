/- The reference of Turn, plainly: it tells what Turn tells. -/
import Derived.Test.YtnmimignbgdfgaaRq
namespace Go.Proofs.Ytnmimignbgdfgaa
open Go.RowKit
set_option maxRecDepth 100000
set_option linter.unusedVariables false
set_option linter.unusedSimpArgs false
theorem partsE_pw {h : Tx} : ∀ {l : List DSpan} {f : Tx}, partsE h f l = true → (los l).Pairwise fun x y => x < y
  | [], _, q => by cases q
  | [s], _, _ => by simp [los]
  | s :: t :: l, f, q => by
    rw [partsE_cons (by simp)] at q
    simp only [Bool.and_eq_true, decide_eq_true_eq, Bool.not_eq_true', decide_eq_false_iff_not] at q
    have h1 := (right_iff_.1 q.1).2.2.resolve_left q.2.2.1
    have ih := partsE_pw q.2.2.2
    rw [los_cons, List.pairwise_cons]
    refine ⟨fun y hy => ?_, ih⟩
    have := partsE_ge q.2.2.2 y hy
    grind
theorem lo_one {s : DShares} (h : rightW s = true) {i j : Nat} (hi : i < s.list.length) (hj : j < s.list.length) (he : s.list[j].span.lo = s.list[i].span.lo) : j = i := by
  have hp := (right_iff.1 h).2.2.2
  rw [partsF_E] at hp
  have hpw := List.pairwise_iff_getElem.1 (partsE_pw hp)
  have hg : ∀ k (hk : k < s.list.length), (los (s.list.map (·.span)))[k]'(by simpa [los] using hk) = s.list[k].span.lo := fun k hk => by simp [los]
  rcases Nat.lt_trichotomy j i with c | c | c
  · have := hpw j i (by simpa [los] using hj) (by simpa [los] using hi) c
    rw [hg j hj, hg i hi, he] at this
    exact absurd this (ltT _)
  · exact c
  · have := hpw i j (by simpa [los] using hi) (by simpa [los] using hj) c
    rw [hg j hj, hg i hi, he] at this
    exact absurd this (ltT _)
/-- The texts of a span that are some. -/
def neF (a : DSpan) : List Tx := (if a.lo = [] then [] else [a.lo]) ++ (if a.hi = [] then [] else [a.hi])
theorem has_ne {s : DSpan} {y : Tx} (h : hasB s y = true) : y ≠ [] := keyB_ne (has_iff.1 h).2.1
theorem mem_ne {a : DSpan} {y : Tx} (hy : y ≠ []) : y ∈ neF a ↔ y ∈ at2 a.lo a.hi := by
  have h2 : y ∈ at2 a.lo a.hi ↔ y = a.lo ∨ y = a.hi := by
    unfold at2
    by_cases h : a.lo = a.hi
    · rw [if_pos h]; simp [h]
    · rw [if_neg h]; split <;> simp [or_comm]
  rw [h2]
  unfold neF
  rw [List.mem_append]
  constructor
  · rintro (h | h)
    · split at h
      · cases h
      · simp only [List.mem_singleton] at h; exact .inl h
    · split at h
      · cases h
      · simp only [List.mem_singleton] at h; exact .inr h
  · rintro (h | h)
    · left; rw [if_neg (fun e => hy (h.trans e)), h]; exact List.mem_singleton.2 rfl
    · right; rw [if_neg (fun e => hy (h.trans e)), h]; exact List.mem_singleton.2 rfl
theorem at2_pw (x y : Tx) : (at2 x y).Pairwise fun x y => ¬ y < x := by
  unfold at2
  split
  · simp
  · split
    · rename_i h1 h2
      simp only [List.pairwise_cons, List.mem_singleton, forall_eq, List.not_mem_nil, false_imp_iff, implies_true, List.Pairwise.nil, and_true]
      grind
    · rename_i h1 h2
      simp only [List.pairwise_cons, List.mem_singleton, forall_eq, List.not_mem_nil, false_imp_iff, implies_true, List.Pairwise.nil, and_true]
      exact h2
theorem ins_cut {s : DSpan} (hr : rightB s = true) (a : DSpan) : insAll [s] (neF a) = cutF s (at2 a.lo a.hi) := by
  have h0 : partsE s.hi s.lo [s] = true := by simp [partsE, hr]
  refine partsE_ext (insAll_parts h0) (cutF_parts _ hr) fun y => ?_
  rw [insAll_los hr h0, cutF_los hr (at2_pw _ _)]
  have hl : y ∈ los [s] ↔ y = s.lo := by simp [los]
  rw [hl]
  constructor
  · rintro (h | ⟨h, g⟩)
    · exact .inl h
    · exact .inr ⟨(mem_ne (has_ne g)).1 h, g⟩
  · rintro (h | ⟨h, g⟩)
    · exact .inl h
    · exact .inr ⟨(mem_ne (has_ne g)).2 h, g⟩
theorem neF_ok {a : DSpan} (ha : OkSp a) : ∀ k ∈ neF a, OkT k := by
  intro k hk
  unfold neF at hk
  rcases List.mem_append.1 hk with h | h
  · split at h
    · cases h
    · rw [List.mem_singleton.1 h]; exact ha.1
  · split at h
    · cases h
    · rw [List.mem_singleton.1 h]; exact ha.2
theorem neF_len (a : DSpan) : (neF a).length ≤ 2 := by
  unfold neF
  rw [List.length_append]
  split <;> split <;> simp
theorem refR5_p {s : DShares} (h : OkSh s) : watershedref05_Right s = some (rightW s, ()) := by
  have hlen := h.len
  unfold watershedref05_Right
  by_cases h1 : s.epoch < 1
  · refine condT (dT h1) ?_
    have : rightW s = false := by unfold rightW; rw [dF (by omega : ¬ 1 ≤ s.epoch)]; rfl
    rw [this]
  refine condF (dF h1) ?_
  by_cases h2 : 1073741824 < s.epoch
  · refine condT (dT h2) ?_
    have : rightW s = false := by unfold rightW; rw [dF (by omega : ¬ s.epoch ≤ 1073741824), Bool.and_false]; rfl
    rw [this]
  refine condF (dF h2) ?_
  by_cases h3 : (40 : Int) < (s.list.length : Int)
  · refine condT (dT h3) ?_
    have : rightW s = false := by unfold rightW; rw [dF (by omega : ¬ s.list.length ≤ 40)]; simp
    rw [this]
  refine condF (dF h3) ?_
  have hrw : rightW s = (!(s.list.any (wrongB s)) && partsF [] (s.list.map (·.span))) := by
    unfold rightW
    rw [dT (by omega : 1 ≤ s.epoch), dT (by omega : s.epoch ≤ 1073741824), dT (by omega : s.list.length ≤ 40)]
    rfl
  have key : ∃ z, loopM watershedref05_Right_l1 (((), [], 0, ()), (s, (), ())) = some z ∧ (((∃ e : Unit × Unit, z = .inl ((false, ()), (s, (), ()))) ∧ s.list.any (wrongB s) = true) ∨ (z = .inr ((s.list.map (·.span), ()), (s, (), (), ())) ∧ s.list.any (wrongB s) = false)) := by
    refine loopM_spec (fun n a => ∃ i : Nat, a = (((), (s.list.take i).map (·.span), (i : Int), ()), (s, (), ())) ∧ i ≤ s.list.length ∧ (s.list.take i).any (wrongB s) = false ∧ n = s.list.length - i) _ ?_ (n := s.list.length) ⟨0, rfl, Nat.zero_le _, rfl, rfl⟩
    rintro n a ⟨i, rfl, g1, g2, rfl⟩
    unfold watershedref05_Right_l1
    by_cases hi : i < s.list.length
    · have hw : ∀ b, wrongB s s.list[i] = b → (b = true → s.list.any (wrongB s) = true) := fun b hb ht => List.any_eq_true.2 ⟨_, List.getElem_mem hi, by rw [hb, ht]⟩
      by_cases q1 : s.list[i].group < 1
      · right
        exact ⟨_, condT (dT (by dsimp only; omega)) (bindS (getI_lt hi) (condT (dT q1) rfl)), .inl ⟨⟨((), ()), rfl⟩, hw true (by unfold wrongB; rw [dF (by omega : ¬ 1 ≤ s.list[i].group)]; rfl) rfl⟩⟩
      by_cases q2 : 4 < s.list[i].group
      · right
        exact ⟨_, condT (dT (by dsimp only; omega)) (bindS (getI_lt hi) (condF (dF q1) (condT (dT q2) rfl))), .inl ⟨⟨((), ()), rfl⟩, hw true (by unfold wrongB; rw [dF (by omega : ¬ s.list[i].group ≤ 4), Bool.and_false]; rfl) rfl⟩⟩
      by_cases q3 : s.list[i].epoch < 1
      · right
        exact ⟨_, condT (dT (by dsimp only; omega)) (bindS (getI_lt hi) (condF (dF q1) (condF (dF q2) (condT (dT q3) rfl)))), .inl ⟨⟨((), ()), rfl⟩, hw true (by unfold wrongB; rw [dF (by omega : ¬ 1 ≤ s.list[i].epoch)]; simp) rfl⟩⟩
      by_cases q4 : s.epoch < s.list[i].epoch
      · right
        exact ⟨_, condT (dT (by dsimp only; omega)) (bindS (getI_lt hi) (condF (dF q1) (condF (dF q2) (condF (dF q3) (condT (dT q4) rfl))))), .inl ⟨⟨((), ()), rfl⟩, hw true (by unfold wrongB; rw [dF (by omega : ¬ s.list[i].epoch ≤ s.epoch)]; simp) rfl⟩⟩
      · left
        refine ⟨s.list.length - (i + 1), _, by omega, condT (dT (by dsimp only; omega)) (bindS (getI_lt hi) (condF (dF q1) (condF (dF q2) (condF (dF q3) (condF (dF q4) (iteT ?_ rfl)))))), i + 1, ?_, by omega, ?_, rfl⟩
        · dsimp only
          simp only [List.length_map, List.length_take, List.length_cons, List.length_nil]
          omega
        · dsimp only
          rw [w64 (by omega), List.take_succ_eq_append_getElem hi, List.map_append]
          rfl
        · rw [List.take_succ_eq_append_getElem hi, List.any_append, g2, Bool.false_or, List.any_cons, List.any_nil, Bool.or_false]
          exact wrong_of.2 ⟨⟨by omega, by omega⟩, by omega, by omega⟩
    · right
      obtain rfl : i = s.list.length := by omega
      rw [List.take_length] at g2 ⊢
      exact ⟨_, condF (dF (by dsimp only; omega)) rfl, .inr ⟨rfl, g2⟩⟩
  obtain ⟨z, hz, ⟨⟨_, rfl⟩, q⟩ | ⟨rfl, q⟩⟩ := key
  · refine bindS hz ?_
    rw [hrw, q]
    rfl
  · refine bindS hz ?_
    refine bindS (refParts_p (l := s.list.map (·.span)) (by rw [List.length_map]; omega) (fun x hx => ?_)) ?_
    · obtain ⟨y, hy, rfl⟩ := List.mem_map.1 hx
      exact h.sp y hy
    · rw [hrw, q]
      rfl
theorem refIn_none {s : DShares} (h : OkSh s) {a : DSpan} (ha : OkSp a) (hn : s.list.any (fun x => withinB a x.span) = false) : watershedref05_In s a = some ((noSh, false, ()), ()) := by
  have hlen := h.len
  have key : ∃ z, loopM watershedref05_In_l1 (((), (), (), 0, ()), (s, a, noSh, ())) = some z ∧ z = .inr (((), ()), (s, a, noSh, ())) := by
    refine loopM_spec (fun n b => ∃ i : Nat, b = (((), (), (), (i : Int), ()), (s, a, noSh, ())) ∧ i ≤ s.list.length ∧ n = s.list.length - i) _ ?_ (n := s.list.length) ⟨0, rfl, Nat.zero_le _, rfl⟩
    rintro n b ⟨i, rfl, g1, rfl⟩
    unfold watershedref05_In_l1
    by_cases hi : i < s.list.length
    · cases hr : rightW s
      · right
        exact ⟨_, condT (dT (by dsimp only; omega)) (bindS (refR5_p h) (condF hr rfl)), rfl⟩
      · left
        have hw : withinB a s.list[i].span = false := by
          have := List.any_eq_false.1 hn _ (List.getElem_mem hi)
          simpa using this
        refine ⟨s.list.length - (i + 1), _, by omega, condT (dT (by dsimp only; omega)) (bindS (refR5_p h) (condT hr (bindS (getI_lt hi) (bindS (refWithin_p ha (h.sp _ (List.getElem_mem hi))) (condF hw rfl))))), i + 1, ?_, by omega, rfl⟩
        dsimp only
        rw [w64 (by omega)]
        rfl
    · right
      exact ⟨_, condF (dF (by dsimp only; omega)) rfl, rfl⟩
  obtain ⟨z, hz, rfl⟩ := key
  unfold watershedref05_In
  exact bindS hz rfl
theorem refIn_some {s : DShares} (h : OkSh s) (hr : rightW s = true) {a : DSpan} (ha : OkSp a) {k : Nat} (hk : k < s.list.length) (hw : withinB a s.list[k].span = true) (hb : ∀ j (hj : j < s.list.length), j < k → withinB a s.list[j].span = false) : watershedref05_In s a = some ((s.list[k], true, ()), ()) := by
  have hlen := h.len
  have key : ∃ z, loopM watershedref05_In_l1 (((), (), (), 0, ()), (s, a, noSh, ())) = some z ∧ z = .inl (((), true, ()), (s, a, s.list[k], ())) := by
    refine loopM_spec (fun n b => ∃ i : Nat, b = (((), (), (), (i : Int), ()), (s, a, noSh, ())) ∧ i ≤ k ∧ n = k - i) _ ?_ (n := k) ⟨0, rfl, Nat.zero_le _, rfl⟩
    rintro n b ⟨i, rfl, g1, rfl⟩
    unfold watershedref05_In_l1
    have hi : i < s.list.length := by omega
    by_cases hik : i = k
    · subst hik
      right
      exact ⟨_, condT (dT (by dsimp only; omega)) (bindS (refR5_p h) (condT hr (bindS (getI_lt hi) (bindS (refWithin_p ha (h.sp _ (List.getElem_mem hi))) (condT hw (bindS (getI_lt hi) rfl)))))), rfl⟩
    · left
      refine ⟨k - (i + 1), _, by omega, condT (dT (by dsimp only; omega)) (bindS (refR5_p h) (condT hr (bindS (getI_lt hi) (bindS (refWithin_p ha (h.sp _ (List.getElem_mem hi))) (condF (hb i hi (by omega)) rfl))))), i + 1, ?_, by omega, rfl⟩
      dsimp only
      rw [w64 (by omega)]
      rfl
  obtain ⟨z, hz, rfl⟩ := key
  unfold watershedref05_In
  exact bindS hz rfl
end Go.Proofs.Ytnmimignbgdfgaa
