/- XGr, XGs, XGt, XGu in one. -/
import Derived.Test.YtnmimignbgdfgaaGreatMc
/- The groups of keys, plainly. -/
namespace Go.Proofs.YtnmimignbgdfgaaGreat
open Go.RowKit
set_option maxRecDepth 100000
set_option linter.unusedVariables false
set_option linter.unusedSimpArgs false
def grF (s : DShares) (k : Tx) : Option DShare := pickF s fun x => hasB x.span k
def gsF (s : DShares) (keys : List Tx) : List Int := keys.map fun k => ((grF s k).getD noSh).group
def goodF (s : DShares) (keys : List Tx) : Bool := rightW s && keys.all fun k => (grF s k).isSome
abbrev leI (x y : Int) : Bool := decide (x ≤ y)
theorem Groups_p {s : DShares} (h : OkSh s) {keys : List Tx} (hk : ∀ k ∈ keys, OkT k) (hl : keys.length ≤ 1000) :
    (goodF s keys = true ∧ ∃ arr : List Int, shares_Groups s keys = some (((0, (dd ((gsF s keys).mergeSort leI)).length), true, ()), (arr, ())) ∧ arr.take (dd ((gsF s keys).mergeSort leI)).length = dd ((gsF s keys).mergeSort leI)) ∨
    (goodF s keys = false ∧ shares_Groups s keys = some (((0, 0), false, ()), ([], ()))) := by
  unfold shares_Groups goodF
  rw [Right_sh h, Option.bind_some]
  cases hr : rightW s with
  | false => exact .inr ⟨rfl, rfl⟩
  | true =>
  simp only [Bool.not_true, cond_false, Bool.true_and]
  have hgl : (gsF s keys).length = keys.length := by simp [gsF]
  have key : ∃ z, loopM shares_Groups_l1 (((), 0, keys, (keys.length : Int), 0, ()), (s, [], ())) = some z ∧ (((keys.all fun k => (grF s k).isSome) = true ∧ z = .inr (((gsF s keys).length, ()), (s, (), gsF s keys, ()))) ∨ ((keys.all fun k => (grF s k).isSome) = false ∧ z = .inl (((), false, ()), (s, (), ())))) := by
    refine loopM_spec (fun n b => ∃ i : Nat, b = (((), i, keys, (keys.length : Int), (i : Int), ()), (s, (gsF s keys).take i, ())) ∧ i ≤ keys.length ∧ ((keys.take i).all fun k => (grF s k).isSome) = true ∧ n = keys.length - i) _ ?_ (n := keys.length) ⟨0, rfl, Nat.zero_le _, rfl, rfl⟩
    rintro n b ⟨i, rfl, g1, g2, rfl⟩
    unfold shares_Groups_l1
    by_cases hi : i < keys.length
    · have hki := hk _ (List.getElem_mem hi)
      have ho : shares_Of s keys[i] = some (((grF s keys[i]).getD noSh, (grF s keys[i]).isSome, ()), ()) := Of_p h hki
      cases hg : (grF s keys[i]).isSome with
      | false =>
        right
        refine ⟨_, condT (dT (by dsimp only; omega)) (bindS (getI_lt hi) (bindS ho (condT (nT hg) rfl))), .inr ⟨?_, rfl⟩⟩
        exact List.all_eq_false.2 ⟨_, List.getElem_mem hi, by rw [hg]; simp⟩
      | true =>
        left
        have htl : ((gsF s keys).take i).length = i := by rw [List.length_take]; omega
        refine ⟨keys.length - (i + 1), _, by omega, condT (dT (by dsimp only; omega)) (bindS (getI_lt hi) (bindS ho (condF (by dsimp only; rw [hg]; rfl) (iteT ?_ rfl)))), i + 1, ?_, by omega, ?_, rfl⟩
        · dsimp only
          rw [htl]
          simp only [List.length_singleton]
          omega
        · dsimp only
          rw [w64 (by omega), List.take_of_length_le (l := (gsF s keys).take i) (by omega), List.take_succ_eq_append_getElem (by omega : i < (gsF s keys).length)]
          simp [gsF]
        · rw [List.take_succ_eq_append_getElem hi, List.all_append, g2]
          simp [hg]
    · right
      obtain rfl : i = keys.length := by omega
      rw [List.take_length] at g2
      refine ⟨_, condF (dF (by dsimp only; omega)) rfl, .inl ⟨g2, ?_⟩⟩
      dsimp only
      rw [List.take_of_length_le (by omega), hgl]
  obtain ⟨z, hz, ⟨h1, rfl⟩ | ⟨h1, rfl⟩⟩ := key
  · left
    refine ⟨h1, ?_⟩
    obtain ⟨arr, c1, c2⟩ := CompactI_p (xs := (gsF s keys).mergeSort leI) (by rw [List.length_mergeSort]; omega)
    rw [List.length_mergeSort] at c1
    refine ⟨arr, bindS hz ?_, c2⟩
    dsimp only
    refine bindS (v := ((), ((gsF s keys).mergeSort leI, ()))) ?_ ?_
    · unfold sortI
      exact if_pos ⟨rfl, by omega⟩
    · exact bindS c1 rfl
  · right
    exact ⟨h1, bindS hz rfl⟩
end Go.Proofs.YtnmimignbgdfgaaGreat
/- The groups of keys, by the reference: which are. -/
namespace Go.Proofs.YtnmimignbgdfgaaGreat
open Go.RowKit
set_option maxRecDepth 100000
set_option linter.unusedVariables false
set_option linter.unusedSimpArgs false
def isF (gs : List Int) : Bool × Bool × Bool × Bool × Bool × Unit := (gs.contains 0, gs.contains 1, gs.contains 2, gs.contains 3, gs.contains 4, ())
theorem gr_range {s : DShares} (hr : rightW s = true) {k : Tx} {x : DShare} (hx : grF s k = some x) : 1 ≤ x.group ∧ x.group ≤ 4 := by
  obtain ⟨_, i, hi, h1, _⟩ := pick_some hx
  have := (right_iff.1 hr).2.2.1 _ (List.getElem_mem hi)
  rw [h1] at this
  exact (wrong_of.1 this).1
theorem refIs_p {s : DShares} (h : OkSh s) (hr : rightW s = true) {keys : List Tx} (hk : ∀ k ∈ keys, OkT k) (hl : keys.length ≤ 1000) :
    ∃ z, loopM watershedref05_Groups_l1 ((keys, (), (), 0, ()), (s, (false, false, false, false, false, ()), ())) = some z ∧ (((keys.all fun k => (grF s k).isSome) = true ∧ z = .inr (((), ()), (s, isF (gsF s keys), ()))) ∨ ((keys.all fun k => (grF s k).isSome) = false ∧ ∃ q, z = .inl (((), false, ()), (s, q, ())))) := by
  have hgl : (gsF s keys).length = keys.length := by simp [gsF]
  refine loopM_spec (fun n b => ∃ i : Nat, b = ((keys, (), (), (i : Int), ()), (s, isF ((gsF s keys).take i), ())) ∧ i ≤ keys.length ∧ ((keys.take i).all fun k => (grF s k).isSome) = true ∧ n = keys.length - i) _ ?_ (n := keys.length) ⟨0, rfl, Nat.zero_le _, rfl, rfl⟩
  rintro n b ⟨i, rfl, g1, g2, rfl⟩
  unfold watershedref05_Groups_l1
  by_cases hi : i < keys.length
  · have hki := hk _ (List.getElem_mem hi)
    have ho : watershedref05_Of s keys[i] = some (((grF s keys[i]).getD noSh, (grF s keys[i]).isSome, ()), ()) := refOf_p h hki
    cases hg : (grF s keys[i]).isSome with
    | false =>
      right
      refine ⟨_, condT (dT (by dsimp only; omega)) (bindS (getI_lt hi) (bindS ho (condT (nT hg) rfl))), .inr ⟨?_, _, rfl⟩⟩
      exact List.all_eq_false.2 ⟨_, List.getElem_mem hi, by rw [hg]; simp⟩
    | true =>
      left
      obtain ⟨x, hx⟩ := Option.isSome_iff_exists.1 hg
      obtain ⟨r1, r2⟩ := gr_range hr hx
      have hgx : (gsF s keys)[i]'(by omega) = x.group := by simp [gsF, hx]
      have hnext : isF ((gsF s keys).take (i + 1)) = isF ((gsF s keys).take i ++ [x.group]) := by
        rw [List.take_succ_eq_append_getElem (by omega : i < (gsF s keys).length), hgx]
      have hall : ((keys.take (i + 1)).all fun k => (grF s k).isSome) = true := by
        rw [List.take_succ_eq_append_getElem hi, List.all_append, g2]
        simp [hg]
      have hgd : ((grF s keys[i]).getD noSh).group = x.group := by rw [hx]; rfl
      refine ⟨keys.length - (i + 1), ((keys, (), (), ((i + 1 : Nat) : Int), ()), (s, isF ((gsF s keys).take (i + 1)), ())), by omega, condT (dT (by dsimp only; omega)) (bindS (getI_lt hi) (bindS ho (condF (nF hg) ?_))), i + 1, rfl, by omega, hall, rfl⟩
      rw [hnext]
      dsimp only
      rw [w64 (by omega), hgd]
      obtain hq | hq | hq | hq : x.group = 1 ∨ x.group = 2 ∨ x.group = 3 ∨ x.group = 4 := by omega
      all_goals
        rw [hq]
        simp [isF]
  · right
    obtain rfl : i = keys.length := by omega
    rw [List.take_length] at g2
    refine ⟨_, condF (dF (by dsimp only; omega)) rfl, .inl ⟨g2, ?_⟩⟩
    dsimp only
    rw [List.take_of_length_le (by omega)]
end Go.Proofs.YtnmimignbgdfgaaGreat
/- The groups that the reference tells, in order. -/
namespace Go.Proofs.YtnmimignbgdfgaaGreat
open Go.RowKit
set_option maxRecDepth 100000
set_option linter.unusedVariables false
set_option linter.unusedSimpArgs false
def outB (b1 b2 b3 b4 : Bool) : List Int := (if b1 = true then [1] else []) ++ ((if b2 = true then [2] else []) ++ ((if b3 = true then [3] else []) ++ (if b4 = true then [4] else [])))
theorem refOut_p (b0 b1 b2 b3 b4 : Bool) : loopM watershedref05_Groups_l2 (((), 0, 1, ()), ((b0, b1, b2, b3, b4, ()), [], ())) = some (((outB b1 b2 b3 b4).length, ()), ((b0, b1, b2, b3, b4, ()), (), outB b1 b2 b3 b4, ())) := by
  cases b1 <;> cases b2 <;> cases b3 <;> cases b4 <;> exact (loopM_next rfl).trans ((loopM_next rfl).trans ((loopM_next rfl).trans ((loopM_next rfl).trans (loopM_end rfl))))
theorem sorted_ext : ∀ {l1 l2 : List Int}, l1.Pairwise (· < ·) → l2.Pairwise (· < ·) → (∀ x, x ∈ l1 ↔ x ∈ l2) → l1 = l2
  | [], [], _, _, _ => rfl
  | [], b :: l2, _, _, h => absurd ((h b).2 List.mem_cons_self) (by simp)
  | a :: l1, [], _, _, h => absurd ((h a).1 List.mem_cons_self) (by simp)
  | a :: l1, b :: l2, h1, h2, h => by
    obtain ⟨a1, a2⟩ := List.pairwise_cons.1 h1
    obtain ⟨b1, b2⟩ := List.pairwise_cons.1 h2
    have e : a = b := by
      rcases List.mem_cons.1 ((h a).1 List.mem_cons_self) with c | c
      · exact c
      · rcases List.mem_cons.1 ((h b).2 List.mem_cons_self) with d | d
        · exact d.symm
        · have := a1 b d; have := b1 a c; omega
    subst e
    rw [sorted_ext a2 b2 fun x => ?_]
    constructor
    · intro hx
      rcases List.mem_cons.1 ((h x).1 (List.mem_cons_of_mem _ hx)) with c | c
      · have := a1 x hx; omega
      · exact c
    · intro hx
      rcases List.mem_cons.1 ((h x).2 (List.mem_cons_of_mem _ hx)) with c | c
      · have := b1 x hx; omega
      · exact c
theorem dd_lt : ∀ {l : List Int}, l.Pairwise (· ≤ ·) → (dd l).Pairwise (· < ·)
  | [], _ => by simp [dd]
  | [x], _ => by simp [dd]
  | x :: y :: l, h => by
    obtain ⟨h1, h2⟩ := List.pairwise_cons.1 h
    have ih := dd_lt h2
    unfold dd
    split
    · exact ih
    · rename_i hne
      refine List.pairwise_cons.2 ⟨fun z hz => ?_, ih⟩
      have hz' := mem_dd.1 hz
      have h3 := h1 y List.mem_cons_self
      rcases List.mem_cons.1 hz' with c | c
      · omega
      · have := (List.pairwise_cons.1 h2).1 z c; omega
theorem sortI_pw (l : List Int) : (l.mergeSort leI).Pairwise (· ≤ ·) := by
  have h := List.pairwise_mergeSort (le := leI) (fun a b c h1 h2 => by
    simp only [decide_eq_true_eq] at h1 h2 ⊢; omega) (fun a b => by
    simp only [Bool.or_eq_true, decide_eq_true_eq]; omega) l
  exact h.imp fun {a b} hab => by simpa using hab
theorem groups_eq {gs : List Int} (h : ∀ g ∈ gs, 1 ≤ g ∧ g ≤ 4) : dd (gs.mergeSort leI) = outB (gs.contains 1) (gs.contains 2) (gs.contains 3) (gs.contains 4) := by
  refine sorted_ext (dd_lt (sortI_pw gs)) ?_ fun x => ?_
  · unfold outB
    generalize gs.contains 1 = b1
    generalize gs.contains 2 = b2
    generalize gs.contains 3 = b3
    generalize gs.contains 4 = b4
    cases b1 <;> cases b2 <;> cases b3 <;> cases b4 <;> simp
  · rw [mem_dd, List.mem_mergeSort]
    unfold outB
    simp only [List.mem_append, List.contains_iff_mem]
    constructor
    · intro hx
      obtain ⟨g1, g2⟩ := h x hx
      obtain hq | hq | hq | hq : x = 1 ∨ x = 2 ∨ x = 3 ∨ x = 4 := by omega
      all_goals
        subst hq
        simp [hx]
    · rintro (c | c | c | c) <;> split at c <;> first | (rw [List.mem_singleton.1 c]; assumption) | cases c
end Go.Proofs.YtnmimignbgdfgaaGreat
/- Groups: both tell the same. -/
namespace Go.Proofs.YtnmimignbgdfgaaGreat
open Go.RowKit
set_option maxRecDepth 100000
set_option linter.unusedVariables false
set_option linter.unusedSimpArgs false
theorem refGroups_p {s : DShares} (h : OkSh s) {keys : List Tx} (hk : ∀ k ∈ keys, OkT k) (hl : keys.length ≤ 1000) :
    (goodF s keys = true → watershedref05_Groups s keys = some (((dd ((gsF s keys).mergeSort leI)).length, true, ()), (dd ((gsF s keys).mergeSort leI), ()))) ∧
    (goodF s keys = false → watershedref05_Groups s keys = some ((0, false, ()), ([], ()))) := by
  unfold watershedref05_Groups goodF
  rw [refR5_p h, Option.bind_some]
  cases hr : rightW s with
  | false => exact ⟨fun c => (by cases c), fun _ => rfl⟩
  | true =>
  simp only [Bool.not_true, cond_false, Bool.true_and]
  obtain ⟨z, hz, ⟨h1, rfl⟩ | ⟨h1, q, rfl⟩⟩ := refIs_p h hr hk hl
  · refine ⟨fun _ => bindS hz ?_, fun c => by rw [h1] at c; cases c⟩
    have hg : ∀ g ∈ gsF s keys, 1 ≤ g ∧ g ≤ 4 := fun g hg => by
      unfold gsF at hg
      obtain ⟨k, hkm, rfl⟩ := List.mem_map.1 hg
      have := List.all_eq_true.1 h1 k hkm
      obtain ⟨x, hx⟩ := Option.isSome_iff_exists.1 this
      rw [hx]
      exact gr_range hr hx
    rw [groups_eq hg]
    dsimp only [isF]
    exact bindS (refOut_p _ _ _ _ _) rfl
  · exact ⟨fun c => (by rw [h1] at c; cases c), fun _ => bindS hz rfl⟩
theorem sameInts_p {l arr : List Int} (hl : l.length ≤ 100000) (ha : arr.take l.length = l) : watershedkit_SameInts (0, l.length) l.length arr l = some (true, (arr, l, ())) := by
  have hlen : l.length ≤ arr.length := by
    have := congrArg List.length ha
    rw [List.length_take] at this
    omega
  have h : loopM watershedkit_SameInts_l1 (((0, l.length), l.length, 0, ()), (arr, l, ())) = some (.inr ((), (arr, l, ()))) := by
    refine loopM_run (step := watershedkit_SameInts_l1) (fun j : Nat => (((0, l.length), l.length, (j : Int), ()), (arr, l, ()))) (N := l.length) (fun j hj => ?_) ?_
    · have e1 : arr[0 + ((j : Int)).toNat]? = some l[j] := by
        have := congrArg (·[j]?) ha
        simp only [List.getElem?_take, hj, if_true] at this
        rw [Nat.zero_add, Int.toNat_natCast, this, List.getElem?_eq_getElem hj]
      have e2 : l[0 + ((j : Int)).toNat]? = some l[j] := by rw [Nat.zero_add, Int.toNat_natCast, List.getElem?_eq_getElem hj]
      unfold watershedkit_SameInts_l1
      refine condT (dT (by dsimp only; omega)) (iteT (by dsimp only; omega) (iteT (by dsimp only; omega) (bindS e1 (bindS e2 (condF (by simp) ?_)))))
      dsimp only
      rw [w64 (by omega)]
      rfl
    · unfold watershedkit_SameInts_l1
      exact condF (dF (by dsimp only; omega)) rfl
  unfold watershedkit_SameInts
  exact condF (dF (by simp)) (bindS h rfl)
/-- Both tell the same; as rows, too. -/
theorem GroupsBoth_p {s : DShares} (h : OkSh s) {keys : List Tx} (hk : ∀ k ∈ keys, OkT k) (hl : keys.length ≤ 1000) : ∃ (n : Nat) (b : Bool) (arr l : List Int), shares_Groups s keys = some (((0, n), b, ()), (arr, ())) ∧ watershedref05_Groups s keys = some ((n, b, ()), (l, ())) ∧ watershedkit_SameInts (0, n) n arr l = some (true, (arr, l, ())) := by
  obtain ⟨r1, r2⟩ := refGroups_p h hk hl
  rcases Groups_p h hk hl with ⟨h1, arr, h2, h3⟩ | ⟨h1, h2⟩
  · have hdl := dd_len ((gsF s keys).mergeSort leI)
    rw [List.length_mergeSort] at hdl
    have hgl : (gsF s keys).length = keys.length := by simp [gsF]
    exact ⟨_, _, _, _, h2, r1 h1, sameInts_p (by omega) h3⟩
  · exact ⟨_, _, _, _, h2, r2 h1, sameInts_p (l := []) (by simp) rfl⟩
end Go.Proofs.YtnmimignbgdfgaaGreat
