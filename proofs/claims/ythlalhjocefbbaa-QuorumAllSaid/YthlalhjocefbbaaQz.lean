/- Quorums, plainly. -/
import Derived.Test.YthlalhjocefbbaaG2
import Derived.Test.YthlalhjocefbbaaPl
namespace Go.Proofs.Ythlalhjocefbbaa
open Go.RowKit
set_option maxRecDepth 100000
set_option linter.unusedVariables false
set_option linter.unusedSimpArgs false
theorem SameInts_p (x y : List Int) (hx : x.length ≤ 140737488355328) (hy : y.length ≤ 140737488355328) : watershedkit_SameInts x y = some (decide (x = y), ()) := by
  unfold watershedkit_SameInts
  by_cases hl : x.length = y.length
  · have hd : decide (((x.length : Int) : Int) ≠ (y.length : Int)) = false := by simp; omega
    rw [hd]
    rw [same_loop (step := watershedkit_SameInts_l1) x y (fun i => ((x, y, i, ()), ())) (.inl ((false, ()), ())) (.inr ((), ())) hl hx ?_ ?_]
    · by_cases he : x = y <;> simp [he]
    · intro i hi hj
      unfold watershedkit_SameInts_l1
      constructor <;> intro he <;> simp [getI_lt hi, getI_lt hj, he, hi, w64 (n := (i : Int) + 1) (by omega)]
    · unfold watershedkit_SameInts_l1
      simp
  · have hd : decide (((x.length : Int) : Int) ≠ (y.length : Int)) = true := by simp; omega
    have hne : x ≠ y := fun e => hl (by rw [e])
    rw [hd, decide_eq_false hne]
    rfl
theorem Equal_p (x y : List Int) (hx : x.length ≤ 140737488355328) (hy : y.length ≤ 140737488355328) : slices_Equal x y = some (decide (x = y), ()) := by
  unfold slices_Equal
  by_cases hl : x.length = y.length
  · have hd : decide (((x.length : Int) : Int) ≠ (y.length : Int)) = false := by simp; omega
    rw [hd]
    rw [same_loop (step := slices_Equal_l1) x y (fun i => ((x, y, (x.length : Int), i, ()), ())) (.inl ((false, ()), ())) (.inr ((), ())) hl hx ?_ ?_]
    · by_cases he : x = y <;> simp [he]
    · intro i hi hj
      unfold slices_Equal_l1
      constructor <;> intro he <;> simp [getI_lt hi, getI_lt hj, he, hi, w64 (n := (i : Int) + 1) (by omega)]
    · unfold slices_Equal_l1
      simp
  · have hd : decide (((x.length : Int) : Int) ≠ (y.length : Int)) = true := by simp; omega
    have hne : x ≠ y := fun e => hl (by rw [e])
    rw [hd, decide_eq_false hne]
    rfl
def DConfig.few (c : DConfig) : Prop := c.voters.length ≤ 40 ∧ c.old.length ≤ 40 ∧ c.learners.length ≤ 40 ∧ c.want.length ≤ 40
theorem SameConfig_p (x y : DConfig) (hx : x.few) (hy : y.few) : watershedkit_SameConfig x y = some (decide (x = y), ()) := by
  obtain ⟨x1, x2, x3, x4⟩ := hx
  obtain ⟨y1, y2, y3, y4⟩ := hy
  unfold watershedkit_SameConfig
  rw [SameInts_p _ _ (by omega) (by omega), SameInts_p _ _ (by omega) (by omega), SameInts_p _ _ (by omega) (by omega), SameInts_p _ _ (by omega) (by omega)]
  obtain ⟨a, b, c, d⟩ := x
  obtain ⟨a', b', c', d'⟩ := y
  by_cases h1 : a = a' <;> by_cases h2 : b = b' <;> by_cases h3 : c = c' <;> by_cases h4 : d = d' <;> simp [h1, h2, h3, h4]
theorem clone37_p {x : List Int} (h : x.length ≤ 40) : clone37 x = some (x, ((), ())) := by unfold clone37; rw [if_pos (by omega)]
/-- A row that rises, of nodes. -/
def riseB : Int → List Int → Bool
  | _, [] => true
  | p, a :: l => decide (p < a) && (decide (a ≤ 5) && riseB a l)
theorem riseB_drop {x : List Int} {i : Nat} (h : i < x.length) (p : Int) : riseB p (x.drop i) = (decide (p < x[i]) && (decide (x[i] ≤ 5) && riseB x[i] (x.drop (i + 1)))) := by
  rw [List.drop_eq_getElem_cons h]; rfl
theorem rise1_p (x : List Int) (hx : x.length ≤ 40) : quorum_rise1 x = some (!riseB 0 x, ()) := by
  have key : loopM quorum_rise1_l1 ((x, x, (x.length : Int), 0, ()), ()) = some (if riseB 0 x then .inr ((), ()) else .inl ((true, ()), ())) := by
    refine loopM_eq_of (fun n a => ∃ (i : Nat) (p : Int), a = ((x, x, (x.length : Int), (i : Int), ()), ()) ∧ i ≤ x.length ∧ 0 ≤ p ∧ (i = 0 → p = 0) ∧ (∀ h : 0 < i, ∃ h' : i - 1 < x.length, p = x[i-1]) ∧ riseB p (x.drop i) = riseB 0 x ∧ n = x.length - i) _ ?_ (n := x.length) ⟨0, 0, rfl, Nat.zero_le _, Int.le_refl _, fun _ => rfl, fun h => absurd h (by omega), rfl, rfl⟩
    rintro n a ⟨i, p, rfl, h1, h0, hz, hp, he, rfl⟩
    unfold quorum_rise1_l1
    by_cases hi : i < x.length
    · rw [riseB_drop hi] at he
      dsimp only
      rw [dT (by omega), cond_true, getI_lt hi, Option.bind_some]
      by_cases c1 : x[i] < 1
      · right
        rw [dT c1, cond_true, ← he, dF (p := p < x[i]) (by omega)]; rfl
      · rw [dF c1, cond_false]
        by_cases c2 : 5 < x[i]
        · right
          rw [dT c2, cond_true, ← he, dF (p := x[i] ≤ 5) (by omega)]; simp
        · rw [dF c2, cond_false]
          rw [dT (p := x[i] ≤ 5) (by omega)] at he
          by_cases c3 : 0 < i
          · obtain ⟨h', hp'⟩ := hp c3
            rw [dT (by omega), cond_true, w64 (by omega), show ((i : Int) - 1) = ((i - 1 : Nat) : Int) from by omega, getI_lt h', Option.bind_some, ← hp']
            by_cases c4 : x[i] ≤ p
            · right
              rw [dT c4, cond_true, ← he, dF (p := p < x[i]) (by omega)]; rfl
            · left
              rw [dF c4, cond_false, w64 (by omega)]
              refine ⟨x.length - (i + 1), _, by omega, rfl, i + 1, x[i], rfl, by omega, by omega, by omega, fun _ => ⟨by omega, rfl⟩, ?_, rfl⟩
              rw [← he, dT (p := p < x[i]) (by omega)]; rfl
          · left
            obtain rfl : i = 0 := by omega
            rw [dF (by omega), cond_false, w64 (by omega)]
            refine ⟨x.length - 1, _, by omega, rfl, 1, x[0], rfl, by omega, by omega, by omega, fun _ => ⟨by omega, rfl⟩, ?_, rfl⟩
            rw [← he, dT (p := p < x[0]) (by have := hz rfl; omega)]; rfl
    · right
      obtain rfl : i = x.length := by omega
      dsimp only
      rw [dF (by omega), cond_false, ← he, List.drop_length]; rfl
  unfold quorum_rise1
  rw [key]
  cases riseB 0 x <;> rfl
theorem rise_p (l : List (List Int)) (hl : l.length ≤ 40) (h : ∀ x ∈ l, x.length ≤ 40) : quorum_rise l = some (l.all (riseB 0), ()) := by
  have key : ∃ b, loopM slices_IndexFunc_l1 ((l, (), (l.length : Int), 0, ()), ()) = some b ∧ ((∃ i : Nat, b = .inl (((i : Int), ()), ()) ∧ l.all (riseB 0) = false) ∨ (b = .inr ((), ()) ∧ l.all (riseB 0) = true)) := by
    refine loopM_spec (fun n a => ∃ i : Nat, a = ((l, (), (l.length : Int), (i : Int), ()), ()) ∧ i ≤ l.length ∧ (l.drop i).all (riseB 0) = l.all (riseB 0) ∧ n = l.length - i) _ ?_ (n := l.length) ⟨0, rfl, Nat.zero_le _, rfl, rfl⟩
    rintro n a ⟨i, rfl, h1, he, rfl⟩
    unfold slices_IndexFunc_l1
    by_cases hi : i < l.length
    · rw [List.drop_eq_getElem_cons hi, List.all_cons] at he
      dsimp only
      rw [dT (by omega), cond_true, getI_lt hi, Option.bind_some, rise1_p _ (h _ (List.getElem_mem hi)), Option.bind_some]
      cases hr : riseB 0 l[i]
      · right
        rw [hr] at he
        exact ⟨_, rfl, .inl ⟨i, rfl, by rw [← he]; rfl⟩⟩
      · left
        rw [hr] at he
        refine ⟨l.length - (i + 1), _, by omega, rfl, i + 1, ?_, by omega, ?_, rfl⟩
        · rw [w64 (by omega)]; rfl
        · rw [← he]; rfl
    · right
      obtain rfl : i = l.length := by omega
      dsimp only
      rw [dF (by omega), cond_false]
      exact ⟨_, rfl, .inr ⟨rfl, by rw [← he, List.drop_length]; rfl⟩⟩
  obtain ⟨b, h1, h2⟩ := key
  unfold quorum_rise slices_ContainsFunc slices_IndexFunc
  rw [h1]
  rcases h2 with ⟨i, rfl, h2⟩ | ⟨rfl, h2⟩
  · rw [h2]
    simp only [Option.bind_some]
    rw [dT (by omega)]; rfl
  · rw [h2]; rfl
theorem Contains_p (x : List Int) (v : Int) (hx : x.length ≤ 1000) : slices_Contains x v = some (decide (v ∈ x), ()) := by
  have key : ∃ b, loopM slices_Index_l1 ((x, v, (x.length : Int), 0, ()), ()) = some b ∧ ((∃ i : Nat, b = .inl (((i : Int), ()), ()) ∧ v ∈ x) ∨ (b = .inr ((), ()) ∧ v ∉ x)) := by
    refine loopM_spec (fun n a => ∃ i : Nat, a = ((x, v, (x.length : Int), (i : Int), ()), ()) ∧ i ≤ x.length ∧ (v ∈ x ↔ v ∈ x.drop i) ∧ n = x.length - i) _ ?_ (n := x.length) ⟨0, rfl, Nat.zero_le _, by simp, rfl⟩
    rintro n a ⟨i, rfl, h1, he, rfl⟩
    unfold slices_Index_l1
    by_cases hi : i < x.length
    · rw [List.drop_eq_getElem_cons hi, List.mem_cons] at he
      dsimp only
      rw [dT (by omega), cond_true, getI_lt hi, Option.bind_some]
      by_cases hr : v = x[i]
      · right
        rw [dT hr, cond_true]
        exact ⟨_, rfl, .inl ⟨i, rfl, he.2 (.inl hr)⟩⟩
      · left
        rw [dF hr, cond_false]
        refine ⟨x.length - (i + 1), _, by omega, rfl, i + 1, ?_, by omega, he.trans ⟨fun h => h.resolve_left hr, .inr⟩, rfl⟩
        rw [w64 (by omega)]; rfl
    · right
      obtain rfl : i = x.length := by omega
      dsimp only
      rw [dF (by omega), cond_false]
      exact ⟨_, rfl, .inr ⟨rfl, by rw [he, List.drop_length]; simp⟩⟩
  obtain ⟨b, h1, h2⟩ := key
  unfold slices_Contains slices_Index
  rw [h1]
  rcases h2 with ⟨i, rfl, h2⟩ | ⟨rfl, h2⟩
  · rw [dT h2]
    simp only [Option.bind_some]
    rw [dT (by omega)]
  · rw [dF h2]; rfl
def woL (x y : List Int) : List Int := x.filter fun e => !decide (e ∈ y)
theorem without_p (x y : List Int) (hx : x.length ≤ 40) (hy : y.length ≤ 40) : quorum_without x y = some (woL x y, ((), ())) := by
  have key : loopM quorum_without_l1 ((y, [], x, (x.length : Int), 0, ()), ((), ())) = some ((woL x y, ()), ((), (), ())) := by
    refine loopM_eq_of (fun n a => ∃ i : Nat, a = ((y, woL (x.take i) y, x, (x.length : Int), (i : Int), ()), ((), ())) ∧ i ≤ x.length ∧ n = x.length - i) _ ?_ (n := x.length) ⟨0, rfl, Nat.zero_le _, rfl⟩
    rintro n a ⟨i, rfl, h1, rfl⟩
    unfold quorum_without_l1
    by_cases hi : i < x.length
    · left
      dsimp only
      have hs : woL (x.take (i + 1)) y = woL (x.take i) y ++ (if x[i] ∈ y then [] else [x[i]]) := by
        unfold woL
        rw [List.take_succ_eq_append_getElem hi, List.filter_append]
        by_cases hm : x[i] ∈ y <;> simp [hm]
      have hlen : (woL (x.take i) y).length ≤ 40 := Nat.le_trans (List.length_filter_le _ _) (by rw [List.length_take]; omega)
      rw [dT (by omega), cond_true, getI_lt hi, Option.bind_some, Contains_p _ _ (by omega), Option.bind_some]
      by_cases hm : x[i] ∈ y
      · rw [if_pos hm, List.append_nil] at hs
        refine ⟨x.length - (i + 1), _, by omega, ?_, i + 1, rfl, by omega, rfl⟩
        dsimp only
        rw [dT hm, w64 (by omega), hs]; rfl
      · rw [if_neg hm] at hs
        refine ⟨x.length - (i + 1), _, by omega, ?_, i + 1, rfl, by omega, rfl⟩
        dsimp only
        rw [dF hm, w64 (by omega), hs, if_pos (by simp only [List.length_singleton]; omega)]; rfl
    · right
      obtain rfl : i = x.length := by omega
      dsimp only
      rw [dF (by omega), cond_false, List.take_length]
  unfold quorum_without
  rw [key]; rfl
/-- A right configuration. -/
def rightB (c : DConfig) : Bool :=
  [c.voters, c.old, c.learners, c.want].all (riseB 0) &&
  (if c.voters.length = 0 then decide (c.old.length = 0 ∧ c.learners.length = 0 ∧ c.want.length = 0)
  else if 0 < c.old.length then decide (c.want = c.voters) && decide (c.learners.length = 0)
  else if 0 < c.want.length then !decide (c.want = c.voters) && decide (c.learners = woL c.want c.voters)
  else decide (c.learners.length = 0))
theorem woL_len (x y : List Int) : (woL x y).length ≤ x.length := List.length_filter_le _ _
theorem right_p (c : DConfig) (hc : c.few) : quorum_right ⟨c⟩ = some (rightB c, ()) := by
  obtain ⟨h1, h2, h3, h4⟩ := hc
  unfold quorum_right rightB
  dsimp only
  rw [rise_p _ (by simp) (by simp; omega), Equal_p _ _ (by omega) (by omega), without_p _ _ (by omega) (by omega)]
  simp only [Option.bind_some]
  rw [Equal_p _ _ (by omega) (by have := woL_len c.want c.voters; omega)]
  cases hr : [c.voters, c.old, c.learners, c.want].all (riseB 0)
  · rfl
  · simp only [Bool.not_true, cond_false, Bool.true_and]
    by_cases hv : c.voters.length = 0
    · rw [dT (by omega), if_pos hv, cond_true]
      rw [w64 (n := (c.old.length : Int) + (c.learners.length : Int)) (by omega), w64 (by omega)]
      congr 2
      rw [decide_eq_decide]; omega
    · rw [dF (by omega), if_neg hv, cond_false]
      unfold quorum_joint quorum_changes
      simp only [Option.bind_some]
      by_cases ho : 0 < c.old.length
      · rw [dT (by omega), if_pos ho]
        simp only [cond_true]
        have e3 : decide ((c.learners.length : Int) = 0) = decide (c.learners.length = 0) := by rw [decide_eq_decide]; omega
        rw [e3]
        by_cases hw : c.want = c.voters <;> simp [hw]
      · rw [dF (p := (0 : Int) < (c.old.length : Int)) (by omega), if_neg ho]
        simp only [cond_false]
        by_cases hq : 0 < c.want.length
        · rw [dT (by omega), if_pos hq]
          by_cases hw : c.want = c.voters <;> simp [hw]
        · rw [dF (p := (0 : Int) < (c.want.length : Int)) (by omega), if_neg hq]
          simp only [cond_false]
          congr 2
          rw [decide_eq_decide]; omega
def mostB (x s : List Int) : Bool := decide (x.length < 2 * (x.length - (woL x s).length))
theorem most_p (x s : List Int) (hx : x.length ≤ 40) (hs : s.length ≤ 40) : quorum_most x s = some (mostB x s, ()) := by
  have := woL_len x s
  unfold quorum_most mostB
  rw [without_p _ _ hx hs]
  simp only [Option.bind_some]
  rw [w64 (n := (x.length : Int) - ((woL x s).length : Int)) (by omega), w64 (by omega)]
  congr 2
  rw [decide_eq_decide]; omega
def agreesB (c : DConfig) (s : List Int) : Bool := rightB c && (mostB c.voters s && (!decide (0 < c.old.length) || mostB c.old s))
theorem Agrees_p (c : DConfig) (s : List Int) (hc : c.few) (hs : s.length ≤ 40) : quorum_Agrees c s = some (agreesB c s, ()) := by
  obtain ⟨h1, h2, h3, h4⟩ := id hc
  unfold quorum_Agrees agreesB quorum_joint
  rw [right_p _ hc, most_p _ _ (by omega) hs, most_p _ _ (by omega) hs]
  have e3 : decide ((0 : Int) < (c.old.length : Int)) = decide (0 < c.old.length) := by rw [decide_eq_decide]; omega
  simp only [Option.bind_some, e3]
  cases rightB c <;> cases mostB c.voters s <;> cases decide (0 < c.old.length) <;> rfl
def nextL (c : DConfig) : DConfig × Bool :=
  if rightB c ∧ 0 < c.want.length then (if 0 < c.old.length then (⟨c.voters, [], [], []⟩, true) else (⟨c.want, c.voters, [], c.want⟩, true)) else (⟨[], [], [], []⟩, false)
theorem Next_p (c : DConfig) (hc : c.few) : quorum_Next c = some ((((nextL c).1.voters, (nextL c).1.old, (nextL c).1.learners, (nextL c).1.want, ()), (nextL c).2, ()), ((), (), (), (), ())) := by
  obtain ⟨h1, h2, h3, h4⟩ := id hc
  unfold quorum_Next nextL quorum_joint quorum_changes
  rw [right_p _ hc, clone37_p (by omega), clone37_p (by omega)]
  simp only [Option.bind_some]
  cases hr : rightB c
  · simp
  · by_cases hw : 0 < c.want.length <;> by_cases ho : 0 < c.old.length <;> simp [hw, ho]
theorem nextL_few {c : DConfig} (hc : c.few) : (nextL c).1.few := by
  obtain ⟨h1, h2, h3, h4⟩ := id hc
  unfold nextL
  split
  · split <;> (refine ⟨?_, ?_, ?_, ?_⟩ <;> first | assumption | simp)
  · refine ⟨?_, ?_, ?_, ?_⟩ <;> simp
def beginL (c : DConfig) (w : List Int) : DConfig × Int :=
  if rightB c = false ∨ c.voters.length = 0 ∨ riseB 0 w = false ∨ w.length = 0 then (⟨[], [], [], []⟩, 2)
  else if 0 < c.want.length then (⟨[], [], [], []⟩, 25)
  else if w = c.voters then (⟨[], [], [], []⟩, 7)
  else (⟨c.voters, [], woL w c.voters, w⟩, 0)
theorem Begin_p (c : DConfig) (w : List Int) (hc : c.few) (hw : w.length ≤ 40) : quorum_Begin c w = some ((((beginL c w).1.voters, (beginL c w).1.old, (beginL c w).1.learners, (beginL c w).1.want, ()), (beginL c w).2, ()), ((), (), (), (), ())) := by
  obtain ⟨h1, h2, h3, h4⟩ := id hc
  unfold quorum_Begin beginL quorum_changes
  rw [right_p _ hc, clone37_p (by omega), clone37_p (by omega), rise_p _ (by simp) (by simp; omega), Equal_p _ _ (by omega) (by omega), without_p _ _ (by omega) (by omega)]
  simp only [Option.bind_some, List.all_cons, List.all_nil, Bool.and_true]
  cases hr : rightB c
  · simp
  · by_cases hv : c.voters.length = 0
    · rw [dT (p := (c.voters.length : Int) = 0) (by omega), if_pos (.inr (.inl hv))]; rfl
    · rw [dF (p := (c.voters.length : Int) = 0) (by omega)]
      cases hq : riseB 0 w
      · rw [if_pos (.inr (.inr (.inl rfl)))]; rfl
      · by_cases hl : w.length = 0
        · rw [dT (p := (w.length : Int) = 0) (by omega), if_pos (.inr (.inr (.inr hl)))]; rfl
        · rw [dF (p := (w.length : Int) = 0) (by omega), if_neg (by simp only [hv, hl]; simp)]
          by_cases hw' : 0 < c.want.length
          · rw [dT (p := (0 : Int) < (c.want.length : Int)) (by omega), if_pos hw']; rfl
          · rw [dF (p := (0 : Int) < (c.want.length : Int)) (by omega), if_neg hw']
            by_cases he : w = c.voters
            · rw [dT he, if_pos he]; rfl
            · rw [dF he, if_neg he]; rfl
instance (c : DConfig) : Decidable c.few := by unfold DConfig.few; infer_instance
theorem great_p (c : DConfig) (s : List Int) : watershedlaw06_great c s = some (!decide (c.few ∧ s.length ≤ 40), ()) := by
  unfold watershedlaw06_great
  have e : ∀ n : Nat, decide ((40 : Int) < (n : Int)) = !decide (n ≤ 40) := fun n => by
    by_cases h : n ≤ 40
    · rw [dT h, dF (by omega)]; rfl
    · rw [dF h, dT (by omega)]; rfl
  simp only [e]
  unfold DConfig.few
  by_cases h1 : c.voters.length ≤ 40 <;> by_cases h2 : c.old.length ≤ 40 <;> by_cases h3 : c.learners.length ≤ 40 <;> by_cases h4 : c.want.length ≤ 40 <;> by_cases h5 : s.length ≤ 40 <;> simp [h1, h2, h3, h4, h5]
def ex1 : DConfig := ⟨[1, 2, 3], [], [], []⟩
theorem awake_p : watershedlaw06_awake = some (true, ()) := by
  have f1 : (⟨[1, 2, 3], [], [], []⟩ : DConfig).few := by unfold DConfig.few; decide
  have f2 : (⟨[1, 2, 3], [], [4], [3, 4]⟩ : DConfig).few := by unfold DConfig.few; decide
  have f3 : (⟨[3, 4], [1, 2, 3], [], [3, 4]⟩ : DConfig).few := by unfold DConfig.few; decide
  have f4 : (⟨[3, 4], [], [], []⟩ : DConfig).few := by unfold DConfig.few; decide
  have b1 : beginL ⟨[1, 2, 3], [], [], []⟩ [3, 4] = (⟨[1, 2, 3], [], [4], [3, 4]⟩, 0) := by decide
  have n1 : nextL ⟨[1, 2, 3], [], [4], [3, 4]⟩ = (⟨[3, 4], [1, 2, 3], [], [3, 4]⟩, true) := by decide
  have n2 : nextL ⟨[3, 4], [1, 2, 3], [], [3, 4]⟩ = (⟨[3, 4], [], [], []⟩, true) := by decide
  unfold watershedlaw06_awake watershedlaw06_same
  rw [Begin_p _ _ f1 (by decide), b1]
  dsimp only [Option.bind_some]
  rw [Next_p _ f2, n1]
  dsimp only [Option.bind_some]
  rw [Next_p _ f3, n2]
  dsimp only [Option.bind_some]
  rw [SameConfig_p _ _ f2 f2, SameConfig_p _ _ f3 f3, SameConfig_p _ _ f4 f4]
  rfl
theorem woL_mem {x : Int} {l s : List Int} : x ∈ woL l s ↔ x ∈ l ∧ x ∉ s := by unfold woL; simp
theorem woL_self (l : List Int) : woL l l = [] := by unfold woL; rw [List.filter_eq_nil_iff]; simp
theorem woL_nil (l : List Int) : woL l [] = l := by unfold woL; rw [List.filter_eq_self]; simp
theorem Votes_p (c : DConfig) (v : Int) (hc : c.few) : quorum_Votes c v = some (decide (v ∈ c.voters) || decide (v ∈ c.old), ()) := by
  obtain ⟨h1, h2, h3, h4⟩ := id hc
  unfold quorum_Votes
  rw [Contains_p _ _ (by omega), Contains_p _ _ (by omega)]
  simp only [Option.bind_some]
  cases decide (v ∈ c.voters) <;> rfl
theorem Has_p (c : DConfig) (v : Int) (hc : c.few) : quorum_Has c v = some (decide (v ∈ c.voters) || decide (v ∈ c.old) || decide (v ∈ c.learners), ()) := by
  obtain ⟨h1, h2, h3, h4⟩ := id hc
  unfold quorum_Has
  rw [Votes_p _ _ hc, Contains_p _ _ (by omega)]
  simp only [Option.bind_some]
  cases decide (v ∈ c.voters) || decide (v ∈ c.old) <;> rfl
theorem Right_p (c : DConfig) (hc : c.few) : quorum_Right c = some (rightB c, ()) := by unfold quorum_Right; rw [right_p _ hc]; rfl
end Go.Proofs.Ythlalhjocefbbaa
