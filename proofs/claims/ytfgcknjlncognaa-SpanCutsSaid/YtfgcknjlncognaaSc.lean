/- What all laws of chapter 04 begin with; SpanCuts, plainly: cut anywhere, a span has just the keys that its pieces have, each in one; all keys, cut, are parted; what two spans meet in has just the keys that both have. -/
import Derived.Test.YtfgcknjlncognaaMt
namespace Go.Proofs.Ytfgcknjlncognaa
open Go.RowKit
set_option maxRecDepth 100000
set_option linter.unusedVariables false
set_option linter.unusedSimpArgs false
theorem pieces_m : piecesF ⟨[], []⟩ [[109]] = [⟨[], [109]⟩, ⟨[109], []⟩] := by
  have : sdF [[109]] = [[109]] := by unfold sdF; rw [List.mergeSort_singleton]; rfl
  unfold piecesF
  rw [this]
  decide +kernel
theorem Cut_q {s : DSpan} {xs : List Tx} (hs : OkSp s) (hx : ∀ k ∈ xs, OkT k) (hl : xs.length ≤ 100000) : span_Cut s xs = some (piecesF s xs, ((), ())) := Cut_p hs hx hl
theorem ok0 : OkSp ⟨[], []⟩ := ⟨by simp [OkT], by simp [OkT]⟩
theorem awake_p : watershedlaw04_awake = some (true, ()) := by
  have oka : OkSp ⟨[97], [99]⟩ := ⟨by simp [OkT], by simp [OkT]⟩
  have okb : OkSp ⟨[98], []⟩ := ⟨by simp [OkT], by simp [OkT]⟩
  unfold watershedlaw04_awake
  refine bindS rfl ?_
  refine bindS (Cut_q ok0 (by simp [OkT]) (by simp)) ?_
  refine bindS (Meet_p oka okb) ?_
  dsimp only
  rw [pieces_m]
  refine condT rfl ?_
  refine bindS rfl ?_
  refine condT (by decide +kernel) ?_
  refine bindS rfl ?_
  refine condT (by decide +kernel) ?_
  refine condT (by decide +kernel) ?_
  refine condT (by decide +kernel) ?_
  refine bindS (Parts_p (by simp) (fun s hs => ?_)) ?_
  · simp at hs
    rcases hs with rfl | rfl <;> exact ⟨by simp [OkT], by simp [OkT]⟩
  refine condT (by decide +kernel) ?_
  refine bindS (Key_p (by simp [OkT])) ?_
  refine condT (by decide +kernel) ?_
  refine bindS (Key_p (by simp [OkT])) ?_
  exact congrArg (fun b => some (b, ())) (by decide +kernel)
theorem few_q (l : List Tx) (hl : l.length ≤ 140737488355328) : ∃ r, watershedlaw04_few l = some (r, ()) ∧ (r = true → l.length ≤ 60) := by
  have key : ∃ z, loopM watershedlaw04_few_l1 ((l, 0, ()), ()) = some z ∧ (z = .inl ((false, ()), ()) ∨ z = .inr ((l, ()), ())) := by
    refine loopM_spec (fun n a => ∃ i : Nat, a = ((l, (i : Int), ()), ()) ∧ i ≤ l.length ∧ n = l.length - i) _ ?_ (n := l.length) ⟨0, rfl, Nat.zero_le _, rfl⟩
    rintro n a ⟨i, rfl, h1, rfl⟩
    unfold watershedlaw04_few_l1
    by_cases hi : i < l.length
    · by_cases h6 : i < 61
      · by_cases h4 : 40 < l[i].length
        · right
          exact ⟨_, condT (dT (by dsimp only; omega)) (condT (dT (by dsimp only; omega)) (bindS (getI_lt hi) (condT (dT (by omega)) rfl))), .inl rfl⟩
        · left
          refine ⟨l.length - (i + 1), _, by omega, condT (dT (by dsimp only; omega)) (condT (dT (by dsimp only; omega)) (bindS (getI_lt hi) (condF (dF (by omega)) rfl))), i + 1, ?_, by omega, rfl⟩
          dsimp only
          rw [w64 (by omega)]
          rfl
      · right
        exact ⟨_, condT (dT (by dsimp only; omega)) (condF (dF (by dsimp only; omega)) rfl), .inr rfl⟩
    · right
      exact ⟨_, condF (dF (by dsimp only; omega)) rfl, .inr rfl⟩
  obtain ⟨z, h1, rfl | rfl⟩ := key
  · exact ⟨false, bindS h1 rfl, fun h => by cases h⟩
  · refine ⟨_, bindS h1 rfl, fun h => ?_⟩
    dsimp only at h
    have := of_decide_eq_true h
    omega
theorem cuts2_p {keys : List Tx} {l : List DSpan} {i : Nat} {ok : Bool} {s t m : DSpan} (hi : i < keys.length) (hk : OkT keys[i]) (hl : ∀ x ∈ l, OkSp x) (hn : l.length ≤ 1000) :
    loopM watershedlaw04_SpanCuts_l2 ((keys, (), (), l, (), ok, (i : Int), 0, 0, ()), (s, t, m, (), ())) = some ((keys, (), (), l, (), ok, (i : Int), ((l.countP fun x => hasB x keys[i] : Nat) : Int), ()), (s, t, m, (), (), ())) := by
  refine loopM_run (step := watershedlaw04_SpanCuts_l2) (fun j : Nat => ((keys, (), (), l, (), ok, (i : Int), (((l.take j).countP fun x => hasB x keys[i] : Nat) : Int), (j : Int), ()), (s, t, m, (), ()))) (N := l.length) (fun j hj => ?_) ?_
  · have hc := List.countP_le_length (p := fun x : DSpan => hasB x keys[i]) (l := l.take j)
    rw [List.length_take] at hc
    have hn : (l.take (j + 1)).countP (fun x => hasB x keys[i]) = (l.take j).countP (fun x => hasB x keys[i]) + (if hasB l[j] keys[i] = true then 1 else 0) := by
      rw [List.take_succ_eq_append_getElem hj, List.countP_append, List.countP_singleton]
    unfold watershedlaw04_SpanCuts_l2
    refine condT (dT (by dsimp only; omega)) (bindS (getI_lt hj) (bindS (getI_lt hi) (bindS (Has_p (hl _ (List.getElem_mem hj)) hk) ?_)))
    rw [hn]
    dsimp only
    cases hh : hasB l[j] keys[i]
    · refine condF rfl ?_
      rw [w64 (by omega)]
      rfl
    · refine condT rfl ?_
      rw [w64 (by omega), w64 (by omega)]
      rfl
  · unfold watershedlaw04_SpanCuts_l2
    refine condF (dF (by dsimp only; omega)) ?_
    dsimp only
    rw [List.take_length]
theorem cuts1_p {keys : List Tx} {at_ : List Tx} {s t : DSpan} (hk : ∀ k ∈ keys, OkT k) (hkn : keys.length ≤ 60) (ha : ∀ k ∈ at_, OkT k) (hn : at_.length ≤ 60) (hs : OkSp s) (ht : OkSp t) :
    loopM watershedlaw04_SpanCuts_l1 ((keys, (), (), piecesF s at_, (), meetB s t, 0, ()), (s, t, (bif meetB s t then meetS s t else ⟨[], []⟩), (), ())) = some (.inr (((), piecesF s at_, ()), (s, t, (bif meetB s t then meetS s t else ⟨[], []⟩), (), (), ()))) := by
  have hpl := pieces_len s at_
  refine loopM_run (step := watershedlaw04_SpanCuts_l1) (fun j : Nat => ((keys, (), (), piecesF s at_, (), meetB s t, (j : Int), ()), (s, t, (bif meetB s t then meetS s t else ⟨[], []⟩), (), ()))) (N := keys.length) (fun j hj => ?_) ?_
  · have hkj := hk _ (List.getElem_mem hj)
    have hm := meet_has s t keys[j]
    unfold watershedlaw04_SpanCuts_l1
    refine condT (dT (by dsimp only; omega)) (bindS (cuts2_p (l := piecesF s at_) hj hkj (pieces_ok hs ha) (by omega)) ?_)
    refine bindS (getI_lt hj) (bindS (getI_lt hj) (bindS (Has_p hs hkj) (bindS (Has_p ht hkj) ?_)))
    dsimp only
    rw [pieces_count, w64 (by omega)]
    cases h1 : hasB s keys[j]
    · rw [h1] at hm
      refine condF rfl (condF rfl (condF rfl ?_))
      cases hq : meetB s t
      · exact condF rfl (condF rfl rfl)
      · rw [hq] at hm
        refine condT rfl (bindS (getI_lt hj) (bindS (Has_p (hs.meet ht) hkj) ?_))
        refine condF (dF ?_) rfl
        simpa using hm.symm
    · rw [h1] at hm
      refine condF rfl (condF rfl (condT rfl ?_))
      cases hq : meetB s t
      · rw [hq] at hm
        refine condF rfl (condF (dF ?_) rfl)
        simpa using hm
      · rw [hq] at hm
        refine condT rfl (bindS (getI_lt hj) (bindS (Has_p (hs.meet ht) hkj) ?_))
        refine condF (dF ?_) rfl
        simpa using hm
  · unfold watershedlaw04_SpanCuts_l1
    exact condF (dF (by dsimp only; omega)) rfl
theorem cuts3_p {at_ : List Tx} {s : DSpan} (ha : ∀ k ∈ at_, OkT k) (hn : at_.length ≤ 60) (hs : OkSp s) :
    loopM watershedlaw04_SpanCuts_l3 (((), piecesF s at_, 0, ()), (s, (), ())) = some (.inr ((), (s, (), ()))) := by
  have hpl := pieces_len s at_
  refine loopM_run (step := watershedlaw04_SpanCuts_l3) (fun j : Nat => (((), piecesF s at_, (j : Int), ()), (s, (), ()))) (N := (piecesF s at_).length) (fun j hj => ?_) ?_
  · obtain ⟨g1, g2⟩ := pieces_within (s := s) (l := at_) _ (List.getElem_mem hj)
    have hok := pieces_ok hs ha _ (List.getElem_mem hj)
    unfold watershedlaw04_SpanCuts_l3
    refine condT (dT (by dsimp only; omega)) (bindS (getI_lt hj) (bindS (Within_p hok hs) (condF (by dsimp only; rw [g2]; rfl) (bindS (getI_lt hj) (bindS (Right_p hok) (condF (by dsimp only; rw [g1]; rfl) ?_))))))
    dsimp only
    rw [w64 (by omega)]
    rfl
  · unfold watershedlaw04_SpanCuts_l3
    exact condF (dF (by dsimp only; omega)) rfl
theorem SpanCuts_p (x0 x1 : DSpan) (x2 x3 : List Tx) (k0 : ok_DSpan x0) (k1 : ok_DSpan x1) (k2 : ok_LListUInt8 x2) (k3 : ok_LListUInt8 x3) : watershedlaw04_SpanCuts x0 x1 x2 x3 = some (true, ()) := by
  unfold watershedlaw04_SpanCuts
  refine bindS awake_p (condF rfl ?_)
  have hroom := k2.room
  refine iteT (by simp only [List.length_cons, List.length_nil]; omega) ?_
  obtain ⟨r, hr, hr2⟩ := few_q ([x0.lo, x0.hi, x1.lo, x1.hi] ++ x2) (by simp only [List.length_append, List.length_cons, List.length_nil]; omega)
  refine bindS hr ?_
  cases r with
  | false => exact condT rfl rfl
  | true =>
  refine condF rfl ?_
  obtain ⟨q, hq, hq2⟩ := few_q x3 k3.len
  refine bindS hq ?_
  cases q with
  | false => exact condT rfl rfl
  | true =>
  refine condF rfl ?_
  have hl2 : x2.length ≤ 60 := by have := hr2 rfl; simp only [List.length_append] at this; omega
  have hl3 := hq2 rfl
  have hs : OkSp x0 := .of k0
  have ht : OkSp x1 := .of k1
  refine bindS (Cut_q hs k2.all (by omega)) (bindS (Meet_p hs ht) (bindS rfl ?_))
  refine bindS (Cut_q ok0 k2.all (by omega)) ?_
  have hp0 := pieces_len ⟨[], []⟩ x2
  refine bindS (Parts_p (l := piecesF ⟨[], []⟩ x2) (by omega) (pieces_ok ok0 k2.all)) ?_
  have hpa : partsF [] (piecesF ⟨[], []⟩ x2) = true := by
    rw [partsF_E]
    exact cutF_parts (s := ⟨[], []⟩) (sdF x2) (by decide +kernel)
  refine condF (by dsimp only; rw [hpa]; rfl) ?_
  have hrest : ∀ {β : Type} (o : β), True := fun _ => trivial
  have tail : ((loopM watershedlaw04_SpanCuts_l1 ((x3, (), (), piecesF x0 x2, (), meetB x0 x1, 0, ()), (x0, x1, (bif meetB x0 x1 then meetS x0 x1 else ⟨[], []⟩), (), ()))).bind fun b10 =>
      (match b10 with
      | .inl b11 => some (b11.1.1, ())
      | .inr b12 => (loopM watershedlaw04_SpanCuts_l3 (((), b12.1.2.1, 0, ()), (b12.2.1, (), ()))).bind fun b13 =>
        (match b13 with
        | .inl b14 => some (b14.1.1, ())
        | .inr b15 => some (true, ())))) = some (true, ()) :=
    bindS (cuts1_p k3.all hl3 k2.all hl2 hs ht) (bindS (cuts3_p k2.all hl2 hs) rfl)
  by_cases h0 : piecesF x0 x2 = []
  · refine condT (dT (by dsimp only; rw [h0]; rfl)) ?_
    refine bindS (Right_p hs) ?_
    have hr0 : rightB x0 = false := by
      cases hh : rightB x0
      · rfl
      · exact absurd h0 (pieces_ne x2 hh)
    refine condF hr0 ?_
    exact tail
  · refine condF (dF ?_) ?_
    · dsimp only
      intro h
      exact h0 (List.eq_nil_of_length_eq_zero (by omega))
    · exact tail
end Go.Proofs.Ytfgcknjlncognaa
