/- Books of verdicts, plainly (round 21Z). -/
import Derived.Test.YtaihdjknneiciaaGreatSc2
namespace Go.Proofs.YtaihdjknneiciaaGreat
open Go.RowKit
set_option maxRecDepth 100000
set_option linter.unusedVariables false
set_option linter.unusedSimpArgs false
theorem copied_p {v : DVerdict} (h : v.reads.length ≤ 1000) : ruling_copied v = some (v, ()) := by
  unfold ruling_copied clone187
  exact bindS (iteT (by omega) rfl) rfl
def vwrongB (x : DRead) : Bool := !keyB x.key || (decide (20 < x.value.length) || (!x.is && decide (x.value ≠ [])))
theorem vwrong_p {x : DRead} (hx : OkT x.key) : ruling_wrong x = some (vwrongB x, ()) := by
  unfold ruling_wrong vwrongB
  refine bindS (Key_p hx) ?_
  dsimp only
  cases keyB x.key with
  | false => rfl
  | true =>
    by_cases h : 20 < x.value.length
    · refine condF rfl (condT (dT (by omega)) ?_)
      rw [dT h]; rfl
    · refine condF rfl (condF (dF (by omega)) ?_)
      rw [dF h]
      cases x.is <;> rfl
theorem any6_p {xs : List DRead} (hx : ∀ x ∈ xs, OkT x.key) (hl : xs.length ≤ 140737488355328) : slices_ContainsFunc_5 xs = some (xs.any vwrongB, ()) := by
  have key : ∃ z, loopM slices_IndexFunc_8_l1 ((xs, (), (xs.length : Int), 0, ()), ()) = some z ∧ ((xs.any vwrongB = false ∧ z = .inr ((), ())) ∨ (xs.any vwrongB = true ∧ ∃ i : Nat, z = .inl (((i : Int), ()), ()))) := by
    refine loopM_spec (fun m a => ∃ i : Nat, a = ((xs, (), (xs.length : Int), (i : Int), ()), ()) ∧ i ≤ xs.length ∧ (xs.take i).any vwrongB = false ∧ m = xs.length - i) _ ?_ (n := xs.length) ⟨0, rfl, Nat.zero_le _, rfl, rfl⟩
    rintro m a ⟨i, rfl, h1, h2, rfl⟩
    unfold slices_IndexFunc_8_l1
    by_cases hi : i < xs.length
    · have hp := vwrong_p (hx _ (List.getElem_mem hi))
      cases hr : vwrongB xs[i] with
      | false =>
        left
        refine ⟨xs.length - (i + 1), _, by omega, condT (dT (by dsimp only; omega)) (bindS (getI_lt hi) (bindS hp (condF hr rfl))), i + 1, ?_, by omega, ?_, rfl⟩
        · dsimp only
          rw [w64 (by omega)]; rfl
        · rw [List.take_succ_eq_append_getElem hi, List.any_append, h2]; simp [hr]
      | true =>
        right
        refine ⟨_, condT (dT (by dsimp only; omega)) (bindS (getI_lt hi) (bindS hp (condT hr rfl))), .inr ⟨?_, i, rfl⟩⟩
        exact List.any_eq_true.2 ⟨_, List.getElem_mem hi, hr⟩
    · right
      obtain rfl : i = xs.length := by omega
      rw [List.take_length] at h2
      exact ⟨_, condF (dF (by dsimp only; omega)) rfl, .inl ⟨h2, rfl⟩⟩
  unfold slices_ContainsFunc_5 slices_IndexFunc_8
  obtain ⟨z, hz, ⟨h1, rfl⟩ | ⟨h1, i, rfl⟩⟩ := key
  · rw [h1]
    exact bindS (bindS hz rfl) rfl
  · rw [h1]
    refine bindS (bindS hz rfl) ?_
    dsimp only
    rw [dT (by omega)]
abbrev Nm := List ((Int × Int) × Int)
def nk (n : DName) : Int × Int := (n.client, n.num)
theorem eqb_two (a b : Int × Int) : MK.eqb (.two .i64 .i64) a b = decide (a = b) := by
  obtain ⟨a1, a2⟩ := a
  obtain ⟨b1, b2⟩ := b
  show (decide (a1 = b1) && decide (a2 = b2)) = _
  by_cases h1 : a1 = b1 <;> by_cases h2 : a2 = b2 <;> simp [h1, h2]
theorem mget_two (k j : Int × Int) (v : Int) : ∀ m : Nm, mget (.two .i64 .i64) (mput (.two .i64 .i64) m k v) j = if j = k then some v else mget (.two .i64 .i64) m j
  | [] => by
    show (bif MK.eqb (.two .i64 .i64) j k then some v else mget (.two .i64 .i64) ([] : Nm) j) = _
    rw [eqb_two]
    by_cases h : j = k <;> simp [h, mget]
  | p :: m => by
    have ih := mget_two k j v m
    show mget (.two .i64 .i64) (bif MK.eqb (.two .i64 .i64) k p.1 then (k, v) :: m else p :: mput (.two .i64 .i64) m k v) j = if j = k then some v else (bif MK.eqb (.two .i64 .i64) j p.1 then some p.2 else mget (.two .i64 .i64) m j)
    rw [eqb_two, eqb_two]
    by_cases h1 : k = p.1
    · rw [decide_eq_true h1, cond_true]
      show (bif MK.eqb (.two .i64 .i64) j k then some v else mget (.two .i64 .i64) m j) = _
      rw [eqb_two]
      by_cases h2 : j = k
      · simp [h2]
      · have : j ≠ p.1 := fun e => h2 (e.trans h1.symm)
        simp [h2, this]
    · rw [decide_eq_false h1, cond_false]
      show (bif MK.eqb (.two .i64 .i64) j p.1 then some p.2 else mget (.two .i64 .i64) (mput (.two .i64 .i64) m k v) j) = _
      rw [eqb_two, ih]
      by_cases h2 : j = p.1
      · have : j ≠ k := fun e => h1 (e.symm.trans h2)
        simp [h2]
        intro e; exact absurd e.symm h1
      · simp [h2]
/-- A book: each verdict is where the map says; the map has no other names. -/
structure BookOk (l : List DVerdict) (m : Nm) : Prop where
  at_ : ∀ (k : Nat) (h : k < l.length), mget (.two .i64 .i64) m (nk l[k].name) = some (k : Int)
  of_ : ∀ n i, mget (.two .i64 .i64) m n = some i → ∃ (k : Nat) (h : k < l.length), i = (k : Int) ∧ nk l[k].name = n
  few : ∀ v ∈ l, v.reads.length ≤ 20
theorem BookOk.nil : BookOk [] [] := ⟨fun k h => (by cases h), fun n i h => (by cases h), fun v h => (by cases h)⟩
def noV : DVerdict := ⟨⟨0, 0⟩, false, 0, []⟩
theorem bOf_p {l : List DVerdict} {m : Nm} (h : BookOk l m) (n : DName) :
    (mget (.two .i64 .i64) m (nk n) = none ∧ ruling_Of n (l, (), ()) m = some ((noV, false, ()), ((l, (), ()), m, (), (), ()))) ∨
    (∃ (k : Nat) (hk : k < l.length), nk l[k].name = nk n ∧ ruling_Of n (l, (), ()) m = some ((l[k], true, ()), ((l, (), ()), m, (), (), ()))) := by
  unfold ruling_Of ruling_known
  rw [Option.bind_some]
  dsimp only
  cases hg : mget (.two .i64 .i64) m (nk n) with
  | none => exact .inl ⟨rfl, condF rfl (condT (by show (!(mget (.two .i64 .i64) m (nk n)).isSome) = true; rw [hg]; rfl) rfl)⟩
  | some i =>
    obtain ⟨k, hk, rfl, hn⟩ := h.of_ _ _ hg
    refine .inr ⟨k, hk, hn, condF rfl (condF (by show (!(mget (.two .i64 .i64) m (nk n)).isSome) = false; rw [hg]; rfl) (bindS (v := l[k]) ?_ (bindS (copied_p (by have := h.few _ (List.getElem_mem hk); omega)) rfl)))⟩
    show getI l ((mget (.two .i64 .i64) m (nk n)).getD 0) = _
    rw [hg]
    exact getI_lt hk
theorem put_b {l : List DVerdict} {m : Nm} (h : BookOk l m) (v : DVerdict) (hv : v.reads.length ≤ 20) (hl : l.length ≤ 1000000) (hn : mget (.two .i64 .i64) m (nk v.name) = none) :
    ruling_put v (l, (), ()) m = some ((), ((l ++ [v], (), ()), mput (.two .i64 .i64) m (nk v.name) (l.length : Int), (), (), ())) ∧ BookOk (l ++ [v]) (mput (.two .i64 .i64) m (nk v.name) (l.length : Int)) := by
  refine ⟨?_, ?_⟩
  · unfold ruling_put
    refine bindS (copied_p (by omega)) (iteT ?_ rfl)
    dsimp only
    simp only [List.length_singleton]
    omega
  · have hne : ∀ (k : Nat) (hk : k < l.length), nk l[k].name ≠ nk v.name := fun k hk e => by
      have := h.at_ k hk
      rw [e, hn] at this
      cases this
    refine ⟨fun k hk => ?_, fun n i hi => ?_, fun w hw => ?_⟩
    · rw [mget_two]
      by_cases hkl : k < l.length
      · rw [List.getElem_append_left hkl, if_neg (hne k hkl)]
        exact h.at_ k hkl
      · rw [List.length_append, List.length_singleton] at hk
        obtain rfl : k = l.length := by omega
        simp
    · rw [mget_two] at hi
      by_cases hnv : n = nk v.name
      · rw [if_pos hnv] at hi
        injection hi with hi
        exact ⟨l.length, by simp, hi.symm, by simp [hnv]⟩
      · rw [if_neg hnv] at hi
        obtain ⟨k, hk, e1, e2⟩ := h.of_ n i hi
        exact ⟨k, by rw [List.length_append]; omega, e1, by rw [List.getElem_append_left hk]; exact e2⟩
    · rcases List.mem_append.1 hw with hw | hw
      · exact h.few w hw
      · rw [List.mem_singleton.1 hw]; exact hv
end Go.Proofs.YtaihdjknneiciaaGreat
