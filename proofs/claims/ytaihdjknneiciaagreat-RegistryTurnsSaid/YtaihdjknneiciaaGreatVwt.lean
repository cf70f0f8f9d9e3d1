/- What a registry tells of itself, plainly (round 21Z). -/
import Derived.Test.YtaihdjknneiciaaGreatPnt
import Derived.Test.YtaihdjknneiciaaGreatWd1
namespace Go.Proofs.YtaihdjknneiciaaGreat
open Go.RowKit
set_option maxRecDepth 100000
set_option linter.unusedVariables false
set_option linter.unusedSimpArgs false
theorem parts_all : ∀ (l : List DSpan) (f : Tx), partsF f l = true → ∀ s ∈ l, rightB s = true
  | [], f, h, s, hs => by cases hs
  | [a], f, h, s, hs => by
    rw [List.mem_singleton.1 hs]
    unfold partsF at h
    simp only [Bool.and_eq_true] at h
    exact h.1
  | a :: b :: l, f, h, s, hs => by
    unfold partsF at h
    simp only [Bool.and_eq_true] at h
    rcases List.mem_cons.1 hs with rfl | hs
    · exact h.1
    · exact parts_all (b :: l) _ h.2.2.2 s hs
theorem keyB_len {t : Tx} (h : keyB t = true) : t.length ≤ 20 := by
  unfold keyB at h
  simp only [Bool.and_eq_true, decide_eq_true_eq] at h
  exact h.2.1
theorem rightB_len {s : DSpan} (h : rightB s = true) : s.lo.length ≤ 20 ∧ s.hi.length ≤ 20 := by
  unfold rightB at h
  simp only [Bool.and_eq_true, Bool.or_eq_true, decide_eq_true_eq] at h
  obtain ⟨h1, h2, _⟩ := h
  constructor
  · rcases h1 with h1 | h1
    · rw [h1]; simp
    · exact keyB_len h1
  · rcases h2 with h2 | h2
    · rw [h2]; simp
    · exact keyB_len h2
theorem rightW_spans {s : DShares} (h : rightW s = true) : s.list.length ≤ 40 ∧ ∀ x ∈ s.list, rightB x.span = true := by
  obtain ⟨_, h2, _, h4⟩ := right_iff.1 h
  exact ⟨h2, fun x hx => parts_all _ _ h4 _ (List.mem_map.2 ⟨x, hx, rfl⟩)⟩
theorem rowF_len {t : Tx} (h : t.length ≤ 20) : (rowF t).length ≤ 29 := by
  have h1 := numF_len9 (n := t.length) (by omega)
  unfold rowF
  rw [List.length_append]; omega
theorem bytes_p {l : List UInt8} (hl : l.length ≤ 100000) : wk_SameBytes l l = some (true, ()) := by
  have hrun := loopM_run (step := wk_SameBytes_l1) (fun i : Nat => ((l, l, (i : Int), ()), ())) (N := l.length) (b := .inr ((), ())) (fun i hi => ?_) ?_
  · unfold wk_SameBytes
    exact condF (dF (by simp)) (bindS hrun rfl)
  · unfold wk_SameBytes_l1
    refine condT (dT (by (try dsimp only); omega)) (bindS (getI_lt hi) (bindS (getI_lt hi) (condF (dF (by simp)) ?_)))
    dsimp only
    rw [w64 (by omega)]; rfl
  · unfold wk_SameBytes_l1
    exact condF (dF (by (try dsimp only); omega)) rfl
end Go.Proofs.YtaihdjknneiciaaGreat
