/- How much there is: letters that a law lets by. -/
import Derived.Test.YtlaehnldaejipaaFkc
namespace Go.Proofs.Ytlaehnldaejipaa
open Go.RowKit
set_option maxRecDepth 100000
set_option linter.unusedVariables false
set_option linter.unusedSimpArgs false
def cOf (c : DConfig) : Nat := 1 + c.voters.length + c.old.length + c.learners.length + c.want.length
theorem ConfigOf_p {c : DConfig} (h1 : c.voters.length ≤ 140737488355328) (h2 : c.old.length ≤ 140737488355328) (h3 : c.learners.length ≤ 140737488355328) (h4 : c.want.length ≤ 140737488355328) : wk_ConfigOf c = some (((cOf c : Nat) : Int), ()) := by
  unfold wk_ConfigOf cOf
  rw [w64 (n := 1 + (c.voters.length : Int)) (by omega), w64 (n := 1 + (c.voters.length : Int) + c.old.length) (by omega), w64 (n := 1 + (c.voters.length : Int) + c.old.length + c.learners.length) (by omega), w64 (by omega)]
  simp only [Int.natCast_add]
  rfl
theorem ConfigOf_ok {c : DConfig} (h : ok_DConfig c) : wk_ConfigOf c = some (((cOf c : Nat) : Int), ()) ∧ cOf c ≤ 1000000000000000 := by
  obtain ⟨h1, h2, h3, h4, _⟩ := h
  have g1 := h1.len
  have g2 := h2.len
  have g3 := h3.len
  have g4 := h4.len
  exact ⟨ConfigOf_p g1 g2 g3 g4, by unfold cOf; omega⟩
theorem cOf_few {c : DConfig} (h : cOf c ≤ 10000) : c.few := by unfold cOf at h; unfold DConfig.few; omega
def eOf (e : DEntry) : Nat := 1 + e.command.length / 8 + cOf e.config
theorem eOf_few {e : DEntry} (h : eOf e ≤ 10000) : e.few := by unfold eOf at h; exact ⟨by omega, cOf_few (by omega)⟩
theorem EntriesOf_p {l : List DEntry} (h : OkL 129 ok_DEntry l) : ∃ n : Nat, wk_EntriesOf l 8000 = some ((n : Int), ()) ∧ n ≤ 2000000000000000 ∧ (n ≤ 8000 → l.length ≤ 8000 ∧ ∀ e ∈ l, e.few) := by
  have hlen := h.len
  have key : ∃ z, loopM wk_EntriesOf_l1 ((l, 8000, 0, 0, ()), ()) = some z ∧ ∃ n : Nat, z = (((n : Int), ()), ()) ∧ n ≤ 2000000000000000 ∧ (n ≤ 8000 → l.length ≤ n ∧ ∀ e ∈ l, eOf e ≤ n) := by
    refine loopM_spec (fun r a => ∃ n i : Nat, a = ((l, 8000, (n : Int), (i : Int), ()), ()) ∧ i ≤ l.length ∧ i ≤ n ∧ n ≤ 2000000000000000 ∧ (∀ j, (hj : j < l.length) → j < i → eOf l[j] ≤ n) ∧ r = l.length - i) _ ?_ (n := l.length) ⟨0, 0, rfl, Nat.zero_le _, Nat.zero_le _, Nat.zero_le _, fun j _ hj => absurd hj (Nat.not_lt_zero _), rfl⟩
    rintro r a ⟨n, i, rfl, g1, g2, g3, g4, rfl⟩
    unfold wk_EntriesOf_l1
    by_cases hi : i < l.length
    · by_cases hn : n ≤ 8000
      · left
        obtain ⟨_, _, hcm, hcf, _⟩ := h.all _ (List.getElem_mem hi)
        obtain ⟨c1, c2⟩ := ConfigOf_ok hcf
        have hcl := hcm.len
        have hd : ((l[i].command.length : Int)).tdiv 8 = ((l[i].command.length / 8 : Nat) : Int) := by
          rw [Int.tdiv_eq_ediv_of_nonneg (by omega)]; rfl
        refine ⟨l.length - (i + 1), ((l, 8000, ((n + eOf l[i] : Nat) : Int), ((i + 1 : Nat) : Int), ()), ()), by omega, condT (dT (by dsimp only; omega)) (condT (dT (by dsimp only; omega)) (bindS (getI_lt hi) (bindS (getI_lt hi) (bindS c1 ?_)))), n + eOf l[i], i + 1, rfl, by omega, ?_, ?_, ?_, rfl⟩
        · dsimp only
          rw [hd]
          unfold eOf
          rw [w64 (n := (n : Int) + 1) (by omega), w64 (n := ((l[i].command.length / 8 : Nat) : Int)) (by omega), w64 (n := (n : Int) + 1 + ((l[i].command.length / 8 : Nat) : Int)) (by omega), w64 (by omega), w64 (by omega)]
          have : (n : Int) + 1 + ((l[i].command.length / 8 : Nat) : Int) + ((cOf l[i].config : Nat) : Int) = ((n + (1 + l[i].command.length / 8 + cOf l[i].config) : Nat) : Int) := by omega
          rw [this]
          rfl
        · unfold eOf; omega
        · unfold eOf; omega
        · intro j hj hji
          by_cases e : j = i
          · subst e; omega
          · have := g4 j hj (by omega); omega
      · right
        exact ⟨_, condT (dT (by dsimp only; omega)) (condF (dF (by dsimp only; omega)) rfl), n, rfl, g3, fun h => absurd h hn⟩
    · right
      refine ⟨_, condF (dF (by dsimp only; omega)) rfl, n, rfl, g3, fun _ => ⟨by omega, fun e he => ?_⟩⟩
      obtain ⟨j, hj, rfl⟩ := List.getElem_of_mem he
      exact g4 j hj (by omega)
  obtain ⟨z, hz, n, rfl, k1, k2⟩ := key
  refine ⟨n, ?_, k1, fun hn => ⟨by have := (k2 hn).1; omega, fun e he => eOf_few (by have := (k2 hn).2 e he; omega)⟩⟩
  unfold wk_EntriesOf
  rw [hz]
  rfl
theorem LetterOf_p {x : DLetter} (h : ok_DLetter x) : ∃ n : Int, wk_LetterOf x 8000 = some (n, ()) ∧ (n ≤ 8000 → x.few) := by
  obtain ⟨_, _, _, _, _, _, _, _, _, he, hb, _, _, _, hy, _⟩ := h
  obtain ⟨c1, c2⟩ := ConfigOf_ok hb.2.2.1
  obtain ⟨n, e1, e2, e3⟩ := EntriesOf_p he
  have hl := hy.len
  have hd : ((x.bytes.length : Int)).tdiv 8 = ((x.bytes.length / 8 : Nat) : Int) := by
    rw [Int.tdiv_eq_ediv_of_nonneg (by omega)]; rfl
  refine ⟨((1 + x.bytes.length / 8 + cOf x.base.config + n : Nat) : Int), ?_, fun hn => ?_⟩
  · unfold wk_LetterOf
    rw [c1, e1]
    simp only [Option.bind_some]
    rw [hd, w64 (n := ((x.bytes.length / 8 : Nat) : Int)) (by omega), w64 (n := 1 + ((x.bytes.length / 8 : Nat) : Int)) (by omega), w64 (n := 1 + ((x.bytes.length / 8 : Nat) : Int) + ((cOf x.base.config : Nat) : Int)) (by omega), w64 (by omega)]
    simp only [Int.natCast_add]
    rfl
  · obtain ⟨f1, f2⟩ := e3 (by omega)
    exact ⟨by omega, f2, cOf_few (by omega), by omega⟩
theorem great_p {l : List DLetter} (h : ∀ x ∈ l, ok_DLetter x) (hlen : l.length ≤ 140737488355328) : ∃ b, wl_great l = some (b, ()) ∧ (b = false → l.length ≤ 60 ∧ ∀ x ∈ l, x.few) := by
  have key : ∃ z, loopM wl_great_l1 ((l, 0, ()), ()) = some z ∧ (z = .inl ((true, ()), ()) ∨ (z = .inr ((l, ()), ()) ∧ (l.length ≤ 60 → ∀ x ∈ l, x.few))) := by
    refine loopM_spec (fun r a => ∃ i : Nat, a = ((l, (i : Int), ()), ()) ∧ i ≤ l.length ∧ (∀ j, (hj : j < l.length) → j < i → l[j].few) ∧ r = l.length - i) _ ?_ (n := l.length) ⟨0, rfl, Nat.zero_le _, fun j _ hj => absurd hj (Nat.not_lt_zero _), rfl⟩
    rintro r a ⟨i, rfl, g1, g4, rfl⟩
    unfold wl_great_l1
    by_cases hi : i < l.length
    · by_cases h6 : i < 61
      · obtain ⟨n, n1, n2⟩ := LetterOf_p (h _ (List.getElem_mem hi))
        by_cases hn : n ≤ 8000
        · left
          refine ⟨l.length - (i + 1), ((l, ((i + 1 : Nat) : Int), ()), ()), by omega, condT (dT (by dsimp only; omega)) (condT (dT (by dsimp only; omega)) (bindS (getI_lt hi) (bindS n1 (condF (dF (by dsimp only; omega)) ?_)))), i + 1, rfl, by omega, fun j hj hji => ?_, rfl⟩
          · dsimp only
            rw [w64 (by omega)]
            rfl
          · by_cases e : j = i
            · subst e; exact n2 hn
            · exact g4 j hj (by omega)
        · right
          exact ⟨_, condT (dT (by dsimp only; omega)) (condT (dT (by dsimp only; omega)) (bindS (getI_lt hi) (bindS n1 (condT (dT (by dsimp only; omega)) rfl)))), .inl rfl⟩
      · right
        exact ⟨_, condT (dT (by dsimp only; omega)) (condF (dF (by dsimp only; omega)) rfl), .inr ⟨rfl, fun h => by omega⟩⟩
    · right
      refine ⟨_, condF (dF (by dsimp only; omega)) rfl, .inr ⟨rfl, fun _ e he => ?_⟩⟩
      obtain ⟨j, hj, rfl⟩ := List.getElem_of_mem he
      exact g4 j hj (by omega)
  obtain ⟨z, hz, hz2⟩ := key
  unfold wl_great
  rw [hz]
  rcases hz2 with rfl | ⟨rfl, k⟩
  · exact ⟨true, rfl, fun h => by cases h⟩
  · refine ⟨_, rfl, fun hd => ?_⟩
    have := of_decide_eq_false hd
    dsimp only at this
    exact ⟨by omega, k (by omega)⟩
end Go.Proofs.Ytlaehnldaejipaa
