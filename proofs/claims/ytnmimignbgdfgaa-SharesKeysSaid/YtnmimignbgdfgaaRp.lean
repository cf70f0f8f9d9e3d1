/- slices.Replace of a clone's end by a list: its contract. -/
import Derived.Test.YtnmimignbgdfgaaG0
namespace Go.Proofs.Ytnmimignbgdfgaa
open Go.RowKit
set_option linter.unusedSimpArgs false
set_option maxRecDepth 100000
set_option linter.unusedVariables false
structure ReplaceOk (n : Nat) (i j : Int) (ys xs : List (DShare)) : Prop where
  len : xs.length = n
  i0 : 0 ≤ i
  ij : i < j
  jn : j = (n : Int)
  ny : 1 ≤ ys.length
  max : (n : Int) + ys.length ≤ 1000000
instance (n : Nat) (i j : Int) (ys xs : List (DShare)) : Decidable (ReplaceOk n i j ys xs) :=
  decidable_of_iff (xs.length = n ∧ 0 ≤ i ∧ i < j ∧ j = (n : Int) ∧ 1 ≤ ys.length ∧ (n : Int) + ys.length ≤ 1000000) ⟨fun ⟨a, b, c, d, e, f⟩ => ⟨a, b, c, d, e, f⟩, fun h => ⟨h.len, h.i0, h.ij, h.jn, h.ny, h.max⟩⟩
theorem Replace_p {n c : Nat} {i j : Int} {ys xs : List (DShare)} (h : ReplaceOk n i j ys xs) (hc : n ≤ c) :
    ∃ zs, slices_Replace (0, n, c) i j ys xs = some ((0, i.toNat + ys.length), ((), zs, ())) ∧ i.toNat + ys.length ≤ zs.length ∧ zs.take (i.toNat + ys.length) = xs.take i.toNat ++ ys ++ xs.drop j.toNat := by
  obtain ⟨h1, h2, h3, h4, h5, h6⟩ := h
  obtain ⟨I, rfl⟩ : ∃ I : Nat, i = (I : Int) := ⟨i.toNat, by omega⟩
  subst h4
  have hd : xs.drop n = [] := List.drop_eq_nil_of_le (by omega)
  unfold slices_Replace
  simp only [Int.toNat_natCast, Int.toNat_zero, Nat.sub_zero, Nat.zero_add, Nat.add_zero, hd, List.append_nil]
  rw [if_pos (by omega)]
  rw [decide_eq_false (by omega), cond_false]
  simp only [decide_true, cond_true]
  rw [if_pos (by omega), if_pos (by omega)]
  by_cases hf : I + ys.length ≤ c
  · rw [if_pos hf]
    by_cases hlt : I + ys.length < n
    · have e1 : (decide (((I + ys.length : Nat) : Int) < ((n : Nat) : Int))) = true := by simp only [decide_eq_true_eq]; omega
      rw [e1, cond_true, if_pos (by omega), if_pos (by simp only [List.length_append, List.length_take, List.length_drop]; omega)]
      refine ⟨_, rfl, ?_, ?_⟩
      · simp only [List.length_append, List.length_take, List.length_drop, List.length_replicate]; omega
      · rw [List.append_assoc, List.append_assoc, List.take_append_of_le_length (by simp only [List.length_take, List.length_append, List.length_drop]; omega), List.take_take, Nat.min_self, ← List.append_assoc, List.take_append_of_le_length (by simp only [List.length_take, List.length_append]; omega)]
        exact List.take_of_length_le (by simp only [List.length_take, List.length_append]; omega)
    · have e1 : (decide (((I + ys.length : Nat) : Int) < ((n : Nat) : Int))) = false := by simp only [decide_eq_false_iff_not]; omega
      rw [e1, cond_false]
      refine ⟨_, rfl, ?_, ?_⟩
      · simp only [List.length_append, List.length_take, List.length_drop]; omega
      · rw [List.take_append_of_le_length (by simp only [List.length_take, List.length_append]; omega)]
        exact List.take_of_length_le (by simp only [List.length_take, List.length_append]; omega)
  · rw [if_neg hf]
    have e1 : (decide (((I + ys.length : Nat) : Int) < ((n : Nat) : Int))) = false := by simp only [decide_eq_false_iff_not]; omega
    rw [e1, cond_false]
    refine ⟨_, rfl, ?_, ?_⟩
    · simp only [List.length_append, List.length_take, List.drop_zero]; omega
    · rw [List.drop_zero]
      exact List.take_of_length_le (by simp only [List.length_take, List.length_append]; omega)
theorem replace_tr {n : Nat} {i j : Int} {ys xs : List (DShare)} (h : ReplaceOk n i j ys xs) : Tr CT Try.prog (fun _ => True) 26 [.as 5 0 0 n none, .int .i64 i, .int .i64 j, .sl 5 ys none] [.arr 41 5 true xs] (.sl 5 (xs.take i.toNat ++ ys ++ xs.drop j.toNat) (some 1)) [.dead, .row 41 4] := by
  intro ρ σ vs hs H
  obtain ⟨a, bs, rfl, h1, h2⟩ := hs.to
  have hn : n ≠ 0 := by have := h.i0; have := h.ij; have := h.jn; omega
  rcases sv_as.1 h1 with ⟨ad, c, rfl, hA⟩ | ⟨rfl, hn0, _⟩
  · obtain ⟨zs, hz1, hz2, hz3⟩ := Replace_p h hA.le
    have hce : Tr CT Try.prog (fun _ => True) 26 [.as 5 0 0 n (some c), .int .i64 i, .int .i64 j, .sl 5 ys none] [.arr 41 5 false xs] (.as 5 1 0 (i.toNat + ys.length) none) [.dead, .arr 41 5 false zs] := slices_Replace_ce.ok ((0, n, c), i, j, ys, ()) (xs, ()) _ hz1
    have hfr := Tr.freeze (T := Ty) (C := CT) (E := 5) (n := i.toNat + ys.length) (co := none) (xs := zs) (by have := h.ny; omega) hz2 hce
    rw [hz3] at hfr
    have hH2 : Hp CT ρ [.arr 41 5 false xs] σ := ⟨fun i x hx => (by
      match i, hx with
      | 0, hx => injection hx with hx; subst hx; exact H.it 0 (.arr 41 5 true xs) rfl), fun i j x y b hx hy _ _ _ _ => (by
      match i, j, hx, hy with
      | 0, 0, _, _ => rfl)⟩
    refine (hfr ρ σ _ (.cons (sv_as.2 (.inl ⟨ad, c, rfl, hA.lt, hA.le, hA.max, hA.len, hA.at_, fun c' hc => by injection hc⟩)) h2) hH2).mono ?_
    rintro rv τ ⟨ρ', g1, g2, g3⟩
    have hmp : ∀ (i : Nat) (x : HI Ty), ([HI.arr 41 5 false xs] : List (HI Ty))[i]? = some x → ∃ x' : HI Ty, ([HI.arr 41 5 true xs] : List (HI Ty))[i]? = some x' ∧ x'.alive = true := fun i x hx => (by
      match i, hx with
      | 0, _ => exact ⟨_, rfl, rfl⟩)
    refine ⟨ρ', g1, g2, ⟨g3.len, g3.ext, g3.but.more fun b ⟨i, x, hu, hx, ax, bx⟩ => ?_, fun b hb => ?_⟩⟩
    · obtain ⟨x', q1, q2⟩ := hmp i x hx
      exact ⟨i, x', hu, q1, q2, bx⟩
    · rcases g3.born b hb with ⟨i, x, hx, ax, bx⟩ | h
      · obtain ⟨x', q1, q2⟩ := hmp i x hx
        exact .inl ⟨i, x', q1, q2, bx⟩
      · exact .inr h
  · exact absurd hn0 hn
end Go.Proofs.Ytnmimignbgdfgaa
