/- Arrays of unknown room that a call writes over: what is known of them is gone. -/
import Derived.Test.YtlmmpfbdgiokmaaGreatX16
namespace Go.Proofs.YtlmmpfbdgiokmaaGreat
open Go.RowKit
set_option linter.unusedSimpArgs false
set_option maxRecDepth 100000
set_option linter.unusedVariables false
variable {T : Nat → Type}
section
variable {C : Codec T} {P : Program} {ρ ρ' : Nat → AV} {σ τ : St} {e : TypeId} {kp : Bool} {E S : Nat}
theorem liv_one {x : HI T} {b : Nat} (hx : x.alive = true) : Liv ρ [x] b ↔ (ρ 0).owns b := by
  constructor
  · rintro ⟨i, y, h1, h2, h3⟩
    have := lt_of_get h1
    simp only [List.length_singleton] at this
    obtain rfl : i = 0 := by omega
    exact h3
  · exact fun h => ⟨0, x, rfl, hx, h⟩
theorem livU_one {x : HI T} {b : Nat} (hx : x.alive = true) : LivU (fun _ => True) ρ [x] b ↔ (ρ 0).owns b := by
  constructor
  · rintro ⟨i, y, _, h1, h2, h3⟩
    have := lt_of_get h1
    simp only [List.length_singleton] at this
    obtain rfl : i = 0 := by omega
    exact h3
  · exact fun h => ⟨0, x, trivial, rfl, hx, h⟩
theorem over_hp (hS : C.sz S = C.sz E) (hf : C.full S = true → C.full E = true ∧ ∀ zs : List (T E), ∃ ws : List (T S), ws.flatMap (C.enc S) = zs.flatMap (C.enc E)) {xs : List (T E)} (H : Hp C ρ [.arr e E kp xs] σ) : Hp C ρ [.arr e S kp ([] : List (T S))] σ := by
  refine ⟨fun i x hx => ?_, fun i j x y b h1 h2 _ _ _ _ => ?_⟩
  · have hi := lt_of_get hx
    simp only [List.length_singleton] at hi
    obtain rfl : i = 0 := by omega
    simp only [List.getElem?_cons_zero, Option.some.injEq] at hx
    subst hx
    rcases H.it 0 _ rfl with ⟨b, K, pre, rest, h1, h2, h3, h4, h5, h6, h7⟩ | ⟨h1, h2⟩
    · exact .inl ⟨b, K, [], pre ++ rest, h1, h2, h3, fun _ _ => .none, by rw [hS]; exact h5, h6, fun h => by
        obtain ⟨q1, q2⟩ := hf h
        obtain ⟨zs, hzs⟩ := h7 q1
        obtain ⟨ws, hws⟩ := q2 (xs ++ zs)
        refine ⟨ws, fun N' ρ' => ?_⟩
        rw [hws, List.flatMap_append]
        exact (h4 N' ρ').app (hzs N' ρ')⟩
    · exact .inr ⟨h1, rfl⟩
  · have g1 := lt_of_get h1
    have g2 := lt_of_get h2
    simp only [List.length_singleton] at g1 g2
    omega
/-- The room is taken from the value: for each the call is known. -/
theorem Tr.overA {f : FuncId} {n : Nat} {xs : List (T E)} {r : XV T} (hS : C.sz S = C.sz E) (hfE : C.full E = true → C.full S = true ∧ ∀ zs : List (T S), ∃ ws : List (T E), ws.flatMap (C.enc E) = zs.flatMap (C.enc S)) (hfS : C.full S = true → C.full E = true ∧ ∀ zs : List (T E), ∃ ws : List (T S), ws.flatMap (C.enc S) = zs.flatMap (C.enc E))
    (h : ∀ c, n ≤ c → c ≤ maxLen → n ≤ 140737488355328 → ∃ ys : List (T S), Tr C P (fun _ => True) f [.as S 0 0 n (some c)] [.arr e S kp ([] : List (T S))] r [.arr e S kp ys]) :
    Tr C P (fun _ => True) f [.as E 0 0 n none] [.arr e E kp xs] r [.arr e E kp ([] : List (T E))] := by
  intro ρ σ vs hs H
  obtain ⟨a, rfl, ha⟩ := svs1.1 hs
  obtain ⟨c, hc1, hc2, hn, ha'⟩ : ∃ c, n ≤ c ∧ c ≤ maxLen ∧ n ≤ 140737488355328 ∧ SV C 1 ρ (.as S 0 0 n (some c)) a := by
    rcases sv_as.1 ha with ⟨ad, c, rfl, hA⟩ | ⟨rfl, rfl, hiN, hρi, hco⟩
    · exact ⟨c, hA.le, hA.max, hA.len, sv_as.2 (.inl ⟨ad, c, rfl, hA.lt, hA.le, hA.max, hA.len, by rw [hS]; exact hA.at_, fun c' hc => by injection hc⟩)⟩
    · exact ⟨0, Nat.le_refl _, Nat.zero_le _, by omega, sv_as.2 (.inr ⟨rfl, rfl, hiN, hρi, fun c' hc => by injection hc with hc; exact hc.symm⟩)⟩
  obtain ⟨ys, hT⟩ := h c hc1 hc2 hn
  refine (hT ρ σ [a] (svs1.2 ⟨a, rfl, ha'⟩) (over_hp hS hfS H)).mono ?_
  rintro rv τ ⟨ρ', g1, g2, g3⟩
  refine ⟨ρ', g1, over_hp (E := S) (S := E) hS.symm hfE g2, ⟨g3.len, g3.ext, ?_, fun b hb => ?_⟩⟩
  · have e1 : LivU (fun _ => True) ρ [HI.arr e E kp xs] = LivU (fun _ => True) ρ [HI.arr e S kp ([] : List (T S))] := by
      funext b
      exact propext ((livU_one rfl).trans (livU_one rfl).symm)
    rw [e1]
    exact g3.but
  · rcases g3.born b ((liv_one rfl).2 ((liv_one rfl).1 hb)) with k | k
    · exact .inl ((liv_one rfl).2 ((liv_one rfl).1 k))
    · exact .inr k
end
end Go.Proofs.YtlmmpfbdgiokmaaGreat
