/- What writes over a list of bytes ends, whatever the list's room. -/
import Derived.Test.YtlaehnldaejipaaGo
import Derived.Test.YtlaehnldaejipaaPl
namespace Go.Proofs.Ytlaehnldaejipaa
open Go.RowKit
set_option maxRecDepth 100000
set_option linter.unusedVariables false
set_option linter.unusedSimpArgs false
theorem markB_ends (x : Int) : ∃ (y : Int) (u : UInt8), wk_markByte 2 x = some (y, ()) ∧ b8 y = some u := by
  obtain ⟨y, hy⟩ : ∃ y, wk_mark 2 x = some (y, ()) := ⟨_, rfl⟩
  have hw : ∀ z : Int, ∃ u : UInt8, b8 (IntKind.u8.wrap z) = some u := fun z => by
    have h : 0 ≤ IntKind.u8.wrap z ∧ IntKind.u8.wrap z < 256 := by simp [IntKind.wrap, IntKind.bits, IntKind.signed]; omega
    exact ⟨_, by unfold b8 g8; dsimp only; rw [if_pos h]; rfl⟩
  obtain ⟨u, hu⟩ := hw ((IntKind.u64.wrap (IntKind.u64.wrap y * 11400714819323198485) : Int).fdiv (2 ^ min (56 : Int).toNat (IntKind.u64.bits)))
  exact ⟨_, u, by unfold wk_markByte; rw [hy]; rfl, hu⟩
theorem wk_OverBytes_all (n c : Nat) (h1 : n ≤ c) (h2 : c ≤ maxLen) (h3 : n ≤ 1000000) : ∃ ys : List UInt8, wk_OverBytes (0, n, c) [] = some ((), (ys, ())) := by
  unfold maxLen at h2
  have hw : IntKind.i64.wrap ((n : Int) + 12) = ((n + 12 : Nat) : Int) := by rw [w64 (by omega)]; rfl
  obtain ⟨m, hm, hmc, hmn⟩ : ∃ m : Nat, (if ((n + 12 : Nat) : Int) < ((c : Nat) : Int) then ((n + 12 : Nat) : Int) else ((c : Nat) : Int)) = (m : Int) ∧ m ≤ c ∧ m ≤ 1000012 := by
    by_cases h : ((n + 12 : Nat) : Int) < ((c : Nat) : Int)
    · exact ⟨n + 12, if_pos h, by omega, by omega⟩
    · exact ⟨c, if_neg h, Nat.le_refl _, by omega⟩
  have key : ∃ z, loopM wk_OverBytes_l1 (((0, m, c), 0, ()), (([] : List UInt8), ())) = some z ∧ ∃ ys : List UInt8, z = ((), (ys, ())) := by
    refine loopM_spec (fun k a => ∃ (i : Nat) (ys : List UInt8), a = (((0, m, c), (i : Int), ()), (ys, ())) ∧ i ≤ m ∧ ys.length = i ∧ k = m - i) _ ?_ (n := m) ⟨0, [], rfl, Nat.zero_le _, rfl, rfl⟩
    rintro k a ⟨i, ys, rfl, g1, g2, rfl⟩
    unfold wk_OverBytes_l1
    by_cases hi : i < m
    · left
      obtain ⟨y, u, hy, hu⟩ := markB_ends (i : Int)
      refine ⟨m - (i + 1), _, by omega, condT (dT (by dsimp only; omega)) (bindS hy (iteT (by dsimp only; omega) (iteT (by dsimp only; omega) (bindS hu rfl)))), i + 1, ys ++ [u], ?_, by omega, by simp [g2], rfl⟩
      dsimp only
      rw [w64 (by omega), Nat.zero_add, Int.toNat_natCast, List.take_of_length_le (by omega), List.drop_of_length_le (by omega)]
      rfl
    · right
      exact ⟨_, condF (dF (by dsimp only; omega)) rfl, ys, rfl⟩
  obtain ⟨z, hz, ys, rfl⟩ := key
  refine ⟨ys, ?_⟩
  unfold wk_OverBytes
  dsimp only
  rw [hw, hm]
  refine iteT (by omega) ?_
  refine bindS (v := ((), (ys, ()))) ?_ rfl
  simpa using hz
end Go.Proofs.Ytlaehnldaejipaa
