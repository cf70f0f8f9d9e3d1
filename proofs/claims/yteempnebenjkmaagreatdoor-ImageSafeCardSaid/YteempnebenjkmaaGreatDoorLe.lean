/- Objects of ours are lent to a call that only reads. -/
import Derived.Test.YteempnebenjkmaaGreatDoorCl
namespace Go.Proofs.YteempnebenjkmaaGreatDoor
open Go.RowKit
set_option linter.unusedSimpArgs false
set_option maxRecDepth 100000
set_option linter.unusedVariables false
set_option linter.unusedSectionVars false
variable {T : Nat -> Type}
section
variable {C : Zaw T} {P : Program} {N N' : Nat} {ρ ρ' : Nat -> AV} {h : List (HI T)} {σ τ : St} {U U0 G : Nat -> Prop}
open Classical in
noncomputable def Zjs (G : Nat -> Prop) (σ : St) : St := ⟨fun b => if G b then none else σ.blk b, σ.used, by
 obtain ⟨n, hn⟩ := σ.fin
 refine ⟨n, fun b hb => ⟨(hn b hb).1, ?_⟩⟩
 rw [(hn b hb).2]; simp⟩
theorem Zeh {b : Nat} (hb : G b) : (Zjs G σ).blk b = none := by unfold Zjs; dsimp only; rw [if_pos hb]
theorem Zdp {b : Nat} (hb : ¬ G b) : (Zjs G σ).blk b = σ.blk b := by unfold Zjs; dsimp only; rw [if_neg hb]
theorem ZmZ {Z : Nat -> Prop} {b o : Nat} (hf : σ.free Z b o) : (Zjs G σ).free Z b o := by
 obtain ⟨h1, h2, h3⟩ := hf
 refine ⟨h1, h2, ?_⟩
 by_cases hb : G b
 ·rw [Zeh hb]; trivial
 ·rw [Zdp hb]; exact h3
theorem Zrz {w : World} {Z : Nat -> Prop} (hH : Zaj w σ Z) : Zaj w (Zjs G σ) Z := by
 refine ⟨hH.used, fun b hz => ⟨(hH.z b hz).1, ?_⟩, fun b t cs hb => ?_, fun b t k s hb => ?_, fun b es hb => ?_⟩
 ·by_cases hb : G b
  ·exact Zeh hb
  ·rw [Zdp hb]; exact (hH.z b hz).2
 ·by_cases hg : G b
  ·rw [Zeh hg] at hb; cases hb
  ·rw [Zdp hg] at hb
   obtain ⟨g1, g2, g3⟩ := hH.own _ _ _ hb
   exact ⟨g1, g2, fun c hc => (g3 c hc).sub fun b o => ZmZ⟩
 ·by_cases hg : G b
  ·rw [Zeh hg] at hb; cases hb
  ·rw [Zdp hg] at hb
   exact hH.tail _ _ _ _ hb
 ·by_cases hg : G b
  ·rw [Zeh hg] at hb; cases hb
  ·rw [Zdp hg] at hb
   exact hH.map _ _ hb
end
end Go.Proofs.YteempnebenjkmaaGreatDoor
