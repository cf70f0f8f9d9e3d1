/- Objects of ours are lent to a call that only reads. -/
import Derived.Test.YtmffcfjdacoigaaGreatCl
namespace Go.Proofs.YtmffcfjdacoigaaGreat
open Go.RowKit
set_option linter.unusedSimpArgs false
set_option maxRecDepth 100000
set_option linter.unusedVariables false
set_option linter.unusedSectionVars false
variable {T : Nat → Type}
section
variable {C : Codec T} {P : Program} {N N' : Nat} {ρ ρ' : Nat → AV} {h : List (HI T)} {σ τ : St} {U U0 G : Nat → Prop}
open Classical in
noncomputable def lentG (G : Nat → Prop) (σ : St) : St := ⟨fun b => if G b then none else σ.blk b, σ.used, by
  obtain ⟨n, hn⟩ := σ.fin
  refine ⟨n, fun b hb => ⟨(hn b hb).1, ?_⟩⟩
  rw [(hn b hb).2]; simp⟩
theorem lentG_in {b : Nat} (hb : G b) : (lentG G σ).blk b = none := by unfold lentG; dsimp only; rw [if_pos hb]
theorem lentG_out {b : Nat} (hb : ¬ G b) : (lentG G σ).blk b = σ.blk b := by unfold lentG; dsimp only; rw [if_neg hb]
theorem lentG_free {Z : Nat → Prop} {b o : Nat} (hf : σ.free Z b o) : (lentG G σ).free Z b o := by
  obtain ⟨h1, h2, h3⟩ := hf
  refine ⟨h1, h2, ?_⟩
  by_cases hb : G b
  · rw [lentG_in hb]; trivial
  · rw [lentG_out hb]; exact h3
end
end Go.Proofs.YtmffcfjdacoigaaGreat
