/- Clones: as arrays all of which is elements; of arrays of ours. -/
import Derived.Test.YtaihdjknneiciaaGreatFz
import Derived.Test.YtaihdjknneiciaaGreatTw
namespace Go.Proofs.YtaihdjknneiciaaGreat
open Go.RowKit
set_option linter.unusedSimpArgs false
set_option maxRecDepth 100000
set_option linter.unusedVariables false
set_option linter.unusedSectionVars false
variable {T : Nat -> Type}
section
variable {C : Zaz T} {P : Program} {N N' : Nat} {ρ ρ' : Nat -> AV} {h : List (HI T)} {σ τ : St} {U U0 : Nat -> Prop}
theorem ZCn {l : List (XV T)} {as_ : List AV} (hf : l.all XV.scal = true) (hs : SVs C N ρ l as_) : ∀ a ∈ as_, ∀ w B, Zaj w B a := fun a ha w B => (Zui (N' := N) (ρ' := ρ) hf hs).2 w B a ha
theorem ZCo {E : Nat} (hE : ∀ x : T E, (C.enc E x).all XV.scal = true) (xs : List (T E)) : (xs.flatMap (C.enc E)).all XV.scal = true := by
 rw [List.all_eq_true]
 intro v hv
 obtain ⟨x, _, hx⟩ := List.mem_flatMap.1 hv
 exact List.all_eq_true.1 (hE x) v hx
noncomputable def Zpn (σ τ : St) (g : Nat) : St := ⟨fun b => match σ.blk b with
 | some k => some k
 | none => if b = g then τ.blk b else none, τ.used, by
 obtain ⟨n, hn⟩ := σ.fin
 obtain ⟨m, hm⟩ := τ.fin
 refine ⟨n + m, fun b hb => ⟨(hm b (by omega)).1, ?_⟩⟩
 rw [(hn b (by omega)).2]
 dsimp only
 split
 ·exact (hm b (by omega)).2
 ·rfl⟩
theorem Zq0 {σ τ : St} {g b : Nat} {k : Bk} (h : σ.blk b = some k) : (Zpn σ τ g).blk b = some k := by unfold Zpn; dsimp only; rw [h]
theorem ZlT {σ τ : St} {g : Nat} (h : σ.blk g = none) : (Zpn σ τ g).blk g = τ.blk g := by unfold Zpn; dsimp only; rw [h]; simp
theorem Zmw {σ τ : St} {g b : Nat} (h : σ.blk b = none) (hb : b ≠ g) : (Zpn σ τ g).blk b = none := by unfold Zpn; dsimp only; rw [h]; simp [hb]
end
end Go.Proofs.YtaihdjknneiciaaGreat
