/- Objects of ours are lent to a call that only reads. -/
import Derived.Test.YtinpiaibhjmfaaaCl
namespace Go.Proofs.Ytinpiaibhjmfaaa
open Go.RowKit
set_option linter.unusedSimpArgs false
set_option maxRecDepth 100000
set_option linter.unusedVariables false
set_option linter.unusedSectionVars false
variable {T : Nat -> Type}
section
variable {C : Zav T} {P : Program} {N N' : Nat} {ρ ρ' : Nat -> AV} {h : List (HI T)} {σ τ : St} {U U0 G : Nat -> Prop}
open Classical in
noncomputable def Ze9 (G : Nat -> Prop) (σ : St) : St := ⟨fun b => if G b then none else σ.blk b, σ.used, by
 obtain ⟨n, hn⟩ := σ.fin
 refine ⟨n, fun b hb => ⟨(hn b hb).1, ?_⟩⟩
 rw [(hn b hb).2]; simp⟩
theorem Zdr {b : Nat} (hb : G b) : (Ze9 G σ).blk b = none := by unfold Ze9; dsimp only; rw [if_pos hb]
theorem Zcp {b : Nat} (hb : ¬ G b) : (Ze9 G σ).blk b = σ.blk b := by unfold Ze9; dsimp only; rw [if_neg hb]
theorem Zje {Z : Nat -> Prop} {b o : Nat} (hf : σ.free Z b o) : (Ze9 G σ).free Z b o := by
 obtain ⟨h1, h2, h3⟩ := hf
 refine ⟨h1, h2, ?_⟩
 by_cases hb : G b
 ·rw [Zdr hb]; trivial
 ·rw [Zcp hb]; exact h3
theorem ZjR {w : World} {Z : Nat -> Prop} (hH : Zaj w σ Z) : Zaj w (Ze9 G σ) Z := by
 refine ⟨hH.used, fun b hz => ⟨(hH.z b hz).1, ?_⟩, fun b t cs hb => ?_, fun b t k s hb => ?_, fun b es hb => ?_⟩
 ·by_cases hb : G b
  ·exact Zdr hb
  ·rw [Zcp hb]; exact (hH.z b hz).2
 ·by_cases hg : G b
  ·rw [Zdr hg] at hb; cases hb
  ·rw [Zcp hg] at hb
   obtain ⟨g1, g2, g3⟩ := hH.own _ _ _ hb
   exact ⟨g1, g2, fun c hc => (g3 c hc).sub fun b o => Zje⟩
 ·by_cases hg : G b
  ·rw [Zdr hg] at hb; cases hb
  ·rw [Zcp hg] at hb
   exact hH.tail _ _ _ _ hb
 ·by_cases hg : G b
  ·rw [Zdr hg] at hb; cases hb
  ·rw [Zcp hg] at hb
   exact hH.map _ _ hb
theorem Zg4 (hown : ∀ b, G b -> ∃ e cs, σ.blk b = some (.own e cs) /\ σ.used b) {w w' : World} {Z : Nat -> Prop} (hH : Zaj w σ Z) {g : Nat} (hH' : Zaj w' τ Z) (hG : Grow w (Ze9 G σ) w' τ) (hbut : ∀ b k, ¬ G b -> σ.blk b = some k -> τ.blk b = some k) (hused : ∀ b, σ.used b -> τ.used b)
 (hgu : ¬ σ.used g) (hgn : σ.blk g = none) (hflat : ∀ t cs, τ.blk g = some (.own t cs) -> ∀ c ∈ cs, ∀ w B, Zaf w B c) : Zaj w' (ZiQ σ τ g) Z /\ Grow w σ w' (ZiQ σ τ g) /\ Ext σ (ZiQ σ τ g) := by
 have hnarr : ∀ b t k s, σ.blk b = some (.tail t k s) -> ¬ G b := fun b t k s hb hg => by
  obtain ⟨e, cs, q, _⟩ := hown b hg
  rw [hb] at q; cases q
 have hge : τ.used g -> ¬ g < w.heap.size := fun hu hl => hgu (hG.used g hl hu)
 have hG2 : Grow w σ w' (ZiQ σ τ g) := by
  refine ⟨hG.os, hG.tape, hG.output, hG.size, hG.used, fun b hb hn => ?_, fun b t k s hb ht => ⟨(hG.tail b t k s hb (by rw [Zcp (hnarr _ _ _ _ ht)]; exact ht)).1, .inr ⟨t, k, s, Zil ht, Nat.le_refl _⟩⟩, hused⟩
  have hl : (Ze9 G σ).blk b = none := by
   by_cases hg : G b
   ·exact Zdr hg
   ·rw [Zcp hg]; exact hn
  obtain ⟨q1, q2⟩ := hG.rest b hb hl
  refine ⟨q1, ?_⟩
  by_cases hbg : b = g
  ·subst hbg; rw [Zg3 hn]; exact q2
  ·exact ZgC hn hbg
 refine ⟨⟨hH'.used, fun b hz => ⟨(hH'.z b hz).1, ?_⟩, fun b t cs hb => ?_, fun b t k s hb => ?_, fun b es hb => ?_⟩, hG2, ⟨fun b k hk => Zil hk, hused⟩⟩
 ·have hn := (hH.z b hz).2
  by_cases hbg : b = g
  ·subst hbg; rw [Zg3 hn]; exact (hH'.z b hz).2
  ·exact ZgC hn hbg
 ·cases hs : σ.blk b with
  | some k =>
   rw [Zil hs] at hb
   injection hb with hb
   subst hb
   obtain ⟨g1, g2, g3⟩ := hH.own _ _ _ hs
   refine ⟨hused _ g1, ?_, fun c hc => hG2.valid (g3 c hc)⟩
   by_cases hg : G b
   ·exact (hG.rest b (hH.used _ g1) (Zdr hg)).1.trans g2
   ·exact (hH'.own _ _ _ (hbut b _ hg hs)).2.1
  | none =>
   by_cases hbg : b = g
   ·subst hbg
    rw [Zg3 hs] at hb
    obtain ⟨g1, g2, _⟩ := hH'.own _ _ _ hb
    exact ⟨g1, g2, fun c hc => hflat _ _ hb c hc _ _⟩
   ·rw [ZgC hs hbg] at hb; cases hb
 ·cases hs : σ.blk b with
  | some k' =>
   rw [Zil hs] at hb
   injection hb with hb
   subst hb
   obtain ⟨g1, g2⟩ := hH'.tail _ _ _ _ (hbut b _ (hnarr _ _ _ _ hs) hs)
   exact ⟨hused _ (hH.tail _ _ _ _ hs).1, g2⟩
  | none =>
   by_cases hbg : b = g
   ·subst hbg
    rw [Zg3 hs] at hb
    exact hH'.tail _ _ _ _ hb
   ·rw [ZgC hs hbg] at hb; cases hb
 ·cases hs : σ.blk b with
  | some k' =>
   rw [Zil hs] at hb
   injection hb with hb
   subst hb
   have hna : ¬ G b := fun hg => by
    obtain ⟨e, cs, q, _⟩ := hown b hg
    rw [hs] at q; cases q
   obtain ⟨g1, g2⟩ := hH'.map _ _ (hbut b _ hna hs)
   exact ⟨hused _ (hH.map _ _ hs).1, g2⟩
  | none =>
   by_cases hbg : b = g
   ·subst hbg
    rw [Zg3 hs] at hb
    exact hH'.map _ _ hb
   ·rw [ZgC hs hbg] at hb; cases hb
end
end Go.Proofs.Ytinpiaibhjmfaaa
