/- Objects of ours are lent to a call that only reads. -/
import Derived.Test.YtinpiaibhjmfaaaCl
namespace Go.Proofs.Ytinpiaibhjmfaaa
open Go.RowKit
set_option linter.unusedSimpArgs false
set_option maxRecDepth 100000
set_option linter.unusedVariables false
set_option linter.unusedSectionVars false
variable {T : Nat → Type}
section
variable {C : Codec T} {P : Program} {N N' : Nat} {ρ ρ' : Nat → AV} {h : List (HI T)} {σ τ : St} {U U0 G : Nat → Prop}
open Classical in
noncomputable def lentG (G : Nat → Prop) (σ : St) : St := ⟨fun b => if G b then none else σ.blk b, σ.used, by
  obtain ⟨n, hn⟩ := σ.fin
  refine ⟨n, fun b hb => ⟨(hn b hb).1, ?_⟩⟩
  rw [(hn b hb).2]; simp⟩
theorem lentG_in {b : Nat} (hb : G b) : (lentG G σ).blk b = none := by unfold lentG; dsimp only; rw [if_pos hb]
theorem lentG_out {b : Nat} (hb : ¬ G b) : (lentG G σ).blk b = σ.blk b := by unfold lentG; dsimp only; rw [if_neg hb]
theorem lentG_free {Z : Nat → Prop} {b o : Nat} (hf : σ.free Z b o) : (lentG G σ).free Z b o := by
  obtain ⟨h1, h2, h3⟩ := hf
  refine ⟨h1, h2, ?_⟩
  by_cases hb : G b
  · rw [lentG_in hb]; trivial
  · rw [lentG_out hb]; exact h3
theorem lentG_ok {w : World} {Z : Nat → Prop} (hH : HeapOk w σ Z) : HeapOk w (lentG G σ) Z := by
  refine ⟨hH.used, fun b hz => ⟨(hH.z b hz).1, ?_⟩, fun b t cs hb => ?_, fun b t k s hb => ?_, fun b es hb => ?_⟩
  · by_cases hb : G b
    · exact lentG_in hb
    · rw [lentG_out hb]; exact (hH.z b hz).2
  · by_cases hg : G b
    · rw [lentG_in hg] at hb; cases hb
    · rw [lentG_out hg] at hb
      obtain ⟨g1, g2, g3⟩ := hH.own _ _ _ hb
      exact ⟨g1, g2, fun c hc => (g3 c hc).sub fun b o => lentG_free⟩
  · by_cases hg : G b
    · rw [lentG_in hg] at hb; cases hb
    · rw [lentG_out hg] at hb
      exact hH.tail _ _ _ _ hb
  · by_cases hg : G b
    · rw [lentG_in hg] at hb; cases hb
    · rw [lentG_out hg] at hb
      exact hH.map _ _ hb
/-- What a call leaves that was lent blocks of ours, and one block that it made, of scalars. -/
theorem lentG_back (hown : ∀ b, G b → ∃ e cs, σ.blk b = some (.own e cs) ∧ σ.used b) {w w' : World} {Z : Nat → Prop} (hH : HeapOk w σ Z) {g : Nat} (hH' : HeapOk w' τ Z) (hG : Grow w (lentG G σ) w' τ) (hbut : ∀ b k, ¬ G b → σ.blk b = some k → τ.blk b = some k) (hused : ∀ b, σ.used b → τ.used b)
    (hgu : ¬ σ.used g) (hgn : σ.blk g = none) (hflat : ∀ t cs, τ.blk g = some (.own t cs) → ∀ c ∈ cs, ∀ w B, Valid w B c) : HeapOk w' (addSt σ τ g) Z ∧ Grow w σ w' (addSt σ τ g) ∧ Ext σ (addSt σ τ g) := by
  have hnarr : ∀ b t k s, σ.blk b = some (.tail t k s) → ¬ G b := fun b t k s hb hg => by
    obtain ⟨e, cs, q, _⟩ := hown b hg
    rw [hb] at q; cases q
  have hge : τ.used g → ¬ g < w.heap.size := fun hu hl => hgu (hG.used g hl hu)
  have hG2 : Grow w σ w' (addSt σ τ g) := by
    refine ⟨hG.os, hG.tape, hG.output, hG.size, hG.used, fun b hb hn => ?_, fun b t k s hb ht => ⟨(hG.tail b t k s hb (by rw [lentG_out (hnarr _ _ _ _ ht)]; exact ht)).1, .inr ⟨t, k, s, add_old ht, Nat.le_refl _⟩⟩, hused⟩
    have hl : (lentG G σ).blk b = none := by
      by_cases hg : G b
      · exact lentG_in hg
      · rw [lentG_out hg]; exact hn
    obtain ⟨q1, q2⟩ := hG.rest b hb hl
    refine ⟨q1, ?_⟩
    by_cases hbg : b = g
    · subst hbg; rw [add_new hn]; exact q2
    · exact add_none hn hbg
  refine ⟨⟨hH'.used, fun b hz => ⟨(hH'.z b hz).1, ?_⟩, fun b t cs hb => ?_, fun b t k s hb => ?_, fun b es hb => ?_⟩, hG2, ⟨fun b k hk => add_old hk, hused⟩⟩
  · have hn := (hH.z b hz).2
    by_cases hbg : b = g
    · subst hbg; rw [add_new hn]; exact (hH'.z b hz).2
    · exact add_none hn hbg
  · cases hs : σ.blk b with
    | some k =>
      rw [add_old hs] at hb
      injection hb with hb
      subst hb
      obtain ⟨g1, g2, g3⟩ := hH.own _ _ _ hs
      refine ⟨hused _ g1, ?_, fun c hc => hG2.valid (g3 c hc)⟩
      by_cases hg : G b
      · exact (hG.rest b (hH.used _ g1) (lentG_in hg)).1.trans g2
      · exact (hH'.own _ _ _ (hbut b _ hg hs)).2.1
    | none =>
      by_cases hbg : b = g
      · subst hbg
        rw [add_new hs] at hb
        obtain ⟨g1, g2, _⟩ := hH'.own _ _ _ hb
        exact ⟨g1, g2, fun c hc => hflat _ _ hb c hc _ _⟩
      · rw [add_none hs hbg] at hb; cases hb
  · cases hs : σ.blk b with
    | some k' =>
      rw [add_old hs] at hb
      injection hb with hb
      subst hb
      obtain ⟨g1, g2⟩ := hH'.tail _ _ _ _ (hbut b _ (hnarr _ _ _ _ hs) hs)
      exact ⟨hused _ (hH.tail _ _ _ _ hs).1, g2⟩
    | none =>
      by_cases hbg : b = g
      · subst hbg
        rw [add_new hs] at hb
        exact hH'.tail _ _ _ _ hb
      · rw [add_none hs hbg] at hb; cases hb
  · cases hs : σ.blk b with
    | some k' =>
      rw [add_old hs] at hb
      injection hb with hb
      subst hb
      have hna : ¬ G b := fun hg => by
        obtain ⟨e, cs, q, _⟩ := hown b hg
        rw [hs] at q; cases q
      obtain ⟨g1, g2⟩ := hH'.map _ _ (hbut b _ hna hs)
      exact ⟨hused _ (hH.map _ _ hs).1, g2⟩
    | none =>
      by_cases hbg : b = g
      · subst hbg
        rw [add_new hs] at hb
        exact hH'.map _ _ hb
      · rw [add_none hs hbg] at hb; cases hb
end
end Go.Proofs.Ytinpiaibhjmfaaa
