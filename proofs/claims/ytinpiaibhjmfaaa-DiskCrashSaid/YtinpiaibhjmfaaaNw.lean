/- A call that only makes new things: a new block becomes ours. -/
import Derived.Test.YtinpiaibhjmfaaaX16
namespace Go.Proofs.Ytinpiaibhjmfaaa
open Go.RowKit
set_option linter.unusedSimpArgs false
set_option maxRecDepth 100000
set_option linter.unusedVariables false
section
variable {w w' : World} {σ : St} {Z : Nat -> Prop}
theorem Grow.below (h : Zaj w σ Z) (hb : Below w.heap.size w w') {g : Nat} (hg : w.heap.size <= g) (k : Bk) : Grow w σ w' (σ.put g k) := by
 have hne : ∀ b, b < w.heap.size -> b ≠ g := fun b hb => by omega
 refine ⟨hb.os, hb.tape, hb.output, hb.size, fun b hl hu => ?_, fun b hl hn => ⟨hb.block b hl, ?_⟩, fun b t k' s hl ht => ⟨fun j v _ hv => ?_, .inr ⟨t, k', s, ?_, Nat.le_refl _⟩⟩, fun b hu => .inl hu⟩
 ·rcases hu with hu | hu
  ·exact hu
  ·exact absurd hu (hne b hl)
 ·show (if b = g then _ else σ.blk b) = _
  rw [if_neg (hne b hl)]; exact hn
 ·rw [World.cell?_of_block (w := w) (hb.block b hl)]; exact hv
 ·show (if b = g then _ else σ.blk b) = _
  rw [if_neg (hne b hl)]; exact ht
theorem Zaj.new_own (h : Zaj w σ Z) (hb : Below w.heap.size w w') {g : Nat} (hg : w.heap.size <= g) (t : TypeId) (cs : List AV) (hgh : w'.heap[g]? = some (.cells (cs.map AV.val).toArray t (0, 0))) (hv : ∀ c ∈ cs, ∃ v, c = .raw v) :
 Zaj w' (σ.put g (.own t cs)) Z := by
 have hG := Grow.below h hb hg (.own t cs)
 have hgl : g < w'.heap.size := (Array.getElem?_eq_some_iff.1 hgh).1
 have hs := hb.size
 refine ⟨fun b hu => ?_, fun b hz => ?_, fun b t' cs' hb' => ?_, fun b t' k s hb' => ?_, fun b es hb' => ?_⟩
 ·rcases hu with hu | hu
  ·have := h.used _ hu; omega
  ·subst hu; exact hgl
 ·obtain ⟨h1, h2⟩ := h.z _ hz
  refine ⟨by omega, ?_⟩
  show (if b = g then _ else σ.blk b) = _
  rw [if_neg (by omega)]; exact h2
 ·change (if b = g then some (Bk.own t cs) else σ.blk b) = _ at hb'
  split at hb'
  ·rename_i e
   injection hb' with hb'
   injection hb' with e1 e2
   subst e1 e2 e
   refine ⟨.inr rfl, hgh, fun c hc => ?_⟩
   obtain ⟨v, rfl⟩ := hv c hc
   unfold Zaf; trivial
  ·obtain ⟨h1, h2, h3⟩ := h.own _ _ _ hb'
   exact ⟨.inl h1, (hb.block _ (h.used _ h1)).trans h2, fun c hc => hG.valid (h3 c hc)⟩
 ·change (if b = g then some (Bk.own t cs) else σ.blk b) = _ at hb'
  split at hb'
  ·injection hb' with hb'; cases hb'
  ·obtain ⟨h1, cs', h2, h3⟩ := h.tail _ _ _ _ hb'
   exact ⟨.inl h1, cs', (hb.block _ (h.used _ h1)).trans h2, h3⟩
 ·change (if b = g then some (Bk.own t cs) else σ.blk b) = _ at hb'
  split at hb'
  ·injection hb' with hb'; cases hb'
  ·obtain ⟨h1, a', c', h2, h3⟩ := h.map _ _ hb'
   exact ⟨.inl h1, a', c', (hb.block _ (h.used _ h1)).trans h2, h3⟩
theorem Grow.below_same (h : Zaj w σ Z) (hb : Below w.heap.size w w') : Grow w σ w' σ :=
 ⟨hb.os, hb.tape, hb.output, hb.size, fun b hl hu => hu, fun b hl hn => ⟨hb.block b hl, hn⟩, fun b t k' s hl ht => ⟨fun j v _ hv => by rw [World.cell?_of_block (w := w) (hb.block b hl)]; exact hv, .inr ⟨t, k', s, ht, Nat.le_refl _⟩⟩, fun b hu => hu⟩
theorem Zaj.below_same (h : Zaj w σ Z) (hb : Below w.heap.size w w') : Zaj w' σ Z := by
 have hG := Grow.below_same h hb
 have hs := hb.size
 refine ⟨fun b hu => by have := h.used _ hu; omega, fun b hz => ?_, fun b t' cs' hb' => ?_, fun b t' k s hb' => ?_, fun b es hb' => ?_⟩
 ·obtain ⟨h1, h2⟩ := h.z _ hz
  exact ⟨by omega, h2⟩
 ·obtain ⟨h1, h2, h3⟩ := h.own _ _ _ hb'
  exact ⟨h1, (hb.block _ (h.used _ h1)).trans h2, fun c hc => hG.valid (h3 c hc)⟩
 ·obtain ⟨h1, cs', h2, h3⟩ := h.tail _ _ _ _ hb'
  exact ⟨h1, cs', (hb.block _ (h.used _ h1)).trans h2, h3⟩
 ·obtain ⟨h1, a', c', h2, h3⟩ := h.map _ _ hb'
  exact ⟨h1, a', c', (hb.block _ (h.used _ h1)).trans h2, h3⟩
theorem Zaj.fresh_of (h : Zaj w σ Z) {g : Nat} (hg : w.heap.size <= g) : ¬ σ.used g /\ σ.blk g = none := by
 have hu : ¬ σ.used g := fun hu => by have := h.used _ hu; omega
 refine ⟨hu, ?_⟩
 cases hx : σ.blk g with
 | none => rfl
 | some x => cases x with
  | own t cs => exact absurd (h.own _ _ _ hx).1 hu
  | tail t k s => exact absurd (h.tail _ _ _ _ hx).1 hu
  | map es => exact absurd (h.map _ _ hx).1 hu
end
end Go.Proofs.Ytinpiaibhjmfaaa
