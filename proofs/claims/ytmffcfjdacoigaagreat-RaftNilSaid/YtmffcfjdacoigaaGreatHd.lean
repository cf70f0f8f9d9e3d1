/- Headers: lists of ours by where they lie; what a header's list has; what appending, storing, making does. -/
import Derived.Test.YtmffcfjdacoigaaGreatMb
namespace Go.Proofs.YtmffcfjdacoigaaGreat
open Go.RowKit
set_option maxRecDepth 100000
set_option linter.unusedVariables false
set_option linter.unusedSimpArgs false
def hbk : AV → Option Nat
  | .raw (.slice (some ad) _ (_ + 1)) => some ad.block
  | _ => none
def hdr (b n c : Nat) : AV := .raw (.slice (some ⟨b, 0, none⟩) n c)
theorem hbk_hdr {b n c : Nat} (hc : 0 < c) : hbk (hdr b n c) = some b := by
  cases c with
  | zero => omega
  | succ c => rfl
theorem hbk_of {b b' n c : Nat} (h : hbk (hdr b n c) = some b') : b = b' := by
  cases c with
  | zero => cases h
  | succ c => injection h
@[simp] theorem hbk_nil : hbk (.lst none 0 0 []) = none := rfl
/-- A header's list: its cells; the block is ours. -/
def Hd (σ : St) (e sz : Nat) (v : AV) (n : Nat) (cells : List AV) : Prop :=
  cells.length = n * sz ∧ (∀ a ∈ cells, a.one = true) ∧ (((v = .lst none 0 0 [] ∨ ∃ ad, v = .raw (.slice (some ad) 0 0)) ∧ n = 0) ∨ ∃ b c all, 0 < c ∧ v = hdr b n c ∧ σ.blk b = some (.own e all) ∧ σ.used b ∧ all.length = c * sz ∧ all.take (n * sz) = cells ∧ n ≤ c ∧ c ≤ maxLen)
section
variable {P : Program} {O : Nat → Prop} {ops : Array Oper} {rest : List Oper} {env : Env} {σ τ : St} {K : Env → St → Prop} {d : Option Nat} {ty ty' t : TypeId} {pos : String} {af : Array Edge} {x y : Operand} {e e' sz sz' n m : Nat} {v u : AV} {cells cs ds : List AV} {b : Nat}
theorem Hd.len (h : Hd σ e sz v n cells) : cells.length = n * sz := h.1
theorem Hd.one (h : Hd σ e sz v n cells) : ∀ a ∈ cells, a.one = true := h.2.1
theorem Hd.at_ (h : Hd σ e sz v n cells) (hb : hbk v = some b) : ∃ c all, v = hdr b n c ∧ σ.blk b = some (.own e all) ∧ σ.used b ∧ all.length = c * sz ∧ all.take (n * sz) = cells ∧ n ≤ c ∧ c ≤ maxLen := by
  rcases h.2.2 with ⟨rfl | ⟨ad, rfl⟩, _⟩ | ⟨b', c, all, hc, rfl, h1⟩
  · cases hb
  · cases hb
  · obtain rfl := hbk_of hb
    exact ⟨c, all, rfl, h1⟩
theorem Hd.blk (h : Hd σ e sz v n cells) (hb : hbk v = some b) : ∃ all, σ.blk b = some (.own e all) := by
  obtain ⟨_, all, _, h1, _⟩ := h.at_ hb
  exact ⟨all, h1⟩
theorem Hd.used (h : Hd σ e sz v n cells) (hb : hbk v = some b) : σ.used b := by
  obtain ⟨_, all, _, _, h1, _⟩ := h.at_ hb
  exact h1
theorem Hd.val (h : Hd σ e sz v n cells) : ∃ A c, v.val = .slice A n c ∧ (A = none → n = 0 ∧ c = 0) ∧ n ≤ c := by
  rcases h.2.2 with ⟨rfl | ⟨ad, rfl⟩, rfl⟩ | ⟨b, c, all, _, rfl, _, _, _, _, h1, _⟩
  · exact ⟨none, 0, by simp, fun _ => ⟨rfl, rfl⟩, Nat.le_refl _⟩
  · exact ⟨some ad, 0, rfl, (fun h => by cases h), Nat.le_refl _⟩
  · exact ⟨some ⟨b, 0, none⟩, c, rfl, (fun h => by cases h), h1⟩
theorem Hd.src (h : Hd σ e sz v n cells) (hsz : 0 < sz) : Src σ sz v n cells := by
  obtain ⟨h1, h2, h3⟩ := h
  rcases h3 with ⟨rfl | ⟨ad, rfl⟩, rfl⟩ | ⟨b, c, all, _, rfl, g1, g2, g3, g4, g5, g6⟩
  · rw [List.eq_nil_of_length_eq_zero (by rw [h1, Nat.zero_mul] : cells.length = 0)]
    exact src_nil
  · rw [List.eq_nil_of_length_eq_zero (by rw [h1, Nat.zero_mul] : cells.length = 0)]
    exact ⟨by simp, by simp, ⟨some ad, 0, rfl, fun _ => rfl⟩, fun w Z hH hV => ⟨by simp, fun ad c hy j u hu => by simp at hu⟩⟩
  · have hm : n * sz ≤ c * sz := Nat.mul_le_mul_right _ g5
    have hs := src_part (σ := σ) (sz := sz) (off := 0) (m := n) (y := hdr b n c) (ad := ⟨b, 0, none⟩) (c := c) rfl g1 (fun _ => rfl) hsz (by omega) (by rw [List.drop_zero, g4]; exact h2)
    rw [List.drop_zero, g4] at hs
    exact hs
theorem Hd.but {S : Nat → Prop} (h : Hd σ e sz v n cells) (k : But S σ τ) (hS : ∀ b, hbk v = some b → ¬ S b) : Hd τ e sz v n cells := by
  refine ⟨h.1, h.2.1, ?_⟩
  rcases h.2.2 with h3 | ⟨b, c, all, hc, rfl, g1, g2, g3⟩
  · exact .inl h3
  · exact .inr ⟨b, c, all, hc, rfl, k.keep _ _ (hS _ (hbk_hdr hc)) g1, k.used _ g2, g3⟩
theorem Hd.ext (h : Hd σ e sz v n cells) (k : Ext σ τ) : Hd τ e sz v n cells := h.but (S := fun _ => False) k.but fun _ _ => id
theorem Hd.ne (h : Hd σ e sz v n cs) (k : Hd σ e' sz' u m ds) (hne : e ≠ e') (hb : hbk v = some b) : hbk u ≠ some b := fun hu => by
  obtain ⟨_, h1⟩ := h.blk hb
  obtain ⟨_, h2⟩ := k.blk hu
  rw [h1] at h2
  injection h2 with h2
  injection h2 with h2
  exact hne h2
theorem Hd.old (h : Hd σ e sz v n cs) (hb : hbk v = some b) (hn : σ.blk b = none) : False := by
  obtain ⟨_, h1⟩ := h.blk hb
  rw [h1] at hn
  cases hn
theorem Hd.load {j : Nat} (h : Hd σ e sz v n cells) (hb : hbk v = some b) (hj : j < n) (ha : aggA P t = some true) (hs : sizeA P t = some sz) : aLoad P t σ (ptr b (j * sz)) = some (.agg ((cells.drop (j * sz)).take sz)) := by
  obtain ⟨c, all, rfl, g1, g2, g3, g4, g5, g6⟩ := h.at_ hb
  unfold aLoad ptr
  dsimp only
  rw [g1, ha, hs]
  dsimp only [cellsAt]
  have h1 : (j + 1) * sz ≤ n * sz := Nat.mul_le_mul_right _ hj
  have h2 : n * sz ≤ c * sz := Nat.mul_le_mul_right _ g5
  rw [Nat.succ_mul] at h1
  rw [if_pos (by omega), ← g4, List.drop_take, List.take_take, Nat.min_eq_left (by omega)]
end
end Go.Proofs.YtmffcfjdacoigaaGreat
