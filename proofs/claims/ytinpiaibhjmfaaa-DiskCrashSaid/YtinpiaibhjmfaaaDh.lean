/- Blocks of ours are lent to a call that tells a list of ours, of numbers. -/
import Derived.Test.YtinpiaibhjmfaaaHx
namespace Go.Proofs.Ytinpiaibhjmfaaa
open Go.RowKit
set_option linter.unusedSimpArgs false
set_option maxRecDepth 100000
set_option linter.unusedVariables false
def Zde (σ : St) (g : Nat) : Prop := σ.blk g = none /\ ¬ σ.used g
theorem Zde.of {σ τ : St} {g : Nat} (h : Zde τ g) (k : Ext σ τ) : Zde σ g := ⟨k.noneOf h.1, k.unused h.2⟩
theorem Zq2 (v : Value) : (AV.ofV v).val = v := AV.val_ofV v
section
variable {P : Program} {G : Nat -> Prop} {σ : St}
theorem Zog {w : World} {Z : Nat -> Prop} {τ : St} {g : Nat} {t : TypeId} {all all' : List AV} (hH : Zaj w τ Z) (hb : τ.blk g = some (.own t all)) (hv : all'.map AV.val = all.map AV.val) (hval : ∀ c ∈ all', ∀ B, Zaf w B c) : Zaj w (τ.set g (.own t all')) Z := by
 have hset : ∀ b, (τ.set g (.own t all')).blk b = if b = g then some (.own t all') else τ.blk b := fun b => rfl
 have hfree : ∀ b o, τ.free Z b o -> (τ.set g (.own t all')).free Z b o := fun b o ⟨f1, f2, f3⟩ => by
  refine ⟨f1, f2, ?_⟩
  rw [hset]
  by_cases hbg : b = g
  ·subst hbg
   rw [hb] at f3
   exact f3.elim
  ·rw [if_neg hbg]; exact f3
 refine ⟨hH.used, fun b hz => ⟨(hH.z b hz).1, ?_⟩, fun b t' cs hb' => ?_, fun b t' k s hb' => ?_, fun b es hb' => ?_⟩
 ·rw [hset]
  have hn := (hH.z b hz).2
  rw [if_neg (fun e => by rw [e, hb] at hn; cases hn)]
  exact hn
 ·rw [hset] at hb'
  by_cases hbg : b = g
  ·subst hbg
   rw [if_pos rfl] at hb'
   injection hb' with hb'
   injection hb' with q1 q2
   subst q1 q2
   obtain ⟨g1, g2, g3⟩ := hH.own _ _ _ hb
   exact ⟨g1, by rw [hv]; exact g2, fun c hc => hval c hc _⟩
  ·rw [if_neg hbg] at hb'
   obtain ⟨g1, g2, g3⟩ := hH.own _ _ _ hb'
   exact ⟨g1, g2, fun c hc => (g3 c hc).sub hfree⟩
 ·rw [hset] at hb'
  by_cases hbg : b = g
  ·rw [if_pos hbg] at hb'
   injection hb' with hb'
   cases hb'
  ·rw [if_neg hbg] at hb'
   exact hH.tail _ _ _ _ hb'
 ·rw [hset] at hb'
  by_cases hbg : b = g
  ·rw [if_pos hbg] at hb'
   injection hb' with hb'
   cases hb'
  ·rw [if_neg hbg] at hb'
   exact hH.map _ _ hb'
theorem Zoh {w w' : World} {ρ τ : St} {g : Nat} {t : TypeId} {all all' : List AV} (hG : Grow w ρ w' τ) (hb : τ.blk g = some (.own t all)) : Grow w ρ w' (τ.set g (.own t all')) := by
 have hset : ∀ b, (τ.set g (.own t all')).blk b = if b = g then some (.own t all') else τ.blk b := fun b => rfl
 refine ⟨hG.os, hG.tape, hG.output, hG.size, hG.used, fun b hb' hn => ?_, fun b t' k s hb' ht => ?_, hG.more⟩
 ·obtain ⟨q1, q2⟩ := hG.rest b hb' hn
  refine ⟨q1, ?_⟩
  rw [hset, if_neg (fun e => by rw [e, hb] at q2; cases q2)]
  exact q2
 ·obtain ⟨q1, q2⟩ := hG.tail b t' k s hb' ht
  refine ⟨q1, ?_⟩
  rw [hset]
  by_cases hbg : b = g
  ·subst hbg
   rcases q2 with q2 | ⟨_, _, _, q2, _⟩ <;> rw [hb] at q2 <;> cases q2
  ·rw [if_neg hbg]; exact q2
theorem ZsD {f : FuncId} {args args' : List AV} {e sz n : Nat} {Q : List AV -> Prop} (hown : ∀ b, G b -> ∃ e cs, σ.blk b = some (.own e cs) /\ σ.used b) (hl : ZcD G σ args args')
 (h1 : Zau P f args' (Ze9 G σ) fun a τ => ∃ cells, Hd τ e sz a n cells /\ Q cells /\ Ext (Ze9 G σ) τ /\ ∀ b, hbk a = some b -> Zde (Ze9 G σ) b) (hQ : ∀ cells, Q cells -> ∀ a ∈ cells, AV.ofV a.val = a)
 (K : AV -> St -> Prop) (hK : ∀ a τ cells, Hd τ e sz a n cells -> Q cells -> Ext σ τ -> (∀ b, hbk a = some b -> Zde σ b) -> K a τ) : Zau P f args σ K := by
 intro w Z hH hV
 have hc := h1 w Z (ZjR hH) (hl.valid hH hV)
 rw [hl.vals] at hc
 refine hc.mono ?_
 rintro y w' ⟨r, τ, rfl, ⟨cells, hd, hq, hX, hnew⟩, hH', _, hG⟩
 have hbut : ∀ b k, ¬ G b -> σ.blk b = some k -> τ.blk b = some k := fun b k hb hk => hX.keep b k (by rw [Zcp hb]; exact hk)
 have hnew2 : ∀ b, hbk r = some b -> Zde σ b := fun b hb => by
  obtain ⟨q1, q2⟩ := hnew b hb
  refine ⟨?_, q2⟩
  by_cases hg : G b
  ·obtain ⟨_, _, _, q⟩ := hown b hg
   exact absurd q q2
  ·rw [Zcp hg] at q1; exact q1
 rcases hd.2.2 with hnil | ⟨g, c, all, hc0, rfl, k1, k2, k3, k4, k5, k6⟩
 ·obtain ⟨g1, hg1⟩ := σ.fin
  obtain ⟨g2, hg2⟩ := τ.fin
  obtain ⟨p1, p2, p3⟩ := Zg4 hown hH (g := g1 + g2) hH' hG hbut hX.used (hg1 _ (by omega)).1 (hg1 _ (by omega)).2 (fun t cs hq => by rw [(hg2 _ (by omega)).2] at hq; cases hq)
  have hval : ∀ w B, Zaf w B r := by
   rcases hnil with ⟨rfl | ⟨ad, rfl⟩, _⟩
   ·exact fun w B => Za1
   ·exact fun w B => Zak _
  exact ⟨r, _, rfl, hK _ _ cells ⟨hd.1, hd.2.1, .inl hnil⟩ hq p3 hnew2, p1, hval _ _, p2⟩
 ·have hn := hnew2 g (Zd9 hc0)
  have hvv : (all.map fun a => AV.ofV a.val).map AV.val = all.map AV.val := by
   rw [List.map_map]
   exact List.map_congr_left fun a _ => Zq2 _
  have hvd : ∀ c ∈ all.map (fun a => AV.ofV a.val), ∀ (w : World) B, Zaf w B c := fun c hc w B => by
   obtain ⟨a, _, rfl⟩ := List.mem_map.1 hc
   exact ZbW _
  have h2 := Zog (all' := all.map fun a => AV.ofV a.val) hH' k1 hvv fun c hc B => hvd c hc w' B
  have hG2 := Zoh (all' := all.map fun a => AV.ofV a.val) hG k1
  have hset : ∀ b, b ≠ g -> (τ.set g (.own e (all.map fun a => AV.ofV a.val))).blk b = τ.blk b := fun b hb => by
   show (if b = g then _ else τ.blk b) = _
   rw [if_neg hb]
  have hsg : (τ.set g (.own e (all.map fun a => AV.ofV a.val))).blk g = some (.own e (all.map fun a => AV.ofV a.val)) := by
   show (if g = g then _ else τ.blk g) = _
   rw [if_pos rfl]
  obtain ⟨p1, p2, p3⟩ := Zg4 hown hH (g := g) h2 hG2 (fun b k hb hk => by
   rw [hset b (fun e => by rw [e, hn.1] at hk; cases hk)]
   exact hbut b k hb hk) hX.used hn.2 hn.1 (fun t cs hq => by
   rw [hsg] at hq
   injection hq with hq
   injection hq with q1 q2
   subst q2
   exact fun c hc w B => hvd c hc w B)
  refine ⟨_, _, rfl, hK _ _ cells ⟨hd.1, hd.2.1, .inr ⟨g, c, _, hc0, rfl, (Zg3 hn.1).trans hsg, k2, by rw [List.length_map]; exact k3, ?_, k5, k6⟩⟩ hq p3 hnew2, p1, Zak _, p2⟩
  rw [<- List.map_take, k4]
  conv => rhs; rw [<- List.map_id cells]
  exact List.map_congr_left fun a ha => hQ _ hq a ha
end
theorem Zpx (d : List UInt8) : ∀ a ∈ bys d, AV.ofV a.val = a := fun a ha => by
 obtain ⟨u, _, rfl⟩ := List.mem_map.1 ha
 rfl
end Go.Proofs.Ytinpiaibhjmfaaa
