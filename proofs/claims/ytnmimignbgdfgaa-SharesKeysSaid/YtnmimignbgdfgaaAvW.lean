/- Blocks that a value reaches; blocks of ours that are let loose again: what is known of them is forgotten, they may be written. -/
import Derived.Test.YtnmimignbgdfgaaAv8b
namespace Go.Proofs.Ytnmimignbgdfgaa
open Go.RowKit
set_option maxRecDepth 100000
set_option linter.unusedVariables false
mutual
def AV.Blks (p : Nat → Prop) : AV → Prop
  | .raw _ => True
  | .lst A _ _ cells => (∀ ad, A = some ad → cells ≠ [] → p ad.block) ∧ AV.BlksL p cells
  | .eptr ad cells => (cells ≠ [] → p ad.block) ∧ AV.BlksL p cells
  | .agg l => AV.BlksL p l
  | .tup l => AV.BlksL p l
def AV.BlksL (p : Nat → Prop) : List AV → Prop
  | [] => True
  | a :: l => a.Blks p ∧ AV.BlksL p l
end
theorem AV.BlksL_iff {p : Nat → Prop} {l : List AV} : AV.BlksL p l ↔ ∀ a ∈ l, a.Blks p := by
  induction l with
  | nil => simp [AV.BlksL]
  | cons a l ih => simp [AV.BlksL, ih]
@[simp] theorem AV.Blks_raw (p : Nat → Prop) (v : Value) : (AV.raw v).Blks p := by unfold AV.Blks; trivial
@[simp] theorem AV.Blks_agg (p : Nat → Prop) (l : List AV) : (AV.agg l).Blks p ↔ AV.BlksL p l := by unfold AV.Blks; rfl
@[simp] theorem AV.Blks_tup (p : Nat → Prop) (l : List AV) : (AV.tup l).Blks p ↔ AV.BlksL p l := by unfold AV.Blks; rfl
@[simp] theorem AV.Blks_lst (p : Nat → Prop) (A : Option Addr) (n c : Nat) (l : List AV) : (AV.lst A n c l).Blks p ↔ (∀ ad, A = some ad → l ≠ [] → p ad.block) ∧ AV.BlksL p l := by
  conv => lhs; unfold AV.Blks
@[simp] theorem AV.BlksL_nil (p : Nat → Prop) : AV.BlksL p [] := by unfold AV.BlksL; trivial
@[simp] theorem AV.BlksL_cons (p : Nat → Prop) (a : AV) (l : List AV) : AV.BlksL p (a :: l) ↔ a.Blks p ∧ AV.BlksL p l := by
  conv => lhs; unfold AV.BlksL
mutual
theorem AV.Blks.mono {p q : Nat → Prop} (h : ∀ b, p b → q b) : (a : AV) → a.Blks p → a.Blks q
  | .raw _, _ => by simp
  | .lst A n c cells, hb => by
    unfold AV.Blks at hb ⊢
    exact ⟨fun ad ha hc => h _ (hb.1 ad ha hc), AV.BlksL.mono h cells hb.2⟩
  | .eptr ad cells, hb => by
    unfold AV.Blks at hb ⊢
    exact ⟨fun hc => h _ (hb.1 hc), AV.BlksL.mono h cells hb.2⟩
  | .agg l, hb => by unfold AV.Blks at hb ⊢; exact AV.BlksL.mono h l hb
  | .tup l, hb => by unfold AV.Blks at hb ⊢; exact AV.BlksL.mono h l hb
theorem AV.BlksL.mono {p q : Nat → Prop} (h : ∀ b, p b → q b) : (l : List AV) → AV.BlksL p l → AV.BlksL q l
  | [], _ => by simp
  | a :: l, hb => by
    unfold AV.BlksL at hb ⊢
    exact ⟨AV.Blks.mono h a hb.1, AV.BlksL.mono h l hb.2⟩
end
mutual
theorem Valid.and {w : World} {B : Nat → Nat → Prop} {p : Nat → Prop} : (a : AV) → Valid w B a → a.Blks p → Valid w (fun b o => B b o ∧ p b) a
  | .raw _, _, _ => by unfold Valid; trivial
  | .lst A n c cells, h, hb => by
    unfold Valid at h ⊢
    unfold AV.Blks at hb
    refine ⟨h.1, h.2.1, fun ad e => ?_⟩
    cases cells with
    | nil => unfold ValidAt; trivial
    | cons d r => exact ValidAt.and ad 0 (d :: r) (hb.1 ad e (by simp)) (h.2.2 ad e) hb.2
  | .eptr ad cells, h, hb => by
    unfold Valid at h ⊢
    unfold AV.Blks at hb
    cases cells with
    | nil => unfold ValidAt; trivial
    | cons d r => exact ValidAt.and ad 0 (d :: r) (hb.1 (by simp)) h hb.2
  | .agg l, h, hb => by unfold Valid at h ⊢; unfold AV.Blks at hb; exact Valids.and l h hb
  | .tup l, h, hb => by unfold Valid at h ⊢; unfold AV.Blks at hb; exact Valids.and l h hb
theorem ValidAt.and {w : World} {B : Nat → Nat → Prop} {p : Nat → Prop} (ad : Addr) : (j : Nat) → (l : List AV) → p ad.block → ValidAt w B ad j l → AV.BlksL p l → ValidAt w (fun b o => B b o ∧ p b) ad j l
  | _, [], _, _, _ => by unfold ValidAt; trivial
  | j, d :: r, hp, h, hb => by
    unfold ValidAt at h ⊢
    unfold AV.BlksL at hb
    exact ⟨⟨h.1.1, ⟨h.1.2.1, hp⟩, Valid.and d h.1.2.2 hb.1⟩, ValidAt.and ad (j + 1) r hp h.2 hb.2⟩
theorem Valids.and {w : World} {B : Nat → Nat → Prop} {p : Nat → Prop} : (l : List AV) → Valids w B l → AV.BlksL p l → Valids w (fun b o => B b o ∧ p b) l
  | [], _, _ => by unfold Valids; trivial
  | d :: r, h, hb => by unfold Valids at h ⊢; unfold AV.BlksL at hb; exact ⟨Valid.and d h.1 hb.1, Valids.and r h.2 hb.2⟩
end
mutual
theorem Valid.blks {w : World} {B : Nat → Nat → Prop} {p : Nat → Prop} (hB : ∀ b o, B b o → p b) : (a : AV) → Valid w B a → a.Blks p
  | .raw _, _ => by simp
  | .lst A n c cells, h => by
    unfold Valid at h
    unfold AV.Blks
    cases A with
    | none => obtain ⟨_, _, hc⟩ := h.2.1 rfl; subst hc; exact ⟨(fun ad e => by cases e), by simp⟩
    | some ad =>
      have h2 := h.2.2 ad rfl
      refine ⟨fun ad' e hc => ?_, ValidAt.blks hB ad 0 cells h2⟩
      injection e with e
      subst e
      cases cells with
      | nil => exact absurd rfl hc
      | cons d r => unfold ValidAt at h2; exact hB _ _ h2.1.2.1
  | .eptr ad cells, h => by
    unfold Valid at h
    unfold AV.Blks
    refine ⟨fun hc => ?_, ValidAt.blks hB ad 0 cells h⟩
    cases cells with
    | nil => exact absurd rfl hc
    | cons d r => unfold ValidAt at h; exact hB _ _ h.1.2.1
  | .agg l, h => by unfold Valid at h; unfold AV.Blks; exact Valids.blks hB l h
  | .tup l, h => by unfold Valid at h; unfold AV.Blks; exact Valids.blks hB l h
theorem ValidAt.blks {w : World} {B : Nat → Nat → Prop} {p : Nat → Prop} (hB : ∀ b o, B b o → p b) (ad : Addr) : (j : Nat) → (l : List AV) → ValidAt w B ad j l → AV.BlksL p l
  | _, [], _ => by simp
  | j, d :: r, h => by unfold ValidAt at h; unfold AV.BlksL; exact ⟨Valid.blks hB d h.1.2.2, ValidAt.blks hB ad (j + 1) r h.2⟩
theorem Valids.blks {w : World} {B : Nat → Nat → Prop} {p : Nat → Prop} (hB : ∀ b o, B b o → p b) : (l : List AV) → Valids w B l → AV.BlksL p l
  | [], _ => by simp
  | d :: r, h => by unfold Valids at h; unfold AV.BlksL; exact ⟨Valid.blks hB d h.1, Valids.blks hB r h.2⟩
end
mutual
noncomputable def AV.wk (G : Nat → Prop) : AV → AV
  | .raw v => .raw v
  | .lst A n c cells => open Classical in if (AV.lst A n c cells).Blks (fun b => ¬ G b) then .lst A n c cells else .raw (.slice A n c)
  | .eptr ad cells => open Classical in if (AV.eptr ad cells).Blks (fun b => ¬ G b) then .eptr ad cells else .raw (.pointer (some ad))
  | .agg l => .agg (AV.wkL G l)
  | .tup l => .tup (AV.wkL G l)
noncomputable def AV.wkL (G : Nat → Prop) : List AV → List AV
  | [] => []
  | a :: l => a.wk G :: AV.wkL G l
end
theorem AV.wkL_map (G : Nat → Prop) (l : List AV) : AV.wkL G l = l.map (AV.wk G) := by
  induction l with
  | nil => simp [AV.wkL]
  | cons a l ih => simp [AV.wkL, ih]
@[simp] theorem AV.wk_raw (G : Nat → Prop) (v : Value) : (AV.raw v).wk G = .raw v := by unfold AV.wk; rfl
@[simp] theorem AV.wk_agg (G : Nat → Prop) (l : List AV) : (AV.agg l).wk G = .agg (l.map (AV.wk G)) := by unfold AV.wk; rw [AV.wkL_map]
@[simp] theorem AV.wk_tup (G : Nat → Prop) (l : List AV) : (AV.tup l).wk G = .tup (l.map (AV.wk G)) := by unfold AV.wk; rw [AV.wkL_map]
mutual
theorem AV.wk_same {G : Nat → Prop} : (a : AV) → a.Blks (fun b => ¬ G b) → a.wk G = a
  | .raw _, _ => by simp
  | .lst A n c cells, h => by unfold AV.wk; rw [if_pos h]
  | .eptr ad cells, h => by unfold AV.wk; rw [if_pos h]
  | .agg l, h => by unfold AV.Blks at h; unfold AV.wk; rw [AV.wkL_same l h]
  | .tup l, h => by unfold AV.Blks at h; unfold AV.wk; rw [AV.wkL_same l h]
theorem AV.wkL_same {G : Nat → Prop} : (l : List AV) → AV.BlksL (fun b => ¬ G b) l → AV.wkL G l = l
  | [], _ => by unfold AV.wkL; rfl
  | a :: l, h => by unfold AV.BlksL at h; unfold AV.wkL; rw [AV.wk_same a h.1, AV.wkL_same l h.2]
end
theorem AV.wk_lst {G : Nat → Prop} {ad : Addr} {n c : Nat} {cells : List AV} (hc : cells ≠ []) (h : G ad.block) : (AV.lst (some ad) n c cells).wk G = .raw (.slice (some ad) n c) := by
  unfold AV.wk
  rw [if_neg]
  intro hb
  unfold AV.Blks at hb
  exact hb.1 ad rfl hc h
mutual
theorem AV.wk_blks (G : Nat → Prop) : (a : AV) → (a.wk G).Blks (fun b => ¬ G b)
  | .raw _ => by simp
  | .lst A n c cells => by unfold AV.wk; split <;> simp_all
  | .eptr ad cells => by unfold AV.wk; split <;> simp_all
  | .agg l => by unfold AV.wk AV.Blks; exact AV.wkL_blks G l
  | .tup l => by unfold AV.wk AV.Blks; exact AV.wkL_blks G l
theorem AV.wkL_blks (G : Nat → Prop) : (l : List AV) → AV.BlksL (fun b => ¬ G b) (AV.wkL G l)
  | [] => by unfold AV.wkL; simp
  | a :: l => by unfold AV.wkL AV.BlksL; exact ⟨AV.wk_blks G a, AV.wkL_blks G l⟩
end
mutual
theorem AV.wk_val (G : Nat → Prop) : (a : AV) → (a.wk G).val = a.val
  | .raw _ => by simp
  | .lst A n c cells => by unfold AV.wk; split <;> simp
  | .eptr ad cells => by unfold AV.wk; split <;> simp
  | .agg l => by unfold AV.wk AV.val; rw [AV.wkL_val G l]
  | .tup l => by unfold AV.wk AV.val; rw [AV.wkL_val G l]
theorem AV.wkL_val (G : Nat → Prop) : (l : List AV) → AV.vals (AV.wkL G l) = AV.vals l
  | [] => by unfold AV.wkL; rfl
  | a :: l => by unfold AV.wkL AV.vals; rw [AV.wk_val G a, AV.wkL_val G l]
end
mutual
theorem Valid.wk {w : World} {B : Nat → Nat → Prop} (G : Nat → Prop) : (a : AV) → Valid w B a → Valid w B (a.wk G)
  | .raw _, _ => by simp; unfold Valid; trivial
  | .lst A n c cells, h => by
    unfold AV.wk; split
    · exact h
    · unfold Valid; trivial
  | .eptr ad cells, h => by
    unfold AV.wk; split
    · exact h
    · unfold Valid; trivial
  | .agg l, h => by unfold AV.wk; unfold Valid at h ⊢; exact Valids.wk G l h
  | .tup l, h => by unfold AV.wk; unfold Valid at h ⊢; exact Valids.wk G l h
theorem Valids.wk {w : World} {B : Nat → Nat → Prop} (G : Nat → Prop) : (l : List AV) → Valids w B l → Valids w B (AV.wkL G l)
  | [], _ => by unfold AV.wkL Valids; trivial
  | a :: l, h => by unfold AV.wkL; unfold Valids at h ⊢; exact ⟨Valid.wk G a h.1, Valids.wk G l h.2⟩
end
/-- What is known at any time: values reach only blocks that are there. -/
structure Known (σ : St) (env : Env) : Prop where
  env : ∀ i, (env i).Blks σ.used
  own : ∀ b t cs, σ.blk b = some (.own t cs) → AV.BlksL σ.used cs
  used : ∀ b k, σ.blk b = some k → σ.used b
/-- What cells are there, by what is known. -/
def Sure (env : Env) (σ : St) (ad : Addr) (cells : List AV) : Prop := ∀ w B, (∀ i, Valid w B (env i)) → (∀ b t cs, σ.blk b = some (.own t cs) → ∀ c ∈ cs, Valid w B c) → ValidAt w B ad 0 cells
structure Thawed (env : Env) (σ : St) (G : Nat → Prop) (σ' : St) : Prop where
  used : ∀ b, σ'.used b ↔ σ.used b
  none : ∀ b, σ.blk b = none → σ'.blk b = none
  own : ∀ b t cs, σ.blk b = some (.own t cs) → σ'.blk b = some (.own t (cs.map (AV.wk G)))
  tail : ∀ b t k s, ¬ G b → σ.blk b = some (.tail t k s) → σ'.blk b = some (.tail t k s)
  loose : ∀ g t k s, G g → σ.blk g = some (.tail t k s) → ∀ kn, Sure env σ ⟨g, 0, .none⟩ kn → ∃ us : List Value, σ'.blk g = some (.own t (kn.map (fun d => .raw d.val) ++ us.map .raw)) ∧ kn.length + us.length = s
/-- Ahead of a region: what is known, and it may be forgotten. -/
def Ahead (O : Nat → Prop) (env : Env) (σ : St) (K : Env → St → Prop) : Prop :=
  Known σ env → K env σ ∨ ∃ G : Nat → Prop, (∀ g, G g → ¬ O g) ∧ ∀ σ', Thawed env σ G σ' → K (fun i => (env i).wk G) σ'
structure GrowO (O : Nat → Prop) (w : World) (σ : St) (w' : World) (σ' : St) : Prop where
  os : w'.os = w.os
  tape : w'.tape = w.tape
  output : w'.output = w.output
  size : w.heap.size ≤ w'.heap.size
  used : ∀ b, b < w.heap.size → σ'.used b → σ.used b
  rest : ∀ b, b < w.heap.size → σ.blk b = none → w'.heap[b]? = w.heap[b]? ∧ σ'.blk b = none
  tail : ∀ b t k s, O b → b < w.heap.size → σ.blk b = some (.tail t k s) → (∀ j v, j < k → w.cell? ⟨b, j, none⟩ = some v → w'.cell? ⟨b, j, none⟩ = some v) ∧ (σ'.blk b = none ∨ ∃ t' k' s', σ'.blk b = some (.tail t' k' s') ∧ k ≤ k')
  more : ∀ b, σ.used b → σ'.used b
section
variable {O : Nat → Prop} {w w' w'' : World} {σ σ' σ'' : St} {Z : Nat → Prop} {env : Env} {a : Act} {nt : Nat}
theorem Grow.toO (h : Grow w σ w' σ') : GrowO O w σ w' σ' := ⟨h.os, h.tape, h.output, h.size, h.used, h.rest, fun b t k s _ => h.tail b t k s, h.more⟩
theorem GrowO.refl (w : World) (σ : St) : GrowO O w σ w σ := (Grow.refl w σ).toO
theorem GrowO.trans (h : GrowO O w σ w' σ') (k : GrowO O w' σ' w'' σ'') : GrowO O w σ w'' σ'' := by
  refine ⟨k.os.trans h.os, k.tape.trans h.tape, k.output.trans h.output, Nat.le_trans h.size k.size, fun b hb hu => h.used b hb (k.used b (Nat.lt_of_lt_of_le hb h.size) hu), fun b hb hn => ?_, fun b t j s hO hb ht => ?_, fun b hu => k.more b (h.more b hu)⟩
  · obtain ⟨h1, h2⟩ := h.rest b hb hn
    obtain ⟨h3, h4⟩ := k.rest b (Nat.lt_of_lt_of_le hb h.size) h2
    exact ⟨h3.trans h1, h4⟩
  · obtain ⟨h1, h2⟩ := h.tail b t j s hO hb ht
    rcases h2 with h2 | ⟨t', k', s', h2, hle⟩
    · obtain ⟨h3, h4⟩ := k.rest b (Nat.lt_of_lt_of_le hb h.size) h2
      refine ⟨fun i v hi hv => ?_, .inl h4⟩
      rw [World.cell?_of_block (w := w') h3]
      exact h1 i v hi hv
    · obtain ⟨h3, h4⟩ := k.tail b t' k' s' hO (Nat.lt_of_lt_of_le hb h.size) h2
      refine ⟨fun i v hi hv => h3 i v (by omega) (h1 i v hi hv), ?_⟩
      rcases h4 with h4 | ⟨t2, k2, s2, h4, hle2⟩
      · exact .inl h4
      · exact .inr ⟨t2, k2, s2, h4, by omega⟩
/-- All old blocks are used. -/
theorem GrowO.full (hH : HeapOk w σ Z) (h : GrowO σ.used w σ w' σ') : Grow w σ w' σ' :=
  ⟨h.os, h.tape, h.output, h.size, h.used, h.rest, fun b t k s hb ht => h.tail b t k s (hH.tail _ _ _ _ ht).1 hb ht, h.more⟩
theorem AInv.known (hI : AInv nt w σ Z env a) : Known σ env := by
  have hu : ∀ b o, σ.free Z b o → σ.used b := fun b o h => h.2.1
  refine ⟨fun i => Valid.blks hu _ (hI.valid i), fun b t cs hb => AV.BlksL_iff.2 fun c hc => Valid.blks hu _ ((hI.heap.own _ _ _ hb).2.2 c hc), fun b k hb => ?_⟩
  cases k with
  | own t cs => exact (hI.heap.own _ _ _ hb).1
  | tail t k s => exact (hI.heap.tail _ _ _ _ hb).1
open Classical in
noncomputable def thawSt (w : World) (σ : St) (G : Nat → Prop) : St := ⟨fun b => match σ.blk b with
    | some (.tail t k s) => if G b then match w.heap[b]? with
        | some (.cells cs _ _) => some (.own t (cs.toList.map .raw))
        | _ => none
      else some (.tail t k s)
    | some (.own t cs) => some (.own t (cs.map (AV.wk G)))
    | none => none, σ.used, by
  obtain ⟨n, h⟩ := σ.fin
  refine ⟨n, fun b hb => ⟨(h b hb).1, ?_⟩⟩
  rw [(h b hb).2]⟩
theorem thaw_none {G : Nat → Prop} {b : Nat} (h : σ.blk b = none) : (thawSt w σ G).blk b = none := by unfold thawSt; dsimp only; rw [h]
theorem thaw_own {G : Nat → Prop} {b : Nat} {t : TypeId} {cs : List AV} (h : σ.blk b = some (.own t cs)) : (thawSt w σ G).blk b = some (.own t (cs.map (AV.wk G))) := by unfold thawSt; dsimp only; rw [h]
theorem thaw_tail {G : Nat → Prop} {b : Nat} {t : TypeId} {k s : Nat} (hg : ¬ G b) (h : σ.blk b = some (.tail t k s)) : (thawSt w σ G).blk b = some (.tail t k s) := by unfold thawSt; dsimp only; rw [h]; dsimp only; rw [if_neg hg]
theorem thaw_loose {G : Nat → Prop} {b : Nat} {t t' : TypeId} {k s : Nat} {cs : Array Value} {x : Nat × Nat} (hg : G b) (h : σ.blk b = some (.tail t k s)) (hw : w.heap[b]? = some (.cells cs t' x)) : (thawSt w σ G).blk b = some (.own t (cs.toList.map .raw)) := by
  unfold thawSt; dsimp only; rw [h]; dsimp only; rw [if_pos hg, hw]
theorem thaw_free {G : Nat → Prop} {b o : Nat} (hg : ¬ G b) (h : σ.free Z b o) : (thawSt w σ G).free Z b o := by
  obtain ⟨h1, h2, h3⟩ := h
  refine ⟨h1, h2, ?_⟩
  cases hb : σ.blk b with
  | none => rw [thaw_none hb]; trivial
  | some x =>
    rw [hb] at h3
    cases x with
    | own t cs => exact h3.elim
    | tail t k s => rw [thaw_tail hg hb]; exact h3
theorem thaw_valid {G : Nat → Prop} {c : AV} (h : Valid w (σ.free Z) c) : Valid w ((thawSt w σ G).free Z) (c.wk G) :=
  ((h.wk G).and _ (AV.wk_blks G c)).sub fun b o hb => thaw_free hb.2 hb.1
theorem AInv.thaw (hI : AInv nt w σ Z env a) (G : Nat → Prop) (hG : ∀ g, G g → ¬ O g) :
    AInv nt w (thawSt w σ G) Z (fun i => (env i).wk G) a ∧ GrowO O w σ w (thawSt w σ G) ∧ Thawed env σ G (thawSt w σ G) := by
  have hH := hI.heap
  refine ⟨⟨⟨hH.used, fun b hz => ⟨(hH.z b hz).1, thaw_none (hH.z b hz).2⟩, fun b t cs hb => ?_, fun b t k s hb => ?_⟩, hI.defers, hI.size, fun i => by rw [AV.wk_val]; exact hI.val i, fun i => thaw_valid (hI.valid i)⟩, ?_, ?_⟩
  · cases hx : σ.blk b with
    | none => rw [thaw_none hx] at hb; cases hb
    | some x =>
      cases x with
      | own t' cs' =>
        rw [thaw_own hx] at hb
        injection hb with hb
        injection hb with e1 e2
        subst e1 e2
        obtain ⟨g1, g2, g3⟩ := hH.own _ _ _ hx
        refine ⟨g1, ?_, fun c hc => ?_⟩
        · rw [g2]
          simp [Function.comp_def, AV.wk_val]
        · obtain ⟨d, hd, rfl⟩ := List.mem_map.1 hc
          exact thaw_valid (g3 d hd)
      | tail t' k s =>
        by_cases hg : G b
        · obtain ⟨g1, cs', g2, g3, g4⟩ := hH.tail _ _ _ _ hx
          rw [thaw_loose hg hx g2] at hb
          injection hb with hb
          injection hb with e1 e2
          subst e1 e2
          refine ⟨g1, by rw [g2]; simp [Function.comp_def], fun c hc => ?_⟩
          obtain ⟨d, hd, rfl⟩ := List.mem_map.1 hc
          unfold Valid; trivial
        · rw [thaw_tail hg hx] at hb; cases hb
  · cases hx : σ.blk b with
    | none => rw [thaw_none hx] at hb; cases hb
    | some x =>
      cases x with
      | own t' cs' => rw [thaw_own hx] at hb; cases hb
      | tail t' k' s' =>
        by_cases hg : G b
        · obtain ⟨g1, cs', g2, g3, g4⟩ := hH.tail _ _ _ _ hx
          rw [thaw_loose hg hx g2] at hb
          cases hb
        · rw [thaw_tail hg hx] at hb
          injection hb with hb
          injection hb with e1 e2 e3
          subst e1 e2 e3
          exact hH.tail _ _ _ _ hx
  · exact ⟨rfl, rfl, rfl, Nat.le_refl _, fun _ _ h => h, fun b _ hn => ⟨rfl, thaw_none hn⟩, fun b t k s hO _ ht => ⟨fun _ _ _ h => h, .inr ⟨t, k, s, thaw_tail (fun hg => hG b hg hO) ht, Nat.le_refl _⟩⟩, fun _ h => h⟩
  · refine ⟨fun b => Iff.rfl, fun b => thaw_none, fun b t cs => thaw_own, fun b t k s hg => thaw_tail hg, fun g t k s hg ht kn hkn => ?_⟩
    obtain ⟨g1, cs', g2, g3, g4⟩ := hH.tail _ _ _ _ ht
    have hv := hkn w (σ.free Z) hI.valid fun b t cs hb => (hH.own _ _ _ hb).2.2
    have hcell : ∀ (j : Nat) (d : AV), kn[j]? = some d → cs'[j]? = some d.val := fun j d hd => by
      have := (hv.get hd).1
      rw [Nat.zero_add, add_off_] at this
      simpa [World.cell?, g2] using this
    have hle : kn.length ≤ s := by
      rw [← g3]
      by_cases h0 : kn.length = 0
      · omega
      · have := hcell (kn.length - 1) (kn[kn.length - 1]'(by omega)) (List.getElem?_eq_getElem _)
        have := (Array.getElem?_eq_some_iff.1 this).1
        omega
    refine ⟨cs'.toList.drop kn.length, ?_, by simp; omega⟩
    rw [thaw_loose hg ht g2]
    congr 2
    have : cs'.toList = kn.map AV.val ++ cs'.toList.drop kn.length := by
      conv => lhs; rw [← List.take_append_drop kn.length cs'.toList]
      congr 1
      apply List.ext_getElem?
      intro j
      rw [List.getElem?_take, List.getElem?_map]
      split
      · rename_i hj
        rw [Array.getElem?_toList, hcell j kn[j] (List.getElem?_eq_getElem hj), List.getElem?_eq_getElem hj]
        rfl
      · rename_i hj
        rw [List.getElem?_eq_none (by omega : kn.length ≤ j)]
        rfl
    conv => lhs; rw [this]
    simp [Function.comp_def]
theorem Ahead.sound {K : Env → St → Prop} (hI : AInv nt w σ Z env a) (h : Ahead O env σ K) : ∃ env' σ', K env' σ' ∧ AInv nt w σ' Z env' a ∧ GrowO O w σ w σ' := by
  rcases h hI.known with h | ⟨G, hG, h⟩
  · exact ⟨env, σ, h, hI, GrowO.refl _ _⟩
  · obtain ⟨h1, h2, h3⟩ := hI.thaw G hG
    exact ⟨_, _, h _ h3, h1, h2⟩
end
end Go.Proofs.Ytnmimignbgdfgaa
