/- Values with what they stand for in memory: a list bears the cells that lie behind its address. What a world must be for them; what stays when it grows. -/
import Derived.Test.YtnmimignbgdfgaaMem
namespace Go.Proofs.Ytnmimignbgdfgaa
open Go.RowKit
set_option maxRecDepth 100000
set_option linter.unusedVariables false

inductive AV where
  | raw (v : Value)
  | lst (A : Option Addr) (n c : Nat) (cells : List AV)
  | eptr (ad : Addr) (cells : List AV)
  | agg (l : List AV)
  | tup (l : List AV)
instance : Inhabited AV := ⟨.raw undef⟩
mutual
def AV.val : AV → Value
  | .raw v => v
  | .lst A n c _ => .slice A n c
  | .eptr ad _ => .pointer (some ad)
  | .agg l => .agg (AV.vals l).toArray
  | .tup l => .tuple (AV.vals l).toArray
def AV.vals : List AV → List Value
  | [] => []
  | a :: l => a.val :: AV.vals l
end
theorem AV.vals_map (l : List AV) : AV.vals l = l.map AV.val := by
  induction l with
  | nil => simp [AV.vals]
  | cons a l ih => simp [AV.vals, ih]
@[simp] theorem AV.val_raw (v : Value) : (AV.raw v).val = v := by simp [AV.val]
@[simp] theorem AV.val_lst (A : Option Addr) (n c : Nat) (l : List AV) : (AV.lst A n c l).val = .slice A n c := by simp [AV.val]
@[simp] theorem AV.val_eptr (a : Addr) (l : List AV) : (AV.eptr a l).val = .pointer (some a) := by simp [AV.val]
@[simp] theorem AV.val_agg (l : List AV) : (AV.agg l).val = .agg (l.map AV.val).toArray := by simp [AV.val, AV.vals_map]
@[simp] theorem AV.val_tup (l : List AV) : (AV.tup l).val = .tuple (l.map AV.val).toArray := by simp [AV.val, AV.vals_map]
/-- A value of the program's text. -/
def AV.ofV1 : Value → AV
  | .slice none 0 0 => .lst none 0 0 []
  | v => .raw v
@[simp] theorem AV.val_ofV1 (v : Value) : (AV.ofV1 v).val = v := by
  unfold AV.ofV1
  split <;> simp
def AV.ofV : Value → AV
  | .agg cs => .agg (cs.toList.map AV.ofV1)
  | v => AV.ofV1 v
@[simp] theorem AV.val_ofV (v : Value) : (AV.ofV v).val = v := by
  unfold AV.ofV
  split <;> simp [Function.comp_def]
/-- The cells of a value. -/
def AV.cells : AV → List AV
  | .agg l => l
  | .raw (.agg cs) => cs.toList.map AV.ofV1
  | v => [v]
def AV.one : AV → Bool
  | .raw v => v.oneCell'
  | .lst _ _ _ _ => true
  | .eptr _ _ => true
  | _ => false
theorem AV.one_val {a : AV} (h : a.one = true) : a.val.oneCell' = true := by
  cases a <;> simp_all [AV.one, Value.oneCell']
theorem AV.cells_val (a : AV) : a.cells.map AV.val = a.val.cells.toList := by
  cases a with
  | raw v => cases v <;> simp [AV.cells, Value.cells, Function.comp_def]
  | lst A n c l => simp [AV.cells, Value.cells]
  | eptr ad l => simp [AV.cells, Value.cells]
  | agg l => simp [AV.cells, Value.cells]
  | tup l => simp [AV.cells, Value.cells]

/-- What is known of a block: its cells, ours alone; or a row whose first k cells of s are written, ours to write behind. -/
inductive Bk where
  | own (t : TypeId) (cells : List AV)
  | tail (t : TypeId) (k s : Nat)
structure St where
  blk : Nat → Option Bk
  used : Nat → Prop
  fin : ∃ n, ∀ b, n ≤ b → ¬ used b ∧ blk b = none
/-- May a value lie there? -/
def St.free (σ : St) (Z : Nat → Prop) (b o : Nat) : Prop := ¬ Z b ∧ σ.used b ∧ match σ.blk b with
  | none => True
  | some (.own _ _) => False
  | some (.tail _ k _) => o < k
mutual
def Valid (w : World) (B : Nat → Nat → Prop) : AV → Prop
  | .raw _ => True
  | .lst A n c cells => n ≤ c ∧ (A = none → n = 0 ∧ c = 0 ∧ cells = []) ∧ ∀ ad, A = some ad → ValidAt w B ad 0 cells
  | .eptr ad cells => ValidAt w B ad 0 cells
  | .agg l => Valids w B l
  | .tup l => Valids w B l
def ValidAt (w : World) (B : Nat → Nat → Prop) (ad : Addr) : Nat → List AV → Prop
  | _, [] => True
  | j, d :: r => (w.cell? (ad.add j) = some d.val ∧ B ad.block (ad.off + j) ∧ Valid w B d) ∧ ValidAt w B ad (j + 1) r
def Valids (w : World) (B : Nat → Nat → Prop) : List AV → Prop
  | [] => True
  | d :: r => Valid w B d ∧ Valids w B r
end
section
variable {w w' w'' : World} {B B' : Nat → Nat → Prop} {σ σ' σ'' : St} {Z Z' : Nat → Prop}
theorem Valids.iff {l : List AV} : Valids w B l ↔ ∀ a ∈ l, Valid w B a := by
  induction l with
  | nil => simp [Valids]
  | cons a l ih => simp [Valids, ih]
theorem ValidAt.get {ad : Addr} {j : Nat} {l : List AV} (h : ValidAt w B ad j l) {i : Nat} {d : AV} (hd : l[i]? = some d) :
    w.cell? (ad.add (j + i)) = some d.val ∧ B ad.block (ad.off + (j + i)) ∧ Valid w B d := by
  induction l generalizing j i with
  | nil => simp at hd
  | cons x r ih =>
    unfold ValidAt at h
    cases i with
    | zero => simp at hd; subst hd; exact h.1
    | succ i =>
      have := ih h.2 (i := i) (by simpa using hd)
      rwa [show j + 1 + i = j + (i + 1) from by omega] at this
theorem ValidAt.mk {ad : Addr} {j : Nat} {l : List AV} (h : ∀ i d, l[i]? = some d → w.cell? (ad.add (j + i)) = some d.val ∧ B ad.block (ad.off + (j + i)) ∧ Valid w B d) : ValidAt w B ad j l := by
  induction l generalizing j with
  | nil => unfold ValidAt; trivial
  | cons x r ih =>
    unfold ValidAt
    refine ⟨h 0 x rfl, ih fun i d hd => ?_⟩
    rw [show j + 1 + i = j + (i + 1) from by omega]
    exact h (i + 1) d (by simpa using hd)
mutual
/-- A value stays valid where its cells stay. -/
theorem Valid.keep (hc : ∀ (a : Addr) (v : Value), w.cell? a = some v → B a.block a.off → w'.cell? a = some v ∧ B' a.block a.off) : (a : AV) → Valid w B a → Valid w' B' a
  | .raw _, _ => by unfold Valid; trivial
  | .lst A n c cells, h => by
    unfold Valid at h ⊢
    exact ⟨h.1, h.2.1, fun ad e => ValidAt.keep hc ad 0 cells (h.2.2 ad e)⟩
  | .eptr ad cells, h => by unfold Valid at h ⊢; exact ValidAt.keep hc ad 0 cells h
  | .agg l, h => by unfold Valid at h ⊢; exact Valids.keep hc l h
  | .tup l, h => by unfold Valid at h ⊢; exact Valids.keep hc l h
theorem ValidAt.keep (hc : ∀ (a : Addr) (v : Value), w.cell? a = some v → B a.block a.off → w'.cell? a = some v ∧ B' a.block a.off) (ad : Addr) : (j : Nat) → (l : List AV) → ValidAt w B ad j l → ValidAt w' B' ad j l
  | _, [], _ => by unfold ValidAt; trivial
  | j, d :: r, h => by
    unfold ValidAt at h ⊢
    obtain ⟨⟨h1, h2, h3⟩, h4⟩ := h
    have hb : (ad.add j).block = ad.block := by unfold Addr.add; split <;> rfl
    have ho : (ad.add j).off = ad.off + j := by unfold Addr.add; split <;> simp_all
    have := hc (ad.add j) d.val h1 (by rw [hb, ho]; exact h2)
    rw [hb, ho] at this
    exact ⟨⟨this.1, this.2, Valid.keep hc d h3⟩, ValidAt.keep hc ad (j + 1) r h4⟩
theorem Valids.keep (hc : ∀ (a : Addr) (v : Value), w.cell? a = some v → B a.block a.off → w'.cell? a = some v ∧ B' a.block a.off) : (l : List AV) → Valids w B l → Valids w' B' l
  | [], _ => by unfold Valids; trivial
  | d :: r, h => by unfold Valids at h ⊢; exact ⟨Valid.keep hc d h.1, Valids.keep hc r h.2⟩
end
theorem Valid.sub (hB : ∀ b o, B b o → B' b o) {a : AV} (h : Valid w B a) : Valid w B' a := Valid.keep (fun _ _ h1 h2 => ⟨h1, hB _ _ h2⟩) a h

/-- The world is as is known. -/
structure HeapOk (w : World) (σ : St) (Z : Nat → Prop) : Prop where
  used : ∀ b, σ.used b → b < w.heap.size
  z : ∀ b, Z b → b < w.heap.size ∧ σ.blk b = none
  own : ∀ b t cs, σ.blk b = some (.own t cs) → σ.used b ∧ w.heap[b]? = some (.cells (cs.map AV.val).toArray t (0, 0)) ∧ ∀ c ∈ cs, Valid w (σ.free Z) c
  tail : ∀ b t k s, σ.blk b = some (.tail t k s) → σ.used b ∧ ∃ cs : Array Value, w.heap[b]? = some (.cells cs t (0, 0)) ∧ cs.size = s ∧ k ≤ s
/-- What happens between two worlds: only what is ours, and what is new. -/
structure Grow (w : World) (σ : St) (w' : World) (σ' : St) : Prop where
  os : w'.os = w.os
  tape : w'.tape = w.tape
  output : w'.output = w.output
  size : w.heap.size ≤ w'.heap.size
  used : ∀ b, b < w.heap.size → σ'.used b → σ.used b
  rest : ∀ b, b < w.heap.size → σ.blk b = none → w'.heap[b]? = w.heap[b]? ∧ σ'.blk b = none
  tail : ∀ b t k s, b < w.heap.size → σ.blk b = some (.tail t k s) → (∀ j v, j < k → w.cell? ⟨b, j, none⟩ = some v → w'.cell? ⟨b, j, none⟩ = some v) ∧ (σ'.blk b = none ∨ ∃ t' k' s', σ'.blk b = some (.tail t' k' s') ∧ k ≤ k')
  more : ∀ b, σ.used b → σ'.used b
theorem Grow.refl (w : World) (σ : St) : Grow w σ w σ := ⟨rfl, rfl, rfl, Nat.le_refl _, fun _ _ h => h, fun _ _ h => ⟨rfl, h⟩, fun b t k s _ h => ⟨fun _ _ _ h => h, .inr ⟨t, k, s, h, Nat.le_refl _⟩⟩, fun _ h => h⟩
theorem Grow.trans (h : Grow w σ w' σ') (k : Grow w' σ' w'' σ'') : Grow w σ w'' σ'' := by
  refine ⟨k.os.trans h.os, k.tape.trans h.tape, k.output.trans h.output, Nat.le_trans h.size k.size, fun b hb hu => h.used b hb (k.used b (Nat.lt_of_lt_of_le hb h.size) hu), fun b hb hn => ?_, fun b t j s hb ht => ?_, fun b hu => k.more b (h.more b hu)⟩
  · obtain ⟨h1, h2⟩ := h.rest b hb hn
    obtain ⟨h3, h4⟩ := k.rest b (Nat.lt_of_lt_of_le hb h.size) h2
    exact ⟨h3.trans h1, h4⟩
  · obtain ⟨h1, h2⟩ := h.tail b t j s hb ht
    rcases h2 with h2 | ⟨t', k', s', h2, hle⟩
    · obtain ⟨h3, h4⟩ := k.rest b (Nat.lt_of_lt_of_le hb h.size) h2
      refine ⟨fun i v hi hv => ?_, .inl h4⟩
      rw [World.cell?_of_block (w := w') h3]
      exact h1 i v hi hv
    · obtain ⟨h3, h4⟩ := k.tail b t' k' s' (Nat.lt_of_lt_of_le hb h.size) h2
      refine ⟨fun i v hi hv => h3 i v (by omega) (h1 i v hi hv), ?_⟩
      rcases h4 with h4 | ⟨t2, k2, s2, h4, hle2⟩
      · exact .inl h4
      · exact .inr ⟨t2, k2, s2, h4, by omega⟩
/-- What was valid stays so. -/
theorem Grow.valid (h : Grow w σ w' σ') {a : AV} (hv : Valid w (σ.free Z) a) : Valid w' (σ'.free Z) a := by
  refine Valid.keep ?_ a hv
  intro ad v hc hf
  have hl : ad.block < w.heap.size := World.block_lt_of_cell? w ad hc
  have hsp : ad.spot = none := World.cell?_spot hc
  obtain ⟨b, o, spot⟩ := ad
  dsimp only at hsp hl hf ⊢
  subst hsp
  unfold St.free at hf ⊢
  obtain ⟨hz, hu, hf⟩ := hf
  have hu := h.more b hu
  cases hb : σ.blk b with
  | none =>
    obtain ⟨h1, h2⟩ := h.rest b hl hb
    rw [World.cell?_of_block (w := w) (a := ⟨b, o, none⟩) h1, h2]
    exact ⟨hc, hz, hu, trivial⟩
  | some x =>
    rw [hb] at hf
    cases x with
    | own t cs => exact hf.elim
    | tail t k s =>
      obtain ⟨h1, h2⟩ := h.tail b t k s hl hb
      refine ⟨h1 o v hf hc, hz, hu, ?_⟩
      rcases h2 with h2 | ⟨t', k', s', h2, hle⟩
      · rw [h2]; trivial
      · rw [h2]; exact Nat.lt_of_lt_of_le hf hle
end
end Go.Proofs.Ytnmimignbgdfgaa
