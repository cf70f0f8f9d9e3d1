/- Bundles: lists of ours whose elements' lists are ours, too: what they are, what becomes of them. -/
import Derived.Test.YtlaehnldaejipaaPl
namespace Go.Proofs.Ytlaehnldaejipaa
open Go.RowKit
set_option linter.unusedSimpArgs false
set_option maxRecDepth 100000
set_option linter.unusedVariables false
variable {T : Nat → Type} {A : Type}
/-- A cell without memory. -/
def scA : XV T → Option AV
  | .int k n => some (.raw (.int k n))
  | .bool b => some (.raw (.bool b))
  | .str s => some (.raw (.string ⟨s.toArray⟩))
  | _ => none
/-- A cell of a bundle: what is known of it, what lies there, the block that it has. -/
def BCell (enc : (E : Nat) → T E → List (XV T)) (σ : St) (v : XV T) (a nm : AV) : Prop := match v with
  | .slx E xs ys => (xs = [] ∧ ys = [] ∧ (a = .raw (.slice none 0 0) ∨ a = .lst none 0 0 [])) ∨
      ∃ g t cs, nm = ptr g 0 ∧ a = .raw (.slice (some ⟨g, 0, none⟩) xs.length (xs.length + ys.length)) ∧ σ.blk g = some (.own t cs) ∧ ((xs ++ ys).flatMap (enc E)).map scA = cs.map some ∧ 0 < xs.length + ys.length
  | v => scA v = some a
/-- Names of blocks, one for each cell; they differ, and are not b. -/
structure NmOk (σ : St) (b : Nat) (names : List AV) : Prop where
  nm : ∀ (p : Nat) g, names[p]? = some (ptr g 0) → σ.used g ∧ (∃ k, σ.blk g = some k) ∧ g ≠ b
  inj : ∀ (p q : Nat) g, names[p]? = some (ptr g 0) → names[q]? = some (ptr g 0) → p = q
  frm : ∀ (p : Nat) nm, names[p]? = some nm → (∃ g, nm = ptr g 0) ∨ nm = .raw (.bool false)
structure BunAt (enc : (E : Nat) → T E → List (XV T)) (k : Bk) (Ex : Nat) (σ : St) (xs : List (T Ex)) (b : Nat) (cells names : List AV) : Prop where
  blk : σ.blk b = some k
  used : σ.used b
  clen : cells.length = (xs.flatMap (enc Ex)).length
  nlen : names.length = cells.length
  cell : ∀ (p : Nat) v a nm, (xs.flatMap (enc Ex))[p]? = some v → cells[p]? = some a → names[p]? = some nm → BCell enc σ v a nm
  ok : NmOk σ b names
/-- A list of ours, whose elements' lists are ours. -/
def Bun (enc : (E : Nat) → T E → List (XV T)) (e : TypeId) (Ex : Nat) (σ : St) (xs : List (T Ex)) (r : AV) : Prop := ∃ b cells names, r = .tup (ptr b 0 :: names) ∧ BunAt enc (.own e cells) Ex σ xs b cells names
/-- One element that was laid out to be appended. -/
def Bun1 (enc : (E : Nat) → T E → List (XV T)) (e : TypeId) (Ex : Nat) (σ : St) (x : T Ex) (r : AV) : Prop := ∃ b cells names, r = .tup (.lst (some ⟨b, 0, none⟩) 1 1 cells :: names) ∧ BunAt enc (.tail e cells.length cells.length) Ex σ [x] b cells names ∧ ∀ a ∈ cells, a.one = true
/-- Codes of values: a kind, a size, a place. -/
def gc (kd sz j : Nat) : Nat := kd + 4 * sz + 256 * j
def gk (c : Nat) : Nat := c % 4
def gz (c : Nat) : Nat := c / 4 % 64
def gj (c : Nat) : Nat := c / 256
/-- Values of bundles: 0: a part of the list (without numbers: what was laid out); 1: an element's place; 2: a list within an element; 3: a place in it. -/
def bunV (c : Nat) (l : List Nat) (r a : AV) : Prop := ∃ hd names, r = .tup (hd :: names) ∧ match gk c, l with
  | 0, [] => a = hd ∧ ∃ b cells, hd = .lst (some ⟨b, 0, none⟩) 1 1 cells
  | 0, [lo, n, K] => ∃ b, hd = ptr b 0 ∧ a = .raw (.slice (some ⟨b, lo * gz c, none⟩) n (K - lo)) ∧ names.length = K * gz c ∧ lo + n ≤ K ∧ lo < K ∧ K ≤ 140737488355328
  | 1, [k] => ∃ b, hd = ptr b 0 ∧ a = ptr b (k * gz c + gj c)
  | 2, [k, lo, n, cp] => (n = 0 ∧ cp = 0 ∧ (a = .raw (.slice none 0 0) ∨ a = .lst none 0 0 [])) ∨ (∃ g, names[k * gz c + gj c]? = some (ptr g 0) ∧ a = .raw (.slice (some ⟨g, lo, none⟩) n cp) ∧ n ≤ cp ∧ 0 < cp)
  | 3, [k, q] => ∃ g, names[k * gz c + gj c]? = some (ptr g 0) ∧ a = ptr g q
  | _, _ => False
section
variable {enc : (E : Nat) → T E → List (XV T)} {σ τ : St} {b e Ex : Nat} {cells names : List AV} {kb : Bk} {xs : List (T Ex)} {hd : AV}
theorem gk_gc {kd sz j : Nat} (h1 : kd < 4) (h2 : sz < 64) : gk (gc kd sz j) = kd := by unfold gk gc; omega
theorem gz_gc {kd sz j : Nat} (h1 : kd < 4) (h2 : sz < 64) : gz (gc kd sz j) = sz := by unfold gz gc; omega
theorem gj_gc {kd sz j : Nat} (h1 : kd < 4) (h2 : sz < 64) : gj (gc kd sz j) = j := by unfold gj gc; omega
theorem ptr_blk {g g' o o' : Nat} (h : ptr g o = ptr g' o') : g = g' := by
  unfold ptr at h
  injection h with h; injection h with h; injection h with h; injection h
theorem tup_owns (hh : hd.blkO = some b) (hn : ∀ (p : Nat) nm, names[p]? = some nm → (∃ g, nm = ptr g 0) ∨ nm = .raw (.bool false)) {c : Nat} : (AV.tup (hd :: names)).owns c ↔ c = b ∨ ∃ p : Nat, names[p]? = some (ptr c 0) := by
  constructor
  · rintro ⟨x, hx, hb⟩
    rcases List.mem_cons.1 hx with rfl | hx
    · rw [hh] at hb; injection hb with hb; exact .inl hb.symm
    · obtain ⟨p, hp⟩ := List.getElem?_of_mem hx
      rcases hn p x hp with ⟨g, rfl⟩ | rfl
      · have : g = c := by injection hb
        subst this
        exact .inr ⟨p, hp⟩
      · cases hb
  · rintro (rfl | ⟨p, hp⟩)
    · exact ⟨hd, List.mem_cons_self, hh⟩
    · exact ⟨_, List.mem_cons_of_mem _ (List.mem_of_getElem? hp), rfl⟩
theorem BCell.keep {v : XV T} {a nm : AV} {S : Nat → Prop} (h : BCell enc σ v a nm) (hX : But S σ τ) (hS : ∀ g, nm = ptr g 0 → ¬ S g) : BCell enc τ v a nm := by
  cases v with
  | slx E xs ys =>
    rcases h with h | ⟨g, t, cs, h1, h2, h3, h4⟩
    · exact .inl h
    · exact .inr ⟨g, t, cs, h1, h2, hX.keep _ _ (hS g h1) h3, h4⟩
  | _ => exact h
theorem NmOk.keep {S : Nat → Prop} (h : NmOk σ b names) (hX : But S σ τ) (hS : ∀ (p : Nat) g, names[p]? = some (ptr g 0) → ¬ S g) : NmOk τ b names :=
  ⟨fun p g hp => by obtain ⟨h1, ⟨k, h2⟩, h3⟩ := h.nm p g hp; exact ⟨hX.used _ h1, ⟨k, hX.keep _ _ (hS p g hp) h2⟩, h3⟩, h.inj, h.frm⟩
theorem BunAt.keep {S : Nat → Prop} (h : BunAt enc kb Ex σ xs b cells names) (hX : But S σ τ) (hb : ¬ S b) (hS : ∀ (p : Nat) g, names[p]? = some (ptr g 0) → ¬ S g) : BunAt enc kb Ex τ xs b cells names :=
  ⟨hX.keep _ _ hb h.blk, hX.used _ h.used, h.clen, h.nlen, fun p v a nm h1 h2 h3 => (h.cell p v a nm h1 h2 h3).keep hX fun g hg => hS p g (by rw [h3, hg]), h.ok.keep hX hS⟩
theorem Bun.own {r : AV} (h : Bun enc e Ex σ xs r) {c : Nat} (hc : r.owns c) : σ.used c ∧ ∃ k, σ.blk c = some k := by
  obtain ⟨b, cells, names, rfl, h⟩ := h
  rcases (tup_owns rfl h.ok.frm).1 hc with rfl | ⟨p, hp⟩
  · exact ⟨h.used, _, h.blk⟩
  · obtain ⟨h1, h2, _⟩ := h.ok.nm p c hp; exact ⟨h1, h2⟩
theorem Bun.but {r : AV} {S : Nat → Prop} (h : Bun enc e Ex σ xs r) (hX : But S σ τ) (hS : ∀ c, r.owns c → ¬ S c) : Bun enc e Ex τ xs r := by
  obtain ⟨b, cells, names, rfl, h⟩ := h
  exact ⟨b, cells, names, rfl, h.keep hX (hS _ ((tup_owns rfl h.ok.frm).2 (.inl rfl))) fun p g hp => hS _ ((tup_owns rfl h.ok.frm).2 (.inr ⟨p, hp⟩))⟩
theorem Bun1.own {x : T Ex} {r : AV} (h : Bun1 enc e Ex σ x r) {c : Nat} (hc : r.owns c) : σ.used c ∧ ∃ k, σ.blk c = some k := by
  obtain ⟨b, cells, names, rfl, h, _⟩ := h
  rcases (tup_owns rfl h.ok.frm).1 hc with rfl | ⟨p, hp⟩
  · exact ⟨h.used, _, h.blk⟩
  · obtain ⟨h1, h2, _⟩ := h.ok.nm p c hp; exact ⟨h1, h2⟩
theorem Bun1.but {x : T Ex} {r : AV} {S : Nat → Prop} (h : Bun1 enc e Ex σ x r) (hX : But S σ τ) (hS : ∀ c, r.owns c → ¬ S c) : Bun1 enc e Ex τ x r := by
  obtain ⟨b, cells, names, rfl, h, h1⟩ := h
  exact ⟨b, cells, names, rfl, h.keep hX (hS _ ((tup_owns rfl h.ok.frm).2 (.inl rfl))) fun p g hp => hS _ ((tup_owns rfl h.ok.frm).2 (.inr ⟨p, hp⟩)), h1⟩
theorem bunV_one {c : Nat} {l : List Nat} {r a : AV} (h : bunV c l r a) : (∃ v, a = .raw v ∧ v.oneCell' = true) ∨ ∃ A n c' cs, a = .lst A n c' cs := by
  obtain ⟨hd, names, rfl, h⟩ := h
  split at h
  · obtain ⟨rfl, b, cells, rfl⟩ := h
    exact .inr ⟨_, _, _, _, rfl⟩
  · obtain ⟨b, _, rfl, _⟩ := h
    exact .inl ⟨_, rfl, rfl⟩
  · obtain ⟨b, _, rfl⟩ := h
    exact .inl ⟨_, rfl, rfl⟩
  · rcases h with ⟨_, _, rfl | rfl⟩ | ⟨g, _, rfl, _⟩
    · exact .inl ⟨_, rfl, rfl⟩
    · exact .inr ⟨_, _, _, _, rfl⟩
    · exact .inl ⟨_, rfl, rfl⟩
  · obtain ⟨g, _, rfl⟩ := h
    exact .inl ⟨_, rfl, rfl⟩
  · exact h.elim
theorem bunV_ptr {c : Nat} {l : List Nat} {r : AV} {b o : Nat} (h : bunV c l r (.raw (.pointer (some ⟨b, o, none⟩)))) : r.owns b := by
  obtain ⟨hd, names, rfl, h⟩ := h
  split at h
  · obtain ⟨rfl, b, cells, h⟩ := h
    cases h
  · obtain ⟨b', _, h, _⟩ := h
    cases h
  · obtain ⟨b', rfl, h⟩ := h
    have := ptr_blk (g := b) (o := o) h
    subst this
    exact ⟨_, List.mem_cons_self, rfl⟩
  · rcases h with ⟨_, _, h | h⟩ | ⟨g, _, h, _⟩ <;> cases h
  · obtain ⟨g, h1, h2⟩ := h
    have := ptr_blk (g := b) (o := o) h2
    subst this
    exact ⟨_, List.mem_cons_of_mem _ (List.mem_of_getElem? h1), rfl⟩
  · exact h.elim
end
end Go.Proofs.Ytlaehnldaejipaa
