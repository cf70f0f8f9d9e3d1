/- Data, in values that bear their cells. -/
import Derived.Test.YtnmimignbgdfgaaAvP
import Derived.Test.YtnmimignbgdfgaaRep
import Derived.Lib.LazyBuf
import Derived.Laws.Entries
namespace Go.Proofs.Ytnmimignbgdfgaa
open Go.RowKit
set_option maxRecDepth 100000
set_option linter.unusedVariables false
mutual
def Is : D → AV → Prop
  | .i k n, v => v = .raw (.int k n)
  | .b x, v => v = .raw (.bool x)
  | .s l, v => v = .raw (.string ⟨l.toArray⟩)
  | .l sz ds, v => ∃ A n c cells, v = .lst A n c cells ∧ ds.length = n * sz ∧ n ≤ c ∧ c ≤ maxLen ∧ n ≤ 140737488355328 ∧ (A = none → n = 0 ∧ c = 0) ∧ IsAll ds cells
def IsAll : List D → List AV → Prop
  | [], _ => True
  | d :: ds, v :: vs => Is d v ∧ IsAll ds vs
  | _ :: _, [] => False
end
@[simp] theorem IsAll_nil (vs : List AV) : IsAll [] vs := by unfold IsAll; trivial
@[simp] theorem IsAll_cons (d : D) (ds : List D) (v : AV) (vs : List AV) : IsAll (d :: ds) (v :: vs) ↔ Is d v ∧ IsAll ds vs := by conv => lhs; unfold IsAll
@[simp] theorem IsAll_none (d : D) (ds : List D) : ¬ IsAll (d :: ds) [] := by unfold IsAll; exact id
theorem IsAll.le {ds : List D} {vs : List AV} (h : IsAll ds vs) : ds.length ≤ vs.length := by
  induction ds generalizing vs with
  | nil => simp
  | cons d ds ih => cases vs with
    | nil => simp at h
    | cons v vs => simp at h; have := ih h.2; simp; omega
theorem IsAll.app {ds es : List D} {vs : List AV} : IsAll (ds ++ es) vs ↔ IsAll ds vs ∧ IsAll es (vs.drop ds.length) := by
  induction ds generalizing vs with
  | nil => simp
  | cons d ds ih => cases vs with
    | nil => simp
    | cons v vs => simp [ih, and_assoc]
theorem IsAll.more {ds : List D} {vs : List AV} (h : IsAll ds vs) (ws : List AV) : IsAll ds (vs ++ ws) := by
  induction ds generalizing vs with
  | nil => simp
  | cons d ds ih => cases vs with
    | nil => simp at h
    | cons v vs => simp at h ⊢; exact ⟨h.1, ih h.2⟩
theorem IsAll.two {ds es : List D} {vs ws : List AV} (h : IsAll ds vs) (hl : vs.length = ds.length) (k : IsAll es ws) : IsAll (ds ++ es) (vs ++ ws) := by
  refine IsAll.app.2 ⟨h.more _, ?_⟩
  rw [← hl, List.drop_left]
  exact k
theorem IsAll.drop {ds : List D} {vs : List AV} (h : IsAll ds vs) (k : Nat) : IsAll (ds.drop k) (vs.drop k) := by
  induction k generalizing ds vs with
  | zero => simpa using h
  | succ k ih => cases ds with
    | nil => simp
    | cons d ds => cases vs with
      | nil => simp at h
      | cons v vs => simp at h ⊢; exact ih h.2
theorem IsAll.take {ds : List D} {vs : List AV} (h : IsAll ds vs) (k : Nat) (hk : ds.length ≤ k) : IsAll ds (vs.take k) := by
  induction ds generalizing vs k with
  | nil => simp
  | cons d ds ih => cases vs with
    | nil => simp at h
    | cons v vs => cases k with
      | zero => simp at hk
      | succ k => simp at h hk ⊢; exact ⟨h.1, ih h.2 k hk⟩
theorem Is_flat {d : D} {v : AV} (hf : d.flat = true) : Is d v ↔ v = .raw d.val := by
  cases d with
  | i k n => simp [Is, D.val]
  | b x => simp [Is, D.val]
  | s l => simp [Is, D.val]
  | l sz ds => simp [D.flat] at hf
def rawD (d : D) : AV := .raw d.val
theorem IsAll_flat {ds : List D} {vs : List AV} (hf : ∀ d ∈ ds, d.flat = true) : IsAll ds vs ↔ ∃ rest, vs = ds.map rawD ++ rest := by
  induction ds generalizing vs with
  | nil => simp
  | cons d ds ih => cases vs with
    | nil => simp
    | cons v vs =>
      simp only [IsAll_cons, Is_flat (hf d (by simp)), ih (fun d hd => hf d (List.mem_cons_of_mem _ hd)), List.map_cons, List.cons_append, List.cons.injEq, rawD]
      constructor
      · rintro ⟨rfl, rest, rfl⟩; exact ⟨rest, rfl, rfl⟩
      · rintro ⟨rest, rfl, rfl⟩; exact ⟨rfl, rest, rfl⟩
/-- Lists of one-cell values. -/
def dI (x : Int) : D := .i .i64 x
def dInts (l : List Int) : D := .l 1 (l.map dI)
structure Lst (A : Option Addr) (n c : Nat) : Prop where
  le : n ≤ c
  most : c ≤ maxLen
  small : n ≤ 140737488355328
  none : A = none → n = 0 ∧ c = 0
theorem Is_l1 {α : Type} {enc : α → D} (hf : ∀ x, (enc x).flat = true) {xs : List α} {v : AV} : Is (.l 1 (xs.map enc)) v ↔ ∃ A c rest, v = .lst A xs.length c (xs.map (fun x => rawD (enc x)) ++ rest) ∧ Lst A xs.length c := by
  unfold Is
  constructor
  · rintro ⟨A, n, c, cells, rfl, h1, h2, h3, h4, h5, h6⟩
    obtain rfl : n = xs.length := by simpa using h1.symm
    obtain ⟨rest, rfl⟩ := (IsAll_flat (by simp [hf])).1 h6
    exact ⟨A, c, rest, by simp [Function.comp_def], h2, h3, h4, h5⟩
  · rintro ⟨A, c, rest, rfl, h2, h3, h4, h5⟩
    exact ⟨A, xs.length, c, _, rfl, by simp, h2, h3, h4, h5, (IsAll_flat (by simp [hf])).2 ⟨rest, by simp [Function.comp_def]⟩⟩
theorem Is_ints {xs : List Int} {v : AV} : Is (dInts xs) v ↔ ∃ A c rest, v = .lst A xs.length c (xs.map vI ++ rest) ∧ Lst A xs.length c := Is_l1 (enc := dI) (fun _ => rfl)
theorem Is_bytes {xs : List UInt8} {v : AV} : Is (dBytes xs) v ↔ ∃ A c rest, v = .lst A xs.length c (xs.map vU ++ rest) ∧ Lst A xs.length c := Is_l1 (enc := dB) (fun _ => rfl)
theorem Is_i {k : IntKind} {n : Int} {v : AV} : Is (.i k n) v ↔ v = .raw (.int k n) := by unfold Is; rfl
theorem Is_b {x : Bool} {v : AV} : Is (.b x) v ↔ v = .raw (.bool x) := by unfold Is; rfl
/-- The element at i, and what is behind. -/
theorem drop_at {α : Type} {f : α → AV} {xs : List α} {rest : List AV} {i : Nat} (hi : i < xs.length) : (xs.map f ++ rest).drop (i * 1) = f xs[i] :: ((xs.drop (i + 1)).map f ++ rest) := by
  rw [Nat.mul_one, List.drop_append_of_le_length (by simp; omega), ← List.map_drop, List.drop_eq_getElem_cons hi]
  rfl
/-- A list of our own, born behind σ0. -/
def New (σ0 τ : St) (e : TypeId) (sz : Nat) (v : AV) (n : Nat) (cells : List AV) : Prop := Own τ e sz v n cells ∧ ∀ g, v.blk = some g → σ0.blk g = none ∧ ¬ σ0.used g
theorem New.nil (σ0 τ : St) (e : TypeId) (sz : Nat) : New σ0 τ e sz (.lst none 0 0 []) 0 [] := ⟨⟨by simp, .inl ⟨rfl, rfl⟩⟩, fun g h => by cases h⟩
theorem Own.but {S : Nat → Prop} {σ τ : St} {e : TypeId} {sz n : Nat} {v : AV} {cells : List AV} (h : Own σ e sz v n cells) (hX : But S σ τ) (hS : ∀ g, v.blk = some g → ¬ S g) : Own τ e sz v n cells := by
  refine ⟨h.1, h.2.imp id ?_⟩
  rintro ⟨g, c, rfl, h2, h3, h4, h5⟩
  exact ⟨g, c, rfl, h2, h3, hX.keep _ _ (hS g rfl) h4, hX.used _ h5⟩
theorem Own.ext {σ τ : St} {e : TypeId} {sz n : Nat} {v : AV} {cells : List AV} (h : Own σ e sz v n cells) (hX : Ext σ τ) : Own τ e sz v n cells := h.but (S := fun _ => False) hX.but fun _ _ => id
theorem Own.used {σ : St} {e : TypeId} {sz n : Nat} {v : AV} {cells : List AV} (h : Own σ e sz v n cells) {g : Nat} (hg : v.blk = some g) : σ.used g := by
  rcases h.2 with ⟨rfl, _⟩ | ⟨g', c, rfl, _, _, _, hu⟩
  · cases hg
  · injection hg with hg; subst hg; exact hu
theorem Own.ne {σ : St} {e : TypeId} {sz n : Nat} {v : AV} {cells : List AV} (h : Own σ e sz v n cells) {b : Nat} {t : TypeId} {cs : List AV} (hb : σ.blk b = some (.own t cs)) : ¬ v.blk = some b := by
  intro hv
  rcases h.2 with ⟨rfl, _⟩ | ⟨g', c, rfl, _, _, hg, hu⟩
  · cases hv
  · injection hv with hv
    change g' = b at hv
    subst hv
    rw [hg] at hb; cases hb
theorem New.ext {σ0 σ τ : St} {e : TypeId} {sz n : Nat} {v : AV} {cells : List AV} (h : New σ0 σ e sz v n cells) (hX : Ext σ τ) : New σ0 τ e sz v n cells := ⟨h.1.ext hX, h.2⟩
theorem New.old {σ0 σ1 σ : St} {e : TypeId} {sz n : Nat} {v : AV} {cells : List AV} (h : New σ1 σ e sz v n cells) (hX : Ext σ0 σ1) : New σ0 σ e sz v n cells := ⟨h.1, fun g hg => ⟨hX.noneOf (h.2 g hg).1, hX.unused (h.2 g hg).2⟩⟩
theorem New.store {σ0 σ τ : St} {e : TypeId} {sz n : Nat} {v : AV} {cells cs : List AV} {b : Nat} {t : TypeId} (h : New σ0 σ e sz v n cells) (hb : σ.blk b = some (.own t cs)) (hX : But (fun c => c = b) σ τ) : New σ0 τ e sz v n cells := ⟨h.1.but hX fun g hg e => by subst e; exact h.1.ne hb hg, h.2⟩
theorem New.oldB {S : Nat → Prop} {σ0 σ1 σ : St} {e : TypeId} {sz n : Nat} {v : AV} {cells : List AV} (h : New σ1 σ e sz v n cells) (hX : But S σ0 σ1) (hS : ∀ b, S b → σ0.used b) : New σ0 σ e sz v n cells :=
  ⟨h.1, fun g hg => ⟨hX.noneOfB hS (h.2 g hg).2 (h.2 g hg).1, fun hu => (h.2 g hg).2 (hX.used _ hu)⟩⟩
/-- A list of our own that was there, at blocks that may change, or a new one. -/
def Mine (S : Nat → Prop) (σ0 τ : St) (e : TypeId) (sz : Nat) (v : AV) (n : Nat) (cells : List AV) : Prop := Own τ e sz v n cells ∧ ∀ g, v.blk = some g → S g ∨ (σ0.blk g = none ∧ ¬ σ0.used g)
theorem Mine.ext {S : Nat → Prop} {σ0 σ τ : St} {e : TypeId} {sz n : Nat} {v : AV} {cells : List AV} (h : Mine S σ0 σ e sz v n cells) (hX : Ext σ τ) : Mine S σ0 τ e sz v n cells := ⟨h.1.ext hX, h.2⟩
theorem Mine.store {S : Nat → Prop} {σ0 σ τ : St} {e : TypeId} {sz n : Nat} {v : AV} {cells cs : List AV} {b : Nat} {t : TypeId} (h : Mine S σ0 σ e sz v n cells) (hb : σ.blk b = some (.own t cs)) (hX : But (fun c => c = b) σ τ) : Mine S σ0 τ e sz v n cells := ⟨h.1.but hX fun g hg e => by subst e; exact h.1.ne hb hg, h.2⟩
theorem New.mine {σ0 τ : St} {e : TypeId} {sz n : Nat} {v : AV} {cells : List AV} (h : New σ0 τ e sz v n cells) (S : Nat → Prop) : Mine S σ0 τ e sz v n cells := ⟨h.1, fun g hg => .inr (h.2 g hg)⟩
theorem Mine.appB {S : Nat → Prop} {σ0 σ τ : St} {e : TypeId} {sz n n' : Nat} {v v' : AV} {cells cells' : List AV} (h : Mine S σ0 σ e sz v n cells) (hX : But S σ0 σ) (hS : ∀ b, S b → σ0.used b) (hO : Own τ e sz v' n' cells') (hk : But (fun b => v.blk = some b) σ τ) (hg : ∀ g, v'.blk = some g → v.blk = some g ∨ (σ.blk g = none ∧ ¬ σ.used g)) : Mine S σ0 τ e sz v' n' cells' ∧ But S σ0 τ := by
  refine ⟨⟨hO, fun g hg' => ?_⟩, hX.ext2 (fun b hb => (h.2 b hb).imp id And.left) hk⟩
  rcases hg g hg' with h1 | h1
  · exact h.2 g h1
  · exact .inr ⟨hX.noneOfB hS h1.2 h1.1, fun hu => h1.2 (hX.used _ hu)⟩
theorem New.appB {S : Nat → Prop} {σ0 σ τ : St} {e : TypeId} {sz n n' : Nat} {v v' : AV} {cells cells' : List AV} (h : New σ0 σ e sz v n cells) (hX : But S σ0 σ) (hS : ∀ b, S b → σ0.used b) (hO : Own τ e sz v' n' cells') (hk : But (fun b => v.blk = some b) σ τ) (hg : ∀ g, v'.blk = some g → v.blk = some g ∨ (σ.blk g = none ∧ ¬ σ.used g)) : New σ0 τ e sz v' n' cells' ∧ But S σ0 τ := by
  refine ⟨⟨hO, fun g hg' => ?_⟩, hX.ext2 (fun b hb => .inr (h.2 b hb).1) hk⟩
  rcases hg g hg' with h1 | h1
  · exact h.2 g h1
  · exact ⟨hX.noneOfB hS h1.2 h1.1, fun hu => h1.2 (hX.used _ hu)⟩
theorem Mine.oldB {S T : Nat → Prop} {σ0 σ1 σ : St} {e : TypeId} {sz n : Nat} {v : AV} {cells : List AV} (h : Mine T σ1 σ e sz v n cells) (hX : But S σ0 σ1) (hS : ∀ b, S b → σ0.used b) (hT : ∀ g, T g → S g ∨ (σ0.blk g = none ∧ ¬ σ0.used g)) : Mine S σ0 σ e sz v n cells := by
  refine ⟨h.1, fun g hg => ?_⟩
  rcases h.2 g hg with h1 | h1
  · exact hT g h1
  · exact .inr ⟨hX.noneOfB hS h1.2 h1.1, fun hu => h1.2 (hX.used _ hu)⟩
theorem Mine.cells_ {S : Nat → Prop} {σ0 σ : St} {e : TypeId} {sz n n' : Nat} {v : AV} {cells cells' : List AV} (h : Mine S σ0 σ e sz v n cells) (he : n = n' ∧ cells = cells') : Mine S σ0 σ e sz v n' cells' := by obtain ⟨rfl, rfl⟩ := he; exact h
theorem Mine.lst {S : Nat → Prop} {σ0 τ : St} {e : TypeId} {sz n : Nat} {v : AV} {cells : List AV} (h : Mine S σ0 τ e sz v n cells) : ∃ A k c l, v = .lst A k c l := by
  rcases h.1.2 with ⟨rfl, _⟩ | ⟨g, c, rfl, _⟩
  · exact ⟨_, _, _, _, rfl⟩
  · exact ⟨_, _, _, _, rfl⟩
theorem Own.is {τ : St} {e : TypeId} {α : Type} {enc : α → D} {f : α → AV} (hf : ∀ x, (enc x).flat = true) (hff : ∀ x, rawD (enc x) = f x) {xs : List α} {v : AV} (h : Own τ e 1 v xs.length (xs.map f)) (hl : xs.length ≤ 140737488355328) : Is (.l 1 (xs.map enc)) v := by
  refine (Is_l1 hf).2 ?_
  rw [show xs.map f = xs.map fun x => rawD (enc x) from List.map_congr_left fun x _ => (hff x).symm] at h
  rcases h.2 with ⟨rfl, h0⟩ | ⟨g, c, rfl, h1, h2, _⟩
  · obtain rfl := List.eq_nil_of_length_eq_zero h0
    exact ⟨none, 0, [], rfl, by simp, by simp, by simp, fun _ => ⟨rfl, rfl⟩⟩
  · exact ⟨some ⟨g, 0, none⟩, c, [], by simp, ⟨h1, h2, hl, (fun e => by cases e)⟩⟩
theorem Own.bytes {τ : St} {e : TypeId} {xs : List UInt8} {v : AV} (h : Own τ e 1 v xs.length (xs.map vU)) (hl : xs.length ≤ 140737488355328) : Is (dBytes xs) v := h.is (enc := dB) (fun _ => rfl) (fun _ => rfl) hl
theorem Own.ints {τ : St} {e : TypeId} {xs : List Int} {v : AV} (h : Own τ e 1 v xs.length (xs.map vI)) (hl : xs.length ≤ 140737488355328) : Is (dInts xs) v := h.is (enc := dI) (fun _ => rfl) (fun _ => rfl) hl
/-- The list itself: its length, its cells. -/
theorem Own.form {τ : St} {e : TypeId} {n : Nat} {v : AV} {cells : List AV} {sz : Nat} (h : Own τ e sz v n cells) : ∃ A c, v = .lst A n c cells ∧ n ≤ c ∧ c ≤ maxLen ∧ (A = none → n = 0 ∧ c = 0) := by
  rcases h.2 with ⟨rfl, h0⟩ | ⟨g, c, rfl, h1, h2, _⟩
  · have := h.1
    subst h0
    simp at this
    subst this
    exact ⟨none, 0, rfl, Nat.le_refl _, Nat.zero_le _, fun _ => ⟨rfl, rfl⟩⟩
  · exact ⟨_, c, rfl, h1, h2, (fun e => by cases e)⟩
theorem New.is {σ0 τ : St} {e : TypeId} {α : Type} {enc : α → D} {f : α → AV} (hf : ∀ x, (enc x).flat = true) (hff : ∀ x, rawD (enc x) = f x) {xs : List α} {v : AV} (h : New σ0 τ e 1 v xs.length (xs.map f)) (hl : xs.length ≤ 140737488355328) : Is (.l 1 (xs.map enc)) v := by
  refine (Is_l1 hf).2 ?_
  rw [show xs.map f = xs.map fun x => rawD (enc x) from List.map_congr_left fun x _ => (hff x).symm] at h
  rcases h.1.2 with ⟨rfl, h0⟩ | ⟨g, c, rfl, h1, h2, _⟩
  · obtain rfl := List.eq_nil_of_length_eq_zero h0
    exact ⟨none, 0, [], rfl, by simp, by simp, by simp, fun _ => ⟨rfl, rfl⟩⟩
  · exact ⟨some ⟨g, 0, none⟩, c, [], by simp, ⟨h1, h2, hl, (fun e => by cases e)⟩⟩
theorem Own.cells_ {σ : St} {e : TypeId} {sz n n' : Nat} {v : AV} {cells cells' : List AV} (h : Own σ e sz v n cells) (he : n = n' ∧ cells = cells') : Own σ e sz v n' cells' := by obtain ⟨rfl, rfl⟩ := he; exact h
theorem New.cells_ {σ0 σ : St} {e : TypeId} {sz n n' : Nat} {v : AV} {cells cells' : List AV} (h : New σ0 σ e sz v n cells) (he : n = n' ∧ cells = cells') : New σ0 σ e sz v n' cells' := by obtain ⟨rfl, rfl⟩ := he; exact h
theorem New.app {σ0 σ τ : St} {e : TypeId} {sz n n' : Nat} {v v' : AV} {cells cells' : List AV} (h : New σ0 σ e sz v n cells) (hX : Ext σ0 σ) (hO : Own τ e sz v' n' cells') (hk : But (fun b => v.blk = some b) σ τ) (hg : ∀ g, v'.blk = some g → v.blk = some g ∨ (σ.blk g = none ∧ ¬ σ.used g)) : New σ0 τ e sz v' n' cells' ∧ Ext σ0 τ := by
  refine ⟨⟨hO, fun g hg' => ?_⟩, But.ext hX (fun b hb => (h.2 b hb).1) hk⟩
  rcases hg g hg' with h1 | h1
  · exact h.2 g h1
  · exact ⟨hX.noneOf h1.1, hX.unused h1.2⟩
theorem Is.lst {sz : Nat} {ds : List D} {v : AV} (h : Is (.l sz ds) v) : ∃ A n c l, v = .lst A n c l := by
  unfold Is at h
  obtain ⟨A, n, c, cells, rfl, _⟩ := h
  exact ⟨A, n, c, cells, rfl⟩
theorem New.lst {σ0 τ : St} {e : TypeId} {sz n : Nat} {v : AV} {cells : List AV} (h : New σ0 τ e sz v n cells) : ∃ A n c l, v = .lst A n c l := by
  rcases h.1.2 with ⟨rfl, _⟩ | ⟨g, c, rfl, _⟩
  · exact ⟨_, _, _, _, rfl⟩
  · exact ⟨_, _, _, _, rfl⟩
theorem New.ints {σ0 τ : St} {e : TypeId} {xs : List Int} {v : AV} (h : New σ0 τ e 1 v xs.length (xs.map vI)) (hl : xs.length ≤ 140737488355328) : Is (dInts xs) v := h.is (enc := dI) (fun _ => rfl) (fun _ => rfl) hl
theorem New.bytes {σ0 τ : St} {e : TypeId} {xs : List UInt8} {v : AV} (h : New σ0 τ e 1 v xs.length (xs.map vU)) (hl : xs.length ≤ 140737488355328) : Is (dBytes xs) v := h.is (enc := dB) (fun _ => rfl) (fun _ => rfl) hl
section
variable {P : Program} {ops : Array Oper} {env : Env} {σ : St} {K : Env → St → Prop} {d : Option Nat} {ty ty' t e : TypeId} {pos : String} {af : Array Edge} {x y z : Operand}
theorem s_indexD {sz n c j : Nat} {A : Option Addr} {cells cs : List AV} {k : IntKind} (hx : ev env x = .lst A n c cells) (hy : ev env y = .raw (.int k j)) (ht : sliceA P t = some e) (hs : sizeA P e = some sz) (hj : j < n) (hA : A = none → n = 0) (hd : cells.drop (j * sz) = cs) (h : ∀ ad : Addr, K (env.put d (.eptr ad cs)) σ) : aOp P ops ⟨d, .indexAddr t x y, ty, pos, af, none⟩ env σ K := by
  subst hd
  cases A with
  | none => have := hA rfl; omega
  | some ad => exact s_index hx hy ht hs hj (h _)
/-- What is put behind a list of our own. -/
theorem r_append {v : AV} {n m cb sz bytes : Nat} {z : Value} {cells news : List AV} {B : Option Addr} (hx : ev env x = v) (hy : ev env y = .lst B m cb news) (ht : sliceA P t = some e) (hs : sizeA P e = some sz) (hz : zeroA P e = some z) (hby : bytesA P e = some bytes) (hzs : z.cells.size = sz) (hsz : 0 < sz)
    (hown : Own σ e sz v n cells) (hl : m * sz ≤ news.length) (h1 : ∀ c ∈ news.take (m * sz), c.one = true) (hb : n + m ≤ 70368744177664 ∧ (n + m) * bytes ≤ 140737488355328)
    (h : ∀ v' τ, Own τ e sz v' (n + m) (cells ++ news.take (m * sz)) → But (fun b => v.blk = some b) σ τ → (∀ g, v'.blk = some g → v.blk = some g ∨ (σ.blk g = none ∧ ¬ σ.used g)) → K (env.put d v') τ) : aOp P ops ⟨d, .call ⟨.builtin .append, #[x, y], #[t, t]⟩, ty, pos, af, none⟩ env σ K := by
  refine s_append hx hy ht hs hz hby hzs hsz hown hl h1 (by simp only [maxLen]; omega) hb.2 fun v' τ h2 h3 => h v' τ h2 h3.but fun g hg => ?_
  rcases h3.new with h4 | ⟨g', h4, h5, h6, h7⟩
  · exact .inl (h4 ▸ hg)
  · rw [h4] at hg
    injection hg with hg
    subst hg
    exact .inr ⟨h5, h6⟩
/-- A row by its elements. -/
theorem r_row {n : Nat} {parts : Array (Nat × Operand)} {sz : Nat} {v : Value} {vs cells : List AV} (hv : parts.toList.map (fun p => ev env p.2) = vs) (ht : sliceA P t = some e) (hs : sizeA P e = some sz) (hz : zeroA P e = some v) (hzs : v.cells.size = sz) (hn : n ≤ 100000 ∧ n * sz ≤ 1000000)
    (hf : aFill (fun i => some (i * sz, sz)) ((List.range (n * sz)).map fun i => .ofV (v.cells[i % sz]!)) ((parts.toList.map (·.1)).zip vs) = some cells) (hc : cells.length = n * sz)
    (h : ∀ b τ, New σ τ e sz (.lst (some ⟨b, 0, none⟩) n n cells) n cells → Ext σ τ → K (env.put d (.lst (some ⟨b, 0, none⟩) n n cells)) τ) : aOp P ops ⟨d, .buildSlice t n parts, ty, pos, af, none⟩ env σ K :=
  s_buildSlice hv ht hs hz hzs (by omega) hf fun b hu hb => h b _ ⟨⟨hc, .inr ⟨b, n, rfl, Nat.le_refl _, (by simp only [maxLen]; omega), put_same _ _ _, .inr rfl⟩⟩, fun g hg => by
    injection hg with hg
    change b = g at hg
    subst hg
    exact ⟨hb, hu⟩⟩ (Ext.put _ hb)
theorem s_eqlnil {A : Option Addr} {n c : Nat} {cells : List AV} (ht : sliceA P t = some e) (hx : ev env x = .lst A n c cells) (hy : ev env y = .lst none 0 0 []) (h : K (env.put d (.raw (.bool A.isNone))) σ) : aOp P ops ⟨d, .binOp .eql t x y ty', ty, pos, af, none⟩ env σ K :=
  s_bin hx hy (fun w _ _ => by simp [eqGuard_at_slice, binOp, run_equal_slice_nil w t e A n c (run_slice' ht)]) h
theorem s_neqnil {A : Option Addr} {n c : Nat} {cells : List AV} (ht : sliceA P t = some e) (hx : ev env x = .lst A n c cells) (hy : ev env y = .lst none 0 0 []) (h : K (env.put d (.raw (.bool (!A.isNone)))) σ) : aOp P ops ⟨d, .binOp .neq t x y ty', ty, pos, af, none⟩ env σ K :=
  s_bin hx hy (fun w _ _ => by simp [eqGuard_at_slice, binOp, run_equal_slice_nil w t e A n c (run_slice' ht)]) h
/-- A part of a list. -/
theorem s_slice {A : Option Addr} {n c l u : Nat} {cells cs : List AV} {sz : Nat} {lo hi : Option Operand} {ix : List AV} (hx : ev env x = .lst A n c cells) (hix : (lo.toList ++ hi.toList).map (ev env) = ix) (ht : sliceA P t = some e) (hs : sizeA P e = some sz) (he : sliceEnds n c lo.isSome hi.isSome false ix l u c) (hlu : l ≤ u) (huc : u ≤ c) (hd : (if c = l then [] else cells.drop (l * sz)) = cs) (h : ∀ A', A' = (if c = l then A else A.map (·.add (l * sz))) → K (env.put d (.lst A' (u - l) (c - l) cs)) σ) : aOp P ops ⟨d, .slice t x lo hi none, ty, pos, af, none⟩ env σ K := by
  rw [aOp_none rfl]
  have : (Op.slice t x lo hi none).operands.toList.map (ev env) = .lst A n c cells :: ix := by
    rw [← hix, ← hx]
    cases lo <;> cases hi <;> simp [Op.operands]
  rw [this]
  subst hd
  exact ⟨e, sz, ht, hs, l, u, c, he, hlu, huc, Nat.le_refl _, h _ rfl⟩
theorem ends2 {n c l u : Nat} {k k' : IntKind} {a b : Int} (ha : a = (l : Int)) (hb : b = (u : Int)) : sliceEnds n c true true false [.raw (.int k a), .raw (.int k' b)] l u c := ⟨⟨k, by rw [ha]; simp⟩, ⟨k', by rw [hb]; simp⟩, rfl⟩
theorem endsL {n c l : Nat} {k : IntKind} {a : Int} (ha : a = (l : Int)) : sliceEnds n c true false false [.raw (.int k a)] l n c := ⟨⟨k, by rw [ha]; simp⟩, rfl, rfl⟩
theorem endsH {n c u : Nat} {k : IntKind} {a : Int} (ha : a = (u : Int)) : sliceEnds n c false true false [.raw (.int k a)] 0 u c := ⟨rfl, ⟨k, by rw [ha]; simp⟩, rfl⟩
theorem ends0 {n c : Nat} : sliceEnds n c false false false [] 0 n c := ⟨rfl, rfl, rfl⟩
theorem r_slice {α : Type} {f : α → AV} {xs : List α} {A : Option Addr} {c l u : Nat} {rest : List AV} {lo hi : Option Operand} {ix : List AV} (hx : ev env x = .lst A xs.length c (xs.map f ++ rest)) (hA : Lst A xs.length c) (hix : (lo.toList ++ hi.toList).map (ev env) = ix) (ht : sliceA P t = some e) (hs : sizeA P e = some 1) (he : sliceEnds xs.length c lo.isSome hi.isSome false ix l u c) (hlu : l ≤ u) (hun : u ≤ xs.length)
    (h : ∀ A' rest' ys, ys = (xs.drop l).take (u - l) → Lst A' ys.length (c - l) → K (env.put d (.lst A' ys.length (c - l) (ys.map f ++ rest'))) σ) : aOp P ops ⟨d, .slice t x lo hi none, ty, pos, af, none⟩ env σ K := by
  have h1 := hA.le
  have h2 := hA.most
  have h3 := hA.small
  have h4 := hA.none
  have hyl : ((xs.drop l).take (u - l)).length = u - l := by simp; omega
  refine s_slice hx hix ht hs he hlu (by omega) rfl fun A' hA' => ?_
  by_cases hc : c = l
  · rw [if_pos hc]
    have := h A [] ((xs.drop l).take (u - l)) rfl ⟨by rw [hyl]; omega, by omega, by rw [hyl]; omega, fun e => ⟨by rw [hyl]; omega, by have := h4 e; omega⟩⟩
    have hy : (xs.drop l).take (u - l) = [] := List.eq_nil_of_length_eq_zero (by rw [hyl]; omega)
    rw [hy] at this
    rw [hA', if_pos hc, show u - l = 0 from by omega]
    simpa using this
  · rw [if_neg hc]
    have hA2 : A' = A.map (·.add (l * 1)) := by rw [hA', if_neg hc]
    have := h A' (((xs.drop l).drop (u - l)).map f ++ rest) ((xs.drop l).take (u - l)) rfl ⟨by rw [hyl]; omega, by omega, by rw [hyl]; omega, fun e => by
      rw [hA2] at e
      cases A with
      | none => have := h4 rfl; omega
      | some a => cases e⟩
    rw [hyl, ← List.append_assoc, ← List.map_append, List.take_append_drop] at this
    rwa [Nat.mul_one, List.drop_append_of_le_length (by simp; omega), ← List.map_drop]
theorem s_convI {k k' : IntKind} {q : IntKind} {a r : Int} (hs : P.underlying t = some (.int q)) (hd : P.underlying ty' = some (.int k')) (hx : ev env x = .raw (.int k a)) (hw : k'.wrap a = r) (h : K (env.put d (.raw (.int k' r))) σ) : aOp P ops ⟨d, .convert t ty' x, ty, pos, af, none⟩ env σ K :=
  s_conv hx (fun w => by subst hw; simp [convert, run_underlying hs, run_underlying hd, Conv.intToInt]) h
theorem s_cap {as_ : Operand} {ts : Array TypeId} {t e : TypeId} {A : Option Addr} {n c : Nat} {v : AV} (hx : ev env as_ = v) (hv : v.val = .slice A n c) (hts : ts[0]? = some t) (ht : sliceA P t = some e) (h : K (env.put d (.raw (.int .i64 c))) σ) : aOp P ops ⟨d, .call ⟨.builtin .cap, #[as_], ts⟩, ty, pos, af, none⟩ env σ K := by
  refine s_pure (vs := [v]) rfl (by simp [Op.operands, Call.operands, hx]) (fun _ _ h => .inl h) (fun ρ hρ w => ?_) h
  simp [Op.operands, Call.operands] at hρ
  simp [execOp, resolve, invoke, builtin, Builtin.cap_, hρ, hv, hts, run_underlying (run_slice' ht), goInt]
theorem s_lenv {as_ : Operand} {ts : Array TypeId} {t e : TypeId} {A : Option Addr} {n c : Nat} {v : AV} (hx : ev env as_ = v) (hv : v.val = .slice A n c) (hts : ts[0]? = some t) (ht : sliceA P t = some e) (h : K (env.put d (.raw (.int .i64 n))) σ) : aOp P ops ⟨d, .call ⟨.builtin .len, #[as_], ts⟩, ty, pos, af, none⟩ env σ K := by
  refine s_pure (vs := [v]) rfl (by simp [Op.operands, Call.operands, hx]) (fun _ _ h => .inl h) (fun ρ hρ w => ?_) h
  simp [Op.operands, Call.operands] at hρ
  simp [execOp, resolve, invoke, builtin, Builtin.len_, hρ, hv, hts, run_underlying (run_slice' ht), goInt]
end
end Go.Proofs.Ytnmimignbgdfgaa
