/- Data as lists of cells: whole numbers, truths, texts, lists (flat: the cells of all elements, one behind the other). 'Rep F w d v': the value v is the datum d in memory w, all its blocks in F. -/
import Derived.Test.YtnmimignbgdfgaaMem
namespace Go.Proofs.Ytnmimignbgdfgaa
open Go.RowKit
set_option maxRecDepth 100000

inductive D where
  | i (k : IntKind) (n : Int)
  | b (x : Bool)
  | s (l : List UInt8)
  | l (sz : Nat) (cells : List D)

mutual
def Rep (F : Nat → Prop) (w : World) : D → Value → Prop
  | .i k n, v => v = .int k n
  | .b x, v => v = .bool x
  | .s l, v => v = .string ⟨l.toArray⟩
  | .l sz cells, v => ∃ A n c, v = .slice A n c ∧ cells.length = n * sz ∧ n ≤ c ∧ c ≤ maxLen ∧ n ≤ 140737488355328 ∧ (A = none → n = 0 ∧ c = 0) ∧ ∀ ad, A = some ad → 0 < n → F ad.block ∧ ad.block < w.heap.size ∧ RepFrom F w ad 0 cells
def RepFrom (F : Nat → Prop) (w : World) (ad : Addr) : Nat → List D → Prop
  | _, [] => True
  | j, d :: r => (∃ v, w.cell? (ad.add j) = some v ∧ Rep F w d v) ∧ RepFrom F w ad (j + 1) r
end
/-- Side by side. -/
def Reps (F : Nat → Prop) (w : World) : List D → List Value → Prop
  | [], [] => True
  | d :: ds, v :: vs => Rep F w d v ∧ Reps F w ds vs
  | _, _ => False

theorem Addr.block_add (a : Addr) (n : Nat) : (a.add n).block = a.block := by unfold Addr.add; split <;> rfl

mutual
/-- What is kept is kept: the blocks in F are as they were. -/
theorem Rep.keep {F G : Nat → Prop} {w w' : World} : (d : D) → {v : Value} → Rep F w d v → (∀ k, F k → G k) → w.heap.size ≤ w'.heap.size → (∀ k, F k → k < w.heap.size → w'.heap[k]? = w.heap[k]?) → Rep G w' d v
  | .i k n, v, h, _, _, _ => h
  | .b x, v, h, _, _, _ => h
  | .s l, v, h, _, _, _ => h
  | .l sz cells, v, h, hFG, hs, hk => by
    unfold Rep at h ⊢
    obtain ⟨A, n, c, rfl, h1, h2, h3, h3', h4, h5⟩ := h
    refine ⟨A, n, c, rfl, h1, h2, h3, h3', h4, fun ad ha hp => ?_⟩
    obtain ⟨h6, h7, h8⟩ := h5 ad ha hp
    exact ⟨hFG _ h6, by omega, RepFrom.keep 0 cells h6 h7 h8 hFG hs hk⟩
theorem RepFrom.keep {F G : Nat → Prop} {w w' : World} {ad : Addr} : (j : Nat) → (ds : List D) → F ad.block → ad.block < w.heap.size → RepFrom F w ad j ds → (∀ k, F k → G k) → w.heap.size ≤ w'.heap.size → (∀ k, F k → k < w.heap.size → w'.heap[k]? = w.heap[k]?) → RepFrom G w' ad j ds
  | _, [], _, _, _, _, _, _ => by unfold RepFrom; trivial
  | j, d :: r, hF, hb, h, hFG, hs, hk => by
    unfold RepFrom at h ⊢
    obtain ⟨⟨v, h1, h2⟩, h3⟩ := h
    refine ⟨⟨v, ?_, Rep.keep d h2 hFG hs hk⟩, RepFrom.keep (j + 1) r hF hb h3 hFG hs hk⟩
    rw [World.cell?_of_block (w := w) (by rw [Addr.block_add]; exact hk _ hF hb)]
    exact h1
end
section
variable {F G : Nat → Prop} {w w' : World} {ad : Addr}
theorem RepFrom.get {j : Nat} {ds : List D} (h : RepFrom F w ad j ds) {i : Nat} {d : D} (hd : ds[i]? = some d) : ∃ v, w.cell? (ad.add (j + i)) = some v ∧ Rep F w d v := by
  induction ds generalizing j i with
  | nil => simp at hd
  | cons x r ih =>
    unfold RepFrom at h
    cases i with
    | zero => simp at hd; subst hd; exact h.1
    | succ i =>
      simp at hd
      obtain ⟨v, hv⟩ := ih h.2 hd
      exact ⟨v, by rw [show j + (i + 1) = j + 1 + i from by omega]; exact hv⟩
theorem RepFrom.mk {j : Nat} {ds : List D} (h : ∀ i d, ds[i]? = some d → ∃ v, w.cell? (ad.add (j + i)) = some v ∧ Rep F w d v) : RepFrom F w ad j ds := by
  induction ds generalizing j with
  | nil => unfold RepFrom; trivial
  | cons x r ih =>
    unfold RepFrom
    refine ⟨h 0 x rfl, ih fun i d hd => ?_⟩
    rw [show j + 1 + i = j + (i + 1) from by omega]
    exact h (i + 1) d (by simpa using hd)

theorem Rep.keeps {S : Nat → Prop} {d : D} {v : Value} (h : Rep F w d v) (hk : Keep S w w') (hS : ∀ k, F k → k < w.heap.size → ¬ S k) : Rep F w' d v :=
  Rep.keep d h (fun _ => id) hk.size fun k hF hl => hk.block k hl (hS k hF hl)
theorem Rep.kept {d : D} {v : Value} (h : Rep F w d v) (hk : Keep (fun _ => False) w w') : Rep F w' d v := h.keeps hk fun _ _ _ => id
theorem Rep.drewN {d : D} {v : Value} (h : Rep F w d v) (n : Nat) : Rep F (w.drewN n) d v := h.kept ((Keep.refl _ _).drewN n)
theorem Rep.wide {d : D} {v : Value} (h : Rep F w d v) (hFG : ∀ k, F k → G k) : Rep G w d v := Rep.keep d h hFG (Nat.le_refl _) fun _ _ _ => rfl
theorem Reps.length {ds : List D} {vs : List Value} (h : Reps F w ds vs) : vs.length = ds.length := by
  induction ds generalizing vs with
  | nil => cases vs <;> simp_all [Reps]
  | cons d r ih => cases vs with
    | nil => simp [Reps] at h
    | cons v vs => simp [ih h.2]
theorem Reps.get {ds : List D} {vs : List Value} (h : Reps F w ds vs) {i : Nat} {d : D} (hd : ds[i]? = some d) : ∃ v, vs[i]? = some v ∧ Rep F w d v := by
  induction ds generalizing vs i with
  | nil => simp at hd
  | cons x r ih => cases vs with
    | nil => simp [Reps] at h
    | cons v vs => cases i with
      | zero => simp at hd; subst hd; exact ⟨v, rfl, h.1⟩
      | succ i => simp at hd ⊢; exact ih h.2 hd
theorem Reps.mk {ds : List D} {vs : List Value} (hl : vs.length = ds.length) (h : ∀ (i : Nat) (d : D) (v : Value), ds[i]? = some d → vs[i]? = some v → Rep F w d v) : Reps F w ds vs := by
  induction ds generalizing vs with
  | nil => cases vs <;> simp_all [Reps]
  | cons x r ih => cases vs with
    | nil => simp at hl
    | cons v vs => exact ⟨h 0 x v rfl rfl, ih (by simpa using hl) fun i d u hd hu => h (i + 1) d u (by simpa using hd) (by simpa using hu)⟩
theorem Reps.append {ds es : List D} {vs us : List Value} (h : Reps F w ds vs) (k : Reps F w es us) : Reps F w (ds ++ es) (vs ++ us) := by
  induction ds generalizing vs with
  | nil => cases vs <;> simp_all [Reps]
  | cons x r ih => cases vs with
    | nil => simp [Reps] at h
    | cons v vs => exact ⟨h.1, ih h.2⟩
theorem Reps.keep {ds : List D} {vs : List Value} (h : Reps F w ds vs) (hFG : ∀ k, F k → G k) (hs : w.heap.size ≤ w'.heap.size) (hk : ∀ k, F k → k < w.heap.size → w'.heap[k]? = w.heap[k]?) : Reps G w' ds vs := by
  induction ds generalizing vs with
  | nil => cases vs <;> simp_all [Reps]
  | cons x r ih => cases vs with
    | nil => simp [Reps] at h
    | cons v vs => exact ⟨Rep.keep x h.1 hFG hs hk, ih h.2⟩
theorem Reps.keeps {S : Nat → Prop} {ds : List D} {vs : List Value} (h : Reps F w ds vs) (hk : Keep S w w') (hS : ∀ k, F k → k < w.heap.size → ¬ S k) : Reps F w' ds vs :=
  h.keep (fun _ => id) hk.size fun k hF hl => hk.block k hl (hS k hF hl)
end

theorem Reps.kept {F : Nat → Prop} {w w' : World} {ds : List D} {vs : List Value} (h : Reps F w ds vs) (hk : Keep (fun _ => False) w w') : Reps F w' ds vs := h.keeps hk fun _ _ _ => id
mutual
theorem Rep.bound {F : Nat → Prop} {w : World} : (d : D) → {v : Value} → Rep F w d v → Rep (fun k => F k ∧ k < w.heap.size) w d v
  | .i k n, v, h => h
  | .b x, v, h => h
  | .s l, v, h => h
  | .l sz cells, v, h => by
    unfold Rep at h ⊢
    obtain ⟨A, n, c, rfl, h1, h2, h3, h3', h4, h5⟩ := h
    refine ⟨A, n, c, rfl, h1, h2, h3, h3', h4, fun ad ha hp => ?_⟩
    obtain ⟨h6, h7, h8⟩ := h5 ad ha hp
    exact ⟨⟨h6, h7⟩, h7, RepFrom.bound 0 cells h8⟩
theorem RepFrom.bound {F : Nat → Prop} {w : World} {ad : Addr} : (j : Nat) → (ds : List D) → RepFrom F w ad j ds → RepFrom (fun k => F k ∧ k < w.heap.size) w ad j ds
  | _, [], _ => by unfold RepFrom; trivial
  | j, d :: r, h => by
    unfold RepFrom at h ⊢
    obtain ⟨⟨v, h1, h2⟩, h3⟩ := h
    exact ⟨⟨v, h1, Rep.bound d h2⟩, RepFrom.bound (j + 1) r h3⟩
end
/-- A datum that needs no memory is one value. -/
def D.val : D → Value
  | .i k n => .int k n
  | .b x => .bool x
  | .s t => .string ⟨t.toArray⟩
  | .l _ _ => .bool false
def D.flat : D → Bool
  | .l _ _ => false
  | _ => true
theorem Rep.flat_ {F : Nat → Prop} {w : World} {d : D} {v : Value} (h : Rep F w d v) (hf : d.flat = true) : v = d.val := by
  cases d <;> simp_all [D.flat, Rep, D.val]
theorem Rep.of_flat (F : Nat → Prop) (w : World) {d : D} (hf : d.flat = true) : Rep F w d d.val := by
  cases d <;> simp_all [D.flat, Rep, D.val]
theorem Reps.of_flat (F : Nat → Prop) (w : World) {ds : List D} (hf : ∀ d ∈ ds, d.flat = true) : Reps F w ds (ds.map D.val) := by
  induction ds with
  | nil => simp [Reps]
  | cons d r ih => exact ⟨Rep.of_flat F w (hf d (by simp)), ih fun x hx => hf x (by simp [hx])⟩
/-- A list that is read: its value's form, and each cell. -/
theorem Rep.list {F : Nat → Prop} {w : World} {sz : Nat} {cells : List D} {v : Value} (h : Rep F w (.l sz cells) v) :
    ∃ A n c, v = .slice A n c ∧ cells.length = n * sz ∧ n ≤ c ∧ c ≤ maxLen ∧ n ≤ 140737488355328 ∧ (A = none → n = 0 ∧ c = 0) ∧ ∀ ad, A = some ad → 0 < n → F ad.block ∧ ad.block < w.heap.size ∧ ∀ j d, cells[j]? = some d → ∃ u, w.cell? (ad.add j) = some u ∧ Rep F w d u := by
  unfold Rep at h
  obtain ⟨A, n, c, rfl, h1, h2, h3, h3', h4, h5⟩ := h
  refine ⟨A, n, c, rfl, h1, h2, h3, h3', h4, fun ad ha hp => ?_⟩
  obtain ⟨h6, h7, h8⟩ := h5 ad ha hp
  exact ⟨h6, h7, fun j d hd => by have := h8.get hd; rwa [Nat.zero_add] at this⟩
theorem Rep.of_list {F : Nat → Prop} {w : World} {sz : Nat} {cells : List D} {A : Option Addr} {n c : Nat} (h1 : cells.length = n * sz) (h2 : n ≤ c) (h3 : c ≤ maxLen) (h3' : n ≤ 140737488355328) (h4 : A = none → n = 0 ∧ c = 0)
    (h5 : ∀ ad, A = some ad → 0 < n → F ad.block ∧ ad.block < w.heap.size ∧ ∀ j d, cells[j]? = some d → ∃ u, w.cell? (ad.add j) = some u ∧ Rep F w d u) : Rep F w (.l sz cells) (.slice A n c) := by
  unfold Rep
  refine ⟨A, n, c, rfl, h1, h2, h3, h3', h4, fun ad ha hp => ?_⟩
  obtain ⟨h6, h7, h8⟩ := h5 ad ha hp
  exact ⟨h6, h7, RepFrom.mk fun i d hd => by rw [Nat.zero_add]; exact h8 i d hd⟩
/-- An element's cell at its place in the walk. -/
theorem Rep.at_ {F : Nat → Prop} {w : World} {cells : List D} {A : Option Addr} {n c : Nat} (h : Rep F w (.l 1 cells) (.slice A n c)) {k : Nat} (hk : k < n) :
    ∃ ad u, A = some ad ∧ F ad.block ∧ ad.block < w.heap.size ∧ ∃ hl : k < cells.length, w.cell? (ad.add k) = some u ∧ Rep F w cells[k] u := by
  obtain ⟨A', n', c', he, h1, h2, h3, h3', h4, h5⟩ := h.list
  injection he with hA hn hc
  subst hA hn hc
  rcases A with _ | ad
  · have := (h4 rfl).1; omega
  · obtain ⟨h6, h7, h8⟩ := h5 ad rfl (by omega)
    have hl : k < cells.length := by omega
    obtain ⟨u, hu, hr⟩ := h8 k cells[k] (List.getElem?_eq_getElem hl)
    exact ⟨ad, u, rfl, h6, h7, hl, hu, hr⟩

theorem Rep.form {F : Nat → Prop} {w : World} {sz : Nat} {cells : List D} {A : Option Addr} {n c : Nat} (h : Rep F w (.l sz cells) (.slice A n c)) :
    cells.length = n * sz ∧ n ≤ c ∧ c ≤ maxLen ∧ n ≤ 140737488355328 ∧ (A = none → n = 0 ∧ c = 0) ∧ ∀ ad, A = some ad → 0 < n → F ad.block ∧ ad.block < w.heap.size ∧ ∀ (j : Nat) (d : D), cells[j]? = some d → ∃ u, w.cell? (ad.add j) = some u ∧ Rep F w d u := by
  obtain ⟨A', n', c', he, h1⟩ := h.list
  injection he with hA hn hc
  subst hA hn hc
  exact h1
/-- Cells that need no memory of their own, in memory as values. -/
theorem Rep.flats {F : Nat → Prop} {w : World} {sz : Nat} {cells : List D} {A : Option Addr} {n c : Nat} (h : Rep F w (.l sz cells) (.slice A n c)) (hf : ∀ d ∈ cells, d.flat = true) :
    ∀ ad, A = some ad → ∀ (j : Nat) (u : Value), (cells.map D.val)[j]? = some u → w.cell? (ad.add j) = some u := by
  intro ad ha j u hu
  obtain ⟨h1, _, _, _, _, h5⟩ := h.form
  have hp : 0 < n := by
    rcases Nat.eq_zero_or_pos n with rfl | hp
    · have : cells = [] := List.eq_nil_of_length_eq_zero (by simpa using h1)
      subst this; simp at hu
    · exact hp
  obtain ⟨_, _, h8⟩ := h5 ad ha hp
  rw [List.getElem?_map] at hu
  cases hd : cells[j]? with
  | none => rw [hd] at hu; cases hu
  | some d =>
    rw [hd] at hu
    injection hu with hu
    obtain ⟨u', h1, h2⟩ := h8 j d hd
    rw [h1, h2.flat_ (hf d (List.mem_of_getElem? hd)), hu]
def vB (b : UInt8) : Value := .int .u8 (b.toNat : Int)
def dB (b : UInt8) : D := .i .u8 (b.toNat : Int)
def dBytes (l : List UInt8) : D := .l 1 (l.map dB)
theorem dB_flat (l : List UInt8) : ∀ d ∈ l.map dB, d.flat = true := by intro d hd; simp only [List.mem_map] at hd; obtain ⟨b, _, rfl⟩ := hd; rfl
theorem dB_val (l : List UInt8) : (l.map dB).map D.val = l.map vB := by simp [dB, vB, D.val, Function.comp_def]
theorem Rep.bytes {F : Nat → Prop} {w : World} {l : List UInt8} {A : Option Addr} {n c : Nat} (h : Rep F w (dBytes l) (.slice A n c)) : ∀ ad, A = some ad → ∀ (j : Nat) (u : Value), (l.map vB)[j]? = some u → w.cell? (ad.add j) = some u := by
  have := h.flats (dB_flat l)
  rwa [dB_val] at this
theorem Rep.bytes_len {F : Nat → Prop} {w : World} {l : List UInt8} {A : Option Addr} {n c : Nat} (h : Rep F w (dBytes l) (.slice A n c)) : l.length = n := by simpa using h.form.1
theorem Rep.bytes_at {F : Nat → Prop} {w : World} {l : List UInt8} {A : Option Addr} {n c : Nat} (h : Rep F w (dBytes l) (.slice A n c)) {k : Nat} (hk : k < n) :
    ∃ ad, A = some ad ∧ F ad.block ∧ ad.block < w.heap.size ∧ ∃ hl : k < l.length, w.cell? (ad.add k) = some (.int .u8 (l[k].toNat : Int)) := by
  obtain ⟨ad, u, rfl, h1, h2, h3, h4, h5⟩ := h.at_ hk
  have hl := h.bytes_len
  refine ⟨ad, rfl, h1, h2, by omega, ?_⟩
  rw [h4, h5.flat_ (dB_flat l _ (List.getElem_mem _))]
  simp [dB, D.val]
def dRows (l : List (List UInt8)) : D := .l 1 (l.map dBytes)
theorem Addr.add_add (a : Addr) (i j : Nat) : (a.add i).add j = a.add (i + j) := by
  unfold Addr.add
  by_cases hi : i = 0 <;> by_cases hj : j = 0 <;> simp [hi, hj, Nat.add_assoc]
theorem Rep.bytes_take {F : Nat → Prop} {w : World} {l : List UInt8} {A : Option Addr} {n c : Nat} (h : Rep F w (dBytes l) (.slice A n c)) {k : Nat} (hk : k ≤ n) : Rep F w (dBytes (l.take k)) (.slice A k c) := by
  obtain ⟨h1, h2, h3, h3', h4, h5⟩ := h.form
  have hl := h.bytes_len
  refine Rep.of_list (by simp; omega) (by omega) h3 (by omega) (fun e => by have := h4 e; omega) ?_
  intro ad ha hp
  obtain ⟨h6, h7, h8⟩ := h5 ad ha (by omega)
  refine ⟨h6, h7, fun j d hd => h8 j d ?_⟩
  rw [List.map_take, List.getElem?_take] at hd
  split at hd
  · exact hd
  · cases hd
theorem Rep.bytes_drop {F : Nat → Prop} {w : World} {l : List UInt8} {ad : Addr} {n c : Nat} (h : Rep F w (dBytes l) (.slice (some ad) n c)) {k : Nat} (hk : k < n) : Rep F w (dBytes (l.drop k)) (.slice (some (ad.add k)) (n - k) (c - k)) := by
  obtain ⟨h1, h2, h3, h3', h4, h5⟩ := h.form
  have hl := h.bytes_len
  refine Rep.of_list (by simp; omega) (by omega) (by omega) (by omega) (fun e => by cases e) ?_
  intro ad' ha hp
  injection ha with ha
  subst ha
  obtain ⟨h6, h7, h8⟩ := h5 ad rfl (by omega)
  refine ⟨by rw [Addr.block_add]; exact h6, by rw [Addr.block_add]; exact h7, fun j d hd => ?_⟩
  rw [List.map_drop, List.getElem?_drop] at hd
  rw [Addr.add_add]
  exact h8 _ d hd
/-- Nothing is left. -/
theorem Rep.bytes_none {F : Nat → Prop} {w : World} {l : List UInt8} {A : Option Addr} {c : Nat} (hc : c ≤ maxLen) (hA : A = none → c = 0) (hl : l = []) : Rep F w (dBytes l) (.slice A 0 c) := by
  subst hl
  exact Rep.of_list (by simp) (by omega) hc (by omega) (fun e => ⟨rfl, hA e⟩) (fun ad _ hp => by omega)
end Go.Proofs.Ytnmimignbgdfgaa
