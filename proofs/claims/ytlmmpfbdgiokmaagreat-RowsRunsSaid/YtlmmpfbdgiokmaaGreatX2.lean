/- Objects and rows by number, in a memory; what becomes of them. -/
import Derived.Test.YtlmmpfbdgiokmaaGreatX1
namespace Go.Proofs.YtlmmpfbdgiokmaaGreat
open Go.RowKit
set_option maxRecDepth 100000
set_option linter.unusedVariables false
variable {T : Nat → Type}
/-- What a map's keys and values are. -/
inductive MK where
  | str
  | int (k : IntKind)
  | two (k j : IntKind)
  deriving DecidableEq
abbrev MK.ty : MK → Type
  | .str => List UInt8
  | .int _ => Int
  | .two _ _ => Int × Int
def MK.val : (K : MK) → K.ty → Value
  | .str, s => .string ⟨s.toArray⟩
  | .int k, n => .int k n
  | .two k j, p => .agg #[.int k p.1, .int j p.2]
def MK.xv : (K : MK) → K.ty → XV T
  | .str, s => .str s
  | .int k, n => .int k n
  | .two k j, p => .agg [.int k p.1, .int j p.2]
def MK.of : (K : MK) → XV T → Option K.ty
  | .str, .str s => some s
  | .int k, .int k' n => if k = k' then some n else none
  | .two k j, .agg [.int k' a, .int j' b] => if k = k' ∧ j = j' then some (a, b) else none
  | _, _ => none
def MK.zero : (K : MK) → K.ty
  | .str => []
  | .int _ => (0 : Int)
  | .two _ _ => ((0 : Int), (0 : Int))
def MK.eqb : (K : MK) → K.ty → K.ty → Bool
  | .str, a, b => decide ((show List UInt8 from a) = b)
  | .int _, a, b => decide ((show Int from a) = b)
  | .two _ _, a, b => decide ((show Int × Int from a).1 = (show Int × Int from b).1) && decide ((show Int × Int from a).2 = (show Int × Int from b).2)
/-- What lies at a number: an object of ours; a row of ours (its list's value is the number's); nothing any more. -/
inductive HI (T : Nat → Type) : Type where
  | obj (t : TypeId) (cells : List (XV T))
  | row (e sz : Nat)
  | arr (e : TypeId) (E : Nat) (kp : Bool) (xs : List (T E))
  | mmap (K V : MK) (es : List (K.ty × V.ty))
  | gen (E : Nat) (x : T E)
  | dead
def HI.alive : HI T → Bool
  | .dead => false
  | _ => true
@[simp] theorem owns_mapv (b c : Nat) : (mapv b).owns c ↔ b = c := ⟨fun h => by injection h, fun h => by subst h; rfl⟩
@[simp] theorem owns_ptr (b o c : Nat) : (ptr b o).owns c ↔ b = c := ⟨fun h => by injection h, fun h => by subst h; rfl⟩
@[simp] theorem owns_ab (b o c : Nat) : (ab b o).owns c ↔ b = c := ⟨fun h => by injection h, fun h => by subst h; rfl⟩
theorem ab_inj {b c K L : Nat} (h : ab b K = ab c L) : b = c ∧ K = L := by
  unfold ab at h
  injection h with h1 h2
  injection h1 with h1
  injection h1 with h1
  exact ⟨h1, h2⟩
def SH (C : Codec T) (N : Nat) (ρ : Nat → AV) (σ : St) (i : Nat) : HI T → Prop
  | .obj t cells => ∃ b acs, ρ i = ptr b 0 ∧ σ.blk b = some (.own t acs) ∧ σ.used b ∧ SVs C N ρ cells acs
  | .row e sz => ∃ n cells, Own σ e sz (ρ i) n cells
  | .arr e E _ xs => (∃ b K pre rest, ρ i = ab b K ∧ σ.blk b = some (.own e (pre ++ rest)) ∧ σ.used b ∧ (∀ N' ρ', SVs C N' ρ' (xs.flatMap (C.enc E)) pre) ∧ (pre ++ rest).length = K * C.sz E ∧ K ≤ maxLen ∧ (C.full E = true → ∃ zs : List (T E), ∀ N' ρ', SVs C N' ρ' (zs.flatMap (C.enc E)) rest)) ∨ (ρ i = .lst none 0 0 [] ∧ xs = [])
  | .mmap K V es => ∃ b, ρ i = mapv b ∧ σ.blk b = some (.map (es.map fun p => (K.val p.1, V.val p.2))) ∧ σ.used b
  | .gen E x => C.gsh E x σ (ρ i)
  | .dead => True
structure Hp (C : Codec T) (ρ : Nat → AV) (h : List (HI T)) (σ : St) : Prop where
  it : ∀ i x, h[i]? = some x → SH C h.length ρ σ i x
  dist : ∀ i j x y b, h[i]? = some x → h[j]? = some y → x.alive = true → y.alive = true → (ρ i).owns b → (ρ j).owns b → i = j
def Liv (ρ : Nat → AV) (h : List (HI T)) (b : Nat) : Prop := ∃ i x, h[i]? = some x ∧ x.alive = true ∧ (ρ i).owns b
/-- The blocks of the numbers in U. -/
def LivU (U : Nat → Prop) (ρ : Nat → AV) (h : List (HI T)) (b : Nat) : Prop := ∃ i x, U i ∧ h[i]? = some x ∧ x.alive = true ∧ (ρ i).owns b
/-- What became of what was there: only what lies at the numbers in U may have changed. -/
structure Rel (U : Nat → Prop) (ρ : Nat → AV) (h : List (HI T)) (σ : St) (ρ' : Nat → AV) (h' : List (HI T)) (τ : St) : Prop where
  len : h.length ≤ h'.length
  ext : ∀ i, i < h.length → ρ' i = ρ i
  but : But (LivU U ρ h) σ τ
  born : ∀ b, Liv ρ' h' b → Liv ρ h b ∨ (σ.blk b = none ∧ ¬ σ.used b)
section
variable {U : Nat → Prop} {C : Codec T} {ρ ρ' ρ'' : Nat → AV} {h h' h'' : List (HI T)} {σ τ υ : St} {b i : Nat}
theorem blkO_own {e sz n : Nat} {v : AV} {cells : List AV} (ho : Own σ e sz v n cells) (hb : v.owns b) : σ.used b ∧ σ.blk b = some (.tail e (n * sz) ((match v with | .lst _ _ c _ => c | _ => 0) * sz)) := by
  rcases ho.2 with ⟨rfl, _⟩ | ⟨g, c, rfl, _, _, h1, h2⟩
  · cases hb
  · injection hb with hb
    subst hb
    exact ⟨h2, h1⟩
theorem Hp.used (H : Hp C ρ h σ) (hl : Liv ρ h b) : σ.used b := by
  obtain ⟨i, x, h1, h2, h3⟩ := hl
  have := H.it i x h1
  cases x with
  | gen E x => exact C.gsh_used _ _ _ _ _ this h3
  | mmap K V es =>
    obtain ⟨b', h4, _, h5⟩ := this
    rw [h4] at h3
    injection h3 with h3
    subst h3
    exact h5
  | obj t cells =>
    obtain ⟨b', acs, h4, _, h5, _⟩ := this
    rw [h4] at h3
    injection h3 with h3
    subst h3
    exact h5
  | arr e E kp xs =>
    rcases this with ⟨b', K', pre, rest, h4, _, h5, _⟩ | ⟨h4, _⟩
    · rw [h4] at h3
      injection h3 with h3
      subst h3
      exact h5
    · rw [h4] at h3; cases h3
  | row e sz =>
    obtain ⟨n, cells, ho⟩ := this
    exact (blkO_own ho h3).1
  | dead => cases h2
theorem Hp.blk (H : Hp C ρ h σ) (hl : Liv ρ h b) : ∃ k, σ.blk b = some k := by
  obtain ⟨i, x, h1, h2, h3⟩ := hl
  have := H.it i x h1
  cases x with
  | gen E x => exact C.gsh_blk _ _ _ _ _ this h3
  | mmap K V es =>
    obtain ⟨b', h4, h5, _⟩ := this
    rw [h4] at h3
    injection h3 with h3
    subst h3
    exact ⟨_, h5⟩
  | obj t cells =>
    obtain ⟨b', acs, h4, h5, _, _⟩ := this
    rw [h4] at h3
    injection h3 with h3
    subst h3
    exact ⟨_, h5⟩
  | arr e E kp xs =>
    rcases this with ⟨b', K', pre, rest, h4, h5, _, _⟩ | ⟨h4, _⟩
    · rw [h4] at h3
      injection h3 with h3
      subst h3
      exact ⟨_, h5⟩
    · rw [h4] at h3; cases h3
  | row e sz =>
    obtain ⟨n, cells, ho⟩ := this
    exact ⟨_, (blkO_own ho h3).2⟩
  | dead => cases h2
theorem But.more {S S' : Nat → Prop} (hX : But S σ τ) (hS : ∀ b, S b → S' b) : But S' σ τ := ⟨fun c x hc hx => hX.keep c x (fun hs => hc (hS c hs)) hx, hX.used⟩
theorem Rel.refl (U : Nat → Prop) (ρ : Nat → AV) (h : List (HI T)) (σ : St) : Rel U ρ h σ ρ h σ := ⟨Nat.le_refl _, fun _ _ => rfl, .refl _ _, fun _ hb => .inl hb⟩
theorem Rel.mono {U U' : Nat → Prop} (r : Rel U ρ h σ ρ' h' τ) (hU : ∀ i, U i → U' i) : Rel U' ρ h σ ρ' h' τ := ⟨r.len, r.ext, r.but.more fun b ⟨i, x, h1, h2⟩ => ⟨i, x, hU i h1, h2⟩, r.born⟩
theorem Rel.trans {U V : Nat → Prop} (H : Hp C ρ h σ) (r1 : Rel U ρ h σ ρ' h' τ) (r2 : Rel V ρ' h' τ ρ'' h'' υ) : Rel (fun _ => True) ρ h σ ρ'' h'' υ := by
  have hb1 : But (LivU (fun _ => True) ρ h) σ τ := r1.but.more (fun b ⟨i, x, _, h2⟩ => ⟨i, x, trivial, h2⟩)
  refine ⟨Nat.le_trans r1.len r2.len, fun i hi => (r2.ext i (Nat.lt_of_lt_of_le hi r1.len)).trans (r1.ext i hi), hb1.ext2 (fun b hb => ?_) r2.but, fun b hb => ?_⟩
  · obtain ⟨i, x, _, h2⟩ := hb
    rcases r1.born b ⟨i, x, h2⟩ with ⟨j, y, h3⟩ | h3
    · exact .inl ⟨j, y, trivial, h3⟩
    · exact .inr h3.1
  rcases r2.born b hb with h1 | ⟨h1, h2⟩
  · exact r1.born b h1
  · exact .inr ⟨r1.but.noneOfB (fun b ⟨i, x, _, h4⟩ => H.used ⟨i, x, h4⟩) h2 h1, fun hu => h2 (r1.but.used _ hu)⟩
theorem get_set {α : Type} {l : List α} {i j : Nat} {x y : α} (hx : (l.set i x)[j]? = some y) : (j = i ∧ y = x ∧ i < l.length) ∨ (j ≠ i ∧ l[j]? = some y) := by
  rw [List.getElem?_set] at hx
  by_cases hj : i = j
  · subst hj
    rw [if_pos rfl] at hx
    split at hx
    · injection hx with hx; exact .inl ⟨rfl, hx.symm, ‹_›⟩
    · cases hx
  · rw [if_neg hj] at hx
    exact .inr ⟨fun e => hj e.symm, hx⟩
theorem get_app {α : Type} {l : List α} {j : Nat} {x y : α} (hx : (l ++ [x])[j]? = some y) : (j = l.length ∧ y = x) ∨ (j < l.length ∧ l[j]? = some y) := by
  rw [List.getElem?_append] at hx
  split at hx
  · exact .inr ⟨‹_›, hx⟩
  · have : j - l.length = 0 := by
      rcases Nat.eq_zero_or_pos (j - l.length) with h0 | h0
      · exact h0
      · rw [List.getElem?_cons] at hx
        rw [if_neg (by omega)] at hx
        simp at hx
    rw [this] at hx
    simp at hx
    exact .inl ⟨by omega, hx.symm⟩
def rup (ρ : Nat → AV) (i : Nat) (a : AV) : Nat → AV := fun j => if j = i then a else ρ j
theorem rup_same (ρ : Nat → AV) (i : Nat) (a : AV) : rup ρ i a i = a := by unfold rup; rw [if_pos rfl]
theorem rup_other {ρ : Nat → AV} {i j : Nat} {a : AV} (h : j ≠ i) : rup ρ i a j = ρ j := by unfold rup; rw [if_neg h]
theorem lt_of_get {α : Type} {l : List α} {i : Nat} {x : α} (h : l[i]? = some x) : i < l.length := (List.getElem?_eq_some_iff.1 h).1
/-- A new object. -/
theorem Hp.new (H : Hp C ρ h σ) (hb : ¬ σ.used b) (hn : σ.blk b = none) (t : TypeId) {cells : List (XV T)} {acs : List AV} (hc : SVs C h.length ρ cells acs) :
    Hp C (rup ρ h.length (ptr b 0)) (h ++ [.obj t cells]) (σ.put b (.own t acs)) ∧ Rel U ρ h σ (rup ρ h.length (ptr b 0)) (h ++ [.obj t cells]) (σ.put b (.own t acs)) ∧ SV C (h ++ [HI.obj t cells]).length (rup ρ h.length (ptr b 0)) (.ptr h.length 0) (ptr b 0) := by
  have hext : ∀ i, i < h.length → rup ρ h.length (ptr b 0) i = ρ i := fun i hi => rup_other (by omega)
  have hlen : h.length ≤ (h ++ [HI.obj t cells]).length := by simp
  have hnew : ∀ i x c, h[i]? = some x → x.alive = true → (ρ i).owns c → c ≠ b := fun i x c h1 h2 h3 e => by
    subst e
    exact hb (H.used ⟨i, x, h1, h2, h3⟩)
  have hsh : ∀ i x, h[i]? = some x → SH C (h ++ [HI.obj t cells]).length (rup ρ h.length (ptr b 0)) (σ.put b (.own t acs)) i x := fun i x hx => by
    have hi := lt_of_get hx
    have := H.it i x hx
    cases x with
    | gen E x =>
      show C.gsh E x _ (rup ρ h.length (ptr b 0) i)
      rw [hext i hi]
      exact C.gsh_but _ _ _ _ _ (fun _ => False) this (Ext.put _ hn).but (fun _ _ hf => hf)
    | mmap K V es =>
      obtain ⟨b', h1, h2, h3⟩ := this
      have hne : b' ≠ b := hnew i _ b' hx rfl (by rw [h1]; rfl)
      exact ⟨b', (hext i hi).trans h1, by rw [put_other _ _ hne]; exact h2, .inl h3⟩
    | obj t' cs' =>
      obtain ⟨b', acs', h1, h2, h3, h4⟩ := this
      have hne : b' ≠ b := hnew i _ b' hx rfl (by rw [h1]; rfl)
      exact ⟨b', acs', (hext i hi).trans h1, by rw [put_other _ _ hne]; exact h2, .inl h3, h4.ext hlen hext⟩
    | arr e E kp xs =>
      rcases this with ⟨b', K', pre, rest, h1, h2, h3, h4⟩ | ⟨h1, h2⟩
      · have hne : b' ≠ b := hnew i _ b' hx rfl (by rw [h1]; rfl)
        exact .inl ⟨b', K', pre, rest, (hext i hi).trans h1, by rw [put_other _ _ hne]; exact h2, .inl h3, h4⟩
      · exact .inr ⟨(hext i hi).trans h1, h2⟩
    | row e sz =>
      obtain ⟨n, cs', ho⟩ := this
      exact ⟨n, cs', by rw [hext i hi]; exact ho.ext (Ext.put _ hn)⟩
    | dead => trivial
  refine ⟨⟨fun i x hx => ?_, fun i j x y c hx hy ax ay bx by_ => ?_⟩, ⟨hlen, hext, (Ext.put _ hn).but, fun c hc => ?_⟩, .ptr _ _ b (by simp) (rup_same _ _ _) .none⟩
  · rcases get_app hx with ⟨rfl, rfl⟩ | ⟨hi, hx⟩
    · exact ⟨b, acs, rup_same _ _ _, put_same _ _ _, .inr rfl, hc.ext hlen hext⟩
    · exact hsh i x hx
  · rcases get_app hx with ⟨rfl, rfl⟩ | ⟨hi, hx⟩ <;> rcases get_app hy with ⟨rfl, rfl⟩ | ⟨hj, hy⟩
    · rfl
    · rw [rup_same] at bx; injection bx with bx; subst bx
      rw [hext j hj] at by_
      exact absurd rfl (hnew j y _ hy ay by_)
    · rw [rup_same] at by_; injection by_ with by_; subst by_
      rw [hext i hi] at bx
      exact absurd rfl (hnew i x _ hx ax bx)
    · rw [hext i hi] at bx; rw [hext j hj] at by_
      exact H.dist i j x y c hx hy ax ay bx by_
  · obtain ⟨i, x, hx, ax, bx⟩ := hc
    rcases get_app hx with ⟨rfl, rfl⟩ | ⟨hi, hx⟩
    · rw [rup_same] at bx; injection bx with bx; subst bx
      exact .inr ⟨hn, hb⟩
    · rw [hext i hi] at bx
      exact .inl ⟨i, x, hx, ax, bx⟩
/-- A new array. -/
theorem Hp.newArr (kp : Bool) (H : Hp C ρ h σ) (hb : ¬ σ.used b) (hn : σ.blk b = none) (t : TypeId) {E K : Nat} {xs : List (T E)} {pre rest : List AV} (hc : ∀ N ρ, SVs C N ρ (xs.flatMap (C.enc E)) pre) (hK : (pre ++ rest).length = K * C.sz E) (hm : K ≤ maxLen) (hfl : C.full E = true → ∃ zs : List (T E), ∀ N' ρ', SVs C N' ρ' (zs.flatMap (C.enc E)) rest) :
    Hp C (rup ρ h.length (ab b K)) (h ++ [.arr t E kp xs]) (σ.put b (.own t (pre ++ rest))) ∧ Rel U ρ h σ (rup ρ h.length (ab b K)) (h ++ [.arr t E kp xs]) (σ.put b (.own t (pre ++ rest))) := by
  have hext : ∀ i, i < h.length → rup ρ h.length (ab b K) i = ρ i := fun i hi => rup_other (by omega)
  have hlen : h.length ≤ (h ++ [HI.arr t E kp xs]).length := by simp
  have hnew : ∀ i x c, h[i]? = some x → x.alive = true → (ρ i).owns c → c ≠ b := fun i x c h1 h2 h3 e => by
    subst e
    exact hb (H.used ⟨i, x, h1, h2, h3⟩)
  have hsh : ∀ i x, h[i]? = some x → SH C (h ++ [HI.arr t E kp xs]).length (rup ρ h.length (ab b K)) (σ.put b (.own t (pre ++ rest))) i x := fun i x hx => by
    have hi := lt_of_get hx
    have := H.it i x hx
    cases x with
    | gen E x =>
      show C.gsh E x _ (rup ρ h.length (ab b K) i)
      rw [hext i hi]
      exact C.gsh_but _ _ _ _ _ (fun _ => False) this (Ext.put _ hn).but (fun _ _ hf => hf)
    | mmap K V es =>
      obtain ⟨b', h1, h2, h3⟩ := this
      have hne : b' ≠ b := hnew i _ b' hx rfl (by rw [h1]; rfl)
      exact ⟨b', (hext i hi).trans h1, by rw [put_other _ _ hne]; exact h2, .inl h3⟩
    | obj t' cs' =>
      obtain ⟨b', acs', h1, h2, h3, h4⟩ := this
      have hne : b' ≠ b := hnew i _ b' hx rfl (by rw [h1]; rfl)
      exact ⟨b', acs', (hext i hi).trans h1, by rw [put_other _ _ hne]; exact h2, .inl h3, h4.ext hlen hext⟩
    | arr e E kp xs =>
      rcases this with ⟨b', K', pre, rest, h1, h2, h3, h4⟩ | ⟨h1, h2⟩
      · have hne : b' ≠ b := hnew i _ b' hx rfl (by rw [h1]; rfl)
        exact .inl ⟨b', K', pre, rest, (hext i hi).trans h1, by rw [put_other _ _ hne]; exact h2, .inl h3, h4⟩
      · exact .inr ⟨(hext i hi).trans h1, h2⟩
    | row e sz =>
      obtain ⟨n, cs', ho⟩ := this
      exact ⟨n, cs', by rw [hext i hi]; exact ho.ext (Ext.put _ hn)⟩
    | dead => trivial
  refine ⟨⟨fun i x hx => ?_, fun i j x y c hx hy ax ay bx by_ => ?_⟩, ⟨hlen, hext, (Ext.put _ hn).but, fun c hc => ?_⟩⟩
  · rcases get_app hx with ⟨rfl, rfl⟩ | ⟨hi, hx⟩
    · exact .inl ⟨b, K, pre, rest, rup_same _ _ _, put_same _ _ _, .inr rfl, hc, hK, hm, hfl⟩
    · exact hsh i x hx
  · rcases get_app hx with ⟨rfl, rfl⟩ | ⟨hi, hx⟩ <;> rcases get_app hy with ⟨rfl, rfl⟩ | ⟨hj, hy⟩
    · rfl
    · rw [rup_same] at bx; injection bx with bx; subst bx
      rw [hext j hj] at by_
      exact absurd rfl (hnew j y _ hy ay by_)
    · rw [rup_same] at by_; injection by_ with by_; subst by_
      rw [hext i hi] at bx
      exact absurd rfl (hnew i x _ hx ax bx)
    · rw [hext i hi] at bx; rw [hext j hj] at by_
      exact H.dist i j x y c hx hy ax ay bx by_
  · obtain ⟨i, x, hx, ax, bx⟩ := hc
    rcases get_app hx with ⟨rfl, rfl⟩ | ⟨hi, hx⟩
    · rw [rup_same] at bx; injection bx with bx; subst bx
      exact .inr ⟨hn, hb⟩
    · rw [hext i hi] at bx
      exact .inl ⟨i, x, hx, ax, bx⟩
/-- A new row, out of nothing. -/
theorem Hp.newRow (H : Hp C ρ h σ) {v : AV} {e sz n : Nat} {cells : List AV} (hX : Ext σ τ) (ho : Own τ e sz v n cells) (hv : ∀ g, v.owns g → σ.blk g = none ∧ ¬ σ.used g) :
    Hp C (rup ρ h.length v) (h ++ [.row e sz]) τ ∧ Rel U ρ h σ (rup ρ h.length v) (h ++ [.row e sz]) τ := by
  have hext : ∀ i, i < h.length → rup ρ h.length v i = ρ i := fun i hi => rup_other (by omega)
  have hlen : h.length ≤ (h ++ [HI.row e sz]).length := by simp
  have hnew : ∀ i x c, h[i]? = some x → x.alive = true → (ρ i).owns c → ¬ v.owns c := fun i x c h1 h2 h3 e =>
    (hv c e).2 (H.used ⟨i, x, h1, h2, h3⟩)
  refine ⟨⟨fun i x hx => ?_, fun i j x y c hx hy ax ay bx by_ => ?_⟩, ⟨hlen, hext, hX.but, fun c hc => ?_⟩⟩
  · rcases get_app hx with ⟨rfl, rfl⟩ | ⟨hi, hx⟩
    · exact ⟨n, cells, by rw [rup_same]; exact ho⟩
    · have := H.it i x hx
      cases x with
      | gen E x =>
        show C.gsh E x _ (rup ρ h.length v i)
        rw [hext i hi]
        exact C.gsh_but _ _ _ _ _ (fun _ => False) this hX.but (fun _ _ hf => hf)
      | mmap K V es =>
        obtain ⟨b', h1, h2, h3⟩ := this
        exact ⟨b', (hext i hi).trans h1, hX.keep _ _ h2, hX.used _ h3⟩
      | obj t' cs' =>
        obtain ⟨b', acs', h1, h2, h3, h4⟩ := this
        exact ⟨b', acs', (hext i hi).trans h1, hX.keep _ _ h2, hX.used _ h3, h4.ext hlen hext⟩
      | arr e E kp xs =>
        rcases this with ⟨b', K', pre, rest, h1, h2, h3, h4⟩ | ⟨h1, h2⟩
        · exact .inl ⟨b', K', pre, rest, (hext i hi).trans h1, hX.keep _ _ h2, hX.used _ h3, h4⟩
        · exact .inr ⟨(hext i hi).trans h1, h2⟩
      | row e sz =>
        obtain ⟨n, cs', ho⟩ := this
        exact ⟨n, cs', by rw [hext i hi]; exact ho.ext hX⟩
      | dead => trivial
  · rcases get_app hx with ⟨rfl, rfl⟩ | ⟨hi, hx⟩ <;> rcases get_app hy with ⟨rfl, rfl⟩ | ⟨hj, hy⟩
    · rfl
    · rw [rup_same] at bx
      rw [hext j hj] at by_
      exact absurd bx (hnew j y _ hy ay by_)
    · rw [rup_same] at by_
      rw [hext i hi] at bx
      exact absurd by_ (hnew i x _ hx ax bx)
    · rw [hext i hi] at bx; rw [hext j hj] at by_
      exact H.dist i j x y c hx hy ax ay bx by_
  · obtain ⟨i, x, hx, ax, bx⟩ := hc
    rcases get_app hx with ⟨rfl, rfl⟩ | ⟨hi, hx⟩
    · rw [rup_same] at bx
      exact .inr (hv _ bx)
    · rw [hext i hi] at bx
      exact .inl ⟨i, x, hx, ax, bx⟩
theorem Own.but' {S : Nat → Prop} {e sz n : Nat} {v : AV} {cells : List AV} (ho : Own σ e sz v n cells) (hX : But S σ τ) (hS : ∀ g, v.owns g → ¬ S g) : Own τ e sz v n cells :=
  ho.but hX fun g hg => hS g (by
    rcases ho.2 with ⟨rfl, _⟩ | ⟨g', c, rfl, _⟩
    · cases hg
    · exact hg)
/-- A number dies. -/
theorem Hp.die (H : Hp C ρ h σ) (i : Nat) : Hp C ρ (h.set i .dead) σ ∧ Rel U ρ h σ ρ (h.set i .dead) σ := by
  refine ⟨⟨fun j x hx => ?_, fun j k x y c hx hy ax ay bx by_ => ?_⟩, ⟨by simp, fun _ _ => rfl, .refl _ _, fun c hc => ?_⟩⟩
  · rcases get_set hx with ⟨_, rfl, _⟩ | ⟨_, hx⟩
    · trivial
    · rw [List.length_set]; exact H.it j x hx
  · rcases get_set hx with ⟨_, rfl, _⟩ | ⟨_, hx⟩
    · cases ax
    rcases get_set hy with ⟨_, rfl, _⟩ | ⟨_, hy⟩
    · cases ay
    exact H.dist j k x y c hx hy ax ay bx by_
  · obtain ⟨j, x, hx, ax, bx⟩ := hc
    rcases get_set hx with ⟨_, rfl, _⟩ | ⟨_, hx⟩
    · cases ax
    · exact .inl ⟨j, x, hx, ax, bx⟩
/-- A row is put in another's place: the elder one is gone. -/
theorem Hp.grow (H : Hp C ρ h σ) {r : Nat} (hU : U r) {e0 sz0 : Nat} (hr : h[r]? = some (.row e0 sz0)) {v : AV} {e sz n : Nat} {cells : List AV} (hX : But (fun b => (ρ r).owns b) σ τ) (ho : Own τ e sz v n cells) (hv : ∀ g, v.owns g → (ρ r).owns g ∨ (σ.blk g = none ∧ ¬ σ.used g)) :
    Hp C (rup ρ h.length v) (h.set r .dead ++ [.row e sz]) τ ∧ Rel U ρ h σ (rup ρ h.length v) (h.set r .dead ++ [.row e sz]) τ := by
  have hrl := lt_of_get hr
  have hl : (h.set r HI.dead).length = h.length := by simp
  have hext : ∀ i, i < h.length → rup ρ h.length v i = ρ i := fun i hi => rup_other (by omega)
  have hlen : h.length ≤ (h.set r HI.dead ++ [HI.row e sz]).length := by simp
  have hoth : ∀ i x c, h[i]? = some x → x.alive = true → i ≠ r → (ρ i).owns c → ¬ (ρ r).owns c := fun i x c h1 h2 h3 h4 h5 => h3 (H.dist i r x _ c h1 hr h2 rfl h4 h5)
  have hnew : ∀ i x c, h[i]? = some x → x.alive = true → i ≠ r → (ρ i).owns c → ¬ v.owns c := fun i x c h1 h2 h3 h4 h5 => by
    rcases hv c h5 with h6 | h6
    · exact hoth i x c h1 h2 h3 h4 h6
    · exact h6.2 (H.used ⟨i, x, h1, h2, h4⟩)
  refine ⟨⟨fun i x hx => ?_, fun i j x y c hx hy ax ay bx by_ => ?_⟩, ⟨hlen, hext, ?_, fun c hc => ?_⟩⟩
  · rcases get_app hx with ⟨rfl, rfl⟩ | ⟨hi, hx⟩
    · exact ⟨n, cells, by rw [hl, rup_same]; exact ho⟩
    · rw [hl] at hi
      rcases get_set hx with ⟨_, rfl, _⟩ | ⟨hne, hx⟩
      · trivial
      have := H.it i x hx
      cases x with
      | gen E x =>
        show C.gsh E x _ (rup ρ h.length v i)
        rw [hext i hi]
        exact C.gsh_but _ _ _ _ _ _ this hX (fun b' hb' => hoth i _ b' hx rfl hne hb')
      | mmap K V es =>
        obtain ⟨b', h1, h2, h3⟩ := this
        exact ⟨b', (hext i hi).trans h1, hX.keep _ _ (hoth i _ b' hx rfl hne (by rw [h1]; rfl)) h2, hX.used _ h3⟩
      | obj t' cs' =>
        obtain ⟨b', acs', h1, h2, h3, h4⟩ := this
        exact ⟨b', acs', (hext i hi).trans h1, hX.keep _ _ (hoth i _ b' hx rfl hne (by rw [h1]; rfl)) h2, hX.used _ h3, h4.ext hlen hext⟩
      | arr e E kp xs =>
        rcases this with ⟨b', K', pre, rest, h1, h2, h3, h4⟩ | ⟨h1, h2⟩
        · exact .inl ⟨b', K', pre, rest, (hext i hi).trans h1, hX.keep _ _ (hoth i _ b' hx rfl hne (by rw [h1]; rfl)) h2, hX.used _ h3, h4⟩
        · exact .inr ⟨(hext i hi).trans h1, h2⟩
      | row e sz =>
        obtain ⟨n, cs', ho'⟩ := this
        exact ⟨n, cs', by rw [hext i hi]; exact ho'.but' hX fun g hg => hoth i _ g hx rfl hne hg⟩
      | dead => trivial
  · rcases get_app hx with ⟨rfl, rfl⟩ | ⟨hi, hx⟩ <;> rcases get_app hy with ⟨rfl, rfl⟩ | ⟨hj, hy⟩
    · rfl
    · rcases get_set hy with ⟨_, rfl, _⟩ | ⟨hne, hy⟩
      · cases ay
      rw [hl] at hj bx
      rw [rup_same] at bx
      rw [hext j hj] at by_
      exact absurd bx (hnew j y _ hy ay hne by_)
    · rcases get_set hx with ⟨_, rfl, _⟩ | ⟨hne, hx⟩
      · cases ax
      rw [hl] at hi by_
      rw [rup_same] at by_
      rw [hext i hi] at bx
      exact absurd by_ (hnew i x _ hx ax hne bx)
    · rcases get_set hy with ⟨_, rfl, _⟩ | ⟨_, hy⟩
      · cases ay
      rcases get_set hx with ⟨_, rfl, _⟩ | ⟨_, hx⟩
      · cases ax
      rw [hl] at hi hj
      rw [hext i hi] at bx; rw [hext j hj] at by_
      exact H.dist i j x y c hx hy ax ay bx by_
  · exact ⟨fun c k hc hk => hX.keep c k (fun h1 => hc ⟨r, _, hU, hr, rfl, h1⟩) hk, hX.used⟩
  · obtain ⟨i, x, hx, ax, bx⟩ := hc
    rcases get_app hx with ⟨rfl, rfl⟩ | ⟨hi, hx⟩
    · rw [hl, rup_same] at bx
      rcases hv c bx with h1 | h1
      · exact .inl ⟨r, _, hr, rfl, h1⟩
      · exact .inr h1
    · rcases get_set hx with ⟨_, rfl, _⟩ | ⟨_, hx⟩
      · cases ax
      rw [hl] at hi
      rw [hext i hi] at bx
      exact .inl ⟨i, x, hx, ax, bx⟩
/-- An object's cells are written. -/
theorem Hp.write (H : Hp C ρ h σ) {i : Nat} (hU : U i) {t : TypeId} {cells cells' : List (XV T)} (hi : h[i]? = some (.obj t cells)) {acs' : List AV} (hb : ρ i = ptr b 0) (hc : SVs C h.length ρ cells' acs') :
    Hp C ρ (h.set i (.obj t cells')) (σ.set b (.own t acs')) ∧ Rel U ρ h σ ρ (h.set i (.obj t cells')) (σ.set b (.own t acs')) := by
  obtain ⟨b0, acs0, e0, hb0, hu0, _⟩ := H.it i _ hi
  rw [hb] at e0
  have hbb : b0 = b := by injection e0 with e0; injection e0 with e0; injection e0 with e0; injection e0 with e0; exact e0.symm
  subst hbb
  have hoth : ∀ j x c, h[j]? = some x → x.alive = true → j ≠ i → (ρ j).owns c → c ≠ b0 := fun j x c h1 h2 h3 h4 e => by
    subst e
    exact h3 (H.dist j i x _ c h1 hi h2 rfl h4 (by rw [hb]; rfl))
  have hset : ∀ c, c ≠ b0 → (σ.set b0 (.own t acs')).blk c = σ.blk c := fun c hc => by show (if c = b0 then _ else σ.blk c) = _; rw [if_neg hc]
  have hbut : But (fun c => c = b0) σ (σ.set b0 (.own t acs')) := ⟨fun c k hc hk => (hset c hc).trans hk, fun c hc => hc⟩
  have hliv : ∀ c, Liv ρ (h.set i (.obj t cells')) c → Liv ρ h c := fun c ⟨j, x, hx, ax, bx⟩ => by
    rcases get_set hx with ⟨rfl, rfl, _⟩ | ⟨_, hx⟩
    · exact ⟨j, _, hi, rfl, bx⟩
    · exact ⟨j, x, hx, ax, bx⟩
  refine ⟨⟨fun j x hx => ?_, fun j k x y c hx hy ax ay bx by_ => ?_⟩, ⟨by simp, fun _ _ => rfl, ⟨fun c k hc hk => hbut.keep c k (fun e => hc ⟨i, _, hU, hi, rfl, by rw [hb, e]; rfl⟩) hk, fun c hc => hc⟩, fun c hc => .inl (hliv c hc)⟩⟩
  · rw [List.length_set]
    rcases get_set hx with ⟨rfl, rfl, _⟩ | ⟨hne, hx⟩
    · exact ⟨b0, acs', hb, by show (if b0 = b0 then _ else σ.blk b0) = _; rw [if_pos rfl], hu0, hc⟩
    · have := H.it j x hx
      cases x with
      | gen E x => exact C.gsh_but _ _ _ _ _ _ this hbut (fun b' hb' => hoth j _ b' hx rfl hne hb')
      | mmap K V es =>
        obtain ⟨b', h1, h2, h3⟩ := this
        exact ⟨b', h1, (hset b' (hoth j _ b' hx rfl hne (by rw [h1]; rfl))).trans h2, h3⟩
      | obj t' cs' =>
        obtain ⟨b', acs2, h1, h2, h3, h4⟩ := this
        exact ⟨b', acs2, h1, (hset b' (hoth j _ b' hx rfl hne (by rw [h1]; rfl))).trans h2, h3, h4⟩
      | arr e E kp xs =>
        rcases this with ⟨b', K', pre, rest, h1, h2, h3, h4⟩ | ⟨h1, h2⟩
        · exact .inl ⟨b', K', pre, rest, h1, (hset b' (hoth j _ b' hx rfl hne (by rw [h1]; rfl))).trans h2, h3, h4⟩
        · exact .inr ⟨h1, h2⟩
      | row e sz =>
        obtain ⟨n, cs', ho'⟩ := this
        exact ⟨n, cs', ho'.but' hbut fun g hg => hoth j _ g hx rfl hne hg⟩
      | dead => trivial
  · rcases get_set hx with ⟨e1, e2, _⟩ | ⟨hne, hx2⟩ <;> rcases get_set hy with ⟨e3, e4, _⟩ | ⟨hne2, hy2⟩
    · rw [e1, e3]
    · subst e1; exact H.dist j k _ y c hi hy2 rfl ay bx by_
    · subst e3; exact H.dist j k x _ c hx2 hi ax rfl bx by_
    · exact H.dist j k x y c hx2 hy2 ax ay bx by_
/-- An array's cells are written; all of it at once. -/
theorem Hp.writeArr (H : Hp C ρ h σ) {i : Nat} (hU : U i) {t : TypeId} {E : Nat} {kp : Bool} {xs xs' : List (T E)} (hi : h[i]? = some (.arr t E kp xs)) {pre' rest' : List AV} {K : Nat} (hb : ρ i = ab b K) (hc : ∀ N ρ, SVs C N ρ (xs'.flatMap (C.enc E)) pre') (hK : (pre' ++ rest').length = K * C.sz E) (hfl : C.full E = true → ∃ zs : List (T E), ∀ N' ρ', SVs C N' ρ' (zs.flatMap (C.enc E)) rest') :
    Hp C ρ (h.set i (.arr t E kp xs')) (σ.set b (.own t (pre' ++ rest'))) ∧ Rel U ρ h σ ρ (h.set i (.arr t E kp xs')) (σ.set b (.own t (pre' ++ rest'))) := by
  obtain ⟨b0, K', pre0, rest0, e0, hb0, hu0, hmx⟩ : ∃ b0 K' pre0 rest0, ρ i = ab b0 K' ∧ σ.blk b0 = some (.own t (pre0 ++ rest0)) ∧ σ.used b0 ∧ K' ≤ maxLen := by
    rcases H.it i _ hi with ⟨b0, K', pre0, rest0, e0, hb0, hu0, _, _, hmx, _⟩ | ⟨e0, _⟩
    · exact ⟨b0, K', pre0, rest0, e0, hb0, hu0, hmx⟩
    · rw [hb] at e0; cases e0
  rw [hb] at e0
  obtain ⟨hbb, hkk⟩ := ab_inj e0.symm
  subst hbb hkk
  have hoth : ∀ j x c, h[j]? = some x → x.alive = true → j ≠ i → (ρ j).owns c → c ≠ b0 := fun j x c h1 h2 h3 h4 e => by
    subst e
    exact h3 (H.dist j i x _ c h1 hi h2 rfl h4 (by rw [hb]; rfl))
  have hset : ∀ c, c ≠ b0 → (σ.set b0 (.own t (pre' ++ rest'))).blk c = σ.blk c := fun c hc => by show (if c = b0 then _ else σ.blk c) = _; rw [if_neg hc]
  have hbut : But (fun c => c = b0) σ (σ.set b0 (.own t (pre' ++ rest'))) := ⟨fun c k hc hk => (hset c hc).trans hk, fun c hc => hc⟩
  have hliv : ∀ c, Liv ρ (h.set i (.arr t E kp xs')) c → Liv ρ h c := fun c ⟨j, x, hx, ax, bx⟩ => by
    rcases get_set hx with ⟨rfl, rfl, _⟩ | ⟨_, hx⟩
    · exact ⟨j, _, hi, rfl, bx⟩
    · exact ⟨j, x, hx, ax, bx⟩
  refine ⟨⟨fun j x hx => ?_, fun j k x y c hx hy ax ay bx by_ => ?_⟩, ⟨by simp, fun _ _ => rfl, ⟨fun c k hc hk => hbut.keep c k (fun e => hc ⟨i, _, hU, hi, rfl, by rw [hb, e]; rfl⟩) hk, fun c hc => hc⟩, fun c hc => .inl (hliv c hc)⟩⟩
  · rw [List.length_set]
    rcases get_set hx with ⟨rfl, rfl, _⟩ | ⟨hne, hx⟩
    · exact .inl ⟨b0, _, pre', rest', hb, by show (if b0 = b0 then _ else σ.blk b0) = _; rw [if_pos rfl], hu0, hc, hK, hmx, hfl⟩
    · have := H.it j x hx
      cases x with
      | gen E x => exact C.gsh_but _ _ _ _ _ _ this hbut (fun b' hb' => hoth j _ b' hx rfl hne hb')
      | mmap K V es =>
        obtain ⟨b', h1, h2, h3⟩ := this
        exact ⟨b', h1, (hset b' (hoth j _ b' hx rfl hne (by rw [h1]; rfl))).trans h2, h3⟩
      | obj t' cs' =>
        obtain ⟨b', acs2, h1, h2, h3, h4⟩ := this
        exact ⟨b', acs2, h1, (hset b' (hoth j _ b' hx rfl hne (by rw [h1]; rfl))).trans h2, h3, h4⟩
      | arr e E kp xs =>
        rcases this with ⟨b', K', pre, rest, h1, h2, h3, h4⟩ | ⟨h1, h2⟩
        · exact .inl ⟨b', K', pre, rest, h1, (hset b' (hoth j _ b' hx rfl hne (by rw [h1]; rfl))).trans h2, h3, h4⟩
        · exact .inr ⟨h1, h2⟩
      | row e sz =>
        obtain ⟨n, cs', ho'⟩ := this
        exact ⟨n, cs', ho'.but' hbut fun g hg => hoth j _ g hx rfl hne hg⟩
      | dead => trivial
  · rcases get_set hx with ⟨e1, e2, _⟩ | ⟨hne, hx2⟩ <;> rcases get_set hy with ⟨e3, e4, _⟩ | ⟨hne2, hy2⟩
    · rw [e1, e3]
    · subst e1; exact H.dist j k _ y c hi hy2 rfl ay bx by_
    · subst e3; exact H.dist j k x _ c hx2 hi ax rfl bx by_
    · exact H.dist j k x y c hx2 hy2 ax ay bx by_
end
end Go.Proofs.YtlmmpfbdgiokmaaGreat
