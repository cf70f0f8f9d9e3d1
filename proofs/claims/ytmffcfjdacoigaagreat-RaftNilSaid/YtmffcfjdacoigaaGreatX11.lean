/- A state is read as a shape, something happens to that, and it is put back. -/
import Derived.Test.YtmffcfjdacoigaaGreatX10
namespace Go.Proofs.YtmffcfjdacoigaaGreat
open Go.RowKit
set_option maxRecDepth 100000
set_option linter.unusedVariables false
variable {T : Nat → Type} {A : Type}
def pok (n N : Nat) (π : Pi) : Bool := π.all fun p => Nat.blt p.1 n && (match p.2 with | some j => Nat.blt j N | none => true)
def rdFin (C : Codec T) (hs : List Hs) (h : List (HI T)) (π : Pi) (k : HsD T hs → Pi → Option A) : Option A :=
  rdHs C h 0 hs π fun dh π => cond (pok hs.length h.length π) (k dh π) none
def rdAll (C : Codec T) (vs : List Vs) (hs : List Hs) (xs : List (XV T)) (h : List (HI T)) (k : VsD T vs → HsD T hs → Pi → Option A) : Option A :=
  rdVs C vs xs [] fun d π => rdFin C hs h π fun dh π => k d dh π
def ren1 (f : Nat → Option Nat) : XV T → XV T
  | .sl E xs (some i) => .sl E xs (f i)
  | .ptr i o => match f i with
    | some j => .ptr j o
    | none => .junk
  | .mo i => match f i with
    | some j => .mo j
    | none => .junk
  | .gv i c l => match f i with
    | some j => .gv j c l
    | none => .junk
  | .as E i lo n co => match f i with
    | some j => .as E j lo n co
    | none => .junk
  | .ap E i k o => match f i with
    | some j => .ap E j k o
    | none => .junk
  | .clo g ps => match ps.mapM f with
    | some qs => .clo g qs
    | none => .junk
  | .agg _ => .junk
  | .tup _ => .junk
  | .vl _ => .junk
  | .ce _ => .junk
  | v => v
def ren2 (f : Nat → Option Nat) : XV T → XV T
  | .agg l => .agg (l.map (ren1 f))
  | v => ren1 f v
def ren3 (f : Nat → Option Nat) : XV T → XV T
  | .tup l => .tup (l.map (ren2 f))
  | v => ren2 f v
def renH (f : Nat → Option Nat) : HI T → HI T
  | .obj t cs => .obj t (cs.map (ren1 f))
  | x => x
def pf (π : Pi) (n N i : Nat) : Option Nat := cond (Nat.blt i n) (match plook π i with | some x => x | none => none) (some (N + (i - n)))
def pinv2 (π : Pi) (j : Nat) : Nat → Option Nat
  | 0 => none
  | n + 1 => match plook π n with
    | some (some j') => cond (Nat.beq j' j) (some n) (pinv2 π j n)
    | _ => pinv2 π j n
def upd (π : Pi) (n : Nat) (f : Nat → Option Nat) (ht : List (HI T)) (j : Nat) (x : HI T) : HI T := match pinv2 π j n with
  | some i => match ht[i]? with
    | some y => renH f y
    | none => .dead
  | none => x
def mapFrom {α β : Type} (g : Nat → α → β) : Nat → List α → List β
  | _, [] => []
  | i, x :: l => g i x :: mapFrom g (i + 1) l
def merge (π : Pi) (n : Nat) (h ht : List (HI T)) : List (HI T) := mapFrom (upd π n (pf π n h.length) ht) 0 h ++ (ht.drop n).map (renH (pf π n h.length))
def prng : Pi → List Nat
  | [] => []
  | (_, some j) :: l => j :: prng l
  | (_, none) :: l => prng l
section
variable {C : Codec T} {ρ ρ' ρt : Nat → AV} {π π' π'' : Pi} {n N : Nat} {z : A} {h ht : List (HI T)} {σ τ : St} {f : Nat → Option Nat}
theorem plook_mem {i : Nat} {x : Option Nat} : ∀ {π : Pi}, plook π i = some x → (i, x) ∈ π
  | [], hx => by simp [plook] at hx
  | (j, y) :: l, hx => by
    rw [plook_cons] at hx
    split at hx
    · rename_i e; subst e; injection hx with hx; subst hx; exact List.mem_cons_self
    · exact List.mem_cons_of_mem _ (plook_mem hx)
theorem pok_spec (hp : pok n N π = true) {i : Nat} {x : Option Nat} (hx : plook π i = some x) : i < n ∧ ∀ j, x = some j → j < N := by
  have := List.all_eq_true.1 hp _ (plook_mem hx)
  simp only [Bool.and_eq_true] at this
  refine ⟨Nat.le_of_ble_eq_true this.1, fun j hj => ?_⟩
  subst hj
  exact Nat.le_of_ble_eq_true this.2
theorem prng_mem {i j : Nat} : ∀ {π : Pi}, plook π i = some (some j) → j ∈ prng π
  | [], hx => by simp [plook] at hx
  | (k, y) :: l, hx => by
    rw [plook_cons] at hx
    split at hx
    · injection hx with hx; subst hx; exact List.mem_cons_self
    · cases y with
      | none => exact prng_mem (π := l) hx
      | some a => exact List.mem_cons_of_mem _ (prng_mem (π := l) hx)
theorem pinv2_some {j i : Nat} : ∀ {n : Nat}, pinv2 π j n = some i → i < n ∧ plook π i = some (some j)
  | 0, hx => by simp [pinv2] at hx
  | n + 1, hx => by
    unfold pinv2 at hx
    split at hx
    · rename_i j' hj
      cases hb : Nat.beq j' j
      · rw [hb] at hx
        have := pinv2_some (n := n) hx
        exact ⟨by omega, this.2⟩
      · rw [hb] at hx
        injection hx with hx
        subst hx
        exact ⟨by omega, by rw [hj, Nat.eq_of_beq_eq_true hb]⟩
    · have := pinv2_some (n := n) hx
      exact ⟨by omega, this.2⟩
theorem pinv2_none {j : Nat} : ∀ {n : Nat}, pinv2 π j n = none → ∀ i, i < n → plook π i ≠ some (some j)
  | 0, hx, i, hi => by omega
  | n + 1, hx, i, hi => by
    unfold pinv2 at hx
    split at hx
    · rename_i j' hj
      cases hb : Nat.beq j' j
      · rw [hb] at hx
        by_cases hin : i = n
        · subst hin; rw [hj]; intro e; injection e with e; injection e with e; subst e; rw [Nat.beq_refl] at hb; cases hb
        · exact pinv2_none (n := n) hx i (by omega)
      · rw [hb] at hx; cases hx
    · rename_i hno
      by_cases hin : i = n
      · subst hin; exact hno j
      · exact pinv2_none (n := n) hx i (by omega)
/-- What is read of the heap. -/
theorem fin_sound {hs : List Hs} {k : HsD T hs → Pi → Option A} (hk : rdFin C hs h π k = some z) : ∃ dh π', k dh π' = some z ∧ PLe π π' ∧ (Inj π → Inj π') ∧ pok hs.length h.length π' = true ∧
    ∀ π'' ρ σ, Inj π' → PLe π' π'' → (∀ i x, plook π'' i = some x → i < hs.length) → Hp C ρ h σ → Hp C (pasg π'' ρ) (stHs C hs dh) σ ∧
      ∀ i x b, (stHs C hs dh)[i]? = some x → x.alive = true → (pasg π'' ρ i).owns b → ∃ j y, plook π' i = some (some j) ∧ h[j]? = some y ∧ y.alive = true ∧ (ρ j).owns b := by
  unfold rdFin at hk
  obtain ⟨dh, π', h1, h2, h3, h4⟩ := hs_rds hk
  cases hp : pok hs.length h.length π'
  · rw [hp] at h1; cases h1
  rw [hp] at h1
  refine ⟨dh, π', h1, h2, h3, hp, fun π'' ρ σ hI hle hM H => ?_⟩
  have hM' : ∀ i x, plook π' i = some x → i < hs.length := fun i x hx => (pok_spec hp hx).1
  have key : ∀ i x b, (stHs C hs dh)[i]? = some x → x.alive = true → (pasg π'' ρ i).owns b → ∃ j y, plook π' i = some (some j) ∧ h[j]? = some y ∧ y.alive = true ∧ (ρ j).owns b := fun i x b hx ha hb => by
    have g := h4 hs.length i x hx
    rw [Nat.zero_add] at g
    obtain ⟨j, y, g1, g2, g3, g4⟩ := (g.2 π'' ρ σ hle hM H).2 ha b hb
    refine ⟨j, y, ?_, g2, g3, g4⟩
    obtain ⟨w, hl⟩ := g.1 ha
    have := hle _ _ hl
    rw [g1] at this
    injection this with this
    rw [this]; exact hl
  refine ⟨⟨fun i x hx => ?_, fun i j x y b hx hy ax ay bx by_ => ?_⟩, key⟩
  · have g := h4 hs.length i x hx
    rw [Nat.zero_add] at g
    rw [stHs_len]
    exact (g.2 π'' ρ σ hle hM H).1
  · obtain ⟨a, u, g1, g2, g3, g4⟩ := key i x b hx ax bx
    obtain ⟨c, v, g5, g6, g7, g8⟩ := key j y b hy ay by_
    have := H.dist a c u v b g2 g6 g3 g7 g4 g8
    subst this
    exact hI i j a g1 g5
end
end Go.Proofs.YtmffcfjdacoigaaGreat
