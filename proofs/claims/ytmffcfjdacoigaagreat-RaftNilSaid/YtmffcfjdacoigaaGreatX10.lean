/- Shapes: what of a state is known ahead, and the data that fill it; how a state is read as one. -/
import Derived.Test.YtmffcfjdacoigaaGreatX9
namespace Go.Proofs.YtmffcfjdacoigaaGreat
open Go.RowKit
set_option linter.unusedSimpArgs false
set_option maxRecDepth 100000
set_option linter.unusedVariables false
/-- One cell. -/
inductive Cs where
  | int (k : IntKind) | bool | str | sl (E : Nat) | slx (E : Nat) | own (E i : Nat) | ptr (i o : Nat) | nilptr | nil | fn (f : Nat) | as (E i : Nat) | asu (E i : Nat) | asz (E i : Nat) | clo (f : Nat) (ps : List Nat) | mp (E : Nat) (k : IntKind) | mo (i : Nat) | gv (i c n : Nat) | junk
/-- A value: one cell, cells, or the codec's. -/
inductive Vs where
  | one (c : Cs) | agg (l : List Cs) | cod (E : Nat) | vl (l : List Cs) | ce (l : List Cs)
inductive Rs where
  | val (v : Vs) | tup (l : List Vs)
inductive Hs where
  | obj (t : TypeId) (l : List Cs) | cobj (t : TypeId) (E : Nat) | row (e sz : Nat) | arr (e : TypeId) (E : Nat) (kp : Bool) | mmap (K V : MK) | lobj (t : TypeId) (l : List Cs) | lmap (K V : MK) | gen (E : Nat) (kp : Bool) | dead
/-- So many numbers. -/
@[reducible] def ND : Nat → Type
  | 0 => Unit
  | n + 1 => Nat × ND n
def ndl : (n : Nat) → ND n → List Nat
  | 0, _ => []
  | n + 1, d => d.1 :: ndl n d.2
section
variable (T : Nat → Type)
@[reducible] def Cs.D : Cs → Type
  | .int _ => Int
  | .bool => Bool
  | .str => List UInt8
  | .sl E => List (T E)
  | .slx E => List (T E) × List (T E)
  | .own E _ => List (T E)
  | .as _ _ => Nat × Nat × Nat
  | .asu _ _ => Nat × Nat
  | .asz _ _ => Nat
  | .mp E _ => List (Int × List (T E))
  | .gv _ _ n => ND n
  | _ => Unit
@[reducible] def CsD : List Cs → Type
  | [] => Unit
  | c :: l => c.D T × CsD l
@[reducible] def Vs.D : Vs → Type
  | .one c => c.D T
  | .agg l => CsD T l
  | .cod E => T E
  | .vl l => CsD T l
  | .ce l => CsD T l
@[reducible] def VsD : List Vs → Type
  | [] => Unit
  | v :: l => v.D T × VsD l
@[reducible] def Rs.D : Rs → Type
  | .val v => v.D T
  | .tup l => VsD T l
@[reducible] def Hs.D : Hs → Type
  | .obj _ l => CsD T l
  | .cobj _ E => T E
  | .arr _ E _ => List (T E)
  | .mmap K V => List (K.ty × V.ty)
  | .lobj _ l => CsD T l
  | .lmap K V => List (K.ty × V.ty)
  | .gen E _ => T E
  | _ => Unit
@[reducible] def HsD : List Hs → Type
  | [] => Unit
  | x :: l => x.D T × HsD l
end
variable {T : Nat → Type} {A : Type}
def Cs.st : (c : Cs) → c.D T → XV T
  | .int k, n => .int k n
  | .bool, b => .bool b
  | .str, s => .str s
  | .sl E, xs => .sl E xs none
  | .slx E, d => .slx E d.1 d.2
  | .own E i, xs => .sl E xs (some i)
  | .ptr i o, _ => .ptr i o
  | .nilptr, _ => .nilptr
  | .nil, _ => .nil
  | .fn f, _ => .fn f
  | .as E i, d => .as E i d.1 d.2.1 (some d.2.2)
  | .asu E i, d => .as E i d.1 d.2 none
  | .asz E i, d => .as E i 0 d none
  | .clo f ps, _ => .clo f ps
  | .mp E k, tb => .mp E k tb
  | .mo i, _ => .mo i
  | .gv i c n, d => .gv i c (ndl n d)
  | .junk, _ => .junk
def stCs : (l : List Cs) → CsD T l → List (XV T)
  | [], _ => []
  | c :: l, d => c.st d.1 :: stCs l d.2
def Vs.st (C : Codec T) : (v : Vs) → v.D T → XV T
  | .one c, d => c.st d
  | .agg l, d => .agg (stCs l d)
  | .cod E, x => .agg (C.enc E x)
  | .vl l, d => .vl (stCs l d)
  | .ce l, d => .ce (stCs l d)
def stVs (C : Codec T) : (l : List Vs) → VsD T l → List (XV T)
  | [], _ => []
  | v :: l, d => v.st C d.1 :: stVs C l d.2
def Rs.st (C : Codec T) : (r : Rs) → r.D T → XV T
  | .val v, d => v.st C d
  | .tup l, d => .tup (stVs C l d)
def Hs.st (C : Codec T) : (x : Hs) → x.D T → HI T
  | .obj t l, d => .obj t (stCs l d)
  | .cobj t E, x => .obj t (C.enc E x)
  | .row e sz, _ => .row e sz
  | .arr e E kp, xs => .arr e E kp xs
  | .mmap K V, es => .mmap K V es
  | .lobj t l, d => .obj t (stCs l d)
  | .lmap K V, es => .mmap K V es
  | .gen E _, x => .gen E x
  | .dead, _ => .dead
def stHs (C : Codec T) : (l : List Hs) → HsD T l → List (HI T)
  | [], _ => []
  | x :: l, d => x.st C d.1 :: stHs C l d.2

/-- Which number stands for which; none: for nothing at all. -/
abbrev Pi := List (Nat × Option Nat)
def plook : Pi → Nat → Option (Option Nat)
  | [], _ => none
  | (j, x) :: l, i => bif Nat.beq j i then some x else plook l i
def pinv : Pi → Nat → Option Nat
  | [], _ => none
  | (i, some j) :: l, k => bif Nat.beq j k then some i else pinv l k
  | (_, none) :: l, k => pinv l k
def oeq : Option Nat → Option Nat → Bool
  | some a, some b => Nat.beq a b
  | none, none => true
  | _, _ => false
def pfree (π : Pi) : Option Nat → Bool
  | none => true
  | some j => (pinv π j).isNone
def pbind (π : Pi) (i : Nat) (j : Option Nat) (k : Pi → Option A) : Option A := match plook π i with
  | some j' => cond (oeq j' j) (k π) none
  | none => cond (pfree π j) (k ((i, j) :: π)) none
def pbinds : Pi → List Nat → List Nat → (Pi → Option A) → Option A
  | π, [], [], k => k π
  | π, i :: ps, j :: qs, k => pbind π i (some j) fun π => pbinds π ps qs k
  | _, _, _, _ => none
def rdN : (n : Nat) → List Nat → (ND n → Option A) → Option A
  | 0, [], k => k ()
  | n + 1, a :: l, k => rdN n l fun d => k (a, d)
  | _, _, _ => none
def Cs.rd (c : Cs) (v : XV T) (π : Pi) (k : c.D T → Pi → Option A) : Option A := match c, v with
  | .int kd, .int kd' n => if kd = kd' then k n π else none
  | .bool, .bool b => k b π
  | .str, .str s => k s π
  | .sl E, .sl E' xs _ => if h : E' = E then k (h ▸ xs) π else none
  | .sl E, .nil => k [] π
  | .sl E, .slx E' xs _ => if h : E' = E then k (h ▸ xs) π else none
  | .slx E, .slx E' xs ys => if h : E' = E then k (h ▸ xs, h ▸ ys) π else none
  | .slx E, .nil => k ([], []) π
  | .own E i, .sl E' xs (some r) => if h : E' = E then pbind π i (some r) fun π => k (h ▸ xs) π else none
  | .own E i, .nil => pbind π i none fun π => k [] π
  | .ptr i o, .ptr j o' => cond (Nat.beq o o') (pbind π i (some j) fun π => k () π) none
  | .mo i, .mo j => pbind π i (some j) fun π => k () π
  | .nilptr, .nilptr => k () π
  | .nil, .nil => k () π
  | .fn f, .fn f' => cond (Nat.beq f f') (k () π) none
  | .as E i, .as E' j lo n (some c) => cond (Nat.beq E' E) (pbind π i (some j) fun π => k (lo, n, c) π) none
  | .asu E i, .as E' j lo n _ => cond (Nat.beq E' E) (pbind π i (some j) fun π => k (lo, n) π) none
  | .asz E i, .as E' j lo n _ => cond (Nat.beq E' E && Nat.beq lo 0) (pbind π i (some j) fun π => k n π) none
  | .as E i, .nil => pbind π i none fun π => k (0, 0, 0) π
  | .asu E i, .nil => pbind π i none fun π => k (0, 0) π
  | .asz E i, .nil => pbind π i none fun π => k 0 π
  | .clo f ps, .clo f' qs => cond (Nat.beq f f') (pbinds π ps qs fun π => k () π) none
  | .gv i c n, .gv j c' l => cond (Nat.beq c c') (pbind π i (some j) fun π => rdN n l fun d => k d π) none
  | .junk, _ => k () π
  | _, _ => none
def rdCs : (l : List Cs) → List (XV T) → Pi → (CsD T l → Pi → Option A) → Option A
  | [], [], π, k => k () π
  | c :: l, v :: vs, π, k => c.rd v π fun d π => rdCs l vs π fun ds π => k (d, ds) π
  | [], _ :: _, _, _ => none
  | _ :: _, [], _, _ => none
def Vs.rd (C : Codec T) (s : Vs) (v : XV T) (π : Pi) (k : s.D T → Pi → Option A) : Option A := match s with
  | .one c => c.rd v π k
  | .agg l => match v with
    | .agg vs => rdCs l vs π k
    | _ => none
  | .cod E => match v with
    | .agg vs => (C.dec E vs).bind fun x => k x π
    | _ => none
  | .vl l => match v with
    | .vl vs => rdCs l vs π k
    | _ => none
  | .ce _ => none
def rdVs (C : Codec T) : (l : List Vs) → List (XV T) → Pi → (VsD T l → Pi → Option A) → Option A
  | [], [], π, k => k () π
  | s :: l, v :: vs, π, k => s.rd C v π fun d π => rdVs C l vs π fun ds π => k (d, ds) π
  | [], _ :: _, _, _ => none
  | _ :: _, [], _, _ => none
def Rs.rd (C : Codec T) (s : Rs) (v : XV T) (π : Pi) (k : s.D T → Pi → Option A) : Option A := match s with
  | .val s => s.rd C v π k
  | .tup l => match v with
    | .tup vs => rdVs C l vs π k
    | _ => none
def Hs.rd (C : Codec T) (x : Hs) (i : Nat) (h : List (HI T)) (π : Pi) (k : x.D T → Pi → Option A) : Option A := match x with
  | .obj t l => match plook π i with
    | some (some j) => match h[j]? with
      | some (.obj t' cs) => cond (Nat.beq t t') (rdCs l cs π k) none
      | _ => none
    | _ => none
  | .cobj t E => match plook π i with
    | some (some j) => match h[j]? with
      | some (.obj t' cs) => cond (Nat.beq t t') ((C.dec E cs).bind fun x => k x π) none
      | _ => none
    | _ => none
  | .row e sz => match plook π i with
    | some (some j) => match h[j]? with
      | some (.row e' sz') => cond (Nat.beq e e' && Nat.beq sz sz') (k () π) none
      | _ => none
    | some none => k () π
    | none => none
  | .arr e E _ => match plook π i with
    | some (some j) => match h[j]? with
      | some (.arr e' E' _ xs) => cond (Nat.beq e e') (if hE : E' = E then k (hE ▸ xs) π else none) none
      | _ => none
    | some none => k [] π
    | none => none
  | .mmap K V => match plook π i with
    | some (some j) => match h[j]? with
      | some (.mmap K' V' es) => if hE : K' = K ∧ V' = V then k (hE.1 ▸ hE.2 ▸ es) π else none
      | _ => none
    | _ => none
  | .lobj t l => match plook π i with
    | some (some j) => match h[j]? with
      | some (.obj t' cs) => cond (Nat.beq t t') (rdCs l cs π k) none
      | _ => none
    | _ => none
  | .lmap K V => match plook π i with
    | some (some j) => match h[j]? with
      | some (.mmap K' V' es) => if hE : K' = K ∧ V' = V then k (hE.1 ▸ hE.2 ▸ es) π else none
      | _ => none
    | _ => none
  | .gen E _ => match plook π i with
    | some (some j) => match h[j]? with
      | some (.gen E' x) => if hE : E' = E then k (hE ▸ x) π else none
      | _ => none
    | _ => none
  | .dead => k () π
def rdHs (C : Codec T) (h : List (HI T)) : Nat → (l : List Hs) → Pi → (HsD T l → Pi → Option A) → Option A
  | _, [], π, k => k () π
  | i, x :: l, π, k => x.rd C i h π fun d π => rdHs C h (i + 1) l π fun ds π => k (d, ds) π
def PLe (π π' : Pi) : Prop := ∀ i x, plook π i = some x → plook π' i = some x
def Inj (π : Pi) : Prop := ∀ i j x, plook π i = some (some x) → plook π j = some (some x) → i = j
def pasg (π : Pi) (ρ : Nat → AV) (i : Nat) : AV := match plook π i with
  | some (some j) => ρ j
  | _ => .lst none 0 0 []
section
variable {C : Codec T} {ρ : Nat → AV} {π π' π'' : Pi} {N M : Nat} {z : A} {h : List (HI T)} {σ : St}
theorem PLe.refl (π : Pi) : PLe π π := fun _ _ h => h
theorem PLe.trans (h : PLe π π') (k : PLe π' π'') : PLe π π'' := fun i x hx => k i x (h i x hx)
theorem plook_cons (j : Nat) (x : Option Nat) (l : Pi) (i : Nat) : plook ((j, x) :: l) i = if j = i then some x else plook l i := by
  show (bif Nat.beq j i then some x else plook l i) = _
  by_cases hi : j = i
  · subst hi; simp
  · have : Nat.beq j i = false := by cases hb : Nat.beq j i <;> simp_all
    rw [this, if_neg hi]; rfl
theorem oeq_eq {a b : Option Nat} (h : oeq a b = true) : a = b := by
  cases a <;> cases b <;> simp_all [oeq]
theorem pinv_none {j : Nat} : ∀ {π : Pi}, pinv π j = none → ∀ i, plook π i ≠ some (some j)
  | [], _, i => by simp [plook]
  | (a, none) :: l, h, i => by
    rw [plook_cons]
    split
    · simp
    · exact pinv_none (π := l) h i
  | (a, some b) :: l, h, i => by
    have h' : (bif Nat.beq b j then some a else pinv l j) = none := h
    rw [plook_cons]
    cases hb : Nat.beq b j
    · rw [hb] at h'
      split
      · intro e; injection e with e; injection e with e; subst e; rw [Nat.beq_refl] at hb; cases hb
      · exact pinv_none (π := l) h' i
    · rw [hb] at h'; cases h'
theorem pbind_sound {i : Nat} {j : Option Nat} {k : Pi → Option A} (hk : pbind π i j k = some z) : ∃ π', k π' = some z ∧ PLe π π' ∧ plook π' i = some j ∧ (Inj π → Inj π') := by
  unfold pbind at hk
  split at hk
  · rename_i j' hl
    cases hb : oeq j' j
    · rw [hb] at hk; cases hk
    · rw [hb] at hk
      exact ⟨π, hk, .refl _, by rw [hl, oeq_eq hb], id⟩
  · rename_i hl
    cases hb : pfree π j
    · rw [hb] at hk; cases hk
    · rw [hb] at hk
      refine ⟨_, hk, fun a x hx => ?_, by rw [plook_cons, if_pos rfl], fun hI a b x ha hb' => ?_⟩
      · rw [plook_cons, if_neg (by rintro rfl; rw [hl] at hx; cases hx)]; exact hx
      · rw [plook_cons] at ha hb'
        have hno : ∀ c, plook π c = some (some x) → j ≠ some x := fun c hc e => by
          subst e
          unfold pfree at hb
          have : pinv π x = none := by simpa using hb
          exact pinv_none this c hc
        split at ha
        · rename_i e1
          split at hb'
          · rename_i e2; rw [← e1, ← e2]
          · injection ha with ha; exact absurd ha (hno b hb')
        · split at hb'
          · injection hb' with hb'; exact absurd hb' (hno a ha)
          · exact hI a b x ha hb'
theorem pbinds_sound : ∀ {ps qs : List Nat} {π : Pi} {k : Pi → Option A}, pbinds π ps qs k = some z → ∃ π', k π' = some z ∧ PLe π π' ∧ (Inj π → Inj π') ∧ ∀ (π'' : Pi) (ρ : Nat → AV) (N M : Nat) (bs : List Nat), PLe π' π'' → (∀ i x, plook π'' i = some x → i < M) → PtrsAt N ρ qs bs → PtrsAt M (pasg π'' ρ) ps bs
  | [], [], π, k, hk => ⟨π, hk, .refl _, id, fun π'' ρ N M bs _ _ hb => by cases bs <;> first | trivial | exact hb.elim⟩
  | i :: ps, j :: qs, π, k, hk => by
    obtain ⟨π1, h1, h2, h3, h4⟩ := pbind_sound hk
    obtain ⟨π2, g1, g2, g3, g4⟩ := pbinds_sound h1
    refine ⟨π2, g1, h2.trans g2, fun hI => g3 (h4 hI), fun π'' ρ N M bs hp hM hb => ?_⟩
    cases bs with
    | nil => exact hb.elim
    | cons b bs =>
      have hl := hp _ _ (g2 _ _ h3)
      exact ⟨⟨hM _ _ hl, by unfold pasg; rw [hl]; exact hb.1.2⟩, g4 π'' ρ N M bs hp hM hb.2⟩
  | [], _ :: _, π, k, hk => by cases hk
  | _ :: _, [], π, k, hk => by cases hk
/-- Read so, in any greater one. -/
def Reads (C : Codec T) (N M : Nat) (π : Pi) (v u : XV T) : Prop := ∀ π' ρ a, PLe π π' → (∀ i x, plook π' i = some x → i < M) → SV C N ρ v a → SV C M (pasg π' ρ) u a
theorem Reads.more {v u : XV T} (h : Reads C N M π v u) (hp : PLe π π') : Reads C N M π' v u := fun π'' ρ a h1 h2 h3 => h π'' ρ a (hp.trans h1) h2 h3
theorem nil_as {E i N M : Nat} {co : Option Nat} {a : AV} (hs : SV C N ρ .nil a) (hl : plook π i = some none) (hi : i < M) (hc : ∀ c', co = some c' → 0 = c') : SV C M (pasg π ρ) (.as E i 0 0 co) a := by
  rw [sv_nil.1 hs]
  exact sv_as.2 (.inr ⟨rfl, rfl, hi, by unfold pasg; rw [hl], fun c' h => (hc c' h).symm⟩)
theorem rdN_sound : ∀ {n : Nat} {l : List Nat} {k : ND n → Option A}, rdN n l k = some z → ∃ d, k d = some z ∧ ndl n d = l
  | 0, [], k, hk => ⟨(), hk, rfl⟩
  | n + 1, a :: l, k, hk => by
    obtain ⟨d, h1, h2⟩ := rdN_sound (n := n) hk
    exact ⟨(a, d), h1, by show a :: ndl n d = _; rw [h2]⟩
  | 0, _ :: _, k, hk => by cases hk
  | _ + 1, [], k, hk => by cases hk
theorem cs_rd {c : Cs} {v : XV T} {k : c.D T → Pi → Option A} (hk : c.rd v π k = some z) : ∃ d π', k d π' = some z ∧ PLe π π' ∧ (Inj π → Inj π') ∧ ∀ (C : Codec T) N M, Reads C N M π' v (c.st d) := by
  unfold Cs.rd at hk
  split at hk
  · split at hk
    · rename_i e; subst e
      exact ⟨_, _, hk, .refl _, id, fun C N M π' ρ a _ _ hs => by rw [sv_int.1 hs]; exact sv_int.2 rfl⟩
    · cases hk
  · exact ⟨_, _, hk, .refl _, id, fun C N M π' ρ a _ _ hs => by rw [sv_bool.1 hs]; exact sv_bool.2 rfl⟩
  · exact ⟨_, _, hk, .refl _, id, fun C N M π' ρ a _ _ hs => by rw [sv_str.1 hs]; exact sv_str.2 rfl⟩
  · split at hk
    · rename_i e; subst e
      refine ⟨_, _, hk, .refl _, id, fun C N M π' ρ a _ _ hs => ?_⟩
      obtain ⟨A, c, cs, rest, rfl, l1, l2, l3, l4, l5⟩ := sv_list hs
      exact sv_sl.2 ⟨A, c, cs, rest, rfl, l1, l2, l3, l4, l5.shut (enc_shut _)⟩
    · cases hk
  · refine ⟨_, _, hk, .refl _, id, fun C N M π' ρ a _ _ hs => ?_⟩
    rw [sv_nil.1 hs]
    exact sv_sl.2 ⟨none, 0, [], [], rfl, Nat.le_refl _, Nat.zero_le _, Nat.zero_le _, fun _ => ⟨rfl, rfl⟩, .none⟩
  · split at hk
    · rename_i e; subst e
      refine ⟨_, _, hk, .refl _, id, fun C N M π' ρ a _ _ hs => ?_⟩
      exact SVs.shut ((Wk.spare _ _ _).sv hs) (by intro v hv; simp at hv; subst hv; rfl)
    · cases hk
  · split at hk
    · rename_i e; subst e
      exact ⟨_, _, hk, .refl _, id, fun C N M π' ρ a _ _ hs => SVs.shut hs (by intro v hv; simp at hv; subst hv; rfl)⟩
    · cases hk
  · exact ⟨_, _, hk, .refl _, id, fun C N M π' ρ a _ _ hs => SVs.shut ((Wk.nilx _).sv hs) (by intro v hv; simp [Cs.st] at hv; subst hv; rfl)⟩
  · split at hk
    · rename_i e; subst e
      obtain ⟨π1, h1, h2, h3, h4⟩ := pbind_sound hk
      refine ⟨_, _, h1, h2, h4, fun C N M π' ρ a hp hM hs => ?_⟩
      obtain ⟨rfl, _, h5⟩ := sv_own.1 hs
      obtain ⟨A, c, cs, rest, ea, l1, l2, l3, l4, l5⟩ := sv_sl.1 h5
      have hl := hp _ _ h3
      exact sv_own.2 ⟨by unfold pasg; rw [hl], hM _ _ hl, sv_sl.2 ⟨A, c, cs, rest, ea, l1, l2, l3, l4, l5.shut (enc_shut _)⟩⟩
    · cases hk
  · obtain ⟨π1, h1, h2, h3, h4⟩ := pbind_sound hk
    refine ⟨_, _, h1, h2, h4, fun C N M π' ρ a hp hM hs => ?_⟩
    rw [sv_nil.1 hs]
    have hl := hp _ _ h3
    exact sv_own.2 ⟨by unfold pasg; rw [hl], hM _ _ hl, sv_sl.2 ⟨none, 0, [], [], rfl, Nat.le_refl _, Nat.zero_le _, Nat.zero_le _, fun _ => ⟨rfl, rfl⟩, .none⟩⟩
  · rename_i i o j o' k'
    cases hb : Nat.beq o o'
    · rw [hb] at hk; cases hk
    rw [hb] at hk
    have ho := Nat.eq_of_beq_eq_true hb
    subst ho
    obtain ⟨π1, h1, h2, h3, h4⟩ := pbind_sound (A := A) hk
    refine ⟨_, _, h1, h2, h4, fun C N M π' ρ a hp hM hs => ?_⟩
    obtain ⟨b, rfl, h5, h6⟩ := sv_ptr.1 hs
    have hl := hp _ _ h3
    exact sv_ptr.2 ⟨b, rfl, hM _ _ hl, by unfold pasg; rw [hl]; exact h6⟩
  · rename_i i j k'
    obtain ⟨π1, h1, h2, h3, h4⟩ := pbind_sound (A := A) hk
    refine ⟨_, _, h1, h2, h4, fun C N M π' ρ a hp hM hs => ?_⟩
    obtain ⟨b, rfl, h5, h6⟩ := sv_mo.1 hs
    have hl := hp _ _ h3
    exact sv_mo.2 ⟨b, rfl, hM _ _ hl, by unfold pasg; rw [hl]; exact h6⟩
  · exact ⟨_, _, hk, .refl _, id, fun C N M π' ρ a _ _ hs => by rw [sv_nilptr.1 hs]; exact sv_nilptr.2 rfl⟩
  · exact ⟨_, _, hk, .refl _, id, fun C N M π' ρ a _ _ hs => by rw [sv_nil.1 hs]; exact sv_nil.2 rfl⟩
  · rename_i f f' k'
    cases hb : Nat.beq f f'
    · rw [hb] at hk; cases hk
    rw [hb] at hk
    have ho := Nat.eq_of_beq_eq_true hb
    subst ho
    exact ⟨_, _, hk, .refl _, id, fun C N M π' ρ a _ _ hs => by rw [sv_fn.1 hs]; exact sv_fn.2 rfl⟩
  · rename_i E i E' j lo n c k'
    cases hb : Nat.beq E' E
    · rw [hb] at hk; cases hk
    rw [hb] at hk
    have ho := Nat.eq_of_beq_eq_true hb
    subst ho
    obtain ⟨π1, h1, h2, h3, h4⟩ := pbind_sound (A := A) hk
    refine ⟨_, _, h1, h2, h4, fun C N M π' ρ a hp hM hs => ?_⟩
    have hl := hp _ _ h3
    rcases sv_as.1 hs with ⟨ad, c', rfl, hA⟩ | ⟨rfl, hn0, hiN, hρi, hco⟩
    · obtain ⟨b, q1, q2⟩ := hA.at_
      exact sv_as.2 (.inl ⟨ad, c', rfl, hM _ _ hl, hA.le, hA.max, hA.len, ⟨b, by unfold pasg; rw [hl]; exact q1, q2⟩, hA.cap⟩)
    · exact sv_as.2 (.inr ⟨rfl, hn0, hM _ _ hl, by unfold pasg; rw [hl]; exact hρi, hco⟩)
  · rename_i E i E' j lo n c k'
    cases hb : Nat.beq E' E
    · rw [hb] at hk; cases hk
    rw [hb] at hk
    have ho := Nat.eq_of_beq_eq_true hb
    subst ho
    obtain ⟨π1, h1, h2, h3, h4⟩ := pbind_sound (A := A) hk
    refine ⟨_, _, h1, h2, h4, fun C N M π' ρ a hp hM hs => ?_⟩
    have hl := hp _ _ h3
    rcases sv_as.1 hs with ⟨ad, c', rfl, hA⟩ | ⟨rfl, hn0, hiN, hρi, hco⟩
    · obtain ⟨b, q1, q2⟩ := hA.at_
      exact sv_as.2 (.inl ⟨ad, c', rfl, hM _ _ hl, hA.le, hA.max, hA.len, ⟨b, by unfold pasg; rw [hl]; exact q1, q2⟩, fun c'' hc => by cases hc⟩)
    · exact sv_as.2 (.inr ⟨rfl, hn0, hM _ _ hl, by unfold pasg; rw [hl]; exact hρi, fun c'' hc => by cases hc⟩)
  · rename_i E i E' j lo n c k'
    cases hb : (Nat.beq E' E && Nat.beq lo 0)
    · rw [hb] at hk; cases hk
    rw [hb] at hk
    simp only [Bool.and_eq_true] at hb
    obtain ⟨hb, hb2⟩ := hb
    have ho := Nat.eq_of_beq_eq_true hb
    have ho2 := Nat.eq_of_beq_eq_true hb2
    subst ho ho2
    obtain ⟨π1, h1, h2, h3, h4⟩ := pbind_sound (A := A) hk
    refine ⟨_, _, h1, h2, h4, fun C N M π' ρ a hp hM hs => ?_⟩
    have hl := hp _ _ h3
    rcases sv_as.1 hs with ⟨ad, c', rfl, hA⟩ | ⟨rfl, hn0, hiN, hρi, hco⟩
    · obtain ⟨b, q1, q2⟩ := hA.at_
      exact sv_as.2 (.inl ⟨ad, c', rfl, hM _ _ hl, hA.le, hA.max, hA.len, ⟨b, by unfold pasg; rw [hl]; exact q1, q2⟩, fun c'' hc => by cases hc⟩)
    · exact sv_as.2 (.inr ⟨rfl, hn0, hM _ _ hl, by unfold pasg; rw [hl]; exact hρi, fun c'' hc => by cases hc⟩)
  · obtain ⟨π1, h1, h2, h3, h4⟩ := pbind_sound hk
    refine ⟨_, _, h1, h2, h4, fun C N M π' ρ a hp hM hs => ?_⟩
    have hl := hp _ _ h3
    exact nil_as hs hl (hM _ _ hl) (fun c' hc => by injection hc)
  · obtain ⟨π1, h1, h2, h3, h4⟩ := pbind_sound hk
    refine ⟨_, _, h1, h2, h4, fun C N M π' ρ a hp hM hs => ?_⟩
    have hl := hp _ _ h3
    exact nil_as hs hl (hM _ _ hl) (fun c' hc => by cases hc)
  · obtain ⟨π1, h1, h2, h3, h4⟩ := pbind_sound hk
    refine ⟨_, _, h1, h2, h4, fun C N M π' ρ a hp hM hs => ?_⟩
    have hl := hp _ _ h3
    exact nil_as hs hl (hM _ _ hl) (fun c' hc => by cases hc)
  · rename_i f ps f' qs k'
    cases hb : Nat.beq f f'
    · rw [hb] at hk; cases hk
    rw [hb] at hk
    have ho := Nat.eq_of_beq_eq_true hb
    subst ho
    obtain ⟨π1, h1, h2, h3, h4⟩ := pbinds_sound (A := A) hk
    refine ⟨_, _, h1, h2, h3, fun C N M π' ρ a hp hM hs => ?_⟩
    obtain ⟨bs, rfl, h5⟩ := sv_clo.1 hs
    exact sv_clo.2 ⟨bs, rfl, h4 π' ρ N M bs hp hM h5⟩
  · rename_i i c n j c' l k'
    cases hb : Nat.beq c c'
    · rw [hb] at hk; cases hk
    rw [hb] at hk
    have ho := Nat.eq_of_beq_eq_true hb
    subst ho
    have hk : (pbind π i (some j) fun π => rdN n l fun d => k' d π) = some z := hk
    obtain ⟨π1, h1, h2, h3, h4⟩ := pbind_sound (A := A) hk
    obtain ⟨dd, h5, h6⟩ := rdN_sound h1
    refine ⟨dd, _, h5, h2, h4, fun C N M π' ρ a hp hM hs => ?_⟩
    obtain ⟨g1, g2⟩ := sv_gv.1 hs
    have hl := hp _ _ h3
    show SV C M (pasg π' ρ) (.gv i c (ndl n dd)) _
    rw [h6]
    exact sv_gv.2 ⟨hM _ _ hl, by unfold pasg; rw [hl]; exact g2⟩
  · exact ⟨_, _, hk, .refl _, id, fun C N M π' ρ a _ _ hs => sv_junk⟩
  · cases hk
def ReadsL (C : Codec T) (N M : Nat) (π : Pi) (v u : List (XV T)) : Prop := ∀ π' ρ as_, PLe π π' → (∀ i x, plook π' i = some x → i < M) → SVs C N ρ v as_ → SVs C M (pasg π' ρ) u as_
theorem ReadsL.more {v u : List (XV T)} (h : ReadsL C N M π v u) (hp : PLe π π') : ReadsL C N M π' v u := fun π'' ρ a h1 h2 h3 => h π'' ρ a (hp.trans h1) h2 h3
theorem cs_rds : ∀ {l : List Cs} {vs : List (XV T)} {π : Pi} {k : CsD T l → Pi → Option A}, rdCs l vs π k = some z → ∃ d π', k d π' = some z ∧ PLe π π' ∧ (Inj π → Inj π') ∧ ∀ (C : Codec T) N M, ReadsL C N M π' vs (stCs l d)
  | [], [], π, k, hk => ⟨_, _, hk, .refl _, id, fun C N M π' ρ as_ _ _ hs => by rw [SVs_nil.1 hs]; exact .none⟩
  | c :: l, v :: vs, π, k, hk => by
    obtain ⟨d, π1, h1, h2, h3, h4⟩ := cs_rd hk
    obtain ⟨ds, π2, g1, g2, g3, g4⟩ := cs_rds h1
    refine ⟨_, _, g1, h2.trans g2, fun hI => g3 (h3 hI), fun C N M π' ρ as_ hp hM hs => ?_⟩
    obtain ⟨a, bs, rfl, s1, s2⟩ := hs.to
    exact .cons (h4 C N M π' ρ a (g2.trans hp) hM s1) (g4 C N M π' ρ bs hp hM s2)
  | [], _ :: _, π, k, hk => by cases hk
  | _ :: _, [], π, k, hk => by cases hk
theorem vs_rd {s : Vs} {v : XV T} {k : s.D T → Pi → Option A} (hk : s.rd C v π k = some z) : ∃ d π', k d π' = some z ∧ PLe π π' ∧ (Inj π → Inj π') ∧ ∀ N M, Reads C N M π' v (s.st C d) := by
  cases s with
  | one c =>
    obtain ⟨d, π1, h1, h2, h3, h4⟩ := cs_rd (c := c) hk
    exact ⟨d, π1, h1, h2, h3, h4 C⟩
  | agg l =>
    unfold Vs.rd at hk
    dsimp only at hk
    split at hk
    · obtain ⟨d, π1, h1, h2, h3, h4⟩ := cs_rds hk
      refine ⟨d, π1, h1, h2, h3, fun N M π' ρ a hp hM hs => ?_⟩
      obtain ⟨ls, rfl, hl⟩ := sv_agg.1 hs
      exact sv_agg.2 ⟨ls, rfl, h4 C N M π' ρ ls hp hM hl⟩
    · cases hk
  | cod E =>
    unfold Vs.rd at hk
    dsimp only at hk
    split at hk
    · rename_i vs
      cases hd : C.dec E vs with
      | none => rw [hd] at hk; cases hk
      | some x =>
        rw [hd] at hk
        refine ⟨x, π, hk, .refl _, id, fun N M π' ρ a hp hM hs => ?_⟩
        obtain ⟨ls, rfl, hl⟩ := sv_agg.1 hs
        exact sv_agg.2 ⟨ls, rfl, (Wks.sv (C.back E _ _ hd) hl).shut (C.shut E x)⟩
    · cases hk
  | vl l =>
    unfold Vs.rd at hk
    dsimp only at hk
    split at hk
    · obtain ⟨d, π1, h1, h2, h3, h4⟩ := cs_rds hk
      refine ⟨d, π1, h1, h2, h3, fun N M π' ρ a hp hM hs => ?_⟩
      obtain ⟨A, c, ls, rest, rfl, l1, l2, l3, l4, hl⟩ := sv_vl.1 hs
      have hq := h4 C N M π' ρ ls hp hM hl
      have e : (stCs l d).length = _ := hq.len.symm.trans hl.len
      refine sv_vl.2 ⟨A, c, ls, rest, by rw [e], by rw [e]; exact l1, l2, by rw [e]; exact l3, by rw [e]; exact l4, hq⟩
    · cases hk
  | ce l => cases hk
theorem vs_rds : ∀ {l : List Vs} {vs : List (XV T)} {π : Pi} {k : VsD T l → Pi → Option A}, rdVs C l vs π k = some z → ∃ d π', k d π' = some z ∧ PLe π π' ∧ (Inj π → Inj π') ∧ ∀ N M, ReadsL C N M π' vs (stVs C l d)
  | [], [], π, k, hk => ⟨_, _, hk, .refl _, id, fun N M π' ρ as_ _ _ hs => by rw [SVs_nil.1 hs]; exact .none⟩
  | c :: l, v :: vs, π, k, hk => by
    obtain ⟨d, π1, h1, h2, h3, h4⟩ := vs_rd hk
    obtain ⟨ds, π2, g1, g2, g3, g4⟩ := vs_rds h1
    refine ⟨_, _, g1, h2.trans g2, fun hI => g3 (h3 hI), fun N M π' ρ as_ hp hM hs => ?_⟩
    obtain ⟨a, bs, rfl, s1, s2⟩ := hs.to
    exact .cons (h4 N M π' ρ a (g2.trans hp) hM s1) (g4 N M π' ρ bs hp hM s2)
  | [], _ :: _, π, k, hk => by cases hk
  | _ :: _, [], π, k, hk => by cases hk
theorem rs_rd {s : Rs} {v : XV T} {k : s.D T → Pi → Option A} (hk : s.rd C v π k = some z) : ∃ d π', k d π' = some z ∧ PLe π π' ∧ (Inj π → Inj π') ∧ ∀ N M, Reads C N M π' v (s.st C d) := by
  cases s with
  | val s => exact vs_rd (s := s) hk
  | tup l =>
    unfold Rs.rd at hk
    dsimp only at hk
    split at hk
    · obtain ⟨d, π1, h1, h2, h3, h4⟩ := vs_rds hk
      refine ⟨d, π1, h1, h2, h3, fun N M π' ρ a hp hM hs => ?_⟩
      obtain ⟨ls, rfl, hl⟩ := sv_tup.1 hs
      exact sv_tup.2 ⟨ls, rfl, h4 N M π' ρ ls hp hM hl⟩
    · cases hk
/-- An item read so. -/
def ReadsH (C : Codec T) (M : Nat) (π : Pi) (h : List (HI T)) (i : Nat) (u : HI T) : Prop := ∀ π' ρ σ, PLe π π' → (∀ i x, plook π' i = some x → i < M) → Hp C ρ h σ →
  SH C M (pasg π' ρ) σ i u ∧ (u.alive = true → ∀ b, (pasg π' ρ i).owns b → ∃ j x, plook π' i = some (some j) ∧ h[j]? = some x ∧ x.alive = true ∧ (ρ j).owns b)
theorem hs_rd {x : Hs} {i : Nat} {k : x.D T → Pi → Option A} (hk : x.rd C i h π k = some z) : ∃ d π', k d π' = some z ∧ PLe π π' ∧ (Inj π → Inj π') ∧ ((x.st C d).alive = true → ∃ w, plook π' i = some w) ∧ ∀ M, ReadsH C M π' h i (x.st C d) := by
  cases x with
  | obj t l =>
    unfold Hs.rd at hk
    dsimp only at hk
    split at hk
    · rename_i j hj
      split at hk
      · rename_i t' cs hg
        cases hb : Nat.beq t t'
        · rw [hb] at hk; cases hk
        rw [hb] at hk
        have ht := Nat.eq_of_beq_eq_true hb
        subst ht
        obtain ⟨d, π1, h1, h2, h3, h4⟩ := cs_rds (A := A) hk
        refine ⟨d, π1, h1, h2, h3, fun _ => ⟨_, h2 _ _ hj⟩, fun M π' ρ σ hp hM H => ⟨?_, fun _ b hb' => ?_⟩⟩
        · have hl := hp _ _ (h2 _ _ hj)
          obtain ⟨b, acs, e1, e2, e3, e4⟩ := H.it j _ hg
          exact ⟨b, acs, by unfold pasg; rw [hl]; exact e1, e2, e3, h4 C _ M π' ρ acs hp hM e4⟩
        · have hl := hp _ _ (h2 _ _ hj)
          unfold pasg at hb'
          rw [hl] at hb'
          exact ⟨j, _, hl, hg, rfl, hb'⟩
      · cases hk
    · cases hk
  | cobj t E =>
    unfold Hs.rd at hk
    dsimp only at hk
    split at hk
    · rename_i j hj
      split at hk
      · rename_i t' cs hg
        cases hb : Nat.beq t t'
        · rw [hb] at hk; cases hk
        rw [hb] at hk
        have ht := Nat.eq_of_beq_eq_true hb
        subst ht
        cases hd : C.dec E cs with
        | none => rw [hd] at hk; cases hk
        | some x =>
          rw [hd] at hk
          refine ⟨x, π, hk, .refl _, id, fun _ => ⟨_, hj⟩, fun M π' ρ σ hp hM H => ⟨?_, fun _ b hb' => ?_⟩⟩
          · have hl := hp _ _ hj
            obtain ⟨b, acs, e1, e2, e3, e4⟩ := H.it j _ hg
            exact ⟨b, acs, by unfold pasg; rw [hl]; exact e1, e2, e3, (Wks.sv (C.back E _ _ hd) e4).shut (C.shut E x)⟩
          · have hl := hp _ _ hj
            unfold pasg at hb'
            rw [hl] at hb'
            exact ⟨j, _, hl, hg, rfl, hb'⟩
      · cases hk
    · cases hk
  | arr e E kp =>
    unfold Hs.rd at hk
    dsimp only at hk
    split at hk
    · rename_i j hj
      split at hk
      · rename_i e' E' kp' xs hg
        cases hb : Nat.beq e e'
        · rw [hb] at hk; cases hk
        rw [hb] at hk
        have ht := Nat.eq_of_beq_eq_true hb
        subst ht
        simp only [cond_true] at hk
        split at hk
        · rename_i hE
          subst hE
          refine ⟨xs, π, hk, .refl _, id, fun _ => ⟨_, hj⟩, fun M π' ρ σ hp hM H => ⟨?_, fun _ b hb' => ?_⟩⟩
          · have hl := hp _ _ hj
            have e : pasg π' ρ i = ρ j := by unfold pasg; rw [hl]
            have := H.it j _ hg
            unfold SH at this ⊢
            rw [e]
            exact this
          · have hl := hp _ _ hj
            unfold pasg at hb'
            rw [hl] at hb'
            exact ⟨j, _, hl, hg, rfl, hb'⟩
        · cases hk
      · cases hk
    · rename_i hj
      refine ⟨[], π, hk, .refl _, id, fun _ => ⟨_, hj⟩, fun M π' ρ σ hp hM H => ⟨?_, fun _ b hb' => ?_⟩⟩
      · have hl := hp _ _ hj
        exact .inr ⟨by unfold pasg; rw [hl], rfl⟩
      · have hl := hp _ _ hj
        unfold pasg at hb'
        rw [hl] at hb'
        cases hb'
    · cases hk
  | mmap K V =>
    unfold Hs.rd at hk
    dsimp only at hk
    split at hk
    · rename_i j hj
      split at hk
      · rename_i K' V' es hg
        split at hk
        · rename_i hE
          obtain ⟨e1, e2⟩ := hE
          subst e1 e2
          refine ⟨es, π, hk, .refl _, id, fun _ => ⟨_, hj⟩, fun M π' ρ σ hp hM H => ⟨?_, fun _ b hb' => ?_⟩⟩
          · have hl := hp _ _ hj
            obtain ⟨b, q1, q2, q3⟩ := H.it j _ hg
            exact ⟨b, by unfold pasg; rw [hl]; exact q1, q2, q3⟩
          · have hl := hp _ _ hj
            unfold pasg at hb'
            rw [hl] at hb'
            exact ⟨j, _, hl, hg, rfl, hb'⟩
        · cases hk
      · cases hk
    · cases hk
  | lobj t l =>
    unfold Hs.rd at hk
    dsimp only at hk
    split at hk
    · rename_i j hj
      split at hk
      · rename_i t' cs hg
        cases hb : Nat.beq t t'
        · rw [hb] at hk; cases hk
        rw [hb] at hk
        have ht := Nat.eq_of_beq_eq_true hb
        subst ht
        obtain ⟨d, π1, h1, h2, h3, h4⟩ := cs_rds (A := A) hk
        refine ⟨d, π1, h1, h2, h3, fun _ => ⟨_, h2 _ _ hj⟩, fun M π' ρ σ hp hM H => ⟨?_, fun _ b hb' => ?_⟩⟩
        · have hl := hp _ _ (h2 _ _ hj)
          obtain ⟨b, acs, e1, e2, e3, e4⟩ := H.it j _ hg
          exact ⟨b, acs, by unfold pasg; rw [hl]; exact e1, e2, e3, h4 C _ M π' ρ acs hp hM e4⟩
        · have hl := hp _ _ (h2 _ _ hj)
          unfold pasg at hb'
          rw [hl] at hb'
          exact ⟨j, _, hl, hg, rfl, hb'⟩
      · cases hk
    · cases hk
  | lmap K V =>
    unfold Hs.rd at hk
    dsimp only at hk
    split at hk
    · rename_i j hj
      split at hk
      · rename_i K' V' es hg
        split at hk
        · rename_i hE
          obtain ⟨e1, e2⟩ := hE
          subst e1 e2
          refine ⟨es, π, hk, .refl _, id, fun _ => ⟨_, hj⟩, fun M π' ρ σ hp hM H => ⟨?_, fun _ b hb' => ?_⟩⟩
          · have hl := hp _ _ hj
            obtain ⟨b, q1, q2, q3⟩ := H.it j _ hg
            exact ⟨b, by unfold pasg; rw [hl]; exact q1, q2, q3⟩
          · have hl := hp _ _ hj
            unfold pasg at hb'
            rw [hl] at hb'
            exact ⟨j, _, hl, hg, rfl, hb'⟩
        · cases hk
      · cases hk
    · cases hk
  | gen E kp =>
    unfold Hs.rd at hk
    dsimp only at hk
    split at hk
    · rename_i j hj
      split at hk
      · rename_i E' x hg
        split at hk
        · rename_i hE
          subst hE
          refine ⟨x, π, hk, .refl _, id, fun _ => ⟨_, hj⟩, fun M π' ρ σ hp hM H => ⟨?_, fun _ b hb' => ?_⟩⟩
          · have hl := hp _ _ hj
            have e : pasg π' ρ i = ρ j := by unfold pasg; rw [hl]
            have := H.it j _ hg
            unfold SH at this ⊢
            rw [e]
            exact this
          · have hl := hp _ _ hj
            unfold pasg at hb'
            rw [hl] at hb'
            exact ⟨j, _, hl, hg, rfl, hb'⟩
        · cases hk
      · cases hk
    · cases hk
  | row e sz =>
    unfold Hs.rd at hk
    dsimp only at hk
    split at hk
    · rename_i j hj
      split at hk
      · rename_i e' sz' hg
        cases hb : (Nat.beq e e' && Nat.beq sz sz')
        · rw [hb] at hk; cases hk
        rw [hb] at hk
        simp only [Bool.and_eq_true] at hb
        have h1 := Nat.eq_of_beq_eq_true hb.1
        have h2 := Nat.eq_of_beq_eq_true hb.2
        subst h1 h2
        refine ⟨(), π, hk, .refl _, id, fun _ => ⟨_, hj⟩, fun M π' ρ σ hp hM H => ⟨?_, fun _ b hb' => ?_⟩⟩
        · have hl := hp _ _ hj
          obtain ⟨n, cells, ho⟩ := H.it j _ hg
          exact ⟨n, cells, by unfold pasg; rw [hl]; exact ho⟩
        · have hl := hp _ _ hj
          unfold pasg at hb'
          rw [hl] at hb'
          exact ⟨j, _, hl, hg, rfl, hb'⟩
      · cases hk
    · rename_i hj
      refine ⟨(), π, hk, .refl _, id, fun _ => ⟨_, hj⟩, fun M π' ρ σ hp hM H => ⟨?_, fun _ b hb' => ?_⟩⟩
      · have hl := hp _ _ hj
        exact ⟨0, [], by unfold pasg; rw [hl]; exact ⟨by simp, .inl ⟨rfl, rfl⟩⟩⟩
      · have hl := hp _ _ hj
        unfold pasg at hb'
        rw [hl] at hb'
        cases hb'
    · cases hk
  | dead => exact ⟨(), π, hk, .refl _, id, (fun h => by cases h), fun M π' ρ σ hp hM H => ⟨trivial, fun h => by cases h⟩⟩
theorem hs_rds : ∀ {l : List Hs} {i : Nat} {π : Pi} {k : HsD T l → Pi → Option A}, rdHs C h i l π k = some z → ∃ d π', k d π' = some z ∧ PLe π π' ∧ (Inj π → Inj π') ∧ ∀ M j x, (stHs C l d)[j]? = some x → (x.alive = true → ∃ w, plook π' (i + j) = some w) ∧ ReadsH C M π' h (i + j) x
  | [], i, π, k, hk => ⟨(), π, hk, .refl _, id, fun M j x hx => by simp [stHs] at hx⟩
  | x :: l, i, π, k, hk => by
    obtain ⟨d, π1, h1, h2, h3, h5, h4⟩ := hs_rd hk
    obtain ⟨ds, π2, g1, g2, g3, g4⟩ := hs_rds h1
    refine ⟨(d, ds), π2, g1, h2.trans g2, fun hI => g3 (h3 hI), fun M j y hy => ?_⟩
    cases j with
    | zero =>
      simp [stHs] at hy
      subst hy
      exact ⟨fun ha => (h5 ha).elim fun w hw => ⟨w, g2 _ _ hw⟩, fun π' ρ σ hp hM H => h4 M π' ρ σ (g2.trans hp) hM H⟩
    | succ j =>
      simp [stHs] at hy
      have := g4 M j y hy
      rwa [show i + 1 + j = i + (j + 1) from by omega] at this
theorem stHs_len : ∀ (l : List Hs) (d : HsD T l), (stHs C l d).length = l.length
  | [], _ => rfl
  | x :: l, d => by simp [stHs, stHs_len l d.2]
end
end Go.Proofs.YtmffcfjdacoigaaGreat
