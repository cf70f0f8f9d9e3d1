/- XX7, XX8, XX9, XX10, XX11, XX12, XX13, XX14, XX15, XX16 in one. -/
import Derived.Test.YtinpiaibhjmfaaaMb
namespace Go.Proofs.Ytinpiaibhjmfaaa
open Go.RowKit
set_option linter.unusedSimpArgs false
set_option maxRecDepth 100000
set_option linter.unusedVariables false
variable {T : Nat -> Type} {A : Type}
section
variable {U : Nat -> Prop} {C : Zbg T} {N : Nat} {ρ : Nat -> AV} {P : Program} {h : List (HI T)} {d : Option Nat} {ty t : TypeId} {pos : String} {af : Array Edge} {g : Option (Nat × Bool)} {z : A} {orc : Orc T A} {k : XV T -> List (HI T) -> Option A} {vs : List (XV T)}
end
end Go.Proofs.Ytinpiaibhjmfaaa
namespace Go.Proofs.Ytinpiaibhjmfaaa
open Go.RowKit
set_option maxRecDepth 100000
set_option linter.unusedVariables false
variable {T : Nat -> Type} {A : Type}
abbrev XE (T : Nat -> Type) := List (Nat × XV T)
def Zq9 (env : XE T) (d : Option Nat) (v : XV T) : XE T := match d with
 | some d => (d, v) :: env
 | none => env
structure DrA where
 order : List Nat
 anc : List (List Nat)
 lf : List Nat
 cf : List Nat
 keep : List Nat
 am : Bool
 ow : List Nat
section
variable (C : Zbg T) (P : Program) (tou : Tou T) (orc : Orc T A)
def Zqp (h : List (HI T)) (i : Nat) : Bool := match h[i]? with
 | some (.obj _ _) => true
 | some (.arr _ _ _ _) => true
 | some (.mmap _ _ _) => true
 | some (.gen _ _) => true
 | _ => false
def DrA.at_ (D : DrA) (h : List (HI T)) : DrA := ⟨D.order, D.anc, D.lf, D.cf, D.keep.filter (Zqp h), D.am, D.ow⟩
def Zgx : Code -> Nat
 | .region id _ _ => id
 | .seq a b => match a with
  | .skip => Zgx b
  | a => Zgx a
 | .block _ c => Zgx c
 | .loop c => Zgx c
 | .scope c => Zgx c
 | .cond _ a _ => Zgx a
 | _ => 0
abbrev XK (T : Nat -> Type) (A : Type) := Exit -> XE T -> List (HI T) -> Option A
abbrev Lps (T : Nat -> Type) (A : Type) := Nat -> XE T -> List (HI T) -> XK T A -> Option A
end
structure Sat (C : Zbg T) (ρ : Nat -> AV) (env : XE T) (h : List (HI T)) (e : Env) (σ : St) : Prop where
 env : ∀ i, SV C h.length ρ (Zof env i) (e i)
 hp : Hp C ρ h σ
def Zpp (C : Zbg T) (P : Program) (c : Code) (env : XE T) (h : List (HI T)) (ex : Exit) (env' : XE T) (h' : List (HI T)) : Prop :=
 ∀ O ρ e σ, Sat C ρ env h e σ -> Zay P O c (fun ex' e' σ' => ex' = ex /\ ∃ ρ', Sat C ρ' env' h' e' σ' /\ Rel (fun _ => True) ρ h σ ρ' h' σ') e σ
def Lps.Ok (C : Zbg T) (P : Program) (lps : Lps T A) (c : Code) : Prop := ∀ env h k z, lps (Zgx c) env h k = some z -> ∃ ex env' h', k ex env' h' = some z /\ Zpp C P (.loop c) env h ex env' h'
section
variable {C : Zbg T} {P : Program} {tou : Tou T} {orc : Orc T A} {ops : Array Oper} {env env' : XE T} {h h' : List (HI T)} {ρ ρ' : Nat -> AV} {e : Env} {σ τ : St} {z : A} {U : Nat -> Prop}
theorem Zio (t : Nat) (v : XV T) (env : XE T) (i : Nat) : Zof ((t, v) :: env) i = if t = i then v else Zof env i := by
 show (bif Nat.beq t i then v else Zof env i) = _
 by_cases hi : t = i
 ·subst hi; simp
 ·have : Nat.beq t i = false := by cases hb : Nat.beq t i <;> simp_all
  rw [this, if_neg hi]; rfl
theorem Sat.put (hs : Sat C ρ env h e σ) (hr : Rel U ρ h σ ρ' h' τ) (H : Hp C ρ' h' τ) {d : Option Nat} {v : XV T} {a : AV} (hv : SV C h'.length ρ' v a) : Sat C ρ' (Zq9 env d v) h' (e.put d a) τ := by
 refine ⟨fun i => ?_, H⟩
 have hi := (hs.env i).ext hr.len hr.ext
 cases d with
 | none => exact hi
 | some t =>
  show SV C h'.length ρ' (Zof ((t, v) :: env) i) (if i = t then a else e i)
  rw [Zio]
  by_cases ht : i = t
  ·subst ht; rw [if_pos rfl, if_pos rfl]; exact hv
  ·rw [if_neg ht, if_neg (fun x => ht x.symm)]; exact hi
theorem Sat.sub (hs : Sat C ρ env h e σ) {t : Nat} {b : Bool} (ht : Zof env t = .bool b) : Sat C ρ ((t, .bool b) :: env) h e σ := by
 refine ⟨fun i => ?_, hs.hp⟩
 rw [Zio]
 split
 ·rename_i hi
  subst hi
  rw [<- ht]; exact hs.env t
 ·exact hs.env i
theorem Zlk {N : Nat} {ρ : Nat -> AV} : ∀ bs : List UInt8, SVs C N ρ (bs.map fun b => XV.int .u8 (b.toNat : Int)) (bs.map fun u => AV.raw (.int .u8 (u.toNat : Int)))
 | [] => .none
 | b :: bs => .cons (ZaM.2 rfl) (Zlk bs)
end
end Go.Proofs.Ytinpiaibhjmfaaa
namespace Go.Proofs.Ytinpiaibhjmfaaa
open Go.RowKit
set_option maxRecDepth 100000
set_option linter.unusedVariables false
variable {T : Nat -> Type} {A : Type}
section
variable {C : Zbg T} {P : Program} {tou : Tou T} {orc : Orc T A} {ops : Array Oper} {env env' : XE T} {h h' : List (HI T)} {ρ ρ' : Nat -> AV} {e : Env} {σ τ : St} {z : A} {U : Nat -> Prop}
theorem ZmQ {o : Oper} {K K' : Env -> St -> Prop} (hk : ∀ e σ, K e σ -> K' e σ) (h : aOp P ops o e σ K) : aOp P ops o e σ K' := by
 unfold aOp at h ⊢
 split
 ·rename_i hw
  rw [if_pos hw] at h
  exact Zd7 (fun r τ => hk _ _) h
 ·rename_i hw
  rw [if_neg hw] at h
  exact hk _ _ h
theorem Zdu {K K' : Env -> St -> Prop} (hk : ∀ e σ, K e σ -> K' e σ) : ∀ {l : List Oper} {e : Env} {σ : St}, ZbV P ops l e σ K -> ZbV P ops l e σ K'
 | [], e, σ, h => hk _ _ h
 | o :: l, e, σ, h => h.imp (ZmQ (fun e σ h => Zdu hk h)) fun h => h.imp (fun ⟨hw, t, n, parts, te, sz, z, cells, h1, h2, h3, h4, h5, h6, h7, h8⟩ => ⟨hw, t, n, parts, te, sz, z, cells, h1, h2, h3, h4, h5, h6, h7, fun b g1 g2 => Zdu hk (h8 b g1 g2)⟩) fun h => h.imp (fun ⟨hw, t, t', x, te, bs, h1, h2, h3, h4, h5, h6, h7⟩ => ⟨hw, t, t', x, te, bs, h1, h2, h3, h4, h5, h6, fun b c g1 g2 g3 g4 => Zdu hk (h7 b c g1 g2 g3 g4)⟩) (fun ⟨hw, h1⟩ => ⟨hw, h1.mono fun r σ' h => Zdu hk h⟩)
theorem ZcL {O : Nat -> Prop} : ∀ {c : Code} {Q Q' : ZeA} {e : Env} {σ : St}, (∀ ex e σ, Q ex e σ -> Q' ex e σ) -> Zay P O c Q e σ -> Zay P O c Q' e σ
 | .skip, Q, Q', e, σ, hQ, h => hQ _ _ _ h
 | .region id ops false, Q, Q', e, σ, hQ, h => fun hK => by
  rcases h hK with h | ⟨G, h1, h2⟩
  ·exact .inl (Zdu (hQ .normal) h)
  ·exact .inr ⟨G, h1, fun σ' hT => Zdu (hQ .normal) (h2 σ' hT)⟩
 | .region id ops true, Q, Q', e, σ, hQ, h => fun hK => by
  have hm : ∀ {e σ}, Zg1 P ops e σ (Q .normal) -> Zg1 P ops e σ (Q' .normal) := fun ⟨a, b, c, d, f, g, h1, h2⟩ => ⟨a, b, c, d, f, g, h1, ZfA _ (hQ .normal) h2⟩
  rcases h hK with h | ⟨G, h1, h2⟩
  ·exact .inl (hm h)
  ·exact .inr ⟨G, h1, fun σ' hT => hm (h2 σ' hT)⟩
 | .seq a b, Q, Q', e, σ, hQ, h => ZcL (c := a) (fun ex e σ h => by
  cases ex with
  | normal => exact ZcL (c := b) hQ h
  | _ => exact hQ _ _ _ h) h
 | .cond c a b, Q, Q', e, σ, hQ, h => by
  obtain ⟨t, h1, h2, h3⟩ := h
  exact ⟨t, h1, fun ht => ZcL (c := a) hQ (h2 ht), fun ht => ZcL (c := b) hQ (h3 ht)⟩
 | .block id c, Q, Q', e, σ, hQ, h => ZcL (c := c) (fun ex e σ h => by
  cases ex with
  | exit id' => unfold Zfg at h ⊢; dsimp only at h ⊢; split <;> rename_i hi <;> (first | rw [if_pos hi] at h | rw [if_neg hi] at h) <;> exact hQ _ _ _ h
  | _ => exact hQ _ _ _ h) h
 | .loop c, Q, Q', e, σ, hQ, h => by
  obtain ⟨I, n, h1, h2⟩ := h
  exact ⟨I, n, h1, fun n e σ hI => ZcL (c := c) (fun ex e σ h => by
   cases ex with
   | normal => exact h
   | _ => exact hQ _ _ _ h) (h2 n e σ hI)⟩
 | .exit id, Q, Q', e, σ, hQ, h => hQ _ _ _ h
 | .scope c, Q, Q', e, σ, hQ, h => ZcL (c := c) (fun ex e σ h => by
  cases ex with
  | goto l => exact h
  | _ => exact hQ _ _ _ h) h
 | .ret, Q, Q', e, σ, hQ, h => hQ _ _ _ h
 | .rangeFunc .., Q, Q', e, σ, hQ, h => h.elim
 | .label .., Q, Q', e, σ, hQ, h => h.elim
 | .goto .., Q, Q', e, σ, hQ, h => h.elim
 | .refuse .., Q, Q', e, σ, hQ, h => h.elim
end
end Go.Proofs.Ytinpiaibhjmfaaa
namespace Go.Proofs.Ytinpiaibhjmfaaa
open Go.RowKit
set_option linter.unusedSimpArgs false
set_option maxRecDepth 100000
set_option linter.unusedVariables false
inductive Cs where
 | int (k : IntKind) | bool | str | sl (E : Nat) | slx (E : Nat) | own (E i : Nat) | ptr (i o : Nat) | nilptr | nil | fn (f : Nat) | as (E i : Nat) | asu (E i : Nat) | asz (E i : Nat) | clo (f : Nat) (ps : List Nat) | mp (E : Nat) (k : IntKind) | mo (i : Nat) | gv (i c n : Nat) | junk
inductive Vs where
 | one (c : Cs) | agg (l : List Cs) | cod (E : Nat) | vl (l : List Cs) | ce (l : List Cs)
inductive Rs where
 | val (v : Vs) | tup (l : List Vs)
inductive Hs where
 | obj (t : TypeId) (l : List Cs) | cobj (t : TypeId) (E : Nat) | row (e sz : Nat) | arr (e : TypeId) (E : Nat) (kp : Bool) | mmap (K V : MK) | lobj (t : TypeId) (l : List Cs) | lmap (K V : MK) | gen (E : Nat) (kp : Bool) | dead
@[reducible] def ND : Nat -> Type
 | 0 => Unit
 | n + 1 => Nat × ND n
def ndl : (n : Nat) -> ND n -> List Nat
 | 0, _ => []
 | n + 1, d => d.1 :: ndl n d.2
section
variable (T : Nat -> Type)
@[reducible] def Cs.D : Cs -> Type
 | .int _ => Int
 | .bool => Bool
 | .str => List UInt8
 | .sl E => List (T E)
 | .slx E => List (T E) × List (T E)
 | .own E _ => List (T E)
 | .as _ _ => Nat × Nat × Nat
 | .asu _ _ => Nat × Nat
 | .asz _ _ => Nat
 | .mp E _ => List (Int × List (T E))
 | .gv _ _ n => ND n
 | _ => Unit
@[reducible] def CsD : List Cs -> Type
 | [] => Unit
 | c :: l => c.D T × CsD l
@[reducible] def Vs.D : Vs -> Type
 | .one c => c.D T
 | .agg l => CsD T l
 | .cod E => T E
 | .vl l => CsD T l
 | .ce l => CsD T l
@[reducible] def VsD : List Vs -> Type
 | [] => Unit
 | v :: l => v.D T × VsD l
@[reducible] def Rs.D : Rs -> Type
 | .val v => v.D T
 | .tup l => VsD T l
@[reducible] def Hs.D : Hs -> Type
 | .obj _ l => CsD T l
 | .cobj _ E => T E
 | .arr _ E _ => List (T E)
 | .mmap K V => List (K.ty × V.ty)
 | .lobj _ l => CsD T l
 | .lmap K V => List (K.ty × V.ty)
 | .gen E _ => T E
 | _ => Unit
@[reducible] def HsD : List Hs -> Type
 | [] => Unit
 | x :: l => x.D T × HsD l
end
variable {T : Nat -> Type} {A : Type}
def Cs.st : (c : Cs) -> c.D T -> XV T
 | .int k, n => .int k n
 | .bool, b => .bool b
 | .str, s => .str s
 | .sl E, xs => .sl E xs none
 | .slx E, d => .slx E d.1 d.2
 | .own E i, xs => .sl E xs (some i)
 | .ptr i o, _ => .ptr i o
 | .nilptr, _ => .nilptr
 | .nil, _ => .nil
 | .fn f, _ => .fn f
 | .as E i, d => .as E i d.1 d.2.1 (some d.2.2)
 | .asu E i, d => .as E i d.1 d.2 none
 | .asz E i, d => .as E i 0 d none
 | .clo f ps, _ => .clo f ps
 | .mp E k, tb => .mp E k tb
 | .mo i, _ => .mo i
 | .gv i c n, d => .gv i c (ndl n d)
 | .junk, _ => .junk
def ZoU : (l : List Cs) -> CsD T l -> List (XV T)
 | [], _ => []
 | c :: l, d => c.st d.1 :: ZoU l d.2
def Vs.st (C : Zbg T) : (v : Vs) -> v.D T -> XV T
 | .one c, d => c.st d
 | .agg l, d => .agg (ZoU l d)
 | .cod E, x => .agg (C.enc E x)
 | .vl l, d => .vl (ZoU l d)
 | .ce l, d => .ce (ZoU l d)
def ZoV (C : Zbg T) : (l : List Vs) -> VsD T l -> List (XV T)
 | [], _ => []
 | v :: l, d => v.st C d.1 :: ZoV C l d.2
def Rs.st (C : Zbg T) : (r : Rs) -> r.D T -> XV T
 | .val v, d => v.st C d
 | .tup l, d => .tup (ZoV C l d)
def Hs.st (C : Zbg T) : (x : Hs) -> x.D T -> HI T
 | .obj t l, d => .obj t (ZoU l d)
 | .cobj t E, x => .obj t (C.enc E x)
 | .row e sz, _ => .row e sz
 | .arr e E kp, xs => .arr e E kp xs
 | .mmap K V, es => .mmap K V es
 | .lobj t l, d => .obj t (ZoU l d)
 | .lmap K V, es => .mmap K V es
 | .gen E _, x => .gen E x
 | .dead, _ => .dead
def ZmR (C : Zbg T) : (l : List Hs) -> HsD T l -> List (HI T)
 | [], _ => []
 | x :: l, d => x.st C d.1 :: ZmR C l d.2
abbrev Pi := List (Nat × Option Nat)
def ZeB : Pi -> Nat -> Option (Option Nat)
 | [], _ => none
 | (j, x) :: l, i => bif Nat.beq j i then some x else ZeB l i
def Zqq : Pi -> Nat -> Option Nat
 | [], _ => none
 | (i, some j) :: l, k => bif Nat.beq j k then some i else Zqq l k
 | (_, none) :: l, k => Zqq l k
def oeq : Option Nat -> Option Nat -> Bool
 | some a, some b => Nat.beq a b
 | none, none => true
 | _, _ => false
def Zqr (π : Pi) : Option Nat -> Bool
 | none => true
 | some j => (Zqq π j).isNone
def ZfY (π : Pi) (i : Nat) (j : Option Nat) (k : Pi -> Option A) : Option A := match ZeB π i with
 | some j' => cond (oeq j' j) (k π) none
 | none => cond (Zqr π j) (k ((i, j) :: π)) none
def ZnL : Pi -> List Nat -> List Nat -> (Pi -> Option A) -> Option A
 | π, [], [], k => k π
 | π, i :: ps, j :: qs, k => ZfY π i (some j) fun π => ZnL π ps qs k
 | _, _, _, _ => none
def rdN : (n : Nat) -> List Nat -> (ND n -> Option A) -> Option A
 | 0, [], k => k ()
 | n + 1, a :: l, k => rdN n l fun d => k (a, d)
 | _, _, _ => none
def Cs.rd (c : Cs) (v : XV T) (π : Pi) (k : c.D T -> Pi -> Option A) : Option A := match c, v with
 | .int kd, .int kd' n => if kd = kd' then k n π else none
 | .bool, .bool b => k b π
 | .str, .str s => k s π
 | .sl E, .sl E' xs _ => if h : E' = E then k (h ▸ xs) π else none
 | .sl E, .nil => k [] π
 | .sl E, .slx E' xs _ => if h : E' = E then k (h ▸ xs) π else none
 | .slx E, .slx E' xs ys => if h : E' = E then k (h ▸ xs, h ▸ ys) π else none
 | .slx E, .nil => k ([], []) π
 | .own E i, .sl E' xs (some r) => if h : E' = E then ZfY π i (some r) fun π => k (h ▸ xs) π else none
 | .own E i, .nil => ZfY π i none fun π => k [] π
 | .ptr i o, .ptr j o' => cond (Nat.beq o o') (ZfY π i (some j) fun π => k () π) none
 | .mo i, .mo j => ZfY π i (some j) fun π => k () π
 | .nilptr, .nilptr => k () π
 | .nil, .nil => k () π
 | .fn f, .fn f' => cond (Nat.beq f f') (k () π) none
 | .as E i, .as E' j lo n (some c) => cond (Nat.beq E' E) (ZfY π i (some j) fun π => k (lo, n, c) π) none
 | .asu E i, .as E' j lo n _ => cond (Nat.beq E' E) (ZfY π i (some j) fun π => k (lo, n) π) none
 | .asz E i, .as E' j lo n _ => cond (Nat.beq E' E && Nat.beq lo 0) (ZfY π i (some j) fun π => k n π) none
 | .as E i, .nil => ZfY π i none fun π => k (0, 0, 0) π
 | .asu E i, .nil => ZfY π i none fun π => k (0, 0) π
 | .asz E i, .nil => ZfY π i none fun π => k 0 π
 | .clo f ps, .clo f' qs => cond (Nat.beq f f') (ZnL π ps qs fun π => k () π) none
 | .gv i c n, .gv j c' l => cond (Nat.beq c c') (ZfY π i (some j) fun π => rdN n l fun d => k d π) none
 | .junk, _ => k () π
 | _, _ => none
def Zpq : (l : List Cs) -> List (XV T) -> Pi -> (CsD T l -> Pi -> Option A) -> Option A
 | [], [], π, k => k () π
 | c :: l, v :: vs, π, k => c.rd v π fun d π => Zpq l vs π fun ds π => k (d, ds) π
 | [], _ :: _, _, _ => none
 | _ :: _, [], _, _ => none
def Vs.rd (C : Zbg T) (s : Vs) (v : XV T) (π : Pi) (k : s.D T -> Pi -> Option A) : Option A := match s with
 | .one c => c.rd v π k
 | .agg l => match v with
  | .agg vs => Zpq l vs π k
  | _ => none
 | .cod E => match v with
  | .agg vs => (C.dec E vs).bind fun x => k x π
  | _ => none
 | .vl l => match v with
  | .vl vs => Zpq l vs π k
  | _ => none
 | .ce _ => none
def Zq0 (C : Zbg T) : (l : List Vs) -> List (XV T) -> Pi -> (VsD T l -> Pi -> Option A) -> Option A
 | [], [], π, k => k () π
 | s :: l, v :: vs, π, k => s.rd C v π fun d π => Zq0 C l vs π fun ds π => k (d, ds) π
 | [], _ :: _, _, _ => none
 | _ :: _, [], _, _ => none
def Rs.rd (C : Zbg T) (s : Rs) (v : XV T) (π : Pi) (k : s.D T -> Pi -> Option A) : Option A := match s with
 | .val s => s.rd C v π k
 | .tup l => match v with
  | .tup vs => Zq0 C l vs π k
  | _ => none
def Hs.rd (C : Zbg T) (x : Hs) (i : Nat) (h : List (HI T)) (π : Pi) (k : x.D T -> Pi -> Option A) : Option A := match x with
 | .obj t l => match ZeB π i with
  | some (some j) => match h[j]? with
   | some (.obj t' cs) => cond (Nat.beq t t') (Zpq l cs π k) none
   | _ => none
  | _ => none
 | .cobj t E => match ZeB π i with
  | some (some j) => match h[j]? with
   | some (.obj t' cs) => cond (Nat.beq t t') ((C.dec E cs).bind fun x => k x π) none
   | _ => none
  | _ => none
 | .row e sz => match ZeB π i with
  | some (some j) => match h[j]? with
   | some (.row e' sz') => cond (Nat.beq e e' && Nat.beq sz sz') (k () π) none
   | _ => none
  | some none => k () π
  | none => none
 | .arr e E _ => match ZeB π i with
  | some (some j) => match h[j]? with
   | some (.arr e' E' _ xs) => cond (Nat.beq e e') (if hE : E' = E then k (hE ▸ xs) π else none) none
   | _ => none
  | some none => k [] π
  | none => none
 | .mmap K V => match ZeB π i with
  | some (some j) => match h[j]? with
   | some (.mmap K' V' es) => if hE : K' = K /\ V' = V then k (hE.1 ▸ hE.2 ▸ es) π else none
   | _ => none
  | _ => none
 | .lobj t l => match ZeB π i with
  | some (some j) => match h[j]? with
   | some (.obj t' cs) => cond (Nat.beq t t') (Zpq l cs π k) none
   | _ => none
  | _ => none
 | .lmap K V => match ZeB π i with
  | some (some j) => match h[j]? with
   | some (.mmap K' V' es) => if hE : K' = K /\ V' = V then k (hE.1 ▸ hE.2 ▸ es) π else none
   | _ => none
  | _ => none
 | .gen E _ => match ZeB π i with
  | some (some j) => match h[j]? with
   | some (.gen E' x) => if hE : E' = E then k (hE ▸ x) π else none
   | _ => none
  | _ => none
 | .dead => k () π
def PLe (π π' : Pi) : Prop := ∀ i x, ZeB π i = some x -> ZeB π' i = some x
def Zq1 (π : Pi) (ρ : Nat -> AV) (i : Nat) : AV := match ZeB π i with
 | some (some j) => ρ j
 | _ => .lst none 0 0 []
section
variable {C : Zbg T} {ρ : Nat -> AV} {π π' π'' : Pi} {N M : Nat} {z : A} {h : List (HI T)} {σ : St}
theorem PLe.refl (π : Pi) : PLe π π := fun _ _ h => h
theorem PLe.trans (h : PLe π π') (k : PLe π' π'') : PLe π π'' := fun i x hx => k i x (h i x hx)
def Zog (C : Zbg T) (N M : Nat) (π : Pi) (v u : XV T) : Prop := ∀ π' ρ a, PLe π π' -> (∀ i x, ZeB π' i = some x -> i < M) -> SV C N ρ v a -> SV C M (Zq1 π' ρ) u a
theorem Zog.more {v u : XV T} (h : Zog C N M π v u) (hp : PLe π π') : Zog C N M π' v u := fun π'' ρ a h1 h2 h3 => h π'' ρ a (hp.trans h1) h2 h3
def Zll (C : Zbg T) (N M : Nat) (π : Pi) (v u : List (XV T)) : Prop := ∀ π' ρ as_, PLe π π' -> (∀ i x, ZeB π' i = some x -> i < M) -> SVs C N ρ v as_ -> SVs C M (Zq1 π' ρ) u as_
theorem Zll.more {v u : List (XV T)} (h : Zll C N M π v u) (hp : PLe π π') : Zll C N M π' v u := fun π'' ρ a h1 h2 h3 => h π'' ρ a (hp.trans h1) h2 h3
end
end Go.Proofs.Ytinpiaibhjmfaaa
namespace Go.Proofs.Ytinpiaibhjmfaaa
open Go.RowKit
set_option maxRecDepth 100000
set_option linter.unusedVariables false
variable {T : Nat -> Type} {A : Type}
def Zqs (f : Nat -> Option Nat) : XV T -> XV T
 | .sl E xs (some i) => .sl E xs (f i)
 | .ptr i o => match f i with
  | some j => .ptr j o
  | none => .junk
 | .mo i => match f i with
  | some j => .mo j
  | none => .junk
 | .gv i c l => match f i with
  | some j => .gv j c l
  | none => .junk
 | .as E i lo n co => match f i with
  | some j => .as E j lo n co
  | none => .junk
 | .ap E i k o => match f i with
  | some j => .ap E j k o
  | none => .junk
 | .clo g ps => match ps.mapM f with
  | some qs => .clo g qs
  | none => .junk
 | .agg _ => .junk
 | .tup _ => .junk
 | .vl _ => .junk
 | .ce _ => .junk
 | v => v
def ren2 (f : Nat -> Option Nat) : XV T -> XV T
 | .agg l => .agg (l.map (Zqs f))
 | v => Zqs f v
def Zra (f : Nat -> Option Nat) : HI T -> HI T
 | .obj t cs => .obj t (cs.map (Zqs f))
 | x => x
def pf (π : Pi) (n N i : Nat) : Option Nat := cond (Nat.blt i n) (match ZeB π i with | some x => x | none => none) (some (N + (i - n)))
def Zoh (π : Pi) (j : Nat) : Nat -> Option Nat
 | 0 => none
 | n + 1 => match ZeB π n with
  | some (some j') => cond (Nat.beq j' j) (some n) (Zoh π j n)
  | _ => Zoh π j n
section
variable {C : Zbg T} {ρ ρ' ρt : Nat -> AV} {π π' π'' : Pi} {n N : Nat} {z : A} {h ht : List (HI T)} {σ τ : St} {f : Nat -> Option Nat}
end
end Go.Proofs.Ytinpiaibhjmfaaa
namespace Go.Proofs.Ytinpiaibhjmfaaa
open Go.RowKit
set_option linter.unusedSimpArgs false
set_option maxRecDepth 100000
set_option linter.unusedVariables false
variable {T : Nat -> Type} {A : Type}
section
variable {C : Zbg T} {ρ ρ' ρt : Nat -> AV} {π π' π'' : Pi} {n N N' : Nat} {z : A} {h ht : List (HI T)} {σ τ : St} {f : Nat -> Option Nat} {P : Program}
inductive Zre (π : Pi) (n : Nat) (h ht : List (HI T)) (j : Nat) (x : HI T) : Prop where
 | old (hx : h[j]? = some x) (hp : Zoh π j n = none)
 | new (i : Nat) (y : HI T) (hy : ht[i]? = some y) (e : x = Zra (pf π n h.length) y) (w : (j < h.length /\ i < n /\ ZeB π i = some (some j)) \/ (n <= i /\ j = h.length + (i - n)))
end
end Go.Proofs.Ytinpiaibhjmfaaa
namespace Go.Proofs.Ytinpiaibhjmfaaa
open Go.RowKit
set_option linter.unusedSimpArgs false
set_option maxRecDepth 100000
set_option linter.unusedVariables false
variable {T : Nat -> Type} {A : Type}
section
variable {C : Zbg T} {ρ ρ' ρt ρ0 : Nat -> AV} {π π' π'' π0 : Pi} {n N N' : Nat} {z : A} {h ht h0 : List (HI T)} {σ τ σ0 : St} {P : Program} {U : Nat -> Prop}
end
structure CE (C : Zbg T) (P : Program) where
 f : FuncId
 args : List Vs
 hs : List Hs
 res : Rs
 outs : List Hs
 m : VsD T args -> HsD T hs -> Option (res.D T × HsD T outs)
 ok : ∀ d dh r, m d dh = some r -> Tr C P (fun _ => True) f (ZoV C args d) (ZmR C hs dh) (res.st C r.1) (ZmR C outs r.2)
 ro : Bool := false
 roOk : ro = true -> ∀ d dh r, m d dh = some r -> Tr C P (fun _ => False) f (ZoV C args d) (ZmR C hs dh) (res.st C r.1) (ZmR C outs r.2) := by exact fun h => absurd h Bool.false_ne_true
 two : Bool := false
 res2 : Rs := .tup []
 outs2 : List Hs := []
 mm : VsD T args -> HsD T hs -> Option ((res.D T × HsD T outs) ⊕ (res2.D T × HsD T outs2)) := fun _ _ => none
 okm : (∀ d dh r, mm d dh = some (.inl r) -> Tr C P (fun _ => True) f (ZoV C args d) (ZmR C hs dh) (res.st C r.1) (ZmR C outs r.2)) /\ (∀ d dh r, mm d dh = some (.inr r) -> Tr C P (fun _ => True) f (ZoV C args d) (ZmR C hs dh) (res2.st C r.1) (ZmR C outs2 r.2)) := by exact ⟨fun _ _ _ h => (nomatch h), fun _ _ _ h => (nomatch h)⟩
def Zq2 : Cs -> XV T -> Bool
 | .ptr _ _, .ptr _ _ => true
 | .ptr _ _, _ => false
 | .mo _, .mo _ => true
 | .mo _, _ => false
 | .gv _ c _, .gv _ c' _ => Nat.beq c c'
 | .gv _ _ _, _ => false
 | .nilptr, .nilptr => true
 | .nilptr, _ => false
 | .fn f, .fn g => Nat.beq f g
 | .slx _, .slx _ _ _ => true
 | .slx _, .nil => true
 | .slx _, _ => false
 | .own _ _, .sl _ _ (some _) => true
 | .own _ _, .nil => true
 | .own _ _, _ => false
 | .as _ _, .as _ _ _ _ (some _) => true
 | .as _ _, .nil => true
 | .asu _ _, .nil => true
 | .asz _ _, .nil => true
 | .as _ _, _ => false
 | .asu _ _, .as _ _ _ _ _ => true
 | .asu _ _, _ => false
 | .asz _ _, .as _ _ _ _ _ => true
 | .asz _ _, _ => false
 | .clo f _, .clo g _ => Nat.beq f g
 | .clo _ _, _ => false
 | .sl _, .as _ _ _ _ _ => false
 | .mp _ _, _ => false
 | _, _ => true
def Zlm : List Cs -> List (XV T) -> Bool
 | c :: l, v :: vs => Zq2 c v && Zlm l vs
 | _, _ => true
def Zrb : XV T -> Bool
 | .as _ _ _ _ _ => false
 | _ => true
def Zqt : Vs -> XV T -> Bool
 | .one c, v => Zq2 c v
 | .agg cs, .agg l => Zlm cs l
 | .cod _, .agg l => l.all Zrb
 | .vl cs, .vl l => Nat.beq cs.length l.length && Zlm cs l
 | .vl _, _ => false
 | .ce _, _ => false
 | _, .vl _ => false
 | _, _ => true
def Zq3 : List Vs -> List (XV T) -> Bool
 | [], [] => true
 | c :: l, v :: vs => Zqt c v && Zq3 l vs
 | _, _ => false
def pick {C : Zbg T} {P : Program} : List (CE C P) -> FuncId -> List (XV T) -> Option (CE C P)
 | [], _, _ => none
 | E :: l, f, xs => cond (Nat.beq E.f f && Zq3 E.args xs) (some E) (pick l f xs)
structure Zrf (C : Zbg T) (P : Program) where
 on : Op -> List (XV T) -> Bool
 op : {A : Type} -> Op -> List (XV T) -> List (HI T) -> (XV T -> List (HI T) -> Option A) -> Option A
 ok : ∀ {A : Type} (tou : Tou T) o vs h (k : XV T -> List (HI T) -> Option A) z, on o vs = true -> op o vs h k = some z -> ∃ r h', k r h' = some z /\ ∀ d ty pos af g, Zp9 C P (· ∈ ZnK tou o vs h) ⟨d, o, ty, pos, af, g⟩ vs h r h'
section
variable {C : Zbg T} {π : Pi} {h : List (HI T)}
end
theorem ZbI {α β : Type} {o : Option α} {f : α -> Option β} {z : β} (h : o.bind f = some z) : ∃ a, o = some a /\ f a = some z := by
 cases o with
 | none => cases h
 | some a => exact ⟨a, rfl, h⟩
section
variable {C : Zbg T} {P : Program} {ρ : Nat -> AV} {env : XE T} {h : List (HI T)} {e : Env} {σ : St} {z : A}
end
end Go.Proofs.Ytinpiaibhjmfaaa
namespace Go.Proofs.Ytinpiaibhjmfaaa
open Go.RowKit
set_option linter.unusedSimpArgs false
set_option maxRecDepth 100000
set_option linter.unusedVariables false
variable {T : Nat -> Type} {A : Type}
section
variable {α β : Type}
open Classical in
end
structure Ou where
 ex : Exit
 slots : List Nat
 vs : List Vs
 hs : List Hs
@[reducible] def Ou.D (T : Nat -> Type) (o : Ou) : Type := VsD T o.vs × HsD T o.hs
@[reducible] def OsD (T : Nat -> Type) : List Ou -> Type
 | [] => Empty
 | [o] => o.D T
 | o :: o' :: l => o.D T ⊕ OsD T (o' :: l)
structure LE (C : Zbg T) (P : Program) where
 id : Nat
 slots : List Nat
 vs : List Vs
 hs : List Hs
 os : List Ou
 step : VsD T vs × HsD T hs -> Option ((VsD T vs × HsD T hs) ⊕ OsD T os)
section
variable {C : Zbg T} {P : Program} {ρ ρ' ρ0 : Nat -> AV} {env env' : XE T} {h h0 h' : List (HI T)} {e : Env} {σ τ σ0 : St} {z : A} {n : Nat} {π0 : Pi}
structure Zqu (Kp : Nat -> Bool) (ρ0 : Nat -> AV) (h0 : List (HI T)) (σ0 : St) (ρ : Nat -> AV) (h : List (HI T)) (σ : St) : Prop where
 ext : ∀ i, Kp i = true -> ρ i = ρ0 i
 but : But (Zqo (fun _ => True) ρ0 h0) σ0 σ
 born : ∀ b, Liv ρ h b -> Liv ρ0 h0 b \/ (σ0.blk b = none /\ ¬ σ0.used b)
theorem Zqu.step {Kp : Nat -> Bool} {V : Nat -> Prop} (H0 : Hp C ρ0 h0 σ0) (L : Zqu Kp ρ0 h0 σ0 ρ h σ) (R : Rel V ρ h σ ρ' h' τ) (hobj : ∀ i, Kp i = true -> i < h.length) : Zqu Kp ρ0 h0 σ0 ρ' h' τ := by
 refine ⟨fun i hi => (R.ext i (hobj i hi)).trans (L.ext i hi), L.but.ext2 (fun b hb => ?_) R.but, fun b hb => ?_⟩
 ·obtain ⟨i, x, _, h2⟩ := hb
  rcases L.born b ⟨i, x, h2⟩ with ⟨j, y, h3⟩ | h3
  ·exact .inl ⟨j, y, trivial, h3⟩
  ·exact .inr h3.1
 ·rcases R.born b hb with h1 | ⟨h1, h2⟩
  ·exact L.born b h1
  ·exact .inr ⟨L.but.noneOfB (fun b ⟨i, x, _, h4⟩ => H0.used ⟨i, x, h4⟩) h2 h1, fun hu => h2 (L.but.used _ hu)⟩
theorem Hp.ext (H : Hp C ρ h σ) (hρ : ∀ i, i < h.length -> ρ' i = ρ i) : Hp C ρ' h σ := by
 refine ⟨fun i x hx => ?_, fun i j x y b hx hy ax ay bx by_ => ?_⟩
 ·have hi := Zbr hx
  have := H.it i x hx
  cases x with
  | obj t cs =>
   obtain ⟨b, acs, g1, g2, g3, g4⟩ := this
   exact ⟨b, acs, (hρ i hi).trans g1, g2, g3, g4.ext (Nat.le_refl _) hρ⟩
  | mmap K V es =>
   obtain ⟨b, g1, g2, g3⟩ := this
   exact ⟨b, (hρ i hi).trans g1, g2, g3⟩
  | row e sz =>
   obtain ⟨n, cs, ho⟩ := this
   exact ⟨n, cs, by rw [hρ i hi]; exact ho⟩
  | gen E x =>
   show C.gsh E x σ (ρ' i)
   rw [hρ i hi]; exact this
  | arr e E kp xs =>
   rcases this with ⟨b, K', pre, rest, g1, g2, g3, g4⟩ | ⟨g1, g2⟩
   ·exact .inl ⟨b, K', pre, rest, (hρ i hi).trans g1, g2, g3, g4⟩
   ·exact .inr ⟨(hρ i hi).trans g1, g2⟩
  | dead => trivial
 ·rw [hρ i (Zbr hx)] at bx
  rw [hρ j (Zbr hy)] at by_
  exact H.dist i j x y b hx hy ax ay bx by_
end
end Go.Proofs.Ytinpiaibhjmfaaa
namespace Go.Proofs.Ytinpiaibhjmfaaa
open Go.RowKit
set_option maxRecDepth 100000
set_option linter.unusedVariables false
variable {T : Nat -> Type} {A : Type}
section
variable {C : Zbg T} {P : Program}
end
end Go.Proofs.Ytinpiaibhjmfaaa
namespace Go.Proofs.Ytinpiaibhjmfaaa
open Go.RowKit
set_option maxRecDepth 100000
set_option linter.unusedVariables false
variable {T : Nat -> Type}
section
variable {C : Zbg T} {P : Program}
end
end Go.Proofs.Ytinpiaibhjmfaaa
