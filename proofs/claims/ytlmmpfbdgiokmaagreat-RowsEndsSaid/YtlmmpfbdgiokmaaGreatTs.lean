/- Loops whose shape changes once. -/
import Derived.Test.YtlmmpfbdgiokmaaGreatX16
namespace Go.Proofs.YtlmmpfbdgiokmaaGreat
open Go.RowKit
set_option linter.unusedSimpArgs false
set_option maxRecDepth 100000
set_option linter.unusedVariables false
variable {T : Nat -> Type} {A : Type}
def ZCr (C : Zau T) (slots : List Nat) (hs0 : List Hs) (vs : List Vs) (hs : List Hs) (env : XE T) (h : List (HI T)) : Option (VsD T vs × HsD T hs) :=
 Zv9 C vs (slots.map (ZmK env)) (Zkw 0 hs0) fun d π => Zm4 C hs h π fun dh π => some (d, dh)
def ZyQ (C : Zau T) (slots : List Nat) (vs : List Vs) (hs : List Hs) (vs2 : List Vs) (hs2 : List Hs) (os : List Ou) : XK T (((VsD T vs × HsD T hs) ⊕ (VsD T vs2 × HsD T hs2)) ⊕ OsD T os) := fun ex env h =>
 cond (ZuH ex .normal) (match ZCr C slots hs vs2 hs2 env h with
  | some a => some (.inl (.inr a))
  | none => match ZCr C slots hs vs hs env h with
   | some a => some (.inl (.inl a))
   | none => none)
  (ZAd C hs (Zkw 0 hs) ex env h os fun d => some (.inr d))
def ZyR (C : Zau T) (slots : List Nat) (vs : List Vs) (hs : List Hs) (vs2 : List Vs) (hs2 : List Hs) (os : List Ou) : XK T (((VsD T vs × HsD T hs) ⊕ (VsD T vs2 × HsD T hs2)) ⊕ OsD T os) := fun ex env h =>
 cond (ZuH ex .normal) (match ZCr C slots hs vs2 hs2 env h with
  | some a => some (.inl (.inr a))
  | none => none)
  (ZAd C hs (Zkw 0 hs) ex env h os fun d => some (.inr d))
structure LE2 (C : Zau T) (P : Program) where
 id : Nat
 slots : List Nat
 vs : List Vs
 hs : List Hs
 vs2 : List Vs
 hs2 : List Hs
 os : List Ou
 step : (VsD T vs × HsD T hs) ⊕ (VsD T vs2 × HsD T hs2) -> Option (((VsD T vs × HsD T hs) ⊕ (VsD T vs2 × HsD T hs2)) ⊕ OsD T os)
 le : Nat.ble hs.length hs2.length = true
noncomputable def ZpK {C : Zau T} {P : Program} (E : LE2 C P) (env : XE T) (h : List (HI T)) (k : XK T A) : Option A :=
 Zn8 C E.vs E.hs (E.slots.map (ZmK env)) h fun d dh π => (ZaP E.step (.inl (d, dh))).bind fun b => ZA5 C E.os b fun ex slots vs ht =>
  Zez (vs.map (ZBH (pf π E.hs.length h.length))) fun vs => ZcW (Zla π E.hs.length h ht) fun h' => k ex (Zwa slots vs) h'
def ZuM {C : Zau T} {P : Program} : List (LE2 C P) -> Nat -> Option (LE2 C P)
 | [], _ => none
 | E :: l, i => cond (Nat.beq E.id i) (some E) (ZuM l i)
noncomputable def ZBK {C : Zau T} {P : Program} (tbl : List (LE2 C P)) (lps : Lps T A) : Lps T A := fun i env h k => match ZuM tbl i with
 | some E => ZpK E env h k
 | none => lps i env h k
section
variable {C : Zau T} {P : Program} {ρ ρ' ρ0 : Nat -> AV} {env env' : XE T} {h h0 h' : List (HI T)} {e : Env} {σ τ σ0 : St} {z : A} {n : Nat} {π0 : Pi}
theorem Zmm {slots : List Nat} {hs0 : List Hs} {vs : List Vs} {hs : List Hs} {a : VsD T vs × HsD T hs} (hk : ZCr C slots hs0 vs hs env h = some a) (hs1 : Sat C ρ env h e σ) (R : Zye (ZdN hs0) ρ0 h0 σ0 ρ h σ) :
 ∃ ρ', Sat C ρ' (Zwa slots (Zm3 C vs a.1)) (ZfC C hs a.2) e σ /\ Zye (ZdN hs0) ρ0 h0 σ0 ρ' (ZfC C hs a.2) σ := by
 unfold ZCr at hk
 obtain ⟨d2, π1, g1, g2, g3, g4⟩ := Zn7 hk
 obtain ⟨dh2, π2, w1, w2, w3, w4, w5⟩ := Zh4 g1
 injection w1 with w1
 subst w1
 have hI2 := w3 (g3 (Znq hs0))
 have hM2 : ∀ i x, ZaZ π2 i = some x -> i < hs.length := fun i x hx => (ZgA w4 hx).1
 obtain ⟨u1, u2⟩ := w5 π2 ρ σ hI2 (.refl _) hM2 hs1.hp
 have u3 := g4 h.length hs.length π2 ρ _ w2 hM2 (Zog hs1.env slots)
 refine ⟨Zd9 π2 ρ, ⟨ZiK _ _ (by rw [ZcD]; exact u3), u1⟩, ⟨fun i hi => ?_, R.but, fun b' hb' => ?_⟩⟩
 ·have hl := Zmk hs0 i 0 hi
  rw [Nat.zero_add] at hl
  have hl2 := w2 _ _ (g2 _ _ hl)
  have : Zd9 π2 ρ i = ρ i := by unfold Zd9; rw [hl2]
  rw [this]
  exact R.ext i hi
 ·obtain ⟨i, x, e1', e2', e3'⟩ := hb'
  obtain ⟨j, y, v1, v2, v3, v4⟩ := u2 i x b' e1' e2' e3'
  exact R.born b' ⟨j, y, v2, v3, v4⟩
def LE2.genv (E : LE2 C P) (a : (VsD T E.vs × HsD T E.hs) ⊕ (VsD T E.vs2 × HsD T E.hs2)) : XE T := match a with
 | .inl a => Zwa E.slots (Zm3 C E.vs a.1)
 | .inr a => Zwa E.slots (Zm3 C E.vs2 a.1)
def LE2.gheap (E : LE2 C P) (a : (VsD T E.vs × HsD T E.hs) ⊕ (VsD T E.vs2 × HsD T E.hs2)) : List (HI T) := match a with
 | .inl a => ZfC C E.hs a.2
 | .inr a => ZfC C E.hs2 a.2
theorem ZuN (E : LE2 C P) (dh0 : HsD T E.hs) {ex : Exit} {r : ((VsD T E.vs × HsD T E.hs) ⊕ (VsD T E.vs2 × HsD T E.hs2)) ⊕ OsD T E.os}
 (hk : ZyQ C E.slots E.vs E.hs E.vs2 E.hs2 E.os ex env h = some r \/ ZyR C E.slots E.vs E.hs E.vs2 E.hs2 E.os ex env h = some r) :
 match r with
 | .inl a => ex = .normal /\ ∀ ρ0 h0 σ0 ρ e σ, Sat C ρ env h e σ -> Zye (ZdN E.hs) ρ0 h0 σ0 ρ h σ -> ∃ ρ', Sat C ρ' (E.genv a) (E.gheap a) e σ /\ Zye (ZdN E.hs) ρ0 h0 σ0 ρ' (E.gheap a) σ
 | .inr b => ex ≠ .normal /\ ∃ slots vs ht, (∀ (B : Type) (k' : Exit -> List Nat -> List (XV T) -> List (HI T) -> Option B), ZA5 C E.os b k' = k' ex slots vs ht) /\ ZCZ C (ZdN E.hs) env h (ZfC C E.hs dh0) slots vs ht := by
 have out : ZuH ex .normal = false -> (ZAd C E.hs (Zkw 0 E.hs) ex env h E.os fun d => some (Sum.inr (α := (VsD T E.vs × HsD T E.hs) ⊕ (VsD T E.vs2 × HsD T E.hs2)) d)) = some r -> ∃ b, r = .inr b /\ ex ≠ .normal /\ ∃ slots vs ht, (∀ (B : Type) (k' : Exit -> List Nat -> List (XV T) -> List (HI T) -> Option B), ZA5 C E.os b k' = k' ex slots vs ht) /\ ZCZ C (ZdN E.hs) env h (ZfC C E.hs dh0) slots vs ht := fun hx h2 => by
  obtain ⟨q, q1, slots2, vs2, ht2, q2, q3⟩ := Zns dh0 h2
  injection q1 with q1
  exact ⟨q, q1.symm, (fun e => by rw [e] at hx; cases hx), slots2, vs2, ht2, q2, q3⟩
 rcases hk with hk | hk
 ·unfold ZyQ at hk
  cases hx : ZuH ex .normal
  ·rw [hx] at hk
   simp only [cond_false] at hk
   obtain ⟨b, rfl, h1⟩ := out hx hk
   exact h1
  ·rw [hx] at hk
   simp only [cond_true] at hk
   have he := Zof hx
   split at hk
   ·rename_i a ha
    injection hk with hk
    subst hk
    exact ⟨he, fun ρ0 h0 σ0 ρ e σ hs1 R => Zmm ha hs1 R⟩
   ·split at hk
    ·rename_i a ha
     injection hk with hk
     subst hk
     exact ⟨he, fun ρ0 h0 σ0 ρ e σ hs1 R => Zmm ha hs1 R⟩
    ·cases hk
 ·unfold ZyR at hk
  cases hx : ZuH ex .normal
  ·rw [hx] at hk
   simp only [cond_false] at hk
   obtain ⟨b, rfl, h1⟩ := out hx hk
   exact h1
  ·rw [hx] at hk
   simp only [cond_true] at hk
   have he := Zof hx
   split at hk
   ·rename_i a ha
    injection hk with hk
    subst hk
    exact ⟨he, fun ρ0 h0 σ0 ρ e σ hs1 R => Zmm ha hs1 R⟩
   ·cases hk
theorem ZAe {E : LE2 C P} {c : Code} {tou : Tou T} {orc : Orc T (((VsD T E.vs × HsD T E.hs) ⊕ (VsD T E.vs2 × HsD T E.hs2)) ⊕ OsD T E.os)} {dr dr2 : Nat -> Nat -> DrA} {lps : Lps T (((VsD T E.vs × HsD T E.hs) ⊕ (VsD T E.vs2 × HsD T E.hs2)) ⊕ OsD T E.os)} (hO : orc.Ok C P tou) (hL : ∀ l ∈ Zdf c, lps.Ok C P l)
 (hstep1 : ∀ a, Zm2 C P tou orc dr lps c (Zwa E.slots (Zm3 C E.vs a.1)) (ZfC C E.hs a.2) (ZyQ C E.slots E.vs E.hs E.vs2 E.hs2 E.os) = E.step (.inl a))
 (hstep2 : ∀ a, Zm2 C P tou orc dr2 lps c (Zwa E.slots (Zm3 C E.vs2 a.1)) (ZfC C E.hs2 a.2) (ZyR C E.slots E.vs E.hs E.vs2 E.hs2 E.os) = E.step (.inr a)) (env : XE T) (h : List (HI T)) (k : XK T A) (z : A) (hk : ZpK E env h k = some z) :
 ∃ ex env' h', k ex env' h' = some z /\ Zjs C P (.loop c) env h ex env' h' := by
 unfold ZpK at hk
 rw [Zod] at hk
 obtain ⟨⟨d, dh, π⟩, h1, h2⟩ := Zam hk
 dsimp only at h2
 obtain ⟨b, h3, h4⟩ := Zam h2
 obtain ⟨d', dh', π', e1, hp, hS⟩ := Zlx h1
 injection e1 with e1
 injection e1 with e1 e2
 injection e2 with e2 e3
 subst e1 e2 e3
 obtain ⟨n0, hn0⟩ := Zky h3
 obtain ⟨ex, slots, vs, ht, hb⟩ := Zml (C := C) E.os b
 rw [hb, Zc0, Zbd] at h4
 refine ⟨ex, _, _, h4, fun O ρ e σ hs => ?_⟩
 obtain ⟨s1, s2, s3⟩ := hS ρ σ _ (Zog hs.env E.slots) hs.hp
 have hlen : (ZfC C E.hs dh').length = E.hs.length := ZcD _ _
 have hle := Nat.le_of_ble_eq_true E.le
 have hobj : ∀ a i, ZdN E.hs i = true -> i < (E.gheap a).length := fun a i hi => by
  have := ZrC hi
  cases a with
  | inl a => show i < (ZfC C E.hs a.2).length; rw [ZcD]; exact this
  | inr a => show i < (ZfC C E.hs2 a.2).length; rw [ZcD]; omega
 have hround : ∀ a r, E.step a = some r -> ∃ ex1 env1 h1', (ZyQ C E.slots E.vs E.hs E.vs2 E.hs2 E.os ex1 env1 h1' = some r \/ ZyR C E.slots E.vs E.hs E.vs2 E.hs2 E.os ex1 env1 h1' = some r) /\ Zjs C P c (E.genv a) (E.gheap a) ex1 env1 h1' := fun a r hr => by
  cases a with
  | inl a =>
   have hst := hstep1 a
   rw [hr] at hst
   obtain ⟨ex1, env1, h1', k1, t1⟩ := Zc3 hO c _ _ _ hL hst
   exact ⟨ex1, env1, h1', .inl k1, t1⟩
  | inr a =>
   have hst := hstep2 a
   rw [hr] at hst
   obtain ⟨ex1, env1, h1', k1, t1⟩ := Zc3 hO c _ _ _ hL hst
   exact ⟨ex1, env1, h1', .inr k1, t1⟩
 have hloop : ZaY P O (.loop c) (fun ex' e' σ' => ex' = ex /\ ∃ ρ', SVs C ht.length ρ' vs (slots.map e') /\ Hp C ρ' ht σ' /\ Rel (fun _ => True) (Zd9 π' ρ) (ZfC C E.hs dh') σ ρ' ht σ') e σ := by
  refine ⟨fun n e1 σ1 => ∃ a ρ1, Zj0 E.step n a = some b /\ Sat C ρ1 (E.genv a) (E.gheap a) e1 σ1 /\ Zye (ZdN E.hs) (Zd9 π' ρ) (ZfC C E.hs dh') σ ρ1 (E.gheap a) σ1, n0, ⟨.inl (d', dh'), Zd9 π' ρ, hn0, ⟨ZiK _ _ (by show SVs C (ZfC C E.hs dh').length _ _ _; rw [hlen]; exact s1), s2⟩, ⟨fun _ _ => rfl, .refl _ _, fun _ hb => .inl hb⟩⟩, ?_⟩
  rintro n e1 σ1 ⟨a, ρ1, hn, hs1, hR⟩
  cases n with
  | zero => cases hn
  | succ n =>
   unfold Zj0 at hn
   split at hn
   ·cases hn
   ·-- another round
    rename_i a' ha'
    obtain ⟨ex1, env1, h1', k1, t1⟩ := hround a _ ha'
    refine ZaS ?_ (t1 O ρ1 e1 σ1 hs1)
    rintro ex' e2 σ2 ⟨rfl, ρ2, hs2, hR2⟩
    have hR3 := hR.step s2 hR2 (hobj a)
    obtain ⟨rfl, hl⟩ := ZuN E dh' k1
    obtain ⟨ρ3, g1, g2⟩ := hl _ _ _ _ _ _ hs2 hR3
    exact ⟨n, Nat.lt_succ_self n, a', ρ3, hn, g1, g2⟩
   ·-- out
    rename_i b' hb'
    injection hn with hn
    subst hn
    obtain ⟨ex1, env1, h1', k1, t1⟩ := hround a _ hb'
    refine ZaS ?_ (t1 O ρ1 e1 σ1 hs1)
    rintro ex' e2 σ2 ⟨rfl, ρ2, hs2, hR2⟩
    have hR3 := hR.step s2 hR2 (hobj a)
    obtain ⟨hne, slots2, vs2, ht2, q2, q3⟩ := ZuN E dh' k1
    have e4 := (q2 _ (fun a b c d => some (a, b, c, d))).symm.trans (hb _ (fun a b c d => some (a, b, c, d)))
    injection e4 with e4
    injection e4 with e4 e5
    injection e5 with e5 e6
    injection e6 with e6 e7
    subst e4 e5 e6 e7
    have := q3 (Zd9 π' ρ) σ ρ2 e2 σ2 hs2 hR3
    cases ex' with
    | normal => exact absurd rfl hne
    | _ => exact ⟨rfl, this⟩
 refine ZaS ?_ hloop
 rintro ex' e' σ' ⟨rfl, ρ1, g1, g2, g3⟩
 obtain ⟨ρ', q1, q2, q3⟩ := ZCX hlen hp hs.hp g2 g3 s3
 exact ⟨rfl, ρ', ⟨ZiK _ _ (Zp8 q1 g1), q2⟩, q3.mono fun _ _ => trivial⟩
theorem ZuO {tbl : List (LE2 C P)} {lps : Lps T A} {E : LE2 C P} {c : Code} (hf : ZuM tbl (Zjr c) = some E) (h : ∀ env h (k : XK T A) z, ZpK E env h k = some z -> ∃ ex env' h', k ex env' h' = some z /\ Zjs C P (.loop c) env h ex env' h') : (ZBK tbl lps).Ok C P c := by
 intro env h' k z hk
 unfold ZBK at hk
 rw [hf] at hk
 exact h env h' k z hk
theorem Zoh {tbl : List (LE2 C P)} {lps : Lps T A} {c : Code} (hf : ZuM tbl (Zjr c) = none) (h : lps.Ok C P c) : (ZBK tbl lps).Ok C P c := by
 intro env h' k z hk
 unfold ZBK at hk
 rw [hf] at hk
 exact h env h' k z hk
end
end Go.Proofs.YtlmmpfbdgiokmaaGreat
