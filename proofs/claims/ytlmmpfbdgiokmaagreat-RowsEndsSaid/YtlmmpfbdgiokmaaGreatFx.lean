/- An array that is told, with what lies behind its end, becomes a list with a spare that is known. -/
import Derived.Test.YtlmmpfbdgiokmaaGreatX16
namespace Go.Proofs.YtlmmpfbdgiokmaaGreat
open Go.RowKit
set_option linter.unusedSimpArgs false
set_option maxRecDepth 100000
set_option linter.unusedVariables false
variable {T : Nat -> Type}
section
variable {C : Zau T} {P : Program}
theorem Tr.freezeX {f : FuncId} {args : List (XV T)} {E n : Nat} {co : Option Nat} {e : TypeId} {kp : Bool} {xs : List (T E)} (hn : n <= xs.length) (hl : xs.length <= 140737488355328) (h : Tr C P (fun _ => True) f args [] (.as E 0 0 n co) [.arr e E kp xs]) :
 Tr C P (fun _ => True) f args [] (.slx E (xs.take n) (xs.drop n)) [] := by
 intro ρ σ vs hs H
 have h := h ρ σ vs hs H
 have hsz := C.pos E
 have hxl : (xs.take n).length = n := by rw [List.length_take]; omega
 have hxd : (xs.take n).length + (xs.drop n).length = xs.length := by rw [List.length_take, List.length_drop]; omega
 refine fun w Z hH hV => (h w Z hH hV).mono ?_
 rintro y w' ⟨r, τ, rfl, ⟨ρ', hr, H', R⟩, hH', hV', hG⟩
 have hsx : ∀ (A : Option Addr) (c : Nat) (cs : List AV), xs.length <= c -> c <= maxLen -> (A = none -> xs.length = 0 /\ c = 0) -> SVs C 0 ρ' (xs.flatMap (C.enc E)) cs -> SV C 0 ρ' (.slx E (xs.take n) (xs.drop n)) (.lst A n c cs) := fun A c cs k1 k2 k3 k4 => by
  have := Zul (C := C) (N := 0) (ρ := ρ') (E := E) (xs := xs.take n) (ys := xs.drop n) (a := .lst A n c cs)
  rw [hxl] at this
  refine this.2 ⟨A, c, cs, [], by rw [List.append_nil], by omega, k2, by omega, fun ha => by have := k3 ha; omega, ?_⟩
  rw [List.take_append_drop]; exact k4
 have R0 : Rel (T := T) (fun _ => True) ρ [] σ ρ' [] τ := ⟨Nat.le_refl _, fun i hi => absurd hi (Nat.not_lt_zero i), R.but, fun b ⟨i, x, hx, _⟩ => by simp at hx⟩
 have H0 : ∀ τ, Hp C ρ' ([] : List (HI T)) τ := fun τ => ⟨fun i x hx => by simp at hx, fun i j x y b hx => by simp at hx⟩
 rcases Zbz.1 hr with ⟨ad, c, rfl, hA⟩ | ⟨rfl, hn1, hiN, hρi, hco⟩
 ·obtain ⟨b, q1, q2⟩ := hA.at_
  obtain ⟨pre, rest, hb2, hb3, hb4, hb5, hb6⟩ := H'.arrAt (i := 0) rfl q1
  rw [Nat.zero_add] at q1 hb5
  have hpl := (hb4 0 ρ).len
  rw [Zc2] at hpl
  have hxc : xs.length <= c := by
   have h1 : xs.length * C.sz E <= c * C.sz E := by rw [<- hpl, <- hb5, List.length_append]; omega
   exact Nat.le_of_mul_le_mul_right h1 hsz
  by_cases hc0 : c = 0
  ·have hx0 : xs = [] := List.eq_nil_of_length_eq_zero (by omega)
   have hn0 : n = 0 := by omega
   refine ⟨.lst (some ad) n c [], τ, by simp, ⟨ρ', hsx _ _ _ hxc hA.max (fun hq => by cases hq) (by rw [hx0]; exact .none), H0 _, R0⟩, hH', ?_, hG⟩
   unfold Zag
   exact ⟨hA.le, (fun hq => by cases hq), fun ad' had' => Zaz.mk fun j q hq => by simp at hq⟩
  have had := q2 (by omega)
  rw [Nat.zero_mul] at had
  subst had
  have hsv := hb4 0 ρ'
  obtain ⟨o1, o2, o3⟩ := hH'.own _ _ _ hb2
  have hzb : ¬ Z b := fun hz => by have := (hH'.z _ hz).2; rw [hb2] at this; cases this
  have hm2 : xs.length * C.sz E <= c * C.sz E := Nat.mul_le_mul_right _ hxc
  have hset : (τ.set b (.tail e (xs.length * C.sz E) (c * C.sz E))).blk b = some (.tail e (xs.length * C.sz E) (c * C.sz E)) := by show (if b = b then _ else τ.blk b) = _; rw [if_pos rfl]
  have hoth : ∀ b', b' ≠ b -> (τ.set b (.tail e (xs.length * C.sz E) (c * C.sz E))).blk b' = τ.blk b' := fun b' hb' => by show (if b' = b then _ else τ.blk b') = _; rw [if_neg hb']
  have hfree : ∀ b' o, τ.free Z b' o -> (τ.set b (.tail e (xs.length * C.sz E) (c * C.sz E))).free Z b' o := fun b' o hf => by
   obtain ⟨z1, z2, z3⟩ := hf
   have hne : b' ≠ b := by rintro rfl; rw [hb2] at z3; exact z3
   refine ⟨z1, z2, ?_⟩
   rw [hoth b' hne]; exact z3
  have hHf : Zap w' (τ.set b (.tail e (xs.length * C.sz E) (c * C.sz E))) Z := by
   refine ⟨hH'.used, fun b' hz => ?_, fun b' t cs' hb' => ?_, fun b' t k s hb' => ?_, fun b' es hb' => ?_⟩
   ·obtain ⟨z1, z2⟩ := hH'.z _ hz
    have hne : b' ≠ b := by rintro rfl; exact hzb hz
    exact ⟨z1, by rw [hoth b' hne]; exact z2⟩
   ·have hne : b' ≠ b := by rintro rfl; rw [hset] at hb'; injection hb' with hb'; cases hb'
    rw [hoth b' hne] at hb'
    obtain ⟨p1, p2, p3⟩ := hH'.own _ _ _ hb'
    exact ⟨p1, p2, fun q hq => (p3 q hq).sub hfree⟩
   ·by_cases hne : b' = b
    ·subst hne
     rw [hset] at hb'
     injection hb' with hb'
     injection hb' with e1 e2 e3
     subst e1 e2 e3
     exact ⟨o1, _, o2, by simp only [List.size_toArray, List.length_map]; exact hb5, hm2⟩
    ·rw [hoth b' hne] at hb'
     exact hH'.tail _ _ _ _ hb'
   ·by_cases hne : b' = b
    ·subst hne
     rw [hset] at hb'
     injection hb' with hb'
     cases hb'
    ·rw [hoth b' hne] at hb'
     exact hH'.map _ _ hb'
  have hGf : Grow w σ w' (τ.set b (.tail e (xs.length * C.sz E) (c * C.sz E))) := by
   refine ⟨hG.os, hG.tape, hG.output, hG.size, hG.used, fun b' h1 h2 => ⟨(hG.rest b' h1 h2).1, ?_⟩, fun b' t k s h1 h2 => ⟨(hG.tail b' t k s h1 h2).1, ?_⟩, hG.more⟩
   ·have := (hG.rest b' h1 h2).2
    have hne : b' ≠ b := by rintro rfl; rw [hb2] at this; cases this
    rw [hoth b' hne]; exact this
   ·have := (hG.tail b' t k s h1 h2).2
    have hne : b' ≠ b := by
     rintro rfl
     rw [hb2] at this
     rcases this with h | ⟨_, _, _, h, _⟩
     ·cases h
     ·injection h with h; cases h
    rw [hoth b' hne]; exact this
  have hVf : Zag w' ((τ.set b (.tail e (xs.length * C.sz E) (c * C.sz E))).free Z) (.lst (some ⟨b, 0, none⟩) n c pre) := by
   unfold Zag
   refine ⟨hA.le, (fun hq => by cases hq), fun ad' had' => ?_⟩
   injection had' with had'
   subst had'
   refine Zaz.mk fun j q hq => ?_
   have hjl : j < xs.length * C.sz E := by rw [<- hpl]; exact Zav hq
   have hq' : (pre ++ rest)[j]? = some q := by
    rw [List.getElem?_append_left (Zav hq)]
    exact hq
   have hcell := ZgL hH' hb2 0 j (by rw [Nat.zero_add]; exact hq')
   rw [Nat.zero_add]
   refine ⟨hcell, ?_, (o3 q (List.mem_of_getElem? hq')).sub hfree⟩
   refine ⟨hzb, o1, ?_⟩
   rw [hset]
   simpa using hjl
  refine ⟨.lst (some ⟨b, 0, none⟩) n c pre, τ.set b (.tail e (xs.length * C.sz E) (c * C.sz E)), by simp, ⟨ρ', hsx _ _ _ hxc hA.max (fun hq => by cases hq) hsv, H0 _, ⟨Nat.le_refl _, fun i hi => absurd hi (Nat.not_lt_zero i), ⟨fun b' k hb' hk => ?_, R.but.used⟩, fun b ⟨i, x, hx, _⟩ => by simp at hx⟩⟩, hHf, hVf, hGf⟩
  have hb0 := R.but.keep b' k hb' hk
  have hne : b' ≠ b := by
   rintro rfl
   rcases R.born b' ⟨0, _, rfl, rfl, by rw [q1]; rfl⟩ with hl | ⟨hl, _⟩
   ·obtain ⟨i, y, p1, p2, p3⟩ := hl
    simp at p1
   ·rw [hl] at hk; cases hk
  rw [hoth b' hne]; exact hb0
 ·have hx0 : xs = [] := by
   rcases H'.it 0 _ rfl with ⟨b', K', pre, rest, h1, _⟩ | ⟨_, h2⟩
   ·rw [hρi] at h1; cases h1
   ·exact h2
  subst hn1
  refine ⟨_, τ, rfl, ⟨ρ', hsx none 0 [] (by rw [hx0]; exact Nat.le_refl _) (Nat.zero_le _) (fun _ => by rw [hx0]; exact ⟨rfl, rfl⟩) (by rw [hx0]; exact .none), H0 _, R0⟩, hH', hV', hG⟩
end
end Go.Proofs.YtlmmpfbdgiokmaaGreat
