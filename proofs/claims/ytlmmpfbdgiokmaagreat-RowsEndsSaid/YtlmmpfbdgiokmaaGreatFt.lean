/- An array that is told (not to be written any more) as a list. -/
import Derived.Test.YtlmmpfbdgiokmaaGreatWr
import Derived.Test.YtlmmpfbdgiokmaaGreatTw
namespace Go.Proofs.YtlmmpfbdgiokmaaGreat
open Go.RowKit
set_option linter.unusedSimpArgs false
set_option maxRecDepth 100000
set_option linter.unusedVariables false
set_option linter.unusedSectionVars false
section
variable {T : Nat -> Type} {C : Zau T} {P : Program}
theorem ZrI {E n : Nat} {co : Option Nat} {e : TypeId} {kp : Bool} {xs : List (T E)} {ρ' : Nat -> AV} {r : AV} {w' : World} {Z : Nat -> Prop} {τ : St} (hn : n <= xs.length) (hr : SV C 1 ρ' (.as E 0 0 n co) r) (H' : Hp C ρ' [.arr e E kp xs] τ) (hH' : Zap w' τ Z) :
 ∃ (τ2 : St) (r2 : AV), r2.val = r.val /\ Zap w' τ2 Z /\ Zag w' (τ2.free Z) r2 /\ (∀ N ρ, SV C N ρ (.sl E (xs.take n) none) r2) /\ (∀ b' o, τ.free Z b' o -> τ2.free Z b' o) /\ (∀ b', τ2.used b' ↔ τ.used b') /\ (∀ b', ¬ (ρ' 0).owns b' -> τ2.blk b' = τ.blk b') /\ ∀ b', (¬ ∃ cs, τ.blk b' = some (.own e cs)) -> τ2.blk b' = τ.blk b' := by
 have hsz := C.pos E
 have hxl : (xs.take n).length = n := by rw [List.length_take]; omega
 rcases Zbz.1 hr with ⟨ad, c, rfl, hA⟩ | ⟨rfl, hn1, hiN, hρi, hco⟩
 rotate_left
 ·subst hn1
  refine ⟨τ, .lst none 0 0 [], rfl, hH', Zd8, fun N ρ => ?_, fun _ _ h => h, fun _ => Iff.rfl, fun _ _ => rfl, fun _ _ => rfl⟩
  rw [List.take_zero]
  exact ZfO.2 ⟨none, 0, [], [], rfl, Nat.le_refl _, Nat.zero_le _, Nat.zero_le _, fun _ => ⟨rfl, rfl⟩, .none⟩
 by_cases hn0 : n = 0
 ·subst hn0
  refine ⟨τ, .lst (some ad) 0 c [], by simp, hH', ?_, fun N ρ => ?_, fun _ _ h => h, fun _ => Iff.rfl, fun _ _ => rfl, fun _ _ => rfl⟩
  ·unfold Zag
   exact ⟨Nat.zero_le _, (fun hq => by cases hq), fun ad' had' => Zaz.mk fun j q hq => by simp at hq⟩
  ·rw [List.take_zero]
   exact ZfO.2 ⟨some ad, c, [], [], by simp, Nat.zero_le _, hA.max, Nat.zero_le _, (fun hq => by cases hq), .none⟩
 obtain ⟨b, q1, q2⟩ := hA.at_
 obtain ⟨pre, rest, hb2, hb3, hb4, hb5, hb6⟩ := H'.arrAt (i := 0) rfl q1
 rw [Nat.zero_add] at q1 hb5
 have hle := hA.le
 have hpl := (hb4 0 ρ').len
 rw [Zc2] at hpl
 have hm1 : n * C.sz E <= xs.length * C.sz E := Nat.mul_le_mul_right _ hn
 have hm2 : n * C.sz E <= c * C.sz E := Nat.mul_le_mul_right _ hA.le
 have hsv : ∀ N ρ, SVs C N ρ ((xs.take n).flatMap (C.enc E)) (pre.take (n * C.sz E)) := fun N ρ => by
  have := (hb4 N ρ).take (n * C.sz E)
  rw [Ze3] at this
  exact this
 have hpt : (pre.take (n * C.sz E)).length = n * C.sz E := by rw [List.length_take]; omega
 obtain ⟨o1, o2, o3⟩ := hH'.own _ _ _ hb2
 have hzb : ¬ Z b := fun hz => by have := (hH'.z _ hz).2; rw [hb2] at this; cases this
 have hset : (τ.set b (.tail e (n * C.sz E) (c * C.sz E))).blk b = some (.tail e (n * C.sz E) (c * C.sz E)) := by show (if b = b then _ else τ.blk b) = _; rw [if_pos rfl]
 have hoth : ∀ b', b' ≠ b -> (τ.set b (.tail e (n * C.sz E) (c * C.sz E))).blk b' = τ.blk b' := fun b' hb' => by show (if b' = b then _ else τ.blk b') = _; rw [if_neg hb']
 have hfree : ∀ b' o, τ.free Z b' o -> (τ.set b (.tail e (n * C.sz E) (c * C.sz E))).free Z b' o := fun b' o hf => by
  obtain ⟨z1, z2, z3⟩ := hf
  have hne : b' ≠ b := by rintro rfl; rw [hb2] at z3; exact z3
  refine ⟨z1, z2, ?_⟩
  rw [hoth b' hne]; exact z3
 have hHf : Zap w' (τ.set b (.tail e (n * C.sz E) (c * C.sz E))) Z := by
  refine ⟨hH'.used, fun b' hz => ?_, fun b' t cs' hb' => ?_, fun b' t k s hb' => ?_, fun b' es hb' => ?_⟩
  ·obtain ⟨z1, z2⟩ := hH'.z _ hz
   have hne : b' ≠ b := by rintro rfl; exact hzb hz
   exact ⟨z1, by rw [hoth b' hne]; exact z2⟩
  ·have hne : b' ≠ b := by rintro rfl; rw [hset] at hb'; injection hb' with hb'; cases hb'
   rw [hoth b' hne] at hb'
   obtain ⟨p1, p2, p3⟩ := hH'.own _ _ _ hb'
   exact ⟨p1, p2, fun q hq => (p3 q hq).sub hfree⟩
  ·by_cases hne : b' = b
   ·subst hne
    rw [hset] at hb'
    injection hb' with hb'
    injection hb' with e1 e2 e3
    subst e1 e2 e3
    exact ⟨o1, _, o2, by simp only [List.size_toArray, List.length_map]; exact hb5, hm2⟩
   ·rw [hoth b' hne] at hb'
    exact hH'.tail _ _ _ _ hb'
  ·by_cases hne : b' = b
   ·subst hne
    rw [hset] at hb'
    injection hb' with hb'
    cases hb'
   ·rw [hoth b' hne] at hb'
    exact hH'.map _ _ hb'
 have hVf : Zag w' ((τ.set b (.tail e (n * C.sz E) (c * C.sz E))).free Z) (.lst (some ⟨b, 0, none⟩) n c (pre.take (n * C.sz E))) := by
  unfold Zag
  refine ⟨hA.le, (fun hq => by cases hq), fun ad' had' => ?_⟩
  injection had' with had'
  subst had'
  refine Zaz.mk fun j q hq => ?_
  have hjl : j < n * C.sz E := by rw [<- hpt]; exact Zav hq
  have hq' : (pre ++ rest)[j]? = some q := by
   rw [List.getElem?_take] at hq
   rw [if_pos hjl] at hq
   rw [List.getElem?_append_left (Zav hq)]
   exact hq
  have hcell := ZgL hH' hb2 0 j (by rw [Nat.zero_add]; exact hq')
  rw [Nat.zero_add]
  refine ⟨hcell, ?_, (o3 q (List.mem_of_getElem? hq')).sub hfree⟩
  refine ⟨hzb, o1, ?_⟩
  rw [hset]
  simpa using hjl
 have hval : (AV.lst (some ⟨b, 0, none⟩) n c (pre.take (n * C.sz E))).val = AV.val (.raw (.slice (some ad) n c)) := by
  have := q2 (by omega)
  rw [Nat.zero_mul] at this
  subst this
  simp
 refine ⟨_, _, hval, hHf, hVf, fun N ρ => ?_, hfree, fun _ => Iff.rfl, fun b' hb' => hoth b' (by rintro rfl; exact hb' (by rw [q1]; rfl)), fun b' hb' => hoth b' (by rintro rfl; exact hb' ⟨_, hb2⟩)⟩
 have := ZfO (C := C) (N := N) (ρ := ρ) (E := E) (xs := xs.take n) (a := .lst (some ⟨b, 0, none⟩) n c (pre.take (n * C.sz E)))
 rw [hxl] at this
 exact this.2 ⟨_, c, _, [], by rw [List.append_nil], hA.le, hA.max, hA.len, (fun hq => by cases hq), hsv _ _⟩
theorem ZrJ {w w' : World} {σ τ τ2 : St} {e : TypeId} (hG : Grow w σ w' τ) (k6 : ∀ b', τ2.used b' ↔ τ.used b') (k8 : ∀ b', (¬ ∃ cs, τ.blk b' = some (.own e cs)) -> τ2.blk b' = τ.blk b') : Grow w σ w' τ2 := by
 refine ⟨hG.os, hG.tape, hG.output, hG.size, fun b hb hu => hG.used b hb ((k6 b).1 hu), fun b hb hn => ?_, fun b t k s hb ht => ?_, fun b hu => (k6 b).2 (hG.more b hu)⟩
 ·obtain ⟨g1, g2⟩ := hG.rest b hb hn
  exact ⟨g1, by rw [k8 b (fun ⟨cs, h⟩ => by rw [g2] at h; cases h)]; exact g2⟩
 ·obtain ⟨g1, g2⟩ := hG.tail b t k s hb ht
  refine ⟨g1, ?_⟩
  rw [k8 b]
  ·exact g2
  ·rintro ⟨cs, h⟩
   rw [h] at g2
   rcases g2 with g2 | ⟨_, _, _, g2, _⟩
   ·cases g2
   ·injection g2 with g2; cases g2
theorem Tr.tellT {f : FuncId} {args : List (XV T)} {E n : Nat} {co : Option Nat} {e : TypeId} {kp : Bool} {xs : List (T E)} {vs : List (XV T)} (hn : n <= xs.length) (hvs : vs.all XV.scal = true) (h : Tr C P (fun _ => True) f args [] (.tup (.as E 0 0 n co :: vs)) [.arr e E kp xs]) :
 Tr C P (fun _ => True) f args [] (.tup (.sl E (xs.take n) none :: vs)) [] := by
 intro ρ σ as_ hs H
 have h := h ρ σ as_ hs H
 refine fun w Z hH hV => (h w Z hH hV).mono ?_
 rintro y w' ⟨r, τ, rfl, ⟨ρ', hr, H', R⟩, hH', hV', hG⟩
 obtain ⟨ls, rfl, h1⟩ := ZkQ.1 hr
 obtain ⟨a, bs, rfl, h2, h3⟩ := h1.to
 obtain ⟨s1, s2⟩ := Zqi (N' := 0) (ρ' := ρ) hvs h3
 obtain ⟨τ2, r2, k1, k2, k3, k4, k5, k6, k7, k8⟩ := ZrI hn h2 H' hH'
 refine ⟨.tup (r2 :: bs), τ2, by simp [k1], ⟨ρ, ZkQ.2 ⟨_, rfl, .cons (k4 0 ρ) s1⟩, ⟨fun i x hx => by simp at hx, fun i j x y b hx => by simp at hx⟩, ⟨Nat.le_refl _, fun _ _ => rfl, ⟨fun c k hc hk => ?_, fun c hc => (k6 c).2 (R.but.used c hc)⟩, fun b ⟨i, x, hx, _⟩ => by simp at hx⟩⟩, k2, ?_, ?_⟩
 ·rw [k7 c]
  ·exact R.but.keep c k (fun ⟨i, x, _, hx, _⟩ => by simp at hx) hk
  ·intro hb
   rcases R.born c ⟨0, _, rfl, rfl, hb⟩ with ⟨i, x, hx, _⟩ | ⟨hl, _⟩
   ·simp at hx
   ·rw [hl] at hk; cases hk
 ·unfold Zag
  refine ZaV.iff.2 fun x hx => ?_
  rcases List.mem_cons.1 hx with rfl | hx
  ·exact k3
  ·exact s2 _ _ x hx
 ·exact ZrJ hG k6 k8
theorem Tr.tellS {f : FuncId} {args : List (XV T)} {E n : Nat} {co : Option Nat} {e : TypeId} {kp : Bool} {xs : List (T E)} (hn : n <= xs.length) (h : Tr C P (fun _ => True) f args [] (.as E 0 0 n co) [.arr e E kp xs]) :
 Tr C P (fun _ => True) f args [] (.sl E (xs.take n) none) [] := by
 intro ρ σ as_ hs H
 have h := h ρ σ as_ hs H
 refine fun w Z hH hV => (h w Z hH hV).mono ?_
 rintro y w' ⟨r, τ, rfl, ⟨ρ', hr, H', R⟩, hH', hV', hG⟩
 obtain ⟨τ2, r2, k1, k2, k3, k4, k5, k6, k7, k8⟩ := ZrI hn hr H' hH'
 refine ⟨r2, τ2, by rw [k1], ⟨ρ, k4 0 ρ, ⟨fun i x hx => by simp at hx, fun i j x y b hx => by simp at hx⟩, ⟨Nat.le_refl _, fun _ _ => rfl, ⟨fun c k hc hk => ?_, fun c hc => (k6 c).2 (R.but.used c hc)⟩, fun b ⟨i, x, hx, _⟩ => by simp at hx⟩⟩, k2, k3, ZrJ hG k6 k8⟩
 rw [k7 c]
 ·exact R.but.keep c k (fun ⟨i, x, _, hx, _⟩ => by simp at hx) hk
 ·intro hb
  rcases R.born c ⟨0, _, rfl, rfl, hb⟩ with ⟨i, x, hx, _⟩ | ⟨hl, _⟩
  ·simp at hx
  ·rw [hl] at hk; cases hk
end
end Go.Proofs.YtlmmpfbdgiokmaaGreat
