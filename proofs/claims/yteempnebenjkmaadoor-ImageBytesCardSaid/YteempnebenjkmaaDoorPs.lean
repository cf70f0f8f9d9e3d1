/- The law on images' bytes, plainly (round 09). -/
import Derived.Test.YteempnebenjkmaaDoorG2
namespace Go.Proofs.YteempnebenjkmaaDoor
open Go.RowKit
set_option maxRecDepth 100000
set_option linter.unusedVariables false
set_option linter.unusedSimpArgs false
theorem ZyZ {x : Zcd} (k : Zl4 x) : ∃ b, Zb7 x = some (b, ()) /\ (b = false -> x.bytes.length <= 5000 /\ ZjD x.base.config) := by
 obtain ⟨⟨_, _, ⟨h1, h2, h3, h4, _⟩, _⟩, h5, _⟩ := k
 have h1 := h1.len
 have h2 := h2.len
 have h3 := h3.len
 have h4 := h4.len
 unfold Zb7
 by_cases hb : (5000 : Int) < (x.bytes.length : Int)
 ·exact ⟨true, Zap (dT hb) rfl, fun q => by cases q⟩
 ·refine ⟨_, ZaC (dF hb) (Zag rfl rfl), fun q => ⟨by omega, ?_⟩⟩
  have q := of_decide_eq_false q
  dsimp only at q
  rw [w64 (n := 1 + (x.base.config.voters.length : Int)) (by omega), w64 (n := 1 + (x.base.config.voters.length : Int) + x.base.config.old.length) (by omega), w64 (n := 1 + (x.base.config.voters.length : Int) + x.base.config.old.length + x.base.config.learners.length) (by omega), w64 (by omega)] at q
  unfold ZjD
  omega
theorem Zp3 (x : Zcd) (k : Zl4 x) : Zb1 x = some (true, ()) := by
 obtain ⟨b, hg, hq⟩ := ZyZ k
 unfold Zb1
 refine Zag (v := (true, ())) rfl (ZaC rfl (Zag hg ?_))
 cases b
 rotate_left
 ·exact Zap rfl rfl
 obtain ⟨hb, hf⟩ := hq rfl
 refine ZaC rfl (Zag (Zuy hf hb) (Zag (ZsV hf) ?_))
 cases h : Zez x.base with
 | true =>
  rw [if_pos rfl]
  obtain ⟨hlow, hgood⟩ := Zef h
  have hh := h
  unfold Zez at hh
  simp only [Bool.and_eq_true] at hh
  obtain ⟨r1, r2, r3⟩ := hh
  have r1 := of_decide_eq_true r1
  have r2 := of_decide_eq_true r2
  obtain ⟨l1, l2⟩ := ZyY hf hb h
  have hG := Zuz (l := Zlo x) (by omega) (ZuA hf hb h)
  have hbo : Zb0 (Zlo x) = (x.base, some (Zm4 x.bytes)) := Zjq h
  have hro : ZsT 131072 (some (Zm4 x.bytes)) = (x.bytes, some []) := by
   have := Zlp (t := x.bytes) (r := []) (by omega)
   rwa [List.append_nil] at this
  rw [hbo] at hG
  dsimp only at hG
  rw [hro] at hG
  have hless := Zw9 (l := (Zlo x).dropLast) (by rw [List.length_dropLast]; omega) (Zwd hf hb h)
  have hmore := Zw9 (l := Zlo x ++ [0]) (by rw [List.length_append]; simp; omega) (Zwc hf hb h 0)
  obtain ⟨z, hS⟩ := Zoq hf hb
  have hw : IntKind.i64.wrap (((Zlo x).length : Int) - 1) = (((Zlo x).length - 1 : Nat) : Int) := by rw [w64 (by omega)]; omega
  refine Zap r3 (Zap (dT r1.1) (Zap (dT r1.2) (Zap (dT r2.1) (ZaC rfl (ZaC (dF (by dsimp only; omega)) (Zag hG ?_))))))
  dsimp only
  rw [hw]
  refine Zfi (by omega) (Zag (v := (((0, 0, 0, 0, 0, 0, [], ()), false, ()), ([], [], [], [], ()))) ?_ (Zag (v := (Zlo x, ((), ()))) ?_ (Zag (v := (0 : UInt8)) rfl (Zfi ?_ (Zag hmore (Zap (dT r2.2) (Zap rfl (Zag hS (Zap rfl (Zap rfl rfl))))))))))
  ·rw [show ((Zlo x).drop ((0 : Int) : Int).toNat).take ((((Zlo x).length - 1 : Nat) : Int).toNat - ((0 : Int) : Int).toNat) = (Zlo x).dropLast from by
    rw [List.dropLast_eq_take]; simp]
   exact hless
  ·unfold Za0
   exact Zfi (by omega) rfl
  ·dsimp only [List.length_singleton]
   omega
 | false =>
  rw [if_neg (by simp)]
  dsimp only
  have fin : (bif decide ((2 : Int) ≠ 0) then (bif decide ((2 : Int) = 2) then some (decide (((([] : List UInt8).length : Int)) = 0), ()) else some (false, ())) else (none : Option (Bool × Unit))) = some (true, ()) := rfl
  cases hc : Zyi x.base.config
  ·exact ZaC rfl (Zap rfl (Zap rfl rfl))
  refine Zap rfl ?_
  by_cases a1 : 0 <= x.base.index
  rotate_left
  ·exact ZaC (dF a1) (Zap rfl (Zap rfl rfl))
  refine Zap (dT a1) ?_
  by_cases a2 : x.base.index <= 1073741824
  rotate_left
  ·exact ZaC (dF a2) (Zap rfl (Zap rfl rfl))
  refine Zap (dT a2) ?_
  by_cases a3 : 0 <= x.base.term_
  rotate_left
  ·exact ZaC (dF a3) (Zap rfl (Zap rfl rfl))
  refine Zap (dT a3) (Zap rfl (Zap rfl ?_))
  have a4 : ¬ x.base.term_ <= 1073741824 := fun q => by
   unfold Zez at h
   rw [hc, decide_eq_true (p := 0 <= x.base.index /\ x.base.index <= 1073741824) ⟨a1, a2⟩, decide_eq_true (p := 0 <= x.base.term_ /\ x.base.term_ <= 1073741824) ⟨a3, q⟩] at h
   cases h
  exact Zap (by rw [dF a4]; rfl) rfl
end Go.Proofs.YteempnebenjkmaaDoor
