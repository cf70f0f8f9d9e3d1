/- slices.overlaps, of an array of ours and a list that is told: never. -/
import Derived.Test.YtaihdjknneiciaaGreatX16
import Derived.Lib.Overlaps
namespace Go.Proofs.YtaihdjknneiciaaGreat
open Go.RowKit
set_option linter.unusedSimpArgs false
set_option maxRecDepth 100000
set_option linter.unusedVariables false
variable {T : Nat -> Type}
section
variable {C : Zaz T} {P : Program}
theorem Zxx {f : FuncId} {fn : Func} {tS tR e te : TypeId} {sz E lo n : Nat} {co : Option Nat} {kp : Bool} {xs ys : List (T E)} (hf : P.funcs[f]? = some fn) (hname : (fn.name == "runtime.NumGoroutine") = false) (hb : fn.body.isNone = true) (hn : Extern.findNext fn = none) (hx : Extern.find fn = some (Extern.SlicesOverlaps.overlaps #[tS, tS] #[tR]))
 (ht : ZaJ P tS = some e) (hsz : ZaQ P e = some sz) (hn0 : n ≠ 0) (hy0 : ys.length ≠ 0) : Tr C P (fun _ => True) f [.as E 0 lo n co, .sl E ys none] [.arr te E kp xs] (.bool false) [.arr te E kp xs] := by
 intro ρ σ vs hs H
 obtain ⟨a, b, rfl, h1, h2⟩ := Zjh.1 hs
 intro w Z hH hV
 have hty := ZaP ht
 have hz : ∀ w, (Go.sizeOf e).run P w = .ok sz w := fun w => ZbK hsz
 have key : (Extern.SlicesOverlaps.overlaps #[tS, tS] #[tR] #[a.val, b.val]).run P w = .ok (.bool false) w := by
  obtain ⟨B, cb, cs, rest, rfl, l1, l2, l3, l4, l5⟩ := ZeW.1 h2
  rcases Zbv.1 h1 with ⟨ad, c, rfl, hA⟩ | ⟨rfl, hq0, _⟩
  ·simp only [AV.val_raw, AV.val_lst]
   ·cases B with
    | none => exact absurd (l4 rfl).1 hy0
    | some bd =>
     obtain ⟨bb, q1, q2⟩ := hA.at_
     have hle := hA.le
     have had := q2 (by omega)
     subst had
     obtain ⟨pre, rest', hb2, hb3, hb4, hb5, hb6⟩ := H.arrAt (i := 0) rfl q1
     obtain ⟨o1, o2, o3⟩ := hH.own _ _ _ hb2
     have hlen := l5.len
     rw [ZbE] at hlen
     have hpos := C.pos E
     have hcl : 0 < (cs ++ rest).length := by
      rw [List.length_append, hlen]
      have : 0 < ys.length * C.sz E := Nat.mul_pos (by omega) hpos
      omega
     have hvb := hV (.lst (some bd) ys.length cb (cs ++ rest)) (by simp)
     unfold Zaj at hvb
     have hc0 := ZbL (hvb.2.2 bd rfl) (List.getElem?_eq_getElem hcl)
     have hne : bb ≠ bd.block := fun e => by
      have := hc0.2.1.2.2
      rw [<- e, hb2] at this
      exact this
     have hcell : w.cell? (bd.add 0) = some ((cs ++ rest)[0]).val := hc0.1
     have hblk : (bd.add 0).block = bd.block := by unfold Addr.add; split <;> rfl
     obtain ⟨tB, kB, hsB, hkB⟩ : ∃ tB kB, w.shape? bd.block = some (tB, kB) /\ kB ≠ 0 := by
      unfold World.cell? at hcell
      rw [hblk] at hcell
      unfold World.shape?
      cases hh : w.heap[bd.block]? with
      | none => rw [hh] at hcell; cases hcell
      | some ob =>
       rw [hh] at hcell
       cases ob with
       | cells cc ee ff =>
        refine ⟨ee, cc.size, rfl, fun h0 => ?_⟩
        dsimp only at hcell
        split at hcell
        ·cases hcell
        ·have := (Array.getElem?_eq_some_iff.1 hcell).1
         omega
       | _ => cases hcell
     refine Lib.run_overlaps_apart w tS tR e hty sz hz ⟨bb, lo * C.sz E, none⟩ bd n c ys.length cb hne te tB ((pre ++ rest').map AV.val).toArray.size kB ?_ hsB hkB ?_ ?_
     ·unfold World.shape?
      rw [o2]
     ·exact frozen_of_row w bb _ _ te o2
     ·exact frozen_of_row w bb _ _ te o2
  ·exact absurd hq0 hn0
 refine .inr ⟨.bool false, w, ?_, .raw (.bool false), σ, by simp, ⟨ρ, ZaS.2 rfl, H, .refl _ _ _ _⟩, hH, ZaK _, Grow.refl _ _⟩
 rw [run_callFunc_extern hf hname hb hn hx]
 simp only [List.map_cons, List.map_nil]
 change ((Extern.SlicesOverlaps.overlaps #[tS, tS] #[tR] #[a.val, b.val]).run P w).andThen _ = _
 rw [key]
 rfl
end
end Go.Proofs.YtaihdjknneiciaaGreat
