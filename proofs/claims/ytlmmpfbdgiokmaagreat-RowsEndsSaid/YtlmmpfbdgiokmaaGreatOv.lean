/- slices.overlaps, of an array of ours and a list that is told: never. -/
import Derived.Test.YtlmmpfbdgiokmaaGreatX16
import Derived.Lib.Overlaps
namespace Go.Proofs.YtlmmpfbdgiokmaaGreat
open Go.RowKit
set_option linter.unusedSimpArgs false
set_option maxRecDepth 100000
set_option linter.unusedVariables false
variable {T : Nat -> Type}
section
variable {C : Zau T} {P : Program}
theorem ZrG {f : FuncId} {fn : Func} {tS tR e te te' : TypeId} {sz E lo n lo' n' : Nat} {co co' : Option Nat} {kp kp' : Bool} {xs ys : List (T E)} (hf : P.funcs[f]? = some fn) (hname : (fn.name == "runtime.NumGoroutine") = false) (hb : fn.body.isNone = true) (hn : Extern.findNext fn = none) (hx : Extern.find fn = some (Extern.SlicesOverlaps.overlaps #[tS, tS] #[tR]))
 (ht : ZaB P tS = some e) (hsz : Zaw P e = some sz) (hn0 : n ≠ 0) (hy0 : n' ≠ 0) : Tr C P (fun _ => True) f [.as E 0 lo n co, .as E 1 lo' n' co'] [.arr te E kp xs, .arr te' E kp' ys] (.bool false) [.arr te E kp xs, .arr te' E kp' ys] := by
 intro ρ σ vs hs H
 obtain ⟨a, b, rfl, h1, h2⟩ := ZiI.1 hs
 intro w Z hH hV
 have hty := ZaQ ht
 have hz : ∀ w, (Go.sizeOf e).run P w = .ok sz w := fun w => ZcY hsz
 have key : (Extern.SlicesOverlaps.overlaps #[tS, tS] #[tR] #[a.val, b.val]).run P w = .ok (.bool false) w := by
  rcases Zbz.1 h1 with ⟨ad, c, rfl, hA⟩ | ⟨rfl, hq0, _⟩
  rotate_left
  ·exact absurd hq0 hn0
  rcases Zbz.1 h2 with ⟨bd, d, rfl, hB⟩ | ⟨rfl, hq0, _⟩
  rotate_left
  ·exact absurd hq0 hy0
  simp only [AV.val_raw]
  obtain ⟨bb, q1, q2⟩ := hA.at_
  have hle := hA.le
  have had := q2 (by omega)
  subst had
  obtain ⟨bb', q1', q2'⟩ := hB.at_
  have hle' := hB.le
  have had' := q2' (by omega)
  subst had'
  obtain ⟨pre, rest, hb2, hb3, hb4, hb5, hb6⟩ := H.arrAt (i := 0) rfl q1
  obtain ⟨pre', rest', hb2', hb3', hb4', hb5', hb6'⟩ := H.arrAt (i := 1) rfl q1'
  obtain ⟨o1, o2, o3⟩ := hH.own _ _ _ hb2
  obtain ⟨o1', o2', o3'⟩ := hH.own _ _ _ hb2'
  have hpos := C.pos E
  have hne : bb ≠ bb' := fun e => by
   have := H.dist 0 1 _ _ bb rfl rfl rfl rfl (by rw [q1]; rfl) (by rw [q1', <- e]; rfl)
   omega
  have hk : ((pre' ++ rest').map AV.val).toArray.size ≠ 0 := by
   rw [List.size_toArray, List.length_map, hb5']
   have : 0 < (lo' + d) * C.sz E := Nat.mul_pos (by omega) hpos
   omega
  refine Lib.run_overlaps_apart w tS tR e hty sz hz ⟨bb, lo * C.sz E, none⟩ ⟨bb', lo' * C.sz E, none⟩ n c n' d hne te te' ((pre ++ rest).map AV.val).toArray.size ((pre' ++ rest').map AV.val).toArray.size ?_ ?_ hk ?_ ?_
  ·unfold World.shape?
   rw [o2]
  ·unfold World.shape?
   rw [o2']
  ·exact frozen_of_row w bb _ _ te o2
  ·exact frozen_of_row w bb _ _ te o2
 refine .inr ⟨.bool false, w, ?_, .raw (.bool false), σ, by simp, ⟨ρ, Za6.2 rfl, H, .refl _ _ _ _⟩, hH, ZaE _, Grow.refl _ _⟩
 rw [run_callFunc_extern hf hname hb hn hx]
 simp only [List.map_cons, List.map_nil]
 change ((Extern.SlicesOverlaps.overlaps #[tS, tS] #[tR] #[a.val, b.val]).run P w).andThen _ = _
 rw [key]
 rfl
end
end Go.Proofs.YtlmmpfbdgiokmaaGreat
