/- slices.overlaps, of an array of ours and a list that is told: never. -/
import Derived.Test.YtlmmpfbdgiokmaaGreatX16
import Derived.Lib.Overlaps
namespace Go.Proofs.YtlmmpfbdgiokmaaGreat
open Go.RowKit
set_option linter.unusedSimpArgs false
set_option maxRecDepth 100000
set_option linter.unusedVariables false
variable {T : Nat → Type}
section
variable {C : Codec T} {P : Program}
theorem overlaps_tr {f : FuncId} {fn : Func} {tS tR e te : TypeId} {sz E lo n : Nat} {co : Option Nat} {kp : Bool} {xs ys : List (T E)} (hf : P.funcs[f]? = some fn) (hname : (fn.name == "runtime.NumGoroutine") = false) (hb : fn.body.isNone = true) (hn : Extern.findNext fn = none) (hx : Extern.find fn = some (Extern.SlicesOverlaps.overlaps #[tS, tS] #[tR]))
    (ht : sliceA P tS = some e) (hsz : sizeA P e = some sz) (hn0 : n ≠ 0) (hy0 : ys.length ≠ 0) : Tr C P (fun _ => True) f [.as E 0 lo n co, .sl E ys none] [.arr te E kp xs] (.bool false) [.arr te E kp xs] := by
  intro ρ σ vs hs H
  obtain ⟨a, b, rfl, h1, h2⟩ := svs2.1 hs
  intro w Z hH hV
  have hty := run_slice' ht
  have hz : ∀ w, (Go.sizeOf e).run P w = .ok sz w := fun w => run_sizeOf' hsz
  have key : (Extern.SlicesOverlaps.overlaps #[tS, tS] #[tR] #[a.val, b.val]).run P w = .ok (.bool false) w := by
    obtain ⟨B, cb, cs, rest, rfl, l1, l2, l3, l4, l5⟩ := sv_sl.1 h2
    rcases sv_as.1 h1 with ⟨ad, c, rfl, hA⟩ | ⟨rfl, hq0, _⟩
    · simp only [AV.val_raw, AV.val_lst]
      · cases B with
        | none => exact absurd (l4 rfl).1 hy0
        | some bd =>
          obtain ⟨bb, q1, q2⟩ := hA.at_
          have hle := hA.le
          have had := q2 (by omega)
          subst had
          obtain ⟨pre, rest', hb2, hb3, hb4, hb5, hb6⟩ := H.arrAt (i := 0) rfl q1
          obtain ⟨o1, o2, o3⟩ := hH.own _ _ _ hb2
          have hlen := l5.len
          rw [enc_len] at hlen
          have hpos := C.pos E
          have hcl : 0 < (cs ++ rest).length := by
            rw [List.length_append, hlen]
            have : 0 < ys.length * C.sz E := Nat.mul_pos (by omega) hpos
            omega
          have hvb := hV (.lst (some bd) ys.length cb (cs ++ rest)) (by simp)
          unfold Valid at hvb
          have hc0 := valid_cells (hvb.2.2 bd rfl) (List.getElem?_eq_getElem hcl)
          have hne : bb ≠ bd.block := fun e => by
            have := hc0.2.1.2.2
            rw [← e, hb2] at this
            exact this
          have hcell : w.cell? (bd.add 0) = some ((cs ++ rest)[0]).val := hc0.1
          have hblk : (bd.add 0).block = bd.block := by unfold Addr.add; split <;> rfl
          obtain ⟨tB, kB, hsB, hkB⟩ : ∃ tB kB, w.shape? bd.block = some (tB, kB) ∧ kB ≠ 0 := by
            unfold World.cell? at hcell
            rw [hblk] at hcell
            unfold World.shape?
            cases hh : w.heap[bd.block]? with
            | none => rw [hh] at hcell; cases hcell
            | some ob =>
              rw [hh] at hcell
              cases ob with
              | cells cc ee ff =>
                refine ⟨ee, cc.size, rfl, fun h0 => ?_⟩
                dsimp only at hcell
                split at hcell
                · cases hcell
                · have := (Array.getElem?_eq_some_iff.1 hcell).1
                  omega
              | _ => cases hcell
          refine Lib.run_overlaps_apart w tS tR e hty sz hz ⟨bb, lo * C.sz E, none⟩ bd n c ys.length cb hne te tB ((pre ++ rest').map AV.val).toArray.size kB ?_ hsB hkB ?_ ?_
          · unfold World.shape?
            rw [o2]
          · exact frozen_of_row w bb _ _ te o2
          · exact frozen_of_row w bb _ _ te o2
    · exact absurd hq0 hn0
  refine .inr ⟨.bool false, w, ?_, .raw (.bool false), σ, by simp, ⟨ρ, sv_bool.2 rfl, H, .refl _ _ _ _⟩, hH, valid_raw _, Grow.refl _ _⟩
  rw [run_callFunc_extern hf hname hb hn hx]
  simp only [List.map_cons, List.map_nil]
  change ((Extern.SlicesOverlaps.overlaps #[tS, tS] #[tR] #[a.val, b.val]).run P w).andThen _ = _
  rw [key]
  rfl
/-- Of two arrays of ours: never. -/
theorem overlaps2_tr {f : FuncId} {fn : Func} {tS tR e te te' : TypeId} {sz E lo n lo' n' : Nat} {co co' : Option Nat} {kp kp' : Bool} {xs ys : List (T E)} (hf : P.funcs[f]? = some fn) (hname : (fn.name == "runtime.NumGoroutine") = false) (hb : fn.body.isNone = true) (hn : Extern.findNext fn = none) (hx : Extern.find fn = some (Extern.SlicesOverlaps.overlaps #[tS, tS] #[tR]))
    (ht : sliceA P tS = some e) (hsz : sizeA P e = some sz) (hn0 : n ≠ 0) (hy0 : n' ≠ 0) : Tr C P (fun _ => True) f [.as E 0 lo n co, .as E 1 lo' n' co'] [.arr te E kp xs, .arr te' E kp' ys] (.bool false) [.arr te E kp xs, .arr te' E kp' ys] := by
  intro ρ σ vs hs H
  obtain ⟨a, b, rfl, h1, h2⟩ := svs2.1 hs
  intro w Z hH hV
  have hty := run_slice' ht
  have hz : ∀ w, (Go.sizeOf e).run P w = .ok sz w := fun w => run_sizeOf' hsz
  have key : (Extern.SlicesOverlaps.overlaps #[tS, tS] #[tR] #[a.val, b.val]).run P w = .ok (.bool false) w := by
    rcases sv_as.1 h1 with ⟨ad, c, rfl, hA⟩ | ⟨rfl, hq0, _⟩
    rotate_left
    · exact absurd hq0 hn0
    rcases sv_as.1 h2 with ⟨bd, d, rfl, hB⟩ | ⟨rfl, hq0, _⟩
    rotate_left
    · exact absurd hq0 hy0
    simp only [AV.val_raw]
    obtain ⟨bb, q1, q2⟩ := hA.at_
    have hle := hA.le
    have had := q2 (by omega)
    subst had
    obtain ⟨bb', q1', q2'⟩ := hB.at_
    have hle' := hB.le
    have had' := q2' (by omega)
    subst had'
    obtain ⟨pre, rest, hb2, hb3, hb4, hb5, hb6⟩ := H.arrAt (i := 0) rfl q1
    obtain ⟨pre', rest', hb2', hb3', hb4', hb5', hb6'⟩ := H.arrAt (i := 1) rfl q1'
    obtain ⟨o1, o2, o3⟩ := hH.own _ _ _ hb2
    obtain ⟨o1', o2', o3'⟩ := hH.own _ _ _ hb2'
    have hpos := C.pos E
    have hne : bb ≠ bb' := fun e => by
      have := H.dist 0 1 _ _ bb rfl rfl rfl rfl (by rw [q1]; rfl) (by rw [q1', ← e]; rfl)
      omega
    have hk : ((pre' ++ rest').map AV.val).toArray.size ≠ 0 := by
      rw [List.size_toArray, List.length_map, hb5']
      have : 0 < (lo' + d) * C.sz E := Nat.mul_pos (by omega) hpos
      omega
    refine Lib.run_overlaps_apart w tS tR e hty sz hz ⟨bb, lo * C.sz E, none⟩ ⟨bb', lo' * C.sz E, none⟩ n c n' d hne te te' ((pre ++ rest).map AV.val).toArray.size ((pre' ++ rest').map AV.val).toArray.size ?_ ?_ hk ?_ ?_
    · unfold World.shape?
      rw [o2]
    · unfold World.shape?
      rw [o2']
    · exact frozen_of_row w bb _ _ te o2
    · exact frozen_of_row w bb _ _ te o2
  refine .inr ⟨.bool false, w, ?_, .raw (.bool false), σ, by simp, ⟨ρ, sv_bool.2 rfl, H, .refl _ _ _ _⟩, hH, valid_raw _, Grow.refl _ _⟩
  rw [run_callFunc_extern hf hname hb hn hx]
  simp only [List.map_cons, List.map_nil]
  change ((Extern.SlicesOverlaps.overlaps #[tS, tS] #[tR] #[a.val, b.val]).run P w).andThen _ = _
  rw [key]
  rfl
end
end Go.Proofs.YtlmmpfbdgiokmaaGreat
