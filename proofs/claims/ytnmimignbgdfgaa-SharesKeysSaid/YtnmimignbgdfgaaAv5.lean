/- Each operation: sound. -/
import Derived.Test.YtnmimignbgdfgaaAv4
namespace Go.Proofs.Ytnmimignbgdfgaa
open Go.RowKit
set_option maxRecDepth 100000
set_option linter.unusedVariables false

section
variable {P : Program} {w : World} {σ : St} {Z : Nat → Prop} {o : Oper} {a : Act} {K : AV → St → Prop} {Q : Exit → Act → World → Prop}
/-- What stands behind an operation. -/
def Behind (o : Oper) (a : Act) (w : World) (σ : St) (Z : Nat → Prop) (K : AV → St → Prop) (a' : Act) (w' : World) : Prop :=
  ∃ r σ', K r σ' ∧ a' = a.put o.dst r.val ∧ HeapOk w' σ' Z ∧ Valid w' (σ'.free Z) r ∧ Grow w σ w' σ'
theorem done_val {r : AV} {σ' : St} {w' : World} (hr : (execOp a.eval o).run P w = .ok (.value r.val) w') (hK : K r σ') (hH : HeapOk w' σ' Z) (hV : Valid w' (σ'.free Z) r) (hG : Grow w σ w' σ') :
    o.wp P a w (Behind o a w σ Z K) Q := by
  unfold Oper.wp
  rw [hr]
  exact ⟨r, σ', hK, rfl, hH, hV, hG⟩
theorem done_same {r : AV} (hH : HeapOk w σ Z) (hr : (execOp a.eval o).run P w = .ok (.value r.val) w) (hK : K r σ) (hV : Valid w (σ.free Z) r) : o.wp P a w (Behind o a w σ Z K) Q :=
  done_val hr hK hH hV (Grow.refl _ _)
theorem done_skip {σ' : St} {w' : World} (hr : (execOp a.eval o).run P w = .ok .skip w') (hK : K (.raw undef) σ') (hH : HeapOk w' σ' Z) (hG : Grow w σ w' σ') :
    o.wp P a w (Behind o a w σ Z K) Q := by
  unfold Oper.wp
  rw [hr]
  exact ⟨.raw undef, σ', hK, rfl, hH, by unfold Valid; trivial, hG⟩
theorem done_pure {vs : List AV} {v : Value} (hH : HeapOk w σ Z) (hval : o.op.operands.toList.map a.eval = vs.map AV.val) (h : PureRun P o vs v) (hK : K (.raw v) σ) : o.wp P a w (Behind o a w σ Z K) Q :=
  done_same hH (r := .raw v) (by simpa using h a.eval hval w) hK (by unfold Valid; trivial)
theorem run_fieldAt {t : TypeId} {ad : Addr} {f : Nat} {l : List (Nat × Option Nat × Option Bool)} {off n : Nat} {g : Option Bool} (hl : structA P t = some l) (hf : l[f]? = some (off, some (n + 1), g)) :
    (Instr.fieldAt t (.pointer (some ad)) f).run P w = .ok (.pointer (some (ad.add off))) w := by
  unfold structA at hl
  split at hl
  · rename_i fs hu
    injection hl with hl
    subst hl
    rw [List.getElem?_map] at hf
    cases hff : fs.toList[f]? with
    | none => rw [hff] at hf; cases hf
    | some fd =>
      rw [hff] at hf
      injection hf with hf
      injection hf with e1 e2
      injection e2 with e2 e3
      subst e1
      have hff' : fs[f]? = some fd := by simpa using hff
      simp [Instr.fieldAt, Instr.sureAddr, run_underlying hu, hff', fieldPlace, run_sizeOf' e2]
  · cases hl
theorem run_field {t : TypeId} {cells : List AV} {f : Nat} {l : List (Nat × Option Nat × Option Bool)} {off : Nat} {n : Option Nat} {g : Option Bool} {r : AV} (hl : structA P t = some l) (hf : l[f]? = some (off, n, g)) (hc : cellsAt g n cells off = some r) :
    (Instr.field t (AV.agg cells).val f).run P w = .ok r.val w := by
  unfold structA at hl
  split at hl
  · rename_i fs hu
    injection hl with hl
    subst hl
    rw [List.getElem?_map] at hf
    cases hff : fs.toList[f]? with
    | none => rw [hff] at hf; cases hf
    | some fd =>
      rw [hff] at hf
      injection hf with hf
      injection hf with e1 e2
      injection e2 with e2 e3
      subst e1
      have hff' : fs[f]? = some fd := by simpa using hff
      rw [← e2, ← e3] at hc
      unfold cellsAt at hc
      split at hc
      · rename_i n' h1 h2
        split at hc
        · injection hc with hc
          subst hc
          simp [Instr.field, run_underlying hu, hff', part, run_isAgg' h1, run_sizeOf' h2, asAgg]
        · cases hc
      · rename_i h1 h2
        have : ((cells.map AV.val).toArray)[fd.offset]? = some r.val := by simp [hc]
        simp [Instr.field, run_underlying hu, hff', part, run_isAgg' h1, asAgg, hc]
      · cases hc
  · cases hl
theorem run_indexAt {t e : TypeId} {sz : Nat} {ad : Addr} {n c : Nat} {k : IntKind} {j : Nat} (ht : sliceA P t = some e) (hs : sizeA P e = some sz) (hj : j < n) :
    (Instr.indexAt t (.slice (some ad) n c) (.int k j)).run P w = .ok (.pointer (some (ad.add (j * sz)))) w := by
  simp [Instr.indexAt, asIntOf, run_underlying (run_slice' ht), run_sizeOf' hs, hj]
theorem run_sliceBound {k : IntKind} {j y : Nat} {code : BoundsCode} (h : j ≤ y) : (Instr.sliceBound (.int k j) y code).run P w = .ok j w := by
  simp [Instr.sliceBound, asIntOf, h]
theorem run_sliceBounds {n c l h m : Nat} {lo hi mx : Option Operand} {ix : List AV} {ρ : Operand → Value} (hix : (lo.toArray ++ hi.toArray ++ mx.toArray).toList.map ρ = ix.map AV.val) (he : sliceEnds n c lo.isSome hi.isSome mx.isSome ix l h m) (h1 : l ≤ h) (h2 : h ≤ m) (h3 : m ≤ c) :
    (Instr.sliceBounds true n c (lo.map ρ) (hi.map ρ) (mx.map ρ)).run P w = .ok (l, h, m) w := by
  cases lo <;> cases hi <;> cases mx <;> rcases ix with _ | ⟨x, _ | ⟨y, _ | ⟨z, _ | ⟨u, ix⟩⟩⟩⟩ <;> simp only [Option.isSome_none, Option.isSome_some, sliceEnds] at he <;> (try exact he.elim)
  · obtain ⟨rfl, rfl, rfl⟩ := he
    simp [Instr.sliceBounds]
  · obtain ⟨rfl, ⟨k, hx⟩, rfl⟩ := he
    simp [hx] at hix
    simp [Instr.sliceBounds, hix, run_sliceBound h2]
  · obtain ⟨rfl, ⟨k, hx⟩, ⟨k', hy⟩⟩ := he
    simp [hx, hy] at hix
    simp [Instr.sliceBounds, hix, run_sliceBound h2, run_sliceBound h3]
  · obtain ⟨⟨k, hx⟩, rfl, rfl⟩ := he
    simp [hx] at hix
    simp [Instr.sliceBounds, hix, run_sliceBound h1]
  · obtain ⟨⟨k, hx⟩, ⟨k', hy⟩, rfl⟩ := he
    simp [hx, hy] at hix
    simp [Instr.sliceBounds, hix, run_sliceBound h1, run_sliceBound h2]
  · obtain ⟨⟨k, hx⟩, ⟨k', hy⟩, ⟨k'', hz⟩⟩ := he
    simp [hx, hy, hz] at hix
    simp [Instr.sliceBounds, hix, run_sliceBound h1, run_sliceBound h2, run_sliceBound h3]
theorem run_sliceAt {t e : TypeId} {sz : Nat} {A : Option Addr} {n c l h m : Nat} {lo hi mx : Option Operand} {ix : List AV} {ρ : Operand → Value} (ht : sliceA P t = some e) (hs : sizeA P e = some sz) (hix : (lo.toArray ++ hi.toArray ++ mx.toArray).toList.map ρ = ix.map AV.val) (he : sliceEnds n c lo.isSome hi.isSome mx.isSome ix l h m) (h1 : l ≤ h) (h2 : h ≤ m) (h3 : m ≤ c) :
    (Instr.sliceAt t (.slice A n c) (lo.map ρ) (hi.map ρ) (mx.map ρ)).run P w = .ok (.slice (if m = l then A else A.map (·.add (l * sz))) (h - l) (m - l)) w := by
  have hb := run_sliceBounds (P := P) (w := w) hix he h1 h2 h3
  simp [Instr.sliceAt, Instr.slice, run_underlying (run_slice' ht), hb, run_sizeOf' hs]
theorem run_buildSlice {t e : TypeId} {n sz : Nat} {z : Value} {cells : List AV} {parts : List (Nat × AV)} (ht : sliceA P t = some e) (hs : sizeA P e = some sz) (hz : zeroA P e = some z) (hzs : z.cells.size = sz) (hn : n * sz ≤ 16777216)
    (h : aFill (fun i => some (i * sz, sz)) ((List.range (n * sz)).map fun i => .ofV (z.cells[i % sz]!)) parts = some cells) :
    (Instr.buildSlice t n (parts.map fun x => (x.1, x.2.val)).toArray).run P w = .ok (.slice (some ⟨w.heap.size, 0, none⟩) n n) (w.alloc (.cells (cells.map AV.val).toArray e)) := by
  have hf := fill_sound _ _ _ _ h
  have hcond : ¬ n * sz > 2 ^ 24 := by omega
  by_cases h0 : n * sz = 0
  · rw [h0] at hf
    have hr0 : Array.range 0 = #[] := rfl
    have hf' : Instr.fill (fun i => some (i * sz, sz)) #[] (parts.map fun x => (x.1, x.2.val)) = some (cells.map AV.val).toArray := hf
    simp [Instr.buildSlice, run_underlying (run_slice' ht), run_sizeOf' hs, h0, newRow, hr0, hf']
  · have hr : ((Array.range (n * sz)).map fun i => z.cells[i % z.cells.size]!) = (((List.range (n * sz)).map fun i => AV.ofV (z.cells[i % sz]!)).map AV.val).toArray := by
      rw [hzs]
      apply Array.ext'
      simp [Function.comp_def]
    simp only [Instr.buildSlice, Sem.run_bind, run_underlying (run_slice' ht), Result.andThen_ok, run_sizeOf' hs, Sem.run_ite, if_neg hcond, if_neg h0, Sem.run_pure, run_zeroValue' hz, hr, hf]
    simp [newRow]
end
end Go.Proofs.Ytnmimignbgdfgaa
