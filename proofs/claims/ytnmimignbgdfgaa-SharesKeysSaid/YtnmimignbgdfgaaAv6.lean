/- Each operation: sound, all in one. -/
import Derived.Test.YtnmimignbgdfgaaAv5
namespace Go.Proofs.Ytnmimignbgdfgaa
open Go.RowKit
set_option maxRecDepth 100000
set_option linter.unusedVariables false

section
variable {P : Program} {w : World} {σ : St} {Z : Nat → Prop} {o : Oper} {a : Act} {K : AV → St → Prop} {Q : Exit → Act → World → Prop} {env : Env}
theorem CallsA.sound {f : FuncId} {args : List AV} (h : CallsA P f args σ K) (hH : HeapOk w σ Z) (hV : ∀ x ∈ args, Valid w (σ.free Z) x) {vs : Array Value} (hvs : vs = (args.map AV.val).toArray)
    (hr : (execOp a.eval o).run P w = .ok (.enter f vs) w) : o.wp P a w (Behind o a w σ Z K) Q := by
  unfold Oper.wp
  rw [hr, Oper.upon_enter, hvs]
  refine (h.2 w Z hH hV).mono ?_
  rintro e w' ⟨r, σ', rfl, hK, hH', hV', hG⟩
  exact ⟨r, σ', hK, rfl, hH', hV', hG⟩
theorem run_call {c : Call} {f : Operand} {g : FuncId} {first cap : Array Value} (ho : o.op = .call c) (hc : c.callee = .value f) (hf : a.eval f = .func (.func g) first cap) (hg : callable P g = true) :
    (execOp a.eval o).run P w = .ok (.enter g (first ++ c.args.map a.eval ++ cap)) w := by
  unfold callable at hg
  cases hfn : P.funcs[g]? with
  | none => rw [hfn] at hg; cases hg
  | some fn =>
    rw [hfn] at hg
    simp only [Bool.and_eq_true, bne_iff_ne, ne_eq] at hg
    obtain ⟨hb, hn⟩ := hg
    have hb' : fn.body ≠ none := by
      intro h
      rw [h] at hb; cases hb
    simp [execOp, ho, resolve, hc, hf, Deferred.ofValue, invoke, callFunc, hfn, hn, hb']

theorem aVal_sound (hH : HeapOk w σ Z) (hval : ∀ x, a.eval x = (ev env x).val ∧ Valid w (σ.free Z) (ev env x))
    (h : aVal P o (o.op.operands.toList.map (ev env)) σ K) : o.wp P a w (Behind o a w σ Z K) Q := by
  have hmap : ∀ l : List Operand, l.map a.eval = (l.map (ev env)).map AV.val := fun l => by
    rw [List.map_map]
    exact List.map_congr_left fun x _ => (hval x).1
  have hpure : ∀ v, PureRun P o (o.op.operands.toList.map (ev env)) v → K (.raw v) σ → o.wp P a w (Behind o a w σ Z K) Q := fun v h1 h2 => done_pure hH (hmap _) h1 h2
  have hexec : ExecA P o (o.op.operands.toList.map (ev env)) σ K → o.wp P a w (Behind o a w σ Z K) Q := fun h => by
    obtain ⟨r, σ', w', hr, hK, hH', hV', hG⟩ := h a.eval (hmap _) w Z hH (fun v hv => by
      simp only [List.mem_map] at hv
      obtain ⟨x, _, rfl⟩ := hv
      exact (hval x).2)
    rcases hr with hr | ⟨hr, rfl⟩
    · exact done_val hr hK hH' hV' hG
    · exact done_skip hr hK hH' hG
  generalize hvs : o.op.operands.toList.map (ev env) = vs at h hpure hexec
  unfold aVal at h
  split at h
  · -- move
    rename_i ho
    simp only [ho, Op.operands, List.map_cons, List.map_nil, List.cons.injEq, and_true] at hvs
    rename_i x _ _
    subst hvs
    exact done_same hH (by simp [execOp, ho, (hval _).1]) h (hval _).2
  · rename_i ho
    simp only [ho, Op.operands, List.map_cons, List.map_nil, List.cons.injEq, and_true] at hvs
    subst hvs
    exact done_same hH (by simp [execOp, ho, (hval _).1]) h (hval _).2
  · -- pick
    rename_i ho
    simp only [ho, Op.operands, List.map_cons, List.map_nil, List.cons.injEq, and_true] at hvs
    obtain ⟨rfl, rfl, rfl⟩ := hvs
    obtain ⟨t, h1, h2⟩ := h
    refine done_same hH ?_ h2 (by split <;> exact (hval _).2)
    simp [execOp, ho, (hval _).1, h1, asBool]
    cases t <;> rfl
  · -- alloc
    rename_i e ho
    obtain ⟨z, hz, h⟩ := h
    obtain ⟨f1, f2⟩ := hH.fresh
    have hcv : (AV.ofV z).cells.map AV.val = z.cells.toList := by rw [AV.cells_val, AV.val_ofV]
    refine done_val (r := ptr w.heap.size 0) (w' := w.alloc (.cells ((AV.ofV z).cells.map AV.val).toArray e)) ?_ (h _ f1 f2) (hH.alloc_own _ _ (raw_cells_valid z)) (by unfold Valid ptr; trivial) (Grow.alloc hH _ _)
    simp [execOp, ho, Instr.alloc, run_zeroValue' hz, newVar, newRow, ptr, hcv]
  · -- box
    rename_i e _ x ho
    simp only [ho, Op.operands, List.map_cons, List.map_nil, List.cons.injEq, and_true] at hvs
    subst hvs
    obtain ⟨f1, f2⟩ := hH.fresh
    have hcv := AV.cells_val (ev env ‹_›)
    refine done_val (r := ptr w.heap.size 0) (w' := w.alloc (.cells (((ev env ‹_›).cells).map AV.val).toArray e)) ?_ (h _ f1 f2) (hH.alloc_own _ _ (hval _).2.cells) (by unfold Valid ptr; trivial) (Grow.alloc hH _ _)
    simp [execOp, ho, Instr.box, newVar, newRow, ptr, hcv, (hval _).1]
  · -- build
    rename_i t parts ho
    subst hvs
    obtain ⟨z, pl, cells, hz, hp, hf, hK⟩ := h
    have hvs' : o.op.operands.toList.map (ev env) = (parts.toList.map (·.2)).map (ev env) := by rw [ho]; simp [Op.operands]
    have hb := built_sound hz hp hf
    rw [zip_vals, hvs', ← hmap, zip_parts] at hb
    refine done_same hH ?_ hK ?_
    · have := run_build (P := P) w t (parts.map fun x => (x.1, a.eval x.2)) _ (by simpa using hb)
      simp only [execOp, ho, Sem.run_bind]
      rw [show (parts.map fun (x : Nat × Operand) => match x with | (i, x) => (i, a.eval x)) = (parts.map fun x => (x.1, a.eval x.2)) from rfl, this]
      simp
    · unfold Valid
      refine Valids.iff.2 (aFill_valid _ _ _ _ hf (raw_cells_valid z) fun p hp' => ?_)
      have := (List.of_mem_zip hp').2
      rw [hvs'] at this
      simp only [List.mem_map] at this
      obtain ⟨x, _, hx⟩ := this
      rw [← hx]; exact (hval _).2
  · -- buildSlice
    rename_i t n parts ho
    subst hvs
    obtain ⟨e, sz, z, cells, ht, hs, hz, hzs, hn, hf, hK⟩ := h
    have hvs' : o.op.operands.toList.map (ev env) = (parts.toList.map (·.2)).map (ev env) := by rw [ho]; simp [Op.operands]
    obtain ⟨f1, f2⟩ := hH.fresh
    have hr := run_buildSlice (P := P) (w := w) ht hs hz hzs hn hf
    rw [zip_vals, hvs', ← hmap, zip_parts] at hr
    have hcv : ∀ c ∈ cells, Valid w (σ.free Z) c := aFill_valid _ _ _ _ hf (by
      intro c hc
      simp only [List.mem_map] at hc
      obtain ⟨i, _, rfl⟩ := hc
      exact ofV_valid _) fun p hp' => by
        have := (List.of_mem_zip hp').2
        rw [hvs'] at this
        simp only [List.mem_map] at this
        obtain ⟨x, _, hx⟩ := this
        rw [← hx]; exact (hval _).2
    have hlen : cells.length = n * sz := by
      have := aFill_length _ _ _ _ hf
      simpa using this
    refine done_val (r := .lst (some ⟨w.heap.size, 0, none⟩) n n cells) ?_ (hK _ f1 f2) (by rw [← hlen]; exact hH.alloc_tail e cells cells.length (Nat.le_refl _)) ?_ (Grow.alloc hH _ _)
    · have : (Array.map (fun x => (x.1, a.eval x.2)) parts) = (parts.toList.map fun x => (x.1, a.eval x.2)).toArray := by apply Array.ext'; simp
      simp only [execOp, ho]
      rw [show (parts.map fun (x : Nat × Operand) => match x with | (i, x) => (i, a.eval x)) = (parts.toList.map fun x => (x.1, a.eval x.2)).toArray from this]
      simp [hr]
    · unfold Valid
      refine ⟨Nat.le_refl _, fun h => by (cases h), fun ad had => ?_⟩
      injection had with had
      subst had
      exact valid_new_row hH e cells _ hcv (by omega) _
  · -- load
    rename_i t _ x ho
    simp only [ho, Op.operands, List.map_cons, List.map_nil, List.cons.injEq, and_true] at hvs
    subst hvs
    obtain ⟨r, h1, h2⟩ := h
    obtain ⟨h3, h4⟩ := aLoad_sound hH (hval _).2 h1
    exact done_same hH (by simp [execOp, ho, (hval _).1, h3]) h2 h4
  · -- store
    rename_i t _ _ x y ho
    simp only [ho, Op.operands, List.map_cons, List.map_nil, List.cons.injEq, and_true] at hvs
    obtain ⟨rfl, rfl⟩ := hvs
    obtain ⟨σ', h1, h2⟩ := h
    obtain ⟨w', h3, h4, h5⟩ := aStore_sound hH (hval _).2 h1
    exact done_skip (by simp [execOp, ho, (hval _).1, h3]) h2 h4 h5
  · -- nilCheck
    rename_i _ x ho
    simp only [ho, Op.operands, List.map_cons, List.map_nil, List.cons.injEq, and_true] at hvs
    subst hvs
    obtain ⟨h1, h2⟩ := h
    refine done_same hH ?_ h2 (hval _).2
    simp only [execOp, ho, (hval _).1]
    unfold isSome' at h1
    split at h1
    · rename_i he; rw [he]; simp
    · rename_i he; rw [he]; simp
    · rename_i he; rw [he]; simp
    · cases h1
  · -- extract
    rename_i _ i l ho
    simp only [ho, Op.operands, List.map_cons, List.map_nil, List.cons.injEq, and_true] at hvs
    obtain ⟨r, h1, h2⟩ := h
    refine done_same hH ?_ h2 ?_
    · simp [execOp, ho, (hval _).1, hvs, Instr.extract, h1]
    · have := (hval ‹Operand›).2
      rw [hvs] at this
      unfold Valid at this
      exact Valids.iff.1 this r (List.mem_of_getElem? h1)
  · -- fieldAddr, of an element
    rename_i t _ f ad cells ho
    simp only [ho, Op.operands, List.map_cons, List.map_nil, List.cons.injEq, and_true] at hvs
    obtain ⟨l, off, n, g, h1, h2, h3⟩ := h
    refine done_same hH ?_ h3 ?_
    · simp [execOp, ho, (hval _).1, hvs, run_fieldAt h1 h2]
    · have := (hval ‹Operand›).2
      rw [hvs] at this
      unfold Valid at this ⊢
      exact this.drop off
  · rename_i t _ f ad ho
    simp only [ho, Op.operands, List.map_cons, List.map_nil, List.cons.injEq, and_true] at hvs
    obtain ⟨l, off, n, g, h1, h2, h3⟩ := h
    refine done_same hH ?_ h3 (by unfold Valid; trivial)
    simp [execOp, ho, (hval _).1, hvs, run_fieldAt h1 h2]
  · -- field
    rename_i t _ f cells ho
    simp only [ho, Op.operands, List.map_cons, List.map_nil, List.cons.injEq, and_true] at hvs
    obtain ⟨l, off, n, g, r, h1, h2, h3, h4⟩ := h
    refine done_same hH ?_ h4 ?_
    · have := run_field (P := P) (w := w) h1 h2 h3
      simp only [execOp, ho, (hval _).1, hvs, Sem.run_bind, this, Result.andThen_ok]
      rfl
    · have := (hval ‹Operand›).2
      rw [hvs] at this
      unfold Valid at this
      exact cellsAt_valid h3 (Valids.iff.1 this)
  · -- indexAddr
    rename_i t _ _ ad n c cells i ho
    simp only [ho, Op.operands, List.map_cons, List.map_nil, List.cons.injEq, and_true] at hvs
    obtain ⟨hx, rfl⟩ := hvs
    obtain ⟨e, sz, k, j, h1, h2, h3, h4, h5⟩ := h
    rename_i ox oi
    have hv := (hval ox).2
    rw [hx] at hv
    unfold Valid at hv
    obtain ⟨hv1, hv2, hv3⟩ := hv
    refine done_same hH ?_ h5 ?_
    · simp [execOp, ho, (hval _).1, hx, h3, run_indexAt h1 h2 h4]
    · unfold Valid
      exact (hv3 ad rfl).drop _
  · -- slice
    rename_i t _ lo hi mx x ix ho
    rename_i ox
    have hops : o.op.operands.toList = ox :: (lo.toArray ++ hi.toArray ++ mx.toArray).toList := by rw [ho]; simp [Op.operands]
    rw [hops, List.map_cons] at hvs
    injection hvs with hx hix
    split at h
    · rename_i A n c cells
      obtain ⟨e, sz, h1, h2, l, h', m, h3, h4, h5, h6, h7⟩ := h
      have hv := (hval ox).2
      rw [hx] at hv
      unfold Valid at hv
      obtain ⟨hv1, hv2, hv3⟩ := hv
      refine done_same hH ?_ h7 ?_
      · have := run_sliceAt (P := P) (w := w) (A := A) h1 h2 (by rw [hmap, hix]) h3 h4 h5 h6
        simp only [execOp, ho, (hval _).1, hx, AV.val_lst, Sem.run_bind, this, Result.andThen_ok]
        rfl
      · unfold Valid
        refine ⟨by omega, fun hn => ?_, fun ad had => ?_⟩
        · split at hn
          · subst hn
            obtain ⟨g1, g2, g3⟩ := hv2 rfl
            subst g1 g2 g3
            refine ⟨by omega, by omega, by simp⟩
          · cases A with
            | none =>
              obtain ⟨g1, g2, g3⟩ := hv2 rfl
              subst g1 g2 g3
              refine ⟨by omega, by omega, by simp⟩
            | some ad => cases hn
        · split at had
          · rw [if_pos ‹_›]; unfold ValidAt; trivial
          · rw [if_neg ‹_›]
            cases A with
            | none => cases had
            | some ad' =>
              injection had with had
              subst had
              exact (hv3 ad' rfl).drop _
    · obtain ⟨v, h1, h2⟩ := h
      exact hpure v h1 h2
  · -- call
    rename_i vs c ho
    split at h
    · rename_i fo f args hc
      obtain ⟨g, first, cap, h1, h2⟩ := h
      have hops : o.op.operands.toList = fo :: c.args.toList := by rw [ho]; simp [Op.operands, Call.operands, hc]
      rw [hops, List.map_cons] at hvs
      injection hvs with hx hix
      have hev : a.eval fo = .func (.func g) first cap := by rw [(hval _).1, hx, h1]
      refine h2.sound hH ?_ ?_ (run_call ho hc hev h2.1)
      · intro x hx'
        simp only [List.mem_append, List.mem_map] at hx'
        rcases hx' with (⟨v, _, rfl⟩ | hx') | ⟨v, _, rfl⟩
        · unfold Valid; trivial
        · rw [← hix] at hx'
          simp only [List.mem_map] at hx'
          obtain ⟨y, _, rfl⟩ := hx'
          exact (hval _).2
        · unfold Valid; trivial
      · apply Array.ext'
        simp only [Array.toList_append, Array.toList_map, List.map_append, List.map_map]
        rw [← hix, ← hmap]
        simp [Function.comp_def]
    · rcases h with ⟨v, h1, h2⟩ | ⟨_, h⟩
      · exact hpure v h1 h2
      · exact hexec h
  · rcases h with ⟨v, h1, h2⟩ | ⟨_, h⟩
    · exact hpure v h1 h2
    · exact hexec h
end
end Go.Proofs.Ytnmimignbgdfgaa
