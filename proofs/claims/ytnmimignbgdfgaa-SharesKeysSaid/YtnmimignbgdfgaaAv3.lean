/- What an operation does in the model is what was said of it. -/
import Derived.Test.YtnmimignbgdfgaaAv2
import Derived.Laws.CopyRow
namespace Go.Proofs.Ytnmimignbgdfgaa
open Go.RowKit
set_option maxRecDepth 100000
set_option linter.unusedVariables false

section
variable {P : Program} {w : World} {σ : St} {Z : Nat → Prop}
theorem HeapOk.fresh (h : HeapOk w σ Z) : ¬ σ.used w.heap.size ∧ σ.blk w.heap.size = none := by
  refine ⟨fun hu => Nat.lt_irrefl _ (h.used _ hu), ?_⟩
  cases hb : σ.blk w.heap.size with
  | none => rfl
  | some x =>
    exfalso
    cases x with
    | own t cs => exact Nat.lt_irrefl _ (h.used _ (h.own _ _ _ hb).1)
    | tail t k s => exact Nat.lt_irrefl _ (h.used _ (h.tail _ _ _ _ hb).1)
theorem Grow.alloc (h : HeapOk w σ Z) (o : Obj) (k : Bk) : Grow w σ (w.alloc o) (σ.put w.heap.size k) := by
  refine ⟨rfl, rfl, rfl, by simp, fun b hb hu => ?_, fun b hb hn => ⟨Below.heap_alloc _ _ _ hb, ?_⟩, fun b t k s hb ht => ⟨fun j v _ hv => ?_, .inr ⟨t, k, s, ?_, Nat.le_refl _⟩⟩, fun b hu => .inl hu⟩
  · rcases hu with hu | rfl
    · exact hu
    · exact absurd hb (Nat.lt_irrefl _)
  · show (if b = w.heap.size then _ else σ.blk b) = _
    rw [if_neg (by omega)]
    exact hn
  · rw [World.cell?_of_block (w := w) (Below.heap_alloc _ _ _ hb)]
    exact hv
  · show (if b = w.heap.size then _ else σ.blk b) = _
    rw [if_neg (by omega)]
    exact ht
theorem HeapOk.alloc_own (h : HeapOk w σ Z) (t : TypeId) (cs : List AV) (hv : ∀ c ∈ cs, Valid w (σ.free Z) c) :
    HeapOk (w.alloc (.cells (cs.map AV.val).toArray t)) (σ.put w.heap.size (.own t cs)) Z := by
  have hg := Grow.alloc h (.cells (cs.map AV.val).toArray t) (.own t cs)
  refine ⟨fun b hu => ?_, fun b hz => ?_, fun b t' cs' hb => ?_, fun b t' k s hb => ?_⟩
  · simp only [World.size_alloc]
    rcases hu with hu | rfl
    · have := h.used _ hu; omega
    · omega
  · obtain ⟨h1, h2⟩ := h.z _ hz
    refine ⟨by simp only [World.size_alloc]; omega, ?_⟩
    show (if b = w.heap.size then _ else σ.blk b) = _
    rw [if_neg (by omega)]
    exact h2
  · change (if b = w.heap.size then some (Bk.own t cs) else σ.blk b) = _ at hb
    split at hb
    · rename_i e
      injection hb with hb
      injection hb with e1 e2
      subst e1 e2 e
      exact ⟨.inr rfl, heap_alloc_new _ _, fun c hc => hg.valid (hv c hc)⟩
    · obtain ⟨h1, h2, h3⟩ := h.own _ _ _ hb
      exact ⟨.inl h1, (Below.heap_alloc _ _ _ (h.used _ h1)).trans h2, fun c hc => hg.valid (h3 c hc)⟩
  · change (if b = w.heap.size then some (Bk.own t cs) else σ.blk b) = _ at hb
    split at hb
    · injection hb with hb; cases hb
    · obtain ⟨h1, cs', h2, h3⟩ := h.tail _ _ _ _ hb
      exact ⟨.inl h1, cs', (Below.heap_alloc _ _ _ (h.used _ h1)).trans h2, h3⟩
theorem HeapOk.alloc_tail (h : HeapOk w σ Z) (t : TypeId) (cs : List AV) (k : Nat) (hk : k ≤ cs.length) :
    HeapOk (w.alloc (.cells (cs.map AV.val).toArray t)) (σ.put w.heap.size (.tail t k cs.length)) Z := by
  have hg := Grow.alloc h (.cells (cs.map AV.val).toArray t) (.tail t k cs.length)
  refine ⟨fun b hu => ?_, fun b hz => ?_, fun b t' cs' hb => ?_, fun b t' k' s hb => ?_⟩
  · simp only [World.size_alloc]
    rcases hu with hu | rfl
    · have := h.used _ hu; omega
    · omega
  · obtain ⟨h1, h2⟩ := h.z _ hz
    refine ⟨by simp only [World.size_alloc]; omega, ?_⟩
    show (if b = w.heap.size then _ else σ.blk b) = _
    rw [if_neg (by omega)]
    exact h2
  · change (if b = w.heap.size then some (Bk.tail t k cs.length) else σ.blk b) = _ at hb
    split at hb
    · injection hb with hb; cases hb
    · obtain ⟨h1, h2, h3⟩ := h.own _ _ _ hb
      exact ⟨.inl h1, (Below.heap_alloc _ _ _ (h.used _ h1)).trans h2, fun c hc => hg.valid (h3 c hc)⟩
  · change (if b = w.heap.size then some (Bk.tail t k cs.length) else σ.blk b) = _ at hb
    split at hb
    · rename_i e
      injection hb with hb
      injection hb with e1 e2 e3
      subst e1 e2 e3 e
      exact ⟨.inr rfl, _, heap_alloc_new _ _, by simp, hk⟩
    · obtain ⟨h1, cs', h2, h3⟩ := h.tail _ _ _ _ hb
      exact ⟨.inl h1, cs', (Below.heap_alloc _ _ _ (h.used _ h1)).trans h2, h3⟩
/-- The new row's own cells. -/
theorem valid_new_row (h : HeapOk w σ Z) (t : TypeId) (cs : List AV) (k : Nat) (hv : ∀ c ∈ cs, Valid w (σ.free Z) c) (hk : cs.length ≤ k) (s : Nat) :
    ValidAt (w.alloc (.cells (cs.map AV.val).toArray t)) ((σ.put w.heap.size (.tail t k s)).free Z) ⟨w.heap.size, 0, none⟩ 0 cs := by
  have hg := Grow.alloc h (.cells (cs.map AV.val).toArray t) (.tail t k s)
  refine ValidAt.mk fun i d hd => ?_
  have hi : i < cs.length := (List.getElem?_eq_some_iff.1 hd).1
  rw [add_off_, Nat.zero_add]
  refine ⟨?_, ⟨fun hz => ?_, .inr rfl, ?_⟩, hg.valid (hv d (List.mem_of_getElem? hd))⟩
  · rw [Nat.zero_add, cellNew]
    simp [hd]
  · exact absurd (h.z _ hz).1 (Nat.lt_irrefl _)
  · show match (if w.heap.size = w.heap.size then some (Bk.tail t k s) else σ.blk w.heap.size) with | none => True | some (.own _ _) => False | some (.tail _ k _) => (⟨w.heap.size, 0, none⟩ : Addr).off + i < k
    rw [if_pos rfl]
    show 0 + i < k
    omega

theorem cellsAt_valid {B : Nat → Nat → Prop} {t : Option Bool} {n : Option Nat} {cells : List AV} {o : Nat} {r : AV} (h : cellsAt t n cells o = some r) (hv : ∀ c ∈ cells, Valid w B c) : Valid w B r := by
  unfold cellsAt at h
  split at h
  · split at h
    · injection h with h
      subst h
      unfold Valid
      exact Valids.iff.2 fun a ha => hv a (List.mem_of_mem_drop (List.mem_of_mem_take ha))
    · cases h
  · exact hv r (List.mem_of_getElem? h)
  · cases h
theorem run_isAgg' {t : TypeId} {g : Bool} (h : aggA P t = some g) : (isAgg t).run P w = .ok g w := by
  unfold aggA at h
  cases hu : P.underlying t with
  | none => rw [hu] at h; cases h
  | some d =>
    rw [hu] at h
    injection h with h
    subst h
    unfold isAgg
    rw [Sem.run_bind, run_underlying hu]
    cases d <;> rfl
theorem run_sizeOf' {t : TypeId} {n : Nat} (h : sizeA P t = some n) : (sizeOf t).run P w = .ok n w := by
  unfold sizeA at h
  cases hi : P.info? t with
  | none => rw [hi] at h; cases h
  | some i =>
    rw [hi] at h
    injection h with h
    subst h
    simp [sizeOf, typeInfo, hi]
theorem run_zeroValue' {t : TypeId} {z : Value} (h : zeroA P t = some z) : (zeroValue t).run P w = .ok z w := by
  unfold zeroA at h
  cases hi : P.info? t with
  | none => rw [hi] at h; cases h
  | some i =>
    rw [hi] at h
    simp only [Option.bind_some] at h
    simp [zeroValue, typeInfo, hi, h]
theorem run_slice' {t e : TypeId} (h : sliceA P t = some e) : P.underlying t = some (.slice e) := by
  unfold sliceA at h
  split at h
  · rename_i e' he
    injection h with h
    subst h
    exact he
  · cases h
theorem run_loadVar_cells {t : TypeId} {ad : Addr} {cells : List AV} {o : Nat} {r : AV} (h : cellsAt (aggA P t) (sizeA P t) cells o = some r)
    (hc : ∀ j d, cells[o + j]? = some d → w.cell? (ad.add j) = some d.val) : (loadVar t ad).run P w = .ok r.val w := by
  unfold cellsAt at h
  split at h
  · rename_i n ht hn
    split at h
    · rename_i hl
      injection h with h
      subst h
      have := run_loadCells_list (P := P) w ad (((cells.drop o).take n).map AV.val) (fun j v hv => by
        rw [List.getElem?_map] at hv
        cases hd : ((cells.drop o).take n)[j]? with
        | none => rw [hd] at hv; cases hv
        | some d =>
          rw [hd] at hv
          injection hv with hv
          subst hv
          refine hc j d ?_
          rw [List.getElem?_take] at hd
          split at hd
          · rw [List.getElem?_drop] at hd; exact hd
          · cases hd)
      have hlen : (((cells.drop o).take n).map AV.val).length = n := by simp; omega
      rw [hlen] at this
      unfold loadVar
      rw [Sem.run_bind, run_isAgg' ht]
      simp only [Result.andThen_ok, if_true]
      rw [Sem.run_bind, run_sizeOf' hn]
      simp only [Result.andThen_ok]
      rw [Sem.run_bind, this]
      simp
    · cases h
  · rename_i n ht hn
    have := hc 0 r (by simpa using h)
    unfold loadVar
    rw [Sem.run_bind, run_isAgg' ht]
    simp only [Result.andThen_ok, Bool.false_eq_true, if_false]
    rw [run_load]
    have h0 : ad.add 0 = ad := by simp [Addr.add]
    rw [h0] at this
    rw [this]
  · cases h
theorem own_cells (h : HeapOk w σ Z) {b : Nat} {t : TypeId} {cs : List AV} (hb : σ.blk b = some (.own t cs)) (o j : Nat) {d : AV} (hd : cs[o + j]? = some d) : w.cell? ((⟨b, o, none⟩ : Addr).add j) = some d.val := by
  rw [add_off_]
  obtain ⟨_, h2, _⟩ := h.own _ _ _ hb
  simp [World.cell?, h2, hd]
theorem aLoad_sound (hH : HeapOk w σ Z) {t : TypeId} {a r : AV} (ha : Valid w (σ.free Z) a) (h : aLoad P t σ a = some r) :
    (Instr.loadAt t a.val).run P w = .ok r.val w ∧ Valid w (σ.free Z) r := by
  unfold aLoad at h
  split at h
  · rename_i b o
    split at h
    · rename_i e cs hb
      have hv := (hH.own _ _ _ hb).2.2
      refine ⟨?_, cellsAt_valid h hv⟩
      have := run_loadVar_cells (P := P) (w := w) (ad := ⟨b, o, none⟩) h (fun j d hd => own_cells hH hb o j hd)
      simpa [Instr.loadAt, Instr.sureAddr] using this
    · cases h
  · rename_i ad cells
    unfold Valid at ha
    have hg : ∀ j d, cells[j]? = some d → w.cell? (ad.add j) = some d.val ∧ Valid w (σ.free Z) d := fun j d hd => by
      have := ha.get hd
      rw [Nat.zero_add] at this
      exact ⟨this.1, this.2.2⟩
    refine ⟨?_, cellsAt_valid h fun c hc => ?_⟩
    · have := run_loadVar_cells (P := P) (w := w) (ad := ad) h (fun j d hd => (hg j d (by simpa using hd)).1)
      simpa [Instr.loadAt, Instr.sureAddr] using this
    · obtain ⟨j, hj⟩ := List.getElem?_of_mem hc
      exact (hg j c hj).2
  · cases h
theorem not_tup {x : AV} (h : notTup x = true) : ∀ l, x ≠ .tup l := by
  intro l e
  subst e
  cases h
theorem ofV1_valid {w : World} {B : Nat → Nat → Prop} (v : Value) : Valid w B (AV.ofV1 v) := by
  unfold AV.ofV1
  split
  · unfold Valid; exact ⟨Nat.le_refl _, fun _ => ⟨rfl, rfl, rfl⟩, fun ad h => by cases h⟩
  · unfold Valid; trivial
theorem ofV_valid {w : World} {B : Nat → Nat → Prop} (v : Value) : Valid w B (AV.ofV v) := by
  unfold AV.ofV
  split
  · unfold Valid
    refine Valids.iff.2 fun a ha => ?_
    simp only [List.mem_map] at ha
    obtain ⟨v, _, rfl⟩ := ha
    exact ofV1_valid v
  · exact ofV1_valid _
theorem Valid.cells {B : Nat → Nat → Prop} {x : AV} (h : Valid w B x) : ∀ c ∈ x.cells, Valid w B c := by
  intro c hc
  unfold AV.cells at hc
  split at hc
  · unfold Valid at h; exact Valids.iff.1 h c hc
  · simp only [List.mem_map] at hc
    obtain ⟨v, _, rfl⟩ := hc
    exact ofV1_valid v
  · simp only [List.mem_singleton] at hc
    subst hc; exact h
theorem aStore_sound (hH : HeapOk w σ Z) {t : TypeId} {a x : AV} {σ' : St} (hx : Valid w (σ.free Z) x) (h : aStore P t σ a x = some σ') :
    ∃ w', (Instr.storeAt t a.val x.val).run P w = .ok () w' ∧ HeapOk w' σ' Z ∧ Grow w σ w' σ' := by
  unfold aStore at h
  split at h
  · rename_i b o
    unfold aStoreAt at h
    split at h
    · rename_i e cs n hb hn
      split at h
      · rename_i hcond
        injection h with h
        subst h
        simp only [Bool.and_eq_true, decide_eq_true_eq] at hcond
        obtain ⟨⟨⟨h1, h2⟩, h3⟩, h4⟩ := hcond
        have h2 : x.cells.length = n := by simpa using h2
        have hcv := AV.cells_val x
        obtain ⟨hu, hh, hvs⟩ := hH.own _ _ _ hb
        have hlt := hH.used _ hu
        have hst := run_storeCells_at P b o e (x.cells.map AV.val) 0 (cs.map AV.val).toArray w hh (by simp [h2]; omega) (fun v hv => by
          simp only [List.mem_map] at hv
          obtain ⟨c, hc, rfl⟩ := hv
          exact AV.one_val (List.all_eq_true.1 h3 c hc))
        have harr : ((cs.map AV.val).toArray.toList.take (o + 0) ++ x.cells.map AV.val ++ (cs.map AV.val).toArray.toList.drop (o + 0 + (x.cells.map AV.val).length)).toArray = ((splice cs o x.cells).map AV.val).toArray := by
          simp [splice]
        rw [harr] at hst
        have hg : Grow w σ (w.setRow b ((splice cs o x.cells).map AV.val).toArray) (σ.set b (.own e (splice cs o x.cells))) := by
          refine ⟨rfl, rfl, rfl, by simp [World.setRow], fun _ _ h => h, fun b' hb' hn' => ?_, fun b' t' k s hb' ht' => ?_, fun _ h => h⟩
          · have hne : b' ≠ b := by rintro rfl; rw [hb] at hn'; cases hn'
            exact ⟨setRow_other _ _ _ _ hne, by show (if b' = b then _ else σ.blk b') = _; rw [if_neg hne]; exact hn'⟩
          · have hne : b' ≠ b := by rintro rfl; rw [hb] at ht'; cases ht'
            refine ⟨fun j v _ hv => ?_, .inr ⟨t', k, s, ?_, Nat.le_refl _⟩⟩
            · rw [World.cell?_of_block (w := w) (setRow_other _ _ _ _ hne)]; exact hv
            · show (if b' = b then _ else σ.blk b') = _
              rw [if_neg hne]; exact ht'
        refine ⟨w.setRow b ((splice cs o x.cells).map AV.val).toArray, ?_, ?_, hg⟩
        · rw [hcv] at hst
          have hsz : ¬ x.val.cells.size ≠ n := by
            have := congrArg List.length hcv
            simp at this
            omega
          simp only [Instr.storeAt, Instr.sureAddr, AV.val_raw, storeVar, Sem.run_bind, run_sizeOf' hn, Result.andThen_ok, Sem.run_pure, Sem.run_ite, if_neg hsz]
          exact hst
        · skip
          refine ⟨fun b' hu' => ?_, fun b' hz => ?_, fun b' t' cs' hb' => ?_, fun b' t' k s hb' => ?_⟩
          · have := hH.used _ hu'; simpa [World.setRow] using this
          · obtain ⟨z1, z2⟩ := hH.z _ hz
            have hne : b' ≠ b := by rintro rfl; rw [hb] at z2; cases z2
            refine ⟨by simpa [World.setRow] using z1, ?_⟩
            show (if b' = b then _ else σ.blk b') = _
            rw [if_neg hne]; exact z2
          · change (if b' = b then some (Bk.own e (splice cs o x.cells)) else σ.blk b') = _ at hb'
            split at hb'
            · rename_i hbb
              injection hb' with hb'
              injection hb' with e1 e2
              subst e1 e2 hbb
              refine ⟨hu, setRow_heap _ _ _ _ _ _ hh, fun c hc => hg.valid ?_⟩
              unfold splice at hc
              simp only [List.mem_append] at hc
              rcases hc with (hc | hc) | hc
              · exact hvs c (List.mem_of_mem_take hc)
              · exact hx.cells c hc
              · exact hvs c (List.mem_of_mem_drop hc)
            · rename_i hne
              obtain ⟨g1, g2, g3⟩ := hH.own _ _ _ hb'
              exact ⟨g1, (setRow_other _ _ _ _ hne).trans g2, fun c hc => hg.valid (g3 c hc)⟩
          · change (if b' = b then some (Bk.own e (splice cs o x.cells)) else σ.blk b') = _ at hb'
            split at hb'
            · injection hb' with hb'; cases hb'
            · rename_i hne
              obtain ⟨g1, cs', g2, g3⟩ := hH.tail _ _ _ _ hb'
              exact ⟨g1, cs', (setRow_other _ _ _ _ hne).trans g2, g3⟩
      · cases h
    · cases h
  · cases h
end
end Go.Proofs.Ytnmimignbgdfgaa
