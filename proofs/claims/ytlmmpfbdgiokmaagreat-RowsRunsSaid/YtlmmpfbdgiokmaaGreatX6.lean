/- Operations over typed values do so in the model. -/
import Derived.Test.YtlmmpfbdgiokmaaGreatX5
namespace Go.Proofs.YtlmmpfbdgiokmaaGreat
open Go.RowKit
set_option linter.unusedSimpArgs false
set_option maxRecDepth 100000
set_option linter.unusedVariables false
variable {T : Nat → Type} {A : Type}
section
variable {U : Nat → Prop} {C : Codec T} {N : Nat} {ρ : Nat → AV} {P : Program} {h : List (HI T)} {d : Option Nat} {ty t : TypeId} {pos : String} {af : Array Edge} {g : Option (Nat × Bool)} {z : A} {orc : Orc T A} {k : XV T → List (HI T) → Option A} {vs : List (XV T)}
theorem xofV1_cells (v : Value) : (XV.ofV1 v : XV T).cells = [XV.ofV1 v] := by unfold XV.ofV1; split <;> rfl
theorem aofV1_cells (v : Value) (hv : ∀ cs, v ≠ .agg cs) : (AV.ofV1 v).cells = [AV.ofV1 v] := by
  unfold AV.ofV1
  split
  · rfl
  · cases v <;> first | rfl | exact absurd rfl (hv _)
theorem ofV_cells_sv (v : Value) : SVs C N ρ (XV.ofV v : XV T).cells (AV.ofV v).cells := by
  cases v with
  | agg cs => exact ofV1s_sv _
  | _ =>
    unfold XV.ofV AV.ofV
    dsimp only
    rw [xofV1_cells, aofV1_cells _ (fun cs e => by cases e)]
    exact ofV1_sv _
/-- What is shown of an operation. -/
abbrev Sound (C : Codec T) (P : Program) (U : Nat → Prop) (o : Oper) (vs : List (XV T)) (h : List (HI T)) (k : XV T → List (HI T) → Option A) (z : A) : Prop := ∃ r h', k r h' = some z ∧ OpTr C P U o vs h r h'
theorem snd_alloc {e : TypeId} {v : Value} (hz : zeroA P e = some v) (hk : k (.ptr h.length 0) (h ++ [.obj e (XV.ofV v).cells]) = some z) : Sound C P U ⟨d, .alloc e, ty, pos, af, g⟩ [] h k z := by
  refine ⟨_, _, hk, fun ρ σ as_ hs H => ?_⟩
  rw [SVs_nil.1 hs]
  refine ⟨v, hz, fun b hb hn => ?_⟩
  obtain ⟨h1, h2, h3⟩ := H.new hb hn e (ofV_cells_sv v)
  exact ⟨_, h3, h1, h2⟩
theorem snd_box {e : TypeId} {x : XV T} {y : Operand} (hv : x.isVal = true) (hk : k (.ptr h.length 0) (h ++ [.obj e x.cells]) = some z) : Sound C P U ⟨d, .box e y, ty, pos, af, g⟩ [x] h k z := by
  refine ⟨_, _, hk, fun ρ σ as_ hs H => ?_⟩
  obtain ⟨a, rfl, h1⟩ := svs1.1 hs
  intro b hb hn
  obtain ⟨g1, g2, g3⟩ := H.new hb hn e (cells_sv h1 hv)
  exact ⟨_, g3, g1, g2⟩
theorem zipmap {α β : Type} (l : List α) : ∀ (m : List β), ((l.zip m).map (·.1)).zip ((l.zip m).map (·.2)) = l.zip m := by
  induction l with
  | nil => intro m; rfl
  | cons x l ih => intro m; cases m with
    | nil => rfl
    | cons y m => simp [ih]
theorem zip_fst_snd {l : List Nat} {vs : List (XV T)} {as_ : List AV} (hs : SVs C N ρ vs as_) : ∃ bs, SVs C N ρ ((l.zip vs).map (·.2)) bs ∧ ((l.zip vs).map (·.1)).zip bs = l.zip as_ := by
  induction l generalizing vs as_ with
  | nil => exact ⟨[], .none, rfl⟩
  | cons x l ih =>
    cases vs with
    | nil => rw [SVs_nil.1 hs]; exact ⟨[], .none, rfl⟩
    | cons v vs =>
      obtain ⟨a, bs, rfl, h1, h2⟩ := hs.to
      obtain ⟨cs, h3, h4⟩ := ih h2
      exact ⟨a :: cs, .cons h1 h3, by simp [h4]⟩
theorem snd_build {parts : Array (Nat × Operand)} {v : Value} {pl : List (Nat × Nat)} {cells : List (XV T)} (hz : zeroA P t = some v) (hp : placesB P t = some pl) (hf : xFill (fun i => pl[i]?) (XV.ofV v).cells ((parts.toList.map (·.1)).zip vs) = some cells) (hk : k (.agg cells) h = some z) : Sound C P U ⟨d, .build t parts, ty, pos, af, g⟩ vs h k z := by
  refine ⟨_, _, hk, fun ρ σ as_ hs H => ?_⟩
  obtain ⟨bs, h1, h2⟩ := zip_fst_snd (l := parts.toList.map (·.1)) hs
  obtain ⟨rs, h3, h4⟩ := xFill_sound hf (ofV_cells_sv v) h1
  rw [h2] at h3
  exact ⟨v, pl, rs, hz, hp, h3, ρ, sv_agg.2 ⟨rs, rfl, h4⟩, H, .refl _ _ _ _⟩
theorem rangeV_sv (l : List Nat) (z : Array Value) (sz : Nat) : SVs C N ρ ((l.map fun i => .ofV (z[i % sz]!)) : List (XV T)) (l.map fun i => .ofV (z[i % sz]!)) := by
  induction l with
  | nil => exact .none
  | cons x l ih => exact .cons (ofV_sv _) ih
theorem snd_buildSlice {parts : Array (Nat × Operand)} {n : Nat} {v : Value} {e : TypeId} {sz E : Nat} {cells : List (XV T)} (he : sliceA P t = some e) (hz : zeroA P e = some v) (hsz : sizeA P e = some sz) (h1 : Nat.beq sz (C.sz E) = true ∧ Nat.beq v.cells.size sz = true ∧ n * sz ≤ 16777216)
    (hf : xFill (fun i => some (i * sz, sz)) ((List.range (n * sz)).map fun i => .ofV (v.cells[i % sz]!)) ((parts.toList.map (·.1)).zip vs) = some cells)
    (hk : (decs C E n cells fun xs => k (.sl E xs (some h.length)) (h ++ [.row e sz])) = some z) : Sound C P U ⟨d, .buildSlice t n parts, ty, pos, af, g⟩ vs h k z := by
  obtain ⟨e1, e2, e3⟩ := h1
  have e1 := Nat.eq_of_beq_eq_true e1
  have e2 := Nat.eq_of_beq_eq_true e2
  obtain ⟨xs, d1, d2, d3, d4⟩ := decs_sound hk
  refine ⟨_, _, d1, fun ρ σ as_ hs H => ?_⟩
  obtain ⟨bs, h1, h2⟩ := zip_fst_snd (l := parts.toList.map (·.1)) hs
  obtain ⟨rs, h3, h4⟩ := xFill_sound hf (rangeV_sv _ _ _) h1
  rw [h2] at h3
  refine ⟨e, sz, v, rs, he, hsz, hz, e2, e3, h3, fun b hb hn => ?_⟩
  have hl := h4.len
  have hmax : n * sz ≤ 16777216 := e3
  have hpos := C.pos E
  have hn1 : n ≤ 16777216 := Nat.le_trans (Nat.le_mul_of_pos_right n (by omega)) e3
  have ho : Own (σ.put b (.tail e (n * sz) (n * sz))) e sz (.lst (some ⟨b, 0, none⟩) n n rs) n rs :=
    ⟨by rw [hl, d3, e1], .inr ⟨b, n, rfl, Nat.le_refl _, by unfold maxLen; omega, put_same _ _ _, .inr rfl⟩⟩
  obtain ⟨g1, g2⟩ := H.newRow (Ext.put _ hn) ho (fun c hc => by injection hc with hc; change b = c at hc; subst hc; exact ⟨hn, hb⟩)
  refine ⟨_, ?_, g1, g2⟩
  refine sv_own.2 ⟨(rup_same _ _ _).symm, by simp, sv_sl.2 ⟨some ⟨b, 0, none⟩, n, rs, [], by rw [d2]; simp, by omega, by unfold maxLen; omega, by omega, (fun e => by cases e), ?_⟩⟩
  exact (d4 _ _ _ h4).shut (enc_shut xs)
theorem Hp.toExt0 {σ τ : St} (H : Hp C ρ h σ) (hX : Ext σ τ) : Hp C ρ h τ := by
  refine ⟨fun i x hx => ?_, H.dist⟩
  have := H.it i x hx
  cases x with
  | mmap K V es =>
    obtain ⟨b', h1, h2, h3⟩ := this
    exact ⟨b', h1, hX.keep _ _ h2, hX.used _ h3⟩
  | obj t' cs' =>
    obtain ⟨b', acs', h1, h2, h3, h4⟩ := this
    exact ⟨b', acs', h1, hX.keep _ _ h2, hX.used _ h3, h4⟩
  | arr e E kp xs =>
    rcases this with ⟨b', K', pre, rest, h1, h2, h3, h4⟩ | ⟨h1, h2⟩
    · exact .inl ⟨b', K', pre, rest, h1, hX.keep _ _ h2, hX.used _ h3, h4⟩
    · exact .inr ⟨h1, h2⟩
  | row e sz =>
    obtain ⟨n, cs', ho⟩ := this
    exact ⟨n, cs', ho.ext hX⟩
  | gen E x => exact C.gsh_but _ _ _ _ _ (fun _ => False) this hX.but (fun _ _ hf => hf)
  | dead => trivial
theorem Rel.toExt0 {σ τ : St} (hX : Ext σ τ) : Rel U ρ h σ ρ h τ := ⟨Nat.le_refl _, fun _ _ => rfl, ⟨fun c k _ hk => hX.keep _ _ hk, hX.used⟩, fun b hb => .inl hb⟩
/-- A list of values that are no data. -/
theorem snd_buildVl {parts : Array (Nat × Operand)} {n : Nat} {v : Value} {e : TypeId} {sz : Nat} {cells : List (XV T)} (he : sliceA P t = some e) (hz : zeroA P e = some v) (hsz : sizeA P e = some sz) (h1 : Nat.beq sz 1 = true ∧ Nat.beq v.cells.size sz = true ∧ n * sz ≤ 16777216)
    (hf : xFill (fun i => some (i * sz, sz)) ((List.range (n * sz)).map fun i => .ofV (v.cells[i % sz]!)) ((parts.toList.map (·.1)).zip vs) = some cells)
    (hk : k (.vl cells) h = some z) : Sound C P U ⟨d, .buildSlice t n parts, ty, pos, af, g⟩ vs h k z := by
  obtain ⟨e1, e2, e3⟩ := h1
  have e1 := Nat.eq_of_beq_eq_true e1
  have e2 := Nat.eq_of_beq_eq_true e2
  subst e1
  refine ⟨_, _, hk, fun ρ σ as_ hs H => ?_⟩
  obtain ⟨bs, h1, h2⟩ := zip_fst_snd (l := parts.toList.map (·.1)) hs
  obtain ⟨rs, h3, h4⟩ := xFill_sound hf (rangeV_sv _ _ _) h1
  rw [h2] at h3
  refine ⟨e, 1, v, rs, he, hsz, hz, e2, e3, h3, fun b hb hn => ?_⟩
  have hl := h4.len
  have hcl : cells.length = n := by
    have := aFill_length _ _ _ _ h3
    simp at this
    omega
  have hX : Ext σ (σ.put b (.tail e (n * 1) (n * 1))) := Ext.put _ hn
  refine ⟨ρ, sv_vl.2 ⟨some ⟨b, 0, none⟩, n, rs, [], by rw [hcl]; simp, by omega, by unfold maxLen; omega, by omega, (fun e => by cases e), h4⟩, H.toExt0 hX, Rel.toExt0 hX⟩
/-- A list: of data, or of values that are none. -/
theorem snd_buildAny {parts : Array (Nat × Operand)} {n : Nat} {v : Value} {e : TypeId} {sz E : Nat} {cells : List (XV T)} (he : sliceA P t = some e) (hz : zeroA P e = some v) (hsz : sizeA P e = some sz) (h1 : Nat.beq sz (C.sz E) = true ∧ Nat.beq v.cells.size sz = true ∧ n * sz ≤ 16777216)
    (hf : xFill (fun i => some (i * sz, sz)) ((List.range (n * sz)).map fun i => .ofV (v.cells[i % sz]!)) ((parts.toList.map (·.1)).zip vs) = some cells)
    (hk : cond (cells.any XV.isAs && Nat.beq sz 1) (forceL cells fun cells => k (.vl cells) h) (decs C E n cells fun xs => k (.sl E xs (some h.length)) (h ++ [.row e sz])) = some z) : Sound C P U ⟨d, .buildSlice t n parts, ty, pos, af, g⟩ vs h k z := by
  cases hA : (cells.any XV.isAs && Nat.beq sz 1)
  · rw [hA] at hk
    exact snd_buildSlice he hz hsz h1 hf hk
  · rw [hA, cond_true, forceL_eq] at hk
    simp only [Bool.and_eq_true] at hA
    exact snd_buildVl he hz hsz ⟨hA.2, h1.2⟩ hf hk
theorem snd_load {i o : Nat} {x : Operand} {e : TypeId} {cs : List (XV T)} (hi : h[i]? = some (.obj e cs)) (hk : (xcellsAt (aggA P t) (sizeA P t) cs o fun v => k v h) = some z) : Sound C P U ⟨d, .load t x, ty, pos, af, g⟩ [.ptr i o] h k z := by
  obtain ⟨r, h1, h2⟩ := xcellsAt_sound hk
  refine ⟨_, _, h1, fun ρ σ as_ hs H => ?_⟩
  obtain ⟨a, rfl, h3⟩ := svs1.1 hs
  obtain ⟨b, rfl, hiN, hρ⟩ := sv_ptr.1 h3
  obtain ⟨b', acs, hb1, hb2, hb3, hb4⟩ := H.it i _ hi
  rw [hρ] at hb1
  have : b = b' := by injection hb1 with hb1; injection hb1 with hb1; injection hb1 with hb1; injection hb1
  subst this
  obtain ⟨a, h4, h5⟩ := h2 h.length ρ acs [] hb4
  rw [List.append_nil] at h4
  exact ⟨a, by unfold aLoad ptr; dsimp only; rw [hb2]; exact h4, ρ, h5, H, .refl _ _ _ _⟩
theorem snd_load_e {E o : Nat} {y : T E} {x : Operand} (hk : (xcellsAt (aggA P t) (sizeA P t) ((C.enc E y).drop o) 0 fun v => k v h) = some z) : Sound C P U ⟨d, .load t x, ty, pos, af, g⟩ [.el E y o] h k z := by
  obtain ⟨r, h1, h2⟩ := xcellsAt_sound hk
  refine ⟨_, _, h1, fun ρ σ as_ hs H => ?_⟩
  obtain ⟨a, rfl, h3⟩ := svs1.1 hs
  obtain ⟨ad, cs, rest, rfl, h4⟩ := sv_el.1 h3
  obtain ⟨a, h5, h6⟩ := h2 h.length ρ cs rest h4
  exact ⟨a, by unfold aLoad; dsimp only; exact h5, ρ, h6, H, .refl _ _ _ _⟩
theorem snd_load_ce {cs : List (XV T)} {x : Operand} (hk : (xcellsAt (aggA P t) (sizeA P t) cs 0 fun v => k v h) = some z) : Sound C P U ⟨d, .load t x, ty, pos, af, g⟩ [.ce cs] h k z := by
  obtain ⟨r, h1, h2⟩ := xcellsAt_sound hk
  refine ⟨_, _, h1, fun ρ σ as_ hs H => ?_⟩
  obtain ⟨a, rfl, h3⟩ := svs1.1 hs
  obtain ⟨ad, ls, rest, rfl, h4⟩ := sv_ce.1 h3
  obtain ⟨a, h5, h6⟩ := h2 h.length ρ ls rest h4
  exact ⟨a, by unfold aLoad; dsimp only; exact h5, ρ, h6, H, .refl _ _ _ _⟩
theorem snd_store {i o n : Nat} (hU : U i) {x y : Operand} {e : TypeId} {v : XV T} {cs : List (XV T)} (hi : h[i]? = some (.obj e cs)) (hn : sizeA P t = some n) (hc : v.isVal = true ∧ Nat.beq v.cells.length n = true ∧ o + n ≤ cs.length) (hk : k .junk (h.set i (.obj e (xsplice cs o v.cells))) = some z) : Sound C P U ⟨d, .store t x y, ty, pos, af, g⟩ [.ptr i o, v] h k z := by
  obtain ⟨c1, c2, c3⟩ := hc
  have c2 := Nat.eq_of_beq_eq_true c2
  refine ⟨_, _, hk, fun ρ σ as_ hs H => ?_⟩
  obtain ⟨a, u, rfl, h3, h4⟩ := svs2.1 hs
  obtain ⟨b, rfl, hiN, hρ⟩ := sv_ptr.1 h3
  obtain ⟨b', acs, hb1, hb2, hb3, hb4⟩ := H.it i _ hi
  rw [hρ] at hb1
  have : b = b' := by injection hb1 with hb1; injection hb1 with hb1; injection hb1 with hb1; injection hb1
  subst this
  have hcv := cells_sv h4 c1
  have e1 := hcv.len
  have e2 := hb4.len
  obtain ⟨g1, g2⟩ := H.write hU hi hρ (splice_sv o hb4 hcv)
  refine ⟨_, ?_, ρ, sv_junk, g1, g2⟩
  unfold aStore ptr aStoreAt
  dsimp only
  rw [hb2, hn]
  dsimp only
  have hones : u.cells.all AV.one = true := List.all_eq_true.2 (hcv.ones (cells_one c1))
  rw [isVal_notTup h4 c1, hones]
  rw [if_pos (by simp; omega)]
theorem snd_fieldAddr {x : Operand} {f off n : Nat} {l : List (Nat × Option Nat × Option Bool)} {b : Option Bool} {i o : Nat} (hl : structA P t = some l) (hf : l[f]? = some (off, some (n + 1), b)) (hk : k (.ptr i (o + off)) h = some z) : Sound C P U ⟨d, .fieldAddr t x f, ty, pos, af, g⟩ [.ptr i o] h k z := by
  refine ⟨_, _, hk, fun ρ σ as_ hs H => ?_⟩
  obtain ⟨a, rfl, h3⟩ := svs1.1 hs
  obtain ⟨c, rfl, h4, h5⟩ := sv_ptr.1 h3
  exact ⟨l, off, n, b, hl, hf, ρ, by rw [add_off_]; exact sv_ptr.2 ⟨c, rfl, h4, h5⟩, H, .refl _ _ _ _⟩
theorem snd_fieldAddr_e {x : Operand} {f off n : Nat} {l : List (Nat × Option Nat × Option Bool)} {b : Option Bool} {E o : Nat} {y : T E} (hl : structA P t = some l) (hf : l[f]? = some (off, some (n + 1), b)) (hk : k (.el E y (o + off)) h = some z) : Sound C P U ⟨d, .fieldAddr t x f, ty, pos, af, g⟩ [.el E y o] h k z := by
  refine ⟨_, _, hk, fun ρ σ as_ hs H => ?_⟩
  obtain ⟨a, rfl, h3⟩ := svs1.1 hs
  obtain ⟨ad, cs, rest, rfl, h4⟩ := sv_el.1 h3
  refine ⟨l, off, n, b, hl, hf, ρ, sv_el.2 ⟨ad.add off, cs.drop off, rest.drop (off - cs.length), ?_, ?_⟩, H, .refl _ _ _ _⟩
  · rw [List.drop_append]
  · rw [← List.drop_drop]; exact h4.drop off
theorem snd_fieldAddr_ce {x : Operand} {f off n : Nat} {l : List (Nat × Option Nat × Option Bool)} {b : Option Bool} {vs : List (XV T)} (hl : structA P t = some l) (hf : l[f]? = some (off, some (n + 1), b)) (hk : (forceL (vs.drop off) fun l => k (.ce l) h) = some z) : Sound C P U ⟨d, .fieldAddr t x f, ty, pos, af, g⟩ [.ce vs] h k z := by
  rw [forceL_eq] at hk
  refine ⟨_, _, hk, fun ρ σ as_ hs H => ?_⟩
  obtain ⟨a, rfl, h3⟩ := svs1.1 hs
  obtain ⟨ad, cs, rest, rfl, h4⟩ := sv_ce.1 h3
  refine ⟨l, off, n, b, hl, hf, ρ, sv_ce.2 ⟨ad.add off, cs.drop off, rest.drop (off - cs.length), ?_, h4.drop off⟩, H, .refl _ _ _ _⟩
  rw [List.drop_append]
theorem snd_field {x : Operand} {f off : Nat} {n : Option Nat} {l : List (Nat × Option Nat × Option Bool)} {b : Option Bool} {cells : List (XV T)} (hl : structA P t = some l) (hf : l[f]? = some (off, n, b)) (hk : (xcellsAt b n cells off fun v => k v h) = some z) : Sound C P U ⟨d, .field t x f, ty, pos, af, g⟩ [.agg cells] h k z := by
  obtain ⟨r, h1, h2⟩ := xcellsAt_sound hk
  refine ⟨_, _, h1, fun ρ σ as_ hs H => ?_⟩
  obtain ⟨a, rfl, h3⟩ := svs1.1 hs
  obtain ⟨ls, rfl, h4⟩ := sv_agg.1 h3
  obtain ⟨a, h5, h6⟩ := h2 h.length ρ ls [] h4
  rw [List.append_nil] at h5
  exact ⟨l, off, n, b, a, hl, hf, h5, ρ, h6, H, .refl _ _ _ _⟩
theorem snd_index {x y : Operand} {E sz : Nat} {e : TypeId} {xs : List (T E)} {ow : Option Nat} {ki : IntKind} {n : Int} (he : sliceA P t = some e) (hsz : sizeA P e = some sz) (h1 : Nat.beq sz (C.sz E) = true) (hk : ((getI xs n).bind fun x => k (.el E x 0) h) = some z) : Sound C P U ⟨d, .indexAddr t x y, ty, pos, af, g⟩ [.sl E xs ow, .int ki n] h k z := by
  have e1 := Nat.eq_of_beq_eq_true h1
  cases hg : getI xs n with
  | none => rw [hg] at hk; cases hk
  | some w =>
    rw [hg] at hk
    refine ⟨_, _, hk, fun ρ σ as_ hs H => ?_⟩
    obtain ⟨a, b, rfl, h3, h4⟩ := svs2.1 hs
    obtain ⟨A, c, cs, rest, rfl, l1, l2, l3, l4, l5⟩ := sv_list h3
    rw [sv_int.1 h4]
    unfold getI at hg
    split at hg
    · rename_i hn
      have hlt := lt_of_get hg
      cases A with
      | none => have := (l4 rfl).1; omega
      | some ad =>
        have hlen := l5.len
        rw [enc_len] at hlen
        refine ⟨e, sz, ki, n.toNat, he, hsz, by simp; omega, hlt, ρ, sv_el.2 ⟨ad.add (n.toNat * sz), (cs.drop (n.toNat * sz)).take sz, (cs.drop (n.toNat * sz)).drop sz ++ rest, ?_, ?_⟩, H, .refl _ _ _ _⟩
        · have hm : (n.toNat + 1) * C.sz E ≤ xs.length * C.sz E := Nat.mul_le_mul_right _ hlt
          rw [← List.append_assoc, List.take_append_drop, List.drop_append_of_le_length (by rw [hlen, e1]; rw [Nat.succ_mul] at hm; omega)]
        · have := (l5.drop (n.toNat * sz)).take sz
          rw [e1, enc_drop, List.drop_eq_getElem_cons hlt, List.flatMap_cons, List.take_append_of_le_length (by rw [C.len]; omega), List.take_of_length_le (by rw [C.len]; omega)] at this
          rw [List.drop_zero, e1]
          have hx : xs[n.toNat] = w := by rw [List.getElem?_eq_getElem hlt] at hg; injection hg
          rw [hx] at this
          exact this
    · cases hg
theorem snd_indexVl {x y : Operand} {sz : Nat} {e : TypeId} {l : List (XV T)} {ki : IntKind} {n : Int} (he : sliceA P t = some e) (hsz : sizeA P e = some sz) (h1 : Nat.beq sz 1 = true) (hn : 0 ≤ n ∧ n < (l.length : Int)) (hk : k (.ce (l.drop n.toNat)) h = some z) : Sound C P U ⟨d, .indexAddr t x y, ty, pos, af, g⟩ [.vl l, .int ki n] h k z := by
  have e1 := Nat.eq_of_beq_eq_true h1
  subst e1
  refine ⟨_, _, hk, fun ρ σ as_ hs H => ?_⟩
  obtain ⟨a, b, rfl, h3, h4⟩ := svs2.1 hs
  obtain ⟨A, c, ls, rest, rfl, l1, l2, l3, l4, l5⟩ := sv_vl.1 h3
  rw [sv_int.1 h4]
  cases A with
  | none => have := (l4 rfl).1; omega
  | some ad =>
    have hlen := l5.len
    refine ⟨e, 1, ki, n.toNat, he, hsz, by simp; omega, by omega, ρ, sv_ce.2 ⟨ad.add (n.toNat * 1), ls.drop n.toNat, rest, ?_, l5.drop _⟩, H, .refl _ _ _ _⟩
    rw [Nat.mul_one, List.drop_append_of_le_length (by omega)]
theorem slice_core {x : Operand} {lo hi : Option Operand} {v : XV T} {ix : List (XV T)} {E n sz : Nat} {e : TypeId} {zs : List (T E)} {l u : Int} (hv : ∀ ρ a, SV C h.length ρ v a → ∃ A c cs rest, a = .lst A n c (cs ++ rest) ∧ zs.length ≤ c ∧ c ≤ maxLen ∧ zs.length ≤ 140737488355328 ∧ (A = none → zs.length = 0 ∧ c = 0) ∧ SVs C h.length ρ (zs.flatMap (C.enc E)) cs)
    (he : sliceA P t = some e) (hsz : sizeA P e = some sz) (h1 : Nat.beq sz (C.sz E) = true) (hends : xends (T := T) n lo.isSome hi.isSome ix = some (l, u)) (hb : 0 ≤ l ∧ l ≤ u ∧ u ≤ zs.length) (hk : k (.sl E ((zs.drop l.toNat).take (u.toNat - l.toNat)) none) h = some z) : Sound C P U ⟨d, .slice t x lo hi none, ty, pos, af, g⟩ (v :: ix) h k z := by
  have e1 := Nat.eq_of_beq_eq_true h1
  obtain ⟨b1, b2, b3⟩ := hb
  refine ⟨_, _, hk, fun ρ σ as_ hs H => ?_⟩
  obtain ⟨a, bs, rfl, h3, h4⟩ := hs.to
  obtain ⟨A, c, cs, rest, rfl, l1, l2, l3, l4, l5⟩ := hv ρ a h3
  have hlen := l5.len
  rw [enc_len] at hlen
  have hse : sliceEnds n c lo.isSome hi.isSome (none : Option Operand).isSome bs l.toNat u.toNat c := by
    generalize lo.isSome = bl at hends ⊢
    generalize hi.isSome = bh at hends ⊢
    unfold xends at hends
    split at hends
    · injection hends with hends; injection hends with f1 f2; subst f1 f2
      rw [SVs_nil] at h4; subst h4
      exact ⟨rfl, by simp, rfl⟩
    · injection hends with hends; injection hends with f1 f2; subst f1 f2
      obtain ⟨b, rfl, h5⟩ := svs1.1 h4
      rw [sv_int.1 h5]
      exact ⟨⟨_, (AV.val_raw _).trans (congrArg (Value.int _) (Int.toNat_of_nonneg (by omega)).symm)⟩, by simp, rfl⟩
    · injection hends with hends; injection hends with f1 f2; subst f1 f2
      obtain ⟨b, rfl, h5⟩ := svs1.1 h4
      rw [sv_int.1 h5]
      exact ⟨rfl, ⟨_, (AV.val_raw _).trans (congrArg (Value.int _) (Int.toNat_of_nonneg (by omega)).symm)⟩, rfl⟩
    · injection hends with hends; injection hends with f1 f2; subst f1 f2
      obtain ⟨b, b', rfl, h5, h6⟩ := svs2.1 h4
      rw [sv_int.1 h5, sv_int.1 h6]
      exact ⟨⟨_, (AV.val_raw _).trans (congrArg (Value.int _) (Int.toNat_of_nonneg (by omega)).symm)⟩, ⟨_, (AV.val_raw _).trans (congrArg (Value.int _) (Int.toNat_of_nonneg (by omega)).symm)⟩, rfl⟩
    · cases hends
  have hnl : ((zs.drop l.toNat).take (u.toNat - l.toNat)).length = u.toNat - l.toNat := by simp; omega
  refine ⟨e, sz, he, hsz, l.toNat, u.toNat, c, hse, by omega, by omega, Nat.le_refl _, ρ, ?_, H, .refl _ _ _ _⟩
  by_cases hc : c = l.toNat
  · rw [if_pos hc, if_pos hc]
    have hz0 : u.toNat - l.toNat = 0 := by omega
    have hx0 : (zs.drop l.toNat).take (u.toNat - l.toNat) = [] := by rw [hz0]; simp
    rw [hx0, hz0, show c - l.toNat = 0 from by omega]
    exact sv_sl.2 ⟨A, 0, [], [], rfl, Nat.le_refl _, Nat.zero_le _, Nat.zero_le _, fun _ => ⟨rfl, rfl⟩, .none⟩
  · rw [if_neg hc, if_neg hc]
    refine sv_sl.2 ⟨A.map (·.add (l.toNat * sz)), c - l.toNat, (cs.drop (l.toNat * sz)).take ((u.toNat - l.toNat) * sz), (cs.drop (l.toNat * sz)).drop ((u.toNat - l.toNat) * sz) ++ rest, ?_, by rw [hnl]; omega, by omega, by rw [hnl]; omega, fun hA => ?_, ?_⟩
    · rw [hnl, ← List.append_assoc, List.take_append_drop, List.drop_append_of_le_length (by rw [hlen, e1]; exact Nat.mul_le_mul_right _ (by omega))]
    · cases A with
      | none => have := l4 rfl; rw [hnl]; omega
      | some _ => cases hA
    · have := (l5.drop (l.toNat * sz)).take ((u.toNat - l.toNat) * sz)
      rw [e1, enc_drop, enc_take] at this
      rw [e1]; exact this
theorem snd_slice3 {x hi mx : Operand} {lo : Option Operand} {v : XV T} {ix : List (XV T)} (hk : (xslice3 C P t lo.isSome v ix fun v => k v h) = some z) : Sound C P U ⟨d, .slice t x lo (some hi) (some mx), ty, pos, af, g⟩ (v :: ix) h k z := by
  unfold xslice3 at hk
  split at hk
  rotate_left
  · cases hk
  rename_i E xs ow
  split at hk
  rotate_left
  · cases hk
  rename_i e he
  split at hk
  rotate_left
  · cases hk
  rename_i sz hsz
  split at hk
  rotate_left
  · cases hk
  rename_i h1
  split at hk
  rotate_left
  · cases hk
  rename_i l u m hends
  split at hk
  rotate_left
  · cases hk
  rename_i hb
  have e1 := Nat.eq_of_beq_eq_true h1
  obtain ⟨b1, b2, b3, b4⟩ := hb
  refine ⟨_, _, hk, fun ρ σ as_ hs H => ?_⟩
  obtain ⟨a, bs, rfl, h3, h4⟩ := hs.to
  obtain ⟨A, c, cs, rest, rfl, l1, l2, l3, l4, l5⟩ := sv_list h3
  have hlen := l5.len
  rw [enc_len] at hlen
  have hse : sliceEnds xs.length c lo.isSome (some hi).isSome (some mx).isSome bs l.toNat u.toNat m.toNat := by
    generalize lo.isSome = bl at hends ⊢
    unfold xends3 at hends
    split at hends
    · injection hends with hends; injection hends with f1 f2; injection f2 with f2 f3; subst f1 f2 f3
      obtain ⟨b, b', rfl, h5, h6⟩ := svs2.1 h4
      rw [sv_int.1 h5, sv_int.1 h6]
      exact ⟨rfl, ⟨_, (AV.val_raw _).trans (congrArg (Value.int _) (Int.toNat_of_nonneg (by omega)).symm)⟩, ⟨_, (AV.val_raw _).trans (congrArg (Value.int _) (Int.toNat_of_nonneg (by omega)).symm)⟩⟩
    · injection hends with hends; injection hends with f1 f2; injection f2 with f2 f3; subst f1 f2 f3
      obtain ⟨b, bs', rfl, h5, h6⟩ := h4.to
      obtain ⟨b', b'', rfl, h7, h8⟩ := svs2.1 h6
      rw [sv_int.1 h5, sv_int.1 h7, sv_int.1 h8]
      exact ⟨⟨_, (AV.val_raw _).trans (congrArg (Value.int _) (Int.toNat_of_nonneg (by omega)).symm)⟩, ⟨_, (AV.val_raw _).trans (congrArg (Value.int _) (Int.toNat_of_nonneg (by omega)).symm)⟩, ⟨_, (AV.val_raw _).trans (congrArg (Value.int _) (Int.toNat_of_nonneg (by omega)).symm)⟩⟩
    · cases hends
  have hnl : ((xs.drop l.toNat).take (u.toNat - l.toNat)).length = u.toNat - l.toNat := by simp; omega
  refine ⟨e, sz, he, hsz, l.toNat, u.toNat, m.toNat, hse, by omega, by omega, by omega, ρ, ?_, H, .refl _ _ _ _⟩
  by_cases hc : m.toNat = l.toNat
  · rw [if_pos hc, if_pos hc]
    have hz0 : u.toNat - l.toNat = 0 := by omega
    have hx0 : (xs.drop l.toNat).take (u.toNat - l.toNat) = [] := by rw [hz0]; simp
    rw [hx0, hz0, show m.toNat - l.toNat = 0 from by omega]
    exact sv_sl.2 ⟨A, 0, [], [], rfl, Nat.le_refl _, Nat.zero_le _, Nat.zero_le _, fun _ => ⟨rfl, rfl⟩, .none⟩
  · rw [if_neg hc, if_neg hc]
    refine sv_sl.2 ⟨A.map (·.add (l.toNat * sz)), m.toNat - l.toNat, (cs.drop (l.toNat * sz)).take ((u.toNat - l.toNat) * sz), (cs.drop (l.toNat * sz)).drop ((u.toNat - l.toNat) * sz) ++ rest, ?_, by rw [hnl]; omega, by omega, by rw [hnl]; omega, fun hA => ?_, ?_⟩
    · rw [hnl, ← List.append_assoc, List.take_append_drop, List.drop_append_of_le_length (by rw [hlen, e1]; exact Nat.mul_le_mul_right _ (by omega))]
    · cases A with
      | none => have := l4 rfl; rw [hnl]; omega
      | some _ => cases hA
    · have := (l5.drop (l.toNat * sz)).take ((u.toNat - l.toNat) * sz)
      rw [e1, enc_drop, enc_take] at this
      rw [e1]; exact this
theorem snd_slice {x : Operand} {lo hi : Option Operand} {v : XV T} {ix : List (XV T)} (hk : (xslice C P t lo.isSome hi.isSome v ix fun v => k v h) = some z) : Sound C P U ⟨d, .slice t x lo hi none, ty, pos, af, g⟩ (v :: ix) h k z := by
  unfold xslice at hk
  split at hk
  · split at hk
    · split at hk
      · split at hk
        · split at hk
          · split at hk
            · exact slice_core (fun ρ a h3 => sv_list h3) ‹_› ‹_› ‹_› ‹_› ‹_› hk
            · cases hk
          · cases hk
        · cases hk
      · cases hk
    · cases hk
  · rename_i E xs ys
    split at hk
    · split at hk
      · split at hk
        · split at hk
          · split at hk
            · refine slice_core (zs := xs ++ ys) (fun ρ a h3 => ?_) ‹_› ‹_› ‹_› ‹_› ‹_› hk
              obtain ⟨A, c, cs, rest, rfl, g1, g2, g3, g4, g5⟩ := sv_slx.1 h3
              exact ⟨A, c, cs, rest, rfl, by rw [List.length_append]; exact g1, g2, by rw [List.length_append]; exact g3, fun e => by rw [List.length_append]; exact g4 e, g5⟩
            · cases hk
          · cases hk
        · cases hk
      · cases hk
    · cases hk
  · cases hk
end
end Go.Proofs.YtlmmpfbdgiokmaaGreat
