/- Bundles: made, laid out, appended to; all operations in the model. -/
import Derived.Test.YtlaehnldaejipaaBs
namespace Go.Proofs.Ytlaehnldaejipaa
open Go.RowKit
set_option linter.unusedSimpArgs false
set_option maxRecDepth 100000
set_option linter.unusedVariables false
variable {T : Nat → Type} {A : Type}
section
variable {C : Codec T} {P : Program} {U : Nat → Prop} {N : Nat} {ρ : Nat → AV} {h : List (HI T)} {σ τ : St} {t e sz : Nat} {z : A} {k : XV T → List (HI T) → Option A}
theorem frm_no {names : List AV} (hf : ∀ nm ∈ names, nm = .raw (.bool false)) (p : Nat) (g : Nat) : names[p]? ≠ some (ptr g 0) := fun h => by
  have := hf _ (List.mem_of_getElem? h)
  cases this
theorem rep_get {α : Type} {l : List α} {n p : Nat} {x : α} (h : ((List.replicate n l).flatten)[p]? = some x) (hl : 0 < l.length) : l[p % l.length]? = some x := by
  induction n generalizing p with
  | zero => simp at h
  | succ n ih =>
    rw [List.replicate_succ, List.flatten_cons] at h
    by_cases hp : p < l.length
    · rw [List.getElem?_append_left hp] at h
      rw [Nat.mod_eq_of_lt hp]; exact h
    · rw [List.getElem?_append_right (by omega)] at h
      have := ih h
      rw [Nat.mod_eq_sub_mod (by omega)]
      exact this
theorem b_make (B : BunC C) {E : Nat} {b : BN T E} {ox oy : Operand} {kn km : IntKind} {n m : Int} {sz by_ : Nat} {zv : Value} {x : T b.Ex} (hb : B.bn E = some b) (he : sliceA P t = some e) (hsz : sizeA P e = some sz) (hz : zeroA P e = some zv) (hby : bytesA P e = some by_) (h1 : sz = C.sz b.Ex) (h2 : zv.cells.size = sz) (h64 : sz < 64) (h3 : b.e = e)
    (h4 : (((List.range sz).map fun i => XV.ofV (T := T) (zv.cells[i % sz]!)).all fun u => isSc u || isNil u) = true) (hr : 0 ≤ n ∧ n ≤ m ∧ 0 < m ∧ m ≤ 140737488355328 ∧ (by_ : Int) * m ≤ 140737488355328) (hd : C.dec b.Ex ((List.range sz).map fun i => XV.ofV (zv.cells[i % sz]!)) = some x)
    (hk : k (.gv h.length (gc 0 sz 0) [0, n.toNat, m.toNat]) (h ++ [HI.gen E (cast b.eq.symm (List.replicate m.toNat x))]) = some z) : SoundA C P U (.makeSlice t ox oy) [.int kn n, .int km m] h k z := by
  obtain ⟨b1, b2, b3, b4, b5⟩ := hr
  refine ⟨_, _, hk, fun d ty pos af g ρ σ as_ hs H => ?_⟩
  obtain ⟨a, u, rfl, s1, s2⟩ := svs2.1 hs
  rw [sv_int.1 s1, sv_int.1 s2]
  refine .inr ⟨rfl, fun ρv hρ w Z hH hV => ?_⟩
  have hρ' := hρ
  simp [Op.operands] at hρ'
  have hty := run_slice' he
  obtain ⟨ii, hii, hsi⟩ := infoA hsz
  have hzi : ii.zero = some zv := by unfold zeroA at hz; rw [hii] at hz; simpa using hz
  have hbi : ii.bytes = by_ := by unfold bytesA at hby; rw [hii] at hby; simpa using hby
  have hrun := run_make (P := P) w t e ii zv hty hii hzi kn km n m b1 b2 (by rw [hbi]; omega) (by omega)
  have hpos := C.pos b.Ex
  have hv := zeros_val zv m.toNat (by omega)
  rw [h2] at hv
  have harr : madeCells zv.cells (m.toNat * ii.size) = ((((List.replicate m.toNat ((List.range sz).map fun i => AV.ofV (zv.cells[i % sz]!))).flatten)).map AV.val).toArray := by
    rw [hv]
    simp [madeCells, Builtin.zeroCells, hsi, h2]
    apply Array.ext'
    simp
  rw [harr] at hrun
  obtain ⟨f1, f2⟩ := hH.fresh
  have f3 := hH.alloc_own e ((List.replicate m.toNat ((List.range sz).map fun i => AV.ofV (zv.cells[i % sz]!))).flatten) (fun a ha => by
    obtain ⟨l, hl, hal⟩ := List.mem_flatten.1 ha
    have hl := (List.mem_replicate.1 hl).2
    subst hl
    obtain ⟨j, _, rfl⟩ := List.mem_map.1 hal
    exact ofV_valid _)
  have f4 := Grow.alloc hH (.cells ((((List.replicate m.toNat ((List.range sz).map fun i => AV.ofV (zv.cells[i % sz]!))).flatten)).map AV.val).toArray e) (.own e ((List.replicate m.toNat ((List.range sz).map fun i => AV.ofV (zv.cells[i % sz]!))).flatten))
  generalize hcs : (List.replicate m.toNat ((List.range sz).map fun i => AV.ofV (zv.cells[i % sz]!))).flatten = cells at *
  have hclen : cells.length = m.toNat * sz := by rw [← hcs, flat_rep_len, List.length_map, List.length_range]
  have hnn : ∀ nm ∈ List.replicate cells.length (AV.raw (.bool false)), nm = .raw (.bool false) := fun nm hm => (List.mem_replicate.1 hm).2
  have hB : BunAt C.enc (.own e cells) b.Ex (σ.put w.heap.size (.own e cells)) (List.replicate m.toNat x) w.heap.size cells (List.replicate cells.length (.raw (.bool false))) := by
    refine ⟨put_same _ _ _, .inr rfl, by rw [enc_len, List.length_replicate, hclen, h1], List.length_replicate, fun p v a nm q1 q2 q3 => ?_, ⟨fun p g hp => absurd hp (frm_no hnn p g), fun p q g hp => absurd hp (frm_no hnn p g), fun p nm hp => .inr (hnn nm (List.mem_of_getElem? hp))⟩⟩
    obtain ⟨x2, g1, g2, g3, g4⟩ := fm_all hpos q1
    have hx2 := (List.mem_replicate.1 (List.mem_of_getElem? g1)).2
    subst hx2
    rw [← hcs] at q2
    have q2 := rep_get q2 (by rw [List.length_map, List.length_range]; omega)
    rw [List.length_map, List.length_range, h1] at q2
    have hml : p % C.sz b.Ex < ((List.range sz).map fun i => XV.ofV (T := T) (zv.cells[i % sz]!)).length := by rw [List.length_map, List.length_range, h1]; exact g2
    have hsv := (rangeV_sv (C := C) (N := h.length) (ρ := ρ) (List.range sz) zv.cells sz).get (List.getElem?_eq_getElem hml)
    obtain ⟨a', r1, r2⟩ := hsv
    rw [h1] at r1
    rw [q2] at r1
    injection r1 with r1
    subst r1
    exact wk_cell (wks_get (C.back _ _ _ hd) _ _ _ (List.getElem?_eq_getElem hml) g3) (List.all_eq_true.1 h4 _ (List.getElem_mem hml)) (B.flat E b hb x2 v (List.mem_of_getElem? g3)) r2
  obtain ⟨g1, g2⟩ := H.addGen (U := U) [] (E := E) (x := cast b.eq.symm (List.replicate m.toNat x)) (a := .tup (ptr w.heap.size 0 :: List.replicate cells.length (.raw (.bool false)))) (Ext.put _ f2).but (Ext.put _ f2).but ((B.gsh E b hb _ _ _).2 ⟨_, cells, _, rfl, by rw [h3]; simpa using hB⟩) (fun c hc => by
    rcases (tup_owns rfl hB.ok.frm).1 hc with rfl | ⟨p, hp⟩
    · exact .inr ⟨f2, f1⟩
    · exact absurd hp (frm_no hnn p c))
  refine ⟨.raw (.slice (some ⟨w.heap.size, 0, none⟩) n.toNat m.toNat), _, _, .inl ?_, ⟨_, ?_, g1, g2⟩, f3, valid_raw _, f4⟩
  · simp [execOp, hρ', hrun]
  · refine bun_sv B (by simp) ((bunV0 (gk_gc (by omega) h64)).2 ⟨w.heap.size, _, rup_same _ _ _, ?_, ?_, by omega, by omega, by omega⟩)
    · rw [Nat.zero_mul]; rfl
    · rw [List.length_replicate, gz_gc (by omega) h64]; exact hclen
theorem b_append (B : BunC C) {i ci j cj n K E E1 sz : Nat} {x : T E} {y : T E1} {b : BN T E} {b1 : BN1 T E1} {ox oy : Operand} (hU : U i) (he : sliceA P t = some e) (hsz : sizeA P e = some sz) (hi : h[i]? = some (.gen E x)) (hj : h[j]? = some (.gen E1 y)) (hb : B.bn E = some b) (hb1 : B.b1 E1 = some b1) (hE : b1.Ex = b.Ex) (h1 : gk ci = 0) (h2 : gk cj = 0) (h3 : sz = C.sz b.Ex) (h4 : sz = gz ci) (h5 : b.e = e) (hij : i ≠ j) (hn : n < K)
    (hk : k (.gv h.length ci [0, n + 1, K]) (killAll [i, j] h ++ [HI.gen E (cast b.eq.symm ((cast b.eq x).set n (hE ▸ cast b1.eq y)))]) = some z) : SoundA C P U (.call ⟨.builtin .append, #[ox, oy], #[t, t]⟩) [.gv i ci [0, n, K], .gv j cj []] h k z := by
  refine ⟨_, _, hk, fun d ty pos af g ρ σ as_ hs H => ?_⟩
  obtain ⟨ai, aj, rfl, s1, s2⟩ := svs2.1 hs
  obtain ⟨hiN, hvi⟩ := sv_bun B s1
  obtain ⟨hjN, hvj⟩ := sv_bun B s2
  obtain ⟨bi, ni, hri, rfl, q1, q2, q3, q4⟩ := (bunV0 h1).1 hvi
  obtain ⟨bj, cj', nj, hrj, rfl⟩ := (bunVe h2).1 hvj
  obtain ⟨b0, cells, names, hr, hB⟩ := (B.gsh E b hb _ _ _).1 (H.it i _ hi)
  obtain ⟨b0', cells', names', hr', hB', hone⟩ := (B.gsh1 E1 b1 hb1 _ _ _).1 (H.it j _ hj)
  rw [hri] at hr
  injection hr with hr
  injection hr with e1 e2
  have := ptr_blk e1
  subst this e2
  rw [hrj] at hr'
  injection hr' with hr'
  injection hr' with e1 e2
  injection e1 with e3 e4 e5 e6
  injection e3 with e3
  injection e3 with e3
  subst e3 e6 e2
  generalize hyy : cast b1.eq y = yy at *
  obtain ⟨Ex1, e1', eq1⟩ := b1
  dsimp only at hE yy hB' hk
  subst hE
  have hpos := C.pos b.Ex
  have hcl : cells.length = (cast b.eq x).length * C.sz b.Ex := by rw [hB.clen, enc_len]
  have hcl2 : cj'.length = C.sz b.Ex := by rw [hB'.clen, enc_len, List.length_singleton, Nat.one_mul]
  have hK : (cast b.eq x).length = K := by
    have e : (cast b.eq x).length * C.sz b.Ex = K * C.sz b.Ex := by rw [← hcl, ← hB.nlen, q1, ← h4, h3]
    exact Nat.eq_of_mul_eq_mul_right hpos e
  have hm : (n + 1) * C.sz b.Ex ≤ K * C.sz b.Ex := Nat.mul_le_mul_right _ hn
  rw [Nat.succ_mul] at hm
  have hfit : n * C.sz b.Ex + cj'.length ≤ cells.length := by rw [hcl, hK]; omega
  have cross : ∀ c, (ρ i).owns c → (ρ j).owns c → False := fun c f1 f2 => hij (H.dist i j _ _ c hi hj rfl rfl f1 f2)
  have oi : ∀ c, (c = bi ∨ ∃ p : Nat, ni[p]? = some (ptr c 0)) → (ρ i).owns c := fun c hc => by rw [hri]; exact (tup_owns rfl hB.ok.frm).2 hc
  have oj : ∀ c, (c = bj ∨ ∃ p : Nat, nj[p]? = some (ptr c 0)) → (ρ j).owns c := fun c hc => by rw [hrj]; exact (tup_owns rfl hB'.ok.frm).2 hc
  have hX : But (fun c => c = bi) σ (σ.set bi (.own e (splice cells (n * C.sz b.Ex) cj'))) := set_but _ _ _ rfl
  have hnl : nj.length = cj'.length := hB'.nlen
  have hfn : n * C.sz b.Ex + nj.length ≤ ni.length := by rw [hnl, hB.nlen]; exact hfit
  have hsplit : ∀ (p : Nat) nm, (splice ni (n * C.sz b.Ex) nj)[p]? = some nm → (∃ m, p = n * C.sz b.Ex + m ∧ m < C.sz b.Ex ∧ nj[m]? = some nm) ∨ ((p < n * C.sz b.Ex ∨ n * C.sz b.Ex + C.sz b.Ex ≤ p) ∧ ni[p]? = some nm) := fun p nm hp => by
    by_cases hin : n * C.sz b.Ex ≤ p ∧ p < n * C.sz b.Ex + nj.length
    · rw [splice_in hfn hin.1 hin.2] at hp
      exact .inl ⟨p - n * C.sz b.Ex, by omega, by omega, hp⟩
    · have ho : p < n * C.sz b.Ex ∨ n * C.sz b.Ex + nj.length ≤ p := by omega
      rw [splice_out hfn ho] at hp
      exact .inr ⟨by omega, hp⟩
  have hok : NmOk (σ.set bi (.own e (splice cells (n * C.sz b.Ex) cj'))) bi (splice ni (n * C.sz b.Ex) nj) := by
    refine ⟨fun p g hp => ?_, fun p q g hp hq => ?_, fun p nm hp => ?_⟩
    · rcases hsplit p _ hp with ⟨m, _, _, f1⟩ | ⟨_, f1⟩
      · obtain ⟨r1, ⟨kk, r2⟩, r3⟩ := hB'.ok.nm m g f1
        have hne : g ≠ bi := fun e => cross g (oi g (.inl e)) (oj g (.inr ⟨m, f1⟩))
        exact ⟨r1, ⟨kk, hX.keep _ _ hne r2⟩, hne⟩
      · obtain ⟨r1, ⟨kk, r2⟩, r3⟩ := hB.ok.nm p g f1
        exact ⟨r1, ⟨kk, hX.keep _ _ r3 r2⟩, r3⟩
    · rcases hsplit p _ hp with ⟨m, rfl, _, f1⟩ | ⟨_, f1⟩ <;> rcases hsplit q _ hq with ⟨m2, rfl, _, f2⟩ | ⟨_, f2⟩
      · rw [hB'.ok.inj m m2 g f1 f2]
      · exact (cross g (oi g (.inr ⟨_, f2⟩)) (oj g (.inr ⟨m, f1⟩))).elim
      · exact (cross g (oi g (.inr ⟨_, f1⟩)) (oj g (.inr ⟨m2, f2⟩))).elim
      · exact hB.ok.inj p q g f1 f2
    · rcases hsplit p _ hp with ⟨m, _, _, f1⟩ | ⟨_, f1⟩
      · exact hB'.ok.frm m nm f1
      · exact hB.ok.frm p nm f1
  have hB2 : BunAt C.enc (.own e (splice cells (n * C.sz b.Ex) cj')) b.Ex (σ.set bi (.own e (splice cells (n * C.sz b.Ex) cj'))) ((cast b.eq x).set n yy) bi (splice cells (n * C.sz b.Ex) cj') (splice ni (n * C.sz b.Ex) nj) := by
    refine ⟨set_blk _ _ _, hB.used, by rw [splice_len (α := Unit) hfit, hcl, enc_len, List.length_set], by rw [splice_len (α := Unit) hfit, splice_len (α := Unit) hfn, hB.nlen], fun p v a nm p1 p2 p3 => ?_, hok⟩
    obtain ⟨x2, g1, g2, g3, g4⟩ := fm_all hpos p1
    rcases hsplit p nm p3 with ⟨m, f0, f1, f2⟩ | ⟨f0, f2⟩
    · have hpq : p / C.sz b.Ex = n ∧ p % C.sz b.Ex = m := by
        subst f0
        exact ⟨by rw [Nat.mul_comm, Nat.mul_add_div hpos, Nat.div_eq_of_lt f1, Nat.add_zero], by rw [Nat.mul_comm, Nat.mul_add_mod, Nat.mod_eq_of_lt f1]⟩
      rw [hpq.1, List.getElem?_set_self (by omega)] at g1
      injection g1 with g1
      subst g1
      rw [hpq.2] at g3
      subst f0
      rw [splice_in hfit (by omega) (by omega), Nat.add_sub_cancel_left] at p2
      have := hB'.cell m v a nm (by rw [List.flatMap_cons, List.flatMap_nil, List.append_nil]; exact g3) p2 f2
      exact this.keep hX fun g hg e => by subst hg e; exact cross _ (oi _ (.inl rfl)) (oj _ (.inr ⟨m, f2⟩))
    · have hpq : p / C.sz b.Ex ≠ n := fun e => by
        have hmm := Nat.mod_lt p hpos
        rw [g4, e] at f0
        omega
      rw [List.getElem?_set_ne (fun e => hpq e.symm)] at g1
      rw [splice_out hfit (by rw [hcl2]; exact f0)] at p2
      refine (hB.cell p v a nm (by rw [g4, fm_get g1 g2]; exact g3) p2 f2).keep hX fun g hg => ?_
      subst hg
      exact (hB.ok.nm p g f2).2.2
  refine exec_app fun w Z hH hV1 hV2 => ?_
  have hsrc : Src σ sz (.lst (some ⟨bj, 0, none⟩) 1 1 cj') 1 cj' := by
    refine ⟨by rw [hcl2, h3, Nat.one_mul], hone, ⟨_, 1, AV.val_lst _ _ _ _, fun e => by cases e⟩, fun w Z hH hV => ?_⟩
    unfold Valid at hV
    have hat := hV.2.2 _ rfl
    refine ⟨fun q hq => ?_, fun ad' c' hy j u hu => ?_⟩
    · obtain ⟨m, hm⟩ := List.getElem?_of_mem hq
      exact (valid_cells hat hm).2.2
    · rw [AV.val_lst] at hy
      injection hy with r1 _ _
      injection r1 with r1
      subst r1
      rw [List.getElem?_map] at hu
      cases hd : cj'[j]? with
      | none => rw [hd] at hu; cases hu
      | some q =>
        rw [hd] at hu
        injection hu with hu
        subst hu
        exact (valid_cells hat hd).1
  obtain ⟨w', r1, r2, r3⟩ := append_room_ (P := P) (ty := ty) (t := t) (lo := 0) (n := n) (c := K) (m := 1) (b := bi) (cs := cells) (ad := ⟨bi, 0 * sz, none⟩) hH hV2 he hsz (by omega) (by rw [← h5]; exact hB.blk) (by rw [hcl, hK, h3, Nat.zero_add]; exact Nat.le_refl _) (fun _ => rfl) hsrc (by omega)
  rw [Nat.zero_add, h3] at r2 r3
  obtain ⟨g1, g2⟩ := H.addGen (U := U) [i, j] (E := E) (x := cast b.eq.symm ((cast b.eq x).set n yy)) (a := .tup (ptr bi 0 :: splice ni (n * C.sz b.Ex) nj)) (τ := σ.set bi (.own e (splice cells (n * C.sz b.Ex) cj')))
    (hX.more fun c hc => ⟨i, List.mem_cons_self, _, hi, rfl, oi c (.inl hc)⟩) (hX.more fun c hc => ⟨i, _, hU, hi, rfl, oi c (.inl hc)⟩) ((B.gsh E b hb _ _ _).2 ⟨bi, _, _, rfl, by rw [h5]; simpa using hB2⟩) (fun c hc => by
      rcases (tup_owns rfl hok.frm).1 hc with rfl | ⟨p, hp⟩
      · exact .inl ⟨i, List.mem_cons_self, _, hi, rfl, oi _ (.inl rfl)⟩
      · rcases hsplit p _ hp with ⟨m, _, _, f2⟩ | ⟨_, f2⟩
        · exact .inl ⟨j, by simp, _, hj, rfl, oj _ (.inr ⟨m, f2⟩)⟩
        · exact .inl ⟨i, by simp, _, hi, rfl, oi _ (.inr ⟨p, f2⟩)⟩)
  refine ⟨.raw (.slice (some ⟨bi, 0 * sz, none⟩) (n + 1) K), _, w', ?_, ⟨_, ?_, g1, g2⟩, r2, valid_raw _, r3⟩
  · have : (AV.raw (.slice (some ⟨bi, 0 * gz ci, none⟩) n (K - 0))).val = .slice (some ⟨bi, 0 * sz, none⟩) n K := by rw [AV.val_raw, h4]; rfl
    rw [this]
    exact r1
  · refine bun_sv B (by simp [killAll]) ((bunV0 h1).2 ⟨bi, _, rup_same _ _ _, ?_, ?_, by omega, by omega, q4⟩)
    · rw [h4]; rfl
    · rw [splice_len (α := Unit) hfn]; exact q1
end
end Go.Proofs.Ytlaehnldaejipaa
