/- Bundles: operations that write, in the model. -/
import Derived.Test.YtlaehnldaejipaaBq
namespace Go.Proofs.Ytlaehnldaejipaa
open Go.RowKit
set_option linter.unusedSimpArgs false
set_option maxRecDepth 100000
set_option linter.unusedVariables false
variable {T : Nat → Type} {A : Type}
section
variable {C : Codec T} {P : Program} {U : Nat → Prop} {N : Nat} {ρ : Nat → AV} {h : List (HI T)} {σ τ : St} {t e sz : Nat} {z : A} {k : XV T → List (HI T) → Option A}
theorem splice_len {α : Type} {cs xs : List AV} {o : Nat} (ho : o + xs.length ≤ cs.length) : (splice cs o xs).length = cs.length := by
  unfold splice
  simp only [List.length_append, List.length_take, List.length_drop]
  omega
theorem splice_in {cs xs : List AV} {o p : Nat} (ho : o + xs.length ≤ cs.length) (h1 : o ≤ p) (h2 : p < o + xs.length) : (splice cs o xs)[p]? = xs[p - o]? := by
  unfold splice
  rw [List.append_assoc, List.getElem?_append_right (by rw [List.length_take]; omega), List.length_take, Nat.min_eq_left (by omega), List.getElem?_append_left (by omega)]
theorem splice_out {cs xs : List AV} {o p : Nat} (ho : o + xs.length ≤ cs.length) (h1 : p < o ∨ o + xs.length ≤ p) : (splice cs o xs)[p]? = cs[p]? := by
  unfold splice
  rcases h1 with h1 | h1
  · rw [List.append_assoc, List.getElem?_append_left (by rw [List.length_take]; omega), List.getElem?_take_of_lt h1]
  · rw [List.getElem?_append_right (by rw [List.length_append, List.length_take]; omega), List.length_append, List.length_take, Nat.min_eq_left (by omega), List.getElem?_drop]
    congr 1
    omega
theorem set_blk (σ : St) (b : Nat) (k : Bk) : (σ.set b k).blk b = some k := by show (if b = b then _ else σ.blk b) = _; rw [if_pos rfl]
theorem set_but (σ : St) (b : Nat) (k : Bk) {S : Nat → Prop} (hS : S b) : But S σ (σ.set b k) := ⟨fun c x hc hx => by
  show (if c = b then _ else σ.blk c) = _
  rw [if_neg (by rintro rfl; exact hc hS)]
  exact hx, fun c hc => hc⟩
theorem wks_get : ∀ {vs us : List (XV T)}, Wks vs us → ∀ (j : Nat) v u, vs[j]? = some v → us[j]? = some u → Wk v u
  | _, _, .nil, j, v, u, h1, h2 => by simp at h1
  | _, _, .cons h hs, 0, v, u, h1, h2 => by simp at h1 h2; subst h1 h2; exact h
  | _, _, .cons h hs, j + 1, v, u, h1, h2 => wks_get hs j v u (by simpa using h1) (by simpa using h2)
theorem wks_len : ∀ {vs us : List (XV T)}, Wks vs us → vs.length = us.length
  | _, _, .nil => rfl
  | _, _, .cons h hs => by rw [List.length_cons, List.length_cons, wks_len hs]
/-- What is read back of a cell without memory, or of no list. -/
theorem wk_cell {enc : (E : Nat) → T E → List (XV T)} {v u : XV T} {a nm : AV} (hw : Wk v u) (hv : (isSc v || isNil v) = true) (hu : (isSc u || isSlx u) = true) (hs : SV C N ρ v a) : BCell enc σ u a nm := by
  cases hw with
  | same =>
    cases v with
    | int kk n => rw [sv_int.1 hs]; rfl
    | bool b => rw [sv_bool.1 hs]; rfl
    | str s => rw [sv_str.1 hs]; rfl
    | slx E xs ys => simp [isSc, isNil, scA] at hv
    | _ => simp [isSc, isSlx, scA] at hu
  | drop E xs r => simp [isSc, isNil, scA] at hv
  | nil E => simp [isSc, isSlx, scA] at hu
  | spare E xs ys => simp [isSc, isNil, scA] at hv
  | nilx E => rw [sv_nil.1 hs]; exact .inl ⟨rfl, rfl, .inr rfl⟩
theorem fm_all {Ex : Nat} (hp : 0 < C.sz Ex) {xs : List (T Ex)} {p : Nat} {v : XV T} (h : (xs.flatMap (C.enc Ex))[p]? = some v) : ∃ x, xs[p / C.sz Ex]? = some x ∧ p % C.sz Ex < C.sz Ex ∧ (C.enc Ex x)[p % C.sz Ex]? = some v ∧ p = p / C.sz Ex * C.sz Ex + p % C.sz Ex := by
  have hl := lt_of_get h
  rw [enc_len] at hl
  have hq : p / C.sz Ex < xs.length := by rw [Nat.div_lt_iff_lt_mul hp]; exact hl
  have hm := Nat.mod_lt p hp
  have he : p = p / C.sz Ex * C.sz Ex + p % C.sz Ex := by rw [Nat.mul_comm]; exact (Nat.div_add_mod p _).symm
  have hx : xs[p / C.sz Ex]? = some xs[p / C.sz Ex] := List.getElem?_eq_getElem hq
  refine ⟨_, hx, hm, ?_, he⟩
  rw [← fm_get hx hm, ← he]
  exact h
/-- One element is another one: its cells, the others'. -/
theorem BunAt.put {Ex : Nat} (hp : 0 < C.sz Ex) {xs : List (T Ex)} {b q : Nat} {cells cells' names : List AV} {kb kb' : Bk} {x' : T Ex} (hB : BunAt C.enc kb Ex σ xs b cells names) (hq : q < xs.length) (hblk : τ.blk b = some kb') (hused : τ.used b) (hlen : cells'.length = cells.length) (hok : NmOk τ b names)
    (hin : ∀ (j : Nat) v a nm, j < C.sz Ex → (C.enc Ex x')[j]? = some v → cells'[q * C.sz Ex + j]? = some a → names[q * C.sz Ex + j]? = some nm → BCell C.enc τ v a nm)
    (hout : ∀ (p : Nat) v a nm, p / C.sz Ex ≠ q → cells'[p]? = some a → names[p]? = some nm → cells[p]? = some a ∧ (BCell C.enc σ v a nm → BCell C.enc τ v a nm)) : BunAt C.enc kb' Ex τ (xs.set q x') b cells' names := by
  refine ⟨hblk, hused, by rw [hlen, hB.clen, enc_len, enc_len, List.length_set], by rw [hlen]; exact hB.nlen, fun p v a nm h1 h2 h3 => ?_, hok⟩
  obtain ⟨x, g1, g2, g3, g4⟩ := fm_all hp h1
  by_cases hpq : p / C.sz Ex = q
  · rw [hpq, List.getElem?_set_self hq] at g1
    injection g1 with g1
    subst g1
    rw [hpq] at g4
    rw [g4] at h2 h3
    exact hin _ v a nm g2 g3 h2 h3
  · rw [List.getElem?_set_ne (fun e => hpq e.symm)] at g1
    obtain ⟨f1, f2⟩ := hout p v a nm hpq h2 h3
    exact f2 (hB.cell p v a nm (by rw [g4, fm_get g1 g2]; exact g3) f1 h3)
theorem b_store1 (B : BunC C) {i cd q E n : Nat} {x0 : T E} {b : BN T E} {ox oy : Operand} {v : XV T} {x' : T b.Ex} (hU : U i) (hi : h[i]? = some (.gen E x0)) (hb : B.bn E = some b) (hn : sizeA P t = some n) (h1 : gk cd = 1) (h2 : gj cd = 0) (h3 : gz cd = C.sz b.Ex) (h4 : n = C.sz b.Ex) (h5 : v.isVal = true) (h6 : v.cells.length = n) (h7 : v.cells.all (fun u => isSc u || isNil u) = true) (hq : q < (cast b.eq x0).length) (hd : C.dec b.Ex v.cells = some x')
    (hk : k .junk (h.set i (.gen E (cast b.eq.symm ((cast b.eq x0).set q x')))) = some z) : SoundA C P U (.store t ox oy) [.gv i cd [q], v] h k z := by
  refine ⟨_, _, hk, fun d ty pos af g ρ σ as_ hs H => ?_⟩
  obtain ⟨a, u, rfl, s1, s2⟩ := svs2.1 hs
  obtain ⟨hiN, hv⟩ := sv_bun B s1
  obtain ⟨b', names', hr', rfl⟩ := (bunV1 h1).1 hv
  obtain ⟨b0, cells, names, hr, hB⟩ := (B.gsh E b hb _ _ _).1 (H.it i _ hi)
  rw [hr'] at hr
  injection hr with hr
  injection hr with e1 e2
  have := ptr_blk e1
  subst this e2
  have hpos := C.pos b.Ex
  have hcl : cells.length = (cast b.eq x0).length * C.sz b.Ex := by rw [hB.clen, enc_len]
  have hm : (q + 1) * C.sz b.Ex ≤ (cast b.eq x0).length * C.sz b.Ex := Nat.mul_le_mul_right _ hq
  rw [Nat.succ_mul] at hm
  have hcv := cells_sv s2 h5
  have hul : u.cells.length = C.sz b.Ex := by rw [hcv.len, h6, h4]
  have hfit : q * C.sz b.Ex + u.cells.length ≤ cells.length := by omega
  have hones : u.cells.all AV.one = true := List.all_eq_true.2 (hcv.ones (cells_one h5))
  have hne : ∀ (p : Nat) g, names'[p]? = some (ptr g 0) → ¬ (fun c => c = b') g := fun p g hp => (hB.ok.nm p g hp).2.2
  have hX : But (fun c => c = b') σ (σ.set b' (.own b.e (splice cells (q * C.sz b.Ex) u.cells))) := set_but _ _ _ rfl
  have hB' : BunAt C.enc (.own b.e (splice cells (q * C.sz b.Ex) u.cells)) b.Ex (σ.set b' (.own b.e (splice cells (q * C.sz b.Ex) u.cells))) ((cast b.eq x0).set q x') b' (splice cells (q * C.sz b.Ex) u.cells) names' := by
    refine hB.put hpos hq (set_blk _ _ _) hB.used (splice_len (α := Unit) hfit) (hB.ok.keep hX hne) (fun j w a nm j1 j2 j3 j4 => ?_) (fun p w a nm p1 p2 p3 => ?_)
    · rw [splice_in hfit (by omega) (by omega), Nat.add_sub_cancel_left] at j3
      have hjv : j < v.cells.length := by omega
      have hsj := hcv.get (List.getElem?_eq_getElem hjv)
      obtain ⟨a', q1, q2⟩ := hsj
      rw [j3] at q1
      injection q1 with q1
      subst q1
      exact wk_cell (wks_get (C.back _ _ _ hd) j _ _ (List.getElem?_eq_getElem hjv) j2) (List.all_eq_true.1 h7 _ (List.getElem_mem hjv)) (B.flat E b hb x' w (List.mem_of_getElem? j2)) q2
    · have hp : p < q * C.sz b.Ex ∨ q * C.sz b.Ex + u.cells.length ≤ p := by
        rw [hul]
        rcases Nat.lt_or_ge p (q * C.sz b.Ex) with hlt | hge
        · exact .inl hlt
        · refine .inr (Nat.le_of_not_lt fun hlt => p1 ?_)
          exact Nat.div_eq_of_lt_le hge (by rw [Nat.succ_mul]; exact hlt)
      rw [splice_out hfit hp] at p2
      exact ⟨p2, fun hc => hc.keep hX fun g hg => hne p g (by rw [p3, hg])⟩
  obtain ⟨g1, g2⟩ := H.putGen (x' := cast b.eq.symm ((cast b.eq x0).set q x')) hU hi (hX.more fun c hc => by
    subst hc
    rw [hr']
    exact (tup_owns rfl hB.ok.frm).2 (.inl rfl)) ((B.gsh E b hb _ _ _).2 ⟨b', _, names', hr', by simpa using hB'⟩)
  refine ⟨_, ?_, ρ, sv_junk, g1, g2⟩
  unfold aStore ptr aStoreAt
  dsimp only
  rw [hB.blk, hn]
  dsimp only
  rw [h2, h3, Nat.add_zero, isVal_notTup s2 h5, hones]
  rw [if_pos (by simp only [Bool.true_and, Bool.and_true, Bool.and_eq_true, decide_eq_true_eq, beq_iff_eq]; omega)]
theorem sv_scs : ∀ {vs : List (XV T)} {as_ : List AV}, (∀ v ∈ vs, isSc v = true) → SVs C N ρ vs as_ → vs.map scA = as_.map some
  | [], as_, _, hs => by rw [SVs_nil.1 hs]; rfl
  | v :: vs, as_, hv, hs => by
    obtain ⟨a, bs, rfl, h1, h2⟩ := hs.to
    rw [List.map_cons, List.map_cons, sv_scs (fun u hu => hv u (List.mem_cons_of_mem _ hu)) h2]
    congr 1
    have := hv v List.mem_cons_self
    cases v with
    | int kk n => rw [sv_int.1 h1]; rfl
    | bool b => rw [sv_bool.1 h1]; rfl
    | str s => rw [sv_str.1 h1]; rfl
    | _ => simp [isSc, scA] at this
theorem wk_sc {v u : XV T} (hw : Wk v u) (hv : (isSc v || isSlx v) = true) (hu : (isSc u || isSlx u) = true) : u = v := by
  cases hw with
  | same => rfl
  | drop E xs r => simp [isSc, isSlx, scA] at hv
  | nil E => simp [isSc, isSlx, scA] at hu
  | spare E xs ys => simp [isSc, isSlx, scA] at hu
  | nilx E => simp [isSc, isSlx, scA] at hv
theorem b_store3 (B : BunC C) {i cd p q E n : Nat} {x0 : T E} {b : BN T E} {ox oy : Operand} {v : XV T} {y y' : T b.Ex} {F : Nat} {ys zs : List (T F)} {w : T F} (hU : U i) (hi : h[i]? = some (.gen E x0)) (hb : B.bn E = some b) (hn : sizeA P t = some n) (h1 : gk cd = 3) (h3 : gz cd = C.sz b.Ex) (h4 : n = 1) (h5 : v.isVal = true) (h6 : v.cells.length = 1) (h7 : v.cells.all isSc = true) (hF : B.sc F = true) (hx : (cast b.eq x0)[p]? = some y) (hj : (C.enc b.Ex y)[gj cd]? = some (.slx F ys zs)) (hq : q < (ys ++ zs).length) (hd : C.dec F v.cells = some w)
    (hd2 : C.dec b.Ex ((C.enc b.Ex y).set (gj cd) (.slx F (((ys ++ zs).set q w).take ys.length) (((ys ++ zs).set q w).drop ys.length))) = some y')
    (hk : k .junk (h.set i (.gen E (cast b.eq.symm ((cast b.eq x0).set p y')))) = some z) : SoundA C P U (.store t ox oy) [.gv i cd [p, q], v] h k z := by
  refine ⟨_, _, hk, fun d ty pos af g ρ σ as_ hs H => ?_⟩
  obtain ⟨a, u, rfl, s1, s2⟩ := svs2.1 hs
  obtain ⟨hiN, hv⟩ := sv_bun B s1
  obtain ⟨hdd, names, hr, g', hnm, rfl⟩ := (bunV3 h1).1 hv
  obtain ⟨b0, cells, rfl, hB, he | ⟨tt, cs, hg, hcs⟩⟩ := inner_at B H hi hb h3 hx hj hr hnm
  · rw [he] at hq; cases hq
  have hpos := C.pos b.Ex
  have hsz := (B.sc_ok F hF).1
  rw [h3] at hnm
  have hjl : gj cd < C.sz b.Ex := by have := lt_of_get hj; rw [C.len] at this; exact this
  have hp := lt_of_get hx
  obtain ⟨c0, hc0⟩ : ∃ c0, v.cells = [c0] := by
    match hvc : v.cells, h6 with
    | [c0], _ => exact ⟨c0, rfl⟩
  rw [hc0] at hd h7
  have hcv := cells_sv s2 h5
  rw [hc0] at hcv
  obtain ⟨a0, hu0, hsv0⟩ := svs1.1 hcv
  have hsc0 : isSc c0 = true := by simpa using h7
  have hencw : C.enc F w = [c0] := by
    have hw := C.back _ _ _ hd
    have hl := wks_len hw
    match hew : C.enc F w, hl with
    | [u0], _ =>
      rw [hew] at hw
      have := wk_sc (wks_get hw 0 _ _ rfl rfl) (by rw [hsc0]; rfl) (by rw [(B.sc_ok F hF).2 w u0 (by rw [hew]; exact List.mem_singleton.2 rfl)]; rfl)
      rw [this]
  have hones : u.cells.all AV.one = true := List.all_eq_true.2 ((cells_sv s2 h5).ones (cells_one h5))
  have hclen : cs.length = (ys ++ zs).length := by
    have := congrArg List.length hcs
    rw [List.length_map, List.length_map, enc_len, hsz, Nat.mul_one] at this
    exact this.symm
  have hX : But (fun c => c = g') σ (σ.set g' (.own tt (splice cs q u.cells))) := set_but _ _ _ rfl
  have hgb : g' ≠ b0 := (hB.ok.nm _ _ hnm).2.2
  have hncs : ((((ys ++ zs).set q w)).flatMap (C.enc F)).map scA = (splice cs q u.cells).map some := by
    rw [List.set_eq_take_append_cons_drop, if_pos hq, List.flatMap_append, List.flatMap_cons, hencw, List.map_append, List.map_append]
    unfold splice
    rw [hu0, List.append_assoc, List.map_append, List.map_append]
    have e1 := enc_take (C := C) (E := F) (ys ++ zs) q
    have e2 := enc_drop (C := C) (E := F) (ys ++ zs) (q + 1)
    rw [hsz, Nat.mul_one] at e1 e2
    rw [← e1, ← e2, List.map_take, List.map_drop, hcs, List.map_take, List.map_drop]
    congr 1
    congr 1
    have := sv_scs (C := C) (N := h.length) (ρ := ρ) (vs := [c0]) (as_ := [a0]) (fun x hx => by rw [List.mem_singleton.1 hx]; exact hsc0) (svs1.2 ⟨a0, rfl, hsv0⟩)
    exact this
  have hyy := C.back _ _ _ hd2
  have hB' : BunAt C.enc (.own b.e cells) b.Ex (σ.set g' (.own tt (splice cs q u.cells))) ((cast b.eq x0).set p y') b0 cells names := by
    refine hB.put hpos hp (hX.keep _ _ (fun e => hgb e.symm) hB.blk) hB.used rfl ⟨fun m g hm => ?_, hB.ok.inj, hB.ok.frm⟩ (fun j w' a nm j1 j2 j3 j4 => ?_) (fun m w' a nm p1 p2 p3 => ⟨p2, fun hc => hc.keep hX fun g hg e => ?_⟩)
    · obtain ⟨f1, ⟨kk, f2⟩, f3⟩ := hB.ok.nm m g hm
      refine ⟨f1, ?_, f3⟩
      by_cases hgg : g = g'
      · subst hgg; exact ⟨_, set_blk _ _ _⟩
      · exact ⟨kk, hX.keep _ _ hgg f2⟩
    · have hjl2 : j < (C.enc b.Ex y).length := by rw [C.len]; exact j1
      have hold : (C.enc b.Ex y)[j]? = some (C.enc b.Ex y)[j] := List.getElem?_eq_getElem hjl2
      have hcell := hB.cell (p * C.sz b.Ex + j) _ a nm (by rw [fm_get hx j1]; exact hold) j3 j4
      by_cases hjj : j = gj cd
      · subst hjj
        have hw := wk_sc (wks_get hyy _ _ _ (List.getElem?_set_self hjl2) j2) rfl (B.flat E b hb y' w' (List.mem_of_getElem? j2))
        subst hw
        rw [hj] at hold
        injection hold with hold
        rw [← hold] at hcell
        rw [hnm] at j4
        injection j4 with j4
        subst j4
        rcases hcell with ⟨q1, q2, _⟩ | ⟨g2, t2, cs2, q1, q2, q3, q4, q5⟩
        · rw [q1, q2] at hq; simp at hq
        · have := ptr_blk q1; subst this
          rw [hg] at q3
          injection q3 with q3
          injection q3 with q3 q3'
          subst q3 q3'
          rw [List.length_append] at hq
          have hl1 : (((ys ++ zs).set q w).take ys.length).length = ys.length := by rw [List.length_take, List.length_set, List.length_append]; omega
          have hl2 : (((ys ++ zs).set q w).drop ys.length).length = zs.length := by rw [List.length_drop, List.length_set, List.length_append]; omega
          exact .inr ⟨g', _, _, rfl, by rw [q2, hl1, hl2], set_blk _ _ _, by rw [List.take_append_drop]; exact hncs, by rw [hl1, hl2]; exact q5⟩
      · have hw := wk_sc (wks_get hyy j _ _ (by rw [List.getElem?_set_ne (fun e => hjj e.symm)]; exact hold) j2) (B.flat E b hb y _ (List.getElem_mem hjl2)) (B.flat E b hb y' w' (List.mem_of_getElem? j2))
        subst hw
        refine hcell.keep hX fun g hg e => hjj ?_
        subst hg e
        have := hB.ok.inj _ _ _ j4 hnm
        omega
    · subst hg e
      have := hB.ok.inj _ _ _ p3 hnm
      subst this
      apply p1
      rw [Nat.mul_comm, Nat.mul_add_div hpos, Nat.div_eq_of_lt hjl, Nat.add_zero]
  obtain ⟨g1, g2⟩ := H.putGen (x' := cast b.eq.symm ((cast b.eq x0).set p y')) hU hi (hX.more fun c hc => by
    subst hc
    rw [hr]
    exact (tup_owns rfl hB.ok.frm).2 (.inr ⟨_, hnm⟩)) ((B.gsh E b hb _ _ _).2 ⟨b0, _, names, hr, by simpa using hB'⟩)
  refine ⟨_, ?_, ρ, sv_junk, g1, g2⟩
  unfold aStore ptr aStoreAt
  dsimp only
  rw [hg, hn]
  dsimp only
  rw [isVal_notTup s2 h5, hones]
  rw [if_pos (by rw [hu0]; simp only [Bool.true_and, Bool.and_true, Bool.and_eq_true, decide_eq_true_eq, beq_iff_eq, List.length_singleton]; omega)]
end
end Go.Proofs.Ytlaehnldaejipaa
