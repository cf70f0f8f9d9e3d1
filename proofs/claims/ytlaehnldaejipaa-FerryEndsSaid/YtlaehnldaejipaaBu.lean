/- Bundles: an element laid out; all operations in the model. -/
import Derived.Test.YtlaehnldaejipaaBt
namespace Go.Proofs.Ytlaehnldaejipaa
open Go.RowKit
set_option linter.unusedSimpArgs false
set_option maxRecDepth 100000
set_option linter.unusedVariables false
variable {T : Nat → Type} {A : Type}
/-- A cell that is laid out: an array of ours, all of it; or no memory. -/
def Lay (C : Codec T) (B : BunC C) (h : List (HI T)) (v v' : XV T) : Prop :=
  (∃ E a n c e kp, ∃ all : List (T E), v = .as E a 0 n (some c) ∧ h[a]? = some (.arr e E kp all) ∧ B.sc E = true ∧ all.length = c ∧ n ≤ c ∧ 0 < c ∧ v' = .slx E (all.take n) (all.drop n)) ∨ ((isSc v || isNil v) = true ∧ v' = v)
def asNum : XV T → Option Nat
  | .as _ a _ _ _ => some a
  | _ => none
section
variable {C : Codec T} {P : Program} {U : Nat → Prop} {N : Nat} {ρ : Nat → AV} {h : List (HI T)} {σ τ : St} {t e sz : Nat} {z : A} {k : XV T → List (HI T) → Option A}
theorem bcs_sound (B : BunC C) : ∀ {l : List (XV T)} {ds : List Nat} {k : List (XV T) → List Nat → Option A}, bcs B h l ds k = some z → ∃ l' ds', k l' ds' = some z ∧ l'.length = l.length ∧
    (∀ (p : Nat) v v', l[p]? = some v → l'[p]? = some v' → Lay C B h v v') ∧ (∀ a, a ∈ ds' ↔ a ∈ ds ∨ ∃ p : Nat, (l[p]?).bind asNum = some a) ∧ (∀ (p q : Nat) a, (l[p]?).bind asNum = some a → (l[q]?).bind asNum = some a → p = q) ∧ (∀ (p : Nat) a, (l[p]?).bind asNum = some a → a ∉ ds)
  | [], ds, k, hk => ⟨[], ds, hk, rfl, fun p v v' h => by simp at h, fun a => by simp, fun p q a h => by simp at h, fun p a h => by simp at h⟩
  | v :: l, ds, k, hk => by
    have plain : (isSc v || isNil v) = true → (bcs B h l ds fun l' ds' => k (v :: l') ds') = some z → ∃ l' ds', k l' ds' = some z ∧ l'.length = (v :: l).length ∧
        (∀ (p : Nat) u u', (v :: l)[p]? = some u → l'[p]? = some u' → Lay C B h u u') ∧ (∀ a, a ∈ ds' ↔ a ∈ ds ∨ ∃ p : Nat, ((v :: l)[p]?).bind asNum = some a) ∧ (∀ (p q : Nat) a, ((v :: l)[p]?).bind asNum = some a → ((v :: l)[q]?).bind asNum = some a → p = q) ∧ (∀ (p : Nat) a, ((v :: l)[p]?).bind asNum = some a → a ∉ ds) := fun hv hk => by
      have hn : asNum v = none := by cases v <;> first | rfl | simp [isSc, isNil, scA] at hv
      obtain ⟨l', ds', h1, h2, h3, h4, h5, h6⟩ := bcs_sound B hk
      refine ⟨v :: l', ds', h1, by simp [h2], fun p u u' g1 g2 => ?_, fun a => ?_, fun p q a g1 g2 => ?_, fun p a g1 => ?_⟩
      · cases p with
        | zero => simp at g1 g2; subst g1 g2; exact .inr ⟨hv, rfl⟩
        | succ p => exact h3 p u u' (by simpa using g1) (by simpa using g2)
      · rw [h4]
        constructor
        · rintro (g | ⟨p, g⟩)
          · exact .inl g
          · exact .inr ⟨p + 1, by simpa using g⟩
        · rintro (g | ⟨p, g⟩)
          · exact .inl g
          · cases p with
            | zero => simp [hn] at g
            | succ p => exact .inr ⟨p, by simpa using g⟩
      · cases p with
        | zero => simp [hn] at g1
        | succ p => cases q with
          | zero => simp [hn] at g2
          | succ q => rw [h5 p q a (by simpa using g1) (by simpa using g2)]
      · cases p with
        | zero => simp [hn] at g1
        | succ p => exact h6 p a (by simpa using g1)
    unfold bcs at hk
    split at hk
    · rename_i E a lo n c
      split at hk
      · rename_i e' E' kp all hi
        split at hk
        · rename_i hE
          subst hE
          split at hk
          · rename_i hc
            obtain ⟨c1, c6, c2, c3, c4⟩ := hc
            simp only [Bool.and_eq_true, Bool.not_eq_true'] at c1
            obtain ⟨c5, c7⟩ := c1
            subst c6
            obtain ⟨l', ds', h1, h2, h3, h4, h5, h6⟩ := bcs_sound B hk
            have ha : a ∉ ds := fun hm => by
              have := List.contains_iff_mem.2 hm
              rw [c7] at this; cases this
            refine ⟨_ :: l', ds', h1, by simp [h2], fun p u u' g1 g2 => ?_, fun d => ?_, fun p q d g1 g2 => ?_, fun p d g1 => ?_⟩
            · cases p with
              | zero => simp at g1 g2; subst g1 g2; exact .inl ⟨E', a, n, c, e', kp, all, rfl, hi, c5, c2, c3, c4, rfl⟩
              | succ p => exact h3 p u u' (by simpa using g1) (by simpa using g2)
            · rw [h4]
              constructor
              · rintro (g | ⟨p, g⟩)
                · rcases List.mem_cons.1 g with rfl | g
                  · exact .inr ⟨0, rfl⟩
                  · exact .inl g
                · exact .inr ⟨p + 1, by simpa using g⟩
              · rintro (g | ⟨p, g⟩)
                · exact .inl (List.mem_cons_of_mem _ g)
                · cases p with
                  | zero => simp [asNum] at g; subst g; exact .inl List.mem_cons_self
                  | succ p => exact .inr ⟨p, by simpa using g⟩
            · cases p with
              | zero => cases q with
                | zero => rfl
                | succ q =>
                  simp [asNum] at g1
                  subst g1
                  exact absurd List.mem_cons_self (h6 q a (by simpa using g2))
              | succ p => cases q with
                | zero =>
                  simp [asNum] at g2
                  subst g2
                  exact absurd List.mem_cons_self (h6 p a (by simpa using g1))
                | succ q => rw [h5 p q d (by simpa using g1) (by simpa using g2)]
            · cases p with
              | zero => simp [asNum] at g1; subst g1; exact ha
              | succ p => exact fun hm => h6 p d (by simpa using g1) (List.mem_cons_of_mem _ hm)
          · cases hk
        · cases hk
      · cases hk
    · exact plain (by simp [isNil]) hk
    · cases hv : isSc v
      · rw [hv] at hk; cases hk
      · rw [hv] at hk
        exact plain (by rw [hv]; rfl) hk
/-- The name of a cell that is laid out. -/
def layN (ρ : Nat → AV) (v : XV T) : AV := match asNum v with
  | some a => match ρ a with
    | .lst (some ad) _ _ _ => ptr ad.block 0
    | _ => .raw (.bool false)
  | none => .raw (.bool false)
theorem layN_ptr {v : XV T} {g : Nat} (hl : layN ρ v = ptr g 0) : ∃ a, asNum v = some a ∧ (ρ a).owns g := by
  unfold layN at hl
  split at hl
  · rename_i a ha
    split at hl
    · rename_i ad n c l hr
      refine ⟨a, ha, ?_⟩
      rw [hr]
      have := ptr_blk hl
      subst this
      rfl
    · cases hl
  · cases hl
theorem layN_frm (v : XV T) : (∃ g, layN ρ v = ptr g 0) ∨ layN ρ v = .raw (.bool false) := by
  unfold layN
  split
  · split
    · exact .inl ⟨_, rfl⟩
    · exact .inr rfl
  · exact .inr rfl
theorem lay_cell (B : BunC C) (H : Hp C ρ h σ) {v v' u : XV T} {a : AV} (hl : Lay C B h v v') (hs : SV C h.length ρ v a) (hw : Wk v' u) (hu : (isSc u || isSlx u) = true) : BCell C.enc σ u a (layN ρ v) := by
  rcases hl with ⟨E, i, n, c, e', kp, all, rfl, hi, h1, h2, h3, h4, rfl⟩ | ⟨h1, rfl⟩
  · have := wk_sc hw rfl hu
    subst this
    rcases sv_as.1 hs with ⟨ad, c', rfl, hA⟩ | ⟨_, h5, _, _, h6⟩
    · have hc := hA.cap c rfl
      subst hc
      obtain ⟨b, q1, q2⟩ := hA.at_
      have q2 := q2 h4
      subst q2
      obtain ⟨pre, rest, r1, r2, r3, r4, r5, _⟩ := H.arrAt hi q1
      have hsz := (B.sc_ok E h1).1
      have hpl := (r3 h.length ρ).len
      rw [enc_len, hsz, Nat.mul_one] at hpl
      have hrest : rest = [] := by
        rw [List.length_append, hsz, Nat.mul_one, Nat.zero_add] at r4
        exact List.eq_nil_of_length_eq_zero (by omega)
      subst hrest
      rw [List.append_nil] at r1
      refine .inr ⟨b, e', pre, ?_, ?_, r1, ?_, ?_⟩
      · unfold layN asNum
        dsimp only
        rw [q1]; rfl
      · rw [List.length_take, List.length_drop, Nat.zero_mul, Nat.min_eq_left (by omega), show n + (all.length - n) = c' from by omega]
      · rw [List.take_append_drop]
        exact sv_scs (fun v hv => by
          obtain ⟨x, _, hx⟩ := List.mem_flatMap.1 hv
          exact (B.sc_ok E h1).2 x v hx) (r3 h.length ρ)
      · rw [List.length_take, List.length_drop]; omega
    · have := h6 c rfl; omega
  · exact wk_cell hw h1 hu hs
theorem b_build (B : BunC C) {E sz : Nat} {b : BN1 T E} {parts : Array (Nat × Operand)} {zv : Value} {cells cells' : List (XV T)} {ds : List Nat} {x : T b.Ex} (hb : B.b1 E = some b) (he : sliceA P t = some e) (hsz : sizeA P e = some sz) (hz : zeroA P e = some zv) (h1 : sz = C.sz b.Ex) (h2 : zv.cells.size = sz) (h64 : sz < 64) (h3 : b.e = e) (h4 : cells.all XV.one = true) (h5 : cells.length = sz) (hpt : ∃ o, parts.toList = [(0, o)])
    (hl : cells'.length = cells.length) (hlay : ∀ (p : Nat) v v', cells[p]? = some v → cells'[p]? = some v' → Lay C B h v v') (hds : ∀ a, a ∈ ds ↔ a ∈ ([] : List Nat) ∨ ∃ p : Nat, (cells[p]?).bind asNum = some a) (hinj : ∀ (p q : Nat) a, (cells[p]?).bind asNum = some a → (cells[q]?).bind asNum = some a → p = q) (hd : C.dec b.Ex cells' = some x)
    (hk : k (.gv h.length (gc 0 sz 0) []) (killAll ds h ++ [HI.gen E (cast b.eq.symm x)]) = some z) : SoundA C P U (.buildSlice t 1 parts) [.agg cells] h k z := by
  refine ⟨_, _, hk, fun d ty pos af g ρ σ as_ hs H => ?_⟩
  obtain ⟨a, rfl, s1⟩ := svs1.1 hs
  obtain ⟨ls, rfl, s2⟩ := sv_agg.1 s1
  obtain ⟨o, ho⟩ := hpt
  have hpos := C.pos b.Ex
  have hll : ls.length = sz := by rw [s2.len, h5]
  refine ⟨e, sz, zv, ls, he, hsz, hz, h2, by omega, ?_, fun bb hbu hbn => ?_⟩
  · rw [ho]
    have hrl : ((List.range (1 * sz)).map fun i => AV.ofV (zv.cells[i % sz]!)).length = sz := by rw [List.length_map, List.length_range, Nat.one_mul]
    generalize ((List.range (1 * sz)).map fun i => AV.ofV (zv.cells[i % sz]!)) = zs at hrl
    show aFill (fun i => some (i * sz, sz)) zs [(0, AV.agg ls)] = some ls
    unfold aFill
    simp only [Nat.zero_mul]
    rw [if_neg (by simp [notTup, AV.cells, hll, hrl])]
    unfold aFill splice AV.cells
    simp [hll, hrl]
  · have hex : ∀ (p : Nat) v a, cells[p]? = some v → asNum v = some a → a ∈ ds ∧ ∃ e E kp all, h[a]? = some (.arr e E kp all) := fun p v a g1 g2 => by
      refine ⟨(hds a).2 (.inr ⟨p, by rw [g1]; exact g2⟩), ?_⟩
      have hpl := lt_of_get g1
      rcases hlay p v _ g1 (List.getElem?_eq_getElem (by omega)) with ⟨E, i, n, c, e', kp, all, rfl, hi, _⟩ | ⟨q1, _⟩
      · injection g2 with g2
        subst g2
        exact ⟨_, _, _, _, hi⟩
      · cases v <;> first | (simp [isSc, isNil, scA] at q1; done) | cases g2
    have hown : ∀ (p : Nat) g, ((cells.map (layN ρ)))[p]? = some (ptr g 0) → ∃ v a, cells[p]? = some v ∧ asNum v = some a ∧ (ρ a).owns g ∧ a ∈ ds ∧ ∃ e E kp all, h[a]? = some (.arr e E kp all) := fun p g hp => by
      rw [List.getElem?_map] at hp
      cases hc : cells[p]? with
      | none => rw [hc] at hp; cases hp
      | some v =>
        rw [hc] at hp
        injection hp with hp
        obtain ⟨a, g1, g2⟩ := layN_ptr hp
        obtain ⟨g3, g4⟩ := hex p v a hc g1
        exact ⟨v, a, rfl, g1, g2, g3, g4⟩
    have hok : NmOk (σ.put bb (.tail e (1 * sz) (1 * sz))) bb (cells.map (layN ρ)) := by
      refine ⟨fun p g hp => ?_, fun p q g hp hq => ?_, fun p nm hp => ?_⟩
      · obtain ⟨v, a, _, _, g2, _, e', E', kp, all, g4⟩ := hown p g hp
        have hlv : Liv ρ h g := ⟨a, _, g4, rfl, g2⟩
        have hne : g ≠ bb := fun e => hbu (by rw [← e]; exact H.used hlv)
        obtain ⟨kk, hkk⟩ := H.blk hlv
        exact ⟨.inl (H.used hlv), ⟨kk, by rw [put_other _ _ hne]; exact hkk⟩, hne⟩
      · obtain ⟨v, a, f1, f2, g2, _, e', E', kp, all, g4⟩ := hown p g hp
        obtain ⟨v', a', f1', f2', g2', _, e2, E2, kp2, all2, g4'⟩ := hown q g hq
        have := H.dist a a' _ _ g g4 g4' rfl rfl g2 g2'
        subst this
        exact hinj p q a (by rw [f1]; exact f2) (by rw [f1']; exact f2')
      · rw [List.getElem?_map] at hp
        cases hc : cells[p]? with
        | none => rw [hc] at hp; cases hp
        | some v =>
          rw [hc] at hp
          injection hp with hp
          subst hp
          exact layN_frm v
    have hB : BunAt C.enc (.tail e ls.length ls.length) b.Ex (σ.put bb (.tail e (1 * sz) (1 * sz))) [x] bb ls (cells.map (layN ρ)) := by
      refine ⟨by rw [put_same, hll, Nat.one_mul], .inr rfl, by rw [hll, h1, enc_len, List.length_singleton, Nat.one_mul], by rw [List.length_map, h5, hll], fun p v a nm q1 q2 q3 => ?_, hok⟩
      rw [List.flatMap_cons, List.flatMap_nil, List.append_nil] at q1
      rw [List.getElem?_map] at q3
      cases hc : cells[p]? with
      | none => rw [hc] at q3; cases q3
      | some u =>
        rw [hc] at q3
        injection q3 with q3
        subst q3
        have hpl := lt_of_get hc
        have hpl' : p < cells'.length := by omega
        obtain ⟨a', r1, r2⟩ := s2.get hc
        rw [q2] at r1
        injection r1 with r1
        subst r1
        have := lay_cell B H (hlay p u _ hc (List.getElem?_eq_getElem hpl')) r2 (wks_get (C.back _ _ _ hd) p _ _ (List.getElem?_eq_getElem hpl') q1) (B.flat1 E b hb x v (List.mem_of_getElem? q1))
        exact this.keep (S := fun _ => False) (Ext.put _ hbn).but (fun _ _ hf => hf)
    obtain ⟨g1, g2⟩ := H.addGen (U := U) ds (E := E) (x := cast b.eq.symm x) (a := .tup (.lst (some ⟨bb, 0, none⟩) 1 1 ls :: cells.map (layN ρ))) (τ := σ.put bb (.tail e (1 * sz) (1 * sz))) (Ext.put _ hbn).but (Ext.put _ hbn).but ((B.gsh1 E b hb _ _ _).2 ⟨bb, ls, _, rfl, by rw [h3]; simpa using hB, s2.ones (List.all_eq_true.1 h4)⟩) (fun c hc => by
      rcases (tup_owns rfl hok.frm).1 hc with rfl | ⟨p, hp⟩
      · exact .inr ⟨hbn, hbu⟩
      · obtain ⟨v, a, _, _, f2, f3, e', E', kp, all, f4⟩ := hown p c hp
        exact .inl ⟨a, f3, _, f4, rfl, f2⟩)
    refine ⟨_, ?_, g1, g2⟩
    exact bun_sv B (by rw [List.length_append, killAll_len]; simp) ((bunVe (gk_gc (by omega) h64)).2 ⟨bb, ls, _, rup_same _ _ _, rfl⟩)
theorem bget_some {B : BunC C} {i : Nat} {kk : (E : Nat) → (b : BN T E) → List (T b.Ex) → Option A} (hk : bget B h i kk = some z) : ∃ E x0 b, h[i]? = some (.gen E x0) ∧ B.bn E = some b ∧ kk E b (cast b.eq x0) = some z := by
  unfold bget at hk
  split at hk
  · rename_i E x hi
    split at hk
    · rename_i b hb
      exact ⟨E, x, b, hi, hb, hk⟩
    · cases hk
  · cases hk
theorem arrL {α : Type} {a : Array α} {l : List α} (h : a.toList = l) : a = l.toArray := by
  cases a
  simp at h
  rw [h]
/-- All operations of bundles. -/
theorem bun_ok (B : BunC C) (M : BunM) {o : Op} {vs : List (XV T)} (hU : ∀ i ∈ gvs vs, U i) (hon : bunOn M o vs = true) (hk : bunOp B M P o vs h k = some z) : SoundA C P U o vs h k z := by
  unfold bunOp at hk
  split at hk
  · rename_i c i cd l
    obtain ⟨cal, as_, ts⟩ := c
    dsimp only at hk
    split at hk
    · rename_i lo n K t ht
      cases hb : (Nat.beq (gk cd) 0 && (sliceA P t).isSome)
      · rw [hb] at hk; cases hk
      rw [hb] at hk
      simp only [Bool.and_eq_true] at hb
      exact b_len B ht hb.2 (fun r a h => by obtain ⟨X, h⟩ := val0 (Nat.eq_of_beq_eq_true hb.1) h; exact ⟨X, _, h⟩) hk
    · rename_i q lo n cp t ht
      cases hb : (Nat.beq (gk cd) 2 && (sliceA P t).isSome)
      · rw [hb] at hk; cases hk
      rw [hb] at hk
      simp only [Bool.and_eq_true] at hb
      exact b_len B ht hb.2 (fun r a h => by obtain ⟨X, h⟩ := val2 (Nat.eq_of_beq_eq_true hb.1) h; exact ⟨X, _, h⟩) hk
    · rename_i lo n K t ht
      cases hb : (Nat.beq (gk cd) 0 && (sliceA P t).isSome)
      · rw [hb] at hk; cases hk
      rw [hb] at hk
      simp only [Bool.and_eq_true] at hb
      exact b_cap B ht hb.2 (fun r a h => by obtain ⟨X, h⟩ := val0 (Nat.eq_of_beq_eq_true hb.1) h; exact ⟨X, _, h⟩) hk
    · rename_i q lo n cp t ht
      cases hb : (Nat.beq (gk cd) 2 && (sliceA P t).isSome)
      · rw [hb] at hk; cases hk
      rw [hb] at hk
      simp only [Bool.and_eq_true] at hb
      exact b_cap B ht hb.2 (fun r a h => by obtain ⟨X, h⟩ := val2 (Nat.eq_of_beq_eq_true hb.1) h; exact ⟨X, _, h⟩) hk
    · cases hk
  · rename_i c i ci lo n K j cj
    obtain ⟨cal, as_, ts⟩ := c
    dsimp only at hk
    split at hk
    · rename_i t t' hts
      split at hk
      · rename_i e E x E1 y he hi hj
        split at hk
        · rename_i sz b b1 hsz hb hb1
          split at hk
          · rename_i hE
            cases hc : (Nat.beq t t' && Nat.beq (gk ci) 0 && Nat.beq (gk cj) 0 && Nat.beq sz (C.sz b.Ex) && Nat.beq sz (gz ci) && Nat.beq b.e e && !(Nat.beq i j))
            · rw [hc] at hk; cases hk
            rw [hc] at hk
            simp only [Bool.and_eq_true, Bool.not_eq_true'] at hc
            obtain ⟨⟨⟨⟨⟨⟨c1, c2⟩, c3⟩, c5⟩, c6⟩, c7⟩, c8⟩ := hc
            have c1 := Nat.eq_of_beq_eq_true c1
            subst c1
            simp only [cond_true] at hk
            split at hk
            · rename_i hn
              obtain ⟨rfl, hn⟩ := hn
              rw [hforce_eq] at hk
              have hsize : as_.size = 2 := by
                have := hon
                unfold bunOn at this
                simp only [Bool.and_eq_true] at this
                exact Nat.eq_of_beq_eq_true this.2
              obtain ⟨ox, oy, rfl⟩ : ∃ ox oy, as_ = #[ox, oy] := by
                rcases as_ with ⟨l⟩
                match l, hsize with
                | [ox, oy], _ => exact ⟨ox, oy, rfl⟩
              have := arrL hts
              subst this
              exact b_append B (hU i (by simp [gvs])) he hsz hi hj hb hb1 hE (Nat.eq_of_beq_eq_true c2) (Nat.eq_of_beq_eq_true c3) (Nat.eq_of_beq_eq_true c5) (Nat.eq_of_beq_eq_true c6) (Nat.eq_of_beq_eq_true c7) (by rintro rfl; rw [Nat.beq_refl] at c8; cases c8) hn hk
            · cases hk
          · cases hk
        · cases hk
      · cases hk
    · cases hk
  · rename_i t x lo hi i cd l ix
    split at hk
    · rename_i e he
      split at hk
      · rename_i sz a n K hsz
        cases hc : (Nat.beq (gk cd) 0 && Nat.beq sz (gz cd))
        · rw [hc] at hk; cases hk
        rw [hc] at hk
        simp only [Bool.and_eq_true] at hc
        simp only [cond_true] at hk
        split at hk
        · rename_i l u hends
          split at hk
          · exact b_slice0 B he hsz (Nat.eq_of_beq_eq_true hc.1) (Nat.eq_of_beq_eq_true hc.2) hends ‹_› hk
          · cases hk
        · cases hk
      · rename_i sz q a n cp hsz
        cases hc : (Nat.beq (gk cd) 2 && Nat.beq sz 1)
        · rw [hc] at hk; cases hk
        rw [hc] at hk
        simp only [Bool.and_eq_true] at hc
        simp only [cond_true] at hk
        split at hk
        · rename_i l u hends
          split at hk
          · exact b_slice2 B he hsz (Nat.eq_of_beq_eq_true hc.1) (Nat.eq_of_beq_eq_true hc.2) hends ‹_› hk
          · cases hk
        · cases hk
      · cases hk
    · cases hk
  · rename_i t x y i cd l ki m
    split at hk
    · rename_i e he
      split at hk
      · rename_i sz a n K hsz
        cases hc : (Nat.beq (gk cd) 0 && Nat.beq sz (gz cd) && Nat.blt sz 64)
        · rw [hc] at hk; cases hk
        rw [hc] at hk
        simp only [Bool.and_eq_true] at hc
        simp only [cond_true] at hk
        split at hk
        · exact b_index0 B he hsz (Nat.eq_of_beq_eq_true hc.1.1) (Nat.eq_of_beq_eq_true hc.1.2) (Nat.le_of_ble_eq_true hc.2) ‹_› hk
        · cases hk
      · rename_i sz q a n cp hsz
        cases hc : (Nat.beq (gk cd) 2 && Nat.beq sz 1 && Nat.blt (gz cd) 64)
        · rw [hc] at hk; cases hk
        rw [hc] at hk
        simp only [Bool.and_eq_true] at hc
        simp only [cond_true] at hk
        split at hk
        · exact b_index2 B he hsz (Nat.eq_of_beq_eq_true hc.1.1) (Nat.eq_of_beq_eq_true hc.1.2) (Nat.le_of_ble_eq_true hc.2) ‹_› hk
        · cases hk
      · cases hk
    · cases hk
  · rename_i t x f i cd q
    split at hk
    · rename_i l hl
      split at hk
      · rename_i off n bb hf
        cases hc : (Nat.beq (gk cd) 1 && Nat.blt (gz cd) 64)
        · rw [hc] at hk; cases hk
        rw [hc] at hk
        simp only [Bool.and_eq_true] at hc
        exact b_fieldAddr B hl hf (Nat.eq_of_beq_eq_true hc.1) (Nat.le_of_ble_eq_true hc.2) hk
      · cases hk
    · cases hk
  · rename_i x i cd q
    cases hc : Nat.beq (gk cd) 1
    · rw [hc] at hk; cases hk
    rw [hc] at hk
    exact b_nil1 B (Nat.eq_of_beq_eq_true hc) hk
  · rename_i x i cd p q
    cases hc : Nat.beq (gk cd) 3
    · rw [hc] at hk; cases hk
    rw [hc] at hk
    exact b_nil3 B (Nat.eq_of_beq_eq_true hc) hk
  · rename_i t x i cd q
    obtain ⟨E, x0, b, hi, hb, hk⟩ := bget_some hk
    cases hc : (Nat.beq (gk cd) 1 && Nat.beq (gz cd) (C.sz b.Ex) && Nat.ble (gj cd) (C.sz b.Ex) && Nat.blt (gz cd) 64)
    · rw [hc] at hk; cases hk
    rw [hc] at hk
    simp only [Bool.and_eq_true] at hc
    obtain ⟨⟨⟨c1, c2⟩, c3⟩, c4⟩ := hc
    simp only [cond_true] at hk
    obtain ⟨x, hx, hk⟩ := obind hk
    exact b_load1 B hi hb (Nat.eq_of_beq_eq_true c1) (Nat.eq_of_beq_eq_true c2) (Nat.le_of_ble_eq_true c3) (Nat.le_of_ble_eq_true c4) hx hk
  · rename_i t x i cd p q
    obtain ⟨E, x0, b, hi, hb, hk⟩ := bget_some hk
    cases hc : (Nat.beq (gk cd) 3 && Nat.beq (gz cd) (C.sz b.Ex))
    · rw [hc] at hk; cases hk
    rw [hc] at hk
    simp only [Bool.and_eq_true] at hc
    simp only [cond_true] at hk
    obtain ⟨x, hx, hk⟩ := obind hk
    split at hk
    · rename_i F ys zs hj
      cases hF : B.sc F
      · rw [hF] at hk; cases hk
      rw [hF] at hk
      simp only [cond_true] at hk
      obtain ⟨y, hy, hk⟩ := obind hk
      exact b_load3 B hi hb (Nat.eq_of_beq_eq_true hc.1) (Nat.eq_of_beq_eq_true hc.2) hx hj hF hy hk
    · cases hk
  · rename_i t ox oy i cd q v
    split at hk
    · rename_i E x0 hi
      split at hk
      · rename_i b n hb hn
        split at hk
        · rename_i hc
          simp only [Bool.and_eq_true] at hc
          obtain ⟨⟨⟨⟨⟨⟨c1, c2⟩, c3⟩, c4⟩, c5⟩, c6⟩, c7⟩ := hc
          split at hk
          · rename_i hq
            obtain ⟨x', hd, hk⟩ := obind hk
            rw [hforce_eq] at hk
            exact b_store1 B (hU i (by simp [gvs])) hi hb hn (Nat.eq_of_beq_eq_true c1) (Nat.eq_of_beq_eq_true c2) (Nat.eq_of_beq_eq_true c3) (Nat.eq_of_beq_eq_true c4) c5 (Nat.eq_of_beq_eq_true c6) c7 hq hd hk
          · cases hk
        · cases hk
      · cases hk
    · cases hk
  · rename_i t ox oy i cd p q v
    split at hk
    · rename_i E x0 hi
      split at hk
      · rename_i b n hb hn
        obtain ⟨y, hx, hk⟩ := obind hk
        split at hk
        · rename_i F ys zs hj
          split at hk
          · rename_i hc
            simp only [Bool.and_eq_true] at hc
            obtain ⟨⟨⟨⟨⟨⟨c1, c2⟩, c3⟩, c4⟩, c5⟩, c6⟩, c7⟩ := hc
            split at hk
            · rename_i hq
              obtain ⟨w, hd, hk⟩ := obind hk
              obtain ⟨y', hd2, hk⟩ := obind hk
              rw [hforce_eq] at hk
              exact b_store3 B (hU i (by simp [gvs])) hi hb hn (Nat.eq_of_beq_eq_true c1) (Nat.eq_of_beq_eq_true c2) (Nat.eq_of_beq_eq_true c4) c5 (Nat.eq_of_beq_eq_true c6) c7 c3 hx hj hq hd hd2 hk
            · cases hk
          · cases hk
        · cases hk
      · cases hk
    · cases hk
  · rename_i t ox oy kn n km m
    split at hk
    · rename_i E e hM he
      split at hk
      · rename_i b sz zv by_ hb hsz hz hby
        split at hk
        · rename_i hc
          simp only [Bool.and_eq_true] at hc
          obtain ⟨⟨⟨⟨c1, c2⟩, c3⟩, c4⟩, c5⟩ := hc
          split at hk
          · rename_i hr
            obtain ⟨x, hd, hk⟩ := obind hk
            rw [hforce_eq] at hk
            exact b_make B hb he hsz hz hby (Nat.eq_of_beq_eq_true c1) (Nat.eq_of_beq_eq_true c2) (Nat.le_of_ble_eq_true c3) (Nat.eq_of_beq_eq_true c4) c5 hr hd hk
          · cases hk
        · cases hk
      · cases hk
    · cases hk
  · rename_i t parts cells
    split at hk
    · rename_i E e hM he
      split at hk
      · rename_i b sz zv hb hsz hz
        split at hk
        · rename_i hc
          simp only [Bool.and_eq_true] at hc
          obtain ⟨⟨⟨⟨⟨⟨⟨c1, c2⟩, c3⟩, c4⟩, c5⟩, c6⟩, c7⟩, c8⟩ := hc
          obtain ⟨cells', ds, hk, f1, f2, f3, f4, f5⟩ := bcs_sound B hk
          obtain ⟨x, hd, hk⟩ := obind hk
          rw [hforce_eq] at hk
          refine b_build B hb he hsz hz (Nat.eq_of_beq_eq_true c1) (Nat.eq_of_beq_eq_true c2) (Nat.le_of_ble_eq_true c3) (Nat.eq_of_beq_eq_true c5) c6 (Nat.eq_of_beq_eq_true c7) ?_ f1 f2 f3 f4 hd hk
          unfold one0 at c8
          split at c8
          · rename_i p hp
            obtain ⟨p1, p2⟩ := p
            have := Nat.eq_of_beq_eq_true c8
            dsimp only at this
            subst this
            exact ⟨p2, hp⟩
          · cases c8
        · cases hk
      · cases hk
    · cases hk
  · cases hk
theorem bun_touch {M : BunM} {tou : Tou T} {o : Op} {vs : List (XV T)} (hon : bunOn M o vs = true) : xtouch tou o vs h = gvs vs ∨ gvs vs = [] ∨ ∃ t n p, o = .buildSlice t n p ∨ ∃ t a b, o = .makeSlice t a b := by
  unfold bunOn at hon
  split at hon
  · rename_i c i cd l vs'
    obtain ⟨cal, as_, ts⟩ := c
    cases cal with
    | builtin b => cases b <;> exact .inl rfl
    | _ => simp [isBuiltin] at hon
  · exact .inl rfl
  · exact .inl rfl
  · exact .inl rfl
  · exact .inl rfl
  · exact .inl rfl
  · exact .inl rfl
  · exact .inl rfl
  · exact .inl rfl
  · cases hon
def bunHook (B : BunC C) (M : BunM) (P : Program) : Hook C P where
  on := bunOn M
  op := bunOp B M P
  ok := fun tou o vs h k z hon hk => by
    refine bun_ok B M (fun i hi => ?_) hon hk
    rcases bun_touch (h := h) (tou := tou) hon with e | e | ⟨t, n, p, rfl | ⟨t, a, b, rfl⟩⟩
    · rw [e]; exact hi
    · rw [e] at hi; cases hi
    · exact hi
    · exact hi
end
end Go.Proofs.Ytlaehnldaejipaa
