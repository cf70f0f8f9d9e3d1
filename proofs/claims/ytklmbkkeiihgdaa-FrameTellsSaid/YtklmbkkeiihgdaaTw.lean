/- Arrays of ours are lent to a call that only reads; rows that a call tells, as arrays. -/
import Derived.Test.YtklmbkkeiihgdaaX16
namespace Go.Proofs.Ytklmbkkeiihgdaa
open Go.RowKit
set_option linter.unusedSimpArgs false
set_option maxRecDepth 100000
set_option linter.unusedVariables false
variable {T : Nat → Type}
def lendC (h : List (HI T)) : XV T → XV T
  | .as E i lo n co => match h[i]? with
    | some (.arr _ E' _ zs) => if hE : E' = E then .sl E (((hE ▸ zs : List (T E)).drop lo).take n) none else .junk
    | _ => .junk
  | v => v
def lendV (h : List (HI T)) : XV T → XV T
  | .agg l => .agg (l.map (lendC h))
  | v => lendC h v
/-- A value without memory. -/
def XV.scal : XV T → Bool
  | .int _ _ | .bool _ | .str _ | .nilptr | .fn _ => true
  | _ => false
def XV.scal2 : XV T → Bool
  | .agg l => l.all XV.scal
  | v => v.scal
def XV.scal3 : XV T → Bool
  | .tup l => l.all XV.scal2
  | v => v.scal2
section
variable {C : Codec T} {P : Program} {N N' : Nat} {ρ ρ' : Nat → AV} {h : List (HI T)} {σ τ : St} {U U0 : Nat → Prop}
theorem scal_sv {v : XV T} {a : AV} (hs : v.scal = true) (h : SV C N ρ v a) : SV C N' ρ' v a ∧ ∀ w B, Valid w B a := by
  cases v with
  | int k n => rw [sv_int.1 h]; exact ⟨sv_int.2 rfl, fun w B => valid_raw _⟩
  | bool b => rw [sv_bool.1 h]; exact ⟨sv_bool.2 rfl, fun w B => valid_raw _⟩
  | str s => rw [sv_str.1 h]; exact ⟨sv_str.2 rfl, fun w B => valid_raw _⟩
  | nilptr => rw [sv_nilptr.1 h]; exact ⟨sv_nilptr.2 rfl, fun w B => valid_raw _⟩
  | fn f => rw [sv_fn.1 h]; exact ⟨sv_fn.2 rfl, fun w B => valid_raw _⟩
  | _ => cases hs
theorem scals_sv : ∀ {l : List (XV T)} {as_ : List AV}, l.all XV.scal = true → SVs C N ρ l as_ → SVs C N' ρ' l as_ ∧ ∀ w B, ∀ a ∈ as_, Valid w B a
  | [], as_, _, h => by rw [SVs_nil.1 h]; exact ⟨.none, by simp⟩
  | v :: l, as_, hs, h => by
    rw [List.all_cons, Bool.and_eq_true] at hs
    obtain ⟨a, bs, rfl, h1, h2⟩ := h.to
    obtain ⟨g1, g2⟩ := scal_sv (N' := N') (ρ' := ρ') hs.1 h1
    obtain ⟨g3, g4⟩ := scals_sv hs.2 h2
    exact ⟨.cons g1 g3, fun w B x hx => by
      rcases List.mem_cons.1 hx with rfl | hx
      · exact g2 w B
      · exact g4 w B x hx⟩
open Classical in
/-- Rows that are told, as arrays. -/
def toA : XV T → XV T
  | .sl E xs (some i) => .as E i 0 xs.length none
  | v => v
def toA2 : XV T → XV T
  | .agg l => .agg (l.map toA)
  | v => toA v
def toA3 : XV T → XV T
  | .tup l => .tup (l.map toA2)
  | v => toA2 v
def leaf : XV T → Bool
  | .sl _ _ (some _) => true
  | v => v.scal
def leaf2 : XV T → Bool
  | .agg l => l.all leaf
  | v => leaf v
def leaf3 : XV T → Bool
  | .tup l => l.all leaf2
  | v => leaf2 v
def hasC (E i : Nat) (xs : List (T E)) : XV T → Prop
  | .sl E' xs' (some j) => j = i ∧ (⟨E', xs'⟩ : (E : Nat) × List (T E)) = ⟨E, xs⟩
  | _ => False
def has2 (E i : Nat) (xs : List (T E)) : XV T → Prop
  | .agg l => ∃ v ∈ l, hasC E i xs v
  | v => hasC E i xs v
def has3 (E i : Nat) (xs : List (T E)) : XV T → Prop
  | .tup l => ∃ v ∈ l, has2 E i xs v
  | v => has2 E i xs v
theorem hasC_sv {E i : Nat} {xs : List (T E)} {v : XV T} {a : AV} (hb : hasC E i xs v) (hs : SV C N ρ v a) : SV C N ρ (.sl E xs none) (ρ i) := by
  unfold hasC at hb
  split at hb
  · obtain ⟨rfl, h2⟩ := hb
    cases h2
    obtain ⟨rfl, _, h3⟩ := sv_own.1 hs
    exact h3
  · exact hb.elim
theorem mem_sv {l : List (XV T)} {as_ : List AV} (hs : SVs C N ρ l as_) {v : XV T} (hv : v ∈ l) : ∃ a, SV C N ρ v a := by
  obtain ⟨i, hi⟩ := List.getElem?_of_mem hv
  obtain ⟨a, _, h⟩ := hs.get hi
  exact ⟨a, h⟩
theorem has2_sv {E i : Nat} {xs : List (T E)} {v : XV T} {a : AV} (hb : has2 E i xs v) (hs : SV C N ρ v a) : SV C N ρ (.sl E xs none) (ρ i) := by
  unfold has2 at hb
  split at hb
  · obtain ⟨u, hu, hb⟩ := hb
    obtain ⟨ls, rfl, h1⟩ := sv_agg.1 hs
    obtain ⟨b, h2⟩ := mem_sv h1 hu
    exact hasC_sv hb h2
  · exact hasC_sv hb hs
theorem has3_sv {E i : Nat} {xs : List (T E)} {v : XV T} {a : AV} (hb : has3 E i xs v) (hs : SV C N ρ v a) : SV C N ρ (.sl E xs none) (ρ i) := by
  unfold has3 at hb
  split at hb
  · obtain ⟨u, hu, hb⟩ := hb
    obtain ⟨ls, rfl, h1⟩ := sv_tup.1 hs
    obtain ⟨b, h2⟩ := mem_sv h1 hu
    exact has2_sv hb h2
  · exact has2_sv hb hs
/-- Cells without memory: as they lie. -/
theorem scals_raw : ∀ {l : List (XV T)} {as_ : List AV}, l.all XV.scal = true → SVs C N ρ l as_ → as_ = (as_.map AV.val).map AV.raw
  | [], as_, _, h => by rw [SVs_nil.1 h]; rfl
  | v :: l, as_, hs, h => by
    rw [List.all_cons, Bool.and_eq_true] at hs
    obtain ⟨a, bs, rfl, h1, h2⟩ := h.to
    have ih := scals_raw hs.2 h2
    have ha : a = AV.raw a.val := by
      cases v with
      | int k n => rw [sv_int.1 h1]; simp
      | bool b => rw [sv_bool.1 h1]; simp
      | str s => rw [sv_str.1 h1]; simp
      | nilptr => rw [sv_nilptr.1 h1]; simp
      | fn f => rw [sv_fn.1 h1]; simp
      | _ => cases hs.1
    rw [List.map_cons, List.map_cons, ← ih, ← ha]
/-- A list's value, as an array. -/
def rA : AV → AV
  | .lst (some ad) _ c _ => ab ad.block c
  | _ => .lst none 0 0 []
def vA : AV → AV
  | .lst (some ad) n c _ => .raw (.slice (some ad) n c)
  | a => a
theorem rA_blk (a : AV) : ∀ g, (rA a).owns g → a.owns g := by
  intro g hg
  unfold rA at hg
  split at hg
  · exact hg
  · cases hg
theorem vA_val (a : AV) : (vA a).val = a.val := by
  unfold vA
  split
  · simp
  · rfl
section
variable {n m : Nat}
/-- What is known of the rows that are told. -/
def RowsAt (τ : St) (ρ : Nat → AV) (n : Nat) : Prop := ∀ i, i < n → ∃ e sz k cells, Own τ e sz (ρ i) k cells
theorem leafA (hR : RowsAt τ ρ n) (hnm : n ≤ m) {v : XV T} {a : AV} (hb : leaf v = true) (hs : SV C n ρ v a) : SV C m (fun i => rA (ρ i)) (toA v) (vA a) ∧ ∀ w B, Valid w B (vA a) := by
  by_cases hc : ∃ E xs i, v = .sl E xs (some i)
  · obtain ⟨E, xs, i, rfl⟩ := hc
    obtain ⟨rfl, hi, h2⟩ := sv_own.1 hs
    obtain ⟨e, sz, k, cells, hl, ho⟩ := hR i hi
    obtain ⟨A, c, cs, rest, ea, l1, l2, l3, l4, l5⟩ := sv_sl.1 h2
    rcases ho with ⟨ho, _⟩ | ⟨g, c', ho, o1, o2, _, _⟩
    · rw [ho] at ea
      injection ea with e1 e2 e3 e4
      have hx : xs = [] := List.eq_nil_of_length_eq_zero e2.symm
      subst hx
      rw [ho]
      refine ⟨sv_as.2 (.inr ⟨rfl, rfl, by omega, by rw [ho]; rfl, fun c' hc => by cases hc⟩), fun w B => valid_nil_⟩
    · rw [ho] at ea
      injection ea with e1 e2 e3 e4
      subst e2 e3
      rw [ho]
      refine ⟨sv_as.2 (.inl ⟨_, _, rfl, by omega, o1, o2, l3, ⟨g, by rw [Nat.zero_add, ho]; rfl, fun _ => by rw [Nat.zero_mul]⟩, fun c'' hc => by cases hc⟩), fun w B => valid_raw _⟩
  · have hsc : v.scal = true := by
      cases v with
      | sl E xs o => cases o with
        | none => cases hb
        | some i => exact absurd ⟨_, _, _, rfl⟩ hc
      | _ => exact hb
    have hsame : toA v = v := by
      cases v with
      | sl E xs o => cases o with
        | none => rfl
        | some i => exact absurd ⟨_, _, _, rfl⟩ hc
      | _ => rfl
    have hraw := scals_raw (l := [v]) (as_ := [a]) (by simp [hsc]) hs
    simp only [List.map_cons, List.map_nil, List.cons.injEq, and_true] at hraw
    rw [hsame, hraw]
    refine ⟨?_, fun w B => valid_raw _⟩
    have : vA (AV.raw a.val) = a := by rw [← hraw]; rw [hraw]; rfl
    rw [this]
    exact (scal_sv hsc hs).1
theorem leavesA (hR : RowsAt τ ρ n) (hnm : n ≤ m) : ∀ {l : List (XV T)} {as_ : List AV}, l.all leaf = true → SVs C n ρ l as_ → SVs C m (fun i => rA (ρ i)) (l.map toA) (as_.map vA) ∧ ∀ w B, ∀ a ∈ as_.map vA, Valid w B a
  | [], as_, _, h => by rw [SVs_nil.1 h]; exact ⟨.none, by simp⟩
  | v :: l, as_, hs, h => by
    rw [List.all_cons, Bool.and_eq_true] at hs
    obtain ⟨a, bs, rfl, h1, h2⟩ := h.to
    obtain ⟨g1, g2⟩ := leafA hR hnm hs.1 h1
    obtain ⟨g3, g4⟩ := leavesA hR hnm hs.2 h2
    exact ⟨.cons g1 g3, fun w B x hx => by
      rcases List.mem_cons.1 hx with rfl | hx
      · exact g2 w B
      · exact g4 w B x hx⟩
def vA2 : AV → AV
  | .agg l => .agg (l.map vA)
  | a => vA a
theorem leaf2A (hR : RowsAt τ ρ n) (hnm : n ≤ m) {v : XV T} {a : AV} (hb : leaf2 v = true) (hs : SV C n ρ v a) : SV C m (fun i => rA (ρ i)) (toA2 v) (vA2 a) ∧ (∀ w B, Valid w B (vA2 a)) ∧ (vA2 a).val = a.val := by
  by_cases hc : ∃ l, v = .agg l
  · obtain ⟨l, rfl⟩ := hc
    obtain ⟨ls, rfl, h1⟩ := sv_agg.1 hs
    obtain ⟨g1, g2⟩ := leavesA hR hnm hb h1
    exact ⟨sv_agg.2 ⟨_, rfl, g1⟩, fun w B => by unfold vA2 Valid; exact Valids.iff.2 (g2 w B), by simp [vA2, Function.comp_def, vA_val]⟩
  · have e1 : leaf2 v = leaf v := by cases v <;> first | rfl | exact absurd ⟨_, rfl⟩ hc
    have e2 : toA2 v = toA v := by cases v <;> first | rfl | exact absurd ⟨_, rfl⟩ hc
    rw [e1] at hb
    obtain ⟨g1, g2⟩ := leafA hR hnm hb hs
    have e3 : vA2 a = vA a := by
      cases a with
      | agg l =>
        exfalso
        cases v with
        | int k n => have := sv_int.1 hs; cases this
        | bool b => have := sv_bool.1 hs; cases this
        | str s => have := sv_str.1 hs; cases this
        | nilptr => have := sv_nilptr.1 hs; cases this
        | fn f => have := sv_fn.1 hs; cases this
        | sl E xs o => obtain ⟨_, _, _, _, h, _⟩ := sv_list hs; cases h
        | _ => cases hb
      | _ => rfl
    rw [e2, e3]
    exact ⟨g1, g2, vA_val a⟩
theorem leaves2A (hR : RowsAt τ ρ n) (hnm : n ≤ m) : ∀ {l : List (XV T)} {as_ : List AV}, l.all leaf2 = true → SVs C n ρ l as_ → SVs C m (fun i => rA (ρ i)) (l.map toA2) (as_.map vA2) ∧ (∀ w B, ∀ a ∈ as_.map vA2, Valid w B a) ∧ (as_.map vA2).map AV.val = as_.map AV.val
  | [], as_, _, h => by rw [SVs_nil.1 h]; exact ⟨.none, by simp, rfl⟩
  | v :: l, as_, hs, h => by
    rw [List.all_cons, Bool.and_eq_true] at hs
    obtain ⟨a, bs, rfl, h1, h2⟩ := h.to
    obtain ⟨g1, g2, g5⟩ := leaf2A hR hnm hs.1 h1
    obtain ⟨g3, g4, g6⟩ := leaves2A hR hnm hs.2 h2
    exact ⟨.cons g1 g3, fun w B x hx => by
      rcases List.mem_cons.1 hx with rfl | hx
      · exact g2 w B
      · exact g4 w B x hx, by rw [List.map_cons, List.map_cons, List.map_cons, g5, g6]⟩
def vA3 : AV → AV
  | .tup l => .tup (l.map vA2)
  | a => vA2 a
theorem leaf3A (hR : RowsAt τ ρ n) (hnm : n ≤ m) {v : XV T} {a : AV} (hb : leaf3 v = true) (hs : SV C n ρ v a) : SV C m (fun i => rA (ρ i)) (toA3 v) (vA3 a) ∧ (∀ w B, Valid w B (vA3 a)) ∧ (vA3 a).val = a.val := by
  by_cases hc : ∃ l, v = .tup l
  · obtain ⟨l, rfl⟩ := hc
    obtain ⟨ls, rfl, h1⟩ := sv_tup.1 hs
    obtain ⟨g1, g2, g3⟩ := leaves2A hR hnm hb h1
    refine ⟨sv_tup.2 ⟨_, rfl, g1⟩, fun w B => by unfold vA3 Valid; exact Valids.iff.2 (g2 w B), ?_⟩
    unfold vA3
    rw [AV.val_tup, AV.val_tup, g3]
  · have e1 : leaf3 v = leaf2 v := by cases v <;> first | rfl | exact absurd ⟨_, rfl⟩ hc
    have e2 : toA3 v = toA2 v := by cases v <;> first | rfl | exact absurd ⟨_, rfl⟩ hc
    rw [e1] at hb
    have e3 : vA3 a = vA2 a := by
      cases a with
      | tup l =>
        exfalso
        cases v with
        | int k n => have := sv_int.1 hs; cases this
        | bool b => have := sv_bool.1 hs; cases this
        | str s => have := sv_str.1 hs; cases this
        | nilptr => have := sv_nilptr.1 hs; cases this
        | fn f => have := sv_fn.1 hs; cases this
        | sl E xs o => obtain ⟨_, _, _, _, h, _⟩ := sv_list hs; cases h
        | agg l' => obtain ⟨_, h, _⟩ := sv_agg.1 hs; cases h
        | _ => cases hb
      | _ => rfl
    rw [e2, e3]
    exact leaf2A hR hnm hb hs
end
theorem hasC_val {w : World} {B : Nat → Nat → Prop} {E i : Nat} {xs : List (T E)} {v : XV T} {a : AV} (hb : hasC E i xs v) (hs : SV C N ρ v a) (hv : Valid w B a) : Valid w B (ρ i) := by
  unfold hasC at hb
  split at hb
  · obtain ⟨rfl, h2⟩ := hb
    rw [← (sv_own.1 hs).1]; exact hv
  · exact hb.elim
theorem mem_sv2 {l : List (XV T)} {as_ : List AV} (hs : SVs C N ρ l as_) {v : XV T} (hv : v ∈ l) : ∃ a ∈ as_, SV C N ρ v a := by
  obtain ⟨i, hi⟩ := List.getElem?_of_mem hv
  obtain ⟨a, h1, h⟩ := hs.get hi
  exact ⟨a, List.mem_of_getElem? h1, h⟩
theorem has2_val {w : World} {B : Nat → Nat → Prop} {E i : Nat} {xs : List (T E)} {v : XV T} {a : AV} (hb : has2 E i xs v) (hs : SV C N ρ v a) (hv : Valid w B a) : Valid w B (ρ i) := by
  unfold has2 at hb
  split at hb
  · obtain ⟨u, hu, hb⟩ := hb
    obtain ⟨ls, rfl, h1⟩ := sv_agg.1 hs
    obtain ⟨b, hm, h2⟩ := mem_sv2 h1 hu
    unfold Valid at hv
    exact hasC_val hb h2 (Valids.iff.1 hv b hm)
  · exact hasC_val hb hs hv
theorem has3_val {w : World} {B : Nat → Nat → Prop} {E i : Nat} {xs : List (T E)} {v : XV T} {a : AV} (hb : has3 E i xs v) (hs : SV C N ρ v a) (hv : Valid w B a) : Valid w B (ρ i) := by
  unfold has3 at hb
  split at hb
  · obtain ⟨u, hu, hb⟩ := hb
    obtain ⟨ls, rfl, h1⟩ := sv_tup.1 hs
    obtain ⟨b, hm, h2⟩ := mem_sv2 h1 hu
    unfold Valid at hv
    exact has2_val hb h2 (Valids.iff.1 hv b hm)
  · exact has2_val hb hs hv
/-- Rows that a call tells, as arrays. -/
theorem Tr.asArr {f : FuncId} {args : List (XV T)} {r : XV T} {rows arrs : List (HI T)} (h1 : Tr C P U f args [] r rows) (hlen : arrs.length = rows.length) (hleaf : leaf3 r = true)
    (hrel : ∀ i x, rows[i]? = some x → ∃ e E xs, x = .row e (C.sz E) ∧ arrs[i]? = some (.arr e E true xs) ∧ has3 E i xs r ∧ (∀ y : T E, (C.enc E y).all XV.scal = true) ∧ C.full E = false) : Tr C P U f args [] (toA3 r) arrs := by
  intro ρ σ vs hs H w Z hH hV
  refine (h1 ρ σ vs hs H w Z hH hV).mono ?_
  rintro y w' ⟨rv, τ, rfl, ⟨ρ', hrv, H', R⟩, hH', hV', hG⟩
  have hR : RowsAt τ ρ' rows.length := fun i hi => by
    obtain ⟨e, E, xs, hx, _⟩ := hrel i rows[i] (List.getElem?_eq_getElem hi)
    have := H'.it i rows[i] (List.getElem?_eq_getElem hi)
    rw [hx] at this
    obtain ⟨n, cells, ho⟩ := this
    exact ⟨e, _, n, cells, ho⟩
  obtain ⟨s1, s2, s3⟩ := leaf3A (m := arrs.length) hR (by omega) hleaf hrv
  let G : Nat → Prop := fun b => ∃ i, i < rows.length ∧ (ρ' i).owns b
  have hGb : ∀ b, G b → σ.blk b = none ∧ ¬ σ.used b := fun b ⟨i, hi, hb⟩ => by
    obtain ⟨e, E, xs, hx, _⟩ := hrel i rows[i] (List.getElem?_eq_getElem hi)
    rcases R.born b ⟨i, rows[i], List.getElem?_eq_getElem hi, by rw [hx]; rfl, hb⟩ with ⟨j, x, hj, _⟩ | h
    · simp at hj
    · exact h
  have hGt : ∀ b, G b → ∃ t k s, τ.blk b = some (.tail t k s) ∧ τ.used b := fun b ⟨i, hi, hb⟩ => by
    obtain ⟨e, sz, k, cells, ho⟩ := hR i hi
    obtain ⟨q1, q2⟩ := blkO_own ho hb
    exact ⟨_, _, _, q2, q1⟩
  have hkeep : ∀ b k, σ.blk b = some k → τ.blk b = some k := fun b k hk => R.but.keep b k (fun ⟨i, x, _, hx, _⟩ => by simp at hx) hk
  have hnG : ∀ b k, σ.blk b = some k → ¬ G b := fun b k hk hg => by rw [(hGb b hg).1] at hk; cases hk
  classical
  let υ : St := ⟨fun b => if G b then (match w'.heap[b]? with | some (.cells cs t _) => some (.own t (cs.toList.map AV.raw)) | _ => none) else σ.blk b, τ.used, by
    obtain ⟨n, hn⟩ := σ.fin
    obtain ⟨m, hm⟩ := τ.fin
    refine ⟨n + m, fun b hb => ⟨(hm b (by omega)).1, ?_⟩⟩
    have : ¬ G b := fun hg => by
      obtain ⟨_, _, _, _, hu⟩ := hGt b hg
      exact (hm b (by omega)).1 hu
    rw [if_neg this]
    exact (hn b (by omega)).2⟩
  have hυo : ∀ b, ¬ G b → υ.blk b = σ.blk b := fun b hb => by show (if G b then _ else σ.blk b) = _; rw [if_neg hb]
  have hυi : ∀ b, G b → ∃ t cur, w'.heap[b]? = some (.cells cur t (0, 0)) ∧ υ.blk b = some (.own t (cur.toList.map AV.raw)) ∧ ∃ k, τ.blk b = some (.tail t k cur.size) := fun b hb => by
    obtain ⟨t, k, s, q1, q2⟩ := hGt b hb
    obtain ⟨_, cur, q3, q4, _⟩ := hH'.tail _ _ _ _ q1
    refine ⟨t, cur, q3, ?_, k, by rw [q4]; exact q1⟩
    show (if G b then _ else σ.blk b) = _
    rw [if_pos hb, q3]
  have hG2 : Grow w σ w' υ := by
    refine ⟨hG.os, hG.tape, hG.output, hG.size, hG.used, fun b hb hn => ⟨(hG.rest b hb hn).1, ?_⟩, fun b t k s hb ht => ⟨(hG.tail b t k s hb ht).1, .inr ⟨t, k, s, by rw [hυo b (hnG _ _ ht)]; exact ht, Nat.le_refl _⟩⟩, R.but.used⟩
    by_cases hg : G b
    · exfalso
      obtain ⟨_, _, _, _, hu⟩ := hGt b hg
      exact (hGb b hg).2 (hG.used b hb hu)
    · rw [hυo b hg]; exact hn
  have hHυ : HeapOk w' υ Z := by
    refine ⟨hH'.used, fun b hz => ⟨(hH'.z b hz).1, ?_⟩, fun b t cs hb => ?_, fun b t k s hb => ?_, fun b es hb => ?_⟩
    · have hg : ¬ G b := fun hg => by
        obtain ⟨t, k, s, q1, _⟩ := hGt b hg
        rw [(hH'.z b hz).2] at q1; cases q1
      rw [hυo b hg]; exact (hH.z b hz).2
    · by_cases hg : G b
      · obtain ⟨t', cur, q1, q2, _⟩ := hυi b hg
        rw [q2] at hb
        injection hb with hb
        injection hb with e1 e2
        subst e1 e2
        obtain ⟨_, _, _, _, hu⟩ := hGt b hg
        refine ⟨hu, by rw [q1]; simp [Function.comp_def], fun c hc => ?_⟩
        obtain ⟨v, _, rfl⟩ := List.mem_map.1 hc
        exact valid_raw _
      · rw [hυo b hg] at hb
        obtain ⟨g1, g2, g3⟩ := hH.own _ _ _ hb
        exact ⟨R.but.used _ g1, (hH'.own _ _ _ (hkeep _ _ hb)).2.1, fun c hc => hG2.valid (g3 c hc)⟩
    · by_cases hg : G b
      · obtain ⟨t', cur, q1, q2, _⟩ := hυi b hg
        rw [q2] at hb; cases hb
      · rw [hυo b hg] at hb
        exact ⟨R.but.used _ (hH.tail _ _ _ _ hb).1, (hH'.tail _ _ _ _ (hkeep _ _ hb)).2⟩
    · by_cases hg : G b
      · obtain ⟨t', cur, q1, q2, _⟩ := hυi b hg
        rw [q2] at hb; cases hb
      · rw [hυo b hg] at hb
        exact ⟨R.but.used _ (hH.map _ _ hb).1, (hH'.map _ _ (hkeep _ _ hb)).2⟩
  have hrow : ∀ i z, arrs[i]? = some z → ∃ e E xs, rows[i]? = some (.row e (C.sz E)) ∧ z = .arr e E true xs ∧ has3 E i xs r ∧ (∀ y : T E, (C.enc E y).all XV.scal = true) ∧ C.full E = false := fun i z hz => by
    have hi : i < rows.length := by rw [← hlen]; exact lt_of_get hz
    obtain ⟨e, E, xs, hx, ha, q⟩ := hrel i rows[i] (List.getElem?_eq_getElem hi)
    rw [hz] at ha
    injection ha with ha
    exact ⟨e, E, xs, by rw [List.getElem?_eq_getElem hi, hx], ha, q⟩
  refine ⟨vA3 rv, υ, by rw [s3], ⟨fun i => rA (ρ' i), s1, ⟨fun i z hz => ?_, fun i j x y' b hx hy ax ay bx by_ => ?_⟩, ⟨Nat.zero_le _, fun i hi => absurd hi (Nat.not_lt_zero i), ⟨fun b k _ hk => by rw [hυo b (hnG _ _ hk)]; exact hk, R.but.used⟩, fun b ⟨i, z, hz, az, bz⟩ => ?_⟩⟩, hHυ, s2 _ _, hG2⟩
  · obtain ⟨e, E, xs, hx, rfl, q1, q2, q3⟩ := hrow i z hz
    have hsl := has3_sv q1 hrv
    have hvl := has3_val q1 hrv hV'
    obtain ⟨n, cells, hl, ho⟩ := H'.it i _ hx
    obtain ⟨A, c, cs, rest, ea, l1, l2, l3, l4, l5⟩ := sv_sl.1 hsl
    rcases ho with ⟨ho, _⟩ | ⟨g, c', ho, o1, o2, o3, o4⟩
    · right
      rw [ho] at ea
      injection ea with e1 e2 e3 e4
      exact ⟨by show rA (ρ' i) = _; rw [ho]; rfl, List.eq_nil_of_length_eq_zero e2.symm⟩
    · left
      rw [ho] at ea
      injection ea with e1 e2 e3 e4
      subst e1 e2 e3
      have hcl := l5.len
      rw [enc_len] at hcl
      have hrest : rest = [] := List.eq_nil_of_length_eq_zero (by rw [e4, List.length_append] at hl; omega)
      subst hrest
      rw [List.append_nil] at e4
      subst e4
      have hg : G g := ⟨i, lt_of_get hx, by rw [ho]; rfl⟩
      obtain ⟨t, cur, u1, u2, k, u3⟩ := hυi g hg
      rw [o3] at u3
      injection u3 with u3
      injection u3 with v1 v2 v3
      subst v1
      have hscal : (xs.flatMap (C.enc E)).all XV.scal = true := by
        rw [List.all_eq_true]
        intro v hv
        obtain ⟨y, _, hy⟩ := List.mem_flatMap.1 hv
        exact List.all_eq_true.1 (q2 y) v hy
      have hraw := scals_raw hscal l5
      rw [ho] at hvl
      unfold Valid at hvl
      have hat := hvl.2.2 _ rfl
      have htake : (cur.toList.map AV.raw).take (xs.length * C.sz E) = cells := by
        rw [hraw, ← List.map_take]
        congr 1
        apply List.ext_getElem?
        intro j
        rw [List.getElem?_take, List.getElem?_map]
        split
        · rename_i hj
          have hjl : j < cells.length := by omega
          have := (hat.get (List.getElem?_eq_getElem hjl)).1
          rw [Nat.zero_add, add_off_, Nat.zero_add] at this
          rw [List.getElem?_eq_getElem hjl, Array.getElem?_toList]
          have h2 : w'.cell? ⟨g, j, none⟩ = cur[j]? := by simp [World.cell?, u1]
          rw [← h2, this]
          rfl
        · rename_i hj
          rw [List.getElem?_eq_none (by omega)]
          rfl
      refine ⟨g, c', cells, (cur.toList.map AV.raw).drop (xs.length * C.sz E), by show rA (ρ' i) = _; rw [ho]; rfl, ?_, o4, fun N' ρ'' => (scals_sv hscal l5).1, ?_, o2, fun hf => by rw [q3] at hf; cases hf⟩
      · rw [← htake, List.take_append_drop]; exact u2
      · rw [← htake, List.take_append_drop, List.length_map, Array.length_toList, ← v3]
  · obtain ⟨e, E, xs, q1, rfl, _⟩ := hrow i x hx
    obtain ⟨e', E', xs', q2, rfl, _⟩ := hrow j y' hy
    exact H'.dist i j _ _ b q1 q2 rfl rfl (rA_blk _ _ bx) (rA_blk _ _ by_)
  · obtain ⟨e, E, xs, q1, rfl, _⟩ := hrow i z hz
    rcases R.born b ⟨i, _, q1, rfl, rA_blk _ _ bz⟩ with ⟨j, x, hj, _⟩ | h
    · simp at hj
    · exact .inr h
end
end Go.Proofs.Ytklmbkkeiihgdaa
