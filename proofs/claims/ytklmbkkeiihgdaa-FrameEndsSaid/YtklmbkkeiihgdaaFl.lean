/- flat: lists that lie apart are marked, grown, looked at; all is as it is marked. -/
import Derived.Test.YtklmbkkeiihgdaaHw
import Derived.Test.YtklmbkkeiihgdaaChecked
namespace Go.Proofs.Ytklmbkkeiihgdaa
open Go.RowKit
set_option maxRecDepth 100000
set_option linter.unusedVariables false
set_option linter.unusedSimpArgs false
theorem fl_mixed : Try.prog.follows .mixedOrders = true := by kernel_rfl
theorem fl_slL : sliceA Try.prog 26 = some 23 := by kernel_rfl
theorem fl_slS : sliceA Try.prog 23 = some 5 := by kernel_rfl
theorem fl_szS : sizeA Try.prog 23 = some 1 := by kernel_rfl
theorem fl_agS : aggA Try.prog 23 = some false := by kernel_rfl
theorem fl_szE : sizeA Try.prog 5 = some 1 := by kernel_rfl
theorem fl_agE : aggA Try.prog 5 = some false := by kernel_rfl
theorem fl_zeE : zeroA Try.prog 5 = some (.int .u8 0) := by kernel_rfl
theorem fl_zeS : zeroA Try.prog 23 = some (.slice none 0 0) := by kernel_rfl
theorem fl_byE : bytesA Try.prog 5 = some 1 := by kernel_rfl
theorem fl_byS : bytesA Try.prog 23 = some 24 := by kernel_rfl
/-- The marks of a list's first elements. -/
def mks (mk : Nat → Nat → List AV) (k i : Nat) : List AV := (List.range i).flatMap (mk k)
section
variable {mk : Nat → Nat → List AV}
theorem mks_succ (k i : Nat) : mks mk k (i + 1) = mks mk k i ++ mk k i := by simp [mks, List.range_succ]
theorem mks_len (hl : ∀ k i, (mk k i).length = 1) (k i : Nat) : (mks mk k i).length = i * 1 := by
 induction i with
 | zero => rfl
 | succ i ih => rw [mks_succ, List.length_append, ih, hl, Nat.succ_mul]
theorem mks_cut (k i j : Nat) (h : j < i) : ∃ r, mks mk k i = mks mk k j ++ (mk k j ++ r) := by
 induction i with
 | zero => omega
 | succ i ih =>
  rw [mks_succ]
  rcases Nat.lt_or_ge j i with h1 | h1
  ·obtain ⟨r, hr⟩ := ih h1
   exact ⟨r ++ mk k i, by rw [hr]; simp⟩
  ·obtain rfl : j = i := by omega
   exact ⟨[], by simp⟩
theorem mks_at (hl : ∀ k i, (mk k i).length = 1) (k i j : Nat) (z : List AV) (h : j < i) : ((mks mk k i ++ z).drop (j * 1)).take 1 = mk k j := by
 obtain ⟨r, hr⟩ := mks_cut (mk := mk) k i j h
 rw [hr, List.append_assoc, List.drop_append, mks_len hl, Nat.sub_self, List.drop_eq_nil_of_le (by rw [mks_len hl]; exact Nat.le_refl _), List.nil_append, List.drop_zero, List.append_assoc, ← hl k j, List.take_left]
theorem mks_put (hl : ∀ k i, (mk k i).length = 1) (k i : Nat) (r : List AV) : ∃ r', splice (mks mk k i ++ r) (i * 1) (mk k i) = mks mk k (i + 1) ++ r' := by
 refine ⟨(mks mk k i ++ r).drop (i * 1 + (mk k i).length), ?_⟩
 unfold splice
 rw [mks_succ, List.take_append_of_le_length (by rw [mks_len hl]; exact Nat.le_refl _), List.take_of_length_le (by rw [mks_len hl]; exact Nat.le_refl _)]
end
/-- All lists' cells. -/
def FA (hs : List AV) (nn : Nat → Nat) (σ : St) (X : Nat → List AV) : Prop := ∀ (j : Nat) (v : AV), hs[j]? = some v → Hd σ 5 1 v (nn j) (X j)
def FS (hs : List AV) (b : Nat) : Prop := ∃ (j : Nat) (v : AV), hs[j]? = some v ∧ hbk v = some b
/-- A header lies apart from all lists but the k-th one. -/
def FarH (hs : List AV) (k : Nat) (g : AV) : Prop := ∀ (i : Nat) (v : AV) (b : Nat), i ≠ k → hs[i]? = some v → hbk v = some b → hbk g ≠ some b
section
variable {hs : List AV} {nn : Nat → Nat} {σ τ : St} {X : Nat → List AV} {mk : Nat → Nat → List AV} {k : Nat} {v g : AV} {cs : List AV}
theorem FA.ext (h : FA hs nn σ X) (k : Ext σ τ) : FA hs nn τ X := fun j v hv => (h j v hv).ext k
theorem FA.but {S : Nat → Prop} (h : FA hs nn σ X) (k : But S σ τ) (hS : ∀ (j : Nat) (v : AV) (b : Nat), hs[j]? = some v → hbk v = some b → ¬ S b) : FA hs nn τ X := fun j v hv => (h j v hv).but k fun b hb => hS j v b hv hb
theorem FA.put (h : FA hs nn σ X) (hk : hs[k]? = some v) (hf : FarH hs k v) (hb : But (fun c => hbk v = some c) σ τ) (hH : Hd τ 5 1 v (nn k) cs) : FA hs nn τ (fun j => if j = k then cs else X j) := fun j u hu => by
 by_cases e : j = k
 ·subst e
  rw [hk] at hu
  injection hu with hu
  subst hu
  show Hd τ _ _ _ _ (if j = j then cs else X j)
  rw [if_pos rfl]
  exact hH
 ·show Hd τ _ _ _ _ (if j = k then cs else X j)
  rw [if_neg e]
  exact (h j u hu).but hb fun b hb2 => hf j u b e hu hb2
/-- Grown lists. -/
structure FG (hs : List AV) (nn : Nat → Nat) (mk : Nat → Nat → List AV) (all : Bool) (σ : St) (gc : List AV) (j : Nat) (g : AV) : Prop where
 at_ : gc[j]? = some g
 hd : ∃ r, Hd σ 5 1 g (nn j + 64) (mks mk j (if all then nn j + 64 else nn j) ++ r)
 far : FarH hs j g
theorem FG.but {S : Nat → Prop} {all : Bool} {gc : List AV} {j : Nat} (h : FG hs nn mk all σ gc j g) (k : But S σ τ) (hS : ∀ b, hbk g = some b → ¬ S b) : FG hs nn mk all τ gc j g := ⟨h.at_, h.hd.imp fun r h => h.but k hS, h.far⟩
theorem FG.ext {all : Bool} {gc : List AV} {j : Nat} (h : FG hs nn mk all σ gc j g) (k : Ext σ τ) : FG hs nn mk all τ gc j g := h.but (S := fun _ => False) k.but fun _ _ => id
theorem splice_get (gc : List AV) (k : Nat) (g : AV) (hk : k < gc.length) (j : Nat) : (splice gc (k * 1) [g])[j]? = if j = k then some g else gc[j]? := by
 unfold splice
 rw [Nat.mul_one, List.append_assoc, List.getElem?_append, List.length_take, Nat.min_eq_left (by omega)]
 split
 ·rename_i h
  rw [if_neg (by omega), List.getElem?_take_of_lt h]
 ·rename_i h
  by_cases e : j = k
  ·subst e
   rw [if_pos rfl, Nat.sub_self]; rfl
  ·rw [if_neg e]
   have : j - k = (j - k - 1) + 1 := by omega
   rw [this]
   show (gc.drop (k + [g].length))[j - k - 1]? = _
   rw [List.getElem?_drop]
   congr 1
   show k + 1 + (j - k - 1) = j
   omega
theorem src_lst {ad : Addr} {sz m c : Nat} {cells : List AV} (hl : cells.length = m * sz) (h1 : ∀ a ∈ cells, a.one = true) : Src σ sz (.lst (some ad) m c cells) m cells := by
 refine ⟨hl, h1, ⟨some ad, c, rfl, fun h => by cases h⟩, fun w Z hH hV => ?_⟩
 unfold Valid at hV
 have hv := hV.2.2 ad rfl
 refine ⟨fun a ha => ?_, fun ad' c' hy j u hu => ?_⟩
 ·obtain ⟨i, hi, rfl⟩ := List.getElem_of_mem ha
  exact (hv.get (List.getElem?_eq_getElem hi)).2.2
 ·rw [AV.val_lst] at hy
  injection hy with q1 _ _
  injection q1 with q1
  subst q1
  rw [List.getElem?_map] at hu
  cases hd : cells[j]? with
  | none => rw [hd] at hu; cases hu
  | some d =>
   rw [hd] at hu
   injection hu with hu
   subst hu
   have := (hv.get hd).1
   rwa [Nat.zero_add] at this
/-- The mark of a place. -/
abbrev mkS (m : Nat → Nat → Int) (k i : Nat) : List AV := [.raw (.int .u8 (m k i))]
def agg1 (l : List AV) : AV := l.headD (.raw undef)
theorem fl_fill (m : Nat → Nat → Int) (k i : Nat) : aFill (fun i => some (i * 1, 1)) ((List.range (1 * 1)).map fun i => AV.ofV ((.int .u8 0 : Value).cells[i % 1]!)) ([0].zip [agg1 (mkS m k i)]) = some (mkS m k i) := rfl
end
section
variable {P : Program} {O : Nat → Prop} {ops : Array Oper} {env : Env} {σ : St} {K : Env → St → Prop} {d : Option Nat} {ty ty' t : TypeId} {pos : String} {af : Array Edge} {x y : Operand}
theorem s_ldHS {e n k b : Nat} {v : AV} {cells : List AV} (hx : ev env x = ptr b (k * 1)) (hv : Hd σ e 1 v n cells) (hb : hbk v = some b) (hk : k < n) (ha : aggA P t = some false) (hn : sizeA P t = some 1) (h : K (env.put d (agg1 ((cells.drop (k * 1)).take 1))) σ) : aOp P ops ⟨d, .load t x, ty, pos, af, none⟩ env σ K := by
 refine s_ldH1 hx hv hb hk (r := agg1 ((cells.drop (k * 1)).take 1)) ?_ ha hn h
 have hl := hv.len
 have hlt : k < cells.length := by omega
 rw [Nat.mul_one, List.drop_eq_getElem_cons hlt, List.getElem?_eq_getElem hlt]
 rfl
theorem s_eqlS1 {m : Nat → Nat → Int} {k i : Nat} (hx : ev env x = agg1 (mkS m k i)) (hy : ev env y = agg1 (mkS m k i)) (h : K (env.put d (vT true)) σ) : aOp P ops ⟨d, .binOp .eql t x y ty', ty, pos, af, none⟩ env σ K :=
 s_eql (k := .u8) (a := m k i) (b := m k i) hx hy (by rw [decide_eq_true rfl]; exact h)
end
set_option maxHeartbeats 4000000 in
theorem flat_ok {hs r0 : List AV} {nn : Nat → Nat} {m : Nat → Nat → Int} {A : Option Addr} {c : Nat} {σ : St} {X0 : Nat → List AV}
  (hmk : ∀ (k i : Nat) (σ : St) (K : AV → St → Prop), (∀ τ, Ext σ τ → K (agg1 ((mkS m) k i)) τ) → CallsA Try.prog 23 [vI k, vI i] σ K)
  
  (hm : hs.length ≤ 1000) (hA : A = none → hs.length = 0) (hn : ∀ j, nn j ≤ 1000000) (h0 : FA hs nn σ X0) (hfar : ∀ (k : Nat) (v : AV), hs[k]? = some v → FarH hs k v) :
  CallsA Try.prog 43 [.lst A hs.length c (hs ++ r0)] σ fun r τ => r = vT true ∧ But (FS hs) σ τ := by
 have hl : ∀ k i, (mkS m k i).length = 1 := fun _ _ => rfl
 have h1 : ∀ k i, ∀ a ∈ mkS m k i, a.one = true := fun k i a ha => by rw [List.mem_singleton.1 ha]; rfl
 have hone : ∀ k i, notTup (agg1 ((mkS m) k i)) = true ∧ (agg1 ((mkS m) k i)).cells.length = 1 ∧ ∀ a ∈ (agg1 ((mkS m) k i)).cells, a.one = true := fun k i => ⟨rfl, rfl, fun a ha => by rw [List.mem_singleton.1 ha]; rfl⟩
 have hget : ∀ k, k < hs.length → ∃ v, hs[k]? = some v := fun k hk => ⟨hs[k], List.getElem?_eq_getElem hk⟩
 refine callsA_of fl_mixed Try.func43 rfl rfl rfl (Nat.le_of_ble_eq_true rfl) ?_
 refine comp1 0 (v0 := .lst A hs.length c (hs ++ r0)) rfl ?_
 intro e he
 refine k_region ?_
 refine k_cons (c_mv rfl (by simp only [EV, Nat.reduceEqDiff, ↓reduceIte, he] <;> try rfl) ?_)
 refine k_nil ?_
 refine k_assoc ?_
 refine k_region ?_
 refine k_cons (c_mv rfl (by simp only [EV, Nat.reduceEqDiff, ↓reduceIte, he] <;> try rfl) ?_)
 refine k_nil ?_
 -- the marks
 refine k_cutS (fun env υ => env 0 = .lst A hs.length c (hs ++ r0) ∧ But (FS hs) σ υ ∧ FA hs nn υ (fun j => mks (mkS m) j (nn j))) ?_ ?_
 ·apply comp2 0 3
  ·simp only [EV, Nat.reduceEqDiff, ↓reduceIte, he] <;> try rfl
  ·simp only [EV, Nat.reduceEqDiff, ↓reduceIte, he] <;> try rfl
  intro e he
  refine k_block1 ?_
  refine k_loopE (fun μ env υ => ∃ (k : Nat) (X : Nat → List AV), μ = hs.length - k ∧ k ≤ hs.length ∧ (env 0 = .lst A hs.length c (hs ++ r0) ∧ env 3 = vI k) ∧ But (FS hs) σ υ ∧ FA hs nn υ X ∧ ∀ j, j < k → X j = mks (mkS m) j (nn j)) ⟨_, 0, X0, rfl, Nat.zero_le _, he, But.refl _ _, h0, fun j hj => absurd hj (Nat.not_lt_zero _)⟩ ?_
  clear he e
  rintro _ e υ ⟨k, X, rfl, hk, he, hB, hF, hX⟩
  refine k_assoc ?_
  refine k_region ?_
  refine k_cons (c_mv rfl (by simp only [EV, Nat.reduceEqDiff, ↓reduceIte, he] <;> try rfl) ?_)
  refine k_cons (c_mv rfl (by simp only [EV, Nat.reduceEqDiff, ↓reduceIte, he] <;> try rfl) ?_)
  refine k_cons ?_
  apply s_lenN (hts := rfl) (ht := fl_slL)
  ·simp only [EV, Nat.reduceEqDiff, ↓reduceIte, he] <;> try rfl
  ·exact AV.val_lst _ _ _ _
  refine k_cons ?_
  refine s_lssN k hs.length (by simp only [EV, Nat.reduceEqDiff, ↓reduceIte, he] <;> try rfl) (by simp only [EV, Nat.reduceEqDiff, ↓reduceIte, he] <;> try rfl) ?_
  refine k_nil ?_
  apply comp3 0 3 19
  ·simp only [EV, Nat.reduceEqDiff, ↓reduceIte, he] <;> try rfl
  ·simp only [EV, Nat.reduceEqDiff, ↓reduceIte, he] <;> try rfl
  ·simp only [EV, Nat.reduceEqDiff, ↓reduceIte, he] <;> try rfl
  clear he e
  intro e he
  refine k_cond (t := decide (k < hs.length)) (by simp only [EV, Nat.reduceEqDiff, ↓reduceIte, he] <;> try rfl) (fun ht => ?_) (fun ht => ?_)
  ·have hlt : k < hs.length := of_decide_eq_true ht
   obtain ⟨v, hv⟩ := hget k hlt
   refine k_skip ?_
   refine k_block ?_
   refine k_region ?_
   refine k_cons (c_mv rfl (by simp only [EV, Nat.reduceEqDiff, ↓reduceIte, he] <;> try rfl) ?_)
   refine k_nil ?_
   apply comp3 0 3 4
   ·simp only [EV, Nat.reduceEqDiff, ↓reduceIte, he] <;> try rfl
   ·simp only [EV, Nat.reduceEqDiff, ↓reduceIte, he] <;> try rfl
   ·simp only [EV, Nat.reduceEqDiff, ↓reduceIte, he] <;> try rfl
   clear he e
   intro e he
   refine k_cut (fun env υ => (env 0 = .lst A hs.length c (hs ++ r0) ∧ env 3 = vI k) ∧ But (FS hs) σ υ ∧ ∃ X : Nat → List AV, FA hs nn υ X ∧ ∀ j, j < k + 1 → X j = mks (mkS m) j (nn j)) ?_ ?_
   ·refine k_block1 ?_
    refine k_loopE (fun μ env υ => ∃ (i : Nat) (X : Nat → List AV), μ = nn k - i ∧ i ≤ nn k ∧ (env 0 = .lst A hs.length c (hs ++ r0) ∧ env 3 = vI k ∧ env 4 = vI i) ∧ But (FS hs) σ υ ∧ FA hs nn υ X ∧ (∀ j, j < k → X j = mks (mkS m) j (nn j)) ∧ ∃ r, X k = mks (mkS m) k i ++ r) ⟨_, 0, X, rfl, Nat.zero_le _, he, hB, hF, hX, X k, rfl⟩ ?_
    clear he e hB hF hX X υ
    rintro _ e υ ⟨i, X, rfl, hi, he, hB, hF, hX, r, hr⟩
    have hnk := hn k
    have hH := hF k v hv
    refine k_assoc ?_
    refine k_region ?_
    refine k_cons (c_mv rfl (by simp only [EV, Nat.reduceEqDiff, ↓reduceIte, he] <;> try rfl) ?_)
    refine k_cons (c_mv rfl (by simp only [EV, Nat.reduceEqDiff, ↓reduceIte, he] <;> try rfl) ?_)
    refine k_cons (c_mv rfl (by simp only [EV, Nat.reduceEqDiff, ↓reduceIte, he] <;> try rfl) ?_)
    refine k_cons ?_
    refine s_ixL (by simp only [EV, Nat.reduceEqDiff, ↓reduceIte, he] <;> try rfl) (by simp only [EV, Nat.reduceEqDiff, ↓reduceIte, he] <;> try rfl) hA fl_slL fl_szS hlt fun ad => ?_
    refine k_cons ?_
    refine s_ldL (by simp only [EV, Nat.reduceEqDiff, ↓reduceIte, he] <;> try rfl) hv fl_agS fl_szS ?_
    refine k_cons ?_
    refine s_lenH (by simp only [EV, Nat.reduceEqDiff, ↓reduceIte, he] <;> try rfl) hH rfl fl_slS ?_
    refine k_cons ?_
    refine s_lssN i (nn k) (by simp only [EV, Nat.reduceEqDiff, ↓reduceIte, he] <;> try rfl) (by simp only [EV, Nat.reduceEqDiff, ↓reduceIte, he] <;> try rfl) ?_
    refine k_nil ?_
    apply comp4 0 3 4 28
    ·simp only [EV, Nat.reduceEqDiff, ↓reduceIte, he] <;> try rfl
    ·simp only [EV, Nat.reduceEqDiff, ↓reduceIte, he] <;> try rfl
    ·simp only [EV, Nat.reduceEqDiff, ↓reduceIte, he] <;> try rfl
    ·simp only [EV, Nat.reduceEqDiff, ↓reduceIte, he] <;> try rfl
    clear he e
    intro e he
    refine k_cond (t := decide (i < nn k)) (by simp only [EV, Nat.reduceEqDiff, ↓reduceIte, he] <;> try rfl) (fun ht => ?_) (fun ht => ?_)
    ·have hin : i < nn k := of_decide_eq_true ht
     refine k_skip ?_
     refine k_block ?_
     refine k_drawn1 ?_
     refine ⟨[0, 1, 2, 4, 5, 6, 3, 7, 8, 9], [[], [], [0, 1], [0, 1, 2], [], [], [], [5, 6], [0, 1, 2, 3, 4, 5, 6, 7], [0, 1, 2, 3, 4, 5, 6, 7, 8]], fun _ => True, [3], [7], [], by kernel_rfl, ?_⟩
     apply d_any
     case hi => simp only [HIX]; try rfl
     case hw => rfl
     case how => rfl
     refine c_mv rfl (by simp only [EV, Nat.reduceEqDiff, ↓reduceIte, he] <;> try rfl) ?_
     refine d_ok ?_
     apply d_any
     case hi => simp only [HIX]; try rfl
     case hw => rfl
     case how => rfl
     refine c_mv rfl (by simp only [EV, Nat.reduceEqDiff, ↓reduceIte, he] <;> try rfl) ?_
     refine d_ok ?_
     apply d_any
     case hi => simp only [HIX]; try rfl
     case hw => rfl
     case how => rfl
     refine s_ixL (by simp only [EV, Nat.reduceEqDiff, ↓reduceIte, he] <;> try rfl) (by simp only [EV, Nat.reduceEqDiff, ↓reduceIte, he] <;> try rfl) hA fl_slL fl_szS hlt fun ad => ?_
     refine d_ok ?_
     apply d_any
     case hi => simp only [HIX]; try rfl
     case hw => rfl
     case how => rfl
     refine c_mv rfl (by simp only [EV, Nat.reduceEqDiff, ↓reduceIte, he] <;> try rfl) ?_
     refine d_ok ?_
     apply d_any
     case hi => simp only [HIX]; try rfl
     case hw => rfl
     case how => rfl
     refine c_mv rfl (by simp only [EV, Nat.reduceEqDiff, ↓reduceIte, he] <;> try rfl) ?_
     refine d_ok ?_
     apply d_any
     case hi => simp only [HIX]; try rfl
     case hw => rfl
     case how => rfl
     refine c_mv rfl (by simp only [EV, Nat.reduceEqDiff, ↓reduceIte, he] <;> try rfl) ?_
     refine d_ok ?_
     apply d_any
     case hi => simp only [HIX]; try rfl
     case hw => rfl
     case how => rfl
     refine s_ldL (by simp only [EV, Nat.reduceEqDiff, ↓reduceIte, he] <;> try rfl) hv fl_agS fl_szS ?_
     refine d_ok ?_
     apply d_any
     case hi => simp only [HIX]; try rfl
     case hw => rfl
     case how => rfl
     refine s_call (vs := [vI k, vI i]) (by simp only [List.map_cons, List.map_nil, EV, Nat.reduceEqDiff, ↓reduceIte, he]) ?_
     refine hmk k i _ _ fun τ hτ => ⟨fun _ => hτ, ?_⟩
     apply d_any
     case hi => simp only [HIX]; try rfl
     case hw => rfl
     case how => rfl
     refine s_indexH (k := .i64) (j := i) (by simp only [EV, Nat.reduceEqDiff, ↓reduceIte, he] <;> try rfl) (by simp only [EV, Nat.reduceEqDiff, ↓reduceIte, he] <;> try rfl) fl_slS fl_szE (hH.ext hτ) hin fun b hb => ?_
     refine d_ok ?_
     apply d_any
     case hi => simp only [HIX]; try rfl
     case hw => rfl
     case how => rfl
     refine s_storeH (r := agg1 ((mkS m) k i)) (by simp only [EV, Nat.reduceEqDiff, ↓reduceIte, he] <;> try rfl) (by simp only [EV, Nat.reduceEqDiff, ↓reduceIte, he] <;> try rfl) fl_szE (hH.ext hτ) hb hin (hone k i) fun τ2 hH2 hB2 => ⟨(fun h => absurd h Bool.false_ne_true), ?_⟩
     refine d_nil ?_
     show aCode _ _ _ _ _ _
     obtain ⟨r', hr'⟩ := mks_put hl k i r
     have hH3 : Hd τ2 5 1 v (nn k) (mks (mkS m) k (i + 1) ++ r') := by
      rw [← hr', ← hr]
      exact hH2
     have hF2 := (hF.ext hτ).put hv (hfar k v hv) hB2 hH3
     have hB3 : But (FS hs) σ τ2 := (hB.trans hτ.but).trans (hB2.sub fun b hb => ⟨k, v, hv, hb⟩)
     refine k_region1 ?_
     refine k_cons (c_mv rfl (by simp only [EV, Nat.reduceEqDiff, ↓reduceIte, he] <;> try rfl) ?_)
     refine k_cons ?_
     refine s_addN i 1 (by simp only [EV, Nat.reduceEqDiff, ↓reduceIte, he] <;> try rfl) (by simp only [EV, Nat.reduceEqDiff, ↓reduceIte, he] <;> try rfl) (by omega) ?_
     refine k_cons (c_mv rfl (by simp only [EV, Nat.reduceEqDiff, ↓reduceIte, he] <;> try rfl) ?_)
     refine k_nil ?_
     show ∃ n', n' < _ ∧ _
     refine ⟨_, (by omega : nn k - (i + 1) < nn k - i), i + 1, _, rfl, hin, ⟨by simp only [EV, Nat.reduceEqDiff, ↓reduceIte, he] <;> try rfl, by simp only [EV, Nat.reduceEqDiff, ↓reduceIte, he] <;> try rfl, by simp only [EV, Nat.reduceEqDiff, ↓reduceIte, he] <;> try rfl⟩, hB3, hF2, fun j hj => ?_, r', ?_⟩
     ·show (if j = k then _ else X j) = _
      rw [if_neg (by omega)]
      exact hX j hj
     ·show (if k = k then _ else X k) = _
      rw [if_pos rfl]
    ·have hin : i = nn k := by have := of_decide_eq_false ht; omega
     refine k_exit ?_
     refine ⟨rfl, ⟨by simp only [EV, Nat.reduceEqDiff, ↓reduceIte, he] <;> try rfl, by simp only [EV, Nat.reduceEqDiff, ↓reduceIte, he] <;> try rfl⟩, hB, X, hF, fun j hj => ?_⟩
     rcases Nat.lt_or_ge j k with h | h
     ·exact hX j h
     ·obtain rfl : j = k := by omega
      have hlen := hH.len
      rw [hr, hin]
      have hr0 : r = [] := by
       rw [hr, List.length_append, mks_len hl, hin] at hlen
       exact List.eq_nil_of_length_eq_zero (by omega)
      rw [hr0, List.append_nil]
   ·clear he e hB hF hX X υ
    rintro e υ ⟨he, hB, X, hF, hX⟩
    show aCode _ _ _ _ _ _
    refine k_region1 ?_
    refine k_cons (c_mv rfl (by simp only [EV, Nat.reduceEqDiff, ↓reduceIte, he] <;> try rfl) ?_)
    refine k_cons ?_
    refine s_addN k 1 (by simp only [EV, Nat.reduceEqDiff, ↓reduceIte, he] <;> try rfl) (by simp only [EV, Nat.reduceEqDiff, ↓reduceIte, he] <;> try rfl) (by omega) ?_
    refine k_cons (c_mv rfl (by simp only [EV, Nat.reduceEqDiff, ↓reduceIte, he] <;> try rfl) ?_)
    refine k_nil ?_
    show ∃ n', n' < _ ∧ _
    exact ⟨_, (by omega : hs.length - (k + 1) < hs.length - k), k + 1, X, rfl, hlt, ⟨by simp only [EV, Nat.reduceEqDiff, ↓reduceIte, he] <;> try rfl, by simp only [EV, Nat.reduceEqDiff, ↓reduceIte, he] <;> try rfl⟩, hB, hF, hX⟩
  ·have hke : k = hs.length := by have := of_decide_eq_false ht; omega
   refine k_exit ?_
   refine ⟨rfl, by simp only [EV, Nat.reduceEqDiff, ↓reduceIte, he] <;> try rfl, hB, fun j v hv => ?_⟩
   have := hF j v hv
   rw [hX j (by rw [hke]; exact lt_of_get hv)] at this
   exact this
 clear he e
 rintro e υ ⟨he, hB, hF⟩
 have hSu : ∀ b, FS hs b → σ.used b := fun b ⟨j, v, hv, hb⟩ => (h0 j v hv).used hb
 -- the grown lists' place
 refine k_region ?_
 refine k_cons (c_mv rfl (by simp only [EV, Nat.reduceEqDiff, ↓reduceIte, he] <;> try rfl) ?_)
 refine k_cons ?_
 apply s_lenN (hts := rfl) (ht := fl_slL)
 ·simp only [EV, Nat.reduceEqDiff, ↓reduceIte, he] <;> try rfl
 ·exact AV.val_lst _ _ _ _
 refine k_cons ?_
 refine s_makeH (l := hs.length) (by simp only [EV, Nat.reduceEqDiff, ↓reduceIte, he] <;> try rfl) (by simp only [EV, Nat.reduceEqDiff, ↓reduceIte, he] <;> try rfl) fl_slL fl_szS fl_zeS fl_byS rfl (by omega) (fun i hi => by
  have : i = 0 := by omega
  subst this
  rfl) (by omega) (by omega) fun gb gq τ gc0 hG hXt hgn hgu => ?_
 have hgb := hB.noneOfB hSu hgu hgn
 have hF1 := hF.ext hXt
 have hB1 := hB.trans hXt.but
 clear hF hB hXt hgn hgu
 refine k_cons (c_mv rfl (by simp only [EV, Nat.reduceEqDiff, ↓reduceIte, he] <;> try rfl) ?_)
 refine k_nil ?_
 refine k_assoc ?_
 refine k_region ?_
 refine k_cons (c_mv rfl (by simp only [EV, Nat.reduceEqDiff, ↓reduceIte, he] <;> try rfl) ?_)
 refine k_nil ?_
 have hgs : ∀ c, hbk (hdr gb hs.length gq) = some c → FS hs c ∨ σ.blk c = none := fun c hc => by
  have hc := hbk_of hc
  subst hc
  exact .inr hgb
 -- grown one by one
 refine k_cutS (fun env υ => (env 0 = .lst A hs.length c (hs ++ r0) ∧ env 5 = hdr gb hs.length gq) ∧ But (FS hs) σ υ ∧ FA hs nn υ (fun j => mks (mkS m) j (nn j)) ∧ ∃ gc, Hd υ 23 1 (hdr gb hs.length gq) hs.length gc ∧ ∀ j, j < hs.length → ∃ g, FG hs nn (mkS m) true υ gc j g) ?_ ?_
 ·apply comp3 0 5 6
  ·simp only [EV, Nat.reduceEqDiff, ↓reduceIte, he] <;> try rfl
  ·simp only [EV, Nat.reduceEqDiff, ↓reduceIte, he] <;> try rfl
  ·simp only [EV, Nat.reduceEqDiff, ↓reduceIte, he] <;> try rfl
  clear he e
  intro e he
  refine k_block1 ?_
  refine k_loopE (fun μ env υ => ∃ (k : Nat) (gc : List AV), μ = hs.length - k ∧ k ≤ hs.length ∧ (env 0 = .lst A hs.length c (hs ++ r0) ∧ env 5 = hdr gb hs.length gq ∧ env 6 = vI k) ∧ But (FS hs) σ υ ∧ FA hs nn υ (fun j => mks (mkS m) j (nn j)) ∧ Hd υ 23 1 (hdr gb hs.length gq) hs.length gc ∧ ∀ j, j < k → ∃ g, FG hs nn (mkS m) true υ gc j g) ⟨_, 0, gc0, rfl, Nat.zero_le _, he, hB1, hF1, hG, fun j hj => absurd hj (Nat.not_lt_zero _)⟩ ?_
  clear he e hB1 hF1 hG gc0 τ υ
  rintro _ e υ ⟨k, gc, rfl, hk, he, hB, hF, hG, hC⟩
  refine k_assoc ?_
  refine k_region ?_
  refine k_cons (c_mv rfl (by simp only [EV, Nat.reduceEqDiff, ↓reduceIte, he] <;> try rfl) ?_)
  refine k_cons (c_mv rfl (by simp only [EV, Nat.reduceEqDiff, ↓reduceIte, he] <;> try rfl) ?_)
  refine k_cons ?_
  apply s_lenN (hts := rfl) (ht := fl_slL)
  ·simp only [EV, Nat.reduceEqDiff, ↓reduceIte, he] <;> try rfl
  ·exact AV.val_lst _ _ _ _
  refine k_cons ?_
  refine s_lssN k hs.length (by simp only [EV, Nat.reduceEqDiff, ↓reduceIte, he] <;> try rfl) (by simp only [EV, Nat.reduceEqDiff, ↓reduceIte, he] <;> try rfl) ?_
  refine k_nil ?_
  apply comp4 0 5 6 46
  ·simp only [EV, Nat.reduceEqDiff, ↓reduceIte, he] <;> try rfl
  ·simp only [EV, Nat.reduceEqDiff, ↓reduceIte, he] <;> try rfl
  ·simp only [EV, Nat.reduceEqDiff, ↓reduceIte, he] <;> try rfl
  ·simp only [EV, Nat.reduceEqDiff, ↓reduceIte, he] <;> try rfl
  clear he e
  intro e he
  refine k_cond (t := decide (k < hs.length)) (by simp only [EV, Nat.reduceEqDiff, ↓reduceIte, he] <;> try rfl) (fun ht => ?_) (fun ht => ?_)
  ·have hlt : k < hs.length := of_decide_eq_true ht
   obtain ⟨v, hv⟩ := hget k hlt
   refine k_skip ?_
   refine k_block ?_
   refine k_region ?_
   refine k_cons (c_mv rfl (by simp only [EV, Nat.reduceEqDiff, ↓reduceIte, he] <;> try rfl) ?_)
   refine k_cons (c_mv rfl (by simp only [EV, Nat.reduceEqDiff, ↓reduceIte, he] <;> try rfl) ?_)
   refine k_cons ?_
   refine s_ixL (by simp only [EV, Nat.reduceEqDiff, ↓reduceIte, he] <;> try rfl) (by simp only [EV, Nat.reduceEqDiff, ↓reduceIte, he] <;> try rfl) hA fl_slL fl_szS hlt fun ad => ?_
   refine k_cons ?_
   refine s_ldL (by simp only [EV, Nat.reduceEqDiff, ↓reduceIte, he] <;> try rfl) hv fl_agS fl_szS ?_
   refine k_cons (c_mv rfl (by simp only [EV, Nat.reduceEqDiff, ↓reduceIte, he] <;> try rfl) ?_)
   refine k_nil ?_
   refine k_assoc ?_
   refine k_region ?_
   refine k_cons (c_mv rfl (by simp only [EV, Nat.reduceEqDiff, ↓reduceIte, he] <;> try rfl) ?_)
   refine k_nil ?_
   apply comp5 0 5 6 7 8
   ·simp only [EV, Nat.reduceEqDiff, ↓reduceIte, he] <;> try rfl
   ·simp only [EV, Nat.reduceEqDiff, ↓reduceIte, he] <;> try rfl
   ·simp only [EV, Nat.reduceEqDiff, ↓reduceIte, he] <;> try rfl
   ·simp only [EV, Nat.reduceEqDiff, ↓reduceIte, he] <;> try rfl
   ·simp only [EV, Nat.reduceEqDiff, ↓reduceIte, he] <;> try rfl
   clear he e
   intro e he
   refine k_cutS (fun env υ => ∃ g, (env 0 = .lst A hs.length c (hs ++ r0) ∧ env 5 = hdr gb hs.length gq ∧ env 6 = vI k ∧ env 7 = g) ∧ But (FS hs) σ υ ∧ FA hs nn υ (fun j => mks (mkS m) j (nn j)) ∧ Hd υ 23 1 (hdr gb hs.length gq) hs.length gc ∧ (∀ j, j < k → ∃ g, FG hs nn (mkS m) true υ gc j g) ∧ Hd υ 5 1 g (nn k + 64) (mks (mkS m) k (nn k + 64)) ∧ FarH hs k g) ?_ ?_
   ·refine k_block1 ?_
    refine k_loopE (fun μ env υ => ∃ (i : Nat) (g : AV), μ = 64 - i ∧ i ≤ 64 ∧ (env 0 = .lst A hs.length c (hs ++ r0) ∧ env 5 = hdr gb hs.length gq ∧ env 6 = vI k ∧ env 7 = g ∧ env 8 = vI i) ∧ But (FS hs) σ υ ∧ FA hs nn υ (fun j => mks (mkS m) j (nn j)) ∧ Hd υ 23 1 (hdr gb hs.length gq) hs.length gc ∧ (∀ j, j < k → ∃ g, FG hs nn (mkS m) true υ gc j g) ∧ Hd υ 5 1 g (nn k + i) (mks (mkS m) k (nn k + i)) ∧ FarH hs k g ∧ (∀ j g', j < k → gc[j]? = some g' → ∀ b, hbk g = some b → hbk g' ≠ some b) ∧ ∀ b, hbk g = some b → FS hs b ∨ σ.blk b = none) ⟨_, 0, v, rfl, Nat.zero_le _, he, hB, hF, hG, hC, hF k v hv, hfar k v hv, fun j g' hj hg' b hb => ?_, fun b hb => .inl ⟨k, v, hv, hb⟩⟩ ?_
    ·obtain ⟨g2, hg2⟩ := hC j hj
     have := hg2.at_
     rw [hg'] at this
     injection this with this
     subst this
     exact hg2.far k v b (by omega) hv hb
    clear he e hB hF hG hC υ
    rintro _ e υ ⟨i, g, rfl, hi, he, hB, hF, hG, hC, hg, hgf, hgg, hgS⟩
    have hH := hF k v hv
    refine k_assoc ?_
    refine k_region ?_
    refine k_cons (c_mv rfl (by simp only [EV, Nat.reduceEqDiff, ↓reduceIte, he] <;> try rfl) ?_)
    refine k_cons ?_
    refine s_lssN i 64 (by simp only [EV, Nat.reduceEqDiff, ↓reduceIte, he] <;> try rfl) (by simp only [EV, Nat.reduceEqDiff, ↓reduceIte, he] <;> try rfl) ?_
    refine k_nil ?_
    apply comp6 0 5 6 7 8 54
    ·simp only [EV, Nat.reduceEqDiff, ↓reduceIte, he] <;> try rfl
    ·simp only [EV, Nat.reduceEqDiff, ↓reduceIte, he] <;> try rfl
    ·simp only [EV, Nat.reduceEqDiff, ↓reduceIte, he] <;> try rfl
    ·simp only [EV, Nat.reduceEqDiff, ↓reduceIte, he] <;> try rfl
    ·simp only [EV, Nat.reduceEqDiff, ↓reduceIte, he] <;> try rfl
    ·simp only [EV, Nat.reduceEqDiff, ↓reduceIte, he] <;> try rfl
    clear he e
    intro e he
    refine k_cond (t := decide (i < 64)) (by simp only [EV, Nat.reduceEqDiff, ↓reduceIte, he] <;> try rfl) (fun ht => ?_) (fun ht => ?_)
    ·have hin : i < 64 := of_decide_eq_true ht
     have hnk := hn k
     refine k_skip ?_
     refine k_block ?_
     refine k_region1 ?_
     refine k_cons (c_mv rfl (by simp only [EV, Nat.reduceEqDiff, ↓reduceIte, he] <;> try rfl) ?_)
     refine k_cons (c_mv rfl (by simp only [EV, Nat.reduceEqDiff, ↓reduceIte, he] <;> try rfl) ?_)
     refine k_cons (c_mv rfl (by simp only [EV, Nat.reduceEqDiff, ↓reduceIte, he] <;> try rfl) ?_)
     refine k_cons (c_mv rfl (by simp only [EV, Nat.reduceEqDiff, ↓reduceIte, he] <;> try rfl) ?_)
     refine k_cons ?_
     refine s_ixL (by simp only [EV, Nat.reduceEqDiff, ↓reduceIte, he] <;> try rfl) (by simp only [EV, Nat.reduceEqDiff, ↓reduceIte, he] <;> try rfl) hA fl_slL fl_szS hlt fun ad => ?_
     refine k_cons ?_
     refine s_ldL (by simp only [EV, Nat.reduceEqDiff, ↓reduceIte, he] <;> try rfl) hv fl_agS fl_szS ?_
     refine k_cons ?_
     refine s_lenH (by simp only [EV, Nat.reduceEqDiff, ↓reduceIte, he] <;> try rfl) hH rfl fl_slS ?_
     refine k_cons (c_mv rfl (by simp only [EV, Nat.reduceEqDiff, ↓reduceIte, he] <;> try rfl) ?_)
     refine k_cons ?_
     refine s_addN (nn k) i (by simp only [EV, Nat.reduceEqDiff, ↓reduceIte, he] <;> try rfl) (by simp only [EV, Nat.reduceEqDiff, ↓reduceIte, he] <;> try rfl) (by omega) ?_
     refine k_cons ?_
     refine s_call (vs := [vI k, vI ((nn k + i : Nat) : Int)]) (by simp only [List.map_cons, List.map_nil, EV, Nat.reduceEqDiff, ↓reduceIte, he]) ?_
     refine hmk k (nn k + i) _ _ fun τ hτ => ?_
     refine k_cons ?_
     refine r_row (vs := [agg1 ((mkS m) k (nn k + i))]) (by simp only [List.map_cons, List.map_nil, EV, Nat.reduceEqDiff, ↓reduceIte, he]) fl_slS fl_szE fl_zeE rfl (by omega) (fl_fill m k (nn k + i)) (by rw [hl]) fun rb τ2 hN hτ2 => ?_
     have hX2 := hτ.trans hτ2
     have hF2 := hF.ext hX2
     have hg2 := hg.ext hX2
     refine k_cons ?_
     refine s_appendH (by simp only [EV, Nat.reduceEqDiff, ↓reduceIte, he] <;> try rfl) (by simp only [EV, Nat.reduceEqDiff, ↓reduceIte, he] <;> try rfl) fl_slS fl_szE fl_zeE fl_byE rfl (by omega) hg2 (src_lst (m := 1) (by rw [hl]) (h1 k (nn k + i))) (by omega) (by simp only [maxLen]; omega) (by omega) fun g' τ3 hg3 hkp hbt hnw => ?_
     have hG3 : Hd τ3 23 1 (hdr gb hs.length gq) hs.length gc := (hG.ext hX2).but hbt fun b hb hb2 => hg2.ne (hG.ext hX2) (by decide) hb2 hb
     have hB3 : But (FS hs) σ τ3 := (hB.trans hX2.but).ext2 hgS hbt
     have hF3 : FA hs nn τ3 (fun j => mks (mkS m) j (nn j)) := fun j u hu => hkp u _ _ (hF2 j u hu) fun b hb hub => by
      by_cases e : j = k
      ·subst e; omega
      ·exact absurd hb (hgf j u b e hu hub)
     have hC3 : ∀ j, j < k → ∃ g, FG hs nn (mkS m) true τ3 gc j g := fun j hj => by
      obtain ⟨gj, hgj⟩ := hC j hj
      obtain ⟨r, hr⟩ := hgj.hd
      exact ⟨gj, hgj.at_, ⟨r, hkp gj _ _ (hr.ext hX2) fun b hb hub => absurd hub (hgg j gj hj hgj.at_ b hb)⟩, hgj.far⟩
     refine k_cons (c_mv rfl (by simp only [EV, Nat.reduceEqDiff, ↓reduceIte, he] <;> try rfl) ?_)
     refine k_nil ?_
     show aCode _ _ _ _ _ _
     refine k_region1 ?_
     refine k_cons (c_mv rfl (by simp only [EV, Nat.reduceEqDiff, ↓reduceIte, he] <;> try rfl) ?_)
     refine k_cons ?_
     refine s_addN i 1 (by simp only [EV, Nat.reduceEqDiff, ↓reduceIte, he] <;> try rfl) (by simp only [EV, Nat.reduceEqDiff, ↓reduceIte, he] <;> try rfl) (by omega) ?_
     refine k_cons (c_mv rfl (by simp only [EV, Nat.reduceEqDiff, ↓reduceIte, he] <;> try rfl) ?_)
     refine k_nil ?_
     show ∃ n', n' < _ ∧ _
     refine ⟨_, (by omega : 64 - (i + 1) < 64 - i), i + 1, g', rfl, hin, ⟨by simp only [EV, Nat.reduceEqDiff, ↓reduceIte, he] <;> try rfl, by simp only [EV, Nat.reduceEqDiff, ↓reduceIte, he] <;> try rfl, by simp only [EV, Nat.reduceEqDiff, ↓reduceIte, he] <;> try rfl, by simp only [EV, Nat.reduceEqDiff, ↓reduceIte, he] <;> try rfl, by simp only [EV, Nat.reduceEqDiff, ↓reduceIte, he] <;> try rfl⟩, hB3, hF3, hG3, hC3, ?_, fun j u b hj hu hub hb => ?_, fun j g2 hj hg2' b hb hb2 => ?_, fun b hb => ?_⟩
     ·rw [← Nat.add_assoc, mks_succ]; exact hg3
     ·rcases hnw b hb with h | h
      ·exact hgf j u b hj hu hub h
      ·exact (hF2 j u hu).old hub h.1
     ·rcases hnw b hb with h | h
      ·exact hgg j g2 hj hg2' b h hb2
      ·obtain ⟨gj, hgj⟩ := hC j hj
       have := hgj.at_
       rw [hg2'] at this
       injection this with this
       subst this
       obtain ⟨r, hr⟩ := hgj.hd
       exact (hr.ext hX2).old hb2 h.1
     ·rcases hnw b hb with h | h
      ·exact hgS b h
      ·exact .inr ((hB.trans hX2.but).noneOfB hSu h.2 h.1)
    ·have hin : i = 64 := by have := of_decide_eq_false ht; omega
     refine k_exit ?_
     rw [hin] at hg
     exact ⟨rfl, g, ⟨by simp only [EV, Nat.reduceEqDiff, ↓reduceIte, he] <;> try rfl, by simp only [EV, Nat.reduceEqDiff, ↓reduceIte, he] <;> try rfl, by simp only [EV, Nat.reduceEqDiff, ↓reduceIte, he] <;> try rfl, by simp only [EV, Nat.reduceEqDiff, ↓reduceIte, he] <;> try rfl⟩, hB, hF, hG, hC, hg, hgf⟩
   ·clear he e hB hF hG hC υ
    rintro e υ ⟨g, he, hB, hF, hG, hC, hg, hgf⟩
    refine k_region1 ?_
    refine k_cons (c_mv rfl (by simp only [EV, Nat.reduceEqDiff, ↓reduceIte, he] <;> try rfl) ?_)
    refine k_cons (c_mv rfl (by simp only [EV, Nat.reduceEqDiff, ↓reduceIte, he] <;> try rfl) ?_)
    refine k_cons (c_mv rfl (by simp only [EV, Nat.reduceEqDiff, ↓reduceIte, he] <;> try rfl) ?_)
    refine k_cons ?_
    refine s_indexH (k := .i64) (j := k) (by simp only [EV, Nat.reduceEqDiff, ↓reduceIte, he] <;> try rfl) (by simp only [EV, Nat.reduceEqDiff, ↓reduceIte, he] <;> try rfl) fl_slL fl_szS hG hlt fun b hb => ?_
    have ho := hg.oneV
    refine k_cons ?_
    refine s_storeH (r := g) (by simp only [EV, Nat.reduceEqDiff, ↓reduceIte, he] <;> try rfl) (by simp only [EV, Nat.reduceEqDiff, ↓reduceIte, he] <;> try rfl) fl_szS hG hb hlt ⟨ho.2.1, by rw [ho.2.2]; rfl, by rw [ho.2.2]; intro a ha; rw [List.mem_singleton.1 ha]; exact ho.1⟩ fun τ2 hG2 hB2 => ?_
    rw [ho.2.2] at hG2
    have hlen := hG.len
    rw [Nat.mul_one] at hlen
    have hsg := splice_get gc k g (by omega)
    have hF2 : FA hs nn τ2 (fun j => mks (mkS m) j (nn j)) := hF.but hB2 fun j u b hu hub hb2 => (hF j u hu).ne hG (by decide) hub hb2
    have hBS := hB.ext2 hgs hB2
    refine k_nil ?_
    show aCode _ _ _ _ _ _
    refine k_region1 ?_
    refine k_cons (c_mv rfl (by simp only [EV, Nat.reduceEqDiff, ↓reduceIte, he] <;> try rfl) ?_)
    refine k_cons ?_
    refine s_addN k 1 (by simp only [EV, Nat.reduceEqDiff, ↓reduceIte, he] <;> try rfl) (by simp only [EV, Nat.reduceEqDiff, ↓reduceIte, he] <;> try rfl) (by omega) ?_
    refine k_cons (c_mv rfl (by simp only [EV, Nat.reduceEqDiff, ↓reduceIte, he] <;> try rfl) ?_)
    refine k_nil ?_
    show ∃ n', n' < _ ∧ _
    refine ⟨_, (by omega : hs.length - (k + 1) < hs.length - k), k + 1, _, rfl, hlt, ⟨by simp only [EV, Nat.reduceEqDiff, ↓reduceIte, he] <;> try rfl, by simp only [EV, Nat.reduceEqDiff, ↓reduceIte, he] <;> try rfl, by simp only [EV, Nat.reduceEqDiff, ↓reduceIte, he] <;> try rfl⟩, hBS, hF2, hG2, fun j hj => ?_⟩
    by_cases e : j = k
    ·subst e
     exact ⟨g, by rw [hsg, if_pos rfl], ⟨[], by rw [List.append_nil, if_pos rfl]; exact hg.but hB2 fun b hb hb2 => hg.ne hG (by decide) hb hb2⟩, hgf⟩
    ·obtain ⟨gj, hgj⟩ := hC j (by omega)
     obtain ⟨r, hr⟩ := hgj.hd
     exact ⟨gj, by rw [hsg, if_neg e]; exact hgj.at_, ⟨r, hr.but hB2 fun b hb hb2 => hr.ne hG (by decide) hb hb2⟩, hgj.far⟩
  ·have hke : k = hs.length := by have := of_decide_eq_false ht; omega
   refine k_exit ?_
   rw [hke] at hC
   exact ⟨rfl, ⟨by simp only [EV, Nat.reduceEqDiff, ↓reduceIte, he] <;> try rfl, by simp only [EV, Nat.reduceEqDiff, ↓reduceIte, he] <;> try rfl⟩, hB, hF, gc, hG, hC⟩
 clear he e hB1 hF1 hG gc0 τ υ
 rintro e υ ⟨he, hB, hF, gc, hG, hC⟩
 -- looked at
 refine k_assoc ?_
 refine k_region ?_
 refine k_cons (c_mv rfl (by simp only [EV, Nat.reduceEqDiff, ↓reduceIte, he] <;> try rfl) ?_)
 refine k_nil ?_
 refine k_cutS (fun env υ => (env 0 = .lst A hs.length c (hs ++ r0) ∧ env 5 = hdr gb hs.length gq) ∧ But (FS hs) σ υ ∧ FA hs nn υ (fun j => mks (mkS m) j (nn j)) ∧ Hd υ 23 1 (hdr gb hs.length gq) hs.length gc) ?_ ?_
 ·apply comp3 0 5 9
  ·simp only [EV, Nat.reduceEqDiff, ↓reduceIte, he] <;> try rfl
  ·simp only [EV, Nat.reduceEqDiff, ↓reduceIte, he] <;> try rfl
  ·simp only [EV, Nat.reduceEqDiff, ↓reduceIte, he] <;> try rfl
  clear he e
  intro e he
  refine k_block1 ?_
  refine k_loopE (fun μ env υ => ∃ (k : Nat), μ = hs.length - k ∧ k ≤ hs.length ∧ (env 0 = .lst A hs.length c (hs ++ r0) ∧ env 5 = hdr gb hs.length gq ∧ env 9 = vI k) ∧ But (FS hs) σ υ ∧ FA hs nn υ (fun j => mks (mkS m) j (nn j)) ∧ Hd υ 23 1 (hdr gb hs.length gq) hs.length gc ∧ ∀ j, j < hs.length → ∃ g, FG hs nn (mkS m) true υ gc j g) ⟨_, 0, rfl, Nat.zero_le _, he, hB, hF, hG, hC⟩ ?_
  clear he e hB hF hG hC υ
  rintro _ e υ ⟨k, rfl, hk, he, hB, hF, hG, hC⟩
  refine k_assoc ?_
  refine k_region ?_
  refine k_cons (c_mv rfl (by simp only [EV, Nat.reduceEqDiff, ↓reduceIte, he] <;> try rfl) ?_)
  refine k_cons (c_mv rfl (by simp only [EV, Nat.reduceEqDiff, ↓reduceIte, he] <;> try rfl) ?_)
  refine k_cons ?_
  apply s_lenN (hts := rfl) (ht := fl_slL)
  ·simp only [EV, Nat.reduceEqDiff, ↓reduceIte, he] <;> try rfl
  ·exact AV.val_lst _ _ _ _
  refine k_cons ?_
  refine s_lssN k hs.length (by simp only [EV, Nat.reduceEqDiff, ↓reduceIte, he] <;> try rfl) (by simp only [EV, Nat.reduceEqDiff, ↓reduceIte, he] <;> try rfl) ?_
  refine k_nil ?_
  apply comp4 0 5 9 76
  ·simp only [EV, Nat.reduceEqDiff, ↓reduceIte, he] <;> try rfl
  ·simp only [EV, Nat.reduceEqDiff, ↓reduceIte, he] <;> try rfl
  ·simp only [EV, Nat.reduceEqDiff, ↓reduceIte, he] <;> try rfl
  ·simp only [EV, Nat.reduceEqDiff, ↓reduceIte, he] <;> try rfl
  clear he e
  intro e he
  refine k_cond (t := decide (k < hs.length)) (by simp only [EV, Nat.reduceEqDiff, ↓reduceIte, he] <;> try rfl) (fun ht => ?_) (fun ht => ?_)
  ·have hlt : k < hs.length := of_decide_eq_true ht
   obtain ⟨v, hv⟩ := hget k hlt
   obtain ⟨g, hg0⟩ := hC k hlt
   have hga := hg0.at_
   have hnk := hn k
   refine k_skip ?_
   refine k_block ?_
   refine k_region ?_
   refine k_cons (c_mv rfl (by simp only [EV, Nat.reduceEqDiff, ↓reduceIte, he] <;> try rfl) ?_)
   refine k_nil ?_
   apply comp4 0 5 9 10
   ·simp only [EV, Nat.reduceEqDiff, ↓reduceIte, he] <;> try rfl
   ·simp only [EV, Nat.reduceEqDiff, ↓reduceIte, he] <;> try rfl
   ·simp only [EV, Nat.reduceEqDiff, ↓reduceIte, he] <;> try rfl
   ·simp only [EV, Nat.reduceEqDiff, ↓reduceIte, he] <;> try rfl
   clear he e
   intro e he
   refine k_cut (fun env υ => (env 0 = .lst A hs.length c (hs ++ r0) ∧ env 5 = hdr gb hs.length gq ∧ env 9 = vI k) ∧ But (FS hs) σ υ ∧ FA hs nn υ (fun j => mks (mkS m) j (nn j)) ∧ Hd υ 23 1 (hdr gb hs.length gq) hs.length gc ∧ ∀ j, j < hs.length → ∃ g, FG hs nn (mkS m) true υ gc j g) ?_ ?_
   ·refine k_block1 ?_
    refine k_loopE (fun μ env υ => ∃ (i : Nat), μ = nn k + 64 - i ∧ i ≤ nn k + 64 ∧ (env 0 = .lst A hs.length c (hs ++ r0) ∧ env 5 = hdr gb hs.length gq ∧ env 9 = vI k ∧ env 10 = vI i) ∧ But (FS hs) σ υ ∧ FA hs nn υ (fun j => mks (mkS m) j (nn j)) ∧ Hd υ 23 1 (hdr gb hs.length gq) hs.length gc ∧ (∀ j, j < hs.length → ∃ g, FG hs nn (mkS m) true υ gc j g) ∧ FG hs nn (mkS m) true υ gc k g) ⟨_, 0, rfl, Nat.zero_le _, he, hB, hF, hG, hC, hg0⟩ ?_
    clear he e hB hF hG hC hg0 υ
    rintro _ e υ ⟨i, rfl, hi, he, hB, hF, hG, hC, hgk⟩
    obtain ⟨r, hgd⟩ := hgk.hd
    rw [if_pos rfl] at hgd
    have hH := hF k v hv
    refine k_assoc ?_
    refine k_region ?_
    refine k_cons (c_mv rfl (by simp only [EV, Nat.reduceEqDiff, ↓reduceIte, he] <;> try rfl) ?_)
    refine k_cons (c_mv rfl (by simp only [EV, Nat.reduceEqDiff, ↓reduceIte, he] <;> try rfl) ?_)
    refine k_cons (c_mv rfl (by simp only [EV, Nat.reduceEqDiff, ↓reduceIte, he] <;> try rfl) ?_)
    refine k_cons ?_
    refine s_indexH (k := .i64) (j := k) (by simp only [EV, Nat.reduceEqDiff, ↓reduceIte, he] <;> try rfl) (by simp only [EV, Nat.reduceEqDiff, ↓reduceIte, he] <;> try rfl) fl_slL fl_szS hG hlt fun b hb => ?_
    refine k_cons ?_
    refine s_ldH1 (by simp only [EV, Nat.reduceEqDiff, ↓reduceIte, he] <;> try rfl) hG hb hlt hga fl_agS fl_szS ?_
    refine k_cons ?_
    refine s_lenH (by simp only [EV, Nat.reduceEqDiff, ↓reduceIte, he] <;> try rfl) hgd rfl fl_slS ?_
    refine k_cons ?_
    refine s_lssN i (nn k + 64) (by simp only [EV, Nat.reduceEqDiff, ↓reduceIte, he] <;> try rfl) (by simp only [EV, Nat.reduceEqDiff, ↓reduceIte, he] <;> try rfl) ?_
    refine k_nil ?_
    apply comp5 0 5 9 10 85
    ·simp only [EV, Nat.reduceEqDiff, ↓reduceIte, he] <;> try rfl
    ·simp only [EV, Nat.reduceEqDiff, ↓reduceIte, he] <;> try rfl
    ·simp only [EV, Nat.reduceEqDiff, ↓reduceIte, he] <;> try rfl
    ·simp only [EV, Nat.reduceEqDiff, ↓reduceIte, he] <;> try rfl
    ·simp only [EV, Nat.reduceEqDiff, ↓reduceIte, he] <;> try rfl
    clear he e
    intro e he
    refine k_cond (t := decide (i < nn k + 64)) (by simp only [EV, Nat.reduceEqDiff, ↓reduceIte, he] <;> try rfl) (fun ht => ?_) (fun ht => ?_)
    ·have hin : i < nn k + 64 := of_decide_eq_true ht
     have hat := mks_at hl k (nn k + 64) i r hin
     refine k_skip ?_
     refine k_block ?_
     refine k_drawn ?_
     refine ⟨[0, 1, 2, 4, 7, 8, 3, 5, 6, 9, 10, 11, 12, 13, 14, 15, 16, 17, 18, 19, 20, 21, 22, 23, 25, 28, 29, 24, 26, 27, 30, 31, 32, 33, 34], [[], [], [0, 1], [0, 1, 2], [], [0, 1, 2, 3, 4], [0, 1, 2, 3, 4, 5], [], [], [7, 8], [0, 1, 2, 3, 4, 5, 6, 7, 8, 9], [0, 1, 2, 3, 4, 5, 6, 7, 8, 9, 10], [0, 1, 2, 3, 4, 5, 6, 7, 8, 9, 10, 11], [0, 1, 2, 3, 4, 5, 6, 7, 8, 9, 10, 11, 12], [0, 1, 2, 3, 4, 5, 6, 7, 8, 9, 10, 11, 12], [0, 1, 2, 3, 4, 5, 6, 7, 8, 9, 10, 11, 12], [0, 1, 2, 3, 4, 5, 6, 7, 8, 9, 10, 11, 12, 14, 15], [0, 1, 2, 3, 4, 5, 6, 7, 8, 9, 10, 11, 12, 14, 15, 16], [0, 1, 2, 3, 4, 5, 6, 7, 8, 9, 10, 11, 12, 14, 15, 16, 17], [0, 1, 2, 3, 4, 5, 6, 7, 8, 9, 10, 11, 12, 13, 14, 15, 16, 17, 18], [0, 1, 2, 3, 4, 5, 6, 7, 8, 9, 10, 11, 12, 13, 14, 15, 16, 17, 18, 19], [0, 1, 2, 3, 4, 5, 6, 7, 8, 9, 10, 11, 12, 13, 14, 15, 16, 17, 18, 19, 20], [0, 1, 2, 3, 4, 5, 6, 7, 8, 9, 10, 11, 12, 13, 14, 15, 16, 17, 18, 19, 20], [0, 1, 2, 3, 4, 5, 6, 7, 8, 9, 10, 11, 12, 13, 14, 15, 16, 17, 18, 19, 20, 21, 22], [0, 1, 2, 3, 4, 5, 6, 7, 8, 9, 10, 11, 12, 13, 14, 15, 16, 17, 18, 19, 20, 21, 22, 23], [0, 1, 2, 3, 4, 5, 6, 7, 8, 9, 10, 11, 12, 13, 14, 15, 16, 17, 18, 19, 20], [0, 1, 2, 3, 4, 5, 6, 7, 8, 9, 10, 11, 12, 13, 14, 15, 16, 17, 18, 19, 20, 21, 22, 23, 24, 25], [0, 1, 2, 3, 4, 5, 6, 7, 8, 9, 10, 11, 12, 13, 14, 15, 16, 17, 18, 19, 20, 21, 22, 23, 24, 25, 26], [0, 1, 2, 3, 4, 5, 6, 7, 8, 9, 10, 11, 12, 13, 14, 15, 16, 17, 18, 19, 20], [0, 1, 2, 3, 4, 5, 6, 7, 8, 9, 10, 11, 12, 13, 14, 15, 16, 17, 18, 19, 20], [0, 1, 2, 3, 4, 5, 6, 7, 8, 9, 10, 11, 12, 13, 14, 15, 16, 17, 18, 19, 20, 28, 29], [0, 1, 2, 3, 4, 5, 6, 7, 8, 9, 10, 11, 12, 13, 14, 15, 16, 17, 18, 19, 20, 21, 22, 23, 24, 25, 26, 27, 28, 29, 30], [0, 1, 2, 3, 4, 5, 6, 7, 8, 9, 10, 11, 12, 13, 14, 15, 16, 17, 18, 19, 20, 21, 22, 23, 24, 25, 26, 27, 28, 29, 30, 31], [0, 1, 2, 3, 4, 5, 6, 7, 8, 9, 10, 11, 12, 13, 14, 15, 16, 17, 18, 19, 20, 21, 22, 23, 24, 25, 26, 27, 28, 29, 30, 31, 32], [0, 1, 2, 3, 4, 5, 6, 7, 8, 9, 10, 11, 12, 13, 14, 15, 16, 17, 18, 19, 20, 21, 22, 23, 24, 25, 26, 27, 28, 29, 30, 31, 32, 33]], fun _ => True, [3, 6, 24, 27], [9, 30], [], by kernel_rfl, ?_⟩
     apply d_any
     case hi => simp only [HIX]; try rfl
     case hw => rfl
     case how => rfl
     refine c_mv rfl (by simp only [EV, Nat.reduceEqDiff, ↓reduceIte, he] <;> try rfl) ?_
     refine d_ok ?_
     apply d_any
     case hi => simp only [HIX]; try rfl
     case hw => rfl
     case how => rfl
     refine c_mv rfl (by simp only [EV, Nat.reduceEqDiff, ↓reduceIte, he] <;> try rfl) ?_
     refine d_ok ?_
     apply d_any
     case hi => simp only [HIX]; try rfl
     case hw => rfl
     case how => rfl
     refine s_indexH (k := .i64) (j := k) (by simp only [EV, Nat.reduceEqDiff, ↓reduceIte, he] <;> try rfl) (by simp only [EV, Nat.reduceEqDiff, ↓reduceIte, he] <;> try rfl) fl_slL fl_szS hG hlt fun b2 hb2 => ?_
     refine d_ok ?_
     apply d_any
     case hi => simp only [HIX]; try rfl
     case hw => rfl
     case how => rfl
     refine c_mv rfl (by simp only [EV, Nat.reduceEqDiff, ↓reduceIte, he] <;> try rfl) ?_
     refine d_ok ?_
     apply d_any
     case hi => simp only [HIX]; try rfl
     case hw => rfl
     case how => rfl
     refine c_mv rfl (by simp only [EV, Nat.reduceEqDiff, ↓reduceIte, he] <;> try rfl) ?_
     refine d_ok ?_
     apply d_any
     case hi => simp only [HIX]; try rfl
     case hw => rfl
     case how => rfl
     refine c_mv rfl (by simp only [EV, Nat.reduceEqDiff, ↓reduceIte, he] <;> try rfl) ?_
     refine d_ok ?_
     apply d_any
     case hi => simp only [HIX]; try rfl
     case hw => rfl
     case how => rfl
     refine s_ldH1 (by simp only [EV, Nat.reduceEqDiff, ↓reduceIte, he] <;> try rfl) hG hb2 hlt hga fl_agS fl_szS ?_
     refine d_ok ?_
     apply d_any
     case hi => simp only [HIX]; try rfl
     case hw => rfl
     case how => rfl
     refine s_indexH (k := .i64) (j := i) (by simp only [EV, Nat.reduceEqDiff, ↓reduceIte, he] <;> try rfl) (by simp only [EV, Nat.reduceEqDiff, ↓reduceIte, he] <;> try rfl) fl_slS fl_szE hgd hin fun b3 hb3 => ?_
     refine d_ok ?_
     apply d_any
     case hi => simp only [HIX]; try rfl
     case hw => rfl
     case how => rfl
     refine s_ldHS (by simp only [EV, Nat.reduceEqDiff, ↓reduceIte, he] <;> try rfl) hgd hb3 hin fl_agE fl_szE ?_
     rw [hat]
     refine d_ok ?_
     apply d_any
     case hi => simp only [HIX]; try rfl
     case hw => rfl
     case how => rfl
     refine s_call (vs := [vI k, vI i]) (by simp only [List.map_cons, List.map_nil, EV, Nat.reduceEqDiff, ↓reduceIte, he]) ?_
     refine hmk k i _ _ fun τ hτ => ⟨fun _ => hτ, ?_⟩
     have hB2 := hB.trans hτ.but
     have hF2 := hF.ext hτ
     have hG2 := hG.ext hτ
     have hC2 : ∀ j, j < hs.length → ∃ g, FG hs nn (mkS m) true τ gc j g := fun j hj => (hC j hj).imp fun g h => h.ext hτ
     have hgk2 := hgk.ext hτ
     have hH2 := hH.ext hτ
     clear hB hF hG hC hgk hH hgd
     apply d_any
     case hi => simp only [HIX]; try rfl
     case hw => rfl
     case how => rfl
     refine s_eqlS1 (m := m) (k := k) (i := i) (by simp only [EV, Nat.reduceEqDiff, ↓reduceIte, he] <;> try rfl) (by simp only [EV, Nat.reduceEqDiff, ↓reduceIte, he] <;> try rfl) ?_
     refine d_ok ?_
     apply d_any
     case hi => simp only [HIX]; try rfl
     case hw => rfl
     case how => rfl
     with_reducible apply s_notT
     case hx => simp only [EV, Nat.reduceEqDiff, ↓reduceIte, he] <;> try rfl
     refine d_ok ?_
     apply d_any
     case hi => simp only [HIX]; try rfl
     case hw => rfl
     case how => rfl
     refine c_mv rfl (by simp only [EV, Nat.reduceEqDiff, ↓reduceIte, he] <;> try rfl) ?_
     refine d_ok ?_
     apply d_any
     case hi => simp only [HIX]; try rfl
     case hw => rfl
     case how => rfl
     refine c_mv rfl (by simp only [EV, Nat.reduceEqDiff, ↓reduceIte, he] <;> try rfl) ?_
     refine d_ok ?_
     apply d_any
     case hi => simp only [HIX]; try rfl
     case hw => rfl
     case how => rfl
     refine c_mv rfl (by simp only [EV, Nat.reduceEqDiff, ↓reduceIte, he] <;> try rfl) ?_
     refine d_ok ?_
     apply d_any
     case hi => simp only [HIX]; try rfl
     case hw => rfl
     case how => rfl
     refine c_mv rfl (by simp only [EV, Nat.reduceEqDiff, ↓reduceIte, he] <;> try rfl) ?_
     refine d_ok ?_
     apply d_any
     case hi => simp only [HIX]; try rfl
     case hw => rfl
     case how => rfl
     refine s_ixL (by simp only [EV, Nat.reduceEqDiff, ↓reduceIte, he] <;> try rfl) (by simp only [EV, Nat.reduceEqDiff, ↓reduceIte, he] <;> try rfl) hA fl_slL fl_szS hlt fun ad => ?_
     refine d_ok ?_
     apply d_any
     case hi => simp only [HIX]; try rfl
     case hw => rfl
     case how => rfl
     refine s_ldL (by simp only [EV, Nat.reduceEqDiff, ↓reduceIte, he] <;> try rfl) hv fl_agS fl_szS ?_
     refine d_ok ?_
     apply d_any
     case hi => simp only [HIX]; try rfl
     case hw => rfl
     case how => rfl
     refine s_lenH (by simp only [EV, Nat.reduceEqDiff, ↓reduceIte, he] <;> try rfl) hH2 rfl fl_slS ?_
     refine d_ok ?_
     by_cases hik : i < nn k
     ·have hat2 := mks_at hl k (nn k) i [] hik
      rw [List.append_nil] at hat2
      apply d_any
      case hi => simp only [HIX]; try rfl
      case hw => rfl
      case how => rfl
      refine s_lssT i (nn k) (by simp only [EV, Nat.reduceEqDiff, ↓reduceIte, he] <;> try rfl) (by simp only [EV, Nat.reduceEqDiff, ↓reduceIte, he] <;> try rfl) hik ?_
      refine d_ok ?_
      apply d_any
      case hi => simp only [HIX]; try rfl
      case hw => rfl
      case how => rfl
      refine c_mv rfl (by simp only [EV, Nat.reduceEqDiff, ↓reduceIte, he] <;> try rfl) ?_
      refine d_ok ?_
      apply d_any
      case hi => simp only [HIX]; try rfl
      case hw => rfl
      case how => rfl
      refine c_mv rfl (by simp only [EV, Nat.reduceEqDiff, ↓reduceIte, he] <;> try rfl) ?_
      refine d_ok ?_
      apply d_any
      case hi => simp only [HIX]; try rfl
      case hw => rfl
      case how => rfl
      refine c_mv rfl (by simp only [EV, Nat.reduceEqDiff, ↓reduceIte, he] <;> try rfl) ?_
      refine d_ok ?_
      apply d_any
      case hi => simp only [HIX]; try rfl
      case hw => rfl
      case how => rfl
      refine s_ixL (by simp only [EV, Nat.reduceEqDiff, ↓reduceIte, he] <;> try rfl) (by simp only [EV, Nat.reduceEqDiff, ↓reduceIte, he] <;> try rfl) hA fl_slL fl_szS hlt fun ad2 => ?_
      refine d_ok ?_
      apply d_any
      case hi => simp only [HIX]; try rfl
      case hw => rfl
      case how => rfl
      refine c_mv rfl (by simp only [EV, Nat.reduceEqDiff, ↓reduceIte, he] <;> try rfl) ?_
      refine d_ok ?_
      apply d_any
      case hi => simp only [HIX]; try rfl
      case hw => rfl
      case how => rfl
      refine c_mv rfl (by simp only [EV, Nat.reduceEqDiff, ↓reduceIte, he] <;> try rfl) ?_
      refine d_ok ?_
      apply d_any
      case hi => simp only [HIX]; try rfl
      case hw => rfl
      case how => rfl
      refine c_mv rfl (by simp only [EV, Nat.reduceEqDiff, ↓reduceIte, he] <;> try rfl) ?_
      refine d_ok ?_
      apply d_any
      case hi => simp only [HIX]; try rfl
      case hw => rfl
      case how => rfl
      refine s_ldL (by simp only [EV, Nat.reduceEqDiff, ↓reduceIte, he] <;> try rfl) hv fl_agS fl_szS ?_
      refine d_ok ?_
      apply d_any
      case hi => simp only [HIX]; try rfl
      case hw => rfl
      case how => rfl
      refine s_indexH (k := .i64) (j := i) (by simp only [EV, Nat.reduceEqDiff, ↓reduceIte, he] <;> try rfl) (by simp only [EV, Nat.reduceEqDiff, ↓reduceIte, he] <;> try rfl) fl_slS fl_szE hH2 hik fun b4 hb4 => ?_
      refine d_ok ?_
      apply d_any
      case hi => simp only [HIX]; try rfl
      case hw => rfl
      case how => rfl
      refine s_ldHS (by simp only [EV, Nat.reduceEqDiff, ↓reduceIte, he] <;> try rfl) hH2 hb4 hik fl_agE fl_szE ?_
      rw [hat2]
      refine d_ok ?_
      apply d_any
      case hi => simp only [HIX]; try rfl
      case hw => rfl
      case how => rfl
      refine s_call (vs := [vI k, vI i]) (by simp only [List.map_cons, List.map_nil, EV, Nat.reduceEqDiff, ↓reduceIte, he]) ?_
      refine hmk k i _ _ fun τ2 hτ2 => ⟨fun _ => hτ2, ?_⟩
      apply d_any
      case hi => simp only [HIX]; try rfl
      case hw => rfl
      case how => rfl
      refine s_eqlS1 (m := m) (k := k) (i := i) (by simp only [EV, Nat.reduceEqDiff, ↓reduceIte, he] <;> try rfl) (by simp only [EV, Nat.reduceEqDiff, ↓reduceIte, he] <;> try rfl) ?_
      refine d_ok ?_
      apply d_any
      case hi => simp only [HIX]; try rfl
      case hw => rfl
      case how => rfl
      with_reducible apply s_notT
      case hx => simp only [EV, Nat.reduceEqDiff, ↓reduceIte, he] <;> try rfl
      refine d_ok ?_
      apply d_any
      case hi => simp only [HIX]; try rfl
      case hw => rfl
      case how => rfl
      refine s_pick_t (by simp only [EV, Nat.reduceEqDiff, ↓reduceIte, he] <;> try rfl) (by simp only [EV, Nat.reduceEqDiff, ↓reduceIte, he] <;> try rfl) ?_
      refine d_ok ?_
      apply d_any
      case hi => simp only [HIX]; try rfl
      case hw => rfl
      case how => rfl
      refine s_pick_f (by simp only [EV, Nat.reduceEqDiff, ↓reduceIte, he] <;> try rfl) (by simp only [EV, Nat.reduceEqDiff, ↓reduceIte, he] <;> try rfl) ?_
      refine d_ok ?_
      refine d_nil ?_
      apply comp5 0 5 9 10 122
      ·simp only [EV, Nat.reduceEqDiff, ↓reduceIte, he] <;> try rfl
      ·simp only [EV, Nat.reduceEqDiff, ↓reduceIte, he] <;> try rfl
      ·simp only [EV, Nat.reduceEqDiff, ↓reduceIte, he] <;> try rfl
      ·simp only [EV, Nat.reduceEqDiff, ↓reduceIte, he] <;> try rfl
      ·simp only [EV, Nat.reduceEqDiff, ↓reduceIte, he] <;> try rfl
      clear he e
      intro e he
      refine k_cond1F (by simp only [EV, Nat.reduceEqDiff, ↓reduceIte, he] <;> try rfl) ?_
      refine k_skip1 ?_
      show aCode _ _ _ _ _ _
      refine k_region1 ?_
      refine k_cons (c_mv rfl (by simp only [EV, Nat.reduceEqDiff, ↓reduceIte, he] <;> try rfl) ?_)
      refine k_cons ?_
      refine s_addN i 1 (by simp only [EV, Nat.reduceEqDiff, ↓reduceIte, he] <;> try rfl) (by simp only [EV, Nat.reduceEqDiff, ↓reduceIte, he] <;> try rfl) (by omega) ?_
      refine k_cons (c_mv rfl (by simp only [EV, Nat.reduceEqDiff, ↓reduceIte, he] <;> try rfl) ?_)
      refine k_nil ?_
      show ∃ n', n' < _ ∧ _
      exact ⟨_, (by omega : nn k + 64 - (i + 1) < nn k + 64 - i), i + 1, rfl, hin, ⟨by simp only [EV, Nat.reduceEqDiff, ↓reduceIte, he] <;> try rfl, by simp only [EV, Nat.reduceEqDiff, ↓reduceIte, he] <;> try rfl, by simp only [EV, Nat.reduceEqDiff, ↓reduceIte, he] <;> try rfl, by simp only [EV, Nat.reduceEqDiff, ↓reduceIte, he] <;> try rfl⟩, hB2.trans hτ2.but, hF2.ext hτ2, hG2.ext hτ2, fun j hj => (hC2 j hj).imp fun g h => h.ext hτ2, hgk2.ext hτ2⟩
     -- drawn
     ·apply d_any
      case hi => simp only [HIX]; try rfl
      case hw => rfl
      case how => rfl
      refine s_lssF i (nn k) (by simp only [EV, Nat.reduceEqDiff, ↓reduceIte, he] <;> try rfl) (by simp only [EV, Nat.reduceEqDiff, ↓reduceIte, he] <;> try rfl) hik ?_
      refine d_ok ?_
      apply d_any
      case hi => simp only [HIX]; try rfl
      case hw => rfl
      case how => rfl
      refine c_mv rfl (by simp only [EV, Nat.reduceEqDiff, ↓reduceIte, he] <;> try rfl) ?_
      refine d_ok ?_
      apply d_off
      case hi => simp only [HIX]; try rfl
      case hg => rfl
      case how => rfl
      apply d_off
      case hi => simp only [HIX]; try rfl
      case hg => rfl
      case how => rfl
      apply d_off
      case hi => simp only [HIX]; try rfl
      case hg => rfl
      case how => rfl
      apply d_off
      case hi => simp only [HIX]; try rfl
      case hg => rfl
      case how => rfl
      apply d_off
      case hi => simp only [HIX]; try rfl
      case hg => rfl
      case how => rfl
      apply d_off
      case hi => simp only [HIX]; try rfl
      case hg => rfl
      case how => rfl
      apply d_off
      case hi => simp only [HIX]; try rfl
      case hg => rfl
      case how => rfl
      apply d_off
      case hi => simp only [HIX]; try rfl
      case hg => rfl
      case how => rfl
      apply d_off
      case hi => simp only [HIX]; try rfl
      case hg => rfl
      case how => rfl
      apply d_off
      case hi => simp only [HIX]; try rfl
      case hg => rfl
      case how => rfl
      apply d_off
      case hi => simp only [HIX]; try rfl
      case hg => rfl
      case how => rfl
      apply d_off
      case hi => simp only [HIX]; try rfl
      case hg => rfl
      case how => rfl
      apply d_any
      case hi => simp only [HIX]; try rfl
      case hw => rfl
      case how => rfl
      refine s_pick_f (by simp only [EV, Nat.reduceEqDiff, ↓reduceIte, he] <;> try rfl) (by simp only [EV, Nat.reduceEqDiff, ↓reduceIte, he] <;> try rfl) ?_
      refine d_ok ?_
      apply d_any
      case hi => simp only [HIX]; try rfl
      case hw => rfl
      case how => rfl
      refine s_pick_f (by simp only [EV, Nat.reduceEqDiff, ↓reduceIte, he] <;> try rfl) (by simp only [EV, Nat.reduceEqDiff, ↓reduceIte, he] <;> try rfl) ?_
      refine d_ok ?_
      refine d_nil ?_
      apply comp5 0 5 9 10 122
      ·simp only [EV, Nat.reduceEqDiff, ↓reduceIte, he] <;> try rfl
      ·simp only [EV, Nat.reduceEqDiff, ↓reduceIte, he] <;> try rfl
      ·simp only [EV, Nat.reduceEqDiff, ↓reduceIte, he] <;> try rfl
      ·simp only [EV, Nat.reduceEqDiff, ↓reduceIte, he] <;> try rfl
      ·simp only [EV, Nat.reduceEqDiff, ↓reduceIte, he] <;> try rfl
      clear he e
      intro e he
      refine k_cond1F (by simp only [EV, Nat.reduceEqDiff, ↓reduceIte, he] <;> try rfl) ?_
      refine k_skip1 ?_
      show aCode _ _ _ _ _ _
      refine k_region1 ?_
      refine k_cons (c_mv rfl (by simp only [EV, Nat.reduceEqDiff, ↓reduceIte, he] <;> try rfl) ?_)
      refine k_cons ?_
      refine s_addN i 1 (by simp only [EV, Nat.reduceEqDiff, ↓reduceIte, he] <;> try rfl) (by simp only [EV, Nat.reduceEqDiff, ↓reduceIte, he] <;> try rfl) (by omega) ?_
      refine k_cons (c_mv rfl (by simp only [EV, Nat.reduceEqDiff, ↓reduceIte, he] <;> try rfl) ?_)
      refine k_nil ?_
      show ∃ n', n' < _ ∧ _
      exact ⟨_, (by omega : nn k + 64 - (i + 1) < nn k + 64 - i), i + 1, rfl, hin, ⟨by simp only [EV, Nat.reduceEqDiff, ↓reduceIte, he] <;> try rfl, by simp only [EV, Nat.reduceEqDiff, ↓reduceIte, he] <;> try rfl, by simp only [EV, Nat.reduceEqDiff, ↓reduceIte, he] <;> try rfl, by simp only [EV, Nat.reduceEqDiff, ↓reduceIte, he] <;> try rfl⟩, hB2, hF2, hG2, hC2, hgk2⟩
    ·refine k_exit ?_
     exact ⟨rfl, ⟨by simp only [EV, Nat.reduceEqDiff, ↓reduceIte, he] <;> try rfl, by simp only [EV, Nat.reduceEqDiff, ↓reduceIte, he] <;> try rfl, by simp only [EV, Nat.reduceEqDiff, ↓reduceIte, he] <;> try rfl⟩, hB, hF, hG, hC⟩
   ·clear he e hB hF hG hC hg0 υ
    rintro e υ ⟨he, hB, hF, hG, hC⟩
    show aCode _ _ _ _ _ _
    refine k_region1 ?_
    refine k_cons (c_mv rfl (by simp only [EV, Nat.reduceEqDiff, ↓reduceIte, he] <;> try rfl) ?_)
    refine k_cons ?_
    refine s_addN k 1 (by simp only [EV, Nat.reduceEqDiff, ↓reduceIte, he] <;> try rfl) (by simp only [EV, Nat.reduceEqDiff, ↓reduceIte, he] <;> try rfl) (by omega) ?_
    refine k_cons (c_mv rfl (by simp only [EV, Nat.reduceEqDiff, ↓reduceIte, he] <;> try rfl) ?_)
    refine k_nil ?_
    show ∃ n', n' < _ ∧ _
    exact ⟨_, (by omega : hs.length - (k + 1) < hs.length - k), k + 1, rfl, hlt, ⟨by simp only [EV, Nat.reduceEqDiff, ↓reduceIte, he] <;> try rfl, by simp only [EV, Nat.reduceEqDiff, ↓reduceIte, he] <;> try rfl, by simp only [EV, Nat.reduceEqDiff, ↓reduceIte, he] <;> try rfl⟩, hB, hF, hG, hC⟩
  ·refine k_exit ?_
   exact ⟨rfl, ⟨by simp only [EV, Nat.reduceEqDiff, ↓reduceIte, he] <;> try rfl, by simp only [EV, Nat.reduceEqDiff, ↓reduceIte, he] <;> try rfl⟩, hB, hF, hG⟩
 clear he e hB hF hG hC υ
 rintro e υ ⟨he, hB, hF, hG⟩
 -- grown by many at once
 refine k_assoc ?_
 refine k_region ?_
 refine k_cons (c_mv rfl (by simp only [EV, Nat.reduceEqDiff, ↓reduceIte, he] <;> try rfl) ?_)
 refine k_nil ?_
 refine k_cutS (fun env υ => (env 0 = .lst A hs.length c (hs ++ r0) ∧ env 5 = hdr gb hs.length gq) ∧ But (FS hs) σ υ ∧ FA hs nn υ (fun j => mks (mkS m) j (nn j)) ∧ ∃ gc, Hd υ 23 1 (hdr gb hs.length gq) hs.length gc ∧ ∀ j, j < hs.length → ∃ g, FG hs nn (mkS m) false υ gc j g) ?_ ?_
 ·apply comp3 0 5 11
  ·simp only [EV, Nat.reduceEqDiff, ↓reduceIte, he] <;> try rfl
  ·simp only [EV, Nat.reduceEqDiff, ↓reduceIte, he] <;> try rfl
  ·simp only [EV, Nat.reduceEqDiff, ↓reduceIte, he] <;> try rfl
  clear he e
  intro e he
  refine k_block1 ?_
  refine k_loopE (fun μ env υ => ∃ (k : Nat) (gc : List AV), μ = hs.length - k ∧ k ≤ hs.length ∧ (env 0 = .lst A hs.length c (hs ++ r0) ∧ env 5 = hdr gb hs.length gq ∧ env 11 = vI k) ∧ But (FS hs) σ υ ∧ FA hs nn υ (fun j => mks (mkS m) j (nn j)) ∧ Hd υ 23 1 (hdr gb hs.length gq) hs.length gc ∧ ∀ j, j < k → ∃ g, FG hs nn (mkS m) false υ gc j g) ⟨_, 0, gc, rfl, Nat.zero_le _, he, hB, hF, hG, fun j hj => absurd hj (Nat.not_lt_zero _)⟩ ?_
  clear he e hB hF hG gc υ
  rintro _ e υ ⟨k, gc, rfl, hk, he, hB, hF, hG, hC⟩
  refine k_assoc ?_
  refine k_region ?_
  refine k_cons (c_mv rfl (by simp only [EV, Nat.reduceEqDiff, ↓reduceIte, he] <;> try rfl) ?_)
  refine k_cons (c_mv rfl (by simp only [EV, Nat.reduceEqDiff, ↓reduceIte, he] <;> try rfl) ?_)
  refine k_cons ?_
  apply s_lenN (hts := rfl) (ht := fl_slL)
  ·simp only [EV, Nat.reduceEqDiff, ↓reduceIte, he] <;> try rfl
  ·exact AV.val_lst _ _ _ _
  refine k_cons ?_
  refine s_lssN k hs.length (by simp only [EV, Nat.reduceEqDiff, ↓reduceIte, he] <;> try rfl) (by simp only [EV, Nat.reduceEqDiff, ↓reduceIte, he] <;> try rfl) ?_
  refine k_nil ?_
  apply comp4 0 5 11 126
  ·simp only [EV, Nat.reduceEqDiff, ↓reduceIte, he] <;> try rfl
  ·simp only [EV, Nat.reduceEqDiff, ↓reduceIte, he] <;> try rfl
  ·simp only [EV, Nat.reduceEqDiff, ↓reduceIte, he] <;> try rfl
  ·simp only [EV, Nat.reduceEqDiff, ↓reduceIte, he] <;> try rfl
  clear he e
  intro e he
  refine k_cond (t := decide (k < hs.length)) (by simp only [EV, Nat.reduceEqDiff, ↓reduceIte, he] <;> try rfl) (fun ht => ?_) (fun ht => ?_)
  ·have hlt : k < hs.length := of_decide_eq_true ht
   obtain ⟨v, hv⟩ := hget k hlt
   have hnk := hn k
   refine k_skip ?_
   refine k_block ?_
   refine k_region ?_
   refine k_cons ?_
   refine s_makeH (l := 64) (by simp only [EV, Nat.reduceEqDiff, ↓reduceIte, he] <;> try rfl) (by simp only [EV, Nat.reduceEqDiff, ↓reduceIte, he] <;> try rfl) fl_slS fl_szE fl_zeE fl_byE rfl (by omega) (by decide) (by omega) (by omega) fun mb mq τ mc0 hM hXt hmn hmu => ?_
   have hmS := hB.noneOfB hSu hmu hmn
   have hmH : ∀ (j : Nat) (u : AV), hs[j]? = some u → hbk u ≠ some mb := fun j u hu hb => (hF j u hu).old hb hmn
   have hmG : ∀ j, j < k → ∀ g, FG hs nn (mkS m) false υ gc j g → hbk g ≠ some mb := fun j hj g hg hb => by
    obtain ⟨r, hr⟩ := hg.hd
    exact hr.old hb hmn
   have hmg : hbk (hdr gb hs.length gq) ≠ some mb := fun hb => hG.old hb hmn
   have hC1 : ∀ j, j < k → ∃ g, FG hs nn (mkS m) false τ gc j g ∧ hbk g ≠ some mb := fun j hj => by
    obtain ⟨g, hg⟩ := hC j hj
    exact ⟨g, hg.ext hXt, hmG j hj g hg⟩
   have hB1 := hB.trans hXt.but
   have hF1 := hF.ext hXt
   have hG1 := hG.ext hXt
   clear hB hF hG hC hmG hXt hmn hmu
   refine k_cons (c_mv rfl (by simp only [EV, Nat.reduceEqDiff, ↓reduceIte, he] <;> try rfl) ?_)
   refine k_nil ?_
   refine k_assoc ?_
   refine k_region ?_
   refine k_cons (c_mv rfl (by simp only [EV, Nat.reduceEqDiff, ↓reduceIte, he] <;> try rfl) ?_)
   refine k_nil ?_
   apply comp5 0 5 11 12 13
   ·simp only [EV, Nat.reduceEqDiff, ↓reduceIte, he] <;> try rfl
   ·simp only [EV, Nat.reduceEqDiff, ↓reduceIte, he] <;> try rfl
   ·simp only [EV, Nat.reduceEqDiff, ↓reduceIte, he] <;> try rfl
   ·simp only [EV, Nat.reduceEqDiff, ↓reduceIte, he] <;> try rfl
   ·simp only [EV, Nat.reduceEqDiff, ↓reduceIte, he] <;> try rfl
   clear he e
   intro e he
   refine k_cutS (fun env υ => (env 0 = .lst A hs.length c (hs ++ r0) ∧ env 5 = hdr gb hs.length gq ∧ env 11 = vI k ∧ env 12 = hdr mb 64 mq) ∧ But (FS hs) σ υ ∧ FA hs nn υ (fun j => mks (mkS m) j (nn j)) ∧ Hd υ 23 1 (hdr gb hs.length gq) hs.length gc ∧ (∀ j, j < k → ∃ g, FG hs nn (mkS m) false υ gc j g ∧ hbk g ≠ some mb) ∧ ∃ mc, Hd υ 5 1 (hdr mb 64 mq) 64 mc) ?_ ?_
   ·refine k_block1 ?_
    refine k_loopE (fun μ env υ => ∃ (i : Nat) (mc : List AV), μ = 64 - i ∧ i ≤ 64 ∧ (env 0 = .lst A hs.length c (hs ++ r0) ∧ env 5 = hdr gb hs.length gq ∧ env 11 = vI k ∧ env 12 = hdr mb 64 mq ∧ env 13 = vI i) ∧ But (FS hs) σ υ ∧ FA hs nn υ (fun j => mks (mkS m) j (nn j)) ∧ Hd υ 23 1 (hdr gb hs.length gq) hs.length gc ∧ (∀ j, j < k → ∃ g, FG hs nn (mkS m) false υ gc j g ∧ hbk g ≠ some mb) ∧ Hd υ 5 1 (hdr mb 64 mq) 64 mc) ⟨_, 0, mc0, rfl, Nat.zero_le _, he, hB1, hF1, hG1, hC1, hM⟩ ?_
    clear he e hB1 hF1 hG1 hC1 hM τ υ
    rintro _ e υ ⟨i, mc, rfl, hi, he, hB, hF, hG, hC, hM⟩
    refine k_assoc ?_
    refine k_region ?_
    refine k_cons (c_mv rfl (by simp only [EV, Nat.reduceEqDiff, ↓reduceIte, he] <;> try rfl) ?_)
    refine k_cons ?_
    refine s_lssN i 64 (by simp only [EV, Nat.reduceEqDiff, ↓reduceIte, he] <;> try rfl) (by simp only [EV, Nat.reduceEqDiff, ↓reduceIte, he] <;> try rfl) ?_
    refine k_nil ?_
    apply comp6 0 5 11 12 13 131
    ·simp only [EV, Nat.reduceEqDiff, ↓reduceIte, he] <;> try rfl
    ·simp only [EV, Nat.reduceEqDiff, ↓reduceIte, he] <;> try rfl
    ·simp only [EV, Nat.reduceEqDiff, ↓reduceIte, he] <;> try rfl
    ·simp only [EV, Nat.reduceEqDiff, ↓reduceIte, he] <;> try rfl
    ·simp only [EV, Nat.reduceEqDiff, ↓reduceIte, he] <;> try rfl
    ·simp only [EV, Nat.reduceEqDiff, ↓reduceIte, he] <;> try rfl
    clear he e
    intro e he
    refine k_cond (t := decide (i < 64)) (by simp only [EV, Nat.reduceEqDiff, ↓reduceIte, he] <;> try rfl) (fun ht => ?_) (fun ht => ?_)
    ·have hin : i < 64 := of_decide_eq_true ht
     refine k_skip ?_
     refine k_block ?_
     refine k_region1 ?_
     refine k_cons (c_mv rfl (by simp only [EV, Nat.reduceEqDiff, ↓reduceIte, he] <;> try rfl) ?_)
     refine k_cons (c_mv rfl (by simp only [EV, Nat.reduceEqDiff, ↓reduceIte, he] <;> try rfl) ?_)
     refine k_cons (c_mv rfl (by simp only [EV, Nat.reduceEqDiff, ↓reduceIte, he] <;> try rfl) ?_)
     refine k_cons (c_mv rfl (by simp only [EV, Nat.reduceEqDiff, ↓reduceIte, he] <;> try rfl) ?_)
     refine k_cons ?_
     apply s_lenN (hts := rfl) (ht := fl_slL)
     ·simp only [EV, Nat.reduceEqDiff, ↓reduceIte, he] <;> try rfl
     ·exact AV.val_lst _ _ _ _
     refine k_cons ?_
     refine s_addN k hs.length (by simp only [EV, Nat.reduceEqDiff, ↓reduceIte, he] <;> try rfl) (by simp only [EV, Nat.reduceEqDiff, ↓reduceIte, he] <;> try rfl) (by omega) ?_
     refine k_cons (c_mv rfl (by simp only [EV, Nat.reduceEqDiff, ↓reduceIte, he] <;> try rfl) ?_)
     refine k_cons ?_
     refine s_call (vs := [vI ((k + hs.length : Nat) : Int), vI i]) (by simp only [List.map_cons, List.map_nil, EV, Nat.reduceEqDiff, ↓reduceIte, he]) ?_
     refine hmk (k + hs.length) i _ _ fun τ hτ => ?_
     refine k_cons ?_
     refine s_indexH (k := .i64) (j := i) (by simp only [EV, Nat.reduceEqDiff, ↓reduceIte, he] <;> try rfl) (by simp only [EV, Nat.reduceEqDiff, ↓reduceIte, he] <;> try rfl) fl_slS fl_szE (hM.ext hτ) hin fun b hb => ?_
     refine k_cons ?_
     refine s_storeH (r := agg1 ((mkS m) (k + hs.length) i)) (by simp only [EV, Nat.reduceEqDiff, ↓reduceIte, he] <;> try rfl) (by simp only [EV, Nat.reduceEqDiff, ↓reduceIte, he] <;> try rfl) fl_szE (hM.ext hτ) hb hin (hone _ i) fun τ2 hM2 hB2 => ?_
     have hnb : ∀ u : AV, hbk u ≠ some mb → ∀ b, hbk u = some b → ¬ hbk (hdr mb 64 mq) = some b := fun u hu b h1 h2 => hu (by rw [h1, hbk_of h2])
     refine k_nil ?_
     show aCode _ _ _ _ _ _
     refine k_region1 ?_
     refine k_cons (c_mv rfl (by simp only [EV, Nat.reduceEqDiff, ↓reduceIte, he] <;> try rfl) ?_)
     refine k_cons ?_
     refine s_addN i 1 (by simp only [EV, Nat.reduceEqDiff, ↓reduceIte, he] <;> try rfl) (by simp only [EV, Nat.reduceEqDiff, ↓reduceIte, he] <;> try rfl) (by omega) ?_
     refine k_cons (c_mv rfl (by simp only [EV, Nat.reduceEqDiff, ↓reduceIte, he] <;> try rfl) ?_)
     refine k_nil ?_
     show ∃ n', n' < _ ∧ _
     refine ⟨_, (by omega : 64 - (i + 1) < 64 - i), i + 1, _, rfl, hin, ⟨by simp only [EV, Nat.reduceEqDiff, ↓reduceIte, he] <;> try rfl, by simp only [EV, Nat.reduceEqDiff, ↓reduceIte, he] <;> try rfl, by simp only [EV, Nat.reduceEqDiff, ↓reduceIte, he] <;> try rfl, by simp only [EV, Nat.reduceEqDiff, ↓reduceIte, he] <;> try rfl, by simp only [EV, Nat.reduceEqDiff, ↓reduceIte, he] <;> try rfl⟩, (hB.trans hτ.but).ext2 (fun b hb => ?_) hB2, (hF.ext hτ).but hB2 fun j u b hu hb => hnb u (hmH j u hu) b hb, (hG.ext hτ).but hB2 (hnb _ hmg), fun j hj => ?_, hM2⟩
     ·have hb := hbk_of hb
      subst hb
      exact .inr hmS
     ·obtain ⟨g, hg, hgm⟩ := hC j hj
      exact ⟨g, (hg.ext hτ).but hB2 (hnb g hgm), hgm⟩
    ·refine k_exit ?_
     exact ⟨rfl, ⟨by simp only [EV, Nat.reduceEqDiff, ↓reduceIte, he] <;> try rfl, by simp only [EV, Nat.reduceEqDiff, ↓reduceIte, he] <;> try rfl, by simp only [EV, Nat.reduceEqDiff, ↓reduceIte, he] <;> try rfl, by simp only [EV, Nat.reduceEqDiff, ↓reduceIte, he] <;> try rfl⟩, hB, hF, hG, hC, mc, hM⟩
   ·clear he e hB1 hF1 hG1 hC1 hM τ υ
    rintro e υ ⟨he, hB, hF, hG, hC, mc, hM⟩
    have hH := hF k v hv
    refine k_region1 ?_
    refine k_cons (c_mv rfl (by simp only [EV, Nat.reduceEqDiff, ↓reduceIte, he] <;> try rfl) ?_)
    refine k_cons (c_mv rfl (by simp only [EV, Nat.reduceEqDiff, ↓reduceIte, he] <;> try rfl) ?_)
    refine k_cons (c_mv rfl (by simp only [EV, Nat.reduceEqDiff, ↓reduceIte, he] <;> try rfl) ?_)
    refine k_cons (c_mv rfl (by simp only [EV, Nat.reduceEqDiff, ↓reduceIte, he] <;> try rfl) ?_)
    refine k_cons ?_
    refine s_ixL (by simp only [EV, Nat.reduceEqDiff, ↓reduceIte, he] <;> try rfl) (by simp only [EV, Nat.reduceEqDiff, ↓reduceIte, he] <;> try rfl) hA fl_slL fl_szS hlt fun ad => ?_
    refine k_cons ?_
    refine s_ldL (by simp only [EV, Nat.reduceEqDiff, ↓reduceIte, he] <;> try rfl) hv fl_agS fl_szS ?_
    refine k_cons (c_mv rfl (by simp only [EV, Nat.reduceEqDiff, ↓reduceIte, he] <;> try rfl) ?_)
    refine k_cons ?_
    refine s_appendH (by simp only [EV, Nat.reduceEqDiff, ↓reduceIte, he] <;> try rfl) (by simp only [EV, Nat.reduceEqDiff, ↓reduceIte, he] <;> try rfl) fl_slS fl_szE fl_zeE fl_byE rfl (by omega) hH (hM.src (by omega)) (by omega) (by simp only [maxLen]; omega) (by omega) fun g τ hg hkp hbt hnw => ?_
    have hG3 : Hd τ 23 1 (hdr gb hs.length gq) hs.length gc := hG.but hbt fun b hb hb2 => hH.ne hG (by decide) hb2 hb
    have hB3 : But (FS hs) σ τ := hB.trans (hbt.sub fun b hb => ⟨k, v, hv, hb⟩)
    have hF3 : FA hs nn τ (fun j => mks (mkS m) j (nn j)) := fun j u hu => hkp u _ _ (hF j u hu) fun b hb hub => by
     by_cases e : j = k
     ·subst e; omega
     ·exact absurd hb (hfar k v hv j u b e hu hub)
    have hC3 : ∀ j, j < k → ∃ g, FG hs nn (mkS m) false τ gc j g := fun j hj => by
     obtain ⟨gj, hgj, _⟩ := hC j hj
     exact ⟨gj, hgj.but hbt fun b hb hb2 => hgj.far k v b (by omega) hv hb2 hb⟩
    have hgf : FarH hs k g := fun j u b hj hu hub hb => by
     rcases hnw b hb with h | h
     ·exact hfar k v hv j u b hj hu hub h
     ·exact (hF j u hu).old hub h.1
    clear hB hF hG hC hM hH hkp hbt hnw
    refine k_cons ?_
    refine s_indexH (k := .i64) (j := k) (by simp only [EV, Nat.reduceEqDiff, ↓reduceIte, he] <;> try rfl) (by simp only [EV, Nat.reduceEqDiff, ↓reduceIte, he] <;> try rfl) fl_slL fl_szS hG3 hlt fun b hb => ?_
    have ho := hg.oneV
    refine k_cons ?_
    refine s_storeH (r := g) (by simp only [EV, Nat.reduceEqDiff, ↓reduceIte, he] <;> try rfl) (by simp only [EV, Nat.reduceEqDiff, ↓reduceIte, he] <;> try rfl) fl_szS hG3 hb hlt ⟨ho.2.1, by rw [ho.2.2]; rfl, by rw [ho.2.2]; intro a ha; rw [List.mem_singleton.1 ha]; exact ho.1⟩ fun τ2 hG2 hB2 => ?_
    rw [ho.2.2] at hG2
    have hlen := hG3.len
    rw [Nat.mul_one] at hlen
    have hsg := splice_get gc k g (by omega)
    have hF2 : FA hs nn τ2 (fun j => mks (mkS m) j (nn j)) := hF3.but hB2 fun j u b hu hub hb2 => (hF3 j u hu).ne hG3 (by decide) hub hb2
    have hBS := hB3.ext2 hgs hB2
    refine k_nil ?_
    show aCode _ _ _ _ _ _
    refine k_region1 ?_
    refine k_cons (c_mv rfl (by simp only [EV, Nat.reduceEqDiff, ↓reduceIte, he] <;> try rfl) ?_)
    refine k_cons ?_
    refine s_addN k 1 (by simp only [EV, Nat.reduceEqDiff, ↓reduceIte, he] <;> try rfl) (by simp only [EV, Nat.reduceEqDiff, ↓reduceIte, he] <;> try rfl) (by omega) ?_
    refine k_cons (c_mv rfl (by simp only [EV, Nat.reduceEqDiff, ↓reduceIte, he] <;> try rfl) ?_)
    refine k_nil ?_
    show ∃ n', n' < _ ∧ _
    refine ⟨_, (by omega : hs.length - (k + 1) < hs.length - k), k + 1, _, rfl, hlt, ⟨by simp only [EV, Nat.reduceEqDiff, ↓reduceIte, he] <;> try rfl, by simp only [EV, Nat.reduceEqDiff, ↓reduceIte, he] <;> try rfl, by simp only [EV, Nat.reduceEqDiff, ↓reduceIte, he] <;> try rfl⟩, hBS, hF2, hG2, fun j hj => ?_⟩
    by_cases e : j = k
    ·subst e
     exact ⟨g, by rw [hsg, if_pos rfl], ⟨mc, by rw [if_neg Bool.false_ne_true]; exact hg.but hB2 fun b hb hb2 => hg.ne hG3 (by decide) hb hb2⟩, hgf⟩
    ·obtain ⟨gj, hgj⟩ := hC3 j (by omega)
     obtain ⟨r, hr⟩ := hgj.hd
     exact ⟨gj, by rw [hsg, if_neg e]; exact hgj.at_, ⟨r, hr.but hB2 fun b hb hb2 => hr.ne hG3 (by decide) hb hb2⟩, hgj.far⟩
  ·have hke : k = hs.length := by have := of_decide_eq_false ht; omega
   refine k_exit ?_
   rw [hke] at hC
   exact ⟨rfl, ⟨by simp only [EV, Nat.reduceEqDiff, ↓reduceIte, he] <;> try rfl, by simp only [EV, Nat.reduceEqDiff, ↓reduceIte, he] <;> try rfl⟩, hB, hF, gc, hG, hC⟩
 clear he e hB hF hG gc υ
 rintro e υ ⟨he, hB, hF, gc, hG, hC⟩
 -- looked at again
 refine k_assoc ?_
 refine k_region ?_
 refine k_cons (c_mv rfl (by simp only [EV, Nat.reduceEqDiff, ↓reduceIte, he] <;> try rfl) ?_)
 refine k_nil ?_
 refine k_cutS (fun env υ => But (FS hs) σ υ) ?_ ?_
 ·apply comp3 0 5 14
  ·simp only [EV, Nat.reduceEqDiff, ↓reduceIte, he] <;> try rfl
  ·simp only [EV, Nat.reduceEqDiff, ↓reduceIte, he] <;> try rfl
  ·simp only [EV, Nat.reduceEqDiff, ↓reduceIte, he] <;> try rfl
  clear he e
  intro e he
  refine k_block1 ?_
  refine k_loopE (fun μ env υ => ∃ (k : Nat), μ = hs.length - k ∧ k ≤ hs.length ∧ (env 0 = .lst A hs.length c (hs ++ r0) ∧ env 5 = hdr gb hs.length gq ∧ env 14 = vI k) ∧ But (FS hs) σ υ ∧ FA hs nn υ (fun j => mks (mkS m) j (nn j)) ∧ Hd υ 23 1 (hdr gb hs.length gq) hs.length gc ∧ ∀ j, j < hs.length → ∃ g, FG hs nn (mkS m) false υ gc j g) ⟨_, 0, rfl, Nat.zero_le _, he, hB, hF, hG, hC⟩ ?_
  clear he e hB hF hG hC υ
  rintro _ e υ ⟨k, rfl, hk, he, hB, hF, hG, hC⟩
  refine k_assoc ?_
  refine k_region ?_
  refine k_cons (c_mv rfl (by simp only [EV, Nat.reduceEqDiff, ↓reduceIte, he] <;> try rfl) ?_)
  refine k_cons (c_mv rfl (by simp only [EV, Nat.reduceEqDiff, ↓reduceIte, he] <;> try rfl) ?_)
  refine k_cons ?_
  apply s_lenN (hts := rfl) (ht := fl_slL)
  ·simp only [EV, Nat.reduceEqDiff, ↓reduceIte, he] <;> try rfl
  ·exact AV.val_lst _ _ _ _
  refine k_cons ?_
  refine s_lssN k hs.length (by simp only [EV, Nat.reduceEqDiff, ↓reduceIte, he] <;> try rfl) (by simp only [EV, Nat.reduceEqDiff, ↓reduceIte, he] <;> try rfl) ?_
  refine k_nil ?_
  apply comp4 0 5 14 155
  ·simp only [EV, Nat.reduceEqDiff, ↓reduceIte, he] <;> try rfl
  ·simp only [EV, Nat.reduceEqDiff, ↓reduceIte, he] <;> try rfl
  ·simp only [EV, Nat.reduceEqDiff, ↓reduceIte, he] <;> try rfl
  ·simp only [EV, Nat.reduceEqDiff, ↓reduceIte, he] <;> try rfl
  clear he e
  intro e he
  refine k_cond (t := decide (k < hs.length)) (by simp only [EV, Nat.reduceEqDiff, ↓reduceIte, he] <;> try rfl) (fun ht => ?_) (fun ht => ?_)
  ·have hlt : k < hs.length := of_decide_eq_true ht
   obtain ⟨v, hv⟩ := hget k hlt
   obtain ⟨g, hg0⟩ := hC k hlt
   have hga := hg0.at_
   have hnk := hn k
   refine k_skip ?_
   refine k_block ?_
   refine k_region ?_
   refine k_cons (c_mv rfl (by simp only [EV, Nat.reduceEqDiff, ↓reduceIte, he] <;> try rfl) ?_)
   refine k_nil ?_
   apply comp4 0 5 14 15
   ·simp only [EV, Nat.reduceEqDiff, ↓reduceIte, he] <;> try rfl
   ·simp only [EV, Nat.reduceEqDiff, ↓reduceIte, he] <;> try rfl
   ·simp only [EV, Nat.reduceEqDiff, ↓reduceIte, he] <;> try rfl
   ·simp only [EV, Nat.reduceEqDiff, ↓reduceIte, he] <;> try rfl
   clear he e
   intro e he
   refine k_cut (fun env υ => (env 0 = .lst A hs.length c (hs ++ r0) ∧ env 5 = hdr gb hs.length gq ∧ env 14 = vI k) ∧ But (FS hs) σ υ ∧ FA hs nn υ (fun j => mks (mkS m) j (nn j)) ∧ Hd υ 23 1 (hdr gb hs.length gq) hs.length gc ∧ ∀ j, j < hs.length → ∃ g, FG hs nn (mkS m) false υ gc j g) ?_ ?_
   ·refine k_block1 ?_
    refine k_loopE (fun μ env υ => ∃ (i : Nat), μ = nn k - i ∧ i ≤ nn k ∧ (env 0 = .lst A hs.length c (hs ++ r0) ∧ env 5 = hdr gb hs.length gq ∧ env 14 = vI k ∧ env 15 = vI i) ∧ But (FS hs) σ υ ∧ FA hs nn υ (fun j => mks (mkS m) j (nn j)) ∧ Hd υ 23 1 (hdr gb hs.length gq) hs.length gc ∧ (∀ j, j < hs.length → ∃ g, FG hs nn (mkS m) false υ gc j g) ∧ FG hs nn (mkS m) false υ gc k g) ⟨_, 0, rfl, Nat.zero_le _, he, hB, hF, hG, hC, hg0⟩ ?_
    clear he e hB hF hG hC hg0 υ
    rintro _ e υ ⟨i, rfl, hi, he, hB, hF, hG, hC, hgk⟩
    have hH := hF k v hv
    refine k_assoc ?_
    refine k_region ?_
    refine k_cons (c_mv rfl (by simp only [EV, Nat.reduceEqDiff, ↓reduceIte, he] <;> try rfl) ?_)
    refine k_cons (c_mv rfl (by simp only [EV, Nat.reduceEqDiff, ↓reduceIte, he] <;> try rfl) ?_)
    refine k_cons (c_mv rfl (by simp only [EV, Nat.reduceEqDiff, ↓reduceIte, he] <;> try rfl) ?_)
    refine k_cons ?_
    refine s_ixL (by simp only [EV, Nat.reduceEqDiff, ↓reduceIte, he] <;> try rfl) (by simp only [EV, Nat.reduceEqDiff, ↓reduceIte, he] <;> try rfl) hA fl_slL fl_szS hlt fun ad => ?_
    refine k_cons ?_
    refine s_ldL (by simp only [EV, Nat.reduceEqDiff, ↓reduceIte, he] <;> try rfl) hv fl_agS fl_szS ?_
    refine k_cons ?_
    refine s_lenH (by simp only [EV, Nat.reduceEqDiff, ↓reduceIte, he] <;> try rfl) hH rfl fl_slS ?_
    refine k_cons ?_
    refine s_lssN i (nn k) (by simp only [EV, Nat.reduceEqDiff, ↓reduceIte, he] <;> try rfl) (by simp only [EV, Nat.reduceEqDiff, ↓reduceIte, he] <;> try rfl) ?_
    refine k_nil ?_
    apply comp5 0 5 14 15 164
    ·simp only [EV, Nat.reduceEqDiff, ↓reduceIte, he] <;> try rfl
    ·simp only [EV, Nat.reduceEqDiff, ↓reduceIte, he] <;> try rfl
    ·simp only [EV, Nat.reduceEqDiff, ↓reduceIte, he] <;> try rfl
    ·simp only [EV, Nat.reduceEqDiff, ↓reduceIte, he] <;> try rfl
    ·simp only [EV, Nat.reduceEqDiff, ↓reduceIte, he] <;> try rfl
    clear he e
    intro e he
    refine k_cond (t := decide (i < nn k)) (by simp only [EV, Nat.reduceEqDiff, ↓reduceIte, he] <;> try rfl) (fun ht => ?_) (fun ht => ?_)
    ·have hik : i < nn k := of_decide_eq_true ht
     have hat2 := mks_at hl k (nn k) i [] hik
     rw [List.append_nil] at hat2
     refine k_skip ?_
     refine k_block ?_
     refine k_drawn ?_
     refine ⟨[0, 1, 2, 4, 7, 8, 3, 5, 6, 9, 10, 11, 12, 13, 14, 15, 17, 20, 21, 16, 18, 19, 22, 23, 24, 25], [[], [], [0, 1], [0, 1, 2], [], [0, 1, 2, 3, 4], [0, 1, 2, 3, 4, 5], [], [], [7, 8], [0, 1, 2, 3, 4, 5, 6, 7, 8, 9], [0, 1, 2, 3, 4, 5, 6, 7, 8, 9, 10], [0, 1, 2, 3, 4, 5, 6, 7, 8, 9, 10, 11], [0, 1, 2, 3, 4, 5, 6, 7, 8, 9, 10, 11, 12], [0, 1, 2, 3, 4, 5, 6, 7, 8, 9, 10, 11, 12], [0, 1, 2, 3, 4, 5, 6, 7, 8, 9, 10, 11, 12, 13, 14], [0, 1, 2, 3, 4, 5, 6, 7, 8, 9, 10, 11, 12, 13, 14, 15], [0, 1, 2, 3, 4, 5, 6, 7, 8, 9, 10, 11, 12], [0, 1, 2, 3, 4, 5, 6, 7, 8, 9, 10, 11, 12, 13, 14, 15, 16, 17], [0, 1, 2, 3, 4, 5, 6, 7, 8, 9, 10, 11, 12, 13, 14, 15, 16, 17, 18], [0, 1, 2, 3, 4, 5, 6, 7, 8, 9, 10, 11, 12], [0, 1, 2, 3, 4, 5, 6, 7, 8, 9, 10, 11, 12], [0, 1, 2, 3, 4, 5, 6, 7, 8, 9, 10, 11, 12, 20, 21], [0, 1, 2, 3, 4, 5, 6, 7, 8, 9, 10, 11, 12, 13, 14, 15, 16, 17, 18, 19, 20, 21, 22], [0, 1, 2, 3, 4, 5, 6, 7, 8, 9, 10, 11, 12, 13, 14, 15, 16, 17, 18, 19, 20, 21, 22, 23], [0, 1, 2, 3, 4, 5, 6, 7, 8, 9, 10, 11, 12, 13, 14, 15, 16, 17, 18, 19, 20, 21, 22, 23, 24]], fun _ => True, [3, 6, 16, 19], [9, 22], [], by kernel_rfl, ?_⟩
     apply d_any
     case hi => simp only [HIX]; try rfl
     case hw => rfl
     case how => rfl
     refine c_mv rfl (by simp only [EV, Nat.reduceEqDiff, ↓reduceIte, he] <;> try rfl) ?_
     refine d_ok ?_
     apply d_any
     case hi => simp only [HIX]; try rfl
     case hw => rfl
     case how => rfl
     refine c_mv rfl (by simp only [EV, Nat.reduceEqDiff, ↓reduceIte, he] <;> try rfl) ?_
     refine d_ok ?_
     apply d_any
     case hi => simp only [HIX]; try rfl
     case hw => rfl
     case how => rfl
     refine s_ixL (by simp only [EV, Nat.reduceEqDiff, ↓reduceIte, he] <;> try rfl) (by simp only [EV, Nat.reduceEqDiff, ↓reduceIte, he] <;> try rfl) hA fl_slL fl_szS hlt fun ad2 => ?_
     refine d_ok ?_
     apply d_any
     case hi => simp only [HIX]; try rfl
     case hw => rfl
     case how => rfl
     refine c_mv rfl (by simp only [EV, Nat.reduceEqDiff, ↓reduceIte, he] <;> try rfl) ?_
     refine d_ok ?_
     apply d_any
     case hi => simp only [HIX]; try rfl
     case hw => rfl
     case how => rfl
     refine c_mv rfl (by simp only [EV, Nat.reduceEqDiff, ↓reduceIte, he] <;> try rfl) ?_
     refine d_ok ?_
     apply d_any
     case hi => simp only [HIX]; try rfl
     case hw => rfl
     case how => rfl
     refine c_mv rfl (by simp only [EV, Nat.reduceEqDiff, ↓reduceIte, he] <;> try rfl) ?_
     refine d_ok ?_
     apply d_any
     case hi => simp only [HIX]; try rfl
     case hw => rfl
     case how => rfl
     refine s_ldL (by simp only [EV, Nat.reduceEqDiff, ↓reduceIte, he] <;> try rfl) hv fl_agS fl_szS ?_
     refine d_ok ?_
     apply d_any
     case hi => simp only [HIX]; try rfl
     case hw => rfl
     case how => rfl
     refine s_indexH (k := .i64) (j := i) (by simp only [EV, Nat.reduceEqDiff, ↓reduceIte, he] <;> try rfl) (by simp only [EV, Nat.reduceEqDiff, ↓reduceIte, he] <;> try rfl) fl_slS fl_szE hH hik fun b4 hb4 => ?_
     refine d_ok ?_
     apply d_any
     case hi => simp only [HIX]; try rfl
     case hw => rfl
     case how => rfl
     refine s_ldHS (by simp only [EV, Nat.reduceEqDiff, ↓reduceIte, he] <;> try rfl) hH hb4 hik fl_agE fl_szE ?_
     rw [hat2]
     refine d_ok ?_
     apply d_any
     case hi => simp only [HIX]; try rfl
     case hw => rfl
     case how => rfl
     refine s_call (vs := [vI k, vI i]) (by simp only [List.map_cons, List.map_nil, EV, Nat.reduceEqDiff, ↓reduceIte, he]) ?_
     refine hmk k i _ _ fun τ hτ => ⟨fun _ => hτ, ?_⟩
     have hB2 := hB.trans hτ.but
     have hF2 := hF.ext hτ
     have hG2 := hG.ext hτ
     have hC2 : ∀ j, j < hs.length → ∃ g, FG hs nn (mkS m) false τ gc j g := fun j hj => (hC j hj).imp fun g h => h.ext hτ
     have hgk2 := hgk.ext hτ
     clear hB hF hG hC hgk hH
     obtain ⟨r, hgd⟩ := hgk2.hd
     rw [if_neg Bool.false_ne_true] at hgd
     have hat := mks_at hl k (nn k) i r hik
     apply d_any
     case hi => simp only [HIX]; try rfl
     case hw => rfl
     case how => rfl
     refine s_eqlS1 (m := m) (k := k) (i := i) (by simp only [EV, Nat.reduceEqDiff, ↓reduceIte, he] <;> try rfl) (by simp only [EV, Nat.reduceEqDiff, ↓reduceIte, he] <;> try rfl) ?_
     refine d_ok ?_
     apply d_any
     case hi => simp only [HIX]; try rfl
     case hw => rfl
     case how => rfl
     with_reducible apply s_notT
     case hx => simp only [EV, Nat.reduceEqDiff, ↓reduceIte, he] <;> try rfl
     refine d_ok ?_
     apply d_any
     case hi => simp only [HIX]; try rfl
     case hw => rfl
     case how => rfl
     refine c_mv rfl (by simp only [EV, Nat.reduceEqDiff, ↓reduceIte, he] <;> try rfl) ?_
     refine d_ok ?_
     apply d_any
     case hi => simp only [HIX]; try rfl
     case hw => rfl
     case how => rfl
     refine c_mv rfl (by simp only [EV, Nat.reduceEqDiff, ↓reduceIte, he] <;> try rfl) ?_
     refine d_ok ?_
     apply d_any
     case hi => simp only [HIX]; try rfl
     case hw => rfl
     case how => rfl
     refine c_mv rfl (by simp only [EV, Nat.reduceEqDiff, ↓reduceIte, he] <;> try rfl) ?_
     refine d_ok ?_
     apply d_any
     case hi => simp only [HIX]; try rfl
     case hw => rfl
     case how => rfl
     refine s_indexH (k := .i64) (j := k) (by simp only [EV, Nat.reduceEqDiff, ↓reduceIte, he] <;> try rfl) (by simp only [EV, Nat.reduceEqDiff, ↓reduceIte, he] <;> try rfl) fl_slL fl_szS hG2 hlt fun b2 hb2 => ?_
     refine d_ok ?_
     apply d_any
     case hi => simp only [HIX]; try rfl
     case hw => rfl
     case how => rfl
     refine c_mv rfl (by simp only [EV, Nat.reduceEqDiff, ↓reduceIte, he] <;> try rfl) ?_
     refine d_ok ?_
     apply d_any
     case hi => simp only [HIX]; try rfl
     case hw => rfl
     case how => rfl
     refine c_mv rfl (by simp only [EV, Nat.reduceEqDiff, ↓reduceIte, he] <;> try rfl) ?_
     refine d_ok ?_
     apply d_any
     case hi => simp only [HIX]; try rfl
     case hw => rfl
     case how => rfl
     refine c_mv rfl (by simp only [EV, Nat.reduceEqDiff, ↓reduceIte, he] <;> try rfl) ?_
     refine d_ok ?_
     apply d_any
     case hi => simp only [HIX]; try rfl
     case hw => rfl
     case how => rfl
     refine s_ldH1 (by simp only [EV, Nat.reduceEqDiff, ↓reduceIte, he] <;> try rfl) hG2 hb2 hlt hga fl_agS fl_szS ?_
     refine d_ok ?_
     apply d_any
     case hi => simp only [HIX]; try rfl
     case hw => rfl
     case how => rfl
     refine s_indexH (k := .i64) (j := i) (by simp only [EV, Nat.reduceEqDiff, ↓reduceIte, he] <;> try rfl) (by simp only [EV, Nat.reduceEqDiff, ↓reduceIte, he] <;> try rfl) fl_slS fl_szE hgd (by omega) fun b3 hb3 => ?_
     refine d_ok ?_
     apply d_any
     case hi => simp only [HIX]; try rfl
     case hw => rfl
     case how => rfl
     refine s_ldHS (by simp only [EV, Nat.reduceEqDiff, ↓reduceIte, he] <;> try rfl) hgd hb3 (by omega) fl_agE fl_szE ?_
     rw [hat]
     refine d_ok ?_
     apply d_any
     case hi => simp only [HIX]; try rfl
     case hw => rfl
     case how => rfl
     refine s_call (vs := [vI k, vI i]) (by simp only [List.map_cons, List.map_nil, EV, Nat.reduceEqDiff, ↓reduceIte, he]) ?_
     refine hmk k i _ _ fun τ2 hτ2 => ⟨fun _ => hτ2, ?_⟩
     apply d_any
     case hi => simp only [HIX]; try rfl
     case hw => rfl
     case how => rfl
     refine s_eqlS1 (m := m) (k := k) (i := i) (by simp only [EV, Nat.reduceEqDiff, ↓reduceIte, he] <;> try rfl) (by simp only [EV, Nat.reduceEqDiff, ↓reduceIte, he] <;> try rfl) ?_
     refine d_ok ?_
     apply d_any
     case hi => simp only [HIX]; try rfl
     case hw => rfl
     case how => rfl
     with_reducible apply s_notT
     case hx => simp only [EV, Nat.reduceEqDiff, ↓reduceIte, he] <;> try rfl
     refine d_ok ?_
     apply d_any
     case hi => simp only [HIX]; try rfl
     case hw => rfl
     case how => rfl
     refine s_pick_f (by simp only [EV, Nat.reduceEqDiff, ↓reduceIte, he] <;> try rfl) (by simp only [EV, Nat.reduceEqDiff, ↓reduceIte, he] <;> try rfl) ?_
     refine d_ok ?_
     refine d_nil ?_
     apply comp5 0 5 14 15 192
     ·simp only [EV, Nat.reduceEqDiff, ↓reduceIte, he] <;> try rfl
     ·simp only [EV, Nat.reduceEqDiff, ↓reduceIte, he] <;> try rfl
     ·simp only [EV, Nat.reduceEqDiff, ↓reduceIte, he] <;> try rfl
     ·simp only [EV, Nat.reduceEqDiff, ↓reduceIte, he] <;> try rfl
     ·simp only [EV, Nat.reduceEqDiff, ↓reduceIte, he] <;> try rfl
     clear he e
     intro e he
     refine k_cond1F (by simp only [EV, Nat.reduceEqDiff, ↓reduceIte, he] <;> try rfl) ?_
     refine k_skip1 ?_
     show aCode _ _ _ _ _ _
     refine k_region1 ?_
     refine k_cons (c_mv rfl (by simp only [EV, Nat.reduceEqDiff, ↓reduceIte, he] <;> try rfl) ?_)
     refine k_cons ?_
     refine s_addN i 1 (by simp only [EV, Nat.reduceEqDiff, ↓reduceIte, he] <;> try rfl) (by simp only [EV, Nat.reduceEqDiff, ↓reduceIte, he] <;> try rfl) (by omega) ?_
     refine k_cons (c_mv rfl (by simp only [EV, Nat.reduceEqDiff, ↓reduceIte, he] <;> try rfl) ?_)
     refine k_nil ?_
     show ∃ n', n' < _ ∧ _
     exact ⟨_, (by omega : nn k - (i + 1) < nn k - i), i + 1, rfl, hik, ⟨by simp only [EV, Nat.reduceEqDiff, ↓reduceIte, he] <;> try rfl, by simp only [EV, Nat.reduceEqDiff, ↓reduceIte, he] <;> try rfl, by simp only [EV, Nat.reduceEqDiff, ↓reduceIte, he] <;> try rfl, by simp only [EV, Nat.reduceEqDiff, ↓reduceIte, he] <;> try rfl⟩, hB2.trans hτ2.but, hF2.ext hτ2, hG2.ext hτ2, fun j hj => (hC2 j hj).imp fun g h => h.ext hτ2, hgk2.ext hτ2⟩
    ·refine k_exit ?_
     exact ⟨rfl, ⟨by simp only [EV, Nat.reduceEqDiff, ↓reduceIte, he] <;> try rfl, by simp only [EV, Nat.reduceEqDiff, ↓reduceIte, he] <;> try rfl, by simp only [EV, Nat.reduceEqDiff, ↓reduceIte, he] <;> try rfl⟩, hB, hF, hG, hC⟩
   ·clear he e hB hF hG hC hg0 υ
    rintro e υ ⟨he, hB, hF, hG, hC⟩
    show aCode _ _ _ _ _ _
    refine k_region1 ?_
    refine k_cons (c_mv rfl (by simp only [EV, Nat.reduceEqDiff, ↓reduceIte, he] <;> try rfl) ?_)
    refine k_cons ?_
    refine s_addN k 1 (by simp only [EV, Nat.reduceEqDiff, ↓reduceIte, he] <;> try rfl) (by simp only [EV, Nat.reduceEqDiff, ↓reduceIte, he] <;> try rfl) (by omega) ?_
    refine k_cons (c_mv rfl (by simp only [EV, Nat.reduceEqDiff, ↓reduceIte, he] <;> try rfl) ?_)
    refine k_nil ?_
    show ∃ n', n' < _ ∧ _
    exact ⟨_, (by omega : hs.length - (k + 1) < hs.length - k), k + 1, rfl, hlt, ⟨by simp only [EV, Nat.reduceEqDiff, ↓reduceIte, he] <;> try rfl, by simp only [EV, Nat.reduceEqDiff, ↓reduceIte, he] <;> try rfl, by simp only [EV, Nat.reduceEqDiff, ↓reduceIte, he] <;> try rfl⟩, hB, hF, hG, hC⟩
  ·refine k_exit ?_
   exact ⟨rfl, hB⟩
 clear he e hB hF hG hC gc υ
 intro e υ hB
 have he := trivial
 refine k_region ?_
 refine k_cons (c_mv rfl (by simp only [EV, Nat.reduceEqDiff, ↓reduceIte, he] <;> try rfl) ?_)
 refine k_nil ?_
 refine k_ret1 ?_
 show ∃ r, aResults _ _ _ _ r ∧ _
 exact ⟨_, res_tmp rfl (by simp only [EV, Nat.reduceEqDiff, ↓reduceIte, he] <;> try rfl), rfl, hB⟩
end Go.Proofs.Ytklmbkkeiihgdaa
