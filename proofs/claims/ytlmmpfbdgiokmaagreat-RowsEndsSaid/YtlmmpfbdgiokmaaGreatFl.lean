/- flat: lists that lie apart are marked, grown, looked at; all is as it is marked. -/
import Derived.Test.YtlmmpfbdgiokmaaGreatHw
import Derived.Test.YtlmmpfbdgiokmaaGreatChecked
namespace Go.Proofs.YtlmmpfbdgiokmaaGreat
open Go.RowKit
set_option maxRecDepth 100000
set_option linter.unusedVariables false
set_option linter.unusedSimpArgs false
theorem Zbv : Tryz.prog.follows .mixedOrders = true := by kernel_rfl
theorem ZdO : ZaB Tryz.prog 44 = some 29 := by kernel_rfl
theorem ZgY : ZaB Tryz.prog 29 = some 48 := by kernel_rfl
theorem Zcw : Zaw Tryz.prog 29 = some 1 := by kernel_rfl
theorem Zib : Zer Tryz.prog 29 = some false := by kernel_rfl
theorem Zgv : Zaw Tryz.prog 48 = some 2 := by kernel_rfl
theorem ZmR : Zer Tryz.prog 48 = some true := by kernel_rfl
theorem ZuR : Zbt Tryz.prog 48 = some (.agg #[.string ⟨#[]⟩, .string ⟨#[]⟩]) := by kernel_rfl
theorem Zxp : Zbt Tryz.prog 29 = some (.slice none 0 0) := by kernel_rfl
theorem Zxq : ZdE Tryz.prog 48 = some 32 := by kernel_rfl
theorem ZAh : ZdE Tryz.prog 29 = some 24 := by kernel_rfl
theorem ZyY : Zhw Tryz.prog 8 48 = some [.s, .s] := by kernel_rfl
theorem ZyZ : Program.eqGuardType Tryz.prog (Program.depth Tryz.prog) 48 = false := by kernel_rfl
def mks (mk : Nat -> Nat -> List AV) (k i : Nat) : List AV := (List.range i).flatMap (mk k)
section
variable {mk : Nat -> Nat -> List AV}
theorem Znw (k i : Nat) : mks mk k (i + 1) = mks mk k i ++ mk k i := by simp [mks, List.range_succ]
theorem Zon (hl : ∀ k i, (mk k i).length = 2) (k i : Nat) : (mks mk k i).length = i * 2 := by
 induction i with
 | zero => rfl
 | succ i ih => rw [Znw, List.length_append, ih, hl, Nat.succ_mul]
theorem ZBa (k i j : Nat) (h : j < i) : ∃ r, mks mk k i = mks mk k j ++ (mk k j ++ r) := by
 induction i with
 | zero => omega
 | succ i ih =>
  rw [Znw]
  rcases Nat.lt_or_ge j i with h1 | h1
  ·obtain ⟨r, hr⟩ := ih h1
   exact ⟨r ++ mk k i, by rw [hr]; simp⟩
  ·obtain rfl : j = i := by omega
   exact ⟨[], by simp⟩
theorem ZuS (hl : ∀ k i, (mk k i).length = 2) (k i j : Nat) (z : List AV) (h : j < i) : ((mks mk k i ++ z).drop (j * 2)).take 2 = mk k j := by
 obtain ⟨r, hr⟩ := ZBa (mk := mk) k i j h
 rw [hr, List.append_assoc, List.drop_append, Zon hl, Nat.sub_self, List.drop_eq_nil_of_le (by rw [Zon hl]; exact Nat.le_refl _), List.nil_append, List.drop_zero, List.append_assoc, <- hl k j, List.take_left]
theorem ZBb (hl : ∀ k i, (mk k i).length = 2) (k i : Nat) (r : List AV) : ∃ r', ZaH (mks mk k i ++ r) (i * 2) (mk k i) = mks mk k (i + 1) ++ r' := by
 refine ⟨(mks mk k i ++ r).drop (i * 2 + (mk k i).length), ?_⟩
 unfold ZaH
 rw [Znw, List.take_append_of_le_length (by rw [Zon hl]; exact Nat.le_refl _), List.take_of_length_le (by rw [Zon hl]; exact Nat.le_refl _)]
end
def FA (hs : List AV) (nn : Nat -> Nat) (σ : St) (X : Nat -> List AV) : Prop := ∀ (j : Nat) (v : AV), hs[j]? = some v -> Hd σ 48 2 v (nn j) (X j)
def FS (hs : List AV) (b : Nat) : Prop := ∃ (j : Nat) (v : AV), hs[j]? = some v /\ hbk v = some b
def ZBc (hs : List AV) (k : Nat) (g : AV) : Prop := ∀ (i : Nat) (v : AV) (b : Nat), i ≠ k -> hs[i]? = some v -> hbk v = some b -> hbk g ≠ some b
section
variable {hs : List AV} {nn : Nat -> Nat} {σ τ : St} {X : Nat -> List AV} {mk : Nat -> Nat -> List AV} {k : Nat} {v g : AV} {cs : List AV}
theorem FA.ext (h : FA hs nn σ X) (k : Ext σ τ) : FA hs nn τ X := fun j v hv => (h j v hv).ext k
theorem FA.but {S : Nat -> Prop} (h : FA hs nn σ X) (k : But S σ τ) (hS : ∀ (j : Nat) (v : AV) (b : Nat), hs[j]? = some v -> hbk v = some b -> ¬ S b) : FA hs nn τ X := fun j v hv => (h j v hv).but k fun b hb => hS j v b hv hb
theorem FA.put (h : FA hs nn σ X) (hk : hs[k]? = some v) (hf : ZBc hs k v) (hb : But (fun c => hbk v = some c) σ τ) (hH : Hd τ 48 2 v (nn k) cs) : FA hs nn τ (fun j => if j = k then cs else X j) := fun j u hu => by
 by_cases e : j = k
 ·subst e
  rw [hk] at hu
  injection hu with hu
  subst hu
  show Hd τ _ _ _ _ (if j = j then cs else X j)
  rw [if_pos rfl]
  exact hH
 ·show Hd τ _ _ _ _ (if j = k then cs else X j)
  rw [if_neg e]
  exact (h j u hu).but hb fun b hb2 => hf j u b e hu hb2
structure FG (hs : List AV) (nn : Nat -> Nat) (mk : Nat -> Nat -> List AV) (all : Bool) (σ : St) (gc : List AV) (j : Nat) (g : AV) : Prop where
 at_ : gc[j]? = some g
 hd : ∃ r, Hd σ 48 2 g (nn j + 64) (mks mk j (if all then nn j + 64 else nn j) ++ r)
 far : ZBc hs j g
theorem FG.but {S : Nat -> Prop} {all : Bool} {gc : List AV} {j : Nat} (h : FG hs nn mk all σ gc j g) (k : But S σ τ) (hS : ∀ b, hbk g = some b -> ¬ S b) : FG hs nn mk all τ gc j g := ⟨h.at_, h.hd.imp fun r h => h.but k hS, h.far⟩
theorem FG.ext {all : Bool} {gc : List AV} {j : Nat} (h : FG hs nn mk all σ gc j g) (k : Ext σ τ) : FG hs nn mk all τ gc j g := h.but (S := fun _ => False) k.but fun _ _ => id
theorem ZpL (gc : List AV) (k : Nat) (g : AV) (hk : k < gc.length) (j : Nat) : (ZaH gc (k * 1) [g])[j]? = if j = k then some g else gc[j]? := by
 unfold ZaH
 rw [Nat.mul_one, List.append_assoc, List.getElem?_append, List.length_take, Nat.min_eq_left (by omega)]
 split
 ·rename_i h
  rw [if_neg (by omega), List.getElem?_take_of_lt h]
 ·rename_i h
  by_cases e : j = k
  ·subst e
   rw [if_pos rfl, Nat.sub_self]; rfl
  ·rw [if_neg e]
   have : j - k = (j - k - 1) + 1 := by omega
   rw [this]
   show (gc.drop (k + [g].length))[j - k - 1]? = _
   rw [List.getElem?_drop]
   congr 1
   show k + 1 + (j - k - 1) = j
   omega
theorem ZBd {ad : Addr} {sz m c : Nat} {cells : List AV} (hl : cells.length = m * sz) (h1 : ∀ a ∈ cells, a.one = true) : Src σ sz (.lst (some ad) m c cells) m cells := by
 refine ⟨hl, h1, ⟨some ad, c, rfl, fun h => by cases h⟩, fun w Z hH hV => ?_⟩
 unfold Zag at hV
 have hv := hV.2.2 ad rfl
 refine ⟨fun a ha => ?_, fun ad' c' hy j u hu => ?_⟩
 ·obtain ⟨i, hi, rfl⟩ := List.getElem_of_mem ha
  exact (hv.get (List.getElem?_eq_getElem hi)).2.2
 ·rw [AV.val_lst] at hy
  injection hy with q1 _ _
  injection q1 with q1
  subst q1
  rw [List.getElem?_map] at hu
  cases hd : cells[j]? with
  | none => rw [hd] at hu; cases hu
  | some d =>
   rw [hd] at hu
   injection hu with hu
   subst hu
   have := (hv.get hd).1
   rwa [Nat.zero_add] at this
theorem ZBe {l : List AV} (hl : l.length = 2) : Zfg (fun i => some (i * 2, 2)) ((List.range (1 * 2)).map fun i => AV.ofV ((.agg #[.string ⟨#[]⟩, .string ⟨#[]⟩] : Value).cells[i % 2]!)) ([0].zip [AV.agg l]) = some l := by
 show (if (!ZfD (.agg l) || (AV.agg l).cells.length ≠ 2 || 0 * 2 + (AV.agg l).cells.length > _) then none else some (ZaH _ (0 * 2) l)) = some l
 rw [if_neg (by simp [hl]), Nat.zero_mul]
 unfold ZaH
 rw [List.take_zero, List.nil_append, List.drop_eq_nil_of_le (by simp [hl]), List.append_nil]
end
set_option maxHeartbeats 4000000 in
theorem ZBf {hs r0 : List AV} {nn : Nat -> Nat} {mk : Nat -> Nat -> List AV} {A : Option Addr} {c : Nat} {σ : St} {X0 : Nat -> List AV}
 (hmk : ∀ (k i : Nat) (σ : St) (K : AV -> St -> Prop), (∀ τ, Ext σ τ -> K (.agg (mk k i)) τ) -> ZaC Tryz.prog 52 [vI k, vI i] σ K)
 (hl : ∀ k i, (mk k i).length = 2) (h1 : ∀ k i, ∀ a ∈ mk k i, a.one = true) (hfit : ∀ k i, ZnO [.s, .s] ((mk k i).map AV.val))
 (hm : hs.length <= 1000) (hA : A = none -> hs.length = 0) (hn : ∀ j, nn j <= 1000000) (h0 : FA hs nn σ X0) (hfar : ∀ (k : Nat) (v : AV), hs[k]? = some v -> ZBc hs k v) :
 ZaC Tryz.prog 69 [.lst A hs.length c (hs ++ r0)] σ fun r τ => r = vT true /\ But (FS hs) σ τ := by
 have hone : ∀ k i, ZfD (AV.agg (mk k i)) = true /\ (AV.agg (mk k i)).cells.length = 2 /\ ∀ a ∈ (AV.agg (mk k i)).cells, a.one = true := fun k i => ⟨rfl, hl k i, h1 k i⟩
 have hget : ∀ k, k < hs.length -> ∃ v, hs[k]? = some v := fun k hk => ⟨hs[k], List.getElem?_eq_getElem hk⟩
 refine ZaR Zbv Tryz.func69 rfl rfl rfl (Nat.le_of_ble_eq_true rfl) ?_
 refine Zym 0 (v0 := .lst A hs.length c (hs ++ r0)) rfl ?_
 intro e he
 refine Zah ?_
 refine Zaa (Zbu rfl (by simp only [EV, Nat.reduceEqDiff, ↓reduceIte, he] <;> try rfl) ?_)
 refine ZaD ?_
 refine Zcb ?_
 refine Zah ?_
 refine Zaa (Zbu rfl (by simp only [EV, Nat.reduceEqDiff, ↓reduceIte, he] <;> try rfl) ?_)
 refine ZaD ?_
 refine ZlE (fun env υ => env 0 = .lst A hs.length c (hs ++ r0) /\ But (FS hs) σ υ /\ FA hs nn υ (fun j => mks mk j (nn j))) ?_ ?_
 ·apply ZB1 0 3
  ·simp only [EV, Nat.reduceEqDiff, ↓reduceIte, he] <;> try rfl
  ·simp only [EV, Nat.reduceEqDiff, ↓reduceIte, he] <;> try rfl
  intro e he
  refine Ze1 ?_
  refine Zgk (fun μ env υ => ∃ (k : Nat) (X : Nat -> List AV), μ = hs.length - k /\ k <= hs.length /\ (env 0 = .lst A hs.length c (hs ++ r0) /\ env 3 = vI k) /\ But (FS hs) σ υ /\ FA hs nn υ X /\ ∀ j, j < k -> X j = mks mk j (nn j)) ⟨_, 0, X0, rfl, Nat.zero_le _, he, But.refl _ _, h0, fun j hj => absurd hj (Nat.not_lt_zero _)⟩ ?_
  clear he e
  rintro _ e υ ⟨k, X, rfl, hk, he, hB, hF, hX⟩
  refine Zcb ?_
  refine Zah ?_
  refine Zaa (Zbu rfl (by simp only [EV, Nat.reduceEqDiff, ↓reduceIte, he] <;> try rfl) ?_)
  refine Zaa (Zbu rfl (by simp only [EV, Nat.reduceEqDiff, ↓reduceIte, he] <;> try rfl) ?_)
  refine Zaa ?_
  apply ZkT (hts := rfl) (ht := ZdO)
  ·simp only [EV, Nat.reduceEqDiff, ↓reduceIte, he] <;> try rfl
  ·exact AV.val_lst _ _ _ _
  refine Zaa ?_
  refine Zia k hs.length (by simp only [EV, Nat.reduceEqDiff, ↓reduceIte, he] <;> try rfl) (by simp only [EV, Nat.reduceEqDiff, ↓reduceIte, he] <;> try rfl) ?_
  refine ZaD ?_
  apply Zta 0 3 19
  ·simp only [EV, Nat.reduceEqDiff, ↓reduceIte, he] <;> try rfl
  ·simp only [EV, Nat.reduceEqDiff, ↓reduceIte, he] <;> try rfl
  ·simp only [EV, Nat.reduceEqDiff, ↓reduceIte, he] <;> try rfl
  clear he e
  intro e he
  refine ZgQ (t := decide (k < hs.length)) (by simp only [EV, Nat.reduceEqDiff, ↓reduceIte, he] <;> try rfl) (fun ht => ?_) (fun ht => ?_)
  ·have hlt : k < hs.length := of_decide_eq_true ht
   obtain ⟨v, hv⟩ := hget k hlt
   refine Zhv ?_
   refine ZgR ?_
   refine Zah ?_
   refine Zaa (Zbu rfl (by simp only [EV, Nat.reduceEqDiff, ↓reduceIte, he] <;> try rfl) ?_)
   refine ZaD ?_
   apply Zta 0 3 4
   ·simp only [EV, Nat.reduceEqDiff, ↓reduceIte, he] <;> try rfl
   ·simp only [EV, Nat.reduceEqDiff, ↓reduceIte, he] <;> try rfl
   ·simp only [EV, Nat.reduceEqDiff, ↓reduceIte, he] <;> try rfl
   clear he e
   intro e he
   refine ZyV (fun env υ => (env 0 = .lst A hs.length c (hs ++ r0) /\ env 3 = vI k) /\ But (FS hs) σ υ /\ ∃ X : Nat -> List AV, FA hs nn υ X /\ ∀ j, j < k + 1 -> X j = mks mk j (nn j)) ?_ ?_
   ·refine Ze1 ?_
    refine Zgk (fun μ env υ => ∃ (i : Nat) (X : Nat -> List AV), μ = nn k - i /\ i <= nn k /\ (env 0 = .lst A hs.length c (hs ++ r0) /\ env 3 = vI k /\ env 4 = vI i) /\ But (FS hs) σ υ /\ FA hs nn υ X /\ (∀ j, j < k -> X j = mks mk j (nn j)) /\ ∃ r, X k = mks mk k i ++ r) ⟨_, 0, X, rfl, Nat.zero_le _, he, hB, hF, hX, X k, rfl⟩ ?_
    clear he e hB hF hX X υ
    rintro _ e υ ⟨i, X, rfl, hi, he, hB, hF, hX, r, hr⟩
    have hnk := hn k
    have hH := hF k v hv
    refine Zcb ?_
    refine Zah ?_
    refine Zaa (Zbu rfl (by simp only [EV, Nat.reduceEqDiff, ↓reduceIte, he] <;> try rfl) ?_)
    refine Zaa (Zbu rfl (by simp only [EV, Nat.reduceEqDiff, ↓reduceIte, he] <;> try rfl) ?_)
    refine Zaa (Zbu rfl (by simp only [EV, Nat.reduceEqDiff, ↓reduceIte, he] <;> try rfl) ?_)
    refine Zaa ?_
    refine ZoZ (by simp only [EV, Nat.reduceEqDiff, ↓reduceIte, he] <;> try rfl) (by simp only [EV, Nat.reduceEqDiff, ↓reduceIte, he] <;> try rfl) hA ZdO Zcw hlt fun ad => ?_
    refine Zaa ?_
    refine Zo0 (by simp only [EV, Nat.reduceEqDiff, ↓reduceIte, he] <;> try rfl) hv Zib Zcw ?_
    refine Zaa ?_
    refine ZrL (by simp only [EV, Nat.reduceEqDiff, ↓reduceIte, he] <;> try rfl) hH rfl ZgY ?_
    refine Zaa ?_
    refine Zia i (nn k) (by simp only [EV, Nat.reduceEqDiff, ↓reduceIte, he] <;> try rfl) (by simp only [EV, Nat.reduceEqDiff, ↓reduceIte, he] <;> try rfl) ?_
    refine ZaD ?_
    apply Zre 0 3 4 28
    ·simp only [EV, Nat.reduceEqDiff, ↓reduceIte, he] <;> try rfl
    ·simp only [EV, Nat.reduceEqDiff, ↓reduceIte, he] <;> try rfl
    ·simp only [EV, Nat.reduceEqDiff, ↓reduceIte, he] <;> try rfl
    ·simp only [EV, Nat.reduceEqDiff, ↓reduceIte, he] <;> try rfl
    clear he e
    intro e he
    refine ZgQ (t := decide (i < nn k)) (by simp only [EV, Nat.reduceEqDiff, ↓reduceIte, he] <;> try rfl) (fun ht => ?_) (fun ht => ?_)
    ·have hin : i < nn k := of_decide_eq_true ht
     refine Zhv ?_
     refine ZgR ?_
     refine Zyj ?_
     refine ⟨[0, 1, 2, 4, 5, 6, 3, 7, 8, 9], [[], [], [0, 1], [0, 1, 2], [], [], [], [5, 6], [0, 1, 2, 3, 4, 5, 6, 7], [0, 1, 2, 3, 4, 5, 6, 7, 8]], fun _ => True, [3], [7], [], by kernel_rfl, ?_⟩
     apply Zbc
     case hi => simp only [HIX]; try rfl
     case hw => rfl
     case how => rfl
     refine Zbu rfl (by simp only [EV, Nat.reduceEqDiff, ↓reduceIte, he] <;> try rfl) ?_
     refine Zex ?_
     apply Zbc
     case hi => simp only [HIX]; try rfl
     case hw => rfl
     case how => rfl
     refine Zbu rfl (by simp only [EV, Nat.reduceEqDiff, ↓reduceIte, he] <;> try rfl) ?_
     refine Zex ?_
     apply Zbc
     case hi => simp only [HIX]; try rfl
     case hw => rfl
     case how => rfl
     refine ZoZ (by simp only [EV, Nat.reduceEqDiff, ↓reduceIte, he] <;> try rfl) (by simp only [EV, Nat.reduceEqDiff, ↓reduceIte, he] <;> try rfl) hA ZdO Zcw hlt fun ad => ?_
     refine Zex ?_
     apply Zbc
     case hi => simp only [HIX]; try rfl
     case hw => rfl
     case how => rfl
     refine Zbu rfl (by simp only [EV, Nat.reduceEqDiff, ↓reduceIte, he] <;> try rfl) ?_
     refine Zex ?_
     apply Zbc
     case hi => simp only [HIX]; try rfl
     case hw => rfl
     case how => rfl
     refine Zbu rfl (by simp only [EV, Nat.reduceEqDiff, ↓reduceIte, he] <;> try rfl) ?_
     refine Zex ?_
     apply Zbc
     case hi => simp only [HIX]; try rfl
     case hw => rfl
     case how => rfl
     refine Zbu rfl (by simp only [EV, Nat.reduceEqDiff, ↓reduceIte, he] <;> try rfl) ?_
     refine Zex ?_
     apply Zbc
     case hi => simp only [HIX]; try rfl
     case hw => rfl
     case how => rfl
     refine Zo0 (by simp only [EV, Nat.reduceEqDiff, ↓reduceIte, he] <;> try rfl) hv Zib Zcw ?_
     refine Zex ?_
     apply Zbc
     case hi => simp only [HIX]; try rfl
     case hw => rfl
     case how => rfl
     refine ZcZ (vs := [vI k, vI i]) (by simp only [List.map_cons, List.map_nil, EV, Nat.reduceEqDiff, ↓reduceIte, he]) ?_
     refine hmk k i _ _ fun τ hτ => ⟨fun _ => hτ, ?_⟩
     apply Zbc
     case hi => simp only [HIX]; try rfl
     case hw => rfl
     case how => rfl
     refine Zfl (k := .i64) (j := i) (by simp only [EV, Nat.reduceEqDiff, ↓reduceIte, he] <;> try rfl) (by simp only [EV, Nat.reduceEqDiff, ↓reduceIte, he] <;> try rfl) ZgY Zgv (hH.ext hτ) hin fun b hb => ?_
     refine Zex ?_
     apply Zbc
     case hi => simp only [HIX]; try rfl
     case hw => rfl
     case how => rfl
     refine Znv (r := .agg (mk k i)) (by simp only [EV, Nat.reduceEqDiff, ↓reduceIte, he] <;> try rfl) (by simp only [EV, Nat.reduceEqDiff, ↓reduceIte, he] <;> try rfl) Zgv (hH.ext hτ) hb hin (hone k i) fun τ2 hH2 hB2 => ⟨(fun h => absurd h Bool.false_ne_true), ?_⟩
     refine ZyW ?_
     show ZaY _ _ _ _ _ _
     obtain ⟨r', hr'⟩ := ZBb hl k i r
     have hH3 : Hd τ2 48 2 v (nn k) (mks mk k (i + 1) ++ r') := by
      rw [<- hr', <- hr]
      exact hH2
     have hF2 := (hF.ext hτ).put hv (hfar k v hv) hB2 hH3
     have hB3 : But (FS hs) σ τ2 := (hB.trans hτ.but).trans (hB2.sub fun b hb => ⟨k, v, hv, hb⟩)
     refine Zb7 ?_
     refine Zaa (Zbu rfl (by simp only [EV, Nat.reduceEqDiff, ↓reduceIte, he] <;> try rfl) ?_)
     refine Zaa ?_
     refine ZhA i 1 (by simp only [EV, Nat.reduceEqDiff, ↓reduceIte, he] <;> try rfl) (by simp only [EV, Nat.reduceEqDiff, ↓reduceIte, he] <;> try rfl) (by omega) ?_
     refine Zaa (Zbu rfl (by simp only [EV, Nat.reduceEqDiff, ↓reduceIte, he] <;> try rfl) ?_)
     refine ZaD ?_
     show ∃ n', n' < _ /\ _
     refine ⟨_, (by omega : nn k - (i + 1) < nn k - i), i + 1, _, rfl, hin, ⟨by simp only [EV, Nat.reduceEqDiff, ↓reduceIte, he] <;> try rfl, by simp only [EV, Nat.reduceEqDiff, ↓reduceIte, he] <;> try rfl, by simp only [EV, Nat.reduceEqDiff, ↓reduceIte, he] <;> try rfl⟩, hB3, hF2, fun j hj => ?_, r', ?_⟩
     ·show (if j = k then _ else X j) = _
      rw [if_neg (by omega)]
      exact hX j hj
     ·show (if k = k then _ else X k) = _
      rw [if_pos rfl]
    ·have hin : i = nn k := by have := of_decide_eq_false ht; omega
     refine Zjq ?_
     refine ⟨rfl, ⟨by simp only [EV, Nat.reduceEqDiff, ↓reduceIte, he] <;> try rfl, by simp only [EV, Nat.reduceEqDiff, ↓reduceIte, he] <;> try rfl⟩, hB, X, hF, fun j hj => ?_⟩
     rcases Nat.lt_or_ge j k with h | h
     ·exact hX j h
     ·obtain rfl : j = k := by omega
      have hlen := hH.len
      rw [hr, hin]
      have hr0 : r = [] := by
       rw [hr, List.length_append, Zon hl, hin] at hlen
       exact List.eq_nil_of_length_eq_zero (by omega)
      rw [hr0, List.append_nil]
   ·clear he e hB hF hX X υ
    rintro e υ ⟨he, hB, X, hF, hX⟩
    show ZaY _ _ _ _ _ _
    refine Zb7 ?_
    refine Zaa (Zbu rfl (by simp only [EV, Nat.reduceEqDiff, ↓reduceIte, he] <;> try rfl) ?_)
    refine Zaa ?_
    refine ZhA k 1 (by simp only [EV, Nat.reduceEqDiff, ↓reduceIte, he] <;> try rfl) (by simp only [EV, Nat.reduceEqDiff, ↓reduceIte, he] <;> try rfl) (by omega) ?_
    refine Zaa (Zbu rfl (by simp only [EV, Nat.reduceEqDiff, ↓reduceIte, he] <;> try rfl) ?_)
    refine ZaD ?_
    show ∃ n', n' < _ /\ _
    exact ⟨_, (by omega : hs.length - (k + 1) < hs.length - k), k + 1, X, rfl, hlt, ⟨by simp only [EV, Nat.reduceEqDiff, ↓reduceIte, he] <;> try rfl, by simp only [EV, Nat.reduceEqDiff, ↓reduceIte, he] <;> try rfl⟩, hB, hF, hX⟩
  ·have hke : k = hs.length := by have := of_decide_eq_false ht; omega
   refine Zjq ?_
   refine ⟨rfl, by simp only [EV, Nat.reduceEqDiff, ↓reduceIte, he] <;> try rfl, hB, fun j v hv => ?_⟩
   have := hF j v hv
   rw [hX j (by rw [hke]; exact Zav hv)] at this
   exact this
 clear he e
 rintro e υ ⟨he, hB, hF⟩
 have hSu : ∀ b, FS hs b -> σ.used b := fun b ⟨j, v, hv, hb⟩ => (h0 j v hv).used hb
 refine Zah ?_
 refine Zaa (Zbu rfl (by simp only [EV, Nat.reduceEqDiff, ↓reduceIte, he] <;> try rfl) ?_)
 refine Zaa ?_
 apply ZkT (hts := rfl) (ht := ZdO)
 ·simp only [EV, Nat.reduceEqDiff, ↓reduceIte, he] <;> try rfl
 ·exact AV.val_lst _ _ _ _
 refine Zaa ?_
 refine ZtB (l := hs.length) (by simp only [EV, Nat.reduceEqDiff, ↓reduceIte, he] <;> try rfl) (by simp only [EV, Nat.reduceEqDiff, ↓reduceIte, he] <;> try rfl) ZdO Zcw Zxp ZAh rfl (by omega) (fun i hi => by
  have : i = 0 := by omega
  subst this
  rfl) (by omega) (by omega) fun gb gq τ gc0 hG hXt hgn hgu => ?_
 have hgb := hB.noneOfB hSu hgu hgn
 have hF1 := hF.ext hXt
 have hB1 := hB.trans hXt.but
 clear hF hB hXt hgn hgu
 refine Zaa (Zbu rfl (by simp only [EV, Nat.reduceEqDiff, ↓reduceIte, he] <;> try rfl) ?_)
 refine ZaD ?_
 refine Zcb ?_
 refine Zah ?_
 refine Zaa (Zbu rfl (by simp only [EV, Nat.reduceEqDiff, ↓reduceIte, he] <;> try rfl) ?_)
 refine ZaD ?_
 have hgs : ∀ c, hbk (hdr gb hs.length gq) = some c -> FS hs c \/ σ.blk c = none := fun c hc => by
  have hc := ZmQ hc
  subst hc
  exact .inr hgb
 refine ZlE (fun env υ => (env 0 = .lst A hs.length c (hs ++ r0) /\ env 5 = hdr gb hs.length gq) /\ But (FS hs) σ υ /\ FA hs nn υ (fun j => mks mk j (nn j)) /\ ∃ gc, Hd υ 29 1 (hdr gb hs.length gq) hs.length gc /\ ∀ j, j < hs.length -> ∃ g, FG hs nn mk true υ gc j g) ?_ ?_
 ·apply Zta 0 5 6
  ·simp only [EV, Nat.reduceEqDiff, ↓reduceIte, he] <;> try rfl
  ·simp only [EV, Nat.reduceEqDiff, ↓reduceIte, he] <;> try rfl
  ·simp only [EV, Nat.reduceEqDiff, ↓reduceIte, he] <;> try rfl
  clear he e
  intro e he
  refine Ze1 ?_
  refine Zgk (fun μ env υ => ∃ (k : Nat) (gc : List AV), μ = hs.length - k /\ k <= hs.length /\ (env 0 = .lst A hs.length c (hs ++ r0) /\ env 5 = hdr gb hs.length gq /\ env 6 = vI k) /\ But (FS hs) σ υ /\ FA hs nn υ (fun j => mks mk j (nn j)) /\ Hd υ 29 1 (hdr gb hs.length gq) hs.length gc /\ ∀ j, j < k -> ∃ g, FG hs nn mk true υ gc j g) ⟨_, 0, gc0, rfl, Nat.zero_le _, he, hB1, hF1, hG, fun j hj => absurd hj (Nat.not_lt_zero _)⟩ ?_
  clear he e hB1 hF1 hG gc0 τ υ
  rintro _ e υ ⟨k, gc, rfl, hk, he, hB, hF, hG, hC⟩
  refine Zcb ?_
  refine Zah ?_
  refine Zaa (Zbu rfl (by simp only [EV, Nat.reduceEqDiff, ↓reduceIte, he] <;> try rfl) ?_)
  refine Zaa (Zbu rfl (by simp only [EV, Nat.reduceEqDiff, ↓reduceIte, he] <;> try rfl) ?_)
  refine Zaa ?_
  apply ZkT (hts := rfl) (ht := ZdO)
  ·simp only [EV, Nat.reduceEqDiff, ↓reduceIte, he] <;> try rfl
  ·exact AV.val_lst _ _ _ _
  refine Zaa ?_
  refine Zia k hs.length (by simp only [EV, Nat.reduceEqDiff, ↓reduceIte, he] <;> try rfl) (by simp only [EV, Nat.reduceEqDiff, ↓reduceIte, he] <;> try rfl) ?_
  refine ZaD ?_
  apply Zre 0 5 6 46
  ·simp only [EV, Nat.reduceEqDiff, ↓reduceIte, he] <;> try rfl
  ·simp only [EV, Nat.reduceEqDiff, ↓reduceIte, he] <;> try rfl
  ·simp only [EV, Nat.reduceEqDiff, ↓reduceIte, he] <;> try rfl
  ·simp only [EV, Nat.reduceEqDiff, ↓reduceIte, he] <;> try rfl
  clear he e
  intro e he
  refine ZgQ (t := decide (k < hs.length)) (by simp only [EV, Nat.reduceEqDiff, ↓reduceIte, he] <;> try rfl) (fun ht => ?_) (fun ht => ?_)
  ·have hlt : k < hs.length := of_decide_eq_true ht
   obtain ⟨v, hv⟩ := hget k hlt
   refine Zhv ?_
   refine ZgR ?_
   refine Zah ?_
   refine Zaa (Zbu rfl (by simp only [EV, Nat.reduceEqDiff, ↓reduceIte, he] <;> try rfl) ?_)
   refine Zaa (Zbu rfl (by simp only [EV, Nat.reduceEqDiff, ↓reduceIte, he] <;> try rfl) ?_)
   refine Zaa ?_
   refine ZoZ (by simp only [EV, Nat.reduceEqDiff, ↓reduceIte, he] <;> try rfl) (by simp only [EV, Nat.reduceEqDiff, ↓reduceIte, he] <;> try rfl) hA ZdO Zcw hlt fun ad => ?_
   refine Zaa ?_
   refine Zo0 (by simp only [EV, Nat.reduceEqDiff, ↓reduceIte, he] <;> try rfl) hv Zib Zcw ?_
   refine Zaa (Zbu rfl (by simp only [EV, Nat.reduceEqDiff, ↓reduceIte, he] <;> try rfl) ?_)
   refine ZaD ?_
   refine Zcb ?_
   refine Zah ?_
   refine Zaa (Zbu rfl (by simp only [EV, Nat.reduceEqDiff, ↓reduceIte, he] <;> try rfl) ?_)
   refine ZaD ?_
   apply Ztb 0 5 6 7 8
   ·simp only [EV, Nat.reduceEqDiff, ↓reduceIte, he] <;> try rfl
   ·simp only [EV, Nat.reduceEqDiff, ↓reduceIte, he] <;> try rfl
   ·simp only [EV, Nat.reduceEqDiff, ↓reduceIte, he] <;> try rfl
   ·simp only [EV, Nat.reduceEqDiff, ↓reduceIte, he] <;> try rfl
   ·simp only [EV, Nat.reduceEqDiff, ↓reduceIte, he] <;> try rfl
   clear he e
   intro e he
   refine ZlE (fun env υ => ∃ g, (env 0 = .lst A hs.length c (hs ++ r0) /\ env 5 = hdr gb hs.length gq /\ env 6 = vI k /\ env 7 = g) /\ But (FS hs) σ υ /\ FA hs nn υ (fun j => mks mk j (nn j)) /\ Hd υ 29 1 (hdr gb hs.length gq) hs.length gc /\ (∀ j, j < k -> ∃ g, FG hs nn mk true υ gc j g) /\ Hd υ 48 2 g (nn k + 64) (mks mk k (nn k + 64)) /\ ZBc hs k g) ?_ ?_
   ·refine Ze1 ?_
    refine Zgk (fun μ env υ => ∃ (i : Nat) (g : AV), μ = 64 - i /\ i <= 64 /\ (env 0 = .lst A hs.length c (hs ++ r0) /\ env 5 = hdr gb hs.length gq /\ env 6 = vI k /\ env 7 = g /\ env 8 = vI i) /\ But (FS hs) σ υ /\ FA hs nn υ (fun j => mks mk j (nn j)) /\ Hd υ 29 1 (hdr gb hs.length gq) hs.length gc /\ (∀ j, j < k -> ∃ g, FG hs nn mk true υ gc j g) /\ Hd υ 48 2 g (nn k + i) (mks mk k (nn k + i)) /\ ZBc hs k g /\ (∀ j g', j < k -> gc[j]? = some g' -> ∀ b, hbk g = some b -> hbk g' ≠ some b) /\ ∀ b, hbk g = some b -> FS hs b \/ σ.blk b = none) ⟨_, 0, v, rfl, Nat.zero_le _, he, hB, hF, hG, hC, hF k v hv, hfar k v hv, fun j g' hj hg' b hb => ?_, fun b hb => .inl ⟨k, v, hv, hb⟩⟩ ?_
    ·obtain ⟨g2, hg2⟩ := hC j hj
     have := hg2.at_
     rw [hg'] at this
     injection this with this
     subst this
     exact hg2.far k v b (by omega) hv hb
    clear he e hB hF hG hC υ
    rintro _ e υ ⟨i, g, rfl, hi, he, hB, hF, hG, hC, hg, hgf, hgg, hgS⟩
    have hH := hF k v hv
    refine Zcb ?_
    refine Zah ?_
    refine Zaa (Zbu rfl (by simp only [EV, Nat.reduceEqDiff, ↓reduceIte, he] <;> try rfl) ?_)
    refine Zaa ?_
    refine Zia i 64 (by simp only [EV, Nat.reduceEqDiff, ↓reduceIte, he] <;> try rfl) (by simp only [EV, Nat.reduceEqDiff, ↓reduceIte, he] <;> try rfl) ?_
    refine ZaD ?_
    apply ZB2 0 5 6 7 8 54
    ·simp only [EV, Nat.reduceEqDiff, ↓reduceIte, he] <;> try rfl
    ·simp only [EV, Nat.reduceEqDiff, ↓reduceIte, he] <;> try rfl
    ·simp only [EV, Nat.reduceEqDiff, ↓reduceIte, he] <;> try rfl
    ·simp only [EV, Nat.reduceEqDiff, ↓reduceIte, he] <;> try rfl
    ·simp only [EV, Nat.reduceEqDiff, ↓reduceIte, he] <;> try rfl
    ·simp only [EV, Nat.reduceEqDiff, ↓reduceIte, he] <;> try rfl
    clear he e
    intro e he
    refine ZgQ (t := decide (i < 64)) (by simp only [EV, Nat.reduceEqDiff, ↓reduceIte, he] <;> try rfl) (fun ht => ?_) (fun ht => ?_)
    ·have hin : i < 64 := of_decide_eq_true ht
     have hnk := hn k
     refine Zhv ?_
     refine ZgR ?_
     refine Zb7 ?_
     refine Zaa (Zbu rfl (by simp only [EV, Nat.reduceEqDiff, ↓reduceIte, he] <;> try rfl) ?_)
     refine Zaa (Zbu rfl (by simp only [EV, Nat.reduceEqDiff, ↓reduceIte, he] <;> try rfl) ?_)
     refine Zaa (Zbu rfl (by simp only [EV, Nat.reduceEqDiff, ↓reduceIte, he] <;> try rfl) ?_)
     refine Zaa (Zbu rfl (by simp only [EV, Nat.reduceEqDiff, ↓reduceIte, he] <;> try rfl) ?_)
     refine Zaa ?_
     refine ZoZ (by simp only [EV, Nat.reduceEqDiff, ↓reduceIte, he] <;> try rfl) (by simp only [EV, Nat.reduceEqDiff, ↓reduceIte, he] <;> try rfl) hA ZdO Zcw hlt fun ad => ?_
     refine Zaa ?_
     refine Zo0 (by simp only [EV, Nat.reduceEqDiff, ↓reduceIte, he] <;> try rfl) hv Zib Zcw ?_
     refine Zaa ?_
     refine ZrL (by simp only [EV, Nat.reduceEqDiff, ↓reduceIte, he] <;> try rfl) hH rfl ZgY ?_
     refine Zaa (Zbu rfl (by simp only [EV, Nat.reduceEqDiff, ↓reduceIte, he] <;> try rfl) ?_)
     refine Zaa ?_
     refine ZhA (nn k) i (by simp only [EV, Nat.reduceEqDiff, ↓reduceIte, he] <;> try rfl) (by simp only [EV, Nat.reduceEqDiff, ↓reduceIte, he] <;> try rfl) (by omega) ?_
     refine Zaa ?_
     refine ZcZ (vs := [vI k, vI ((nn k + i : Nat) : Int)]) (by simp only [List.map_cons, List.map_nil, EV, Nat.reduceEqDiff, ↓reduceIte, he]) ?_
     refine hmk k (nn k + i) _ _ fun τ hτ => ?_
     refine Zaa ?_
     refine ZB5 (vs := [.agg (mk k (nn k + i))]) (by simp only [List.map_cons, List.map_nil, EV, Nat.reduceEqDiff, ↓reduceIte, he]) ZgY Zgv ZuR rfl (by omega) (ZBe (hl k (nn k + i))) (by rw [hl]) fun rb τ2 hN hτ2 => ?_
     have hX2 := hτ.trans hτ2
     have hF2 := hF.ext hX2
     have hg2 := hg.ext hX2
     refine Zaa ?_
     refine ZrK (by simp only [EV, Nat.reduceEqDiff, ↓reduceIte, he] <;> try rfl) (by simp only [EV, Nat.reduceEqDiff, ↓reduceIte, he] <;> try rfl) ZgY Zgv ZuR Zxq rfl (by omega) hg2 (ZBd (m := 1) (by rw [hl]) (h1 k (nn k + i))) (by omega) (by simp only [maxLen]; omega) (by omega) fun g' τ3 hg3 hkp hbt hnw => ?_
     have hG3 : Hd τ3 29 1 (hdr gb hs.length gq) hs.length gc := (hG.ext hX2).but hbt fun b hb hb2 => hg2.ne (hG.ext hX2) (by decide) hb2 hb
     have hB3 : But (FS hs) σ τ3 := (hB.trans hX2.but).ext2 hgS hbt
     have hF3 : FA hs nn τ3 (fun j => mks mk j (nn j)) := fun j u hu => hkp u _ _ (hF2 j u hu) fun b hb hub => by
      by_cases e : j = k
      ·subst e; omega
      ·exact absurd hb (hgf j u b e hu hub)
     have hC3 : ∀ j, j < k -> ∃ g, FG hs nn mk true τ3 gc j g := fun j hj => by
      obtain ⟨gj, hgj⟩ := hC j hj
      obtain ⟨r, hr⟩ := hgj.hd
      exact ⟨gj, hgj.at_, ⟨r, hkp gj _ _ (hr.ext hX2) fun b hb hub => absurd hub (hgg j gj hj hgj.at_ b hb)⟩, hgj.far⟩
     refine Zaa (Zbu rfl (by simp only [EV, Nat.reduceEqDiff, ↓reduceIte, he] <;> try rfl) ?_)
     refine ZaD ?_
     show ZaY _ _ _ _ _ _
     refine Zb7 ?_
     refine Zaa (Zbu rfl (by simp only [EV, Nat.reduceEqDiff, ↓reduceIte, he] <;> try rfl) ?_)
     refine Zaa ?_
     refine ZhA i 1 (by simp only [EV, Nat.reduceEqDiff, ↓reduceIte, he] <;> try rfl) (by simp only [EV, Nat.reduceEqDiff, ↓reduceIte, he] <;> try rfl) (by omega) ?_
     refine Zaa (Zbu rfl (by simp only [EV, Nat.reduceEqDiff, ↓reduceIte, he] <;> try rfl) ?_)
     refine ZaD ?_
     show ∃ n', n' < _ /\ _
     refine ⟨_, (by omega : 64 - (i + 1) < 64 - i), i + 1, g', rfl, hin, ⟨by simp only [EV, Nat.reduceEqDiff, ↓reduceIte, he] <;> try rfl, by simp only [EV, Nat.reduceEqDiff, ↓reduceIte, he] <;> try rfl, by simp only [EV, Nat.reduceEqDiff, ↓reduceIte, he] <;> try rfl, by simp only [EV, Nat.reduceEqDiff, ↓reduceIte, he] <;> try rfl, by simp only [EV, Nat.reduceEqDiff, ↓reduceIte, he] <;> try rfl⟩, hB3, hF3, hG3, hC3, ?_, fun j u b hj hu hub hb => ?_, fun j g2 hj hg2' b hb hb2 => ?_, fun b hb => ?_⟩
     ·rw [<- Nat.add_assoc, Znw]; exact hg3
     ·rcases hnw b hb with h | h
      ·exact hgf j u b hj hu hub h
      ·exact (hF2 j u hu).old hub h.1
     ·rcases hnw b hb with h | h
      ·exact hgg j g2 hj hg2' b h hb2
      ·obtain ⟨gj, hgj⟩ := hC j hj
       have := hgj.at_
       rw [hg2'] at this
       injection this with this
       subst this
       obtain ⟨r, hr⟩ := hgj.hd
       exact (hr.ext hX2).old hb2 h.1
     ·rcases hnw b hb with h | h
      ·exact hgS b h
      ·exact .inr ((hB.trans hX2.but).noneOfB hSu h.2 h.1)
    ·have hin : i = 64 := by have := of_decide_eq_false ht; omega
     refine Zjq ?_
     rw [hin] at hg
     exact ⟨rfl, g, ⟨by simp only [EV, Nat.reduceEqDiff, ↓reduceIte, he] <;> try rfl, by simp only [EV, Nat.reduceEqDiff, ↓reduceIte, he] <;> try rfl, by simp only [EV, Nat.reduceEqDiff, ↓reduceIte, he] <;> try rfl, by simp only [EV, Nat.reduceEqDiff, ↓reduceIte, he] <;> try rfl⟩, hB, hF, hG, hC, hg, hgf⟩
   ·clear he e hB hF hG hC υ
    rintro e υ ⟨g, he, hB, hF, hG, hC, hg, hgf⟩
    refine Zb7 ?_
    refine Zaa (Zbu rfl (by simp only [EV, Nat.reduceEqDiff, ↓reduceIte, he] <;> try rfl) ?_)
    refine Zaa (Zbu rfl (by simp only [EV, Nat.reduceEqDiff, ↓reduceIte, he] <;> try rfl) ?_)
    refine Zaa (Zbu rfl (by simp only [EV, Nat.reduceEqDiff, ↓reduceIte, he] <;> try rfl) ?_)
    refine Zaa ?_
    refine Zfl (k := .i64) (j := k) (by simp only [EV, Nat.reduceEqDiff, ↓reduceIte, he] <;> try rfl) (by simp only [EV, Nat.reduceEqDiff, ↓reduceIte, he] <;> try rfl) ZdO Zcw hG hlt fun b hb => ?_
    have ho := hg.oneV
    refine Zaa ?_
    refine Znv (r := g) (by simp only [EV, Nat.reduceEqDiff, ↓reduceIte, he] <;> try rfl) (by simp only [EV, Nat.reduceEqDiff, ↓reduceIte, he] <;> try rfl) Zcw hG hb hlt ⟨ho.2.1, by rw [ho.2.2]; rfl, by rw [ho.2.2]; intro a ha; rw [List.mem_singleton.1 ha]; exact ho.1⟩ fun τ2 hG2 hB2 => ?_
    rw [ho.2.2] at hG2
    have hlen := hG.len
    rw [Nat.mul_one] at hlen
    have hsg := ZpL gc k g (by omega)
    have hF2 : FA hs nn τ2 (fun j => mks mk j (nn j)) := hF.but hB2 fun j u b hu hub hb2 => (hF j u hu).ne hG (by decide) hub hb2
    have hBS := hB.ext2 hgs hB2
    refine ZaD ?_
    show ZaY _ _ _ _ _ _
    refine Zb7 ?_
    refine Zaa (Zbu rfl (by simp only [EV, Nat.reduceEqDiff, ↓reduceIte, he] <;> try rfl) ?_)
    refine Zaa ?_
    refine ZhA k 1 (by simp only [EV, Nat.reduceEqDiff, ↓reduceIte, he] <;> try rfl) (by simp only [EV, Nat.reduceEqDiff, ↓reduceIte, he] <;> try rfl) (by omega) ?_
    refine Zaa (Zbu rfl (by simp only [EV, Nat.reduceEqDiff, ↓reduceIte, he] <;> try rfl) ?_)
    refine ZaD ?_
    show ∃ n', n' < _ /\ _
    refine ⟨_, (by omega : hs.length - (k + 1) < hs.length - k), k + 1, _, rfl, hlt, ⟨by simp only [EV, Nat.reduceEqDiff, ↓reduceIte, he] <;> try rfl, by simp only [EV, Nat.reduceEqDiff, ↓reduceIte, he] <;> try rfl, by simp only [EV, Nat.reduceEqDiff, ↓reduceIte, he] <;> try rfl⟩, hBS, hF2, hG2, fun j hj => ?_⟩
    by_cases e : j = k
    ·subst e
     exact ⟨g, by rw [hsg, if_pos rfl], ⟨[], by rw [List.append_nil, if_pos rfl]; exact hg.but hB2 fun b hb hb2 => hg.ne hG (by decide) hb hb2⟩, hgf⟩
    ·obtain ⟨gj, hgj⟩ := hC j (by omega)
     obtain ⟨r, hr⟩ := hgj.hd
     exact ⟨gj, by rw [hsg, if_neg e]; exact hgj.at_, ⟨r, hr.but hB2 fun b hb hb2 => hr.ne hG (by decide) hb hb2⟩, hgj.far⟩
  ·have hke : k = hs.length := by have := of_decide_eq_false ht; omega
   refine Zjq ?_
   rw [hke] at hC
   exact ⟨rfl, ⟨by simp only [EV, Nat.reduceEqDiff, ↓reduceIte, he] <;> try rfl, by simp only [EV, Nat.reduceEqDiff, ↓reduceIte, he] <;> try rfl⟩, hB, hF, gc, hG, hC⟩
 clear he e hB1 hF1 hG gc0 τ υ
 rintro e υ ⟨he, hB, hF, gc, hG, hC⟩
 refine Zcb ?_
 refine Zah ?_
 refine Zaa (Zbu rfl (by simp only [EV, Nat.reduceEqDiff, ↓reduceIte, he] <;> try rfl) ?_)
 refine ZaD ?_
 refine ZlE (fun env υ => (env 0 = .lst A hs.length c (hs ++ r0) /\ env 5 = hdr gb hs.length gq) /\ But (FS hs) σ υ /\ FA hs nn υ (fun j => mks mk j (nn j)) /\ Hd υ 29 1 (hdr gb hs.length gq) hs.length gc) ?_ ?_
 ·apply Zta 0 5 9
  ·simp only [EV, Nat.reduceEqDiff, ↓reduceIte, he] <;> try rfl
  ·simp only [EV, Nat.reduceEqDiff, ↓reduceIte, he] <;> try rfl
  ·simp only [EV, Nat.reduceEqDiff, ↓reduceIte, he] <;> try rfl
  clear he e
  intro e he
  refine Ze1 ?_
  refine Zgk (fun μ env υ => ∃ (k : Nat), μ = hs.length - k /\ k <= hs.length /\ (env 0 = .lst A hs.length c (hs ++ r0) /\ env 5 = hdr gb hs.length gq /\ env 9 = vI k) /\ But (FS hs) σ υ /\ FA hs nn υ (fun j => mks mk j (nn j)) /\ Hd υ 29 1 (hdr gb hs.length gq) hs.length gc /\ ∀ j, j < hs.length -> ∃ g, FG hs nn mk true υ gc j g) ⟨_, 0, rfl, Nat.zero_le _, he, hB, hF, hG, hC⟩ ?_
  clear he e hB hF hG hC υ
  rintro _ e υ ⟨k, rfl, hk, he, hB, hF, hG, hC⟩
  refine Zcb ?_
  refine Zah ?_
  refine Zaa (Zbu rfl (by simp only [EV, Nat.reduceEqDiff, ↓reduceIte, he] <;> try rfl) ?_)
  refine Zaa (Zbu rfl (by simp only [EV, Nat.reduceEqDiff, ↓reduceIte, he] <;> try rfl) ?_)
  refine Zaa ?_
  apply ZkT (hts := rfl) (ht := ZdO)
  ·simp only [EV, Nat.reduceEqDiff, ↓reduceIte, he] <;> try rfl
  ·exact AV.val_lst _ _ _ _
  refine Zaa ?_
  refine Zia k hs.length (by simp only [EV, Nat.reduceEqDiff, ↓reduceIte, he] <;> try rfl) (by simp only [EV, Nat.reduceEqDiff, ↓reduceIte, he] <;> try rfl) ?_
  refine ZaD ?_
  apply Zre 0 5 9 76
  ·simp only [EV, Nat.reduceEqDiff, ↓reduceIte, he] <;> try rfl
  ·simp only [EV, Nat.reduceEqDiff, ↓reduceIte, he] <;> try rfl
  ·simp only [EV, Nat.reduceEqDiff, ↓reduceIte, he] <;> try rfl
  ·simp only [EV, Nat.reduceEqDiff, ↓reduceIte, he] <;> try rfl
  clear he e
  intro e he
  refine ZgQ (t := decide (k < hs.length)) (by simp only [EV, Nat.reduceEqDiff, ↓reduceIte, he] <;> try rfl) (fun ht => ?_) (fun ht => ?_)
  ·have hlt : k < hs.length := of_decide_eq_true ht
   obtain ⟨v, hv⟩ := hget k hlt
   obtain ⟨g, hg0⟩ := hC k hlt
   have hga := hg0.at_
   have hnk := hn k
   refine Zhv ?_
   refine ZgR ?_
   refine Zah ?_
   refine Zaa (Zbu rfl (by simp only [EV, Nat.reduceEqDiff, ↓reduceIte, he] <;> try rfl) ?_)
   refine ZaD ?_
   apply Zre 0 5 9 10
   ·simp only [EV, Nat.reduceEqDiff, ↓reduceIte, he] <;> try rfl
   ·simp only [EV, Nat.reduceEqDiff, ↓reduceIte, he] <;> try rfl
   ·simp only [EV, Nat.reduceEqDiff, ↓reduceIte, he] <;> try rfl
   ·simp only [EV, Nat.reduceEqDiff, ↓reduceIte, he] <;> try rfl
   clear he e
   intro e he
   refine ZyV (fun env υ => (env 0 = .lst A hs.length c (hs ++ r0) /\ env 5 = hdr gb hs.length gq /\ env 9 = vI k) /\ But (FS hs) σ υ /\ FA hs nn υ (fun j => mks mk j (nn j)) /\ Hd υ 29 1 (hdr gb hs.length gq) hs.length gc /\ ∀ j, j < hs.length -> ∃ g, FG hs nn mk true υ gc j g) ?_ ?_
   ·refine Ze1 ?_
    refine Zgk (fun μ env υ => ∃ (i : Nat), μ = nn k + 64 - i /\ i <= nn k + 64 /\ (env 0 = .lst A hs.length c (hs ++ r0) /\ env 5 = hdr gb hs.length gq /\ env 9 = vI k /\ env 10 = vI i) /\ But (FS hs) σ υ /\ FA hs nn υ (fun j => mks mk j (nn j)) /\ Hd υ 29 1 (hdr gb hs.length gq) hs.length gc /\ (∀ j, j < hs.length -> ∃ g, FG hs nn mk true υ gc j g) /\ FG hs nn mk true υ gc k g) ⟨_, 0, rfl, Nat.zero_le _, he, hB, hF, hG, hC, hg0⟩ ?_
    clear he e hB hF hG hC hg0 υ
    rintro _ e υ ⟨i, rfl, hi, he, hB, hF, hG, hC, hgk⟩
    obtain ⟨r, hgd⟩ := hgk.hd
    rw [if_pos rfl] at hgd
    have hH := hF k v hv
    refine Zcb ?_
    refine Zah ?_
    refine Zaa (Zbu rfl (by simp only [EV, Nat.reduceEqDiff, ↓reduceIte, he] <;> try rfl) ?_)
    refine Zaa (Zbu rfl (by simp only [EV, Nat.reduceEqDiff, ↓reduceIte, he] <;> try rfl) ?_)
    refine Zaa (Zbu rfl (by simp only [EV, Nat.reduceEqDiff, ↓reduceIte, he] <;> try rfl) ?_)
    refine Zaa ?_
    refine Zfl (k := .i64) (j := k) (by simp only [EV, Nat.reduceEqDiff, ↓reduceIte, he] <;> try rfl) (by simp only [EV, Nat.reduceEqDiff, ↓reduceIte, he] <;> try rfl) ZdO Zcw hG hlt fun b hb => ?_
    refine Zaa ?_
    refine Zxo (by simp only [EV, Nat.reduceEqDiff, ↓reduceIte, he] <;> try rfl) hG hb hlt hga Zib Zcw ?_
    refine Zaa ?_
    refine ZrL (by simp only [EV, Nat.reduceEqDiff, ↓reduceIte, he] <;> try rfl) hgd rfl ZgY ?_
    refine Zaa ?_
    refine Zia i (nn k + 64) (by simp only [EV, Nat.reduceEqDiff, ↓reduceIte, he] <;> try rfl) (by simp only [EV, Nat.reduceEqDiff, ↓reduceIte, he] <;> try rfl) ?_
    refine ZaD ?_
    apply Ztb 0 5 9 10 85
    ·simp only [EV, Nat.reduceEqDiff, ↓reduceIte, he] <;> try rfl
    ·simp only [EV, Nat.reduceEqDiff, ↓reduceIte, he] <;> try rfl
    ·simp only [EV, Nat.reduceEqDiff, ↓reduceIte, he] <;> try rfl
    ·simp only [EV, Nat.reduceEqDiff, ↓reduceIte, he] <;> try rfl
    ·simp only [EV, Nat.reduceEqDiff, ↓reduceIte, he] <;> try rfl
    clear he e
    intro e he
    refine ZgQ (t := decide (i < nn k + 64)) (by simp only [EV, Nat.reduceEqDiff, ↓reduceIte, he] <;> try rfl) (fun ht => ?_) (fun ht => ?_)
    ·have hin : i < nn k + 64 := of_decide_eq_true ht
     have hat := ZuS hl k (nn k + 64) i r hin
     refine Zhv ?_
     refine ZgR ?_
     refine Zwq ?_
     refine ⟨[0, 1, 2, 4, 7, 8, 3, 5, 6, 9, 10, 11, 12, 13, 14, 15, 16, 17, 18, 19, 20, 21, 22, 23, 25, 28, 29, 24, 26, 27, 30, 31, 32, 33, 34], [[], [], [0, 1], [0, 1, 2], [], [0, 1, 2, 3, 4], [0, 1, 2, 3, 4, 5], [], [], [7, 8], [0, 1, 2, 3, 4, 5, 6, 7, 8, 9], [0, 1, 2, 3, 4, 5, 6, 7, 8, 9, 10], [0, 1, 2, 3, 4, 5, 6, 7, 8, 9, 10, 11], [0, 1, 2, 3, 4, 5, 6, 7, 8, 9, 10, 11, 12], [0, 1, 2, 3, 4, 5, 6, 7, 8, 9, 10, 11, 12], [0, 1, 2, 3, 4, 5, 6, 7, 8, 9, 10, 11, 12], [0, 1, 2, 3, 4, 5, 6, 7, 8, 9, 10, 11, 12, 14, 15], [0, 1, 2, 3, 4, 5, 6, 7, 8, 9, 10, 11, 12, 14, 15, 16], [0, 1, 2, 3, 4, 5, 6, 7, 8, 9, 10, 11, 12, 14, 15, 16, 17], [0, 1, 2, 3, 4, 5, 6, 7, 8, 9, 10, 11, 12, 13, 14, 15, 16, 17, 18], [0, 1, 2, 3, 4, 5, 6, 7, 8, 9, 10, 11, 12, 13, 14, 15, 16, 17, 18, 19], [0, 1, 2, 3, 4, 5, 6, 7, 8, 9, 10, 11, 12, 13, 14, 15, 16, 17, 18, 19, 20], [0, 1, 2, 3, 4, 5, 6, 7, 8, 9, 10, 11, 12, 13, 14, 15, 16, 17, 18, 19, 20], [0, 1, 2, 3, 4, 5, 6, 7, 8, 9, 10, 11, 12, 13, 14, 15, 16, 17, 18, 19, 20, 21, 22], [0, 1, 2, 3, 4, 5, 6, 7, 8, 9, 10, 11, 12, 13, 14, 15, 16, 17, 18, 19, 20, 21, 22, 23], [0, 1, 2, 3, 4, 5, 6, 7, 8, 9, 10, 11, 12, 13, 14, 15, 16, 17, 18, 19, 20], [0, 1, 2, 3, 4, 5, 6, 7, 8, 9, 10, 11, 12, 13, 14, 15, 16, 17, 18, 19, 20, 21, 22, 23, 24, 25], [0, 1, 2, 3, 4, 5, 6, 7, 8, 9, 10, 11, 12, 13, 14, 15, 16, 17, 18, 19, 20, 21, 22, 23, 24, 25, 26], [0, 1, 2, 3, 4, 5, 6, 7, 8, 9, 10, 11, 12, 13, 14, 15, 16, 17, 18, 19, 20], [0, 1, 2, 3, 4, 5, 6, 7, 8, 9, 10, 11, 12, 13, 14, 15, 16, 17, 18, 19, 20], [0, 1, 2, 3, 4, 5, 6, 7, 8, 9, 10, 11, 12, 13, 14, 15, 16, 17, 18, 19, 20, 28, 29], [0, 1, 2, 3, 4, 5, 6, 7, 8, 9, 10, 11, 12, 13, 14, 15, 16, 17, 18, 19, 20, 21, 22, 23, 24, 25, 26, 27, 28, 29, 30], [0, 1, 2, 3, 4, 5, 6, 7, 8, 9, 10, 11, 12, 13, 14, 15, 16, 17, 18, 19, 20, 21, 22, 23, 24, 25, 26, 27, 28, 29, 30, 31], [0, 1, 2, 3, 4, 5, 6, 7, 8, 9, 10, 11, 12, 13, 14, 15, 16, 17, 18, 19, 20, 21, 22, 23, 24, 25, 26, 27, 28, 29, 30, 31, 32], [0, 1, 2, 3, 4, 5, 6, 7, 8, 9, 10, 11, 12, 13, 14, 15, 16, 17, 18, 19, 20, 21, 22, 23, 24, 25, 26, 27, 28, 29, 30, 31, 32, 33]], fun _ => True, [3, 6, 24, 27], [9, 30], [], by kernel_rfl, ?_⟩
     apply Zbc
     case hi => simp only [HIX]; try rfl
     case hw => rfl
     case how => rfl
     refine Zbu rfl (by simp only [EV, Nat.reduceEqDiff, ↓reduceIte, he] <;> try rfl) ?_
     refine Zex ?_
     apply Zbc
     case hi => simp only [HIX]; try rfl
     case hw => rfl
     case how => rfl
     refine Zbu rfl (by simp only [EV, Nat.reduceEqDiff, ↓reduceIte, he] <;> try rfl) ?_
     refine Zex ?_
     apply Zbc
     case hi => simp only [HIX]; try rfl
     case hw => rfl
     case how => rfl
     refine Zfl (k := .i64) (j := k) (by simp only [EV, Nat.reduceEqDiff, ↓reduceIte, he] <;> try rfl) (by simp only [EV, Nat.reduceEqDiff, ↓reduceIte, he] <;> try rfl) ZdO Zcw hG hlt fun b2 hb2 => ?_
     refine Zex ?_
     apply Zbc
     case hi => simp only [HIX]; try rfl
     case hw => rfl
     case how => rfl
     refine Zbu rfl (by simp only [EV, Nat.reduceEqDiff, ↓reduceIte, he] <;> try rfl) ?_
     refine Zex ?_
     apply Zbc
     case hi => simp only [HIX]; try rfl
     case hw => rfl
     case how => rfl
     refine Zbu rfl (by simp only [EV, Nat.reduceEqDiff, ↓reduceIte, he] <;> try rfl) ?_
     refine Zex ?_
     apply Zbc
     case hi => simp only [HIX]; try rfl
     case hw => rfl
     case how => rfl
     refine Zbu rfl (by simp only [EV, Nat.reduceEqDiff, ↓reduceIte, he] <;> try rfl) ?_
     refine Zex ?_
     apply Zbc
     case hi => simp only [HIX]; try rfl
     case hw => rfl
     case how => rfl
     refine Zxo (by simp only [EV, Nat.reduceEqDiff, ↓reduceIte, he] <;> try rfl) hG hb2 hlt hga Zib Zcw ?_
     refine Zex ?_
     apply Zbc
     case hi => simp only [HIX]; try rfl
     case hw => rfl
     case how => rfl
     refine Zfl (k := .i64) (j := i) (by simp only [EV, Nat.reduceEqDiff, ↓reduceIte, he] <;> try rfl) (by simp only [EV, Nat.reduceEqDiff, ↓reduceIte, he] <;> try rfl) ZgY Zgv hgd hin fun b3 hb3 => ?_
     refine Zex ?_
     apply Zbc
     case hi => simp only [HIX]; try rfl
     case hw => rfl
     case how => rfl
     refine ZyX (by simp only [EV, Nat.reduceEqDiff, ↓reduceIte, he] <;> try rfl) hgd hb3 hin ZmR Zgv ?_
     rw [hat]
     refine Zex ?_
     apply Zbc
     case hi => simp only [HIX]; try rfl
     case hw => rfl
     case how => rfl
     refine ZcZ (vs := [vI k, vI i]) (by simp only [List.map_cons, List.map_nil, EV, Nat.reduceEqDiff, ↓reduceIte, he]) ?_
     refine hmk k i _ _ fun τ hτ => ⟨fun _ => hτ, ?_⟩
     have hB2 := hB.trans hτ.but
     have hF2 := hF.ext hτ
     have hG2 := hG.ext hτ
     have hC2 : ∀ j, j < hs.length -> ∃ g, FG hs nn mk true τ gc j g := fun j hj => (hC j hj).imp fun g h => h.ext hτ
     have hgk2 := hgk.ext hτ
     have hH2 := hH.ext hτ
     clear hB hF hG hC hgk hH hgd
     apply Zbc
     case hi => simp only [HIX]; try rfl
     case hw => rfl
     case how => rfl
     refine ZlF (by simp only [EV, Nat.reduceEqDiff, ↓reduceIte, he] <;> try rfl) (by simp only [EV, Nat.reduceEqDiff, ↓reduceIte, he] <;> try rfl) ZyY (by omega) ZyZ ZmR (hfit k i) ?_
     refine Zex ?_
     apply Zbc
     case hi => simp only [HIX]; try rfl
     case hw => rfl
     case how => rfl
     with_reducible apply ZuQ
     case hx => simp only [EV, Nat.reduceEqDiff, ↓reduceIte, he] <;> try rfl
     refine Zex ?_
     apply Zbc
     case hi => simp only [HIX]; try rfl
     case hw => rfl
     case how => rfl
     refine Zbu rfl (by simp only [EV, Nat.reduceEqDiff, ↓reduceIte, he] <;> try rfl) ?_
     refine Zex ?_
     apply Zbc
     case hi => simp only [HIX]; try rfl
     case hw => rfl
     case how => rfl
     refine Zbu rfl (by simp only [EV, Nat.reduceEqDiff, ↓reduceIte, he] <;> try rfl) ?_
     refine Zex ?_
     apply Zbc
     case hi => simp only [HIX]; try rfl
     case hw => rfl
     case how => rfl
     refine Zbu rfl (by simp only [EV, Nat.reduceEqDiff, ↓reduceIte, he] <;> try rfl) ?_
     refine Zex ?_
     apply Zbc
     case hi => simp only [HIX]; try rfl
     case hw => rfl
     case how => rfl
     refine Zbu rfl (by simp only [EV, Nat.reduceEqDiff, ↓reduceIte, he] <;> try rfl) ?_
     refine Zex ?_
     apply Zbc
     case hi => simp only [HIX]; try rfl
     case hw => rfl
     case how => rfl
     refine ZoZ (by simp only [EV, Nat.reduceEqDiff, ↓reduceIte, he] <;> try rfl) (by simp only [EV, Nat.reduceEqDiff, ↓reduceIte, he] <;> try rfl) hA ZdO Zcw hlt fun ad => ?_
     refine Zex ?_
     apply Zbc
     case hi => simp only [HIX]; try rfl
     case hw => rfl
     case how => rfl
     refine Zo0 (by simp only [EV, Nat.reduceEqDiff, ↓reduceIte, he] <;> try rfl) hv Zib Zcw ?_
     refine Zex ?_
     apply Zbc
     case hi => simp only [HIX]; try rfl
     case hw => rfl
     case how => rfl
     refine ZrL (by simp only [EV, Nat.reduceEqDiff, ↓reduceIte, he] <;> try rfl) hH2 rfl ZgY ?_
     refine Zex ?_
     by_cases hik : i < nn k
     ·have hat2 := ZuS hl k (nn k) i [] hik
      rw [List.append_nil] at hat2
      apply Zbc
      case hi => simp only [HIX]; try rfl
      case hw => rfl
      case how => rfl
      refine ZCs i (nn k) (by simp only [EV, Nat.reduceEqDiff, ↓reduceIte, he] <;> try rfl) (by simp only [EV, Nat.reduceEqDiff, ↓reduceIte, he] <;> try rfl) hik ?_
      refine Zex ?_
      apply Zbc
      case hi => simp only [HIX]; try rfl
      case hw => rfl
      case how => rfl
      refine Zbu rfl (by simp only [EV, Nat.reduceEqDiff, ↓reduceIte, he] <;> try rfl) ?_
      refine Zex ?_
      apply Zbc
      case hi => simp only [HIX]; try rfl
      case hw => rfl
      case how => rfl
      refine Zbu rfl (by simp only [EV, Nat.reduceEqDiff, ↓reduceIte, he] <;> try rfl) ?_
      refine Zex ?_
      apply Zbc
      case hi => simp only [HIX]; try rfl
      case hw => rfl
      case how => rfl
      refine Zbu rfl (by simp only [EV, Nat.reduceEqDiff, ↓reduceIte, he] <;> try rfl) ?_
      refine Zex ?_
      apply Zbc
      case hi => simp only [HIX]; try rfl
      case hw => rfl
      case how => rfl
      refine ZoZ (by simp only [EV, Nat.reduceEqDiff, ↓reduceIte, he] <;> try rfl) (by simp only [EV, Nat.reduceEqDiff, ↓reduceIte, he] <;> try rfl) hA ZdO Zcw hlt fun ad2 => ?_
      refine Zex ?_
      apply Zbc
      case hi => simp only [HIX]; try rfl
      case hw => rfl
      case how => rfl
      refine Zbu rfl (by simp only [EV, Nat.reduceEqDiff, ↓reduceIte, he] <;> try rfl) ?_
      refine Zex ?_
      apply Zbc
      case hi => simp only [HIX]; try rfl
      case hw => rfl
      case how => rfl
      refine Zbu rfl (by simp only [EV, Nat.reduceEqDiff, ↓reduceIte, he] <;> try rfl) ?_
      refine Zex ?_
      apply Zbc
      case hi => simp only [HIX]; try rfl
      case hw => rfl
      case how => rfl
      refine Zbu rfl (by simp only [EV, Nat.reduceEqDiff, ↓reduceIte, he] <;> try rfl) ?_
      refine Zex ?_
      apply Zbc
      case hi => simp only [HIX]; try rfl
      case hw => rfl
      case how => rfl
      refine Zo0 (by simp only [EV, Nat.reduceEqDiff, ↓reduceIte, he] <;> try rfl) hv Zib Zcw ?_
      refine Zex ?_
      apply Zbc
      case hi => simp only [HIX]; try rfl
      case hw => rfl
      case how => rfl
      refine Zfl (k := .i64) (j := i) (by simp only [EV, Nat.reduceEqDiff, ↓reduceIte, he] <;> try rfl) (by simp only [EV, Nat.reduceEqDiff, ↓reduceIte, he] <;> try rfl) ZgY Zgv hH2 hik fun b4 hb4 => ?_
      refine Zex ?_
      apply Zbc
      case hi => simp only [HIX]; try rfl
      case hw => rfl
      case how => rfl
      refine ZyX (by simp only [EV, Nat.reduceEqDiff, ↓reduceIte, he] <;> try rfl) hH2 hb4 hik ZmR Zgv ?_
      rw [hat2]
      refine Zex ?_
      apply Zbc
      case hi => simp only [HIX]; try rfl
      case hw => rfl
      case how => rfl
      refine ZcZ (vs := [vI k, vI i]) (by simp only [List.map_cons, List.map_nil, EV, Nat.reduceEqDiff, ↓reduceIte, he]) ?_
      refine hmk k i _ _ fun τ2 hτ2 => ⟨fun _ => hτ2, ?_⟩
      apply Zbc
      case hi => simp only [HIX]; try rfl
      case hw => rfl
      case how => rfl
      refine ZlF (by simp only [EV, Nat.reduceEqDiff, ↓reduceIte, he] <;> try rfl) (by simp only [EV, Nat.reduceEqDiff, ↓reduceIte, he] <;> try rfl) ZyY (by omega) ZyZ ZmR (hfit k i) ?_
      refine Zex ?_
      apply Zbc
      case hi => simp only [HIX]; try rfl
      case hw => rfl
      case how => rfl
      with_reducible apply ZuQ
      case hx => simp only [EV, Nat.reduceEqDiff, ↓reduceIte, he] <;> try rfl
      refine Zex ?_
      apply Zbc
      case hi => simp only [HIX]; try rfl
      case hw => rfl
      case how => rfl
      refine ZbS (by simp only [EV, Nat.reduceEqDiff, ↓reduceIte, he] <;> try rfl) (by simp only [EV, Nat.reduceEqDiff, ↓reduceIte, he] <;> try rfl) ?_
      refine Zex ?_
      apply Zbc
      case hi => simp only [HIX]; try rfl
      case hw => rfl
      case how => rfl
      refine Znm (by simp only [EV, Nat.reduceEqDiff, ↓reduceIte, he] <;> try rfl) (by simp only [EV, Nat.reduceEqDiff, ↓reduceIte, he] <;> try rfl) ?_
      refine Zex ?_
      refine ZyW ?_
      apply Ztb 0 5 9 10 122
      ·simp only [EV, Nat.reduceEqDiff, ↓reduceIte, he] <;> try rfl
      ·simp only [EV, Nat.reduceEqDiff, ↓reduceIte, he] <;> try rfl
      ·simp only [EV, Nat.reduceEqDiff, ↓reduceIte, he] <;> try rfl
      ·simp only [EV, Nat.reduceEqDiff, ↓reduceIte, he] <;> try rfl
      ·simp only [EV, Nat.reduceEqDiff, ↓reduceIte, he] <;> try rfl
      clear he e
      intro e he
      refine Zp0 (by simp only [EV, Nat.reduceEqDiff, ↓reduceIte, he] <;> try rfl) ?_
      refine Zs9 ?_
      show ZaY _ _ _ _ _ _
      refine Zb7 ?_
      refine Zaa (Zbu rfl (by simp only [EV, Nat.reduceEqDiff, ↓reduceIte, he] <;> try rfl) ?_)
      refine Zaa ?_
      refine ZhA i 1 (by simp only [EV, Nat.reduceEqDiff, ↓reduceIte, he] <;> try rfl) (by simp only [EV, Nat.reduceEqDiff, ↓reduceIte, he] <;> try rfl) (by omega) ?_
      refine Zaa (Zbu rfl (by simp only [EV, Nat.reduceEqDiff, ↓reduceIte, he] <;> try rfl) ?_)
      refine ZaD ?_
      show ∃ n', n' < _ /\ _
      exact ⟨_, (by omega : nn k + 64 - (i + 1) < nn k + 64 - i), i + 1, rfl, hin, ⟨by simp only [EV, Nat.reduceEqDiff, ↓reduceIte, he] <;> try rfl, by simp only [EV, Nat.reduceEqDiff, ↓reduceIte, he] <;> try rfl, by simp only [EV, Nat.reduceEqDiff, ↓reduceIte, he] <;> try rfl, by simp only [EV, Nat.reduceEqDiff, ↓reduceIte, he] <;> try rfl⟩, hB2.trans hτ2.but, hF2.ext hτ2, hG2.ext hτ2, fun j hj => (hC2 j hj).imp fun g h => h.ext hτ2, hgk2.ext hτ2⟩
     ·apply Zbc
      case hi => simp only [HIX]; try rfl
      case hw => rfl
      case how => rfl
      refine ZAg i (nn k) (by simp only [EV, Nat.reduceEqDiff, ↓reduceIte, he] <;> try rfl) (by simp only [EV, Nat.reduceEqDiff, ↓reduceIte, he] <;> try rfl) hik ?_
      refine Zex ?_
      apply Zbc
      case hi => simp only [HIX]; try rfl
      case hw => rfl
      case how => rfl
      refine Zbu rfl (by simp only [EV, Nat.reduceEqDiff, ↓reduceIte, he] <;> try rfl) ?_
      refine Zex ?_
      apply Znd
      case hi => simp only [HIX]; try rfl
      case hg => rfl
      case how => rfl
      apply Znd
      case hi => simp only [HIX]; try rfl
      case hg => rfl
      case how => rfl
      apply Znd
      case hi => simp only [HIX]; try rfl
      case hg => rfl
      case how => rfl
      apply Znd
      case hi => simp only [HIX]; try rfl
      case hg => rfl
      case how => rfl
      apply Znd
      case hi => simp only [HIX]; try rfl
      case hg => rfl
      case how => rfl
      apply Znd
      case hi => simp only [HIX]; try rfl
      case hg => rfl
      case how => rfl
      apply Znd
      case hi => simp only [HIX]; try rfl
      case hg => rfl
      case how => rfl
      apply Znd
      case hi => simp only [HIX]; try rfl
      case hg => rfl
      case how => rfl
      apply Znd
      case hi => simp only [HIX]; try rfl
      case hg => rfl
      case how => rfl
      apply Znd
      case hi => simp only [HIX]; try rfl
      case hg => rfl
      case how => rfl
      apply Znd
      case hi => simp only [HIX]; try rfl
      case hg => rfl
      case how => rfl
      apply Znd
      case hi => simp only [HIX]; try rfl
      case hg => rfl
      case how => rfl
      apply Zbc
      case hi => simp only [HIX]; try rfl
      case hw => rfl
      case how => rfl
      refine Znm (by simp only [EV, Nat.reduceEqDiff, ↓reduceIte, he] <;> try rfl) (by simp only [EV, Nat.reduceEqDiff, ↓reduceIte, he] <;> try rfl) ?_
      refine Zex ?_
      apply Zbc
      case hi => simp only [HIX]; try rfl
      case hw => rfl
      case how => rfl
      refine Znm (by simp only [EV, Nat.reduceEqDiff, ↓reduceIte, he] <;> try rfl) (by simp only [EV, Nat.reduceEqDiff, ↓reduceIte, he] <;> try rfl) ?_
      refine Zex ?_
      refine ZyW ?_
      apply Ztb 0 5 9 10 122
      ·simp only [EV, Nat.reduceEqDiff, ↓reduceIte, he] <;> try rfl
      ·simp only [EV, Nat.reduceEqDiff, ↓reduceIte, he] <;> try rfl
      ·simp only [EV, Nat.reduceEqDiff, ↓reduceIte, he] <;> try rfl
      ·simp only [EV, Nat.reduceEqDiff, ↓reduceIte, he] <;> try rfl
      ·simp only [EV, Nat.reduceEqDiff, ↓reduceIte, he] <;> try rfl
      clear he e
      intro e he
      refine Zp0 (by simp only [EV, Nat.reduceEqDiff, ↓reduceIte, he] <;> try rfl) ?_
      refine Zs9 ?_
      show ZaY _ _ _ _ _ _
      refine Zb7 ?_
      refine Zaa (Zbu rfl (by simp only [EV, Nat.reduceEqDiff, ↓reduceIte, he] <;> try rfl) ?_)
      refine Zaa ?_
      refine ZhA i 1 (by simp only [EV, Nat.reduceEqDiff, ↓reduceIte, he] <;> try rfl) (by simp only [EV, Nat.reduceEqDiff, ↓reduceIte, he] <;> try rfl) (by omega) ?_
      refine Zaa (Zbu rfl (by simp only [EV, Nat.reduceEqDiff, ↓reduceIte, he] <;> try rfl) ?_)
      refine ZaD ?_
      show ∃ n', n' < _ /\ _
      exact ⟨_, (by omega : nn k + 64 - (i + 1) < nn k + 64 - i), i + 1, rfl, hin, ⟨by simp only [EV, Nat.reduceEqDiff, ↓reduceIte, he] <;> try rfl, by simp only [EV, Nat.reduceEqDiff, ↓reduceIte, he] <;> try rfl, by simp only [EV, Nat.reduceEqDiff, ↓reduceIte, he] <;> try rfl, by simp only [EV, Nat.reduceEqDiff, ↓reduceIte, he] <;> try rfl⟩, hB2, hF2, hG2, hC2, hgk2⟩
    ·refine Zjq ?_
     exact ⟨rfl, ⟨by simp only [EV, Nat.reduceEqDiff, ↓reduceIte, he] <;> try rfl, by simp only [EV, Nat.reduceEqDiff, ↓reduceIte, he] <;> try rfl, by simp only [EV, Nat.reduceEqDiff, ↓reduceIte, he] <;> try rfl⟩, hB, hF, hG, hC⟩
   ·clear he e hB hF hG hC hg0 υ
    rintro e υ ⟨he, hB, hF, hG, hC⟩
    show ZaY _ _ _ _ _ _
    refine Zb7 ?_
    refine Zaa (Zbu rfl (by simp only [EV, Nat.reduceEqDiff, ↓reduceIte, he] <;> try rfl) ?_)
    refine Zaa ?_
    refine ZhA k 1 (by simp only [EV, Nat.reduceEqDiff, ↓reduceIte, he] <;> try rfl) (by simp only [EV, Nat.reduceEqDiff, ↓reduceIte, he] <;> try rfl) (by omega) ?_
    refine Zaa (Zbu rfl (by simp only [EV, Nat.reduceEqDiff, ↓reduceIte, he] <;> try rfl) ?_)
    refine ZaD ?_
    show ∃ n', n' < _ /\ _
    exact ⟨_, (by omega : hs.length - (k + 1) < hs.length - k), k + 1, rfl, hlt, ⟨by simp only [EV, Nat.reduceEqDiff, ↓reduceIte, he] <;> try rfl, by simp only [EV, Nat.reduceEqDiff, ↓reduceIte, he] <;> try rfl, by simp only [EV, Nat.reduceEqDiff, ↓reduceIte, he] <;> try rfl⟩, hB, hF, hG, hC⟩
  ·refine Zjq ?_
   exact ⟨rfl, ⟨by simp only [EV, Nat.reduceEqDiff, ↓reduceIte, he] <;> try rfl, by simp only [EV, Nat.reduceEqDiff, ↓reduceIte, he] <;> try rfl⟩, hB, hF, hG⟩
 clear he e hB hF hG hC υ
 rintro e υ ⟨he, hB, hF, hG⟩
 refine Zcb ?_
 refine Zah ?_
 refine Zaa (Zbu rfl (by simp only [EV, Nat.reduceEqDiff, ↓reduceIte, he] <;> try rfl) ?_)
 refine ZaD ?_
 refine ZlE (fun env υ => (env 0 = .lst A hs.length c (hs ++ r0) /\ env 5 = hdr gb hs.length gq) /\ But (FS hs) σ υ /\ FA hs nn υ (fun j => mks mk j (nn j)) /\ ∃ gc, Hd υ 29 1 (hdr gb hs.length gq) hs.length gc /\ ∀ j, j < hs.length -> ∃ g, FG hs nn mk false υ gc j g) ?_ ?_
 ·apply Zta 0 5 11
  ·simp only [EV, Nat.reduceEqDiff, ↓reduceIte, he] <;> try rfl
  ·simp only [EV, Nat.reduceEqDiff, ↓reduceIte, he] <;> try rfl
  ·simp only [EV, Nat.reduceEqDiff, ↓reduceIte, he] <;> try rfl
  clear he e
  intro e he
  refine Ze1 ?_
  refine Zgk (fun μ env υ => ∃ (k : Nat) (gc : List AV), μ = hs.length - k /\ k <= hs.length /\ (env 0 = .lst A hs.length c (hs ++ r0) /\ env 5 = hdr gb hs.length gq /\ env 11 = vI k) /\ But (FS hs) σ υ /\ FA hs nn υ (fun j => mks mk j (nn j)) /\ Hd υ 29 1 (hdr gb hs.length gq) hs.length gc /\ ∀ j, j < k -> ∃ g, FG hs nn mk false υ gc j g) ⟨_, 0, gc, rfl, Nat.zero_le _, he, hB, hF, hG, fun j hj => absurd hj (Nat.not_lt_zero _)⟩ ?_
  clear he e hB hF hG gc υ
  rintro _ e υ ⟨k, gc, rfl, hk, he, hB, hF, hG, hC⟩
  refine Zcb ?_
  refine Zah ?_
  refine Zaa (Zbu rfl (by simp only [EV, Nat.reduceEqDiff, ↓reduceIte, he] <;> try rfl) ?_)
  refine Zaa (Zbu rfl (by simp only [EV, Nat.reduceEqDiff, ↓reduceIte, he] <;> try rfl) ?_)
  refine Zaa ?_
  apply ZkT (hts := rfl) (ht := ZdO)
  ·simp only [EV, Nat.reduceEqDiff, ↓reduceIte, he] <;> try rfl
  ·exact AV.val_lst _ _ _ _
  refine Zaa ?_
  refine Zia k hs.length (by simp only [EV, Nat.reduceEqDiff, ↓reduceIte, he] <;> try rfl) (by simp only [EV, Nat.reduceEqDiff, ↓reduceIte, he] <;> try rfl) ?_
  refine ZaD ?_
  apply Zre 0 5 11 126
  ·simp only [EV, Nat.reduceEqDiff, ↓reduceIte, he] <;> try rfl
  ·simp only [EV, Nat.reduceEqDiff, ↓reduceIte, he] <;> try rfl
  ·simp only [EV, Nat.reduceEqDiff, ↓reduceIte, he] <;> try rfl
  ·simp only [EV, Nat.reduceEqDiff, ↓reduceIte, he] <;> try rfl
  clear he e
  intro e he
  refine ZgQ (t := decide (k < hs.length)) (by simp only [EV, Nat.reduceEqDiff, ↓reduceIte, he] <;> try rfl) (fun ht => ?_) (fun ht => ?_)
  ·have hlt : k < hs.length := of_decide_eq_true ht
   obtain ⟨v, hv⟩ := hget k hlt
   have hnk := hn k
   refine Zhv ?_
   refine ZgR ?_
   refine Zah ?_
   refine Zaa ?_
   refine ZtB (l := 64) (by simp only [EV, Nat.reduceEqDiff, ↓reduceIte, he] <;> try rfl) (by simp only [EV, Nat.reduceEqDiff, ↓reduceIte, he] <;> try rfl) ZgY Zgv ZuR Zxq rfl (by omega) (by decide) (by omega) (by omega) fun mb mq τ mc0 hM hXt hmn hmu => ?_
   have hmS := hB.noneOfB hSu hmu hmn
   have hmH : ∀ (j : Nat) (u : AV), hs[j]? = some u -> hbk u ≠ some mb := fun j u hu hb => (hF j u hu).old hb hmn
   have hmG : ∀ j, j < k -> ∀ g, FG hs nn mk false υ gc j g -> hbk g ≠ some mb := fun j hj g hg hb => by
    obtain ⟨r, hr⟩ := hg.hd
    exact hr.old hb hmn
   have hmg : hbk (hdr gb hs.length gq) ≠ some mb := fun hb => hG.old hb hmn
   have hC1 : ∀ j, j < k -> ∃ g, FG hs nn mk false τ gc j g /\ hbk g ≠ some mb := fun j hj => by
    obtain ⟨g, hg⟩ := hC j hj
    exact ⟨g, hg.ext hXt, hmG j hj g hg⟩
   have hB1 := hB.trans hXt.but
   have hF1 := hF.ext hXt
   have hG1 := hG.ext hXt
   clear hB hF hG hC hmG hXt hmn hmu
   refine Zaa (Zbu rfl (by simp only [EV, Nat.reduceEqDiff, ↓reduceIte, he] <;> try rfl) ?_)
   refine ZaD ?_
   refine Zcb ?_
   refine Zah ?_
   refine Zaa (Zbu rfl (by simp only [EV, Nat.reduceEqDiff, ↓reduceIte, he] <;> try rfl) ?_)
   refine ZaD ?_
   apply Ztb 0 5 11 12 13
   ·simp only [EV, Nat.reduceEqDiff, ↓reduceIte, he] <;> try rfl
   ·simp only [EV, Nat.reduceEqDiff, ↓reduceIte, he] <;> try rfl
   ·simp only [EV, Nat.reduceEqDiff, ↓reduceIte, he] <;> try rfl
   ·simp only [EV, Nat.reduceEqDiff, ↓reduceIte, he] <;> try rfl
   ·simp only [EV, Nat.reduceEqDiff, ↓reduceIte, he] <;> try rfl
   clear he e
   intro e he
   refine ZlE (fun env υ => (env 0 = .lst A hs.length c (hs ++ r0) /\ env 5 = hdr gb hs.length gq /\ env 11 = vI k /\ env 12 = hdr mb 64 mq) /\ But (FS hs) σ υ /\ FA hs nn υ (fun j => mks mk j (nn j)) /\ Hd υ 29 1 (hdr gb hs.length gq) hs.length gc /\ (∀ j, j < k -> ∃ g, FG hs nn mk false υ gc j g /\ hbk g ≠ some mb) /\ ∃ mc, Hd υ 48 2 (hdr mb 64 mq) 64 mc) ?_ ?_
   ·refine Ze1 ?_
    refine Zgk (fun μ env υ => ∃ (i : Nat) (mc : List AV), μ = 64 - i /\ i <= 64 /\ (env 0 = .lst A hs.length c (hs ++ r0) /\ env 5 = hdr gb hs.length gq /\ env 11 = vI k /\ env 12 = hdr mb 64 mq /\ env 13 = vI i) /\ But (FS hs) σ υ /\ FA hs nn υ (fun j => mks mk j (nn j)) /\ Hd υ 29 1 (hdr gb hs.length gq) hs.length gc /\ (∀ j, j < k -> ∃ g, FG hs nn mk false υ gc j g /\ hbk g ≠ some mb) /\ Hd υ 48 2 (hdr mb 64 mq) 64 mc) ⟨_, 0, mc0, rfl, Nat.zero_le _, he, hB1, hF1, hG1, hC1, hM⟩ ?_
    clear he e hB1 hF1 hG1 hC1 hM τ υ
    rintro _ e υ ⟨i, mc, rfl, hi, he, hB, hF, hG, hC, hM⟩
    refine Zcb ?_
    refine Zah ?_
    refine Zaa (Zbu rfl (by simp only [EV, Nat.reduceEqDiff, ↓reduceIte, he] <;> try rfl) ?_)
    refine Zaa ?_
    refine Zia i 64 (by simp only [EV, Nat.reduceEqDiff, ↓reduceIte, he] <;> try rfl) (by simp only [EV, Nat.reduceEqDiff, ↓reduceIte, he] <;> try rfl) ?_
    refine ZaD ?_
    apply ZB2 0 5 11 12 13 131
    ·simp only [EV, Nat.reduceEqDiff, ↓reduceIte, he] <;> try rfl
    ·simp only [EV, Nat.reduceEqDiff, ↓reduceIte, he] <;> try rfl
    ·simp only [EV, Nat.reduceEqDiff, ↓reduceIte, he] <;> try rfl
    ·simp only [EV, Nat.reduceEqDiff, ↓reduceIte, he] <;> try rfl
    ·simp only [EV, Nat.reduceEqDiff, ↓reduceIte, he] <;> try rfl
    ·simp only [EV, Nat.reduceEqDiff, ↓reduceIte, he] <;> try rfl
    clear he e
    intro e he
    refine ZgQ (t := decide (i < 64)) (by simp only [EV, Nat.reduceEqDiff, ↓reduceIte, he] <;> try rfl) (fun ht => ?_) (fun ht => ?_)
    ·have hin : i < 64 := of_decide_eq_true ht
     refine Zhv ?_
     refine ZgR ?_
     refine Zb7 ?_
     refine Zaa (Zbu rfl (by simp only [EV, Nat.reduceEqDiff, ↓reduceIte, he] <;> try rfl) ?_)
     refine Zaa (Zbu rfl (by simp only [EV, Nat.reduceEqDiff, ↓reduceIte, he] <;> try rfl) ?_)
     refine Zaa (Zbu rfl (by simp only [EV, Nat.reduceEqDiff, ↓reduceIte, he] <;> try rfl) ?_)
     refine Zaa (Zbu rfl (by simp only [EV, Nat.reduceEqDiff, ↓reduceIte, he] <;> try rfl) ?_)
     refine Zaa ?_
     apply ZkT (hts := rfl) (ht := ZdO)
     ·simp only [EV, Nat.reduceEqDiff, ↓reduceIte, he] <;> try rfl
     ·exact AV.val_lst _ _ _ _
     refine Zaa ?_
     refine ZhA k hs.length (by simp only [EV, Nat.reduceEqDiff, ↓reduceIte, he] <;> try rfl) (by simp only [EV, Nat.reduceEqDiff, ↓reduceIte, he] <;> try rfl) (by omega) ?_
     refine Zaa (Zbu rfl (by simp only [EV, Nat.reduceEqDiff, ↓reduceIte, he] <;> try rfl) ?_)
     refine Zaa ?_
     refine ZcZ (vs := [vI ((k + hs.length : Nat) : Int), vI i]) (by simp only [List.map_cons, List.map_nil, EV, Nat.reduceEqDiff, ↓reduceIte, he]) ?_
     refine hmk (k + hs.length) i _ _ fun τ hτ => ?_
     refine Zaa ?_
     refine Zfl (k := .i64) (j := i) (by simp only [EV, Nat.reduceEqDiff, ↓reduceIte, he] <;> try rfl) (by simp only [EV, Nat.reduceEqDiff, ↓reduceIte, he] <;> try rfl) ZgY Zgv (hM.ext hτ) hin fun b hb => ?_
     refine Zaa ?_
     refine Znv (r := .agg (mk (k + hs.length) i)) (by simp only [EV, Nat.reduceEqDiff, ↓reduceIte, he] <;> try rfl) (by simp only [EV, Nat.reduceEqDiff, ↓reduceIte, he] <;> try rfl) Zgv (hM.ext hτ) hb hin (hone _ i) fun τ2 hM2 hB2 => ?_
     have hnb : ∀ u : AV, hbk u ≠ some mb -> ∀ b, hbk u = some b -> ¬ hbk (hdr mb 64 mq) = some b := fun u hu b h1 h2 => hu (by rw [h1, ZmQ h2])
     refine ZaD ?_
     show ZaY _ _ _ _ _ _
     refine Zb7 ?_
     refine Zaa (Zbu rfl (by simp only [EV, Nat.reduceEqDiff, ↓reduceIte, he] <;> try rfl) ?_)
     refine Zaa ?_
     refine ZhA i 1 (by simp only [EV, Nat.reduceEqDiff, ↓reduceIte, he] <;> try rfl) (by simp only [EV, Nat.reduceEqDiff, ↓reduceIte, he] <;> try rfl) (by omega) ?_
     refine Zaa (Zbu rfl (by simp only [EV, Nat.reduceEqDiff, ↓reduceIte, he] <;> try rfl) ?_)
     refine ZaD ?_
     show ∃ n', n' < _ /\ _
     refine ⟨_, (by omega : 64 - (i + 1) < 64 - i), i + 1, _, rfl, hin, ⟨by simp only [EV, Nat.reduceEqDiff, ↓reduceIte, he] <;> try rfl, by simp only [EV, Nat.reduceEqDiff, ↓reduceIte, he] <;> try rfl, by simp only [EV, Nat.reduceEqDiff, ↓reduceIte, he] <;> try rfl, by simp only [EV, Nat.reduceEqDiff, ↓reduceIte, he] <;> try rfl, by simp only [EV, Nat.reduceEqDiff, ↓reduceIte, he] <;> try rfl⟩, (hB.trans hτ.but).ext2 (fun b hb => ?_) hB2, (hF.ext hτ).but hB2 fun j u b hu hb => hnb u (hmH j u hu) b hb, (hG.ext hτ).but hB2 (hnb _ hmg), fun j hj => ?_, hM2⟩
     ·have hb := ZmQ hb
      subst hb
      exact .inr hmS
     ·obtain ⟨g, hg, hgm⟩ := hC j hj
      exact ⟨g, (hg.ext hτ).but hB2 (hnb g hgm), hgm⟩
    ·refine Zjq ?_
     exact ⟨rfl, ⟨by simp only [EV, Nat.reduceEqDiff, ↓reduceIte, he] <;> try rfl, by simp only [EV, Nat.reduceEqDiff, ↓reduceIte, he] <;> try rfl, by simp only [EV, Nat.reduceEqDiff, ↓reduceIte, he] <;> try rfl, by simp only [EV, Nat.reduceEqDiff, ↓reduceIte, he] <;> try rfl⟩, hB, hF, hG, hC, mc, hM⟩
   ·clear he e hB1 hF1 hG1 hC1 hM τ υ
    rintro e υ ⟨he, hB, hF, hG, hC, mc, hM⟩
    have hH := hF k v hv
    refine Zb7 ?_
    refine Zaa (Zbu rfl (by simp only [EV, Nat.reduceEqDiff, ↓reduceIte, he] <;> try rfl) ?_)
    refine Zaa (Zbu rfl (by simp only [EV, Nat.reduceEqDiff, ↓reduceIte, he] <;> try rfl) ?_)
    refine Zaa (Zbu rfl (by simp only [EV, Nat.reduceEqDiff, ↓reduceIte, he] <;> try rfl) ?_)
    refine Zaa (Zbu rfl (by simp only [EV, Nat.reduceEqDiff, ↓reduceIte, he] <;> try rfl) ?_)
    refine Zaa ?_
    refine ZoZ (by simp only [EV, Nat.reduceEqDiff, ↓reduceIte, he] <;> try rfl) (by simp only [EV, Nat.reduceEqDiff, ↓reduceIte, he] <;> try rfl) hA ZdO Zcw hlt fun ad => ?_
    refine Zaa ?_
    refine Zo0 (by simp only [EV, Nat.reduceEqDiff, ↓reduceIte, he] <;> try rfl) hv Zib Zcw ?_
    refine Zaa (Zbu rfl (by simp only [EV, Nat.reduceEqDiff, ↓reduceIte, he] <;> try rfl) ?_)
    refine Zaa ?_
    refine ZrK (by simp only [EV, Nat.reduceEqDiff, ↓reduceIte, he] <;> try rfl) (by simp only [EV, Nat.reduceEqDiff, ↓reduceIte, he] <;> try rfl) ZgY Zgv ZuR Zxq rfl (by omega) hH (hM.src (by omega)) (by omega) (by simp only [maxLen]; omega) (by omega) fun g τ hg hkp hbt hnw => ?_
    have hG3 : Hd τ 29 1 (hdr gb hs.length gq) hs.length gc := hG.but hbt fun b hb hb2 => hH.ne hG (by decide) hb2 hb
    have hB3 : But (FS hs) σ τ := hB.trans (hbt.sub fun b hb => ⟨k, v, hv, hb⟩)
    have hF3 : FA hs nn τ (fun j => mks mk j (nn j)) := fun j u hu => hkp u _ _ (hF j u hu) fun b hb hub => by
     by_cases e : j = k
     ·subst e; omega
     ·exact absurd hb (hfar k v hv j u b e hu hub)
    have hC3 : ∀ j, j < k -> ∃ g, FG hs nn mk false τ gc j g := fun j hj => by
     obtain ⟨gj, hgj, _⟩ := hC j hj
     exact ⟨gj, hgj.but hbt fun b hb hb2 => hgj.far k v b (by omega) hv hb2 hb⟩
    have hgf : ZBc hs k g := fun j u b hj hu hub hb => by
     rcases hnw b hb with h | h
     ·exact hfar k v hv j u b hj hu hub h
     ·exact (hF j u hu).old hub h.1
    clear hB hF hG hC hM hH hkp hbt hnw
    refine Zaa ?_
    refine Zfl (k := .i64) (j := k) (by simp only [EV, Nat.reduceEqDiff, ↓reduceIte, he] <;> try rfl) (by simp only [EV, Nat.reduceEqDiff, ↓reduceIte, he] <;> try rfl) ZdO Zcw hG3 hlt fun b hb => ?_
    have ho := hg.oneV
    refine Zaa ?_
    refine Znv (r := g) (by simp only [EV, Nat.reduceEqDiff, ↓reduceIte, he] <;> try rfl) (by simp only [EV, Nat.reduceEqDiff, ↓reduceIte, he] <;> try rfl) Zcw hG3 hb hlt ⟨ho.2.1, by rw [ho.2.2]; rfl, by rw [ho.2.2]; intro a ha; rw [List.mem_singleton.1 ha]; exact ho.1⟩ fun τ2 hG2 hB2 => ?_
    rw [ho.2.2] at hG2
    have hlen := hG3.len
    rw [Nat.mul_one] at hlen
    have hsg := ZpL gc k g (by omega)
    have hF2 : FA hs nn τ2 (fun j => mks mk j (nn j)) := hF3.but hB2 fun j u b hu hub hb2 => (hF3 j u hu).ne hG3 (by decide) hub hb2
    have hBS := hB3.ext2 hgs hB2
    refine ZaD ?_
    show ZaY _ _ _ _ _ _
    refine Zb7 ?_
    refine Zaa (Zbu rfl (by simp only [EV, Nat.reduceEqDiff, ↓reduceIte, he] <;> try rfl) ?_)
    refine Zaa ?_
    refine ZhA k 1 (by simp only [EV, Nat.reduceEqDiff, ↓reduceIte, he] <;> try rfl) (by simp only [EV, Nat.reduceEqDiff, ↓reduceIte, he] <;> try rfl) (by omega) ?_
    refine Zaa (Zbu rfl (by simp only [EV, Nat.reduceEqDiff, ↓reduceIte, he] <;> try rfl) ?_)
    refine ZaD ?_
    show ∃ n', n' < _ /\ _
    refine ⟨_, (by omega : hs.length - (k + 1) < hs.length - k), k + 1, _, rfl, hlt, ⟨by simp only [EV, Nat.reduceEqDiff, ↓reduceIte, he] <;> try rfl, by simp only [EV, Nat.reduceEqDiff, ↓reduceIte, he] <;> try rfl, by simp only [EV, Nat.reduceEqDiff, ↓reduceIte, he] <;> try rfl⟩, hBS, hF2, hG2, fun j hj => ?_⟩
    by_cases e : j = k
    ·subst e
     exact ⟨g, by rw [hsg, if_pos rfl], ⟨mc, by rw [if_neg Bool.false_ne_true]; exact hg.but hB2 fun b hb hb2 => hg.ne hG3 (by decide) hb hb2⟩, hgf⟩
    ·obtain ⟨gj, hgj⟩ := hC3 j (by omega)
     obtain ⟨r, hr⟩ := hgj.hd
     exact ⟨gj, by rw [hsg, if_neg e]; exact hgj.at_, ⟨r, hr.but hB2 fun b hb hb2 => hr.ne hG3 (by decide) hb hb2⟩, hgj.far⟩
  ·have hke : k = hs.length := by have := of_decide_eq_false ht; omega
   refine Zjq ?_
   rw [hke] at hC
   exact ⟨rfl, ⟨by simp only [EV, Nat.reduceEqDiff, ↓reduceIte, he] <;> try rfl, by simp only [EV, Nat.reduceEqDiff, ↓reduceIte, he] <;> try rfl⟩, hB, hF, gc, hG, hC⟩
 clear he e hB hF hG gc υ
 rintro e υ ⟨he, hB, hF, gc, hG, hC⟩
 refine Zcb ?_
 refine Zah ?_
 refine Zaa (Zbu rfl (by simp only [EV, Nat.reduceEqDiff, ↓reduceIte, he] <;> try rfl) ?_)
 refine ZaD ?_
 refine ZlE (fun env υ => But (FS hs) σ υ) ?_ ?_
 ·apply Zta 0 5 14
  ·simp only [EV, Nat.reduceEqDiff, ↓reduceIte, he] <;> try rfl
  ·simp only [EV, Nat.reduceEqDiff, ↓reduceIte, he] <;> try rfl
  ·simp only [EV, Nat.reduceEqDiff, ↓reduceIte, he] <;> try rfl
  clear he e
  intro e he
  refine Ze1 ?_
  refine Zgk (fun μ env υ => ∃ (k : Nat), μ = hs.length - k /\ k <= hs.length /\ (env 0 = .lst A hs.length c (hs ++ r0) /\ env 5 = hdr gb hs.length gq /\ env 14 = vI k) /\ But (FS hs) σ υ /\ FA hs nn υ (fun j => mks mk j (nn j)) /\ Hd υ 29 1 (hdr gb hs.length gq) hs.length gc /\ ∀ j, j < hs.length -> ∃ g, FG hs nn mk false υ gc j g) ⟨_, 0, rfl, Nat.zero_le _, he, hB, hF, hG, hC⟩ ?_
  clear he e hB hF hG hC υ
  rintro _ e υ ⟨k, rfl, hk, he, hB, hF, hG, hC⟩
  refine Zcb ?_
  refine Zah ?_
  refine Zaa (Zbu rfl (by simp only [EV, Nat.reduceEqDiff, ↓reduceIte, he] <;> try rfl) ?_)
  refine Zaa (Zbu rfl (by simp only [EV, Nat.reduceEqDiff, ↓reduceIte, he] <;> try rfl) ?_)
  refine Zaa ?_
  apply ZkT (hts := rfl) (ht := ZdO)
  ·simp only [EV, Nat.reduceEqDiff, ↓reduceIte, he] <;> try rfl
  ·exact AV.val_lst _ _ _ _
  refine Zaa ?_
  refine Zia k hs.length (by simp only [EV, Nat.reduceEqDiff, ↓reduceIte, he] <;> try rfl) (by simp only [EV, Nat.reduceEqDiff, ↓reduceIte, he] <;> try rfl) ?_
  refine ZaD ?_
  apply Zre 0 5 14 155
  ·simp only [EV, Nat.reduceEqDiff, ↓reduceIte, he] <;> try rfl
  ·simp only [EV, Nat.reduceEqDiff, ↓reduceIte, he] <;> try rfl
  ·simp only [EV, Nat.reduceEqDiff, ↓reduceIte, he] <;> try rfl
  ·simp only [EV, Nat.reduceEqDiff, ↓reduceIte, he] <;> try rfl
  clear he e
  intro e he
  refine ZgQ (t := decide (k < hs.length)) (by simp only [EV, Nat.reduceEqDiff, ↓reduceIte, he] <;> try rfl) (fun ht => ?_) (fun ht => ?_)
  ·have hlt : k < hs.length := of_decide_eq_true ht
   obtain ⟨v, hv⟩ := hget k hlt
   obtain ⟨g, hg0⟩ := hC k hlt
   have hga := hg0.at_
   have hnk := hn k
   refine Zhv ?_
   refine ZgR ?_
   refine Zah ?_
   refine Zaa (Zbu rfl (by simp only [EV, Nat.reduceEqDiff, ↓reduceIte, he] <;> try rfl) ?_)
   refine ZaD ?_
   apply Zre 0 5 14 15
   ·simp only [EV, Nat.reduceEqDiff, ↓reduceIte, he] <;> try rfl
   ·simp only [EV, Nat.reduceEqDiff, ↓reduceIte, he] <;> try rfl
   ·simp only [EV, Nat.reduceEqDiff, ↓reduceIte, he] <;> try rfl
   ·simp only [EV, Nat.reduceEqDiff, ↓reduceIte, he] <;> try rfl
   clear he e
   intro e he
   refine ZyV (fun env υ => (env 0 = .lst A hs.length c (hs ++ r0) /\ env 5 = hdr gb hs.length gq /\ env 14 = vI k) /\ But (FS hs) σ υ /\ FA hs nn υ (fun j => mks mk j (nn j)) /\ Hd υ 29 1 (hdr gb hs.length gq) hs.length gc /\ ∀ j, j < hs.length -> ∃ g, FG hs nn mk false υ gc j g) ?_ ?_
   ·refine Ze1 ?_
    refine Zgk (fun μ env υ => ∃ (i : Nat), μ = nn k - i /\ i <= nn k /\ (env 0 = .lst A hs.length c (hs ++ r0) /\ env 5 = hdr gb hs.length gq /\ env 14 = vI k /\ env 15 = vI i) /\ But (FS hs) σ υ /\ FA hs nn υ (fun j => mks mk j (nn j)) /\ Hd υ 29 1 (hdr gb hs.length gq) hs.length gc /\ (∀ j, j < hs.length -> ∃ g, FG hs nn mk false υ gc j g) /\ FG hs nn mk false υ gc k g) ⟨_, 0, rfl, Nat.zero_le _, he, hB, hF, hG, hC, hg0⟩ ?_
    clear he e hB hF hG hC hg0 υ
    rintro _ e υ ⟨i, rfl, hi, he, hB, hF, hG, hC, hgk⟩
    have hH := hF k v hv
    refine Zcb ?_
    refine Zah ?_
    refine Zaa (Zbu rfl (by simp only [EV, Nat.reduceEqDiff, ↓reduceIte, he] <;> try rfl) ?_)
    refine Zaa (Zbu rfl (by simp only [EV, Nat.reduceEqDiff, ↓reduceIte, he] <;> try rfl) ?_)
    refine Zaa (Zbu rfl (by simp only [EV, Nat.reduceEqDiff, ↓reduceIte, he] <;> try rfl) ?_)
    refine Zaa ?_
    refine ZoZ (by simp only [EV, Nat.reduceEqDiff, ↓reduceIte, he] <;> try rfl) (by simp only [EV, Nat.reduceEqDiff, ↓reduceIte, he] <;> try rfl) hA ZdO Zcw hlt fun ad => ?_
    refine Zaa ?_
    refine Zo0 (by simp only [EV, Nat.reduceEqDiff, ↓reduceIte, he] <;> try rfl) hv Zib Zcw ?_
    refine Zaa ?_
    refine ZrL (by simp only [EV, Nat.reduceEqDiff, ↓reduceIte, he] <;> try rfl) hH rfl ZgY ?_
    refine Zaa ?_
    refine Zia i (nn k) (by simp only [EV, Nat.reduceEqDiff, ↓reduceIte, he] <;> try rfl) (by simp only [EV, Nat.reduceEqDiff, ↓reduceIte, he] <;> try rfl) ?_
    refine ZaD ?_
    apply Ztb 0 5 14 15 164
    ·simp only [EV, Nat.reduceEqDiff, ↓reduceIte, he] <;> try rfl
    ·simp only [EV, Nat.reduceEqDiff, ↓reduceIte, he] <;> try rfl
    ·simp only [EV, Nat.reduceEqDiff, ↓reduceIte, he] <;> try rfl
    ·simp only [EV, Nat.reduceEqDiff, ↓reduceIte, he] <;> try rfl
    ·simp only [EV, Nat.reduceEqDiff, ↓reduceIte, he] <;> try rfl
    clear he e
    intro e he
    refine ZgQ (t := decide (i < nn k)) (by simp only [EV, Nat.reduceEqDiff, ↓reduceIte, he] <;> try rfl) (fun ht => ?_) (fun ht => ?_)
    ·have hik : i < nn k := of_decide_eq_true ht
     have hat2 := ZuS hl k (nn k) i [] hik
     rw [List.append_nil] at hat2
     refine Zhv ?_
     refine ZgR ?_
     refine Zwq ?_
     refine ⟨[0, 1, 2, 4, 7, 8, 3, 5, 6, 9, 10, 11, 12, 13, 14, 15, 17, 20, 21, 16, 18, 19, 22, 23, 24, 25], [[], [], [0, 1], [0, 1, 2], [], [0, 1, 2, 3, 4], [0, 1, 2, 3, 4, 5], [], [], [7, 8], [0, 1, 2, 3, 4, 5, 6, 7, 8, 9], [0, 1, 2, 3, 4, 5, 6, 7, 8, 9, 10], [0, 1, 2, 3, 4, 5, 6, 7, 8, 9, 10, 11], [0, 1, 2, 3, 4, 5, 6, 7, 8, 9, 10, 11, 12], [0, 1, 2, 3, 4, 5, 6, 7, 8, 9, 10, 11, 12], [0, 1, 2, 3, 4, 5, 6, 7, 8, 9, 10, 11, 12, 13, 14], [0, 1, 2, 3, 4, 5, 6, 7, 8, 9, 10, 11, 12, 13, 14, 15], [0, 1, 2, 3, 4, 5, 6, 7, 8, 9, 10, 11, 12], [0, 1, 2, 3, 4, 5, 6, 7, 8, 9, 10, 11, 12, 13, 14, 15, 16, 17], [0, 1, 2, 3, 4, 5, 6, 7, 8, 9, 10, 11, 12, 13, 14, 15, 16, 17, 18], [0, 1, 2, 3, 4, 5, 6, 7, 8, 9, 10, 11, 12], [0, 1, 2, 3, 4, 5, 6, 7, 8, 9, 10, 11, 12], [0, 1, 2, 3, 4, 5, 6, 7, 8, 9, 10, 11, 12, 20, 21], [0, 1, 2, 3, 4, 5, 6, 7, 8, 9, 10, 11, 12, 13, 14, 15, 16, 17, 18, 19, 20, 21, 22], [0, 1, 2, 3, 4, 5, 6, 7, 8, 9, 10, 11, 12, 13, 14, 15, 16, 17, 18, 19, 20, 21, 22, 23], [0, 1, 2, 3, 4, 5, 6, 7, 8, 9, 10, 11, 12, 13, 14, 15, 16, 17, 18, 19, 20, 21, 22, 23, 24]], fun _ => True, [3, 6, 16, 19], [9, 22], [], by kernel_rfl, ?_⟩
     apply Zbc
     case hi => simp only [HIX]; try rfl
     case hw => rfl
     case how => rfl
     refine Zbu rfl (by simp only [EV, Nat.reduceEqDiff, ↓reduceIte, he] <;> try rfl) ?_
     refine Zex ?_
     apply Zbc
     case hi => simp only [HIX]; try rfl
     case hw => rfl
     case how => rfl
     refine Zbu rfl (by simp only [EV, Nat.reduceEqDiff, ↓reduceIte, he] <;> try rfl) ?_
     refine Zex ?_
     apply Zbc
     case hi => simp only [HIX]; try rfl
     case hw => rfl
     case how => rfl
     refine ZoZ (by simp only [EV, Nat.reduceEqDiff, ↓reduceIte, he] <;> try rfl) (by simp only [EV, Nat.reduceEqDiff, ↓reduceIte, he] <;> try rfl) hA ZdO Zcw hlt fun ad2 => ?_
     refine Zex ?_
     apply Zbc
     case hi => simp only [HIX]; try rfl
     case hw => rfl
     case how => rfl
     refine Zbu rfl (by simp only [EV, Nat.reduceEqDiff, ↓reduceIte, he] <;> try rfl) ?_
     refine Zex ?_
     apply Zbc
     case hi => simp only [HIX]; try rfl
     case hw => rfl
     case how => rfl
     refine Zbu rfl (by simp only [EV, Nat.reduceEqDiff, ↓reduceIte, he] <;> try rfl) ?_
     refine Zex ?_
     apply Zbc
     case hi => simp only [HIX]; try rfl
     case hw => rfl
     case how => rfl
     refine Zbu rfl (by simp only [EV, Nat.reduceEqDiff, ↓reduceIte, he] <;> try rfl) ?_
     refine Zex ?_
     apply Zbc
     case hi => simp only [HIX]; try rfl
     case hw => rfl
     case how => rfl
     refine Zo0 (by simp only [EV, Nat.reduceEqDiff, ↓reduceIte, he] <;> try rfl) hv Zib Zcw ?_
     refine Zex ?_
     apply Zbc
     case hi => simp only [HIX]; try rfl
     case hw => rfl
     case how => rfl
     refine Zfl (k := .i64) (j := i) (by simp only [EV, Nat.reduceEqDiff, ↓reduceIte, he] <;> try rfl) (by simp only [EV, Nat.reduceEqDiff, ↓reduceIte, he] <;> try rfl) ZgY Zgv hH hik fun b4 hb4 => ?_
     refine Zex ?_
     apply Zbc
     case hi => simp only [HIX]; try rfl
     case hw => rfl
     case how => rfl
     refine ZyX (by simp only [EV, Nat.reduceEqDiff, ↓reduceIte, he] <;> try rfl) hH hb4 hik ZmR Zgv ?_
     rw [hat2]
     refine Zex ?_
     apply Zbc
     case hi => simp only [HIX]; try rfl
     case hw => rfl
     case how => rfl
     refine ZcZ (vs := [vI k, vI i]) (by simp only [List.map_cons, List.map_nil, EV, Nat.reduceEqDiff, ↓reduceIte, he]) ?_
     refine hmk k i _ _ fun τ hτ => ⟨fun _ => hτ, ?_⟩
     have hB2 := hB.trans hτ.but
     have hF2 := hF.ext hτ
     have hG2 := hG.ext hτ
     have hC2 : ∀ j, j < hs.length -> ∃ g, FG hs nn mk false τ gc j g := fun j hj => (hC j hj).imp fun g h => h.ext hτ
     have hgk2 := hgk.ext hτ
     clear hB hF hG hC hgk hH
     obtain ⟨r, hgd⟩ := hgk2.hd
     rw [if_neg Bool.false_ne_true] at hgd
     have hat := ZuS hl k (nn k) i r hik
     apply Zbc
     case hi => simp only [HIX]; try rfl
     case hw => rfl
     case how => rfl
     refine ZlF (by simp only [EV, Nat.reduceEqDiff, ↓reduceIte, he] <;> try rfl) (by simp only [EV, Nat.reduceEqDiff, ↓reduceIte, he] <;> try rfl) ZyY (by omega) ZyZ ZmR (hfit k i) ?_
     refine Zex ?_
     apply Zbc
     case hi => simp only [HIX]; try rfl
     case hw => rfl
     case how => rfl
     with_reducible apply ZuQ
     case hx => simp only [EV, Nat.reduceEqDiff, ↓reduceIte, he] <;> try rfl
     refine Zex ?_
     apply Zbc
     case hi => simp only [HIX]; try rfl
     case hw => rfl
     case how => rfl
     refine Zbu rfl (by simp only [EV, Nat.reduceEqDiff, ↓reduceIte, he] <;> try rfl) ?_
     refine Zex ?_
     apply Zbc
     case hi => simp only [HIX]; try rfl
     case hw => rfl
     case how => rfl
     refine Zbu rfl (by simp only [EV, Nat.reduceEqDiff, ↓reduceIte, he] <;> try rfl) ?_
     refine Zex ?_
     apply Zbc
     case hi => simp only [HIX]; try rfl
     case hw => rfl
     case how => rfl
     refine Zbu rfl (by simp only [EV, Nat.reduceEqDiff, ↓reduceIte, he] <;> try rfl) ?_
     refine Zex ?_
     apply Zbc
     case hi => simp only [HIX]; try rfl
     case hw => rfl
     case how => rfl
     refine Zfl (k := .i64) (j := k) (by simp only [EV, Nat.reduceEqDiff, ↓reduceIte, he] <;> try rfl) (by simp only [EV, Nat.reduceEqDiff, ↓reduceIte, he] <;> try rfl) ZdO Zcw hG2 hlt fun b2 hb2 => ?_
     refine Zex ?_
     apply Zbc
     case hi => simp only [HIX]; try rfl
     case hw => rfl
     case how => rfl
     refine Zbu rfl (by simp only [EV, Nat.reduceEqDiff, ↓reduceIte, he] <;> try rfl) ?_
     refine Zex ?_
     apply Zbc
     case hi => simp only [HIX]; try rfl
     case hw => rfl
     case how => rfl
     refine Zbu rfl (by simp only [EV, Nat.reduceEqDiff, ↓reduceIte, he] <;> try rfl) ?_
     refine Zex ?_
     apply Zbc
     case hi => simp only [HIX]; try rfl
     case hw => rfl
     case how => rfl
     refine Zbu rfl (by simp only [EV, Nat.reduceEqDiff, ↓reduceIte, he] <;> try rfl) ?_
     refine Zex ?_
     apply Zbc
     case hi => simp only [HIX]; try rfl
     case hw => rfl
     case how => rfl
     refine Zxo (by simp only [EV, Nat.reduceEqDiff, ↓reduceIte, he] <;> try rfl) hG2 hb2 hlt hga Zib Zcw ?_
     refine Zex ?_
     apply Zbc
     case hi => simp only [HIX]; try rfl
     case hw => rfl
     case how => rfl
     refine Zfl (k := .i64) (j := i) (by simp only [EV, Nat.reduceEqDiff, ↓reduceIte, he] <;> try rfl) (by simp only [EV, Nat.reduceEqDiff, ↓reduceIte, he] <;> try rfl) ZgY Zgv hgd (by omega) fun b3 hb3 => ?_
     refine Zex ?_
     apply Zbc
     case hi => simp only [HIX]; try rfl
     case hw => rfl
     case how => rfl
     refine ZyX (by simp only [EV, Nat.reduceEqDiff, ↓reduceIte, he] <;> try rfl) hgd hb3 (by omega) ZmR Zgv ?_
     rw [hat]
     refine Zex ?_
     apply Zbc
     case hi => simp only [HIX]; try rfl
     case hw => rfl
     case how => rfl
     refine ZcZ (vs := [vI k, vI i]) (by simp only [List.map_cons, List.map_nil, EV, Nat.reduceEqDiff, ↓reduceIte, he]) ?_
     refine hmk k i _ _ fun τ2 hτ2 => ⟨fun _ => hτ2, ?_⟩
     apply Zbc
     case hi => simp only [HIX]; try rfl
     case hw => rfl
     case how => rfl
     refine ZlF (by simp only [EV, Nat.reduceEqDiff, ↓reduceIte, he] <;> try rfl) (by simp only [EV, Nat.reduceEqDiff, ↓reduceIte, he] <;> try rfl) ZyY (by omega) ZyZ ZmR (hfit k i) ?_
     refine Zex ?_
     apply Zbc
     case hi => simp only [HIX]; try rfl
     case hw => rfl
     case how => rfl
     with_reducible apply ZuQ
     case hx => simp only [EV, Nat.reduceEqDiff, ↓reduceIte, he] <;> try rfl
     refine Zex ?_
     apply Zbc
     case hi => simp only [HIX]; try rfl
     case hw => rfl
     case how => rfl
     refine Znm (by simp only [EV, Nat.reduceEqDiff, ↓reduceIte, he] <;> try rfl) (by simp only [EV, Nat.reduceEqDiff, ↓reduceIte, he] <;> try rfl) ?_
     refine Zex ?_
     refine ZyW ?_
     apply Ztb 0 5 14 15 192
     ·simp only [EV, Nat.reduceEqDiff, ↓reduceIte, he] <;> try rfl
     ·simp only [EV, Nat.reduceEqDiff, ↓reduceIte, he] <;> try rfl
     ·simp only [EV, Nat.reduceEqDiff, ↓reduceIte, he] <;> try rfl
     ·simp only [EV, Nat.reduceEqDiff, ↓reduceIte, he] <;> try rfl
     ·simp only [EV, Nat.reduceEqDiff, ↓reduceIte, he] <;> try rfl
     clear he e
     intro e he
     refine Zp0 (by simp only [EV, Nat.reduceEqDiff, ↓reduceIte, he] <;> try rfl) ?_
     refine Zs9 ?_
     show ZaY _ _ _ _ _ _
     refine Zb7 ?_
     refine Zaa (Zbu rfl (by simp only [EV, Nat.reduceEqDiff, ↓reduceIte, he] <;> try rfl) ?_)
     refine Zaa ?_
     refine ZhA i 1 (by simp only [EV, Nat.reduceEqDiff, ↓reduceIte, he] <;> try rfl) (by simp only [EV, Nat.reduceEqDiff, ↓reduceIte, he] <;> try rfl) (by omega) ?_
     refine Zaa (Zbu rfl (by simp only [EV, Nat.reduceEqDiff, ↓reduceIte, he] <;> try rfl) ?_)
     refine ZaD ?_
     show ∃ n', n' < _ /\ _
     exact ⟨_, (by omega : nn k - (i + 1) < nn k - i), i + 1, rfl, hik, ⟨by simp only [EV, Nat.reduceEqDiff, ↓reduceIte, he] <;> try rfl, by simp only [EV, Nat.reduceEqDiff, ↓reduceIte, he] <;> try rfl, by simp only [EV, Nat.reduceEqDiff, ↓reduceIte, he] <;> try rfl, by simp only [EV, Nat.reduceEqDiff, ↓reduceIte, he] <;> try rfl⟩, hB2.trans hτ2.but, hF2.ext hτ2, hG2.ext hτ2, fun j hj => (hC2 j hj).imp fun g h => h.ext hτ2, hgk2.ext hτ2⟩
    ·refine Zjq ?_
     exact ⟨rfl, ⟨by simp only [EV, Nat.reduceEqDiff, ↓reduceIte, he] <;> try rfl, by simp only [EV, Nat.reduceEqDiff, ↓reduceIte, he] <;> try rfl, by simp only [EV, Nat.reduceEqDiff, ↓reduceIte, he] <;> try rfl⟩, hB, hF, hG, hC⟩
   ·clear he e hB hF hG hC hg0 υ
    rintro e υ ⟨he, hB, hF, hG, hC⟩
    show ZaY _ _ _ _ _ _
    refine Zb7 ?_
    refine Zaa (Zbu rfl (by simp only [EV, Nat.reduceEqDiff, ↓reduceIte, he] <;> try rfl) ?_)
    refine Zaa ?_
    refine ZhA k 1 (by simp only [EV, Nat.reduceEqDiff, ↓reduceIte, he] <;> try rfl) (by simp only [EV, Nat.reduceEqDiff, ↓reduceIte, he] <;> try rfl) (by omega) ?_
    refine Zaa (Zbu rfl (by simp only [EV, Nat.reduceEqDiff, ↓reduceIte, he] <;> try rfl) ?_)
    refine ZaD ?_
    show ∃ n', n' < _ /\ _
    exact ⟨_, (by omega : hs.length - (k + 1) < hs.length - k), k + 1, rfl, hlt, ⟨by simp only [EV, Nat.reduceEqDiff, ↓reduceIte, he] <;> try rfl, by simp only [EV, Nat.reduceEqDiff, ↓reduceIte, he] <;> try rfl, by simp only [EV, Nat.reduceEqDiff, ↓reduceIte, he] <;> try rfl⟩, hB, hF, hG, hC⟩
  ·refine Zjq ?_
   exact ⟨rfl, hB⟩
 clear he e hB hF hG hC gc υ
 intro e υ hB
 have he := trivial
 refine Zah ?_
 refine Zaa (Zbu rfl (by simp only [EV, Nat.reduceEqDiff, ↓reduceIte, he] <;> try rfl) ?_)
 refine ZaD ?_
 refine ZdD ?_
 show ∃ r, Zc8 _ _ _ _ r /\ _
 exact ⟨_, ZcA rfl (by simp only [EV, Nat.reduceEqDiff, ↓reduceIte, he] <;> try rfl), rfl, hB⟩
end Go.Proofs.YtlmmpfbdgiokmaaGreat
