/- XDn, XDp, XDo, XDq, XDr, XDs, XDu in one. -/
import Derived.Test.YteempnebenjkmaaDoorBy
namespace Go.Proofs.YteempnebenjkmaaDoor
open Go.RowKit
set_option maxRecDepth 100000
set_option linter.unusedVariables false
set_option linter.unusedSimpArgs false
section
variable {σ : St} {bb mb : Nat} {S : Nat -> Prop} {fs : List Fl} {pcs : List (Nat × Nat)} {size : Int} {pv : AV} {K : AV -> St -> Prop}
theorem Zjx (h : DAt σ bb S fs pcs size mb pv) (hK : K (vT true) σ) : Zay Tryd.prog 34 [ptr bb 0] σ K := by
 refine ZaG ZaN Tryd.func34 rfl rfl rfl (Nat.le_of_ble_eq_true rfl) ?_
 refine ZdI 0 (v0 := ptr bb 0) rfl ?_
 intro e he
 refine Zaa ?_
 refine Zab (Zak rfl (by simp only [EV, Nat.reduceEqDiff, ↓reduceIte, he] <;> try rfl) ?_)
 refine Zah ?_
 apply ZdI 0
 ·simp only [EV, Nat.reduceEqDiff, ↓reduceIte, he] <;> try rfl
 clear he e
 intro e he
 refine Zaa ?_
 refine Zab (Zak rfl (by simp only [EV, Nat.reduceEqDiff, ↓reduceIte, he] <;> try rfl) ?_)
 refine Zab ?_
 refine ZiZ (p := some ⟨bb, 0, none⟩) Zz2 (by simp only [EV, Nat.reduceEqDiff, ↓reduceIte, he] <;> try rfl) rfl (by simp only [EV, Nat.reduceEqDiff, ↓reduceIte, he] <;> try rfl) ?_
 refine Zab (Zak rfl (by simp only [EV, Nat.reduceEqDiff, ↓reduceIte, he] <;> try rfl) ?_)
 refine Zab (ZaE (Zg8 rfl (by simp only [EV, Nat.reduceEqDiff, ↓reduceIte, he] <;> try rfl)) ?_)
 refine Zak rfl (by simp only [EV, Nat.reduceEqDiff, ↓reduceIte, he] <;> try rfl) ?_
 refine Zab (ZaE (Zg8 rfl (by simp only [EV, Nat.reduceEqDiff, ↓reduceIte, he] <;> try rfl)) ?_)
 refine Zau (v := ptr bb 0) (by simp only [EV, Nat.reduceEqDiff, ↓reduceIte, he] <;> try rfl) rfl ?_
 refine Zab (ZaE (Zg8 rfl (by simp only [EV, Nat.reduceEqDiff, ↓reduceIte, he] <;> try rfl)) ?_)
 refine Zaf (b := bb) (o := 0) (by simp only [EV, Nat.reduceEqDiff, ↓reduceIte, he] <;> try rfl) Zcg rfl ?_
 refine Zab (ZaE (Zg8 rfl (by simp only [EV, Nat.reduceEqDiff, ↓reduceIte, he] <;> try rfl)) ?_)
 refine ZaD (b := bb) (o := 0 + 1) (r := ZdZ mb) (by simp only [EV, Nat.reduceEqDiff, ↓reduceIte, he] <;> try rfl) h.obj Ze6 Ze5 rfl ?_
 refine Zab (ZaE (Zg8 rfl (by simp only [EV, Nat.reduceEqDiff, ↓reduceIte, he] <;> try rfl)) ?_)
 refine Zwq Zg3 (by simp only [EV, Nat.reduceEqDiff, ↓reduceIte, he] <;> try rfl) (by simp only [EV, Nat.reduceEqDiff, ↓reduceIte, he] <;> try rfl) ?_
 refine Zab ?_
 refine Zc8 (v := vT true) (by simp only [EV, Nat.reduceEqDiff, ↓reduceIte, he] <;> try rfl) (by simp only [EV, Nat.reduceEqDiff, ↓reduceIte, he] <;> try rfl) ?_
 refine Zab (Zak rfl (by simp only [EV, Nat.reduceEqDiff, ↓reduceIte, he] <;> try rfl) ?_)
 refine Zah ?_
 refine Zbm ?_
 show ∃ r, Zaq _ _ _ _ r /\ _
 exact ⟨_, ZaZ rfl (by simp only [EV, Nat.reduceEqDiff, ↓reduceIte, he] <;> try rfl), hK⟩
theorem Zz6 {sz : Int} (hK : ∀ bb mb τ, DAt τ bb (fun b => b = bb \/ b = mb) [] [] sz mb (.lst none 0 0 []) -> Ext σ τ -> Zgq σ bb -> Zgq σ mb -> K (ptr bb 0) τ) : Zay Tryd.prog 11 [.raw (.int .i64 sz)] σ K := by
 refine ZaG ZaN Tryd.func11 rfl rfl rfl (Nat.le_of_ble_eq_true rfl) ?_
 refine ZdI 0 (v0 := .raw (.int .i64 sz)) rfl ?_
 intro e he
 refine Zaa ?_
 refine Zab (Zak rfl (by simp only [EV, Nat.reduceEqDiff, ↓reduceIte, he] <;> try rfl) ?_)
 refine Zah ?_
 apply ZdI 0
 ·simp only [EV, Nat.reduceEqDiff, ↓reduceIte, he] <;> try rfl
 clear he e
 intro e he
 refine Zaa ?_
 refine Zab ?_
 refine ZsZ (hm := Zg3) fun mb hu1 hn1 => ?_
 refine Zab (Zak rfl (by simp only [EV, Nat.reduceEqDiff, ↓reduceIte, he] <;> try rfl) ?_)
 refine Zab ?_
 refine Zhc (vs := [ZdZ mb, .raw (.int .i64 sz)]) (cells := [.lst none 0 0 [], ZdZ mb, .raw (.int .i64 sz)]) (by simp only [List.map_cons, List.map_nil, EV, Nat.reduceEqDiff, ↓reduceIte, he]; try rfl) Zyo Zyq rfl ?_
 refine Zab ?_
 refine Zk0 (by simp only [EV, Nat.reduceEqDiff, ↓reduceIte, he] <;> try rfl) rfl fun bb τ hn2 hu2 hb2 hub2 hX2 => ?_
 refine Zab (Zak rfl (by simp only [EV, Nat.reduceEqDiff, ↓reduceIte, he] <;> try rfl) ?_)
 refine Zah ?_
 refine Zbm ?_
 show ∃ r, Zaq _ _ _ _ r /\ _
 have hX1 : Ext σ (σ.put mb (.map [])) := Ext.put _ hn1
 have hmb : τ.blk mb = some (.map []) := hX2.keep _ _ (Za3 _ _ _)
 refine ⟨_, ZaZ rfl (by simp only [EV, Nat.reduceEqDiff, ↓reduceIte, he] <;> try rfl), hK bb mb τ ⟨hb2, hub2, hmb, hX2.used _ (.inr rfl), fun f hf => by simp at hf, .nil, .nil, fun f hf => by simp at hf, ⟨rfl, by simp [pcC], .inl ⟨.inl rfl, rfl⟩⟩, ⟨.inl rfl, .inr rfl, fun f hf => by simp at hf, fun x hx => by cases hx⟩, fun p hp => by simp at hp⟩ (hX1.trans hX2) (Zgq.of ⟨hn2, hu2⟩ hX1) ⟨hn1, hu1⟩⟩
set_option maxHeartbeats 1000000 in
theorem ZuU (h : DAt σ bb S fs pcs size mb pv) (hs : Zgr pcs <= 1000000000) (hl : pcs.length <= 1000000000) (hK : ∀ τ, Ext σ τ -> K (.raw (.int .i64 (Zgr pcs : Int))) τ) : Zay Tryd.prog 35 [ptr bb 0] σ K := by
 have hps := h.pc
 refine ZaG ZaN Tryd.func35 rfl rfl rfl (Nat.le_of_ble_eq_true rfl) ?_
 refine ZdI 0 (v0 := ptr bb 0) rfl ?_
 intro e he
 refine Zaa ?_
 refine Zab (Zak rfl (by simp only [EV, Nat.reduceEqDiff, ↓reduceIte, he] <;> try rfl) ?_)
 refine Zah ?_
 refine Zaa ?_
 refine Zab (Zak rfl (by simp only [EV, Nat.reduceEqDiff, ↓reduceIte, he] <;> try rfl) ?_)
 refine Zah ?_
 apply Zb5 0 2 3
 ·simp only [EV, Nat.reduceEqDiff, ↓reduceIte, he] <;> try rfl
 ·simp only [EV, Nat.reduceEqDiff, ↓reduceIte, he] <;> try rfl
 ·simp only [EV, Nat.reduceEqDiff, ↓reduceIte, he] <;> try rfl
 clear he e
 intro e he
 refine Zhy (fun env υ => env 3 = vI (Zgr pcs) /\ Ext σ υ) ?_ ?_
 ·first | refine Zaa ?_ | refine Zad ?_ | (refine Zac ?_; refine Zaa ?_) | (refine Zac ?_; refine Zac ?_; refine Zaa ?_)
  refine Zab (Zak rfl (by simp only [EV, Nat.reduceEqDiff, ↓reduceIte, he] <;> try rfl) ?_)
  refine Zab ?_
  refine Zau (v := ptr bb 0) (by simp only [EV, Nat.reduceEqDiff, ↓reduceIte, he] <;> try rfl) rfl ?_
  refine Zab ?_
  refine Zaf (b := bb) (o := 0) (by simp only [EV, Nat.reduceEqDiff, ↓reduceIte, he] <;> try rfl) ZdF rfl ?_
  refine Zab ?_
  refine ZaD (b := bb) (o := 0) (r := pv) (by simp only [EV, Nat.reduceEqDiff, ↓reduceIte, he] <;> try rfl) h.obj ZfS ZdG rfl ?_
  refine Zab ?_
  refine Zjs (by simp only [EV, Nat.reduceEqDiff, ↓reduceIte, he] <;> try rfl) hps rfl Zck ?_
  refine Zab (Zak rfl (by simp only [EV, Nat.reduceEqDiff, ↓reduceIte, he] <;> try rfl) ?_)
  refine Zah ?_
  apply ZcU 3 9 10 11
  ·simp only [EV, Nat.reduceEqDiff, ↓reduceIte, he] <;> try rfl
  ·simp only [EV, Nat.reduceEqDiff, ↓reduceIte, he] <;> try rfl
  ·simp only [EV, Nat.reduceEqDiff, ↓reduceIte, he] <;> try rfl
  ·simp only [EV, Nat.reduceEqDiff, ↓reduceIte, he] <;> try rfl
  clear he e
  intro e he
  refine Zfl ?_
  refine Zgz (fun μ env υ => ∃ i : Nat, μ = pcs.length - i /\ i <= pcs.length /\ (env 3 = vI (Zgr (pcs.take i)) /\ env 9 = pv /\ env 10 = vI pcs.length /\ env 11 = vI i) /\ Ext σ υ) ⟨_, 0, rfl, Nat.zero_le _, he, .refl _⟩ ?_
  clear he e
  rintro _ e υ ⟨i, rfl, hi, he, hX⟩
  refine Zaa ?_
  refine Zab ?_
  refine Zmv i pcs.length (by simp only [EV, Nat.reduceEqDiff, ↓reduceIte, he] <;> try rfl) (by simp only [EV, Nat.reduceEqDiff, ↓reduceIte, he] <;> try rfl) ?_
  refine Zah ?_
  apply Zg6 3 9 10 11 12
  ·simp only [EV, Nat.reduceEqDiff, ↓reduceIte, he] <;> try rfl
  ·simp only [EV, Nat.reduceEqDiff, ↓reduceIte, he] <;> try rfl
  ·simp only [EV, Nat.reduceEqDiff, ↓reduceIte, he] <;> try rfl
  ·simp only [EV, Nat.reduceEqDiff, ↓reduceIte, he] <;> try rfl
  ·simp only [EV, Nat.reduceEqDiff, ↓reduceIte, he] <;> try rfl
  clear he e
  intro e he
  refine Zbu (t := decide (i < pcs.length)) (by simp only [EV, Nat.reduceEqDiff, ↓reduceIte, he] <;> try rfl) (fun ht => ?_) (fun ht => ?_)
  ·have hlt : i < pcs.length := of_decide_eq_true ht
   have hp := hps.ext hX
   have hcell : ((pcC pcs).drop (i * 2)).take 2 = [ptr pcs[i].1 0, .raw (.int .i64 (pcs[i].2 : Int))] := by
    have h1 : pcs = pcs.take i ++ (pcs[i] :: pcs.drop (i + 1)) := by
     rw [<- List.drop_eq_getElem_cons hlt, List.take_append_drop]
    conv => lhs; rw [h1]
    rw [Zmx, List.drop_append, ZqW, List.length_take, Nat.min_eq_left (by omega), Nat.sub_self, List.drop_zero, List.drop_eq_nil_of_le (by rw [ZqW, List.length_take]; omega)]
    rfl
   have hsum : Zgr (pcs.take (i + 1)) = Zgr (pcs.take i) + pcs[i].2 := by
    unfold Zgr
    rw [List.take_succ_eq_append_getElem hlt, List.map_append, List.sum_append]
    simp
   have hle : Zgr (pcs.take (i + 1)) <= Zgr pcs := by
    unfold Zgr
    conv => rhs; rw [<- List.take_append_drop (i + 1) pcs, List.map_append, List.sum_append]
    omega
   refine Zb2 ?_
   refine Zej ?_
   refine Zaa ?_
   refine Zab ?_
   refine ZdE (k := .i64) (j := i) (by simp only [EV, Nat.reduceEqDiff, ↓reduceIte, he] <;> try rfl) (by simp only [EV, Nat.reduceEqDiff, ↓reduceIte, he] <;> try rfl) Zck ZbJ hp hlt fun b hb => ?_
   refine Zab ?_
   refine Zwj (by simp only [EV, Nat.reduceEqDiff, ↓reduceIte, he] <;> try rfl) hp hb hlt Zkt ZbJ ?_
   rw [hcell]
   refine Zab ?_
   refine ZdQ ZiP rfl fun b5 υ5 hn5 hu5 hb5 hub5 hX5 => ?_
   refine Zab ?_
   refine ZcS (b := b5) (o := 0) (u := .agg [ptr pcs[i].1 0, .raw (.int .i64 (pcs[i].2 : Int))]) (cs' := [ptr pcs[i].1 0, .raw (.int .i64 (pcs[i].2 : Int))]) (by simp only [EV, Nat.reduceEqDiff, ↓reduceIte, he] <;> try rfl) (by simp only [EV, Nat.reduceEqDiff, ↓reduceIte, he] <;> try rfl) hb5 ZbJ rfl rfl fun υ6 hb6 k6 => ?_
   refine Zah ?_
   refine Zad ?_
   refine Zab (Zak rfl (by simp only [EV, Nat.reduceEqDiff, ↓reduceIte, he] <;> try rfl) ?_)
   refine Zab ?_
   refine Zaf (b := b5) (o := 0) (by simp only [EV, Nat.reduceEqDiff, ↓reduceIte, he] <;> try rfl) ZgP rfl ?_
   refine Zab ?_
   refine ZaD (b := b5) (o := 0 + 1) (r := .raw (.int .i64 (pcs[i].2 : Int))) (by simp only [EV, Nat.reduceEqDiff, ↓reduceIte, he] <;> try rfl) hb6 ZpT ZnC rfl ?_
   refine Zab ?_
   refine Zhz (Zgr (pcs.take i)) (pcs[i].2) (by simp only [EV, Nat.reduceEqDiff, ↓reduceIte, he] <;> try rfl) (by simp only [EV, Nat.reduceEqDiff, ↓reduceIte, he] <;> try rfl) (by omega) ?_
   refine Zab (Zak rfl (by simp only [EV, Nat.reduceEqDiff, ↓reduceIte, he] <;> try rfl) ?_)
   refine Zah ?_
   show ZaP _ _ _ _ _ _
   refine Zad ?_
   refine Zab ?_
   refine Zhz i 1 (by simp only [EV, Nat.reduceEqDiff, ↓reduceIte, he] <;> try rfl) (by simp only [EV, Nat.reduceEqDiff, ↓reduceIte, he] <;> try rfl) (by omega) ?_
   refine Zab (Zak rfl (by simp only [EV, Nat.reduceEqDiff, ↓reduceIte, he] <;> try rfl) ?_)
   refine Zah ?_
   show ∃ n', n' < _ /\ _
   refine ⟨_, (by omega : pcs.length - (i + 1) < pcs.length - i), i + 1, rfl, hlt, ⟨?_, by simp only [EV, Nat.reduceEqDiff, ↓reduceIte, he] <;> try rfl, by simp only [EV, Nat.reduceEqDiff, ↓reduceIte, he] <;> try rfl, by simp only [EV, Nat.reduceEqDiff, ↓reduceIte, he] <;> try rfl⟩, But.ext (hX.trans hX5) (fun g hg => by rw [hg]; exact hX.noneOf hn5) k6⟩
   rw [hsum]
   simp only [EV, Nat.reduceEqDiff, ↓reduceIte, he] <;> try rfl
  ·have hke : i = pcs.length := by have := of_decide_eq_false ht; omega
   subst hke
   rw [List.take_length] at he
   refine Zia ?_
   exact ⟨rfl, by simp only [EV, Nat.reduceEqDiff, ↓reduceIte, he] <;> try rfl, hX⟩
 clear he e
 rintro e υ ⟨he, hX⟩
 refine Zaa ?_
 refine Zab (Zak rfl (by simp only [EV, Nat.reduceEqDiff, ↓reduceIte, he] <;> try rfl) ?_)
 refine Zab (Zak rfl (by simp only [EV, Nat.reduceEqDiff, ↓reduceIte, he] <;> try rfl) ?_)
 refine Zah ?_
 refine Zbm ?_
 show ∃ r, Zaq _ _ _ _ r /\ _
 exact ⟨_, ZaZ rfl (by simp only [EV, Nat.reduceEqDiff, ↓reduceIte, he] <;> try rfl), hK υ hX⟩
end
end Go.Proofs.YteempnebenjkmaaDoor
namespace Go.Proofs.YteempnebenjkmaaDoor
open Go.RowKit
set_option maxRecDepth 100000
set_option linter.unusedVariables false
set_option linter.unusedSimpArgs false
theorem ZrU (l : List (Nat × Nat)) (k : Nat) : (pcC l).take (k * 2) = pcC (l.take k) := by
 induction k generalizing l with
 | zero => rfl
 | succ k ih =>
  cases l with
  | nil => simp [pcC]
  | cons p l =>
   have : (k + 1) * 2 = k * 2 + 1 + 1 := by omega
   rw [this]
   show ptr p.1 0 :: .raw (.int .i64 (p.2 : Int)) :: (pcC l).take (k * 2) = ptr p.1 0 :: .raw (.int .i64 (p.2 : Int)) :: pcC (l.take k)
   rw [ih]
theorem Zox (l : List (Nat × Nat)) (k : Nat) : (pcC l).drop (k * 2) = pcC (l.drop k) := by
 induction k generalizing l with
 | zero => rfl
 | succ k ih =>
  cases l with
  | nil => simp [pcC]
  | cons p l =>
   have : (k + 1) * 2 = k * 2 + 1 + 1 := by omega
   rw [this]
   show (pcC l).drop (k * 2) = pcC (l.drop k)
   exact ih l
theorem ZqY {l : List (Nat × Nat)} {i : Nat} (h : i < l.length) : ((pcC l).drop (i * 2)).take 2 = [ptr l[i].1 0, .raw (.int .i64 (l[i].2 : Int))] := by
 rw [Zox, List.drop_eq_getElem_cons h]
 rfl
theorem Zyz {l : List (Nat × Nat)} {k : Nat} (p : Nat × Nat) (h : k < l.length) : ZaF (pcC l) (k * 2) [ptr p.1 0, .raw (.int .i64 (p.2 : Int))] = pcC (l.set k p) := by
 unfold ZaF
 rw [ZrU, List.length_cons, List.length_cons, List.length_nil, show k * 2 + (0 + 1 + 1) = (k + 1) * 2 by omega, Zox, List.set_eq_take_append_cons_drop, if_pos h, Zmx]
 simp [pcC]
abbrev pcV (p : Nat × Nat) : AV := .agg [ptr p.1 0, .raw (.int .i64 (p.2 : Int))]
abbrev fnV (g : FuncId) (caps : Array Value) : AV := .raw (.func (.func g) #[] caps)
def Zxg (g : FuncId) (caps : Array Value) (q : Nat × Nat -> Bool) (l : List (Nat × Nat)) (υ : St) : Prop := ∀ p ∈ l, ∀ K : AV -> St -> Prop, (∀ τ, Ext υ τ -> K (vT (q p)) τ) -> Zay Tryd.prog g ([pcV p] ++ caps.toList.map .raw) υ K
section
variable {σ : St} {pv : AV} {pcs : List (Nat × Nat)} {g : FuncId} {caps : Array Value} {q : Nat × Nat -> Bool} {K : AV -> St -> Prop}
theorem Zwz (h : Hd σ 85 2 pv pcs.length (pcC pcs)) (hl : pcs.length <= 1000000000) (hq : ∀ υ, Ext σ υ -> Zxg g caps q pcs υ) (hK1 : ∀ τ, Ext σ τ -> (∀ p ∈ pcs, q p = false) -> K (.raw (.int .i64 (-1))) τ) (hK2 : ∀ τ i (hi : i < pcs.length), Ext σ τ -> (∀ p ∈ pcs.take i, q p = false) -> q pcs[i] = true -> K (vI i) τ) : Zay Tryd.prog 82 [pv, fnV g caps] σ K := by
 refine ZaG ZaN Tryd.func82 rfl rfl rfl (Nat.le_of_ble_eq_true rfl) ?_
 refine ZcT 0 1 (v0 := pv) (v1 := fnV g caps) rfl rfl ?_
 intro e he
 first | refine Zaa ?_ | refine Zad ?_ | (refine Zac ?_; refine Zaa ?_) | (refine Zac ?_; refine Zac ?_; refine Zaa ?_)
 refine Zab (Zak rfl (by simp only [EV, Nat.reduceEqDiff, ↓reduceIte, he] <;> try rfl) ?_)
 refine Zah ?_
 apply ZcT 0 1
 ·simp only [EV, Nat.reduceEqDiff, ↓reduceIte, he] <;> try rfl
 ·simp only [EV, Nat.reduceEqDiff, ↓reduceIte, he] <;> try rfl
 clear he e
 intro e he
 first | refine Zaa ?_ | refine Zad ?_ | (refine Zac ?_; refine Zaa ?_) | (refine Zac ?_; refine Zac ?_; refine Zaa ?_)
 refine Zab (Zak rfl (by simp only [EV, Nat.reduceEqDiff, ↓reduceIte, he] <;> try rfl) ?_)
 refine Zab ?_
 refine Zjs (by simp only [EV, Nat.reduceEqDiff, ↓reduceIte, he] <;> try rfl) h rfl Zck ?_
 refine Zab (Zak rfl (by simp only [EV, Nat.reduceEqDiff, ↓reduceIte, he] <;> try rfl) ?_)
 refine Zah ?_
 apply ZcU 0 1 7 8
 ·simp only [EV, Nat.reduceEqDiff, ↓reduceIte, he] <;> try rfl
 ·simp only [EV, Nat.reduceEqDiff, ↓reduceIte, he] <;> try rfl
 ·simp only [EV, Nat.reduceEqDiff, ↓reduceIte, he] <;> try rfl
 ·simp only [EV, Nat.reduceEqDiff, ↓reduceIte, he] <;> try rfl
 clear he e
 intro e he
 refine Zej ?_
 refine Zgz (fun μ env υ => ∃ i : Nat, μ = pcs.length - i /\ i <= pcs.length /\ (env 0 = pv /\ env 1 = fnV g caps /\ env 7 = vI pcs.length /\ env 8 = vI i) /\ Ext σ υ /\ ∀ p ∈ pcs.take i, q p = false) ⟨_, 0, rfl, Nat.zero_le _, he, .refl _, by simp⟩ ?_
 clear he e
 rintro _ e υ ⟨i, rfl, hi, he, hX, hpre⟩
 first | refine Zaa ?_ | refine Zad ?_ | (refine Zac ?_; refine Zaa ?_) | (refine Zac ?_; refine Zac ?_; refine Zaa ?_)
 refine Zab ?_
 refine Zmv i pcs.length (by simp only [EV, Nat.reduceEqDiff, ↓reduceIte, he] <;> try rfl) (by simp only [EV, Nat.reduceEqDiff, ↓reduceIte, he] <;> try rfl) ?_
 refine Zah ?_
 apply Zg6 0 1 7 8 9
 ·simp only [EV, Nat.reduceEqDiff, ↓reduceIte, he] <;> try rfl
 ·simp only [EV, Nat.reduceEqDiff, ↓reduceIte, he] <;> try rfl
 ·simp only [EV, Nat.reduceEqDiff, ↓reduceIte, he] <;> try rfl
 ·simp only [EV, Nat.reduceEqDiff, ↓reduceIte, he] <;> try rfl
 ·simp only [EV, Nat.reduceEqDiff, ↓reduceIte, he] <;> try rfl
 clear he e
 intro e he
 refine Zbu (t := decide (i < pcs.length)) (by simp only [EV, Nat.reduceEqDiff, ↓reduceIte, he] <;> try rfl) (fun ht => ?_) (fun ht => ?_)
 ·have hlt : i < pcs.length := of_decide_eq_true ht
  refine Zb2 ?_
  refine Zej ?_
  first | refine Zaa ?_ | refine Zad ?_ | (refine Zac ?_; refine Zaa ?_) | (refine Zac ?_; refine Zac ?_; refine Zaa ?_)
  refine Zab (Zak rfl (by simp only [EV, Nat.reduceEqDiff, ↓reduceIte, he] <;> try rfl) ?_)
  refine Zab (Zak rfl (by simp only [EV, Nat.reduceEqDiff, ↓reduceIte, he] <;> try rfl) ?_)
  refine Zah ?_
  apply Zg6 0 1 5 7 8
  ·simp only [EV, Nat.reduceEqDiff, ↓reduceIte, he] <;> try rfl
  ·simp only [EV, Nat.reduceEqDiff, ↓reduceIte, he] <;> try rfl
  ·simp only [EV, Nat.reduceEqDiff, ↓reduceIte, he] <;> try rfl
  ·simp only [EV, Nat.reduceEqDiff, ↓reduceIte, he] <;> try rfl
  ·simp only [EV, Nat.reduceEqDiff, ↓reduceIte, he] <;> try rfl
  clear he e
  intro e he
  first | refine Zaa ?_ | refine Zad ?_ | (refine Zac ?_; refine Zaa ?_) | (refine Zac ?_; refine Zac ?_; refine Zaa ?_)
  refine Zab (Zak rfl (by simp only [EV, Nat.reduceEqDiff, ↓reduceIte, he] <;> try rfl) ?_)
  refine Zab (Zak rfl (by simp only [EV, Nat.reduceEqDiff, ↓reduceIte, he] <;> try rfl) ?_)
  refine Zab (Zak rfl (by simp only [EV, Nat.reduceEqDiff, ↓reduceIte, he] <;> try rfl) ?_)
  refine Zab ?_
  refine ZdE (k := .i64) (j := i) (by simp only [EV, Nat.reduceEqDiff, ↓reduceIte, he] <;> try rfl) (by simp only [EV, Nat.reduceEqDiff, ↓reduceIte, he] <;> try rfl) Zck ZbJ (h.ext hX) hlt fun b hb => ?_
  refine Zab ?_
  refine Zwj (by simp only [EV, Nat.reduceEqDiff, ↓reduceIte, he] <;> try rfl) (h.ext hX) hb hlt Zkt ZbJ ?_
  rw [ZqY hlt]
  refine Zab ?_
  refine ZqX (g := g) (caps := caps) (vs := [pcV pcs[i]]) (by simp only [EV, Nat.reduceEqDiff, ↓reduceIte, he] <;> try rfl) (by simp only [List.map_cons, List.map_nil, EV, Nat.reduceEqDiff, ↓reduceIte, he] <;> try rfl) ?_
  refine hq υ hX pcs[i] (List.getElem_mem hlt) _ fun τ hX2 => ?_
  refine Zah ?_
  refine Zdw (t := q pcs[i]) (by simp only [EV, Nat.reduceEqDiff, ↓reduceIte, he] <;> try rfl) (fun hqi => ?_) (fun hqi => ?_)
  ·first | refine Zaa ?_ | refine Zad ?_ | (refine Zac ?_; refine Zaa ?_) | (refine Zac ?_; refine Zac ?_; refine Zaa ?_)
   refine Zab (Zak rfl (by simp only [EV, Nat.reduceEqDiff, ↓reduceIte, he] <;> try rfl) ?_)
   refine Zab (Zak rfl (by simp only [EV, Nat.reduceEqDiff, ↓reduceIte, he] <;> try rfl) ?_)
   refine Zah ?_
   refine Zbm ?_
   show ∃ r, Zaq _ _ _ _ r /\ _
   exact ⟨_, ZaZ rfl (by simp only [EV, Nat.reduceEqDiff, ↓reduceIte, he] <;> try rfl), hK2 τ i hlt (hX.trans hX2) hpre hqi⟩
  ·refine Zgy ?_
   show ZaP _ _ _ _ _ _
   refine Zad ?_
   refine Zab ?_
   refine Zhz i 1 (by simp only [EV, Nat.reduceEqDiff, ↓reduceIte, he] <;> try rfl) (by simp only [EV, Nat.reduceEqDiff, ↓reduceIte, he] <;> try rfl) (by omega) ?_
   refine Zab (Zak rfl (by simp only [EV, Nat.reduceEqDiff, ↓reduceIte, he] <;> try rfl) ?_)
   refine Zah ?_
   show ∃ n', n' < _ /\ _
   refine ⟨_, (by omega : pcs.length - (i + 1) < pcs.length - i), i + 1, rfl, hlt, ⟨by simp only [EV, Nat.reduceEqDiff, ↓reduceIte, he] <;> try rfl, by simp only [EV, Nat.reduceEqDiff, ↓reduceIte, he] <;> try rfl, by simp only [EV, Nat.reduceEqDiff, ↓reduceIte, he] <;> try rfl, by simp only [EV, Nat.reduceEqDiff, ↓reduceIte, he] <;> try rfl⟩, hX.trans hX2, fun p hp => ?_⟩
   rw [List.take_succ_eq_append_getElem hlt] at hp
   rcases List.mem_append.1 hp with hp | hp
   ·exact hpre p hp
   ·rw [List.mem_singleton.1 hp]; exact hqi
 ·have hke : i = pcs.length := by have := of_decide_eq_false ht; omega
  subst hke
  rw [List.take_length] at hpre
  refine Zia ?_
  show ZaP _ _ _ _ _ _
  first | refine Zaa ?_ | refine Zad ?_ | (refine Zac ?_; refine Zaa ?_) | (refine Zac ?_; refine Zac ?_; refine Zaa ?_)
  refine Zab (Zak rfl (by simp only [EV, Nat.reduceEqDiff, ↓reduceIte, he] <;> try rfl) ?_)
  refine Zah ?_
  refine Zbm ?_
  show ∃ r, Zaq _ _ _ _ r /\ _
  exact ⟨_, ZaZ rfl (by simp only [EV, Nat.reduceEqDiff, ↓reduceIte, he] <;> try rfl), hK1 υ hX hpre⟩
set_option maxHeartbeats 1000000 in
theorem ZpW (h : Hd σ 85 2 pv pcs.length (pcC pcs)) (hl : pcs.length <= 1000000000) (hq : ∀ υ, But (fun c => hbk pv = some c) σ υ -> Zxg g caps q pcs υ)
 (hK : ∀ τ pv', Hd τ 85 2 pv' (pcs.filter fun p => !q p).length (pcC (pcs.filter fun p => !q p)) -> But (fun c => hbk pv = some c) σ τ -> (∀ c, hbk pv' = some c -> hbk pv = some c) -> K pv' τ) : Zay Tryd.prog 64 [pv, fnV g caps] σ K := by
 refine ZaG ZaN Tryd.func64 rfl rfl rfl (Nat.le_of_ble_eq_true rfl) ?_
 refine ZcT 0 1 (v0 := pv) (v1 := fnV g caps) rfl rfl ?_
 intro e he
 first | refine Zaa ?_ | refine Zad ?_ | (refine Zac ?_; refine Zaa ?_) | (refine Zac ?_; refine Zac ?_; refine Zaa ?_)
 refine Zab (Zak rfl (by simp only [EV, Nat.reduceEqDiff, ↓reduceIte, he] <;> try rfl) ?_)
 refine Zah ?_
 apply ZcT 0 1
 ·simp only [EV, Nat.reduceEqDiff, ↓reduceIte, he] <;> try rfl
 ·simp only [EV, Nat.reduceEqDiff, ↓reduceIte, he] <;> try rfl
 clear he e
 intro e he
 first | refine Zaa ?_ | refine Zad ?_ | (refine Zac ?_; refine Zaa ?_) | (refine Zac ?_; refine Zac ?_; refine Zaa ?_)
 refine Zab (Zak rfl (by simp only [EV, Nat.reduceEqDiff, ↓reduceIte, he] <;> try rfl) ?_)
 refine Zab (Zak rfl (by simp only [EV, Nat.reduceEqDiff, ↓reduceIte, he] <;> try rfl) ?_)
 refine Zab ?_
 refine Za9 (vs := [pv, fnV g caps]) (by simp only [List.map_cons, List.map_nil, EV, Nat.reduceEqDiff, ↓reduceIte, he] <;> try rfl) ?_
 refine Zwz h hl (fun υ hX => hq υ hX.but) (fun τ hX hall => ?_) (fun τ i hi hX hpre hqi => ?_)
 ·refine Zab (Zak rfl (by simp only [EV, Nat.reduceEqDiff, ↓reduceIte, he] <;> try rfl) ?_)
  refine Zah ?_
  apply Zb5 0 1 5
  ·simp only [EV, Nat.reduceEqDiff, ↓reduceIte, he] <;> try rfl
  ·simp only [EV, Nat.reduceEqDiff, ↓reduceIte, he] <;> try rfl
  ·simp only [EV, Nat.reduceEqDiff, ↓reduceIte, he] <;> try rfl
  clear he e
  intro e he
  first | refine Zaa ?_ | refine Zad ?_ | (refine Zac ?_; refine Zaa ?_) | (refine Zac ?_; refine Zac ?_; refine Zaa ?_)
  refine Zab (Zak rfl (by simp only [EV, Nat.reduceEqDiff, ↓reduceIte, he] <;> try rfl) ?_)
  refine Zab ?_
  refine Zse (k := .i64) (a := -1) (b := -1) (by simp only [EV, Nat.reduceEqDiff, ↓reduceIte, he] <;> try rfl) (by simp only [EV, Nat.reduceEqDiff, ↓reduceIte, he] <;> try rfl) ?_
  rw [decide_eq_true (rfl : (-1 : Int) = -1)]
  refine Zah ?_
  refine Zbu (t := true) (by simp only [EV, Nat.reduceEqDiff, ↓reduceIte, he] <;> try rfl) (fun _ => ?_) (fun hf => by cases hf)
  first | refine Zaa ?_ | refine Zad ?_ | (refine Zac ?_; refine Zaa ?_) | (refine Zac ?_; refine Zac ?_; refine Zaa ?_)
  refine Zab (Zak rfl (by simp only [EV, Nat.reduceEqDiff, ↓reduceIte, he] <;> try rfl) ?_)
  refine Zab (Zak rfl (by simp only [EV, Nat.reduceEqDiff, ↓reduceIte, he] <;> try rfl) ?_)
  refine Zah ?_
  refine ZmK ?_
  have hf : (pcs.filter fun p => !q p) = pcs := List.filter_eq_self.2 fun p hp => by rw [hall p hp]; rfl
  show ∃ r, Zaq _ _ _ _ r /\ _
  exact ⟨_, ZaZ rfl (by simp only [EV, Nat.reduceEqDiff, ↓reduceIte, he] <;> try rfl), hK τ pv (by rw [hf]; exact h.ext hX) hX.but fun c hc => hc⟩
 ·refine Zab (Zak rfl (by simp only [EV, Nat.reduceEqDiff, ↓reduceIte, he] <;> try rfl) ?_)
  refine Zah ?_
  apply Zb5 0 1 5
  ·simp only [EV, Nat.reduceEqDiff, ↓reduceIte, he] <;> try rfl
  ·simp only [EV, Nat.reduceEqDiff, ↓reduceIte, he] <;> try rfl
  ·simp only [EV, Nat.reduceEqDiff, ↓reduceIte, he] <;> try rfl
  clear he e
  intro e he
  first | refine Zaa ?_ | refine Zad ?_ | (refine Zac ?_; refine Zaa ?_) | (refine Zac ?_; refine Zac ?_; refine Zaa ?_)
  refine Zab (Zak rfl (by simp only [EV, Nat.reduceEqDiff, ↓reduceIte, he] <;> try rfl) ?_)
  refine Zab ?_
  refine Zse (k := .i64) (a := (i : Int)) (b := -1) (by simp only [EV, Nat.reduceEqDiff, ↓reduceIte, he] <;> try rfl) (by simp only [EV, Nat.reduceEqDiff, ↓reduceIte, he] <;> try rfl) ?_
  rw [decide_eq_false (by omega : ¬ (i : Int) = -1)]
  refine Zah ?_
  apply ZcU 0 1 5 12
  ·simp only [EV, Nat.reduceEqDiff, ↓reduceIte, he] <;> try rfl
  ·simp only [EV, Nat.reduceEqDiff, ↓reduceIte, he] <;> try rfl
  ·simp only [EV, Nat.reduceEqDiff, ↓reduceIte, he] <;> try rfl
  ·simp only [EV, Nat.reduceEqDiff, ↓reduceIte, he] <;> try rfl
  clear he e
  intro e he
  refine Zbu (t := false) (by simp only [EV, Nat.reduceEqDiff, ↓reduceIte, he] <;> try rfl) (fun hf => by cases hf) (fun _ => ?_)
  refine Zb2 ?_
  first | refine Zaa ?_ | refine Zad ?_ | (refine Zac ?_; refine Zaa ?_) | (refine Zac ?_; refine Zac ?_; refine Zaa ?_)
  refine Zab (Zak rfl (by simp only [EV, Nat.reduceEqDiff, ↓reduceIte, he] <;> try rfl) ?_)
  refine Zab ?_
  refine Zhz i 1 (by simp only [EV, Nat.reduceEqDiff, ↓reduceIte, he] <;> try rfl) (by simp only [EV, Nat.reduceEqDiff, ↓reduceIte, he] <;> try rfl) (by omega) ?_
  refine Zab (Zak rfl (by simp only [EV, Nat.reduceEqDiff, ↓reduceIte, he] <;> try rfl) ?_)
  refine Zah ?_
  apply ZcU 0 1 5 6
  ·simp only [EV, Nat.reduceEqDiff, ↓reduceIte, he] <;> try rfl
  ·simp only [EV, Nat.reduceEqDiff, ↓reduceIte, he] <;> try rfl
  ·simp only [EV, Nat.reduceEqDiff, ↓reduceIte, he] <;> try rfl
  ·simp only [EV, Nat.reduceEqDiff, ↓reduceIte, he] <;> try rfl
  clear he e
  intro e he
  obtain ⟨b, hb⟩ := h.some_ (by omega : 0 < pcs.length)
  refine Zej ?_
  refine Zgz (fun μ env υ => ∃ (j k : Nat) (l : List (Nat × Nat)), μ = pcs.length - j /\ j <= pcs.length /\ (env 0 = pv /\ env 1 = fnV g caps /\ env 5 = vI k /\ env 6 = vI j) /\ k < j /\ l.length = pcs.length /\ l.take k = (pcs.take j).filter (fun p => !q p) /\ l.drop j = pcs.drop j /\ Hd υ 85 2 pv pcs.length (pcC l) /\ But (fun c => hbk pv = some c) σ υ) ⟨_, i + 1, i, pcs, rfl, hi, he, Nat.lt_succ_self _, rfl, ?_, rfl, h.ext hX, hX.but⟩ ?_
  ·rw [List.take_succ_eq_append_getElem hi, List.filter_append, List.filter_eq_self.2 fun p hp => by rw [hpre p hp]; rfl]
   simp [hqi]
  clear he e
  rintro _ e υ ⟨j, k, l, rfl, hj, he, hkj, hll, htk, hdp, hL, hB⟩
  first | refine Zaa ?_ | refine Zad ?_ | (refine Zac ?_; refine Zaa ?_) | (refine Zac ?_; refine Zac ?_; refine Zaa ?_)
  refine Zab (Zak rfl (by simp only [EV, Nat.reduceEqDiff, ↓reduceIte, he] <;> try rfl) ?_)
  refine Zab (Zak rfl (by simp only [EV, Nat.reduceEqDiff, ↓reduceIte, he] <;> try rfl) ?_)
  refine Zab ?_
  refine Zjs (by simp only [EV, Nat.reduceEqDiff, ↓reduceIte, he] <;> try rfl) hL rfl Zck ?_
  refine Zab ?_
  refine Zmv j pcs.length (by simp only [EV, Nat.reduceEqDiff, ↓reduceIte, he] <;> try rfl) (by simp only [EV, Nat.reduceEqDiff, ↓reduceIte, he] <;> try rfl) ?_
  refine Zah ?_
  apply Zg6 0 1 5 6 19
  ·simp only [EV, Nat.reduceEqDiff, ↓reduceIte, he] <;> try rfl
  ·simp only [EV, Nat.reduceEqDiff, ↓reduceIte, he] <;> try rfl
  ·simp only [EV, Nat.reduceEqDiff, ↓reduceIte, he] <;> try rfl
  ·simp only [EV, Nat.reduceEqDiff, ↓reduceIte, he] <;> try rfl
  ·simp only [EV, Nat.reduceEqDiff, ↓reduceIte, he] <;> try rfl
  clear he e
  intro e he
  refine Zbu (t := decide (j < pcs.length)) (by simp only [EV, Nat.reduceEqDiff, ↓reduceIte, he] <;> try rfl) (fun ht => ?_) (fun ht => ?_)
  ·have hlt : j < pcs.length := of_decide_eq_true ht
   have hlt2 : j < l.length := by omega
   have hlj : l[j] = pcs[j] := by
    have h1 := List.drop_eq_getElem_cons hlt2
    have h2 := List.drop_eq_getElem_cons hlt
    rw [h1, h2] at hdp
    injection hdp
   have hdq : l.drop (j + 1) = pcs.drop (j + 1) := by
    rw [<- List.drop_drop (i := 1) (j := j), <- List.drop_drop (i := 1) (j := j), hdp]
   refine Zb2 ?_
   refine Zhy (fun env υ => ∃ (k : Nat) (l : List (Nat × Nat)), (env 0 = pv /\ env 1 = fnV g caps /\ env 5 = vI k /\ env 6 = vI j) /\ k < j + 1 /\ l.length = pcs.length /\ l.take k = (pcs.take (j + 1)).filter (fun p => !q p) /\ l.drop (j + 1) = pcs.drop (j + 1) /\ Hd υ 85 2 pv pcs.length (pcC l) /\ But (fun c => hbk pv = some c) σ υ) ?_ ?_
   ·refine Zfl ?_
    first | refine Zaa ?_ | refine Zad ?_ | (refine Zac ?_; refine Zaa ?_) | (refine Zac ?_; refine Zac ?_; refine Zaa ?_)
    refine Zab (Zak rfl (by simp only [EV, Nat.reduceEqDiff, ↓reduceIte, he] <;> try rfl) ?_)
    refine Zab (Zak rfl (by simp only [EV, Nat.reduceEqDiff, ↓reduceIte, he] <;> try rfl) ?_)
    refine Zab ?_
    refine ZdE (k := .i64) (j := j) (by simp only [EV, Nat.reduceEqDiff, ↓reduceIte, he] <;> try rfl) (by simp only [EV, Nat.reduceEqDiff, ↓reduceIte, he] <;> try rfl) Zck ZbJ hL hlt fun b' hb' => ?_
    refine Zab ?_
    refine Zwj (by simp only [EV, Nat.reduceEqDiff, ↓reduceIte, he] <;> try rfl) hL hb' hlt Zkt ZbJ ?_
    rw [ZqY hlt2, hlj]
    refine Zab ?_
    refine ZdQ ZiP rfl fun b7 υ7 hn7 hu7 hb7 hub7 hX7 => ?_
    refine Zab ?_
    refine ZcS (b := b7) (o := 0) (u := pcV pcs[j]) (cs' := [ptr pcs[j].1 0, .raw (.int .i64 (pcs[j].2 : Int))]) (by simp only [EV, Nat.reduceEqDiff, ↓reduceIte, he] <;> try rfl) (by simp only [EV, Nat.reduceEqDiff, ↓reduceIte, he] <;> try rfl) hb7 ZbJ rfl rfl fun υ8 hb8 k8 => ?_
    refine Zah ?_
    have hX8 : Ext υ υ8 := But.ext hX7 (fun g hg => by rw [hg]; exact hn7) k8
    apply Zg6 0 1 5 6 7
    ·simp only [EV, Nat.reduceEqDiff, ↓reduceIte, he] <;> try rfl
    ·simp only [EV, Nat.reduceEqDiff, ↓reduceIte, he] <;> try rfl
    ·simp only [EV, Nat.reduceEqDiff, ↓reduceIte, he] <;> try rfl
    ·simp only [EV, Nat.reduceEqDiff, ↓reduceIte, he] <;> try rfl
    ·simp only [EV, Nat.reduceEqDiff, ↓reduceIte, he] <;> try rfl
    clear he e
    intro e he
    first | refine Zaa ?_ | refine Zad ?_ | (refine Zac ?_; refine Zaa ?_) | (refine Zac ?_; refine Zac ?_; refine Zaa ?_)
    refine Zab (Zak rfl (by simp only [EV, Nat.reduceEqDiff, ↓reduceIte, he] <;> try rfl) ?_)
    refine Zab ?_
    refine ZaD (b := b7) (o := 0) (r := pcV pcs[j]) (by simp only [EV, Nat.reduceEqDiff, ↓reduceIte, he] <;> try rfl) hb8 Zkt ZbJ rfl ?_
    refine Zab ?_
    refine ZqX (g := g) (caps := caps) (vs := [pcV pcs[j]]) (by simp only [EV, Nat.reduceEqDiff, ↓reduceIte, he] <;> try rfl) (by simp only [List.map_cons, List.map_nil, EV, Nat.reduceEqDiff, ↓reduceIte, he] <;> try rfl) ?_
    refine hq υ8 (hB.trans (hX8.but)) pcs[j] (List.getElem_mem hlt) _ fun τ hX9 => ?_
    refine Zab ?_
    with_reducible apply Zg2
    case hx => simp only [EV, Nat.reduceEqDiff, ↓reduceIte, he] <;> try rfl
    refine Zah ?_
    apply ZoS 0 1 5 6 7 29
    ·simp only [EV, Nat.reduceEqDiff, ↓reduceIte, he] <;> try rfl
    ·simp only [EV, Nat.reduceEqDiff, ↓reduceIte, he] <;> try rfl
    ·simp only [EV, Nat.reduceEqDiff, ↓reduceIte, he] <;> try rfl
    ·simp only [EV, Nat.reduceEqDiff, ↓reduceIte, he] <;> try rfl
    ·simp only [EV, Nat.reduceEqDiff, ↓reduceIte, he] <;> try rfl
    ·simp only [EV, Nat.reduceEqDiff, ↓reduceIte, he] <;> try rfl
    clear he e
    intro e he
    have hL9 := (hL.ext hX8).ext hX9
    have hB9 : But (fun c => hbk pv = some c) σ τ := (hB.trans hX8.but).trans hX9.but
    refine Zdw (t := !q pcs[j]) (by simp only [EV, Nat.reduceEqDiff, ↓reduceIte, he] <;> try rfl) (fun hqj => ?_) (fun hqj => ?_)
    ·first | refine Zaa ?_ | refine Zad ?_ | (refine Zac ?_; refine Zaa ?_) | (refine Zac ?_; refine Zac ?_; refine Zaa ?_)
     refine Zab (Zak rfl (by simp only [EV, Nat.reduceEqDiff, ↓reduceIte, he] <;> try rfl) ?_)
     refine Zab (Zak rfl (by simp only [EV, Nat.reduceEqDiff, ↓reduceIte, he] <;> try rfl) ?_)
     refine Zab ?_
     refine ZaD (b := b7) (o := 0) (r := pcV pcs[j]) (by simp only [EV, Nat.reduceEqDiff, ↓reduceIte, he] <;> try rfl) (hX9.keep _ _ hb8) Zkt ZbJ rfl ?_
     refine Zab ?_
     refine ZdE (k := .i64) (j := k) (by simp only [EV, Nat.reduceEqDiff, ↓reduceIte, he] <;> try rfl) (by simp only [EV, Nat.reduceEqDiff, ↓reduceIte, he] <;> try rfl) Zck ZbJ hL9 (by omega) fun b' hb' => ?_
     refine Zab ?_
     refine Zwi (j := k) (r := pcV pcs[j]) (by simp only [EV, Nat.reduceEqDiff, ↓reduceIte, he] <;> try rfl) (by simp only [EV, Nat.reduceEqDiff, ↓reduceIte, he] <;> try rfl) ZbJ hL9 hb' (by omega) ⟨rfl, rfl, fun a ha => ?_⟩ fun τ2 hL2 hB2 => ?_
     ·simp [pcV, AV.cells] at ha
      rcases ha with rfl | rfl <;> rfl
     refine Zah ?_
     show ZaP _ _ _ _ _ _
     refine Zad ?_
     refine Zab (Zak rfl (by simp only [EV, Nat.reduceEqDiff, ↓reduceIte, he] <;> try rfl) ?_)
     refine Zab ?_
     refine Zhz k 1 (by simp only [EV, Nat.reduceEqDiff, ↓reduceIte, he] <;> try rfl) (by simp only [EV, Nat.reduceEqDiff, ↓reduceIte, he] <;> try rfl) (by omega) ?_
     refine Zab (Zak rfl (by simp only [EV, Nat.reduceEqDiff, ↓reduceIte, he] <;> try rfl) ?_)
     refine Zah ?_
     have hset := Zyz (l := l) pcs[j] (by omega : k < l.length)
     refine ⟨rfl, k + 1, l.set k pcs[j], ⟨by simp only [EV, Nat.reduceEqDiff, ↓reduceIte, he] <;> try rfl, by simp only [EV, Nat.reduceEqDiff, ↓reduceIte, he] <;> try rfl, by simp only [EV, Nat.reduceEqDiff, ↓reduceIte, he] <;> try rfl, by simp only [EV, Nat.reduceEqDiff, ↓reduceIte, he] <;> try rfl⟩, by omega, by rw [List.length_set]; exact hll, ?_, ?_, hset ▸ hL2, hB9.trans hB2⟩
     ·rw [List.take_succ_eq_append_getElem (by rw [List.length_set]; omega), List.take_set_of_le (Nat.le_refl _), List.getElem_set_self, htk, List.take_succ_eq_append_getElem hlt, List.filter_append]
      simp [hqj]
     ·rw [List.drop_set_of_lt (by omega)]
      exact hdq
    ·refine Zgy ?_
     refine ⟨rfl, k, l, ⟨by simp only [EV, Nat.reduceEqDiff, ↓reduceIte, he] <;> try rfl, by simp only [EV, Nat.reduceEqDiff, ↓reduceIte, he] <;> try rfl, by simp only [EV, Nat.reduceEqDiff, ↓reduceIte, he] <;> try rfl, by simp only [EV, Nat.reduceEqDiff, ↓reduceIte, he] <;> try rfl⟩, by omega, hll, ?_, hdq, hL9, hB9⟩
     rw [htk, List.take_succ_eq_append_getElem hlt, List.filter_append]
     simp [hqj]
   ·clear he e
    rintro e τ ⟨k', l', he, g1, g2, g3, g4, g5, g6⟩
    refine Zad ?_
    refine Zab (Zak rfl (by simp only [EV, Nat.reduceEqDiff, ↓reduceIte, he] <;> try rfl) ?_)
    refine Zab ?_
    refine Zhz j 1 (by simp only [EV, Nat.reduceEqDiff, ↓reduceIte, he] <;> try rfl) (by simp only [EV, Nat.reduceEqDiff, ↓reduceIte, he] <;> try rfl) (by omega) ?_
    refine Zab (Zak rfl (by simp only [EV, Nat.reduceEqDiff, ↓reduceIte, he] <;> try rfl) ?_)
    refine Zah ?_
    show ∃ n', n' < _ /\ _
    exact ⟨_, (by omega : pcs.length - (j + 1) < pcs.length - j), j + 1, k', l', rfl, hlt, ⟨by simp only [EV, Nat.reduceEqDiff, ↓reduceIte, he] <;> try rfl, by simp only [EV, Nat.reduceEqDiff, ↓reduceIte, he] <;> try rfl, by simp only [EV, Nat.reduceEqDiff, ↓reduceIte, he] <;> try rfl, by simp only [EV, Nat.reduceEqDiff, ↓reduceIte, he] <;> try rfl⟩, g1, g2, g3, g4, g5, g6⟩
  ·have hke : j = pcs.length := by have := of_decide_eq_false ht; omega
   subst hke
   rw [List.take_length] at htk
   have hkf : (pcs.filter fun p => !q p).length = k := by
    rw [<- htk, List.length_take]
    omega
   refine Zia ?_
   show ZaP _ _ _ _ _ _
   obtain ⟨c, all, hpv, q1, q2, q3, q4, q5, q6⟩ := hL.at_ hb
   have hc : 0 < c := by omega
   subst hpv
   first | refine Zaa ?_ | refine Zad ?_ | (refine Zac ?_; refine Zaa ?_) | (refine Zac ?_; refine Zac ?_; refine Zaa ?_)
   refine Zab (Zak rfl (by simp only [EV, Nat.reduceEqDiff, ↓reduceIte, he] <;> try rfl) ?_)
   refine Zab (Zak rfl (by simp only [EV, Nat.reduceEqDiff, ↓reduceIte, he] <;> try rfl) ?_)
   refine Zab ?_
   refine Zlq (A := some ⟨b, 0, none⟩) (n := pcs.length) (c := c) (l := k) (u := pcs.length) (ix := [vI k]) (by simp only [EV, Nat.reduceEqDiff, ↓reduceIte, he] <;> try rfl) (by simp only [Option.toList, List.nil_append, List.append_nil, List.singleton_append, List.map_cons, List.map_nil, EV, Nat.reduceEqDiff, ↓reduceIte, he] <;> try rfl) Zck ZbJ (ZAQ rfl) (by omega) q5 ?_
   refine Zab ?_
   refine Zws (sz := 2) (b := b) (n := pcs.length) (c := c) (lo := k) (Eq.trans (by simp only [EV, Nat.reduceEqDiff, ↓reduceIte, he] <;> try rfl) ?_) Zck ZiP rfl (by omega) (fun i hi => ?_) hL hc (by omega) fun τ hL2 hB2 => ?_
   ·simp only [Option.map, ZbD, Nat.zero_add]
   ·match i, hi with
    | 0, _ => rfl
    | 1, _ => rfl
   refine Zah ?_
   apply ZcT 0 5
   ·simp only [EV, Nat.reduceEqDiff, ↓reduceIte, he] <;> try rfl
   ·simp only [EV, Nat.reduceEqDiff, ↓reduceIte, he] <;> try rfl
   clear he e
   intro e he
   first | refine Zaa ?_ | refine Zad ?_ | (refine Zac ?_; refine Zaa ?_) | (refine Zac ?_; refine Zac ?_; refine Zaa ?_)
   refine Zab (Zak rfl (by simp only [EV, Nat.reduceEqDiff, ↓reduceIte, he] <;> try rfl) ?_)
   refine Zab (Zak rfl (by simp only [EV, Nat.reduceEqDiff, ↓reduceIte, he] <;> try rfl) ?_)
   refine Zab ?_
   refine Zlq (A := some ⟨b, 0, none⟩) (n := pcs.length) (c := c) (l := 0) (u := k) (ix := [vI k]) (by simp only [EV, Nat.reduceEqDiff, ↓reduceIte, he] <;> try rfl) (by simp only [Option.toList, List.nil_append, List.append_nil, List.singleton_append, List.map_cons, List.map_nil, EV, Nat.reduceEqDiff, ↓reduceIte, he] <;> try rfl) Zck ZbJ (Zvp rfl) (by omega) (by omega) ?_
   refine Zab (Zak rfl (by simp only [EV, Nat.reduceEqDiff, ↓reduceIte, he] <;> try rfl) ?_)
   refine Zah ?_
   refine Zbm ?_
   have hres : (AV.raw (.slice (if c = 0 then some (⟨b, 0, none⟩ : Addr) else (some (⟨b, 0, none⟩ : Addr)).map (·.add (0 * 2))) (k - 0) (c - 0))) = hdr b k c := by
    rw [if_neg (by omega), Nat.sub_zero, Nat.sub_zero]
    simp only [Option.map, ZbD, Nat.zero_mul, Nat.zero_add]
    rfl
   rw [hres]
   refine ⟨_, ZaZ rfl (by simp only [EV, Nat.reduceEqDiff, ↓reduceIte, he] <;> try rfl), hK τ (hdr b k c) ?_ ?_ ?_⟩
   ·rw [ZrU, htk] at hL2
    rw [hkf]
    exact hL2
   ·exact hB.trans (hB2.sub fun g hg => by rw [hg]; exact hb)
   ·intro c' hc'
    rw [<- Zmu hc']
    exact hb
end
end Go.Proofs.YteempnebenjkmaaDoor
namespace Go.Proofs.YteempnebenjkmaaDoor
open Go.RowKit
set_option maxRecDepth 100000
set_option linter.unusedVariables false
set_option linter.unusedSimpArgs false
theorem ZdN {σ : St} {b c : Nat} {t u : TypeId} {xs ys : List AV} (hb : σ.blk b = some (.own t xs)) (hc : σ.blk c = some (.own u ys)) (hne : t ≠ u) : b ≠ c := fun e => by
 subst e
 rw [hb] at hc
 injection hc with hc
 injection hc with hc
 exact hne hc
theorem ZfE {σ : St} {b c : Nat} {t : TypeId} {xs : List AV} {es : List (Value × Value)} (hb : σ.blk b = some (.own t xs)) (hc : σ.blk c = some (.map es)) : b ≠ c := fun e => by
 subst e
 rw [hb] at hc
 injection hc with hc
 cases hc
def Zeg (fb : Nat) (v : AV) (d : List UInt8) (f : Fl) : Fl := if f.b = fb then ⟨f.nm, f.b, v, d⟩ else f
theorem ZhC {fb : Nat} {v : AV} {d : List UInt8} (f : Fl) : (Zeg fb v d f).b = f.b := by unfold Zeg; split <;> rfl
theorem ZrV {fb : Nat} {v : AV} {d : List UInt8} (f : Fl) : (Zeg fb v d f).nm = f.nm := by unfold Zeg; split <;> rfl
section
variable {σ τ : St} {bb mb : Nat} {S : Nat -> Prop} {fs : List Fl} {pcs : List (Nat × Nat)} {size : Int} {pv : AV}
theorem DAt.mono {S' : Nat -> Prop} (h : DAt σ bb S fs pcs size mb pv) (k : ∀ c, S c -> S' c) : DAt σ bb S' fs pcs size mb pv :=
 ⟨h.obj, h.used, h.map, h.umap, h.file, h.nd, h.nn, h.far, h.pc, ⟨k _ h.own.1, k _ h.own.2.1, fun f hf => ⟨k _ (h.own.2.2.1 f hf).1, fun x hx => k _ ((h.own.2.2.1 f hf).2 x hx)⟩, fun x hx => k _ (h.own.2.2.2 x hx)⟩, h.inn⟩
theorem DAt.uniq (h : DAt σ bb S fs pcs size mb pv) {f g : Fl} (hf : f ∈ fs) (hg : g ∈ fs) (e : f.b = g.b) : f = g := by
 have hnd := h.nd
 clear h
 induction fs with
 | nil => cases hf
 | cons a l ih =>
  rw [List.map_cons, List.nodup_cons] at hnd
  rcases List.mem_cons.1 hf with e1 | h1 <;> rcases List.mem_cons.1 hg with e2 | h2
  ·rw [e1, e2]
  ·exact absurd (List.mem_map.2 ⟨g, h2, by rw [<- e, e1]⟩) hnd.1
  ·exact absurd (List.mem_map.2 ⟨f, h1, by rw [e, e2]⟩) hnd.1
  ·exact ih h1 h2 hnd.2
theorem DAt.setF (h : DAt σ bb S fs pcs size mb pv) {f0 : Fl} (hf0 : f0 ∈ fs) {v : AV} {d : List UInt8} (k : But (fun c => c = f0.b \/ hbk f0.v = some c) σ τ) (hb : τ.blk f0.b = some (.own 105 [v])) (hv : Hd τ 5 1 v d.length (bys d)) (hnew : ∀ c, hbk v = some c -> hbk f0.v = some c \/ Zgq σ c) :
 DAt τ bb (fun c => S c \/ hbk v = some c) (fs.map (Zeg f0.b v d)) pcs size mb pv := by
 obtain ⟨o1, o2, o3, o4⟩ := h.own
 obtain ⟨p1, p2, p3⟩ := h.file f0 hf0
 have hdir : ZbC (fs.map (Zeg f0.b v d)) = ZbC fs := by
  unfold ZbC
  rw [List.map_map]
  exact List.map_congr_left fun f _ => by simp [Function.comp, ZhC, ZrV]
 have hother : ∀ g ∈ fs, g.b ≠ f0.b -> τ.blk g.b = some (.own 105 [g.v]) /\ Hd τ 5 1 g.v g.d.length (bys g.d) := fun g hg hne => by
  obtain ⟨q1, q2, q3⟩ := h.file g hg
  refine ⟨k.keep _ _ (fun hq => ?_) q1, q3.but k fun c hc hq => ?_⟩
  ·rcases hq with hq | hq
   ·exact hne hq
   ·obtain ⟨all, hall⟩ := p3.blk hq
    exact ZdN q1 hall (by decide) rfl
  ·rcases hq with hq | hq
   ·obtain ⟨all, hall⟩ := q3.blk hc
    rw [hq] at hall
    exact ZdN p1 hall (by decide) rfl
   ·exact hne (h.far g hg f0 hf0 c hc hq)
 refine ⟨k.keep _ _ (fun hq => ?_) h.obj, k.used _ h.used, ?_, k.used _ h.umap, fun f hf => ?_, ?_, ?_, fun f hf g hg x hx hy => ?_, h.pc.but k fun c hc hq => ?_, ⟨.inl o1, .inl o2, fun f hf => ?_, fun x hx => .inl (o4 x hx)⟩, fun p hp => ?_⟩
 ·rcases hq with hq | hq
  ·exact ZdN h.obj p1 (by decide) hq
  ·obtain ⟨all, hall⟩ := p3.blk hq
   exact ZdN h.obj hall (by decide) rfl
 ·rw [hdir]
  refine k.keep _ _ (fun hq => ?_) h.map
  rcases hq with hq | hq
  ·exact ZfE p1 h.map hq.symm
  ·obtain ⟨all, hall⟩ := p3.blk hq
   exact ZfE hall h.map rfl
 ·obtain ⟨g, hg, rfl⟩ := List.mem_map.1 hf
  by_cases hgb : g.b = f0.b
  ·unfold Zeg
   rw [if_pos hgb]
   exact ⟨by rw [hgb]; exact hb, by rw [hgb]; exact k.used _ p2, hv⟩
  ·unfold Zeg
   rw [if_neg hgb]
   obtain ⟨q1, q2⟩ := hother g hg hgb
   exact ⟨q1, k.used _ (h.file g hg).2.1, q2⟩
 ·rw [List.map_map, show ((fun f : Fl => f.b) ∘ Zeg f0.b v d) = fun f : Fl => f.b from funext fun f => ZhC f]
  exact h.nd
 ·rw [List.map_map, show ((fun f : Fl => f.nm) ∘ Zeg f0.b v d) = fun f : Fl => f.nm from funext fun f => ZrV f]
  exact h.nn
 ·obtain ⟨f, hf', rfl⟩ := List.mem_map.1 hf
  obtain ⟨g, hg', rfl⟩ := List.mem_map.1 hg
  rw [ZhC, ZhC]
  unfold Zeg at hx hy
  by_cases hfb : f.b = f0.b <;> by_cases hgb : g.b = f0.b
  ·rw [hfb, hgb]
  ·rw [if_pos hfb] at hx
   rw [if_neg hgb] at hy
   rcases hnew x hx with q | q
   ·exact hfb.trans (h.far f0 hf0 g hg' x q hy)
   ·exact absurd ((h.file g hg').2.2.used hy) q.2
  ·rw [if_neg hfb] at hx
   rw [if_pos hgb] at hy
   rcases hnew x hy with q | q
   ·exact (h.far f hf' f0 hf0 x hx q).trans hgb.symm
   ·exact absurd ((h.file f hf').2.2.used hx) q.2
  ·rw [if_neg hfb] at hx
   rw [if_neg hgb] at hy
   exact h.far f hf' g hg' x hx hy
 ·rcases hq with hq | hq
  ·obtain ⟨all, hall⟩ := h.pc.blk hc
   exact ZdN hall p1 (by decide) hq
  ·obtain ⟨a1, h1⟩ := h.pc.blk hc
   obtain ⟨a2, h2⟩ := p3.blk hq
   exact ZdN h1 h2 (by decide) rfl
 ·obtain ⟨g, hg, rfl⟩ := List.mem_map.1 hf
  rw [ZhC]
  refine ⟨.inl (o3 g hg).1, fun x hx => ?_⟩
  unfold Zeg at hx
  split at hx
  ·exact .inr hx
  ·exact .inl ((o3 g hg).2 x hx)
 ·obtain ⟨f, hf, e⟩ := h.inn p hp
  exact ⟨_, List.mem_map.2 ⟨f, hf, rfl⟩, by rw [ZhC]; exact e⟩
theorem DAt.setP (h : DAt σ bb S fs pcs size mb pv) {pv' : AV} {pcs' : List (Nat × Nat)} (k : But (fun c => c = bb \/ hbk pv = some c) σ τ) (hb : τ.blk bb = some (.own 68 [pv', ZdZ mb, .raw (.int .i64 size)])) (hv : Hd τ 85 2 pv' pcs'.length (pcC pcs')) (hin : ∀ p ∈ pcs', ∃ f ∈ fs, f.b = p.1) :
 DAt τ bb (fun c => S c \/ hbk pv' = some c) fs pcs' size mb pv' := by
 obtain ⟨o1, o2, o3, o4⟩ := h.own
 refine ⟨hb, k.used _ h.used, k.keep _ _ (fun hq => ?_) h.map, k.used _ h.umap, fun f hf => ?_, h.nd, h.nn, h.far, hv, ⟨.inl o1, .inl o2, fun f hf => ⟨.inl (o3 f hf).1, fun x hx => .inl ((o3 f hf).2 x hx)⟩, fun x hx => .inr hx⟩, hin⟩
 ·rcases hq with hq | hq
  ·exact ZfE h.obj h.map hq.symm
  ·obtain ⟨all, hall⟩ := h.pc.blk hq
   exact ZfE hall h.map rfl
 ·obtain ⟨q1, q2, q3⟩ := h.file f hf
  refine ⟨k.keep _ _ (fun hq => ?_) q1, k.used _ q2, q3.but k fun c hc hq => ?_⟩
  ·rcases hq with hq | hq
   ·exact ZdN h.obj q1 (by decide) hq.symm
   ·obtain ⟨all, hall⟩ := h.pc.blk hq
    exact ZdN hall q1 (by decide) rfl
  ·obtain ⟨a1, h1⟩ := q3.blk hc
   rcases hq with hq | hq
   ·exact ZdN h.obj h1 (by decide) hq.symm
   ·obtain ⟨a2, h2⟩ := h.pc.blk hq
    exact ZdN h1 h2 (by decide) rfl
theorem DAt.addF (h : DAt σ bb S fs pcs size mb pv) {nb : Nat} {nm : List UInt8} {v : AV} {d : List UInt8} (hn : Zgq σ nb) (k : But (fun c => c = mb \/ c = nb) σ τ) (hb : τ.blk nb = some (.own 105 [v])) (hu : τ.used nb) (hm : τ.blk mb = some (.map (Zjv (ZbC (fs ++ [⟨nm, nb, v, d⟩]))))) (hv : Hd τ 5 1 v d.length (bys d)) (hnm : ∀ f ∈ fs, f.nm ≠ nm) (hvb : hbk v = none) :
 DAt τ bb (fun c => S c \/ c = nb) (fs ++ [⟨nm, nb, v, d⟩]) pcs size mb pv := by
 obtain ⟨o1, o2, o3, o4⟩ := h.own
 have hkeep : ∀ b t cs, σ.blk b = some (.own t cs) -> τ.blk b = some (.own t cs) := fun b t cs hb' => k.keep _ _ (fun hq => by
  rcases hq with hq | hq
  ·exact ZfE hb' h.map hq
  ·rw [hq, hn.1] at hb'; cases hb') hb'
 have hkeepH : ∀ {e sz n : Nat} {u : AV} {cs : List AV}, Hd σ e sz u n cs -> Hd τ e sz u n cs := fun {e sz n u cs} hu' => hu'.but k fun c hc hq => by
  obtain ⟨all, hall⟩ := hu'.blk hc
  rcases hq with hq | hq
  ·exact ZfE hall h.map hq
  ·rw [hq, hn.1] at hall; cases hall
 have hold : ∀ f ∈ fs, f.b ≠ nb := fun f hf e => by
  have := (h.file f hf).1
  rw [e, hn.1] at this
  cases this
 refine ⟨hkeep _ _ _ h.obj, k.used _ h.used, hm, k.used _ h.umap, fun f hf => ?_, ?_, ?_, fun f hf g hg x hx hy => ?_, hkeepH h.pc, ⟨.inl o1, .inl o2, fun f hf => ?_, fun x hx => .inl (o4 x hx)⟩, fun p hp => ?_⟩
 ·rcases List.mem_append.1 hf with hf | hf
  ·obtain ⟨q1, q2, q3⟩ := h.file f hf
   exact ⟨hkeep _ _ _ q1, k.used _ q2, hkeepH q3⟩
  ·rw [List.mem_singleton.1 hf]
   exact ⟨hb, hu, hv⟩
 ·rw [List.map_append, List.nodup_append]
  refine ⟨h.nd, by simp, fun a ha b hb' e => ?_⟩
  obtain ⟨f, hf, rfl⟩ := List.mem_map.1 ha
  simp at hb'
  exact hold f hf (e.trans hb')
 ·rw [List.map_append, List.nodup_append]
  refine ⟨h.nn, by simp, fun a ha b hb' e => ?_⟩
  obtain ⟨f, hf, rfl⟩ := List.mem_map.1 ha
  simp at hb'
  exact hnm f hf (e.trans hb')
 ·rcases List.mem_append.1 hf with hf | hf
  ·rcases List.mem_append.1 hg with hg | hg
   ·exact h.far f hf g hg x hx hy
   ·rw [List.mem_singleton.1 hg] at hy
    have hy : hbk v = some x := hy
    rw [hvb] at hy; cases hy
  ·rw [List.mem_singleton.1 hf] at hx
   have hx : hbk v = some x := hx
   rw [hvb] at hx; cases hx
 ·rcases List.mem_append.1 hf with hf | hf
  ·exact ⟨.inl (o3 f hf).1, fun x hx => .inl ((o3 f hf).2 x hx)⟩
  ·rw [List.mem_singleton.1 hf]
   refine ⟨.inr rfl, fun x hx => ?_⟩
   have hx : hbk v = some x := hx
   rw [hvb] at hx; cases hx
 ·obtain ⟨f, hf, e⟩ := h.inn p hp
  exact ⟨f, List.mem_append_left _ hf, e⟩
end
section
variable {P : Program} {ops : Array Oper} {env : Env} {σ τ : St} {K : Env -> St -> Prop} {d : Option Nat} {ty t : TypeId} {pos : String} {af : Array Edge} {x y : Operand} {e sz n u : Nat} {v : AV} {cells : List AV}
theorem ZwA (hx : ev env x = v) (hy : ev env y = vI u) (ht : Zar P t = some e) (hs : Zax P e = some sz) (hown : Hd σ e sz v n cells) (hu : u <= n)
 (h : ∀ v', Hd σ e sz v' u (cells.take (u * sz)) -> (∀ c, hbk v' = some c -> hbk v = some c) -> K (env.put d v') σ) : aOp P ops ⟨d, .slice t x none (some y) none, ty, pos, af, none⟩ env σ K := by
 have hix : ((none : Option Operand).toList ++ (some y).toList).map (ev env) = [vI u] := by simp [hy]
 rcases hown.2.2 with ⟨hnil, hn⟩ | ⟨b, c, all, hc, rfl, g1, g2, g3, g4, g5, g6⟩
 ·have hu0 : u = 0 := by omega
  subst hu0
  rcases hnil with rfl | ⟨ad, rfl⟩
  ·refine ZxB (A := none) (n := 0) (c := 0) (l := 0) (u := 0) (cells := []) (cs := []) hx hix ht hs (Zvp rfl) (Nat.le_refl _) (Nat.le_refl _) rfl fun A' hA' => ?_
   have hA' : A' = none := by rw [hA']; rfl
   subst hA'
   exact h _ ⟨by simp, by simp, .inl ⟨.inl rfl, rfl⟩⟩ fun c hc => hc
  ·refine Zlq (A := some ad) (n := 0) (c := 0) (l := 0) (u := 0) hx hix ht hs (Zvp rfl) (Nat.le_refl _) (Nat.le_refl _) ?_
   exact h _ ⟨by simp, by simp, .inl ⟨.inr ⟨ad, rfl⟩, rfl⟩⟩ fun c hc => hc
 ·refine Zlq (A := some ⟨b, 0, none⟩) (n := n) (c := c) (l := 0) (u := u) hx hix ht hs (Zvp rfl) (Nat.zero_le _) (by omega) ?_
  have hres : (AV.raw (.slice (if c = 0 then some (⟨b, 0, none⟩ : Addr) else (some (⟨b, 0, none⟩ : Addr)).map (·.add (0 * sz))) (u - 0) (c - 0))) = hdr b u c := by
   rw [if_neg (by omega), Nat.sub_zero, Nat.sub_zero]
   simp only [Option.map, ZbD, Nat.zero_mul, Nat.zero_add]
   rfl
  rw [hres]
  have hm : u * sz <= n * sz := Nat.mul_le_mul_right _ hu
  refine h _ ⟨?_, fun a ha => hown.one a (List.mem_of_mem_take ha), .inr ⟨b, c, all, hc, rfl, g1, g2, g3, ?_, by omega, g6⟩⟩ fun c' hc' => by rw [<- Zmu hc']; exact ZgO hc
  ·rw [List.length_take, hown.len]; omega
  ·rw [<- g4, List.take_take, Nat.min_eq_left hm]
end
end Go.Proofs.YteempnebenjkmaaDoor
namespace Go.Proofs.YteempnebenjkmaaDoor
open Go.RowKit
set_option maxRecDepth 100000
set_option linter.unusedVariables false
set_option linter.unusedSimpArgs false
theorem ZuV : Zax Tryd.prog (Program.pointee Tryd.prog 83) = some 1 := by kernel_rfl
section
variable {P : Program} {ops : Array Oper} {env : Env} {σ τ : St} {K : Env -> St -> Prop} {d : Option Nat} {ty t : TypeId} {pos : String} {af : Array Edge} {x y : Operand}
theorem ZgQ {b o : Nat} {T : TypeId} {cs : List AV} {v : AV} (hx : ev env x = ptr b o) (hy : ev env y = v) (hb : σ.blk b = some (.own T cs)) (hn : Zax P t = some 1) (hv : v.one = true /\ Zdt v = true /\ v.cells = [v]) (ho : o < cs.length)
 (h : ∀ τ, τ.blk b = some (.own T (cs.set o v)) -> But (fun c => c = b) σ τ -> K (env.put d (.raw undef)) τ) : aOp P ops ⟨d, .store t x y, ty, pos, af, none⟩ env σ K := by
 refine ZcS (cs' := cs.set o v) hx hy hb hn ?_ ?_ h
 ·rw [hv.2.2]
  simp [hv.1, hv.2.1]
  omega
 ·rw [hv.2.2]
  unfold ZaF
  rw [List.set_eq_take_append_cons_drop, if_pos ho]
  simp
end
theorem ZwB {σ : St} {p : Nat × Nat} {fb b3 : Nat} {c1 c2 : List AV} (hp : σ.blk p.1 = some (.own 105 c1)) (hf : σ.blk fb = some (.own 105 c2)) (hb : σ.blk b3 = some (.own 83 [ptr fb 0])) (K : AV -> St -> Prop) (hK : ∀ τ, Ext σ τ -> K (vT (decide (p.1 = fb))) τ) : Zay Tryd.prog 86 [pcV p, ptr b3 0] σ K := by
 refine ZaG ZaN Tryd.func86 rfl rfl rfl (Nat.le_of_ble_eq_true rfl) ?_
 refine ZcT 0 1 (v0 := pcV p) (v1 := ptr b3 0) rfl rfl ?_
 intro e he
 first | refine Zaa ?_ | refine Zad ?_ | (refine Zac ?_; refine Zaa ?_) | (refine Zac ?_; refine Zac ?_; refine Zaa ?_)
 refine Zab ?_
 refine Zk0 (cs := [ptr p.1 0, .raw (.int .i64 (p.2 : Int))]) (v := pcV p) (by simp only [EV, Nat.reduceEqDiff, ↓reduceIte, he] <;> try rfl) rfl fun b2 τ hn2 hu2 hb2 hub2 hX2 => ?_
 refine Zab (Zak rfl (by simp only [EV, Nat.reduceEqDiff, ↓reduceIte, he] <;> try rfl) ?_)
 refine Zah ?_
 apply ZcT 1 2
 ·simp only [EV, Nat.reduceEqDiff, ↓reduceIte, he] <;> try rfl
 ·simp only [EV, Nat.reduceEqDiff, ↓reduceIte, he] <;> try rfl
 clear he e
 intro e he
 first | refine Zaa ?_ | refine Zad ?_ | (refine Zac ?_; refine Zaa ?_) | (refine Zac ?_; refine Zac ?_; refine Zaa ?_)
 refine Zab ?_
 refine Zaf (b := b2) (o := 0) (by simp only [EV, Nat.reduceEqDiff, ↓reduceIte, he] <;> try rfl) ZgP rfl ?_
 refine Zab ?_
 refine ZaD (b := b2) (o := 0 + 0) (r := ptr p.1 0) (by simp only [EV, Nat.reduceEqDiff, ↓reduceIte, he] <;> try rfl) hb2 Zov Zou rfl ?_
 refine Zab ?_
 refine ZaD (b := b3) (o := 0) (r := ptr fb 0) (by simp only [EV, Nat.reduceEqDiff, ↓reduceIte, he] <;> try rfl) (hX2.keep _ _ hb) Zov Zou rfl ?_
 refine ZuM (m := 0) (p := p.1) (q := fb) Zg4 ZuV (by simp only [EV, Nat.reduceEqDiff, ↓reduceIte, he] <;> try rfl) (by simp only [EV, Nat.reduceEqDiff, ↓reduceIte, he] <;> try rfl) (hX2.keep _ _ hp) (hX2.keep _ _ hf) ?_
 refine Zab (Zak rfl (by simp only [EV, Nat.reduceEqDiff, ↓reduceIte, he] <;> try rfl) ?_)
 refine Zah ?_
 refine Zbm ?_
 show ∃ r, Zaq _ _ _ _ r /\ _
 exact ⟨_, ZaZ rfl (by simp only [EV, Nat.reduceEqDiff, ↓reduceIte, he] <;> try rfl), hK τ hX2⟩
theorem ZqZ {σ : St} {p : Nat × Nat} (K : AV -> St -> Prop) (hK : ∀ τ, Ext σ τ -> K (vT (decide (p.2 = 0))) τ) : Zay Tryd.prog 65 [pcV p] σ K := by
 refine ZaG ZaN Tryd.func65 rfl rfl rfl (Nat.le_of_ble_eq_true rfl) ?_
 refine ZdI 0 (v0 := pcV p) rfl ?_
 intro e he
 first | refine Zaa ?_ | refine Zad ?_ | (refine Zac ?_; refine Zaa ?_) | (refine Zac ?_; refine Zac ?_; refine Zaa ?_)
 refine Zab ?_
 refine Zk0 (cs := [ptr p.1 0, .raw (.int .i64 (p.2 : Int))]) (v := pcV p) (by simp only [EV, Nat.reduceEqDiff, ↓reduceIte, he] <;> try rfl) rfl fun b2 τ hn2 hu2 hb2 hub2 hX2 => ?_
 refine Zab (Zak rfl (by simp only [EV, Nat.reduceEqDiff, ↓reduceIte, he] <;> try rfl) ?_)
 refine Zah ?_
 apply ZdI 1
 ·simp only [EV, Nat.reduceEqDiff, ↓reduceIte, he] <;> try rfl
 clear he e
 intro e he
 first | refine Zaa ?_ | refine Zad ?_ | (refine Zac ?_; refine Zaa ?_) | (refine Zac ?_; refine Zac ?_; refine Zaa ?_)
 refine Zab ?_
 refine Zaf (b := b2) (o := 0) (by simp only [EV, Nat.reduceEqDiff, ↓reduceIte, he] <;> try rfl) ZgP rfl ?_
 refine Zab ?_
 refine ZaD (b := b2) (o := 0 + 1) (r := .raw (.int .i64 (p.2 : Int))) (by simp only [EV, Nat.reduceEqDiff, ↓reduceIte, he] <;> try rfl) hb2 ZpT ZnC rfl ?_
 refine Zab ?_
 refine Zse (k := .i64) (a := (p.2 : Int)) (b := 0) (by simp only [EV, Nat.reduceEqDiff, ↓reduceIte, he] <;> try rfl) (by simp only [EV, Nat.reduceEqDiff, ↓reduceIte, he] <;> try rfl) ?_
 rw [show decide ((p.2 : Int) = 0) = decide (p.2 = 0) by congr 1; exact propext (by omega)]
 refine Zab (Zak rfl (by simp only [EV, Nat.reduceEqDiff, ↓reduceIte, he] <;> try rfl) ?_)
 refine Zah ?_
 refine Zbm ?_
 show ∃ r, Zaq _ _ _ _ r /\ _
 exact ⟨_, ZaZ rfl (by simp only [EV, Nat.reduceEqDiff, ↓reduceIte, he] <;> try rfl), hK τ hX2⟩
def Zp6 (fb : Nat) : Nat -> List (Nat × Nat) -> List (Nat × Nat)
 | _, [] => []
 | m, p :: l => if p.1 = fb then (p.1, p.2 - min m p.2) :: Zp6 fb (m - min m p.2) l else p :: Zp6 fb m l
theorem Zmy (fb : Nat) : ∀ l, Zp6 fb 0 l = l
 | [] => rfl
 | p :: l => by
  unfold Zp6
  rw [Nat.zero_min, Nat.zero_sub, Nat.sub_zero, Zmy fb l]
  split <;> rfl
def shr (fb m : Nat) (pcs : List (Nat × Nat)) : List (Nat × Nat) := (Zp6 fb m pcs.reverse).reverse
theorem Zoy (fb : Nat) : ∀ m l, (Zp6 fb m l).map (·.1) = l.map (·.1)
 | _, [] => rfl
 | m, p :: l => by
  unfold Zp6
  split
  ·rw [List.map_cons, List.map_cons, Zoy]
  ·rw [List.map_cons, List.map_cons, Zoy]
theorem ZuW (fb m : Nat) (l : List (Nat × Nat)) : (shr fb m l).map (·.1) = l.map (·.1) := by
 unfold shr
 rw [List.map_reverse, Zoy, List.map_reverse, List.reverse_reverse]
theorem ZuX (fb m : Nat) (l : List (Nat × Nat)) : (shr fb m l).length = l.length := by
 have := congrArg List.length (ZuW fb m l)
 rwa [List.length_map, List.length_map] at this
theorem Zz7 {fb m : Nat} {l : List (Nat × Nat)} {p : Nat × Nat} (h : p ∈ shr fb m l) : ∃ p' ∈ l, p'.1 = p.1 := by
 have h1 : p.1 ∈ (shr fb m l).map (·.1) := List.mem_map.2 ⟨p, h, rfl⟩
 rw [ZuW] at h1
 exact List.mem_map.1 h1
section
variable {P : Program} {ops : Array Oper} {env : Env} {σ τ : St} {K : Env -> St -> Prop} {d : Option Nat} {ty ty' t : TypeId} {pos : String} {af : Array Edge} {x y : Operand}
theorem Zmz (a b : Int) (hx : ev env x = .raw (.int .i64 a)) (hy : ev env y = .raw (.int .i64 b)) (h1 : -4611686018427387904 < a - b) (h2 : a - b < 4611686018427387904) (h : K (env.put d (.raw (.int .i64 (a - b)))) σ) : aOp P ops ⟨d, .binOp .sub t x y ty', ty, pos, af, none⟩ env σ K :=
 Zzk hx hy (by rw [IntWalk.i64_in _ (by omega)]) h
theorem Zxh {u v : Operand} {ts : Array TypeId} (a b : Nat) (hx : ev env u = vI a) (hy : ev env v = vI b) (h : K (env.put d (vI ((min a b : Nat) : Int))) σ) : aOp P ops ⟨d, .call ⟨.builtin .min, #[u, v], ts⟩, ty, pos, af, none⟩ env σ K := by
 refine ZAK hx hy ?_
 have e : (if (b : Int) < (a : Int) then (b : Int) else (a : Int)) = ((min a b : Nat) : Int) := by split <;> omega
 rw [e]
 exact h
end
section
variable {σ : St} {bb mb : Nat} {S : Nat -> Prop} {fs : List Fl} {pcs : List (Nat × Nat)} {size : Int} {pv : AV} {K : AV -> St -> Prop}
theorem DAt.pvS (h : DAt σ bb S fs pcs size mb pv) {c : Nat} (hc : c = bb \/ hbk pv = some c) : S c := by
 rcases hc with rfl | hc
 ·exact h.own.1
 ·exact h.own.2.2.2 _ hc
theorem DAt.pvF (h : DAt σ bb S fs pcs size mb pv) {f : Fl} (hf : f ∈ fs) : ¬ hbk pv = some f.b := fun hq => by
 obtain ⟨all, hall⟩ := h.pc.blk hq
 exact ZdN hall (h.file f hf).1 (by decide) rfl
theorem DAt.pvB (h : DAt σ bb S fs pcs size mb pv) : ¬ hbk pv = some bb := fun hq => by
 obtain ⟨all, hall⟩ := h.pc.blk hq
 exact ZdN hall h.obj (by decide) rfl
theorem ZuY (h : DAt σ bb S fs pcs size mb pv) (hl : pcs.length <= 1000000000) {f0 : Fl} (hf0 : f0 ∈ fs) (hK : ∀ τ pv', DAt τ bb S fs (pcs.filter fun p => !decide (p.1 = f0.b)) size mb pv' -> But S σ τ -> K (.tup []) τ) : Zay Tryd.prog 80 [ptr bb 0, ptr f0.b 0] σ K := by
 refine ZaG ZaN Tryd.func80 rfl rfl rfl (Nat.le_of_ble_eq_true rfl) ?_
 refine ZcT 0 1 (v0 := ptr bb 0) (v1 := ptr f0.b 0) rfl rfl ?_
 intro e he
 first | refine Zaa ?_ | refine Zad ?_ | (refine Zac ?_; refine Zaa ?_) | (refine Zac ?_; refine Zac ?_; refine Zaa ?_)
 refine Zab ?_
 refine Zk0 (cs := [ptr f0.b 0]) (v := ptr f0.b 0) (by simp only [EV, Nat.reduceEqDiff, ↓reduceIte, he] <;> try rfl) rfl fun b3 σ3 hn3 hu3 hb3 hub3 hX3 => ?_
 refine Zah ?_
 apply ZcT 0 3
 ·simp only [EV, Nat.reduceEqDiff, ↓reduceIte, he] <;> try rfl
 ·simp only [EV, Nat.reduceEqDiff, ↓reduceIte, he] <;> try rfl
 clear he e
 intro e he
 have h3 := h.ext hX3
 first | refine Zaa ?_ | refine Zad ?_ | (refine Zac ?_; refine Zaa ?_) | (refine Zac ?_; refine Zac ?_; refine Zaa ?_)
 refine Zab (Zak rfl (by simp only [EV, Nat.reduceEqDiff, ↓reduceIte, he] <;> try rfl) ?_)
 refine Zab (Zak rfl (by simp only [EV, Nat.reduceEqDiff, ↓reduceIte, he] <;> try rfl) ?_)
 refine Zab ?_
 refine Zau (v := ptr bb 0) (by simp only [EV, Nat.reduceEqDiff, ↓reduceIte, he] <;> try rfl) rfl ?_
 refine Zab ?_
 refine Zaf (b := bb) (o := 0) (by simp only [EV, Nat.reduceEqDiff, ↓reduceIte, he] <;> try rfl) ZdF rfl ?_
 refine Zab ?_
 refine ZaD (b := bb) (o := 0) (r := pv) (by simp only [EV, Nat.reduceEqDiff, ↓reduceIte, he] <;> try rfl) h3.obj ZfS ZdG rfl ?_
 refine Zab ?_
 refine ZhW (vs := [ptr b3 0]) (by simp only [List.map_cons, List.map_nil, EV, Nat.reduceEqDiff, ↓reduceIte, he] <;> try rfl) ?_
 refine Zab ?_
 refine Za9 (vs := [pv, fnV 86 #[.pointer (some ⟨b3, 0, none⟩)]]) (by simp only [List.map_cons, List.map_nil, EV, Nat.reduceEqDiff, ↓reduceIte, he] <;> try rfl) ?_
 refine ZpW (q := fun p => decide (p.1 = f0.b)) h3.pc hl (fun υ hB p hp K' hK' => ?_) fun τ pv' d1 d2 d3 => ?_
 ·obtain ⟨f, hf, hfp⟩ := h3.inn p hp
  refine ZwB (c1 := [f.v]) (c2 := [f0.v]) (hB.keep _ _ (by rw [<- hfp]; exact h3.pvF hf) (by rw [<- hfp]; exact (h3.file f hf).1)) (hB.keep _ _ (h3.pvF hf0) (h3.file f0 hf0).1) (hB.keep _ _ (fun hq => ?_) hb3) K' hK'
  obtain ⟨all, hall⟩ := h3.pc.blk hq
  exact ZdN hall hb3 (by decide) rfl
 refine Zab ?_
 refine Zau (v := ptr bb 0) (by simp only [EV, Nat.reduceEqDiff, ↓reduceIte, he] <;> try rfl) rfl ?_
 refine Zab ?_
 refine Zaf (b := bb) (o := 0) (by simp only [EV, Nat.reduceEqDiff, ↓reduceIte, he] <;> try rfl) ZdF rfl ?_
 refine Zab ?_
 refine ZgQ (b := bb) (o := 0) (v := pv') (by simp only [EV, Nat.reduceEqDiff, ↓reduceIte, he] <;> try rfl) (by simp only [EV, Nat.reduceEqDiff, ↓reduceIte, he] <;> try rfl) (d2.keep _ _ h3.pvB h3.obj) ZdG d1.oneV (Nat.zero_lt_succ _) fun τ2 hb2 k2 => ?_
 refine Zah ?_
 have hB2 : But (fun c => c = bb \/ hbk pv = some c) σ3 τ2 := (d2.sub fun c hc => .inr hc).trans (k2.sub fun c hc => .inl hc)
 refine ⟨_, ZgA rfl, hK τ2 pv' ((h3.setP hB2 hb2 (d1.but k2 fun c hc hq => ?_) fun p hp => ?_).mono fun c hc => ?_) (hX3.but.trans (hB2.sub fun c hc => h3.pvS hc))⟩
 ·rw [hq] at hc
  exact h3.pvB (d3 _ hc)
 ·exact h3.inn p (List.mem_filter.1 hp).1
 ·rcases hc with hc | hc
  ·exact hc
  ·exact h3.pvS (.inr (d3 _ hc))
set_option maxHeartbeats 2000000 in
theorem Zs0 (h : DAt σ bb S fs pcs size mb pv) (hl : pcs.length <= 1000000000) (hs : ∀ p ∈ pcs, p.2 <= 1000000000) {f0 : Fl} (hf0 : f0 ∈ fs) {m : Nat} (hm : m <= f0.d.length) (hd : f0.d.length <= 1000000000)
 (hK : ∀ τ v' pv', DAt τ bb S (fs.map (Zeg f0.b v' (f0.d.take (f0.d.length - m)))) ((shr f0.b m pcs).filter fun p => !decide (p.2 = 0)) size mb pv' -> But S σ τ -> K (.tup []) τ) : Zay Tryd.prog 36 [ptr bb 0, ptr f0.b 0, vI m] σ K := by
 obtain ⟨p1, p2, p3⟩ := h.file f0 hf0
 refine ZaG ZaN Tryd.func36 rfl rfl rfl (Nat.le_of_ble_eq_true rfl) ?_
 refine Zb5 0 1 2 (v0 := ptr bb 0) (v1 := ptr f0.b 0) (v2 := vI m) rfl rfl rfl ?_
 intro e he
 refine ZjM ?_
 refine ⟨[0, 1, 2, 3, 5, 6, 7, 10, 4, 8, 9, 11, 12, 13, 14, 15], [[], [], [1], [1, 2], [1, 2, 3], [], [5], [5, 6], [5, 6, 7], [5, 6, 7, 8], [], [5, 6, 7, 8, 9, 10], [1, 2, 3, 4, 5, 6, 7, 8, 9, 10, 11], [0, 1, 2, 3, 4, 5, 6, 7, 8, 9, 10, 11, 12], [0, 1, 2, 3, 4, 5, 6, 7, 8, 9, 10, 11, 12, 13], [0, 1, 2, 3, 4, 5, 6, 7, 8, 9, 10, 11, 12, 13, 14]], fun _ => True, [], [], [], by kernel_rfl, ?_⟩
 apply ZaJ
 case hi => simp only [HIX]; try rfl
 case hw => rfl
 case how => rfl
 refine Zak rfl (by simp only [EV, Nat.reduceEqDiff, ↓reduceIte, he] <;> try rfl) ?_
 refine ZbL ?_
 apply ZaJ
 case hi => simp only [HIX]; try rfl
 case hw => rfl
 case how => rfl
 refine Zak rfl (by simp only [EV, Nat.reduceEqDiff, ↓reduceIte, he] <;> try rfl) ?_
 refine ZbL ?_
 apply ZaJ
 case hi => simp only [HIX]; try rfl
 case hw => rfl
 case how => rfl
 refine Zau (v := ptr f0.b 0) (by simp only [EV, Nat.reduceEqDiff, ↓reduceIte, he] <;> try rfl) rfl ?_
 refine ZbL ?_
 apply ZaJ
 case hi => simp only [HIX]; try rfl
 case hw => rfl
 case how => rfl
 refine Zaf (b := f0.b) (o := 0) (by simp only [EV, Nat.reduceEqDiff, ↓reduceIte, he] <;> try rfl) Zkq rfl ?_
 refine ZbL ?_
 apply ZaJ
 case hi => simp only [HIX]; try rfl
 case hw => rfl
 case how => rfl
 refine Zak rfl (by simp only [EV, Nat.reduceEqDiff, ↓reduceIte, he] <;> try rfl) ?_
 refine ZbL ?_
 apply ZaJ
 case hi => simp only [HIX]; try rfl
 case hw => rfl
 case how => rfl
 refine Zau (v := ptr f0.b 0) (by simp only [EV, Nat.reduceEqDiff, ↓reduceIte, he] <;> try rfl) rfl ?_
 refine ZbL ?_
 apply ZaJ
 case hi => simp only [HIX]; try rfl
 case hw => rfl
 case how => rfl
 refine Zaf (b := f0.b) (o := 0) (by simp only [EV, Nat.reduceEqDiff, ↓reduceIte, he] <;> try rfl) Zkq rfl ?_
 refine ZbL ?_
 apply ZaJ
 case hi => simp only [HIX]; try rfl
 case hw => rfl
 case how => rfl
 refine Zak rfl (by simp only [EV, Nat.reduceEqDiff, ↓reduceIte, he] <;> try rfl) ?_
 refine ZbL ?_
 apply ZaJ
 case hi => simp only [HIX]; try rfl
 case hw => rfl
 case how => rfl
 refine ZaD (b := f0.b) (o := 0 + 0) (r := f0.v) (by simp only [EV, Nat.reduceEqDiff, ↓reduceIte, he] <;> try rfl) p1 Zks ZhB rfl ?_
 refine ZbL ?_
 apply ZaJ
 case hi => simp only [HIX]; try rfl
 case hw => rfl
 case how => rfl
 refine ZaD (b := f0.b) (o := 0 + 0) (r := f0.v) (by simp only [EV, Nat.reduceEqDiff, ↓reduceIte, he] <;> try rfl) p1 Zks ZhB rfl ?_
 refine ZbL ?_
 apply ZaJ
 case hi => simp only [HIX]; try rfl
 case hw => rfl
 case how => rfl
 refine Zjs (by simp only [EV, Nat.reduceEqDiff, ↓reduceIte, he] <;> try rfl) p3 rfl Ze4 ?_
 refine ZbL ?_
 apply ZaJ
 case hi => simp only [HIX]; try rfl
 case hw => rfl
 case how => rfl
 refine Zmz (f0.d.length : Int) (m : Int) (by simp only [EV, Nat.reduceEqDiff, ↓reduceIte, he] <;> try rfl) (by simp only [EV, Nat.reduceEqDiff, ↓reduceIte, he] <;> try rfl) (by omega) (by omega) ?_
 refine ZbL ?_
 apply ZaJ
 case hi => simp only [HIX]; try rfl
 case hw => rfl
 case how => rfl
 refine ZwA (u := f0.d.length - m) (v := f0.v) (by simp only [EV, Nat.reduceEqDiff, ↓reduceIte, he] <;> try rfl) (Eq.trans (by simp only [EV, Nat.reduceEqDiff, ↓reduceIte, he] <;> try rfl) (by rw [Int.ofNat_sub hm]; rfl)) Ze4 ZpS p3 (Nat.sub_le _ _) fun v' hv' hbv => ?_
 refine ZbL ?_
 apply ZaJ
 case hi => simp only [HIX]; try rfl
 case hw => rfl
 case how => rfl
 refine Zau (v := ptr f0.b 0) (by simp only [EV, Nat.reduceEqDiff, ↓reduceIte, he] <;> try rfl) rfl ?_
 refine ZbL ?_
 apply ZaJ
 case hi => simp only [HIX]; try rfl
 case hw => rfl
 case how => rfl
 refine Zaf (b := f0.b) (o := 0) (by simp only [EV, Nat.reduceEqDiff, ↓reduceIte, he] <;> try rfl) Zkq rfl ?_
 refine ZbL ?_
 apply ZaJ
 case hi => simp only [HIX]; try rfl
 case hw => rfl
 case how => rfl
 refine ZgQ (b := f0.b) (o := 0 + 0) (v := v') (by simp only [EV, Nat.reduceEqDiff, ↓reduceIte, he] <;> try rfl) (by simp only [EV, Nat.reduceEqDiff, ↓reduceIte, he] <;> try rfl) p1 ZhB hv'.oneV (Nat.zero_lt_succ _) fun σ1 hb1 k1 => ?_
 refine ⟨(fun hf => by cases hf), ?_⟩
 refine Zor ?_
 have hlen : (f0.d.take (f0.d.length - m)).length = f0.d.length - m := by rw [List.length_take]; omega
 have hv1 : Hd σ1 5 1 v' (f0.d.take (f0.d.length - m)).length (bys (f0.d.take (f0.d.length - m))) := by
  rw [hlen]
  have : bys (f0.d.take (f0.d.length - m)) = (bys f0.d).take ((f0.d.length - m) * 1) := by
   unfold bys
   rw [Nat.mul_one, List.map_take]
  rw [this]
  refine hv'.but k1 fun c hc hq => ?_
  obtain ⟨all, hall⟩ := p3.blk (hbv c hc)
  exact ZdN hall p1 (by decide) hq
 have h1 : DAt σ1 bb S (fs.map (Zeg f0.b v' (f0.d.take (f0.d.length - m)))) pcs size mb pv := (h.setF hf0 (k1.sub fun c hc => .inl hc) hb1 hv1 fun c hc => .inl (hbv c hc)).mono fun c hc => by
  rcases hc with hc | hc
  ·exact hc
  ·exact (h.own.2.2.1 f0 hf0).2 c (hbv c hc)
 have hfile0 : σ1.blk f0.b = some (.own 105 [v']) := hb1
 have hS1 : But S σ σ1 := k1.sub fun c hc => by rw [hc]; exact (h.own.2.2.1 f0 hf0).1
 clear hv1 k1 hb1 hv' hlen
 apply Zb5 0 1 2
 ·simp only [EV, Nat.reduceEqDiff, ↓reduceIte, he] <;> try rfl
 ·simp only [EV, Nat.reduceEqDiff, ↓reduceIte, he] <;> try rfl
 ·simp only [EV, Nat.reduceEqDiff, ↓reduceIte, he] <;> try rfl
 clear he e
 intro e he
 refine Zhy (fun env υ => env 0 = ptr bb 0 /\ Hd υ 85 2 pv pcs.length (pcC (shr f0.b m pcs)) /\ But (fun c => hbk pv = some c) σ1 υ) ?_ ?_
 ·first | refine Zaa ?_ | refine Zad ?_ | (refine Zac ?_; refine Zaa ?_) | (refine Zac ?_; refine Zac ?_; refine Zaa ?_)
  refine Zab (Zak rfl (by simp only [EV, Nat.reduceEqDiff, ↓reduceIte, he] <;> try rfl) ?_)
  refine Zab ?_
  refine Zau (v := ptr bb 0) (by simp only [EV, Nat.reduceEqDiff, ↓reduceIte, he] <;> try rfl) rfl ?_
  refine Zab ?_
  refine Zaf (b := bb) (o := 0) (by simp only [EV, Nat.reduceEqDiff, ↓reduceIte, he] <;> try rfl) ZdF rfl ?_
  refine Zab ?_
  refine ZaD (b := bb) (o := 0 + 0) (r := pv) (by simp only [EV, Nat.reduceEqDiff, ↓reduceIte, he] <;> try rfl) h1.obj ZfS ZdG rfl ?_
  refine Zab ?_
  refine Zjs (by simp only [EV, Nat.reduceEqDiff, ↓reduceIte, he] <;> try rfl) h1.pc rfl Zck ?_
  refine Zab ?_
  refine Zmz (pcs.length : Int) 1 (by simp only [EV, Nat.reduceEqDiff, ↓reduceIte, he] <;> try rfl) (by simp only [EV, Nat.reduceEqDiff, ↓reduceIte, he] <;> try rfl) (by omega) (by omega) ?_
  refine Zab (Zak rfl (by simp only [EV, Nat.reduceEqDiff, ↓reduceIte, he] <;> try rfl) ?_)
  refine Zah ?_
  apply ZcU 0 1 2 6
  ·simp only [EV, Nat.reduceEqDiff, ↓reduceIte, he] <;> try rfl
  ·simp only [EV, Nat.reduceEqDiff, ↓reduceIte, he] <;> try rfl
  ·simp only [EV, Nat.reduceEqDiff, ↓reduceIte, he] <;> try rfl
  ·simp only [EV, Nat.reduceEqDiff, ↓reduceIte, he] <;> try rfl
  clear he e
  intro e he
  refine Zfl ?_
  refine Zgz (fun μ env υ => ∃ (t m' : Nat) (done : List (Nat × Nat)), μ = t /\ t <= pcs.length /\ (env 0 = ptr bb 0 /\ env 1 = ptr f0.b 0 /\ env 2 = vI m' /\ env 6 = .raw (.int .i64 ((t : Int) - 1))) /\ m' <= m /\ Zp6 f0.b m pcs.reverse = done ++ Zp6 f0.b m' (pcs.take t).reverse /\ done.length = pcs.length - t /\ Hd υ 85 2 pv pcs.length (pcC (pcs.take t ++ done.reverse)) /\ But (fun c => hbk pv = some c) σ1 υ) ⟨_, pcs.length, m, [], rfl, Nat.le_refl _, he, Nat.le_refl _, by rw [List.take_length]; rfl, by simp, by rw [List.take_length, List.reverse_nil, List.append_nil]; exact h1.pc, .refl _ _⟩ ?_
  clear he e
  rintro t e υ ⟨_, m', done, rfl, ht, he, hmm, hR, hdl, hL, hB⟩
  have hobj : υ.blk bb = some (.own 68 [pv, ZdZ mb, .raw (.int .i64 size)]) := hB.keep _ _ h1.pvB h1.obj
  have hend : ∀ (he0 : e 0 = ptr bb 0), t = 0 \/ m' = 0 -> (e 0 = ptr bb 0 /\ Hd υ 85 2 pv pcs.length (pcC (shr f0.b m pcs)) /\ But (fun c => hbk pv = some c) σ1 υ) := fun he0 hor => by
   have : shr f0.b m pcs = pcs.take t ++ done.reverse := by
    unfold shr
    rw [hR, List.reverse_append]
    rcases hor with rfl | rfl
    ·rfl
    ·rw [Zmy, List.reverse_reverse]
   rw [this]
   exact ⟨he0, hL, hB⟩
  rcases Nat.eq_zero_or_pos t with ht0 | ht0
  ·first | refine Zaa ?_ | refine Zad ?_ | (refine Zac ?_; refine Zaa ?_) | (refine Zac ?_; refine Zac ?_; refine Zaa ?_)
   refine Zab (Zak rfl (by simp only [EV, Nat.reduceEqDiff, ↓reduceIte, he] <;> try rfl) ?_)
   refine Zab ?_
   refine Zxv (k := .i64) (a := (t : Int) - 1) (b := 0) (by simp only [EV, Nat.reduceEqDiff, ↓reduceIte, he] <;> try rfl) (by simp only [EV, Nat.reduceEqDiff, ↓reduceIte, he] <;> try rfl) ?_
   rw [decide_eq_false (by omega : ¬ (0 : Int) <= (t : Int) - 1)]
   refine Zab (Zak rfl (by simp only [EV, Nat.reduceEqDiff, ↓reduceIte, he] <;> try rfl) ?_)
   refine Zab (ZeN (Zg8 rfl (by simp only [EV, Nat.reduceEqDiff, ↓reduceIte, he] <;> try rfl)) ?_)
   refine Zab (ZeN (Zg8 rfl (by simp only [EV, Nat.reduceEqDiff, ↓reduceIte, he] <;> try rfl)) ?_)
   refine Zab ?_
   refine Zfk (v := vT false) (by simp only [EV, Nat.reduceEqDiff, ↓reduceIte, he] <;> try rfl) (by simp only [EV, Nat.reduceEqDiff, ↓reduceIte, he] <;> try rfl) ?_
   refine Zah ?_
   refine Zbu (t := false) (by simp only [EV, Nat.reduceEqDiff, ↓reduceIte, he] <;> try rfl) (fun hf => by cases hf) (fun _ => ?_)
   refine Zia ?_
   exact ⟨rfl, by simp only [EV, Nat.reduceEqDiff, ↓reduceIte, he] <;> try rfl, (hend (by simp only [EV, Nat.reduceEqDiff, ↓reduceIte, he] <;> try rfl) (.inl ht0)).2⟩
  rcases Nat.eq_zero_or_pos m' with hm0 | hm0
  ·first | refine Zaa ?_ | refine Zad ?_ | (refine Zac ?_; refine Zaa ?_) | (refine Zac ?_; refine Zac ?_; refine Zaa ?_)
   refine Zab (Zak rfl (by simp only [EV, Nat.reduceEqDiff, ↓reduceIte, he] <;> try rfl) ?_)
   refine Zab ?_
   refine Zxv (k := .i64) (a := (t : Int) - 1) (b := 0) (by simp only [EV, Nat.reduceEqDiff, ↓reduceIte, he] <;> try rfl) (by simp only [EV, Nat.reduceEqDiff, ↓reduceIte, he] <;> try rfl) ?_
   rw [decide_eq_true (by omega : (0 : Int) <= (t : Int) - 1)]
   refine Zab (Zak rfl (by simp only [EV, Nat.reduceEqDiff, ↓reduceIte, he] <;> try rfl) ?_)
   refine Zab (ZaE (Zg8 rfl (by simp only [EV, Nat.reduceEqDiff, ↓reduceIte, he] <;> try rfl)) ?_)
   refine Zak rfl (by simp only [EV, Nat.reduceEqDiff, ↓reduceIte, he] <;> try rfl) ?_
   refine Zab (ZaE (Zg8 rfl (by simp only [EV, Nat.reduceEqDiff, ↓reduceIte, he] <;> try rfl)) ?_)
   refine Ztl (k := .i64) (a := (m' : Int)) (b := 0) (by simp only [EV, Nat.reduceEqDiff, ↓reduceIte, he] <;> try rfl) (by simp only [EV, Nat.reduceEqDiff, ↓reduceIte, he] <;> try rfl) ?_
   rw [decide_eq_false (by omega : ¬ (0 : Int) < (m' : Int))]
   refine Zab ?_
   refine Zc8 (v := vT false) (by simp only [EV, Nat.reduceEqDiff, ↓reduceIte, he] <;> try rfl) (by simp only [EV, Nat.reduceEqDiff, ↓reduceIte, he] <;> try rfl) ?_
   refine Zah ?_
   refine Zbu (t := false) (by simp only [EV, Nat.reduceEqDiff, ↓reduceIte, he] <;> try rfl) (fun hf => by cases hf) (fun _ => ?_)
   refine Zia ?_
   exact ⟨rfl, by simp only [EV, Nat.reduceEqDiff, ↓reduceIte, he] <;> try rfl, (hend (by simp only [EV, Nat.reduceEqDiff, ↓reduceIte, he] <;> try rfl) (.inr hm0)).2⟩
  clear hend
  obtain ⟨j, rfl⟩ : ∃ j, t = j + 1 := ⟨t - 1, by omega⟩
  have hj : j < pcs.length := by omega
  have htk : pcs.take (j + 1) = pcs.take j ++ [pcs[j]] := List.take_succ_eq_append_getElem hj
  have hpj := hs _ (List.getElem_mem hj)
  generalize hp : pcs[j] = p at htk hpj
  have hlj : (pcs.take (j + 1) ++ done.reverse).length = pcs.length := by
   rw [List.length_append, List.length_take, List.length_reverse, hdl]; omega
  have hRj : Zp6 f0.b m' (pcs.take (j + 1)).reverse = (if p.1 = f0.b then (p.1, p.2 - min m' p.2) :: Zp6 f0.b (m' - min m' p.2) (pcs.take j).reverse else p :: Zp6 f0.b m' (pcs.take j).reverse) := by
   rw [htk, List.reverse_append]
   rfl
  have hget : (pcs.take (j + 1) ++ done.reverse)[j]'(by omega) = p := by
   rw [List.getElem_append_left (by rw [List.length_take]; omega), List.getElem_take]
   exact hp
  have hj1 : ((j : Int) + 1 - 1) = (j : Int) := by omega
  rw [show (((j + 1 : Nat) : Int) - 1) = (j : Int) by omega] at he
  first | refine Zaa ?_ | refine Zad ?_ | (refine Zac ?_; refine Zaa ?_) | (refine Zac ?_; refine Zac ?_; refine Zaa ?_)
  refine Zab (Zak rfl (by simp only [EV, Nat.reduceEqDiff, ↓reduceIte, he] <;> try rfl) ?_)
  refine Zab ?_
  refine Zxv (k := .i64) (a := (j : Int)) (b := 0) (by simp only [EV, Nat.reduceEqDiff, ↓reduceIte, he] <;> try rfl) (by simp only [EV, Nat.reduceEqDiff, ↓reduceIte, he] <;> try rfl) ?_
  rw [decide_eq_true (by omega : (0 : Int) <= (j : Int))]
  refine Zab (Zak rfl (by simp only [EV, Nat.reduceEqDiff, ↓reduceIte, he] <;> try rfl) ?_)
  refine Zab (ZaE (Zg8 rfl (by simp only [EV, Nat.reduceEqDiff, ↓reduceIte, he] <;> try rfl)) ?_)
  refine Zak rfl (by simp only [EV, Nat.reduceEqDiff, ↓reduceIte, he] <;> try rfl) ?_
  refine Zab (ZaE (Zg8 rfl (by simp only [EV, Nat.reduceEqDiff, ↓reduceIte, he] <;> try rfl)) ?_)
  refine Ztl (k := .i64) (a := (m' : Int)) (b := 0) (by simp only [EV, Nat.reduceEqDiff, ↓reduceIte, he] <;> try rfl) (by simp only [EV, Nat.reduceEqDiff, ↓reduceIte, he] <;> try rfl) ?_
  rw [decide_eq_true (by omega : (0 : Int) < (m' : Int))]
  refine Zab ?_
  refine Zc8 (v := vT true) (by simp only [EV, Nat.reduceEqDiff, ↓reduceIte, he] <;> try rfl) (by simp only [EV, Nat.reduceEqDiff, ↓reduceIte, he] <;> try rfl) ?_
  refine Zah ?_
  apply Zg6 0 1 2 6 34
  ·simp only [EV, Nat.reduceEqDiff, ↓reduceIte, he] <;> try rfl
  ·simp only [EV, Nat.reduceEqDiff, ↓reduceIte, he] <;> try rfl
  ·simp only [EV, Nat.reduceEqDiff, ↓reduceIte, he] <;> try rfl
  ·simp only [EV, Nat.reduceEqDiff, ↓reduceIte, he] <;> try rfl
  ·simp only [EV, Nat.reduceEqDiff, ↓reduceIte, he] <;> try rfl
  clear he e
  intro e he
  refine Zbu (t := true) (by simp only [EV, Nat.reduceEqDiff, ↓reduceIte, he] <;> try rfl) (fun _ => ?_) (fun hf => by cases hf)
  refine Zb2 ?_
  refine Zhy (fun env υ => ∃ (m' : Nat) (done : List (Nat × Nat)), (env 0 = ptr bb 0 /\ env 1 = ptr f0.b 0 /\ env 2 = vI m' /\ env 6 = vI j) /\ m' <= m /\ Zp6 f0.b m pcs.reverse = done ++ Zp6 f0.b m' (pcs.take j).reverse /\ done.length = pcs.length - j /\ Hd υ 85 2 pv pcs.length (pcC (pcs.take j ++ done.reverse)) /\ But (fun c => hbk pv = some c) σ1 υ) ?_ ?_
  ·refine Zfl ?_
   first | refine Zaa ?_ | refine Zad ?_ | (refine Zac ?_; refine Zaa ?_) | (refine Zac ?_; refine Zac ?_; refine Zaa ?_)
   refine Zab (Zak rfl (by simp only [EV, Nat.reduceEqDiff, ↓reduceIte, he] <;> try rfl) ?_)
   refine Zab ?_
   refine Zau (v := ptr bb 0) (by simp only [EV, Nat.reduceEqDiff, ↓reduceIte, he] <;> try rfl) rfl ?_
   refine Zab ?_
   refine Zaf (b := bb) (o := 0) (by simp only [EV, Nat.reduceEqDiff, ↓reduceIte, he] <;> try rfl) ZdF rfl ?_
   refine Zab ?_
   refine ZaD (b := bb) (o := 0 + 0) (r := pv) (by simp only [EV, Nat.reduceEqDiff, ↓reduceIte, he] <;> try rfl) hobj ZfS ZdG rfl ?_
   refine Zab (Zak rfl (by simp only [EV, Nat.reduceEqDiff, ↓reduceIte, he] <;> try rfl) ?_)
   refine Zab ?_
   refine ZdE (k := .i64) (j := j) (by simp only [EV, Nat.reduceEqDiff, ↓reduceIte, he] <;> try rfl) (by simp only [EV, Nat.reduceEqDiff, ↓reduceIte, he] <;> try rfl) Zck ZbJ hL hj fun b hb => ?_
   obtain ⟨c, all, hpv, q1, q2, q3, q4, q5, q6⟩ := hL.at_ hb
   have hq2 := hL.len
   have hall : ∀ o < 2, all[j * 2 + o]? = (pcC (pcs.take (j + 1) ++ done.reverse))[j * 2 + o]? := fun o ho => by
    rw [<- q4, List.getElem?_take_of_lt (by omega)]
   have hcj : (pcC (pcs.take (j + 1) ++ done.reverse)).drop (j * 2) = ptr p.1 0 :: .raw (.int .i64 (p.2 : Int)) :: pcC ((pcs.take (j + 1) ++ done.reverse).drop (j + 1)) := by
    rw [Zox, List.drop_eq_getElem_cons (by omega), hget]
    rfl
   have hc0 : all[j * 2 + 0]? = some (ptr p.1 0) := by
    rw [hall 0 (by omega), <- List.getElem?_drop, hcj]
    rfl
   have hc1 : all[j * 2 + 1]? = some (.raw (.int .i64 (p.2 : Int))) := by
    rw [hall 1 (by omega), <- List.getElem?_drop, hcj]
    rfl
   refine Zab ?_
   refine Zaf (b := b) (o := j * 2) (by simp only [EV, Nat.reduceEqDiff, ↓reduceIte, he] <;> try rfl) ZgP rfl ?_
   refine Zab ?_
   refine ZaD (b := b) (o := j * 2 + 0) (r := ptr p.1 0) (by simp only [EV, Nat.reduceEqDiff, ↓reduceIte, he] <;> try rfl) q1 Zov Zou hc0 ?_
   refine Zab (Zak rfl (by simp only [EV, Nat.reduceEqDiff, ↓reduceIte, he] <;> try rfl) ?_)
   obtain ⟨fp, hfp, hfpb⟩ := h1.inn p (by rw [<- hp]; exact List.getElem_mem hj)
   refine ZuM (m := 0) (p := p.1) (q := f0.b) (cp := [fp.v]) (cq := [v']) Zg4 ZuV (by simp only [EV, Nat.reduceEqDiff, ↓reduceIte, he] <;> try rfl) (by simp only [EV, Nat.reduceEqDiff, ↓reduceIte, he] <;> try rfl) (hB.keep _ _ (by rw [<- hfpb]; exact h1.pvF hfp) (by rw [<- hfpb]; exact (h1.file fp hfp).1)) (hB.keep _ _ (h.pvF hf0) hfile0) ?_
   refine Zah ?_
   apply Zg6 0 1 2 6 46
   ·simp only [EV, Nat.reduceEqDiff, ↓reduceIte, he] <;> try rfl
   ·simp only [EV, Nat.reduceEqDiff, ↓reduceIte, he] <;> try rfl
   ·simp only [EV, Nat.reduceEqDiff, ↓reduceIte, he] <;> try rfl
   ·simp only [EV, Nat.reduceEqDiff, ↓reduceIte, he] <;> try rfl
   ·simp only [EV, Nat.reduceEqDiff, ↓reduceIte, he] <;> try rfl
   clear he e
   intro e he
   refine Zdw (t := decide (p.1 = f0.b)) (by simp only [EV, Nat.reduceEqDiff, ↓reduceIte, he] <;> try rfl) (fun hpf => ?_) (fun hpf => ?_)
   ·have hpf : p.1 = f0.b := of_decide_eq_true hpf
    rw [if_pos hpf] at hRj
    first | refine Zaa ?_ | refine Zad ?_ | (refine Zac ?_; refine Zaa ?_) | (refine Zac ?_; refine Zac ?_; refine Zaa ?_)
    refine Zab (Zak rfl (by simp only [EV, Nat.reduceEqDiff, ↓reduceIte, he] <;> try rfl) ?_)
    refine Zab (Zak rfl (by simp only [EV, Nat.reduceEqDiff, ↓reduceIte, he] <;> try rfl) ?_)
    refine Zab ?_
    refine Zau (v := ptr bb 0) (by simp only [EV, Nat.reduceEqDiff, ↓reduceIte, he] <;> try rfl) rfl ?_
    refine Zab ?_
    refine Zaf (b := bb) (o := 0) (by simp only [EV, Nat.reduceEqDiff, ↓reduceIte, he] <;> try rfl) ZdF rfl ?_
    refine Zab ?_
    refine ZaD (b := bb) (o := 0 + 0) (r := pv) (by simp only [EV, Nat.reduceEqDiff, ↓reduceIte, he] <;> try rfl) hobj ZfS ZdG rfl ?_
    refine Zab (Zak rfl (by simp only [EV, Nat.reduceEqDiff, ↓reduceIte, he] <;> try rfl) ?_)
    refine Zab ?_
    refine ZdE (k := .i64) (j := j) (by simp only [EV, Nat.reduceEqDiff, ↓reduceIte, he] <;> try rfl) (by simp only [EV, Nat.reduceEqDiff, ↓reduceIte, he] <;> try rfl) Zck ZbJ hL hj fun b' hb' => ?_
    obtain rfl : b = b' := by rw [hb] at hb'; injection hb'
    refine Zab ?_
    refine Zaf (b := b) (o := j * 2) (by simp only [EV, Nat.reduceEqDiff, ↓reduceIte, he] <;> try rfl) ZgP rfl ?_
    refine Zab ?_
    refine ZaD (b := b) (o := j * 2 + 1) (r := .raw (.int .i64 (p.2 : Int))) (by simp only [EV, Nat.reduceEqDiff, ↓reduceIte, he] <;> try rfl) q1 ZpT ZnC hc1 ?_
    refine Zab ?_
    refine Zxh m' p.2 (by simp only [EV, Nat.reduceEqDiff, ↓reduceIte, he] <;> try rfl) (by simp only [EV, Nat.reduceEqDiff, ↓reduceIte, he] <;> try rfl) ?_
    refine Zab (Zak rfl (by simp only [EV, Nat.reduceEqDiff, ↓reduceIte, he] <;> try rfl) ?_)
    refine Zah ?_
    apply Zg6 0 1 2 6 7
    ·simp only [EV, Nat.reduceEqDiff, ↓reduceIte, he] <;> try rfl
    ·simp only [EV, Nat.reduceEqDiff, ↓reduceIte, he] <;> try rfl
    ·simp only [EV, Nat.reduceEqDiff, ↓reduceIte, he] <;> try rfl
    ·simp only [EV, Nat.reduceEqDiff, ↓reduceIte, he] <;> try rfl
    ·simp only [EV, Nat.reduceEqDiff, ↓reduceIte, he] <;> try rfl
    clear he e
    intro e he
    first | refine Zaa ?_ | refine Zad ?_ | (refine Zac ?_; refine Zaa ?_) | (refine Zac ?_; refine Zac ?_; refine Zaa ?_)
    refine Zab (Zak rfl (by simp only [EV, Nat.reduceEqDiff, ↓reduceIte, he] <;> try rfl) ?_)
    refine Zab ?_
    refine Zau (v := ptr bb 0) (by simp only [EV, Nat.reduceEqDiff, ↓reduceIte, he] <;> try rfl) rfl ?_
    refine Zab ?_
    refine Zaf (b := bb) (o := 0) (by simp only [EV, Nat.reduceEqDiff, ↓reduceIte, he] <;> try rfl) ZdF rfl ?_
    refine Zab ?_
    refine ZaD (b := bb) (o := 0 + 0) (r := pv) (by simp only [EV, Nat.reduceEqDiff, ↓reduceIte, he] <;> try rfl) hobj ZfS ZdG rfl ?_
    refine Zab (Zak rfl (by simp only [EV, Nat.reduceEqDiff, ↓reduceIte, he] <;> try rfl) ?_)
    refine Zab ?_
    refine ZdE (k := .i64) (j := j) (by simp only [EV, Nat.reduceEqDiff, ↓reduceIte, he] <;> try rfl) (by simp only [EV, Nat.reduceEqDiff, ↓reduceIte, he] <;> try rfl) Zck ZbJ hL hj fun b' hb' => ?_
    obtain rfl : b = b' := by rw [hb] at hb'; injection hb'
    refine Zab ?_
    refine Zaf (b := b) (o := j * 2) (by simp only [EV, Nat.reduceEqDiff, ↓reduceIte, he] <;> try rfl) ZgP rfl ?_
    refine Zab ?_
    refine ZaD (b := b) (o := j * 2 + 1) (r := .raw (.int .i64 (p.2 : Int))) (by simp only [EV, Nat.reduceEqDiff, ↓reduceIte, he] <;> try rfl) q1 ZpT ZnC hc1 ?_
    refine Zab (Zak rfl (by simp only [EV, Nat.reduceEqDiff, ↓reduceIte, he] <;> try rfl) ?_)
    refine Zab ?_
    refine Zmz (p.2 : Int) ((min m' p.2 : Nat) : Int) (by simp only [EV, Nat.reduceEqDiff, ↓reduceIte, he] <;> try rfl) (by simp only [EV, Nat.reduceEqDiff, ↓reduceIte, he] <;> try rfl) (by omega) (by omega) ?_
    refine Zab ?_
    refine ZdE (k := .i64) (j := j) (by simp only [EV, Nat.reduceEqDiff, ↓reduceIte, he] <;> try rfl) (by simp only [EV, Nat.reduceEqDiff, ↓reduceIte, he] <;> try rfl) Zck ZbJ hL hj fun b' hb' => ?_
    obtain rfl : b = b' := by rw [hb] at hb'; injection hb'
    refine Zab ?_
    refine Zaf (b := b) (o := j * 2) (by simp only [EV, Nat.reduceEqDiff, ↓reduceIte, he] <;> try rfl) ZgP rfl ?_
    refine Zab ?_
    refine Zwt (b := b) (o := j * 2 + 1) (r := .raw (.int .i64 ((p.2 : Int) - ((min m' p.2 : Nat) : Int)))) (by simp only [EV, Nat.reduceEqDiff, ↓reduceIte, he] <;> try rfl) (by simp only [EV, Nat.reduceEqDiff, ↓reduceIte, he] <;> try rfl) ZnC hL hb (by omega) ⟨rfl, rfl, rfl⟩ fun υ2 hL2 hB2 => ?_
    refine Zah ?_
    apply Zg6 0 1 2 6 7
    ·simp only [EV, Nat.reduceEqDiff, ↓reduceIte, he] <;> try rfl
    ·simp only [EV, Nat.reduceEqDiff, ↓reduceIte, he] <;> try rfl
    ·simp only [EV, Nat.reduceEqDiff, ↓reduceIte, he] <;> try rfl
    ·simp only [EV, Nat.reduceEqDiff, ↓reduceIte, he] <;> try rfl
    ·simp only [EV, Nat.reduceEqDiff, ↓reduceIte, he] <;> try rfl
    clear he e
    intro e he
    refine Zad ?_
    refine Zab (Zak rfl (by simp only [EV, Nat.reduceEqDiff, ↓reduceIte, he] <;> try rfl) ?_)
    refine Zab (Zak rfl (by simp only [EV, Nat.reduceEqDiff, ↓reduceIte, he] <;> try rfl) ?_)
    refine Zab ?_
    refine Zmz (m' : Int) ((min m' p.2 : Nat) : Int) (by simp only [EV, Nat.reduceEqDiff, ↓reduceIte, he] <;> try rfl) (by simp only [EV, Nat.reduceEqDiff, ↓reduceIte, he] <;> try rfl) (by omega) (by omega) ?_
    refine Zab (Zak rfl (by simp only [EV, Nat.reduceEqDiff, ↓reduceIte, he] <;> try rfl) ?_)
    refine Zah ?_
    have hset : (pcC (pcs.take (j + 1) ++ done.reverse)).set (j * 2 + 1) (.raw (.int .i64 ((p.2 : Int) - ((min m' p.2 : Nat) : Int)))) = pcC (pcs.take j ++ (done ++ [(p.1, p.2 - min m' p.2)]).reverse) := by
     have e1 : pcs.take (j + 1) ++ done.reverse = pcs.take j ++ (p :: done.reverse) := by rw [htk, List.append_assoc]; rfl
     have e2 : (pcC (pcs.take j)).length = j * 2 := by rw [ZqW, List.length_take, Nat.min_eq_left (by omega)]
     rw [e1, List.reverse_append, Zmx, Zmx, List.set_append_right _ _ (by omega), e2, Nat.add_sub_cancel_left]
     show _ = pcC (pcs.take j) ++ (ptr p.1 0 :: .raw (.int .i64 ((p.2 - min m' p.2 : Nat) : Int)) :: pcC done.reverse)
     rw [Int.ofNat_sub (Nat.min_le_right _ _)]
     rfl
    refine ⟨rfl, m' - min m' p.2, done ++ [(p.1, p.2 - min m' p.2)], ⟨by simp only [EV, Nat.reduceEqDiff, ↓reduceIte, he] <;> try rfl, by simp only [EV, Nat.reduceEqDiff, ↓reduceIte, he] <;> try rfl, ?_, by simp only [EV, Nat.reduceEqDiff, ↓reduceIte, he] <;> try rfl⟩, by omega, ?_, by rw [List.length_append, hdl]; simp; omega, hset ▸ hL2, hB.trans hB2⟩
    ·rw [Int.ofNat_sub (Nat.min_le_left _ _)]
     simp only [EV, Nat.reduceEqDiff, ↓reduceIte, he] <;> try rfl
    ·rw [hR, hRj, List.append_assoc]
     rfl
   ·have hpf : ¬ p.1 = f0.b := of_decide_eq_false hpf
    rw [if_neg hpf] at hRj
    refine Zgy ?_
    refine ⟨rfl, m', done ++ [p], ⟨by simp only [EV, Nat.reduceEqDiff, ↓reduceIte, he] <;> try rfl, by simp only [EV, Nat.reduceEqDiff, ↓reduceIte, he] <;> try rfl, by simp only [EV, Nat.reduceEqDiff, ↓reduceIte, he] <;> try rfl, by simp only [EV, Nat.reduceEqDiff, ↓reduceIte, he] <;> try rfl⟩, hmm, ?_, by rw [List.length_append, hdl]; simp; omega, ?_, hB⟩
    ·rw [hR, hRj, List.append_assoc]
     rfl
    ·have e3 : pcs.take j ++ (done ++ [p]).reverse = pcs.take (j + 1) ++ done.reverse := by
      rw [List.reverse_append, htk, List.append_assoc]
      rfl
     rw [e3]
     exact hL
  ·clear he e hL hB hobj hR hdl hlj hRj hget hmm hm0
   rintro e υ ⟨m'', done', he, g1, g2, g3, g4, g5⟩
   refine Zad ?_
   refine Zab (Zak rfl (by simp only [EV, Nat.reduceEqDiff, ↓reduceIte, he] <;> try rfl) ?_)
   refine Zab ?_
   refine Zmz (j : Int) 1 (by simp only [EV, Nat.reduceEqDiff, ↓reduceIte, he] <;> try rfl) (by simp only [EV, Nat.reduceEqDiff, ↓reduceIte, he] <;> try rfl) (by omega) (by omega) ?_
   refine Zab (Zak rfl (by simp only [EV, Nat.reduceEqDiff, ↓reduceIte, he] <;> try rfl) ?_)
   refine Zah ?_
   show ∃ n', n' < _ /\ _
   exact ⟨_, Nat.lt_succ_self j, j, m'', done', rfl, by omega, ⟨by simp only [EV, Nat.reduceEqDiff, ↓reduceIte, he] <;> try rfl, by simp only [EV, Nat.reduceEqDiff, ↓reduceIte, he] <;> try rfl, by simp only [EV, Nat.reduceEqDiff, ↓reduceIte, he] <;> try rfl, by simp only [EV, Nat.reduceEqDiff, ↓reduceIte, he] <;> try rfl⟩, g1, g2, g3, g4, g5⟩
 clear he e
 rintro e υ ⟨he, hL, hB⟩
 have hobj : υ.blk bb = some (.own 68 [pv, ZdZ mb, .raw (.int .i64 size)]) := hB.keep _ _ h1.pvB h1.obj
 refine Zad ?_
 refine Zab (Zak rfl (by simp only [EV, Nat.reduceEqDiff, ↓reduceIte, he] <;> try rfl) ?_)
 refine Zab (Zak rfl (by simp only [EV, Nat.reduceEqDiff, ↓reduceIte, he] <;> try rfl) ?_)
 refine Zab ?_
 refine Zau (v := ptr bb 0) (by simp only [EV, Nat.reduceEqDiff, ↓reduceIte, he] <;> try rfl) rfl ?_
 refine Zab ?_
 refine Zaf (b := bb) (o := 0) (by simp only [EV, Nat.reduceEqDiff, ↓reduceIte, he] <;> try rfl) ZdF rfl ?_
 refine Zab ?_
 refine ZaD (b := bb) (o := 0 + 0) (r := pv) (by simp only [EV, Nat.reduceEqDiff, ↓reduceIte, he] <;> try rfl) hobj ZfS ZdG rfl ?_
 refine Zab ?_
 refine Za9 (vs := [pv, fnV 65 #[]]) (by simp only [List.map_cons, List.map_nil, EV, Nat.reduceEqDiff, ↓reduceIte, he] <;> try rfl) ?_
 rw [<- ZuX f0.b m pcs] at hL
 refine ZpW (q := fun p => decide (p.2 = 0)) hL (by rw [ZuX]; exact hl) (fun υ' _ p hp K' hK' => ZqZ K' hK') fun τ pv' d1 d2 d3 => ?_
 refine Zab ?_
 refine Zau (v := ptr bb 0) (by simp only [EV, Nat.reduceEqDiff, ↓reduceIte, he] <;> try rfl) rfl ?_
 refine Zab ?_
 refine Zaf (b := bb) (o := 0) (by simp only [EV, Nat.reduceEqDiff, ↓reduceIte, he] <;> try rfl) ZdF rfl ?_
 refine Zab ?_
 refine ZgQ (b := bb) (o := 0 + 0) (v := pv') (by simp only [EV, Nat.reduceEqDiff, ↓reduceIte, he] <;> try rfl) (by simp only [EV, Nat.reduceEqDiff, ↓reduceIte, he] <;> try rfl) (d2.keep _ _ h1.pvB hobj) ZdG d1.oneV (Nat.zero_lt_succ _) fun τ2 hb2 k2 => ?_
 refine Zah ?_
 have hB2 : But (fun c => c = bb \/ hbk pv = some c) σ1 τ2 := ((hB.trans d2).sub fun c hc => .inr hc).trans (k2.sub fun c hc => .inl hc)
 refine ⟨_, ZgA rfl, hK τ2 v' pv' ((h1.setP hB2 hb2 (d1.but k2 fun c hc hq => ?_) fun p hp => ?_).mono fun c hc => ?_) (hS1.trans (hB2.sub fun c hc => h1.pvS hc))⟩
 ·rw [hq] at hc
  exact h1.pvB (d3 _ hc)
 ·obtain ⟨p', hp', hpp⟩ := Zz7 (List.mem_filter.1 hp).1
  rw [<- hpp]
  exact h1.inn p' hp'
 ·rcases hc with hc | hc
  ·exact hc
  ·exact h1.pvS (.inr (d3 _ hc))
end
end Go.Proofs.YteempnebenjkmaaDoor
namespace Go.Proofs.YteempnebenjkmaaDoor
open Go.RowKit
set_option maxRecDepth 100000
set_option linter.unusedVariables false
set_option linter.unusedSimpArgs false
theorem Zjy {S : Nat -> Prop} {σ υ : St} {c : Nat} (hB : But S σ υ) (h : Zgq υ c) : S c \/ Zgq σ c := by
 by_cases hc : S c
 ·exact .inl hc
 ·refine .inr ⟨?_, fun hu => h.2 (hB.used _ hu)⟩
  cases hx : σ.blk c with
  | none => rfl
  | some x =>
   have := hB.keep _ _ hc hx
   rw [h.1] at this
   cases this
def ZyA (fs : List Fl) (pcs : List (Nat × Nat)) (k d : List UInt8) (fs' : List Fl) (pcs' : List (Nat × Nat)) : Prop :=
 ∃ fs1 f0 v', (fs1 = fs \/ (∀ f ∈ fs, f.nm ≠ k) /\ fs1 = fs ++ [f0] /\ f0.d = []) /\ f0 ∈ fs1 /\ f0.nm = k /\ fs' = fs1.map (Zeg f0.b v' (f0.d ++ d)) /\ pcs' = pcs ++ (if d = [] then [] else [(f0.b, d.length)])
theorem ZrW {f : Fl} : ∀ {fs : List Fl}, f ∈ fs -> f.d.length <= ZjG fs
 | g :: fs, h => by
  have : ZjG (g :: fs) = g.d.length + ZjG fs := by simp [ZjG]
  rcases List.mem_cons.1 h with rfl | h
  ·omega
  ·have := ZrW h; omega
section
variable {σ : St} {bb mb : Nat} {S : Nat -> Prop} {fs : List Fl} {pcs : List (Nat × Nat)} {size : Int} {pv : AV} {K : AV -> St -> Prop}
set_option maxHeartbeats 2000000 in
theorem ZuZ (h : DAt σ bb S fs pcs size mb pv) (hS : ∀ c, S c -> σ.used c) {k d : List UInt8} {pa : AV}
 (hcat : ∀ τ0, Ext σ τ0 -> ∀ K' : AV -> St -> Prop, (∀ v τ, Hd τ 5 1 v d.length (bys d) -> Ext τ0 τ -> (∀ b, hbk v = some b -> Zgq τ0 b) -> K' v τ) -> Zay Tryd.prog 53 [pa] τ0 K')
 (hlen : d.length + ZjG fs <= 100000000) (hp : pcs.length <= 100000000)
 (hK2 : ¬ (k ≠ [] /\ k.length <= 40) -> ∀ τ, Ext σ τ -> K (vI 2) τ)
 (hK8 : (k ≠ [] /\ k.length <= 40) -> ¬ (size < 1 \/ ((d.length + ZjG fs : Nat) : Int) <= size) -> ∀ τ, Ext σ τ -> K (vI 8) τ)
 (hK0 : (k ≠ [] /\ k.length <= 40) -> (size < 1 \/ ((d.length + ZjG fs : Nat) : Int) <= size) -> ∀ τ S' fs' pcs' pv', DAt τ bb S' fs' pcs' size mb pv' -> But S σ τ -> (∀ c, S c -> S' c) -> (∀ c, S' c -> S c \/ Zgq σ c) -> (∀ c, S' c -> τ.used c) -> ZyA fs pcs k d fs' pcs' -> K (vI 0) τ) :
 Zay Tryd.prog 59 [ptr bb 0, .raw (sV k), pa] σ K := by
 refine ZaG ZaN Tryd.func59 rfl rfl rfl (Nat.le_of_ble_eq_true rfl) ?_
 refine Zb5 0 1 2 (v0 := ptr bb 0) (v1 := .raw (sV k)) (v2 := pa) rfl rfl rfl ?_
 intro e he
 first | refine Zaa ?_ | refine Zad ?_ | (refine Zac ?_; refine Zaa ?_) | (refine Zac ?_; refine Zac ?_; refine Zaa ?_)
 refine Zab (Zak rfl (by simp only [EV, Nat.reduceEqDiff, ↓reduceIte, he] <;> try rfl) ?_)
 refine Zah ?_
 apply Zb5 0 1 2
 ·simp only [EV, Nat.reduceEqDiff, ↓reduceIte, he] <;> try rfl
 ·simp only [EV, Nat.reduceEqDiff, ↓reduceIte, he] <;> try rfl
 ·simp only [EV, Nat.reduceEqDiff, ↓reduceIte, he] <;> try rfl
 clear he e
 intro e he
 refine Zej ?_
 first | refine Zaa ?_ | refine Zad ?_ | (refine Zac ?_; refine Zaa ?_) | (refine Zac ?_; refine Zac ?_; refine Zaa ?_)
 refine Zab (Zak rfl (by simp only [EV, Nat.reduceEqDiff, ↓reduceIte, he] <;> try rfl) ?_)
 refine Zab ?_
 refine Za9 (vs := [ptr bb 0]) (by simp only [List.map_cons, List.map_nil, EV, Nat.reduceEqDiff, ↓reduceIte, he] <;> try rfl) ?_
 refine Zjx h ?_
 refine Zab ?_
 with_reducible apply Zg2
 case hx => simp only [EV, Nat.reduceEqDiff, ↓reduceIte, he] <;> try rfl
 refine Zab (Zak rfl (by simp only [EV, Nat.reduceEqDiff, ↓reduceIte, he] <;> try rfl) ?_)
 refine Zah ?_
 apply ZcU 0 1 2 9
 ·simp only [EV, Nat.reduceEqDiff, ↓reduceIte, he] <;> try rfl
 ·simp only [EV, Nat.reduceEqDiff, ↓reduceIte, he] <;> try rfl
 ·simp only [EV, Nat.reduceEqDiff, ↓reduceIte, he] <;> try rfl
 ·simp only [EV, Nat.reduceEqDiff, ↓reduceIte, he] <;> try rfl
 clear he e
 intro e he
 refine Zdw (t := false) (by simp only [EV, Nat.reduceEqDiff, ↓reduceIte, he] <;> try rfl) (fun hf => by cases hf) (fun _ => ?_)
 first | refine Zaa ?_ | refine Zad ?_ | (refine Zac ?_; refine Zaa ?_) | (refine Zac ?_; refine Zac ?_; refine Zaa ?_)
 refine Zab (Zak rfl (by simp only [EV, Nat.reduceEqDiff, ↓reduceIte, he] <;> try rfl) ?_)
 refine Zab ?_
 refine Za9 (vs := [.raw (sV k)]) (by simp only [List.map_cons, List.map_nil, EV, Nat.reduceEqDiff, ↓reduceIte, he] <;> try rfl) ?_
 refine ZrT _ fun σ1 hX1 => ?_
 refine Zab ?_
 with_reducible apply Zg2
 case hx => simp only [EV, Nat.reduceEqDiff, ↓reduceIte, he] <;> try rfl
 refine Zab (Zak rfl (by simp only [EV, Nat.reduceEqDiff, ↓reduceIte, he] <;> try rfl) ?_)
 refine Zah ?_
 apply ZcU 0 1 2 13
 ·simp only [EV, Nat.reduceEqDiff, ↓reduceIte, he] <;> try rfl
 ·simp only [EV, Nat.reduceEqDiff, ↓reduceIte, he] <;> try rfl
 ·simp only [EV, Nat.reduceEqDiff, ↓reduceIte, he] <;> try rfl
 ·simp only [EV, Nat.reduceEqDiff, ↓reduceIte, he] <;> try rfl
 clear he e
 intro e he
 refine Zdw (t := !decide (k ≠ [] /\ k.length <= 40)) (by simp only [EV, Nat.reduceEqDiff, ↓reduceIte, he] <;> try rfl) (fun hk => ?_) (fun hk => ?_)
 ·rw [Bool.not_eq_true'] at hk
  first | refine Zaa ?_ | refine Zad ?_ | (refine Zac ?_; refine Zaa ?_) | (refine Zac ?_; refine Zac ?_; refine Zaa ?_)
  refine Zab (Zak rfl (by simp only [EV, Nat.reduceEqDiff, ↓reduceIte, he] <;> try rfl) ?_)
  refine Zah ?_
  refine Zbm ?_
  show ∃ r, Zaq _ _ _ _ r /\ _
  exact ⟨_, ZaZ rfl (by simp only [EV, Nat.reduceEqDiff, ↓reduceIte, he] <;> try rfl), hK2 (of_decide_eq_false hk) σ1 hX1⟩
 rw [Bool.not_eq_false'] at hk
 have hk := of_decide_eq_true hk
 refine Zgy ?_
 show ZaP _ _ _ _ _ _
 first | refine Zaa ?_ | refine Zad ?_ | (refine Zac ?_; refine Zaa ?_) | (refine Zac ?_; refine Zac ?_; refine Zaa ?_)
 refine Zab (Zak rfl (by simp only [EV, Nat.reduceEqDiff, ↓reduceIte, he] <;> try rfl) ?_)
 refine Zab ?_
 refine Za9 (vs := [pa]) (by simp only [List.map_cons, List.map_nil, EV, Nat.reduceEqDiff, ↓reduceIte, he] <;> try rfl) ?_
 refine hcat σ1 hX1 _ fun dv σ2 hdv hX2 hdn => ?_
 refine Zab (Zak rfl (by simp only [EV, Nat.reduceEqDiff, ↓reduceIte, he] <;> try rfl) ?_)
 refine Zah ?_
 apply Zb5 0 1 7
 ·simp only [EV, Nat.reduceEqDiff, ↓reduceIte, he] <;> try rfl
 ·simp only [EV, Nat.reduceEqDiff, ↓reduceIte, he] <;> try rfl
 ·simp only [EV, Nat.reduceEqDiff, ↓reduceIte, he] <;> try rfl
 clear he e
 intro e he
 have h2 := (h.ext hX1).ext hX2
 first | refine Zaa ?_ | refine Zad ?_ | (refine Zac ?_; refine Zaa ?_) | (refine Zac ?_; refine Zac ?_; refine Zaa ?_)
 refine Zab (Zak rfl (by simp only [EV, Nat.reduceEqDiff, ↓reduceIte, he] <;> try rfl) ?_)
 refine Zab (Zak rfl (by simp only [EV, Nat.reduceEqDiff, ↓reduceIte, he] <;> try rfl) ?_)
 refine Zab ?_
 refine Zjs (by simp only [EV, Nat.reduceEqDiff, ↓reduceIte, he] <;> try rfl) hdv rfl Ze4 ?_
 refine Zab ?_
 refine Za9 (vs := [ptr bb 0, vI d.length]) (by simp only [List.map_cons, List.map_nil, EV, Nat.reduceEqDiff, ↓reduceIte, he] <;> try rfl) ?_
 refine Zyu h2 (by omega) _ ?_
 refine Zab ?_
 with_reducible apply Zg2
 case hx => simp only [EV, Nat.reduceEqDiff, ↓reduceIte, he] <;> try rfl
 refine Zah ?_
 apply ZcU 0 1 7 23
 ·simp only [EV, Nat.reduceEqDiff, ↓reduceIte, he] <;> try rfl
 ·simp only [EV, Nat.reduceEqDiff, ↓reduceIte, he] <;> try rfl
 ·simp only [EV, Nat.reduceEqDiff, ↓reduceIte, he] <;> try rfl
 ·simp only [EV, Nat.reduceEqDiff, ↓reduceIte, he] <;> try rfl
 clear he e
 intro e he
 refine Zbu (t := !decide (size < 1 \/ ((d.length + ZjG fs : Nat) : Int) <= size)) (by simp only [EV, Nat.reduceEqDiff, ↓reduceIte, he] <;> try rfl) (fun hf => ?_) (fun hf => ?_)
 ·rw [Bool.not_eq_true'] at hf
  first | refine Zaa ?_ | refine Zad ?_ | (refine Zac ?_; refine Zaa ?_) | (refine Zac ?_; refine Zac ?_; refine Zaa ?_)
  refine Zab (Zak rfl (by simp only [EV, Nat.reduceEqDiff, ↓reduceIte, he] <;> try rfl) ?_)
  refine Zah ?_
  refine ZmK ?_
  show ∃ r, Zaq _ _ _ _ r /\ _
  exact ⟨_, ZaZ rfl (by simp only [EV, Nat.reduceEqDiff, ↓reduceIte, he] <;> try rfl), hK8 hk (of_decide_eq_false hf) σ2 (hX1.trans hX2)⟩
 rw [Bool.not_eq_false'] at hf
 have hf := of_decide_eq_true hf
 refine Zb2 ?_
 have hX12 := hX1.trans hX2
 have hdS : ∀ c, hbk dv = some c -> ¬ S c := fun c hc hs => (hdn c hc).2 (hX1.used _ (hS c hs))
 first | refine Zaa ?_ | refine Zad ?_ | (refine Zac ?_; refine Zaa ?_) | (refine Zac ?_; refine Zac ?_; refine Zaa ?_)
 refine Zab (Zak rfl (by simp only [EV, Nat.reduceEqDiff, ↓reduceIte, he] <;> try rfl) ?_)
 refine Zab ?_
 refine Zau (v := ptr bb 0) (by simp only [EV, Nat.reduceEqDiff, ↓reduceIte, he] <;> try rfl) rfl ?_
 refine Zab ?_
 refine Zaf (b := bb) (o := 0) (by simp only [EV, Nat.reduceEqDiff, ↓reduceIte, he] <;> try rfl) Zcg rfl ?_
 refine Zab ?_
 refine ZaD (b := bb) (o := 0 + 1) (r := ZdZ mb) (by simp only [EV, Nat.reduceEqDiff, ↓reduceIte, he] <;> try rfl) h2.obj Ze6 Ze5 rfl ?_
 refine Zab (Zak rfl (by simp only [EV, Nat.reduceEqDiff, ↓reduceIte, he] <;> try rfl) ?_)
 refine Zab ?_
 refine Zgp (k := k) (es := ZbC fs) (b := mb) (by simp only [EV, Nat.reduceEqDiff, ↓reduceIte, he] <;> try rfl) (by simp only [EV, Nat.reduceEqDiff, ↓reduceIte, he] <;> try rfl) h2.map Zg3 Zkv Zku ?_
 refine Zab (Zak rfl (by simp only [EV, Nat.reduceEqDiff, ↓reduceIte, he] <;> try rfl) ?_)
 refine Zah ?_
 apply ZcU 0 1 7 8
 ·simp only [EV, Nat.reduceEqDiff, ↓reduceIte, he] <;> try rfl
 ·simp only [EV, Nat.reduceEqDiff, ↓reduceIte, he] <;> try rfl
 ·simp only [EV, Nat.reduceEqDiff, ↓reduceIte, he] <;> try rfl
 ·simp only [EV, Nat.reduceEqDiff, ↓reduceIte, he] <;> try rfl
 clear he e
 intro e he
 refine Zhy (fun env υ => ∃ fs1 S1 f0, DAt υ bb S1 fs1 pcs size mb pv /\ f0 ∈ fs1 /\ f0.nm = k /\ (fs1 = fs \/ (∀ f ∈ fs, f.nm ≠ k) /\ fs1 = fs ++ [f0] /\ f0.d = []) /\ (env 0 = ptr bb 0 /\ env 7 = dv /\ env 8 = ptr f0.b 0) /\ Hd υ 5 1 dv d.length (bys d) /\ (∀ c, hbk dv = some c -> ¬ S1 c) /\ But S σ υ /\ (∀ c, S c -> S1 c) /\ (∀ c, S1 c -> S c \/ Zgq σ c) /\ (∀ c, S1 c -> υ.used c) /\ ZjG fs1 = ZjG fs) ?_ ?_
 ·cases hg : ZjF (ZbC fs) k with
  | some n =>
   rw [hg] at he
   obtain ⟨f0, hf0, hnm, rfl⟩ := ZfD hg
   first | refine Zaa ?_ | refine Zad ?_ | (refine Zac ?_; refine Zaa ?_) | (refine Zac ?_; refine Zac ?_; refine Zaa ?_)
   refine Zab (Zak rfl (by simp only [EV, Nat.reduceEqDiff, ↓reduceIte, he] <;> try rfl) ?_)
   refine Zab ?_
   refine ZgB (p := some ⟨f0.b, 0, none⟩) Zg4 (by simp only [EV, Nat.reduceEqDiff, ↓reduceIte, he] <;> try rfl) rfl (by simp only [EV, Nat.reduceEqDiff, ↓reduceIte, he] <;> try rfl) ?_
   refine Zah ?_
   refine Zdw (t := false) (by simp only [EV, Nat.reduceEqDiff, ↓reduceIte, he] <;> try rfl) (fun hf => by cases hf) (fun _ => ?_)
   refine Zgy ?_
   exact ⟨rfl, fs, S, f0, h2, hf0, hnm, .inl rfl, ⟨by simp only [EV, Nat.reduceEqDiff, ↓reduceIte, he] <;> try rfl, by simp only [EV, Nat.reduceEqDiff, ↓reduceIte, he] <;> try rfl, by simp only [EV, Nat.reduceEqDiff, ↓reduceIte, he] <;> try rfl⟩, hdv, hdS, hX12.but, fun c hc => hc, fun c hc => .inl hc, fun c hc => hX12.used _ (hS c hc), rfl⟩
  | none =>
   rw [hg] at he
   have hnm := Ze7.1 hg
   first | refine Zaa ?_ | refine Zad ?_ | (refine Zac ?_; refine Zaa ?_) | (refine Zac ?_; refine Zac ?_; refine Zaa ?_)
   refine Zab (Zak rfl (by simp only [EV, Nat.reduceEqDiff, ↓reduceIte, he] <;> try rfl) ?_)
   refine Zab ?_
   refine ZgB (p := none) Zg4 (by simp only [EV, Nat.reduceEqDiff, ↓reduceIte, he] <;> try rfl) rfl (by simp only [EV, Nat.reduceEqDiff, ↓reduceIte, he] <;> try rfl) ?_
   refine Zah ?_
   apply ZcU 0 1 7 31
   ·simp only [EV, Nat.reduceEqDiff, ↓reduceIte, he] <;> try rfl
   ·simp only [EV, Nat.reduceEqDiff, ↓reduceIte, he] <;> try rfl
   ·simp only [EV, Nat.reduceEqDiff, ↓reduceIte, he] <;> try rfl
   ·simp only [EV, Nat.reduceEqDiff, ↓reduceIte, he] <;> try rfl
   clear he e
   intro e he
   refine Zdw (t := true) (by simp only [EV, Nat.reduceEqDiff, ↓reduceIte, he] <;> try rfl) (fun _ => ?_) (fun hf => by cases hf)
   first | refine Zaa ?_ | refine Zad ?_ | (refine Zac ?_; refine Zaa ?_) | (refine Zac ?_; refine Zac ?_; refine Zaa ?_)
   refine Zab ?_
   refine Zhc (vs := []) (cells := [.lst none 0 0 []]) rfl Zyp Zyr rfl ?_
   refine Zab ?_
   refine Zk0 (cs := [.lst none 0 0 []]) (v := .agg [.lst none 0 0 []]) (by simp only [EV, Nat.reduceEqDiff, ↓reduceIte, he] <;> try rfl) rfl fun nb σ3 hn3 hu3 hb3 hub3 hX3 => ?_
   refine Zab (Zak rfl (by simp only [EV, Nat.reduceEqDiff, ↓reduceIte, he] <;> try rfl) ?_)
   refine Zah ?_
   apply ZcU 0 1 7 8
   ·simp only [EV, Nat.reduceEqDiff, ↓reduceIte, he] <;> try rfl
   ·simp only [EV, Nat.reduceEqDiff, ↓reduceIte, he] <;> try rfl
   ·simp only [EV, Nat.reduceEqDiff, ↓reduceIte, he] <;> try rfl
   ·simp only [EV, Nat.reduceEqDiff, ↓reduceIte, he] <;> try rfl
   clear he e
   intro e he
   refine Zad ?_
   refine Zab (Zak rfl (by simp only [EV, Nat.reduceEqDiff, ↓reduceIte, he] <;> try rfl) ?_)
   refine Zab ?_
   refine Zau (v := ptr bb 0) (by simp only [EV, Nat.reduceEqDiff, ↓reduceIte, he] <;> try rfl) rfl ?_
   refine Zab ?_
   refine Zaf (b := bb) (o := 0) (by simp only [EV, Nat.reduceEqDiff, ↓reduceIte, he] <;> try rfl) Zcg rfl ?_
   refine Zab ?_
   refine ZaD (b := bb) (o := 0 + 1) (r := ZdZ mb) (by simp only [EV, Nat.reduceEqDiff, ↓reduceIte, he] <;> try rfl) (hX3.keep _ _ h2.obj) Ze6 Ze5 rfl ?_
   refine Zab (Zak rfl (by simp only [EV, Nat.reduceEqDiff, ↓reduceIte, he] <;> try rfl) ?_)
   refine Zab (Zak rfl (by simp only [EV, Nat.reduceEqDiff, ↓reduceIte, he] <;> try rfl) ?_)
   refine Zab ?_
   refine ZpO (k := k) (n := nb) (es := ZbC fs) (b := mb) (by simp only [EV, Nat.reduceEqDiff, ↓reduceIte, he] <;> try rfl) (by simp only [EV, Nat.reduceEqDiff, ↓reduceIte, he] <;> try rfl) (by simp only [EV, Nat.reduceEqDiff, ↓reduceIte, he] <;> try rfl) (hX3.keep _ _ h2.map) Zg3 Zkv fun σ4 hm4 k4 => ?_
   refine Zah ?_
   have hnm2 : mb ≠ nb := fun e => by
    have hq := h2.map
    rw [e, hn3] at hq
    cases hq
   have hB4 : But (fun c => c = mb \/ c = nb) σ2 σ4 := hX3.but.trans (k4.sub fun c hc => .inl hc)
   have hadd := h2.addF (nm := k) (nb := nb) (v := .lst none 0 0 []) (d := []) ⟨hn3, hu3⟩ hB4 (k4.keep _ _ (fun q => hnm2 q.symm) hb3) (k4.used _ hub3) (by rw [hm4, ZrS nb hnm]; unfold ZbC; rw [List.map_append]; rfl) ⟨rfl, by simp [bys], .inl ⟨.inl rfl, rfl⟩⟩ hnm rfl
   have hBS : But S σ σ4 := hX12.but.ext2 (T := fun c => c = mb \/ c = nb) (fun c hc => by
    rcases hc with rfl | rfl
    ·exact .inl h.own.2.1
    ·exact .inr (hX12.noneOf hn3)) hB4
   refine ⟨rfl, _, _, ⟨k, nb, .lst none 0 0 [], []⟩, hadd, List.mem_append_right _ List.mem_cons_self, rfl, .inr ⟨hnm, rfl, rfl⟩, ⟨by simp only [EV, Nat.reduceEqDiff, ↓reduceIte, he] <;> try rfl, by simp only [EV, Nat.reduceEqDiff, ↓reduceIte, he] <;> try rfl, by simp only [EV, Nat.reduceEqDiff, ↓reduceIte, he] <;> try rfl⟩, (hdv.ext hX3).but k4 fun c hc q => ?_, fun c hc hs => ?_, hBS, fun c hc => .inl hc, fun c hc => ?_, fun c hc => ?_, by simp [ZjG]⟩
   ·obtain ⟨all, hall⟩ := hdv.blk hc
    exact ZfE hall h2.map q
   ·rcases hs with hs | hs
    ·exact hdS c hc hs
    ·obtain ⟨all, hall⟩ := hdv.blk hc
     rw [hs, hn3] at hall
     cases hall
   ·rcases hc with hc | hc
    ·exact .inl hc
    ·rw [hc]; exact .inr (Zgq.of ⟨hn3, hu3⟩ hX12)
   ·rcases hc with hc | hc
    ·exact hBS.used _ (hS c hc)
    ·rw [hc]; exact k4.used _ hub3
 clear he e
 rintro e υ ⟨fs1, S1, f0, h3, hf0, hnm, hor, he, hd3, hdS3, hB3, hS13, hS31, hSu3, hsum⟩
 obtain ⟨p1, p2, p3⟩ := h3.file f0 hf0
 have hfl := ZrW hf0
 first | refine Zaa ?_ | refine Zad ?_ | (refine Zac ?_; refine Zaa ?_) | (refine Zac ?_; refine Zac ?_; refine Zaa ?_)
 refine Zab (Zak rfl (by simp only [EV, Nat.reduceEqDiff, ↓reduceIte, he] <;> try rfl) ?_)
 refine Zab (Zak rfl (by simp only [EV, Nat.reduceEqDiff, ↓reduceIte, he] <;> try rfl) ?_)
 refine Zab ?_
 refine Zau (v := ptr f0.b 0) (by simp only [EV, Nat.reduceEqDiff, ↓reduceIte, he] <;> try rfl) rfl ?_
 refine Zab ?_
 refine Zaf (b := f0.b) (o := 0) (by simp only [EV, Nat.reduceEqDiff, ↓reduceIte, he] <;> try rfl) Zkq rfl ?_
 refine Zab ?_
 refine ZaD (b := f0.b) (o := 0 + 0) (r := f0.v) (by simp only [EV, Nat.reduceEqDiff, ↓reduceIte, he] <;> try rfl) p1 Zks ZhB rfl ?_
 refine Zab (Zak rfl (by simp only [EV, Nat.reduceEqDiff, ↓reduceIte, he] <;> try rfl) ?_)
 refine Zab ?_
 refine Zju (by simp only [EV, Nat.reduceEqDiff, ↓reduceIte, he] <;> try rfl) (by simp only [EV, Nat.reduceEqDiff, ↓reduceIte, he] <;> try rfl) Ze4 ZpS ZrR Zz1 rfl (by omega) p3 (hd3.src (by omega)) (by unfold maxLen; omega) (by omega) fun v' υ4 hv4 hB4 hn4 => ?_
 refine Zab ?_
 refine Zau (v := ptr f0.b 0) (by simp only [EV, Nat.reduceEqDiff, ↓reduceIte, he] <;> try rfl) rfl ?_
 refine Zab ?_
 refine Zaf (b := f0.b) (o := 0) (by simp only [EV, Nat.reduceEqDiff, ↓reduceIte, he] <;> try rfl) Zkq rfl ?_
 have hfb4 : υ4.blk f0.b = some (.own 105 [f0.v]) := hB4.keep _ _ (fun hq => by
  obtain ⟨all, hall⟩ := p3.blk hq
  exact ZdN hall p1 (by decide) rfl) p1
 refine Zab ?_
 refine ZgQ (b := f0.b) (o := 0 + 0) (v := v') (by simp only [EV, Nat.reduceEqDiff, ↓reduceIte, he] <;> try rfl) (by simp only [EV, Nat.reduceEqDiff, ↓reduceIte, he] <;> try rfl) hfb4 ZhB hv4.oneV (Nat.zero_lt_succ _) fun υ5 hb5 k5 => ?_
 refine Zah ?_
 have hB5 : But (fun c => c = f0.b \/ hbk f0.v = some c) υ υ5 := (hB4.sub fun c hc => .inr hc).trans (k5.sub fun c hc => .inl hc)
 have hbys : bys f0.d ++ bys d = bys (f0.d ++ d) := by unfold bys; rw [List.map_append]
 have hv5 : Hd υ5 5 1 v' (f0.d ++ d).length (bys (f0.d ++ d)) := by
  rw [List.length_append, <- hbys]
  refine hv4.but k5 fun c hc hq => ?_
  obtain ⟨all, hall⟩ := hv4.blk hc
  exact ZdN hall hfb4 (by decide) hq
 have h5 := h3.setF hf0 hB5 hb5 hv5 hn4
 have hf0S := h3.own.2.2.1 f0 hf0
 have hd5 : Hd υ5 5 1 dv d.length (bys d) := hd3.but hB5 fun c hc hq => by
  rcases hq with hq | hq
  ·obtain ⟨all, hall⟩ := hd3.blk hc
   exact ZdN hall p1 (by decide) hq
  ·exact hdS3 c hc (hf0S.2 c hq)
 have hBS5 : But S σ υ5 := hB3.ext2 (T := fun c => c = f0.b \/ hbk f0.v = some c) (fun c hc => by
  have hs1 : S1 c := by
   rcases hc with rfl | hc
   ·exact hf0S.1
   ·exact hf0S.2 c hc
  rcases hS31 c hs1 with q | q
  ·exact .inl q
  ·exact .inr q.1) hB5
 have hS5 : ∀ c, (S1 c \/ hbk v' = some c) -> S c \/ Zgq σ c := fun c hc => by
  rcases hc with hc | hc
  ·exact hS31 c hc
  ·rcases hn4 c hc with q | q
   ·exact hS31 c (hf0S.2 c q)
   ·exact Zjy hB3 q
 have hSu5 : ∀ c, (S1 c \/ hbk v' = some c) -> υ5.used c := fun c hc => by
  rcases hc with hc | hc
  ·exact hB5.used _ (hSu3 c hc)
  ·exact hv5.used hc
 clear hv4 hB4 hn4 hfb4 k5 hb5
 apply Zb5 0 7 8
 ·simp only [EV, Nat.reduceEqDiff, ↓reduceIte, he] <;> try rfl
 ·simp only [EV, Nat.reduceEqDiff, ↓reduceIte, he] <;> try rfl
 ·simp only [EV, Nat.reduceEqDiff, ↓reduceIte, he] <;> try rfl
 clear he e
 intro e he
 refine Zhy (fun env υ => env 7 = dv /\ ∃ S' pcs' pv', DAt υ bb S' (fs1.map (Zeg f0.b v' (f0.d ++ d))) pcs' size mb pv' /\ pcs' = pcs ++ (if d = [] then [] else [(f0.b, d.length)]) /\ But S σ υ /\ (∀ c, S c -> S' c) /\ (∀ c, S' c -> S c \/ Zgq σ c) /\ (∀ c, S' c -> υ.used c)) ?_ ?_
 ·first | refine Zaa ?_ | refine Zad ?_ | (refine Zac ?_; refine Zaa ?_) | (refine Zac ?_; refine Zac ?_; refine Zaa ?_)
  refine Zab (Zak rfl (by simp only [EV, Nat.reduceEqDiff, ↓reduceIte, he] <;> try rfl) ?_)
  refine Zab ?_
  refine Zjs (by simp only [EV, Nat.reduceEqDiff, ↓reduceIte, he] <;> try rfl) hd5 rfl Ze4 ?_
  refine Zab ?_
  refine Ztl (k := .i64) (a := (d.length : Int)) (b := 0) (by simp only [EV, Nat.reduceEqDiff, ↓reduceIte, he] <;> try rfl) (by simp only [EV, Nat.reduceEqDiff, ↓reduceIte, he] <;> try rfl) ?_
  refine Zah ?_
  apply ZcU 0 7 8 51
  ·simp only [EV, Nat.reduceEqDiff, ↓reduceIte, he] <;> try rfl
  ·simp only [EV, Nat.reduceEqDiff, ↓reduceIte, he] <;> try rfl
  ·simp only [EV, Nat.reduceEqDiff, ↓reduceIte, he] <;> try rfl
  ·simp only [EV, Nat.reduceEqDiff, ↓reduceIte, he] <;> try rfl
  clear he e
  intro e he
  refine Zdw (t := decide ((0 : Int) < (d.length : Int))) (by simp only [EV, Nat.reduceEqDiff, ↓reduceIte, he] <;> try rfl) (fun hd0 => ?_) (fun hd0 => ?_)
  ·have hd0 := of_decide_eq_true hd0
   have hdne : ¬ d = [] := fun e => by rw [e] at hd0; exact absurd hd0 (by decide)
   refine Zad ?_
   refine Zab (Zak rfl (by simp only [EV, Nat.reduceEqDiff, ↓reduceIte, he] <;> try rfl) ?_)
   refine Zab (Zak rfl (by simp only [EV, Nat.reduceEqDiff, ↓reduceIte, he] <;> try rfl) ?_)
   refine Zab ?_
   refine Zau (v := ptr bb 0) (by simp only [EV, Nat.reduceEqDiff, ↓reduceIte, he] <;> try rfl) rfl ?_
   refine Zab ?_
   refine Zaf (b := bb) (o := 0) (by simp only [EV, Nat.reduceEqDiff, ↓reduceIte, he] <;> try rfl) Zcg rfl ?_
   refine Zab ?_
   refine Zaf (b := bb) (o := 0 + 0) (by simp only [EV, Nat.reduceEqDiff, ↓reduceIte, he] <;> try rfl) ZdF rfl ?_
   refine Zab ?_
   refine ZaD (b := bb) (o := 0 + 0 + 0) (r := pv) (by simp only [EV, Nat.reduceEqDiff, ↓reduceIte, he] <;> try rfl) h5.obj ZfS ZdG rfl ?_
   refine Zab (Zak rfl (by simp only [EV, Nat.reduceEqDiff, ↓reduceIte, he] <;> try rfl) ?_)
   refine Zab (Zak rfl (by simp only [EV, Nat.reduceEqDiff, ↓reduceIte, he] <;> try rfl) ?_)
   refine Zab ?_
   refine Zjs (by simp only [EV, Nat.reduceEqDiff, ↓reduceIte, he] <;> try rfl) hd5 rfl Ze4 ?_
   refine Zab ?_
   refine Zhc (vs := [ptr f0.b 0, vI d.length]) (cells := [ptr f0.b 0, vI d.length]) (by simp only [List.map_cons, List.map_nil, EV, Nat.reduceEqDiff, ↓reduceIte, he]; try rfl) ZiP Zys rfl ?_
   refine Zab ?_
   refine ZnL (vs := [.agg [ptr f0.b 0, vI d.length]]) (cells := [ptr f0.b 0, vI d.length]) (by simp only [List.map_cons, List.map_nil, EV, Nat.reduceEqDiff, ↓reduceIte, he] <;> try rfl) Zck ZbJ ZiP rfl (by omega) rfl rfl fun rb υ6 hN6 hX6 => ?_
   have h6 := h5.ext hX6
   refine Zab ?_
   refine Zju (m := 1) (news := [ptr f0.b 0, vI d.length]) (r := .lst (some ⟨rb, 0, none⟩) 1 1 ([ptr f0.b 0, vI d.length] ++ [])) (by simp only [EV, Nat.reduceEqDiff, ↓reduceIte, he] <;> try rfl) (by simp only [EV, Nat.reduceEqDiff, ↓reduceIte, he] <;> try rfl) Zck ZbJ ZiP Zyt rfl (by omega) h6.pc (ZrP rfl (fun a ha => by
    simp only [List.mem_cons, List.not_mem_nil, or_false] at ha
    rcases ha with rfl | rfl <;> rfl) (fun q => by cases q)) (by unfold maxLen; omega) (by omega) fun pv' υ7 hv7 hB7 hn7 => ?_
   refine Zab ?_
   refine Zau (v := ptr bb 0) (by simp only [EV, Nat.reduceEqDiff, ↓reduceIte, he] <;> try rfl) rfl ?_
   refine Zab ?_
   refine Zaf (b := bb) (o := 0) (by simp only [EV, Nat.reduceEqDiff, ↓reduceIte, he] <;> try rfl) Zcg rfl ?_
   refine Zab ?_
   refine Zaf (b := bb) (o := 0 + 0) (by simp only [EV, Nat.reduceEqDiff, ↓reduceIte, he] <;> try rfl) ZdF rfl ?_
   refine Zab ?_
   refine ZgQ (b := bb) (o := 0 + 0 + 0) (v := pv') (by simp only [EV, Nat.reduceEqDiff, ↓reduceIte, he] <;> try rfl) (by simp only [EV, Nat.reduceEqDiff, ↓reduceIte, he] <;> try rfl) (hB7.keep _ _ h6.pvB h6.obj) ZdG hv7.oneV (Nat.zero_lt_succ _) fun υ8 hb8 k8 => ?_
   refine Zah ?_
   have hB8 : But (fun c => c = bb \/ hbk pv = some c) υ6 υ8 := (hB7.sub fun c hc => .inr hc).trans (k8.sub fun c hc => .inl hc)
   have hpc : pcC pcs ++ [ptr f0.b 0, vI d.length] = pcC (pcs ++ [(f0.b, d.length)]) := by rw [Zmx]; rfl
   have hv8 : Hd υ8 85 2 pv' (pcs ++ [(f0.b, d.length)]).length (pcC (pcs ++ [(f0.b, d.length)])) := by
    rw [List.length_append, <- hpc]
    refine hv7.but k8 fun c hc hq => ?_
    obtain ⟨all, hall⟩ := hv7.blk hc
    exact ZdN hall (hB7.keep _ _ h6.pvB h6.obj) (by decide) hq
   have h8 := h6.setP hB8 hb8 hv8 fun p hp => by
    rcases List.mem_append.1 hp with hp | hp
    ·exact h6.inn p hp
    ·rw [List.mem_singleton.1 hp]
     exact ⟨_, List.mem_map.2 ⟨f0, hf0, rfl⟩, ZhC f0⟩
   have hBS6 : But S σ υ6 := hBS5.trans hX6.but
   refine ⟨rfl, by simp only [EV, Nat.reduceEqDiff, ↓reduceIte, he] <;> try rfl, _, _, pv', h8, by rw [if_neg hdne], hBS6.ext2 (T := fun c => c = bb \/ hbk pv = some c) (fun c hc => ?_) hB8, fun c hc => .inl (.inl (hS13 c hc)), fun c hc => ?_, fun c hc => ?_⟩
   ·rcases hS5 c (h6.pvS hc) with q | q
    ·exact .inl q
    ·exact .inr q.1
   ·rcases hc with hc | hc
    ·exact hS5 c hc
    ·rcases hn7 c hc with q | q
     ·exact hS5 c (h6.pvS (.inr q))
     ·exact Zjy hBS6 q
   ·rcases hc with hc | hc
    ·exact hB8.used _ (hX6.used _ (hSu5 c hc))
    ·exact hv8.used hc
  ·have hd0 := of_decide_eq_false hd0
   have hdn : d = [] := List.eq_nil_of_length_eq_zero (by omega)
   refine Zgy ?_
   exact ⟨rfl, by simp only [EV, Nat.reduceEqDiff, ↓reduceIte, he] <;> try rfl, _, pcs, pv, h5, by rw [if_pos hdn, List.append_nil], hBS5, fun c hc => .inl (hS13 c hc), hS5, hSu5⟩
 clear he e
 rintro e τ ⟨he, S', pcs', pv', h9, hpcs, g1, g2, g3, g4⟩
 first | refine Zaa ?_ | refine Zad ?_ | (refine Zac ?_; refine Zaa ?_) | (refine Zac ?_; refine Zac ?_; refine Zaa ?_)
 refine Zab (Zak rfl (by simp only [EV, Nat.reduceEqDiff, ↓reduceIte, he] <;> try rfl) ?_)
 refine Zah ?_
 refine Zbm ?_
 show ∃ r, Zaq _ _ _ _ r /\ _
 exact ⟨_, ZaZ rfl (by simp only [EV, Nat.reduceEqDiff, ↓reduceIte, he] <;> try rfl), hK0 hk hf τ S' _ pcs' pv' h9 g1 g2 g3 g4 ⟨fs1, f0, v', hor, hf0, hnm, rfl, hpcs⟩⟩
end
end Go.Proofs.YteempnebenjkmaaDoor
namespace Go.Proofs.YteempnebenjkmaaDoor
open Go.RowKit
set_option maxRecDepth 100000
set_option linter.unusedVariables false
set_option linter.unusedSimpArgs false
theorem ZdH : Zds Tryd.prog 9 = some false := by kernel_rfl
theorem Zcp : Zax Tryd.prog 9 = some 1 := by kernel_rfl
theorem ZgR : Zds Tryd.prog 40 = some false := by kernel_rfl
theorem ZgS : Zax Tryd.prog 40 = some 1 := by kernel_rfl
def ZyB (ns : List (List UInt8)) : List AV := ns.map fun s => .raw (sV s)
theorem ZwC (ns : List (List UInt8)) : (ZyB ns).length = ns.length := by simp [ZyB]
theorem ZrX {ns : List (List UInt8)} {i : Nat} (h : i < ns.length) : (ZyB ns)[i]? = some (.raw (sV ns[i])) := by
 unfold ZyB
 rw [List.getElem?_map, List.getElem?_eq_getElem h]
 rfl
def Zjz (σ : St) (v : AV) (ns : List (List UInt8)) : Prop := (∃ A c rest, v = .lst A ns.length c (ZyB ns ++ rest) /\ (A = none -> ns.length = 0)) \/ Hd σ 9 1 v ns.length (ZyB ns)
theorem Zjz.but {S : Nat -> Prop} {σ τ : St} {v : AV} {ns : List (List UInt8)} (h : Zjz σ v ns) (k : But S σ τ) (hS : ∀ c, hbk v = some c -> ¬ S c) : Zjz τ v ns := by
 rcases h with h | h
 ·exact .inl h
 ·exact .inr (h.but k hS)
theorem Zjz.val {σ : St} {v : AV} {ns : List (List UInt8)} (h : Zjz σ v ns) : ∃ A c, v.val = .slice A ns.length c := by
 rcases h with ⟨A, c, rest, rfl, _⟩ | h
 ·exact ⟨A, c, rfl⟩
 ·obtain ⟨A, c, h1, _⟩ := h.val
  exact ⟨A, c, h1⟩
section
variable {ops : Array Oper} {env : Env} {σ τ : St} {K : Env -> St -> Prop}
abbrev fnG (g : FuncId) (fst caps : Array Value) : AV := .raw (.func (.func g) fst caps)
theorem Zz8 {n d : Nat} {ty1 ty2 : TypeId} {pos1 pos2 : String} {af1 af2 : Array Edge} {x y : Operand} {v : AV} {ns : List (List UInt8)} {i : Nat} {l : List Oper} (hN : Zjz σ v ns) (hi : i < ns.length) (hx : ev env x = v) (hy : ev env y = vI i) (h : ∀ u, Zeh Tryd.prog ops l ((env.put (some n) u).put (some d) (.raw (sV ns[i]))) σ K) :
 Zeh Tryd.prog ops (⟨some n, .indexAddr 136 x y, ty1, pos1, af1, none⟩ :: ⟨some d, .load 9 (.tmp n), ty2, pos2, af2, none⟩ :: l) env σ K := by
 rcases hN with ⟨A, c, rest, rfl, hA⟩ | hN
 ·refine Zab (ZiY (k := .i64) (j := i) hx hy Zkr Zcp hi hA rfl fun ad => ?_)
  refine Zab (Zlc (r := .raw (sV ns[i])) (by simp only [EV]; rfl) ZdH Zcp ?_ (h _))
  show ((ZyB ns ++ rest).drop (i * 1))[0]? = _
  rw [List.getElem?_drop, Nat.mul_one, Nat.add_zero, List.getElem?_append_left (by rw [ZwC]; exact hi), ZrX hi]
 ·refine Zab (ZdE (k := .i64) (j := i) hx hy Zkr Zcp hN hi fun b hb => ?_)
  exact Zab (Zz0 (by simp only [EV]; rfl) hN hb hi (ZrX hi) ZdH Zcp (h _))
end
set_option maxHeartbeats 1000000 in
theorem Zq0 {σ : St} {bb mb : Nat} {S : Nat -> Prop} {fs : List Fl} {pcs : List (Nat × Nat)} {size : Int} {pv v : AV} {ns : List (List UInt8)} {g : FuncId} {fst caps : Array Value} {K : AV -> St -> Prop} (I : Nat -> St -> Prop)
 (h : DAt σ bb S fs pcs size mb pv) (hN : Zjz σ v ns) (hnl : ns.length <= 1000000000) (h0 : I 0 σ)
 (hstep : ∀ i (hi : i < ns.length) υ, I i υ -> ∃ S fs pcs size mb pv, DAt υ bb S fs pcs size mb pv /\ Zjz υ v ns /\ (ZjF (ZbC fs) ns[i] = none -> K (vI 6) υ) /\ ∀ fb, ZjF (ZbC fs) ns[i] = some fb -> Zay Tryd.prog g (fst.toList.map .raw ++ [.raw (sV ns[i]), ptr fb 0] ++ caps.toList.map .raw) υ fun _ τ => I (i + 1) τ)
 (hend : ∀ υ, I ns.length υ -> K (vI 0) υ) : Zay Tryd.prog 75 [ptr bb 0, fnG g fst caps, v] σ K := by
 refine ZaG ZaN Tryd.func75 rfl rfl rfl (Nat.le_of_ble_eq_true rfl) ?_
 refine Zb5 0 1 2 (v0 := ptr bb 0) (v1 := fnG g fst caps) (v2 := v) rfl rfl rfl ?_
 intro e he
 first | refine Zaa ?_ | refine Zad ?_ | (refine Zac ?_; refine Zaa ?_) | (refine Zac ?_; refine Zac ?_; refine Zaa ?_)
 refine Zab (Zak rfl (by simp only [EV, Nat.reduceEqDiff, ↓reduceIte, he] <;> try rfl) ?_)
 refine Zah ?_
 apply Zb5 0 1 2
 ·simp only [EV, Nat.reduceEqDiff, ↓reduceIte, he] <;> try rfl
 ·simp only [EV, Nat.reduceEqDiff, ↓reduceIte, he] <;> try rfl
 ·simp only [EV, Nat.reduceEqDiff, ↓reduceIte, he] <;> try rfl
 clear he e
 intro e he
 first | refine Zaa ?_ | refine Zad ?_ | (refine Zac ?_; refine Zaa ?_) | (refine Zac ?_; refine Zac ?_; refine Zaa ?_)
 refine Zab (Zak rfl (by simp only [EV, Nat.reduceEqDiff, ↓reduceIte, he] <;> try rfl) ?_)
 refine Zab ?_
 refine Za9 (vs := [ptr bb 0]) (by simp only [List.map_cons, List.map_nil, EV, Nat.reduceEqDiff, ↓reduceIte, he] <;> try rfl) ?_
 refine Zjx h ?_
 refine Zab ?_
 with_reducible apply Zg2
 case hx => simp only [EV, Nat.reduceEqDiff, ↓reduceIte, he] <;> try rfl
 refine Zah ?_
 apply ZcU 0 1 2 12
 ·simp only [EV, Nat.reduceEqDiff, ↓reduceIte, he] <;> try rfl
 ·simp only [EV, Nat.reduceEqDiff, ↓reduceIte, he] <;> try rfl
 ·simp only [EV, Nat.reduceEqDiff, ↓reduceIte, he] <;> try rfl
 ·simp only [EV, Nat.reduceEqDiff, ↓reduceIte, he] <;> try rfl
 clear he e
 intro e he
 refine Zbu (t := false) (by simp only [EV, Nat.reduceEqDiff, ↓reduceIte, he] <;> try rfl) (fun hf => by cases hf) (fun _ => ?_)
 refine Zb2 ?_
 obtain ⟨A, c, hv⟩ := hN.val
 first | refine Zaa ?_ | refine Zad ?_ | (refine Zac ?_; refine Zaa ?_) | (refine Zac ?_; refine Zac ?_; refine Zaa ?_)
 refine Zab (Zak rfl (by simp only [EV, Nat.reduceEqDiff, ↓reduceIte, he] <;> try rfl) ?_)
 refine Zab ?_
 refine ZrO (by simp only [EV, Nat.reduceEqDiff, ↓reduceIte, he] <;> try rfl) hv rfl Zkr ?_
 refine Zab (Zak rfl (by simp only [EV, Nat.reduceEqDiff, ↓reduceIte, he] <;> try rfl) ?_)
 refine Zah ?_
 apply Zg6 0 1 13 14 15
 ·simp only [EV, Nat.reduceEqDiff, ↓reduceIte, he] <;> try rfl
 ·simp only [EV, Nat.reduceEqDiff, ↓reduceIte, he] <;> try rfl
 ·simp only [EV, Nat.reduceEqDiff, ↓reduceIte, he] <;> try rfl
 ·simp only [EV, Nat.reduceEqDiff, ↓reduceIte, he] <;> try rfl
 ·simp only [EV, Nat.reduceEqDiff, ↓reduceIte, he] <;> try rfl
 clear he e
 intro e he
 refine Zej ?_
 refine Zgz (fun μ env υ => ∃ i : Nat, μ = ns.length - i /\ i <= ns.length /\ (env 0 = ptr bb 0 /\ env 1 = fnG g fst caps /\ env 13 = v /\ env 14 = vI ns.length /\ env 15 = vI i) /\ I i υ) ⟨_, 0, rfl, Nat.zero_le _, he, h0⟩ ?_
 clear he e h hN
 rintro _ e υ ⟨i, rfl, hi, he, hI⟩
 first | refine Zaa ?_ | refine Zad ?_ | (refine Zac ?_; refine Zaa ?_) | (refine Zac ?_; refine Zac ?_; refine Zaa ?_)
 refine Zab ?_
 refine Zmv i ns.length (by simp only [EV, Nat.reduceEqDiff, ↓reduceIte, he] <;> try rfl) (by simp only [EV, Nat.reduceEqDiff, ↓reduceIte, he] <;> try rfl) ?_
 refine Zah ?_
 apply ZoS 0 1 13 14 15 16
 ·simp only [EV, Nat.reduceEqDiff, ↓reduceIte, he] <;> try rfl
 ·simp only [EV, Nat.reduceEqDiff, ↓reduceIte, he] <;> try rfl
 ·simp only [EV, Nat.reduceEqDiff, ↓reduceIte, he] <;> try rfl
 ·simp only [EV, Nat.reduceEqDiff, ↓reduceIte, he] <;> try rfl
 ·simp only [EV, Nat.reduceEqDiff, ↓reduceIte, he] <;> try rfl
 ·simp only [EV, Nat.reduceEqDiff, ↓reduceIte, he] <;> try rfl
 clear he e
 intro e he
 refine Zbu (t := decide (i < ns.length)) (by simp only [EV, Nat.reduceEqDiff, ↓reduceIte, he] <;> try rfl) (fun ht => ?_) (fun ht => ?_)
 ·have hlt : i < ns.length := of_decide_eq_true ht
  obtain ⟨S, fs, pcs, size, mb, pv, h, hN, hnone, hsome⟩ := hstep i hlt υ hI
  refine Zb2 ?_
  refine Zej ?_
  first | refine Zaa ?_ | refine Zad ?_ | (refine Zac ?_; refine Zaa ?_) | (refine Zac ?_; refine Zac ?_; refine Zaa ?_)
  refine Zz8 hN hlt (by simp only [EV, Nat.reduceEqDiff, ↓reduceIte, he] <;> try rfl) (by simp only [EV, Nat.reduceEqDiff, ↓reduceIte, he] <;> try rfl) fun u => ?_
  refine Zab (Zak rfl (by simp only [EV, Nat.reduceEqDiff, ↓reduceIte, he] <;> try rfl) ?_)
  refine Zah ?_
  apply ZoS 0 1 8 13 14 15
  ·simp only [EV, Nat.reduceEqDiff, ↓reduceIte, he] <;> try rfl
  ·simp only [EV, Nat.reduceEqDiff, ↓reduceIte, he] <;> try rfl
  ·simp only [EV, Nat.reduceEqDiff, ↓reduceIte, he] <;> try rfl
  ·simp only [EV, Nat.reduceEqDiff, ↓reduceIte, he] <;> try rfl
  ·simp only [EV, Nat.reduceEqDiff, ↓reduceIte, he] <;> try rfl
  ·simp only [EV, Nat.reduceEqDiff, ↓reduceIte, he] <;> try rfl
  clear he e
  intro e he
  first | refine Zaa ?_ | refine Zad ?_ | (refine Zac ?_; refine Zaa ?_) | (refine Zac ?_; refine Zac ?_; refine Zaa ?_)
  refine Zab (Zak rfl (by simp only [EV, Nat.reduceEqDiff, ↓reduceIte, he] <;> try rfl) ?_)
  refine Zab ?_
  refine Zau (v := ptr bb 0) (by simp only [EV, Nat.reduceEqDiff, ↓reduceIte, he] <;> try rfl) rfl ?_
  refine Zab ?_
  refine Zaf (b := bb) (o := 0) (by simp only [EV, Nat.reduceEqDiff, ↓reduceIte, he] <;> try rfl) Zcg rfl ?_
  refine Zab ?_
  refine ZaD (b := bb) (o := 0 + 1) (r := ZdZ mb) (by simp only [EV, Nat.reduceEqDiff, ↓reduceIte, he] <;> try rfl) h.obj Ze6 Ze5 rfl ?_
  refine Zab (Zak rfl (by simp only [EV, Nat.reduceEqDiff, ↓reduceIte, he] <;> try rfl) ?_)
  refine Zab ?_
  refine Zgp (k := ns[i]) (es := ZbC fs) (b := mb) (by simp only [EV, Nat.reduceEqDiff, ↓reduceIte, he] <;> try rfl) (by simp only [EV, Nat.reduceEqDiff, ↓reduceIte, he] <;> try rfl) h.map Zg3 Zkv Zku ?_
  refine Zab (Zak rfl (by simp only [EV, Nat.reduceEqDiff, ↓reduceIte, he] <;> try rfl) ?_)
  refine Zah ?_
  apply ZAO 0 1 8 9 13 14 15
  ·simp only [EV, Nat.reduceEqDiff, ↓reduceIte, he] <;> try rfl
  ·simp only [EV, Nat.reduceEqDiff, ↓reduceIte, he] <;> try rfl
  ·simp only [EV, Nat.reduceEqDiff, ↓reduceIte, he] <;> try rfl
  ·simp only [EV, Nat.reduceEqDiff, ↓reduceIte, he] <;> try rfl
  ·simp only [EV, Nat.reduceEqDiff, ↓reduceIte, he] <;> try rfl
  ·simp only [EV, Nat.reduceEqDiff, ↓reduceIte, he] <;> try rfl
  ·simp only [EV, Nat.reduceEqDiff, ↓reduceIte, he] <;> try rfl
  clear he e
  intro e he
  first | refine Zaa ?_ | refine Zad ?_ | (refine Zac ?_; refine Zaa ?_) | (refine Zac ?_; refine Zac ?_; refine Zaa ?_)
  refine Zab (Zak rfl (by simp only [EV, Nat.reduceEqDiff, ↓reduceIte, he] <;> try rfl) ?_)
  cases hg : ZjF (ZbC fs) ns[i] with
  | none =>
   rw [hg] at he
   refine Zab ?_
   refine ZgB (p := none) Zg4 (by simp only [EV, Nat.reduceEqDiff, ↓reduceIte, he] <;> try rfl) rfl (by simp only [EV, Nat.reduceEqDiff, ↓reduceIte, he] <;> try rfl) ?_
   refine Zah ?_
   refine Zbu (t := true) (by simp only [EV, Nat.reduceEqDiff, ↓reduceIte, he] <;> try rfl) (fun _ => ?_) (fun hf => by cases hf)
   first | refine Zaa ?_ | refine Zad ?_ | (refine Zac ?_; refine Zaa ?_) | (refine Zac ?_; refine Zac ?_; refine Zaa ?_)
   refine Zab (Zak rfl (by simp only [EV, Nat.reduceEqDiff, ↓reduceIte, he] <;> try rfl) ?_)
   refine Zah ?_
   refine ZmK ?_
   show ∃ r, Zaq _ _ _ _ r /\ _
   exact ⟨_, ZaZ rfl (by simp only [EV, Nat.reduceEqDiff, ↓reduceIte, he] <;> try rfl), hnone hg⟩
  | some fb =>
   rw [hg] at he
   refine Zab ?_
   refine ZgB (p := some ⟨fb, 0, none⟩) Zg4 (by simp only [EV, Nat.reduceEqDiff, ↓reduceIte, he] <;> try rfl) rfl (by simp only [EV, Nat.reduceEqDiff, ↓reduceIte, he] <;> try rfl) ?_
   refine Zah ?_
   apply ZAP 0 1 8 9 13 14 15 26
   ·simp only [EV, Nat.reduceEqDiff, ↓reduceIte, he] <;> try rfl
   ·simp only [EV, Nat.reduceEqDiff, ↓reduceIte, he] <;> try rfl
   ·simp only [EV, Nat.reduceEqDiff, ↓reduceIte, he] <;> try rfl
   ·simp only [EV, Nat.reduceEqDiff, ↓reduceIte, he] <;> try rfl
   ·simp only [EV, Nat.reduceEqDiff, ↓reduceIte, he] <;> try rfl
   ·simp only [EV, Nat.reduceEqDiff, ↓reduceIte, he] <;> try rfl
   ·simp only [EV, Nat.reduceEqDiff, ↓reduceIte, he] <;> try rfl
   ·simp only [EV, Nat.reduceEqDiff, ↓reduceIte, he] <;> try rfl
   clear he e
   intro e he
   refine Zbu (t := false) (by simp only [EV, Nat.reduceEqDiff, ↓reduceIte, he] <;> try rfl) (fun hf => by cases hf) (fun _ => ?_)
   refine Zb2 ?_
   first | refine Zaa ?_ | refine Zad ?_ | (refine Zac ?_; refine Zaa ?_) | (refine Zac ?_; refine Zac ?_; refine Zaa ?_)
   refine Zab (Zak rfl (by simp only [EV, Nat.reduceEqDiff, ↓reduceIte, he] <;> try rfl) ?_)
   refine Zab (Zak rfl (by simp only [EV, Nat.reduceEqDiff, ↓reduceIte, he] <;> try rfl) ?_)
   refine Zab (Zak rfl (by simp only [EV, Nat.reduceEqDiff, ↓reduceIte, he] <;> try rfl) ?_)
   refine Zab ?_
   refine Zyv (g := g) (fst := fst) (caps := caps) (vs := [.raw (sV ns[i]), ptr fb 0]) (by simp only [EV, Nat.reduceEqDiff, ↓reduceIte, he] <;> try rfl) (by simp only [List.map_cons, List.map_nil, EV, Nat.reduceEqDiff, ↓reduceIte, he] <;> try rfl) ?_
   refine (hsome fb hg).mono fun a τ hI2 => ?_
   refine Zah ?_
   show ZaP _ _ _ _ _ _
   apply Zg6 0 1 13 14 15
   ·simp only [EV, Nat.reduceEqDiff, ↓reduceIte, he] <;> try rfl
   ·simp only [EV, Nat.reduceEqDiff, ↓reduceIte, he] <;> try rfl
   ·simp only [EV, Nat.reduceEqDiff, ↓reduceIte, he] <;> try rfl
   ·simp only [EV, Nat.reduceEqDiff, ↓reduceIte, he] <;> try rfl
   ·simp only [EV, Nat.reduceEqDiff, ↓reduceIte, he] <;> try rfl
   clear he e
   intro e he
   refine Zad ?_
   refine Zab ?_
   refine Zhz i 1 (by simp only [EV, Nat.reduceEqDiff, ↓reduceIte, he] <;> try rfl) (by simp only [EV, Nat.reduceEqDiff, ↓reduceIte, he] <;> try rfl) (by omega) ?_
   refine Zab (Zak rfl (by simp only [EV, Nat.reduceEqDiff, ↓reduceIte, he] <;> try rfl) ?_)
   refine Zah ?_
   show ∃ n', n' < _ /\ _
   exact ⟨_, (by omega : ns.length - (i + 1) < ns.length - i), i + 1, rfl, hlt, ⟨by simp only [EV, Nat.reduceEqDiff, ↓reduceIte, he] <;> try rfl, by simp only [EV, Nat.reduceEqDiff, ↓reduceIte, he] <;> try rfl, by simp only [EV, Nat.reduceEqDiff, ↓reduceIte, he] <;> try rfl, by simp only [EV, Nat.reduceEqDiff, ↓reduceIte, he] <;> try rfl, by simp only [EV, Nat.reduceEqDiff, ↓reduceIte, he] <;> try rfl⟩, hI2⟩
 ·have hke : i = ns.length := by have := of_decide_eq_false ht; omega
  subst hke
  refine Zia ?_
  show ZaP _ _ _ _ _ _
  first | refine Zaa ?_ | refine Zad ?_ | (refine Zac ?_; refine Zaa ?_) | (refine Zac ?_; refine Zac ?_; refine Zaa ?_)
  refine Zab (Zak rfl (by simp only [EV, Nat.reduceEqDiff, ↓reduceIte, he] <;> try rfl) ?_)
  refine Zah ?_
  refine Zbm ?_
  show ∃ r, Zaq _ _ _ _ r /\ _
  exact ⟨_, ZaZ rfl (by simp only [EV, Nat.reduceEqDiff, ↓reduceIte, he] <;> try rfl), hend υ hI⟩
def ZfU (fs : List Fl) : List (List UInt8) -> List (Nat × Nat) -> List (Nat × Nat) × Nat
 | [], pcs => (pcs, 0)
 | n :: ns, pcs => match ZjF (ZbC fs) n with
  | none => (pcs, 6)
  | some fb => ZfU fs ns (pcs.filter fun p => !decide (p.1 = fb))
theorem Zs1 {fs : List Fl} {n : List UInt8} {ns : List (List UInt8)} {pcs : List (Nat × Nat)} (h : ZjF (ZbC fs) n = none) : ZfU fs (n :: ns) pcs = (pcs, 6) := by
 unfold ZfU
 rw [h]
theorem Zkw {fs : List Fl} {n : List UInt8} {ns : List (List UInt8)} {pcs : List (Nat × Nat)} {fb : Nat} (h : ZjF (ZbC fs) n = some fb) : ZfU fs (n :: ns) pcs = ZfU fs ns (pcs.filter fun p => !decide (p.1 = fb)) := by
 conv => lhs; unfold ZfU
 rw [h]
theorem ZpX {fs : List Fl} {pcs : List (Nat × Nat)} : ZfU fs [] pcs = (pcs, 0) := rfl
section
variable {σ : St} {bb mb : Nat} {S : Nat -> Prop} {fs : List Fl} {pcs : List (Nat × Nat)} {size : Int} {pv : AV} {K : AV -> St -> Prop}
theorem ZwD {b2 : Nat} {a : AV} (h : DAt σ bb S fs pcs size mb pv) (hl : pcs.length <= 1000000000) (hb : σ.blk b2 = some (.own 40 [ptr bb 0])) {f0 : Fl} (hf0 : f0 ∈ fs) (hK : ∀ τ pv', DAt τ bb S fs (pcs.filter fun p => !decide (p.1 = f0.b)) size mb pv' -> But S σ τ -> K (.tup []) τ) : Zay Tryd.prog 79 [a, ptr f0.b 0, ptr b2 0] σ K := by
 refine ZaG ZaN Tryd.func79 rfl rfl rfl (Nat.le_of_ble_eq_true rfl) ?_
 refine ZcT 1 2 (v0 := ptr f0.b 0) (v1 := ptr b2 0) rfl rfl ?_
 intro e he
 first | refine Zaa ?_ | refine Zad ?_ | (refine Zac ?_; refine Zaa ?_) | (refine Zac ?_; refine Zac ?_; refine Zaa ?_)
 refine Zab ?_
 refine ZaD (b := b2) (o := 0) (r := ptr bb 0) (by simp only [EV, Nat.reduceEqDiff, ↓reduceIte, he] <;> try rfl) hb ZgR ZgS rfl ?_
 refine Zab ?_
 refine Zau (v := ptr bb 0) (by simp only [EV, Nat.reduceEqDiff, ↓reduceIte, he] <;> try rfl) rfl ?_
 refine Zab ?_
 refine Zaf (b := bb) (o := 0) (by simp only [EV, Nat.reduceEqDiff, ↓reduceIte, he] <;> try rfl) Zcg rfl ?_
 refine Zab (Zak rfl (by simp only [EV, Nat.reduceEqDiff, ↓reduceIte, he] <;> try rfl) ?_)
 refine Zab ?_
 refine Za9 (vs := [ptr bb 0, ptr f0.b 0]) (by simp only [List.map_cons, List.map_nil, EV, Nat.reduceEqDiff, ↓reduceIte, he] <;> try rfl) ?_
 refine ZuY h hl hf0 fun τ pv' h1 h2 => ?_
 refine Zah ?_
 exact ⟨_, ZgA rfl, hK τ pv' h1 h2⟩
theorem ZyC (h : DAt σ bb S fs pcs size mb pv) (hS : ∀ c, S c -> σ.used c) (hl : pcs.length <= 1000000000) {v : AV} {ns : List (List UInt8)} (hN : Zjz σ v ns) (hNS : ∀ c, hbk v = some c -> ¬ S c) (hnl : ns.length <= 1000000000)
 (hK : ∀ τ pv', DAt τ bb S fs (ZfU fs ns pcs).1 size mb pv' -> But S σ τ -> K (vI (ZfU fs ns pcs).2) τ) : Zay Tryd.prog 61 [ptr bb 0, v] σ K := by
 refine ZaG ZaN Tryd.func61 rfl rfl rfl (Nat.le_of_ble_eq_true rfl) ?_
 refine ZcT 0 1 (v0 := ptr bb 0) (v1 := v) rfl rfl ?_
 intro e he
 first | refine Zaa ?_ | refine Zad ?_ | (refine Zac ?_; refine Zaa ?_) | (refine Zac ?_; refine Zac ?_; refine Zaa ?_)
 refine Zab ?_
 refine Zk0 (cs := [ptr bb 0]) (v := ptr bb 0) (by simp only [EV, Nat.reduceEqDiff, ↓reduceIte, he] <;> try rfl) rfl fun b2 σ2 hn2 hu2 hb2 hub2 hX2 => ?_
 refine Zab (Zak rfl (by simp only [EV, Nat.reduceEqDiff, ↓reduceIte, he] <;> try rfl) ?_)
 refine Zah ?_
 apply ZcT 1 2
 ·simp only [EV, Nat.reduceEqDiff, ↓reduceIte, he] <;> try rfl
 ·simp only [EV, Nat.reduceEqDiff, ↓reduceIte, he] <;> try rfl
 clear he e
 intro e he
 have h2 := h.ext hX2
 have hbS : ¬ S b2 := fun hs => hu2 (hS _ hs)
 first | refine Zaa ?_ | refine Zad ?_ | (refine Zac ?_; refine Zaa ?_) | (refine Zac ?_; refine Zac ?_; refine Zaa ?_)
 refine Zab ?_
 refine ZaD (b := b2) (o := 0) (r := ptr bb 0) (by simp only [EV, Nat.reduceEqDiff, ↓reduceIte, he] <;> try rfl) hb2 ZgR ZgS rfl ?_
 refine Zab ?_
 refine ZhW (vs := [ptr b2 0]) (by simp only [List.map_cons, List.map_nil, EV, Nat.reduceEqDiff, ↓reduceIte, he] <;> try rfl) ?_
 refine Zab (Zak rfl (by simp only [EV, Nat.reduceEqDiff, ↓reduceIte, he] <;> try rfl) ?_)
 refine Zab ?_
 refine Za9 (vs := [ptr bb 0, fnV 79 #[.pointer (some ⟨b2, 0, none⟩)], v]) (by simp only [List.map_cons, List.map_nil, EV, Nat.reduceEqDiff, ↓reduceIte, he] <;> try rfl) ?_
 have hfin : ∀ (a : Nat) (τ : St), (∃ pv', DAt τ bb S fs (ZfU fs ns pcs).1 size mb pv') -> But S σ τ -> a = (ZfU fs ns pcs).2 -> K (vI a) τ := fun a τ ⟨pv', q1⟩ q2 q3 => by
  rw [q3]; exact hK τ pv' q1 q2
 refine Zq0 (fun i υ => ∃ pcs' pv', DAt υ bb S fs pcs' size mb pv' /\ pcs'.length <= 1000000000 /\ ZfU fs (ns.drop i) pcs' = ZfU fs ns pcs /\ But S σ υ /\ υ.blk b2 = some (.own 40 [ptr bb 0]) /\ Zjz υ v ns) h2 (hN.but (S := S) hX2.but hNS) hnl ⟨pcs, pv, h2, hl, rfl, hX2.but, hb2, hN.but (S := S) hX2.but hNS⟩ (fun i hi υ => ?_) (fun υ => ?_)
 ·rintro ⟨pcs', pv', g1, g2, g3, g4, g5, g6⟩
  rw [List.drop_eq_getElem_cons hi] at g3
  refine ⟨S, fs, pcs', size, mb, pv', g1, g6, fun hg => ?_, fun fb hg => ?_⟩
  ·rw [Zs1 hg] at g3
   refine Zab (Zak rfl (by simp only [EV, Nat.reduceEqDiff, ↓reduceIte, he] <;> try rfl) ?_)
   refine Zah ?_
   refine Zbm ?_
   refine ⟨_, ZaZ rfl (by simp only [EV, Nat.reduceEqDiff, ↓reduceIte, he] <;> try rfl), hfin 6 υ ⟨pv', ?_⟩ g4 ?_⟩
   ·rw [<- g3]; exact g1
   ·rw [<- g3]
  ·rw [Zkw hg] at g3
   obtain ⟨f0, hf0, hnm, rfl⟩ := ZfD hg
   refine ZwD (b2 := b2) g1 g2 g5 hf0 fun τ pv2 k1 k2 => ⟨_, pv2, k1, Nat.le_trans (List.length_filter_le _ _) g2, g3, g4.trans k2, k2.keep _ _ hbS g5, g6.but k2 hNS⟩
 ·rintro ⟨pcs', pv', g1, g2, g3, g4, g5, g6⟩
  rw [List.drop_eq_nil_of_le (Nat.le_refl _)] at g3
  rw [ZpX] at g3
  refine Zab (Zak rfl (by simp only [EV, Nat.reduceEqDiff, ↓reduceIte, he] <;> try rfl) ?_)
  refine Zah ?_
  refine Zbm ?_
  refine ⟨_, ZaZ rfl (by simp only [EV, Nat.reduceEqDiff, ↓reduceIte, he] <;> try rfl), hfin 0 υ ⟨pv', ?_⟩ g4 ?_⟩
  ·rw [<- g3]; exact g1
  ·rw [<- g3]
theorem ZyD (h : DAt σ bb S fs pcs size mb pv) {k : List UInt8} (hfl : ∀ f ∈ fs, f.d.length <= 1000000000)
 (hK1 : (∀ f ∈ fs, f.nm ≠ k) -> K (.tup [.lst none 0 0 [], vT false]) σ)
 (hK2 : ∀ f0 ∈ fs, f0.nm = k -> ∀ τ v, Hd τ 5 1 v f0.d.length (bys f0.d) -> Ext σ τ -> (∀ c, hbk v = some c -> Zgq σ c) -> K (.tup [v, vT true]) τ) : Zay Tryd.prog 30 [ptr bb 0, .raw (sV k)] σ K := by
 refine ZaG ZaN Tryd.func30 rfl rfl rfl (Nat.le_of_ble_eq_true rfl) ?_
 refine ZcT 0 1 (v0 := ptr bb 0) (v1 := .raw (sV k)) rfl rfl ?_
 intro e he
 first | refine Zaa ?_ | refine Zad ?_ | (refine Zac ?_; refine Zaa ?_) | (refine Zac ?_; refine Zac ?_; refine Zaa ?_)
 refine Zab (Zak rfl (by simp only [EV, Nat.reduceEqDiff, ↓reduceIte, he] <;> try rfl) ?_)
 refine Zab (Zak rfl (by simp only [EV, Nat.reduceEqDiff, ↓reduceIte, he] <;> try rfl) ?_)
 refine Zah ?_
 apply ZcU 0 1 4 5
 ·simp only [EV, Nat.reduceEqDiff, ↓reduceIte, he] <;> try rfl
 ·simp only [EV, Nat.reduceEqDiff, ↓reduceIte, he] <;> try rfl
 ·simp only [EV, Nat.reduceEqDiff, ↓reduceIte, he] <;> try rfl
 ·simp only [EV, Nat.reduceEqDiff, ↓reduceIte, he] <;> try rfl
 clear he e
 intro e he
 first | refine Zaa ?_ | refine Zad ?_ | (refine Zac ?_; refine Zaa ?_) | (refine Zac ?_; refine Zac ?_; refine Zaa ?_)
 refine Zab (Zak rfl (by simp only [EV, Nat.reduceEqDiff, ↓reduceIte, he] <;> try rfl) ?_)
 refine Zab ?_
 refine Za9 (vs := [ptr bb 0]) (by simp only [List.map_cons, List.map_nil, EV, Nat.reduceEqDiff, ↓reduceIte, he] <;> try rfl) ?_
 refine Zjx h ?_
 refine Zab ?_
 with_reducible apply Zg2
 case hx => simp only [EV, Nat.reduceEqDiff, ↓reduceIte, he] <;> try rfl
 refine Zab (Zak rfl (by simp only [EV, Nat.reduceEqDiff, ↓reduceIte, he] <;> try rfl) ?_)
 refine Zab (ZaE (Zg8 rfl (by simp only [EV, Nat.reduceEqDiff, ↓reduceIte, he] <;> try rfl)) ?_)
 refine Zak rfl (by simp only [EV, Nat.reduceEqDiff, ↓reduceIte, he] <;> try rfl) ?_
 refine Zab (ZaE (Zg8 rfl (by simp only [EV, Nat.reduceEqDiff, ↓reduceIte, he] <;> try rfl)) ?_)
 refine Zau (v := ptr bb 0) (by simp only [EV, Nat.reduceEqDiff, ↓reduceIte, he] <;> try rfl) rfl ?_
 refine Zab (ZaE (Zg8 rfl (by simp only [EV, Nat.reduceEqDiff, ↓reduceIte, he] <;> try rfl)) ?_)
 refine Zaf (b := bb) (o := 0) (by simp only [EV, Nat.reduceEqDiff, ↓reduceIte, he] <;> try rfl) Zcg rfl ?_
 refine Zab (ZaE (Zg8 rfl (by simp only [EV, Nat.reduceEqDiff, ↓reduceIte, he] <;> try rfl)) ?_)
 refine ZaD (b := bb) (o := 0 + 1) (r := ZdZ mb) (by simp only [EV, Nat.reduceEqDiff, ↓reduceIte, he] <;> try rfl) h.obj Ze6 Ze5 rfl ?_
 refine Zab (ZaE (Zg8 rfl (by simp only [EV, Nat.reduceEqDiff, ↓reduceIte, he] <;> try rfl)) ?_)
 refine Zak rfl (by simp only [EV, Nat.reduceEqDiff, ↓reduceIte, he] <;> try rfl) ?_
 refine Zab (ZaE (Zg8 rfl (by simp only [EV, Nat.reduceEqDiff, ↓reduceIte, he] <;> try rfl)) ?_)
 refine Zgp (k := k) (es := ZbC fs) (b := mb) (by simp only [EV, Nat.reduceEqDiff, ↓reduceIte, he] <;> try rfl) (by simp only [EV, Nat.reduceEqDiff, ↓reduceIte, he] <;> try rfl) h.map Zg3 Zkv Zku ?_
 cases hg : ZjF (ZbC fs) k with
 | none =>
  refine Zab (ZaE (Zg8 rfl (by simp only [EV, Nat.reduceEqDiff, ↓reduceIte, he] <;> try rfl)) ?_)
  refine ZgB (p := none) Zg4 (by simp only [EV, Nat.reduceEqDiff, ↓reduceIte, he] <;> try rfl) rfl (by simp only [EV, Nat.reduceEqDiff, ↓reduceIte, he] <;> try rfl) ?_
  refine Zab ?_
  refine Zfk (v := vT true) (by simp only [EV, Nat.reduceEqDiff, ↓reduceIte, he] <;> try rfl) (by simp only [EV, Nat.reduceEqDiff, ↓reduceIte, he] <;> try rfl) ?_
  refine Zah ?_
  apply Zb5 0 1 17
  ·simp only [EV, Nat.reduceEqDiff, ↓reduceIte, he] <;> try rfl
  ·simp only [EV, Nat.reduceEqDiff, ↓reduceIte, he] <;> try rfl
  ·simp only [EV, Nat.reduceEqDiff, ↓reduceIte, he] <;> try rfl
  clear he e
  intro e he
  refine Zbu (t := true) (by simp only [EV, Nat.reduceEqDiff, ↓reduceIte, he] <;> try rfl) (fun _ => ?_) (fun hf => by cases hf)
  first | refine Zaa ?_ | refine Zad ?_ | (refine Zac ?_; refine Zaa ?_) | (refine Zac ?_; refine Zac ?_; refine Zaa ?_)
  refine Zab (Zak rfl (by simp only [EV, Nat.reduceEqDiff, ↓reduceIte, he] <;> try rfl) ?_)
  refine Zab (Zak rfl (by simp only [EV, Nat.reduceEqDiff, ↓reduceIte, he] <;> try rfl) ?_)
  refine Zah ?_
  refine ZmK ?_
  show ∃ r, Zaq _ _ _ _ r /\ _
  exact ZnK rfl (Zdx (by simp only [EV, Nat.reduceEqDiff, ↓reduceIte, he] <;> try rfl)) (Zdx (by simp only [EV, Nat.reduceEqDiff, ↓reduceIte, he] <;> try rfl)) (hK1 (Ze7.1 hg))
 | some fb =>
  obtain ⟨f0, hf0, hnm, rfl⟩ := ZfD hg
  obtain ⟨p1, p2, p3⟩ := h.file f0 hf0
  refine Zab (ZaE (Zg8 rfl (by simp only [EV, Nat.reduceEqDiff, ↓reduceIte, he] <;> try rfl)) ?_)
  refine ZgB (p := some ⟨f0.b, 0, none⟩) Zg4 (by simp only [EV, Nat.reduceEqDiff, ↓reduceIte, he] <;> try rfl) rfl (by simp only [EV, Nat.reduceEqDiff, ↓reduceIte, he] <;> try rfl) ?_
  refine Zab ?_
  refine Zfk (v := vT false) (by simp only [EV, Nat.reduceEqDiff, ↓reduceIte, he] <;> try rfl) (by simp only [EV, Nat.reduceEqDiff, ↓reduceIte, he] <;> try rfl) ?_
  refine Zah ?_
  apply Zb5 0 1 17
  ·simp only [EV, Nat.reduceEqDiff, ↓reduceIte, he] <;> try rfl
  ·simp only [EV, Nat.reduceEqDiff, ↓reduceIte, he] <;> try rfl
  ·simp only [EV, Nat.reduceEqDiff, ↓reduceIte, he] <;> try rfl
  clear he e
  intro e he
  refine Zbu (t := false) (by simp only [EV, Nat.reduceEqDiff, ↓reduceIte, he] <;> try rfl) (fun hf => by cases hf) (fun _ => ?_)
  refine Zb2 ?_
  first | refine Zaa ?_ | refine Zad ?_ | (refine Zac ?_; refine Zaa ?_) | (refine Zac ?_; refine Zac ?_; refine Zaa ?_)
  refine Zab (Zak rfl (by simp only [EV, Nat.reduceEqDiff, ↓reduceIte, he] <;> try rfl) ?_)
  refine Zab ?_
  refine Zau (v := ptr bb 0) (by simp only [EV, Nat.reduceEqDiff, ↓reduceIte, he] <;> try rfl) rfl ?_
  refine Zab ?_
  refine Zaf (b := bb) (o := 0) (by simp only [EV, Nat.reduceEqDiff, ↓reduceIte, he] <;> try rfl) Zcg rfl ?_
  refine Zab ?_
  refine ZaD (b := bb) (o := 0 + 1) (r := ZdZ mb) (by simp only [EV, Nat.reduceEqDiff, ↓reduceIte, he] <;> try rfl) h.obj Ze6 Ze5 rfl ?_
  refine Zab (Zak rfl (by simp only [EV, Nat.reduceEqDiff, ↓reduceIte, he] <;> try rfl) ?_)
  refine Zab ?_
  refine Zgp (k := k) (es := ZbC fs) (b := mb) (by simp only [EV, Nat.reduceEqDiff, ↓reduceIte, he] <;> try rfl) (by simp only [EV, Nat.reduceEqDiff, ↓reduceIte, he] <;> try rfl) h.map Zg3 Zkv Zku ?_
  rw [hg]
  refine Zab ?_
  refine Zau (v := ptr f0.b 0) (by simp only [EV, Nat.reduceEqDiff, ↓reduceIte, he] <;> try rfl) rfl ?_
  refine Zab ?_
  refine Zaf (b := f0.b) (o := 0) (by simp only [EV, Nat.reduceEqDiff, ↓reduceIte, he] <;> try rfl) Zkq rfl ?_
  refine Zab ?_
  refine ZaD (b := f0.b) (o := 0 + 0) (r := f0.v) (by simp only [EV, Nat.reduceEqDiff, ↓reduceIte, he] <;> try rfl) p1 Zks ZhB rfl ?_
  refine Zab ?_
  refine Za9 (vs := [f0.v]) (by simp only [List.map_cons, List.map_nil, EV, Nat.reduceEqDiff, ↓reduceIte, he] <;> try rfl) ?_
  refine ZuR p3 (hfl f0 hf0) _ fun v τ q1 q2 q3 => ?_
  refine Zab (Zak rfl (by simp only [EV, Nat.reduceEqDiff, ↓reduceIte, he] <;> try rfl) ?_)
  refine Zab (Zak rfl (by simp only [EV, Nat.reduceEqDiff, ↓reduceIte, he] <;> try rfl) ?_)
  refine Zah ?_
  refine Zbm ?_
  show ∃ r, Zaq _ _ _ _ r /\ _
  exact ZnK rfl (Zdx (by simp only [EV, Nat.reduceEqDiff, ↓reduceIte, he] <;> try rfl)) (Zdx (by simp only [EV, Nat.reduceEqDiff, ↓reduceIte, he] <;> try rfl)) (hK2 f0 hf0 hnm τ v q1 q2 q3)
end
end Go.Proofs.YteempnebenjkmaaDoor
namespace Go.Proofs.YteempnebenjkmaaDoor
open Go.RowKit
set_option maxRecDepth 100000
set_option linter.unusedVariables false
set_option linter.unusedSimpArgs false
abbrev FD := List (List UInt8 × Nat × List UInt8)
def dat (fs : List Fl) : FD := fs.map fun f => (f.nm, f.b, f.d)
def Zxi (b m : Nat) (l : FD) : FD := l.map fun f => if f.2.1 = b then (f.1, f.2.1, f.2.2.take (f.2.2.length - m)) else f
theorem Zu0 (b : Nat) (l : FD) : Zxi b 0 l = l := by
 unfold Zxi
 conv => rhs; rw [<- List.map_id l]
 refine List.map_congr_left fun f _ => ?_
 rw [Nat.sub_zero, List.take_length]
 split <;> rfl
def Zip : Nat -> FD -> List (Nat × Nat) -> FD
 | _, l, [] => l
 | lost, l, p :: ps => Zip (lost - min lost p.2) (Zxi p.1 (min lost p.2) l) ps
theorem Ze8 : ∀ (ps : List (Nat × Nat)) (l : FD), Zip 0 l ps = l
 | [], l => rfl
 | p :: ps, l => by
  unfold Zip
  rw [Nat.zero_min, Zu0, Nat.sub_zero]
  exact Ze8 ps l
def Zm5 (b : Nat) (pcs : List (Nat × Nat)) : Nat := Zgr (pcs.filter fun p => decide (p.1 = b))
theorem ZmA (b : Nat) (l m : List (Nat × Nat)) : Zm5 b (l ++ m) = Zm5 b l + Zm5 b m := by simp [Zm5, Zgr]
theorem ZjA (l m : List (Nat × Nat)) : Zgr (l ++ m) = Zgr l + Zgr m := by simp [Zgr]
theorem ZjB (b : Nat) (p : Nat × Nat) : Zm5 b [p] = if p.1 = b then p.2 else 0 := by
 unfold Zm5 Zgr
 by_cases h : p.1 = b <;> simp [h]
theorem ZwE (p : Nat × Nat) : Zgr [p] = p.2 := by simp [Zgr]
theorem ZrY : Zgr [] = 0 := rfl
theorem ZmB (b : Nat) : Zm5 b [] = 0 := rfl
theorem ZrZ {p : Nat × Nat} : ∀ {l : List (Nat × Nat)}, p ∈ l -> p.2 <= Zgr l
 | q :: l, h => by
  have : Zgr (q :: l) = q.2 + Zgr l := by simp [Zgr]
  rcases List.mem_cons.1 h with rfl | h
  ·omega
  ·have := ZrZ h; omega
structure Wf (fs : List Fl) (pcs : List (Nat × Nat)) : Prop where
 pos : ∀ p ∈ pcs, 0 < p.2
 fit : ∀ f ∈ fs, Zm5 f.b pcs <= f.d.length
theorem Zu1 {fs : List Fl} {f0 : Fl} {v : AV} {m : Nat} (h : ∀ f ∈ fs, f.b = f0.b -> f.d = f0.d) : dat (fs.map (Zeg f0.b v (f0.d.take (f0.d.length - m)))) = Zxi f0.b m (dat fs) := by
 unfold dat Zxi
 rw [List.map_map, List.map_map]
 refine List.map_congr_left fun f hf => ?_
 simp only [Function.comp]
 unfold Zeg
 by_cases hb : f.b = f0.b
 ·rw [if_pos hb, if_pos hb, h f hf hb]
 ·rw [if_neg hb, if_neg hb]
theorem ZwF {fb n : Nat} {init : List (Nat × Nat)} {p : Nat × Nat} (hp : p.1 = fb) (hn : n <= p.2) : shr fb n (init ++ [p]) = init ++ [(p.1, p.2 - n)] := by
 unfold shr
 rw [List.reverse_append]
 show (Zp6 fb n (p :: init.reverse)).reverse = _
 unfold Zp6
 rw [if_pos hp, Nat.min_eq_left hn, Nat.sub_self, Zmy, List.reverse_cons, List.reverse_reverse]
theorem Zu2 {init : List (Nat × Nat)} {b k : Nat} (h : ∀ p ∈ init, 0 < p.2) : (init ++ [(b, k)]).filter (fun p => !decide (p.2 = 0)) = init ++ (if k = 0 then [] else [(b, k)]) := by
 rw [List.filter_append, List.filter_eq_self.2 fun p hp => by have := h p hp; simp; omega]
 by_cases hk : k = 0 <;> simp [hk]
section
variable {σ : St} {bb mb : Nat} {S : Nat -> Prop} {fs : List Fl} {pcs : List (Nat × Nat)} {size : Int} {pv : AV} {K : AV -> St -> Prop}
set_option maxHeartbeats 2000000 in
theorem ZwG (h : DAt σ bb S fs pcs size mb pv) (hl : pcs.length <= 1000000000) (hwf : Wf fs pcs) (hs : Zgr pcs <= 1000000000) (hfl : ∀ f ∈ fs, f.d.length <= 1000000000) {keep : Int} (hk : -9223372036854775808 <= keep /\ keep <= 9223372036854775807)
 (hK : ∀ τ fs', DAt τ bb S fs' [] size mb (.lst none 0 0 []) -> dat fs' = Zip ((Zgr pcs : Int) - max keep 0).toNat (dat fs) pcs.reverse -> But S σ τ -> K (.tup []) τ) : Zay Tryd.prog 15 [ptr bb 0, .raw (.int .i64 keep)] σ K := by
 refine ZaG ZaN Tryd.func15 rfl rfl rfl (Nat.le_of_ble_eq_true rfl) ?_
 refine ZcT 0 1 (v0 := ptr bb 0) (v1 := .raw (.int .i64 keep)) rfl rfl ?_
 intro e he
 first | refine Zaa ?_ | refine Zad ?_ | (refine Zac ?_; refine Zaa ?_) | (refine Zac ?_; refine Zac ?_; refine Zaa ?_)
 refine Zab (Zak rfl (by simp only [EV, Nat.reduceEqDiff, ↓reduceIte, he] <;> try rfl) ?_)
 refine Zab ?_
 refine Za9 (vs := [ptr bb 0]) (by simp only [List.map_cons, List.map_nil, EV, Nat.reduceEqDiff, ↓reduceIte, he] <;> try rfl) ?_
 refine Zjx h ?_
 refine Zab ?_
 with_reducible apply Zg2
 case hx => simp only [EV, Nat.reduceEqDiff, ↓reduceIte, he] <;> try rfl
 refine Zah ?_
 apply Zb5 0 1 9
 ·simp only [EV, Nat.reduceEqDiff, ↓reduceIte, he] <;> try rfl
 ·simp only [EV, Nat.reduceEqDiff, ↓reduceIte, he] <;> try rfl
 ·simp only [EV, Nat.reduceEqDiff, ↓reduceIte, he] <;> try rfl
 clear he e
 intro e he
 refine Zbu (t := false) (by simp only [EV, Nat.reduceEqDiff, ↓reduceIte, he] <;> try rfl) (fun hf => by cases hf) (fun _ => ?_)
 refine Zb2 ?_
 refine Zhy (fun env υ => env 0 = ptr bb 0 /\ ∃ fs' pcs' pv', DAt υ bb S fs' pcs' size mb pv' /\ dat fs' = Zip ((Zgr pcs : Int) - max keep 0).toNat (dat fs) pcs.reverse /\ But S σ υ) ?_ ?_
 ·first | refine Zaa ?_ | refine Zad ?_ | (refine Zac ?_; refine Zaa ?_) | (refine Zac ?_; refine Zac ?_; refine Zaa ?_)
  refine Zab (Zak rfl (by simp only [EV, Nat.reduceEqDiff, ↓reduceIte, he] <;> try rfl) ?_)
  refine Zab ?_
  refine Zau (v := ptr bb 0) (by simp only [EV, Nat.reduceEqDiff, ↓reduceIte, he] <;> try rfl) rfl ?_
  refine Zab ?_
  refine Zaf (b := bb) (o := 0) (by simp only [EV, Nat.reduceEqDiff, ↓reduceIte, he] <;> try rfl) Zcg rfl ?_
  refine Zab ?_
  refine Za9 (vs := [ptr bb 0]) (by simp only [List.map_cons, List.map_nil, EV, Nat.reduceEqDiff, ↓reduceIte, he] <;> try rfl) ?_
  refine ZuU h hs hl fun σ1 hX1 => ?_
  refine Zab (Zak rfl (by simp only [EV, Nat.reduceEqDiff, ↓reduceIte, he] <;> try rfl) ?_)
  refine Zab ?_
  refine ZAL (k := .i64) (k' := .i64) (a := keep) (b := 0) (by simp only [EV, Nat.reduceEqDiff, ↓reduceIte, he] <;> try rfl) (by simp only [EV, Nat.reduceEqDiff, ↓reduceIte, he] <;> try rfl) ?_
  rw [show (if keep < 0 then (0 : Int) else keep) = max keep 0 by split <;> omega]
  refine Zab ?_
  refine Zzk (k := .i64) (a := (Zgr pcs : Int)) (b := max keep 0) (by simp only [EV, Nat.reduceEqDiff, ↓reduceIte, he] <;> try rfl) (by simp only [EV, Nat.reduceEqDiff, ↓reduceIte, he] <;> try rfl) (IntWalk.i64_in _ (by omega)) ?_
  refine Zab (Zak rfl (by simp only [EV, Nat.reduceEqDiff, ↓reduceIte, he] <;> try rfl) ?_)
  refine Zah ?_
  have h1 := h.ext hX1
  apply ZcT 0 4
  ·simp only [EV, Nat.reduceEqDiff, ↓reduceIte, he] <;> try rfl
  ·simp only [EV, Nat.reduceEqDiff, ↓reduceIte, he] <;> try rfl
  clear he e
  intro e he
  refine Zfl ?_
  refine Zgz (fun μ env υ => ∃ (x : Int) (fs' : List Fl) (pcs' : List (Nat × Nat)) (pv' : AV), μ = x.toNat /\ (env 0 = ptr bb 0 /\ env 4 = .raw (.int .i64 x)) /\ x <= (Zgr pcs' : Int) /\ x <= 1000000000 /\ DAt υ bb S fs' pcs' size mb pv' /\ Wf fs' pcs' /\ pcs'.length <= 1000000000 /\ Zgr pcs' <= 1000000000 /\ (∀ f ∈ fs', f.d.length <= 1000000000) /\ Zip x.toNat (dat fs') pcs'.reverse = Zip ((Zgr pcs : Int) - max keep 0).toNat (dat fs) pcs.reverse /\ But S σ υ) ⟨_, _, fs, pcs, pv, rfl, he, by omega, by omega, h1, hwf, hl, hs, hfl, rfl, hX1.but⟩ ?_
  clear he e h h1 hwf hfl
  rintro _ e υ ⟨x, fs', pcs', pv', rfl, he, hx, hx2, h, hwf, hl', hs', hfl, hcr, hB⟩
  first | refine Zaa ?_ | refine Zad ?_ | (refine Zac ?_; refine Zaa ?_) | (refine Zac ?_; refine Zac ?_; refine Zaa ?_)
  refine Zab (Zak rfl (by simp only [EV, Nat.reduceEqDiff, ↓reduceIte, he] <;> try rfl) ?_)
  refine Zab ?_
  refine Ztl (k := .i64) (a := x) (b := 0) (by simp only [EV, Nat.reduceEqDiff, ↓reduceIte, he] <;> try rfl) (by simp only [EV, Nat.reduceEqDiff, ↓reduceIte, he] <;> try rfl) ?_
  refine Zah ?_
  apply Zb5 0 4 18
  ·simp only [EV, Nat.reduceEqDiff, ↓reduceIte, he] <;> try rfl
  ·simp only [EV, Nat.reduceEqDiff, ↓reduceIte, he] <;> try rfl
  ·simp only [EV, Nat.reduceEqDiff, ↓reduceIte, he] <;> try rfl
  clear he e
  intro e he
  refine Zbu (t := decide (0 < x)) (by simp only [EV, Nat.reduceEqDiff, ↓reduceIte, he] <;> try rfl) (fun ht => ?_) (fun ht => ?_)
  ·have hx0 : 0 < x := of_decide_eq_true ht
   obtain ⟨m, rfl⟩ : ∃ m : Nat, x = m := ⟨x.toNat, by omega⟩
   rw [Int.toNat_natCast] at hcr
   obtain ⟨init, p, rfl⟩ : ∃ init p, pcs' = init ++ [p] := by
    rcases List.eq_nil_or_concat pcs' with rfl | ⟨init, p, rfl⟩
    ·simp [Zgr] at hx; omega
    ·exact ⟨init, p, List.concat_eq_append⟩
   rw [List.length_append] at hl'
   have hll : (init ++ [p]).length = init.length + 1 := by simp
   have hp0 := hwf.pos p (by simp)
   have hpi : ∀ q ∈ init, 0 < q.2 := fun q hq => hwf.pos q (List.mem_append_left _ hq)
   have hps : p.2 <= 1000000000 := by
    rw [ZjA] at hs'
    have : Zgr [p] = p.2 := by simp [Zgr]
    omega
   have hget : (init ++ [p])[init.length]'(by simp) = p := by simp
   obtain ⟨f0, hf0, hfb⟩ := h.inn p (by simp)
   refine Zb2 ?_
   refine Zfl ?_
   refine ZjM ?_
   refine ⟨[0, 1, 2, 3, 5, 6, 7, 8, 4, 9, 10, 11, 12, 13, 14, 15], [[], [0], [0, 1], [0, 1, 2], [0, 1, 2, 3], [], [5], [5, 6], [5, 6, 7], [5, 6, 7, 8], [5, 6, 7, 8, 9], [5, 6, 7, 8, 9, 10], [0, 1, 2, 3, 4, 5, 6, 7, 8, 9, 10, 11], [0, 1, 2, 3, 4, 5, 6, 7, 8, 9, 10, 11, 12], [], [0, 1, 2, 3, 4, 5, 6, 7, 8, 9, 10, 11, 12, 13, 14]], fun _ => True, [], [], [], by kernel_rfl, ?_⟩
   apply ZaJ
   case hi => simp only [HIX]; try rfl
   case hw => rfl
   case how => rfl
   refine Zak rfl (by simp only [EV, Nat.reduceEqDiff, ↓reduceIte, he] <;> try rfl) ?_
   refine ZbL ?_
   apply ZaJ
   case hi => simp only [HIX]; try rfl
   case hw => rfl
   case how => rfl
   refine Zau (v := ptr bb 0) (by simp only [EV, Nat.reduceEqDiff, ↓reduceIte, he] <;> try rfl) rfl ?_
   refine ZbL ?_
   apply ZaJ
   case hi => simp only [HIX]; try rfl
   case hw => rfl
   case how => rfl
   refine Zaf (b := bb) (o := 0) (by simp only [EV, Nat.reduceEqDiff, ↓reduceIte, he] <;> try rfl) Zcg rfl ?_
   refine ZbL ?_
   apply ZaJ
   case hi => simp only [HIX]; try rfl
   case hw => rfl
   case how => rfl
   refine Zaf (b := bb) (o := 0 + 0) (by simp only [EV, Nat.reduceEqDiff, ↓reduceIte, he] <;> try rfl) ZdF rfl ?_
   refine ZbL ?_
   apply ZaJ
   case hi => simp only [HIX]; try rfl
   case hw => rfl
   case how => rfl
   refine Zak rfl (by simp only [EV, Nat.reduceEqDiff, ↓reduceIte, he] <;> try rfl) ?_
   refine ZbL ?_
   apply ZaJ
   case hi => simp only [HIX]; try rfl
   case hw => rfl
   case how => rfl
   refine Zau (v := ptr bb 0) (by simp only [EV, Nat.reduceEqDiff, ↓reduceIte, he] <;> try rfl) rfl ?_
   refine ZbL ?_
   apply ZaJ
   case hi => simp only [HIX]; try rfl
   case hw => rfl
   case how => rfl
   refine Zaf (b := bb) (o := 0) (by simp only [EV, Nat.reduceEqDiff, ↓reduceIte, he] <;> try rfl) Zcg rfl ?_
   refine ZbL ?_
   apply ZaJ
   case hi => simp only [HIX]; try rfl
   case hw => rfl
   case how => rfl
   refine Zaf (b := bb) (o := 0 + 0) (by simp only [EV, Nat.reduceEqDiff, ↓reduceIte, he] <;> try rfl) ZdF rfl ?_
   refine ZbL ?_
   apply ZaJ
   case hi => simp only [HIX]; try rfl
   case hw => rfl
   case how => rfl
   refine ZaD (b := bb) (o := 0 + 0 + 0) (r := pv') (by simp only [EV, Nat.reduceEqDiff, ↓reduceIte, he] <;> try rfl) h.obj ZfS ZdG rfl ?_
   refine ZbL ?_
   apply ZaJ
   case hi => simp only [HIX]; try rfl
   case hw => rfl
   case how => rfl
   refine ZaD (b := bb) (o := 0 + 0 + 0) (r := pv') (by simp only [EV, Nat.reduceEqDiff, ↓reduceIte, he] <;> try rfl) h.obj ZfS ZdG rfl ?_
   refine ZbL ?_
   apply ZaJ
   case hi => simp only [HIX]; try rfl
   case hw => rfl
   case how => rfl
   refine Zjs (by simp only [EV, Nat.reduceEqDiff, ↓reduceIte, he] <;> try rfl) h.pc rfl Zck ?_
   refine ZbL ?_
   apply ZaJ
   case hi => simp only [HIX]; try rfl
   case hw => rfl
   case how => rfl
   refine Zmz ((init ++ [p]).length : Int) 1 (by simp only [EV, Nat.reduceEqDiff, ↓reduceIte, he] <;> try rfl) (by simp only [EV, Nat.reduceEqDiff, ↓reduceIte, he] <;> try rfl) (by omega) (by omega) ?_
   refine ZbL ?_
   rw [show (((init ++ [p]).length : Int) - 1) = (init.length : Int) by rw [hll]; omega]
   apply ZaJ
   case hi => simp only [HIX]; try rfl
   case hw => rfl
   case how => rfl
   refine ZdE (k := .i64) (j := init.length) (by simp only [EV, Nat.reduceEqDiff, ↓reduceIte, he] <;> try rfl) (by simp only [EV, Nat.reduceEqDiff, ↓reduceIte, he] <;> try rfl) Zck ZbJ h.pc (by omega) fun b hb => ?_
   refine ZbL ?_
   apply ZaJ
   case hi => simp only [HIX]; try rfl
   case hw => rfl
   case how => rfl
   refine Zwj (by simp only [EV, Nat.reduceEqDiff, ↓reduceIte, he] <;> try rfl) h.pc hb (by omega) Zkt ZbJ ?_
   rw [ZqY (by omega), hget]
   refine ZbL ?_
   apply ZaJ
   case hi => simp only [HIX]; try rfl
   case hw => rfl
   case how => rfl
   refine ZdQ ZiP rfl fun b5 υ5 hn5 hu5 hb5 hub5 hX5 => ?_
   refine ⟨(fun hf => by cases hf), ?_⟩
   apply ZaJ
   case hi => simp only [HIX]; try rfl
   case hw => rfl
   case how => rfl
   refine ZcS (b := b5) (o := 0) (u := pcV p) (cs' := [ptr p.1 0, .raw (.int .i64 (p.2 : Int))]) (by simp only [EV, Nat.reduceEqDiff, ↓reduceIte, he] <;> try rfl) (by simp only [EV, Nat.reduceEqDiff, ↓reduceIte, he] <;> try rfl) hb5 ZbJ rfl rfl fun υ6 hb6 k6 => ?_
   refine ⟨(fun hf => by cases hf), ?_⟩
   refine Zor ?_
   have hX6 : Ext υ υ6 := But.ext hX5 (fun g hg => by rw [hg]; exact hn5) k6
   have h6 := h.ext hX6
   apply Zb5 0 4 5
   ·simp only [EV, Nat.reduceEqDiff, ↓reduceIte, he] <;> try rfl
   ·simp only [EV, Nat.reduceEqDiff, ↓reduceIte, he] <;> try rfl
   ·simp only [EV, Nat.reduceEqDiff, ↓reduceIte, he] <;> try rfl
   clear he e
   intro e he
   first | refine Zaa ?_ | refine Zad ?_ | (refine Zac ?_; refine Zaa ?_) | (refine Zac ?_; refine Zac ?_; refine Zaa ?_)
   refine Zab (Zak rfl (by simp only [EV, Nat.reduceEqDiff, ↓reduceIte, he] <;> try rfl) ?_)
   refine Zab ?_
   refine Zaf (b := b5) (o := 0) (by simp only [EV, Nat.reduceEqDiff, ↓reduceIte, he] <;> try rfl) ZgP rfl ?_
   refine Zab ?_
   refine ZaD (b := b5) (o := 0 + 1) (r := .raw (.int .i64 (p.2 : Int))) (by simp only [EV, Nat.reduceEqDiff, ↓reduceIte, he] <;> try rfl) hb6 ZpT ZnC rfl ?_
   refine Zab ?_
   refine Zxh m p.2 (by simp only [EV, Nat.reduceEqDiff, ↓reduceIte, he] <;> try rfl) (by simp only [EV, Nat.reduceEqDiff, ↓reduceIte, he] <;> try rfl) ?_
   refine Zab (Zak rfl (by simp only [EV, Nat.reduceEqDiff, ↓reduceIte, he] <;> try rfl) ?_)
   refine Zah ?_
   apply ZcU 0 4 5 6
   ·simp only [EV, Nat.reduceEqDiff, ↓reduceIte, he] <;> try rfl
   ·simp only [EV, Nat.reduceEqDiff, ↓reduceIte, he] <;> try rfl
   ·simp only [EV, Nat.reduceEqDiff, ↓reduceIte, he] <;> try rfl
   ·simp only [EV, Nat.reduceEqDiff, ↓reduceIte, he] <;> try rfl
   clear he e
   intro e he
   refine ZjM ?_
   refine ⟨[0, 1, 2, 3, 5, 4, 6], [[], [0], [0, 1], [], [3], [], [0, 1, 2, 3, 4, 5]], fun _ => True, [], [], [], by kernel_rfl, ?_⟩
   apply ZaJ
   case hi => simp only [HIX]; try rfl
   case hw => rfl
   case how => rfl
   refine Zak rfl (by simp only [EV, Nat.reduceEqDiff, ↓reduceIte, he] <;> try rfl) ?_
   refine ZbL ?_
   apply ZaJ
   case hi => simp only [HIX]; try rfl
   case hw => rfl
   case how => rfl
   refine Zau (v := ptr bb 0) (by simp only [EV, Nat.reduceEqDiff, ↓reduceIte, he] <;> try rfl) rfl ?_
   refine ZbL ?_
   apply ZaJ
   case hi => simp only [HIX]; try rfl
   case hw => rfl
   case how => rfl
   refine Zaf (b := bb) (o := 0) (by simp only [EV, Nat.reduceEqDiff, ↓reduceIte, he] <;> try rfl) Zcg rfl ?_
   refine ZbL ?_
   apply ZaJ
   case hi => simp only [HIX]; try rfl
   case hw => rfl
   case how => rfl
   refine Zaf (b := b5) (o := 0) (by simp only [EV, Nat.reduceEqDiff, ↓reduceIte, he] <;> try rfl) ZgP rfl ?_
   refine ZbL ?_
   apply ZaJ
   case hi => simp only [HIX]; try rfl
   case hw => rfl
   case how => rfl
   refine Zak rfl (by simp only [EV, Nat.reduceEqDiff, ↓reduceIte, he] <;> try rfl) ?_
   refine ZbL ?_
   apply ZaJ
   case hi => simp only [HIX]; try rfl
   case hw => rfl
   case how => rfl
   refine ZaD (b := b5) (o := 0 + 0) (r := ptr f0.b 0) (by simp only [EV, Nat.reduceEqDiff, ↓reduceIte, he] <;> try rfl) (hfb ▸ hb6) Zov Zou rfl ?_
   refine ZbL ?_
   have hsum0 : Zm5 f0.b (init ++ [p]) = Zm5 f0.b init + p.2 := by rw [ZmA, ZjB, if_pos hfb.symm]
   have hfit := hwf.fit f0 hf0
   have hmin : min m p.2 <= p.2 := Nat.min_le_right _ _
   apply ZaJ
   case hi => simp only [HIX]; try rfl
   case hw => rfl
   case how => rfl
   refine Za9 (vs := [ptr bb 0, ptr f0.b 0, vI (min m p.2 : Nat)]) (by simp only [List.map_cons, List.map_nil, EV, Nat.reduceEqDiff, ↓reduceIte, he] <;> try rfl) ?_
   refine Zs0 h6 (by rw [hll]; simp at hl'; omega) (fun q hq => ?_) hf0 (m := min m p.2) (by omega) (hfl f0 hf0) fun τ v2 pv2 d1 d2 => ?_
   ·rcases List.mem_append.1 hq with hq | hq
    ·have := ZrZ hq
     rw [ZjA] at hs'
     omega
    ·rw [List.mem_singleton.1 hq]; exact hps
   rw [ZwF hfb.symm hmin, Zu2 hpi] at d1
   refine ⟨(fun hf => by cases hf), ?_⟩
   refine Zor ?_
   apply ZcU 0 4 5 6
   ·simp only [EV, Nat.reduceEqDiff, ↓reduceIte, he] <;> try rfl
   ·simp only [EV, Nat.reduceEqDiff, ↓reduceIte, he] <;> try rfl
   ·simp only [EV, Nat.reduceEqDiff, ↓reduceIte, he] <;> try rfl
   ·simp only [EV, Nat.reduceEqDiff, ↓reduceIte, he] <;> try rfl
   clear he e
   intro e he
   refine Zad ?_
   refine Zab (Zak rfl (by simp only [EV, Nat.reduceEqDiff, ↓reduceIte, he] <;> try rfl) ?_)
   refine Zab (Zak rfl (by simp only [EV, Nat.reduceEqDiff, ↓reduceIte, he] <;> try rfl) ?_)
   refine Zab ?_
   refine Zmz (m : Int) ((min m p.2 : Nat) : Int) (by simp only [EV, Nat.reduceEqDiff, ↓reduceIte, he] <;> try rfl) (by simp only [EV, Nat.reduceEqDiff, ↓reduceIte, he] <;> try rfl) (by omega) (by omega) ?_
   refine Zab (Zak rfl (by simp only [EV, Nat.reduceEqDiff, ↓reduceIte, he] <;> try rfl) ?_)
   refine Zah ?_
   have hm1 : ((m : Int) - ((min m p.2 : Nat) : Int)) = ((m - min m p.2 : Nat) : Int) := by omega
   have hsp : Zgr (init ++ [p]) = Zgr init + p.2 := by rw [ZjA]; simp [Zgr]
   have hdat : dat (fs'.map (Zeg f0.b v2 (f0.d.take (f0.d.length - min m p.2)))) = Zxi f0.b (min m p.2) (dat fs') := Zu1 fun f hf hfb' => by rw [h.uniq hf hf0 hfb']
   have hcr2 : Zip (m - min m p.2) (Zxi f0.b (min m p.2) (dat fs')) (init ++ if p.2 - min m p.2 = 0 then [] else [(p.1, p.2 - min m p.2)]).reverse = Zip m (dat fs') (init ++ [p]).reverse := by
    have e4 : (init ++ [p]).reverse = p :: init.reverse := by simp
    rw [e4]
    show _ = Zip (m - min m p.2) (Zxi p.1 (min m p.2) (dat fs')) init.reverse
    by_cases hz : p.2 - min m p.2 = 0
    ·rw [if_pos hz, List.append_nil, hfb]
    ·rw [if_neg hz, List.reverse_append]
     have : m - min m p.2 = 0 := by omega
     rw [this, Ze8, Ze8, hfb]
   rw [hm1]
   show ∃ n', n' < _ /\ _
   refine ⟨_, ?_, ((m - min m p.2 : Nat) : Int), _, _, pv2, rfl, ⟨by simp only [EV, Nat.reduceEqDiff, ↓reduceIte, he] <;> try rfl, by simp only [EV, Nat.reduceEqDiff, ↓reduceIte, he] <;> try rfl⟩, ?_, by omega, d1, ⟨fun q hq => ?_, fun f hf => ?_⟩, ?_, ?_, fun f hf => ?_, ?_, hB.trans (hX6.but.trans d2)⟩
   ·simp only [Int.toNat_natCast]
    omega
   ·rw [ZjA]
    rw [hsp] at hx
    by_cases hz : p.2 - min m p.2 = 0
    ·rw [if_pos hz]; simp [Zgr] at hx ⊢; omega
    ·omega
   ·rcases List.mem_append.1 hq with hq | hq
    ·exact hpi q hq
    ·split at hq
     ·cases hq
     ·rw [List.mem_singleton.1 hq]
      show 0 < p.2 - min m p.2
      omega
   ·obtain ⟨g, hg, rfl⟩ := List.mem_map.1 hf
    rw [ZhC, ZmA]
    have hgf := hwf.fit g hg
    rw [ZmA, ZjB] at hgf
    by_cases hgb : g.b = f0.b
    ·unfold Zeg
     rw [if_pos hgb]
     show _ <= (f0.d.take _).length
     rw [List.length_take]
     have : g = f0 := h.uniq hg hf0 hgb
     subst this
     rw [if_pos hfb.symm] at hgf
     split
     ·rw [ZmB]; omega
     ·rw [ZjB, if_pos hfb.symm]; dsimp only; omega
    ·unfold Zeg
     rw [if_neg hgb]
     rw [if_neg (fun e => hgb (by rw [<- e, hfb]))] at hgf
     split
     ·rw [ZmB]; omega
     ·rw [ZjB, if_neg (fun e => hgb (by rw [<- e, hfb]))]; exact hgf
   ·rw [List.length_append]
    simp at hl'
    split <;> simp <;> omega
   ·rw [ZjA]
    split
    ·rw [ZrY]; omega
    ·rw [ZwE]; dsimp only; omega
   ·obtain ⟨g, hg, rfl⟩ := List.mem_map.1 hf
    have := hfl g hg
    unfold Zeg
    split
    ·show (f0.d.take _).length <= _
     rw [List.length_take]
     have := hfl f0 hf0
     omega
    ·exact this
   ·rw [hdat, Int.toNat_natCast, <- hcr, <- hcr2]
  ·have hx0 : ¬ 0 < x := of_decide_eq_false ht
   refine Zia ?_
   refine ⟨rfl, by simp only [EV, Nat.reduceEqDiff, ↓reduceIte, he] <;> try rfl, fs', pcs', pv', h, ?_, hB⟩
   rw [<- hcr, show x.toNat = 0 by omega, Ze8]
 clear he e h hwf hfl
 rintro e υ ⟨he, fs', pcs', pv', h, hdat, hB⟩
 refine Zad ?_
 refine Zab (Zak rfl (by simp only [EV, Nat.reduceEqDiff, ↓reduceIte, he] <;> try rfl) ?_)
 refine Zab ?_
 refine Zau (v := ptr bb 0) (by simp only [EV, Nat.reduceEqDiff, ↓reduceIte, he] <;> try rfl) rfl ?_
 refine Zab ?_
 refine Zaf (b := bb) (o := 0) (by simp only [EV, Nat.reduceEqDiff, ↓reduceIte, he] <;> try rfl) Zcg rfl ?_
 refine Zab ?_
 refine Zaf (b := bb) (o := 0 + 0) (by simp only [EV, Nat.reduceEqDiff, ↓reduceIte, he] <;> try rfl) ZdF rfl ?_
 refine Zab ?_
 refine ZgQ (b := bb) (o := 0 + 0 + 0) (v := .lst none 0 0 []) (by simp only [EV, Nat.reduceEqDiff, ↓reduceIte, he] <;> try rfl) (by simp only [EV, Nat.reduceEqDiff, ↓reduceIte, he] <;> try rfl) h.obj ZdG ⟨rfl, rfl, rfl⟩ (Nat.zero_lt_succ _) fun τ hb k => ?_
 refine Zah ?_
 refine ⟨_, ZgA rfl, hK τ fs' ((h.setP (pcs' := []) (k.sub fun c hc => .inl hc) hb ⟨by simp [pcC], by simp [pcC], .inl ⟨.inl rfl, rfl⟩⟩ fun p hp => by cases hp).mono fun c hc => ?_) hdat (hB.trans (k.sub fun c hc => by rw [hc]; exact h.own.1))⟩
 rcases hc with hc | hc
 ·exact hc
 ·cases hc
end
end Go.Proofs.YteempnebenjkmaaDoor
