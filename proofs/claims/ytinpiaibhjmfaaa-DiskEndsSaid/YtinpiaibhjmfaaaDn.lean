/- A disk's functions, by hand: what is known, made, read; what waits. -/
import Derived.Test.YtinpiaibhjmfaaaBy
namespace Go.Proofs.Ytinpiaibhjmfaaa
open Go.RowKit
set_option maxRecDepth 100000
set_option linter.unusedVariables false
set_option linter.unusedSimpArgs false
section
variable {σ : St} {bb mb : Nat} {S : Nat -> Prop} {fs : List Fl} {pcs : List (Nat × Nat)} {size : Int} {pv : AV} {K : AV -> St -> Prop}
theorem ZdU (h : DAt σ bb S fs pcs size mb pv) (hK : K (vT true) σ) : Zat Try.prog 34 [ptr bb 0] σ K := by
 refine Zam Zas Try.func34 rfl rfl rfl (Nat.le_of_ble_eq_true rfl) ?_
 refine Zbz 0 (v0 := ptr bb 0) rfl ?_
 intro e he
 refine Zaa ?_
 refine Zab (Zae rfl (by simp only [EV,Nat.reduceEqDiff,↓reduceIte,he];try rfl) ?_)
 refine Zaf ?_
 apply Zbz 0
 ·simp only [EV,Nat.reduceEqDiff,↓reduceIte,he];try rfl
 clear he e
 intro e he
 refine Zaa ?_
 refine Zab (Zae rfl he ?_)
 refine Zab ?_
 refine Zer (p := some ⟨bb, 0, none⟩) Zis rfl rfl rfl ?_
 refine Zab (Zae rfl (by simp only [EV,Nat.reduceEqDiff,↓reduceIte,he];try rfl) ?_)
 refine Zab (Zah (ZaN rfl (by simp only [EV,Nat.reduceEqDiff,↓reduceIte,he];try rfl)) ?_)
 refine Zae rfl he ?_
 refine Zab (Zah (ZaN rfl (by simp only [EV,Nat.reduceEqDiff,↓reduceIte,he];try rfl)) ?_)
 refine Zak (v := ptr bb 0) rfl rfl ?_
 refine Zab (Zah (ZaN rfl (by simp only [EV,Nat.reduceEqDiff,↓reduceIte,he];try rfl)) ?_)
 refine Zag (b := bb) (o := 0) rfl Zbn rfl ?_
 refine Zab (Zah (ZaN rfl (by simp only [EV,Nat.reduceEqDiff,↓reduceIte,he];try rfl)) ?_)
 refine Zar (b := bb) (o := 0 + 1) (r := Zc2 mb) rfl h.obj ZcH ZcG rfl ?_
 refine Zab (Zah (ZaN rfl (by simp only [EV,Nat.reduceEqDiff,↓reduceIte,he];try rfl)) ?_)
 refine ZmZ ZdF rfl rfl ?_
 refine Zab ?_
 refine ZaG (v := vT true) rfl rfl ?_
 refine Zab (Zae rfl (by simp only [EV,Nat.reduceEqDiff,↓reduceIte,he];try rfl) ?_)
 refine Zaf ?_
 refine Zax ?_
 show ∃ r, Zaj _ _ _ _ r /\ _
 exact ⟨_, Zal rfl rfl, hK⟩
theorem ZlP {sz : Int} (hK : ∀ bb mb τ, DAt τ bb (fun b => b = bb \/ b = mb) [] [] sz mb (.lst none 0 0 []) -> Ext σ τ -> Za0 σ bb -> Za0 σ mb -> K (ptr bb 0) τ) : Zat Try.prog 9 [.raw (.int .i64 sz)] σ K := by
 refine Zam Zas Try.func9 rfl rfl rfl (Nat.le_of_ble_eq_true rfl) ?_
 refine Zbz 0 (v0 := .raw (.int .i64 sz)) rfl ?_
 intro e he
 refine Zaa ?_
 refine Zab (Zae rfl (by simp only [EV,Nat.reduceEqDiff,↓reduceIte,he];try rfl) ?_)
 refine Zaf ?_
 apply Zbz 0
 ·simp only [EV,Nat.reduceEqDiff,↓reduceIte,he];try rfl
 clear he e
 intro e he
 refine Zaa ?_
 refine Zab ?_
 refine Zg7 (hm := ZdF) fun mb hu1 hn1 => ?_
 refine Zab (Zae rfl he ?_)
 refine Zab ?_
 refine Za4 (vs := [Zc2 mb, .raw (.int .i64 sz)]) (cells := [.lst none 0 0 [], Zc2 mb, .raw (.int .i64 sz)]) (by simp only [List.map_cons, List.map_nil, EV,Nat.reduceEqDiff,↓reduceIte,he]; try rfl) Zlv Zoj rfl ?_
 refine Zab ?_
 refine Zdq rfl rfl fun bb τ hn2 hu2 hb2 hub2 hX2 => ?_
 refine Zab (Zae rfl (by simp only [EV,Nat.reduceEqDiff,↓reduceIte,he];try rfl) ?_)
 refine Zaf ?_
 refine Zax ?_
 show ∃ r, Zaj _ _ _ _ r /\ _
 have hX1 : Ext σ (σ.put mb (.map [])) := Ext.put _ hn1
 have hmb : τ.blk mb = some (.map []) := hX2.keep _ _ (Za7 _ _ _)
 refine ⟨_, Zal rfl rfl, hK bb mb τ ⟨hb2, hub2, hmb, hX2.used _ (.inr rfl), fun f hf => by simp at hf, .nil, .nil, fun f hf => by simp at hf, ⟨rfl, by simp [pcC], .inl ⟨.inl rfl, rfl⟩⟩, ⟨.inl rfl, .inr rfl, fun f hf => by simp at hf, fun x hx => by cases hx⟩, fun p hp => by simp at hp⟩ (hX1.trans hX2) (Za0.of ⟨hn2, hu2⟩ hX1) ⟨hn1, hu1⟩⟩
set_option maxHeartbeats 1000000 in
theorem ZiE (h : DAt σ bb S fs pcs size mb pv) (hs : Zcy pcs <= 1000000000) (hl : pcs.length <= 1000000000) (hK : ∀ τ, Ext σ τ -> K (.raw (.int .i64 (Zcy pcs : Int))) τ) : Zat Try.prog 42 [ptr bb 0] σ K := by
 have hps := h.pc
 refine Zam Zas Try.func42 rfl rfl rfl (Nat.le_of_ble_eq_true rfl) ?_
 refine Zbz 0 (v0 := ptr bb 0) rfl ?_
 intro e he
 refine Zaa ?_
 refine Zab (Zae rfl (by simp only [EV,Nat.reduceEqDiff,↓reduceIte,he];try rfl) ?_)
 refine Zaf ?_
 refine Zaa ?_
 refine Zab (Zae rfl (by simp only [EV,Nat.reduceEqDiff,↓reduceIte,he];try rfl) ?_)
 refine Zaf ?_
 apply ZaL 0 2 3
 iterate 3 ·simp only [EV,Nat.reduceEqDiff,↓reduceIte,he];try rfl
 clear he e
 intro e he
 refine ZaZ (fun env υ => env 3 = vI (Zcy pcs) /\ Ext σ υ) ?_ ?_
 ·repeat refine Zac ?_
  first|refine Zaa ?_|refine Zad ?_
  refine Zab (Zae rfl he.1 ?_)
  refine Zab ?_
  refine Zak (v := ptr bb 0) rfl rfl ?_
  refine Zab ?_
  refine Zag (b := bb) (o := 0) rfl Zco rfl ?_
  refine Zab ?_
  refine Zar (b := bb) (o := 0) (r := pv) rfl h.obj Zdi Zcp rfl ?_
  refine Zab ?_
  refine ZbS rfl hps rfl ZbW ?_
  refine Zab (Zae rfl (by simp only [EV,Nat.reduceEqDiff,↓reduceIte,he];try rfl) ?_)
  refine Zaf ?_
  apply ZaP 3 9 10 11
  iterate 4 ·simp only [EV,Nat.reduceEqDiff,↓reduceIte,he];try rfl
  clear he e
  intro e he
  refine ZaT ?_
  refine ZaV (fun μ env υ => ∃ i : Nat, μ = pcs.length - i /\ i <= pcs.length /\ (env 3 = vI (Zcy (pcs.take i)) /\ env 9 = pv /\ env 10 = vI pcs.length /\ env 11 = vI i) /\ Ext σ υ) ⟨_, 0, rfl, Nat.zero_le _, he, .refl _⟩ ?_
  clear he e
  rintro _ e υ ⟨i, rfl, hi, he, hX⟩
  refine Zaa ?_
  refine Zab ?_
  refine Zbs i pcs.length he.2.2.2 he.2.2.1 ?_
  refine Zaf ?_
  apply Zb6 3 9 10 11 12
  iterate 5 ·simp only [EV,Nat.reduceEqDiff,↓reduceIte,he];try rfl
  clear he e
  intro e he
  refine Zav (t := decide (i < pcs.length)) he.2.2.2.2 (fun ht => ?_) (fun ht => ?_)
  ·have hlt : i < pcs.length := of_decide_eq_true ht
   have hp := hps.ext hX
   have hcell : ((pcC pcs).drop (i * 2)).take 2 = [ptr pcs[i].1 0, .raw (.int .i64 (pcs[i].2 : Int))] := by
    have h1 : pcs = pcs.take i ++ (pcs[i] :: pcs.drop (i + 1)) := by
     rw [<- List.drop_eq_getElem_cons hlt, List.take_append_drop]
    conv => lhs; rw [h1]
    rw [ZfE, List.drop_append, Zjm, List.length_take, Nat.min_eq_left (by omega), Nat.sub_self, List.drop_zero, List.drop_eq_nil_of_le (by rw [Zjm, List.length_take]; omega)]
    rfl
   have hsum : Zcy (pcs.take (i + 1)) = Zcy (pcs.take i) + pcs[i].2 := by
    unfold Zcy
    rw [List.take_succ_eq_append_getElem hlt, List.map_append, List.sum_append]
    simp
   have hle : Zcy (pcs.take (i + 1)) <= Zcy pcs := by
    unfold Zcy
    conv => rhs; rw [<- List.take_append_drop (i + 1) pcs, List.map_append, List.sum_append]
    omega
   refine Zaz ?_
   refine ZaD ?_
   refine Zaa ?_
   refine Zab ?_
   refine Zbb (k := .i64) (j := i) he.2.1 he.2.2.2.1 ZbW Zbu hp hlt fun b hb => ?_
   refine Zab ?_
   refine Zjk rfl hp hb hlt Zfb Zbu ?_
   rw [hcell]
   refine Zab ?_
   refine Zd0 ZdE rfl fun b5 υ5 hn5 hu5 hb5 hub5 hX5 => ?_
   refine Zab ?_
   refine Zd1 (b := b5) (o := 0) (u := .agg [ptr pcs[i].1 0, .raw (.int .i64 (pcs[i].2 : Int))]) (cs' := [ptr pcs[i].1 0, .raw (.int .i64 (pcs[i].2 : Int))]) rfl rfl hb5 Zbu rfl rfl fun υ6 hb6 k6 => ?_
   refine Zaf ?_
   refine Zad ?_
   refine Zab (Zae rfl he.1 ?_)
   refine Zab ?_
   refine Zag (b := b5) (o := 0) rfl ZdD rfl ?_
   refine Zab ?_
   refine Zar (b := b5) (o := 0 + 1) (r := .raw (.int .i64 (pcs[i].2 : Int))) rfl hb6 Zck Zcc rfl ?_
   refine Zab ?_
   refine ZaU (Zcy (pcs.take i)) (pcs[i].2) rfl rfl (by omega) ?_
   refine Zab (Zae rfl (by simp only [EV,Nat.reduceEqDiff,↓reduceIte,he];try rfl) ?_)
   refine Zaf ?_
   show Zay _ _ _ _ _ _
   refine Zad ?_
   refine Zab ?_
   refine ZaU i 1 he.2.2.2.1 rfl (by omega) ?_
   refine Zab (Zae rfl (by simp only [EV,Nat.reduceEqDiff,↓reduceIte,he];try rfl) ?_)
   refine Zaf ?_
   show ∃ n', n' < _ /\ _
   refine ⟨_, (by omega : pcs.length - (i + 1) < pcs.length - i), i + 1, rfl, hlt, ⟨?_, by simp only [EV,Nat.reduceEqDiff,↓reduceIte,he];try rfl, by simp only [EV,Nat.reduceEqDiff,↓reduceIte,he];try rfl, by simp only [EV,Nat.reduceEqDiff,↓reduceIte,he];try rfl⟩, But.ext (hX.trans hX5) (fun g hg => by rw [hg]; exact hX.noneOf hn5) k6⟩
   rw [hsum]
   simp only [EV,Nat.reduceEqDiff,↓reduceIte,he];try rfl
  ·have hke : i = pcs.length := by have := of_decide_eq_false ht; omega
   subst hke
   rw [List.take_length] at he
   refine Zbe ?_
   exact ⟨rfl, by simp only [EV,Nat.reduceEqDiff,↓reduceIte,he];try rfl, hX⟩
 clear he e
 rintro e υ ⟨he, hX⟩
 refine Zaa ?_
 refine Zab (Zae rfl he ?_)
 refine Zab (Zae rfl (by simp only [EV,Nat.reduceEqDiff,↓reduceIte,he];try rfl) ?_)
 refine Zaf ?_
 refine Zax ?_
 show ∃ r, Zaj _ _ _ _ r /\ _
 exact ⟨_, Zal rfl rfl, hK υ hX⟩
end
end Go.Proofs.Ytinpiaibhjmfaaa
