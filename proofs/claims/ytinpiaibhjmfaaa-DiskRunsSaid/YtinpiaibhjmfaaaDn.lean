/- A disk's functions, by hand: what is known, made, read; what waits. -/
import Derived.Test.YtinpiaibhjmfaaaBy
namespace Go.Proofs.Ytinpiaibhjmfaaa
open Go.RowKit
set_option maxRecDepth 100000
set_option linter.unusedVariables false
set_option linter.unusedSimpArgs false
section
variable {σ : St} {bb mb : Nat} {S : Nat -> Prop} {fs : List Fl} {pcs : List (Nat × Nat)} {size : Int} {pv : AV} {K : AV -> St -> Prop}
theorem ZdE (h : DAt σ bb S fs pcs size mb pv) (hK : K (vT true) σ) : Zat Try.prog 34 [ptr bb 0] σ K := by
 refine Zan Zas Try.func34 rfl rfl rfl (Nat.le_of_ble_eq_true rfl) ?_
 refine ZbN 0 (v0 := ptr bb 0) rfl ?_
 intro e he
 refine Zaa ?_
 refine Zab (Zag rfl (by simp only [EV,Nat.reduceEqDiff,↓reduceIte,he];try rfl) ?_)
 refine Zaf ?_
 apply ZbN 0
 ·simp only [EV,Nat.reduceEqDiff,↓reduceIte,he];try rfl
 clear he e
 intro e he
 refine Zaa ?_
 refine Zab (Zag rfl (by simp only [EV,Nat.reduceEqDiff,↓reduceIte,he];try rfl) ?_)
 refine Zab ?_
 refine Ze7 (p := some ⟨bb, 0, none⟩) Zo9 (by simp only [EV,Nat.reduceEqDiff,↓reduceIte,he];try rfl) rfl (by simp only [EV,Nat.reduceEqDiff,↓reduceIte,he];try rfl) ?_
 refine Zab (Zag rfl (by simp only [EV,Nat.reduceEqDiff,↓reduceIte,he];try rfl) ?_)
 refine Zab (Zai (Za6 rfl (by simp only [EV,Nat.reduceEqDiff,↓reduceIte,he];try rfl)) ?_)
 refine Zag rfl (by simp only [EV,Nat.reduceEqDiff,↓reduceIte,he];try rfl) ?_
 refine Zab (Zai (Za6 rfl (by simp only [EV,Nat.reduceEqDiff,↓reduceIte,he];try rfl)) ?_)
 refine Zak (v := ptr bb 0) (by simp only [EV,Nat.reduceEqDiff,↓reduceIte,he];try rfl) rfl ?_
 refine Zab (Zai (Za6 rfl (by simp only [EV,Nat.reduceEqDiff,↓reduceIte,he];try rfl)) ?_)
 refine Zae (b := bb) (o := 0) (by simp only [EV,Nat.reduceEqDiff,↓reduceIte,he];try rfl) Zbg rfl ?_
 refine Zab (Zai (Za6 rfl (by simp only [EV,Nat.reduceEqDiff,↓reduceIte,he];try rfl)) ?_)
 refine Zap (b := bb) (o := 0 + 1) (r := ZcJ mb) (by simp only [EV,Nat.reduceEqDiff,↓reduceIte,he];try rfl) h.obj ZcD ZcC rfl ?_
 refine Zab (Zai (Za6 rfl (by simp only [EV,Nat.reduceEqDiff,↓reduceIte,he];try rfl)) ?_)
 refine ZmE ZdD (by simp only [EV,Nat.reduceEqDiff,↓reduceIte,he];try rfl) (by simp only [EV,Nat.reduceEqDiff,↓reduceIte,he];try rfl) ?_
 refine Zab ?_
 refine ZaZ (v := vT true) (by simp only [EV,Nat.reduceEqDiff,↓reduceIte,he];try rfl) (by simp only [EV,Nat.reduceEqDiff,↓reduceIte,he];try rfl) ?_
 refine Zab (Zag rfl (by simp only [EV,Nat.reduceEqDiff,↓reduceIte,he];try rfl) ?_)
 refine Zaf ?_
 refine Zaw ?_
 show ∃ r, Zaj _ _ _ _ r /\ _
 exact ⟨_, Zal rfl (by simp only [EV,Nat.reduceEqDiff,↓reduceIte,he];try rfl), hK⟩
theorem Zlv {sz : Int} (hK : ∀ bb mb τ, DAt τ bb (fun b => b = bb \/ b = mb) [] [] sz mb (.lst none 0 0 []) -> Ext σ τ -> ZaT σ bb -> ZaT σ mb -> K (ptr bb 0) τ) : Zat Try.prog 9 [.raw (.int .i64 sz)] σ K := by
 refine Zan Zas Try.func9 rfl rfl rfl (Nat.le_of_ble_eq_true rfl) ?_
 refine ZbN 0 (v0 := .raw (.int .i64 sz)) rfl ?_
 intro e he
 refine Zaa ?_
 refine Zab (Zag rfl (by simp only [EV,Nat.reduceEqDiff,↓reduceIte,he];try rfl) ?_)
 refine Zaf ?_
 apply ZbN 0
 ·simp only [EV,Nat.reduceEqDiff,↓reduceIte,he];try rfl
 clear he e
 intro e he
 refine Zaa ?_
 refine Zab ?_
 refine ZgX (hm := ZdD) fun mb hu1 hn1 => ?_
 refine Zab (Zag rfl (by simp only [EV,Nat.reduceEqDiff,↓reduceIte,he];try rfl) ?_)
 refine Zab ?_
 refine ZdJ (vs := [ZcJ mb, .raw (.int .i64 sz)]) (cells := [.lst none 0 0 [], ZcJ mb, .raw (.int .i64 sz)]) (by simp only [List.map_cons, List.map_nil, EV,Nat.reduceEqDiff,↓reduceIte,he]; try rfl) ZnY ZnZ rfl ?_
 refine Zab ?_
 refine Zek (by simp only [EV,Nat.reduceEqDiff,↓reduceIte,he];try rfl) rfl fun bb τ hn2 hu2 hb2 hub2 hX2 => ?_
 refine Zab (Zag rfl (by simp only [EV,Nat.reduceEqDiff,↓reduceIte,he];try rfl) ?_)
 refine Zaf ?_
 refine Zaw ?_
 show ∃ r, Zaj _ _ _ _ r /\ _
 have hX1 : Ext σ (σ.put mb (.map [])) := Ext.put _ hn1
 have hmb : τ.blk mb = some (.map []) := hX2.keep _ _ (Za0 _ _ _)
 refine ⟨_, Zal rfl (by simp only [EV,Nat.reduceEqDiff,↓reduceIte,he];try rfl), hK bb mb τ ⟨hb2, hub2, hmb, hX2.used _ (.inr rfl), fun f hf => by simp at hf, .nil, .nil, fun f hf => by simp at hf, ⟨rfl, by simp [pcC], .inl ⟨.inl rfl, rfl⟩⟩, ⟨.inl rfl, .inr rfl, fun f hf => by simp at hf, fun x hx => by cases hx⟩, fun p hp => by simp at hp⟩ (hX1.trans hX2) (ZaT.of ⟨hn2, hu2⟩ hX1) ⟨hn1, hu1⟩⟩
set_option maxHeartbeats 1000000 in
theorem Zis (h : DAt σ bb S fs pcs size mb pv) (hs : Zcl pcs <= 1000000000) (hl : pcs.length <= 1000000000) (hK : ∀ τ, Ext σ τ -> K (.raw (.int .i64 (Zcl pcs : Int))) τ) : Zat Try.prog 42 [ptr bb 0] σ K := by
 have hps := h.pc
 refine Zan Zas Try.func42 rfl rfl rfl (Nat.le_of_ble_eq_true rfl) ?_
 refine ZbN 0 (v0 := ptr bb 0) rfl ?_
 intro e he
 refine Zaa ?_
 refine Zab (Zag rfl (by simp only [EV,Nat.reduceEqDiff,↓reduceIte,he];try rfl) ?_)
 refine Zaf ?_
 refine Zaa ?_
 refine Zab (Zag rfl (by simp only [EV,Nat.reduceEqDiff,↓reduceIte,he];try rfl) ?_)
 refine Zaf ?_
 apply ZaP 0 2 3
 iterate 3 ·simp only [EV,Nat.reduceEqDiff,↓reduceIte,he];try rfl
 clear he e
 intro e he
 refine ZaQ (fun env υ => env 3 = vI (Zcl pcs) /\ Ext σ υ) ?_ ?_
 ·repeat refine Zac ?_
  first|refine Zaa ?_|refine Zad ?_
  refine Zab (Zag rfl (by simp only [EV,Nat.reduceEqDiff,↓reduceIte,he];try rfl) ?_)
  refine Zab ?_
  refine Zak (v := ptr bb 0) (by simp only [EV,Nat.reduceEqDiff,↓reduceIte,he];try rfl) rfl ?_
  refine Zab ?_
  refine Zae (b := bb) (o := 0) (by simp only [EV,Nat.reduceEqDiff,↓reduceIte,he];try rfl) Zca rfl ?_
  refine Zab ?_
  refine Zap (b := bb) (o := 0) (r := pv) (by simp only [EV,Nat.reduceEqDiff,↓reduceIte,he];try rfl) h.obj Zc3 Zcb rfl ?_
  refine Zab ?_
  refine ZbC (by simp only [EV,Nat.reduceEqDiff,↓reduceIte,he];try rfl) hps rfl ZbG ?_
  refine Zab (Zag rfl (by simp only [EV,Nat.reduceEqDiff,↓reduceIte,he];try rfl) ?_)
  refine Zaf ?_
  apply ZaK 3 9 10 11
  iterate 4 ·simp only [EV,Nat.reduceEqDiff,↓reduceIte,he];try rfl
  clear he e
  intro e he
  refine ZaI ?_
  refine ZaN (fun μ env υ => ∃ i : Nat, μ = pcs.length - i /\ i <= pcs.length /\ (env 3 = vI (Zcl (pcs.take i)) /\ env 9 = pv /\ env 10 = vI pcs.length /\ env 11 = vI i) /\ Ext σ υ) ⟨_, 0, rfl, Nat.zero_le _, he, .refl _⟩ ?_
  clear he e
  rintro _ e υ ⟨i, rfl, hi, he, hX⟩
  refine Zaa ?_
  refine Zab ?_
  refine Zbm i pcs.length (by simp only [EV,Nat.reduceEqDiff,↓reduceIte,he];try rfl) (by simp only [EV,Nat.reduceEqDiff,↓reduceIte,he];try rfl) ?_
  refine Zaf ?_
  apply ZbZ 3 9 10 11 12
  iterate 5 ·simp only [EV,Nat.reduceEqDiff,↓reduceIte,he];try rfl
  clear he e
  intro e he
  refine Zav (t := decide (i < pcs.length)) (by simp only [EV,Nat.reduceEqDiff,↓reduceIte,he];try rfl) (fun ht => ?_) (fun ht => ?_)
  ·have hlt : i < pcs.length := of_decide_eq_true ht
   have hp := hps.ext hX
   have hcell : ((pcC pcs).drop (i * 2)).take 2 = [ptr pcs[i].1 0, .raw (.int .i64 (pcs[i].2 : Int))] := by
    have h1 : pcs = pcs.take i ++ (pcs[i] :: pcs.drop (i + 1)) := by
     rw [<- List.drop_eq_getElem_cons hlt, List.take_append_drop]
    conv => lhs; rw [h1]
    rw [Zfz, List.drop_append, Zi4, List.length_take, Nat.min_eq_left (by omega), Nat.sub_self, List.drop_zero, List.drop_eq_nil_of_le (by rw [Zi4, List.length_take]; omega)]
    rfl
   have hsum : Zcl (pcs.take (i + 1)) = Zcl (pcs.take i) + pcs[i].2 := by
    unfold Zcl
    rw [List.take_succ_eq_append_getElem hlt, List.map_append, List.sum_append]
    simp
   have hle : Zcl (pcs.take (i + 1)) <= Zcl pcs := by
    unfold Zcl
    conv => rhs; rw [<- List.take_append_drop (i + 1) pcs, List.map_append, List.sum_append]
    omega
   refine Zaz ?_
   refine ZaD ?_
   refine Zaa ?_
   refine Zab ?_
   refine Za3 (k := .i64) (j := i) (by simp only [EV,Nat.reduceEqDiff,↓reduceIte,he];try rfl) (by simp only [EV,Nat.reduceEqDiff,↓reduceIte,he];try rfl) ZbG Zbj hp hlt fun b hb => ?_
   refine Zab ?_
   refine Zi2 (by simp only [EV,Nat.reduceEqDiff,↓reduceIte,he];try rfl) hp hb hlt ZeX Zbj ?_
   rw [hcell]
   refine Zab ?_
   refine Zet Zdo rfl fun b5 υ5 hn5 hu5 hb5 hub5 hX5 => ?_
   refine Zab ?_
   refine ZdK (b := b5) (o := 0) (u := .agg [ptr pcs[i].1 0, .raw (.int .i64 (pcs[i].2 : Int))]) (cs' := [ptr pcs[i].1 0, .raw (.int .i64 (pcs[i].2 : Int))]) (by simp only [EV,Nat.reduceEqDiff,↓reduceIte,he];try rfl) (by simp only [EV,Nat.reduceEqDiff,↓reduceIte,he];try rfl) hb5 Zbj rfl rfl fun υ6 hb6 k6 => ?_
   refine Zaf ?_
   refine Zad ?_
   refine Zab (Zag rfl (by simp only [EV,Nat.reduceEqDiff,↓reduceIte,he];try rfl) ?_)
   refine Zab ?_
   refine Zae (b := b5) (o := 0) (by simp only [EV,Nat.reduceEqDiff,↓reduceIte,he];try rfl) Zdn rfl ?_
   refine Zab ?_
   refine Zap (b := b5) (o := 0 + 1) (r := .raw (.int .i64 (pcs[i].2 : Int))) (by simp only [EV,Nat.reduceEqDiff,↓reduceIte,he];try rfl) hb6 Zb6 ZbX rfl ?_
   refine Zab ?_
   refine ZaL (Zcl (pcs.take i)) (pcs[i].2) (by simp only [EV,Nat.reduceEqDiff,↓reduceIte,he];try rfl) (by simp only [EV,Nat.reduceEqDiff,↓reduceIte,he];try rfl) (by omega) ?_
   refine Zab (Zag rfl (by simp only [EV,Nat.reduceEqDiff,↓reduceIte,he];try rfl) ?_)
   refine Zaf ?_
   show Zay _ _ _ _ _ _
   refine Zad ?_
   refine Zab ?_
   refine ZaL i 1 (by simp only [EV,Nat.reduceEqDiff,↓reduceIte,he];try rfl) (by simp only [EV,Nat.reduceEqDiff,↓reduceIte,he];try rfl) (by omega) ?_
   refine Zab (Zag rfl (by simp only [EV,Nat.reduceEqDiff,↓reduceIte,he];try rfl) ?_)
   refine Zaf ?_
   show ∃ n', n' < _ /\ _
   refine ⟨_, (by omega : pcs.length - (i + 1) < pcs.length - i), i + 1, rfl, hlt, ⟨?_, by simp only [EV,Nat.reduceEqDiff,↓reduceIte,he];try rfl, by simp only [EV,Nat.reduceEqDiff,↓reduceIte,he];try rfl, by simp only [EV,Nat.reduceEqDiff,↓reduceIte,he];try rfl⟩, But.ext (hX.trans hX5) (fun g hg => by rw [hg]; exact hX.noneOf hn5) k6⟩
   rw [hsum]
   simp only [EV,Nat.reduceEqDiff,↓reduceIte,he];try rfl
  ·have hke : i = pcs.length := by have := of_decide_eq_false ht; omega
   subst hke
   rw [List.take_length] at he
   refine Zba ?_
   exact ⟨rfl, by simp only [EV,Nat.reduceEqDiff,↓reduceIte,he];try rfl, hX⟩
 clear he e
 rintro e υ ⟨he, hX⟩
 refine Zaa ?_
 refine Zab (Zag rfl (by simp only [EV,Nat.reduceEqDiff,↓reduceIte,he];try rfl) ?_)
 refine Zab (Zag rfl (by simp only [EV,Nat.reduceEqDiff,↓reduceIte,he];try rfl) ?_)
 refine Zaf ?_
 refine Zaw ?_
 show ∃ r, Zaj _ _ _ _ r /\ _
 exact ⟨_, Zal rfl (by simp only [EV,Nat.reduceEqDiff,↓reduceIte,he];try rfl), hK υ hX⟩
end
end Go.Proofs.Ytinpiaibhjmfaaa
