/- A disk's pieces: looked for, dropped. -/
import Derived.Test.YtinpiaibhjmfaaaDn
namespace Go.Proofs.Ytinpiaibhjmfaaa
open Go.RowKit
set_option maxRecDepth 100000
set_option linter.unusedVariables false
set_option linter.unusedSimpArgs false
theorem ZjY (l : List (Nat × Nat)) (k : Nat) : (pcC l).take (k * 2) = pcC (l.take k) := by
 induction k generalizing l with
 | zero => rfl
 | succ k ih =>
  cases l with
  | nil => simp [pcC]
  | cons p l =>
   have : (k + 1) * 2 = k * 2 + 1 + 1 := by omega
   rw [this]
   show ptr p.1 0 :: .raw (.int .i64 (p.2 : Int)) :: (pcC l).take (k * 2) = ptr p.1 0 :: .raw (.int .i64 (p.2 : Int)) :: pcC (l.take k)
   rw [ih]
theorem ZhA (l : List (Nat × Nat)) (k : Nat) : (pcC l).drop (k * 2) = pcC (l.drop k) := by
 induction k generalizing l with
 | zero => rfl
 | succ k ih =>
  cases l with
  | nil => simp [pcC]
  | cons p l =>
   have : (k + 1) * 2 = k * 2 + 1 + 1 := by omega
   rw [this]
   show (pcC l).drop (k * 2) = pcC (l.drop k)
   exact ih l
theorem ZhB {l : List (Nat × Nat)} {i : Nat} (h : i < l.length) : ((pcC l).drop (i * 2)).take 2 = [ptr l[i].1 0, .raw (.int .i64 (l[i].2 : Int))] := by
 rw [ZhA, List.drop_eq_getElem_cons h]
 rfl
theorem Zor {l : List (Nat × Nat)} {k : Nat} (p : Nat × Nat) (h : k < l.length) : ZaR (pcC l) (k * 2) [ptr p.1 0, .raw (.int .i64 (p.2 : Int))] = pcC (l.set k p) := by
 unfold ZaR
 rw [ZjY, List.length_cons, List.length_cons, List.length_nil, show k * 2 + (0 + 1 + 1) = (k + 1) * 2 by omega, ZhA, List.set_eq_take_append_cons_drop, if_pos h, ZfE]
 simp [pcC]
abbrev pcV (p : Nat × Nat) : AV := .agg [ptr p.1 0, .raw (.int .i64 (p.2 : Int))]
abbrev fnV (g : FuncId) (caps : Array Value) : AV := .raw (.func (.func g) #[] caps)
def ZnQ (g : FuncId) (caps : Array Value) (q : Nat × Nat -> Bool) (l : List (Nat × Nat)) (υ : St) : Prop := ∀ p ∈ l, ∀ K : AV -> St -> Prop, (∀ τ, Ext υ τ -> K (vT (q p)) τ) -> Zat Try.prog g ([pcV p] ++ caps.toList.map .raw) υ K
section
variable {σ : St} {pv : AV} {pcs : List (Nat × Nat)} {g : FuncId} {caps : Array Value} {q : Nat × Nat -> Bool} {K : AV -> St -> Prop}
theorem Zna (h : Hd σ 80 2 pv pcs.length (pcC pcs)) (hl : pcs.length <= 1000000000) (hq : ∀ υ, Ext σ υ -> ZnQ g caps q pcs υ) (hK1 : ∀ τ, Ext σ τ -> (∀ p ∈ pcs, q p = false) -> K (.raw (.int .i64 (-1))) τ) (hK2 : ∀ τ i (hi : i < pcs.length), Ext σ τ -> (∀ p ∈ pcs.take i, q p = false) -> q pcs[i] = true -> K (vI i) τ) : Zat Try.prog 78 [pv, fnV g caps] σ K := by
 refine Zam Zas Try.func78 rfl rfl rfl (Nat.le_of_ble_eq_true rfl) ?_
 refine ZaK 0 1 (v0 := pv) (v1 := fnV g caps) rfl rfl ?_
 intro e he
 repeat refine Zac ?_
 first|refine Zaa ?_|refine Zad ?_
 refine Zab (Zae rfl (by simp only [EV,Nat.reduceEqDiff,↓reduceIte,he];try rfl) ?_)
 refine Zaf ?_
 apply ZaK 0 1
 iterate 2 ·simp only [EV,Nat.reduceEqDiff,↓reduceIte,he];try rfl
 clear he e
 intro e he
 repeat refine Zac ?_
 first|refine Zaa ?_|refine Zad ?_
 refine Zab (Zae rfl he.1 ?_)
 refine Zab ?_
 refine ZbS rfl h rfl ZbW ?_
 refine Zab (Zae rfl (by simp only [EV,Nat.reduceEqDiff,↓reduceIte,he];try rfl) ?_)
 refine Zaf ?_
 apply ZaP 0 1 7 8
 iterate 4 ·simp only [EV,Nat.reduceEqDiff,↓reduceIte,he];try rfl
 clear he e
 intro e he
 refine ZaD ?_
 refine ZaV (fun μ env υ => ∃ i : Nat, μ = pcs.length - i /\ i <= pcs.length /\ (env 0 = pv /\ env 1 = fnV g caps /\ env 7 = vI pcs.length /\ env 8 = vI i) /\ Ext σ υ /\ ∀ p ∈ pcs.take i, q p = false) ⟨_, 0, rfl, Nat.zero_le _, he, .refl _, by simp⟩ ?_
 clear he e
 rintro _ e υ ⟨i, rfl, hi, he, hX, hpre⟩
 repeat refine Zac ?_
 first|refine Zaa ?_|refine Zad ?_
 refine Zab ?_
 refine Zbs i pcs.length he.2.2.2 he.2.2.1 ?_
 refine Zaf ?_
 apply Zb6 0 1 7 8 9
 iterate 5 ·simp only [EV,Nat.reduceEqDiff,↓reduceIte,he];try rfl
 clear he e
 intro e he
 refine Zav (t := decide (i < pcs.length)) he.2.2.2.2 (fun ht => ?_) (fun ht => ?_)
 ·have hlt : i < pcs.length := of_decide_eq_true ht
  refine Zaz ?_
  refine ZaD ?_
  repeat refine Zac ?_
  first|refine Zaa ?_|refine Zad ?_
  refine Zab (Zae rfl he.2.2.2.1 ?_)
  refine Zab (Zae rfl (by simp only [EV,Nat.reduceEqDiff,↓reduceIte,he];try rfl) ?_)
  refine Zaf ?_
  apply Zb6 0 1 5 7 8
  iterate 5 ·simp only [EV,Nat.reduceEqDiff,↓reduceIte,he];try rfl
  clear he e
  intro e he
  repeat refine Zac ?_
  first|refine Zaa ?_|refine Zad ?_
  refine Zab (Zae rfl he.2.1 ?_)
  refine Zab (Zae rfl he.1 ?_)
  refine Zab (Zae rfl he.2.2.1 ?_)
  refine Zab ?_
  refine Zbb (k := .i64) (j := i) rfl rfl ZbW Zbu (h.ext hX) hlt fun b hb => ?_
  refine Zab ?_
  refine Zjk rfl (h.ext hX) hb hlt Zfb Zbu ?_
  rw [ZhB hlt]
  refine Zab ?_
  refine ZlC (g := g) (caps := caps) (vs := [pcV pcs[i]]) rfl (by simp only [List.map_cons, List.map_nil, EV,Nat.reduceEqDiff,↓reduceIte,he];try rfl) ?_
  refine hq υ hX pcs[i] (List.getElem_mem hlt) _ fun τ hX2 => ?_
  refine Zaf ?_
  refine ZaS (t := q pcs[i]) rfl (fun hqi => ?_) (fun hqi => ?_)
  ·repeat refine Zac ?_
   first|refine Zaa ?_|refine Zad ?_
   refine Zab (Zae rfl he.2.2.1 ?_)
   refine Zab (Zae rfl (by simp only [EV,Nat.reduceEqDiff,↓reduceIte,he];try rfl) ?_)
   refine Zaf ?_
   refine Zax ?_
   show ∃ r, Zaj _ _ _ _ r /\ _
   exact ⟨_, Zal rfl rfl, hK2 τ i hlt (hX.trans hX2) hpre hqi⟩
  ·refine Zbq ?_
   show Zay _ _ _ _ _ _
   refine Zad ?_
   refine Zab ?_
   refine ZaU i 1 he.2.2.2.2 rfl (by omega) ?_
   refine Zab (Zae rfl (by simp only [EV,Nat.reduceEqDiff,↓reduceIte,he];try rfl) ?_)
   refine Zaf ?_
   show ∃ n', n' < _ /\ _
   refine ⟨_, (by omega : pcs.length - (i + 1) < pcs.length - i), i + 1, rfl, hlt, ⟨by simp only [EV,Nat.reduceEqDiff,↓reduceIte,he];try rfl, by simp only [EV,Nat.reduceEqDiff,↓reduceIte,he];try rfl, by simp only [EV,Nat.reduceEqDiff,↓reduceIte,he];try rfl, by simp only [EV,Nat.reduceEqDiff,↓reduceIte,he];try rfl⟩, hX.trans hX2, fun p hp => ?_⟩
   rw [List.take_succ_eq_append_getElem hlt] at hp
   rcases List.mem_append.1 hp with hp | hp
   ·exact hpre p hp
   ·rw [List.mem_singleton.1 hp]; exact hqi
 ·have hke : i = pcs.length := by have := of_decide_eq_false ht; omega
  subst hke
  rw [List.take_length] at hpre
  refine Zbe ?_
  show Zay _ _ _ _ _ _
  repeat refine Zac ?_
  first|refine Zaa ?_|refine Zad ?_
  refine Zab (Zae rfl (by simp only [EV,Nat.reduceEqDiff,↓reduceIte,he];try rfl) ?_)
  refine Zaf ?_
  refine Zax ?_
  show ∃ r, Zaj _ _ _ _ r /\ _
  exact ⟨_, Zal rfl rfl, hK1 υ hX hpre⟩
set_option maxHeartbeats 1000000 in
theorem ZiF (h : Hd σ 80 2 pv pcs.length (pcC pcs)) (hl : pcs.length <= 1000000000) (hq : ∀ υ, But (fun c => hbk pv = some c) σ υ -> ZnQ g caps q pcs υ)
 (hK : ∀ τ pv', Hd τ 80 2 pv' (pcs.filter fun p => !q p).length (pcC (pcs.filter fun p => !q p)) -> But (fun c => hbk pv = some c) σ τ -> (∀ c, hbk pv' = some c -> hbk pv = some c) -> K pv' τ) : Zat Try.prog 65 [pv, fnV g caps] σ K := by
 refine Zam Zas Try.func65 rfl rfl rfl (Nat.le_of_ble_eq_true rfl) ?_
 refine ZaK 0 1 (v0 := pv) (v1 := fnV g caps) rfl rfl ?_
 intro e he
 repeat refine Zac ?_
 first|refine Zaa ?_|refine Zad ?_
 refine Zab (Zae rfl (by simp only [EV,Nat.reduceEqDiff,↓reduceIte,he];try rfl) ?_)
 refine Zaf ?_
 apply ZaK 0 1
 iterate 2 ·simp only [EV,Nat.reduceEqDiff,↓reduceIte,he];try rfl
 clear he e
 intro e he
 repeat refine Zac ?_
 first|refine Zaa ?_|refine Zad ?_
 refine Zab (Zae rfl he.1 ?_)
 refine Zab (Zae rfl he.2 ?_)
 refine Zab ?_
 refine Zao (vs := [pv, fnV g caps]) (by simp only [List.map_cons, List.map_nil, EV,Nat.reduceEqDiff,↓reduceIte,he];try rfl) ?_
 refine Zna h hl (fun υ hX => hq υ hX.but) (fun τ hX hall => ?_) (fun τ i hi hX hpre hqi => ?_)
 ·refine Zab (Zae rfl (by simp only [EV,Nat.reduceEqDiff,↓reduceIte,he];try rfl) ?_)
  refine Zaf ?_
  apply ZaL 0 1 5
  iterate 3 ·simp only [EV,Nat.reduceEqDiff,↓reduceIte,he];try rfl
  clear he e
  intro e he
  repeat refine Zac ?_
  first|refine Zaa ?_|refine Zad ?_
  refine Zab (Zae rfl he.2.2 ?_)
  refine Zab ?_
  refine Zcn (k := .i64) (a := -1) (b := -1) rfl rfl ?_
  rw [decide_eq_true (rfl : (-1 : Int) = -1)]
  refine Zaf ?_
  refine Zav (t := true) rfl (fun _ => ?_) (fun hf => by cases hf)
  repeat refine Zac ?_
  first|refine Zaa ?_|refine Zad ?_
  refine Zab (Zae rfl he.1 ?_)
  refine Zab (Zae rfl (by simp only [EV,Nat.reduceEqDiff,↓reduceIte,he];try rfl) ?_)
  refine Zaf ?_
  refine Zcw ?_
  have hf : (pcs.filter fun p => !q p) = pcs := List.filter_eq_self.2 fun p hp => by rw [hall p hp]; rfl
  show ∃ r, Zaj _ _ _ _ r /\ _
  exact ⟨_, Zal rfl rfl, hK τ pv (by rw [hf]; exact h.ext hX) hX.but fun c hc => hc⟩
 ·refine Zab (Zae rfl (by simp only [EV,Nat.reduceEqDiff,↓reduceIte,he];try rfl) ?_)
  refine Zaf ?_
  apply ZaL 0 1 5
  iterate 3 ·simp only [EV,Nat.reduceEqDiff,↓reduceIte,he];try rfl
  clear he e
  intro e he
  repeat refine Zac ?_
  first|refine Zaa ?_|refine Zad ?_
  refine Zab (Zae rfl he.2.2 ?_)
  refine Zab ?_
  refine Zcn (k := .i64) (a := (i : Int)) (b := -1) rfl rfl ?_
  rw [decide_eq_false (by omega : ¬ (i : Int) = -1)]
  refine Zaf ?_
  apply ZaP 0 1 5 12
  iterate 4 ·simp only [EV,Nat.reduceEqDiff,↓reduceIte,he];try rfl
  clear he e
  intro e he
  refine Zav (t := false) he.2.2.2 (fun hf => by cases hf) (fun _ => ?_)
  refine Zaz ?_
  repeat refine Zac ?_
  first|refine Zaa ?_|refine Zad ?_
  refine Zab (Zae rfl he.2.2.1 ?_)
  refine Zab ?_
  refine ZaU i 1 rfl rfl (by omega) ?_
  refine Zab (Zae rfl (by simp only [EV,Nat.reduceEqDiff,↓reduceIte,he];try rfl) ?_)
  refine Zaf ?_
  apply ZaP 0 1 5 6
  iterate 4 ·simp only [EV,Nat.reduceEqDiff,↓reduceIte,he];try rfl
  clear he e
  intro e he
  obtain ⟨b, hb⟩ := h.some_ (by omega : 0 < pcs.length)
  refine ZaD ?_
  refine ZaV (fun μ env υ => ∃ (j k : Nat) (l : List (Nat × Nat)), μ = pcs.length - j /\ j <= pcs.length /\ (env 0 = pv /\ env 1 = fnV g caps /\ env 5 = vI k /\ env 6 = vI j) /\ k < j /\ l.length = pcs.length /\ l.take k = (pcs.take j).filter (fun p => !q p) /\ l.drop j = pcs.drop j /\ Hd υ 80 2 pv pcs.length (pcC l) /\ But (fun c => hbk pv = some c) σ υ) ⟨_, i + 1, i, pcs, rfl, hi, he, Nat.lt_succ_self _, rfl, ?_, rfl, h.ext hX, hX.but⟩ ?_
  ·rw [List.take_succ_eq_append_getElem hi, List.filter_append, List.filter_eq_self.2 fun p hp => by rw [hpre p hp]; rfl]
   simp [hqi]
  clear he e
  rintro _ e υ ⟨j, k, l, rfl, hj, he, hkj, hll, htk, hdp, hL, hB⟩
  repeat refine Zac ?_
  first|refine Zaa ?_|refine Zad ?_
  refine Zab (Zae rfl he.2.2.2 ?_)
  refine Zab (Zae rfl he.1 ?_)
  refine Zab ?_
  refine ZbS rfl hL rfl ZbW ?_
  refine Zab ?_
  refine Zbs j pcs.length rfl rfl ?_
  refine Zaf ?_
  apply Zb6 0 1 5 6 19
  iterate 5 ·simp only [EV,Nat.reduceEqDiff,↓reduceIte,he];try rfl
  clear he e
  intro e he
  refine Zav (t := decide (j < pcs.length)) he.2.2.2.2 (fun ht => ?_) (fun ht => ?_)
  ·have hlt : j < pcs.length := of_decide_eq_true ht
   have hlt2 : j < l.length := by omega
   have hlj : l[j] = pcs[j] := by
    have h1 := List.drop_eq_getElem_cons hlt2
    have h2 := List.drop_eq_getElem_cons hlt
    rw [h1, h2] at hdp
    injection hdp
   have hdq : l.drop (j + 1) = pcs.drop (j + 1) := by
    rw [<- List.drop_drop (i := 1) (j := j), <- List.drop_drop (i := 1) (j := j), hdp]
   refine Zaz ?_
   refine ZaZ (fun env υ => ∃ (k : Nat) (l : List (Nat × Nat)), (env 0 = pv /\ env 1 = fnV g caps /\ env 5 = vI k /\ env 6 = vI j) /\ k < j + 1 /\ l.length = pcs.length /\ l.take k = (pcs.take (j + 1)).filter (fun p => !q p) /\ l.drop (j + 1) = pcs.drop (j + 1) /\ Hd υ 80 2 pv pcs.length (pcC l) /\ But (fun c => hbk pv = some c) σ υ) ?_ ?_
   ·refine ZaT ?_
    repeat refine Zac ?_
    first|refine Zaa ?_|refine Zad ?_
    refine Zab (Zae rfl he.1 ?_)
    refine Zab (Zae rfl he.2.2.2.1 ?_)
    refine Zab ?_
    refine Zbb (k := .i64) (j := j) (by simp only [EV,Nat.reduceEqDiff,↓reduceIte,he];try rfl) (by simp only [EV,Nat.reduceEqDiff,↓reduceIte,he];try rfl) ZbW Zbu hL hlt fun b' hb' => ?_
    refine Zab ?_
    refine Zjk (by simp only [EV,Nat.reduceEqDiff,↓reduceIte,he];try rfl) hL hb' hlt Zfb Zbu ?_
    rw [ZhB hlt2, hlj]
    refine Zab ?_
    refine Zd0 ZdE rfl fun b7 υ7 hn7 hu7 hb7 hub7 hX7 => ?_
    refine Zab ?_
    refine Zd1 (b := b7) (o := 0) (u := pcV pcs[j]) (cs' := [ptr pcs[j].1 0, .raw (.int .i64 (pcs[j].2 : Int))]) (by simp only [EV,Nat.reduceEqDiff,↓reduceIte,he];try rfl) (by simp only [EV,Nat.reduceEqDiff,↓reduceIte,he];try rfl) hb7 Zbu rfl rfl fun υ8 hb8 k8 => ?_
    refine Zaf ?_
    have hX8 : Ext υ υ8 := But.ext hX7 (fun g hg => by rw [hg]; exact hn7) k8
    apply Zb6 0 1 5 6 7
    iterate 5 ·simp only [EV,Nat.reduceEqDiff,↓reduceIte,he];try rfl
    clear he e
    intro e he
    repeat refine Zac ?_
    first|refine Zaa ?_|refine Zad ?_
    refine Zab (Zae rfl he.2.1 ?_)
    refine Zab ?_
    refine Zar (b := b7) (o := 0) (r := pcV pcs[j]) he.2.2.2.2 hb8 Zfb Zbu rfl ?_
    refine Zab ?_
    refine ZlC (g := g) (caps := caps) (vs := [pcV pcs[j]]) rfl (by simp only [List.map_cons, List.map_nil, EV,Nat.reduceEqDiff,↓reduceIte,he];try rfl) ?_
    refine hq υ8 (hB.trans (hX8.but)) pcs[j] (List.getElem_mem hlt) _ fun τ hX9 => ?_
    refine Zab ?_
    with_reducible apply ZbB
    case hx => simp only [EV,Nat.reduceEqDiff,↓reduceIte,he];try rfl
    refine Zaf ?_
    apply ZdN 0 1 5 6 7 29
    iterate 6 ·simp only [EV,Nat.reduceEqDiff,↓reduceIte,he];try rfl
    clear he e
    intro e he
    have hL9 := (hL.ext hX8).ext hX9
    have hB9 : But (fun c => hbk pv = some c) σ τ := (hB.trans hX8.but).trans hX9.but
    refine ZaS (t := !q pcs[j]) he.2.2.2.2.2 (fun hqj => ?_) (fun hqj => ?_)
    ·repeat refine Zac ?_
     first|refine Zaa ?_|refine Zad ?_
     refine Zab (Zae rfl he.1 ?_)
     refine Zab (Zae rfl he.2.2.1 ?_)
     refine Zab ?_
     refine Zar (b := b7) (o := 0) (r := pcV pcs[j]) he.2.2.2.2.1 (hX9.keep _ _ hb8) Zfb Zbu rfl ?_
     refine Zab ?_
     refine Zbb (k := .i64) (j := k) rfl rfl ZbW Zbu hL9 (by omega) fun b' hb' => ?_
     refine Zab ?_
     refine ZjS (j := k) (r := pcV pcs[j]) rfl rfl Zbu hL9 hb' (by omega) ⟨rfl, rfl, fun a ha => ?_⟩ fun τ2 hL2 hB2 => ?_
     ·simp [pcV, AV.cells] at ha
      rcases ha with rfl | rfl <;> rfl
     refine Zaf ?_
     show Zay _ _ _ _ _ _
     refine Zad ?_
     refine Zab (Zae rfl he.2.2.1 ?_)
     refine Zab ?_
     refine ZaU k 1 rfl rfl (by omega) ?_
     refine Zab (Zae rfl (by simp only [EV,Nat.reduceEqDiff,↓reduceIte,he];try rfl) ?_)
     refine Zaf ?_
     have hset := Zor (l := l) pcs[j] (by omega : k < l.length)
     refine ⟨rfl, k + 1, l.set k pcs[j], ⟨by simp only [EV,Nat.reduceEqDiff,↓reduceIte,he];try rfl, by simp only [EV,Nat.reduceEqDiff,↓reduceIte,he];try rfl, by simp only [EV,Nat.reduceEqDiff,↓reduceIte,he];try rfl, by simp only [EV,Nat.reduceEqDiff,↓reduceIte,he];try rfl⟩, by omega, by rw [List.length_set]; exact hll, ?_, ?_, hset ▸ hL2, hB9.trans hB2⟩
     ·rw [List.take_succ_eq_append_getElem (by rw [List.length_set]; omega), List.take_set_of_le (Nat.le_refl _), List.getElem_set_self, htk, List.take_succ_eq_append_getElem hlt, List.filter_append]
      simp [hqj]
     ·rw [List.drop_set_of_lt (by omega)]
      exact hdq
    ·refine Zbq ?_
     refine ⟨rfl, k, l, ⟨by simp only [EV,Nat.reduceEqDiff,↓reduceIte,he];try rfl, by simp only [EV,Nat.reduceEqDiff,↓reduceIte,he];try rfl, by simp only [EV,Nat.reduceEqDiff,↓reduceIte,he];try rfl, by simp only [EV,Nat.reduceEqDiff,↓reduceIte,he];try rfl⟩, by omega, hll, ?_, hdq, hL9, hB9⟩
     rw [htk, List.take_succ_eq_append_getElem hlt, List.filter_append]
     simp [hqj]
   ·clear he e
    rintro e τ ⟨k', l', he, g1, g2, g3, g4, g5, g6⟩
    refine Zad ?_
    refine Zab (Zae rfl he.2.2.2 ?_)
    refine Zab ?_
    refine ZaU j 1 rfl rfl (by omega) ?_
    refine Zab (Zae rfl (by simp only [EV,Nat.reduceEqDiff,↓reduceIte,he];try rfl) ?_)
    refine Zaf ?_
    show ∃ n', n' < _ /\ _
    exact ⟨_, (by omega : pcs.length - (j + 1) < pcs.length - j), j + 1, k', l', rfl, hlt, ⟨by simp only [EV,Nat.reduceEqDiff,↓reduceIte,he];try rfl, by simp only [EV,Nat.reduceEqDiff,↓reduceIte,he];try rfl, by simp only [EV,Nat.reduceEqDiff,↓reduceIte,he];try rfl, by simp only [EV,Nat.reduceEqDiff,↓reduceIte,he];try rfl⟩, g1, g2, g3, g4, g5, g6⟩
  ·have hke : j = pcs.length := by have := of_decide_eq_false ht; omega
   subst hke
   rw [List.take_length] at htk
   have hkf : (pcs.filter fun p => !q p).length = k := by
    rw [<- htk, List.length_take]
    omega
   refine Zbe ?_
   show Zay _ _ _ _ _ _
   obtain ⟨c, all, hpv, q1, q2, q3, q4, q5, q6⟩ := hL.at_ hb
   have hc : 0 < c := by omega
   subst hpv
   repeat refine Zac ?_
   first|refine Zaa ?_|refine Zad ?_
   refine Zab (Zae rfl he.1 ?_)
   refine Zab (Zae rfl he.2.2.1 ?_)
   refine Zab ?_
   refine Zet (A := some ⟨b, 0, none⟩) (n := pcs.length) (c := c) (l := k) (u := pcs.length) (ix := [vI k]) rfl (by simp only [Option.toList, List.nil_append, List.append_nil, List.singleton_append, List.map_cons, List.map_nil, EV,Nat.reduceEqDiff,↓reduceIte,he];try rfl) ZbW Zbu (ZmM rfl) (by omega) q5 ?_
   refine Zab ?_
   refine Zm0 (sz := 2) (b := b) (n := pcs.length) (c := c) (lo := k) (Eq.trans (by simp only [EV,Nat.reduceEqDiff,↓reduceIte,he];try rfl) ?_) ZbW ZdE rfl (by omega) (fun i hi => ?_) hL hc (by omega) fun τ hL2 hB2 => ?_
   ·simp only [Option.map, Zcr, Nat.zero_add]
   ·match i, hi with
    | 0, _ => rfl
    | 1, _ => rfl
   refine Zaf ?_
   apply ZaK 0 5
   iterate 2 ·simp only [EV,Nat.reduceEqDiff,↓reduceIte,he];try rfl
   clear he e
   intro e he
   repeat refine Zac ?_
   first|refine Zaa ?_|refine Zad ?_
   refine Zab (Zae rfl he.1 ?_)
   refine Zab (Zae rfl he.2 ?_)
   refine Zab ?_
   refine Zet (A := some ⟨b, 0, none⟩) (n := pcs.length) (c := c) (l := 0) (u := k) (ix := [vI k]) rfl (by simp only [Option.toList, List.nil_append, List.append_nil, List.singleton_append, List.map_cons, List.map_nil, EV,Nat.reduceEqDiff,↓reduceIte,he];try rfl) ZbW Zbu (Zld rfl) (by omega) (by omega) ?_
   refine Zab (Zae rfl (by simp only [EV,Nat.reduceEqDiff,↓reduceIte,he];try rfl) ?_)
   refine Zaf ?_
   refine Zax ?_
   have hres : (AV.raw (.slice (if c = 0 then some (⟨b, 0, none⟩ : Addr) else (some (⟨b, 0, none⟩ : Addr)).map (·.add (0 * 2))) (k - 0) (c - 0))) = hdr b k c := by
    rw [if_neg (by omega), Nat.sub_zero, Nat.sub_zero]
    simp only [Option.map, Zcr, Nat.zero_mul, Nat.zero_add]
    rfl
   rw [hres]
   refine ⟨_, Zal rfl rfl, hK τ (hdr b k c) ?_ ?_ ?_⟩
   ·rw [ZjY, htk] at hL2
    rw [hkf]
    exact hL2
   ·exact hB.trans (hB2.sub fun g hg => by rw [hg]; exact hb)
   ·intro c' hc'
    rw [<- ZdB hc']
    exact hb
end
end Go.Proofs.Ytinpiaibhjmfaaa
