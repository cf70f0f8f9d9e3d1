/- XDn, XDp, XDo, XDq, XJn, XJa, XIa, XJt in one. -/
import Derived.Test.YtiienjjhlibopaaGreatDoorFacts
import Derived.Test.YtiienjjhlibopaaGreatDoorMac
import Derived.Test.YtiienjjhlibopaaGreatDoorMab
import Derived.Laws.BitsAllLaws
namespace Go.Proofs.YtiienjjhlibopaaGreatDoor
open Go.RowKit
set_option maxRecDepth 100000
set_option linter.unusedVariables false
set_option linter.unusedSimpArgs false
section
variable {σ : St} {bb mb : Nat} {S : Nat -> Prop} {fs : List Fl} {pcs : List (Nat × Nat)} {size : Int} {pv : AV} {K : AV -> St -> Prop}
theorem Zih (h : DAt σ bb S fs pcs size mb pv) (hK : K (vT true) σ) : Zan Tryz.prog 87 [ptr bb 0] σ K := by
 refine Zai Zam Tryz.func87 rfl rfl rfl (Nat.le_of_ble_eq_true rfl) ?_
 refine Zbf 0 (v0 := ptr bb 0) rfl ?_
 intro e he
 refine Zaa (Zag ?_)
 refine Zaf (kp1 0 fun e he => ?_)
 refine Zaa (Zag ?_)
 refine Zac (Zfn (p := some ⟨bb, 0, none⟩) fa2 rfl rfl rfl ?_)
 refine Zag ?_
 refine Zau ?_
 refine Zcb rfl he ?_
 refine Zau ?_
 refine Zav (v := ptr bb 0) rfl rfl ?_
 refine Zau ?_
 refine Zae (b := bb) (o := 0) rfl ZdY rfl ?_
 refine Zau ?_
 refine Zah (b := bb) (o := 0 + 1) (r := Zef mb) rfl h.obj ZfU ZfS rfl ?_
 refine Zau ?_
 refine ZnW ZgY rfl rfl ?_
 refine Zac (Zaj (v := vT true) rfl rfl ?_)
 refine Zag ?_
 refine Zaf (Zap ?_)
 show ∃ r, ZaM _ _ _ _ r /\ _
 exact ⟨_, Ze1 rfl rfl, hK⟩
theorem Zrs {sz : Int} (hK : ∀ bb mb τ, DAt τ bb (fun b => b = bb \/ b = mb) [] [] sz mb (.lst none 0 0 []) -> Ext σ τ -> Za9 σ bb -> Za9 σ mb -> K (ptr bb 0) τ) : Zan Tryz.prog 35 [.raw (.int .i64 sz)] σ K := by
 refine Zai Zam Tryz.func35 rfl rfl rfl (Nat.le_of_ble_eq_true rfl) ?_
 refine Zbf 0 (v0 := .raw (.int .i64 sz)) rfl ?_
 intro e he
 refine Zaa (Zag ?_)
 refine Zaf (kp1 0 fun e he => ?_)
 refine Zaa (Zac (ZhJ (hm := ZgY) fun mb hu1 hn1 => ?_))
 refine Zag ?_
 refine Zac (Zbj (vs := [Zef mb, .raw (.int .i64 sz)]) (cells := [.lst none 0 0 [], Zef mb, .raw (.int .i64 sz)]) (by simp only [List.map_cons, List.map_nil, EV,Nat.reduceEqDiff,↓reduceIte,he]; try rfl) ZpI ZpK rfl ?_)
 refine Zac (Zbn rfl rfl fun bb τ hn2 hu2 hb2 hub2 hX2 => ?_)
 refine Zag ?_
 refine Zaf (Zap ?_)
 show ∃ r, ZaM _ _ _ _ r /\ _
 have hX1 : Ext σ (σ.put mb (.map [])) := Ext.put _ hn1
 have hmb : τ.blk mb = some (.map []) := hX2.keep _ _ (Zbo _ _ _)
 refine ⟨_, Ze1 rfl rfl, hK bb mb τ ⟨hb2, hub2, hmb, hX2.used _ (.inr rfl), fun f hf => by simp at hf, .nil, .nil, fun f hf => by simp at hf, ⟨rfl, by simp [pcC], .inl ⟨.inl rfl, rfl⟩⟩, ⟨.inl rfl, .inr rfl, fun f hf => by simp at hf, fun x hx => by cases hx⟩, fun p hp => by simp at hp⟩ (hX1.trans hX2) (Za9.of ⟨hn2, hu2⟩ hX1) ⟨hn1, hu1⟩⟩
set_option maxHeartbeats 1000000 in
end
theorem Zkx (l : List (Nat × Nat)) (k : Nat) : (pcC l).take (k * 2) = pcC (l.take k) := by
 induction k generalizing l with
 | zero => rfl
 | succ k ih =>
  cases l with
  | nil => simp [pcC]
  | cons p l =>
   have : (k + 1) * 2 = k * 2 + 1 + 1 := by omega
   rw [this]
   show ptr p.1 0 :: .raw (.int .i64 (p.2 : Int)) :: (pcC l).take (k * 2) = ptr p.1 0 :: .raw (.int .i64 (p.2 : Int)) :: pcC (l.take k)
   rw [ih]
theorem Zii (l : List (Nat × Nat)) (k : Nat) : (pcC l).drop (k * 2) = pcC (l.drop k) := by
 induction k generalizing l with
 | zero => rfl
 | succ k ih =>
  cases l with
  | nil => simp [pcC]
  | cons p l =>
   have : (k + 1) * 2 = k * 2 + 1 + 1 := by omega
   rw [this]
   show (pcC l).drop (k * 2) = pcC (l.drop k)
   exact ih l
theorem Zmz {l : List (Nat × Nat)} {i : Nat} (h : i < l.length) : ((pcC l).drop (i * 2)).take 2 = [ptr l[i].1 0, .raw (.int .i64 (l[i].2 : Int))] := by
 rw [Zii, List.drop_eq_getElem_cons h]
 rfl
theorem ZpX {l : List (Nat × Nat)} {k : Nat} (p : Nat × Nat) (h : k < l.length) : ZaR (pcC l) (k * 2) [ptr p.1 0, .raw (.int .i64 (p.2 : Int))] = pcC (l.set k p) := by
 unfold ZaR
 rw [Zkx, List.length_cons, List.length_cons, List.length_nil, show k * 2 + (0 + 1 + 1) = (k + 1) * 2 by omega, Zii, List.set_eq_take_append_cons_drop, if_pos h, Zid]
 simp [pcC]
abbrev pcV (p : Nat × Nat) : AV := .agg [ptr p.1 0, .raw (.int .i64 (p.2 : Int))]
abbrev fnV (g : FuncId) (caps : Array Value) : AV := .raw (.func (.func g) #[] caps)
def Zpc (g : FuncId) (caps : Array Value) (q : Nat × Nat -> Bool) (l : List (Nat × Nat)) (υ : St) : Prop := ∀ p ∈ l, ∀ K : AV -> St -> Prop, (∀ τ, Ext υ τ -> K (vT (q p)) τ) -> Zan Tryz.prog g ([pcV p] ++ caps.toList.map .raw) υ K
section
variable {σ : St} {pv : AV} {pcs : List (Nat × Nat)} {g : FuncId} {caps : Array Value} {q : Nat × Nat -> Bool} {K : AV -> St -> Prop}
theorem Zn6 (h : Hd σ 145 2 pv pcs.length (pcC pcs)) (hl : pcs.length <= 1000000000) (hq : ∀ υ, Ext σ υ -> Zpc g caps q pcs υ) (hK1 : ∀ τ, Ext σ τ -> (∀ p ∈ pcs, q p = false) -> K (.raw (.int .i64 (-1))) τ) (hK2 : ∀ τ i (hi : i < pcs.length), Ext σ τ -> (∀ p ∈ pcs.take i, q p = false) -> q pcs[i] = true -> K (vI i) τ) : Zan Tryz.prog 165 [pv, fnV g caps] σ K := by
 refine Zai Zam Tryz.func165 rfl rfl rfl (Nat.le_of_ble_eq_true rfl) ?_
 refine ZbL 0 1 (v0 := pv) (v1 := fnV g caps) rfl rfl ?_
 intro e he
 repeat refine Zab ?_
 first|refine Zaa ?_|refine Zad ?_
 refine Zag ?_
 refine Zaf (kp2 0 1 fun e he => ?_)
 repeat refine Zab ?_
 first|refine Zaa ?_|refine Zad ?_
 refine Zag ?_
 refine Zac (ZeV rfl h rfl Zck ?_)
 refine Zag ?_
 refine Zaf (kp4 0 1 7 8 fun e he => ?_)
 refine ZaF (Za4 (fun μ env υ => ∃ i : Nat, μ = pcs.length - i /\ i <= pcs.length /\ (env 0 = pv /\ env 1 = fnV g caps /\ env 7 = vI pcs.length /\ env 8 = vI i) /\ Ext σ υ /\ ∀ p ∈ pcs.take i, q p = false) ⟨_, 0, rfl, Nat.zero_le _, he, .refl _, by simp⟩ ?_)
 clear he e
 rintro _ e υ ⟨i, rfl, hi, he, hX, hpre⟩
 repeat refine Zab ?_
 first|refine Zaa ?_|refine Zad ?_
 refine Zcf i pcs.length ?_
 refine Zaf (kp5 0 1 7 8 9 fun e he => ?_)
 refine ZaC (t := decide (i < pcs.length)) he.2.2.2.2 (fun ht => ?_) (fun ht => ?_)
 ·have hlt : i < pcs.length := of_decide_eq_true ht
  refine ZaL (ZaF ?_)
  repeat refine Zab ?_
  first|refine Zaa ?_|refine Zad ?_
  refine Zag ?_
  refine Zag ?_
  refine Zaf (kp5 0 1 5 7 8 fun e he => ?_)
  repeat refine Zab ?_
  first|refine Zaa ?_|refine Zad ?_
  refine Zag ?_
  refine Zag ?_
  refine Zag ?_
  refine Zac (Zb0 (k := .i64) (j := i) rfl rfl Zck Zb7 (h.ext hX) hlt fun b hb => ?_)
  refine Zac (Zrj rfl (h.ext hX) hb hlt Zib Zb7 ?_)
  rw [Zmz hlt]
  refine Zac (ZjK (g := g) (caps := caps) (vs := [pcV pcs[i]]) rfl (by simp only [List.map_cons, List.map_nil, EV,Nat.reduceEqDiff,↓reduceIte,he];try rfl) ?_)
  refine hq υ hX pcs[i] (List.getElem_mem hlt) _ fun τ hX2 => ?_
  refine Zaf ?_
  refine ZaQ (t := q pcs[i]) rfl (fun hqi => ?_) (fun hqi => ?_)
  ·repeat refine Zab ?_
   first|refine Zaa ?_|refine Zad ?_
   refine Zag ?_
   refine Zag ?_
   refine Zaf (Zap ?_)
   exact ZaD (hK2 τ i hlt (hX.trans hX2) hpre hqi)
  ·refine Zbm ?_
   show ZaA _ _ _ _ _ _
   refine Zad (Zby i 1 ?_)
   refine Zag ?_
   refine Zaf ?_
   show ∃ n', n' < _ /\ _
   refine ⟨_, (by omega : pcs.length - (i + 1) < pcs.length - i), i + 1, rfl, hlt, ⟨by simp only [EV,Nat.reduceEqDiff,↓reduceIte,he];try rfl, by simp only [EV,Nat.reduceEqDiff,↓reduceIte,he];try rfl, by simp only [EV,Nat.reduceEqDiff,↓reduceIte,he];try rfl, by simp only [EV,Nat.reduceEqDiff,↓reduceIte,he];try rfl⟩, hX.trans hX2, fun p hp => ?_⟩
   rw [List.take_succ_eq_append_getElem hlt] at hp
   rcases List.mem_append.1 hp with hp | hp
   ·exact hpre p hp
   ·rw [List.mem_singleton.1 hp]; exact hqi
 ·have hke : i = pcs.length := by have := of_decide_eq_false ht; omega
  subst hke
  rw [List.take_length] at hpre
  refine Zbu ?_
  show ZaA _ _ _ _ _ _
  repeat refine Zab ?_
  first|refine Zaa ?_|refine Zad ?_
  refine Zag ?_
  refine Zaf (Zap ?_)
  exact ZaD (hK1 υ hX hpre)
set_option maxHeartbeats 1000000 in
theorem ZmA (h : Hd σ 145 2 pv pcs.length (pcC pcs)) (hl : pcs.length <= 1000000000) (hq : ∀ υ, But (fun c => hbk pv = some c) σ υ -> Zpc g caps q pcs υ)
 (hK : ∀ τ pv', Hd τ 145 2 pv' (pcs.filter fun p => !q p).length (pcC (pcs.filter fun p => !q p)) -> But (fun c => hbk pv = some c) σ τ -> (∀ c, hbk pv' = some c -> hbk pv = some c) -> K pv' τ) : Zan Tryz.prog 132 [pv, fnV g caps] σ K := by
 refine Zai Zam Tryz.func132 rfl rfl rfl (Nat.le_of_ble_eq_true rfl) ?_
 refine ZbL 0 1 (v0 := pv) (v1 := fnV g caps) rfl rfl ?_
 intro e he
 repeat refine Zab ?_
 first|refine Zaa ?_|refine Zad ?_
 refine Zag ?_
 refine Zaf (kp2 0 1 fun e he => ?_)
 repeat refine Zab ?_
 first|refine Zaa ?_|refine Zad ?_
 refine Zag ?_
 refine Zag ?_
 refine Zao [pv, fnV g caps] ?_
 refine Zn6 h hl (fun υ hX => hq υ hX.but) (fun τ hX hall => ?_) (fun τ i hi hX hpre hqi => ?_)
 ·refine Zag ?_
  refine Zaf (kp3 0 1 5 fun e he => ?_)
  repeat refine Zab ?_
  first|refine Zaa ?_|refine Zad ?_
  refine Zag ?_
  refine Zac (ZbQ (k := .i64) (a := -1) (b := -1) rfl rfl ?_)
  rw [decide_eq_true (rfl : (-1 : Int) = -1)]
  refine Zaf ?_
  refine ZaC (t := true) rfl (fun _ => ?_) (fun hf => by cases hf)
  repeat refine Zab ?_
  first|refine Zaa ?_|refine Zad ?_
  refine Zag ?_
  refine Zag ?_
  refine Zaf (ZbB ?_)
  have hf : (pcs.filter fun p => !q p) = pcs := List.filter_eq_self.2 fun p hp => by rw [hall p hp]; rfl
  exact ZaD (hK τ pv (by rw [hf]; exact h.ext hX) hX.but fun c hc => hc)
 ·refine Zag ?_
  refine Zaf (kp3 0 1 5 fun e he => ?_)
  repeat refine Zab ?_
  first|refine Zaa ?_|refine Zad ?_
  refine Zag ?_
  refine Zac (ZbQ (k := .i64) (a := (i : Int)) (b := -1) rfl rfl ?_)
  rw [decide_eq_false (by omega : ¬ (i : Int) = -1)]
  refine Zaf (kp4 0 1 5 12 fun e he => ?_)
  refine ZaC (t := false) he.2.2.2 (fun hf => by cases hf) (fun _ => ?_)
  refine ZaL ?_
  repeat refine Zab ?_
  first|refine Zaa ?_|refine Zad ?_
  refine Zag ?_
  refine Zby i 1 ?_
  refine Zag ?_
  refine Zaf (kp4 0 1 5 6 fun e he => ?_)
  obtain ⟨b, hb⟩ := h.some_ (by omega : 0 < pcs.length)
  refine ZaF (Za4 (fun μ env υ => ∃ (j k : Nat) (l : List (Nat × Nat)), μ = pcs.length - j /\ j <= pcs.length /\ (env 0 = pv /\ env 1 = fnV g caps /\ env 5 = vI k /\ env 6 = vI j) /\ k < j /\ l.length = pcs.length /\ l.take k = (pcs.take j).filter (fun p => !q p) /\ l.drop j = pcs.drop j /\ Hd υ 145 2 pv pcs.length (pcC l) /\ But (fun c => hbk pv = some c) σ υ) ⟨_, i + 1, i, pcs, rfl, hi, he, Nat.lt_succ_self _, rfl, ?_, rfl, h.ext hX, hX.but⟩ ?_)
  ·rw [List.take_succ_eq_append_getElem hi, List.filter_append, List.filter_eq_self.2 fun p hp => by rw [hpre p hp]; rfl]
   simp [hqi]
  clear he e
  rintro _ e υ ⟨j, k, l, rfl, hj, he, hkj, hll, htk, hdp, hL, hB⟩
  repeat refine Zab ?_
  first|refine Zaa ?_|refine Zad ?_
  refine Zag ?_
  refine Zag ?_
  refine Zac (ZeV rfl hL rfl Zck ?_)
  refine Zcf j pcs.length ?_
  refine Zaf (kp5 0 1 5 6 19 fun e he => ?_)
  refine ZaC (t := decide (j < pcs.length)) (by simp only [EV,Nat.reduceEqDiff,↓reduceIte,he];try rfl) (fun ht => ?_) (fun ht => ?_)
  ·have hlt : j < pcs.length := of_decide_eq_true ht
   have hlt2 : j < l.length := by omega
   have hlj : l[j] = pcs[j] := by
    have h1 := List.drop_eq_getElem_cons hlt2
    have h2 := List.drop_eq_getElem_cons hlt
    rw [h1, h2] at hdp
    injection hdp
   have hdq : l.drop (j + 1) = pcs.drop (j + 1) := by
    rw [<- List.drop_drop (i := 1) (j := j), <- List.drop_drop (i := 1) (j := j), hdp]
   refine ZaL (Zce (fun env υ => ∃ (k : Nat) (l : List (Nat × Nat)), (env 0 = pv /\ env 1 = fnV g caps /\ env 5 = vI k /\ env 6 = vI j) /\ k < j + 1 /\ l.length = pcs.length /\ l.take k = (pcs.take (j + 1)).filter (fun p => !q p) /\ l.drop (j + 1) = pcs.drop (j + 1) /\ Hd υ 145 2 pv pcs.length (pcC l) /\ But (fun c => hbk pv = some c) σ υ) ?_ ?_)
   ·refine Zct ?_
    repeat refine Zab ?_
    first|refine Zaa ?_|refine Zad ?_
    refine Zag ?_
    refine Zag ?_
    refine Zac (Zb0 (k := .i64) (j := j) (by simp only [EV,Nat.reduceEqDiff,↓reduceIte,he];try rfl) (by simp only [EV,Nat.reduceEqDiff,↓reduceIte,he];try rfl) Zck Zb7 hL hlt fun b' hb' => ?_)
    refine Zac (Zrj (by simp only [EV,Nat.reduceEqDiff,↓reduceIte,he];try rfl) hL hb' hlt Zib Zb7 ?_)
    rw [Zmz hlt2, hlj]
    refine Zac (ZaH ZgX rfl fun b7 υ7 hn7 hu7 hb7 hub7 hX7 => ?_)
    refine Zac (ZaB (b := b7) (o := 0) (u := pcV pcs[j]) (cs' := [ptr pcs[j].1 0, .raw (.int .i64 (pcs[j].2 : Int))]) (by simp only [EV,Nat.reduceEqDiff,↓reduceIte,he];try rfl) (by simp only [EV,Nat.reduceEqDiff,↓reduceIte,he];try rfl) hb7 Zb7 rfl rfl fun υ8 hb8 k8 => ?_)
    refine Zaf ?_
    have hX8 : Ext υ υ8 := But.ext hX7 (fun g hg => by rw [hg]; exact hn7) k8
    refine kp5 0 1 5 6 7 fun e he => ?_
    repeat refine Zab ?_
    first|refine Zaa ?_|refine Zad ?_
    refine Zag ?_
    refine Zac (Zah (b := b7) (o := 0) (r := pcV pcs[j]) he.2.2.2.2 hb8 Zib Zb7 rfl ?_)
    refine Zac (ZjK (g := g) (caps := caps) (vs := [pcV pcs[j]]) rfl (by simp only [List.map_cons, List.map_nil, EV,Nat.reduceEqDiff,↓reduceIte,he];try rfl) ?_)
    refine hq υ8 (hB.trans (hX8.but)) pcs[j] (List.getElem_mem hlt) _ fun τ hX9 => ?_
    refine ZcU ?_
    refine Zaf (kp6 0 1 5 6 7 29 fun e he => ?_)
    have hL9 := (hL.ext hX8).ext hX9
    have hB9 : But (fun c => hbk pv = some c) σ τ := (hB.trans hX8.but).trans hX9.but
    refine ZaQ (t := !q pcs[j]) he.2.2.2.2.2 (fun hqj => ?_) (fun hqj => ?_)
    ·repeat refine Zab ?_
     first|refine Zaa ?_|refine Zad ?_
     refine Zag ?_
     refine Zag ?_
     refine Zac (Zah (b := b7) (o := 0) (r := pcV pcs[j]) he.2.2.2.2.1 (hX9.keep _ _ hb8) Zib Zb7 rfl ?_)
     refine Zac (Zb0 (k := .i64) (j := k) rfl rfl Zck Zb7 hL9 (by omega) fun b' hb' => ?_)
     refine Zac (ZnO (j := k) (r := pcV pcs[j]) rfl rfl Zb7 hL9 hb' (by omega) ⟨rfl, rfl, fun a ha => ?_⟩ fun τ2 hL2 hB2 => ?_)
     ·simp [pcV, AV.cells] at ha
      rcases ha with rfl | rfl <;> rfl
     refine Zaf ?_
     show ZaA _ _ _ _ _ _
     refine Zad (Zag ?_)
     refine Zby k 1 ?_
     refine Zag ?_
     refine Zaf ?_
     have hset := ZpX (l := l) pcs[j] (by omega : k < l.length)
     refine ⟨rfl, k + 1, l.set k pcs[j], ⟨by simp only [EV,Nat.reduceEqDiff,↓reduceIte,he];try rfl, by simp only [EV,Nat.reduceEqDiff,↓reduceIte,he];try rfl, by simp only [EV,Nat.reduceEqDiff,↓reduceIte,he];try rfl, by simp only [EV,Nat.reduceEqDiff,↓reduceIte,he];try rfl⟩, by omega, by rw [List.length_set]; exact hll, ?_, ?_, hset ▸ hL2, hB9.trans hB2⟩
     ·rw [List.take_succ_eq_append_getElem (by rw [List.length_set]; omega), List.take_set_of_le (Nat.le_refl _), List.getElem_set_self, htk, List.take_succ_eq_append_getElem hlt, List.filter_append]
      simp [hqj]
     ·rw [List.drop_set_of_lt (by omega)]
      exact hdq
    ·refine Zbm ?_
     refine ⟨rfl, k, l, ⟨by simp only [EV,Nat.reduceEqDiff,↓reduceIte,he];try rfl, by simp only [EV,Nat.reduceEqDiff,↓reduceIte,he];try rfl, by simp only [EV,Nat.reduceEqDiff,↓reduceIte,he];try rfl, by simp only [EV,Nat.reduceEqDiff,↓reduceIte,he];try rfl⟩, by omega, hll, ?_, hdq, hL9, hB9⟩
     rw [htk, List.take_succ_eq_append_getElem hlt, List.filter_append]
     simp [hqj]
   ·clear he e
    rintro e τ ⟨k', l', he, g1, g2, g3, g4, g5, g6⟩
    refine Zad (Zag ?_)
    refine Zby j 1 ?_
    refine Zag ?_
    refine Zaf ?_
    show ∃ n', n' < _ /\ _
    exact ⟨_, (by omega : pcs.length - (j + 1) < pcs.length - j), j + 1, k', l', rfl, hlt, ⟨by simp only [EV,Nat.reduceEqDiff,↓reduceIte,he];try rfl, by simp only [EV,Nat.reduceEqDiff,↓reduceIte,he];try rfl, by simp only [EV,Nat.reduceEqDiff,↓reduceIte,he];try rfl, by simp only [EV,Nat.reduceEqDiff,↓reduceIte,he];try rfl⟩, g1, g2, g3, g4, g5, g6⟩
  ·have hke : j = pcs.length := by have := of_decide_eq_false ht; omega
   subst hke
   rw [List.take_length] at htk
   have hkf : (pcs.filter fun p => !q p).length = k := by
    rw [<- htk, List.length_take]
    omega
   refine Zbu ?_
   show ZaA _ _ _ _ _ _
   obtain ⟨c, all, hpv, q1, q2, q3, q4, q5, q6⟩ := hL.at_ hb
   have hc : 0 < c := by omega
   subst hpv
   repeat refine Zab ?_
   first|refine Zaa ?_|refine Zad ?_
   refine Zag ?_
   refine Zag ?_
   refine Zac (Zfu (A := some ⟨b, 0, none⟩) (n := pcs.length) (c := c) (l := k) (u := pcs.length) (ix := [vI k]) rfl (by simp only [Option.toList, List.nil_append, List.append_nil, List.singleton_append, List.map_cons, List.map_nil, EV,Nat.reduceEqDiff,↓reduceIte,he];try rfl) Zck Zb7 (Zsh rfl) (by omega) q5 ?_)
   refine Zac (ZnY (sz := 2) (b := b) (n := pcs.length) (c := c) (lo := k) (Eq.trans (by simp only [EV,Nat.reduceEqDiff,↓reduceIte,he];try rfl) ?_) Zck ZgX rfl (by omega) (fun i hi => ?_) hL hc (by omega) fun τ hL2 hB2 => ?_)
   ·simp only [Option.map, Zci, Nat.zero_add]
   ·match i, hi with
    | 0, _ => rfl
    | 1, _ => rfl
   refine Zaf (kp2 0 5 fun e he => ?_)
   repeat refine Zab ?_
   first|refine Zaa ?_|refine Zad ?_
   refine Zag ?_
   refine Zag ?_
   refine Zac (Zfu (A := some ⟨b, 0, none⟩) (n := pcs.length) (c := c) (l := 0) (u := k) (ix := [vI k]) rfl (by simp only [Option.toList, List.nil_append, List.append_nil, List.singleton_append, List.map_cons, List.map_nil, EV,Nat.reduceEqDiff,↓reduceIte,he];try rfl) Zck Zb7 (ZlZ rfl) (by omega) (by omega) ?_)
   refine Zag ?_
   refine Zaf (Zap ?_)
   have hres : (AV.raw (.slice (if c = 0 then some (⟨b, 0, none⟩ : Addr) else (some (⟨b, 0, none⟩ : Addr)).map (·.add (0 * 2))) (k - 0) (c - 0))) = hdr b k c := by
    rw [if_neg (by omega), Nat.sub_zero, Nat.sub_zero]
    simp only [Option.map, Zci, Nat.zero_mul, Nat.zero_add]
    rfl
   rw [hres]
   refine ⟨_, Ze1 rfl rfl, hK τ (hdr b k c) ?_ ?_ ?_⟩
   ·rw [Zkx, htk] at hL2
    rw [hkf]
    exact hL2
   ·exact hB.trans (hB2.sub fun g hg => by rw [hg]; exact hb)
   ·intro c' hc'
    rw [<- Zc8 hc']
    exact hb
end
theorem ZcV {σ : St} {b c : Nat} {t u : TypeId} {xs ys : List AV} (hb : σ.blk b = some (.own t xs)) (hc : σ.blk c = some (.own u ys)) (hne : t ≠ u) : b ≠ c := fun e => by
 subst e
 rw [hb] at hc
 injection hc with hc
 injection hc with hc
 exact hne hc
theorem Zg5 {σ : St} {b c : Nat} {t : TypeId} {xs : List AV} {es : List (Value × Value)} (hb : σ.blk b = some (.own t xs)) (hc : σ.blk c = some (.map es)) : b ≠ c := fun e => by
 subst e
 rw [hb] at hc
 injection hc with hc
 cases hc
def ZcA (fb : Nat) (v : AV) (d : List UInt8) (f : Fl) : Fl := if f.b = fb then ⟨f.nm, f.b, v, d⟩ else f
theorem Zep {fb : Nat} {v : AV} {d : List UInt8} (f : Fl) : (ZcA fb v d f).b = f.b := by unfold ZcA; split <;> rfl
theorem Zky {fb : Nat} {v : AV} {d : List UInt8} (f : Fl) : (ZcA fb v d f).nm = f.nm := by unfold ZcA; split <;> rfl
section
variable {σ τ : St} {bb mb : Nat} {S : Nat -> Prop} {fs : List Fl} {pcs : List (Nat × Nat)} {size : Int} {pv : AV}
theorem DAt.mono {S' : Nat -> Prop} (h : DAt σ bb S fs pcs size mb pv) (k : ∀ c, S c -> S' c) : DAt σ bb S' fs pcs size mb pv :=
 ⟨h.obj, h.used, h.map, h.umap, h.file, h.nd, h.nn, h.far, h.pc, ⟨k _ h.own.1, k _ h.own.2.1, fun f hf => ⟨k _ (h.own.2.2.1 f hf).1, fun x hx => k _ ((h.own.2.2.1 f hf).2 x hx)⟩, fun x hx => k _ (h.own.2.2.2 x hx)⟩, h.inn⟩
theorem DAt.setF (h : DAt σ bb S fs pcs size mb pv) {f0 : Fl} (hf0 : f0 ∈ fs) {v : AV} {d : List UInt8} (k : But (fun c => c = f0.b \/ hbk f0.v = some c) σ τ) (hb : τ.blk f0.b = some (.own 143 [v])) (hv : Hd τ 5 1 v d.length (bys d)) (hnew : ∀ c, hbk v = some c -> hbk f0.v = some c \/ Za9 σ c) :
 DAt τ bb (fun c => S c \/ hbk v = some c) (fs.map (ZcA f0.b v d)) pcs size mb pv := by
 obtain ⟨o1, o2, o3, o4⟩ := h.own
 obtain ⟨p1, p2, p3⟩ := h.file f0 hf0
 have hdir : ZcE (fs.map (ZcA f0.b v d)) = ZcE fs := by
  unfold ZcE
  rw [List.map_map]
  exact List.map_congr_left fun f _ => by simp [Function.comp, Zep, Zky]
 have hother : ∀ g ∈ fs, g.b ≠ f0.b -> τ.blk g.b = some (.own 143 [g.v]) /\ Hd τ 5 1 g.v g.d.length (bys g.d) := fun g hg hne => by
  obtain ⟨q1, q2, q3⟩ := h.file g hg
  refine ⟨k.keep _ _ (fun hq => ?_) q1, q3.but k fun c hc hq => ?_⟩
  ·rcases hq with hq | hq
   ·exact hne hq
   ·obtain ⟨all, hall⟩ := p3.blk hq
    exact ZcV q1 hall (by decide) rfl
  ·rcases hq with hq | hq
   ·obtain ⟨all, hall⟩ := q3.blk hc
    rw [hq] at hall
    exact ZcV p1 hall (by decide) rfl
   ·exact hne (h.far g hg f0 hf0 c hc hq)
 refine ⟨k.keep _ _ (fun hq => ?_) h.obj, k.used _ h.used, ?_, k.used _ h.umap, fun f hf => ?_, ?_, ?_, fun f hf g hg x hx hy => ?_, h.pc.but k fun c hc hq => ?_, ⟨.inl o1, .inl o2, fun f hf => ?_, fun x hx => .inl (o4 x hx)⟩, fun p hp => ?_⟩
 ·rcases hq with hq | hq
  ·exact ZcV h.obj p1 (by decide) hq
  ·obtain ⟨all, hall⟩ := p3.blk hq
   exact ZcV h.obj hall (by decide) rfl
 ·rw [hdir]
  refine k.keep _ _ (fun hq => ?_) h.map
  rcases hq with hq | hq
  ·exact Zg5 p1 h.map hq.symm
  ·obtain ⟨all, hall⟩ := p3.blk hq
   exact Zg5 hall h.map rfl
 ·obtain ⟨g, hg, rfl⟩ := List.mem_map.1 hf
  by_cases hgb : g.b = f0.b
  ·unfold ZcA
   rw [if_pos hgb]
   exact ⟨by rw [hgb]; exact hb, by rw [hgb]; exact k.used _ p2, hv⟩
  ·unfold ZcA
   rw [if_neg hgb]
   obtain ⟨q1, q2⟩ := hother g hg hgb
   exact ⟨q1, k.used _ (h.file g hg).2.1, q2⟩
 ·rw [List.map_map, show ((fun f : Fl => f.b) ∘ ZcA f0.b v d) = fun f : Fl => f.b from funext fun f => Zep f]
  exact h.nd
 ·rw [List.map_map, show ((fun f : Fl => f.nm) ∘ ZcA f0.b v d) = fun f : Fl => f.nm from funext fun f => Zky f]
  exact h.nn
 ·obtain ⟨f, hf', rfl⟩ := List.mem_map.1 hf
  obtain ⟨g, hg', rfl⟩ := List.mem_map.1 hg
  rw [Zep, Zep]
  unfold ZcA at hx hy
  by_cases hfb : f.b = f0.b <;> by_cases hgb : g.b = f0.b
  ·rw [hfb, hgb]
  ·rw [if_pos hfb] at hx
   rw [if_neg hgb] at hy
   rcases hnew x hx with q | q
   ·exact hfb.trans (h.far f0 hf0 g hg' x q hy)
   ·exact absurd ((h.file g hg').2.2.used hy) q.2
  ·rw [if_neg hfb] at hx
   rw [if_pos hgb] at hy
   rcases hnew x hy with q | q
   ·exact (h.far f hf' f0 hf0 x hx q).trans hgb.symm
   ·exact absurd ((h.file f hf').2.2.used hx) q.2
  ·rw [if_neg hfb] at hx
   rw [if_neg hgb] at hy
   exact h.far f hf' g hg' x hx hy
 ·rcases hq with hq | hq
  ·obtain ⟨all, hall⟩ := h.pc.blk hc
   exact ZcV hall p1 (by decide) hq
  ·obtain ⟨a1, h1⟩ := h.pc.blk hc
   obtain ⟨a2, h2⟩ := p3.blk hq
   exact ZcV h1 h2 (by decide) rfl
 ·obtain ⟨g, hg, rfl⟩ := List.mem_map.1 hf
  rw [Zep]
  refine ⟨.inl (o3 g hg).1, fun x hx => ?_⟩
  unfold ZcA at hx
  split at hx
  ·exact .inr hx
  ·exact .inl ((o3 g hg).2 x hx)
 ·obtain ⟨f, hf, e⟩ := h.inn p hp
  exact ⟨_, List.mem_map.2 ⟨f, hf, rfl⟩, by rw [Zep]; exact e⟩
theorem DAt.setP (h : DAt σ bb S fs pcs size mb pv) {pv' : AV} {pcs' : List (Nat × Nat)} (k : But (fun c => c = bb \/ hbk pv = some c) σ τ) (hb : τ.blk bb = some (.own 128 [pv', Zef mb, .raw (.int .i64 size)])) (hv : Hd τ 145 2 pv' pcs'.length (pcC pcs')) (hin : ∀ p ∈ pcs', ∃ f ∈ fs, f.b = p.1) :
 DAt τ bb (fun c => S c \/ hbk pv' = some c) fs pcs' size mb pv' := by
 obtain ⟨o1, o2, o3, o4⟩ := h.own
 refine ⟨hb, k.used _ h.used, k.keep _ _ (fun hq => ?_) h.map, k.used _ h.umap, fun f hf => ?_, h.nd, h.nn, h.far, hv, ⟨.inl o1, .inl o2, fun f hf => ⟨.inl (o3 f hf).1, fun x hx => .inl ((o3 f hf).2 x hx)⟩, fun x hx => .inr hx⟩, hin⟩
 ·rcases hq with hq | hq
  ·exact Zg5 h.obj h.map hq.symm
  ·obtain ⟨all, hall⟩ := h.pc.blk hq
   exact Zg5 hall h.map rfl
 ·obtain ⟨q1, q2, q3⟩ := h.file f hf
  refine ⟨k.keep _ _ (fun hq => ?_) q1, k.used _ q2, q3.but k fun c hc hq => ?_⟩
  ·rcases hq with hq | hq
   ·exact ZcV h.obj q1 (by decide) hq.symm
   ·obtain ⟨all, hall⟩ := h.pc.blk hq
    exact ZcV hall q1 (by decide) rfl
  ·obtain ⟨a1, h1⟩ := q3.blk hc
   rcases hq with hq | hq
   ·exact ZcV h.obj h1 (by decide) hq.symm
   ·obtain ⟨a2, h2⟩ := h.pc.blk hq
    exact ZcV h1 h2 (by decide) rfl
theorem DAt.addF (h : DAt σ bb S fs pcs size mb pv) {nb : Nat} {nm : List UInt8} {v : AV} {d : List UInt8} (hn : Za9 σ nb) (k : But (fun c => c = mb \/ c = nb) σ τ) (hb : τ.blk nb = some (.own 143 [v])) (hu : τ.used nb) (hm : τ.blk mb = some (.map (Zgr (ZcE (fs ++ [⟨nm, nb, v, d⟩]))))) (hv : Hd τ 5 1 v d.length (bys d)) (hnm : ∀ f ∈ fs, f.nm ≠ nm) (hvb : hbk v = none) :
 DAt τ bb (fun c => S c \/ c = nb) (fs ++ [⟨nm, nb, v, d⟩]) pcs size mb pv := by
 obtain ⟨o1, o2, o3, o4⟩ := h.own
 have hkeep : ∀ b t cs, σ.blk b = some (.own t cs) -> τ.blk b = some (.own t cs) := fun b t cs hb' => k.keep _ _ (fun hq => by
  rcases hq with hq | hq
  ·exact Zg5 hb' h.map hq
  ·rw [hq, hn.1] at hb'; cases hb') hb'
 have hkeepH : ∀ {e sz n : Nat} {u : AV} {cs : List AV}, Hd σ e sz u n cs -> Hd τ e sz u n cs := fun {e sz n u cs} hu' => hu'.but k fun c hc hq => by
  obtain ⟨all, hall⟩ := hu'.blk hc
  rcases hq with hq | hq
  ·exact Zg5 hall h.map hq
  ·rw [hq, hn.1] at hall; cases hall
 have hold : ∀ f ∈ fs, f.b ≠ nb := fun f hf e => by
  have := (h.file f hf).1
  rw [e, hn.1] at this
  cases this
 refine ⟨hkeep _ _ _ h.obj, k.used _ h.used, hm, k.used _ h.umap, fun f hf => ?_, ?_, ?_, fun f hf g hg x hx hy => ?_, hkeepH h.pc, ⟨.inl o1, .inl o2, fun f hf => ?_, fun x hx => .inl (o4 x hx)⟩, fun p hp => ?_⟩
 ·rcases List.mem_append.1 hf with hf | hf
  ·obtain ⟨q1, q2, q3⟩ := h.file f hf
   exact ⟨hkeep _ _ _ q1, k.used _ q2, hkeepH q3⟩
  ·rw [List.mem_singleton.1 hf]
   exact ⟨hb, hu, hv⟩
 ·rw [List.map_append, List.nodup_append]
  refine ⟨h.nd, by simp, fun a ha b hb' e => ?_⟩
  obtain ⟨f, hf, rfl⟩ := List.mem_map.1 ha
  simp at hb'
  exact hold f hf (e.trans hb')
 ·rw [List.map_append, List.nodup_append]
  refine ⟨h.nn, by simp, fun a ha b hb' e => ?_⟩
  obtain ⟨f, hf, rfl⟩ := List.mem_map.1 ha
  simp at hb'
  exact hnm f hf (e.trans hb')
 ·rcases List.mem_append.1 hf with hf | hf
  ·rcases List.mem_append.1 hg with hg | hg
   ·exact h.far f hf g hg x hx hy
   ·rw [List.mem_singleton.1 hg] at hy
    have hy : hbk v = some x := hy
    rw [hvb] at hy; cases hy
  ·rw [List.mem_singleton.1 hf] at hx
   have hx : hbk v = some x := hx
   rw [hvb] at hx; cases hx
 ·rcases List.mem_append.1 hf with hf | hf
  ·exact ⟨.inl (o3 f hf).1, fun x hx => .inl ((o3 f hf).2 x hx)⟩
  ·rw [List.mem_singleton.1 hf]
   refine ⟨.inr rfl, fun x hx => ?_⟩
   have hx : hbk v = some x := hx
   rw [hvb] at hx; cases hx
 ·obtain ⟨f, hf, e⟩ := h.inn p hp
  exact ⟨f, List.mem_append_left _ hf, e⟩
end
section
variable {P : Program} {ops : Array Oper} {env : Env} {σ τ : St} {K : Env -> St -> Prop} {d : Option Nat} {ty t : TypeId} {pos : String} {af : Array Edge} {x y : Operand} {e sz n u : Nat} {v : AV} {cells : List AV}
theorem Zn7 (hx : ev env x = v) (hy : ev env y = vI u) (ht : ZaW P t = some e) (hs : ZaU P e = some sz) (hown : Hd σ e sz v n cells) (hu : u <= n)
 (h : ∀ v', Hd σ e sz v' u (cells.take (u * sz)) -> (∀ c, hbk v' = some c -> hbk v = some c) -> K (env.put d v') σ) : aOp P ops ⟨d, .slice t x none (some y) none, ty, pos, af, none⟩ env σ K := by
 have hix : ((none : Option Operand).toList ++ (some y).toList).map (ev env) = [vI u] := by simp [hy]
 rcases hown.2.2 with ⟨hnil, hn⟩ | ⟨b, c, all, hc, rfl, g1, g2, g3, g4, g5, g6⟩
 ·have hu0 : u = 0 := by omega
  subst hu0
  rcases hnil with rfl | ⟨ad, rfl⟩
  ·refine Zpz (A := none) (n := 0) (c := 0) (l := 0) (u := 0) (cells := []) (cs := []) hx hix ht hs (ZlZ rfl) (Nat.le_refl _) (Nat.le_refl _) rfl fun A' hA' => ?_
   have hA' : A' = none := by rw [hA']; rfl
   subst hA'
   exact h _ ⟨by simp, by simp, .inl ⟨.inl rfl, rfl⟩⟩ fun c hc => hc
  ·refine Zfu (A := some ad) (n := 0) (c := 0) (l := 0) (u := 0) hx hix ht hs (ZlZ rfl) (Nat.le_refl _) (Nat.le_refl _) ?_
   exact h _ ⟨by simp, by simp, .inl ⟨.inr ⟨ad, rfl⟩, rfl⟩⟩ fun c hc => hc
 ·refine Zfu (A := some ⟨b, 0, none⟩) (n := n) (c := c) (l := 0) (u := u) hx hix ht hs (ZlZ rfl) (Nat.zero_le _) (by omega) ?_
  have hres : (AV.raw (.slice (if c = 0 then some (⟨b, 0, none⟩ : Addr) else (some (⟨b, 0, none⟩ : Addr)).map (·.add (0 * sz))) (u - 0) (c - 0))) = hdr b u c := by
   rw [if_neg (by omega), Nat.sub_zero, Nat.sub_zero]
   simp only [Option.map, Zci, Nat.zero_mul, Nat.zero_add]
   rfl
  rw [hres]
  have hm : u * sz <= n * sz := Nat.mul_le_mul_right _ hu
  refine h _ ⟨?_, fun a ha => hown.one a (List.mem_of_mem_take ha), .inr ⟨b, c, all, hc, rfl, g1, g2, g3, ?_, by omega, g6⟩⟩ fun c' hc' => by rw [<- Zc8 hc']; exact ZcD hc
  ·rw [List.length_take, hown.len]; omega
  ·rw [<- g4, List.take_take, Nat.min_eq_left hm]
end
theorem ZpY : ZaU Tryz.prog (Program.pointee Tryz.prog 141) = some 1 := by kernel_rfl
section
variable {P : Program} {ops : Array Oper} {env : Env} {σ τ : St} {K : Env -> St -> Prop} {d : Option Nat} {ty t : TypeId} {pos : String} {af : Array Edge} {x y : Operand}
theorem ZaI {b o : Nat} {T : TypeId} {cs : List AV} {v : AV} (hx : ev env x = ptr b o) (hy : ev env y = v) (hb : σ.blk b = some (.own T cs)) (hn : ZaU P t = some 1) (hv : v.one = true /\ Zbh v = true /\ v.cells = [v]) (ho : o < cs.length)
 (h : ∀ τ, τ.blk b = some (.own T (cs.set o v)) -> But (fun c => c = b) σ τ -> K (env.put d (.raw undef)) τ) : aOp P ops ⟨d, .store t x y, ty, pos, af, none⟩ env σ K := by
 refine ZaB (cs' := cs.set o v) hx hy hb hn ?_ ?_ h
 ·rw [hv.2.2]
  simp [hv.1, hv.2.1]
  omega
 ·rw [hv.2.2]
  unfold ZaR
  rw [List.set_eq_take_append_cons_drop, if_pos ho]
  simp
end
theorem ZjM {σ : St} {p : Nat × Nat} (K : AV -> St -> Prop) (hK : ∀ τ, Ext σ τ -> K (vT (decide (p.2 = 0))) τ) : Zan Tryz.prog 133 [pcV p] σ K := by
 refine Zai Zam Tryz.func133 rfl rfl rfl (Nat.le_of_ble_eq_true rfl) ?_
 refine Zbf 0 (v0 := pcV p) rfl ?_
 intro e he
 repeat refine Zab ?_
 first|refine Zaa ?_|refine Zad ?_
 refine Zac (Zbn (cs := [ptr p.1 0, .raw (.int .i64 (p.2 : Int))]) (v := pcV p) he rfl fun b2 τ hn2 hu2 hb2 hub2 hX2 => ?_)
 refine Zag ?_
 refine Zaf (kp1 1 fun e he => ?_)
 repeat refine Zab ?_
 first|refine Zaa ?_|refine Zad ?_
 refine Zac (Zae (b := b2) (o := 0) he ZgW rfl ?_)
 refine Zac (Zah (b := b2) (o := 0 + 1) (r := .raw (.int .i64 (p.2 : Int))) rfl hb2 fa9 ZbG rfl ?_)
 refine Zac (ZbQ (k := .i64) (a := (p.2 : Int)) (b := 0) rfl rfl ?_)
 rw [show decide ((p.2 : Int) = 0) = decide (p.2 = 0) by congr 1; exact propext (by omega)]
 refine Zag ?_
 refine Zaf (Zap ?_)
 exact ZaD (hK τ hX2)
def Zkz (fb : Nat) : Nat -> List (Nat × Nat) -> List (Nat × Nat)
 | _, [] => []
 | m, p :: l => if p.1 = fb then (p.1, p.2 - min m p.2) :: Zkz fb (m - min m p.2) l else p :: Zkz fb m l
theorem Zjb (fb : Nat) : ∀ l, Zkz fb 0 l = l
 | [] => rfl
 | p :: l => by
  unfold Zkz
  rw [Nat.zero_min, Nat.zero_sub, Nat.sub_zero, Zjb fb l]
  split <;> rfl
def shr (fb m : Nat) (pcs : List (Nat × Nat)) : List (Nat × Nat) := (Zkz fb m pcs.reverse).reverse
theorem Zij (fb : Nat) : ∀ m l, (Zkz fb m l).map (·.1) = l.map (·.1)
 | _, [] => rfl
 | m, p :: l => by
  unfold Zkz
  split
  ·rw [List.map_cons, List.map_cons, Zij]
  ·rw [List.map_cons, List.map_cons, Zij]
theorem ZmB (fb m : Nat) (l : List (Nat × Nat)) : (shr fb m l).map (·.1) = l.map (·.1) := by
 unfold shr
 rw [List.map_reverse, Zij, List.map_reverse, List.reverse_reverse]
theorem ZmC (fb m : Nat) (l : List (Nat × Nat)) : (shr fb m l).length = l.length := by
 have := congrArg List.length (ZmB fb m l)
 rwa [List.length_map, List.length_map] at this
theorem Zrt {fb m : Nat} {l : List (Nat × Nat)} {p : Nat × Nat} (h : p ∈ shr fb m l) : ∃ p' ∈ l, p'.1 = p.1 := by
 have h1 : p.1 ∈ (shr fb m l).map (·.1) := List.mem_map.2 ⟨p, h, rfl⟩
 rw [ZmB] at h1
 exact List.mem_map.1 h1
section
variable {P : Program} {ops : Array Oper} {env : Env} {σ τ : St} {K : Env -> St -> Prop} {d : Option Nat} {ty ty' t : TypeId} {pos : String} {af : Array Edge} {x y : Operand}
theorem ZcW (a b : Int) (hx : ev env x = .raw (.int .i64 a)) (hy : ev env y = .raw (.int .i64 b)) (h1 : -4611686018427387904 < a - b) (h2 : a - b < 4611686018427387904) (h : K (env.put d (.raw (.int .i64 (a - b)))) σ) : aOp P ops ⟨d, .binOp .sub t x y ty', ty, pos, af, none⟩ env σ K :=
 ZnE hx hy (by rw [IntWalk.i64_in _ (by omega)]) h
theorem Zru {u v : Operand} {ts : Array TypeId} (a b : Nat) (hx : ev env u = vI a) (hy : ev env v = vI b) (h : K (env.put d (vI ((min a b : Nat) : Int))) σ) : aOp P ops ⟨d, .call ⟨.builtin .min, #[u, v], ts⟩, ty, pos, af, none⟩ env σ K := by
 refine Zse hx hy ?_
 have e : (if (b : Int) < (a : Int) then (b : Int) else (a : Int)) = ((min a b : Nat) : Int) := by split <;> omega
 rw [e]
 exact h
end
section
variable {σ : St} {bb mb : Nat} {S : Nat -> Prop} {fs : List Fl} {pcs : List (Nat × Nat)} {size : Int} {pv : AV} {K : AV -> St -> Prop}
theorem DAt.pvS (h : DAt σ bb S fs pcs size mb pv) {c : Nat} (hc : c = bb \/ hbk pv = some c) : S c := by
 rcases hc with rfl | hc
 ·exact h.own.1
 ·exact h.own.2.2.2 _ hc
theorem DAt.pvF (h : DAt σ bb S fs pcs size mb pv) {f : Fl} (hf : f ∈ fs) : ¬ hbk pv = some f.b := fun hq => by
 obtain ⟨all, hall⟩ := h.pc.blk hq
 exact ZcV hall (h.file f hf).1 (by decide) rfl
theorem DAt.pvB (h : DAt σ bb S fs pcs size mb pv) : ¬ hbk pv = some bb := fun hq => by
 obtain ⟨all, hall⟩ := h.pc.blk hq
 exact ZcV hall h.obj (by decide) rfl
set_option maxHeartbeats 2000000 in
theorem Zln (h : DAt σ bb S fs pcs size mb pv) (hl : pcs.length <= 1000000000) (hs : ∀ p ∈ pcs, p.2 <= 1000000000) {f0 : Fl} (hf0 : f0 ∈ fs) {m : Nat} (hm : m <= f0.d.length) (hd : f0.d.length <= 1000000000)
 (hK : ∀ τ v' pv', DAt τ bb S (fs.map (ZcA f0.b v' (f0.d.take (f0.d.length - m)))) ((shr f0.b m pcs).filter fun p => !decide (p.2 = 0)) size mb pv' -> But S σ τ -> K (.tup []) τ) : Zan Tryz.prog 89 [ptr bb 0, ptr f0.b 0, vI m] σ K := by
 obtain ⟨p1, p2, p3⟩ := h.file f0 hf0
 refine Zai Zam Tryz.func89 rfl rfl rfl (Nat.le_of_ble_eq_true rfl) ?_
 refine Zhx 0 1 2 (v0 := ptr bb 0) (v1 := ptr f0.b 0) (v2 := vI m) rfl rfl rfl ?_
 intro e he
 refine Zbt ?_
 refine ⟨[0, 1, 2, 3, 5, 6, 7, 10, 4, 8, 9, 11, 12, 13, 14, 15], [[], [], [1], [1, 2], [1, 2, 3], [], [5], [5, 6], [5, 6, 7], [5, 6, 7, 8], [], [5, 6, 7, 8, 9, 10], [1, 2, 3, 4, 5, 6, 7, 8, 9, 10, 11], [0, 1, 2, 3, 4, 5, 6, 7, 8, 9, 10, 11, 12], [0, 1, 2, 3, 4, 5, 6, 7, 8, 9, 10, 11, 12, 13], [0, 1, 2, 3, 4, 5, 6, 7, 8, 9, 10, 11, 12, 13, 14]], fun _ => True, [], [], [], by kernel_rfl, ?_⟩
 refine Zax ?_
 refine Zax ?_
 refine Zas ?_
 refine Zav (v := ptr f0.b 0) rfl rfl ?_
 refine Zaz ?_
 refine Zas ?_
 refine Zae (b := f0.b) (o := 0) rfl Zek rfl ?_
 refine Zaz ?_
 refine Zax ?_
 refine Zas ?_
 refine Zav (v := ptr f0.b 0) rfl rfl ?_
 refine Zaz ?_
 refine Zas ?_
 refine Zae (b := f0.b) (o := 0) rfl Zek rfl ?_
 refine Zaz ?_
 refine Zax ?_
 refine Zas ?_
 refine Zah (b := f0.b) (o := 0 + 0) (r := f0.v) rfl p1 fa5 Zb6 rfl ?_
 refine Zaz ?_
 refine Zas ?_
 refine Zah (b := f0.b) (o := 0 + 0) (r := f0.v) rfl p1 fa5 Zb6 rfl ?_
 refine Zaz ?_
 refine Zas ?_
 refine ZeV rfl p3 rfl Zbw ?_
 refine Zaz ?_
 refine Zas ?_
 refine ZcW (f0.d.length : Int) (m : Int) rfl rfl (by omega) (by omega) ?_
 refine Zaz ?_
 refine Zas ?_
 refine Zn7 (u := f0.d.length - m) (v := f0.v) rfl (Eq.trans rfl (by rw [Int.ofNat_sub hm]; rfl)) Zbw Zcn p3 (Nat.sub_le _ _) fun v' hv' hbv => ?_
 refine Zaz ?_
 refine Zas ?_
 refine Zav (v := ptr f0.b 0) rfl rfl ?_
 refine Zaz ?_
 refine Zas ?_
 refine Zae (b := f0.b) (o := 0) rfl Zek rfl ?_
 refine Zaz ?_
 refine Zas ?_
 refine ZaI (b := f0.b) (o := 0 + 0) (v := v') rfl rfl p1 Zb6 hv'.oneV (Nat.zero_lt_succ _) fun σ1 hb1 k1 => ?_
 refine ⟨(fun hf => by cases hf), ?_⟩
 refine ZbI ?_
 have hlen : (f0.d.take (f0.d.length - m)).length = f0.d.length - m := by rw [List.length_take]; omega
 have hv1 : Hd σ1 5 1 v' (f0.d.take (f0.d.length - m)).length (bys (f0.d.take (f0.d.length - m))) := by
  rw [hlen]
  have : bys (f0.d.take (f0.d.length - m)) = (bys f0.d).take ((f0.d.length - m) * 1) := by
   unfold bys
   rw [Nat.mul_one, List.map_take]
  rw [this]
  refine hv'.but k1 fun c hc hq => ?_
  obtain ⟨all, hall⟩ := p3.blk (hbv c hc)
  exact ZcV hall p1 (by decide) hq
 have h1 : DAt σ1 bb S (fs.map (ZcA f0.b v' (f0.d.take (f0.d.length - m)))) pcs size mb pv := (h.setF hf0 (k1.sub fun c hc => .inl hc) hb1 hv1 fun c hc => .inl (hbv c hc)).mono fun c hc => by
  rcases hc with hc | hc
  ·exact hc
  ·exact (h.own.2.2.1 f0 hf0).2 c (hbv c hc)
 have hfile0 : σ1.blk f0.b = some (.own 143 [v']) := hb1
 have hS1 : But S σ σ1 := k1.sub fun c hc => by rw [hc]; exact (h.own.2.2.1 f0 hf0).1
 clear hv1 k1 hb1 hv' hlen
 refine kp3 0 1 2 fun e he => ?_
 refine Zce (fun env υ => env 0 = ptr bb 0 /\ Hd υ 145 2 pv pcs.length (pcC (shr f0.b m pcs)) /\ But (fun c => hbk pv = some c) σ1 υ) ?_ ?_
 ·repeat refine Zab ?_
  first|refine Zaa ?_|refine Zad ?_
  refine Zag ?_
  refine Zac (Zav (v := ptr bb 0) rfl rfl ?_)
  refine Zac (Zae (b := bb) (o := 0) rfl Zej rfl ?_)
  refine Zac (Zah (b := bb) (o := 0 + 0) (r := pv) rfl h1.obj ZfT Zel rfl ?_)
  refine Zac (ZeV rfl h1.pc rfl Zck ?_)
  refine Zac (ZcW (pcs.length : Int) 1 rfl rfl (by omega) (by omega) ?_)
  refine Zag ?_
  refine Zaf (kp4 0 1 2 6 fun e he => ?_)
  refine Zct (Za4 (fun μ env υ => ∃ (t m' : Nat) (done : List (Nat × Nat)), μ = t /\ t <= pcs.length /\ (env 0 = ptr bb 0 /\ env 1 = ptr f0.b 0 /\ env 2 = vI m' /\ env 6 = .raw (.int .i64 ((t : Int) - 1))) /\ m' <= m /\ Zkz f0.b m pcs.reverse = done ++ Zkz f0.b m' (pcs.take t).reverse /\ done.length = pcs.length - t /\ Hd υ 145 2 pv pcs.length (pcC (pcs.take t ++ done.reverse)) /\ But (fun c => hbk pv = some c) σ1 υ) ⟨_, pcs.length, m, [], rfl, Nat.le_refl _, he, Nat.le_refl _, by rw [List.take_length]; rfl, by simp, by rw [List.take_length, List.reverse_nil, List.append_nil]; exact h1.pc, .refl _ _⟩ ?_)
  clear he e
  rintro t e υ ⟨_, m', done, rfl, ht, he, hmm, hR, hdl, hL, hB⟩
  have hobj : υ.blk bb = some (.own 128 [pv, Zef mb, .raw (.int .i64 size)]) := hB.keep _ _ h1.pvB h1.obj
  have hend : ∀ (he0 : e 0 = ptr bb 0), t = 0 \/ m' = 0 -> (e 0 = ptr bb 0 /\ Hd υ 145 2 pv pcs.length (pcC (shr f0.b m pcs)) /\ But (fun c => hbk pv = some c) σ1 υ) := fun he0 hor => by
   have : shr f0.b m pcs = pcs.take t ++ done.reverse := by
    unfold shr
    rw [hR, List.reverse_append]
    rcases hor with rfl | rfl
    ·rfl
    ·rw [Zjb, List.reverse_reverse]
   rw [this]
   exact ⟨he0, hL, hB⟩
  rcases Nat.eq_zero_or_pos t with ht0 | ht0
  ·repeat refine Zab ?_
   first|refine Zaa ?_|refine Zad ?_
   refine Zag ?_
   refine Zac (ZeN (k := .i64) (a := (t : Int) - 1) (b := 0) rfl rfl ?_)
   rw [decide_eq_false (by omega : ¬ (0 : Int) <= (t : Int) - 1)]
   refine Zag ?_
   refine Zal ?_
   refine Zal ?_
   refine Zac (Zak (v := vT false) rfl rfl ?_)
   refine Zaf ?_
   refine ZaC (t := false) rfl (fun hf => by cases hf) (fun _ => ?_)
   refine Zbu ?_
   exact ⟨rfl, by simp only [EV,Nat.reduceEqDiff,↓reduceIte,he];try rfl, (hend he.1 (.inl ht0)).2⟩
  rcases Nat.eq_zero_or_pos m' with hm0 | hm0
  ·repeat refine Zab ?_
   first|refine Zaa ?_|refine Zad ?_
   refine Zag ?_
   refine Zac (ZeN (k := .i64) (a := (t : Int) - 1) (b := 0) rfl rfl ?_)
   rw [decide_eq_true (by omega : (0 : Int) <= (t : Int) - 1)]
   refine Zag ?_
   refine Zau ?_
   refine Zcb rfl he.2.2.1 ?_
   refine Zau ?_
   refine Zb3 (k := .i64) (a := (m' : Int)) (b := 0) rfl rfl ?_
   rw [decide_eq_false (by omega : ¬ (0 : Int) < (m' : Int))]
   refine Zac (Zaj (v := vT false) rfl rfl ?_)
   refine Zaf ?_
   refine ZaC (t := false) rfl (fun hf => by cases hf) (fun _ => ?_)
   refine Zbu ?_
   exact ⟨rfl, by simp only [EV,Nat.reduceEqDiff,↓reduceIte,he];try rfl, (hend he.1 (.inr hm0)).2⟩
  clear hend
  obtain ⟨j, rfl⟩ : ∃ j, t = j + 1 := ⟨t - 1, by omega⟩
  have hj : j < pcs.length := by omega
  have htk : pcs.take (j + 1) = pcs.take j ++ [pcs[j]] := List.take_succ_eq_append_getElem hj
  have hpj := hs _ (List.getElem_mem hj)
  generalize hp : pcs[j] = p at htk hpj
  have hlj : (pcs.take (j + 1) ++ done.reverse).length = pcs.length := by
   rw [List.length_append, List.length_take, List.length_reverse, hdl]; omega
  have hRj : Zkz f0.b m' (pcs.take (j + 1)).reverse = (if p.1 = f0.b then (p.1, p.2 - min m' p.2) :: Zkz f0.b (m' - min m' p.2) (pcs.take j).reverse else p :: Zkz f0.b m' (pcs.take j).reverse) := by
   rw [htk, List.reverse_append]
   rfl
  have hget : (pcs.take (j + 1) ++ done.reverse)[j]'(by omega) = p := by
   rw [List.getElem_append_left (by rw [List.length_take]; omega), List.getElem_take]
   exact hp
  have hj1 : ((j : Int) + 1 - 1) = (j : Int) := by omega
  rw [show (((j + 1 : Nat) : Int) - 1) = (j : Int) by omega] at he
  repeat refine Zab ?_
  first|refine Zaa ?_|refine Zad ?_
  refine Zag ?_
  refine Zac (ZeN (k := .i64) (a := (j : Int)) (b := 0) rfl rfl ?_)
  rw [decide_eq_true (by omega : (0 : Int) <= (j : Int))]
  refine Zag ?_
  refine Zau ?_
  refine Zcb rfl he.2.2.1 ?_
  refine Zau ?_
  refine Zb3 (k := .i64) (a := (m' : Int)) (b := 0) rfl rfl ?_
  rw [decide_eq_true (by omega : (0 : Int) < (m' : Int))]
  refine Zac (Zaj (v := vT true) rfl rfl ?_)
  refine Zaf (kp5 0 1 2 6 34 fun e he => ?_)
  refine ZaC (t := true) (by simp only [EV,Nat.reduceEqDiff,↓reduceIte,he];try rfl) (fun _ => ?_) (fun hf => by cases hf)
  refine ZaL (Zce (fun env υ => ∃ (m' : Nat) (done : List (Nat × Nat)), (env 0 = ptr bb 0 /\ env 1 = ptr f0.b 0 /\ env 2 = vI m' /\ env 6 = vI j) /\ m' <= m /\ Zkz f0.b m pcs.reverse = done ++ Zkz f0.b m' (pcs.take j).reverse /\ done.length = pcs.length - j /\ Hd υ 145 2 pv pcs.length (pcC (pcs.take j ++ done.reverse)) /\ But (fun c => hbk pv = some c) σ1 υ) ?_ ?_)
  ·refine Zct ?_
   repeat refine Zab ?_
   first|refine Zaa ?_|refine Zad ?_
   refine Zag ?_
   refine Zac (Zav (v := ptr bb 0) (by simp only [EV,Nat.reduceEqDiff,↓reduceIte,he];try rfl) rfl ?_)
   refine Zac (Zae (b := bb) (o := 0) (by simp only [EV,Nat.reduceEqDiff,↓reduceIte,he];try rfl) Zej rfl ?_)
   refine Zac (Zah (b := bb) (o := 0 + 0) (r := pv) (by simp only [EV,Nat.reduceEqDiff,↓reduceIte,he];try rfl) hobj ZfT Zel rfl ?_)
   refine Zag ?_
   refine Zac (Zb0 (k := .i64) (j := j) (by simp only [EV,Nat.reduceEqDiff,↓reduceIte,he];try rfl) (by simp only [EV,Nat.reduceEqDiff,↓reduceIte,he];try rfl) Zck Zb7 hL hj fun b hb => ?_)
   obtain ⟨c, all, hpv, q1, q2, q3, q4, q5, q6⟩ := hL.at_ hb
   have hq2 := hL.len
   have hall : ∀ o < 2, all[j * 2 + o]? = (pcC (pcs.take (j + 1) ++ done.reverse))[j * 2 + o]? := fun o ho => by
    rw [<- q4, List.getElem?_take_of_lt (by omega)]
   have hcj : (pcC (pcs.take (j + 1) ++ done.reverse)).drop (j * 2) = ptr p.1 0 :: .raw (.int .i64 (p.2 : Int)) :: pcC ((pcs.take (j + 1) ++ done.reverse).drop (j + 1)) := by
    rw [Zii, List.drop_eq_getElem_cons (by omega), hget]
    rfl
   have hc0 : all[j * 2 + 0]? = some (ptr p.1 0) := by
    rw [hall 0 (by omega), <- List.getElem?_drop, hcj]
    rfl
   have hc1 : all[j * 2 + 1]? = some (.raw (.int .i64 (p.2 : Int))) := by
    rw [hall 1 (by omega), <- List.getElem?_drop, hcj]
    rfl
   refine Zac (Zae (b := b) (o := j * 2) (by simp only [EV,Nat.reduceEqDiff,↓reduceIte,he];try rfl) ZgW rfl ?_)
   refine Zac (Zah (b := b) (o := j * 2 + 0) (r := ptr p.1 0) (by simp only [EV,Nat.reduceEqDiff,↓reduceIte,he];try rfl) q1 ZpH ZpG hc0 ?_)
   refine Zag ?_
   obtain ⟨fp, hfp, hfpb⟩ := h1.inn p (by rw [<- hp]; exact List.getElem_mem hj)
   refine ZpQ (m := 0) (p := p.1) (q := f0.b) (cp := [fp.v]) (cq := [v']) ZgZ ZpY (by simp only [EV,Nat.reduceEqDiff,↓reduceIte,he];try rfl) (by simp only [EV,Nat.reduceEqDiff,↓reduceIte,he];try rfl) (hB.keep _ _ (by rw [<- hfpb]; exact h1.pvF hfp) (by rw [<- hfpb]; exact (h1.file fp hfp).1)) (hB.keep _ _ (h.pvF hf0) hfile0) ?_
   refine Zaf (kp5 0 1 2 6 46 fun e he => ?_)
   refine ZaQ (t := decide (p.1 = f0.b)) he.2.2.2.2 (fun hpf => ?_) (fun hpf => ?_)
   ·have hpf : p.1 = f0.b := of_decide_eq_true hpf
    rw [if_pos hpf] at hRj
    repeat refine Zab ?_
    first|refine Zaa ?_|refine Zad ?_
    refine Zag ?_
    refine Zag ?_
    refine Zac (Zav (v := ptr bb 0) rfl rfl ?_)
    refine Zac (Zae (b := bb) (o := 0) rfl Zej rfl ?_)
    refine Zac (Zah (b := bb) (o := 0 + 0) (r := pv) rfl hobj ZfT Zel rfl ?_)
    refine Zag ?_
    refine Zac (Zb0 (k := .i64) (j := j) (by exact rfl) (by exact rfl) Zck Zb7 hL hj fun b' hb' => ?_)
    obtain rfl : b = b' := by rw [hb] at hb'; injection hb'
    refine Zac (Zae (b := b) (o := j * 2) rfl ZgW rfl ?_)
    refine Zac (Zah (b := b) (o := j * 2 + 1) (r := .raw (.int .i64 (p.2 : Int))) rfl q1 fa9 ZbG hc1 ?_)
    refine Zac (Zru m' p.2 rfl rfl ?_)
    refine Zag ?_
    refine Zaf (kp5 0 1 2 6 7 ?_)
    clear he e
    intro e he
    repeat refine Zab ?_
    first|refine Zaa ?_|refine Zad ?_
    refine Zag ?_
    refine Zac (Zav (v := ptr bb 0) rfl rfl ?_)
    refine Zac (Zae (b := bb) (o := 0) rfl Zej rfl ?_)
    refine Zac (Zah (b := bb) (o := 0 + 0) (r := pv) rfl hobj ZfT Zel rfl ?_)
    refine Zag ?_
    refine Zac (Zb0 (k := .i64) (j := j) (by exact rfl) (by exact rfl) Zck Zb7 hL hj fun b' hb' => ?_)
    obtain rfl : b = b' := by rw [hb] at hb'; injection hb'
    refine Zac (Zae (b := b) (o := j * 2) rfl ZgW rfl ?_)
    refine Zac (Zah (b := b) (o := j * 2 + 1) (r := .raw (.int .i64 (p.2 : Int))) rfl q1 fa9 ZbG hc1 ?_)
    refine Zag ?_
    refine Zac (ZcW (p.2 : Int) ((min m' p.2 : Nat) : Int) rfl rfl (by omega) (by omega) ?_)
    refine Zac (Zb0 (k := .i64) (j := j) (by exact rfl) (by exact rfl) Zck Zb7 hL hj fun b' hb' => ?_)
    obtain rfl : b = b' := by rw [hb] at hb'; injection hb'
    refine Zac (Zae (b := b) (o := j * 2) rfl ZgW rfl ?_)
    refine Zac (Zko (b := b) (o := j * 2 + 1) (r := .raw (.int .i64 ((p.2 : Int) - ((min m' p.2 : Nat) : Int)))) rfl rfl ZbG hL hb (by omega) ⟨rfl, rfl, rfl⟩ fun υ2 hL2 hB2 => ?_)
    refine Zaf (kp5 0 1 2 6 7 fun e he => ?_)
    refine Zad (Zag ?_)
    refine Zag ?_
    refine Zac (ZcW (m' : Int) ((min m' p.2 : Nat) : Int) rfl rfl (by omega) (by omega) ?_)
    refine Zag ?_
    refine Zaf ?_
    have hset : (pcC (pcs.take (j + 1) ++ done.reverse)).set (j * 2 + 1) (.raw (.int .i64 ((p.2 : Int) - ((min m' p.2 : Nat) : Int)))) = pcC (pcs.take j ++ (done ++ [(p.1, p.2 - min m' p.2)]).reverse) := by
     have e1 : pcs.take (j + 1) ++ done.reverse = pcs.take j ++ (p :: done.reverse) := by rw [htk, List.append_assoc]; rfl
     have e2 : (pcC (pcs.take j)).length = j * 2 := by rw [ZpO, List.length_take, Nat.min_eq_left (by omega)]
     rw [e1, List.reverse_append, Zid, Zid, List.set_append_right _ _ (by omega), e2, Nat.add_sub_cancel_left]
     show _ = pcC (pcs.take j) ++ (ptr p.1 0 :: .raw (.int .i64 ((p.2 - min m' p.2 : Nat) : Int)) :: pcC done.reverse)
     rw [Int.ofNat_sub (Nat.min_le_right _ _)]
     rfl
    refine ⟨rfl, m' - min m' p.2, done ++ [(p.1, p.2 - min m' p.2)], ⟨by simp only [EV,Nat.reduceEqDiff,↓reduceIte,he];try rfl, by simp only [EV,Nat.reduceEqDiff,↓reduceIte,he];try rfl, ?_, by simp only [EV,Nat.reduceEqDiff,↓reduceIte,he];try rfl⟩, by omega, ?_, by rw [List.length_append, hdl]; simp; omega, hset ▸ hL2, hB.trans hB2⟩
    ·rw [Int.ofNat_sub (Nat.min_le_left _ _)]
     simp only [EV,Nat.reduceEqDiff,↓reduceIte,he];try rfl
    ·rw [hR, hRj, List.append_assoc]
     rfl
   ·have hpf : ¬ p.1 = f0.b := of_decide_eq_false hpf
    rw [if_neg hpf] at hRj
    refine Zbm ?_
    refine ⟨rfl, m', done ++ [p], ⟨by simp only [EV,Nat.reduceEqDiff,↓reduceIte,he];try rfl, by simp only [EV,Nat.reduceEqDiff,↓reduceIte,he];try rfl, by simp only [EV,Nat.reduceEqDiff,↓reduceIte,he];try rfl, by simp only [EV,Nat.reduceEqDiff,↓reduceIte,he];try rfl⟩, hmm, ?_, by rw [List.length_append, hdl]; simp; omega, ?_, hB⟩
    ·rw [hR, hRj, List.append_assoc]
     rfl
    ·have e3 : pcs.take j ++ (done ++ [p]).reverse = pcs.take (j + 1) ++ done.reverse := by
      rw [List.reverse_append, htk, List.append_assoc]
      rfl
     rw [e3]
     exact hL
  ·clear he e hL hB hobj hR hdl hlj hRj hget hmm hm0
   rintro e υ ⟨m'', done', he, g1, g2, g3, g4, g5⟩
   refine Zad (Zag ?_)
   refine Zac (ZcW (j : Int) 1 rfl rfl (by omega) (by omega) ?_)
   refine Zag ?_
   refine Zaf ?_
   show ∃ n', n' < _ /\ _
   exact ⟨_, Nat.lt_succ_self j, j, m'', done', rfl, by omega, ⟨by simp only [EV,Nat.reduceEqDiff,↓reduceIte,he];try rfl, by simp only [EV,Nat.reduceEqDiff,↓reduceIte,he];try rfl, by simp only [EV,Nat.reduceEqDiff,↓reduceIte,he];try rfl, by simp only [EV,Nat.reduceEqDiff,↓reduceIte,he];try rfl⟩, g1, g2, g3, g4, g5⟩
 clear he e
 rintro e υ ⟨he, hL, hB⟩
 have hobj : υ.blk bb = some (.own 128 [pv, Zef mb, .raw (.int .i64 size)]) := hB.keep _ _ h1.pvB h1.obj
 refine Zad (Zag ?_)
 refine Zag ?_
 refine Zac (Zav (v := ptr bb 0) rfl rfl ?_)
 refine Zac (Zae (b := bb) (o := 0) rfl Zej rfl ?_)
 refine Zac (Zah (b := bb) (o := 0 + 0) (r := pv) rfl hobj ZfT Zel rfl ?_)
 refine Zao [pv, fnV 133 #[]] ?_
 rw [<- ZmC f0.b m pcs] at hL
 refine ZmA (q := fun p => decide (p.2 = 0)) hL (by rw [ZmC]; exact hl) (fun υ' _ p hp K' hK' => ZjM K' hK') fun τ pv' d1 d2 d3 => ?_
 refine Zac (Zav (v := ptr bb 0) rfl rfl ?_)
 refine Zac (Zae (b := bb) (o := 0) rfl Zej rfl ?_)
 refine Zac (ZaI (b := bb) (o := 0 + 0) (v := pv') rfl rfl (d2.keep _ _ h1.pvB hobj) Zel d1.oneV (Nat.zero_lt_succ _) fun τ2 hb2 k2 => ?_)
 refine Zaf ?_
 have hB2 : But (fun c => c = bb \/ hbk pv = some c) σ1 τ2 := ((hB.trans d2).sub fun c hc => .inr hc).trans (k2.sub fun c hc => .inl hc)
 refine ⟨_, Zcu rfl, hK τ2 v' pv' ((h1.setP hB2 hb2 (d1.but k2 fun c hc hq => ?_) fun p hp => ?_).mono fun c hc => ?_) (hS1.trans (hB2.sub fun c hc => h1.pvS hc))⟩
 ·rw [hq] at hc
  exact h1.pvB (d3 _ hc)
 ·obtain ⟨p', hp', hpp⟩ := Zrt (List.mem_filter.1 hp).1
  rw [<- hpp]
  exact h1.inn p' hp'
 ·rcases hc with hc | hc
  ·exact hc
  ·exact h1.pvS (.inr (d3 _ hc))
end
def Ze5 (n : Nat) : List UInt8 := if h : n < 128 then [UInt8.ofNat n] else UInt8.ofNat (n % 128 + 128) :: Ze5 (n / 128)
termination_by n
decreasing_by omega
theorem Zg6 {n : Nat} (h : n < 128) : Ze5 n = [UInt8.ofNat n] := by rw [Ze5, dif_pos h]
theorem Zik {n : Nat} (h : ¬ n < 128) : Ze5 n = UInt8.ofNat (n % 128 + 128) :: Ze5 (n / 128) := by rw [Ze5, dif_neg h]
theorem Zn8 (k : Nat) : ∀ n, n < 128 ^ (k + 1) -> (Ze5 n).length <= k + 1 := by
 induction k with
 | zero => intro n h; rw [Zg6 (by simpa using h)]; simp
 | succ k ih =>
  intro n h
  by_cases h1 : n < 128
  ·rw [Zg6 h1]; simp
  ·rw [Zik h1, List.length_cons]
   have := ih (n / 128) (by rw [Nat.pow_succ] at h; omega)
   omega
theorem Zdi {n : Nat} (h : n <= 4611686018427387903) : (Ze5 n).length <= 9 := Zn8 8 n (by omega)
theorem ZkA (n : Nat) : 1 <= (Ze5 n).length := by
 by_cases h : n < 128
 ·rw [Zg6 h]; simp
 ·rw [Zik h]; simp
theorem Zrv (m : Nat) (h : m < 128) : m ||| 128 = m + 128 := by
 have := Nat.two_pow_add_eq_or_of_lt (i := 7) (b := m) (by omega) 1
 rw [Nat.or_comm]
 simpa [Nat.add_comm] using this.symm
theorem ZcM (w n : Nat) : BitVec.ofInt w (n : Int) = BitVec.ofNat w n := by
 apply BitVec.eq_of_toNat_eq
 simp
theorem ZmD (n : Nat) : IntKind.u8.wrap ((BitVec.ofInt (IntKind.u8.bits) (IntKind.u8.wrap (n : Int)) ||| BitVec.ofInt (IntKind.u8.bits) 128).toNat) = ((UInt8.ofNat (n % 128 + 128)).toNat : Int) := by
 have hb : IntKind.u8.bits = 8 := rfl
 have hw : IntKind.u8.wrap (n : Int) = ((n % 256 : Nat) : Int) := by rw [IntKind.wrap_u8]; omega
 have h8 : (BitVec.ofNat 8 (n % 256) ||| BitVec.ofNat 8 128).toNat = n % 128 + 128 := by
  rw [BitVec.toNat_or, BitVec.toNat_ofNat, BitVec.toNat_ofNat]
  have hs : n % 256 % 2 ^ 8 = n % 128 \/ n % 256 % 2 ^ 8 = n % 128 + 128 := by omega
  rw [show 128 % 2 ^ 8 = 128 from rfl]
  rcases hs with hs | hs
  ·rw [hs, Zrv _ (by omega)]
  ·rw [hs, <- Zrv _ (show n % 128 < 128 by omega), Nat.or_assoc, Nat.or_self]
 rw [hb, hw, ZcM, show (128 : Int) = ((128 : Nat) : Int) from rfl, ZcM, h8, IntKind.wrap_u8, UInt8.toNat_ofNat']
 omega
theorem Ze6 (n : Nat) : IntKind.u8.wrap (n : Int) = ((UInt8.ofNat n).toNat : Int) := by
 rw [IntKind.wrap_u8, UInt8.toNat_ofNat']
 omega
theorem Zsv (n : Nat) : (n : Int).fdiv (2 ^ min (7 : Int).toNat (IntKind.i64.bits)) = ((n / 128 : Nat) : Int) := by
 rw [show (2 : Int) ^ min (7 : Int).toNat (IntKind.i64.bits) = 128 from rfl, Int.fdiv_eq_ediv_of_nonneg _ (by omega)]
 rfl
theorem ZmE (b : UInt8) (acc i : Nat) (hi : i <= 8) (ha : acc < 2 ^ (7 * i)) (s : Int) (hs : s.toNat = 7 * i) :
 (IntKind.i64.wrap ((BitVec.ofInt (IntKind.i64.bits) (acc : Int) ||| BitVec.ofInt (IntKind.i64.bits) (IntKind.i64.wrap ((IntKind.i64.wrap (IntKind.u8.wrap ((BitVec.ofInt (IntKind.u8.bits) (b.toNat : Int) &&& BitVec.ofInt (IntKind.u8.bits) 127).toNat))) * 2 ^ min s.toNat (IntKind.i64.bits)))).toNat)) = ((acc + b.toNat % 128 * 2 ^ (7 * i) : Nat) : Int) := by
 have hb : IntKind.i64.bits = 64 := rfl
 have hb8 : IntKind.u8.bits = 8 := rfl
 have hbl := b.toNat_lt
 have h8 : (BitVec.ofNat 8 b.toNat &&& BitVec.ofNat 8 127).toNat = b.toNat % 128 := by
  rw [BitVec.toNat_and, BitVec.toNat_ofNat, BitVec.toNat_ofNat, Nat.mod_eq_of_lt hbl, show 127 % 2 ^ 8 = 2 ^ 7 - 1 from rfl, Nat.and_two_pow_sub_one_eq_mod]
 have hp : (2 : Nat) ^ (7 * i) <= 2 ^ 56 := Nat.pow_le_pow_right (by omega) (by omega)
 have hm : b.toNat % 128 * 2 ^ (7 * i) <= 127 * 2 ^ 56 := Nat.mul_le_mul (by omega) hp
 have hmul : ((b.toNat % 128 : Nat) : Int) * 2 ^ (7 * i) = ((b.toNat % 128 * 2 ^ (7 * i) : Nat) : Int) := by simp
 rw [hb, hb8, ZcM 8, show (127 : Int) = ((127 : Nat) : Int) from rfl, ZcM 8, h8, IntWalk.u8_in _ (by omega), IntWalk.i64_in (((b.toNat % 128 : Nat) : Int)) (by omega), hs, Nat.min_eq_left (by omega), hmul]
 generalize hq : b.toNat % 128 * 2 ^ (7 * i) = q at hm
 rw [IntWalk.i64_in ((q : Int)) (by omega), ZcM, ZcM, BitVec.toNat_or, BitVec.toNat_ofNat, BitVec.toNat_ofNat, Nat.mod_eq_of_lt (show acc < 2 ^ 64 by omega), Nat.mod_eq_of_lt (show q < 2 ^ 64 by omega)]
 have hor : acc ||| q = acc + q := by
  rw [<- hq, Nat.mul_comm, Nat.or_comm, Nat.add_comm]
  exact (Nat.two_pow_add_eq_or_of_lt ha _).symm
 rw [hor, IntWalk.i64_in _ (by omega)]
section
variable {P : Program} {ops : Array Oper} {env : Env} {σ : St} {K : Env -> St -> Prop} {d : Option Nat} {ty ty' t : TypeId} {pos : String} {af : Array Edge} {x y : Operand}
theorem Zrw {k : IntKind} {a b r : Int} (hx : ev env x = .raw (.int k a)) (hy : ev env y = .raw (.int k b)) (hw : k.wrap (BitVec.ofInt k.bits a ||| BitVec.ofInt k.bits b).toNat = r) (h : K (env.put d (.raw (.int k r))) σ) : aOp P ops ⟨d, .binOp .or t x y ty', ty, pos, af, none⟩ env σ K :=
 ZcP hx hy (fun w _ _ => by subst hw; simp [eqGuard_at_int, binOp, Op.intArith, Op.intCmp, Op.intBits]; try rfl) h
theorem Zn9 {k : IntKind} {a b r : Int} (hx : ev env x = .raw (.int k a)) (hy : ev env y = .raw (.int k b)) (hw : k.wrap (BitVec.ofInt k.bits a &&& BitVec.ofInt k.bits b).toNat = r) (h : K (env.put d (.raw (.int k r))) σ) : aOp P ops ⟨d, .binOp .and t x y ty', ty, pos, af, none⟩ env σ K :=
 ZcP hx hy (fun w _ _ => by subst hw; simp [eqGuard_at_int, binOp, Op.intArith, Op.intCmp, Op.intBits]; try rfl) h
theorem ZpZ {k k' : IntKind} {a b r : Int} (hx : ev env x = .raw (.int k a)) (hy : ev env y = .raw (.int k' b)) (hb : 0 <= b) (hw : k.wrap (a * 2 ^ min b.toNat k.bits) = r) (h : K (env.put d (.raw (.int k r))) σ) : aOp P ops ⟨d, .binOp .shl t x y ty', ty, pos, af, none⟩ env σ K :=
 ZcP hx hy (fun w _ _ => by
  subst hw
  rw [AV.val_raw, AV.val_raw, eqGuard_at_int, pure_bind, binOp_shl]
  unfold Op.shift
  rw [if_neg (by omega)]
  rfl) h
end
def top : Nat := 4611686018427387903
def Zgv : Nat -> Nat -> Nat -> List UInt8 -> Option (Nat × List UInt8)
 | 0, _, _, _ => none
 | k + 1, i, acc, l => match l with
  | [] => none
  | b :: l => if b.toNat < 128 then (if (0 < i /\ b.toNat = 0) \/ top < acc + b.toNat % 128 * 2 ^ (7 * i) then none else some (acc + b.toNat % 128 * 2 ^ (7 * i), l)) else Zgv k (i + 1) (acc + b.toNat % 128 * 2 ^ (7 * i)) l
def ZqP (most : Nat) (l : List UInt8) : Option (Nat × List UInt8) := (Zgv 9 0 0 l).bind fun p => if most < p.1 then none else some p
theorem ZeF : ∀ (k i acc : Nat) (l : List UInt8) {n : Nat} {r : List UInt8}, Zgv k i acc l = some (n, r) -> n <= top /\ r.length + 1 <= l.length /\ ∃ m, r = l.drop m /\ m <= l.length
 | 0, _, _, _, _, _, h => by cases h
 | k + 1, i, acc, [], _, _, h => by cases h
 | k + 1, i, acc, b :: l, n, r, h => by
  unfold Zgv at h
  dsimp only at h
  split at h
  ·split at h
   ·cases h
   ·rename_i h2
    injection h with h
    injection h with h3 h4
    subst h3 h4
    exact ⟨by omega, by simp, 1, rfl, by simp⟩
  ·obtain ⟨g1, g2, m, g3, g4⟩ := ZeF k _ _ l h
   exact ⟨g1, by rw [List.length_cons]; omega, m + 1, g3, by rw [List.length_cons]; omega⟩
theorem ZdZ : Za3 Tryz.prog 109 = some [(0, some 1, some false), (1, some 1, some false), (2, some 1, some false)] := by kernel_rfl
theorem ZeG : Za3 Tryz.prog 111 = some [(0, some 3, some true)] := by kernel_rfl
structure WAt (σ : St) (S : Nat -> Prop) (wb : Nat) (sp : Bool) (bs : List UInt8) : Prop where
 ex : ∃ v, σ.blk wb = some (.own 111 [vT true, vT sp, v]) /\ Hd σ 5 1 v bs.length (bys bs) /\ ∀ b, hbk v = some b -> S b
 ws : S wb
 used : ∀ b, S b -> σ.used b
def WTo (σ : St) (S : Nat -> Prop) (τ : St) (wb : Nat) (sp : Bool) (bs : List UInt8) : Prop := ∃ S', WAt τ S' wb sp bs /\ But S σ τ /\ ∀ b, S' b -> S b \/ Za9 σ b
section
variable {σ τ υ : St} {S : Nat -> Prop} {wb : Nat} {sp sp' : Bool} {bs bs' : List UInt8}
theorem WAt.ext (h : WAt σ S wb sp bs) (k : Ext σ τ) : WAt τ S wb sp bs := by
 obtain ⟨v, h1, h2, h3⟩ := h.ex
 exact ⟨⟨v, k.keep _ _ h1, h2.ext k, h3⟩, h.ws, fun b hb => k.used _ (h.used b hb)⟩
theorem WAt.to (h : WAt σ S wb sp bs) : WTo σ S σ wb sp bs := ⟨S, h, .refl _ _, fun b hb => .inl hb⟩
theorem WAt.toE (h : WAt σ S wb sp bs) (k : Ext σ τ) : WTo σ S τ wb sp bs := ⟨S, h.ext k, k.but, fun b hb => .inl hb⟩
theorem WTo.and_ {S' : Nat -> Prop} (k1 : But S σ τ) (k2 : ∀ b, S' b -> S b \/ Za9 σ b) (h : WTo τ S' υ wb sp' bs') (hu : ∀ b, S b -> σ.used b) : WTo σ S υ wb sp' bs' := by
 obtain ⟨S2, h1, h2, h3⟩ := h
 refine ⟨S2, h1, k1.ext2 (fun b hb => (k2 b hb).imp id fun q => q.1) h2, fun b hb => (h3 b hb).elim (k2 b) fun q => .inr ⟨k1.noneOfB hu q.2 q.1, fun c => q.2 (k1.used _ c)⟩⟩
end
theorem ZcF (a b : List UInt8) : bys (a ++ b) = bys a ++ bys b := by simp [bys]
theorem ZjN (A : Option Addr) {m c : Nat} {xs : List UInt8} {σ : St} (hm : xs.length = m) (hA : A = none -> m = 0) : Src σ 1 (.lst A m c (bys xs)) m (bys xs) := by
 have h := Zcv (σ := σ) (sz := 1) (A := A) (c := c) (rest := []) (cells := bys xs) (by rw [Zb1, hm, Nat.mul_one]) (ZeE xs) hA
 rwa [List.append_nil] at h
theorem ZjO {σ : St} {K : AV -> St -> Prop} {S : Nat -> Prop} {wb : Nat} {sp : Bool} {bs xs : List UInt8} {x : AV} (hW : WAt σ S wb sp bs) (hx : Src σ 1 x xs.length (bys xs)) (hl : bs.length + xs.length <= 100000000)
 (hK : ∀ τ, WTo σ S τ wb sp (bs ++ xs) -> K (.tup []) τ) : Zan Tryz.prog 110 [ptr wb 0, x] σ K := by
 obtain ⟨v, h1, h2, h3⟩ := hW.ex
 refine Zai Zam Tryz.func110 rfl rfl rfl (Nat.le_of_ble_eq_true rfl) ?_
 refine ZbL 0 1 (v0 := ptr wb 0) (v1 := x) rfl rfl ?_
 intro e he
 repeat refine Zab ?_
 first|refine Zaa ?_|refine Zad ?_
 refine Zem (b := wb) (r := vT true) he.1 ZdZ rfl h1 rfl ZiQ Zhu fun u1 u2 u3 => ?_
 refine Zaf (kp3 0 1 7 fun e he => ?_)
 refine ZaQ (t := true) he.2.2 (fun ht => ?_) (fun ht => by cases ht)
 repeat refine Zab ?_
 first|refine Zaa ?_|refine Zad ?_
 refine Zag ?_
 refine Zem (b := wb) (r := v) he.1 ZdZ rfl h1 rfl fa5 Zb6 fun u1 u2 u3 => ?_
 refine Zag ?_
 refine Zac (ZaZ (m := xs.length) (news := bys xs) rfl rfl Zbw Zcn ZeO ZgQ rfl (by omega) h2 hx (by unfold maxLen; omega) (by omega) fun v2 τ hv2 hB hn => ?_)
 have hne : hbk v ≠ some wb := fun q => by
  obtain ⟨all, q2⟩ := h2.blk q
  rw [q2] at h1
  cases h1
 have hb1 : τ.blk wb = some (.own 111 [vT true, vT sp, v]) := hB.keep _ _ hne h1
 refine ZdP (b := wb) rfl ZdZ rfl fun u1 => ?_
 refine Zac (ZaI (b := wb) (o := 0 + 2) (v := v2) rfl rfl hb1 Zb6 hv2.oneV (by simp) fun τ2 hb2 k2 => ?_)
 refine Zaf ?_
 have hne2 : hbk v2 ≠ some wb := fun q => by
  obtain ⟨all, q2⟩ := hv2.blk q
  rw [q2] at hb1
  cases hb1
 refine ⟨_, Zcu rfl, hK τ2 ⟨fun b => S b \/ hbk v2 = some b, ⟨⟨v2, hb2, ?_, fun b hb => .inr hb⟩, .inl hW.ws, fun b hb => ?_⟩, ?_, fun b hb => ?_⟩⟩
 ·rw [List.length_append, ZcF]
  exact hv2.but k2 fun b hb q => hne2 (q ▸ hb)
 ·rcases hb with hb | hb
  ·exact k2.used _ (hB.used _ (hW.used b hb))
  ·exact k2.used _ (hv2.used hb)
 ·exact (hB.sub fun c hc => h3 c hc).trans (k2.sub fun c hc => by rw [hc]; exact hW.ws)
 ·rcases hb with hb | hb
  ·exact .inl hb
  ·exact (hn b hb).elim (fun q => .inl (h3 b q)) fun q => .inr q
def nOk (x : Int) : Bool := decide (0 <= x /\ x <= 4611686018427387903)
def nB (x : Int) : List UInt8 := if nOk x then Ze5 x.toNat else []
theorem Zfx (x : Int) : (nB x).length <= 9 := by
 unfold nB
 split
 ·rename_i h
  have := of_decide_eq_true h
  exact Zdi (by omega)
 ·simp
theorem ZhO {σ : St} {K : AV -> St -> Prop} {S : Nat -> Prop} {wb : Nat} {sp : Bool} {bs : List UInt8} {x : Int} (hW : WAt σ S wb sp bs) (hl : bs.length <= 90000000)
 (hK : ∀ τ, WTo σ S τ wb (sp || !nOk x) (bs ++ nB x) -> K (.tup []) τ) : Zan Tryz.prog 108 [ptr wb 0, vI x] σ K := by
 refine Zai Zam Tryz.func108 rfl rfl rfl (Nat.le_of_ble_eq_true rfl) ?_
 refine ZbL 0 1 (v0 := ptr wb 0) (v1 := vI x) rfl rfl ?_
 intro e he
 refine Zab (Zce (fun e' υ => (e' 0 = ptr wb 0 /\ e' 1 = vI x /\ e' 9 = vT (!nOk x)) /\ σ = υ) ?_ ?_)
 ·refine Zad ?_
  refine Zag ?_
  refine Zac (Zgh (k := .i64) (a := x) (b := 0) rfl rfl ?_)
  refine Zag ?_
  by_cases h0 : x < 0
  ·rw [decide_eq_true h0]
   refine Zal ?_
   refine Zal ?_
   refine Zac (Zaj (v := vT true) rfl rfl ?_)
   refine Zaf ?_
   have hq : nOk x = false := decide_eq_false (by omega)
   rw [hq]
   exact ⟨rfl, ⟨by simp only [EV,Nat.reduceEqDiff,↓reduceIte,he];try rfl, by simp only [EV,Nat.reduceEqDiff,↓reduceIte,he];try rfl, by simp only [EV,Nat.reduceEqDiff,↓reduceIte,he];try rfl⟩, rfl⟩
  ·rw [decide_eq_false h0]
   refine Zau ?_
   refine Zcb rfl he.2 ?_
   refine Zau ?_
   refine Zb3 (k := .i64) (a := x) (b := 4611686018427387903) rfl rfl ?_
   refine Zac (Zak (v := vT (decide (4611686018427387903 < x))) rfl rfl ?_)
   refine Zaf ?_
   have hq : (!nOk x) = decide (4611686018427387903 < x) := by
    unfold nOk
    by_cases h1 : 4611686018427387903 < x
    ·rw [decide_eq_true h1, decide_eq_false (by omega)]; rfl
    ·rw [decide_eq_false h1, decide_eq_true (by omega)]; rfl
   rw [hq]
   exact ⟨rfl, ⟨by simp only [EV,Nat.reduceEqDiff,↓reduceIte,he];try rfl, by simp only [EV,Nat.reduceEqDiff,↓reduceIte,he];try rfl, by simp only [EV,Nat.reduceEqDiff,↓reduceIte,he];try rfl⟩, rfl⟩
 clear he e
 rintro e _ ⟨he, rfl⟩
 obtain ⟨v, h1, h2, h3⟩ := hW.ex
 refine ZaC (t := !nOk x) he.2.2 (fun ht => ?_) (fun ht => ?_)
 ·have hq : nOk x = false := by simpa using ht
  repeat refine Zab ?_
  first|refine Zaa ?_|refine Zad ?_
  refine Zag ?_
  refine ZdP (b := wb) rfl ZdZ rfl fun u1 => ?_
  refine Zac (ZaI (b := wb) (o := 0 + 1) (v := vT true) rfl rfl h1 Zhu ⟨rfl, rfl, rfl⟩ (by simp) fun τ hb k => ?_)
  refine Zaf (ZbB ?_)
  have hne : hbk v ≠ some wb := fun q => by
   obtain ⟨all, q2⟩ := h2.blk q
   rw [q2] at h1
   cases h1
  refine ⟨_, Zcu rfl, hK τ ?_⟩
  unfold nB
  rw [hq, Bool.not_false, Bool.or_true, if_neg Bool.false_ne_true, List.append_nil]
  exact ⟨S, ⟨⟨v, hb, h2.but k fun b hb q => hne (q ▸ hb), h3⟩, hW.ws, fun b hb => k.used _ (hW.used b hb)⟩, k.sub fun c hc => by rw [hc]; exact hW.ws, fun b hb => .inl hb⟩
 have hq : nOk x = true := by simpa using ht
 have hx := of_decide_eq_true hq
 have hnB : nB x = Ze5 x.toNat := by unfold nB; rw [hq, if_pos rfl]
 have h9 := Zfx x
 rw [hnB] at h9
 obtain ⟨X, rfl⟩ : ∃ X : Nat, x = (X : Int) := ⟨x.toNat, by omega⟩
 rw [Int.toNat_natCast] at hnB h9
 refine ZaL (ZaF (Za4 (fun μ env υ => ∃ (N : Nat) (b' : List UInt8), μ = N /\ N <= X /\ (env 0 = ptr wb 0 /\ env 1 = vI N) /\ WTo σ S υ wb sp b' /\ b' ++ Ze5 N = bs ++ Ze5 X) ⟨_, X, bs, rfl, Nat.le_refl _, ⟨by simp only [EV,Nat.reduceEqDiff,↓reduceIte,he];try rfl, by simp only [EV,Nat.reduceEqDiff,↓reduceIte,he];try rfl⟩, hW.to, rfl⟩ ?_))
 clear he e
 rintro N e υ ⟨_, b', rfl, hN, he, ⟨S', hW', hB', hS'⟩, hbb⟩
 have hlen : b'.length + (Ze5 N).length <= bs.length + 9 := by
  have := congrArg List.length hbb
  rw [List.length_append, List.length_append] at this
  omega
 have hpos := ZkA N
 repeat refine Zab ?_
 first|refine Zaa ?_|refine Zad ?_
 refine Zag ?_
 refine Zac (Zb3 (k := .i64) (a := N) (b := 127) rfl rfl ?_)
 refine Zaf (kp3 0 1 14 fun e he => ?_)
 refine ZaC (t := decide ((127 : Int) < N)) he.2.2 (fun ht => ?_) (fun ht => ?_)
 ·have hlt := of_decide_eq_true ht
  refine ZaL (ZaF (Zad (Zag ?_)))
  refine Zag ?_
  refine Zac (ZbF (k := .i64) (a := (N : Int)) (r := IntKind.u8.wrap N) fa1 Zfw rfl rfl ?_)
  refine Zac (Zrw (k := .u8) (a := IntKind.u8.wrap N) (b := 128) rfl rfl (ZmD N) ?_)
  refine Zac (ZaN (vs := bys [UInt8.ofNat (N % 128 + 128)]) (cells := bys [UInt8.ofNat (N % 128 + 128)]) (by simp only [List.map_cons, List.map_nil, EV,Nat.reduceEqDiff,↓reduceIte,he];try rfl) Zbw Zcn ZeO rfl (by decide) rfl fun b hu hb => ?_)
  refine Zao [ptr wb 0, .lst (some ⟨b, 0, none⟩) 1 1 (bys [UInt8.ofNat (N % 128 + 128)])] ?_
  refine ZjO (xs := [UInt8.ofNat (N % 128 + 128)]) (hW'.ext (Ext.put _ hb)) (ZjN _ rfl fun q => by cases q) (by simp; omega) fun τ hτ => ?_
  refine Zaf ?_
  show ZaA _ _ _ _ _ _
  refine kp2 0 1 fun e he => ?_
  refine Zad (Zag ?_)
  refine Zac (ZjL (k := .i64) (k' := .u64) (a := N) (b := 7) rfl rfl (by omega) ?_)
  rw [Zsv]
  refine Zag ?_
  refine Zaf ?_
  show ∃ n', n' < _ /\ _
  refine ⟨_, (by omega : N / 128 < N), N / 128, _, rfl, by omega, ⟨by simp only [EV,Nat.reduceEqDiff,↓reduceIte,he];try rfl, by simp only [EV,Nat.reduceEqDiff,↓reduceIte,he];try rfl⟩, .and_ (hB'.trans (Ext.put _ hb).but) (fun b hb => hS' b hb) hτ hW.used, ?_⟩
  rw [<- hbb, Zik (by omega : ¬ N < 128), List.append_assoc]
  rfl
 refine Zbu ?_
 show ZaA _ _ _ _ _ _
 have hlt := of_decide_eq_false ht
 refine Zad (Zag ?_)
 refine Zag ?_
 refine Zac (ZbF (k := .i64) (a := (N : Int)) (r := ((UInt8.ofNat N).toNat : Int)) fa1 Zfw rfl (Ze6 N) ?_)
 refine Zac (ZaN (vs := bys [UInt8.ofNat N]) (cells := bys [UInt8.ofNat N]) (by simp only [List.map_cons, List.map_nil, EV,Nat.reduceEqDiff,↓reduceIte,he];try rfl) Zbw Zcn ZeO rfl (by decide) rfl fun b hu hb => ?_)
 refine Zao [ptr wb 0, .lst (some ⟨b, 0, none⟩) 1 1 (bys [UInt8.ofNat N])] ?_
 refine ZjO (xs := [UInt8.ofNat N]) (hW'.ext (Ext.put _ hb)) (ZjN _ rfl fun q => by cases q) (by simp; omega) fun τ hτ => ?_
 refine Zaf ?_
 refine ⟨_, Zcu rfl, hK τ ?_⟩
 rw [hq, Bool.not_true, Bool.or_false, hnB, <- hbb, Zg6 (by omega : N < 128)]
 exact .and_ (hB'.trans (Ext.put _ hb).but) (fun b hb => hS' b hb) hτ hW.used
theorem Zp0 : Program.underlying Tryz.prog 42 = some (.pointer (Program.pointee Tryz.prog 42)) := by kernel_rfl
theorem Zoa : Zba Tryz.prog 109 = some (.agg #[.bool false, .bool false, .slice none 0 0]) := by kernel_rfl
theorem Zob : ZbE Tryz.prog 109 = some [(0, 1), (1, 1), (2, 1)] := by kernel_rfl
theorem Zoc : Zba Tryz.prog 111 = some (.agg #[.bool false, .bool false, .slice none 0 0]) := by kernel_rfl
theorem Zod : ZbE Tryz.prog 111 = some [(0, 3)] := by kernel_rfl
section
variable {P : Program} {ops : Array Oper} {env : Env} {σ : St} {K : Env -> St -> Prop} {t : TypeId} {x : Operand} {d1 d2 d3 d4 d5 : Nat} {ty1 ty2 ty3 ty4 ty5 : TypeId} {p1 p2 p3 p4 p5 : String} {a1 a2 a3 a4 a5 : Array Edge} {l : List Oper} {T1 T2 T' : TypeId} {f off m m1 : Nat} {g0 g1 : Option Bool} {stl stl1 : List (Nat × Option Nat × Option Bool)}
theorem Zge {b : Nat} {cs : List AV} {r : AV} (hx : ev env x = ptr b 0) (hst1 : Za3 P T1 = some stl1) (hf1 : stl1[0]? = some (0, some (m1 + 1), g1)) (hst : Za3 P T2 = some stl) (hf : stl[f]? = some (off, some (m + 1), g0)) (hb : σ.blk b = some (.own T' cs)) (hr : cs[off]? = some r) (ha : ZdB P t = some false) (hn : ZaU P t = some 1)
 (h : ∀ u1 u2 u3 u4, Zbz P ops l (((((env.put (some d1) u1).put (some d2) u2).put (some d3) u3).put (some d4) u4).put (some d5) r) σ K) :
 Zbz P ops (⟨some d1, .move x, ty1, p1, a1, none⟩ :: ⟨some d2, .nilCheck (.tmp d1), ty2, p2, a2, none⟩ :: ⟨some d3, .fieldAddr T1 (.tmp d2) 0, ty3, p3, a3, none⟩ :: ⟨some d4, .fieldAddr T2 (.tmp d3) f, ty4, p4, a4, none⟩ :: ⟨some d5, .load t (.tmp d4), ty5, p5, a5, none⟩ :: l) env σ K :=
 Zac (Zcb rfl hx (Zac (Zav (v := ptr b 0) (by simp only [EV]; rfl) rfl (Zac (Zae (b := b) (o := 0) (by simp only [EV]; rfl) hst1 hf1 (Zac (Zae (b := b) (o := 0 + 0) (by simp only [EV]; rfl) hst hf (Zac (Zah (b := b) (o := 0 + 0 + off) (r := r) (by simp only [EV]; rfl) hb ha hn (by rw [Nat.add_zero, Nat.zero_add]; exact hr) (h _ _ _ _))))))))))
end
theorem Zg7 {σ : St} {K : AV -> St -> Prop} {S : Nat -> Prop} {wb : Nat} {sp : Bool} {bs : List UInt8} (hW : WAt σ S wb sp bs) (hK : K (vT true) σ) : Zan Tryz.prog 62 [ptr wb 0] σ K := by
 obtain ⟨v, h1, h2, h3⟩ := hW.ex
 refine Zai Zam Tryz.func62 rfl rfl rfl (Nat.le_of_ble_eq_true rfl) ?_
 refine Zbf 0 (v0 := ptr wb 0) rfl ?_
 intro e he
 repeat refine Zab ?_
 first|refine Zaa ?_|refine Zad ?_
 refine Zag ?_
 refine Zaf (kp1 0 fun e he => ?_)
 repeat refine Zab ?_
 first|refine Zaa ?_|refine Zad ?_
 refine Zag ?_
 refine Zac (Zfn (p := some ⟨wb, 0, none⟩) Zp0 rfl rfl rfl ?_)
 refine Zag ?_
 refine Zau ?_
 refine Zcb rfl he ?_
 refine Zau ?_
 refine Zav (v := ptr wb 0) rfl rfl ?_
 refine Zau ?_
 refine Zae (b := wb) (o := 0) rfl ZeG rfl ?_
 refine Zau ?_
 refine Zae (b := wb) (o := 0 + 0) rfl ZdZ rfl ?_
 refine Zau ?_
 refine Zah (b := wb) (o := 0 + 0 + 0) (r := vT true) rfl h1 ZiQ Zhu rfl ?_
 refine Zac (Zaj (v := vT true) rfl rfl ?_)
 refine Zag ?_
 refine Zaf (kp1 2 fun e he => ?_)
 refine Zap ?_
 exact ZaD (hK)
theorem Zeq {σ : St} {K : AV -> St -> Prop} (hK : ∀ wb τ, WAt τ (fun c => c = wb) wb false [] -> Za9 σ wb -> Ext σ τ -> K (ptr wb 0) τ) : Zan Tryz.prog 19 [] σ K := by
 refine Zai Zam Tryz.func19 rfl rfl rfl (Nat.le_of_ble_eq_true rfl) ?_
 have he : True := trivial
 generalize ZiP [] = e
 repeat refine Zab ?_
 first|refine Zaa ?_|refine Zad ?_
 refine Zag ?_
 refine Zaf ?_
 repeat refine Zab ?_
 first|refine Zaa ?_|refine Zad ?_
 refine Zac (Zbj (vs := [vT true]) (cells := [vT true, vT false, .lst none 0 0 []]) rfl Zoa Zob rfl ?_)
 refine Zac (Zbj (vs := [.agg [vT true, vT false, .lst none 0 0 []]]) (cells := [vT true, vT false, .lst none 0 0 []]) (by simp only [List.map_cons, List.map_nil, EV, Nat.reduceEqDiff, ↓reduceIte] <;> try rfl) Zoc Zod rfl ?_)
 refine Zac (Zbn (cs := [vT true, vT false, .lst none 0 0 []]) (v := .agg [vT true, vT false, .lst none 0 0 []]) (by simp only [EV, Nat.reduceEqDiff, ↓reduceIte] <;> try rfl) rfl fun b υ hn hu hb hub hX => ?_)
 refine Zac (Zcb (v := ptr b 0) rfl (by simp only [EV, Nat.reduceEqDiff, ↓reduceIte] <;> try rfl) ?_)
 refine Zaf (Zap ?_)
 refine ⟨_, Ze1 rfl (by simp only [EV, Nat.reduceEqDiff, ↓reduceIte] <;> try rfl), hK b υ ⟨⟨_, hb, ⟨rfl, by simp [bys], .inl ⟨.inl rfl, rfl⟩⟩, fun c hc => by cases hc⟩, rfl, fun c hc => by rw [hc]; exact hub⟩ ⟨hn, hu⟩ hX⟩
theorem Zil {σ : St} {K : AV -> St -> Prop} {S : Nat -> Prop} {wb : Nat} {sp : Bool} {bs : List UInt8} (hW : WAt σ S wb sp bs) (hl : bs.length <= 1000000000)
 (hK1 : sp = true -> K (.tup [.lst none 0 0 [], vI 2]) σ) (hK0 : sp = false -> ∀ a τ, Hd τ 5 1 a bs.length (bys bs) -> Ext σ τ -> (∀ b, hbk a = some b -> Za9 σ b) -> K (.tup [a, vI 0]) τ) : Zan Tryz.prog 20 [ptr wb 0] σ K := by
 obtain ⟨v, h1, h2, h3⟩ := hW.ex
 refine Zai Zam Tryz.func20 rfl rfl rfl (Nat.le_of_ble_eq_true rfl) ?_
 refine Zbf 0 (v0 := ptr wb 0) rfl ?_
 intro e he
 repeat refine Zab ?_
 first|refine Zaa ?_|refine Zad ?_
 refine Zag ?_
 refine Zag ?_
 refine Zaf (kp1 0 fun e he => ?_)
 refine ZaF ?_
 repeat refine Zab ?_
 first|refine Zaa ?_|refine Zad ?_
 refine Zag ?_
 refine Zao [ptr wb 0] ?_
 refine Zg7 hW ?_
 refine ZcU ?_
 refine Zag ?_
 refine Zaf (kp2 0 4 fun e he => ?_)
 refine ZaQ (t := false) he.2 (fun ht => by cases ht) (fun ht => ?_)
 repeat refine Zab ?_
 first|refine Zaa ?_|refine Zad ?_
 refine Zge (b := wb) (r := vT sp) he.1 ZeG rfl ZdZ rfl h1 rfl ZiQ Zhu fun u1 u2 u3 u4 => ?_
 refine Zag ?_
 refine Zaf (kp2 0 8 fun e he => ?_)
 refine ZaQ (t := sp) he.2 (fun ht => ?_) (fun ht => ?_)
 ·repeat refine Zab ?_
  first|refine Zaa ?_|refine Zad ?_
  refine Zag ?_
  refine Zag ?_
  refine Zaf (kp2 2 3 fun e he => ?_)
  refine Zap ?_
  exact ⟨_, Zbd rfl (ZaO he.1) (ZaO he.2), hK1 ht⟩
 refine Zbm ?_
 show ZaA _ _ _ _ _ _
 repeat refine Zab ?_
 first|refine Zaa ?_|refine Zad ?_
 refine Zge (b := wb) (r := v) he.1 ZeG rfl ZdZ rfl h1 rfl fa5 Zb6 fun u1 u2 u3 u4 => ?_
 refine Zao [v] ?_
 refine Zi7 h2 hl _ fun a τ ha hX hn => ?_
 refine Zag ?_
 refine Zag ?_
 refine Zaf (kp2 2 3 fun e he => ?_)
 refine Zap ?_
 exact ⟨_, Zbd rfl (ZaO he.1) (ZaO he.2), hK0 ht a τ ha hX hn⟩
section
variable {P : Program} {σ τ : St}
theorem ZmF {w w' : World} {G : Nat -> Prop} (h : Grow w σ w' τ) : Grow w σ w' (Zdq G τ) := by
 refine ⟨h.os, h.tape, h.output, h.size, h.used, fun b hb hn => ?_, fun b t k s hb ht => ?_, h.more⟩
 ·obtain ⟨g1, g2⟩ := h.rest b hb hn
  refine ⟨g1, ?_⟩
  by_cases hg : G b
  ·exact ZcL hg
  ·rw [Zbb hg]; exact g2
 ·obtain ⟨g1, g2⟩ := h.tail b t k s hb ht
  refine ⟨g1, ?_⟩
  by_cases hg : G b
  ·exact .inl (ZcL hg)
  ·rw [Zbb hg]; exact g2
end
section
variable {P : Program} {G : Nat -> Prop} {σ τ : St}
theorem Zc0.agg {l m : List AV} (h : ZcS G σ l m) : Zc0 G σ (.agg l) (.agg m) := ⟨by simp only [AV.val_agg, h.vals], fun w Z hH hV => by
 unfold Zar at hV ⊢
 exact ZaY.iff.2 (h.valid hH (ZaY.iff.1 hV))⟩
theorem Zc0.tup {l m : List AV} (h : ZcS G σ l m) : Zc0 G σ (.tup l) (.tup m) := ⟨by simp only [AV.val_tup, h.vals], fun w Z hH hV => by
 unfold Zar at hV ⊢
 exact ZaY.iff.2 (h.valid hH (ZaY.iff.1 hV))⟩
theorem Zan.tell {f : FuncId} {args : List AV} {K : AV -> St -> Prop} (h : Zan P f args σ fun r τ => ∃ G r', Zc0 G τ r r' /\ K r' (Zdq G τ)) : Zan P f args σ K := by
 intro w Z hH hV
 refine (h w Z hH hV).mono ?_
 rintro y w' ⟨r, τ, rfl, ⟨G, r', hl, hK⟩, hH', hV', hG⟩
 exact ⟨r', _, by rw [hl.1], hK, Zkm hH', hl.2 w' Z hH' hV', ZmF hG⟩
theorem ZcN (h : Ext σ τ) (hG : ∀ c, G c -> Za9 σ c) : Ext σ (Zdq G τ) := ⟨fun c k hk => by
 rw [Zbb (fun q => by have := (hG c q).1; rw [hk] at this; cases this)]
 exact h.keep _ _ hk, fun c hc => h.used _ hc⟩
end
def TB (v : AV) (d : List UInt8) : Prop := ∃ A c rest, v = .lst A d.length c (bys d ++ rest) /\ Lst A d.length c
theorem TB.at_ {v : AV} {d : List UInt8} {σ : St} (h : TB v d) : Za5 σ v d := by
 obtain ⟨A, c, rest, rfl, h1⟩ := h
 exact .inr (Zig h1)
theorem TB.ls {v : AV} {d : List UInt8} {σ : St} (h : TB v d) : Ls σ 5 v d.length (bys d) := by
 obtain ⟨A, c, rest, rfl, h1⟩ := h
 exact ⟨Zb1 d, ZeE d, .inl ⟨A, c, rest, rfl, fun q => (h1.none q).1⟩⟩
theorem TB.one {v : AV} {d : List UInt8} (h : TB v d) : v.one = true /\ Zbh v = true /\ v.cells = [v] := by
 obtain ⟨A, c, rest, rfl, h1⟩ := h
 exact ⟨rfl, rfl, rfl⟩
theorem TB.small {v : AV} {d : List UInt8} (h : TB v d) : d.length <= 140737488355328 := by
 obtain ⟨A, c, rest, rfl, h1⟩ := h
 exact h1.small
theorem ZdQ : TB (.lst none 0 0 []) [] := ⟨none, 0, [], rfl, ⟨Nat.le_refl _, by unfold maxLen; omega, by simp, fun _ => ⟨rfl, rfl⟩⟩⟩
theorem ZkB (d : List UInt8) (n : Nat) : bys (d.drop n) = (bys d).drop n := by simp [bys]
theorem Zim (d : List UInt8) (n : Nat) : bys (d.take n) = (bys d).take n := by simp [bys]
theorem ZdR {σ : St} {K : AV -> St -> Prop} {d : List UInt8} {v : AV} (hv : Za5 σ v d) (hl : d.length <= 1000000000) (hK : ∀ a τ, TB a d -> Ext σ τ -> K a τ) : Zan Tryz.prog 63 [v] σ K :=
 Zan.tell (Zkv hv hl _ fun a τ h1 h2 h3 => by
  obtain ⟨A, c, q1, q2, q3, q4⟩ := h1.lends (G := fun b => hbk a = some b) (fun b hb => hb) (.refl (bys d))
  exact ⟨_, _, q1, hK _ _ ⟨A, c, [], by rw [List.append_nil], ⟨q2, q3, by omega, q4⟩⟩ (ZcN h2 fun c hc => h3 c hc)⟩)
section
variable {P : Program} {ops : Array Oper} {env : Env} {σ : St} {K : Env -> St -> Prop} {dd : Option Nat} {ty t e : TypeId} {pos : String} {af : Array Edge} {x y z : Operand}
theorem Zoe {v : AV} {d : List UInt8} {n : Nat} (hv : TB v d) (hx : ev env x = v) (hy : ev env y = vI n) (hz : ev env z = vI n) (ht : ZaW P t = some e) (hs : ZaU P e = some 1) (hn : n <= d.length) (h : ∀ u, TB u (d.take n) -> K (env.put dd u) σ) : aOp P ops ⟨dd, .slice t x none (some y) (some z), ty, pos, af, none⟩ env σ K := by
 obtain ⟨A, c, rest, rfl, hL⟩ := hv
 have h1 := hL.le
 have h2 := hL.most
 have h3 := hL.small
 rw [ZaT rfl]
 have : (Op.slice t x none (some y) (some z)).operands.toList.map (ev env) = [.lst A d.length c (bys d ++ rest), vI n, vI n] := by
  rw [<- hx, <- hy]
  simp [Op.operands, hz, hy]
 rw [this]
 refine ⟨e, 1, ht, hs, 0, n, n, ⟨rfl, ⟨.i64, rfl⟩, ⟨.i64, rfl⟩⟩, Nat.zero_le _, Nat.le_refl _, by omega, h _ ?_⟩
 have hl : (d.take n).length = n := by rw [List.length_take]; omega
 by_cases h0 : n = 0
 ·subst h0
  rw [if_pos rfl, if_pos rfl]
  exact ⟨A, 0, [], rfl, ⟨Nat.zero_le _, by unfold maxLen; omega, Nat.zero_le _, fun _ => ⟨rfl, rfl⟩⟩⟩
 ·rw [if_neg h0, if_neg h0, Nat.sub_zero, Nat.zero_mul, List.drop_zero]
  refine ⟨A.map (·.add 0), n, (bys d).drop n ++ rest, ?_, ⟨by omega, by omega, by omega, fun q => ?_⟩⟩
  ·rw [hl, Zim, <- List.append_assoc, List.take_append_drop]
  ·cases A with
   | none => have := (hL.none rfl).1; omega
   | some a => cases q
theorem Zgw {v : AV} {d : List UInt8} {n : Nat} (hv : TB v d) (hx : ev env x = v) (hy : ev env y = vI n) (ht : ZaW P t = some e) (hs : ZaU P e = some 1) (hn : n <= d.length) (h : ∀ u, TB u (d.drop n) -> K (env.put dd u) σ) : aOp P ops ⟨dd, .slice t x (some y) none none, ty, pos, af, none⟩ env σ K := by
 obtain ⟨A, c, rest, rfl, hL⟩ := hv
 have h1 := hL.le
 have h2 := hL.most
 have h3 := hL.small
 rw [ZaT rfl]
 have : (Op.slice t x (some y) none none).operands.toList.map (ev env) = [.lst A d.length c (bys d ++ rest), vI n] := by
  rw [<- hx, <- hy]
  simp [Op.operands]
 rw [this]
 refine ⟨e, 1, ht, hs, n, d.length, c, ⟨⟨.i64, rfl⟩, rfl, rfl⟩, hn, h1, Nat.le_refl _, h _ ?_⟩
 have hl : (d.drop n).length = d.length - n := by rw [List.length_drop]
 by_cases h0 : c = n
 ·have hd : d.drop n = [] := List.eq_nil_of_length_eq_zero (by omega)
  rw [if_pos h0, if_pos h0, hd, show d.length - n = 0 by omega, show c - n = 0 by omega]
  exact ⟨A, 0, [], rfl, ⟨Nat.zero_le _, by unfold maxLen; omega, Nat.zero_le _, fun _ => ⟨rfl, rfl⟩⟩⟩
 ·rw [if_neg h0, if_neg h0, Nat.mul_one]
  refine ⟨A.map (·.add n), c - n, rest, ?_, ⟨by omega, by omega, by omega, fun q => ?_⟩⟩
  ·rw [hl, ZkB, List.drop_append_of_le_length (by rw [Zb1]; exact hn)]
  ·cases A with
   | none => have := (hL.none rfl).2; omega
   | some a => cases q
end
end Go.Proofs.YtiienjjhlibopaaGreatDoor
