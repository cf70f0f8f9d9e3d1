/- XDn, XDp, XDo, XDq, XDr, XDs, XDu in one. -/
import Derived.Test.YteempnebenjkmaaGreatDoorBy
import Derived.Test.YteempnebenjkmaaGreatDoorMe
namespace Go.Proofs.YteempnebenjkmaaGreatDoor
open Go.RowKit
set_option maxRecDepth 100000
set_option linter.unusedVariables false
set_option linter.unusedSimpArgs false
section
variable {σ : St} {bb mb : Nat} {S : Nat -> Prop} {fs : List Fl} {pcs : List (Nat × Nat)} {size : Int} {pv : AV} {K : AV -> St -> Prop}
theorem ZiR (h : DAt σ bb S fs pcs size mb pv) (hK : K (vT true) σ) : Zal Tryz.prog 37 [ptr bb 0] σ K := by
 refine Zas ZaH Tryz.func37 rfl rfl rfl (Nat.le_of_ble_eq_true rfl) ?_
 refine ZmD 0 (v0 := ptr bb 0) rfl ?_
 intro e he
 refine Zaa ?_
 refine Zah ?_
 refine Zae ?_
 refine kp1 0 ?_
 clear he e
 intro e he
 refine Zaa ?_
 refine Zah ?_
 refine Zad ?_
 refine Ziy (p := some ⟨bb, 0, none⟩) ZBt rfl rfl rfl ?_
 refine Zah ?_
 refine Zcn ?_
 refine ZjE rfl he ?_
 refine Zcn ?_
 refine ZaF (v := ptr bb 0) rfl rfl ?_
 refine Zcn ?_
 refine Zai (b := bb) (o := 0) rfl Zcu rfl ?_
 refine Zcn ?_
 refine ZaC (b := bb) (o := 0 + 1) (r := ZgG mb) rfl h.obj ZeK ZeJ rfl ?_
 refine Zcn ?_
 refine Zxf Zgv rfl rfl ?_
 refine Zad ?_
 refine Zbb (v := vT true) rfl rfl ?_
 refine Zah ?_
 refine Zae ?_
 refine ZaZ ?_
 show ∃ r, Za1 _ _ _ _ r /\ _
 exact ⟨_, ZeE rfl rfl, hK⟩
theorem ZyA {sz : Int} (hK : ∀ bb mb τ, DAt τ bb (fun b => b = bb \/ b = mb) [] [] sz mb (.lst none 0 0 []) -> Ext σ τ -> Zc2 σ bb -> Zc2 σ mb -> K (ptr bb 0) τ) : Zal Tryz.prog 9 [.raw (.int .i64 sz)] σ K := by
 refine Zas ZaH Tryz.func9 rfl rfl rfl (Nat.le_of_ble_eq_true rfl) ?_
 refine ZmD 0 (v0 := .raw (.int .i64 sz)) rfl ?_
 intro e he
 refine Zaa ?_
 refine Zah ?_
 refine Zae ?_
 refine kp1 0 ?_
 clear he e
 intro e he
 refine Zaa ?_
 refine Zad ?_
 refine Ztd (hm := Zgv) fun mb hu1 hn1 => ?_
 refine Zah ?_
 refine Zad ?_
 refine ZcI (vs := [ZgG mb, .raw (.int .i64 sz)]) (cells := [.lst none 0 0 [], ZgG mb, .raw (.int .i64 sz)]) (by simp only [List.map_cons, List.map_nil, EV,Nat.reduceEqDiff,↓reduceIte,he]; try rfl) Zzj Zzl rfl ?_
 refine Zad ?_
 refine Zjs rfl rfl fun bb τ hn2 hu2 hb2 hub2 hX2 => ?_
 refine Zah ?_
 refine Zae ?_
 refine ZaZ ?_
 show ∃ r, Za1 _ _ _ _ r /\ _
 have hX1 : Ext σ (σ.put mb (.map [])) := Ext.put _ hn1
 have hmb : τ.blk mb = some (.map []) := hX2.keep _ _ (ZaW _ _ _)
 refine ⟨_, ZeE rfl rfl, hK bb mb τ ⟨hb2, hub2, hmb, hX2.used _ (.inr rfl), fun f hf => by simp at hf, .nil, .nil, fun f hf => by simp at hf, ⟨rfl, by simp [pcC], .inl ⟨.inl rfl, rfl⟩⟩, ⟨.inl rfl, .inr rfl, fun f hf => by simp at hf, fun x hx => by cases hx⟩, fun p hp => by simp at hp⟩ (hX1.trans hX2) (Zc2.of ⟨hn2, hu2⟩ hX1) ⟨hn1, hu1⟩⟩
set_option maxHeartbeats 1000000 in
theorem Zvn (h : DAt σ bb S fs pcs size mb pv) (hs : ZfF pcs <= 1000000000) (hl : pcs.length <= 1000000000) (hK : ∀ τ, Ext σ τ -> K (.raw (.int .i64 (ZfF pcs : Int))) τ) : Zal Tryz.prog 78 [ptr bb 0] σ K := by
 have hps := h.pc
 refine Zas ZaH Tryz.func78 rfl rfl rfl (Nat.le_of_ble_eq_true rfl) ?_
 refine ZmD 0 (v0 := ptr bb 0) rfl ?_
 intro e he
 refine Zaa ?_
 refine Zah ?_
 refine Zae ?_
 refine Zaa ?_
 refine Zah ?_
 refine Zae ?_
 refine kp3 0 2 3 ?_
 clear he e
 intro e he
 refine Zds (fun env υ => env 3 = vI (ZfF pcs) /\ Ext σ υ) ?_ ?_
 ·repeat refine Zab ?_
  first|refine Zaa ?_|refine Zac ?_
  refine Zah ?_
  refine Zad ?_
  refine ZaF (v := ptr bb 0) rfl rfl ?_
  refine Zad ?_
  refine Zai (b := bb) (o := 0) rfl ZjH rfl ?_
  refine Zad ?_
  refine ZaC (b := bb) (o := 0) (r := pv) rfl h.obj ZqV ZjJ rfl ?_
  refine Zad ?_
  refine ZhX rfl hps rfl Zee ?_
  refine Zah ?_
  refine Zae ?_
  apply ZA1 3 9 10 11
  iterate 4 ·simp only [EV,Nat.reduceEqDiff,↓reduceIte,he];try rfl
  clear he e
  intro e he
  refine ZdT ?_
  refine Zdn (fun μ env υ => ∃ i : Nat, μ = pcs.length - i /\ i <= pcs.length /\ (env 3 = vI (ZfF (pcs.take i)) /\ env 9 = pv /\ env 10 = vI pcs.length /\ env 11 = vI i) /\ Ext σ υ) ⟨_, 0, rfl, Nat.zero_le _, he, .refl _⟩ ?_
  clear he e
  rintro _ e υ ⟨i, rfl, hi, he, hX⟩
  refine Zaa ?_
  refine ZjG i pcs.length ?_
  refine Zae ?_
  refine kp5 3 9 10 11 12 ?_
  clear he e
  intro e he
  refine ZaT (t := decide (i < pcs.length)) he.2.2.2.2 (fun ht => ?_) (fun ht => ?_)
  ·have hlt : i < pcs.length := of_decide_eq_true ht
   have hp := hps.ext hX
   have hcell : ((pcC pcs).drop (i * 2)).take 2 = [ptr pcs[i].1 0, .raw (.int .i64 (pcs[i].2 : Int))] := by
    have h1 : pcs = pcs.take i ++ (pcs[i] :: pcs.drop (i + 1)) := by
     rw [<- List.drop_eq_getElem_cons hlt, List.take_append_drop]
    conv => lhs; rw [h1]
    rw [ZqW, List.drop_append, Zu5, List.length_take, Nat.min_eq_left (by omega), Nat.sub_self, List.drop_zero, List.drop_eq_nil_of_le (by rw [Zu5, List.length_take]; omega)]
    rfl
   have hsum : ZfF (pcs.take (i + 1)) = ZfF (pcs.take i) + pcs[i].2 := by
    unfold ZfF
    rw [List.take_succ_eq_append_getElem hlt, List.map_append, List.sum_append]
    simp
   have hle : ZfF (pcs.take (i + 1)) <= ZfF pcs := by
    unfold ZfF
    conv => rhs; rw [<- List.take_append_drop (i + 1) pcs, List.map_append, List.sum_append]
    omega
   refine Za6 ?_
   refine Zb7 ?_
   refine Zaa ?_
   refine Zad ?_
   refine ZdV (k := .i64) (j := i) he.2.1 he.2.2.2.1 Zee ZcK hp hlt fun b hb => ?_
   refine Zad ?_
   refine Zzi rfl hp hb hlt ZlQ ZcK ?_
   rw [hcell]
   refine Zad ?_
   refine Zck ZjL rfl fun b5 υ5 hn5 hu5 hb5 hub5 hX5 => ?_
   refine Zad ?_
   refine Zbn (b := b5) (o := 0) (u := .agg [ptr pcs[i].1 0, .raw (.int .i64 (pcs[i].2 : Int))]) (cs' := [ptr pcs[i].1 0, .raw (.int .i64 (pcs[i].2 : Int))]) rfl rfl hb5 ZcK rfl rfl fun υ6 hb6 k6 => ?_
   refine Zae ?_
   refine Zac ?_
   refine Zah ?_
   refine Zad ?_
   refine Zai (b := b5) (o := 0) rfl Zu0 rfl ?_
   refine Zad ?_
   refine ZaC (b := b5) (o := 0 + 1) (r := .raw (.int .i64 (pcs[i].2 : Int))) rfl hb6 Zu3 Zu1 rfl ?_
   refine ZfM (ZfF (pcs.take i)) (pcs[i].2) ?_
   refine Zah ?_
   refine Zae ?_
   show ZaJ _ _ _ _ _ _
   refine Zac ?_
   refine ZfM i 1 ?_
   refine Zah ?_
   refine Zae ?_
   show ∃ n', n' < _ /\ _
   refine ⟨_, (by omega : pcs.length - (i + 1) < pcs.length - i), i + 1, rfl, hlt, ⟨?_, by simp only [EV,Nat.reduceEqDiff,↓reduceIte,he];try rfl, by simp only [EV,Nat.reduceEqDiff,↓reduceIte,he];try rfl, by simp only [EV,Nat.reduceEqDiff,↓reduceIte,he];try rfl⟩, But.ext (hX.trans hX5) (fun g hg => by rw [hg]; exact hX.noneOf hn5) k6⟩
   rw [hsum]
   simp only [EV,Nat.reduceEqDiff,↓reduceIte,he];try rfl
  ·have hke : i = pcs.length := by have := of_decide_eq_false ht; omega
   subst hke
   rw [List.take_length] at he
   refine Ze5 ?_
   exact ⟨rfl, by simp only [EV,Nat.reduceEqDiff,↓reduceIte,he];try rfl, hX⟩
 clear he e
 rintro e υ ⟨he, hX⟩
 refine Zaa ?_
 refine Zah ?_
 refine Zah ?_
 refine Zae ?_
 refine ZaZ ?_
 show ∃ r, Za1 _ _ _ _ r /\ _
 exact ⟨_, ZeE rfl rfl, hK υ hX⟩
end
theorem Zr9 (l : List (Nat × Nat)) (k : Nat) : (pcC l).take (k * 2) = pcC (l.take k) := by
 induction k generalizing l with
 | zero => rfl
 | succ k ih =>
  cases l with
  | nil => simp [pcC]
  | cons p l =>
   have : (k + 1) * 2 = k * 2 + 1 + 1 := by omega
   rw [this]
   show ptr p.1 0 :: .raw (.int .i64 (p.2 : Int)) :: (pcC l).take (k * 2) = ptr p.1 0 :: .raw (.int .i64 (p.2 : Int)) :: pcC (l.take k)
   rw [ih]
theorem Zsa (l : List (Nat × Nat)) (k : Nat) : (pcC l).drop (k * 2) = pcC (l.drop k) := by
 induction k generalizing l with
 | zero => rfl
 | succ k ih =>
  cases l with
  | nil => simp [pcC]
  | cons p l =>
   have : (k + 1) * 2 = k * 2 + 1 + 1 := by omega
   rw [this]
   show (pcC l).drop (k * 2) = pcC (l.drop k)
   exact ih l
theorem Zvo {l : List (Nat × Nat)} {i : Nat} (h : i < l.length) : ((pcC l).drop (i * 2)).take 2 = [ptr l[i].1 0, .raw (.int .i64 (l[i].2 : Int))] := by
 rw [Zsa, List.drop_eq_getElem_cons h]
 rfl
theorem Zzz {l : List (Nat × Nat)} {k : Nat} (p : Nat × Nat) (h : k < l.length) : ZaG (pcC l) (k * 2) [ptr p.1 0, .raw (.int .i64 (p.2 : Int))] = pcC (l.set k p) := by
 unfold ZaG
 rw [Zr9, List.length_cons, List.length_cons, List.length_nil, show k * 2 + (0 + 1 + 1) = (k + 1) * 2 by omega, Zsa, List.set_eq_take_append_cons_drop, if_pos h, ZqW]
 simp [pcC]
abbrev pcV (p : Nat × Nat) : AV := .agg [ptr p.1 0, .raw (.int .i64 (p.2 : Int))]
abbrev fnV (g : FuncId) (caps : Array Value) : AV := .raw (.func (.func g) #[] caps)
def ZyB (g : FuncId) (caps : Array Value) (q : Nat × Nat -> Bool) (l : List (Nat × Nat)) (υ : St) : Prop := ∀ p ∈ l, ∀ K : AV -> St -> Prop, (∀ τ, Ext υ τ -> K (vT (q p)) τ) -> Zal Tryz.prog g ([pcV p] ++ caps.toList.map .raw) υ K
section
variable {σ : St} {pv : AV} {pcs : List (Nat × Nat)} {g : FuncId} {caps : Array Value} {q : Nat × Nat -> Bool} {K : AV -> St -> Prop}
theorem Zxq (h : Hd σ 89 2 pv pcs.length (pcC pcs)) (hl : pcs.length <= 1000000000) (hq : ∀ υ, Ext σ υ -> ZyB g caps q pcs υ) (hK1 : ∀ τ, Ext σ τ -> (∀ p ∈ pcs, q p = false) -> K (.raw (.int .i64 (-1))) τ) (hK2 : ∀ τ i (hi : i < pcs.length), Ext σ τ -> (∀ p ∈ pcs.take i, q p = false) -> q pcs[i] = true -> K (vI i) τ) : Zal Tryz.prog 194 [pv, fnV g caps] σ K := by
 refine Zas ZaH Tryz.func194 rfl rfl rfl (Nat.le_of_ble_eq_true rfl) ?_
 refine ZfJ 0 1 (v0 := pv) (v1 := fnV g caps) rfl rfl ?_
 intro e he
 repeat refine Zab ?_
 first|refine Zaa ?_|refine Zac ?_
 refine Zah ?_
 refine Zae ?_
 refine kp2 0 1 ?_
 clear he e
 intro e he
 repeat refine Zab ?_
 first|refine Zaa ?_|refine Zac ?_
 refine Zah ?_
 refine Zad ?_
 refine ZhX rfl h rfl Zee ?_
 refine Zah ?_
 refine Zae ?_
 refine kp4 0 1 7 8 ?_
 clear he e
 intro e he
 refine Zb7 ?_
 refine Zdn (fun μ env υ => ∃ i : Nat, μ = pcs.length - i /\ i <= pcs.length /\ (env 0 = pv /\ env 1 = fnV g caps /\ env 7 = vI pcs.length /\ env 8 = vI i) /\ Ext σ υ /\ ∀ p ∈ pcs.take i, q p = false) ⟨_, 0, rfl, Nat.zero_le _, he, .refl _, by simp⟩ ?_
 clear he e
 rintro _ e υ ⟨i, rfl, hi, he, hX, hpre⟩
 repeat refine Zab ?_
 first|refine Zaa ?_|refine Zac ?_
 refine ZjG i pcs.length ?_
 refine Zae ?_
 refine kp5 0 1 7 8 9 ?_
 clear he e
 intro e he
 refine ZaT (t := decide (i < pcs.length)) he.2.2.2.2 (fun ht => ?_) (fun ht => ?_)
 ·have hlt : i < pcs.length := of_decide_eq_true ht
  refine Za6 ?_
  refine Zb7 ?_
  repeat refine Zab ?_
  first|refine Zaa ?_|refine Zac ?_
  refine Zah ?_
  refine Zah ?_
  refine Zae ?_
  refine kp5 0 1 5 7 8 ?_
  clear he e
  intro e he
  repeat refine Zab ?_
  first|refine Zaa ?_|refine Zac ?_
  refine Zah ?_
  refine Zah ?_
  refine Zah ?_
  refine Zad ?_
  refine ZdV (k := .i64) (j := i) rfl rfl Zee ZcK (h.ext hX) hlt fun b hb => ?_
  refine Zad ?_
  refine Zzi rfl (h.ext hX) hb hlt ZlQ ZcK ?_
  rw [Zvo hlt]
  refine Zad ?_
  refine ZqX (g := g) (caps := caps) (vs := [pcV pcs[i]]) rfl (by simp only [List.map_cons, List.map_nil, EV,Nat.reduceEqDiff,↓reduceIte,he];try rfl) ?_
  refine hq υ hX pcs[i] (List.getElem_mem hlt) _ fun τ hX2 => ?_
  refine Zae ?_
  refine ZcJ (t := q pcs[i]) rfl (fun hqi => ?_) (fun hqi => ?_)
  ·repeat refine Zab ?_
   first|refine Zaa ?_|refine Zac ?_
   refine Zah ?_
   refine Zah ?_
   refine Zae ?_
   refine ZaZ ?_
   exact ZbW (hK2 τ i hlt (hX.trans hX2) hpre hqi)
  ·refine ZeD ?_
   show ZaJ _ _ _ _ _ _
   refine Zac ?_
   refine ZfM i 1 ?_
   refine Zah ?_
   refine Zae ?_
   show ∃ n', n' < _ /\ _
   refine ⟨_, (by omega : pcs.length - (i + 1) < pcs.length - i), i + 1, rfl, hlt, ⟨by simp only [EV,Nat.reduceEqDiff,↓reduceIte,he];try rfl, by simp only [EV,Nat.reduceEqDiff,↓reduceIte,he];try rfl, by simp only [EV,Nat.reduceEqDiff,↓reduceIte,he];try rfl, by simp only [EV,Nat.reduceEqDiff,↓reduceIte,he];try rfl⟩, hX.trans hX2, fun p hp => ?_⟩
   rw [List.take_succ_eq_append_getElem hlt] at hp
   rcases List.mem_append.1 hp with hp | hp
   ·exact hpre p hp
   ·rw [List.mem_singleton.1 hp]; exact hqi
 ·have hke : i = pcs.length := by have := of_decide_eq_false ht; omega
  subst hke
  rw [List.take_length] at hpre
  refine Ze5 ?_
  show ZaJ _ _ _ _ _ _
  repeat refine Zab ?_
  first|refine Zaa ?_|refine Zac ?_
  refine Zah ?_
  refine Zae ?_
  refine ZaZ ?_
  exact ZbW (hK1 υ hX hpre)
set_option maxHeartbeats 1000000 in
theorem Zvp (h : Hd σ 89 2 pv pcs.length (pcC pcs)) (hl : pcs.length <= 1000000000) (hq : ∀ υ, But (fun c => hbk pv = some c) σ υ -> ZyB g caps q pcs υ)
 (hK : ∀ τ pv', Hd τ 89 2 pv' (pcs.filter fun p => !q p).length (pcC (pcs.filter fun p => !q p)) -> But (fun c => hbk pv = some c) σ τ -> (∀ c, hbk pv' = some c -> hbk pv = some c) -> K pv' τ) : Zal Tryz.prog 146 [pv, fnV g caps] σ K := by
 refine Zas ZaH Tryz.func146 rfl rfl rfl (Nat.le_of_ble_eq_true rfl) ?_
 refine ZfJ 0 1 (v0 := pv) (v1 := fnV g caps) rfl rfl ?_
 intro e he
 repeat refine Zab ?_
 first|refine Zaa ?_|refine Zac ?_
 refine Zah ?_
 refine Zae ?_
 refine kp2 0 1 ?_
 clear he e
 intro e he
 repeat refine Zab ?_
 first|refine Zaa ?_|refine Zac ?_
 refine Zah ?_
 refine Zah ?_
 refine ZaK [pv, fnV g caps] ?_
 refine Zxq h hl (fun υ hX => hq υ hX.but) (fun τ hX hall => ?_) (fun τ i hi hX hpre hqi => ?_)
 ·refine Zah ?_
  refine Zae ?_
  refine kp3 0 1 5 ?_
  clear he e
  intro e he
  repeat refine Zab ?_
  first|refine Zaa ?_|refine Zac ?_
  refine Zah ?_
  refine Zad ?_
  refine Zub (k := .i64) (a := -1) (b := -1) rfl rfl ?_
  rw [decide_eq_true (rfl : (-1 : Int) = -1)]
  refine Zae ?_
  refine ZaT (t := true) rfl (fun _ => ?_) (fun hf => by cases hf)
  repeat refine Zab ?_
  first|refine Zaa ?_|refine Zac ?_
  refine Zah ?_
  refine Zah ?_
  refine Zae ?_
  refine Zfo ?_
  have hf : (pcs.filter fun p => !q p) = pcs := List.filter_eq_self.2 fun p hp => by rw [hall p hp]; rfl
  exact ZbW (hK τ pv (by rw [hf]; exact h.ext hX) hX.but fun c hc => hc)
 ·refine Zah ?_
  refine Zae ?_
  refine kp3 0 1 5 ?_
  clear he e
  intro e he
  repeat refine Zab ?_
  first|refine Zaa ?_|refine Zac ?_
  refine Zah ?_
  refine Zad ?_
  refine Zub (k := .i64) (a := (i : Int)) (b := -1) rfl rfl ?_
  rw [decide_eq_false (by omega : ¬ (i : Int) = -1)]
  refine Zae ?_
  refine kp4 0 1 5 12 ?_
  clear he e
  intro e he
  refine ZaT (t := false) he.2.2.2 (fun hf => by cases hf) (fun _ => ?_)
  refine Za6 ?_
  repeat refine Zab ?_
  first|refine Zaa ?_|refine Zac ?_
  refine Zah ?_
  refine ZfM i 1 ?_
  refine Zah ?_
  refine Zae ?_
  refine kp4 0 1 5 6 ?_
  clear he e
  intro e he
  obtain ⟨b, hb⟩ := h.some_ (by omega : 0 < pcs.length)
  refine Zb7 ?_
  refine Zdn (fun μ env υ => ∃ (j k : Nat) (l : List (Nat × Nat)), μ = pcs.length - j /\ j <= pcs.length /\ (env 0 = pv /\ env 1 = fnV g caps /\ env 5 = vI k /\ env 6 = vI j) /\ k < j /\ l.length = pcs.length /\ l.take k = (pcs.take j).filter (fun p => !q p) /\ l.drop j = pcs.drop j /\ Hd υ 89 2 pv pcs.length (pcC l) /\ But (fun c => hbk pv = some c) σ υ) ⟨_, i + 1, i, pcs, rfl, hi, he, Nat.lt_succ_self _, rfl, ?_, rfl, h.ext hX, hX.but⟩ ?_
  ·rw [List.take_succ_eq_append_getElem hi, List.filter_append, List.filter_eq_self.2 fun p hp => by rw [hpre p hp]; rfl]
   simp [hqi]
  clear he e
  rintro _ e υ ⟨j, k, l, rfl, hj, he, hkj, hll, htk, hdp, hL, hB⟩
  repeat refine Zab ?_
  first|refine Zaa ?_|refine Zac ?_
  refine Zah ?_
  refine Zah ?_
  refine Zad ?_
  refine ZhX rfl hL rfl Zee ?_
  refine ZjG j pcs.length ?_
  refine Zae ?_
  refine kp5 0 1 5 6 19 ?_
  clear he e
  intro e he
  refine ZaT (t := decide (j < pcs.length)) (by simp only [EV,Nat.reduceEqDiff,↓reduceIte,he];try rfl) (fun ht => ?_) (fun ht => ?_)
  ·have hlt : j < pcs.length := of_decide_eq_true ht
   have hlt2 : j < l.length := by omega
   have hlj : l[j] = pcs[j] := by
    have h1 := List.drop_eq_getElem_cons hlt2
    have h2 := List.drop_eq_getElem_cons hlt
    rw [h1, h2] at hdp
    injection hdp
   have hdq : l.drop (j + 1) = pcs.drop (j + 1) := by
    rw [<- List.drop_drop (i := 1) (j := j), <- List.drop_drop (i := 1) (j := j), hdp]
   refine Za6 ?_
   refine Zds (fun env υ => ∃ (k : Nat) (l : List (Nat × Nat)), (env 0 = pv /\ env 1 = fnV g caps /\ env 5 = vI k /\ env 6 = vI j) /\ k < j + 1 /\ l.length = pcs.length /\ l.take k = (pcs.take (j + 1)).filter (fun p => !q p) /\ l.drop (j + 1) = pcs.drop (j + 1) /\ Hd υ 89 2 pv pcs.length (pcC l) /\ But (fun c => hbk pv = some c) σ υ) ?_ ?_
   ·refine ZdT ?_
    repeat refine Zab ?_
    first|refine Zaa ?_|refine Zac ?_
    refine Zah ?_
    refine Zah ?_
    refine Zad ?_
    refine ZdV (k := .i64) (j := j) (by simp only [EV,Nat.reduceEqDiff,↓reduceIte,he];try rfl) (by simp only [EV,Nat.reduceEqDiff,↓reduceIte,he];try rfl) Zee ZcK hL hlt fun b' hb' => ?_
    refine Zad ?_
    refine Zzi (by simp only [EV,Nat.reduceEqDiff,↓reduceIte,he];try rfl) hL hb' hlt ZlQ ZcK ?_
    rw [Zvo hlt2, hlj]
    refine Zad ?_
    refine Zck ZjL rfl fun b7 υ7 hn7 hu7 hb7 hub7 hX7 => ?_
    refine Zad ?_
    refine Zbn (b := b7) (o := 0) (u := pcV pcs[j]) (cs' := [ptr pcs[j].1 0, .raw (.int .i64 (pcs[j].2 : Int))]) (by simp only [EV,Nat.reduceEqDiff,↓reduceIte,he];try rfl) (by simp only [EV,Nat.reduceEqDiff,↓reduceIte,he];try rfl) hb7 ZcK rfl rfl fun υ8 hb8 k8 => ?_
    refine Zae ?_
    have hX8 : Ext υ υ8 := But.ext hX7 (fun g hg => by rw [hg]; exact hn7) k8
    refine kp5 0 1 5 6 7 ?_
    clear he e
    intro e he
    repeat refine Zab ?_
    first|refine Zaa ?_|refine Zac ?_
    refine Zah ?_
    refine Zad ?_
    refine ZaC (b := b7) (o := 0) (r := pcV pcs[j]) he.2.2.2.2 hb8 ZlQ ZcK rfl ?_
    refine Zad ?_
    refine ZqX (g := g) (caps := caps) (vs := [pcV pcs[j]]) rfl (by simp only [List.map_cons, List.map_nil, EV,Nat.reduceEqDiff,↓reduceIte,he];try rfl) ?_
    refine hq υ8 (hB.trans (hX8.but)) pcs[j] (List.getElem_mem hlt) _ fun τ hX9 => ?_
    refine ZjF ?_
    refine Zae ?_
    refine kp6 0 1 5 6 7 29 ?_
    clear he e
    intro e he
    have hL9 := (hL.ext hX8).ext hX9
    have hB9 : But (fun c => hbk pv = some c) σ τ := (hB.trans hX8.but).trans hX9.but
    refine ZcJ (t := !q pcs[j]) he.2.2.2.2.2 (fun hqj => ?_) (fun hqj => ?_)
    ·repeat refine Zab ?_
     first|refine Zaa ?_|refine Zac ?_
     refine Zah ?_
     refine Zah ?_
     refine Zad ?_
     refine ZaC (b := b7) (o := 0) (r := pcV pcs[j]) he.2.2.2.2.1 (hX9.keep _ _ hb8) ZlQ ZcK rfl ?_
     refine Zad ?_
     refine ZdV (k := .i64) (j := k) rfl rfl Zee ZcK hL9 (by omega) fun b' hb' => ?_
     refine Zad ?_
     refine Zw9 (j := k) (r := pcV pcs[j]) rfl rfl ZcK hL9 hb' (by omega) ⟨rfl, rfl, fun a ha => ?_⟩ fun τ2 hL2 hB2 => ?_
     ·simp [pcV, AV.cells] at ha
      rcases ha with rfl | rfl <;> rfl
     refine Zae ?_
     show ZaJ _ _ _ _ _ _
     refine Zac ?_
     refine Zah ?_
     refine ZfM k 1 ?_
     refine Zah ?_
     refine Zae ?_
     have hset := Zzz (l := l) pcs[j] (by omega : k < l.length)
     refine ⟨rfl, k + 1, l.set k pcs[j], ⟨by simp only [EV,Nat.reduceEqDiff,↓reduceIte,he];try rfl, by simp only [EV,Nat.reduceEqDiff,↓reduceIte,he];try rfl, by simp only [EV,Nat.reduceEqDiff,↓reduceIte,he];try rfl, by simp only [EV,Nat.reduceEqDiff,↓reduceIte,he];try rfl⟩, by omega, by rw [List.length_set]; exact hll, ?_, ?_, hset ▸ hL2, hB9.trans hB2⟩
     ·rw [List.take_succ_eq_append_getElem (by rw [List.length_set]; omega), List.take_set_of_le (Nat.le_refl _), List.getElem_set_self, htk, List.take_succ_eq_append_getElem hlt, List.filter_append]
      simp [hqj]
     ·rw [List.drop_set_of_lt (by omega)]
      exact hdq
    ·refine ZeD ?_
     refine ⟨rfl, k, l, ⟨by simp only [EV,Nat.reduceEqDiff,↓reduceIte,he];try rfl, by simp only [EV,Nat.reduceEqDiff,↓reduceIte,he];try rfl, by simp only [EV,Nat.reduceEqDiff,↓reduceIte,he];try rfl, by simp only [EV,Nat.reduceEqDiff,↓reduceIte,he];try rfl⟩, by omega, hll, ?_, hdq, hL9, hB9⟩
     rw [htk, List.take_succ_eq_append_getElem hlt, List.filter_append]
     simp [hqj]
   ·clear he e
    rintro e τ ⟨k', l', he, g1, g2, g3, g4, g5, g6⟩
    refine Zac ?_
    refine Zah ?_
    refine ZfM j 1 ?_
    refine Zah ?_
    refine Zae ?_
    show ∃ n', n' < _ /\ _
    exact ⟨_, (by omega : pcs.length - (j + 1) < pcs.length - j), j + 1, k', l', rfl, hlt, ⟨by simp only [EV,Nat.reduceEqDiff,↓reduceIte,he];try rfl, by simp only [EV,Nat.reduceEqDiff,↓reduceIte,he];try rfl, by simp only [EV,Nat.reduceEqDiff,↓reduceIte,he];try rfl, by simp only [EV,Nat.reduceEqDiff,↓reduceIte,he];try rfl⟩, g1, g2, g3, g4, g5, g6⟩
  ·have hke : j = pcs.length := by have := of_decide_eq_false ht; omega
   subst hke
   rw [List.take_length] at htk
   have hkf : (pcs.filter fun p => !q p).length = k := by
    rw [<- htk, List.length_take]
    omega
   refine Ze5 ?_
   show ZaJ _ _ _ _ _ _
   obtain ⟨c, all, hpv, q1, q2, q3, q4, q5, q6⟩ := hL.at_ hb
   have hc : 0 < c := by omega
   subst hpv
   repeat refine Zab ?_
   first|refine Zaa ?_|refine Zac ?_
   refine Zah ?_
   refine Zah ?_
   refine Zad ?_
   refine Zhr (A := some ⟨b, 0, none⟩) (n := pcs.length) (c := c) (l := k) (u := pcs.length) (ix := [vI k]) rfl (by simp only [Option.toList, List.nil_append, List.append_nil, List.singleton_append, List.map_cons, List.map_nil, EV,Nat.reduceEqDiff,↓reduceIte,he];try rfl) Zee ZcK (ZwK rfl) (by omega) q5 ?_
   refine Zad ?_
   refine Zxg (sz := 2) (b := b) (n := pcs.length) (c := c) (lo := k) (Eq.trans (by simp only [EV,Nat.reduceEqDiff,↓reduceIte,he];try rfl) ?_) Zee ZjL rfl (by omega) (fun i hi => ?_) hL hc (by omega) fun τ hL2 hB2 => ?_
   ·simp only [Option.map, Zbl, Nat.zero_add]
   ·match i, hi with
    | 0, _ => rfl
    | 1, _ => rfl
   refine Zae ?_
   refine kp2 0 5 ?_
   clear he e
   intro e he
   repeat refine Zab ?_
   first|refine Zaa ?_|refine Zac ?_
   refine Zah ?_
   refine Zah ?_
   refine Zad ?_
   refine Zhr (A := some ⟨b, 0, none⟩) (n := pcs.length) (c := c) (l := 0) (u := k) (ix := [vI k]) rfl (by simp only [Option.toList, List.nil_append, List.append_nil, List.singleton_append, List.map_cons, List.map_nil, EV,Nat.reduceEqDiff,↓reduceIte,he];try rfl) Zee ZcK (ZwL rfl) (by omega) (by omega) ?_
   refine Zah ?_
   refine Zae ?_
   refine ZaZ ?_
   have hres : (AV.raw (.slice (if c = 0 then some (⟨b, 0, none⟩ : Addr) else (some (⟨b, 0, none⟩ : Addr)).map (·.add (0 * 2))) (k - 0) (c - 0))) = hdr b k c := by
    rw [if_neg (by omega), Nat.sub_zero, Nat.sub_zero]
    simp only [Option.map, Zbl, Nat.zero_mul, Nat.zero_add]
    rfl
   rw [hres]
   refine ⟨_, ZeE rfl rfl, hK τ (hdr b k c) ?_ ?_ ?_⟩
   ·rw [Zr9, htk] at hL2
    rw [hkf]
    exact hL2
   ·exact hB.trans (hB2.sub fun g hg => by rw [hg]; exact hb)
   ·intro c' hc'
    rw [<- Zko hc']
    exact hb
end
theorem ZdK {σ : St} {b c : Nat} {t u : TypeId} {xs ys : List AV} (hb : σ.blk b = some (.own t xs)) (hc : σ.blk c = some (.own u ys)) (hne : t ≠ u) : b ≠ c := fun e => by
 subst e
 rw [hb] at hc
 injection hc with hc
 injection hc with hc
 exact hne hc
theorem ZeN {σ : St} {b c : Nat} {t : TypeId} {xs : List AV} {es : List (Value × Value)} (hb : σ.blk b = some (.own t xs)) (hc : σ.blk c = some (.map es)) : b ≠ c := fun e => by
 subst e
 rw [hb] at hc
 injection hc with hc
 cases hc
def ZdG (fb : Nat) (v : AV) (d : List UInt8) (f : Fl) : Fl := if f.b = fb then ⟨f.nm, f.b, v, d⟩ else f
theorem ZeO {fb : Nat} {v : AV} {d : List UInt8} (f : Fl) : (ZdG fb v d f).b = f.b := by unfold ZdG; split <;> rfl
theorem Zsb {fb : Nat} {v : AV} {d : List UInt8} (f : Fl) : (ZdG fb v d f).nm = f.nm := by unfold ZdG; split <;> rfl
section
variable {σ τ : St} {bb mb : Nat} {S : Nat -> Prop} {fs : List Fl} {pcs : List (Nat × Nat)} {size : Int} {pv : AV}
theorem DAt.mono {S' : Nat -> Prop} (h : DAt σ bb S fs pcs size mb pv) (k : ∀ c, S c -> S' c) : DAt σ bb S' fs pcs size mb pv :=
 ⟨h.obj, h.used, h.map, h.umap, h.file, h.nd, h.nn, h.far, h.pc, ⟨k _ h.own.1, k _ h.own.2.1, fun f hf => ⟨k _ (h.own.2.2.1 f hf).1, fun x hx => k _ ((h.own.2.2.1 f hf).2 x hx)⟩, fun x hx => k _ (h.own.2.2.2 x hx)⟩, h.inn⟩
theorem DAt.uniq (h : DAt σ bb S fs pcs size mb pv) {f g : Fl} (hf : f ∈ fs) (hg : g ∈ fs) (e : f.b = g.b) : f = g := by
 have hnd := h.nd
 clear h
 induction fs with
 | nil => cases hf
 | cons a l ih =>
  rw [List.map_cons, List.nodup_cons] at hnd
  rcases List.mem_cons.1 hf with e1 | h1 <;> rcases List.mem_cons.1 hg with e2 | h2
  ·rw [e1, e2]
  ·exact absurd (List.mem_map.2 ⟨g, h2, by rw [<- e, e1]⟩) hnd.1
  ·exact absurd (List.mem_map.2 ⟨f, h1, by rw [e, e2]⟩) hnd.1
  ·exact ih h1 h2 hnd.2
theorem DAt.setF (h : DAt σ bb S fs pcs size mb pv) {f0 : Fl} (hf0 : f0 ∈ fs) {v : AV} {d : List UInt8} (k : But (fun c => c = f0.b \/ hbk f0.v = some c) σ τ) (hb : τ.blk f0.b = some (.own 87 [v])) (hv : Hd τ 5 1 v d.length (bys d)) (hnew : ∀ c, hbk v = some c -> hbk f0.v = some c \/ Zc2 σ c) :
 DAt τ bb (fun c => S c \/ hbk v = some c) (fs.map (ZdG f0.b v d)) pcs size mb pv := by
 obtain ⟨o1, o2, o3, o4⟩ := h.own
 obtain ⟨p1, p2, p3⟩ := h.file f0 hf0
 have hdir : Zbs (fs.map (ZdG f0.b v d)) = Zbs fs := by
  unfold Zbs
  rw [List.map_map]
  exact List.map_congr_left fun f _ => by simp [Function.comp, ZeO, Zsb]
 have hother : ∀ g ∈ fs, g.b ≠ f0.b -> τ.blk g.b = some (.own 87 [g.v]) /\ Hd τ 5 1 g.v g.d.length (bys g.d) := fun g hg hne => by
  obtain ⟨q1, q2, q3⟩ := h.file g hg
  refine ⟨k.keep _ _ (fun hq => ?_) q1, q3.but k fun c hc hq => ?_⟩
  ·rcases hq with hq | hq
   ·exact hne hq
   ·obtain ⟨all, hall⟩ := p3.blk hq
    exact ZdK q1 hall (by decide) rfl
  ·rcases hq with hq | hq
   ·obtain ⟨all, hall⟩ := q3.blk hc
    rw [hq] at hall
    exact ZdK p1 hall (by decide) rfl
   ·exact hne (h.far g hg f0 hf0 c hc hq)
 refine ⟨k.keep _ _ (fun hq => ?_) h.obj, k.used _ h.used, ?_, k.used _ h.umap, fun f hf => ?_, ?_, ?_, fun f hf g hg x hx hy => ?_, h.pc.but k fun c hc hq => ?_, ⟨.inl o1, .inl o2, fun f hf => ?_, fun x hx => .inl (o4 x hx)⟩, fun p hp => ?_⟩
 ·rcases hq with hq | hq
  ·exact ZdK h.obj p1 (by decide) hq
  ·obtain ⟨all, hall⟩ := p3.blk hq
   exact ZdK h.obj hall (by decide) rfl
 ·rw [hdir]
  refine k.keep _ _ (fun hq => ?_) h.map
  rcases hq with hq | hq
  ·exact ZeN p1 h.map hq.symm
  ·obtain ⟨all, hall⟩ := p3.blk hq
   exact ZeN hall h.map rfl
 ·obtain ⟨g, hg, rfl⟩ := List.mem_map.1 hf
  by_cases hgb : g.b = f0.b
  ·unfold ZdG
   rw [if_pos hgb]
   exact ⟨by rw [hgb]; exact hb, by rw [hgb]; exact k.used _ p2, hv⟩
  ·unfold ZdG
   rw [if_neg hgb]
   obtain ⟨q1, q2⟩ := hother g hg hgb
   exact ⟨q1, k.used _ (h.file g hg).2.1, q2⟩
 ·rw [List.map_map, show ((fun f : Fl => f.b) ∘ ZdG f0.b v d) = fun f : Fl => f.b from funext fun f => ZeO f]
  exact h.nd
 ·rw [List.map_map, show ((fun f : Fl => f.nm) ∘ ZdG f0.b v d) = fun f : Fl => f.nm from funext fun f => Zsb f]
  exact h.nn
 ·obtain ⟨f, hf', rfl⟩ := List.mem_map.1 hf
  obtain ⟨g, hg', rfl⟩ := List.mem_map.1 hg
  rw [ZeO, ZeO]
  unfold ZdG at hx hy
  by_cases hfb : f.b = f0.b <;> by_cases hgb : g.b = f0.b
  ·rw [hfb, hgb]
  ·rw [if_pos hfb] at hx
   rw [if_neg hgb] at hy
   rcases hnew x hx with q | q
   ·exact hfb.trans (h.far f0 hf0 g hg' x q hy)
   ·exact absurd ((h.file g hg').2.2.used hy) q.2
  ·rw [if_neg hfb] at hx
   rw [if_pos hgb] at hy
   rcases hnew x hy with q | q
   ·exact (h.far f hf' f0 hf0 x hx q).trans hgb.symm
   ·exact absurd ((h.file f hf').2.2.used hx) q.2
  ·rw [if_neg hfb] at hx
   rw [if_neg hgb] at hy
   exact h.far f hf' g hg' x hx hy
 ·rcases hq with hq | hq
  ·obtain ⟨all, hall⟩ := h.pc.blk hc
   exact ZdK hall p1 (by decide) hq
  ·obtain ⟨a1, h1⟩ := h.pc.blk hc
   obtain ⟨a2, h2⟩ := p3.blk hq
   exact ZdK h1 h2 (by decide) rfl
 ·obtain ⟨g, hg, rfl⟩ := List.mem_map.1 hf
  rw [ZeO]
  refine ⟨.inl (o3 g hg).1, fun x hx => ?_⟩
  unfold ZdG at hx
  split at hx
  ·exact .inr hx
  ·exact .inl ((o3 g hg).2 x hx)
 ·obtain ⟨f, hf, e⟩ := h.inn p hp
  exact ⟨_, List.mem_map.2 ⟨f, hf, rfl⟩, by rw [ZeO]; exact e⟩
theorem DAt.setP (h : DAt σ bb S fs pcs size mb pv) {pv' : AV} {pcs' : List (Nat × Nat)} (k : But (fun c => c = bb \/ hbk pv = some c) σ τ) (hb : τ.blk bb = some (.own 81 [pv', ZgG mb, .raw (.int .i64 size)])) (hv : Hd τ 89 2 pv' pcs'.length (pcC pcs')) (hin : ∀ p ∈ pcs', ∃ f ∈ fs, f.b = p.1) :
 DAt τ bb (fun c => S c \/ hbk pv' = some c) fs pcs' size mb pv' := by
 obtain ⟨o1, o2, o3, o4⟩ := h.own
 refine ⟨hb, k.used _ h.used, k.keep _ _ (fun hq => ?_) h.map, k.used _ h.umap, fun f hf => ?_, h.nd, h.nn, h.far, hv, ⟨.inl o1, .inl o2, fun f hf => ⟨.inl (o3 f hf).1, fun x hx => .inl ((o3 f hf).2 x hx)⟩, fun x hx => .inr hx⟩, hin⟩
 ·rcases hq with hq | hq
  ·exact ZeN h.obj h.map hq.symm
  ·obtain ⟨all, hall⟩ := h.pc.blk hq
   exact ZeN hall h.map rfl
 ·obtain ⟨q1, q2, q3⟩ := h.file f hf
  refine ⟨k.keep _ _ (fun hq => ?_) q1, k.used _ q2, q3.but k fun c hc hq => ?_⟩
  ·rcases hq with hq | hq
   ·exact ZdK h.obj q1 (by decide) hq.symm
   ·obtain ⟨all, hall⟩ := h.pc.blk hq
    exact ZdK hall q1 (by decide) rfl
  ·obtain ⟨a1, h1⟩ := q3.blk hc
   rcases hq with hq | hq
   ·exact ZdK h.obj h1 (by decide) hq.symm
   ·obtain ⟨a2, h2⟩ := h.pc.blk hq
    exact ZdK h1 h2 (by decide) rfl
theorem DAt.addF (h : DAt σ bb S fs pcs size mb pv) {nb : Nat} {nm : List UInt8} {v : AV} {d : List UInt8} (hn : Zc2 σ nb) (k : But (fun c => c = mb \/ c = nb) σ τ) (hb : τ.blk nb = some (.own 87 [v])) (hu : τ.used nb) (hm : τ.blk mb = some (.map (ZiL (Zbs (fs ++ [⟨nm, nb, v, d⟩]))))) (hv : Hd τ 5 1 v d.length (bys d)) (hnm : ∀ f ∈ fs, f.nm ≠ nm) (hvb : hbk v = none) :
 DAt τ bb (fun c => S c \/ c = nb) (fs ++ [⟨nm, nb, v, d⟩]) pcs size mb pv := by
 obtain ⟨o1, o2, o3, o4⟩ := h.own
 have hkeep : ∀ b t cs, σ.blk b = some (.own t cs) -> τ.blk b = some (.own t cs) := fun b t cs hb' => k.keep _ _ (fun hq => by
  rcases hq with hq | hq
  ·exact ZeN hb' h.map hq
  ·rw [hq, hn.1] at hb'; cases hb') hb'
 have hkeepH : ∀ {e sz n : Nat} {u : AV} {cs : List AV}, Hd σ e sz u n cs -> Hd τ e sz u n cs := fun {e sz n u cs} hu' => hu'.but k fun c hc hq => by
  obtain ⟨all, hall⟩ := hu'.blk hc
  rcases hq with hq | hq
  ·exact ZeN hall h.map hq
  ·rw [hq, hn.1] at hall; cases hall
 have hold : ∀ f ∈ fs, f.b ≠ nb := fun f hf e => by
  have := (h.file f hf).1
  rw [e, hn.1] at this
  cases this
 refine ⟨hkeep _ _ _ h.obj, k.used _ h.used, hm, k.used _ h.umap, fun f hf => ?_, ?_, ?_, fun f hf g hg x hx hy => ?_, hkeepH h.pc, ⟨.inl o1, .inl o2, fun f hf => ?_, fun x hx => .inl (o4 x hx)⟩, fun p hp => ?_⟩
 ·rcases List.mem_append.1 hf with hf | hf
  ·obtain ⟨q1, q2, q3⟩ := h.file f hf
   exact ⟨hkeep _ _ _ q1, k.used _ q2, hkeepH q3⟩
  ·rw [List.mem_singleton.1 hf]
   exact ⟨hb, hu, hv⟩
 ·rw [List.map_append, List.nodup_append]
  refine ⟨h.nd, by simp, fun a ha b hb' e => ?_⟩
  obtain ⟨f, hf, rfl⟩ := List.mem_map.1 ha
  simp at hb'
  exact hold f hf (e.trans hb')
 ·rw [List.map_append, List.nodup_append]
  refine ⟨h.nn, by simp, fun a ha b hb' e => ?_⟩
  obtain ⟨f, hf, rfl⟩ := List.mem_map.1 ha
  simp at hb'
  exact hnm f hf (e.trans hb')
 ·rcases List.mem_append.1 hf with hf | hf
  ·rcases List.mem_append.1 hg with hg | hg
   ·exact h.far f hf g hg x hx hy
   ·rw [List.mem_singleton.1 hg] at hy
    have hy : hbk v = some x := hy
    rw [hvb] at hy; cases hy
  ·rw [List.mem_singleton.1 hf] at hx
   have hx : hbk v = some x := hx
   rw [hvb] at hx; cases hx
 ·rcases List.mem_append.1 hf with hf | hf
  ·exact ⟨.inl (o3 f hf).1, fun x hx => .inl ((o3 f hf).2 x hx)⟩
  ·rw [List.mem_singleton.1 hf]
   refine ⟨.inr rfl, fun x hx => ?_⟩
   have hx : hbk v = some x := hx
   rw [hvb] at hx; cases hx
 ·obtain ⟨f, hf, e⟩ := h.inn p hp
  exact ⟨f, List.mem_append_left _ hf, e⟩
end
section
variable {P : Program} {ops : Array Oper} {env : Env} {σ τ : St} {K : Env -> St -> Prop} {d : Option Nat} {ty t : TypeId} {pos : String} {af : Array Edge} {x y : Operand} {e sz n u : Nat} {v : AV} {cells : List AV}
theorem Zxr (hx : ev env x = v) (hy : ev env y = vI u) (ht : Zar P t = some e) (hs : Zav P e = some sz) (hown : Hd σ e sz v n cells) (hu : u <= n)
 (h : ∀ v', Hd σ e sz v' u (cells.take (u * sz)) -> (∀ c, hbk v' = some c -> hbk v = some c) -> K (env.put d v') σ) : aOp P ops ⟨d, .slice t x none (some y) none, ty, pos, af, none⟩ env σ K := by
 have hix : ((none : Option Operand).toList ++ (some y).toList).map (ev env) = [vI u] := by simp [hy]
 rcases hown.2.2 with ⟨hnil, hn⟩ | ⟨b, c, all, hc, rfl, g1, g2, g3, g4, g5, g6⟩
 ·have hu0 : u = 0 := by omega
  subst hu0
  rcases hnil with rfl | ⟨ad, rfl⟩
  ·refine Zue (A := none) (n := 0) (c := 0) (l := 0) (u := 0) (cells := []) (cs := []) hx hix ht hs (ZwL rfl) (Nat.le_refl _) (Nat.le_refl _) rfl fun A' hA' => ?_
   have hA' : A' = none := by rw [hA']; rfl
   subst hA'
   exact h _ ⟨by simp, by simp, .inl ⟨.inl rfl, rfl⟩⟩ fun c hc => hc
  ·refine Zhr (A := some ad) (n := 0) (c := 0) (l := 0) (u := 0) hx hix ht hs (ZwL rfl) (Nat.le_refl _) (Nat.le_refl _) ?_
   exact h _ ⟨by simp, by simp, .inl ⟨.inr ⟨ad, rfl⟩, rfl⟩⟩ fun c hc => hc
 ·refine Zhr (A := some ⟨b, 0, none⟩) (n := n) (c := c) (l := 0) (u := u) hx hix ht hs (ZwL rfl) (Nat.zero_le _) (by omega) ?_
  have hres : (AV.raw (.slice (if c = 0 then some (⟨b, 0, none⟩ : Addr) else (some (⟨b, 0, none⟩ : Addr)).map (·.add (0 * sz))) (u - 0) (c - 0))) = hdr b u c := by
   rw [if_neg (by omega), Nat.sub_zero, Nat.sub_zero]
   simp only [Option.map, Zbl, Nat.zero_mul, Nat.zero_add]
   rfl
  rw [hres]
  have hm : u * sz <= n * sz := Nat.mul_le_mul_right _ hu
  refine h _ ⟨?_, fun a ha => hown.one a (List.mem_of_mem_take ha), .inr ⟨b, c, all, hc, rfl, g1, g2, g3, ?_, by omega, g6⟩⟩ fun c' hc' => by rw [<- Zko hc']; exact Zfr hc
  ·rw [List.length_take, hown.len]; omega
  ·rw [<- g4, List.take_take, Nat.min_eq_left hm]
end
theorem ZzA : Zav Tryz.prog (Program.pointee Tryz.prog 85) = some 1 := by kernel_rfl
section
variable {P : Program} {ops : Array Oper} {env : Env} {σ τ : St} {K : Env -> St -> Prop} {d : Option Nat} {ty t : TypeId} {pos : String} {af : Array Edge} {x y : Operand}
theorem Zgg {b o : Nat} {T : TypeId} {cs : List AV} {v : AV} (hx : ev env x = ptr b o) (hy : ev env y = v) (hb : σ.blk b = some (.own T cs)) (hn : Zav P t = some 1) (hv : v.one = true /\ Zb4 v = true /\ v.cells = [v]) (ho : o < cs.length)
 (h : ∀ τ, τ.blk b = some (.own T (cs.set o v)) -> But (fun c => c = b) σ τ -> K (env.put d (.raw undef)) τ) : aOp P ops ⟨d, .store t x y, ty, pos, af, none⟩ env σ K := by
 refine Zbn (cs' := cs.set o v) hx hy hb hn ?_ ?_ h
 ·rw [hv.2.2]
  simp [hv.1, hv.2.1]
  omega
 ·rw [hv.2.2]
  unfold ZaG
  rw [List.set_eq_take_append_cons_drop, if_pos ho]
  simp
end
theorem Zxs {σ : St} {p : Nat × Nat} {fb b3 : Nat} {c1 c2 : List AV} (hp : σ.blk p.1 = some (.own 87 c1)) (hf : σ.blk fb = some (.own 87 c2)) (hb : σ.blk b3 = some (.own 85 [ptr fb 0])) (K : AV -> St -> Prop) (hK : ∀ τ, Ext σ τ -> K (vT (decide (p.1 = fb))) τ) : Zal Tryz.prog 202 [pcV p, ptr b3 0] σ K := by
 refine Zas ZaH Tryz.func202 rfl rfl rfl (Nat.le_of_ble_eq_true rfl) ?_
 refine ZfJ 0 1 (v0 := pcV p) (v1 := ptr b3 0) rfl rfl ?_
 intro e he
 repeat refine Zab ?_
 first|refine Zaa ?_|refine Zac ?_
 refine Zad ?_
 refine Zjs (cs := [ptr p.1 0, .raw (.int .i64 (p.2 : Int))]) (v := pcV p) he.1 rfl fun b2 τ hn2 hu2 hb2 hub2 hX2 => ?_
 refine Zah ?_
 refine Zae ?_
 refine kp2 1 2 ?_
 clear he e
 intro e he
 repeat refine Zab ?_
 first|refine Zaa ?_|refine Zac ?_
 refine Zad ?_
 refine Zai (b := b2) (o := 0) he.2 Zu0 rfl ?_
 refine Zad ?_
 refine ZaC (b := b2) (o := 0 + 0) (r := ptr p.1 0) rfl hb2 Zu4 Zu2 rfl ?_
 refine Zad ?_
 refine ZaC (b := b3) (o := 0) (r := ptr fb 0) he.1 (hX2.keep _ _ hb) Zu4 Zu2 rfl ?_
 refine Zzq (m := 0) (p := p.1) (q := fb) ZgT ZzA rfl rfl (hX2.keep _ _ hp) (hX2.keep _ _ hf) ?_
 refine Zah ?_
 refine Zae ?_
 refine ZaZ ?_
 exact ZbW (hK τ hX2)
def ZC8 (fb : Nat) : Nat -> List (Nat × Nat) -> List (Nat × Nat)
 | _, [] => []
 | m, p :: l => if p.1 = fb then (p.1, p.2 - min m p.2) :: ZC8 fb (m - min m p.2) l else p :: ZC8 fb m l
def shr (fb m : Nat) (pcs : List (Nat × Nat)) : List (Nat × Nat) := (ZC8 fb m pcs.reverse).reverse
section
variable {P : Program} {ops : Array Oper} {env : Env} {σ τ : St} {K : Env -> St -> Prop} {d : Option Nat} {ty ty' t : TypeId} {pos : String} {af : Array Edge} {x y : Operand}
end
section
variable {σ : St} {bb mb : Nat} {S : Nat -> Prop} {fs : List Fl} {pcs : List (Nat × Nat)} {size : Int} {pv : AV} {K : AV -> St -> Prop}
theorem DAt.pvS (h : DAt σ bb S fs pcs size mb pv) {c : Nat} (hc : c = bb \/ hbk pv = some c) : S c := by
 rcases hc with rfl | hc
 ·exact h.own.1
 ·exact h.own.2.2.2 _ hc
theorem DAt.pvF (h : DAt σ bb S fs pcs size mb pv) {f : Fl} (hf : f ∈ fs) : ¬ hbk pv = some f.b := fun hq => by
 obtain ⟨all, hall⟩ := h.pc.blk hq
 exact ZdK hall (h.file f hf).1 (by decide) rfl
theorem DAt.pvB (h : DAt σ bb S fs pcs size mb pv) : ¬ hbk pv = some bb := fun hq => by
 obtain ⟨all, hall⟩ := h.pc.blk hq
 exact ZdK hall h.obj (by decide) rfl
theorem Zvq (h : DAt σ bb S fs pcs size mb pv) (hl : pcs.length <= 1000000000) {f0 : Fl} (hf0 : f0 ∈ fs) (hK : ∀ τ pv', DAt τ bb S fs (pcs.filter fun p => !decide (p.1 = f0.b)) size mb pv' -> But S σ τ -> K (.tup []) τ) : Zal Tryz.prog 166 [ptr bb 0, ptr f0.b 0] σ K := by
 refine Zas ZaH Tryz.func166 rfl rfl rfl (Nat.le_of_ble_eq_true rfl) ?_
 refine ZfJ 0 1 (v0 := ptr bb 0) (v1 := ptr f0.b 0) rfl rfl ?_
 intro e he
 repeat refine Zab ?_
 first|refine Zaa ?_|refine Zac ?_
 refine Zad ?_
 refine Zjs (cs := [ptr f0.b 0]) (v := ptr f0.b 0) he.2 rfl fun b3 σ3 hn3 hu3 hb3 hub3 hX3 => ?_
 refine Zae ?_
 refine kp2 0 3 ?_
 clear he e
 intro e he
 have h3 := h.ext hX3
 repeat refine Zab ?_
 first|refine Zaa ?_|refine Zac ?_
 refine Zah ?_
 refine Zah ?_
 refine Zad ?_
 refine ZaF (v := ptr bb 0) rfl rfl ?_
 refine Zad ?_
 refine Zai (b := bb) (o := 0) rfl ZjH rfl ?_
 refine Zad ?_
 refine ZaC (b := bb) (o := 0) (r := pv) rfl h3.obj ZqV ZjJ rfl ?_
 refine Zad ?_
 refine Zhs (vs := [ptr b3 0]) (by simp only [List.map_cons, List.map_nil, EV,Nat.reduceEqDiff,↓reduceIte,he];try rfl) ?_
 refine ZaK [pv, fnV 202 #[.pointer (some ⟨b3, 0, none⟩)]] ?_
 refine Zvp (q := fun p => decide (p.1 = f0.b)) h3.pc hl (fun υ hB p hp K' hK' => ?_) fun τ pv' d1 d2 d3 => ?_
 ·obtain ⟨f, hf, hfp⟩ := h3.inn p hp
  refine Zxs (c1 := [f.v]) (c2 := [f0.v]) (hB.keep _ _ (by rw [<- hfp]; exact h3.pvF hf) (by rw [<- hfp]; exact (h3.file f hf).1)) (hB.keep _ _ (h3.pvF hf0) (h3.file f0 hf0).1) (hB.keep _ _ (fun hq => ?_) hb3) K' hK'
  obtain ⟨all, hall⟩ := h3.pc.blk hq
  exact ZdK hall hb3 (by decide) rfl
 refine Zad ?_
 refine ZaF (v := ptr bb 0) rfl rfl ?_
 refine Zad ?_
 refine Zai (b := bb) (o := 0) rfl ZjH rfl ?_
 refine Zad ?_
 refine Zgg (b := bb) (o := 0) (v := pv') rfl rfl (d2.keep _ _ h3.pvB h3.obj) ZjJ d1.oneV (Nat.zero_lt_succ _) fun τ2 hb2 k2 => ?_
 refine Zae ?_
 have hB2 : But (fun c => c = bb \/ hbk pv = some c) σ3 τ2 := (d2.sub fun c hc => .inr hc).trans (k2.sub fun c hc => .inl hc)
 refine ⟨_, Zhl rfl, hK τ2 pv' ((h3.setP hB2 hb2 (d1.but k2 fun c hc hq => ?_) fun p hp => ?_).mono fun c hc => ?_) (hX3.but.trans (hB2.sub fun c hc => h3.pvS hc))⟩
 ·rw [hq] at hc
  exact h3.pvB (d3 _ hc)
 ·exact h3.inn p (List.mem_filter.1 hp).1
 ·rcases hc with hc | hc
  ·exact hc
  ·exact h3.pvS (.inr (d3 _ hc))
set_option maxHeartbeats 2000000 in
end
theorem Zd6 {S : Nat -> Prop} {σ υ : St} {c : Nat} (hB : But S σ υ) (h : Zc2 υ c) : S c \/ Zc2 σ c := by
 by_cases hc : S c
 ·exact .inl hc
 ·refine .inr ⟨?_, fun hu => h.2 (hB.used _ hu)⟩
  cases hx : σ.blk c with
  | none => rfl
  | some x =>
   have := hB.keep _ _ hc hx
   rw [h.1] at this
   cases this
def Zth (fs : List Fl) (pcs : List (Nat × Nat)) (k d : List UInt8) (fs' : List Fl) (pcs' : List (Nat × Nat)) : Prop :=
 ∃ fs1 f0 v', (fs1 = fs \/ (∀ f ∈ fs, f.nm ≠ k) /\ fs1 = fs ++ [f0] /\ f0.d = []) /\ f0 ∈ fs1 /\ f0.nm = k /\ fs' = fs1.map (ZdG f0.b v' (f0.d ++ d)) /\ pcs' = pcs ++ (if d = [] then [] else [(f0.b, d.length)])
theorem Zn5 {f : Fl} : ∀ {fs : List Fl}, f ∈ fs -> f.d.length <= Zef fs
 | g :: fs, h => by
  have : Zef (g :: fs) = g.d.length + Zef fs := by simp [Zef]
  rcases List.mem_cons.1 h with rfl | h
  ·omega
  ·have := Zn5 h; omega
section
variable {σ : St} {bb mb : Nat} {S : Nat -> Prop} {fs : List Fl} {pcs : List (Nat × Nat)} {size : Int} {pv : AV} {K : AV -> St -> Prop}
set_option maxHeartbeats 2000000 in
theorem ZpA (h : DAt σ bb S fs pcs size mb pv) (hS : ∀ c, S c -> σ.used c) {k d : List UInt8} {pa : AV}
 (hcat : ∀ τ0, Ext σ τ0 -> ∀ K' : AV -> St -> Prop, (∀ v τ, Hd τ 5 1 v d.length (bys d) -> Ext τ0 τ -> (∀ b, hbk v = some b -> Zc2 τ0 b) -> K' v τ) -> Zal Tryz.prog 39 [pa] τ0 K')
 (hlen : d.length + Zef fs <= 100000000) (hp : pcs.length <= 100000000)
 (hK2 : ¬ (k ≠ [] /\ k.length <= 40) -> ∀ τ, Ext σ τ -> K (vI 2) τ)
 (hK8 : (k ≠ [] /\ k.length <= 40) -> ¬ (size < 1 \/ ((d.length + Zef fs : Nat) : Int) <= size) -> ∀ τ, Ext σ τ -> K (vI 8) τ)
 (hK0 : (k ≠ [] /\ k.length <= 40) -> (size < 1 \/ ((d.length + Zef fs : Nat) : Int) <= size) -> ∀ τ S' fs' pcs' pv', DAt τ bb S' fs' pcs' size mb pv' -> But S σ τ -> (∀ c, S c -> S' c) -> (∀ c, S' c -> S c \/ Zc2 σ c) -> (∀ c, S' c -> τ.used c) -> Zth fs pcs k d fs' pcs' -> K (vI 0) τ) :
 Zal Tryz.prog 10 [ptr bb 0, .raw (sV k), pa] σ K := by
 refine Zas ZaH Tryz.func10 rfl rfl rfl (Nat.le_of_ble_eq_true rfl) ?_
 refine Zqw 0 1 2 (v0 := ptr bb 0) (v1 := .raw (sV k)) (v2 := pa) rfl rfl rfl ?_
 intro e he
 repeat refine Zab ?_
 first|refine Zaa ?_|refine Zac ?_
 refine Zah ?_
 refine Zae ?_
 refine kp3 0 1 2 ?_
 clear he e
 intro e he
 refine Zb7 ?_
 repeat refine Zab ?_
 first|refine Zaa ?_|refine Zac ?_
 refine Zah ?_
 refine ZaK [ptr bb 0] ?_
 refine ZiR h ?_
 refine ZjF ?_
 refine Zah ?_
 refine Zae ?_
 refine kp4 0 1 2 9 ?_
 clear he e
 intro e he
 refine ZcJ (t := false) he.2.2.2 (fun hf => by cases hf) (fun _ => ?_)
 repeat refine Zab ?_
 first|refine Zaa ?_|refine Zac ?_
 refine Zah ?_
 refine ZaK [.raw (sV k)] ?_
 refine Zr8 _ fun σ1 hX1 => ?_
 refine ZjF ?_
 refine Zah ?_
 refine Zae ?_
 refine kp4 0 1 2 13 ?_
 clear he e
 intro e he
 refine ZcJ (t := !decide (k ≠ [] /\ k.length <= 40)) he.2.2.2 (fun hk => ?_) (fun hk => ?_)
 ·rw [Bool.not_eq_true'] at hk
  repeat refine Zab ?_
  first|refine Zaa ?_|refine Zac ?_
  refine Zah ?_
  refine Zae ?_
  refine ZaZ ?_
  exact ZbW (hK2 (of_decide_eq_false hk) σ1 hX1)
 rw [Bool.not_eq_false'] at hk
 have hk := of_decide_eq_true hk
 refine ZeD ?_
 show ZaJ _ _ _ _ _ _
 repeat refine Zab ?_
 first|refine Zaa ?_|refine Zac ?_
 refine Zah ?_
 refine ZaK [pa] ?_
 refine hcat σ1 hX1 _ fun dv σ2 hdv hX2 hdn => ?_
 refine Zah ?_
 refine Zae ?_
 refine kp3 0 1 7 ?_
 clear he e
 intro e he
 have h2 := (h.ext hX1).ext hX2
 repeat refine Zab ?_
 first|refine Zaa ?_|refine Zac ?_
 refine Zah ?_
 refine Zah ?_
 refine Zad ?_
 refine ZhX rfl hdv rfl Zc9 ?_
 refine ZaK [ptr bb 0, vI d.length] ?_
 refine Zzp h2 (by omega) _ ?_
 refine ZjF ?_
 refine Zae ?_
 refine kp4 0 1 7 23 ?_
 clear he e
 intro e he
 refine ZaT (t := !decide (size < 1 \/ ((d.length + Zef fs : Nat) : Int) <= size)) he.2.2.2 (fun hf => ?_) (fun hf => ?_)
 ·rw [Bool.not_eq_true'] at hf
  repeat refine Zab ?_
  first|refine Zaa ?_|refine Zac ?_
  refine Zah ?_
  refine Zae ?_
  refine Zfo ?_
  exact ZbW (hK8 hk (of_decide_eq_false hf) σ2 (hX1.trans hX2))
 rw [Bool.not_eq_false'] at hf
 have hf := of_decide_eq_true hf
 refine Za6 ?_
 have hX12 := hX1.trans hX2
 have hdS : ∀ c, hbk dv = some c -> ¬ S c := fun c hc hs => (hdn c hc).2 (hX1.used _ (hS c hs))
 repeat refine Zab ?_
 first|refine Zaa ?_|refine Zac ?_
 refine Zah ?_
 refine Zad ?_
 refine ZaF (v := ptr bb 0) rfl rfl ?_
 refine Zad ?_
 refine Zai (b := bb) (o := 0) rfl Zcu rfl ?_
 refine Zad ?_
 refine ZaC (b := bb) (o := 0 + 1) (r := ZgG mb) rfl h2.obj ZeK ZeJ rfl ?_
 refine Zah ?_
 refine Zad ?_
 refine ZfL (k := k) (es := Zbs fs) (b := mb) rfl rfl h2.map Zgv ZgS ZjK ?_
 refine Zah ?_
 refine Zae ?_
 refine kp4 0 1 7 8 ?_
 clear he e
 intro e he
 refine Zds (fun env υ => ∃ fs1 S1 f0, DAt υ bb S1 fs1 pcs size mb pv /\ f0 ∈ fs1 /\ f0.nm = k /\ (fs1 = fs \/ (∀ f ∈ fs, f.nm ≠ k) /\ fs1 = fs ++ [f0] /\ f0.d = []) /\ (env 0 = ptr bb 0 /\ env 7 = dv /\ env 8 = ptr f0.b 0) /\ Hd υ 5 1 dv d.length (bys d) /\ (∀ c, hbk dv = some c -> ¬ S1 c) /\ But S σ υ /\ (∀ c, S c -> S1 c) /\ (∀ c, S1 c -> S c \/ Zc2 σ c) /\ (∀ c, S1 c -> υ.used c) /\ Zef fs1 = Zef fs) ?_ ?_
 ·cases hg : Zjk (Zbs fs) k with
  | some n =>
   rw [hg] at he
   obtain ⟨f0, hf0, hnm, rfl⟩ := Zfb hg
   repeat refine Zab ?_
   first|refine Zaa ?_|refine Zac ?_
   refine Zah ?_
   refine Zad ?_
   refine Zga (p := some ⟨f0.b, 0, none⟩) ZgT rfl rfl rfl ?_
   refine Zae ?_
   refine ZcJ (t := false) rfl (fun hf => by cases hf) (fun _ => ?_)
   refine ZeD ?_
   exact ⟨rfl, fs, S, f0, h2, hf0, hnm, .inl rfl, ⟨by simp only [EV,Nat.reduceEqDiff,↓reduceIte,he];try rfl, by simp only [EV,Nat.reduceEqDiff,↓reduceIte,he];try rfl, by simp only [EV,Nat.reduceEqDiff,↓reduceIte,he];try rfl⟩, hdv, hdS, hX12.but, fun c hc => hc, fun c hc => .inl hc, fun c hc => hX12.used _ (hS c hc), rfl⟩
  | none =>
   rw [hg] at he
   have hnm := ZeL.1 hg
   repeat refine Zab ?_
   first|refine Zaa ?_|refine Zac ?_
   refine Zah ?_
   refine Zad ?_
   refine Zga (p := none) ZgT rfl rfl rfl ?_
   refine Zae ?_
   refine kp4 0 1 7 31 ?_
   clear he e
   intro e he
   refine ZcJ (t := true) he.2.2.2 (fun _ => ?_) (fun hf => by cases hf)
   repeat refine Zab ?_
   first|refine Zaa ?_|refine Zac ?_
   refine Zad ?_
   refine ZcI (vs := []) (cells := [.lst none 0 0 []]) rfl Zzk Zzm rfl ?_
   refine Zad ?_
   refine Zjs (cs := [.lst none 0 0 []]) (v := .agg [.lst none 0 0 []]) rfl rfl fun nb σ3 hn3 hu3 hb3 hub3 hX3 => ?_
   refine Zah ?_
   refine Zae ?_
   refine kp4 0 1 7 8 ?_
   clear he e
   intro e he
   refine Zac ?_
   refine Zah ?_
   refine Zad ?_
   refine ZaF (v := ptr bb 0) rfl rfl ?_
   refine Zad ?_
   refine Zai (b := bb) (o := 0) rfl Zcu rfl ?_
   refine Zad ?_
   refine ZaC (b := bb) (o := 0 + 1) (r := ZgG mb) rfl (hX3.keep _ _ h2.obj) ZeK ZeJ rfl ?_
   refine Zah ?_
   refine Zah ?_
   refine Zad ?_
   refine Zps (k := k) (n := nb) (es := Zbs fs) (b := mb) rfl rfl rfl (hX3.keep _ _ h2.map) Zgv ZgS fun σ4 hm4 k4 => ?_
   refine Zae ?_
   have hnm2 : mb ≠ nb := fun e => by
    have hq := h2.map
    rw [e, hn3] at hq
    cases hq
   have hB4 : But (fun c => c = mb \/ c = nb) σ2 σ4 := hX3.but.trans (k4.sub fun c hc => .inl hc)
   have hadd := h2.addF (nm := k) (nb := nb) (v := .lst none 0 0 []) (d := []) ⟨hn3, hu3⟩ hB4 (k4.keep _ _ (fun q => hnm2 q.symm) hb3) (k4.used _ hub3) (by rw [hm4, Zr0 nb hnm]; unfold Zbs; rw [List.map_append]; rfl) ⟨rfl, by simp [bys], .inl ⟨.inl rfl, rfl⟩⟩ hnm rfl
   have hBS : But S σ σ4 := hX12.but.ext2 (T := fun c => c = mb \/ c = nb) (fun c hc => by
    rcases hc with rfl | rfl
    ·exact .inl h.own.2.1
    ·exact .inr (hX12.noneOf hn3)) hB4
   refine ⟨rfl, _, _, ⟨k, nb, .lst none 0 0 [], []⟩, hadd, List.mem_append_right _ List.mem_cons_self, rfl, .inr ⟨hnm, rfl, rfl⟩, ⟨by simp only [EV,Nat.reduceEqDiff,↓reduceIte,he];try rfl, by simp only [EV,Nat.reduceEqDiff,↓reduceIte,he];try rfl, by simp only [EV,Nat.reduceEqDiff,↓reduceIte,he];try rfl⟩, (hdv.ext hX3).but k4 fun c hc q => ?_, fun c hc hs => ?_, hBS, fun c hc => .inl hc, fun c hc => ?_, fun c hc => ?_, by simp [Zef]⟩
   ·obtain ⟨all, hall⟩ := hdv.blk hc
    exact ZeN hall h2.map q
   ·rcases hs with hs | hs
    ·exact hdS c hc hs
    ·obtain ⟨all, hall⟩ := hdv.blk hc
     rw [hs, hn3] at hall
     cases hall
   ·rcases hc with hc | hc
    ·exact .inl hc
    ·rw [hc]; exact .inr (Zc2.of ⟨hn3, hu3⟩ hX12)
   ·rcases hc with hc | hc
    ·exact hBS.used _ (hS c hc)
    ·rw [hc]; exact k4.used _ hub3
 clear he e
 rintro e υ ⟨fs1, S1, f0, h3, hf0, hnm, hor, he, hd3, hdS3, hB3, hS13, hS31, hSu3, hsum⟩
 obtain ⟨p1, p2, p3⟩ := h3.file f0 hf0
 have hfl := Zn5 hf0
 repeat refine Zab ?_
 first|refine Zaa ?_|refine Zac ?_
 refine Zah ?_
 refine Zah ?_
 refine Zad ?_
 refine ZaF (v := ptr f0.b 0) rfl rfl ?_
 refine Zad ?_
 refine Zai (b := f0.b) (o := 0) rfl ZqU rfl ?_
 refine Zad ?_
 refine ZaC (b := f0.b) (o := 0 + 0) (r := f0.v) rfl p1 Zfs Zda rfl ?_
 refine Zah ?_
 refine Zad ?_
 refine Zch rfl rfl Zc9 ZlP ZlR ZrZ rfl (by omega) p3 (hd3.src (by omega)) (by unfold maxLen; omega) (by omega) fun v' υ4 hv4 hB4 hn4 => ?_
 refine Zad ?_
 refine ZaF (v := ptr f0.b 0) rfl rfl ?_
 refine Zad ?_
 refine Zai (b := f0.b) (o := 0) rfl ZqU rfl ?_
 have hfb4 : υ4.blk f0.b = some (.own 87 [f0.v]) := hB4.keep _ _ (fun hq => by
  obtain ⟨all, hall⟩ := p3.blk hq
  exact ZdK hall p1 (by decide) rfl) p1
 refine Zad ?_
 refine Zgg (b := f0.b) (o := 0 + 0) (v := v') rfl rfl hfb4 Zda hv4.oneV (Nat.zero_lt_succ _) fun υ5 hb5 k5 => ?_
 refine Zae ?_
 have hB5 : But (fun c => c = f0.b \/ hbk f0.v = some c) υ υ5 := (hB4.sub fun c hc => .inr hc).trans (k5.sub fun c hc => .inl hc)
 have hbys : bys f0.d ++ bys d = bys (f0.d ++ d) := by unfold bys; rw [List.map_append]
 have hv5 : Hd υ5 5 1 v' (f0.d ++ d).length (bys (f0.d ++ d)) := by
  rw [List.length_append, <- hbys]
  refine hv4.but k5 fun c hc hq => ?_
  obtain ⟨all, hall⟩ := hv4.blk hc
  exact ZdK hall hfb4 (by decide) hq
 have h5 := h3.setF hf0 hB5 hb5 hv5 hn4
 have hf0S := h3.own.2.2.1 f0 hf0
 have hd5 : Hd υ5 5 1 dv d.length (bys d) := hd3.but hB5 fun c hc hq => by
  rcases hq with hq | hq
  ·obtain ⟨all, hall⟩ := hd3.blk hc
   exact ZdK hall p1 (by decide) hq
  ·exact hdS3 c hc (hf0S.2 c hq)
 have hBS5 : But S σ υ5 := hB3.ext2 (T := fun c => c = f0.b \/ hbk f0.v = some c) (fun c hc => by
  have hs1 : S1 c := by
   rcases hc with rfl | hc
   ·exact hf0S.1
   ·exact hf0S.2 c hc
  rcases hS31 c hs1 with q | q
  ·exact .inl q
  ·exact .inr q.1) hB5
 have hS5 : ∀ c, (S1 c \/ hbk v' = some c) -> S c \/ Zc2 σ c := fun c hc => by
  rcases hc with hc | hc
  ·exact hS31 c hc
  ·rcases hn4 c hc with q | q
   ·exact hS31 c (hf0S.2 c q)
   ·exact Zd6 hB3 q
 have hSu5 : ∀ c, (S1 c \/ hbk v' = some c) -> υ5.used c := fun c hc => by
  rcases hc with hc | hc
  ·exact hB5.used _ (hSu3 c hc)
  ·exact hv5.used hc
 clear hv4 hB4 hn4 hfb4 k5 hb5
 refine kp3 0 7 8 ?_
 clear he e
 intro e he
 refine Zds (fun env υ => env 7 = dv /\ ∃ S' pcs' pv', DAt υ bb S' (fs1.map (ZdG f0.b v' (f0.d ++ d))) pcs' size mb pv' /\ pcs' = pcs ++ (if d = [] then [] else [(f0.b, d.length)]) /\ But S σ υ /\ (∀ c, S c -> S' c) /\ (∀ c, S' c -> S c \/ Zc2 σ c) /\ (∀ c, S' c -> υ.used c)) ?_ ?_
 ·repeat refine Zab ?_
  first|refine Zaa ?_|refine Zac ?_
  refine Zah ?_
  refine Zad ?_
  refine ZhX rfl hd5 rfl Zc9 ?_
  refine Zad ?_
  refine ZnH (k := .i64) (a := (d.length : Int)) (b := 0) rfl rfl ?_
  refine Zae ?_
  refine kp4 0 7 8 51 ?_
  clear he e
  intro e he
  refine ZcJ (t := decide ((0 : Int) < (d.length : Int))) he.2.2.2 (fun hd0 => ?_) (fun hd0 => ?_)
  ·have hd0 := of_decide_eq_true hd0
   have hdne : ¬ d = [] := fun e => by rw [e] at hd0; exact absurd hd0 (by decide)
   refine Zac ?_
   refine Zah ?_
   refine Zah ?_
   refine Zad ?_
   refine ZaF (v := ptr bb 0) rfl rfl ?_
   refine Zad ?_
   refine Zai (b := bb) (o := 0) rfl Zcu rfl ?_
   refine Zad ?_
   refine Zai (b := bb) (o := 0 + 0) rfl ZjH rfl ?_
   refine Zad ?_
   refine ZaC (b := bb) (o := 0 + 0 + 0) (r := pv) rfl h5.obj ZqV ZjJ rfl ?_
   refine Zah ?_
   refine Zah ?_
   refine Zad ?_
   refine ZhX rfl hd5 rfl Zc9 ?_
   refine Zad ?_
   refine ZcI (vs := [ptr f0.b 0, vI d.length]) (cells := [ptr f0.b 0, vI d.length]) (by simp only [List.map_cons, List.map_nil, EV,Nat.reduceEqDiff,↓reduceIte,he]; try rfl) ZjL Zzn rfl ?_
   refine Zad ?_
   refine Zif (vs := [.agg [ptr f0.b 0, vI d.length]]) (cells := [ptr f0.b 0, vI d.length]) (by simp only [List.map_cons, List.map_nil, EV,Nat.reduceEqDiff,↓reduceIte,he];try rfl) Zee ZcK ZjL rfl (by omega) rfl rfl fun rb υ6 hN6 hX6 => ?_
   have h6 := h5.ext hX6
   refine Zad ?_
   refine Zch (m := 1) (news := [ptr f0.b 0, vI d.length]) (r := .lst (some ⟨rb, 0, none⟩) 1 1 ([ptr f0.b 0, vI d.length] ++ [])) rfl rfl Zee ZcK ZjL Zzo rfl (by omega) h6.pc (Zge rfl (fun a ha => by
    simp only [List.mem_cons, List.not_mem_nil, or_false] at ha
    rcases ha with rfl | rfl <;> rfl) (fun q => by cases q)) (by unfold maxLen; omega) (by omega) fun pv' υ7 hv7 hB7 hn7 => ?_
   refine Zad ?_
   refine ZaF (v := ptr bb 0) rfl rfl ?_
   refine Zad ?_
   refine Zai (b := bb) (o := 0) rfl Zcu rfl ?_
   refine Zad ?_
   refine Zai (b := bb) (o := 0 + 0) rfl ZjH rfl ?_
   refine Zad ?_
   refine Zgg (b := bb) (o := 0 + 0 + 0) (v := pv') rfl rfl (hB7.keep _ _ h6.pvB h6.obj) ZjJ hv7.oneV (Nat.zero_lt_succ _) fun υ8 hb8 k8 => ?_
   refine Zae ?_
   have hB8 : But (fun c => c = bb \/ hbk pv = some c) υ6 υ8 := (hB7.sub fun c hc => .inr hc).trans (k8.sub fun c hc => .inl hc)
   have hpc : pcC pcs ++ [ptr f0.b 0, vI d.length] = pcC (pcs ++ [(f0.b, d.length)]) := by rw [ZqW]; rfl
   have hv8 : Hd υ8 89 2 pv' (pcs ++ [(f0.b, d.length)]).length (pcC (pcs ++ [(f0.b, d.length)])) := by
    rw [List.length_append, <- hpc]
    refine hv7.but k8 fun c hc hq => ?_
    obtain ⟨all, hall⟩ := hv7.blk hc
    exact ZdK hall (hB7.keep _ _ h6.pvB h6.obj) (by decide) hq
   have h8 := h6.setP hB8 hb8 hv8 fun p hp => by
    rcases List.mem_append.1 hp with hp | hp
    ·exact h6.inn p hp
    ·rw [List.mem_singleton.1 hp]
     exact ⟨_, List.mem_map.2 ⟨f0, hf0, rfl⟩, ZeO f0⟩
   have hBS6 : But S σ υ6 := hBS5.trans hX6.but
   refine ⟨rfl, by simp only [EV,Nat.reduceEqDiff,↓reduceIte,he];try rfl, _, _, pv', h8, by rw [if_neg hdne], hBS6.ext2 (T := fun c => c = bb \/ hbk pv = some c) (fun c hc => ?_) hB8, fun c hc => .inl (.inl (hS13 c hc)), fun c hc => ?_, fun c hc => ?_⟩
   ·rcases hS5 c (h6.pvS hc) with q | q
    ·exact .inl q
    ·exact .inr q.1
   ·rcases hc with hc | hc
    ·exact hS5 c hc
    ·rcases hn7 c hc with q | q
     ·exact hS5 c (h6.pvS (.inr q))
     ·exact Zd6 hBS6 q
   ·rcases hc with hc | hc
    ·exact hB8.used _ (hX6.used _ (hSu5 c hc))
    ·exact hv8.used hc
  ·have hd0 := of_decide_eq_false hd0
   have hdn : d = [] := List.eq_nil_of_length_eq_zero (by omega)
   refine ZeD ?_
   exact ⟨rfl, by simp only [EV,Nat.reduceEqDiff,↓reduceIte,he];try rfl, _, pcs, pv, h5, by rw [if_pos hdn, List.append_nil], hBS5, fun c hc => .inl (hS13 c hc), hS5, hSu5⟩
 clear he e
 rintro e τ ⟨he, S', pcs', pv', h9, hpcs, g1, g2, g3, g4⟩
 repeat refine Zab ?_
 first|refine Zaa ?_|refine Zac ?_
 refine Zah ?_
 refine Zae ?_
 refine ZaZ ?_
 exact ZbW (hK0 hk hf τ S' _ pcs' pv' h9 g1 g2 g3 g4 ⟨fs1, f0, v', hor, hf0, hnm, rfl, hpcs⟩)
end
theorem ZcQ : Ze0 Tryz.prog 9 = some false := by kernel_rfl
theorem ZbX : Zav Tryz.prog 9 = some 1 := by kernel_rfl
theorem Zgh : Ze0 Tryz.prog 28 = some false := by kernel_rfl
theorem Zgi : Zav Tryz.prog 28 = some 1 := by kernel_rfl
def ZzB (ns : List (List UInt8)) : List AV := ns.map fun s => .raw (sV s)
theorem Zxt (ns : List (List UInt8)) : (ZzB ns).length = ns.length := by simp [ZzB]
theorem Zsc {ns : List (List UInt8)} {i : Nat} (h : i < ns.length) : (ZzB ns)[i]? = some (.raw (sV ns[i])) := by
 unfold ZzB
 rw [List.getElem?_map, List.getElem?_eq_getElem h]
 rfl
def ZiS (σ : St) (v : AV) (ns : List (List UInt8)) : Prop := (∃ A c rest, v = .lst A ns.length c (ZzB ns ++ rest) /\ (A = none -> ns.length = 0)) \/ Hd σ 9 1 v ns.length (ZzB ns)
theorem ZiS.but {S : Nat -> Prop} {σ τ : St} {v : AV} {ns : List (List UInt8)} (h : ZiS σ v ns) (k : But S σ τ) (hS : ∀ c, hbk v = some c -> ¬ S c) : ZiS τ v ns := by
 rcases h with h | h
 ·exact .inl h
 ·exact .inr (h.but k hS)
theorem ZiS.val {σ : St} {v : AV} {ns : List (List UInt8)} (h : ZiS σ v ns) : ∃ A c, v.val = .slice A ns.length c := by
 rcases h with ⟨A, c, rest, rfl, _⟩ | h
 ·exact ⟨A, c, rfl⟩
 ·obtain ⟨A, c, h1, _⟩ := h.val
  exact ⟨A, c, h1⟩
section
variable {ops : Array Oper} {env : Env} {σ τ : St} {K : Env -> St -> Prop}
abbrev fnG (g : FuncId) (fst caps : Array Value) : AV := .raw (.func (.func g) fst caps)
theorem ZBB {n d : Nat} {ty1 ty2 : TypeId} {pos1 pos2 : String} {af1 af2 : Array Edge} {x y : Operand} {v : AV} {ns : List (List UInt8)} {i : Nat} {l : List Oper} (hN : ZiS σ v ns) (hi : i < ns.length) (hx : ev env x = v) (hy : ev env y = vI i) (h : ∀ u, Zbx Tryz.prog ops l ((env.put (some n) u).put (some d) (.raw (sV ns[i]))) σ K) :
 Zbx Tryz.prog ops (⟨some n, .indexAddr 69 x y, ty1, pos1, af1, none⟩ :: ⟨some d, .load 9 (.tmp n), ty2, pos2, af2, none⟩ :: l) env σ K := by
 rcases hN with ⟨A, c, rest, rfl, hA⟩ | hN
 ·refine Zad (Zc1 (k := .i64) (j := i) hx hy ZjI ZbX hi hA rfl fun ad => ?_)
  refine Zad (Zdo (r := .raw (sV ns[i])) (by simp only [EV]; rfl) ZcQ ZbX ?_ (h _))
  show ((ZzB ns ++ rest).drop (i * 1))[0]? = _
  rw [List.getElem?_drop, Nat.mul_one, Nat.add_zero, List.getElem?_append_left (by rw [Zxt]; exact hi), Zsc hi]
 ·refine Zad (ZdV (k := .i64) (j := i) hx hy ZjI ZbX hN hi fun b hb => ?_)
  exact Zad (ZBq (by simp only [EV]; rfl) hN hb hi (Zsc hi) ZcQ ZbX (h _))
end
set_option maxHeartbeats 1000000 in
theorem ZqY {σ : St} {bb mb : Nat} {S : Nat -> Prop} {fs : List Fl} {pcs : List (Nat × Nat)} {size : Int} {pv v : AV} {ns : List (List UInt8)} {g : FuncId} {fst caps : Array Value} {K : AV -> St -> Prop} (I : Nat -> St -> Prop)
 (h : DAt σ bb S fs pcs size mb pv) (hN : ZiS σ v ns) (hnl : ns.length <= 1000000000) (h0 : I 0 σ)
 (hstep : ∀ i (hi : i < ns.length) υ, I i υ -> ∃ S fs pcs size mb pv, DAt υ bb S fs pcs size mb pv /\ ZiS υ v ns /\ (Zjk (Zbs fs) ns[i] = none -> K (vI 6) υ) /\ ∀ fb, Zjk (Zbs fs) ns[i] = some fb -> Zal Tryz.prog g (fst.toList.map .raw ++ [.raw (sV ns[i]), ptr fb 0] ++ caps.toList.map .raw) υ fun _ τ => I (i + 1) τ)
 (hend : ∀ υ, I ns.length υ -> K (vI 0) υ) : Zal Tryz.prog 163 [ptr bb 0, fnG g fst caps, v] σ K := by
 refine Zas ZaH Tryz.func163 rfl rfl rfl (Nat.le_of_ble_eq_true rfl) ?_
 refine Zqw 0 1 2 (v0 := ptr bb 0) (v1 := fnG g fst caps) (v2 := v) rfl rfl rfl ?_
 intro e he
 repeat refine Zab ?_
 first|refine Zaa ?_|refine Zac ?_
 refine Zah ?_
 refine Zae ?_
 refine kp3 0 1 2 ?_
 clear he e
 intro e he
 repeat refine Zab ?_
 first|refine Zaa ?_|refine Zac ?_
 refine Zah ?_
 refine ZaK [ptr bb 0] ?_
 refine ZiR h ?_
 refine ZjF ?_
 refine Zae ?_
 refine kp4 0 1 2 12 ?_
 clear he e
 intro e he
 refine ZaT (t := false) he.2.2.2 (fun hf => by cases hf) (fun _ => ?_)
 refine Za6 ?_
 obtain ⟨A, c, hv⟩ := hN.val
 repeat refine Zab ?_
 first|refine Zaa ?_|refine Zac ?_
 refine Zah ?_
 refine Zad ?_
 refine Zfa rfl hv rfl ZjI ?_
 refine Zah ?_
 refine Zae ?_
 refine kp5 0 1 13 14 15 ?_
 clear he e
 intro e he
 refine Zb7 ?_
 refine Zdn (fun μ env υ => ∃ i : Nat, μ = ns.length - i /\ i <= ns.length /\ (env 0 = ptr bb 0 /\ env 1 = fnG g fst caps /\ env 13 = v /\ env 14 = vI ns.length /\ env 15 = vI i) /\ I i υ) ⟨_, 0, rfl, Nat.zero_le _, he, h0⟩ ?_
 clear he e h hN
 rintro _ e υ ⟨i, rfl, hi, he, hI⟩
 repeat refine Zab ?_
 first|refine Zaa ?_|refine Zac ?_
 refine ZjG i ns.length ?_
 refine Zae ?_
 refine kp6 0 1 13 14 15 16 ?_
 clear he e
 intro e he
 refine ZaT (t := decide (i < ns.length)) he.2.2.2.2.2 (fun ht => ?_) (fun ht => ?_)
 ·have hlt : i < ns.length := of_decide_eq_true ht
  obtain ⟨S, fs, pcs, size, mb, pv, h, hN, hnone, hsome⟩ := hstep i hlt υ hI
  refine Za6 ?_
  refine Zb7 ?_
  repeat refine Zab ?_
  first|refine Zaa ?_|refine Zac ?_
  refine ZBB hN hlt he.2.2.1 he.2.2.2.2.1 fun u => ?_
  refine Zah ?_
  refine Zae ?_
  refine kp6 0 1 8 13 14 15 ?_
  clear he e
  intro e he
  repeat refine Zab ?_
  first|refine Zaa ?_|refine Zac ?_
  refine Zah ?_
  refine Zad ?_
  refine ZaF (v := ptr bb 0) rfl rfl ?_
  refine Zad ?_
  refine Zai (b := bb) (o := 0) rfl Zcu rfl ?_
  refine Zad ?_
  refine ZaC (b := bb) (o := 0 + 1) (r := ZgG mb) rfl h.obj ZeK ZeJ rfl ?_
  refine Zah ?_
  refine Zad ?_
  refine ZfL (k := ns[i]) (es := Zbs fs) (b := mb) rfl rfl h.map Zgv ZgS ZjK ?_
  refine Zah ?_
  refine Zae ?_
  refine kp7 0 1 8 9 13 14 15 ?_
  clear he e
  intro e he
  repeat refine Zab ?_
  first|refine Zaa ?_|refine Zac ?_
  refine Zah ?_
  cases hg : Zjk (Zbs fs) ns[i] with
  | none =>
   rw [hg] at he
   refine Zad ?_
   refine Zga (p := none) ZgT rfl rfl rfl ?_
   refine Zae ?_
   refine ZaT (t := true) rfl (fun _ => ?_) (fun hf => by cases hf)
   repeat refine Zab ?_
   first|refine Zaa ?_|refine Zac ?_
   refine Zah ?_
   refine Zae ?_
   refine Zfo ?_
   exact ZbW (hnone hg)
  | some fb =>
   rw [hg] at he
   refine Zad ?_
   refine Zga (p := some ⟨fb, 0, none⟩) ZgT rfl rfl rfl ?_
   refine Zae ?_
   refine kp8 0 1 8 9 13 14 15 26 ?_
   clear he e
   intro e he
   refine ZaT (t := false) he.2.2.2.2.2.2.2 (fun hf => by cases hf) (fun _ => ?_)
   refine Za6 ?_
   repeat refine Zab ?_
   first|refine Zaa ?_|refine Zac ?_
   refine Zah ?_
   refine Zah ?_
   refine Zah ?_
   refine Zad ?_
   refine Zzr (g := g) (fst := fst) (caps := caps) (vs := [.raw (sV ns[i]), ptr fb 0]) rfl (by simp only [List.map_cons, List.map_nil, EV,Nat.reduceEqDiff,↓reduceIte,he];try rfl) ?_
   refine (hsome fb hg).mono fun a τ hI2 => ?_
   refine Zae ?_
   show ZaJ _ _ _ _ _ _
   refine kp5 0 1 13 14 15 ?_
   clear he e
   intro e he
   refine Zac ?_
   refine ZfM i 1 ?_
   refine Zah ?_
   refine Zae ?_
   show ∃ n', n' < _ /\ _
   exact ⟨_, (by omega : ns.length - (i + 1) < ns.length - i), i + 1, rfl, hlt, ⟨by simp only [EV,Nat.reduceEqDiff,↓reduceIte,he];try rfl, by simp only [EV,Nat.reduceEqDiff,↓reduceIte,he];try rfl, by simp only [EV,Nat.reduceEqDiff,↓reduceIte,he];try rfl, by simp only [EV,Nat.reduceEqDiff,↓reduceIte,he];try rfl, by simp only [EV,Nat.reduceEqDiff,↓reduceIte,he];try rfl⟩, hI2⟩
 ·have hke : i = ns.length := by have := of_decide_eq_false ht; omega
  subst hke
  refine Ze5 ?_
  show ZaJ _ _ _ _ _ _
  repeat refine Zab ?_
  first|refine Zaa ?_|refine Zac ?_
  refine Zah ?_
  refine Zae ?_
  refine ZaZ ?_
  exact ZbW (hend υ hI)
def ZeP (fs : List Fl) : List (List UInt8) -> List (Nat × Nat) -> List (Nat × Nat) × Nat
 | [], pcs => (pcs, 0)
 | n :: ns, pcs => match Zjk (Zbs fs) n with
  | none => (pcs, 6)
  | some fb => ZeP fs ns (pcs.filter fun p => !decide (p.1 = fb))
theorem Zti {fs : List Fl} {n : List UInt8} {ns : List (List UInt8)} {pcs : List (Nat × Nat)} (h : Zjk (Zbs fs) n = none) : ZeP fs (n :: ns) pcs = (pcs, 6) := by
 unfold ZeP
 rw [h]
theorem ZjN {fs : List Fl} {n : List UInt8} {ns : List (List UInt8)} {pcs : List (Nat × Nat)} {fb : Nat} (h : Zjk (Zbs fs) n = some fb) : ZeP fs (n :: ns) pcs = ZeP fs ns (pcs.filter fun p => !decide (p.1 = fb)) := by
 conv => lhs; unfold ZeP
 rw [h]
theorem ZpB {fs : List Fl} {pcs : List (Nat × Nat)} : ZeP fs [] pcs = (pcs, 0) := rfl
section
variable {σ : St} {bb mb : Nat} {S : Nat -> Prop} {fs : List Fl} {pcs : List (Nat × Nat)} {size : Int} {pv : AV} {K : AV -> St -> Prop}
theorem Zxu {b2 : Nat} {a : AV} (h : DAt σ bb S fs pcs size mb pv) (hl : pcs.length <= 1000000000) (hb : σ.blk b2 = some (.own 28 [ptr bb 0])) {f0 : Fl} (hf0 : f0 ∈ fs) (hK : ∀ τ pv', DAt τ bb S fs (pcs.filter fun p => !decide (p.1 = f0.b)) size mb pv' -> But S σ τ -> K (.tup []) τ) : Zal Tryz.prog 165 [a, ptr f0.b 0, ptr b2 0] σ K := by
 refine Zas ZaH Tryz.func165 rfl rfl rfl (Nat.le_of_ble_eq_true rfl) ?_
 refine ZfJ 1 2 (v0 := ptr f0.b 0) (v1 := ptr b2 0) rfl rfl ?_
 intro e he
 repeat refine Zab ?_
 first|refine Zaa ?_|refine Zac ?_
 refine Zad ?_
 refine ZaC (b := b2) (o := 0) (r := ptr bb 0) he.2 hb Zgh Zgi rfl ?_
 refine Zad ?_
 refine ZaF (v := ptr bb 0) rfl rfl ?_
 refine Zad ?_
 refine Zai (b := bb) (o := 0) rfl Zcu rfl ?_
 refine Zah ?_
 refine ZaK [ptr bb 0, ptr f0.b 0] ?_
 refine Zvq h hl hf0 fun τ pv' h1 h2 => ?_
 refine Zae ?_
 exact ⟨_, Zhl rfl, hK τ pv' h1 h2⟩
theorem ZzC (h : DAt σ bb S fs pcs size mb pv) (hS : ∀ c, S c -> σ.used c) (hl : pcs.length <= 1000000000) {v : AV} {ns : List (List UInt8)} (hN : ZiS σ v ns) (hNS : ∀ c, hbk v = some c -> ¬ S c) (hnl : ns.length <= 1000000000)
 (hK : ∀ τ pv', DAt τ bb S fs (ZeP fs ns pcs).1 size mb pv' -> But S σ τ -> K (vI (ZeP fs ns pcs).2) τ) : Zal Tryz.prog 108 [ptr bb 0, v] σ K := by
 refine Zas ZaH Tryz.func108 rfl rfl rfl (Nat.le_of_ble_eq_true rfl) ?_
 refine ZfJ 0 1 (v0 := ptr bb 0) (v1 := v) rfl rfl ?_
 intro e he
 repeat refine Zab ?_
 first|refine Zaa ?_|refine Zac ?_
 refine Zad ?_
 refine Zjs (cs := [ptr bb 0]) (v := ptr bb 0) he.1 rfl fun b2 σ2 hn2 hu2 hb2 hub2 hX2 => ?_
 refine Zah ?_
 refine Zae ?_
 refine kp2 1 2 ?_
 clear he e
 intro e he
 have h2 := h.ext hX2
 have hbS : ¬ S b2 := fun hs => hu2 (hS _ hs)
 repeat refine Zab ?_
 first|refine Zaa ?_|refine Zac ?_
 refine Zad ?_
 refine ZaC (b := b2) (o := 0) (r := ptr bb 0) he.2 hb2 Zgh Zgi rfl ?_
 refine Zad ?_
 refine Zhs (vs := [ptr b2 0]) (by simp only [List.map_cons, List.map_nil, EV,Nat.reduceEqDiff,↓reduceIte,he];try rfl) ?_
 refine Zah ?_
 refine ZaK [ptr bb 0, fnV 165 #[.pointer (some ⟨b2, 0, none⟩)], v] ?_
 have hfin : ∀ (a : Nat) (τ : St), (∃ pv', DAt τ bb S fs (ZeP fs ns pcs).1 size mb pv') -> But S σ τ -> a = (ZeP fs ns pcs).2 -> K (vI a) τ := fun a τ ⟨pv', q1⟩ q2 q3 => by
  rw [q3]; exact hK τ pv' q1 q2
 refine ZqY (fun i υ => ∃ pcs' pv', DAt υ bb S fs pcs' size mb pv' /\ pcs'.length <= 1000000000 /\ ZeP fs (ns.drop i) pcs' = ZeP fs ns pcs /\ But S σ υ /\ υ.blk b2 = some (.own 28 [ptr bb 0]) /\ ZiS υ v ns) h2 (hN.but (S := S) hX2.but hNS) hnl ⟨pcs, pv, h2, hl, rfl, hX2.but, hb2, hN.but (S := S) hX2.but hNS⟩ (fun i hi υ => ?_) (fun υ => ?_)
 ·rintro ⟨pcs', pv', g1, g2, g3, g4, g5, g6⟩
  rw [List.drop_eq_getElem_cons hi] at g3
  refine ⟨S, fs, pcs', size, mb, pv', g1, g6, fun hg => ?_, fun fb hg => ?_⟩
  ·rw [Zti hg] at g3
   refine Zah ?_
   refine Zae ?_
   refine ZaZ ?_
   refine ⟨_, ZeE rfl rfl, hfin 6 υ ⟨pv', ?_⟩ g4 ?_⟩
   ·rw [<- g3]; exact g1
   ·rw [<- g3]
  ·rw [ZjN hg] at g3
   obtain ⟨f0, hf0, hnm, rfl⟩ := Zfb hg
   refine Zxu (b2 := b2) g1 g2 g5 hf0 fun τ pv2 k1 k2 => ⟨_, pv2, k1, Nat.le_trans (List.length_filter_le _ _) g2, g3, g4.trans k2, k2.keep _ _ hbS g5, g6.but k2 hNS⟩
 ·rintro ⟨pcs', pv', g1, g2, g3, g4, g5, g6⟩
  rw [List.drop_eq_nil_of_le (Nat.le_refl _)] at g3
  rw [ZpB] at g3
  refine Zah ?_
  refine Zae ?_
  refine ZaZ ?_
  refine ⟨_, ZeE rfl rfl, hfin 0 υ ⟨pv', ?_⟩ g4 ?_⟩
  ·rw [<- g3]; exact g1
  ·rw [<- g3]
theorem ZzD (h : DAt σ bb S fs pcs size mb pv) {k : List UInt8} (hfl : ∀ f ∈ fs, f.d.length <= 1000000000)
 (hK1 : (∀ f ∈ fs, f.nm ≠ k) -> K (.tup [.lst none 0 0 [], vT false]) σ)
 (hK2 : ∀ f0 ∈ fs, f0.nm = k -> ∀ τ v, Hd τ 5 1 v f0.d.length (bys f0.d) -> Ext σ τ -> (∀ c, hbk v = some c -> Zc2 σ c) -> K (.tup [v, vT true]) τ) : Zal Tryz.prog 32 [ptr bb 0, .raw (sV k)] σ K := by
 refine Zas ZaH Tryz.func32 rfl rfl rfl (Nat.le_of_ble_eq_true rfl) ?_
 refine ZfJ 0 1 (v0 := ptr bb 0) (v1 := .raw (sV k)) rfl rfl ?_
 intro e he
 repeat refine Zab ?_
 first|refine Zaa ?_|refine Zac ?_
 refine Zah ?_
 refine Zah ?_
 refine Zae ?_
 refine kp4 0 1 4 5 ?_
 clear he e
 intro e he
 repeat refine Zab ?_
 first|refine Zaa ?_|refine Zac ?_
 refine Zah ?_
 refine ZaK [ptr bb 0] ?_
 refine ZiR h ?_
 refine ZjF ?_
 refine Zah ?_
 refine Zcn ?_
 refine ZjE rfl he.1 ?_
 refine Zcn ?_
 refine ZaF (v := ptr bb 0) rfl rfl ?_
 refine Zcn ?_
 refine Zai (b := bb) (o := 0) rfl Zcu rfl ?_
 refine Zcn ?_
 refine ZaC (b := bb) (o := 0 + 1) (r := ZgG mb) rfl h.obj ZeK ZeJ rfl ?_
 refine Zcn ?_
 refine ZjE rfl he.2.1 ?_
 refine Zcn ?_
 refine ZfL (k := k) (es := Zbs fs) (b := mb) rfl rfl h.map Zgv ZgS ZjK ?_
 cases hg : Zjk (Zbs fs) k with
 | none =>
  refine Zcn ?_
  refine Zga (p := none) ZgT rfl rfl rfl ?_
  refine Zad ?_
  refine ZbR (v := vT true) rfl rfl ?_
  refine Zae ?_
  refine kp3 0 1 17 ?_
  clear he e
  intro e he
  refine ZaT (t := true) he.2.2 (fun _ => ?_) (fun hf => by cases hf)
  repeat refine Zab ?_
  first|refine Zaa ?_|refine Zac ?_
  refine Zah ?_
  refine Zah ?_
  refine Zae ?_
  refine Zfo ?_
  show ∃ r, Za1 _ _ _ _ r /\ _
  exact Zix rfl (Za4 rfl) (Za4 rfl) (hK1 (ZeL.1 hg))
 | some fb =>
  obtain ⟨f0, hf0, hnm, rfl⟩ := Zfb hg
  obtain ⟨p1, p2, p3⟩ := h.file f0 hf0
  refine Zcn ?_
  refine Zga (p := some ⟨f0.b, 0, none⟩) ZgT rfl rfl rfl ?_
  refine Zad ?_
  refine ZbR (v := vT false) rfl rfl ?_
  refine Zae ?_
  refine kp3 0 1 17 ?_
  clear he e
  intro e he
  refine ZaT (t := false) he.2.2 (fun hf => by cases hf) (fun _ => ?_)
  refine Za6 ?_
  repeat refine Zab ?_
  first|refine Zaa ?_|refine Zac ?_
  refine Zah ?_
  refine Zad ?_
  refine ZaF (v := ptr bb 0) rfl rfl ?_
  refine Zad ?_
  refine Zai (b := bb) (o := 0) rfl Zcu rfl ?_
  refine Zad ?_
  refine ZaC (b := bb) (o := 0 + 1) (r := ZgG mb) rfl h.obj ZeK ZeJ rfl ?_
  refine Zah ?_
  refine Zad ?_
  refine ZfL (k := k) (es := Zbs fs) (b := mb) rfl rfl h.map Zgv ZgS ZjK ?_
  rw [hg]
  refine Zad ?_
  refine ZaF (v := ptr f0.b 0) rfl rfl ?_
  refine Zad ?_
  refine Zai (b := f0.b) (o := 0) rfl ZqU rfl ?_
  refine Zad ?_
  refine ZaC (b := f0.b) (o := 0 + 0) (r := f0.v) rfl p1 Zfs Zda rfl ?_
  refine ZaK [f0.v] ?_
  refine Zvj p3 (hfl f0 hf0) _ fun v τ q1 q2 q3 => ?_
  refine Zah ?_
  refine Zah ?_
  refine Zae ?_
  refine ZaZ ?_
  show ∃ r, Za1 _ _ _ _ r /\ _
  exact Zix rfl (Za4 rfl) (Za4 rfl) (hK2 f0 hf0 hnm τ v q1 q2 q3)
end
abbrev FD := List (List UInt8 × Nat × List UInt8)
def dat (fs : List Fl) : FD := fs.map fun f => (f.nm, f.b, f.d)
def ZDC (b m : Nat) (l : FD) : FD := l.map fun f => if f.2.1 = b then (f.1, f.2.1, f.2.2.take (f.2.2.length - m)) else f
def ZpC : Nat -> FD -> List (Nat × Nat) -> FD
 | _, l, [] => l
 | lost, l, p :: ps => ZpC (lost - min lost p.2) (ZDC p.1 (min lost p.2) l) ps
def Zfu (b : Nat) (pcs : List (Nat × Nat)) : Nat := ZfF (pcs.filter fun p => decide (p.1 = b))
theorem ZlW (b : Nat) (l m : List (Nat × Nat)) : Zfu b (l ++ m) = Zfu b l + Zfu b m := by simp [Zfu, ZfF]
theorem Zsd (l m : List (Nat × Nat)) : ZfF (l ++ m) = ZfF l + ZfF m := by simp [ZfF]
theorem ZpD (b : Nat) (p : Nat × Nat) : Zfu b [p] = if p.1 = b then p.2 else 0 := by
 unfold Zfu ZfF
 by_cases h : p.1 = b <;> simp [h]
theorem Zxv (p : Nat × Nat) : ZfF [p] = p.2 := by simp [ZfF]
theorem Zvr (b : Nat) : Zfu b [] = 0 := rfl
theorem Zse {p : Nat × Nat} : ∀ {l : List (Nat × Nat)}, p ∈ l -> p.2 <= ZfF l
 | q :: l, h => by
  have : ZfF (q :: l) = q.2 + ZfF l := by simp [ZfF]
  rcases List.mem_cons.1 h with rfl | h
  ·omega
  ·have := Zse h; omega
structure Wf (fs : List Fl) (pcs : List (Nat × Nat)) : Prop where
 pos : ∀ p ∈ pcs, 0 < p.2
 fit : ∀ f ∈ fs, Zfu f.b pcs <= f.d.length
section
variable {σ : St} {bb mb : Nat} {S : Nat -> Prop} {fs : List Fl} {pcs : List (Nat × Nat)} {size : Int} {pv : AV} {K : AV -> St -> Prop}
set_option maxHeartbeats 2000000 in
end
end Go.Proofs.YteempnebenjkmaaGreatDoor
