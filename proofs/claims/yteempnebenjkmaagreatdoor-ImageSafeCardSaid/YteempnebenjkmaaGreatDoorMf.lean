/- XDn, XDp, XDo, XDq, XDr, XDs, XDu in one. -/
import Derived.Test.YteempnebenjkmaaGreatDoorBy
import Derived.Test.YteempnebenjkmaaGreatDoorMe
namespace Go.Proofs.YteempnebenjkmaaGreatDoor
open Go.RowKit
set_option maxRecDepth 100000
set_option linter.unusedVariables false
set_option linter.unusedSimpArgs false
section
variable {σ : St} {bb mb : Nat} {S : Nat -> Prop} {fs : List Fl} {pcs : List (Nat × Nat)} {size : Int} {pv : AV} {K : AV -> St -> Prop}
theorem Zgh (h : DAt σ bb S fs pcs size mb pv) (hK : K (vT true) σ) : Zan Tryz.prog 37 [ptr bb 0] σ K := by
 refine Zay ZaF Tryz.func37 rfl rfl rfl (Nat.le_of_ble_eq_true rfl) ?_
 refine Zla 0 (v0 := ptr bb 0) rfl ?_
 intro e he
 refine Zaa ?_
 refine Zah ?_
 refine Zag ?_
 refine kp1 0 ?_
 clear he e
 intro e he
 refine Zaa ?_
 refine Zah ?_
 refine Zad ?_
 refine Ziv (p := some ⟨bb, 0, none⟩) ZAi rfl rfl rfl ?_
 refine Zah ?_
 refine Zcp ?_
 refine ZkQ rfl he ?_
 refine Zcp ?_
 refine Zar (v := ptr bb 0) rfl rfl ?_
 refine Zcp ?_
 refine Zaf (b := bb) (o := 0) rfl ZbI rfl ?_
 refine Zcp ?_
 refine Zau (b := bb) (o := 0 + 1) (r := Zc9 mb) rfl h.obj Zd6 Zd5 rfl ?_
 refine Zcp ?_
 refine Zwr ZgA rfl rfl ?_
 refine Zad ?_
 refine Zbt (v := vT true) rfl rfl ?_
 refine Zah ?_
 refine Zag ?_
 refine Za5 ?_
 show ∃ r, Za1 _ _ _ _ r /\ _
 exact ⟨_, Zf5 rfl rfl, hK⟩
theorem ZxH {sz : Int} (hK : ∀ bb mb τ, DAt τ bb (fun b => b = bb \/ b = mb) [] [] sz mb (.lst none 0 0 []) -> Ext σ τ -> Zei σ bb -> Zei σ mb -> K (ptr bb 0) τ) : Zan Tryz.prog 9 [.raw (.int .i64 sz)] σ K := by
 refine Zay ZaF Tryz.func9 rfl rfl rfl (Nat.le_of_ble_eq_true rfl) ?_
 refine Zla 0 (v0 := .raw (.int .i64 sz)) rfl ?_
 intro e he
 refine Zaa ?_
 refine Zah ?_
 refine Zag ?_
 refine kp1 0 ?_
 clear he e
 intro e he
 refine Zaa ?_
 refine Zad ?_
 refine ZsM (hm := ZgA) fun mb hu1 hn1 => ?_
 refine Zah ?_
 refine Zad ?_
 refine Zf3 (vs := [Zc9 mb, .raw (.int .i64 sz)]) (cells := [.lst none 0 0 [], Zc9 mb, .raw (.int .i64 sz)]) (by simp only [List.map_cons, List.map_nil, EV,Nat.reduceEqDiff,↓reduceIte,he]; try rfl) ZyC ZyE rfl ?_
 refine Zad ?_
 refine Zh3 rfl rfl fun bb τ hn2 hu2 hb2 hub2 hX2 => ?_
 refine Zah ?_
 refine Zag ?_
 refine Za5 ?_
 show ∃ r, Za1 _ _ _ _ r /\ _
 have hX1 : Ext σ (σ.put mb (.map [])) := Ext.put _ hn1
 have hmb : τ.blk mb = some (.map []) := hX2.keep _ _ (ZaV _ _ _)
 refine ⟨_, Zf5 rfl rfl, hK bb mb τ ⟨hb2, hub2, hmb, hX2.used _ (.inr rfl), fun f hf => by simp at hf, .nil, .nil, fun f hf => by simp at hf, ⟨rfl, by simp [pcC], .inl ⟨.inl rfl, rfl⟩⟩, ⟨.inl rfl, .inr rfl, fun f hf => by simp at hf, fun x hx => by cases hx⟩, fun p hp => by simp at hp⟩ (hX1.trans hX2) (Zei.of ⟨hn2, hu2⟩ hX1) ⟨hn1, hu1⟩⟩
set_option maxHeartbeats 1000000 in
theorem Zo5 (h : DAt σ bb S fs pcs size mb pv) (hs : ZcB pcs <= 1000000000) (hl : pcs.length <= 1000000000) (hK : ∀ τ, Ext σ τ -> K (.raw (.int .i64 (ZcB pcs : Int))) τ) : Zan Tryz.prog 78 [ptr bb 0] σ K := by
 have hps := h.pc
 refine Zay ZaF Tryz.func78 rfl rfl rfl (Nat.le_of_ble_eq_true rfl) ?_
 refine Zla 0 (v0 := ptr bb 0) rfl ?_
 intro e he
 refine Zaa ?_
 refine Zah ?_
 refine Zag ?_
 refine Zaa ?_
 refine Zah ?_
 refine Zag ?_
 refine kp3 0 2 3 ?_
 clear he e
 intro e he
 refine ZgZ (fun env υ => env 3 = vI (ZcB pcs) /\ Ext σ υ) ?_ ?_
 ·repeat refine Zab ?_
  first|refine Zaa ?_|refine Zac ?_
  refine Zah ?_
  refine Zad ?_
  refine Zar (v := ptr bb 0) rfl rfl ?_
  refine Zad ?_
  refine Zaf (b := bb) (o := 0) rfl Zdr rfl ?_
  refine Zad ?_
  refine Zau (b := bb) (o := 0) (r := pv) rfl h.obj Ze8 Zds rfl ?_
  refine Zad ?_
  refine ZhP rfl hps rfl Zcb ?_
  refine Zah ?_
  refine Zag ?_
  apply ZzO 3 9 10 11
  iterate 4 ·simp only [EV,Nat.reduceEqDiff,↓reduceIte,he];try rfl
  clear he e
  intro e he
  refine ZeS ?_
  refine Zf4 (fun μ env υ => ∃ i : Nat, μ = pcs.length - i /\ i <= pcs.length /\ (env 3 = vI (ZcB (pcs.take i)) /\ env 9 = pv /\ env 10 = vI pcs.length /\ env 11 = vI i) /\ Ext σ υ) ⟨_, 0, rfl, Nat.zero_le _, he, .refl _⟩ ?_
  clear he e
  rintro _ e υ ⟨i, rfl, hi, he, hX⟩
  refine Zaa ?_
  refine Zqy i pcs.length ?_
  refine Zag ?_
  refine kp5 3 9 10 11 12 ?_
  clear he e
  intro e he
  refine Za0 (t := decide (i < pcs.length)) he.2.2.2.2 (fun ht => ?_) (fun ht => ?_)
  ·have hlt : i < pcs.length := of_decide_eq_true ht
   have hp := hps.ext hX
   have hcell : ((pcC pcs).drop (i * 2)).take 2 = [ptr pcs[i].1 0, .raw (.int .i64 (pcs[i].2 : Int))] := by
    have h1 : pcs = pcs.take i ++ (pcs[i] :: pcs.drop (i + 1)) := by
     rw [<- List.drop_eq_getElem_cons hlt, List.take_append_drop]
    conv => lhs; rw [h1]
    rw [ZlF, List.drop_append, Zqz, List.length_take, Nat.min_eq_left (by omega), Nat.sub_self, List.drop_zero, List.drop_eq_nil_of_le (by rw [Zqz, List.length_take]; omega)]
    rfl
   have hsum : ZcB (pcs.take (i + 1)) = ZcB (pcs.take i) + pcs[i].2 := by
    unfold ZcB
    rw [List.take_succ_eq_append_getElem hlt, List.map_append, List.sum_append]
    simp
   have hle : ZcB (pcs.take (i + 1)) <= ZcB pcs := by
    unfold ZcB
    conv => rhs; rw [<- List.take_append_drop (i + 1) pcs, List.map_append, List.sum_append]
    omega
   refine Zbh ?_
   refine ZdI ?_
   refine Zaa ?_
   refine Zad ?_
   refine Zdq (k := .i64) (j := i) he.2.1 he.2.2.2.1 Zcb ZbB hp hlt fun b hb => ?_
   refine Zad ?_
   refine Zwk rfl hp hb hlt Zjx ZbB ?_
   rw [hcell]
   refine Zad ?_
   refine Zdn Zic rfl fun b5 υ5 hn5 hu5 hb5 hub5 hX5 => ?_
   refine Zad ?_
   refine Zcs (b := b5) (o := 0) (u := .agg [ptr pcs[i].1 0, .raw (.int .i64 (pcs[i].2 : Int))]) (cs' := [ptr pcs[i].1 0, .raw (.int .i64 (pcs[i].2 : Int))]) rfl rfl hb5 ZbB rfl rfl fun υ6 hb6 k6 => ?_
   refine Zag ?_
   refine Zac ?_
   refine Zah ?_
   refine Zad ?_
   refine Zaf (b := b5) (o := 0) rfl Zge rfl ?_
   refine Zad ?_
   refine Zau (b := b5) (o := 0 + 1) (r := .raw (.int .i64 (pcs[i].2 : Int))) rfl hb6 ZoZ Zm2 rfl ?_
   refine ZlE (ZcB (pcs.take i)) (pcs[i].2) ?_
   refine Zah ?_
   refine Zag ?_
   show ZaG _ _ _ _ _ _
   refine Zac ?_
   refine ZlE i 1 ?_
   refine Zah ?_
   refine Zag ?_
   show ∃ n', n' < _ /\ _
   refine ⟨_, (by omega : pcs.length - (i + 1) < pcs.length - i), i + 1, rfl, hlt, ⟨?_, by simp only [EV,Nat.reduceEqDiff,↓reduceIte,he];try rfl, by simp only [EV,Nat.reduceEqDiff,↓reduceIte,he];try rfl, by simp only [EV,Nat.reduceEqDiff,↓reduceIte,he];try rfl⟩, But.ext (hX.trans hX5) (fun g hg => by rw [hg]; exact hX.noneOf hn5) k6⟩
   rw [hsum]
   simp only [EV,Nat.reduceEqDiff,↓reduceIte,he];try rfl
  ·have hke : i = pcs.length := by have := of_decide_eq_false ht; omega
   subst hke
   rw [List.take_length] at he
   refine ZhK ?_
   exact ⟨rfl, by simp only [EV,Nat.reduceEqDiff,↓reduceIte,he];try rfl, hX⟩
 clear he e
 rintro e υ ⟨he, hX⟩
 refine Zaa ?_
 refine Zah ?_
 refine Zah ?_
 refine Zag ?_
 refine Za5 ?_
 show ∃ r, Za1 _ _ _ _ r /\ _
 exact ⟨_, Zf5 rfl rfl, hK υ hX⟩
end
end Go.Proofs.YteempnebenjkmaaGreatDoor
namespace Go.Proofs.YteempnebenjkmaaGreatDoor
open Go.RowKit
set_option maxRecDepth 100000
set_option linter.unusedVariables false
set_option linter.unusedSimpArgs false
theorem ZrL (l : List (Nat × Nat)) (k : Nat) : (pcC l).take (k * 2) = pcC (l.take k) := by
 induction k generalizing l with
 | zero => rfl
 | succ k ih =>
  cases l with
  | nil => simp [pcC]
  | cons p l =>
   have : (k + 1) * 2 = k * 2 + 1 + 1 := by omega
   rw [this]
   show ptr p.1 0 :: .raw (.int .i64 (p.2 : Int)) :: (pcC l).take (k * 2) = ptr p.1 0 :: .raw (.int .i64 (p.2 : Int)) :: pcC (l.take k)
   rw [ih]
theorem ZnG (l : List (Nat × Nat)) (k : Nat) : (pcC l).drop (k * 2) = pcC (l.drop k) := by
 induction k generalizing l with
 | zero => rfl
 | succ k ih =>
  cases l with
  | nil => simp [pcC]
  | cons p l =>
   have : (k + 1) * 2 = k * 2 + 1 + 1 := by omega
   rw [this]
   show (pcC l).drop (k * 2) = pcC (l.drop k)
   exact ih l
theorem ZqC {l : List (Nat × Nat)} {i : Nat} (h : i < l.length) : ((pcC l).drop (i * 2)).take 2 = [ptr l[i].1 0, .raw (.int .i64 (l[i].2 : Int))] := by
 rw [ZnG, List.drop_eq_getElem_cons h]
 rfl
theorem ZyP {l : List (Nat × Nat)} {k : Nat} (p : Nat × Nat) (h : k < l.length) : ZaC (pcC l) (k * 2) [ptr p.1 0, .raw (.int .i64 (p.2 : Int))] = pcC (l.set k p) := by
 unfold ZaC
 rw [ZrL, List.length_cons, List.length_cons, List.length_nil, show k * 2 + (0 + 1 + 1) = (k + 1) * 2 by omega, ZnG, List.set_eq_take_append_cons_drop, if_pos h, ZlF]
 simp [pcC]
abbrev pcV (p : Nat × Nat) : AV := .agg [ptr p.1 0, .raw (.int .i64 (p.2 : Int))]
abbrev fnV (g : FuncId) (caps : Array Value) : AV := .raw (.func (.func g) #[] caps)
def ZxI (g : FuncId) (caps : Array Value) (q : Nat × Nat -> Bool) (l : List (Nat × Nat)) (υ : St) : Prop := ∀ p ∈ l, ∀ K : AV -> St -> Prop, (∀ τ, Ext υ τ -> K (vT (q p)) τ) -> Zan Tryz.prog g ([pcV p] ++ caps.toList.map .raw) υ K
section
variable {σ : St} {pv : AV} {pcs : List (Nat × Nat)} {g : FuncId} {caps : Array Value} {q : Nat × Nat -> Bool} {K : AV -> St -> Prop}
theorem ZwC (h : Hd σ 89 2 pv pcs.length (pcC pcs)) (hl : pcs.length <= 1000000000) (hq : ∀ υ, Ext σ υ -> ZxI g caps q pcs υ) (hK1 : ∀ τ, Ext σ τ -> (∀ p ∈ pcs, q p = false) -> K (.raw (.int .i64 (-1))) τ) (hK2 : ∀ τ i (hi : i < pcs.length), Ext σ τ -> (∀ p ∈ pcs.take i, q p = false) -> q pcs[i] = true -> K (vI i) τ) : Zan Tryz.prog 194 [pv, fnV g caps] σ K := by
 refine Zay ZaF Tryz.func194 rfl rfl rfl (Nat.le_of_ble_eq_true rfl) ?_
 refine Zhx 0 1 (v0 := pv) (v1 := fnV g caps) rfl rfl ?_
 intro e he
 repeat refine Zab ?_
 first|refine Zaa ?_|refine Zac ?_
 refine Zah ?_
 refine Zag ?_
 refine kp2 0 1 ?_
 clear he e
 intro e he
 repeat refine Zab ?_
 first|refine Zaa ?_|refine Zac ?_
 refine Zah ?_
 refine Zad ?_
 refine ZhP rfl h rfl Zcb ?_
 refine Zah ?_
 refine Zag ?_
 refine kp4 0 1 7 8 ?_
 clear he e
 intro e he
 refine ZdI ?_
 refine Zf4 (fun μ env υ => ∃ i : Nat, μ = pcs.length - i /\ i <= pcs.length /\ (env 0 = pv /\ env 1 = fnV g caps /\ env 7 = vI pcs.length /\ env 8 = vI i) /\ Ext σ υ /\ ∀ p ∈ pcs.take i, q p = false) ⟨_, 0, rfl, Nat.zero_le _, he, .refl _, by simp⟩ ?_
 clear he e
 rintro _ e υ ⟨i, rfl, hi, he, hX, hpre⟩
 repeat refine Zab ?_
 first|refine Zaa ?_|refine Zac ?_
 refine Zqy i pcs.length ?_
 refine Zag ?_
 refine kp5 0 1 7 8 9 ?_
 clear he e
 intro e he
 refine Za0 (t := decide (i < pcs.length)) he.2.2.2.2 (fun ht => ?_) (fun ht => ?_)
 ·have hlt : i < pcs.length := of_decide_eq_true ht
  refine Zbh ?_
  refine ZdI ?_
  repeat refine Zab ?_
  first|refine Zaa ?_|refine Zac ?_
  refine Zah ?_
  refine Zah ?_
  refine Zag ?_
  refine kp5 0 1 5 7 8 ?_
  clear he e
  intro e he
  repeat refine Zab ?_
  first|refine Zaa ?_|refine Zac ?_
  refine Zah ?_
  refine Zah ?_
  refine Zah ?_
  refine Zad ?_
  refine Zdq (k := .i64) (j := i) rfl rfl Zcb ZbB (h.ext hX) hlt fun b hb => ?_
  refine Zad ?_
  refine Zwk rfl (h.ext hX) hb hlt Zjx ZbB ?_
  rw [ZqC hlt]
  refine Zad ?_
  refine ZqA (g := g) (caps := caps) (vs := [pcV pcs[i]]) rfl (by simp only [List.map_cons, List.map_nil, EV,Nat.reduceEqDiff,↓reduceIte,he];try rfl) ?_
  refine hq υ hX pcs[i] (List.getElem_mem hlt) _ fun τ hX2 => ?_
  refine Zag ?_
  refine ZcM (t := q pcs[i]) rfl (fun hqi => ?_) (fun hqi => ?_)
  ·repeat refine Zab ?_
   first|refine Zaa ?_|refine Zac ?_
   refine Zah ?_
   refine Zah ?_
   refine Zag ?_
   refine Za5 ?_
   exact ZbX (hK2 τ i hlt (hX.trans hX2) hpre hqi)
  ·refine Ze7 ?_
   show ZaG _ _ _ _ _ _
   refine Zac ?_
   refine ZlE i 1 ?_
   refine Zah ?_
   refine Zag ?_
   show ∃ n', n' < _ /\ _
   refine ⟨_, (by omega : pcs.length - (i + 1) < pcs.length - i), i + 1, rfl, hlt, ⟨by simp only [EV,Nat.reduceEqDiff,↓reduceIte,he];try rfl, by simp only [EV,Nat.reduceEqDiff,↓reduceIte,he];try rfl, by simp only [EV,Nat.reduceEqDiff,↓reduceIte,he];try rfl, by simp only [EV,Nat.reduceEqDiff,↓reduceIte,he];try rfl⟩, hX.trans hX2, fun p hp => ?_⟩
   rw [List.take_succ_eq_append_getElem hlt] at hp
   rcases List.mem_append.1 hp with hp | hp
   ·exact hpre p hp
   ·rw [List.mem_singleton.1 hp]; exact hqi
 ·have hke : i = pcs.length := by have := of_decide_eq_false ht; omega
  subst hke
  rw [List.take_length] at hpre
  refine ZhK ?_
  show ZaG _ _ _ _ _ _
  repeat refine Zab ?_
  first|refine Zaa ?_|refine Zac ?_
  refine Zah ?_
  refine Zag ?_
  refine Za5 ?_
  exact ZbX (hK1 υ hX hpre)
set_option maxHeartbeats 1000000 in
theorem Zo6 (h : Hd σ 89 2 pv pcs.length (pcC pcs)) (hl : pcs.length <= 1000000000) (hq : ∀ υ, But (fun c => hbk pv = some c) σ υ -> ZxI g caps q pcs υ)
 (hK : ∀ τ pv', Hd τ 89 2 pv' (pcs.filter fun p => !q p).length (pcC (pcs.filter fun p => !q p)) -> But (fun c => hbk pv = some c) σ τ -> (∀ c, hbk pv' = some c -> hbk pv = some c) -> K pv' τ) : Zan Tryz.prog 146 [pv, fnV g caps] σ K := by
 refine Zay ZaF Tryz.func146 rfl rfl rfl (Nat.le_of_ble_eq_true rfl) ?_
 refine Zhx 0 1 (v0 := pv) (v1 := fnV g caps) rfl rfl ?_
 intro e he
 repeat refine Zab ?_
 first|refine Zaa ?_|refine Zac ?_
 refine Zah ?_
 refine Zag ?_
 refine kp2 0 1 ?_
 clear he e
 intro e he
 repeat refine Zab ?_
 first|refine Zaa ?_|refine Zac ?_
 refine Zah ?_
 refine Zah ?_
 refine ZaN [pv, fnV g caps] ?_
 refine ZwC h hl (fun υ hX => hq υ hX.but) (fun τ hX hall => ?_) (fun τ i hi hX hpre hqi => ?_)
 ·refine Zah ?_
  refine Zag ?_
  refine kp3 0 1 5 ?_
  clear he e
  intro e he
  repeat refine Zab ?_
  first|refine Zaa ?_|refine Zac ?_
  refine Zah ?_
  refine Zad ?_
  refine Zmi (k := .i64) (a := -1) (b := -1) rfl rfl ?_
  rw [decide_eq_true (rfl : (-1 : Int) = -1)]
  refine Zag ?_
  refine Za0 (t := true) rfl (fun _ => ?_) (fun hf => by cases hf)
  repeat refine Zab ?_
  first|refine Zaa ?_|refine Zac ?_
  refine Zah ?_
  refine Zah ?_
  refine Zag ?_
  refine ZgI ?_
  have hf : (pcs.filter fun p => !q p) = pcs := List.filter_eq_self.2 fun p hp => by rw [hall p hp]; rfl
  exact ZbX (hK τ pv (by rw [hf]; exact h.ext hX) hX.but fun c hc => hc)
 ·refine Zah ?_
  refine Zag ?_
  refine kp3 0 1 5 ?_
  clear he e
  intro e he
  repeat refine Zab ?_
  first|refine Zaa ?_|refine Zac ?_
  refine Zah ?_
  refine Zad ?_
  refine Zmi (k := .i64) (a := (i : Int)) (b := -1) rfl rfl ?_
  rw [decide_eq_false (by omega : ¬ (i : Int) = -1)]
  refine Zag ?_
  refine kp4 0 1 5 12 ?_
  clear he e
  intro e he
  refine Za0 (t := false) he.2.2.2 (fun hf => by cases hf) (fun _ => ?_)
  refine Zbh ?_
  repeat refine Zab ?_
  first|refine Zaa ?_|refine Zac ?_
  refine Zah ?_
  refine ZlE i 1 ?_
  refine Zah ?_
  refine Zag ?_
  refine kp4 0 1 5 6 ?_
  clear he e
  intro e he
  obtain ⟨b, hb⟩ := h.some_ (by omega : 0 < pcs.length)
  refine ZdI ?_
  refine Zf4 (fun μ env υ => ∃ (j k : Nat) (l : List (Nat × Nat)), μ = pcs.length - j /\ j <= pcs.length /\ (env 0 = pv /\ env 1 = fnV g caps /\ env 5 = vI k /\ env 6 = vI j) /\ k < j /\ l.length = pcs.length /\ l.take k = (pcs.take j).filter (fun p => !q p) /\ l.drop j = pcs.drop j /\ Hd υ 89 2 pv pcs.length (pcC l) /\ But (fun c => hbk pv = some c) σ υ) ⟨_, i + 1, i, pcs, rfl, hi, he, Nat.lt_succ_self _, rfl, ?_, rfl, h.ext hX, hX.but⟩ ?_
  ·rw [List.take_succ_eq_append_getElem hi, List.filter_append, List.filter_eq_self.2 fun p hp => by rw [hpre p hp]; rfl]
   simp [hqi]
  clear he e
  rintro _ e υ ⟨j, k, l, rfl, hj, he, hkj, hll, htk, hdp, hL, hB⟩
  repeat refine Zab ?_
  first|refine Zaa ?_|refine Zac ?_
  refine Zah ?_
  refine Zah ?_
  refine Zad ?_
  refine ZhP rfl hL rfl Zcb ?_
  refine Zqy j pcs.length ?_
  refine Zag ?_
  refine kp5 0 1 5 6 19 ?_
  clear he e
  intro e he
  refine Za0 (t := decide (j < pcs.length)) (by simp only [EV,Nat.reduceEqDiff,↓reduceIte,he];try rfl) (fun ht => ?_) (fun ht => ?_)
  ·have hlt : j < pcs.length := of_decide_eq_true ht
   have hlt2 : j < l.length := by omega
   have hlj : l[j] = pcs[j] := by
    have h1 := List.drop_eq_getElem_cons hlt2
    have h2 := List.drop_eq_getElem_cons hlt
    rw [h1, h2] at hdp
    injection hdp
   have hdq : l.drop (j + 1) = pcs.drop (j + 1) := by
    rw [<- List.drop_drop (i := 1) (j := j), <- List.drop_drop (i := 1) (j := j), hdp]
   refine Zbh ?_
   refine ZgZ (fun env υ => ∃ (k : Nat) (l : List (Nat × Nat)), (env 0 = pv /\ env 1 = fnV g caps /\ env 5 = vI k /\ env 6 = vI j) /\ k < j + 1 /\ l.length = pcs.length /\ l.take k = (pcs.take (j + 1)).filter (fun p => !q p) /\ l.drop (j + 1) = pcs.drop (j + 1) /\ Hd υ 89 2 pv pcs.length (pcC l) /\ But (fun c => hbk pv = some c) σ υ) ?_ ?_
   ·refine ZeS ?_
    repeat refine Zab ?_
    first|refine Zaa ?_|refine Zac ?_
    refine Zah ?_
    refine Zah ?_
    refine Zad ?_
    refine Zdq (k := .i64) (j := j) (by simp only [EV,Nat.reduceEqDiff,↓reduceIte,he];try rfl) (by simp only [EV,Nat.reduceEqDiff,↓reduceIte,he];try rfl) Zcb ZbB hL hlt fun b' hb' => ?_
    refine Zad ?_
    refine Zwk (by simp only [EV,Nat.reduceEqDiff,↓reduceIte,he];try rfl) hL hb' hlt Zjx ZbB ?_
    rw [ZqC hlt2, hlj]
    refine Zad ?_
    refine Zdn Zic rfl fun b7 υ7 hn7 hu7 hb7 hub7 hX7 => ?_
    refine Zad ?_
    refine Zcs (b := b7) (o := 0) (u := pcV pcs[j]) (cs' := [ptr pcs[j].1 0, .raw (.int .i64 (pcs[j].2 : Int))]) (by simp only [EV,Nat.reduceEqDiff,↓reduceIte,he];try rfl) (by simp only [EV,Nat.reduceEqDiff,↓reduceIte,he];try rfl) hb7 ZbB rfl rfl fun υ8 hb8 k8 => ?_
    refine Zag ?_
    have hX8 : Ext υ υ8 := But.ext hX7 (fun g hg => by rw [hg]; exact hn7) k8
    refine kp5 0 1 5 6 7 ?_
    clear he e
    intro e he
    repeat refine Zab ?_
    first|refine Zaa ?_|refine Zac ?_
    refine Zah ?_
    refine Zad ?_
    refine Zau (b := b7) (o := 0) (r := pcV pcs[j]) he.2.2.2.2 hb8 Zjx ZbB rfl ?_
    refine Zad ?_
    refine ZqA (g := g) (caps := caps) (vs := [pcV pcs[j]]) rfl (by simp only [List.map_cons, List.map_nil, EV,Nat.reduceEqDiff,↓reduceIte,he];try rfl) ?_
    refine hq υ8 (hB.trans (hX8.but)) pcs[j] (List.getElem_mem hlt) _ fun τ hX9 => ?_
    refine ZiJ ?_
    refine Zag ?_
    refine kp6 0 1 5 6 7 29 ?_
    clear he e
    intro e he
    have hL9 := (hL.ext hX8).ext hX9
    have hB9 : But (fun c => hbk pv = some c) σ τ := (hB.trans hX8.but).trans hX9.but
    refine ZcM (t := !q pcs[j]) he.2.2.2.2.2 (fun hqj => ?_) (fun hqj => ?_)
    ·repeat refine Zab ?_
     first|refine Zaa ?_|refine Zac ?_
     refine Zah ?_
     refine Zah ?_
     refine Zad ?_
     refine Zau (b := b7) (o := 0) (r := pcV pcs[j]) he.2.2.2.2.1 (hX9.keep _ _ hb8) Zjx ZbB rfl ?_
     refine Zad ?_
     refine Zdq (k := .i64) (j := k) rfl rfl Zcb ZbB hL9 (by omega) fun b' hb' => ?_
     refine Zad ?_
     refine Zwj (j := k) (r := pcV pcs[j]) rfl rfl ZbB hL9 hb' (by omega) ⟨rfl, rfl, fun a ha => ?_⟩ fun τ2 hL2 hB2 => ?_
     ·simp [pcV, AV.cells] at ha
      rcases ha with rfl | rfl <;> rfl
     refine Zag ?_
     show ZaG _ _ _ _ _ _
     refine Zac ?_
     refine Zah ?_
     refine ZlE k 1 ?_
     refine Zah ?_
     refine Zag ?_
     have hset := ZyP (l := l) pcs[j] (by omega : k < l.length)
     refine ⟨rfl, k + 1, l.set k pcs[j], ⟨by simp only [EV,Nat.reduceEqDiff,↓reduceIte,he];try rfl, by simp only [EV,Nat.reduceEqDiff,↓reduceIte,he];try rfl, by simp only [EV,Nat.reduceEqDiff,↓reduceIte,he];try rfl, by simp only [EV,Nat.reduceEqDiff,↓reduceIte,he];try rfl⟩, by omega, by rw [List.length_set]; exact hll, ?_, ?_, hset ▸ hL2, hB9.trans hB2⟩
     ·rw [List.take_succ_eq_append_getElem (by rw [List.length_set]; omega), List.take_set_of_le (Nat.le_refl _), List.getElem_set_self, htk, List.take_succ_eq_append_getElem hlt, List.filter_append]
      simp [hqj]
     ·rw [List.drop_set_of_lt (by omega)]
      exact hdq
    ·refine Ze7 ?_
     refine ⟨rfl, k, l, ⟨by simp only [EV,Nat.reduceEqDiff,↓reduceIte,he];try rfl, by simp only [EV,Nat.reduceEqDiff,↓reduceIte,he];try rfl, by simp only [EV,Nat.reduceEqDiff,↓reduceIte,he];try rfl, by simp only [EV,Nat.reduceEqDiff,↓reduceIte,he];try rfl⟩, by omega, hll, ?_, hdq, hL9, hB9⟩
     rw [htk, List.take_succ_eq_append_getElem hlt, List.filter_append]
     simp [hqj]
   ·clear he e
    rintro e τ ⟨k', l', he, g1, g2, g3, g4, g5, g6⟩
    refine Zac ?_
    refine Zah ?_
    refine ZlE j 1 ?_
    refine Zah ?_
    refine Zag ?_
    show ∃ n', n' < _ /\ _
    exact ⟨_, (by omega : pcs.length - (j + 1) < pcs.length - j), j + 1, k', l', rfl, hlt, ⟨by simp only [EV,Nat.reduceEqDiff,↓reduceIte,he];try rfl, by simp only [EV,Nat.reduceEqDiff,↓reduceIte,he];try rfl, by simp only [EV,Nat.reduceEqDiff,↓reduceIte,he];try rfl, by simp only [EV,Nat.reduceEqDiff,↓reduceIte,he];try rfl⟩, g1, g2, g3, g4, g5, g6⟩
  ·have hke : j = pcs.length := by have := of_decide_eq_false ht; omega
   subst hke
   rw [List.take_length] at htk
   have hkf : (pcs.filter fun p => !q p).length = k := by
    rw [<- htk, List.length_take]
    omega
   refine ZhK ?_
   show ZaG _ _ _ _ _ _
   obtain ⟨c, all, hpv, q1, q2, q3, q4, q5, q6⟩ := hL.at_ hb
   have hc : 0 < c := by omega
   subst hpv
   repeat refine Zab ?_
   first|refine Zaa ?_|refine Zac ?_
   refine Zah ?_
   refine Zah ?_
   refine Zad ?_
   refine ZkS (A := some ⟨b, 0, none⟩) (n := pcs.length) (c := c) (l := k) (u := pcs.length) (ix := [vI k]) rfl (by simp only [Option.toList, List.nil_append, List.append_nil, List.singleton_append, List.map_cons, List.map_nil, EV,Nat.reduceEqDiff,↓reduceIte,he];try rfl) Zcb ZbB (ZBh rfl) (by omega) q5 ?_
   refine Zad ?_
   refine Zwt (sz := 2) (b := b) (n := pcs.length) (c := c) (lo := k) (Eq.trans (by simp only [EV,Nat.reduceEqDiff,↓reduceIte,he];try rfl) ?_) Zcb Zic rfl (by omega) (fun i hi => ?_) hL hc (by omega) fun τ hL2 hB2 => ?_
   ·simp only [Option.map, Zbs, Nat.zero_add]
   ·match i, hi with
    | 0, _ => rfl
    | 1, _ => rfl
   refine Zag ?_
   refine kp2 0 5 ?_
   clear he e
   intro e he
   repeat refine Zab ?_
   first|refine Zaa ?_|refine Zac ?_
   refine Zah ?_
   refine Zah ?_
   refine Zad ?_
   refine ZkS (A := some ⟨b, 0, none⟩) (n := pcs.length) (c := c) (l := 0) (u := k) (ix := [vI k]) rfl (by simp only [Option.toList, List.nil_append, List.append_nil, List.singleton_append, List.map_cons, List.map_nil, EV,Nat.reduceEqDiff,↓reduceIte,he];try rfl) Zcb ZbB (ZtF rfl) (by omega) (by omega) ?_
   refine Zah ?_
   refine Zag ?_
   refine Za5 ?_
   have hres : (AV.raw (.slice (if c = 0 then some (⟨b, 0, none⟩ : Addr) else (some (⟨b, 0, none⟩ : Addr)).map (·.add (0 * 2))) (k - 0) (c - 0))) = hdr b k c := by
    rw [if_neg (by omega), Nat.sub_zero, Nat.sub_zero]
    simp only [Option.map, Zbs, Nat.zero_mul, Nat.zero_add]
    rfl
   rw [hres]
   refine ⟨_, Zf5 rfl rfl, hK τ (hdr b k c) ?_ ?_ ?_⟩
   ·rw [ZrL, htk] at hL2
    rw [hkf]
    exact hL2
   ·exact hB.trans (hB2.sub fun g hg => by rw [hg]; exact hb)
   ·intro c' hc'
    rw [<- Zkh hc']
    exact hb
end
end Go.Proofs.YteempnebenjkmaaGreatDoor
namespace Go.Proofs.YteempnebenjkmaaGreatDoor
open Go.RowKit
set_option maxRecDepth 100000
set_option linter.unusedVariables false
set_option linter.unusedSimpArgs false
theorem ZdF {σ : St} {b c : Nat} {t u : TypeId} {xs ys : List AV} (hb : σ.blk b = some (.own t xs)) (hc : σ.blk c = some (.own u ys)) (hne : t ≠ u) : b ≠ c := fun e => by
 subst e
 rw [hb] at hc
 injection hc with hc
 injection hc with hc
 exact hne hc
theorem ZeZ {σ : St} {b c : Nat} {t : TypeId} {xs : List AV} {es : List (Value × Value)} (hb : σ.blk b = some (.own t xs)) (hc : σ.blk c = some (.map es)) : b ≠ c := fun e => by
 subst e
 rw [hb] at hc
 injection hc with hc
 cases hc
def Zco (fb : Nat) (v : AV) (d : List UInt8) (f : Fl) : Fl := if f.b = fb then ⟨f.nm, f.b, v, d⟩ else f
theorem Zd7 {fb : Nat} {v : AV} {d : List UInt8} (f : Fl) : (Zco fb v d f).b = f.b := by unfold Zco; split <;> rfl
theorem ZrM {fb : Nat} {v : AV} {d : List UInt8} (f : Fl) : (Zco fb v d f).nm = f.nm := by unfold Zco; split <;> rfl
section
variable {σ τ : St} {bb mb : Nat} {S : Nat -> Prop} {fs : List Fl} {pcs : List (Nat × Nat)} {size : Int} {pv : AV}
theorem DAt.mono {S' : Nat -> Prop} (h : DAt σ bb S fs pcs size mb pv) (k : ∀ c, S c -> S' c) : DAt σ bb S' fs pcs size mb pv :=
 ⟨h.obj, h.used, h.map, h.umap, h.file, h.nd, h.nn, h.far, h.pc, ⟨k _ h.own.1, k _ h.own.2.1, fun f hf => ⟨k _ (h.own.2.2.1 f hf).1, fun x hx => k _ ((h.own.2.2.1 f hf).2 x hx)⟩, fun x hx => k _ (h.own.2.2.2 x hx)⟩, h.inn⟩
theorem DAt.uniq (h : DAt σ bb S fs pcs size mb pv) {f g : Fl} (hf : f ∈ fs) (hg : g ∈ fs) (e : f.b = g.b) : f = g := by
 have hnd := h.nd
 clear h
 induction fs with
 | nil => cases hf
 | cons a l ih =>
  rw [List.map_cons, List.nodup_cons] at hnd
  rcases List.mem_cons.1 hf with e1 | h1 <;> rcases List.mem_cons.1 hg with e2 | h2
  ·rw [e1, e2]
  ·exact absurd (List.mem_map.2 ⟨g, h2, by rw [<- e, e1]⟩) hnd.1
  ·exact absurd (List.mem_map.2 ⟨f, h1, by rw [e, e2]⟩) hnd.1
  ·exact ih h1 h2 hnd.2
theorem DAt.setF (h : DAt σ bb S fs pcs size mb pv) {f0 : Fl} (hf0 : f0 ∈ fs) {v : AV} {d : List UInt8} (k : But (fun c => c = f0.b \/ hbk f0.v = some c) σ τ) (hb : τ.blk f0.b = some (.own 87 [v])) (hv : Hd τ 5 1 v d.length (bys d)) (hnew : ∀ c, hbk v = some c -> hbk f0.v = some c \/ Zei σ c) :
 DAt τ bb (fun c => S c \/ hbk v = some c) (fs.map (Zco f0.b v d)) pcs size mb pv := by
 obtain ⟨o1, o2, o3, o4⟩ := h.own
 obtain ⟨p1, p2, p3⟩ := h.file f0 hf0
 have hdir : Za3 (fs.map (Zco f0.b v d)) = Za3 fs := by
  unfold Za3
  rw [List.map_map]
  exact List.map_congr_left fun f _ => by simp [Function.comp, Zd7, ZrM]
 have hother : ∀ g ∈ fs, g.b ≠ f0.b -> τ.blk g.b = some (.own 87 [g.v]) /\ Hd τ 5 1 g.v g.d.length (bys g.d) := fun g hg hne => by
  obtain ⟨q1, q2, q3⟩ := h.file g hg
  refine ⟨k.keep _ _ (fun hq => ?_) q1, q3.but k fun c hc hq => ?_⟩
  ·rcases hq with hq | hq
   ·exact hne hq
   ·obtain ⟨all, hall⟩ := p3.blk hq
    exact ZdF q1 hall (by decide) rfl
  ·rcases hq with hq | hq
   ·obtain ⟨all, hall⟩ := q3.blk hc
    rw [hq] at hall
    exact ZdF p1 hall (by decide) rfl
   ·exact hne (h.far g hg f0 hf0 c hc hq)
 refine ⟨k.keep _ _ (fun hq => ?_) h.obj, k.used _ h.used, ?_, k.used _ h.umap, fun f hf => ?_, ?_, ?_, fun f hf g hg x hx hy => ?_, h.pc.but k fun c hc hq => ?_, ⟨.inl o1, .inl o2, fun f hf => ?_, fun x hx => .inl (o4 x hx)⟩, fun p hp => ?_⟩
 ·rcases hq with hq | hq
  ·exact ZdF h.obj p1 (by decide) hq
  ·obtain ⟨all, hall⟩ := p3.blk hq
   exact ZdF h.obj hall (by decide) rfl
 ·rw [hdir]
  refine k.keep _ _ (fun hq => ?_) h.map
  rcases hq with hq | hq
  ·exact ZeZ p1 h.map hq.symm
  ·obtain ⟨all, hall⟩ := p3.blk hq
   exact ZeZ hall h.map rfl
 ·obtain ⟨g, hg, rfl⟩ := List.mem_map.1 hf
  by_cases hgb : g.b = f0.b
  ·unfold Zco
   rw [if_pos hgb]
   exact ⟨by rw [hgb]; exact hb, by rw [hgb]; exact k.used _ p2, hv⟩
  ·unfold Zco
   rw [if_neg hgb]
   obtain ⟨q1, q2⟩ := hother g hg hgb
   exact ⟨q1, k.used _ (h.file g hg).2.1, q2⟩
 ·rw [List.map_map, show ((fun f : Fl => f.b) ∘ Zco f0.b v d) = fun f : Fl => f.b from funext fun f => Zd7 f]
  exact h.nd
 ·rw [List.map_map, show ((fun f : Fl => f.nm) ∘ Zco f0.b v d) = fun f : Fl => f.nm from funext fun f => ZrM f]
  exact h.nn
 ·obtain ⟨f, hf', rfl⟩ := List.mem_map.1 hf
  obtain ⟨g, hg', rfl⟩ := List.mem_map.1 hg
  rw [Zd7, Zd7]
  unfold Zco at hx hy
  by_cases hfb : f.b = f0.b <;> by_cases hgb : g.b = f0.b
  ·rw [hfb, hgb]
  ·rw [if_pos hfb] at hx
   rw [if_neg hgb] at hy
   rcases hnew x hx with q | q
   ·exact hfb.trans (h.far f0 hf0 g hg' x q hy)
   ·exact absurd ((h.file g hg').2.2.used hy) q.2
  ·rw [if_neg hfb] at hx
   rw [if_pos hgb] at hy
   rcases hnew x hy with q | q
   ·exact (h.far f hf' f0 hf0 x hx q).trans hgb.symm
   ·exact absurd ((h.file f hf').2.2.used hx) q.2
  ·rw [if_neg hfb] at hx
   rw [if_neg hgb] at hy
   exact h.far f hf' g hg' x hx hy
 ·rcases hq with hq | hq
  ·obtain ⟨all, hall⟩ := h.pc.blk hc
   exact ZdF hall p1 (by decide) hq
  ·obtain ⟨a1, h1⟩ := h.pc.blk hc
   obtain ⟨a2, h2⟩ := p3.blk hq
   exact ZdF h1 h2 (by decide) rfl
 ·obtain ⟨g, hg, rfl⟩ := List.mem_map.1 hf
  rw [Zd7]
  refine ⟨.inl (o3 g hg).1, fun x hx => ?_⟩
  unfold Zco at hx
  split at hx
  ·exact .inr hx
  ·exact .inl ((o3 g hg).2 x hx)
 ·obtain ⟨f, hf, e⟩ := h.inn p hp
  exact ⟨_, List.mem_map.2 ⟨f, hf, rfl⟩, by rw [Zd7]; exact e⟩
theorem DAt.setP (h : DAt σ bb S fs pcs size mb pv) {pv' : AV} {pcs' : List (Nat × Nat)} (k : But (fun c => c = bb \/ hbk pv = some c) σ τ) (hb : τ.blk bb = some (.own 81 [pv', Zc9 mb, .raw (.int .i64 size)])) (hv : Hd τ 89 2 pv' pcs'.length (pcC pcs')) (hin : ∀ p ∈ pcs', ∃ f ∈ fs, f.b = p.1) :
 DAt τ bb (fun c => S c \/ hbk pv' = some c) fs pcs' size mb pv' := by
 obtain ⟨o1, o2, o3, o4⟩ := h.own
 refine ⟨hb, k.used _ h.used, k.keep _ _ (fun hq => ?_) h.map, k.used _ h.umap, fun f hf => ?_, h.nd, h.nn, h.far, hv, ⟨.inl o1, .inl o2, fun f hf => ⟨.inl (o3 f hf).1, fun x hx => .inl ((o3 f hf).2 x hx)⟩, fun x hx => .inr hx⟩, hin⟩
 ·rcases hq with hq | hq
  ·exact ZeZ h.obj h.map hq.symm
  ·obtain ⟨all, hall⟩ := h.pc.blk hq
   exact ZeZ hall h.map rfl
 ·obtain ⟨q1, q2, q3⟩ := h.file f hf
  refine ⟨k.keep _ _ (fun hq => ?_) q1, k.used _ q2, q3.but k fun c hc hq => ?_⟩
  ·rcases hq with hq | hq
   ·exact ZdF h.obj q1 (by decide) hq.symm
   ·obtain ⟨all, hall⟩ := h.pc.blk hq
    exact ZdF hall q1 (by decide) rfl
  ·obtain ⟨a1, h1⟩ := q3.blk hc
   rcases hq with hq | hq
   ·exact ZdF h.obj h1 (by decide) hq.symm
   ·obtain ⟨a2, h2⟩ := h.pc.blk hq
    exact ZdF h1 h2 (by decide) rfl
theorem DAt.addF (h : DAt σ bb S fs pcs size mb pv) {nb : Nat} {nm : List UInt8} {v : AV} {d : List UInt8} (hn : Zei σ nb) (k : But (fun c => c = mb \/ c = nb) σ τ) (hb : τ.blk nb = some (.own 87 [v])) (hu : τ.used nb) (hm : τ.blk mb = some (.map (ZgK (Za3 (fs ++ [⟨nm, nb, v, d⟩]))))) (hv : Hd τ 5 1 v d.length (bys d)) (hnm : ∀ f ∈ fs, f.nm ≠ nm) (hvb : hbk v = none) :
 DAt τ bb (fun c => S c \/ c = nb) (fs ++ [⟨nm, nb, v, d⟩]) pcs size mb pv := by
 obtain ⟨o1, o2, o3, o4⟩ := h.own
 have hkeep : ∀ b t cs, σ.blk b = some (.own t cs) -> τ.blk b = some (.own t cs) := fun b t cs hb' => k.keep _ _ (fun hq => by
  rcases hq with hq | hq
  ·exact ZeZ hb' h.map hq
  ·rw [hq, hn.1] at hb'; cases hb') hb'
 have hkeepH : ∀ {e sz n : Nat} {u : AV} {cs : List AV}, Hd σ e sz u n cs -> Hd τ e sz u n cs := fun {e sz n u cs} hu' => hu'.but k fun c hc hq => by
  obtain ⟨all, hall⟩ := hu'.blk hc
  rcases hq with hq | hq
  ·exact ZeZ hall h.map hq
  ·rw [hq, hn.1] at hall; cases hall
 have hold : ∀ f ∈ fs, f.b ≠ nb := fun f hf e => by
  have := (h.file f hf).1
  rw [e, hn.1] at this
  cases this
 refine ⟨hkeep _ _ _ h.obj, k.used _ h.used, hm, k.used _ h.umap, fun f hf => ?_, ?_, ?_, fun f hf g hg x hx hy => ?_, hkeepH h.pc, ⟨.inl o1, .inl o2, fun f hf => ?_, fun x hx => .inl (o4 x hx)⟩, fun p hp => ?_⟩
 ·rcases List.mem_append.1 hf with hf | hf
  ·obtain ⟨q1, q2, q3⟩ := h.file f hf
   exact ⟨hkeep _ _ _ q1, k.used _ q2, hkeepH q3⟩
  ·rw [List.mem_singleton.1 hf]
   exact ⟨hb, hu, hv⟩
 ·rw [List.map_append, List.nodup_append]
  refine ⟨h.nd, by simp, fun a ha b hb' e => ?_⟩
  obtain ⟨f, hf, rfl⟩ := List.mem_map.1 ha
  simp at hb'
  exact hold f hf (e.trans hb')
 ·rw [List.map_append, List.nodup_append]
  refine ⟨h.nn, by simp, fun a ha b hb' e => ?_⟩
  obtain ⟨f, hf, rfl⟩ := List.mem_map.1 ha
  simp at hb'
  exact hnm f hf (e.trans hb')
 ·rcases List.mem_append.1 hf with hf | hf
  ·rcases List.mem_append.1 hg with hg | hg
   ·exact h.far f hf g hg x hx hy
   ·rw [List.mem_singleton.1 hg] at hy
    have hy : hbk v = some x := hy
    rw [hvb] at hy; cases hy
  ·rw [List.mem_singleton.1 hf] at hx
   have hx : hbk v = some x := hx
   rw [hvb] at hx; cases hx
 ·rcases List.mem_append.1 hf with hf | hf
  ·exact ⟨.inl (o3 f hf).1, fun x hx => .inl ((o3 f hf).2 x hx)⟩
  ·rw [List.mem_singleton.1 hf]
   refine ⟨.inr rfl, fun x hx => ?_⟩
   have hx : hbk v = some x := hx
   rw [hvb] at hx; cases hx
 ·obtain ⟨f, hf, e⟩ := h.inn p hp
  exact ⟨f, List.mem_append_left _ hf, e⟩
end
section
variable {P : Program} {ops : Array Oper} {env : Env} {σ τ : St} {K : Env -> St -> Prop} {d : Option Nat} {ty t : TypeId} {pos : String} {af : Array Edge} {x y : Operand} {e sz n u : Nat} {v : AV} {cells : List AV}
theorem ZwD (hx : ev env x = v) (hy : ev env y = vI u) (ht : Zaq P t = some e) (hs : Zax P e = some sz) (hown : Hd σ e sz v n cells) (hu : u <= n)
 (h : ∀ v', Hd σ e sz v' u (cells.take (u * sz)) -> (∀ c, hbk v' = some c -> hbk v = some c) -> K (env.put d v') σ) : aOp P ops ⟨d, .slice t x none (some y) none, ty, pos, af, none⟩ env σ K := by
 have hix : ((none : Option Operand).toList ++ (some y).toList).map (ev env) = [vI u] := by simp [hy]
 rcases hown.2.2 with ⟨hnil, hn⟩ | ⟨b, c, all, hc, rfl, g1, g2, g3, g4, g5, g6⟩
 ·have hu0 : u = 0 := by omega
  subst hu0
  rcases hnil with rfl | ⟨ad, rfl⟩
  ·refine ZtE (A := none) (n := 0) (c := 0) (l := 0) (u := 0) (cells := []) (cs := []) hx hix ht hs (ZtF rfl) (Nat.le_refl _) (Nat.le_refl _) rfl fun A' hA' => ?_
   have hA' : A' = none := by rw [hA']; rfl
   subst hA'
   exact h _ ⟨by simp, by simp, .inl ⟨.inl rfl, rfl⟩⟩ fun c hc => hc
  ·refine ZkS (A := some ad) (n := 0) (c := 0) (l := 0) (u := 0) hx hix ht hs (ZtF rfl) (Nat.le_refl _) (Nat.le_refl _) ?_
   exact h _ ⟨by simp, by simp, .inl ⟨.inr ⟨ad, rfl⟩, rfl⟩⟩ fun c hc => hc
 ·refine ZkS (A := some ⟨b, 0, none⟩) (n := n) (c := c) (l := 0) (u := u) hx hix ht hs (ZtF rfl) (Nat.zero_le _) (by omega) ?_
  have hres : (AV.raw (.slice (if c = 0 then some (⟨b, 0, none⟩ : Addr) else (some (⟨b, 0, none⟩ : Addr)).map (·.add (0 * sz))) (u - 0) (c - 0))) = hdr b u c := by
   rw [if_neg (by omega), Nat.sub_zero, Nat.sub_zero]
   simp only [Option.map, Zbs, Nat.zero_mul, Nat.zero_add]
   rfl
  rw [hres]
  have hm : u * sz <= n * sz := Nat.mul_le_mul_right _ hu
  refine h _ ⟨?_, fun a ha => hown.one a (List.mem_of_mem_take ha), .inr ⟨b, c, all, hc, rfl, g1, g2, g3, ?_, by omega, g6⟩⟩ fun c' hc' => by rw [<- Zkh hc']; exact Zgc hc
  ·rw [List.length_take, hown.len]; omega
  ·rw [<- g4, List.take_take, Nat.min_eq_left hm]
end
end Go.Proofs.YteempnebenjkmaaGreatDoor
namespace Go.Proofs.YteempnebenjkmaaGreatDoor
open Go.RowKit
set_option maxRecDepth 100000
set_option linter.unusedVariables false
set_option linter.unusedSimpArgs false
theorem ZuK : Zax Tryz.prog (Program.pointee Tryz.prog 85) = some 1 := by kernel_rfl
section
variable {P : Program} {ops : Array Oper} {env : Env} {σ τ : St} {K : Env -> St -> Prop} {d : Option Nat} {ty t : TypeId} {pos : String} {af : Array Edge} {x y : Operand}
theorem Zgi {b o : Nat} {T : TypeId} {cs : List AV} {v : AV} (hx : ev env x = ptr b o) (hy : ev env y = v) (hb : σ.blk b = some (.own T cs)) (hn : Zax P t = some 1) (hv : v.one = true /\ Zdc v = true /\ v.cells = [v]) (ho : o < cs.length)
 (h : ∀ τ, τ.blk b = some (.own T (cs.set o v)) -> But (fun c => c = b) σ τ -> K (env.put d (.raw undef)) τ) : aOp P ops ⟨d, .store t x y, ty, pos, af, none⟩ env σ K := by
 refine Zcs (cs' := cs.set o v) hx hy hb hn ?_ ?_ h
 ·rw [hv.2.2]
  simp [hv.1, hv.2.1]
  omega
 ·rw [hv.2.2]
  unfold ZaC
  rw [List.set_eq_take_append_cons_drop, if_pos ho]
  simp
end
theorem ZwE {σ : St} {p : Nat × Nat} {fb b3 : Nat} {c1 c2 : List AV} (hp : σ.blk p.1 = some (.own 87 c1)) (hf : σ.blk fb = some (.own 87 c2)) (hb : σ.blk b3 = some (.own 85 [ptr fb 0])) (K : AV -> St -> Prop) (hK : ∀ τ, Ext σ τ -> K (vT (decide (p.1 = fb))) τ) : Zan Tryz.prog 202 [pcV p, ptr b3 0] σ K := by
 refine Zay ZaF Tryz.func202 rfl rfl rfl (Nat.le_of_ble_eq_true rfl) ?_
 refine Zhx 0 1 (v0 := pcV p) (v1 := ptr b3 0) rfl rfl ?_
 intro e he
 repeat refine Zab ?_
 first|refine Zaa ?_|refine Zac ?_
 refine Zad ?_
 refine Zh3 (cs := [ptr p.1 0, .raw (.int .i64 (p.2 : Int))]) (v := pcV p) he.1 rfl fun b2 τ hn2 hu2 hb2 hub2 hX2 => ?_
 refine Zah ?_
 refine Zag ?_
 refine kp2 1 2 ?_
 clear he e
 intro e he
 repeat refine Zab ?_
 first|refine Zaa ?_|refine Zac ?_
 refine Zad ?_
 refine Zaf (b := b2) (o := 0) he.2 Zge rfl ?_
 refine Zad ?_
 refine Zau (b := b2) (o := 0 + 0) (r := ptr p.1 0) rfl hb2 ZnE ZnD rfl ?_
 refine Zad ?_
 refine Zau (b := b3) (o := 0) (r := ptr fb 0) he.1 (hX2.keep _ _ hb) ZnE ZnD rfl ?_
 refine Zuv (m := 0) (p := p.1) (q := fb) ZgB ZuK rfl rfl (hX2.keep _ _ hp) (hX2.keep _ _ hf) ?_
 refine Zah ?_
 refine Zag ?_
 refine Za5 ?_
 exact ZbX (hK τ hX2)
theorem ZqD {σ : St} {p : Nat × Nat} (K : AV -> St -> Prop) (hK : ∀ τ, Ext σ τ -> K (vT (decide (p.2 = 0))) τ) : Zan Tryz.prog 147 [pcV p] σ K := by
 refine Zay ZaF Tryz.func147 rfl rfl rfl (Nat.le_of_ble_eq_true rfl) ?_
 refine Zla 0 (v0 := pcV p) rfl ?_
 intro e he
 repeat refine Zab ?_
 first|refine Zaa ?_|refine Zac ?_
 refine Zad ?_
 refine Zh3 (cs := [ptr p.1 0, .raw (.int .i64 (p.2 : Int))]) (v := pcV p) he rfl fun b2 τ hn2 hu2 hb2 hub2 hX2 => ?_
 refine Zah ?_
 refine Zag ?_
 refine kp1 1 ?_
 clear he e
 intro e he
 repeat refine Zab ?_
 first|refine Zaa ?_|refine Zac ?_
 refine Zad ?_
 refine Zaf (b := b2) (o := 0) he Zge rfl ?_
 refine Zad ?_
 refine Zau (b := b2) (o := 0 + 1) (r := .raw (.int .i64 (p.2 : Int))) rfl hb2 ZoZ Zm2 rfl ?_
 refine Zad ?_
 refine Zmi (k := .i64) (a := (p.2 : Int)) (b := 0) rfl rfl ?_
 rw [show decide ((p.2 : Int) = 0) = decide (p.2 = 0) by congr 1; exact propext (by omega)]
 refine Zah ?_
 refine Zag ?_
 refine Za5 ?_
 exact ZbX (hK τ hX2)
def ZpV (fb : Nat) : Nat -> List (Nat × Nat) -> List (Nat × Nat)
 | _, [] => []
 | m, p :: l => if p.1 = fb then (p.1, p.2 - min m p.2) :: ZpV fb (m - min m p.2) l else p :: ZpV fb m l
theorem ZlJ (fb : Nat) : ∀ l, ZpV fb 0 l = l
 | [] => rfl
 | p :: l => by
  unfold ZpV
  rw [Nat.zero_min, Nat.zero_sub, Nat.sub_zero, ZlJ fb l]
  split <;> rfl
def shr (fb m : Nat) (pcs : List (Nat × Nat)) : List (Nat × Nat) := (ZpV fb m pcs.reverse).reverse
theorem ZnH (fb : Nat) : ∀ m l, (ZpV fb m l).map (·.1) = l.map (·.1)
 | _, [] => rfl
 | m, p :: l => by
  unfold ZpV
  split
  ·rw [List.map_cons, List.map_cons, ZnH]
  ·rw [List.map_cons, List.map_cons, ZnH]
theorem ZuL (fb m : Nat) (l : List (Nat × Nat)) : (shr fb m l).map (·.1) = l.map (·.1) := by
 unfold shr
 rw [List.map_reverse, ZnH, List.map_reverse, List.reverse_reverse]
theorem ZuM (fb m : Nat) (l : List (Nat × Nat)) : (shr fb m l).length = l.length := by
 have := congrArg List.length (ZuL fb m l)
 rwa [List.length_map, List.length_map] at this
theorem ZAp {fb m : Nat} {l : List (Nat × Nat)} {p : Nat × Nat} (h : p ∈ shr fb m l) : ∃ p' ∈ l, p'.1 = p.1 := by
 have h1 : p.1 ∈ (shr fb m l).map (·.1) := List.mem_map.2 ⟨p, h, rfl⟩
 rw [ZuL] at h1
 exact List.mem_map.1 h1
section
variable {P : Program} {ops : Array Oper} {env : Env} {σ τ : St} {K : Env -> St -> Prop} {d : Option Nat} {ty ty' t : TypeId} {pos : String} {af : Array Edge} {x y : Operand}
theorem ZlK (a b : Int) (hx : ev env x = .raw (.int .i64 a)) (hy : ev env y = .raw (.int .i64 b)) (h1 : -4611686018427387904 < a - b) (h2 : a - b < 4611686018427387904) (h : K (env.put d (.raw (.int .i64 (a - b)))) σ) : aOp P ops ⟨d, .binOp .sub t x y ty', ty, pos, af, none⟩ env σ K :=
 ZzH hx hy (by rw [IntWalk.i64_in _ (by omega)]) h
theorem ZxJ {u v : Operand} {ts : Array TypeId} (a b : Nat) (hx : ev env u = vI a) (hy : ev env v = vI b) (h : K (env.put d (vI ((min a b : Nat) : Int))) σ) : aOp P ops ⟨d, .call ⟨.builtin .min, #[u, v], ts⟩, ty, pos, af, none⟩ env σ K := by
 refine ZBd hx hy ?_
 have e : (if (b : Int) < (a : Int) then (b : Int) else (a : Int)) = ((min a b : Nat) : Int) := by split <;> omega
 rw [e]
 exact h
end
section
variable {σ : St} {bb mb : Nat} {S : Nat -> Prop} {fs : List Fl} {pcs : List (Nat × Nat)} {size : Int} {pv : AV} {K : AV -> St -> Prop}
theorem DAt.pvS (h : DAt σ bb S fs pcs size mb pv) {c : Nat} (hc : c = bb \/ hbk pv = some c) : S c := by
 rcases hc with rfl | hc
 ·exact h.own.1
 ·exact h.own.2.2.2 _ hc
theorem DAt.pvF (h : DAt σ bb S fs pcs size mb pv) {f : Fl} (hf : f ∈ fs) : ¬ hbk pv = some f.b := fun hq => by
 obtain ⟨all, hall⟩ := h.pc.blk hq
 exact ZdF hall (h.file f hf).1 (by decide) rfl
theorem DAt.pvB (h : DAt σ bb S fs pcs size mb pv) : ¬ hbk pv = some bb := fun hq => by
 obtain ⟨all, hall⟩ := h.pc.blk hq
 exact ZdF hall h.obj (by decide) rfl
theorem ZuN (h : DAt σ bb S fs pcs size mb pv) (hl : pcs.length <= 1000000000) {f0 : Fl} (hf0 : f0 ∈ fs) (hK : ∀ τ pv', DAt τ bb S fs (pcs.filter fun p => !decide (p.1 = f0.b)) size mb pv' -> But S σ τ -> K (.tup []) τ) : Zan Tryz.prog 166 [ptr bb 0, ptr f0.b 0] σ K := by
 refine Zay ZaF Tryz.func166 rfl rfl rfl (Nat.le_of_ble_eq_true rfl) ?_
 refine Zhx 0 1 (v0 := ptr bb 0) (v1 := ptr f0.b 0) rfl rfl ?_
 intro e he
 repeat refine Zab ?_
 first|refine Zaa ?_|refine Zac ?_
 refine Zad ?_
 refine Zh3 (cs := [ptr f0.b 0]) (v := ptr f0.b 0) he.2 rfl fun b3 σ3 hn3 hu3 hb3 hub3 hX3 => ?_
 refine Zag ?_
 refine kp2 0 3 ?_
 clear he e
 intro e he
 have h3 := h.ext hX3
 repeat refine Zab ?_
 first|refine Zaa ?_|refine Zac ?_
 refine Zah ?_
 refine Zah ?_
 refine Zad ?_
 refine Zar (v := ptr bb 0) rfl rfl ?_
 refine Zad ?_
 refine Zaf (b := bb) (o := 0) rfl Zdr rfl ?_
 refine Zad ?_
 refine Zau (b := bb) (o := 0) (r := pv) rfl h3.obj Ze8 Zds rfl ?_
 refine Zad ?_
 refine Zgf (vs := [ptr b3 0]) (by simp only [List.map_cons, List.map_nil, EV,Nat.reduceEqDiff,↓reduceIte,he];try rfl) ?_
 refine ZaN [pv, fnV 202 #[.pointer (some ⟨b3, 0, none⟩)]] ?_
 refine Zo6 (q := fun p => decide (p.1 = f0.b)) h3.pc hl (fun υ hB p hp K' hK' => ?_) fun τ pv' d1 d2 d3 => ?_
 ·obtain ⟨f, hf, hfp⟩ := h3.inn p hp
  refine ZwE (c1 := [f.v]) (c2 := [f0.v]) (hB.keep _ _ (by rw [<- hfp]; exact h3.pvF hf) (by rw [<- hfp]; exact (h3.file f hf).1)) (hB.keep _ _ (h3.pvF hf0) (h3.file f0 hf0).1) (hB.keep _ _ (fun hq => ?_) hb3) K' hK'
  obtain ⟨all, hall⟩ := h3.pc.blk hq
  exact ZdF hall hb3 (by decide) rfl
 refine Zad ?_
 refine Zar (v := ptr bb 0) rfl rfl ?_
 refine Zad ?_
 refine Zaf (b := bb) (o := 0) rfl Zdr rfl ?_
 refine Zad ?_
 refine Zgi (b := bb) (o := 0) (v := pv') rfl rfl (d2.keep _ _ h3.pvB h3.obj) Zds d1.oneV (Nat.zero_lt_succ _) fun τ2 hb2 k2 => ?_
 refine Zag ?_
 have hB2 : But (fun c => c = bb \/ hbk pv = some c) σ3 τ2 := (d2.sub fun c hc => .inr hc).trans (k2.sub fun c hc => .inl hc)
 refine ⟨_, Zf6 rfl, hK τ2 pv' ((h3.setP hB2 hb2 (d1.but k2 fun c hc hq => ?_) fun p hp => ?_).mono fun c hc => ?_) (hX3.but.trans (hB2.sub fun c hc => h3.pvS hc))⟩
 ·rw [hq] at hc
  exact h3.pvB (d3 _ hc)
 ·exact h3.inn p (List.mem_filter.1 hp).1
 ·rcases hc with hc | hc
  ·exact hc
  ·exact h3.pvS (.inr (d3 _ hc))
set_option maxHeartbeats 2000000 in
theorem ZsS (h : DAt σ bb S fs pcs size mb pv) (hl : pcs.length <= 1000000000) (hs : ∀ p ∈ pcs, p.2 <= 1000000000) {f0 : Fl} (hf0 : f0 ∈ fs) {m : Nat} (hm : m <= f0.d.length) (hd : f0.d.length <= 1000000000)
 (hK : ∀ τ v' pv', DAt τ bb S (fs.map (Zco f0.b v' (f0.d.take (f0.d.length - m)))) ((shr f0.b m pcs).filter fun p => !decide (p.2 = 0)) size mb pv' -> But S σ τ -> K (.tup []) τ) : Zan Tryz.prog 79 [ptr bb 0, ptr f0.b 0, vI m] σ K := by
 obtain ⟨p1, p2, p3⟩ := h.file f0 hf0
 refine Zay ZaF Tryz.func79 rfl rfl rfl (Nat.le_of_ble_eq_true rfl) ?_
 refine Zp8 0 1 2 (v0 := ptr bb 0) (v1 := ptr f0.b 0) (v2 := vI m) rfl rfl rfl ?_
 intro e he
 refine Zji ?_
 refine ⟨[0, 1, 2, 3, 5, 6, 7, 10, 4, 8, 9, 11, 12, 13, 14, 15], [[], [], [1], [1, 2], [1, 2, 3], [], [5], [5, 6], [5, 6, 7], [5, 6, 7, 8], [], [5, 6, 7, 8, 9, 10], [1, 2, 3, 4, 5, 6, 7, 8, 9, 10, 11], [0, 1, 2, 3, 4, 5, 6, 7, 8, 9, 10, 11, 12], [0, 1, 2, 3, 4, 5, 6, 7, 8, 9, 10, 11, 12, 13], [0, 1, 2, 3, 4, 5, 6, 7, 8, 9, 10, 11, 12, 13, 14]], fun _ => True, [], [], [], by kernel_rfl, ?_⟩
 refine Zej ?_
 refine Zej ?_
 refine Zcc ?_
 refine Zar (v := ptr f0.b 0) rfl rfl ?_
 refine ZcA ?_
 refine Zcc ?_
 refine Zaf (b := f0.b) (o := 0) rfl Zju rfl ?_
 refine ZcA ?_
 refine Zej ?_
 refine Zcc ?_
 refine Zar (v := ptr f0.b 0) rfl rfl ?_
 refine ZcA ?_
 refine Zcc ?_
 refine Zaf (b := f0.b) (o := 0) rfl Zju rfl ?_
 refine ZcA ?_
 refine Zej ?_
 refine Zcc ?_
 refine Zau (b := f0.b) (o := 0 + 0) (r := f0.v) rfl p1 Zjw Zg1 rfl ?_
 refine ZcA ?_
 refine Zcc ?_
 refine Zau (b := f0.b) (o := 0 + 0) (r := f0.v) rfl p1 Zjw Zg1 rfl ?_
 refine ZcA ?_
 refine Zcc ?_
 refine ZhP rfl p3 rfl ZeA ?_
 refine ZcA ?_
 refine Zcc ?_
 refine ZlK (f0.d.length : Int) (m : Int) rfl rfl (by omega) (by omega) ?_
 refine ZcA ?_
 refine Zcc ?_
 refine ZwD (u := f0.d.length - m) (v := f0.v) rfl (Eq.trans rfl (by rw [Int.ofNat_sub hm]; rfl)) ZeA ZoY p3 (Nat.sub_le _ _) fun v' hv' hbv => ?_
 refine ZcA ?_
 refine Zcc ?_
 refine Zar (v := ptr f0.b 0) rfl rfl ?_
 refine ZcA ?_
 refine Zcc ?_
 refine Zaf (b := f0.b) (o := 0) rfl Zju rfl ?_
 refine ZcA ?_
 refine Zcc ?_
 refine Zgi (b := f0.b) (o := 0 + 0) (v := v') rfl rfl p1 Zg1 hv'.oneV (Nat.zero_lt_succ _) fun σ1 hb1 k1 => ?_
 refine ⟨(fun hf => by cases hf), ?_⟩
 refine ZnA ?_
 have hlen : (f0.d.take (f0.d.length - m)).length = f0.d.length - m := by rw [List.length_take]; omega
 have hv1 : Hd σ1 5 1 v' (f0.d.take (f0.d.length - m)).length (bys (f0.d.take (f0.d.length - m))) := by
  rw [hlen]
  have : bys (f0.d.take (f0.d.length - m)) = (bys f0.d).take ((f0.d.length - m) * 1) := by
   unfold bys
   rw [Nat.mul_one, List.map_take]
  rw [this]
  refine hv'.but k1 fun c hc hq => ?_
  obtain ⟨all, hall⟩ := p3.blk (hbv c hc)
  exact ZdF hall p1 (by decide) hq
 have h1 : DAt σ1 bb S (fs.map (Zco f0.b v' (f0.d.take (f0.d.length - m)))) pcs size mb pv := (h.setF hf0 (k1.sub fun c hc => .inl hc) hb1 hv1 fun c hc => .inl (hbv c hc)).mono fun c hc => by
  rcases hc with hc | hc
  ·exact hc
  ·exact (h.own.2.2.1 f0 hf0).2 c (hbv c hc)
 have hfile0 : σ1.blk f0.b = some (.own 87 [v']) := hb1
 have hS1 : But S σ σ1 := k1.sub fun c hc => by rw [hc]; exact (h.own.2.2.1 f0 hf0).1
 clear hv1 k1 hb1 hv' hlen
 refine kp3 0 1 2 ?_
 clear he e
 intro e he
 refine ZgZ (fun env υ => env 0 = ptr bb 0 /\ Hd υ 89 2 pv pcs.length (pcC (shr f0.b m pcs)) /\ But (fun c => hbk pv = some c) σ1 υ) ?_ ?_
 ·repeat refine Zab ?_
  first|refine Zaa ?_|refine Zac ?_
  refine Zah ?_
  refine Zad ?_
  refine Zar (v := ptr bb 0) rfl rfl ?_
  refine Zad ?_
  refine Zaf (b := bb) (o := 0) rfl Zdr rfl ?_
  refine Zad ?_
  refine Zau (b := bb) (o := 0 + 0) (r := pv) rfl h1.obj Ze8 Zds rfl ?_
  refine Zad ?_
  refine ZhP rfl h1.pc rfl Zcb ?_
  refine Zad ?_
  refine ZlK (pcs.length : Int) 1 rfl rfl (by omega) (by omega) ?_
  refine Zah ?_
  refine Zag ?_
  refine kp4 0 1 2 6 ?_
  clear he e
  intro e he
  refine ZeS ?_
  refine Zf4 (fun μ env υ => ∃ (t m' : Nat) (done : List (Nat × Nat)), μ = t /\ t <= pcs.length /\ (env 0 = ptr bb 0 /\ env 1 = ptr f0.b 0 /\ env 2 = vI m' /\ env 6 = .raw (.int .i64 ((t : Int) - 1))) /\ m' <= m /\ ZpV f0.b m pcs.reverse = done ++ ZpV f0.b m' (pcs.take t).reverse /\ done.length = pcs.length - t /\ Hd υ 89 2 pv pcs.length (pcC (pcs.take t ++ done.reverse)) /\ But (fun c => hbk pv = some c) σ1 υ) ⟨_, pcs.length, m, [], rfl, Nat.le_refl _, he, Nat.le_refl _, by rw [List.take_length]; rfl, by simp, by rw [List.take_length, List.reverse_nil, List.append_nil]; exact h1.pc, .refl _ _⟩ ?_
  clear he e
  rintro t e υ ⟨_, m', done, rfl, ht, he, hmm, hR, hdl, hL, hB⟩
  have hobj : υ.blk bb = some (.own 81 [pv, Zc9 mb, .raw (.int .i64 size)]) := hB.keep _ _ h1.pvB h1.obj
  have hend : ∀ (he0 : e 0 = ptr bb 0), t = 0 \/ m' = 0 -> (e 0 = ptr bb 0 /\ Hd υ 89 2 pv pcs.length (pcC (shr f0.b m pcs)) /\ But (fun c => hbk pv = some c) σ1 υ) := fun he0 hor => by
   have : shr f0.b m pcs = pcs.take t ++ done.reverse := by
    unfold shr
    rw [hR, List.reverse_append]
    rcases hor with rfl | rfl
    ·rfl
    ·rw [ZlJ, List.reverse_reverse]
   rw [this]
   exact ⟨he0, hL, hB⟩
  rcases Nat.eq_zero_or_pos t with ht0 | ht0
  ·repeat refine Zab ?_
   first|refine Zaa ?_|refine Zac ?_
   refine Zah ?_
   refine Zad ?_
   refine Zx2 (k := .i64) (a := (t : Int) - 1) (b := 0) rfl rfl ?_
   rw [decide_eq_false (by omega : ¬ (0 : Int) <= (t : Int) - 1)]
   refine Zah ?_
   refine Zib ?_
   refine Zib ?_
   refine Zad ?_
   refine Zb8 (v := vT false) rfl rfl ?_
   refine Zag ?_
   refine Za0 (t := false) rfl (fun hf => by cases hf) (fun _ => ?_)
   refine ZhK ?_
   exact ⟨rfl, by simp only [EV,Nat.reduceEqDiff,↓reduceIte,he];try rfl, (hend he.1 (.inl ht0)).2⟩
  rcases Nat.eq_zero_or_pos m' with hm0 | hm0
  ·repeat refine Zab ?_
   first|refine Zaa ?_|refine Zac ?_
   refine Zah ?_
   refine Zad ?_
   refine Zx2 (k := .i64) (a := (t : Int) - 1) (b := 0) rfl rfl ?_
   rw [decide_eq_true (by omega : (0 : Int) <= (t : Int) - 1)]
   refine Zah ?_
   refine Zcp ?_
   refine ZkQ rfl he.2.2.1 ?_
   refine Zcp ?_
   refine Zp5 (k := .i64) (a := (m' : Int)) (b := 0) rfl rfl ?_
   rw [decide_eq_false (by omega : ¬ (0 : Int) < (m' : Int))]
   refine Zad ?_
   refine Zbt (v := vT false) rfl rfl ?_
   refine Zag ?_
   refine Za0 (t := false) rfl (fun hf => by cases hf) (fun _ => ?_)
   refine ZhK ?_
   exact ⟨rfl, by simp only [EV,Nat.reduceEqDiff,↓reduceIte,he];try rfl, (hend he.1 (.inr hm0)).2⟩
  clear hend
  obtain ⟨j, rfl⟩ : ∃ j, t = j + 1 := ⟨t - 1, by omega⟩
  have hj : j < pcs.length := by omega
  have htk : pcs.take (j + 1) = pcs.take j ++ [pcs[j]] := List.take_succ_eq_append_getElem hj
  have hpj := hs _ (List.getElem_mem hj)
  generalize hp : pcs[j] = p at htk hpj
  have hlj : (pcs.take (j + 1) ++ done.reverse).length = pcs.length := by
   rw [List.length_append, List.length_take, List.length_reverse, hdl]; omega
  have hRj : ZpV f0.b m' (pcs.take (j + 1)).reverse = (if p.1 = f0.b then (p.1, p.2 - min m' p.2) :: ZpV f0.b (m' - min m' p.2) (pcs.take j).reverse else p :: ZpV f0.b m' (pcs.take j).reverse) := by
   rw [htk, List.reverse_append]
   rfl
  have hget : (pcs.take (j + 1) ++ done.reverse)[j]'(by omega) = p := by
   rw [List.getElem_append_left (by rw [List.length_take]; omega), List.getElem_take]
   exact hp
  have hj1 : ((j : Int) + 1 - 1) = (j : Int) := by omega
  rw [show (((j + 1 : Nat) : Int) - 1) = (j : Int) by omega] at he
  repeat refine Zab ?_
  first|refine Zaa ?_|refine Zac ?_
  refine Zah ?_
  refine Zad ?_
  refine Zx2 (k := .i64) (a := (j : Int)) (b := 0) rfl rfl ?_
  rw [decide_eq_true (by omega : (0 : Int) <= (j : Int))]
  refine Zah ?_
  refine Zcp ?_
  refine ZkQ rfl he.2.2.1 ?_
  refine Zcp ?_
  refine Zp5 (k := .i64) (a := (m' : Int)) (b := 0) rfl rfl ?_
  rw [decide_eq_true (by omega : (0 : Int) < (m' : Int))]
  refine Zad ?_
  refine Zbt (v := vT true) rfl rfl ?_
  refine Zag ?_
  refine kp5 0 1 2 6 34 ?_
  clear he e
  intro e he
  refine Za0 (t := true) (by simp only [EV,Nat.reduceEqDiff,↓reduceIte,he];try rfl) (fun _ => ?_) (fun hf => by cases hf)
  refine Zbh ?_
  refine ZgZ (fun env υ => ∃ (m' : Nat) (done : List (Nat × Nat)), (env 0 = ptr bb 0 /\ env 1 = ptr f0.b 0 /\ env 2 = vI m' /\ env 6 = vI j) /\ m' <= m /\ ZpV f0.b m pcs.reverse = done ++ ZpV f0.b m' (pcs.take j).reverse /\ done.length = pcs.length - j /\ Hd υ 89 2 pv pcs.length (pcC (pcs.take j ++ done.reverse)) /\ But (fun c => hbk pv = some c) σ1 υ) ?_ ?_
  ·refine ZeS ?_
   repeat refine Zab ?_
   first|refine Zaa ?_|refine Zac ?_
   refine Zah ?_
   refine Zad ?_
   refine Zar (v := ptr bb 0) (by simp only [EV,Nat.reduceEqDiff,↓reduceIte,he];try rfl) rfl ?_
   refine Zad ?_
   refine Zaf (b := bb) (o := 0) (by simp only [EV,Nat.reduceEqDiff,↓reduceIte,he];try rfl) Zdr rfl ?_
   refine Zad ?_
   refine Zau (b := bb) (o := 0 + 0) (r := pv) (by simp only [EV,Nat.reduceEqDiff,↓reduceIte,he];try rfl) hobj Ze8 Zds rfl ?_
   refine Zah ?_
   refine Zad ?_
   refine Zdq (k := .i64) (j := j) (by simp only [EV,Nat.reduceEqDiff,↓reduceIte,he];try rfl) (by simp only [EV,Nat.reduceEqDiff,↓reduceIte,he];try rfl) Zcb ZbB hL hj fun b hb => ?_
   obtain ⟨c, all, hpv, q1, q2, q3, q4, q5, q6⟩ := hL.at_ hb
   have hq2 := hL.len
   have hall : ∀ o < 2, all[j * 2 + o]? = (pcC (pcs.take (j + 1) ++ done.reverse))[j * 2 + o]? := fun o ho => by
    rw [<- q4, List.getElem?_take_of_lt (by omega)]
   have hcj : (pcC (pcs.take (j + 1) ++ done.reverse)).drop (j * 2) = ptr p.1 0 :: .raw (.int .i64 (p.2 : Int)) :: pcC ((pcs.take (j + 1) ++ done.reverse).drop (j + 1)) := by
    rw [ZnG, List.drop_eq_getElem_cons (by omega), hget]
    rfl
   have hc0 : all[j * 2 + 0]? = some (ptr p.1 0) := by
    rw [hall 0 (by omega), <- List.getElem?_drop, hcj]
    rfl
   have hc1 : all[j * 2 + 1]? = some (.raw (.int .i64 (p.2 : Int))) := by
    rw [hall 1 (by omega), <- List.getElem?_drop, hcj]
    rfl
   refine Zad ?_
   refine Zaf (b := b) (o := j * 2) (by simp only [EV,Nat.reduceEqDiff,↓reduceIte,he];try rfl) Zge rfl ?_
   refine Zad ?_
   refine Zau (b := b) (o := j * 2 + 0) (r := ptr p.1 0) (by simp only [EV,Nat.reduceEqDiff,↓reduceIte,he];try rfl) q1 ZnE ZnD hc0 ?_
   refine Zah ?_
   obtain ⟨fp, hfp, hfpb⟩ := h1.inn p (by rw [<- hp]; exact List.getElem_mem hj)
   refine Zuv (m := 0) (p := p.1) (q := f0.b) (cp := [fp.v]) (cq := [v']) ZgB ZuK (by simp only [EV,Nat.reduceEqDiff,↓reduceIte,he];try rfl) (by simp only [EV,Nat.reduceEqDiff,↓reduceIte,he];try rfl) (hB.keep _ _ (by rw [<- hfpb]; exact h1.pvF hfp) (by rw [<- hfpb]; exact (h1.file fp hfp).1)) (hB.keep _ _ (h.pvF hf0) hfile0) ?_
   refine Zag ?_
   refine kp5 0 1 2 6 46 ?_
   clear he e
   intro e he
   refine ZcM (t := decide (p.1 = f0.b)) he.2.2.2.2 (fun hpf => ?_) (fun hpf => ?_)
   ·have hpf : p.1 = f0.b := of_decide_eq_true hpf
    rw [if_pos hpf] at hRj
    repeat refine Zab ?_
    first|refine Zaa ?_|refine Zac ?_
    refine Zah ?_
    refine Zah ?_
    refine Zad ?_
    refine Zar (v := ptr bb 0) rfl rfl ?_
    refine Zad ?_
    refine Zaf (b := bb) (o := 0) rfl Zdr rfl ?_
    refine Zad ?_
    refine Zau (b := bb) (o := 0 + 0) (r := pv) rfl hobj Ze8 Zds rfl ?_
    refine Zah ?_
    refine Zad ?_
    refine Zdq (k := .i64) (j := j) (by exact rfl) (by exact rfl) Zcb ZbB hL hj fun b' hb' => ?_
    obtain rfl : b = b' := by rw [hb] at hb'; injection hb'
    refine Zad ?_
    refine Zaf (b := b) (o := j * 2) rfl Zge rfl ?_
    refine Zad ?_
    refine Zau (b := b) (o := j * 2 + 1) (r := .raw (.int .i64 (p.2 : Int))) rfl q1 ZoZ Zm2 hc1 ?_
    refine Zad ?_
    refine ZxJ m' p.2 rfl rfl ?_
    refine Zah ?_
    refine Zag ?_
    refine kp5 0 1 2 6 7 ?_
    clear he e
    intro e he
    repeat refine Zab ?_
    first|refine Zaa ?_|refine Zac ?_
    refine Zah ?_
    refine Zad ?_
    refine Zar (v := ptr bb 0) (by simp only [EV,Nat.reduceEqDiff,↓reduceIte,he];try rfl) rfl ?_
    refine Zad ?_
    refine Zaf (b := bb) (o := 0) (by simp only [EV,Nat.reduceEqDiff,↓reduceIte,he];try rfl) Zdr rfl ?_
    refine Zad ?_
    refine Zau (b := bb) (o := 0 + 0) (r := pv) (by simp only [EV,Nat.reduceEqDiff,↓reduceIte,he];try rfl) hobj Ze8 Zds rfl ?_
    refine Zah ?_
    refine Zad ?_
    refine Zdq (k := .i64) (j := j) (by simp only [EV,Nat.reduceEqDiff,↓reduceIte,he];try rfl) (by simp only [EV,Nat.reduceEqDiff,↓reduceIte,he];try rfl) Zcb ZbB hL hj fun b' hb' => ?_
    obtain rfl : b = b' := by rw [hb] at hb'; injection hb'
    refine Zad ?_
    refine Zaf (b := b) (o := j * 2) (by simp only [EV,Nat.reduceEqDiff,↓reduceIte,he];try rfl) Zge rfl ?_
    refine Zad ?_
    refine Zau (b := b) (o := j * 2 + 1) (r := .raw (.int .i64 (p.2 : Int))) (by simp only [EV,Nat.reduceEqDiff,↓reduceIte,he];try rfl) q1 ZoZ Zm2 hc1 ?_
    refine Zah ?_
    refine Zad ?_
    refine ZlK (p.2 : Int) ((min m' p.2 : Nat) : Int) (by simp only [EV,Nat.reduceEqDiff,↓reduceIte,he];try rfl) (by simp only [EV,Nat.reduceEqDiff,↓reduceIte,he];try rfl) (by omega) (by omega) ?_
    refine Zad ?_
    refine Zdq (k := .i64) (j := j) (by simp only [EV,Nat.reduceEqDiff,↓reduceIte,he];try rfl) (by simp only [EV,Nat.reduceEqDiff,↓reduceIte,he];try rfl) Zcb ZbB hL hj fun b' hb' => ?_
    obtain rfl : b = b' := by rw [hb] at hb'; injection hb'
    refine Zad ?_
    refine Zaf (b := b) (o := j * 2) (by simp only [EV,Nat.reduceEqDiff,↓reduceIte,he];try rfl) Zge rfl ?_
    refine Zad ?_
    refine Zwu (b := b) (o := j * 2 + 1) (r := .raw (.int .i64 ((p.2 : Int) - ((min m' p.2 : Nat) : Int)))) (by simp only [EV,Nat.reduceEqDiff,↓reduceIte,he];try rfl) (by simp only [EV,Nat.reduceEqDiff,↓reduceIte,he];try rfl) Zm2 hL hb (by omega) ⟨rfl, rfl, rfl⟩ fun υ2 hL2 hB2 => ?_
    refine Zag ?_
    refine kp5 0 1 2 6 7 ?_
    clear he e
    intro e he
    refine Zac ?_
    refine Zah ?_
    refine Zah ?_
    refine Zad ?_
    refine ZlK (m' : Int) ((min m' p.2 : Nat) : Int) rfl rfl (by omega) (by omega) ?_
    refine Zah ?_
    refine Zag ?_
    have hset : (pcC (pcs.take (j + 1) ++ done.reverse)).set (j * 2 + 1) (.raw (.int .i64 ((p.2 : Int) - ((min m' p.2 : Nat) : Int)))) = pcC (pcs.take j ++ (done ++ [(p.1, p.2 - min m' p.2)]).reverse) := by
     have e1 : pcs.take (j + 1) ++ done.reverse = pcs.take j ++ (p :: done.reverse) := by rw [htk, List.append_assoc]; rfl
     have e2 : (pcC (pcs.take j)).length = j * 2 := by rw [Zqz, List.length_take, Nat.min_eq_left (by omega)]
     rw [e1, List.reverse_append, ZlF, ZlF, List.set_append_right _ _ (by omega), e2, Nat.add_sub_cancel_left]
     show _ = pcC (pcs.take j) ++ (ptr p.1 0 :: .raw (.int .i64 ((p.2 - min m' p.2 : Nat) : Int)) :: pcC done.reverse)
     rw [Int.ofNat_sub (Nat.min_le_right _ _)]
     rfl
    refine ⟨rfl, m' - min m' p.2, done ++ [(p.1, p.2 - min m' p.2)], ⟨by simp only [EV,Nat.reduceEqDiff,↓reduceIte,he];try rfl, by simp only [EV,Nat.reduceEqDiff,↓reduceIte,he];try rfl, ?_, by simp only [EV,Nat.reduceEqDiff,↓reduceIte,he];try rfl⟩, by omega, ?_, by rw [List.length_append, hdl]; simp; omega, hset ▸ hL2, hB.trans hB2⟩
    ·rw [Int.ofNat_sub (Nat.min_le_left _ _)]
     simp only [EV,Nat.reduceEqDiff,↓reduceIte,he];try rfl
    ·rw [hR, hRj, List.append_assoc]
     rfl
   ·have hpf : ¬ p.1 = f0.b := of_decide_eq_false hpf
    rw [if_neg hpf] at hRj
    refine Ze7 ?_
    refine ⟨rfl, m', done ++ [p], ⟨by simp only [EV,Nat.reduceEqDiff,↓reduceIte,he];try rfl, by simp only [EV,Nat.reduceEqDiff,↓reduceIte,he];try rfl, by simp only [EV,Nat.reduceEqDiff,↓reduceIte,he];try rfl, by simp only [EV,Nat.reduceEqDiff,↓reduceIte,he];try rfl⟩, hmm, ?_, by rw [List.length_append, hdl]; simp; omega, ?_, hB⟩
    ·rw [hR, hRj, List.append_assoc]
     rfl
    ·have e3 : pcs.take j ++ (done ++ [p]).reverse = pcs.take (j + 1) ++ done.reverse := by
      rw [List.reverse_append, htk, List.append_assoc]
      rfl
     rw [e3]
     exact hL
  ·clear he e hL hB hobj hR hdl hlj hRj hget hmm hm0
   rintro e υ ⟨m'', done', he, g1, g2, g3, g4, g5⟩
   refine Zac ?_
   refine Zah ?_
   refine Zad ?_
   refine ZlK (j : Int) 1 rfl rfl (by omega) (by omega) ?_
   refine Zah ?_
   refine Zag ?_
   show ∃ n', n' < _ /\ _
   exact ⟨_, Nat.lt_succ_self j, j, m'', done', rfl, by omega, ⟨by simp only [EV,Nat.reduceEqDiff,↓reduceIte,he];try rfl, by simp only [EV,Nat.reduceEqDiff,↓reduceIte,he];try rfl, by simp only [EV,Nat.reduceEqDiff,↓reduceIte,he];try rfl, by simp only [EV,Nat.reduceEqDiff,↓reduceIte,he];try rfl⟩, g1, g2, g3, g4, g5⟩
 clear he e
 rintro e υ ⟨he, hL, hB⟩
 have hobj : υ.blk bb = some (.own 81 [pv, Zc9 mb, .raw (.int .i64 size)]) := hB.keep _ _ h1.pvB h1.obj
 refine Zac ?_
 refine Zah ?_
 refine Zah ?_
 refine Zad ?_
 refine Zar (v := ptr bb 0) rfl rfl ?_
 refine Zad ?_
 refine Zaf (b := bb) (o := 0) rfl Zdr rfl ?_
 refine Zad ?_
 refine Zau (b := bb) (o := 0 + 0) (r := pv) rfl hobj Ze8 Zds rfl ?_
 refine ZaN [pv, fnV 147 #[]] ?_
 rw [<- ZuM f0.b m pcs] at hL
 refine Zo6 (q := fun p => decide (p.2 = 0)) hL (by rw [ZuM]; exact hl) (fun υ' _ p hp K' hK' => ZqD K' hK') fun τ pv' d1 d2 d3 => ?_
 refine Zad ?_
 refine Zar (v := ptr bb 0) rfl rfl ?_
 refine Zad ?_
 refine Zaf (b := bb) (o := 0) rfl Zdr rfl ?_
 refine Zad ?_
 refine Zgi (b := bb) (o := 0 + 0) (v := pv') rfl rfl (d2.keep _ _ h1.pvB hobj) Zds d1.oneV (Nat.zero_lt_succ _) fun τ2 hb2 k2 => ?_
 refine Zag ?_
 have hB2 : But (fun c => c = bb \/ hbk pv = some c) σ1 τ2 := ((hB.trans d2).sub fun c hc => .inr hc).trans (k2.sub fun c hc => .inl hc)
 refine ⟨_, Zf6 rfl, hK τ2 v' pv' ((h1.setP hB2 hb2 (d1.but k2 fun c hc hq => ?_) fun p hp => ?_).mono fun c hc => ?_) (hS1.trans (hB2.sub fun c hc => h1.pvS hc))⟩
 ·rw [hq] at hc
  exact h1.pvB (d3 _ hc)
 ·obtain ⟨p', hp', hpp⟩ := ZAp (List.mem_filter.1 hp).1
  rw [<- hpp]
  exact h1.inn p' hp'
 ·rcases hc with hc | hc
  ·exact hc
  ·exact h1.pvS (.inr (d3 _ hc))
end
end Go.Proofs.YteempnebenjkmaaGreatDoor
namespace Go.Proofs.YteempnebenjkmaaGreatDoor
open Go.RowKit
set_option maxRecDepth 100000
set_option linter.unusedVariables false
set_option linter.unusedSimpArgs false
theorem ZiM {S : Nat -> Prop} {σ υ : St} {c : Nat} (hB : But S σ υ) (h : Zei υ c) : S c \/ Zei σ c := by
 by_cases hc : S c
 ·exact .inl hc
 ·refine .inr ⟨?_, fun hu => h.2 (hB.used _ hu)⟩
  cases hx : σ.blk c with
  | none => rfl
  | some x =>
   have := hB.keep _ _ hc hx
   rw [h.1] at this
   cases this
def ZsT (fs : List Fl) (pcs : List (Nat × Nat)) (k d : List UInt8) (fs' : List Fl) (pcs' : List (Nat × Nat)) : Prop :=
 ∃ fs1 f0 v', (fs1 = fs \/ (∀ f ∈ fs, f.nm ≠ k) /\ fs1 = fs ++ [f0] /\ f0.d = []) /\ f0 ∈ fs1 /\ f0.nm = k /\ fs' = fs1.map (Zco f0.b v' (f0.d ++ d)) /\ pcs' = pcs ++ (if d = [] then [] else [(f0.b, d.length)])
theorem ZnI {f : Fl} : ∀ {fs : List Fl}, f ∈ fs -> f.d.length <= Zde fs
 | g :: fs, h => by
  have : Zde (g :: fs) = g.d.length + Zde fs := by simp [Zde]
  rcases List.mem_cons.1 h with rfl | h
  ·omega
  ·have := ZnI h; omega
section
variable {σ : St} {bb mb : Nat} {S : Nat -> Prop} {fs : List Fl} {pcs : List (Nat × Nat)} {size : Int} {pv : AV} {K : AV -> St -> Prop}
set_option maxHeartbeats 2000000 in
theorem Zo7 (h : DAt σ bb S fs pcs size mb pv) (hS : ∀ c, S c -> σ.used c) {k d : List UInt8} {pa : AV}
 (hcat : ∀ τ0, Ext σ τ0 -> ∀ K' : AV -> St -> Prop, (∀ v τ, Hd τ 5 1 v d.length (bys d) -> Ext τ0 τ -> (∀ b, hbk v = some b -> Zei τ0 b) -> K' v τ) -> Zan Tryz.prog 39 [pa] τ0 K')
 (hlen : d.length + Zde fs <= 100000000) (hp : pcs.length <= 100000000)
 (hK2 : ¬ (k ≠ [] /\ k.length <= 40) -> ∀ τ, Ext σ τ -> K (vI 2) τ)
 (hK8 : (k ≠ [] /\ k.length <= 40) -> ¬ (size < 1 \/ ((d.length + Zde fs : Nat) : Int) <= size) -> ∀ τ, Ext σ τ -> K (vI 8) τ)
 (hK0 : (k ≠ [] /\ k.length <= 40) -> (size < 1 \/ ((d.length + Zde fs : Nat) : Int) <= size) -> ∀ τ S' fs' pcs' pv', DAt τ bb S' fs' pcs' size mb pv' -> But S σ τ -> (∀ c, S c -> S' c) -> (∀ c, S' c -> S c \/ Zei σ c) -> (∀ c, S' c -> τ.used c) -> ZsT fs pcs k d fs' pcs' -> K (vI 0) τ) :
 Zan Tryz.prog 10 [ptr bb 0, .raw (sV k), pa] σ K := by
 refine Zay ZaF Tryz.func10 rfl rfl rfl (Nat.le_of_ble_eq_true rfl) ?_
 refine Zp8 0 1 2 (v0 := ptr bb 0) (v1 := .raw (sV k)) (v2 := pa) rfl rfl rfl ?_
 intro e he
 repeat refine Zab ?_
 first|refine Zaa ?_|refine Zac ?_
 refine Zah ?_
 refine Zag ?_
 refine kp3 0 1 2 ?_
 clear he e
 intro e he
 refine ZdI ?_
 repeat refine Zab ?_
 first|refine Zaa ?_|refine Zac ?_
 refine Zah ?_
 refine ZaN [ptr bb 0] ?_
 refine Zgh h ?_
 refine ZiJ ?_
 refine Zah ?_
 refine Zag ?_
 refine kp4 0 1 2 9 ?_
 clear he e
 intro e he
 refine ZcM (t := false) he.2.2.2 (fun hf => by cases hf) (fun _ => ?_)
 repeat refine Zab ?_
 first|refine Zaa ?_|refine Zac ?_
 refine Zah ?_
 refine ZaN [.raw (sV k)] ?_
 refine ZrK _ fun σ1 hX1 => ?_
 refine ZiJ ?_
 refine Zah ?_
 refine Zag ?_
 refine kp4 0 1 2 13 ?_
 clear he e
 intro e he
 refine ZcM (t := !decide (k ≠ [] /\ k.length <= 40)) he.2.2.2 (fun hk => ?_) (fun hk => ?_)
 ·rw [Bool.not_eq_true'] at hk
  repeat refine Zab ?_
  first|refine Zaa ?_|refine Zac ?_
  refine Zah ?_
  refine Zag ?_
  refine Za5 ?_
  exact ZbX (hK2 (of_decide_eq_false hk) σ1 hX1)
 rw [Bool.not_eq_false'] at hk
 have hk := of_decide_eq_true hk
 refine Ze7 ?_
 show ZaG _ _ _ _ _ _
 repeat refine Zab ?_
 first|refine Zaa ?_|refine Zac ?_
 refine Zah ?_
 refine ZaN [pa] ?_
 refine hcat σ1 hX1 _ fun dv σ2 hdv hX2 hdn => ?_
 refine Zah ?_
 refine Zag ?_
 refine kp3 0 1 7 ?_
 clear he e
 intro e he
 have h2 := (h.ext hX1).ext hX2
 repeat refine Zab ?_
 first|refine Zaa ?_|refine Zac ?_
 refine Zah ?_
 refine Zah ?_
 refine Zad ?_
 refine ZhP rfl hdv rfl ZeA ?_
 refine ZaN [ptr bb 0, vI d.length] ?_
 refine ZyI h2 (by omega) _ ?_
 refine ZiJ ?_
 refine Zag ?_
 refine kp4 0 1 7 23 ?_
 clear he e
 intro e he
 refine Za0 (t := !decide (size < 1 \/ ((d.length + Zde fs : Nat) : Int) <= size)) he.2.2.2 (fun hf => ?_) (fun hf => ?_)
 ·rw [Bool.not_eq_true'] at hf
  repeat refine Zab ?_
  first|refine Zaa ?_|refine Zac ?_
  refine Zah ?_
  refine Zag ?_
  refine ZgI ?_
  exact ZbX (hK8 hk (of_decide_eq_false hf) σ2 (hX1.trans hX2))
 rw [Bool.not_eq_false'] at hf
 have hf := of_decide_eq_true hf
 refine Zbh ?_
 have hX12 := hX1.trans hX2
 have hdS : ∀ c, hbk dv = some c -> ¬ S c := fun c hc hs => (hdn c hc).2 (hX1.used _ (hS c hs))
 repeat refine Zab ?_
 first|refine Zaa ?_|refine Zac ?_
 refine Zah ?_
 refine Zad ?_
 refine Zar (v := ptr bb 0) rfl rfl ?_
 refine Zad ?_
 refine Zaf (b := bb) (o := 0) rfl ZbI rfl ?_
 refine Zad ?_
 refine Zau (b := bb) (o := 0 + 1) (r := Zc9 mb) rfl h2.obj Zd6 Zd5 rfl ?_
 refine Zah ?_
 refine Zad ?_
 refine Zfs (k := k) (es := Za3 fs) (b := mb) rfl rfl h2.map ZgA ZiK Zjy ?_
 refine Zah ?_
 refine Zag ?_
 refine kp4 0 1 7 8 ?_
 clear he e
 intro e he
 refine ZgZ (fun env υ => ∃ fs1 S1 f0, DAt υ bb S1 fs1 pcs size mb pv /\ f0 ∈ fs1 /\ f0.nm = k /\ (fs1 = fs \/ (∀ f ∈ fs, f.nm ≠ k) /\ fs1 = fs ++ [f0] /\ f0.d = []) /\ (env 0 = ptr bb 0 /\ env 7 = dv /\ env 8 = ptr f0.b 0) /\ Hd υ 5 1 dv d.length (bys d) /\ (∀ c, hbk dv = some c -> ¬ S1 c) /\ But S σ υ /\ (∀ c, S c -> S1 c) /\ (∀ c, S1 c -> S c \/ Zei σ c) /\ (∀ c, S1 c -> υ.used c) /\ Zde fs1 = Zde fs) ?_ ?_
 ·cases hg : ZgL (Za3 fs) k with
  | some n =>
   rw [hg] at he
   obtain ⟨f0, hf0, hnm, rfl⟩ := ZdO hg
   repeat refine Zab ?_
   first|refine Zaa ?_|refine Zac ?_
   refine Zah ?_
   refine Zad ?_
   refine Zf7 (p := some ⟨f0.b, 0, none⟩) ZgB rfl rfl rfl ?_
   refine Zag ?_
   refine ZcM (t := false) rfl (fun hf => by cases hf) (fun _ => ?_)
   refine Ze7 ?_
   exact ⟨rfl, fs, S, f0, h2, hf0, hnm, .inl rfl, ⟨by simp only [EV,Nat.reduceEqDiff,↓reduceIte,he];try rfl, by simp only [EV,Nat.reduceEqDiff,↓reduceIte,he];try rfl, by simp only [EV,Nat.reduceEqDiff,↓reduceIte,he];try rfl⟩, hdv, hdS, hX12.but, fun c hc => hc, fun c hc => .inl hc, fun c hc => hX12.used _ (hS c hc), rfl⟩
  | none =>
   rw [hg] at he
   have hnm := Zcv.1 hg
   repeat refine Zab ?_
   first|refine Zaa ?_|refine Zac ?_
   refine Zah ?_
   refine Zad ?_
   refine Zf7 (p := none) ZgB rfl rfl rfl ?_
   refine Zag ?_
   refine kp4 0 1 7 31 ?_
   clear he e
   intro e he
   refine ZcM (t := true) he.2.2.2 (fun _ => ?_) (fun hf => by cases hf)
   repeat refine Zab ?_
   first|refine Zaa ?_|refine Zac ?_
   refine Zad ?_
   refine Zf3 (vs := []) (cells := [.lst none 0 0 []]) rfl ZyD ZyF rfl ?_
   refine Zad ?_
   refine Zh3 (cs := [.lst none 0 0 []]) (v := .agg [.lst none 0 0 []]) rfl rfl fun nb σ3 hn3 hu3 hb3 hub3 hX3 => ?_
   refine Zah ?_
   refine Zag ?_
   refine kp4 0 1 7 8 ?_
   clear he e
   intro e he
   refine Zac ?_
   refine Zah ?_
   refine Zad ?_
   refine Zar (v := ptr bb 0) rfl rfl ?_
   refine Zad ?_
   refine Zaf (b := bb) (o := 0) rfl ZbI rfl ?_
   refine Zad ?_
   refine Zau (b := bb) (o := 0 + 1) (r := Zc9 mb) rfl (hX3.keep _ _ h2.obj) Zd6 Zd5 rfl ?_
   refine Zah ?_
   refine Zah ?_
   refine Zad ?_
   refine ZoU (k := k) (n := nb) (es := Za3 fs) (b := mb) rfl rfl rfl (hX3.keep _ _ h2.map) ZgA ZiK fun σ4 hm4 k4 => ?_
   refine Zag ?_
   have hnm2 : mb ≠ nb := fun e => by
    have hq := h2.map
    rw [e, hn3] at hq
    cases hq
   have hB4 : But (fun c => c = mb \/ c = nb) σ2 σ4 := hX3.but.trans (k4.sub fun c hc => .inl hc)
   have hadd := h2.addF (nm := k) (nb := nb) (v := .lst none 0 0 []) (d := []) ⟨hn3, hu3⟩ hB4 (k4.keep _ _ (fun q => hnm2 q.symm) hb3) (k4.used _ hub3) (by rw [hm4, ZrE nb hnm]; unfold Za3; rw [List.map_append]; rfl) ⟨rfl, by simp [bys], .inl ⟨.inl rfl, rfl⟩⟩ hnm rfl
   have hBS : But S σ σ4 := hX12.but.ext2 (T := fun c => c = mb \/ c = nb) (fun c hc => by
    rcases hc with rfl | rfl
    ·exact .inl h.own.2.1
    ·exact .inr (hX12.noneOf hn3)) hB4
   refine ⟨rfl, _, _, ⟨k, nb, .lst none 0 0 [], []⟩, hadd, List.mem_append_right _ List.mem_cons_self, rfl, .inr ⟨hnm, rfl, rfl⟩, ⟨by simp only [EV,Nat.reduceEqDiff,↓reduceIte,he];try rfl, by simp only [EV,Nat.reduceEqDiff,↓reduceIte,he];try rfl, by simp only [EV,Nat.reduceEqDiff,↓reduceIte,he];try rfl⟩, (hdv.ext hX3).but k4 fun c hc q => ?_, fun c hc hs => ?_, hBS, fun c hc => .inl hc, fun c hc => ?_, fun c hc => ?_, by simp [Zde]⟩
   ·obtain ⟨all, hall⟩ := hdv.blk hc
    exact ZeZ hall h2.map q
   ·rcases hs with hs | hs
    ·exact hdS c hc hs
    ·obtain ⟨all, hall⟩ := hdv.blk hc
     rw [hs, hn3] at hall
     cases hall
   ·rcases hc with hc | hc
    ·exact .inl hc
    ·rw [hc]; exact .inr (Zei.of ⟨hn3, hu3⟩ hX12)
   ·rcases hc with hc | hc
    ·exact hBS.used _ (hS c hc)
    ·rw [hc]; exact k4.used _ hub3
 clear he e
 rintro e υ ⟨fs1, S1, f0, h3, hf0, hnm, hor, he, hd3, hdS3, hB3, hS13, hS31, hSu3, hsum⟩
 obtain ⟨p1, p2, p3⟩ := h3.file f0 hf0
 have hfl := ZnI hf0
 repeat refine Zab ?_
 first|refine Zaa ?_|refine Zac ?_
 refine Zah ?_
 refine Zah ?_
 refine Zad ?_
 refine Zar (v := ptr f0.b 0) rfl rfl ?_
 refine Zad ?_
 refine Zaf (b := f0.b) (o := 0) rfl Zju rfl ?_
 refine Zad ?_
 refine Zau (b := f0.b) (o := 0 + 0) (r := f0.v) rfl p1 Zjw Zg1 rfl ?_
 refine Zah ?_
 refine Zad ?_
 refine ZiH rfl rfl ZeA ZoY ZrD ZAh rfl (by omega) p3 (hd3.src (by omega)) (by unfold maxLen; omega) (by omega) fun v' υ4 hv4 hB4 hn4 => ?_
 refine Zad ?_
 refine Zar (v := ptr f0.b 0) rfl rfl ?_
 refine Zad ?_
 refine Zaf (b := f0.b) (o := 0) rfl Zju rfl ?_
 have hfb4 : υ4.blk f0.b = some (.own 87 [f0.v]) := hB4.keep _ _ (fun hq => by
  obtain ⟨all, hall⟩ := p3.blk hq
  exact ZdF hall p1 (by decide) rfl) p1
 refine Zad ?_
 refine Zgi (b := f0.b) (o := 0 + 0) (v := v') rfl rfl hfb4 Zg1 hv4.oneV (Nat.zero_lt_succ _) fun υ5 hb5 k5 => ?_
 refine Zag ?_
 have hB5 : But (fun c => c = f0.b \/ hbk f0.v = some c) υ υ5 := (hB4.sub fun c hc => .inr hc).trans (k5.sub fun c hc => .inl hc)
 have hbys : bys f0.d ++ bys d = bys (f0.d ++ d) := by unfold bys; rw [List.map_append]
 have hv5 : Hd υ5 5 1 v' (f0.d ++ d).length (bys (f0.d ++ d)) := by
  rw [List.length_append, <- hbys]
  refine hv4.but k5 fun c hc hq => ?_
  obtain ⟨all, hall⟩ := hv4.blk hc
  exact ZdF hall hfb4 (by decide) hq
 have h5 := h3.setF hf0 hB5 hb5 hv5 hn4
 have hf0S := h3.own.2.2.1 f0 hf0
 have hd5 : Hd υ5 5 1 dv d.length (bys d) := hd3.but hB5 fun c hc hq => by
  rcases hq with hq | hq
  ·obtain ⟨all, hall⟩ := hd3.blk hc
   exact ZdF hall p1 (by decide) hq
  ·exact hdS3 c hc (hf0S.2 c hq)
 have hBS5 : But S σ υ5 := hB3.ext2 (T := fun c => c = f0.b \/ hbk f0.v = some c) (fun c hc => by
  have hs1 : S1 c := by
   rcases hc with rfl | hc
   ·exact hf0S.1
   ·exact hf0S.2 c hc
  rcases hS31 c hs1 with q | q
  ·exact .inl q
  ·exact .inr q.1) hB5
 have hS5 : ∀ c, (S1 c \/ hbk v' = some c) -> S c \/ Zei σ c := fun c hc => by
  rcases hc with hc | hc
  ·exact hS31 c hc
  ·rcases hn4 c hc with q | q
   ·exact hS31 c (hf0S.2 c q)
   ·exact ZiM hB3 q
 have hSu5 : ∀ c, (S1 c \/ hbk v' = some c) -> υ5.used c := fun c hc => by
  rcases hc with hc | hc
  ·exact hB5.used _ (hSu3 c hc)
  ·exact hv5.used hc
 clear hv4 hB4 hn4 hfb4 k5 hb5
 refine kp3 0 7 8 ?_
 clear he e
 intro e he
 refine ZgZ (fun env υ => env 7 = dv /\ ∃ S' pcs' pv', DAt υ bb S' (fs1.map (Zco f0.b v' (f0.d ++ d))) pcs' size mb pv' /\ pcs' = pcs ++ (if d = [] then [] else [(f0.b, d.length)]) /\ But S σ υ /\ (∀ c, S c -> S' c) /\ (∀ c, S' c -> S c \/ Zei σ c) /\ (∀ c, S' c -> υ.used c)) ?_ ?_
 ·repeat refine Zab ?_
  first|refine Zaa ?_|refine Zac ?_
  refine Zah ?_
  refine Zad ?_
  refine ZhP rfl hd5 rfl ZeA ?_
  refine Zad ?_
  refine Zp5 (k := .i64) (a := (d.length : Int)) (b := 0) rfl rfl ?_
  refine Zag ?_
  refine kp4 0 7 8 51 ?_
  clear he e
  intro e he
  refine ZcM (t := decide ((0 : Int) < (d.length : Int))) he.2.2.2 (fun hd0 => ?_) (fun hd0 => ?_)
  ·have hd0 := of_decide_eq_true hd0
   have hdne : ¬ d = [] := fun e => by rw [e] at hd0; exact absurd hd0 (by decide)
   refine Zac ?_
   refine Zah ?_
   refine Zah ?_
   refine Zad ?_
   refine Zar (v := ptr bb 0) rfl rfl ?_
   refine Zad ?_
   refine Zaf (b := bb) (o := 0) rfl ZbI rfl ?_
   refine Zad ?_
   refine Zaf (b := bb) (o := 0 + 0) rfl Zdr rfl ?_
   refine Zad ?_
   refine Zau (b := bb) (o := 0 + 0 + 0) (r := pv) rfl h5.obj Ze8 Zds rfl ?_
   refine Zah ?_
   refine Zah ?_
   refine Zad ?_
   refine ZhP rfl hd5 rfl ZeA ?_
   refine Zad ?_
   refine Zf3 (vs := [ptr f0.b 0, vI d.length]) (cells := [ptr f0.b 0, vI d.length]) (by simp only [List.map_cons, List.map_nil, EV,Nat.reduceEqDiff,↓reduceIte,he]; try rfl) Zic ZyG rfl ?_
   refine Zad ?_
   refine Zkx (vs := [.agg [ptr f0.b 0, vI d.length]]) (cells := [ptr f0.b 0, vI d.length]) (by simp only [List.map_cons, List.map_nil, EV,Nat.reduceEqDiff,↓reduceIte,he];try rfl) Zcb ZbB Zic rfl (by omega) rfl rfl fun rb υ6 hN6 hX6 => ?_
   have h6 := h5.ext hX6
   refine Zad ?_
   refine ZiH (m := 1) (news := [ptr f0.b 0, vI d.length]) (r := .lst (some ⟨rb, 0, none⟩) 1 1 ([ptr f0.b 0, vI d.length] ++ [])) rfl rfl Zcb ZbB Zic ZyH rfl (by omega) h6.pc (ZrB rfl (fun a ha => by
    simp only [List.mem_cons, List.not_mem_nil, or_false] at ha
    rcases ha with rfl | rfl <;> rfl) (fun q => by cases q)) (by unfold maxLen; omega) (by omega) fun pv' υ7 hv7 hB7 hn7 => ?_
   refine Zad ?_
   refine Zar (v := ptr bb 0) rfl rfl ?_
   refine Zad ?_
   refine Zaf (b := bb) (o := 0) rfl ZbI rfl ?_
   refine Zad ?_
   refine Zaf (b := bb) (o := 0 + 0) rfl Zdr rfl ?_
   refine Zad ?_
   refine Zgi (b := bb) (o := 0 + 0 + 0) (v := pv') rfl rfl (hB7.keep _ _ h6.pvB h6.obj) Zds hv7.oneV (Nat.zero_lt_succ _) fun υ8 hb8 k8 => ?_
   refine Zag ?_
   have hB8 : But (fun c => c = bb \/ hbk pv = some c) υ6 υ8 := (hB7.sub fun c hc => .inr hc).trans (k8.sub fun c hc => .inl hc)
   have hpc : pcC pcs ++ [ptr f0.b 0, vI d.length] = pcC (pcs ++ [(f0.b, d.length)]) := by rw [ZlF]; rfl
   have hv8 : Hd υ8 89 2 pv' (pcs ++ [(f0.b, d.length)]).length (pcC (pcs ++ [(f0.b, d.length)])) := by
    rw [List.length_append, <- hpc]
    refine hv7.but k8 fun c hc hq => ?_
    obtain ⟨all, hall⟩ := hv7.blk hc
    exact ZdF hall (hB7.keep _ _ h6.pvB h6.obj) (by decide) hq
   have h8 := h6.setP hB8 hb8 hv8 fun p hp => by
    rcases List.mem_append.1 hp with hp | hp
    ·exact h6.inn p hp
    ·rw [List.mem_singleton.1 hp]
     exact ⟨_, List.mem_map.2 ⟨f0, hf0, rfl⟩, Zd7 f0⟩
   have hBS6 : But S σ υ6 := hBS5.trans hX6.but
   refine ⟨rfl, by simp only [EV,Nat.reduceEqDiff,↓reduceIte,he];try rfl, _, _, pv', h8, by rw [if_neg hdne], hBS6.ext2 (T := fun c => c = bb \/ hbk pv = some c) (fun c hc => ?_) hB8, fun c hc => .inl (.inl (hS13 c hc)), fun c hc => ?_, fun c hc => ?_⟩
   ·rcases hS5 c (h6.pvS hc) with q | q
    ·exact .inl q
    ·exact .inr q.1
   ·rcases hc with hc | hc
    ·exact hS5 c hc
    ·rcases hn7 c hc with q | q
     ·exact hS5 c (h6.pvS (.inr q))
     ·exact ZiM hBS6 q
   ·rcases hc with hc | hc
    ·exact hB8.used _ (hX6.used _ (hSu5 c hc))
    ·exact hv8.used hc
  ·have hd0 := of_decide_eq_false hd0
   have hdn : d = [] := List.eq_nil_of_length_eq_zero (by omega)
   refine Ze7 ?_
   exact ⟨rfl, by simp only [EV,Nat.reduceEqDiff,↓reduceIte,he];try rfl, _, pcs, pv, h5, by rw [if_pos hdn, List.append_nil], hBS5, fun c hc => .inl (hS13 c hc), hS5, hSu5⟩
 clear he e
 rintro e τ ⟨he, S', pcs', pv', h9, hpcs, g1, g2, g3, g4⟩
 repeat refine Zab ?_
 first|refine Zaa ?_|refine Zac ?_
 refine Zah ?_
 refine Zag ?_
 refine Za5 ?_
 exact ZbX (hK0 hk hf τ S' _ pcs' pv' h9 g1 g2 g3 g4 ⟨fs1, f0, v', hor, hf0, hnm, rfl, hpcs⟩)
end
end Go.Proofs.YteempnebenjkmaaGreatDoor
namespace Go.Proofs.YteempnebenjkmaaGreatDoor
open Go.RowKit
set_option maxRecDepth 100000
set_option linter.unusedVariables false
set_option linter.unusedSimpArgs false
theorem Zdt : Zdk Tryz.prog 9 = some false := by kernel_rfl
theorem Zcf : Zax Tryz.prog 9 = some 1 := by kernel_rfl
theorem Zgj : Zdk Tryz.prog 28 = some false := by kernel_rfl
theorem Zgk : Zax Tryz.prog 28 = some 1 := by kernel_rfl
def ZrN (ns : List (List UInt8)) : List AV := ns.map fun s => .raw (sV s)
theorem ZnJ (ns : List (List UInt8)) : (ZrN ns).length = ns.length := by simp [ZrN]
theorem ZrO {ns : List (List UInt8)} {i : Nat} (h : i < ns.length) : (ZrN ns)[i]? = some (.raw (sV ns[i])) := by
 unfold ZrN
 rw [List.getElem?_map, List.getElem?_eq_getElem h]
 rfl
def ZiN (σ : St) (v : AV) (ns : List (List UInt8)) : Prop := (∃ A c rest, v = .lst A ns.length c (ZrN ns ++ rest) /\ (A = none -> ns.length = 0)) \/ Hd σ 9 1 v ns.length (ZrN ns)
theorem ZiN.but {S : Nat -> Prop} {σ τ : St} {v : AV} {ns : List (List UInt8)} (h : ZiN σ v ns) (k : But S σ τ) (hS : ∀ c, hbk v = some c -> ¬ S c) : ZiN τ v ns := by
 rcases h with h | h
 ·exact .inl h
 ·exact .inr (h.but k hS)
theorem ZiN.val {σ : St} {v : AV} {ns : List (List UInt8)} (h : ZiN σ v ns) : ∃ A c, v.val = .slice A ns.length c := by
 rcases h with ⟨A, c, rest, rfl, _⟩ | h
 ·exact ⟨A, c, rfl⟩
 ·obtain ⟨A, c, h1, _⟩ := h.val
  exact ⟨A, c, h1⟩
section
variable {ops : Array Oper} {env : Env} {σ τ : St} {K : Env -> St -> Prop}
abbrev fnG (g : FuncId) (fst caps : Array Value) : AV := .raw (.func (.func g) fst caps)
theorem ZAq {n d : Nat} {ty1 ty2 : TypeId} {pos1 pos2 : String} {af1 af2 : Array Edge} {x y : Operand} {v : AV} {ns : List (List UInt8)} {i : Nat} {l : List Oper} (hN : ZiN σ v ns) (hi : i < ns.length) (hx : ev env x = v) (hy : ev env y = vI i) (h : ∀ u, Zb7 Tryz.prog ops l ((env.put (some n) u).put (some d) (.raw (sV ns[i]))) σ K) :
 Zb7 Tryz.prog ops (⟨some n, .indexAddr 69 x y, ty1, pos1, af1, none⟩ :: ⟨some d, .load 9 (.tmp n), ty2, pos2, af2, none⟩ :: l) env σ K := by
 rcases hN with ⟨A, c, rest, rfl, hA⟩ | hN
 ·refine Zad (Ziu (k := .i64) (j := i) hx hy Zjv Zcf hi hA rfl fun ad => ?_)
  refine Zad (ZkK (r := .raw (sV ns[i])) (by simp only [EV]; rfl) Zdt Zcf ?_ (h _))
  show ((ZrN ns ++ rest).drop (i * 1))[0]? = _
  rw [List.getElem?_drop, Nat.mul_one, Nat.add_zero, List.getElem?_append_left (by rw [ZnJ]; exact hi), ZrO hi]
 ·refine Zad (Zdq (k := .i64) (j := i) hx hy Zjv Zcf hN hi fun b hb => ?_)
  exact Zad (ZAg (by simp only [EV]; rfl) hN hb hi (ZrO hi) Zdt Zcf (h _))
end
set_option maxHeartbeats 1000000 in
theorem ZqE {σ : St} {bb mb : Nat} {S : Nat -> Prop} {fs : List Fl} {pcs : List (Nat × Nat)} {size : Int} {pv v : AV} {ns : List (List UInt8)} {g : FuncId} {fst caps : Array Value} {K : AV -> St -> Prop} (I : Nat -> St -> Prop)
 (h : DAt σ bb S fs pcs size mb pv) (hN : ZiN σ v ns) (hnl : ns.length <= 1000000000) (h0 : I 0 σ)
 (hstep : ∀ i (hi : i < ns.length) υ, I i υ -> ∃ S fs pcs size mb pv, DAt υ bb S fs pcs size mb pv /\ ZiN υ v ns /\ (ZgL (Za3 fs) ns[i] = none -> K (vI 6) υ) /\ ∀ fb, ZgL (Za3 fs) ns[i] = some fb -> Zan Tryz.prog g (fst.toList.map .raw ++ [.raw (sV ns[i]), ptr fb 0] ++ caps.toList.map .raw) υ fun _ τ => I (i + 1) τ)
 (hend : ∀ υ, I ns.length υ -> K (vI 0) υ) : Zan Tryz.prog 163 [ptr bb 0, fnG g fst caps, v] σ K := by
 refine Zay ZaF Tryz.func163 rfl rfl rfl (Nat.le_of_ble_eq_true rfl) ?_
 refine Zp8 0 1 2 (v0 := ptr bb 0) (v1 := fnG g fst caps) (v2 := v) rfl rfl rfl ?_
 intro e he
 repeat refine Zab ?_
 first|refine Zaa ?_|refine Zac ?_
 refine Zah ?_
 refine Zag ?_
 refine kp3 0 1 2 ?_
 clear he e
 intro e he
 repeat refine Zab ?_
 first|refine Zaa ?_|refine Zac ?_
 refine Zah ?_
 refine ZaN [ptr bb 0] ?_
 refine Zgh h ?_
 refine ZiJ ?_
 refine Zag ?_
 refine kp4 0 1 2 12 ?_
 clear he e
 intro e he
 refine Za0 (t := false) he.2.2.2 (fun hf => by cases hf) (fun _ => ?_)
 refine Zbh ?_
 obtain ⟨A, c, hv⟩ := hN.val
 repeat refine Zab ?_
 first|refine Zaa ?_|refine Zac ?_
 refine Zah ?_
 refine Zad ?_
 refine ZhO rfl hv rfl Zjv ?_
 refine Zah ?_
 refine Zag ?_
 refine kp5 0 1 13 14 15 ?_
 clear he e
 intro e he
 refine ZdI ?_
 refine Zf4 (fun μ env υ => ∃ i : Nat, μ = ns.length - i /\ i <= ns.length /\ (env 0 = ptr bb 0 /\ env 1 = fnG g fst caps /\ env 13 = v /\ env 14 = vI ns.length /\ env 15 = vI i) /\ I i υ) ⟨_, 0, rfl, Nat.zero_le _, he, h0⟩ ?_
 clear he e h hN
 rintro _ e υ ⟨i, rfl, hi, he, hI⟩
 repeat refine Zab ?_
 first|refine Zaa ?_|refine Zac ?_
 refine Zqy i ns.length ?_
 refine Zag ?_
 refine kp6 0 1 13 14 15 16 ?_
 clear he e
 intro e he
 refine Za0 (t := decide (i < ns.length)) he.2.2.2.2.2 (fun ht => ?_) (fun ht => ?_)
 ·have hlt : i < ns.length := of_decide_eq_true ht
  obtain ⟨S, fs, pcs, size, mb, pv, h, hN, hnone, hsome⟩ := hstep i hlt υ hI
  refine Zbh ?_
  refine ZdI ?_
  repeat refine Zab ?_
  first|refine Zaa ?_|refine Zac ?_
  refine ZAq hN hlt he.2.2.1 he.2.2.2.2.1 fun u => ?_
  refine Zah ?_
  refine Zag ?_
  refine kp6 0 1 8 13 14 15 ?_
  clear he e
  intro e he
  repeat refine Zab ?_
  first|refine Zaa ?_|refine Zac ?_
  refine Zah ?_
  refine Zad ?_
  refine Zar (v := ptr bb 0) rfl rfl ?_
  refine Zad ?_
  refine Zaf (b := bb) (o := 0) rfl ZbI rfl ?_
  refine Zad ?_
  refine Zau (b := bb) (o := 0 + 1) (r := Zc9 mb) rfl h.obj Zd6 Zd5 rfl ?_
  refine Zah ?_
  refine Zad ?_
  refine Zfs (k := ns[i]) (es := Za3 fs) (b := mb) rfl rfl h.map ZgA ZiK Zjy ?_
  refine Zah ?_
  refine Zag ?_
  refine kp7 0 1 8 9 13 14 15 ?_
  clear he e
  intro e he
  repeat refine Zab ?_
  first|refine Zaa ?_|refine Zac ?_
  refine Zah ?_
  cases hg : ZgL (Za3 fs) ns[i] with
  | none =>
   rw [hg] at he
   refine Zad ?_
   refine Zf7 (p := none) ZgB rfl rfl rfl ?_
   refine Zag ?_
   refine Za0 (t := true) rfl (fun _ => ?_) (fun hf => by cases hf)
   repeat refine Zab ?_
   first|refine Zaa ?_|refine Zac ?_
   refine Zah ?_
   refine Zag ?_
   refine ZgI ?_
   exact ZbX (hnone hg)
  | some fb =>
   rw [hg] at he
   refine Zad ?_
   refine Zf7 (p := some ⟨fb, 0, none⟩) ZgB rfl rfl rfl ?_
   refine Zag ?_
   refine kp8 0 1 8 9 13 14 15 26 ?_
   clear he e
   intro e he
   refine Za0 (t := false) he.2.2.2.2.2.2.2 (fun hf => by cases hf) (fun _ => ?_)
   refine Zbh ?_
   repeat refine Zab ?_
   first|refine Zaa ?_|refine Zac ?_
   refine Zah ?_
   refine Zah ?_
   refine Zah ?_
   refine Zad ?_
   refine ZyJ (g := g) (fst := fst) (caps := caps) (vs := [.raw (sV ns[i]), ptr fb 0]) rfl (by simp only [List.map_cons, List.map_nil, EV,Nat.reduceEqDiff,↓reduceIte,he];try rfl) ?_
   refine (hsome fb hg).mono fun a τ hI2 => ?_
   refine Zag ?_
   show ZaG _ _ _ _ _ _
   refine kp5 0 1 13 14 15 ?_
   clear he e
   intro e he
   refine Zac ?_
   refine ZlE i 1 ?_
   refine Zah ?_
   refine Zag ?_
   show ∃ n', n' < _ /\ _
   exact ⟨_, (by omega : ns.length - (i + 1) < ns.length - i), i + 1, rfl, hlt, ⟨by simp only [EV,Nat.reduceEqDiff,↓reduceIte,he];try rfl, by simp only [EV,Nat.reduceEqDiff,↓reduceIte,he];try rfl, by simp only [EV,Nat.reduceEqDiff,↓reduceIte,he];try rfl, by simp only [EV,Nat.reduceEqDiff,↓reduceIte,he];try rfl, by simp only [EV,Nat.reduceEqDiff,↓reduceIte,he];try rfl⟩, hI2⟩
 ·have hke : i = ns.length := by have := of_decide_eq_false ht; omega
  subst hke
  refine ZhK ?_
  show ZaG _ _ _ _ _ _
  repeat refine Zab ?_
  first|refine Zaa ?_|refine Zac ?_
  refine Zah ?_
  refine Zag ?_
  refine Za5 ?_
  exact ZbX (hend υ hI)
def ZeL (fs : List Fl) : List (List UInt8) -> List (Nat × Nat) -> List (Nat × Nat) × Nat
 | [], pcs => (pcs, 0)
 | n :: ns, pcs => match ZgL (Za3 fs) n with
  | none => (pcs, 6)
  | some fb => ZeL fs ns (pcs.filter fun p => !decide (p.1 = fb))
theorem ZsU {fs : List Fl} {n : List UInt8} {ns : List (List UInt8)} {pcs : List (Nat × Nat)} (h : ZgL (Za3 fs) n = none) : ZeL fs (n :: ns) pcs = (pcs, 6) := by
 unfold ZeL
 rw [h]
theorem Zhj {fs : List Fl} {n : List UInt8} {ns : List (List UInt8)} {pcs : List (Nat × Nat)} {fb : Nat} (h : ZgL (Za3 fs) n = some fb) : ZeL fs (n :: ns) pcs = ZeL fs ns (pcs.filter fun p => !decide (p.1 = fb)) := by
 conv => lhs; unfold ZeL
 rw [h]
theorem ZlL {fs : List Fl} {pcs : List (Nat × Nat)} : ZeL fs [] pcs = (pcs, 0) := rfl
section
variable {σ : St} {bb mb : Nat} {S : Nat -> Prop} {fs : List Fl} {pcs : List (Nat × Nat)} {size : Int} {pv : AV} {K : AV -> St -> Prop}
theorem ZwF {b2 : Nat} {a : AV} (h : DAt σ bb S fs pcs size mb pv) (hl : pcs.length <= 1000000000) (hb : σ.blk b2 = some (.own 28 [ptr bb 0])) {f0 : Fl} (hf0 : f0 ∈ fs) (hK : ∀ τ pv', DAt τ bb S fs (pcs.filter fun p => !decide (p.1 = f0.b)) size mb pv' -> But S σ τ -> K (.tup []) τ) : Zan Tryz.prog 165 [a, ptr f0.b 0, ptr b2 0] σ K := by
 refine Zay ZaF Tryz.func165 rfl rfl rfl (Nat.le_of_ble_eq_true rfl) ?_
 refine Zhx 1 2 (v0 := ptr f0.b 0) (v1 := ptr b2 0) rfl rfl ?_
 intro e he
 repeat refine Zab ?_
 first|refine Zaa ?_|refine Zac ?_
 refine Zad ?_
 refine Zau (b := b2) (o := 0) (r := ptr bb 0) he.2 hb Zgj Zgk rfl ?_
 refine Zad ?_
 refine Zar (v := ptr bb 0) rfl rfl ?_
 refine Zad ?_
 refine Zaf (b := bb) (o := 0) rfl ZbI rfl ?_
 refine Zah ?_
 refine ZaN [ptr bb 0, ptr f0.b 0] ?_
 refine ZuN h hl hf0 fun τ pv' h1 h2 => ?_
 refine Zag ?_
 exact ⟨_, Zf6 rfl, hK τ pv' h1 h2⟩
theorem ZyQ (h : DAt σ bb S fs pcs size mb pv) (hS : ∀ c, S c -> σ.used c) (hl : pcs.length <= 1000000000) {v : AV} {ns : List (List UInt8)} (hN : ZiN σ v ns) (hNS : ∀ c, hbk v = some c -> ¬ S c) (hnl : ns.length <= 1000000000)
 (hK : ∀ τ pv', DAt τ bb S fs (ZeL fs ns pcs).1 size mb pv' -> But S σ τ -> K (vI (ZeL fs ns pcs).2) τ) : Zan Tryz.prog 108 [ptr bb 0, v] σ K := by
 refine Zay ZaF Tryz.func108 rfl rfl rfl (Nat.le_of_ble_eq_true rfl) ?_
 refine Zhx 0 1 (v0 := ptr bb 0) (v1 := v) rfl rfl ?_
 intro e he
 repeat refine Zab ?_
 first|refine Zaa ?_|refine Zac ?_
 refine Zad ?_
 refine Zh3 (cs := [ptr bb 0]) (v := ptr bb 0) he.1 rfl fun b2 σ2 hn2 hu2 hb2 hub2 hX2 => ?_
 refine Zah ?_
 refine Zag ?_
 refine kp2 1 2 ?_
 clear he e
 intro e he
 have h2 := h.ext hX2
 have hbS : ¬ S b2 := fun hs => hu2 (hS _ hs)
 repeat refine Zab ?_
 first|refine Zaa ?_|refine Zac ?_
 refine Zad ?_
 refine Zau (b := b2) (o := 0) (r := ptr bb 0) he.2 hb2 Zgj Zgk rfl ?_
 refine Zad ?_
 refine Zgf (vs := [ptr b2 0]) (by simp only [List.map_cons, List.map_nil, EV,Nat.reduceEqDiff,↓reduceIte,he];try rfl) ?_
 refine Zah ?_
 refine ZaN [ptr bb 0, fnV 165 #[.pointer (some ⟨b2, 0, none⟩)], v] ?_
 have hfin : ∀ (a : Nat) (τ : St), (∃ pv', DAt τ bb S fs (ZeL fs ns pcs).1 size mb pv') -> But S σ τ -> a = (ZeL fs ns pcs).2 -> K (vI a) τ := fun a τ ⟨pv', q1⟩ q2 q3 => by
  rw [q3]; exact hK τ pv' q1 q2
 refine ZqE (fun i υ => ∃ pcs' pv', DAt υ bb S fs pcs' size mb pv' /\ pcs'.length <= 1000000000 /\ ZeL fs (ns.drop i) pcs' = ZeL fs ns pcs /\ But S σ υ /\ υ.blk b2 = some (.own 28 [ptr bb 0]) /\ ZiN υ v ns) h2 (hN.but (S := S) hX2.but hNS) hnl ⟨pcs, pv, h2, hl, rfl, hX2.but, hb2, hN.but (S := S) hX2.but hNS⟩ (fun i hi υ => ?_) (fun υ => ?_)
 ·rintro ⟨pcs', pv', g1, g2, g3, g4, g5, g6⟩
  rw [List.drop_eq_getElem_cons hi] at g3
  refine ⟨S, fs, pcs', size, mb, pv', g1, g6, fun hg => ?_, fun fb hg => ?_⟩
  ·rw [ZsU hg] at g3
   refine Zah ?_
   refine Zag ?_
   refine Za5 ?_
   refine ⟨_, Zf5 rfl rfl, hfin 6 υ ⟨pv', ?_⟩ g4 ?_⟩
   ·rw [<- g3]; exact g1
   ·rw [<- g3]
  ·rw [Zhj hg] at g3
   obtain ⟨f0, hf0, hnm, rfl⟩ := ZdO hg
   refine ZwF (b2 := b2) g1 g2 g5 hf0 fun τ pv2 k1 k2 => ⟨_, pv2, k1, Nat.le_trans (List.length_filter_le _ _) g2, g3, g4.trans k2, k2.keep _ _ hbS g5, g6.but k2 hNS⟩
 ·rintro ⟨pcs', pv', g1, g2, g3, g4, g5, g6⟩
  rw [List.drop_eq_nil_of_le (Nat.le_refl _)] at g3
  rw [ZlL] at g3
  refine Zah ?_
  refine Zag ?_
  refine Za5 ?_
  refine ⟨_, Zf5 rfl rfl, hfin 0 υ ⟨pv', ?_⟩ g4 ?_⟩
  ·rw [<- g3]; exact g1
  ·rw [<- g3]
theorem ZyR (h : DAt σ bb S fs pcs size mb pv) {k : List UInt8} (hfl : ∀ f ∈ fs, f.d.length <= 1000000000)
 (hK1 : (∀ f ∈ fs, f.nm ≠ k) -> K (.tup [.lst none 0 0 [], vT false]) σ)
 (hK2 : ∀ f0 ∈ fs, f0.nm = k -> ∀ τ v, Hd τ 5 1 v f0.d.length (bys f0.d) -> Ext σ τ -> (∀ c, hbk v = some c -> Zei σ c) -> K (.tup [v, vT true]) τ) : Zan Tryz.prog 32 [ptr bb 0, .raw (sV k)] σ K := by
 refine Zay ZaF Tryz.func32 rfl rfl rfl (Nat.le_of_ble_eq_true rfl) ?_
 refine Zhx 0 1 (v0 := ptr bb 0) (v1 := .raw (sV k)) rfl rfl ?_
 intro e he
 repeat refine Zab ?_
 first|refine Zaa ?_|refine Zac ?_
 refine Zah ?_
 refine Zah ?_
 refine Zag ?_
 refine kp4 0 1 4 5 ?_
 clear he e
 intro e he
 repeat refine Zab ?_
 first|refine Zaa ?_|refine Zac ?_
 refine Zah ?_
 refine ZaN [ptr bb 0] ?_
 refine Zgh h ?_
 refine ZiJ ?_
 refine Zah ?_
 refine Zcp ?_
 refine ZkQ rfl he.1 ?_
 refine Zcp ?_
 refine Zar (v := ptr bb 0) rfl rfl ?_
 refine Zcp ?_
 refine Zaf (b := bb) (o := 0) rfl ZbI rfl ?_
 refine Zcp ?_
 refine Zau (b := bb) (o := 0 + 1) (r := Zc9 mb) rfl h.obj Zd6 Zd5 rfl ?_
 refine Zcp ?_
 refine ZkQ rfl he.2.1 ?_
 refine Zcp ?_
 refine Zfs (k := k) (es := Za3 fs) (b := mb) rfl rfl h.map ZgA ZiK Zjy ?_
 cases hg : ZgL (Za3 fs) k with
 | none =>
  refine Zcp ?_
  refine Zf7 (p := none) ZgB rfl rfl rfl ?_
  refine Zad ?_
  refine Zb8 (v := vT true) rfl rfl ?_
  refine Zag ?_
  refine kp3 0 1 17 ?_
  clear he e
  intro e he
  refine Za0 (t := true) he.2.2 (fun _ => ?_) (fun hf => by cases hf)
  repeat refine Zab ?_
  first|refine Zaa ?_|refine Zac ?_
  refine Zah ?_
  refine Zah ?_
  refine Zag ?_
  refine ZgI ?_
  show ∃ r, Za1 _ _ _ _ r /\ _
  exact Zni rfl (Zdo rfl) (Zdo rfl) (hK1 (Zcv.1 hg))
 | some fb =>
  obtain ⟨f0, hf0, hnm, rfl⟩ := ZdO hg
  obtain ⟨p1, p2, p3⟩ := h.file f0 hf0
  refine Zcp ?_
  refine Zf7 (p := some ⟨f0.b, 0, none⟩) ZgB rfl rfl rfl ?_
  refine Zad ?_
  refine Zb8 (v := vT false) rfl rfl ?_
  refine Zag ?_
  refine kp3 0 1 17 ?_
  clear he e
  intro e he
  refine Za0 (t := false) he.2.2 (fun hf => by cases hf) (fun _ => ?_)
  refine Zbh ?_
  repeat refine Zab ?_
  first|refine Zaa ?_|refine Zac ?_
  refine Zah ?_
  refine Zad ?_
  refine Zar (v := ptr bb 0) rfl rfl ?_
  refine Zad ?_
  refine Zaf (b := bb) (o := 0) rfl ZbI rfl ?_
  refine Zad ?_
  refine Zau (b := bb) (o := 0 + 1) (r := Zc9 mb) rfl h.obj Zd6 Zd5 rfl ?_
  refine Zah ?_
  refine Zad ?_
  refine Zfs (k := k) (es := Za3 fs) (b := mb) rfl rfl h.map ZgA ZiK Zjy ?_
  rw [hg]
  refine Zad ?_
  refine Zar (v := ptr f0.b 0) rfl rfl ?_
  refine Zad ?_
  refine Zaf (b := f0.b) (o := 0) rfl Zju rfl ?_
  refine Zad ?_
  refine Zau (b := f0.b) (o := 0 + 0) (r := f0.v) rfl p1 Zjw Zg1 rfl ?_
  refine ZaN [f0.v] ?_
  refine ZuI p3 (hfl f0 hf0) _ fun v τ q1 q2 q3 => ?_
  refine Zah ?_
  refine Zah ?_
  refine Zag ?_
  refine Za5 ?_
  show ∃ r, Za1 _ _ _ _ r /\ _
  exact Zni rfl (Zdo rfl) (Zdo rfl) (hK2 f0 hf0 hnm τ v q1 q2 q3)
theorem ZwG (h : DAt σ bb S fs pcs size mb pv) (hs : ZcB pcs <= 1000000000) (hl : pcs.length <= 1000000000) (hK : ∀ τ, Ext σ τ -> K (vI (ZcB pcs)) τ) : Zan Tryz.prog 30 [ptr bb 0] σ K := by
 refine Zay ZaF Tryz.func30 rfl rfl rfl (Nat.le_of_ble_eq_true rfl) ?_
 refine Zla 0 (v0 := ptr bb 0) rfl ?_
 intro e he
 repeat refine Zab ?_
 first|refine Zaa ?_|refine Zac ?_
 refine Zah ?_
 refine Zag ?_
 refine kp1 0 ?_
 clear he e
 intro e he
 repeat refine Zab ?_
 first|refine Zaa ?_|refine Zac ?_
 refine Zah ?_
 refine ZaN [ptr bb 0] ?_
 refine Zgh h ?_
 refine ZiJ ?_
 refine Zag ?_
 refine kp2 0 5 ?_
 clear he e
 intro e he
 refine Za0 (t := false) he.2 (fun hf => by cases hf) (fun _ => ?_)
 refine Zbh ?_
 repeat refine Zab ?_
 first|refine Zaa ?_|refine Zac ?_
 refine Zah ?_
 refine Zad ?_
 refine Zar (v := ptr bb 0) rfl rfl ?_
 refine Zad ?_
 refine Zaf (b := bb) (o := 0) rfl ZbI rfl ?_
 refine ZaN [ptr bb 0] ?_
 refine Zo5 h hs hl fun τ hX => ?_
 refine Zah ?_
 refine Zag ?_
 refine Za5 ?_
 exact ZbX (hK τ hX)
end
end Go.Proofs.YteempnebenjkmaaGreatDoor
namespace Go.Proofs.YteempnebenjkmaaGreatDoor
open Go.RowKit
set_option maxRecDepth 100000
set_option linter.unusedVariables false
set_option linter.unusedSimpArgs false
abbrev FD := List (List UInt8 × Nat × List UInt8)
def dat (fs : List Fl) : FD := fs.map fun f => (f.nm, f.b, f.d)
def ZwH (b m : Nat) (l : FD) : FD := l.map fun f => if f.2.1 = b then (f.1, f.2.1, f.2.2.take (f.2.2.length - m)) else f
theorem ZuO (b : Nat) (l : FD) : ZwH b 0 l = l := by
 unfold ZwH
 conv => rhs; rw [<- List.map_id l]
 refine List.map_congr_left fun f _ => ?_
 rw [Nat.sub_zero, List.take_length]
 split <;> rfl
def Zfv : Nat -> FD -> List (Nat × Nat) -> FD
 | _, l, [] => l
 | lost, l, p :: ps => Zfv (lost - min lost p.2) (ZwH p.1 (min lost p.2) l) ps
theorem ZeD : ∀ (ps : List (Nat × Nat)) (l : FD), Zfv 0 l ps = l
 | [], l => rfl
 | p :: ps, l => by
  unfold Zfv
  rw [Nat.zero_min, ZuO, Nat.sub_zero]
  exact ZeD ps l
def ZcP (b : Nat) (pcs : List (Nat × Nat)) : Nat := ZcB (pcs.filter fun p => decide (p.1 = b))
theorem Zfw (b : Nat) (l m : List (Nat × Nat)) : ZcP b (l ++ m) = ZcP b l + ZcP b m := by simp [ZcP, ZcB]
theorem Zgl (l m : List (Nat × Nat)) : ZcB (l ++ m) = ZcB l + ZcB m := by simp [ZcB]
theorem Zfx (b : Nat) (p : Nat × Nat) : ZcP b [p] = if p.1 = b then p.2 else 0 := by
 unfold ZcP ZcB
 by_cases h : p.1 = b <;> simp [h]
theorem ZrP (p : Nat × Nat) : ZcB [p] = p.2 := by simp [ZcB]
theorem ZrQ : ZcB [] = 0 := rfl
theorem ZiO (b : Nat) : ZcP b [] = 0 := rfl
theorem ZnK {p : Nat × Nat} : ∀ {l : List (Nat × Nat)}, p ∈ l -> p.2 <= ZcB l
 | q :: l, h => by
  have : ZcB (q :: l) = q.2 + ZcB l := by simp [ZcB]
  rcases List.mem_cons.1 h with rfl | h
  ·omega
  ·have := ZnK h; omega
structure Wf (fs : List Fl) (pcs : List (Nat × Nat)) : Prop where
 pos : ∀ p ∈ pcs, 0 < p.2
 fit : ∀ f ∈ fs, ZcP f.b pcs <= f.d.length
theorem ZuP {fs : List Fl} {f0 : Fl} {v : AV} {m : Nat} (h : ∀ f ∈ fs, f.b = f0.b -> f.d = f0.d) : dat (fs.map (Zco f0.b v (f0.d.take (f0.d.length - m)))) = ZwH f0.b m (dat fs) := by
 unfold dat ZwH
 rw [List.map_map, List.map_map]
 refine List.map_congr_left fun f hf => ?_
 simp only [Function.comp]
 unfold Zco
 by_cases hb : f.b = f0.b
 ·rw [if_pos hb, if_pos hb, h f hf hb]
 ·rw [if_neg hb, if_neg hb]
theorem ZwI {fb n : Nat} {init : List (Nat × Nat)} {p : Nat × Nat} (hp : p.1 = fb) (hn : n <= p.2) : shr fb n (init ++ [p]) = init ++ [(p.1, p.2 - n)] := by
 unfold shr
 rw [List.reverse_append]
 show (ZpV fb n (p :: init.reverse)).reverse = _
 unfold ZpV
 rw [if_pos hp, Nat.min_eq_left hn, Nat.sub_self, ZlJ, List.reverse_cons, List.reverse_reverse]
theorem ZuQ {init : List (Nat × Nat)} {b k : Nat} (h : ∀ p ∈ init, 0 < p.2) : (init ++ [(b, k)]).filter (fun p => !decide (p.2 = 0)) = init ++ (if k = 0 then [] else [(b, k)]) := by
 rw [List.filter_append, List.filter_eq_self.2 fun p hp => by have := h p hp; simp; omega]
 by_cases hk : k = 0 <;> simp [hk]
section
variable {σ : St} {bb mb : Nat} {S : Nat -> Prop} {fs : List Fl} {pcs : List (Nat × Nat)} {size : Int} {pv : AV} {K : AV -> St -> Prop}
set_option maxHeartbeats 2000000 in
theorem ZrR (h : DAt σ bb S fs pcs size mb pv) (hl : pcs.length <= 1000000000) (hwf : Wf fs pcs) (hs : ZcB pcs <= 1000000000) (hfl : ∀ f ∈ fs, f.d.length <= 1000000000) {keep : Int} (hk : -9223372036854775808 <= keep /\ keep <= 9223372036854775807)
 (hK : ∀ τ fs', DAt τ bb S fs' [] size mb (.lst none 0 0 []) -> dat fs' = Zfv ((ZcB pcs : Int) - max keep 0).toNat (dat fs) pcs.reverse -> But S σ τ -> K (.tup []) τ) : Zan Tryz.prog 31 [ptr bb 0, .raw (.int .i64 keep)] σ K := by
 refine Zay ZaF Tryz.func31 rfl rfl rfl (Nat.le_of_ble_eq_true rfl) ?_
 refine Zhx 0 1 (v0 := ptr bb 0) (v1 := .raw (.int .i64 keep)) rfl rfl ?_
 intro e he
 repeat refine Zab ?_
 first|refine Zaa ?_|refine Zac ?_
 refine Zah ?_
 refine ZaN [ptr bb 0] ?_
 refine Zgh h ?_
 refine ZiJ ?_
 refine Zag ?_
 refine kp3 0 1 9 ?_
 clear he e
 intro e he
 refine Za0 (t := false) he.2.2 (fun hf => by cases hf) (fun _ => ?_)
 refine Zbh ?_
 refine ZgZ (fun env υ => env 0 = ptr bb 0 /\ ∃ fs' pcs' pv', DAt υ bb S fs' pcs' size mb pv' /\ dat fs' = Zfv ((ZcB pcs : Int) - max keep 0).toNat (dat fs) pcs.reverse /\ But S σ υ) ?_ ?_
 ·repeat refine Zab ?_
  first|refine Zaa ?_|refine Zac ?_
  refine Zah ?_
  refine Zad ?_
  refine Zar (v := ptr bb 0) rfl rfl ?_
  refine Zad ?_
  refine Zaf (b := bb) (o := 0) rfl ZbI rfl ?_
  refine ZaN [ptr bb 0] ?_
  refine Zo5 h hs hl fun σ1 hX1 => ?_
  refine Zah ?_
  refine Zad ?_
  refine ZzJ (k := .i64) (k' := .i64) (a := keep) (b := 0) rfl rfl ?_
  rw [show (if keep < 0 then (0 : Int) else keep) = max keep 0 by split <;> omega]
  refine Zad ?_
  refine ZzH (k := .i64) (a := (ZcB pcs : Int)) (b := max keep 0) rfl rfl (IntWalk.i64_in _ (by omega)) ?_
  refine Zah ?_
  refine Zag ?_
  have h1 := h.ext hX1
  refine kp2 0 4 ?_
  clear he e
  intro e he
  refine ZeS ?_
  refine Zf4 (fun μ env υ => ∃ (x : Int) (fs' : List Fl) (pcs' : List (Nat × Nat)) (pv' : AV), μ = x.toNat /\ (env 0 = ptr bb 0 /\ env 4 = .raw (.int .i64 x)) /\ x <= (ZcB pcs' : Int) /\ x <= 1000000000 /\ DAt υ bb S fs' pcs' size mb pv' /\ Wf fs' pcs' /\ pcs'.length <= 1000000000 /\ ZcB pcs' <= 1000000000 /\ (∀ f ∈ fs', f.d.length <= 1000000000) /\ Zfv x.toNat (dat fs') pcs'.reverse = Zfv ((ZcB pcs : Int) - max keep 0).toNat (dat fs) pcs.reverse /\ But S σ υ) ⟨_, _, fs, pcs, pv, rfl, he, by omega, by omega, h1, hwf, hl, hs, hfl, rfl, hX1.but⟩ ?_
  clear he e h h1 hwf hfl
  rintro _ e υ ⟨x, fs', pcs', pv', rfl, he, hx, hx2, h, hwf, hl', hs', hfl, hcr, hB⟩
  repeat refine Zab ?_
  first|refine Zaa ?_|refine Zac ?_
  refine Zah ?_
  refine Zad ?_
  refine Zp5 (k := .i64) (a := x) (b := 0) rfl rfl ?_
  refine Zag ?_
  refine kp3 0 4 18 ?_
  clear he e
  intro e he
  refine Za0 (t := decide (0 < x)) (by simp only [EV,Nat.reduceEqDiff,↓reduceIte,he];try rfl) (fun ht => ?_) (fun ht => ?_)
  ·have hx0 : 0 < x := of_decide_eq_true ht
   obtain ⟨m, rfl⟩ : ∃ m : Nat, x = m := ⟨x.toNat, by omega⟩
   rw [Int.toNat_natCast] at hcr
   obtain ⟨init, p, rfl⟩ : ∃ init p, pcs' = init ++ [p] := by
    rcases List.eq_nil_or_concat pcs' with rfl | ⟨init, p, rfl⟩
    ·simp [ZcB] at hx; omega
    ·exact ⟨init, p, List.concat_eq_append⟩
   rw [List.length_append] at hl'
   have hll : (init ++ [p]).length = init.length + 1 := by simp
   have hp0 := hwf.pos p (by simp)
   have hpi : ∀ q ∈ init, 0 < q.2 := fun q hq => hwf.pos q (List.mem_append_left _ hq)
   have hps : p.2 <= 1000000000 := by
    rw [Zgl] at hs'
    have : ZcB [p] = p.2 := by simp [ZcB]
    omega
   have hget : (init ++ [p])[init.length]'(by simp) = p := by simp
   obtain ⟨f0, hf0, hfb⟩ := h.inn p (by simp)
   refine Zbh ?_
   refine ZeS ?_
   refine Zji ?_
   refine ⟨[0, 1, 2, 3, 5, 6, 7, 8, 4, 9, 10, 11, 12, 13, 14, 15], [[], [0], [0, 1], [0, 1, 2], [0, 1, 2, 3], [], [5], [5, 6], [5, 6, 7], [5, 6, 7, 8], [5, 6, 7, 8, 9], [5, 6, 7, 8, 9, 10], [0, 1, 2, 3, 4, 5, 6, 7, 8, 9, 10, 11], [0, 1, 2, 3, 4, 5, 6, 7, 8, 9, 10, 11, 12], [], [0, 1, 2, 3, 4, 5, 6, 7, 8, 9, 10, 11, 12, 13, 14]], fun _ => True, [], [], [], by kernel_rfl, ?_⟩
   refine Zej ?_
   refine Zcc ?_
   refine Zar (v := ptr bb 0) (by simp only [EV,Nat.reduceEqDiff,↓reduceIte,he];try rfl) rfl ?_
   refine ZcA ?_
   refine Zcc ?_
   refine Zaf (b := bb) (o := 0) (by simp only [EV,Nat.reduceEqDiff,↓reduceIte,he];try rfl) ZbI rfl ?_
   refine ZcA ?_
   refine Zcc ?_
   refine Zaf (b := bb) (o := 0 + 0) (by simp only [EV,Nat.reduceEqDiff,↓reduceIte,he];try rfl) Zdr rfl ?_
   refine ZcA ?_
   refine Zej ?_
   refine Zcc ?_
   refine Zar (v := ptr bb 0) (by simp only [EV,Nat.reduceEqDiff,↓reduceIte,he];try rfl) rfl ?_
   refine ZcA ?_
   refine Zcc ?_
   refine Zaf (b := bb) (o := 0) (by simp only [EV,Nat.reduceEqDiff,↓reduceIte,he];try rfl) ZbI rfl ?_
   refine ZcA ?_
   refine Zcc ?_
   refine Zaf (b := bb) (o := 0 + 0) (by simp only [EV,Nat.reduceEqDiff,↓reduceIte,he];try rfl) Zdr rfl ?_
   refine ZcA ?_
   refine Zcc ?_
   refine Zau (b := bb) (o := 0 + 0 + 0) (r := pv') (by simp only [EV,Nat.reduceEqDiff,↓reduceIte,he];try rfl) h.obj Ze8 Zds rfl ?_
   refine ZcA ?_
   refine Zcc ?_
   refine Zau (b := bb) (o := 0 + 0 + 0) (r := pv') (by simp only [EV,Nat.reduceEqDiff,↓reduceIte,he];try rfl) h.obj Ze8 Zds rfl ?_
   refine ZcA ?_
   refine Zcc ?_
   refine ZhP (by simp only [EV,Nat.reduceEqDiff,↓reduceIte,he];try rfl) h.pc rfl Zcb ?_
   refine ZcA ?_
   refine Zcc ?_
   refine ZlK ((init ++ [p]).length : Int) 1 (by simp only [EV,Nat.reduceEqDiff,↓reduceIte,he];try rfl) (by simp only [EV,Nat.reduceEqDiff,↓reduceIte,he];try rfl) (by omega) (by omega) ?_
   refine ZcA ?_
   rw [show (((init ++ [p]).length : Int) - 1) = (init.length : Int) by rw [hll]; omega]
   refine Zcc ?_
   refine Zdq (k := .i64) (j := init.length) (by simp only [EV,Nat.reduceEqDiff,↓reduceIte,he];try rfl) (by simp only [EV,Nat.reduceEqDiff,↓reduceIte,he];try rfl) Zcb ZbB h.pc (by omega) fun b hb => ?_
   refine ZcA ?_
   refine Zcc ?_
   refine Zwk (by simp only [EV,Nat.reduceEqDiff,↓reduceIte,he];try rfl) h.pc hb (by omega) Zjx ZbB ?_
   rw [ZqC (by omega), hget]
   refine ZcA ?_
   refine Zcc ?_
   refine Zdn Zic rfl fun b5 υ5 hn5 hu5 hb5 hub5 hX5 => ?_
   refine ⟨(fun hf => by cases hf), ?_⟩
   refine Zcc ?_
   refine Zcs (b := b5) (o := 0) (u := pcV p) (cs' := [ptr p.1 0, .raw (.int .i64 (p.2 : Int))]) (by simp only [EV,Nat.reduceEqDiff,↓reduceIte,he];try rfl) (by simp only [EV,Nat.reduceEqDiff,↓reduceIte,he];try rfl) hb5 ZbB rfl rfl fun υ6 hb6 k6 => ?_
   refine ⟨(fun hf => by cases hf), ?_⟩
   refine ZnA ?_
   have hX6 : Ext υ υ6 := But.ext hX5 (fun g hg => by rw [hg]; exact hn5) k6
   have h6 := h.ext hX6
   refine kp3 0 4 5 ?_
   clear he e
   intro e he
   repeat refine Zab ?_
   first|refine Zaa ?_|refine Zac ?_
   refine Zah ?_
   refine Zad ?_
   refine Zaf (b := b5) (o := 0) he.2.2 Zge rfl ?_
   refine Zad ?_
   refine Zau (b := b5) (o := 0 + 1) (r := .raw (.int .i64 (p.2 : Int))) rfl hb6 ZoZ Zm2 rfl ?_
   refine Zad ?_
   refine ZxJ m p.2 rfl rfl ?_
   refine Zah ?_
   refine Zag ?_
   refine kp4 0 4 5 6 ?_
   clear he e
   intro e he
   refine Zji ?_
   refine ⟨[0, 1, 2, 3, 5, 4, 6], [[], [0], [0, 1], [], [3], [], [0, 1, 2, 3, 4, 5]], fun _ => True, [], [], [], by kernel_rfl, ?_⟩
   refine Zej ?_
   refine Zcc ?_
   refine Zar (v := ptr bb 0) rfl rfl ?_
   refine ZcA ?_
   refine Zcc ?_
   refine Zaf (b := bb) (o := 0) rfl ZbI rfl ?_
   refine ZcA ?_
   refine Zcc ?_
   refine Zaf (b := b5) (o := 0) he.2.2.1 Zge rfl ?_
   refine ZcA ?_
   refine Zej ?_
   refine Zcc ?_
   refine Zau (b := b5) (o := 0 + 0) (r := ptr f0.b 0) rfl (hfb ▸ hb6) ZnE ZnD rfl ?_
   refine ZcA ?_
   have hsum0 : ZcP f0.b (init ++ [p]) = ZcP f0.b init + p.2 := by rw [Zfw, Zfx, if_pos hfb.symm]
   have hfit := hwf.fit f0 hf0
   have hmin : min m p.2 <= p.2 := Nat.min_le_right _ _
   refine Zcc ?_
   refine ZeR (vs := [ptr bb 0, ptr f0.b 0, vI (min m p.2 : Nat)]) (by simp only [List.map_cons, List.map_nil, EV,Nat.reduceEqDiff,↓reduceIte,he];try rfl) ?_
   refine ZsS h6 (by rw [hll]; simp at hl'; omega) (fun q hq => ?_) hf0 (m := min m p.2) (by omega) (hfl f0 hf0) fun τ v2 pv2 d1 d2 => ?_
   ·rcases List.mem_append.1 hq with hq | hq
    ·have := ZnK hq
     rw [Zgl] at hs'
     omega
    ·rw [List.mem_singleton.1 hq]; exact hps
   rw [ZwI hfb.symm hmin, ZuQ hpi] at d1
   refine ⟨(fun hf => by cases hf), ?_⟩
   refine ZnA ?_
   refine kp4 0 4 5 6 ?_
   clear he e
   intro e he
   refine Zac ?_
   refine Zah ?_
   refine Zah ?_
   refine Zad ?_
   refine ZlK (m : Int) ((min m p.2 : Nat) : Int) rfl rfl (by omega) (by omega) ?_
   refine Zah ?_
   refine Zag ?_
   have hm1 : ((m : Int) - ((min m p.2 : Nat) : Int)) = ((m - min m p.2 : Nat) : Int) := by omega
   have hsp : ZcB (init ++ [p]) = ZcB init + p.2 := by rw [Zgl]; simp [ZcB]
   have hdat : dat (fs'.map (Zco f0.b v2 (f0.d.take (f0.d.length - min m p.2)))) = ZwH f0.b (min m p.2) (dat fs') := ZuP fun f hf hfb' => by rw [h.uniq hf hf0 hfb']
   have hcr2 : Zfv (m - min m p.2) (ZwH f0.b (min m p.2) (dat fs')) (init ++ if p.2 - min m p.2 = 0 then [] else [(p.1, p.2 - min m p.2)]).reverse = Zfv m (dat fs') (init ++ [p]).reverse := by
    have e4 : (init ++ [p]).reverse = p :: init.reverse := by simp
    rw [e4]
    show _ = Zfv (m - min m p.2) (ZwH p.1 (min m p.2) (dat fs')) init.reverse
    by_cases hz : p.2 - min m p.2 = 0
    ·rw [if_pos hz, List.append_nil, hfb]
    ·rw [if_neg hz, List.reverse_append]
     have : m - min m p.2 = 0 := by omega
     rw [this, ZeD, ZeD, hfb]
   rw [hm1]
   show ∃ n', n' < _ /\ _
   refine ⟨_, ?_, ((m - min m p.2 : Nat) : Int), _, _, pv2, rfl, ⟨by simp only [EV,Nat.reduceEqDiff,↓reduceIte,he];try rfl, by simp only [EV,Nat.reduceEqDiff,↓reduceIte,he];try rfl⟩, ?_, by omega, d1, ⟨fun q hq => ?_, fun f hf => ?_⟩, ?_, ?_, fun f hf => ?_, ?_, hB.trans (hX6.but.trans d2)⟩
   ·simp only [Int.toNat_natCast]
    omega
   ·rw [Zgl]
    rw [hsp] at hx
    by_cases hz : p.2 - min m p.2 = 0
    ·rw [if_pos hz]; simp [ZcB] at hx ⊢; omega
    ·omega
   ·rcases List.mem_append.1 hq with hq | hq
    ·exact hpi q hq
    ·split at hq
     ·cases hq
     ·rw [List.mem_singleton.1 hq]
      show 0 < p.2 - min m p.2
      omega
   ·obtain ⟨g, hg, rfl⟩ := List.mem_map.1 hf
    rw [Zd7, Zfw]
    have hgf := hwf.fit g hg
    rw [Zfw, Zfx] at hgf
    by_cases hgb : g.b = f0.b
    ·unfold Zco
     rw [if_pos hgb]
     show _ <= (f0.d.take _).length
     rw [List.length_take]
     have : g = f0 := h.uniq hg hf0 hgb
     subst this
     rw [if_pos hfb.symm] at hgf
     split
     ·rw [ZiO]; omega
     ·rw [Zfx, if_pos hfb.symm]; dsimp only; omega
    ·unfold Zco
     rw [if_neg hgb]
     rw [if_neg (fun e => hgb (by rw [<- e, hfb]))] at hgf
     split
     ·rw [ZiO]; omega
     ·rw [Zfx, if_neg (fun e => hgb (by rw [<- e, hfb]))]; exact hgf
   ·rw [List.length_append]
    simp at hl'
    split <;> simp <;> omega
   ·rw [Zgl]
    split
    ·rw [ZrQ]; omega
    ·rw [ZrP]; dsimp only; omega
   ·obtain ⟨g, hg, rfl⟩ := List.mem_map.1 hf
    have := hfl g hg
    unfold Zco
    split
    ·show (f0.d.take _).length <= _
     rw [List.length_take]
     have := hfl f0 hf0
     omega
    ·exact this
   ·rw [hdat, Int.toNat_natCast, <- hcr, <- hcr2]
  ·have hx0 : ¬ 0 < x := of_decide_eq_false ht
   refine ZhK ?_
   refine ⟨rfl, by simp only [EV,Nat.reduceEqDiff,↓reduceIte,he];try rfl, fs', pcs', pv', h, ?_, hB⟩
   rw [<- hcr, show x.toNat = 0 by omega, ZeD]
 clear he e h hwf hfl
 rintro e υ ⟨he, fs', pcs', pv', h, hdat, hB⟩
 refine Zac ?_
 refine Zah ?_
 refine Zad ?_
 refine Zar (v := ptr bb 0) rfl rfl ?_
 refine Zad ?_
 refine Zaf (b := bb) (o := 0) rfl ZbI rfl ?_
 refine Zad ?_
 refine Zaf (b := bb) (o := 0 + 0) rfl Zdr rfl ?_
 refine Zad ?_
 refine Zgi (b := bb) (o := 0 + 0 + 0) (v := .lst none 0 0 []) rfl rfl h.obj Zds ⟨rfl, rfl, rfl⟩ (Nat.zero_lt_succ _) fun τ hb k => ?_
 refine Zag ?_
 refine ⟨_, Zf6 rfl, hK τ fs' ((h.setP (pcs' := []) (k.sub fun c hc => .inl hc) hb ⟨by simp [pcC], by simp [pcC], .inl ⟨.inl rfl, rfl⟩⟩ fun p hp => by cases hp).mono fun c hc => ?_) hdat (hB.trans (k.sub fun c hc => by rw [hc]; exact h.own.1))⟩
 rcases hc with hc | hc
 ·exact hc
 ·cases hc
end
end Go.Proofs.YteempnebenjkmaaGreatDoor
