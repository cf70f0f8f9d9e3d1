/- XJp, XJv, XEa, XEb, XJq, XJu in one. -/
import Derived.Test.YtiienjjhlibopaaGreatDoorFacts
import Derived.Test.YtiienjjhlibopaaGreatDoorMag
import Derived.Test.YtiienjjhlibopaaGreatDoorMab
import Derived.Test.YtiienjjhlibopaaGreatDoorMac
import Derived.Test.YtiienjjhlibopaaGreatDoorMae
namespace Go.Proofs.YtiienjjhlibopaaGreatDoor
open Go.RowKit
set_option maxRecDepth 100000
set_option linter.unusedVariables false
set_option linter.unusedSimpArgs false
section
variable {σ : St} {K : AV -> St -> Prop}
theorem Zew {c0 c1 c2 c3 : AV} {ls : List (List Int)} (h4 : ls.length = 4) (hv : ZbM σ [c0, c1, c2, c3] ls) (hn : ∀ l ∈ ls, l.length <= 140737488355328) (hK : ∀ τ, Ext σ τ -> K (vT (Zd1 ls)) τ) : Zan Tryz.prog 13 [.agg [c0, c1, c2, c3]] σ K := by
 obtain ⟨l0, l1, l2, l3, rfl⟩ := Zc3 h4
 have hc : ∀ {τ}, Ext σ τ -> ∀ i (h : i < 4), ∃ u, [c0, c1, c2, c3][i]? = some u /\ Ls τ 3 u ([l0, l1, l2, l3][i]'h).length (vIs ([l0, l1, l2, l3][i]'h)) := fun {τ} k i h => hv.ext k i h
 refine Zai Zam Tryz.func13 rfl rfl rfl (Nat.le_of_ble_eq_true rfl) ?_
 refine Zbf 0 (v0 := .agg [c0, c1, c2, c3]) rfl ?_
 intro e he
 repeat refine Zab ?_
 first|refine Zaa ?_|refine Zad ?_
 refine Zac (Zbn (cs := [c0, c1, c2, c3]) (v := .agg [c0, c1, c2, c3]) he rfl fun b υ hbn hbu hb hub hX => ?_)
 refine Zag ?_
 refine Zaf ?_
 have f0 : Ls υ 3 c0 l0.length (vIs l0) := by obtain ⟨u, q1, q2⟩ := hc hX 0 (by omega); cases q1; exact q2
 have f1 : Ls υ 3 c1 l1.length (vIs l1) := by obtain ⟨u, q1, q2⟩ := hc hX 1 (by omega); cases q1; exact q2
 have f2 : Ls υ 3 c2 l2.length (vIs l2) := by obtain ⟨u, q1, q2⟩ := hc hX 2 (by omega); cases q1; exact q2
 have f3 : Ls υ 3 c3 l3.length (vIs l3) := by obtain ⟨u, q1, q2⟩ := hc hX 3 (by omega); cases q1; exact q2
 have hK' : K (vT (ZbK l0 && (ZbK l1 && (ZbK l2 && ZbK l3)))) υ := by
  have := hK υ hX
  unfold Zd1 at this
  simpa [List.all_cons] using this
 refine kp1 1 fun e he => ?_
 repeat refine Zab ?_
 first|refine Zaa ?_|refine Zad ?_
 refine Zac (Zae (b := b) (o := 0) he Zcr rfl ?_)
 refine Zac (Zah (b := b) (o := 0 + 0) (r := c0) rfl hb fa6 Zb4 rfl ?_)
 refine Zao [c0] ?_
 refine ZfA f0 (hn _ (by simp)) ?_
 refine Zag ?_
 cases h1 : ZbK l0 with
 | false =>
  rw [h1] at hK'
  rw [Bool.false_and] at hK'
  refine Zal ?_
  refine Zal ?_
  refine Zal ?_
  refine Zac (Zak (v := vT false) rfl rfl ?_)
  refine Zag ?_
  refine Zal ?_
  refine Zal ?_
  refine Zal ?_
  refine Zac (Zak (v := vT false) rfl rfl ?_)
  refine Zag ?_
  refine Zal ?_
  refine Zal ?_
  refine Zal ?_
  refine Zac (Zak (v := vT false) rfl rfl ?_)
  refine Zag ?_
  refine Zaf (kp1 2 fun e he => ?_)
  refine Zap ?_
  exact ZaD (hK')
 | true =>
  rw [h1, Bool.true_and] at hK'
  refine Zau ?_
  refine Zae (b := b) (o := 0) he Zcr rfl ?_
  refine Zau ?_
  refine Zah (b := b) (o := 0 + 1) (r := c1) rfl hb fa6 Zb4 rfl ?_
  refine Zau ?_
  refine Zay (vs := [c1]) (by simp only [List.map_cons, List.map_nil, EV,Nat.reduceEqDiff,↓reduceIte,he];try rfl) ?_
  refine ZfA f1 (hn _ (by simp)) ?_
  refine Zac (Zaj (v := vT (ZbK l1)) rfl rfl ?_)
  refine Zag ?_
  cases h2 : ZbK l1 with
  | false =>
   rw [h2] at hK'
   rw [Bool.false_and] at hK'
   refine Zal ?_
   refine Zal ?_
   refine Zal ?_
   refine Zac (Zak (v := vT false) rfl rfl ?_)
   refine Zag ?_
   refine Zal ?_
   refine Zal ?_
   refine Zal ?_
   refine Zac (Zak (v := vT false) rfl rfl ?_)
   refine Zag ?_
   refine Zaf (kp1 2 fun e he => ?_)
   refine Zap ?_
   exact ZaD (hK')
  | true =>
   rw [h2, Bool.true_and] at hK'
   refine Zau ?_
   refine Zae (b := b) (o := 0) he Zcr rfl ?_
   refine Zau ?_
   refine Zah (b := b) (o := 0 + 2) (r := c2) rfl hb fa6 Zb4 rfl ?_
   refine Zau ?_
   refine Zay (vs := [c2]) (by simp only [List.map_cons, List.map_nil, EV,Nat.reduceEqDiff,↓reduceIte,he];try rfl) ?_
   refine ZfA f2 (hn _ (by simp)) ?_
   refine Zac (Zaj (v := vT (ZbK l2)) rfl rfl ?_)
   refine Zag ?_
   cases h3 : ZbK l2 with
   | false =>
    rw [h3] at hK'
    rw [Bool.false_and] at hK'
    refine Zal ?_
    refine Zal ?_
    refine Zal ?_
    refine Zac (Zak (v := vT false) rfl rfl ?_)
    refine Zag ?_
    refine Zaf (kp1 2 fun e he => ?_)
    refine Zap ?_
    exact ZaD (hK')
   | true =>
    rw [h3, Bool.true_and] at hK'
    refine Zau ?_
    refine Zae (b := b) (o := 0) he Zcr rfl ?_
    refine Zau ?_
    refine Zah (b := b) (o := 0 + 3) (r := c3) rfl hb fa6 Zb4 rfl ?_
    refine Zau ?_
    refine Zay (vs := [c3]) (by simp only [List.map_cons, List.map_nil, EV,Nat.reduceEqDiff,↓reduceIte,he];try rfl) ?_
    refine ZfA f3 (hn _ (by simp)) ?_
    refine Zac (Zaj (v := vT (ZbK l3)) rfl rfl ?_)
    refine Zag ?_
    refine Zaf (kp1 2 fun e he => ?_)
    refine Zap ?_
    exact ZaD (hK')
theorem ZhT {x t : Int} {c0 c1 c2 c3 : AV} {ls : List (List Int)} (h4 : ls.length = 4) (hv : ZbM σ [c0, c1, c2, c3] ls) (hn : ∀ l ∈ ls, l.length <= 140737488355328) (hK : ∀ τ, Ext σ τ -> K (vT (Zbl x t ls)) τ) : Zan Tryz.prog 16 [.agg [vI x, vI t, c0, c1, c2, c3]] σ K := by
 refine Zai Zam Tryz.func16 rfl rfl rfl (Nat.le_of_ble_eq_true rfl) ?_
 refine Zbf 0 (v0 := .agg [vI x, vI t, c0, c1, c2, c3]) rfl ?_
 intro e he
 repeat refine Zab ?_
 first|refine Zaa ?_|refine Zad ?_
 refine Zac (Zbn (cs := [vI x, vI t, c0, c1, c2, c3]) (v := .agg [vI x, vI t, c0, c1, c2, c3]) he rfl fun b υ hbn hbu hb hub hX => ?_)
 refine Zag ?_
 refine Zaf (kp1 1 fun e he => ?_)
 repeat refine Zab ?_
 first|refine Zaa ?_|refine Zad ?_
 refine Zac (Zae (b := b) (o := 0) he Zdp rfl ?_)
 refine Zac (Zah (b := b) (o := 0 + 0) (r := vI x) rfl hb fa9 ZbG rfl ?_)
 refine Zac (ZeN (k := .i64) (a := x) (b := 0) rfl rfl ?_)
 refine Zag ?_
 by_cases h0 : 0 <= x
 ·rw [decide_eq_true h0]
  refine Zau ?_
  refine Zae (b := b) (o := 0) he Zdp rfl ?_
  refine Zau ?_
  refine Zah (b := b) (o := 0 + 0) (r := vI x) rfl hb fa9 ZbG rfl ?_
  refine Zau ?_
  refine Zh7 (k := .i64) (a := x) (b := 1073741824) rfl rfl ?_
  refine Zac (Zaj (v := vT (decide (x <= 1073741824))) rfl rfl ?_)
  refine Zag ?_
  by_cases h1 : x <= 1073741824
  ·rw [decide_eq_true h1]
   refine Zau ?_
   refine Zae (b := b) (o := 0) he Zdp rfl ?_
   refine Zau ?_
   refine Zah (b := b) (o := 0 + 1) (r := vI t) rfl hb fa9 ZbG rfl ?_
   refine Zau ?_
   refine ZeN (k := .i64) (a := t) (b := 0) rfl rfl ?_
   refine Zac (Zaj (v := vT (decide (0 <= t))) rfl rfl ?_)
   refine Zag ?_
   by_cases h2 : 0 <= t
   ·rw [decide_eq_true h2]
    refine Zau ?_
    refine Zae (b := b) (o := 0) he Zdp rfl ?_
    refine Zau ?_
    refine Zah (b := b) (o := 0 + 1) (r := vI t) rfl hb fa9 ZbG rfl ?_
    refine Zau ?_
    refine Zh7 (k := .i64) (a := t) (b := 1073741824) rfl rfl ?_
    refine Zac (Zaj (v := vT (decide (t <= 1073741824))) rfl rfl ?_)
    refine Zag ?_
    by_cases h3 : t <= 1073741824
    ·rw [decide_eq_true h3]
     refine Zau ?_
     refine Zae (b := b) (o := 0) he Zdp rfl ?_
     refine Zau ?_
     refine Zah (b := b) (o := 0 + 2) (r := .agg [c0, c1, c2, c3]) rfl hb fa7 Zdb rfl ?_
     refine Zau ?_
     refine Zay (vs := [.agg [c0, c1, c2, c3]]) (by simp only [List.map_cons, List.map_nil, EV,Nat.reduceEqDiff,↓reduceIte,he];try rfl) ?_
     refine Zew h4 (hv.ext hX) hn fun τ hX2 => ?_
     refine Zac (Zaj (v := vT (Zd1 ls)) rfl rfl ?_)
     refine Zag ?_
     refine Zaf (kp1 2 fun e he => ?_)
     refine Zap ?_
     have e1 : Zbl x t ls = Zd1 ls := by
      unfold Zbl
      rw [show inB x = true from decide_eq_true ⟨h0, h1⟩, show inB t = true from decide_eq_true ⟨h2, h3⟩]
      rfl
     rw [<- e1] at he
     exact ZaD (hK τ (hX.trans hX2))
    ·rw [decide_eq_false h3]
     refine Zal ?_
     refine Zal ?_
     refine Zal ?_
     refine Zac (Zak (v := vT false) rfl rfl ?_)
     refine Zag ?_
     refine Zaf (kp1 2 fun e he => ?_)
     refine Zap ?_
     have e1 : Zbl x t ls = false := by
      unfold Zbl
      rw [show inB t = false from decide_eq_false fun q => h3 q.2]
      simp
     rw [<- e1] at he
     exact ZaD (hK υ hX)
   ·rw [decide_eq_false h2]
    refine Zal ?_
    refine Zal ?_
    refine Zal ?_
    refine Zac (Zak (v := vT false) rfl rfl ?_)
    refine Zag ?_
    refine Zal ?_
    refine Zal ?_
    refine Zal ?_
    refine Zac (Zak (v := vT false) rfl rfl ?_)
    refine Zag ?_
    refine Zaf (kp1 2 fun e he => ?_)
    refine Zap ?_
    have e1 : Zbl x t ls = false := by
     unfold Zbl
     rw [show inB t = false from decide_eq_false fun q => h2 q.1]
     simp
    rw [<- e1] at he
    exact ZaD (hK υ hX)
  ·rw [decide_eq_false h1]
   refine Zal ?_
   refine Zal ?_
   refine Zal ?_
   refine Zac (Zak (v := vT false) rfl rfl ?_)
   refine Zag ?_
   refine Zal ?_
   refine Zal ?_
   refine Zal ?_
   refine Zac (Zak (v := vT false) rfl rfl ?_)
   refine Zag ?_
   refine Zal ?_
   refine Zal ?_
   refine Zal ?_
   refine Zac (Zak (v := vT false) rfl rfl ?_)
   refine Zag ?_
   refine Zaf (kp1 2 fun e he => ?_)
   refine Zap ?_
   have e1 : Zbl x t ls = false := by
    unfold Zbl
    rw [show inB x = false from decide_eq_false fun q => h1 q.2]
    simp
   rw [<- e1] at he
   exact ZaD (hK υ hX)
 ·rw [decide_eq_false h0]
  refine Zal ?_
  refine Zal ?_
  refine Zal ?_
  refine Zac (Zak (v := vT false) rfl rfl ?_)
  refine Zag ?_
  refine Zal ?_
  refine Zal ?_
  refine Zal ?_
  refine Zac (Zak (v := vT false) rfl rfl ?_)
  refine Zag ?_
  refine Zal ?_
  refine Zal ?_
  refine Zal ?_
  refine Zac (Zak (v := vT false) rfl rfl ?_)
  refine Zag ?_
  refine Zal ?_
  refine Zal ?_
  refine Zal ?_
  refine Zac (Zak (v := vT false) rfl rfl ?_)
  refine Zag ?_
  refine Zaf (kp1 2 fun e he => ?_)
  refine Zap ?_
  have e1 : Zbl x t ls = false := by
   unfold Zbl
   rw [show inB x = false from decide_eq_false fun q => h0 q.1]
   simp
  rw [<- e1] at he
  exact ZaD (hK υ hX)
end
section
variable {σ : St} {K : AV -> St -> Prop}
theorem Zd2 {v1 v2 : AV} {d1 d2 : List Int} (g1 : Ls σ 3 v1 d1.length (vIs d1)) (g2 : Ls σ 3 v2 d2.length (vIs d2)) (l1 : d1.length <= 1000000000) (l2 : d2.length <= 1000000000) (hK : K (vT (decide (d1 = d2))) σ) : Zan Tryz.prog 119 [v1, v2] σ K := by
 refine Zai Zam Tryz.func119 rfl rfl rfl (Nat.le_of_ble_eq_true rfl) ?_
 refine ZbL 0 1 (v0 := v1) (v1 := v2) rfl rfl ?_
 intro e he
 repeat refine Zab ?_
 first|refine Zaa ?_|refine Zad ?_
 refine Zag ?_
 refine Zaf (kp2 0 1 fun e he => ?_)
 repeat refine Zab ?_
 first|refine Zaa ?_|refine Zad ?_
 refine Zag ?_
 refine Zac (ZaP rfl g1 rfl Zco ?_)
 refine Zag ?_
 refine Zac (ZaP rfl g2 rfl Zco ?_)
 refine Zac (Zdo (k := .i64) (a := (d1.length : Int)) (b := (d2.length : Int)) rfl rfl ?_)
 refine Zaf (kp3 0 1 10 fun e he => ?_)
 refine ZaC (t := decide ((d1.length : Int) ≠ (d2.length : Int))) he.2.2 (fun hq => ?_) (fun hq => ?_)
 ·have hq := of_decide_eq_true hq
  rw [decide_eq_false (fun e => hq (by rw [e]))] at hK
  repeat refine Zab ?_
  first|refine Zaa ?_|refine Zad ?_
  refine Zag ?_
  refine Zaf (ZbB ?_)
  exact ZaD (hK)
 have hq := of_decide_eq_false hq
 have hl : d1.length = d2.length := by omega
 refine ZaL ?_
 repeat refine Zab ?_
 first|refine Zaa ?_|refine Zad ?_
 refine Zag ?_
 refine Zaf (kp3 0 1 5 fun e he => ?_)
 refine ZaF (Za4 (fun μ env υ => ∃ i : Nat, μ = d1.length - i /\ i <= d1.length /\ (env 0 = v1 /\ env 1 = v2 /\ env 5 = vI i) /\ σ = υ /\ d1.take i = d2.take i) ⟨_, 0, rfl, Nat.zero_le _, he, rfl, rfl⟩ ?_)
 clear he e
 rintro _ e _ ⟨i, rfl, hi, he, rfl, hs⟩
 repeat refine Zab ?_
 first|refine Zaa ?_|refine Zad ?_
 refine Zag ?_
 refine Zag ?_
 refine Zac (ZaP rfl g1 rfl Zco ?_)
 refine Zcf i d1.length ?_
 refine Zaf (kp4 0 1 5 14 fun e he => ?_)
 refine ZaC (t := decide (i < d1.length)) he.2.2.2 (fun ht => ?_) (fun ht => ?_)
 ·have hlt : i < d1.length := of_decide_eq_true ht
  have hlt2 : i < d2.length := by omega
  obtain ⟨s1, s2⟩ := Zi8 hl hlt hs
  refine ZaL (ZaF (Zbt ?_))
  refine ⟨[0, 1, 2, 4, 5, 6, 3, 7, 8], [[], [], [0, 1], [0, 1, 2], [], [], [4, 5], [4, 5, 6], [0, 1, 2, 3, 4, 5, 6, 7]], fun _ => True, [], [], [], by kernel_rfl, ?_⟩
  refine Zax ?_
  refine Zax ?_
  refine Zas ?_
  refine Zcp g1 hlt (Zc2 hlt) rfl rfl Zco ZbG fa9 fun q1 hq1 => ?_
  refine Zaz ?_
  refine Zax ?_
  refine Zax ?_
  refine Zas ?_
  refine Zcp g2 hlt2 (Zc2 hlt2) rfl rfl Zco ZbG fa9 fun q2 hq2 => ?_
  refine Zaz ?_
  refine Zas ?_
  refine ZbV rfl hq1 ?_
  refine Zaz ?_
  refine Zas ?_
  refine ZbV rfl hq2 ?_
  refine Zaz ?_
  refine Zas ?_
  refine Zdo (k := .i64) (a := (d1[i] : Int)) (b := (d2[i] : Int)) rfl rfl ?_
  refine Zaz ?_
  refine ZbI (kp4 0 1 5 25 ?_)
  clear he e
  intro e he
  refine ZaQ (t := decide ((d1[i] : Int) ≠ (d2[i] : Int))) he.2.2.2 (fun hq => ?_) (fun hq => ?_)
  ·have hq := of_decide_eq_true hq
   rw [decide_eq_false (s2 fun e => hq (by rw [e]))] at hK
   repeat refine Zab ?_
   first|refine Zaa ?_|refine Zad ?_
   refine Zag ?_
   refine Zaf (Zap ?_)
   exact ZaD (hK)
  ·have hq := of_decide_eq_false hq
   have he2 : d1[i] = d2[i] := Decidable.not_not.1 hq
   refine Zbm ?_
   show ZaA _ _ _ _ _ _
   refine Zad (Zag ?_)
   refine Zby i 1 ?_
   refine Zag ?_
   refine Zaf ?_
   show ∃ n', n' < _ /\ _
   exact ⟨_, (by omega : d1.length - (i + 1) < d1.length - i), i + 1, rfl, hlt, ⟨by simp only [EV,Nat.reduceEqDiff,↓reduceIte,he];try rfl, by simp only [EV,Nat.reduceEqDiff,↓reduceIte,he];try rfl, by simp only [EV,Nat.reduceEqDiff,↓reduceIte,he];try rfl⟩, rfl, s1 he2⟩
 ·have hke : i = d1.length := by have := of_decide_eq_false ht; omega
  rw [hke, List.take_length, hl, List.take_length] at hs
  rw [decide_eq_true hs] at hK
  refine Zbu ?_
  show ZaA _ _ _ _ _ _
  repeat refine Zab ?_
  first|refine Zaa ?_|refine Zad ?_
  refine Zag ?_
  refine Zaf (Zap ?_)
  exact ZaD (hK)
theorem Zf1 {a0 a1 a2 a3 c0 c1 c2 c3 : AV} {ls ms : List (List Int)} (h4 : ls.length = 4) (h5 : ms.length = 4) (hv : ZbM σ [a0, a1, a2, a3] ls) (hw : ZbM σ [c0, c1, c2, c3] ms) (hn : ∀ l ∈ ls, l.length <= 1000000000) (hm : ∀ l ∈ ms, l.length <= 1000000000) (hK : ∀ τ, Ext σ τ -> K (vT (decide (ls = ms))) τ) : Zan Tryz.prog 75 [.agg [a0, a1, a2, a3], .agg [c0, c1, c2, c3]] σ K := by
 obtain ⟨l0, l1, l2, l3, rfl⟩ := Zc3 h4
 obtain ⟨m0, m1, m2, m3, rfl⟩ := Zc3 h5
 refine Zai Zam Tryz.func75 rfl rfl rfl (Nat.le_of_ble_eq_true rfl) ?_
 refine ZbL 0 1 (v0 := .agg [a0, a1, a2, a3]) (v1 := .agg [c0, c1, c2, c3]) rfl rfl ?_
 intro e he
 repeat refine Zab ?_
 first|refine Zaa ?_|refine Zad ?_
 refine Zac (Zbn (cs := [a0, a1, a2, a3]) (v := .agg [a0, a1, a2, a3]) he.1 rfl fun b1 υ1 hbn1 hbu1 hb1 hub1 hX1 => ?_)
 refine Zac (Zbn (cs := [c0, c1, c2, c3]) (v := .agg [c0, c1, c2, c3]) he.2 rfl fun b2 υ hbn2 hbu2 hb2 hub2 hX2 => ?_)
 have hb1 := hX2.keep _ _ hb1
 have hX := hX1.trans hX2
 refine Zag ?_
 refine Zaf ?_
 have f0 : Ls υ 3 a0 l0.length (vIs l0) := by obtain ⟨u, q1, q2⟩ := hv.ext hX 0 (by simp); cases q1; exact q2
 have g0 : Ls υ 3 c0 m0.length (vIs m0) := by obtain ⟨u, q1, q2⟩ := hw.ext hX 0 (by simp); cases q1; exact q2
 have f1 : Ls υ 3 a1 l1.length (vIs l1) := by obtain ⟨u, q1, q2⟩ := hv.ext hX 1 (by simp); cases q1; exact q2
 have g1 : Ls υ 3 c1 m1.length (vIs m1) := by obtain ⟨u, q1, q2⟩ := hw.ext hX 1 (by simp); cases q1; exact q2
 have f2 : Ls υ 3 a2 l2.length (vIs l2) := by obtain ⟨u, q1, q2⟩ := hv.ext hX 2 (by simp); cases q1; exact q2
 have g2 : Ls υ 3 c2 m2.length (vIs m2) := by obtain ⟨u, q1, q2⟩ := hw.ext hX 2 (by simp); cases q1; exact q2
 have f3 : Ls υ 3 a3 l3.length (vIs l3) := by obtain ⟨u, q1, q2⟩ := hv.ext hX 3 (by simp); cases q1; exact q2
 have g3 : Ls υ 3 c3 m3.length (vIs m3) := by obtain ⟨u, q1, q2⟩ := hw.ext hX 3 (by simp); cases q1; exact q2
 have hK := hK υ hX
 rw [show decide ([l0, l1, l2, l3] = [m0, m1, m2, m3]) = (decide (l0 = m0) && (decide (l1 = m1) && (decide (l2 = m2) && decide (l3 = m3)))) by simp [Bool.decide_and]] at hK
 refine kp2 2 3 fun e he => ?_
 repeat refine Zab ?_
 first|refine Zaa ?_|refine Zad ?_
 refine Zac (Zae (b := b1) (o := 0) he.1 Zcr rfl ?_)
 refine Zac (Zah (b := b1) (o := 0 + 0) (r := a0) rfl hb1 fa6 Zb4 rfl ?_)
 refine Zac (Zae (b := b2) (o := 0) he.2 Zcr rfl ?_)
 refine Zac (Zah (b := b2) (o := 0 + 0) (r := c0) rfl hb2 fa6 Zb4 rfl ?_)
 refine Zac (Zay (vs := [a0, c0]) (by simp only [List.map_cons, List.map_nil, EV,Nat.reduceEqDiff,↓reduceIte,he];try rfl) ?_)
 refine Zd2 f0 g0 (hn _ (by simp)) (hm _ (by simp)) ?_
 refine Zag ?_
 cases h1 : decide (l0 = m0) with
 | false =>
  rw [h1, Bool.false_and] at hK
  refine Zal ?_
  refine Zal ?_
  refine Zal ?_
  refine Zal ?_
  refine Zal ?_
  refine Zac (Zak (v := vT false) rfl rfl ?_)
  refine Zag ?_
  refine Zal ?_
  refine Zal ?_
  refine Zal ?_
  refine Zal ?_
  refine Zal ?_
  refine Zac (Zak (v := vT false) rfl rfl ?_)
  refine Zag ?_
  refine Zal ?_
  refine Zal ?_
  refine Zal ?_
  refine Zal ?_
  refine Zal ?_
  refine Zac (Zak (v := vT false) rfl rfl ?_)
  refine Zag ?_
  refine Zaf (kp1 4 fun e he => ?_)
  refine Zap ?_
  exact ZaD (hK)
 | true =>
  rw [h1, Bool.true_and] at hK
  refine Zau ?_
  refine Zae (b := b1) (o := 0) he.1 Zcr rfl ?_
  refine Zau ?_
  refine Zah (b := b1) (o := 0 + 1) (r := a1) rfl hb1 fa6 Zb4 rfl ?_
  refine Zau ?_
  refine Zae (b := b2) (o := 0) he.2 Zcr rfl ?_
  refine Zau ?_
  refine Zah (b := b2) (o := 0 + 1) (r := c1) rfl hb2 fa6 Zb4 rfl ?_
  refine Zau ?_
  refine Zay (vs := [a1, c1]) (by simp only [List.map_cons, List.map_nil, EV,Nat.reduceEqDiff,↓reduceIte,he];try rfl) ?_
  refine Zd2 f1 g1 (hn _ (by simp)) (hm _ (by simp)) ?_
  refine Zac (Zaj (v := vT (decide (l1 = m1))) rfl rfl ?_)
  refine Zag ?_
  cases h2 : decide (l1 = m1) with
  | false =>
   rw [h2, Bool.false_and] at hK
   refine Zal ?_
   refine Zal ?_
   refine Zal ?_
   refine Zal ?_
   refine Zal ?_
   refine Zac (Zak (v := vT false) rfl rfl ?_)
   refine Zag ?_
   refine Zal ?_
   refine Zal ?_
   refine Zal ?_
   refine Zal ?_
   refine Zal ?_
   refine Zac (Zak (v := vT false) rfl rfl ?_)
   refine Zag ?_
   refine Zaf (kp1 4 fun e he => ?_)
   refine Zap ?_
   exact ZaD (hK)
  | true =>
   rw [h2, Bool.true_and] at hK
   refine Zau ?_
   refine Zae (b := b1) (o := 0) he.1 Zcr rfl ?_
   refine Zau ?_
   refine Zah (b := b1) (o := 0 + 2) (r := a2) rfl hb1 fa6 Zb4 rfl ?_
   refine Zau ?_
   refine Zae (b := b2) (o := 0) he.2 Zcr rfl ?_
   refine Zau ?_
   refine Zah (b := b2) (o := 0 + 2) (r := c2) rfl hb2 fa6 Zb4 rfl ?_
   refine Zau ?_
   refine Zay (vs := [a2, c2]) (by simp only [List.map_cons, List.map_nil, EV,Nat.reduceEqDiff,↓reduceIte,he];try rfl) ?_
   refine Zd2 f2 g2 (hn _ (by simp)) (hm _ (by simp)) ?_
   refine Zac (Zaj (v := vT (decide (l2 = m2))) rfl rfl ?_)
   refine Zag ?_
   cases h3 : decide (l2 = m2) with
   | false =>
    rw [h3, Bool.false_and] at hK
    refine Zal ?_
    refine Zal ?_
    refine Zal ?_
    refine Zal ?_
    refine Zal ?_
    refine Zac (Zak (v := vT false) rfl rfl ?_)
    refine Zag ?_
    refine Zaf (kp1 4 fun e he => ?_)
    refine Zap ?_
    exact ZaD (hK)
   | true =>
    rw [h3, Bool.true_and] at hK
    refine Zau ?_
    refine Zae (b := b1) (o := 0) he.1 Zcr rfl ?_
    refine Zau ?_
    refine Zah (b := b1) (o := 0 + 3) (r := a3) rfl hb1 fa6 Zb4 rfl ?_
    refine Zau ?_
    refine Zae (b := b2) (o := 0) he.2 Zcr rfl ?_
    refine Zau ?_
    refine Zah (b := b2) (o := 0 + 3) (r := c3) rfl hb2 fa6 Zb4 rfl ?_
    refine Zau ?_
    refine Zay (vs := [a3, c3]) (by simp only [List.map_cons, List.map_nil, EV,Nat.reduceEqDiff,↓reduceIte,he];try rfl) ?_
    refine Zd2 f3 g3 (hn _ (by simp)) (hm _ (by simp)) ?_
    refine Zac (Zaj (v := vT (decide (l3 = m3))) rfl rfl ?_)
    refine Zag ?_
    refine Zaf (kp1 4 fun e he => ?_)
    refine Zap ?_
    exact ZaD (hK)
theorem Zhf {x y t u : Int} {a0 a1 a2 a3 c0 c1 c2 c3 : AV} {ls ms : List (List Int)} (h4 : ls.length = 4) (h5 : ms.length = 4) (hv : ZbM σ [a0, a1, a2, a3] ls) (hw : ZbM σ [c0, c1, c2, c3] ms) (hn : ∀ l ∈ ls, l.length <= 1000000000) (hm : ∀ l ∈ ms, l.length <= 1000000000) (hK : ∀ τ, Ext σ τ -> K (vT (decide (x = y) && (decide (t = u) && decide (ls = ms)))) τ) : Zan Tryz.prog 30 [.agg [vI x, vI t, a0, a1, a2, a3], .agg [vI y, vI u, c0, c1, c2, c3]] σ K := by
 refine Zai Zam Tryz.func30 rfl rfl rfl (Nat.le_of_ble_eq_true rfl) ?_
 refine ZbL 0 1 (v0 := .agg [vI x, vI t, a0, a1, a2, a3]) (v1 := .agg [vI y, vI u, c0, c1, c2, c3]) rfl rfl ?_
 intro e he
 repeat refine Zab ?_
 first|refine Zaa ?_|refine Zad ?_
 refine Zac (Zbn (cs := [vI x, vI t, a0, a1, a2, a3]) (v := .agg [vI x, vI t, a0, a1, a2, a3]) he.1 rfl fun b1 υ1 hbn1 hbu1 hb1 hub1 hX1 => ?_)
 refine Zac (Zbn (cs := [vI y, vI u, c0, c1, c2, c3]) (v := .agg [vI y, vI u, c0, c1, c2, c3]) he.2 rfl fun b2 υ hbn2 hbu2 hb2 hub2 hX2 => ?_)
 have hb1 := hX2.keep _ _ hb1
 have hX := hX1.trans hX2
 refine Zag ?_
 refine Zaf (kp2 2 3 fun e he => ?_)
 repeat refine Zab ?_
 first|refine Zaa ?_|refine Zad ?_
 refine Zac (Zae (b := b1) (o := 0) he.1 Zdp rfl ?_)
 refine Zac (Zah (b := b1) (o := 0 + 0) (r := vI x) rfl hb1 fa9 ZbG rfl ?_)
 refine Zac (Zae (b := b2) (o := 0) he.2 Zdp rfl ?_)
 refine Zac (Zah (b := b2) (o := 0 + 0) (r := vI y) rfl hb2 fa9 ZbG rfl ?_)
 refine Zac (ZbQ (k := .i64) (a := x) (b := y) rfl rfl ?_)
 refine Zag ?_
 cases h1 : decide (x = y) with
 | false =>
  rw [h1, Bool.false_and] at hK
  refine Zal ?_
  refine Zal ?_
  refine Zal ?_
  refine Zal ?_
  refine Zal ?_
  refine Zac (Zak (v := vT false) rfl rfl ?_)
  refine Zag ?_
  refine Zal ?_
  refine Zal ?_
  refine Zal ?_
  refine Zal ?_
  refine Zal ?_
  refine Zac (Zak (v := vT false) rfl rfl ?_)
  refine Zag ?_
  refine Zaf (kp1 4 fun e he => ?_)
  refine Zap ?_
  exact ZaD (hK υ hX)
 | true =>
  rw [h1, Bool.true_and] at hK
  refine Zau ?_
  refine Zae (b := b1) (o := 0) he.1 Zdp rfl ?_
  refine Zau ?_
  refine Zah (b := b1) (o := 0 + 1) (r := vI t) rfl hb1 fa9 ZbG rfl ?_
  refine Zau ?_
  refine Zae (b := b2) (o := 0) he.2 Zdp rfl ?_
  refine Zau ?_
  refine Zah (b := b2) (o := 0 + 1) (r := vI u) rfl hb2 fa9 ZbG rfl ?_
  refine Zau ?_
  refine ZbQ (k := .i64) (a := t) (b := u) rfl rfl ?_
  refine Zac (Zaj (v := vT (decide (t = u))) rfl rfl ?_)
  refine Zag ?_
  cases h2 : decide (t = u) with
  | false =>
   rw [h2, Bool.false_and] at hK
   refine Zal ?_
   refine Zal ?_
   refine Zal ?_
   refine Zal ?_
   refine Zal ?_
   refine Zac (Zak (v := vT false) rfl rfl ?_)
   refine Zag ?_
   refine Zaf (kp1 4 fun e he => ?_)
   refine Zap ?_
   exact ZaD (hK υ hX)
  | true =>
   rw [h2, Bool.true_and] at hK
   refine Zau ?_
   refine Zae (b := b1) (o := 0) he.1 Zdp rfl ?_
   refine Zau ?_
   refine Zah (b := b1) (o := 0 + 2) (r := .agg [a0, a1, a2, a3]) rfl hb1 fa7 Zdb rfl ?_
   refine Zau ?_
   refine Zae (b := b2) (o := 0) he.2 Zdp rfl ?_
   refine Zau ?_
   refine Zah (b := b2) (o := 0 + 2) (r := .agg [c0, c1, c2, c3]) rfl hb2 fa7 Zdb rfl ?_
   refine Zau ?_
   refine Zay (vs := [.agg [a0, a1, a2, a3], .agg [c0, c1, c2, c3]]) (by simp only [List.map_cons, List.map_nil, EV,Nat.reduceEqDiff,↓reduceIte,he];try rfl) ?_
   refine Zf1 h4 h5 (hv.ext hX) (hw.ext hX) hn hm fun τ hX3 => ?_
   refine Zac (Zaj (v := vT (decide (ls = ms))) rfl rfl ?_)
   refine Zag ?_
   refine Zaf (kp1 4 fun e he => ?_)
   refine Zap ?_
   exact ZaD (hK τ (hX.trans hX3))
end
section
variable {σ : St} {K : AV -> St -> Prop}
theorem Ls.form {σ : St} {e : TypeId} {v : AV} {n : Nat} {cells : List AV} (h : Ls σ e v n cells) : (∃ A c l, v = .lst A n c l) \/ (∃ A m c, v = .raw (.slice A m c)) := by
 rcases h.2.2 with ⟨A, c, rest, rfl, _⟩ | h
 ·exact .inl ⟨A, c, _, rfl⟩
 ·rcases h.2.2 with ⟨rfl | ⟨ad, rfl⟩, h0⟩ | ⟨b, c, all, _, rfl, _⟩
  ·exact .inl ⟨none, 0, [], by rw [h0]⟩
  ·exact .inr ⟨_, _, _, rfl⟩
  ·exact .inr ⟨_, _, _, rfl⟩
theorem Ls.oneV {σ : St} {e : TypeId} {v : AV} {n : Nat} {cells : List AV} (h : Ls σ e v n cells) : v.one = true /\ Zbh v = true /\ v.cells = [v] := by
 rcases h.form with ⟨_, _, _, rfl⟩ | ⟨_, _, _, rfl⟩ <;> exact ⟨rfl, rfl, rfl⟩
def Zex (ls : List (List Int)) : Bool := decide (((ls.flatten.length : Nat) : Int) = 0)
def Za8 (x : Int) (k : Nat) (c : List UInt8) (ls : List (List Int)) : Bool :=
 inB x && cond (decide (((k : Nat) : Int) = 1)) (decide (((c.length : Nat) : Int) = 0) && Zex ls) (cond (decide (((k : Nat) : Int) = 2)) (decide (((c.length : Nat) : Int) <= 131072) && Zex ls) (decide (((k : Nat) : Int) = 3) && (decide (((c.length : Nat) : Int) = 0) && Zd1 ls)))
theorem ZkI {a0 a1 a2 a3 : AV} {ls : List (List Int)} (h4 : ls.length = 4) (hc : ZbM σ [a0, a1, a2, a3] ls) (hn : ∀ l ∈ ls, l.length <= 140737488355328) (hK : ∀ τ, Ext σ τ -> K (vT (Zex ls)) τ) : Zan Tryz.prog 57 [.agg [a0, a1, a2, a3]] σ K := by
 obtain ⟨l0, l1, l2, l3, rfl⟩ := Zc3 h4
 have f0 : Ls σ 3 a0 l0.length (vIs l0) := by obtain ⟨u, q1, q2⟩ := hc 0 (by simp); cases q1; exact q2
 have f1 : Ls σ 3 a1 l1.length (vIs l1) := by obtain ⟨u, q1, q2⟩ := hc 1 (by simp); cases q1; exact q2
 have f2 : Ls σ 3 a2 l2.length (vIs l2) := by obtain ⟨u, q1, q2⟩ := hc 2 (by simp); cases q1; exact q2
 have f3 : Ls σ 3 a3 l3.length (vIs l3) := by obtain ⟨u, q1, q2⟩ := hc 3 (by simp); cases q1; exact q2
 have g0 := hn l0 (by simp); have g1 := hn l1 (by simp); have g2 := hn l2 (by simp); have g3 := hn l3 (by simp)
 refine Zai Zam Tryz.func57 rfl rfl rfl (Nat.le_of_ble_eq_true rfl) ?_
 refine Zbf 0 (v0 := .agg [a0, a1, a2, a3]) rfl ?_
 intro e he
 refine Zaa (Zac (Zbn (cs := [a0, a1, a2, a3]) (v := .agg [a0, a1, a2, a3]) he rfl fun b1 υ2 hn3 hu4 hb5 hv6 hX7 => ?_))
 have f0 := f0.ext hX7
 have f1 := f1.ext hX7
 have f2 := f2.ext hX7
 have f3 := f3.ext hX7
 refine Zag ?_
 refine Zaf (kp1 1 fun e he => ?_)
 refine Zaa (Zac (Zae (b := b1) (o := 0) he Zcr rfl ?_))
 refine Zac (Zah (b := b1) (o := 0 + 0) (r := a0) rfl hb5 fa6 Zb4 rfl ?_)
 refine Zac (ZaP (σ := υ2) rfl f0 rfl Zco ?_)
 refine Zac (Zae (b := b1) (o := 0) he Zcr rfl ?_)
 refine Zac (Zah (b := b1) (o := 0 + 1) (r := a1) rfl hb5 fa6 Zb4 rfl ?_)
 refine Zac (ZaP (σ := υ2) rfl f1 rfl Zco ?_)
 refine Zby l0.length l1.length ?_
 refine Zac (Zae (b := b1) (o := 0) he Zcr rfl ?_)
 refine Zac (Zah (b := b1) (o := 0 + 2) (r := a2) rfl hb5 fa6 Zb4 rfl ?_)
 refine Zac (ZaP (σ := υ2) rfl f2 rfl Zco ?_)
 refine Zby (l0.length + l1.length) l2.length ?_
 refine Zac (Zae (b := b1) (o := 0) he Zcr rfl ?_)
 refine Zac (Zah (b := b1) (o := 0 + 3) (r := a3) rfl hb5 fa6 Zb4 rfl ?_)
 refine Zac (ZaP (σ := υ2) rfl f3 rfl Zco ?_)
 refine Zby (l0.length + l1.length + l2.length) l3.length ?_
 refine Zac (ZbQ (k := .i64) (a := ((l0.length + l1.length + l2.length + l3.length : Nat) : Int)) (b := 0) rfl rfl ?_)
 refine Zag ?_
 refine Zaf (kp1 2 fun e he => ?_)
 refine Zap ?_
 have e9 : Zex [l0, l1, l2, l3] = decide ((((l0.length + l1.length + l2.length + l3.length : Nat) : Int) : Int) = 0) := by
  unfold Zex
  apply decide_eq_decide.2
  simp only [List.flatten_cons, List.flatten_nil, List.length_append, List.length_nil]
  omega
 rw [e9] at hK
 exact ZaD (hK _ hX7)
theorem ZkJ {a0 a1 a2 a3 : AV} {ls : List (List Int)} (h4 : ls.length = 4) (hc : ZbM σ [a0, a1, a2, a3] ls) (hn : ∀ l ∈ ls, l.length <= 140737488355328) (hK : ∀ τ, Ext σ τ -> K (vT (Zex ls)) τ) : Zan Tryz.prog 58 [.agg [a0, a1, a2, a3]] σ K := by
 obtain ⟨l0, l1, l2, l3, rfl⟩ := Zc3 h4
 have f0 : Ls σ 3 a0 l0.length (vIs l0) := by obtain ⟨u, q1, q2⟩ := hc 0 (by simp); cases q1; exact q2
 have f1 : Ls σ 3 a1 l1.length (vIs l1) := by obtain ⟨u, q1, q2⟩ := hc 1 (by simp); cases q1; exact q2
 have f2 : Ls σ 3 a2 l2.length (vIs l2) := by obtain ⟨u, q1, q2⟩ := hc 2 (by simp); cases q1; exact q2
 have f3 : Ls σ 3 a3 l3.length (vIs l3) := by obtain ⟨u, q1, q2⟩ := hc 3 (by simp); cases q1; exact q2
 have g0 := hn l0 (by simp); have g1 := hn l1 (by simp); have g2 := hn l2 (by simp); have g3 := hn l3 (by simp)
 refine Zai Zam Tryz.func58 rfl rfl rfl (Nat.le_of_ble_eq_true rfl) ?_
 refine Zbf 0 (v0 := .agg [a0, a1, a2, a3]) rfl ?_
 intro e he
 refine Zaa (Zac (Zbn (cs := [a0, a1, a2, a3]) (v := .agg [a0, a1, a2, a3]) he rfl fun b8 υ9 hn10 hu11 hb12 hv13 hX14 => ?_))
 have f0 := f0.ext hX14
 have f1 := f1.ext hX14
 have f2 := f2.ext hX14
 have f3 := f3.ext hX14
 refine Zag ?_
 refine Zaf (kp1 1 fun e he => ?_)
 refine Zaa (Zac (Zae (b := b8) (o := 0) he Zcr rfl ?_))
 refine Zac (Zah (b := b8) (o := 0 + 0) (r := a0) rfl hb12 fa6 Zb4 rfl ?_)
 refine Zac (ZaP (σ := υ9) rfl f0 rfl Zco ?_)
 refine Zac (Zae (b := b8) (o := 0) he Zcr rfl ?_)
 refine Zac (Zah (b := b8) (o := 0 + 1) (r := a1) rfl hb12 fa6 Zb4 rfl ?_)
 refine Zac (ZaP (σ := υ9) rfl f1 rfl Zco ?_)
 refine Zby l0.length l1.length ?_
 refine Zac (Zae (b := b8) (o := 0) he Zcr rfl ?_)
 refine Zac (Zah (b := b8) (o := 0 + 2) (r := a2) rfl hb12 fa6 Zb4 rfl ?_)
 refine Zac (ZaP (σ := υ9) rfl f2 rfl Zco ?_)
 refine Zby (l0.length + l1.length) l2.length ?_
 refine Zac (Zae (b := b8) (o := 0) he Zcr rfl ?_)
 refine Zac (Zah (b := b8) (o := 0 + 3) (r := a3) rfl hb12 fa6 Zb4 rfl ?_)
 refine Zac (ZaP (σ := υ9) rfl f3 rfl Zco ?_)
 refine Zby (l0.length + l1.length + l2.length) l3.length ?_
 refine Zac (ZbQ (k := .i64) (a := ((l0.length + l1.length + l2.length + l3.length : Nat) : Int)) (b := 0) rfl rfl ?_)
 refine Zag ?_
 refine Zaf (kp1 2 fun e he => ?_)
 refine Zap ?_
 have e9 : Zex [l0, l1, l2, l3] = decide ((((l0.length + l1.length + l2.length + l3.length : Nat) : Int) : Int) = 0) := by
  unfold Zex
  apply decide_eq_decide.2
  simp only [List.flatten_cons, List.flatten_nil, List.length_append, List.length_nil]
  omega
 rw [e9] at hK
 exact ZaD (hK _ hX14)
theorem Zf2 {x : Int} {k : Nat} {v a0 a1 a2 a3 : AV} {c : List UInt8} {ls : List (List Int)} (hv : Za5 σ v c) (h4 : ls.length = 4) (hc : ZbM σ [a0, a1, a2, a3] ls) (hn : ∀ l ∈ ls, l.length <= 140737488355328) (hK : ∀ τ, Ext σ τ -> K (vT (Za8 x k c ls)) τ) : Zan Tryz.prog 14 [.agg [vI x, .raw (.int .u8 ((k : Nat) : Int)), v, a0, a1, a2, a3]] σ K := by
 refine Zai Zam Tryz.func14 rfl rfl rfl (Nat.le_of_ble_eq_true rfl) ?_
 refine Zbf 0 (v0 := .agg [vI x, .raw (.int .u8 ((k : Nat) : Int)), v, a0, a1, a2, a3]) rfl ?_
 intro e he
 refine Zaa (Zac (Zbn (cs := [vI x, .raw (.int .u8 ((k : Nat) : Int)), v, a0, a1, a2, a3]) (v := .agg [vI x, .raw (.int .u8 ((k : Nat) : Int)), v, a0, a1, a2, a3]) he rfl fun b15 υ16 hn17 hu18 hb19 hv20 hX21 => ?_))
 have hv := hv.ext hX21
 have hc := hc.ext hX21
 refine Zag ?_
 refine Zaf (kp1 1 fun e he => ?_)
 refine ZaF (Zaa (Zac (Zae (b := b15) (o := 0) he Zcq rfl ?_)))
 refine Zac (Zah (b := b15) (o := 0 + 0) (r := vI x) rfl hb19 fa9 ZbG rfl ?_)
 refine Zao [vI x, vI 1073741824] ?_
 refine Zdk (x := x) (m := 1073741824) ?_
 refine ZcU ?_
 refine Zag ?_
 refine Zaf (kp2 1 3 fun e he => ?_)
 refine ZaQ (t := !(decide (0 <= x /\ x <= 1073741824))) he.2 (fun ht3 => ?_) (fun ht3 => ?_)
 ·have bht3 : (decide (0 <= x /\ x <= 1073741824)) = false := by rw [<- Bool.not_not (decide (0 <= x /\ x <= 1073741824)), ht3]; rfl
  have ht3 := of_decide_eq_false bht3
  refine Zaa (Zag ?_)
  refine Zaf (kp1 2 fun e he => ?_)
  refine Zap ?_
  have e9 : Za8 x k c ls = false := by simp only [Za8, inB, bht3, cond_true, cond_false, Bool.true_and, Bool.false_and, Bool.and_true, Bool.and_false, Bool.or_true, Bool.or_false, Bool.true_or, Bool.false_or]
  rw [e9] at hK
  exact ZaD (hK _ hX21)
 have bht3 : (decide (0 <= x /\ x <= 1073741824)) = true := by rw [<- Bool.not_not (decide (0 <= x /\ x <= 1073741824)), ht3]; rfl
 have ht3 := of_decide_eq_true bht3
 refine Zaa (Zac (Zae (b := b15) (o := 0) he.1 Zcq rfl ?_))
 refine Zac (Zah (b := b15) (o := 0 + 1) (r := .raw (.int .u8 ((k : Nat) : Int))) rfl hb19 fa4 ZnA rfl ?_)
 refine Zac (ZbQ (k := .u8) (a := ((k : Nat) : Int)) (b := 1) rfl rfl ?_)
 refine Zag ?_
 refine Zaf (kp2 1 8 fun e he => ?_)
 refine ZaQ (t := decide ((((k : Nat) : Int) : Int) = 1)) he.2 (fun ht8 => ?_) (fun ht8 => ?_)
 ·have bht8 := ht8
  have ht8 := of_decide_eq_true bht8
  refine Zaa (Zac (Zae (b := b15) (o := 0) he.1 Zcq rfl ?_))
  refine Zac (Zah (b := b15) (o := 0 + 2) (r := v) rfl hb19 fa5 Zb6 rfl ?_)
  refine Zac (ZaP (σ := υ16) rfl hv.ls rfl Zbw ?_)
  refine Zac (ZbQ (k := .i64) (a := ((c.length : Nat) : Int)) (b := 0) rfl rfl ?_)
  refine Zag ?_
  cases hg22 : decide ((((c.length : Nat) : Int) : Int) = 0) with
  | false =>
   have bhg22 := hg22
   have hg22 := of_decide_eq_false bhg22
   refine Zal ?_
   refine Zal ?_
   refine Zal ?_
   refine Zac (Zak (v := vT false) rfl rfl ?_)
   refine Zag ?_
   refine Zaf (kp1 2 fun e he => ?_)
   refine Zap ?_
   have e9 : Za8 x k c ls = false := by simp only [Za8, inB, bht3, bht8, bhg22, cond_true, cond_false, Bool.true_and, Bool.false_and, Bool.and_true, Bool.and_false, Bool.or_true, Bool.or_false, Bool.true_or, Bool.false_or]
   rw [e9] at hK
   exact ZaD (hK _ hX21)
  | true =>
   have bhg22 := hg22
   have hg22 := of_decide_eq_true bhg22
   refine Zau ?_
   refine Zae (b := b15) (o := 0) he.1 Zcq rfl ?_
   refine Zau ?_
   refine Zah (b := b15) (o := 0 + 3) (r := .agg [a0, a1, a2, a3]) rfl hb19 fa7 Zdb rfl ?_
   refine Zau ?_
   refine Zay (vs := [.agg [a0, a1, a2, a3]]) (by simp only [List.map_cons, List.map_nil, EV,Nat.reduceEqDiff,↓reduceIte,he];try rfl) ?_
   refine ZkI h4 hc hn fun τ23 hX24 => ?_
   have hb19 := hX24.keep _ _ hb19
   have hv := hv.ext hX24
   have hc := hc.ext hX24
   refine Zac (Zaj (v := vT (Zex ls)) rfl rfl ?_)
   refine Zag ?_
   refine Zaf (kp1 2 fun e he => ?_)
   refine Zap ?_
   have e9 : Za8 x k c ls = Zex ls := by simp only [Za8, inB, bht3, bht8, bhg22, cond_true, cond_false, Bool.true_and, Bool.false_and, Bool.and_true, Bool.and_false, Bool.or_true, Bool.or_false, Bool.true_or, Bool.false_or]
   rw [e9] at hK
   exact ZaD (hK _ (hX21.trans hX24))
 have bht8 := ht8
 have ht8 := of_decide_eq_false bht8
 refine Zaa (Zac (Zae (b := b15) (o := 0) he.1 Zcq rfl ?_))
 refine Zac (Zah (b := b15) (o := 0 + 1) (r := .raw (.int .u8 ((k : Nat) : Int))) rfl hb19 fa4 ZnA rfl ?_)
 refine Zac (ZbQ (k := .u8) (a := ((k : Nat) : Int)) (b := 2) rfl rfl ?_)
 refine Zag ?_
 refine Zaf (kp2 1 21 fun e he => ?_)
 refine ZaQ (t := decide ((((k : Nat) : Int) : Int) = 2)) he.2 (fun ht21 => ?_) (fun ht21 => ?_)
 ·have bht21 := ht21
  have ht21 := of_decide_eq_true bht21
  refine Zaa (Zac (Zae (b := b15) (o := 0) he.1 Zcq rfl ?_))
  refine Zac (Zah (b := b15) (o := 0 + 2) (r := v) rfl hb19 fa5 Zb6 rfl ?_)
  refine Zac (ZaP (σ := υ16) rfl hv.ls rfl Zbw ?_)
  refine Zac (Zh7 (k := .i64) (a := ((c.length : Nat) : Int)) (b := 131072) rfl rfl ?_)
  refine Zag ?_
  cases hg25 : decide ((((c.length : Nat) : Int) : Int) <= 131072) with
  | false =>
   have bhg25 := hg25
   have hg25 := of_decide_eq_false bhg25
   refine Zal ?_
   refine Zal ?_
   refine Zal ?_
   refine Zac (Zak (v := vT false) rfl rfl ?_)
   refine Zag ?_
   refine Zaf (kp1 2 fun e he => ?_)
   refine Zap ?_
   have e9 : Za8 x k c ls = false := by simp only [Za8, inB, bht3, bht8, bht21, bhg25, cond_true, cond_false, Bool.true_and, Bool.false_and, Bool.and_true, Bool.and_false, Bool.or_true, Bool.or_false, Bool.true_or, Bool.false_or]
   rw [e9] at hK
   exact ZaD (hK _ hX21)
  | true =>
   have bhg25 := hg25
   have hg25 := of_decide_eq_true bhg25
   refine Zau ?_
   refine Zae (b := b15) (o := 0) he.1 Zcq rfl ?_
   refine Zau ?_
   refine Zah (b := b15) (o := 0 + 3) (r := .agg [a0, a1, a2, a3]) rfl hb19 fa7 Zdb rfl ?_
   refine Zau ?_
   refine Zay (vs := [.agg [a0, a1, a2, a3]]) (by simp only [List.map_cons, List.map_nil, EV,Nat.reduceEqDiff,↓reduceIte,he];try rfl) ?_
   refine ZkI h4 hc hn fun τ26 hX27 => ?_
   have hb19 := hX27.keep _ _ hb19
   have hv := hv.ext hX27
   have hc := hc.ext hX27
   refine Zac (Zaj (v := vT (Zex ls)) rfl rfl ?_)
   refine Zag ?_
   refine Zaf (kp1 2 fun e he => ?_)
   refine Zap ?_
   have e9 : Za8 x k c ls = Zex ls := by simp only [Za8, inB, bht3, bht8, bht21, bhg25, cond_true, cond_false, Bool.true_and, Bool.false_and, Bool.and_true, Bool.and_false, Bool.or_true, Bool.or_false, Bool.true_or, Bool.false_or]
   rw [e9] at hK
   exact ZaD (hK _ (hX21.trans hX27))
 have bht21 := ht21
 have ht21 := of_decide_eq_false bht21
 refine Zbm ?_
 show ZaA _ _ _ _ _ _
 refine Zaa (Zac (Zae (b := b15) (o := 0) he.1 Zcq rfl ?_))
 refine Zac (Zah (b := b15) (o := 0 + 1) (r := .raw (.int .u8 ((k : Nat) : Int))) rfl hb19 fa4 ZnA rfl ?_)
 refine Zac (ZbQ (k := .u8) (a := ((k : Nat) : Int)) (b := 3) rfl rfl ?_)
 refine Zag ?_
 cases hg28 : decide ((((k : Nat) : Int) : Int) = 3) with
 | false =>
  have bhg28 := hg28
  have hg28 := of_decide_eq_false bhg28
  refine Zal ?_
  refine Zal ?_
  refine Zal ?_
  refine Zal ?_
  refine Zac (Zak (v := vT false) rfl rfl ?_)
  refine Zag ?_
  refine Zal ?_
  refine Zal ?_
  refine Zal ?_
  refine Zac (Zak (v := vT false) rfl rfl ?_)
  refine Zag ?_
  refine Zaf (kp1 2 fun e he => ?_)
  refine Zap ?_
  have e9 : Za8 x k c ls = false := by simp only [Za8, inB, bht3, bht8, bht21, bhg28, cond_true, cond_false, Bool.true_and, Bool.false_and, Bool.and_true, Bool.and_false, Bool.or_true, Bool.or_false, Bool.true_or, Bool.false_or]
  rw [e9] at hK
  exact ZaD (hK _ hX21)
 | true =>
  have bhg28 := hg28
  have hg28 := of_decide_eq_true bhg28
  refine Zau ?_
  refine Zae (b := b15) (o := 0) he.1 Zcq rfl ?_
  refine Zau ?_
  refine Zah (b := b15) (o := 0 + 2) (r := v) rfl hb19 fa5 Zb6 rfl ?_
  refine Zau ?_
  refine ZaP (σ := υ16) rfl hv.ls rfl Zbw ?_
  refine Zau ?_
  refine ZbQ (k := .i64) (a := ((c.length : Nat) : Int)) (b := 0) rfl rfl ?_
  refine Zac (Zaj (v := vT (decide ((((c.length : Nat) : Int) : Int) = 0))) rfl rfl ?_)
  refine Zag ?_
  cases hg29 : decide ((((c.length : Nat) : Int) : Int) = 0) with
  | false =>
   have bhg29 := hg29
   have hg29 := of_decide_eq_false bhg29
   refine Zal ?_
   refine Zal ?_
   refine Zal ?_
   refine Zac (Zak (v := vT false) rfl rfl ?_)
   refine Zag ?_
   refine Zaf (kp1 2 fun e he => ?_)
   refine Zap ?_
   have e9 : Za8 x k c ls = false := by simp only [Za8, inB, bht3, bht8, bht21, bhg28, bhg29, cond_true, cond_false, Bool.true_and, Bool.false_and, Bool.and_true, Bool.and_false, Bool.or_true, Bool.or_false, Bool.true_or, Bool.false_or]
   rw [e9] at hK
   exact ZaD (hK _ hX21)
  | true =>
   have bhg29 := hg29
   have hg29 := of_decide_eq_true bhg29
   refine Zau ?_
   refine Zae (b := b15) (o := 0) he.1 Zcq rfl ?_
   refine Zau ?_
   refine Zah (b := b15) (o := 0 + 3) (r := .agg [a0, a1, a2, a3]) rfl hb19 fa7 Zdb rfl ?_
   refine Zau ?_
   refine Zay (vs := [.agg [a0, a1, a2, a3]]) (by simp only [List.map_cons, List.map_nil, EV,Nat.reduceEqDiff,↓reduceIte,he];try rfl) ?_
   refine Zfb h4 hc hn fun τ30 hX31 => ?_
   refine Zac (Zaj (v := vT (Zd1 ls)) rfl rfl ?_)
   refine Zag ?_
   refine Zaf (kp1 2 fun e he => ?_)
   refine Zap ?_
   have e9 : Za8 x k c ls = Zd1 ls := by simp only [Za8, inB, bht3, bht8, bht21, bhg28, bhg29, cond_true, cond_false, Bool.true_and, Bool.false_and, Bool.and_true, Bool.and_false, Bool.or_true, Bool.or_false, Bool.true_or, Bool.false_or]
   rw [e9] at hK
   exact ZaD (hK _ (hX21.trans hX31))
theorem Zfd {x : Int} {k : Nat} {v a0 a1 a2 a3 : AV} {c : List UInt8} {ls : List (List Int)} (hv : Za5 σ v c) (h4 : ls.length = 4) (hc : ZbM σ [a0, a1, a2, a3] ls) (hn : ∀ l ∈ ls, l.length <= 140737488355328) (hK : ∀ τ, Ext σ τ -> K (vT (Za8 x k c ls)) τ) : Zan Tryz.prog 15 [.agg [vI x, .raw (.int .u8 ((k : Nat) : Int)), v, a0, a1, a2, a3]] σ K := by
 refine Zai Zam Tryz.func15 rfl rfl rfl (Nat.le_of_ble_eq_true rfl) ?_
 refine Zbf 0 (v0 := .agg [vI x, .raw (.int .u8 ((k : Nat) : Int)), v, a0, a1, a2, a3]) rfl ?_
 intro e he
 refine Zaa (Zac (Zbn (cs := [vI x, .raw (.int .u8 ((k : Nat) : Int)), v, a0, a1, a2, a3]) (v := .agg [vI x, .raw (.int .u8 ((k : Nat) : Int)), v, a0, a1, a2, a3]) he rfl fun b32 υ33 hn34 hu35 hb36 hv37 hX38 => ?_))
 have hv := hv.ext hX38
 have hc := hc.ext hX38
 refine Zag ?_
 refine Zaf (kp1 1 fun e he => ?_)
 refine Zab (Zaa (Zac (Zae (b := b32) (o := 0) he Zcq rfl ?_)))
 refine Zac (Zah (b := b32) (o := 0 + 0) (r := vI x) rfl hb36 fa9 ZbG rfl ?_)
 refine Zac (Zgh (k := .i64) (a := x) (b := 0) rfl rfl ?_)
 refine Zag ?_
 cases hg39 : decide ((x : Int) < 0) with
 | false =>
  have bhg39 := hg39
  have hg39 := of_decide_eq_false bhg39
  refine Zau ?_
  refine Zae (b := b32) (o := 0) he Zcq rfl ?_
  refine Zau ?_
  refine Zah (b := b32) (o := 0 + 0) (r := vI x) rfl hb36 fa9 ZbG rfl ?_
  refine Zau ?_
  refine Zb3 (k := .i64) (a := x) (b := 1073741824) rfl rfl ?_
  refine Zac (Zak (v := vT (decide ((1073741824 : Int) < x))) rfl rfl ?_)
  refine Zaf (kp2 1 10 fun e he => ?_)
  refine ZaC (t := decide ((1073741824 : Int) < x)) he.2 (fun ht10 => ?_) (fun ht10 => ?_)
  ·have bht10 := ht10
   have ht10 := of_decide_eq_true bht10
   have hin : decide (0 <= x /\ x <= 1073741824) = false := decide_eq_false fun q => by omega
   refine Zab (Zaa (Zag ?_))
   refine Zaf (kp1 2 fun e he => ?_)
   refine ZbB ?_
   have e9 : Za8 x k c ls = false := by simp only [Za8, inB, bhg39, bht10, hin, cond_true, cond_false, Bool.true_and, Bool.false_and, Bool.and_true, Bool.and_false, Bool.or_true, Bool.or_false, Bool.true_or, Bool.false_or]
   rw [e9] at hK
   exact ZaD (hK _ hX38)
  have bht10 := ht10
  have ht10 := of_decide_eq_false bht10
  have hin : decide (0 <= x /\ x <= 1073741824) = true := decide_eq_true ⟨by omega, by omega⟩
  refine ZaL (Zab (Zaa (Zac (Zae (b := b32) (o := 0) he.1 Zcq rfl ?_))))
  refine Zac (Zah (b := b32) (o := 0 + 1) (r := .raw (.int .u8 ((k : Nat) : Int))) rfl hb36 fa4 ZnA rfl ?_)
  refine Zaf (kp2 1 12 fun e he => ?_)
  refine ZaF (Zaa (Zac (ZbQ (k := .u8) (a := ((k : Nat) : Int)) (b := 1) he.2 rfl ?_)))
  refine Zag ?_
  refine Zaf (kp3 1 12 13 fun e he => ?_)
  refine ZaQ (t := decide ((((k : Nat) : Int) : Int) = 1)) he.2.2 (fun ht13 => ?_) (fun ht13 => ?_)
  ·have bht13 := ht13
   have ht13 := of_decide_eq_true bht13
   refine Zaa (Zac (Zae (b := b32) (o := 0) he.1 Zcq rfl ?_))
   refine Zac (Zah (b := b32) (o := 0 + 2) (r := v) rfl hb36 fa5 Zb6 rfl ?_)
   refine Zac (ZaP (σ := υ33) rfl hv.ls rfl Zbw ?_)
   refine Zac (ZbQ (k := .i64) (a := ((c.length : Nat) : Int)) (b := 0) rfl rfl ?_)
   refine Zag ?_
   cases hg40 : decide ((((c.length : Nat) : Int) : Int) = 0) with
   | false =>
    have bhg40 := hg40
    have hg40 := of_decide_eq_false bhg40
    refine Zal ?_
    refine Zal ?_
    refine Zal ?_
    refine Zac (Zak (v := vT false) rfl rfl ?_)
    refine Zag ?_
    refine Zaf (kp1 2 fun e he => ?_)
    refine Zap ?_
    have e9 : Za8 x k c ls = false := by simp only [Za8, inB, bhg39, bht10, hin, bht13, bhg40, cond_true, cond_false, Bool.true_and, Bool.false_and, Bool.and_true, Bool.and_false, Bool.or_true, Bool.or_false, Bool.true_or, Bool.false_or]
    rw [e9] at hK
    exact ZaD (hK _ hX38)
   | true =>
    have bhg40 := hg40
    have hg40 := of_decide_eq_true bhg40
    refine Zau ?_
    refine Zae (b := b32) (o := 0) he.1 Zcq rfl ?_
    refine Zau ?_
    refine Zah (b := b32) (o := 0 + 3) (r := .agg [a0, a1, a2, a3]) rfl hb36 fa7 Zdb rfl ?_
    refine Zau ?_
    refine Zay (vs := [.agg [a0, a1, a2, a3]]) (by simp only [List.map_cons, List.map_nil, EV,Nat.reduceEqDiff,↓reduceIte,he];try rfl) ?_
    refine ZkJ h4 hc hn fun τ41 hX42 => ?_
    have hb36 := hX42.keep _ _ hb36
    have hv := hv.ext hX42
    have hc := hc.ext hX42
    refine Zac (Zaj (v := vT (Zex ls)) rfl rfl ?_)
    refine Zag ?_
    refine Zaf (kp1 2 fun e he => ?_)
    refine Zap ?_
    have e9 : Za8 x k c ls = Zex ls := by simp only [Za8, inB, bhg39, bht10, hin, bht13, bhg40, cond_true, cond_false, Bool.true_and, Bool.false_and, Bool.and_true, Bool.and_false, Bool.or_true, Bool.or_false, Bool.true_or, Bool.false_or]
    rw [e9] at hK
    exact ZaD (hK _ (hX38.trans hX42))
  have bht13 := ht13
  have ht13 := of_decide_eq_false bht13
  refine Zaa (Zac (ZbQ (k := .u8) (a := ((k : Nat) : Int)) (b := 2) he.2.1 rfl ?_))
  refine Zag ?_
  refine Zaf (kp3 1 12 24 fun e he => ?_)
  refine ZaQ (t := decide ((((k : Nat) : Int) : Int) = 2)) he.2.2 (fun ht24 => ?_) (fun ht24 => ?_)
  ·have bht24 := ht24
   have ht24 := of_decide_eq_true bht24
   refine Zaa (Zac (Zae (b := b32) (o := 0) he.1 Zcq rfl ?_))
   refine Zac (Zah (b := b32) (o := 0 + 2) (r := v) rfl hb36 fa5 Zb6 rfl ?_)
   refine Zac (ZaP (σ := υ33) rfl hv.ls rfl Zbw ?_)
   refine Zac (Zh7 (k := .i64) (a := ((c.length : Nat) : Int)) (b := 131072) rfl rfl ?_)
   refine Zag ?_
   cases hg43 : decide ((((c.length : Nat) : Int) : Int) <= 131072) with
   | false =>
    have bhg43 := hg43
    have hg43 := of_decide_eq_false bhg43
    refine Zal ?_
    refine Zal ?_
    refine Zal ?_
    refine Zac (Zak (v := vT false) rfl rfl ?_)
    refine Zag ?_
    refine Zaf (kp1 2 fun e he => ?_)
    refine Zap ?_
    have e9 : Za8 x k c ls = false := by simp only [Za8, inB, bhg39, bht10, hin, bht13, bht24, bhg43, cond_true, cond_false, Bool.true_and, Bool.false_and, Bool.and_true, Bool.and_false, Bool.or_true, Bool.or_false, Bool.true_or, Bool.false_or]
    rw [e9] at hK
    exact ZaD (hK _ hX38)
   | true =>
    have bhg43 := hg43
    have hg43 := of_decide_eq_true bhg43
    refine Zau ?_
    refine Zae (b := b32) (o := 0) he.1 Zcq rfl ?_
    refine Zau ?_
    refine Zah (b := b32) (o := 0 + 3) (r := .agg [a0, a1, a2, a3]) rfl hb36 fa7 Zdb rfl ?_
    refine Zau ?_
    refine Zay (vs := [.agg [a0, a1, a2, a3]]) (by simp only [List.map_cons, List.map_nil, EV,Nat.reduceEqDiff,↓reduceIte,he];try rfl) ?_
    refine ZkJ h4 hc hn fun τ44 hX45 => ?_
    have hb36 := hX45.keep _ _ hb36
    have hv := hv.ext hX45
    have hc := hc.ext hX45
    refine Zac (Zaj (v := vT (Zex ls)) rfl rfl ?_)
    refine Zag ?_
    refine Zaf (kp1 2 fun e he => ?_)
    refine Zap ?_
    have e9 : Za8 x k c ls = Zex ls := by simp only [Za8, inB, bhg39, bht10, hin, bht13, bht24, bhg43, cond_true, cond_false, Bool.true_and, Bool.false_and, Bool.and_true, Bool.and_false, Bool.or_true, Bool.or_false, Bool.true_or, Bool.false_or]
    rw [e9] at hK
    exact ZaD (hK _ (hX38.trans hX45))
  have bht24 := ht24
  have ht24 := of_decide_eq_false bht24
  refine Zaa (Zac (ZbQ (k := .u8) (a := ((k : Nat) : Int)) (b := 3) he.2.1 rfl ?_))
  refine Zag ?_
  refine Zaf (kp2 1 35 fun e he => ?_)
  refine ZaQ (t := decide ((((k : Nat) : Int) : Int) = 3)) he.2 (fun ht35 => ?_) (fun ht35 => ?_)
  ·have bht35 := ht35
   have ht35 := of_decide_eq_true bht35
   refine Zaa (Zac (Zae (b := b32) (o := 0) he.1 Zcq rfl ?_))
   refine Zac (Zah (b := b32) (o := 0 + 2) (r := v) rfl hb36 fa5 Zb6 rfl ?_)
   refine Zac (ZaP (σ := υ33) rfl hv.ls rfl Zbw ?_)
   refine Zac (ZbQ (k := .i64) (a := ((c.length : Nat) : Int)) (b := 0) rfl rfl ?_)
   refine Zag ?_
   cases hg46 : decide ((((c.length : Nat) : Int) : Int) = 0) with
   | false =>
    have bhg46 := hg46
    have hg46 := of_decide_eq_false bhg46
    refine Zal ?_
    refine Zal ?_
    refine Zal ?_
    refine Zac (Zak (v := vT false) rfl rfl ?_)
    refine Zag ?_
    refine Zaf (kp1 2 fun e he => ?_)
    refine Zap ?_
    have e9 : Za8 x k c ls = false := by simp only [Za8, inB, bhg39, bht10, hin, bht13, bht24, bht35, bhg46, cond_true, cond_false, Bool.true_and, Bool.false_and, Bool.and_true, Bool.and_false, Bool.or_true, Bool.or_false, Bool.true_or, Bool.false_or]
    rw [e9] at hK
    exact ZaD (hK _ hX38)
   | true =>
    have bhg46 := hg46
    have hg46 := of_decide_eq_true bhg46
    refine Zau ?_
    refine Zae (b := b32) (o := 0) he.1 Zcq rfl ?_
    refine Zau ?_
    refine Zah (b := b32) (o := 0 + 3) (r := .agg [a0, a1, a2, a3]) rfl hb36 fa7 Zdb rfl ?_
    refine Zau ?_
    refine Zay (vs := [.agg [a0, a1, a2, a3]]) (by simp only [List.map_cons, List.map_nil, EV,Nat.reduceEqDiff,↓reduceIte,he];try rfl) ?_
    refine Zew h4 hc hn fun τ47 hX48 => ?_
    refine Zac (Zaj (v := vT (Zd1 ls)) rfl rfl ?_)
    refine Zag ?_
    refine Zaf (kp1 2 fun e he => ?_)
    refine Zap ?_
    have e9 : Za8 x k c ls = Zd1 ls := by simp only [Za8, inB, bhg39, bht10, hin, bht13, bht24, bht35, bhg46, cond_true, cond_false, Bool.true_and, Bool.false_and, Bool.and_true, Bool.and_false, Bool.or_true, Bool.or_false, Bool.true_or, Bool.false_or]
    rw [e9] at hK
    exact ZaD (hK _ (hX38.trans hX48))
  have bht35 := ht35
  have ht35 := of_decide_eq_false bht35
  refine Zbm ?_
  show ZaA _ _ _ _ _ _
  refine Zaa (Zag ?_)
  refine Zaf (kp1 2 fun e he => ?_)
  refine Zap ?_
  have e9 : Za8 x k c ls = false := by simp only [Za8, inB, bhg39, bht10, hin, bht13, bht24, bht35, cond_true, cond_false, Bool.true_and, Bool.false_and, Bool.and_true, Bool.and_false, Bool.or_true, Bool.or_false, Bool.true_or, Bool.false_or]
  rw [e9] at hK
  exact ZaD (hK _ hX38)
 | true =>
  have bhg39 := hg39
  have hg39 := of_decide_eq_true bhg39
  refine Zal ?_
  refine Zal ?_
  refine Zal ?_
  refine Zac (Zaj (v := vT true) rfl rfl ?_)
  refine Zaf (kp2 1 10 fun e he => ?_)
  refine ZaC (t := true) he.2 (fun ht => ?_) (fun ht => by cases ht)
  have hin : decide (0 <= x /\ x <= 1073741824) = false := decide_eq_false fun q => by omega
  refine Zab (Zaa (Zag ?_))
  refine Zaf (kp1 2 fun e he => ?_)
  refine ZbB ?_
  have e9 : Za8 x k c ls = false := by simp only [Za8, inB, bhg39, hin, cond_true, cond_false, Bool.true_and, Bool.false_and, Bool.and_true, Bool.and_false, Bool.or_true, Bool.or_false, Bool.true_or, Bool.false_or]
  rw [e9] at hK
  exact ZaD (hK _ hX38)
end
section
variable {σ : St} {K : AV -> St -> Prop}
def Lz (σ : St) (e : TypeId) (sz : Nat) (v : AV) (n : Nat) (cells : List AV) : Prop := cells.length = n * sz /\ (∀ a ∈ cells, a.one = true) /\ ((∃ A c rest, v = .lst A n c (cells ++ rest) /\ (A = none -> n = 0)) \/ Hd σ e sz v n cells)
theorem Lz.but {U : Nat -> Prop} {σ τ : St} {e sz n : Nat} {v : AV} {cells : List AV} (h : Lz σ e sz v n cells) (k : But U σ τ) (hU : ∀ c, hbk v = some c -> ¬ U c) : Lz τ e sz v n cells := ⟨h.1, h.2.1, h.2.2.imp id fun q => q.but k hU⟩
theorem Lz.ext {σ τ : St} {e sz n : Nat} {v : AV} {cells : List AV} (h : Lz σ e sz v n cells) (k : Ext σ τ) : Lz τ e sz v n cells := h.but (U := fun _ => False) k.but fun _ _ => id
theorem Lz.val {σ : St} {e sz n : Nat} {v : AV} {cells : List AV} (h : Lz σ e sz v n cells) : ∃ A c, v.val = .slice A n c /\ (A = none -> n = 0) := by
 rcases h.2.2 with ⟨A, c, rest, rfl, hA⟩ | h
 ·exact ⟨A, c, rfl, hA⟩
 ·obtain ⟨A, c, h1, h2, _⟩ := h.val
  exact ⟨A, c, h1, fun q => (h2 q).1⟩
section
variable {P : Program} {ops : Array Oper} {env : Env} {σ τ : St} {K : Env -> St -> Prop} {d : Option Nat} {ty ty' t : TypeId} {pos : String} {af : Array Edge} {x y z : Operand}
theorem Zea {ts : Array TypeId} {t e e' sz n : TypeId} {v : AV} {cells : List AV} {as_ : Operand} (hx : ev env as_ = v) (hv : Lz σ e' sz v n cells) (hts : ts[0]? = some t) (ht : ZaW P t = some e) (h : K (env.put d (vI n)) σ) : aOp P ops ⟨d, .call ⟨.builtin .len, #[as_], ts⟩, ty, pos, af, none⟩ env σ K := by
 obtain ⟨A, c, h1, _⟩ := hv.val
 exact Zkk hx h1 hts ht h
theorem Zsz {e sz n i : Nat} {v : AV} {cells r : List AV} {lt : TypeId} (h : Lz σ e sz v n cells) (hi : i < n) (hr : (cells.drop (i * sz)).take sz = r) (hx : ev env x = v) (hy : ev env y = vI i) (ht : ZaW P lt = some e) (hs : ZaU P e = some sz) (ha : ZdB P e = some true) (hk : ∀ q, ZbU P e σ q = some (.agg r) -> K (env.put d q) σ) : aOp P ops ⟨d, .indexAddr lt x y, ty, pos, af, none⟩ env σ K := by
 subst hr
 rcases h.2.2 with ⟨A, c, rest, rfl, hA⟩ | h1
 ·refine Zfm (k := .i64) (j := i) hx hy ht hs hi hA rfl fun ad => hk _ ?_
  unfold ZbU
  dsimp only
  rw [ha, hs]
  have hl := h.1
  have h2 : (i + 1) * sz <= n * sz := Nat.mul_le_mul_right _ hi
  have h3 : (i + 1) * sz = i * sz + sz := Nat.succ_mul ..
  have h4 : (cells ++ rest).drop (i * sz) = cells.drop (i * sz) ++ rest := List.drop_append_of_le_length (by omega)
  show (if 0 + sz <= ((cells ++ rest).drop (i * sz)).length then some (AV.agg ((((cells ++ rest).drop (i * sz)).drop 0).take sz)) else none) = _
  rw [if_pos (by rw [List.length_drop, List.length_append]; omega), h4, List.drop_zero, List.take_append_of_le_length (by rw [List.length_drop]; omega)]
 ·exact Zb0 (k := .i64) (j := i) hx hy ht hs h1 hi fun b hb => hk _ (h1.load hb hi ha hs)
end
theorem Zqg {P : Program} {ops : Array Oper} {env : Env} {σ : St} {K : Env -> St -> Prop} {d : Option Nat} {ty t : TypeId} {pos : String} {af : Array Edge} {Pres : Nat -> Prop} {lf cf ow : Nat -> Bool} {i : Nat} {l : List Nat} {n : Nat} {parts : Array (Nat × Operand)} {e : TypeId} {sz : Nat} {v : Value} {vs cells : List AV} (hi : ops[i]? = some ⟨d, .buildSlice t n parts, ty, pos, af, none⟩) (how : ow i = true) (hv : parts.toList.map (fun p => ev env p.2) = vs) (ht : ZaW P t = some e) (hs : ZaU P e = some sz) (hz : Zba P e = some v) (hzs : v.cells.size = sz) (hn : n * sz <= 16777216)
 (hf : Zcz (fun i => some (i * sz, sz)) ((List.range (n * sz)).map fun i => .ofV (v.cells[i % sz]!)) ((parts.toList.map (·.1)).zip vs) = some cells)
 (h : ∀ b, ¬ σ.used b -> σ.blk b = none -> Zbc P ops Pres lf cf ow l (env.put d (hdr b n n)) (σ.put b (.own e cells)) K) : Zbc P ops Pres lf cf ow (i :: l) env σ K := by
 unfold Zbc
 rw [hi]
 dsimp only
 unfold ZdL
 rw [how, if_pos rfl, if_pos (by simp [Region.wanted])]
 refine ⟨n, e, cells, ⟨t, parts, sz, v, rfl, ht, hs, hz, hzs, hn, ?_⟩, h⟩
 have : (Op.buildSlice t n parts).operands.toList.map (ev env) = vs := by rw [<- hv]; simp [Op.operands]
 rw [this]
 exact hf
structure Ent where
 x : Int
 k : Nat
 c : List UInt8
 ls : List (List Int)
abbrev kV (k : Nat) : AV := .raw (.int .u8 ((k : Nat) : Int))
def cl (cells : List AV) (i j : Nat) : AV := (cells[i * 7 + j]?).getD (.raw undef)
def Zlw (σ : St) (v : AV) (es : List Ent) (cells : List AV) : Prop := Lz σ 28 7 v es.length cells /\ ∀ i (h : i < es.length), (cells.drop (i * 7)).take 7 = [vI es[i].x, kV es[i].k, cl cells i 2, cl cells i 3, cl cells i 4, cl cells i 5, cl cells i 6] /\ Za5 σ (cl cells i 2) es[i].c /\ ZbM σ [cl cells i 3, cl cells i 4, cl cells i 5, cl cells i 6] es[i].ls /\ es[i].ls.length = 4
def ZhB (e : Ent) : List UInt8 := nB e.x ++ nB e.k ++ ZiD e.c ++ Ze7 e.ls
def esB (es : List Ent) : List UInt8 := es.flatMap ZhB
def ZqQ (e : Ent) : Bool := nOk e.x && nOk e.k && ZfX e.ls
def esW (es : List Ent) : Bool := es.all ZqQ
theorem ZkK {es : List Ent} {i : Nat} (h : i < es.length) : esB (es.take (i + 1)) = esB (es.take i) ++ ZhB es[i] := by
 unfold esB
 rw [List.take_succ_eq_append_getElem h, List.flatMap_append, List.flatMap_singleton]
theorem ZoB {es : List Ent} {i : Nat} (h : i < es.length) : esW (es.take (i + 1)) = (esW (es.take i) && ZqQ es[i]) := by
 unfold esW
 rw [List.take_succ_eq_append_getElem h, List.all_append, List.all_cons, List.all_nil, Bool.and_true]
theorem ZrD {es : List Ent} {i : Nat} : (esB (es.take i)).length <= (esB es).length := by
 have : es = es.take i ++ es.drop i := (List.take_append_drop i es).symm
 conv => rhs; rw [this]
 unfold esB
 rw [List.flatMap_append, List.length_append]
 omega
theorem WAt.but {σ τ : St} {S U : Nat -> Prop} {wb : Nat} {sp : Bool} {bs : List UInt8} (h : WAt σ S wb sp bs) (k : But U σ τ) (hU : ∀ c, S c -> ¬ U c) : WAt τ S wb sp bs := by
 obtain ⟨v, h1, h2, h3⟩ := h.ex
 exact ⟨⟨v, k.keep _ _ (hU _ h.ws) h1, h2.but k fun c hc => hU c (h3 c hc), h3⟩, h.ws, fun b hb => k.used _ (h.used b hb)⟩
set_option maxHeartbeats 1000000 in
theorem ZkL {S : Nat -> Prop} {wb : Nat} {sp : Bool} {bs : List UInt8} {v : AV} {es : List Ent} {cells : List AV} (hW : WAt σ S wb sp bs) (hv : ∀ τ, But S σ τ -> Zlw τ v es cells) (hk8 : ∀ i (h : i < es.length), es[i].k <= 255) (hl : bs.length + (esB es).length <= 50000000) (hf : ∀ e ∈ es, e.ls.flatten.length <= 1000000) (hes : es.length <= 10000000) (hK : ∀ τ, WTo σ S τ wb (sp || !esW es) (bs ++ esB es) -> K (ptr wb 0) τ) : Zan Tryz.prog 18 [ptr wb 0, v] σ K := by
 refine Zai Zam Tryz.func18 rfl rfl rfl (Nat.le_of_ble_eq_true rfl) ?_
 refine ZbL 0 1 (v0 := ptr wb 0) (v1 := v) rfl rfl ?_
 intro e he
 refine Zaa (Zag ?_)
 refine Zaf (kp2 0 1 fun e he => ?_)
 refine Zab (Zaa (Zag ?_))
 refine Zac (Zea rfl (hv _ (.refl _ _)).1 rfl Zeb ?_)
 refine Zag ?_
 refine Zaf (kp4 0 7 8 9 fun e he => ?_)
 refine ZaF (Za4 (fun μ env υ => ∃ (i : Nat) (S1 : Nat -> Prop), μ = es.length - i /\ (env 0 = ptr wb 0 /\ env 7 = v /\ env 8 = vI ((es.length : Nat) : Int) /\ env 9 = vI ((i : Nat) : Int)) /\ i <= es.length /\ WAt υ S1 wb (sp || !esW (es.take i)) (bs ++ esB (es.take i)) /\ But S σ υ /\ (∀ b, S1 b -> S b \/ Za9 σ b)) ⟨_, 0, S, rfl, ⟨by simp only [EV,Nat.reduceEqDiff,↓reduceIte,he];try rfl, by simp only [EV,Nat.reduceEqDiff,↓reduceIte,he];try rfl, by simp only [EV,Nat.reduceEqDiff,↓reduceIte,he];try rfl, by simp only [EV,Nat.reduceEqDiff,↓reduceIte,he];try rfl⟩, Nat.zero_le _, (by simpa [esW, esB] using hW), .refl _ _, fun b q => .inl q⟩ ?_)
 clear he e
 rintro _ e υ1 ⟨i, S1, rfl, he, p1, w1, B1, s1⟩
 refine Zaa (Zcf i es.length ?_)
 refine Zaf (kp5 0 7 8 9 10 fun e he => ?_)
 refine ZaC (t := decide (i < es.length)) he.2.2.2.2 (fun ht10 => ?_) (fun ht10 => ?_)
 ·have bht10 := ht10
  have ht10 := of_decide_eq_true bht10
  have hle := ZrD (es := es) (i := i + 1)
  rw [ZkK ht10, List.length_append] at hle
  have hfl := hf _ (List.getElem_mem ht10)
  have hns := Zer [es[i].x, ((es[i].k : Nat) : Int)]
  have hns : (nsB [es[i].x, ((es[i].k : Nat) : Int)]).length <= 9 * 2 := hns
  have hrow : (nsB [es[i].x, ((es[i].k : Nat) : Int)]).length + (Zes [es[i].c]).length + (Ze7 es[i].ls).length = (ZhB es[i]).length := by simp [nsB, Zes, ZhB]; omega
  refine ZaL (ZaF (Zaa ?_))
  have hE1 := fun τ k => (hv τ k).2 i ht10
  generalize cl cells i 2 = u at hE1
  generalize cl cells i 3 = a0 at hE1
  generalize cl cells i 4 = a1 at hE1
  generalize cl cells i 5 = a2 at hE1
  generalize cl cells i 6 = a3 at hE1
  obtain ⟨hcell, hu0, hc0, h40⟩ := hE1 _ B1
  obtain ⟨_, qz, z0⟩ := hc0 0 (by omega)
  cases qz
  obtain ⟨_, qz, z1⟩ := hc0 1 (by omega)
  cases qz
  obtain ⟨_, qz, z2⟩ := hc0 2 (by omega)
  cases qz
  obtain ⟨_, qz, z3⟩ := hc0 3 (by omega)
  cases qz
  refine Zac (Zsz (i := i) (hv _ B1).1 ht10 hcell he.2.1 he.2.2.2.1 Zeb ZbZ fa8 fun q hq => ?_)
  refine Zac (ZbV rfl hq ?_)
  refine Zac (ZaH Zfo rfl fun b2 υ3 hn4 hu5 hb6 hv7 hX8 => ?_)
  have nS9 : ¬ S1 b2 := fun q => hu5 (w1.used _ q)
  have z10 : σ.blk b2 = none := B1.noneOfB hW.used hu5 hn4
  have w1 := w1.ext hX8
  have B1 := B1.trans (Ext.but hX8)
  refine Zac (ZaB (b := b2) (o := 0) (u := .agg [vI (es[i].x), kV es[i].k, u, a0, a1, a2, a3]) rfl rfl hb6 ZbZ (by rcases Ls.form hu0.ls with ⟨_, _, _, rfl⟩ | ⟨_, _, _, rfl⟩ <;> rcases Ls.form z0 with ⟨_, _, _, rfl⟩ | ⟨_, _, _, rfl⟩ <;> rcases Ls.form z1 with ⟨_, _, _, rfl⟩ | ⟨_, _, _, rfl⟩ <;> rcases Ls.form z2 with ⟨_, _, _, rfl⟩ | ⟨_, _, _, rfl⟩ <;> rcases Ls.form z3 with ⟨_, _, _, rfl⟩ | ⟨_, _, _, rfl⟩ <;> rfl) rfl fun υ11 hb6 k12 => ?_)
  have w1 := w1.but k12 fun c hc q => nS9 (q ▸ hc)
  have B1 := But.ext2 B1 (fun g hg => .inr (by rw [hg]; exact z10)) k12
  refine Zaf (kp5 0 6 7 8 9 fun e he => ?_)
  refine Zbt ?_
  refine ⟨[0, 1, 3, 8, 2, 4, 5, 9, 6, 7, 10, 11], [[], [], [1], [], [3], [3, 4], [1, 2, 3, 4, 5], [0, 1, 2, 3, 4, 5, 6], [], [8], [8, 9], [0, 1, 2, 3, 4, 5, 6, 7, 8, 9, 10]], fun c => c = b2, [9], [7], [10], by kernel_rfl, ?_⟩
  refine ZcT ?_
  refine Za2 ?_
  refine Zae (b := b2) (o := 0) he.2.1 Zcq rfl ?_
  refine Zb5 ?_
  refine Za2 ?_
  refine Zae (b := b2) (o := 0) he.2.1 Zcq rfl ?_
  refine Zb5 ?_
  refine Za2 ?_
  refine Zae (b := b2) (o := 0) he.2.1 Zcq rfl ?_
  refine Zb5 ?_
  refine Za2 ?_
  refine Zah (b := b2) (o := 0 + 0) (r := vI (es[i].x)) rfl hb6 fa9 ZbG rfl ?_
  refine Zb5 ?_
  refine Za2 ?_
  refine Zah (b := b2) (o := 0 + 1) (r := kV es[i].k) rfl hb6 fa4 ZnA rfl ?_
  refine Zb5 ?_
  refine Za2 ?_
  refine ZbF (k := .u8) (a := ((es[i].k : Nat) : Int)) (r := ((es[i].k : Nat) : Int)) fa0 fa1 rfl (IntWalk.i64_in _ (by have := hk8 i ht10; omega)) ?_
  refine Zb5 ?_
  apply ZeP
  case hi => simp only [HIX]; try rfl
  case hw => rfl
  case how => rfl
  case hx => simp only [EV,Nat.reduceEqDiff,↓reduceIte,he];try rfl
  case hp => exact rfl
  case hb => exact hb6
  case ha => exact fa5
  case hn => exact Zb6
  case hr => exact (show [vI (es[i].x), kV es[i].k, u, a0, a1, a2, a3][0 + 2]? = some (u) from rfl)
  refine Za2 ?_
  refine ZaN (vs := [vI (es[i].x), vI ((es[i].k : Nat) : Int)]) (cells := [vI (es[i].x), vI ((es[i].k : Nat) : Int)]) (by simp only [List.map_cons, List.map_nil, EV,Nat.reduceEqDiff,↓reduceIte,he];try rfl) Zco ZbG ZjF rfl (by decide) rfl fun b13 hu14 hb15 => ?_
  have hX16 := Ext.put (.tail 3 (2 * 1) (2 * 1)) hb15
  refine ⟨fun _ => hX16.keeps, ?_⟩
  have nS18 : ¬ S1 b13 := fun q => hu14 (w1.used _ q)
  have hb6 := hX16.keep _ _ hb6
  have w1 := w1.ext hX16
  have B1 := B1.trans (Ext.but hX16)
  refine Za2 ?_
  refine Zay (vs := [ptr wb 0, .lst (some ⟨b13, 0, none⟩) 2 2 [vI (es[i].x), vI ((es[i].k : Nat) : Int)]]) (by simp only [List.map_cons, List.map_nil, EV,Nat.reduceEqDiff,↓reduceIte,he];try rfl) ?_
  refine ZcG (l := [es[i].x, ((es[i].k : Nat) : Int)]) w1 (fun τ _ => Zet rfl (ZeH [es[i].x, ((es[i].k : Nat) : Int)]) fun q => by cases q) (by show _ + 9 * 2 <= _; rw [List.length_append]; omega) fun τ19 h20 => ?_
  obtain ⟨S21, w22, B23, s24⟩ := h20
  refine ⟨fun _ => B23.keeps fun c hp hc => by subst hp; exact nS9 hc, ?_⟩
  have nS25 : ¬ S21 b2 := fun q => (s24 b2 q).elim nS9 fun q => by have := q.1; rw [hb6] at this; cases this
  have hb6 := B23.keep _ _ nS9 hb6
  have B26 : But S σ τ19 := B1.on s1 B23
  have s27 : ∀ b, S21 b -> S b \/ Za9 σ b := fun b hb => (s24 b hb).elim (s1 b) fun q => .inr ⟨B1.noneOfB hW.used q.2 q.1, fun c => q.2 (B1.used _ c)⟩
  refine Zqg (vs := [u]) (cells := [u]) (by simp only [HIX]; try rfl) rfl (by simp only [List.map_cons, List.map_nil, EV,Nat.reduceEqDiff,↓reduceIte,he];try rfl) Zl1 Zb6 Zrb rfl (by omega) (by rcases Ls.form hu0.ls with ⟨_, _, _, rfl⟩ | ⟨_, _, _, rfl⟩ <;> rfl) fun b28 hu29 hb30 => ?_
  have hX31 := Ext.put (.own 23 [u]) hb30
  have nS33 : ¬ S21 b28 := fun q => hu29 (w22.used _ q)
  have hb6 := hX31.keep _ _ hb6
  have w22 := w22.ext hX31
  have B26 := B26.trans (Ext.but hX31)
  refine Za2 ?_
  refine Zay (vs := [ptr wb 0, hdr b28 1 1]) (by simp only [List.map_cons, List.map_nil, EV,Nat.reduceEqDiff,↓reduceIte,he];try rfl) ?_
  refine Zog (ps := [es[i].c]) (cells := [u]) w22 (fun τ k => ⟨(Ls.of (ZhI (n := 1) (cells := [u]) (by omega) (by omega) rfl (fun a ha => by rw [List.mem_singleton.1 ha]; exact (Ls.oneV hu0.ls).1))).but k (fun c hc q => nS33 (Zc8 hc ▸ q)), (fun i h => match i, h with | 0, _ => ⟨_, rfl, (hE1 τ (B26.on s27 k)).2.1⟩ | n + 1, h => absurd h (by simp))⟩) (by simp only [List.length_append, List.length_cons, List.length_nil]; have := hrow; omega) (by simp) fun τ34 h35 => ?_
  obtain ⟨S36, w37, B38, s39⟩ := h35
  refine ⟨fun _ => B38.keeps fun c hp hc => by subst hp; exact nS25 hc, ?_⟩
  have nS40 : ¬ S36 b2 := fun q => (s39 b2 q).elim nS25 fun q => by have := q.1; rw [hb6] at this; cases this
  have hb6 := B38.keep _ _ nS25 hb6
  have B41 : But S σ τ34 := B26.on s27 B38
  have s42 : ∀ b, S36 b -> S b \/ Za9 σ b := fun b hb => (s39 b hb).elim (s27 b) fun q => .inr ⟨B26.noneOfB hW.used q.2 q.1, fun c => q.2 (B26.used _ c)⟩
  refine Zfr (kp5 0 6 7 8 9 ?_)
  clear he e
  intro e he
  refine Zad (Zag ?_)
  refine Zac (Zae (b := b2) (o := 0) he.2.1 Zcq rfl ?_)
  refine Zac (Zah (b := b2) (o := 0 + 3) (r := .agg [a0, a1, a2, a3]) rfl hb6 fa7 Zdb rfl ?_)
  refine Zao [ptr wb 0, .agg [a0, a1, a2, a3]] ?_
  refine ZhQ w37 h40 (fun υ k => (hE1 υ (B41.on s42 k)).2.2.1) (by simp only [List.length_append]; have := hrow; omega) fun τ43 h44 => ?_
  obtain ⟨S45, w46, B47, s48⟩ := h44
  have nS49 : ¬ S45 b2 := fun q => (s48 b2 q).elim nS40 fun q => by have := q.1; rw [hb6] at this; cases this
  have B50 : But S σ τ43 := B41.on s42 B47
  have s51 : ∀ b, S45 b -> S b \/ Za9 σ b := fun b hb => (s48 b hb).elim (s42 b) fun q => .inr ⟨B41.noneOfB hW.used q.2 q.1, fun c => q.2 (B41.used _ c)⟩
  refine Zaf ?_
  show ZaA _ _ _ _ _ _
  refine kp4 0 7 8 9 fun e he => ?_
  refine Zad (Zby i 1 ?_)
  refine Zag ?_
  refine Zaf ?_
  have e1 : ((sp || !esW (es.take i) || !Zin [es[i].x, ((es[i].k : Nat) : Int)]) || !ZfX es[i].ls) = (sp || !(esW (es.take i) && ZqQ es[i])) := by simp [Zin, ZqQ, Bool.or_assoc, Bool.not_and]
  have e2 : bs ++ esB (es.take i) ++ nsB [es[i].x, ((es[i].k : Nat) : Int)] ++ Zes [es[i].c] ++ Ze7 es[i].ls = bs ++ (esB (es.take i) ++ ZhB es[i]) := by simp [nsB, Zes, ZhB]
  rw [e1, e2, <- ZkK ht10, <- ZoB ht10] at w46
  show ∃ n', n' < _ /\ _
  refine ⟨_, (by omega), i + 1, S45, rfl, ⟨by simp only [EV,Nat.reduceEqDiff,↓reduceIte,he];try rfl, by simp only [EV,Nat.reduceEqDiff,↓reduceIte,he];try rfl, by simp only [EV,Nat.reduceEqDiff,↓reduceIte,he];try rfl, by simp only [EV,Nat.reduceEqDiff,↓reduceIte,he];try rfl⟩, (by omega), w46, B50, s51⟩
 have bht10 := ht10
 have ht10 := of_decide_eq_false bht10
 obtain rfl : i = es.length := by omega
 refine Zbu ?_
 show ZaA _ _ _ _ _ _
 refine Zaa (Zag ?_)
 refine Zag ?_
 refine Zaf (kp1 4 fun e he => ?_)
 refine Zap ?_
 rw [List.take_length] at w1
 exact ZaD (hK _ ⟨_, w1, B1, s1⟩)
end
section
variable {σ : St} {rb : Nat} {st : Option (List UInt8)} {K : AV -> St -> Prop}
set_option maxHeartbeats 1000000 in
theorem Zjg (h : ZfJ σ rb st) (hK : ∀ cs τ, ZcJ cs (Zcg st).ls -> ZfJ τ rb (Zcg st).left -> But (fun c => c = rb) σ τ -> K (.tup [.agg (vI (Zcg st).idx :: vI (Zcg st).term :: cs), vT (Zcg st).ok]) τ) : Zan Tryz.prog 28 [ptr rb 0] σ K := by
 refine Zai Zam Tryz.func28 rfl rfl rfl (Nat.le_of_ble_eq_true rfl) ?_
 refine Zbf 0 (v0 := ptr rb 0) rfl ?_
 intro e he
 repeat refine Zab ?_
 first|refine Zaa ?_|refine Zad ?_
 refine Zac (ZaH (cs := [vI 0, vI 0, .lst none 0 0 [], .lst none 0 0 [], .lst none 0 0 [], .lst none 0 0 []]) ZlK rfl fun ob σ1 hon hou hob hobu hX1 => ?_)
 refine Zag ?_
 refine Zaf (kp2 0 2 fun e he => ?_)
 repeat refine Zab ?_
 first|refine Zaa ?_|refine Zad ?_
 refine Zac (ZaH (cs := [vI 0, vI 0, .lst none 0 0 [], .lst none 0 0 [], .lst none 0 0 [], .lst none 0 0 []]) ZlK rfl fun bb σ2 hbn hbu hbb hbbu hX2 => ?_)
 refine Zaf (kp3 0 2 4 fun e he => ?_)
 have hX12 := hX1.trans hX2
 have hob2 := hX2.keep _ _ hob
 have honeb : ob ≠ bb := fun q => by rw [q, hbn] at hob; cases hob
 have horb : ob ≠ rb := fun q => hou (q ▸ h.used)
 have hbrb : bb ≠ rb := fun q => hbu (hX1.used _ (q ▸ h.used))
 have hbbn : σ.blk bb = none := hX1.noneOf hbn
 repeat refine Zab ?_
 first|refine Zaa ?_|refine Zad ?_
 refine Zag ?_
 refine Zao [ptr rb 0, vI (1073741824 : Nat)] ?_
 refine ZcI (h.ext hX12) fun σ3 hR3 k3 => ?_
 generalize hp : Zbr 1073741824 st = p at *
 refine Zac (Zae (b := bb) (o := 0) he.2.2 Zdp rfl ?_)
 refine Zac (ZaI (b := bb) (o := 0 + 0) (v := vI p.1) rfl rfl (k3.keep _ _ hbrb hbb) ZbG ⟨rfl, rfl, rfl⟩ (by simp) fun σ4 hb4 k4 => ?_)
 refine Zaf (kp3 0 2 4 fun e he => ?_)
 have hR4 := hR3.but k4 fun q => hbrb q.symm
 repeat refine Zab ?_
 first|refine Zaa ?_|refine Zad ?_
 refine Zag ?_
 refine Zao [ptr rb 0, vI (1073741824 : Nat)] ?_
 refine ZcI hR4 fun σ5 hR5 k5 => ?_
 generalize hq : Zbr 1073741824 p.2 = q at *
 refine Zac (Zae (b := bb) (o := 0) he.2.2 Zdp rfl ?_)
 refine Zac (ZaI (b := bb) (o := 0 + 1) (v := vI q.1) rfl rfl (k5.keep _ _ hbrb hb4) ZbG ⟨rfl, rfl, rfl⟩ (by simp) fun σ6 hb6 k6 => ?_)
 refine Zaf (kp3 0 2 4 fun e he => ?_)
 have hR6 := hR5.but k6 fun q => hbrb q.symm
 repeat refine Zab ?_
 first|refine Zaa ?_|refine Zad ?_
 refine Zag ?_
 refine Zao [ptr rb 0] ?_
 refine ZhS hR6 fun cs σ7 hcs hR7 k7 => ?_
 generalize hc : ZdT 4 q.2 = c at *
 obtain ⟨c0, c1, c2, c3, rfl, hones⟩ := hcs.four
 have o0 := hones c0 (by simp)
 have o1 := hones c1 (by simp)
 have o2 := hones c2 (by simp)
 have o3 := hones c3 (by simp)
 refine Zac (Zae (b := bb) (o := 0) he.2.2 Zdp rfl ?_)
 refine Zac (ZaB (b := bb) (o := 0 + 2) (cs' := [vI p.1, vI q.1, c0, c1, c2, c3]) (u := .agg [c0, c1, c2, c3]) rfl rfl (k7.keep _ _ hbrb hb6) Zdb (by simp [Zbh, AV.cells, o0.1, o1.1, o2.1, o3.1]) (by simp [ZaR, AV.cells]) fun σ8 hb8 k8 => ?_)
 refine Zaf (kp3 0 2 4 fun e he => ?_)
 have hR8 := hR7.but k8 fun q => hbrb q.symm
 have ho8 : σ8.blk ob = some (.own 30 [vI 0, vI 0, .lst none 0 0 [], .lst none 0 0 [], .lst none 0 0 [], .lst none 0 0 []]) := k8.keep _ _ honeb (k7.keep _ _ horb (k6.keep _ _ honeb (k5.keep _ _ horb (k4.keep _ _ honeb (k3.keep _ _ horb hob2)))))
 have hB8 : But (fun c => c = rb) σ σ8 := (((((hX12.but.trans k3).ext2 (fun b hb => .inr (by rw [hb]; exact hbbn)) k4).trans k5).ext2 (fun b hb => .inr (by rw [hb]; exact hbbn)) k6).trans k7).ext2 (fun b hb => .inr (by rw [hb]; exact hbbn)) k8
 have hbase : Zcg st = if c.2.isSome && Zbl p.1 q.1 c.1 then ⟨true, p.1, q.1, c.1, c.2⟩ else ⟨false, 0, 0, [[], [], [], []], c.2⟩ := by
  unfold Zcg
  rw [hp]
  try dsimp only
  rw [hq]
  try dsimp only
  rw [hc]
 refine Zab (Zce (fun e' υ => (e' 2 = ptr ob 0 /\ e' 4 = ptr bb 0 /\ e' 22 = vT (!(c.2.isSome && Zbl p.1 q.1 c.1))) /\ Ext σ8 υ) ?_ ?_)
 ·refine Zad ?_
  obtain ⟨vv, hRb, _⟩ := hR8.ex
  refine Zem (b := rb) (r := vT c.2.isNone) he.1 Zju rfl hRb rfl ZiQ Zhu fun u1 u2 u3 => ?_
  refine Zag ?_
  cases hs : c.2 with
  | none =>
   refine Zal ?_
   refine Zal ?_
   refine Zal ?_
   refine Zac (Zaj (v := vT true) rfl rfl ?_)
   refine Zaf ?_
   exact ⟨rfl, ⟨by simp only [EV,Nat.reduceEqDiff,↓reduceIte,he];try rfl, by simp only [EV,Nat.reduceEqDiff,↓reduceIte,he];try rfl, by simp only [EV,Nat.reduceEqDiff,↓reduceIte,he];try rfl⟩, .refl _⟩
  | some l =>
   refine Zau ?_
   refine Zah (b := bb) (o := 0) (r := .agg [vI p.1, vI q.1, c0, c1, c2, c3]) he.2.2 hb8 ZfQ Zd9 rfl ?_
   refine Zau ?_
   refine Zay (vs := [.agg [vI p.1, vI q.1, c0, c1, c2, c3]]) (by simp only [List.map_cons, List.map_nil, EV,Nat.reduceEqDiff,↓reduceIte,he];try rfl) ?_
   refine ZhT hcs.2.1 hcs.at_ (fun l hl => by
    have := Zhe 4 q.2 l (by rw [hc]; exact hl)
    omega) fun υ hX => ?_
   refine Zau ?_
   refine ZcR (b := Zbl p.1 q.1 c.1) rfl ?_
   refine Zac (Zak (v := vT (!Zbl p.1 q.1 c.1)) rfl rfl ?_)
   refine Zaf ?_
   exact ⟨rfl, ⟨by simp only [EV,Nat.reduceEqDiff,↓reduceIte,he];try rfl, by simp only [EV,Nat.reduceEqDiff,↓reduceIte,he];try rfl, by simp only [EV,Nat.reduceEqDiff,↓reduceIte,he];try rfl⟩, hX⟩
 clear he e
 rintro e υ ⟨he, hX⟩
 refine ZaC (t := !(c.2.isSome && Zbl p.1 q.1 c.1)) he.2.2 (fun ht => ?_) (fun ht => ?_)
 ·have hf : (c.2.isSome && Zbl p.1 q.1 c.1) = false := by simpa only [Bool.not_eq_true'] using ht
  rw [hf, if_neg Bool.false_ne_true] at hbase
  rw [hbase] at hK
  repeat refine Zab ?_
  first|refine Zaa ?_|refine Zad ?_
  refine Zac (Zbj (vs := []) (cells := [vI 0, vI 0, .lst none 0 0 [], .lst none 0 0 [], .lst none 0 0 [], .lst none 0 0 []]) rfl ZlK Zm4 rfl ?_)
  refine Zac (ZaB (b := ob) (o := 0) (cs' := [vI 0, vI 0, .lst none 0 0 [], .lst none 0 0 [], .lst none 0 0 [], .lst none 0 0 []]) (u := .agg [vI 0, vI 0, .lst none 0 0 [], .lst none 0 0 [], .lst none 0 0 [], .lst none 0 0 []]) he.1 rfl (hX.keep _ _ ho8) Zd9 rfl rfl fun τ hbo k => ?_)
  refine Zag ?_
  refine Zaf (kp2 2 3 fun e he => ?_)
  refine ZbB ?_
  refine ⟨_, Zbd rfl (v := .agg [vI 0, vI 0, .lst none 0 0 [], .lst none 0 0 [], .lst none 0 0 [], .lst none 0 0 []]) ?_ (ZaO he.2), hK _ τ Zch ((hR8.ext hX).but k fun q => horb q.symm) ((hB8.trans hX.but).ext2 (fun b hb => .inr (by rw [hb]; exact hon)) k)⟩
  show ZbU _ 30 τ (e 2) = _
  rw [he.1]
  unfold ZbU ptr
  dsimp only
  rw [hbo]
  dsimp only
  rw [ZfQ, Zd9]
  rfl
 ·have hf : (c.2.isSome && Zbl p.1 q.1 c.1) = true := by simpa only [Bool.not_eq_false'] using ht
  rw [hf, if_pos rfl] at hbase
  rw [hbase] at hK
  refine ZaL ?_
  repeat refine Zab ?_
  first|refine Zaa ?_|refine Zad ?_
  refine Zac (Zah (b := bb) (o := 0) (r := .agg [vI p.1, vI q.1, c0, c1, c2, c3]) he.2.1 (hX.keep _ _ hb8) ZfQ Zd9 rfl ?_)
  refine Zac (ZaB (b := ob) (o := 0) (cs' := [vI p.1, vI q.1, c0, c1, c2, c3]) (u := .agg [vI p.1, vI q.1, c0, c1, c2, c3]) he.1 rfl (hX.keep _ _ ho8) Zd9 (by simp [Zbh, AV.cells, o0.1, o1.1, o2.1, o3.1, (rfl : (vI (p.1 : Int)).one = true), (rfl : (vI (q.1 : Int)).one = true)]) (by simp [ZaR, AV.cells]) fun τ hbo k => ?_)
  refine Zag ?_
  refine Zaf (kp2 2 3 fun e he => ?_)
  refine Zap ?_
  refine ⟨_, Zbd rfl (v := .agg [vI p.1, vI q.1, c0, c1, c2, c3]) ?_ (ZaO he.2), hK _ τ hcs ((hR8.ext hX).but k fun q => horb q.symm) ((hB8.trans hX.but).ext2 (fun b hb => .inr (by rw [hb]; exact hon)) k)⟩
  show ZbU _ 30 τ (e 2) = _
  rw [he.1]
  unfold ZbU ptr
  dsimp only
  rw [hbo]
  dsimp only
  rw [ZfQ, Zd9]
  rfl
end
section
variable {σ : St} {K : AV -> St -> Prop}
set_option maxHeartbeats 1000000 in
theorem ZkM {c0 c1 c2 c3 : AV} {ls : List (List Int)} (h4 : ls.length = 4) (hv : ZbM σ [c0, c1, c2, c3] ls) (hl : ∀ l ∈ ls, l.length <= 1000000) (hK : ∀ a τ, Hd τ 5 1 a (Ze7 ls).length (bys (Ze7 ls)) -> Ext σ τ -> (∀ b, hbk a = some b -> Za9 σ b) -> K a τ) : Zan Tryz.prog 66 [.agg [c0, c1, c2, c3]] σ K := by
 obtain ⟨l0, l1, l2, l3, rfl⟩ := Zc3 h4
 have f0 : Ls σ 3 c0 l0.length (vIs l0) := by obtain ⟨u, q1, q2⟩ := hv 0 (by simp); cases q1; exact q2
 have f1 : Ls σ 3 c1 l1.length (vIs l1) := by obtain ⟨u, q1, q2⟩ := hv 1 (by simp); cases q1; exact q2
 have f2 : Ls σ 3 c2 l2.length (vIs l2) := by obtain ⟨u, q1, q2⟩ := hv 2 (by simp); cases q1; exact q2
 have f3 : Ls σ 3 c3 l3.length (vIs l3) := by obtain ⟨u, q1, q2⟩ := hv 3 (by simp); cases q1; exact q2
 have n0 := hl l0 (by simp)
 have n1 := hl l1 (by simp)
 have n2 := hl l2 (by simp)
 have n3 := hl l3 (by simp)
 have m0 := ZcX (l := l0) (by omega)
 have m1 := ZcX (l := l1) (by omega)
 have m2 := ZcX (l := l2) (by omega)
 have m3 := ZcX (l := l3) (by omega)
 refine Zai Zam Tryz.func66 rfl rfl rfl (Nat.le_of_ble_eq_true rfl) ?_
 refine Zbf 0 (v0 := .agg [c0, c1, c2, c3]) rfl ?_
 intro e he
 repeat refine Zab ?_
 first|refine Zaa ?_|refine Zad ?_
 refine Zac (Zbn (cs := [c0, c1, c2, c3]) (v := .agg [c0, c1, c2, c3]) he rfl fun b υ hbn hbu hb hub hX => ?_)
 refine Zag ?_
 refine Zaf (kp1 1 fun e he => ?_)
 refine Zbt ?_
 refine ⟨[0, 3, 7, 11, 1, 4, 8, 12, 2, 5, 6, 9, 10, 13, 14, 15], [[], [0], [0, 1], [], [3], [0, 1, 2, 3, 4], [0, 1, 2, 3, 4, 5], [], [7], [0, 1, 2, 3, 4, 5, 6, 7, 8], [0, 1, 2, 3, 4, 5, 6, 7, 8, 9], [], [11], [0, 1, 2, 3, 4, 5, 6, 7, 8, 9, 10, 11, 12], [0, 1, 2, 3, 4, 5, 6, 7, 8, 9, 10, 11, 12, 13], [0, 1, 2, 3, 4, 5, 6, 7, 8, 9, 10, 11, 12, 13, 14]], fun c => c = b, [4, 8, 12], [2, 5, 6, 9, 10], [], by kernel_rfl, ?_⟩
 refine Za2 ?_
 refine Zae (b := b) (o := 0) (by simp only [EV,Nat.reduceEqDiff,↓reduceIte,he];try rfl) Zcr rfl ?_
 refine Zb5 ?_
 refine Za2 ?_
 refine Zae (b := b) (o := 0) (by simp only [EV,Nat.reduceEqDiff,↓reduceIte,he];try rfl) Zcr rfl ?_
 refine Zb5 ?_
 refine Za2 ?_
 refine Zae (b := b) (o := 0) (by simp only [EV,Nat.reduceEqDiff,↓reduceIte,he];try rfl) Zcr rfl ?_
 refine Zb5 ?_
 refine Za2 ?_
 refine Zae (b := b) (o := 0) (by simp only [EV,Nat.reduceEqDiff,↓reduceIte,he];try rfl) Zcr rfl ?_
 refine Zb5 ?_
 refine Za2 ?_
 refine Zah (b := b) (o := 0 + 0) (r := c0) (by simp only [EV,Nat.reduceEqDiff,↓reduceIte,he];try rfl) hb fa6 Zb4 rfl ?_
 refine Zb5 ?_
 apply ZeP
 case hi => simp only [HIX]; try rfl
 case hw => rfl
 case how => rfl
 case hx => simp only [EV,Nat.reduceEqDiff,↓reduceIte,he];try rfl
 case hp => exact rfl
 case hb => exact hb
 case ha => exact fa6
 case hn => exact Zb4
 case hr => exact (show [c0, c1, c2, c3][0 + 1]? = some c1 from rfl)
 apply ZeP
 case hi => simp only [HIX]; try rfl
 case hw => rfl
 case how => rfl
 case hx => simp only [EV,Nat.reduceEqDiff,↓reduceIte,he];try rfl
 case hp => exact rfl
 case hb => exact hb
 case ha => exact fa6
 case hn => exact Zb4
 case hr => exact (show [c0, c1, c2, c3][0 + 2]? = some c2 from rfl)
 apply ZeP
 case hi => simp only [HIX]; try rfl
 case hw => rfl
 case how => rfl
 case hx => simp only [EV,Nat.reduceEqDiff,↓reduceIte,he];try rfl
 case hp => exact rfl
 case hb => exact hb
 case ha => exact fa6
 case hn => exact Zb4
 case hr => exact (show [c0, c1, c2, c3][0 + 3]? = some c3 from rfl)
 refine Za2 ?_
 refine Zay (vs := [c0]) (by simp only [List.map_cons, List.map_nil, EV,Nat.reduceEqDiff,↓reduceIte,he];try rfl) ?_
 refine Zd0 (f0.ext hX) (by omega) fun a0 σ1 g0 hX1 hn0 => ⟨fun _ => hX1.keeps, ?_⟩
 have hY1 := hX1
 have hN0 := hn0
 refine Za2 ?_
 refine Zay (vs := [c1]) (by simp only [List.map_cons, List.map_nil, EV,Nat.reduceEqDiff,↓reduceIte,he];try rfl) ?_
 refine Zd0 ((f1.ext hX).ext hY1) (by omega) fun d1 τ1 i1 hZ1 hm1 => ⟨fun _ => hZ1.keeps, ?_⟩
 refine Za2 ?_
 refine ZaZ (m := (Zds l1).length) (news := bys (Zds l1)) (by simp only [EV,Nat.reduceEqDiff,↓reduceIte,he];try rfl) (by simp only [EV,Nat.reduceEqDiff,↓reduceIte,he];try rfl) Zbw Zcn ZeO ZgQ rfl (by omega) (g0.ext hZ1) (i1.src (by omega)) (by (try simp only [List.length_append]); unfold maxLen; omega) (by (try simp only [List.length_append]); omega) fun a1 σ2 g1 hB1 hn1 => ?_
 refine ⟨fun _ => hB1.keeps fun c hc q => ?_, ?_⟩
 ·subst hc
  exact (hN0 c q).2 hub
 have hY2 : Ext υ σ2 := But.ext (hY1.trans hZ1) (fun c hc => (hN0 c hc).1) hB1
 have hN1 : ∀ c, hbk a1 = some c -> Za9 υ c := fun c hc => (hn1 c hc).elim (hN0 c) fun q => Za9.of q (hY1.trans hZ1)
 rw [<- ZcF, <- List.length_append] at g1
 refine Za2 ?_
 refine Zay (vs := [c2]) (by simp only [List.map_cons, List.map_nil, EV,Nat.reduceEqDiff,↓reduceIte,he];try rfl) ?_
 refine Zd0 ((f2.ext hX).ext hY2) (by omega) fun d2 τ2 i2 hZ2 hm2 => ⟨fun _ => hZ2.keeps, ?_⟩
 refine Za2 ?_
 refine ZaZ (m := (Zds l2).length) (news := bys (Zds l2)) (by simp only [EV,Nat.reduceEqDiff,↓reduceIte,he];try rfl) (by simp only [EV,Nat.reduceEqDiff,↓reduceIte,he];try rfl) Zbw Zcn ZeO ZgQ rfl (by omega) (g1.ext hZ2) (i2.src (by omega)) (by (try simp only [List.length_append]); unfold maxLen; omega) (by (try simp only [List.length_append]); omega) fun a2 σ3 g2 hB2 hn2 => ?_
 refine ⟨fun _ => hB2.keeps fun c hc q => ?_, ?_⟩
 ·subst hc
  exact (hN1 c q).2 hub
 have hY3 : Ext υ σ3 := But.ext (hY2.trans hZ2) (fun c hc => (hN1 c hc).1) hB2
 have hN2 : ∀ c, hbk a2 = some c -> Za9 υ c := fun c hc => (hn2 c hc).elim (hN1 c) fun q => Za9.of q (hY2.trans hZ2)
 rw [<- ZcF, <- List.length_append] at g2
 refine Za2 ?_
 refine Zay (vs := [c3]) (by simp only [List.map_cons, List.map_nil, EV,Nat.reduceEqDiff,↓reduceIte,he];try rfl) ?_
 refine Zd0 ((f3.ext hX).ext hY3) (by omega) fun d3 τ3 i3 hZ3 hm3 => ⟨fun _ => hZ3.keeps, ?_⟩
 refine Za2 ?_
 refine ZaZ (m := (Zds l3).length) (news := bys (Zds l3)) (by simp only [EV,Nat.reduceEqDiff,↓reduceIte,he];try rfl) (by simp only [EV,Nat.reduceEqDiff,↓reduceIte,he];try rfl) Zbw Zcn ZeO ZgQ rfl (by omega) (g2.ext hZ3) (i3.src (by omega)) (by (try simp only [List.length_append]); unfold maxLen; omega) (by (try simp only [List.length_append]); omega) fun a3 σ4 g3 hB3 hn3 => ?_
 refine ⟨fun _ => hB3.keeps fun c hc q => ?_, ?_⟩
 ·subst hc
  exact (hN2 c q).2 hub
 have hY4 : Ext υ σ4 := But.ext (hY3.trans hZ3) (fun c hc => (hN2 c hc).1) hB3
 have hN3 : ∀ c, hbk a3 = some c -> Za9 υ c := fun c hc => (hn3 c hc).elim (hN2 c) fun q => Za9.of q (hY3.trans hZ3)
 rw [<- ZcF, <- List.length_append] at g3
 refine ZcT ?_
 refine Zfr (kp1 2 ?_)
 clear he e
 intro e he
 refine Zap ?_
 have e1 : Ze7 [l0, l1, l2, l3] = Zds l0 ++ Zds l1 ++ Zds l2 ++ Zds l3 := by simp [Ze7]
 rw [<- e1] at g3
 exact ZaD (hK a3 σ4 g3 (hX.trans hY4) fun c hc => Za9.of (hN3 c hc) hX)
theorem Zm5 {x t : Int} {c0 c1 c2 c3 : AV} {ls : List (List Int)} (h4 : ls.length = 4) (hv : ZbM σ [c0, c1, c2, c3] ls) (hl : ∀ l ∈ ls, l.length <= 1000000) (hs : (Ze7 ls).length <= 100000000) (hK : ∀ a τ, Hd τ 5 1 a (Zg8 x t ls).length (bys (Zg8 x t ls)) -> Ext σ τ -> (∀ b, hbk a = some b -> Za9 σ b) -> K a τ) : Zan Tryz.prog 22 [.agg [vI x, vI t, c0, c1, c2, c3]] σ K := by
 have m0 := Zfx x
 have m1 := Zfx t
 refine Zai Zam Tryz.func22 rfl rfl rfl (Nat.le_of_ble_eq_true rfl) ?_
 refine Zbf 0 (v0 := .agg [vI x, vI t, c0, c1, c2, c3]) rfl ?_
 intro e he
 repeat refine Zab ?_
 first|refine Zaa ?_|refine Zad ?_
 refine Zac (Zbn (cs := [vI x, vI t, c0, c1, c2, c3]) (v := .agg [vI x, vI t, c0, c1, c2, c3]) he rfl fun b υ hbn hbu hb hub hX => ?_)
 refine Zag ?_
 refine Zaf (kp1 1 fun e he => ?_)
 refine Zbt ?_
 refine ⟨[0, 3, 7, 1, 4, 8, 2, 5, 6, 9, 10, 11], [[], [0], [0, 1], [], [3], [0, 1, 2, 3, 4], [0, 1, 2, 3, 4, 5], [], [7], [0, 1, 2, 3, 4, 5, 6, 7, 8], [0, 1, 2, 3, 4, 5, 6, 7, 8, 9], [0, 1, 2, 3, 4, 5, 6, 7, 8, 9, 10]], fun c => c = b, [4, 8], [2, 5, 6], [], by kernel_rfl, ?_⟩
 refine Za2 ?_
 refine Zae (b := b) (o := 0) (by simp only [EV,Nat.reduceEqDiff,↓reduceIte,he];try rfl) Zdp rfl ?_
 refine Zb5 ?_
 refine Za2 ?_
 refine Zae (b := b) (o := 0) (by simp only [EV,Nat.reduceEqDiff,↓reduceIte,he];try rfl) Zdp rfl ?_
 refine Zb5 ?_
 refine Za2 ?_
 refine Zae (b := b) (o := 0) (by simp only [EV,Nat.reduceEqDiff,↓reduceIte,he];try rfl) Zdp rfl ?_
 refine Zb5 ?_
 refine Za2 ?_
 refine Zah (b := b) (o := 0 + 0) (r := vI x) (by simp only [EV,Nat.reduceEqDiff,↓reduceIte,he];try rfl) hb fa9 ZbG rfl ?_
 refine Zb5 ?_
 apply ZeP
 case hi => simp only [HIX]; try rfl
 case hw => rfl
 case how => rfl
 case hx => simp only [EV,Nat.reduceEqDiff,↓reduceIte,he];try rfl
 case hp => exact rfl
 case hb => exact hb
 case ha => exact fa9
 case hn => exact ZbG
 case hr => exact (show [vI x, vI t, c0, c1, c2, c3][0 + 1]? = some (vI t) from rfl)
 apply ZeP
 case hi => simp only [HIX]; try rfl
 case hw => rfl
 case how => rfl
 case hx => simp only [EV,Nat.reduceEqDiff,↓reduceIte,he];try rfl
 case hp => exact rfl
 case hb => exact hb
 case ha => exact fa7
 case hn => exact Zdb
 case hr => exact (show Zbi (some true) (some 4) [vI x, vI t, c0, c1, c2, c3] (0 + 2) = some (.agg [c0, c1, c2, c3]) from rfl)
 refine Za2 ?_
 refine Zay (vs := [vI x]) (by simp only [List.map_cons, List.map_nil, EV,Nat.reduceEqDiff,↓reduceIte,he];try rfl) ?_
 refine ZeI fun a0 σ1 g0 hX1 hN0 => ⟨fun _ => hX1.keeps, ?_⟩
 refine Za2 ?_
 refine Zay (vs := [vI t]) (by simp only [List.map_cons, List.map_nil, EV,Nat.reduceEqDiff,↓reduceIte,he];try rfl) ?_
 refine ZeI fun d1 τ1 i1 hZ1 hm1 => ⟨fun _ => hZ1.keeps, ?_⟩
 refine Za2 ?_
 refine ZaZ (m := (nB t).length) (news := bys (nB t)) (by simp only [EV,Nat.reduceEqDiff,↓reduceIte,he];try rfl) (by simp only [EV,Nat.reduceEqDiff,↓reduceIte,he];try rfl) Zbw Zcn ZeO ZgQ rfl (by omega) (g0.ext hZ1) (i1.src (by omega)) (by unfold maxLen; omega) (by omega) fun a1 σ2 g1 hB1 hn1 => ?_
 refine ⟨fun _ => hB1.keeps fun c hc q => ?_, ?_⟩
 ·subst hc
  exact (hN0 c q).2 hub
 have hY2 : Ext υ σ2 := But.ext (hX1.trans hZ1) (fun c hc => (hN0 c hc).1) hB1
 have hN1 : ∀ c, hbk a1 = some c -> Za9 υ c := fun c hc => (hn1 c hc).elim (hN0 c) fun q => Za9.of q (hX1.trans hZ1)
 rw [<- ZcF, <- List.length_append] at g1
 refine Za2 ?_
 refine Zay (vs := [.agg [c0, c1, c2, c3]]) (by simp only [List.map_cons, List.map_nil, EV,Nat.reduceEqDiff,↓reduceIte,he];try rfl) ?_
 refine ZkM h4 ((hv.ext hX).ext hY2) hl fun d2 τ2 i2 hZ2 hm2 => ⟨fun _ => hZ2.keeps, ?_⟩
 refine Za2 ?_
 refine ZaZ (m := (Ze7 ls).length) (news := bys (Ze7 ls)) (by simp only [EV,Nat.reduceEqDiff,↓reduceIte,he];try rfl) (by simp only [EV,Nat.reduceEqDiff,↓reduceIte,he];try rfl) Zbw Zcn ZeO ZgQ rfl (by omega) (g1.ext hZ2) (i2.src (by omega)) (by (try simp only [List.length_append]); unfold maxLen; omega) (by (try simp only [List.length_append]); omega) fun a2 σ3 g2 hB2 hn2 => ?_
 refine ⟨fun _ => hB2.keeps fun c hc q => ?_, ?_⟩
 ·subst hc
  exact (hN1 c q).2 hub
 have hY3 : Ext υ σ3 := But.ext (hY2.trans hZ2) (fun c hc => (hN1 c hc).1) hB2
 have hN2 : ∀ c, hbk a2 = some c -> Za9 υ c := fun c hc => (hn2 c hc).elim (hN1 c) fun q => Za9.of q (hY2.trans hZ2)
 rw [<- ZcF, <- List.length_append] at g2
 refine ZcT ?_
 refine Zfr (kp1 2 ?_)
 clear he e
 intro e he
 refine Zap ?_
 exact ZaD (hK a2 σ3 g2 (hX.trans hY3) fun c hc => Za9.of (hN2 c hc) hX)
end
end Go.Proofs.YtiienjjhlibopaaGreatDoor
