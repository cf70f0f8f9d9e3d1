/- XRdd, XRde in one. -/
import Derived.Test.YtinpiaibhjmfaaaMj
namespace Go.Proofs.Ytinpiaibhjmfaaa
open Go.RowKit
set_option maxRecDepth 100000
set_option linter.unusedVariables false
set_option linter.unusedSimpArgs false
def ZfL (k : List UInt8) : Nat -> PL -> PL
 | _, [] => []
 | m, p :: ps => if p.1 = k then (p.1, p.2 - min m p.2) :: ZfL k (m - min m p.2) ps else p :: ZfL k m ps
def Zmg (k : List UInt8) (m : Nat) (ps : PL) : PL := (ZfL k m ps.reverse).reverse
theorem ZeW (k : List UInt8) (m : Nat) (p : List UInt8 × Nat) (ps : PL) : ZfL k m (p :: ps) = if p.1 = k then (p.1, p.2 - min m p.2) :: ZfL k (m - min m p.2) ps else p :: ZfL k m ps := rfl
theorem Znm {α : Type} {l : List α} {j : Nat} (h : j < l.length) : (l.take (j + 1)).reverse = l[j] :: (l.take j).reverse := by
 rw [List.take_succ_eq_append_getElem h, List.reverse_append]
 rfl
section
variable {σ τ : St} {rb : Nat} {S : Nat -> Prop} {l : List Rw} {ps : PL} {size : Int} {fv pv : AV} {K : AV -> St -> Prop}
set_option maxHeartbeats 2000000 in
theorem Zki (h : RAt σ rb S l ps size fv pv) (hl : l.length <= 100000000) (hp : ps.length <= 100000000) (hs : ∀ p ∈ ps, p.2 <= 1000000000) {i : Nat} (hi : i < l.length) {m : Nat} (hm : m <= l[i].d.length) (hd : l[i].d.length <= 1000000000)
 (hK : ∀ τ S' v' pv', RAt τ rb S' (l.set i ⟨l[i].nm, v', l[i].d.take (l[i].d.length - m)⟩) ((Zmg l[i].nm m ps).filter fun p => decide (0 < p.2)) size fv pv' -> But S σ τ -> (∀ c, S c -> S' c) -> (∀ c, S' c -> S c \/ Za0 σ c) -> K (.tup []) τ) :
 Zat Try.prog 72 [ptr rb 0, vI i, vI m] σ K := by
 refine Zam Zas Try.func72 rfl rfl rfl (Nat.le_of_ble_eq_true rfl) ?_
 refine ZaL 0 1 2 (v0 := ptr rb 0) (v1 := vI i) (v2 := vI m) rfl rfl rfl ?_
 intro e he
 have hmem := List.getElem_mem hi
 have hrow := h.row _ hmem
 repeat refine Zac ?_
 first|refine Zaa ?_|refine Zad ?_
 refine ZcX (b := rb) he.1 ZaF rfl h.obj rfl ZbX ZbF fun u1 u2 u3 => ?_
 refine Zab (Zae rfl he.2.1 ?_)
 refine Zab ?_
 refine Zbb (k := .i64) (j := i) (by simp only [EV,Nat.reduceEqDiff,↓reduceIte,he];try rfl) (by simp only [EV,Nat.reduceEqDiff,↓reduceIte,he];try rfl) Zbh ZbA h.fl hi fun b hb => ?_
 refine Zab (Zae rfl (by simp only [EV,Nat.reduceEqDiff,↓reduceIte,he];try rfl) ?_)
 refine Zaf ?_
 apply ZaL 0 2 6
 iterate 3 ·simp only [EV,Nat.reduceEqDiff,↓reduceIte,he];try rfl
 clear he e
 intro e he
 refine Zb5 ?_
 refine ⟨[0, 2, 3, 4, 6, 7, 8, 11, 5, 9, 10, 12, 13, 1, 14, 15, 16, 17], [[], [], [], [2], [2, 3], [2, 3, 4], [], [6], [6, 7], [6, 7, 8], [6, 7, 8, 9], [], [6, 7, 8, 9, 10, 11], [2, 3, 4, 5, 6, 7, 8, 9, 10, 11, 12], [1, 2, 3, 4, 5, 6, 7, 8, 9, 10, 11, 12, 13], [0, 1, 2, 3, 4, 5, 6, 7, 8, 9, 10, 11, 12, 13, 14], [0, 1, 2, 3, 4, 5, 6, 7, 8, 9, 10, 11, 12, 13, 14, 15], [0, 1, 2, 3, 4, 5, 6, 7, 8, 9, 10, 11, 12, 13, 14, 15, 16]], fun _ => True, [], [], [], by kernel_rfl, ?_⟩
 apply Zai
 case hi => simp only [HIX]; try rfl
 case hw => rfl
 case how => rfl
 refine Zae rfl he.2.2 ?_
 refine Zaq ?_
 apply Zai
 case hi => simp only [HIX]; try rfl
 case hw => rfl
 case how => rfl
 refine Zae rfl he.2.2 ?_
 refine Zaq ?_
 apply Zai
 case hi => simp only [HIX]; try rfl
 case hw => rfl
 case how => rfl
 refine Zak (v := ptr b (i * 2)) (by simp only [EV,Nat.reduceEqDiff,↓reduceIte,he];try rfl) rfl ?_
 refine Zaq ?_
 apply Zai
 case hi => simp only [HIX]; try rfl
 case hw => rfl
 case how => rfl
 refine Zag (b := b) (o := i * 2) (by simp only [EV,Nat.reduceEqDiff,↓reduceIte,he];try rfl) Zcx rfl ?_
 refine Zaq ?_
 apply Zai
 case hi => simp only [HIX]; try rfl
 case hw => rfl
 case how => rfl
 refine Zae rfl he.2.2 ?_
 refine Zaq ?_
 apply Zai
 case hi => simp only [HIX]; try rfl
 case hw => rfl
 case how => rfl
 refine Zak (v := ptr b (i * 2)) (by simp only [EV,Nat.reduceEqDiff,↓reduceIte,he];try rfl) rfl ?_
 refine Zaq ?_
 apply Zai
 case hi => simp only [HIX]; try rfl
 case hw => rfl
 case how => rfl
 refine Zag (b := b) (o := i * 2) (by simp only [EV,Nat.reduceEqDiff,↓reduceIte,he];try rfl) Zcx rfl ?_
 refine Zaq ?_
 apply Zai
 case hi => simp only [HIX]; try rfl
 case hw => rfl
 case how => rfl
 refine Zae rfl he.2.1 ?_
 refine Zaq ?_
 apply Zai
 case hi => simp only [HIX]; try rfl
 case hw => rfl
 case how => rfl
 refine ZgC (by simp only [EV,Nat.reduceEqDiff,↓reduceIte,he];try rfl) h.fl hb (Zeh hi).2 ZbO ZaJ ?_
 refine Zaq ?_
 apply Zai
 case hi => simp only [HIX]; try rfl
 case hw => rfl
 case how => rfl
 refine ZgC (by simp only [EV,Nat.reduceEqDiff,↓reduceIte,he];try rfl) h.fl hb (Zeh hi).2 ZbO ZaJ ?_
 refine Zaq ?_
 apply Zai
 case hi => simp only [HIX]; try rfl
 case hw => rfl
 case how => rfl
 refine ZbS (by simp only [EV,Nat.reduceEqDiff,↓reduceIte,he];try rfl) hrow rfl Zaw ?_
 refine Zaq ?_
 apply Zai
 case hi => simp only [HIX]; try rfl
 case hw => rfl
 case how => rfl
 refine ZcZ (l[i].d.length : Int) (m : Int) (by simp only [EV,Nat.reduceEqDiff,↓reduceIte,he];try rfl) (by simp only [EV,Nat.reduceEqDiff,↓reduceIte,he];try rfl) (by omega) (by omega) ?_
 refine Zaq ?_
 rw [show ((l[i].d.length : Int) - (m : Int)) = ((l[i].d.length - m : Nat) : Int) by omega]
 apply Zai
 case hi => simp only [HIX]; try rfl
 case hw => rfl
 case how => rfl
 refine Zf6 (u := l[i].d.length - m) (by simp only [EV,Nat.reduceEqDiff,↓reduceIte,he];try rfl) (by simp only [EV,Nat.reduceEqDiff,↓reduceIte,he];try rfl) Zaw Zbf hrow (Nat.sub_le _ _) fun v1 hv1 hb1 => ?_
 refine Zaq ?_
 apply Zai
 case hi => simp only [HIX]; try rfl
 case hw => rfl
 case how => rfl
 refine Zdr (vs := []) (cells := []) rfl Zaw Zbf ZbT rfl (by omega) rfl rfl fun b2 υ2 hN2 hX2 => ?_
 refine ⟨(fun hf => by cases hf), ?_⟩
 have hbt : (bys l[i].d).take ((l[i].d.length - m) * 1) = bys (l[i].d.take (l[i].d.length - m)) := by
  rw [Nat.mul_one]
  unfold bys
  rw [List.map_take]
 rw [hbt] at hv1
 have hlt : (l[i].d.take (l[i].d.length - m)).length = l[i].d.length - m := by rw [List.length_take]; omega
 apply Zai
 case hi => simp only [HIX]; try rfl
 case hw => rfl
 case how => rfl
 refine Zha (m := l[i].d.length - m) (news := bys (l[i].d.take (l[i].d.length - m))) (by simp only [EV,Nat.reduceEqDiff,↓reduceIte,he];try rfl) (by simp only [EV,Nat.reduceEqDiff,↓reduceIte,he];try rfl) Zaw Zbf ZbT Zke rfl (by omega) ((hv1.ext hX2).src (by omega)) (by unfold maxLen; omega) (by omega) fun v2 υ3 hv2 hX3 hn3 => ?_
 refine ⟨(fun hf => by cases hf), ?_⟩
 have hE3 := hX2.trans hX3
 have h3 := h.ext hE3
 apply Zai
 case hi => simp only [HIX]; try rfl
 case hw => rfl
 case how => rfl
 refine Zak (v := ptr b (i * 2)) (by simp only [EV,Nat.reduceEqDiff,↓reduceIte,he];try rfl) rfl ?_
 refine Zaq ?_
 apply Zai
 case hi => simp only [HIX]; try rfl
 case hw => rfl
 case how => rfl
 refine Zag (b := b) (o := i * 2) (by simp only [EV,Nat.reduceEqDiff,↓reduceIte,he];try rfl) Zcx rfl ?_
 refine Zaq ?_
 apply Zai
 case hi => simp only [HIX]; try rfl
 case hw => rfl
 case how => rfl
 refine ZeU (v := fv) (r := v2) (b := b) (o := i * 2 + 1) (by simp only [EV,Nat.reduceEqDiff,↓reduceIte,he];try rfl) (by simp only [EV,Nat.reduceEqDiff,↓reduceIte,he];try rfl) ZaJ h3.fl hb (by omega) ⟨hv2.oneV.2.1, hv2.oneV.2.2, hv2.oneV.1⟩ fun υ4 hf4 k4 => ?_
 refine ⟨(fun hf => by cases hf), ?_⟩
 refine Zcg ?_
 have hset : (rfC l).set (i * 2 + 1) v2 = rfC (l.set i ⟨l[i].nm, v2, l[i].d.take (l[i].d.length - m)⟩) :=
  (ZfK (f := fun r : Rw => .raw (sV r.nm)) (g := fun r : Rw => r.v) l i ⟨l[i].nm, v2, l[i].d.take (l[i].d.length - m)⟩ hi l[i] (List.getElem?_eq_getElem hi)).1 rfl
 rw [hset] at hf4
 have hv4 : Hd υ4 5 1 v2 (l[i].d.take (l[i].d.length - m)).length (bys (l[i].d.take (l[i].d.length - m))) := by
  rw [hlt]
  exact hv2.but k4 fun c hc hq => ZeO hv2 h3.fl (by decide) hc hq
 have hn2 : ∀ c, hbk v2 = some c -> Za0 σ c := fun c hc => Za0.of (hn3 c hc) hX2
 have hB4 : But (fun c => hbk fv = some c) σ υ4 := hE3.but.trans k4
 have h4 := h.setR hi (hB4.sub fun c hc => .inl hc) hf4 hv4 fun c hc => .inr (hn2 c hc)
 have hS4 : ∀ c, (S c \/ hbk v2 = some c) -> S c \/ Za0 σ c := fun c hc => hc.imp id fun q => hn2 c q
 have hBS4 : But S σ υ4 := hB4.sub fun c hc => h.own.2.1 c hc
 apply ZaL 0 2 6
 iterate 3 ·simp only [EV,Nat.reduceEqDiff,↓reduceIte,he];try rfl
 clear he e
 intro e he
 have hK' := fun τ S' pv' => hK τ S' v2 pv'
 clear hK hf4 hv4 hX2 hX3 hE3 h3 hv1 hb1 hv2 hn3 k4 hset hB4
 have hnm1 : (rfC (l.set i ⟨l[i].nm, v2, l[i].d.take (l[i].d.length - m)⟩))[i * 2 + 0]? = some (.raw (sV l[i].nm)) := by
  have := (Zeh (l := l.set i ⟨l[i].nm, v2, l[i].d.take (l[i].d.length - m)⟩) (i := i) (by rw [List.length_set]; exact hi)).1
  rw [List.getElem_set_self] at this
  exact this
 generalize l.set i ⟨l[i].nm, v2, l[i].d.take (l[i].d.length - m)⟩ = l1 at h4 hK' hnm1
 generalize hSS : (fun c => S c \/ hbk v2 = some c) = S1 at h4
 have hSS1 : ∀ c, S c -> S1 c := fun c hc => by rw [<- hSS]; exact .inl hc
 have hS4 : ∀ c, S1 c -> S c \/ Za0 σ c := fun c hc => by rw [<- hSS] at hc; exact hS4 c hc
 generalize l[i].nm = k at hnm1 hK'
 have hm0 : m <= 1000000000 := by omega
 repeat refine Zac ?_
 first|refine Zaa ?_|refine Zad ?_
 refine ZcX (b := rb) he.1 ZaF rfl h4.obj rfl Zca ZbR fun u1 u2 u3 => ?_
 refine Zab ?_
 refine ZbS rfl h4.pc rfl ZbE ?_
 refine Zab ?_
 refine ZcZ (ps.length : Int) 1 rfl rfl (by omega) (by omega) ?_
 refine Zab (Zae rfl (by simp only [EV,Nat.reduceEqDiff,↓reduceIte,he];try rfl) ?_)
 refine Zaf ?_
 apply ZaP 0 2 6 7
 iterate 4 ·simp only [EV,Nat.reduceEqDiff,↓reduceIte,he];try rfl
 clear he e
 intro e he
 refine ZaZ (fun env υ => env 0 = ptr rb 0 /\ ∃ ps1, RAt υ rb S1 l1 ps1 size fv pv /\ ps1 = Zmg k m ps /\ ps1.length = ps.length /\ But S σ υ) ?_ ?_
 ·refine ZaT ?_
  refine ZaV (fun μ env υ => ∃ (j : Nat) (m' : Nat) (done : PL), j = μ /\ j <= ps.length /\ m' <= m /\ (env 0 = ptr rb 0 /\ env 2 = vI m' /\ env 6 = ptr b (i * 2) /\ env 7 = .raw (.int .i64 ((j : Int) - 1))) /\ RAt υ rb S1 l1 (ps.take j ++ done) size fv pv /\ done.length = ps.length - j /\ ZfL k m ps.reverse = done.reverse ++ ZfL k m' (ps.take j).reverse /\ But S σ υ) ⟨_, ps.length, m, [], rfl, Nat.le_refl _, Nat.le_refl _, he, by rw [List.take_length, List.append_nil]; exact h4, by simp, by rw [List.take_length]; rfl, hBS4⟩ ?_
  clear he e h4
  rintro _ e υ ⟨j, m', done, rfl, hj, hm', he, h5, hdl, hR, hB⟩
  have hlen5 : (ps.take j ++ done).length = ps.length := by rw [List.length_append, List.length_take, hdl]; omega
  repeat refine Zac ?_
  first|refine Zaa ?_|refine Zad ?_
  refine Zab (Zae rfl he.2.2.2 ?_)
  refine Zab ?_
  refine ZfB (k := .i64) (a := (j : Int) - 1) (b := 0) rfl rfl ?_
  refine Zaf ?_
  apply Zb6 0 2 6 7 41
  iterate 5 ·simp only [EV,Nat.reduceEqDiff,↓reduceIte,he];try rfl
  clear he e
  intro e he
  refine Zav (t := decide ((0 : Int) <= (j : Int) - 1)) (by simp only [EV,Nat.reduceEqDiff,↓reduceIte,he];try rfl) (fun ht => ?_) (fun ht => ?_)
  ·have ht := of_decide_eq_true ht
   obtain ⟨j, rfl⟩ : ∃ q, j = q + 1 := ⟨j - 1, by omega⟩
   have hlt : j < ps.length := by omega
   have hlt5 : j < (ps.take (j + 1) ++ done).length := by omega
   have hpj : (ps.take (j + 1) ++ done)[j] = ps[j] := by
    rw [List.getElem_append_left (by rw [List.length_take]; omega), List.getElem_take]
   have hj1 : ((j + 1 : Nat) : Int) - 1 = (j : Int) := by omega
   rw [hj1] at he
   rw [Znm hlt, ZeW] at hR
   have hsj := hs _ (List.getElem_mem hlt)
   have hg := ZiQ hlt5
   rw [hpj] at hg
   refine Zaz ?_
   refine ZaZ (fun env υ => ∃ (m' : Nat) (done : PL), m' <= m /\ (env 0 = ptr rb 0 /\ env 2 = vI m' /\ env 6 = ptr b (i * 2) /\ env 7 = vI j) /\ RAt υ rb S1 l1 (ps.take j ++ done) size fv pv /\ done.length = ps.length - j /\ ZfL k m ps.reverse = done.reverse ++ ZfL k m' (ps.take j).reverse /\ But S σ υ) ?_ ?_
   ·refine ZaT ?_
    refine Zb5 ?_
    refine ⟨[0, 1, 2, 4, 8, 9, 10, 3, 5, 6, 7, 11, 12], [[], [0], [0, 1], [0, 1, 2], [], [0, 1, 2, 3, 4], [0, 1, 2, 3, 4, 5], [0, 1, 2, 3, 4, 5, 6], [], [8], [8, 9], [8, 9, 10], [0, 1, 2, 3, 4, 5, 6, 7, 8, 9, 10, 11]], fun _ => True, [], [], [], by kernel_rfl, ?_⟩
    apply Zai
    case hi => simp only [HIX]; try rfl
    case hw => rfl
    case how => rfl
    refine Zae rfl (by simp only [EV,Nat.reduceEqDiff,↓reduceIte,he];try rfl) ?_
    refine Zaq ?_
    apply Zai
    case hi => simp only [HIX]; try rfl
    case hw => rfl
    case how => rfl
    refine Zak (v := ptr rb 0) (by simp only [EV,Nat.reduceEqDiff,↓reduceIte,he];try rfl) rfl ?_
    refine Zaq ?_
    apply Zai
    case hi => simp only [HIX]; try rfl
    case hw => rfl
    case how => rfl
    refine Zag (b := rb) (o := 0) (by simp only [EV,Nat.reduceEqDiff,↓reduceIte,he];try rfl) ZaF rfl ?_
    refine Zaq ?_
    apply Zai
    case hi => simp only [HIX]; try rfl
    case hw => rfl
    case how => rfl
    refine Zae rfl (by simp only [EV,Nat.reduceEqDiff,↓reduceIte,he];try rfl) ?_
    refine Zaq ?_
    apply Zai
    case hi => simp only [HIX]; try rfl
    case hw => rfl
    case how => rfl
    refine Zae rfl (by simp only [EV,Nat.reduceEqDiff,↓reduceIte,he];try rfl) ?_
    refine Zaq ?_
    apply Zai
    case hi => simp only [HIX]; try rfl
    case hw => rfl
    case how => rfl
    refine Zak (v := ptr b (i * 2)) (by simp only [EV,Nat.reduceEqDiff,↓reduceIte,he];try rfl) rfl ?_
    refine Zaq ?_
    apply Zai
    case hi => simp only [HIX]; try rfl
    case hw => rfl
    case how => rfl
    refine Zag (b := b) (o := i * 2) (by simp only [EV,Nat.reduceEqDiff,↓reduceIte,he];try rfl) Zcx rfl ?_
    refine Zaq ?_
    apply Zai
    case hi => simp only [HIX]; try rfl
    case hw => rfl
    case how => rfl
    refine Zar (b := rb) (o := 0 + 2) (r := pv) (by simp only [EV,Nat.reduceEqDiff,↓reduceIte,he];try rfl) h5.obj Zca ZbR rfl ?_
    refine Zaq ?_
    apply Zai
    case hi => simp only [HIX]; try rfl
    case hw => rfl
    case how => rfl
    refine Zbb (k := .i64) (j := j) (by simp only [EV,Nat.reduceEqDiff,↓reduceIte,he];try rfl) (by simp only [EV,Nat.reduceEqDiff,↓reduceIte,he];try rfl) ZbE Zby h5.pc hlt5 fun b5 hb5 => ?_
    refine Zaq ?_
    apply Zai
    case hi => simp only [HIX]; try rfl
    case hw => rfl
    case how => rfl
    refine Zag (b := b5) (o := j * 2) (by simp only [EV,Nat.reduceEqDiff,↓reduceIte,he];try rfl) Zc1 rfl ?_
    refine Zaq ?_
    apply Zai
    case hi => simp only [HIX]; try rfl
    case hw => rfl
    case how => rfl
    refine ZgC (by simp only [EV,Nat.reduceEqDiff,↓reduceIte,he];try rfl) h5.pc hb5 hg.1 Zb7 ZbJ ?_
    refine Zaq ?_
    apply Zai
    case hi => simp only [HIX]; try rfl
    case hw => rfl
    case how => rfl
    refine ZgC (by simp only [EV,Nat.reduceEqDiff,↓reduceIte,he];try rfl) h5.fl hb hnm1 Zb7 ZbJ ?_
    refine Zaq ?_
    apply Zai
    case hi => simp only [HIX]; try rfl
    case hw => rfl
    case how => rfl
    refine Zeu (a := ps[j].1) (c := k) ZcW (by simp only [EV,Nat.reduceEqDiff,↓reduceIte,he];try rfl) (by simp only [EV,Nat.reduceEqDiff,↓reduceIte,he];try rfl) ?_
    refine Zaq ?_
    refine Zcg ?_
    apply Zb6 0 2 6 7 56
    iterate 5 ·simp only [EV,Nat.reduceEqDiff,↓reduceIte,he];try rfl
    clear he e
    intro e he
    refine ZaS (t := decide (ps[j].1 = k)) he.2.2.2.2 (fun hq => ?_) (fun hq => ?_)
    ·have hq := of_decide_eq_true hq
     rw [if_pos hq] at hR
     repeat refine Zac ?_
     first|refine Zaa ?_|refine Zad ?_
     refine Zab (Zae rfl he.2.1 ?_)
     refine ZcX (b := rb) he.1 ZaF rfl h5.obj rfl Zca ZbR fun u1 u2 u3 => ?_
     refine Zab (Zae rfl he.2.2.2.1 ?_)
     refine Ze6 rfl rfl ZbE Zby h5.pc hlt5 Zc1 rfl hg.2 Zck Zcc fun u1 u2 => ?_
     refine Zab ?_
     refine ZiG m' (ps[j].2) rfl rfl ?_
     refine Zab (Zae rfl (by simp only [EV,Nat.reduceEqDiff,↓reduceIte,he];try rfl) ?_)
     refine Zaf ?_
     apply Zb6 0 2 6 7 8
     iterate 5 ·simp only [EV,Nat.reduceEqDiff,↓reduceIte,he];try rfl
     clear he e
     intro e he
     refine Zb5 ?_
     refine ⟨[0, 1, 2, 4, 5, 6, 7, 9, 13, 3, 8, 10, 11, 12, 14, 15, 16, 17], [[], [0], [0, 1], [0, 1, 2], [], [], [5], [5, 6], [5, 6, 7], [], [5, 6, 7, 8, 9], [5, 6, 7, 8, 9, 10], [5, 6, 7, 8, 9, 10, 11], [], [5, 6, 7, 8, 9, 10, 11, 12, 13], [0, 1, 2, 3, 4, 5, 6, 7, 8, 9, 10, 11, 12, 13, 14], [0, 1, 2, 3, 4, 5, 6, 7, 8, 9, 10, 11, 12, 13, 14, 15], [0, 1, 2, 3, 4, 5, 6, 7, 8, 9, 10, 11, 12, 13, 14, 15, 16]], fun _ => True, [], [], [], by kernel_rfl, ?_⟩
     apply Zai
     case hi => simp only [HIX]; try rfl
     case hw => rfl
     case how => rfl
     refine Zae rfl (by simp only [EV,Nat.reduceEqDiff,↓reduceIte,he];try rfl) ?_
     refine Zaq ?_
     apply Zai
     case hi => simp only [HIX]; try rfl
     case hw => rfl
     case how => rfl
     refine Zak (v := ptr rb 0) (by simp only [EV,Nat.reduceEqDiff,↓reduceIte,he];try rfl) rfl ?_
     refine Zaq ?_
     apply Zai
     case hi => simp only [HIX]; try rfl
     case hw => rfl
     case how => rfl
     refine Zag (b := rb) (o := 0) (by simp only [EV,Nat.reduceEqDiff,↓reduceIte,he];try rfl) ZaF rfl ?_
     refine Zaq ?_
     apply Zai
     case hi => simp only [HIX]; try rfl
     case hw => rfl
     case how => rfl
     refine Zae rfl (by simp only [EV,Nat.reduceEqDiff,↓reduceIte,he];try rfl) ?_
     refine Zaq ?_
     apply Zai
     case hi => simp only [HIX]; try rfl
     case hw => rfl
     case how => rfl
     refine Zae rfl (by simp only [EV,Nat.reduceEqDiff,↓reduceIte,he];try rfl) ?_
     refine Zaq ?_
     apply Zai
     case hi => simp only [HIX]; try rfl
     case hw => rfl
     case how => rfl
     refine Zak (v := ptr rb 0) (by simp only [EV,Nat.reduceEqDiff,↓reduceIte,he];try rfl) rfl ?_
     refine Zaq ?_
     apply Zai
     case hi => simp only [HIX]; try rfl
     case hw => rfl
     case how => rfl
     refine Zag (b := rb) (o := 0) (by simp only [EV,Nat.reduceEqDiff,↓reduceIte,he];try rfl) ZaF rfl ?_
     refine Zaq ?_
     apply Zai
     case hi => simp only [HIX]; try rfl
     case hw => rfl
     case how => rfl
     refine Zae rfl (by simp only [EV,Nat.reduceEqDiff,↓reduceIte,he];try rfl) ?_
     refine Zaq ?_
     apply Zai
     case hi => simp only [HIX]; try rfl
     case hw => rfl
     case how => rfl
     refine Zae rfl (by simp only [EV,Nat.reduceEqDiff,↓reduceIte,he];try rfl) ?_
     refine Zaq ?_
     apply Zai
     case hi => simp only [HIX]; try rfl
     case hw => rfl
     case how => rfl
     refine Zar (b := rb) (o := 0 + 2) (r := pv) (by simp only [EV,Nat.reduceEqDiff,↓reduceIte,he];try rfl) h5.obj Zca ZbR rfl ?_
     refine Zaq ?_
     apply Zai
     case hi => simp only [HIX]; try rfl
     case hw => rfl
     case how => rfl
     refine Zar (b := rb) (o := 0 + 2) (r := pv) (by simp only [EV,Nat.reduceEqDiff,↓reduceIte,he];try rfl) h5.obj Zca ZbR rfl ?_
     refine Zaq ?_
     apply Zai
     case hi => simp only [HIX]; try rfl
     case hw => rfl
     case how => rfl
     refine Zbb (k := .i64) (j := j) (by simp only [EV,Nat.reduceEqDiff,↓reduceIte,he];try rfl) (by simp only [EV,Nat.reduceEqDiff,↓reduceIte,he];try rfl) ZbE Zby h5.pc hlt5 fun b6 hb6 => ?_
     refine Zaq ?_
     apply Zai
     case hi => simp only [HIX]; try rfl
     case hw => rfl
     case how => rfl
     refine Zag (b := b6) (o := j * 2) (by simp only [EV,Nat.reduceEqDiff,↓reduceIte,he];try rfl) Zc1 rfl ?_
     refine Zaq ?_
     apply Zai
     case hi => simp only [HIX]; try rfl
     case hw => rfl
     case how => rfl
     refine ZgC (by simp only [EV,Nat.reduceEqDiff,↓reduceIte,he];try rfl) h5.pc hb6 hg.2 Zck Zcc ?_
     refine Zaq ?_
     apply Zai
     case hi => simp only [HIX]; try rfl
     case hw => rfl
     case how => rfl
     refine ZcZ (ps[j].2 : Int) ((min m' ps[j].2 : Nat) : Int) (by simp only [EV,Nat.reduceEqDiff,↓reduceIte,he];try rfl) (by simp only [EV,Nat.reduceEqDiff,↓reduceIte,he];try rfl) (by omega) (by omega) ?_
     refine Zaq ?_
     rw [show ((ps[j].2 : Int) - ((min m' ps[j].2 : Nat) : Int)) = ((ps[j].2 - min m' ps[j].2 : Nat) : Int) by omega]
     apply Zai
     case hi => simp only [HIX]; try rfl
     case hw => rfl
     case how => rfl
     refine Zbb (k := .i64) (j := j) (by simp only [EV,Nat.reduceEqDiff,↓reduceIte,he];try rfl) (by simp only [EV,Nat.reduceEqDiff,↓reduceIte,he];try rfl) ZbE Zby h5.pc hlt5 fun b7 hb7 => ?_
     refine Zaq ?_
     apply Zai
     case hi => simp only [HIX]; try rfl
     case hw => rfl
     case how => rfl
     refine Zag (b := b7) (o := j * 2) (by simp only [EV,Nat.reduceEqDiff,↓reduceIte,he];try rfl) Zc1 rfl ?_
     refine Zaq ?_
     apply Zai
     case hi => simp only [HIX]; try rfl
     case hw => rfl
     case how => rfl
     refine ZeU (v := pv) (r := vI (ps[j].2 - min m' ps[j].2 : Nat)) (b := b7) (o := j * 2 + 1) (by simp only [EV,Nat.reduceEqDiff,↓reduceIte,he];try rfl) (by simp only [EV,Nat.reduceEqDiff,↓reduceIte,he];try rfl) Zcc h5.pc hb7 (by omega) ⟨rfl, rfl, rfl⟩ fun υ6 hp6 k6 => ?_
     refine ⟨(fun hf => by cases hf), ?_⟩
     refine Zcg ?_
     have hset : (rpC (ps.take (j + 1) ++ done)).set (j * 2 + 1) (vI (ps[j].2 - min m' ps[j].2 : Nat)) = rpC (ps.take j ++ (ps[j].1, ps[j].2 - min m' ps[j].2) :: done) := by
      have := (ZfK (f := fun p : List UInt8 × Nat => .raw (sV p.1)) (g := fun p : List UInt8 × Nat => vI p.2) (ps.take (j + 1) ++ done) j (ps[j].1, ps[j].2 - min m' ps[j].2) hlt5 ps[j] (by rw [List.getElem?_eq_getElem hlt5, hpj])).1 rfl
      refine this.trans ?_
      congr 1
      rw [List.take_succ_eq_append_getElem hlt, List.append_assoc, List.set_append_right _ _ (by rw [List.length_take]; omega)]
      congr 1
      rw [List.length_take, show j - min j ps.length = 0 by omega]
      rfl
     rw [hset] at hp6
     have hl6 : (ps.take j ++ (ps[j].1, ps[j].2 - min m' ps[j].2) :: done).length = (ps.take (j + 1) ++ done).length := by
      rw [hlen5, List.length_append, List.length_take, List.length_cons, hdl]
      omega
     have h6 := h5.setI k6 (by rw [hl6]; exact hp6)
     have hB6 : But S σ υ6 := hB.ext2 (T := fun c => hbk pv = some c) (fun c hc => by
      rcases hS4 c (h5.own.2.2.2 c hc) with q | q
      ·exact .inl q
      ·exact .inr q.1) k6
     apply Zb6 0 2 6 7 8
     iterate 5 ·simp only [EV,Nat.reduceEqDiff,↓reduceIte,he];try rfl
     clear he e
     intro e he
     refine Zad ?_
     refine Zab (Zae rfl he.2.1 ?_)
     refine Zab (Zae rfl he.2.2.2.2 ?_)
     refine Zab ?_
     refine ZcZ (m' : Int) ((min m' ps[j].2 : Nat) : Int) rfl rfl (by omega) (by omega) ?_
     rw [show ((m' : Int) - ((min m' ps[j].2 : Nat) : Int)) = ((m' - min m' ps[j].2 : Nat) : Int) by omega]
     refine Zab (Zae rfl (by simp only [EV,Nat.reduceEqDiff,↓reduceIte,he];try rfl) ?_)
     refine Zaf ?_
     refine ⟨rfl, m' - min m' ps[j].2, (ps[j].1, ps[j].2 - min m' ps[j].2) :: done, by omega, ⟨by simp only [EV,Nat.reduceEqDiff,↓reduceIte,he];try rfl, by simp only [EV,Nat.reduceEqDiff,↓reduceIte,he];try rfl, by simp only [EV,Nat.reduceEqDiff,↓reduceIte,he];try rfl, by simp only [EV,Nat.reduceEqDiff,↓reduceIte,he];try rfl⟩, h6, by rw [List.length_cons, hdl]; omega, ?_, hB6⟩
     rw [hR, List.reverse_cons, List.append_assoc]
     rfl
    ·have hq := of_decide_eq_false hq
     rw [if_neg hq] at hR
     refine Zbq ?_
     refine ⟨rfl, m', ps[j] :: done, hm', ⟨by simp only [EV,Nat.reduceEqDiff,↓reduceIte,he];try rfl, by simp only [EV,Nat.reduceEqDiff,↓reduceIte,he];try rfl, by simp only [EV,Nat.reduceEqDiff,↓reduceIte,he];try rfl, by simp only [EV,Nat.reduceEqDiff,↓reduceIte,he];try rfl⟩, ?_, by rw [List.length_cons, hdl]; omega, ?_, hB⟩
     ·have e1 : ps.take j ++ ps[j] :: done = ps.take (j + 1) ++ done := by
       rw [List.take_succ_eq_append_getElem hlt, List.append_assoc]
       rfl
      rw [e1]
      exact h5
     ·rw [hR, List.reverse_cons, List.append_assoc]
      rfl
   ·clear he e h5 hR hB hdl hm'
    rintro e υ ⟨m', done, hm', he, h5, hdl, hR, hB⟩
    refine Zad ?_
    refine Zab (Zae rfl he.2.2.2 ?_)
    refine Zab ?_
    refine ZcZ (j : Int) 1 rfl rfl (by omega) (by omega) ?_
    refine Zab (Zae rfl (by simp only [EV,Nat.reduceEqDiff,↓reduceIte,he];try rfl) ?_)
    refine Zaf ?_
    show ∃ n', n' < _ /\ _
    exact ⟨_, Nat.lt_succ_self j, j, m', done, rfl, by omega, hm', ⟨by simp only [EV,Nat.reduceEqDiff,↓reduceIte,he];try rfl, by simp only [EV,Nat.reduceEqDiff,↓reduceIte,he];try rfl, by simp only [EV,Nat.reduceEqDiff,↓reduceIte,he];try rfl, by simp only [EV,Nat.reduceEqDiff,↓reduceIte,he];try rfl⟩, h5, hdl, hR, hB⟩
  ·have hj0 : j = 0 := by have := of_decide_eq_false ht; omega
   subst hj0
   refine Zbe ?_
   rw [List.take_zero, List.nil_append] at h5 hlen5
   refine ⟨rfl, by simp only [EV,Nat.reduceEqDiff,↓reduceIte,he];try rfl, done, h5, ?_, hlen5, hB⟩
   unfold Zmg
   rw [hR]
   show done = (done.reverse ++ []).reverse
   rw [List.append_nil, List.reverse_reverse]
 clear he e h4
 rintro e υ4 ⟨he, ps1, h4, hps1, hpl, hBS4⟩
 have hl1 : ps1.length <= 100000000 := by omega
 rw [<- hps1] at hK'
 clear hps1
 repeat refine Zac ?_
 first|refine Zaa ?_|refine Zad ?_
 refine Zab (Zae rfl (by simp only [EV,Nat.reduceEqDiff,↓reduceIte,he];try rfl) ?_)
 refine Zaf ?_
 apply ZaK 0 9
 iterate 2 ·simp only [EV,Nat.reduceEqDiff,↓reduceIte,he];try rfl
 clear he e
 intro e he
 repeat refine Zac ?_
 first|refine Zaa ?_|refine Zad ?_
 refine Zab (Zae rfl (by simp only [EV,Nat.reduceEqDiff,↓reduceIte,he];try rfl) ?_)
 refine Zaf ?_
 apply ZaL 0 9 10
 iterate 3 ·simp only [EV,Nat.reduceEqDiff,↓reduceIte,he];try rfl
 clear he e
 intro e he
 refine ZaZ (fun env υ => ∃ v, (env 0 = ptr rb 0 /\ env 9 = v) /\ Hd υ 105 2 v (ps1.filter fun p => decide (0 < p.2)).length (rpC (ps1.filter fun p => decide (0 < p.2))) /\ Ext υ4 υ /\ (∀ c, hbk v = some c -> Za0 υ4 c)) ?_ ?_
 ·refine ZaT ?_
  refine ZaV (fun μ env υ => ∃ (i : Nat), ∃ v, μ = ps1.length - i /\ i <= ps1.length /\ (env 0 = ptr rb 0 /\ env 9 = v /\ env 10 = vI i) /\ Hd υ 105 2 v ((ps1.take i).filter fun p => decide (0 < p.2)).length (rpC ((ps1.take i).filter fun p => decide (0 < p.2))) /\ Ext υ4 υ /\ (∀ c, hbk v = some c -> Za0 υ4 c)) ⟨_, 0, _, rfl, Nat.zero_le _, he, ⟨rfl, by simp [rpC], .inl ⟨.inl rfl, rfl⟩⟩, .refl _, fun c hc => by cases hc⟩ ?_
  clear he e
  rintro _ e υ ⟨i, v, rfl, hi, he, hv, hE, hn⟩
  have h5 := h4.ext hE
  repeat refine Zac ?_
  first|refine Zaa ?_|refine Zad ?_
  refine Zab (Zae rfl he.2.2 ?_)
  refine ZcX (b := rb) he.1 ZaF rfl h5.obj rfl Zca ZbR fun u1 u2 u3 => ?_
  refine Zab ?_
  refine ZbS rfl h5.pc rfl ZbE ?_
  refine Zab ?_
  refine Zbs i ps1.length rfl rfl ?_
  refine Zaf ?_
  apply ZaP 0 9 10 93
  iterate 4 ·simp only [EV,Nat.reduceEqDiff,↓reduceIte,he];try rfl
  clear he e
  intro e he
  refine Zav (t := decide (i < ps1.length)) he.2.2.2 (fun ht => ?_) (fun ht => ?_)
  ·have hlt : i < ps1.length := of_decide_eq_true ht
   have hfs := ZiR (p := fun p : List UInt8 × Nat => decide (0 < p.2)) hlt
   have hfle := List.length_filter_le (fun p : List UInt8 × Nat => decide (0 < p.2)) (ps1.take i)
   rw [List.length_take] at hfle
   refine Zaz ?_
   refine ZaZ (fun env υ => ∃ v, (env 0 = ptr rb 0 /\ env 9 = v /\ env 10 = vI i) /\ Hd υ 105 2 v ((ps1.take (i + 1)).filter fun p => decide (0 < p.2)).length (rpC ((ps1.take (i + 1)).filter fun p => decide (0 < p.2))) /\ Ext υ4 υ /\ (∀ c, hbk v = some c -> Za0 υ4 c)) ?_ ?_
   ·refine ZaT ?_
    repeat refine Zac ?_
    first|refine Zaa ?_|refine Zad ?_
    refine ZcX (b := rb) he.1 ZaF rfl h5.obj rfl Zca ZbR fun u1 u2 u3 => ?_
    refine Zab (Zae rfl he.2.2.1 ?_)
    refine Ze6 rfl rfl ZbE Zby h5.pc hlt Zc1 rfl (ZiQ hlt).2 Zck Zcc fun u1 u2 => ?_
    refine Zab ?_
    refine ZfX (k := .i64) (a := (ps1[i].2 : Int)) (b := 0) rfl rfl ?_
    rw [show decide ((0 : Int) < (ps1[i].2 : Int)) = decide (0 < ps1[i].2) by congr 1; exact propext (by omega)]
    refine Zaf ?_
    apply ZaP 0 9 10 104
    iterate 4 ·simp only [EV,Nat.reduceEqDiff,↓reduceIte,he];try rfl
    clear he e
    intro e he
    refine ZaS (t := decide (0 < ps1[i].2)) he.2.2.2 (fun hq => ?_) (fun hq => ?_)
    ·refine Zad ?_
     refine Zab (Zae rfl he.2.1 ?_)
     refine ZcX (b := rb) he.1 ZaF rfl h5.obj rfl Zca ZbR fun u1 u2 u3 => ?_
     refine Zab (Zae rfl he.2.2.1 ?_)
     refine ZnO rfl rfl ZbE Zby h5.pc hlt ZhR fun u1 => ?_
     rw [Zjv hlt]
     refine Zab ?_
     refine Zdr (vs := [.agg (PW ps1[i])]) (cells := PW ps1[i]) (by simp only [List.map_cons, List.map_nil, EV,Nat.reduceEqDiff,↓reduceIte,he];try rfl) ZbE Zby Zdc rfl (by omega) rfl rfl fun b1 υ1 hN1 hX1 => ?_
     refine Zab ?_
     refine Za9 (m := 1) (news := PW ps1[i]) (r := .lst (some ⟨b1, 0, none⟩) 1 1 (PW ps1[i] ++ [])) rfl rfl ZbE Zby Zdc Zf8 rfl (by omega) (hv.ext hX1) (ZbY rfl (Zmd rfl rfl) (fun q => by cases q)) (by unfold maxLen; omega) (by omega) fun v2 υ2 hv2 hB2 hn2 => ?_
     refine Zab (Zae rfl (by simp only [EV,Nat.reduceEqDiff,↓reduceIte,he];try rfl) ?_)
     refine Zaf ?_
     have hE1 := hE.trans hX1
     have hE2 : Ext υ4 υ2 := But.ext hE1 (fun c hc => (hn c hc).1) hB2
     refine ⟨rfl, v2, ⟨by simp only [EV,Nat.reduceEqDiff,↓reduceIte,he];try rfl, by simp only [EV,Nat.reduceEqDiff,↓reduceIte,he];try rfl, by simp only [EV,Nat.reduceEqDiff,↓reduceIte,he];try rfl⟩, ?_, hE2, fun c hc => ?_⟩
     ·rw [hfs, if_pos hq, List.length_append, Zjw]
      exact hv2
     ·rcases hn2 c hc with q | q
      ·exact hn c q
      ·exact Za0.of q hE1
    ·refine Zbq ?_
     refine ⟨rfl, v, ⟨by simp only [EV,Nat.reduceEqDiff,↓reduceIte,he];try rfl, by simp only [EV,Nat.reduceEqDiff,↓reduceIte,he];try rfl, by simp only [EV,Nat.reduceEqDiff,↓reduceIte,he];try rfl⟩, ?_, hE, hn⟩
     rw [hfs, if_neg (by rw [hq]; simp), List.append_nil]
     exact hv
   clear he e hv hE hn
   rintro e υ ⟨v, he, hv, hE, hn⟩
   refine Zad ?_
   refine Zab (Zae rfl he.2.2 ?_)
   refine Zab ?_
   refine ZaU i 1 rfl rfl (by omega) ?_
   refine Zab (Zae rfl (by simp only [EV,Nat.reduceEqDiff,↓reduceIte,he];try rfl) ?_)
   refine Zaf ?_
   show ∃ n', n' < _ /\ _
   exact ⟨_, (by omega : ps1.length - (i + 1) < ps1.length - i), i + 1, v, rfl, hlt, ⟨by simp only [EV,Nat.reduceEqDiff,↓reduceIte,he];try rfl, by simp only [EV,Nat.reduceEqDiff,↓reduceIte,he];try rfl, by simp only [EV,Nat.reduceEqDiff,↓reduceIte,he];try rfl⟩, hv, hE, hn⟩
  ·have hke : i = ps1.length := by have := of_decide_eq_false ht; omega
   subst hke
   rw [List.take_length] at hv
   refine Zbe ?_
   exact ⟨rfl, v, ⟨by simp only [EV,Nat.reduceEqDiff,↓reduceIte,he];try rfl, by simp only [EV,Nat.reduceEqDiff,↓reduceIte,he];try rfl⟩, hv, hE, hn⟩
 clear he e
 rintro e υ ⟨v, he, hv, hE, hn⟩
 have h5 := h4.ext hE
 refine Zad ?_
 refine Zab (Zae rfl he.1 ?_)
 refine Zab (Zae rfl he.2 ?_)
 refine ZlD (b := rb) rfl ZaF rfl fun u1 => ?_
 refine Zab ?_
 refine ZbQ (b := rb) (o := 0 + 2) (v := v) rfl rfl h5.obj ZbR hv.oneV (by simp) fun υ6 hb6 k6 => ?_
 refine Zaf ?_
 have hv6 : Hd υ6 105 2 v (ps1.filter fun p => decide (0 < p.2)).length (rpC (ps1.filter fun p => decide (0 < p.2))) := hv.but k6 fun c hc hq => ZcN hv h5.obj (by decide) hc hq
 have h6 := h5.setP (k6.sub fun c hc => .inl hc) hb6 hv6
 refine ⟨_, Zce rfl, hK' υ6 _ v h6 ((hBS4.trans hE.but).trans (k6.sub fun c hc => by rw [hc]; exact h.own.1)) (fun c hc => .inl (hSS1 c hc)) fun c hc => ?_⟩
 rcases hc with hc | hc
 ·exact hS4 c hc
 ·exact ZcB hBS4 (hn c hc) |>.imp (fun q => q) id
end
end Go.Proofs.Ytinpiaibhjmfaaa
namespace Go.Proofs.Ytinpiaibhjmfaaa
open Go.RowKit
set_option maxRecDepth 100000
set_option linter.unusedVariables false
set_option linter.unusedSimpArgs false
def Zem (l : List Rw) : Nat := (l.map (·.d.length)).sum
theorem ZhV {r : Rw} : ∀ {l : List Rw}, r ∈ l -> r.d.length <= Zem l
 | a :: l, h => by
  have e : Zem (a :: l) = a.d.length + Zem l := by simp [Zem]
  rcases List.mem_cons.1 h with rfl | h
  ·omega
  ·have := ZhV h
   omega
theorem Zmh (l : List Rw) (i : Nat) : Zem (l.take i) <= Zem l := by
 have e : Zem l = Zem (l.take i) + Zem (l.drop i) := by
  unfold Zem
  conv => lhs; rw [<- List.take_append_drop i l, List.map_append, List.sum_append]
 omega
theorem Zmi {l : List Rw} {i : Nat} (h : i < l.length) : Zem (l.take (i + 1)) = Zem (l.take i) + l[i].d.length := by
 unfold Zem
 rw [List.take_succ_eq_append_getElem h, List.map_append, List.sum_append]
 simp
def ZhW (l : List Rw) (k : List UInt8) (l1 : List Rw) (i : Nat) : Prop :=
 (l1 = l /\ ∃ hi : i < l.length, l[i].nm = k) \/ ((∀ r ∈ l, r.nm ≠ k) /\ i <= l.length /\ (∀ r ∈ l.take i, r.nm < k) /\ (∀ hi : i < l.length, ¬ l[i].nm < k) /\ l1 = l.take i ++ ⟨k, .lst none 0 0 [], []⟩ :: l.drop i)
theorem ZhW.at_ {l l1 : List Rw} {k : List UInt8} {i : Nat} (h : ZhW l k l1 i) : ∃ hi : i < l1.length, l1[i].nm = k /\ l1.length <= l.length + 1 /\ Zem l1 = Zem l := by
 rcases h with ⟨rfl, hi, hn⟩ | ⟨_, hi, _, _, rfl⟩
 ·exact ⟨hi, hn, Nat.le_succ _, rfl⟩
 ·have hl : (l.take i).length = i := by rw [List.length_take]; omega
  refine ⟨by rw [List.length_append, hl, List.length_cons]; omega, ?_, by rw [List.length_append, hl, List.length_cons, List.length_drop]; omega, ?_⟩
  ·rw [List.getElem_append_right (by omega)]
   simp [hl]
  ·unfold Zem
   rw [List.map_append, List.map_cons, List.sum_append, List.sum_cons]
   show _ + (0 + _) = _
   rw [Nat.zero_add, <- List.sum_append, <- List.map_append, List.take_append_drop]
def ZpL (l : List Rw) (ps : PL) (k d : List UInt8) (l' : List Rw) (ps' : PL) : Prop :=
 ∃ l1 i v' d0, ZhW l k l1 i /\ (∃ hi : i < l1.length, l1[i].d = d0) /\ l' = l1.set i ⟨k, v', d0 ++ d⟩ /\ ps' = ps ++ (if d = [] then [] else [(k, d.length)])
section
variable {σ τ : St} {rb : Nat} {S : Nat -> Prop} {l : List Rw} {ps : PL} {size : Int} {fv pv : AV} {K : AV -> St -> Prop}
set_option maxHeartbeats 4000000 in
theorem ZkM (h : RAt σ rb S l ps size fv pv) {k : List UInt8} {pa : List (List UInt8)} {vP : AV} (hP : SV CT 0 ZdC (.sl 3 pa none) vP) (hl : l.length <= 10000000) (hp : ps.length <= 10000000) (hpl : pa.length <= 1000000) (hb : pa.flatten.length + Zem l <= 100000000)
 (hK2 : ¬ (k ≠ [] /\ k.length <= 40) -> ∀ τ, Ext σ τ -> K (vI 2) τ)
 (hK8 : (k ≠ [] /\ k.length <= 40) -> ¬ (size < 1 \/ ((pa.flatten.length + Zem l : Nat) : Int) <= size) -> ∀ τ, Ext σ τ -> K (vI 8) τ)
 (hK0 : (k ≠ [] /\ k.length <= 40) -> (size < 1 \/ ((pa.flatten.length + Zem l : Nat) : Int) <= size) -> ∀ τ S' l' ps' fv' pv', RAt τ rb S' l' ps' size fv' pv' -> But S σ τ -> (∀ c, S c -> S' c) -> (∀ c, S' c -> S c \/ Za0 σ c) -> ZpL l ps k pa.flatten l' ps' -> K (vI 0) τ) :
 Zat Try.prog 47 [ptr rb 0, .raw (sV k), vP] σ K := by
 obtain ⟨A, c, cs, rest, rfl, l1, l2, l3, l4, l5⟩ := Zd2.1 hP
 have hA : A = none -> pa.length = 0 := fun q => (l4 q).1
 have hfl := fun i => ZlO pa i
 refine Zam Zas Try.func47 rfl rfl rfl (Nat.le_of_ble_eq_true rfl) ?_
 refine ZaL 0 1 2 (v0 := ptr rb 0) (v1 := .raw (sV k)) (v2 := .lst A pa.length c (cs ++ rest)) rfl rfl rfl ?_
 intro e he
 repeat refine Zac ?_
 first|refine Zaa ?_|refine Zad ?_
 refine Zab (Zae rfl (by simp only [EV,Nat.reduceEqDiff,↓reduceIte,he];try rfl) ?_)
 refine Zaf ?_
 apply ZaL 0 1 2
 iterate 3 ·simp only [EV,Nat.reduceEqDiff,↓reduceIte,he];try rfl
 clear he e
 intro e he
 repeat refine Zac ?_
 first|refine Zaa ?_|refine Zad ?_
 refine Zab (Zae rfl he.2.1 ?_)
 refine Zab ?_
 refine Zao (vs := [.raw (sV k)]) (by simp only [List.map_cons, List.map_nil, EV,Nat.reduceEqDiff,↓reduceIte,he];try rfl) ?_
 refine ZiC k _ fun σ1 hX1 => ?_
 refine Zab ?_
 with_reducible apply ZbB
 case hx => simp only [EV,Nat.reduceEqDiff,↓reduceIte,he];try rfl
 refine Zaf ?_
 apply ZaP 0 1 2 15
 iterate 4 ·simp only [EV,Nat.reduceEqDiff,↓reduceIte,he];try rfl
 clear he e
 intro e he
 refine Zav (t := !decide (k ≠ [] /\ k.length <= 40)) he.2.2.2 (fun hk => ?_) (fun hk => ?_)
 ·rw [Bool.not_eq_true'] at hk
  repeat refine Zac ?_
  first|refine Zaa ?_|refine Zad ?_
  refine Zab (Zae rfl (by simp only [EV,Nat.reduceEqDiff,↓reduceIte,he];try rfl) ?_)
  refine Zaf ?_
  refine Zcw ?_
  show ∃ r, Zaj _ _ _ _ r /\ _
  exact ⟨_, Zal rfl rfl, hK2 (of_decide_eq_false hk) σ1 hX1⟩
 rw [Bool.not_eq_false'] at hk
 have hk := of_decide_eq_true hk
 have h1 := h.ext hX1
 refine Zaz ?_
 repeat refine Zac ?_
 first|refine Zaa ?_|refine Zad ?_
 refine Zab (Zae rfl (by simp only [EV,Nat.reduceEqDiff,↓reduceIte,he];try rfl) ?_)
 refine Zaf ?_
 apply ZaP 0 1 2 7
 iterate 4 ·simp only [EV,Nat.reduceEqDiff,↓reduceIte,he];try rfl
 clear he e
 intro e he
 repeat refine Zac ?_
 first|refine Zaa ?_|refine Zad ?_
 refine Zab (Zae rfl (by simp only [EV,Nat.reduceEqDiff,↓reduceIte,he];try rfl) ?_)
 refine Zaf ?_
 apply Zb6 0 1 2 7 8
 iterate 5 ·simp only [EV,Nat.reduceEqDiff,↓reduceIte,he];try rfl
 clear he e
 intro e he
 refine ZaZ (fun env υ => (env 0 = ptr rb 0 /\ env 1 = .raw (sV k) /\ env 2 = .lst A pa.length c (cs ++ rest) /\ env 7 = vI (Zem l)) /\ σ1 = υ) ?_ ?_
 ·refine ZaT ?_
  refine ZaV (fun μ env υ => ∃ (i : Nat), μ = l.length - i /\ i <= l.length /\ (env 0 = ptr rb 0 /\ env 1 = .raw (sV k) /\ env 2 = .lst A pa.length c (cs ++ rest) /\ env 7 = vI (Zem (l.take i)) /\ env 8 = vI i) /\ σ1 = υ) ⟨_, 0, rfl, Nat.zero_le _, he, rfl⟩ ?_
  clear he e
  rintro _ e _ ⟨i, rfl, hi, he, rfl⟩
  repeat refine Zac ?_
  first|refine Zaa ?_|refine Zad ?_
  refine Zab (Zae rfl he.2.2.2.2 ?_)
  refine ZcX (b := rb) he.1 ZaF rfl h1.obj rfl ZbX ZbF fun u1 u2 u3 => ?_
  refine Zab ?_
  refine ZbS rfl h1.fl rfl Zbh ?_
  refine Zab ?_
  refine Zbs i l.length rfl rfl ?_
  refine Zaf ?_
  apply ZdN 0 1 2 7 8 22
  iterate 6 ·simp only [EV,Nat.reduceEqDiff,↓reduceIte,he];try rfl
  clear he e
  intro e he
  refine Zav (t := decide (i < l.length)) he.2.2.2.2.2 (fun ht => ?_) (fun ht => ?_)
  ·have hlt : i < l.length := of_decide_eq_true ht
   have hs1 := Zmi hlt
   have hs2 := Zmh l (i + 1)
   refine Zaz ?_
   refine ZaD ?_
   refine Zad ?_
   refine Zab (Zae rfl he.2.2.2.1 ?_)
   refine ZcX (b := rb) he.1 ZaF rfl h1.obj rfl ZbX ZbF fun u1 u2 u3 => ?_
   refine Zab (Zae rfl he.2.2.2.2.1 ?_)
   refine Ze6 rfl rfl Zbh ZbA h1.fl hlt Zcx rfl (Zeh hlt).2 ZbO ZaJ fun u1 u2 => ?_
   refine Zab ?_
   refine ZbS rfl (h1.row _ (List.getElem_mem hlt)) rfl Zaw ?_
   refine Zab ?_
   refine ZaU (Zem (l.take i)) (l[i].d.length) rfl rfl (by omega) ?_
   refine Zab (Zae rfl (by simp only [EV,Nat.reduceEqDiff,↓reduceIte,he];try rfl) ?_)
   refine Zaf ?_
   rw [<- hs1]
   show Zay _ _ _ _ _ _
   apply Zb6 0 1 2 7 8
   iterate 5 ·simp only [EV,Nat.reduceEqDiff,↓reduceIte,he];try rfl
   clear he e
   intro e he
   refine Zad ?_
   refine Zab (Zae rfl he.2.2.2.2 ?_)
   refine Zab ?_
   refine ZaU i 1 rfl rfl (by omega) ?_
   refine Zab (Zae rfl (by simp only [EV,Nat.reduceEqDiff,↓reduceIte,he];try rfl) ?_)
   refine Zaf ?_
   show ∃ n', n' < _ /\ _
   exact ⟨_, (by omega : l.length - (i + 1) < l.length - i), i + 1, rfl, hlt, ⟨by simp only [EV,Nat.reduceEqDiff,↓reduceIte,he];try rfl, by simp only [EV,Nat.reduceEqDiff,↓reduceIte,he];try rfl, by simp only [EV,Nat.reduceEqDiff,↓reduceIte,he];try rfl, by simp only [EV,Nat.reduceEqDiff,↓reduceIte,he];try rfl, by simp only [EV,Nat.reduceEqDiff,↓reduceIte,he];try rfl⟩, rfl⟩
  ·have hke : i = l.length := by have := of_decide_eq_false ht; omega
   refine Zbe ?_
   have h7 := he.2.2.2.1
   rw [hke, List.take_length] at h7
   exact ⟨rfl, ⟨by simp only [EV,Nat.reduceEqDiff,↓reduceIte,he];try rfl, by simp only [EV,Nat.reduceEqDiff,↓reduceIte,he];try rfl, by simp only [EV,Nat.reduceEqDiff,↓reduceIte,he];try rfl, h7⟩, rfl⟩
 clear he e
 rintro e _ ⟨he, rfl⟩
 repeat refine Zac ?_
 first|refine Zaa ?_|refine Zad ?_
 refine Zab (Zae rfl (by simp only [EV,Nat.reduceEqDiff,↓reduceIte,he];try rfl) ?_)
 refine Zaf ?_
 apply Zb6 0 1 2 7 9
 iterate 5 ·simp only [EV,Nat.reduceEqDiff,↓reduceIte,he];try rfl
 clear he e
 intro e he
 refine ZaZ (fun env υ => (env 0 = ptr rb 0 /\ env 1 = .raw (sV k) /\ env 2 = .lst A pa.length c (cs ++ rest) /\ env 7 = vI (Zem l + pa.flatten.length : Nat)) /\ σ1 = υ) ?_ ?_
 ·refine ZaT ?_
  refine ZaV (fun μ env υ => ∃ (i : Nat), μ = pa.length - i /\ i <= pa.length /\ (env 0 = ptr rb 0 /\ env 1 = .raw (sV k) /\ env 2 = .lst A pa.length c (cs ++ rest) /\ env 7 = vI (Zem l + (pa.take i).flatten.length : Nat) /\ env 9 = vI i) /\ σ1 = υ) ⟨_, 0, rfl, Nat.zero_le _, he, rfl⟩ ?_
  clear he e
  rintro _ e _ ⟨i, rfl, hi, he, rfl⟩
  repeat refine Zac ?_
  first|refine Zaa ?_|refine Zad ?_
  refine Zab (Zae rfl he.2.2.2.2 ?_)
  refine Zab (Zae rfl he.2.2.1 ?_)
  refine Zab ?_
  refine Zcz (n := pa.length) (c := c) (A := A) rfl rfl rfl Zba ?_
  refine Zab ?_
  refine Zbs i pa.length rfl rfl ?_
  refine Zaf ?_
  apply ZdN 0 1 2 7 9 39
  iterate 6 ·simp only [EV,Nat.reduceEqDiff,↓reduceIte,he];try rfl
  clear he e
  intro e he
  refine Zav (t := decide (i < pa.length)) he.2.2.2.2.2 (fun ht => ?_) (fun ht => ?_)
  ·have hlt : i < pa.length := of_decide_eq_true ht
   obtain ⟨v, hv, hvs⟩ := ZhQ l5 i hlt
   obtain ⟨Av, cv, rv, hvf, hvL⟩ := Zfn hvs
   subst hvf
   have hsn := Zfo pa i hlt
   have hf1 := hfl (i + 1)
   rw [hsn, List.length_append] at hf1
   refine Zaz ?_
   refine ZaD ?_
   refine Zad ?_
   refine Zab (Zae rfl he.2.2.2.1 ?_)
   refine Zab (Zae rfl he.2.2.1 ?_)
   refine Zab (Zae rfl he.2.2.2.2.1 ?_)
   refine Zab ?_
   refine Zcs (k := .i64) (j := i) (A := A) (n := pa.length) (c := c) (cells := cs ++ rest) rfl rfl Zba ZaJ hlt hA rfl fun ad => ?_
   refine Zab ?_
   refine ZcD (r := .lst Av pa[i].length cv (bys pa[i] ++ rv)) rfl ZbO ZaJ ?_ ?_
   ·show ((cs ++ rest).drop (i * 1))[0]? = _
    rw [List.getElem?_drop, Nat.mul_one, Nat.add_zero, List.getElem?_append_left (Zbr hv)]
    exact hv
   refine Zab ?_
   refine Zcz (n := pa[i].length) (c := cv) (A := Av) rfl rfl rfl Zaw ?_
   refine Zab ?_
   refine ZaU (Zem l + (pa.take i).flatten.length) (pa[i].length) rfl rfl (by omega) ?_
   refine Zab (Zae rfl (by simp only [EV,Nat.reduceEqDiff,↓reduceIte,he];try rfl) ?_)
   refine Zaf ?_
   have e1 : Zem l + (pa.take i).flatten.length + pa[i].length = Zem l + (pa.take (i + 1)).flatten.length := by rw [hsn, List.length_append]; omega
   rw [e1]
   show Zay _ _ _ _ _ _
   apply Zb6 0 1 2 7 9
   iterate 5 ·simp only [EV,Nat.reduceEqDiff,↓reduceIte,he];try rfl
   clear he e
   intro e he
   refine Zad ?_
   refine Zab (Zae rfl he.2.2.2.2 ?_)
   refine Zab ?_
   refine ZaU i 1 rfl rfl (by omega) ?_
   refine Zab (Zae rfl (by simp only [EV,Nat.reduceEqDiff,↓reduceIte,he];try rfl) ?_)
   refine Zaf ?_
   show ∃ n', n' < _ /\ _
   exact ⟨_, (by omega : pa.length - (i + 1) < pa.length - i), i + 1, rfl, hlt, ⟨by simp only [EV,Nat.reduceEqDiff,↓reduceIte,he];try rfl, by simp only [EV,Nat.reduceEqDiff,↓reduceIte,he];try rfl, by simp only [EV,Nat.reduceEqDiff,↓reduceIte,he];try rfl, by simp only [EV,Nat.reduceEqDiff,↓reduceIte,he];try rfl, by simp only [EV,Nat.reduceEqDiff,↓reduceIte,he];try rfl⟩, rfl⟩
  ·have hke : i = pa.length := by have := of_decide_eq_false ht; omega
   refine Zbe ?_
   have h7 := he.2.2.2.1
   rw [hke, List.take_length] at h7
   exact ⟨rfl, ⟨by simp only [EV,Nat.reduceEqDiff,↓reduceIte,he];try rfl, by simp only [EV,Nat.reduceEqDiff,↓reduceIte,he];try rfl, by simp only [EV,Nat.reduceEqDiff,↓reduceIte,he];try rfl, h7⟩, rfl⟩
 clear he e
 rintro e _ ⟨he, rfl⟩
 refine Zac ?_
 refine ZaZ (fun env υ => (env 0 = ptr rb 0 /\ env 1 = .raw (sV k) /\ env 2 = .lst A pa.length c (cs ++ rest) /\ env 61 = vT (!decide (size < 1 \/ ((pa.flatten.length + Zem l : Nat) : Int) <= size))) /\ σ1 = υ) ?_ ?_
 ·refine Zad ?_
  refine ZcX (b := rb) he.1 ZaF rfl h1.obj rfl Zck Zcc fun u1 u2 u3 => ?_
  refine Zab ?_
  refine ZfX (k := .i64) (a := size) (b := 0) rfl rfl ?_
  refine Zab (Zae rfl (by simp only [EV,Nat.reduceEqDiff,↓reduceIte,he];try rfl) ?_)
  by_cases hz : 0 < size
  ·rw [decide_eq_true hz]
   refine Zab (Zah (ZaN rfl (by simp only [EV,Nat.reduceEqDiff,↓reduceIte,he];try rfl)) ?_)
   refine Zae rfl (v := vI (Zem l + pa.flatten.length : Nat)) he.2.2.2 ?_
   refine Zab (Zah (ZaN rfl (by simp only [EV,Nat.reduceEqDiff,↓reduceIte,he];try rfl)) ?_)
   refine Zae rfl (v := ptr rb 0) he.1 ?_
   refine Zab (Zah (ZaN rfl (by simp only [EV,Nat.reduceEqDiff,↓reduceIte,he];try rfl)) ?_)
   refine Zak (v := ptr rb 0) rfl rfl ?_
   refine Zab (Zah (ZaN rfl (by simp only [EV,Nat.reduceEqDiff,↓reduceIte,he];try rfl)) ?_)
   refine Zag (b := rb) (o := 0) rfl ZaF rfl ?_
   refine Zab (Zah (ZaN rfl (by simp only [EV,Nat.reduceEqDiff,↓reduceIte,he];try rfl)) ?_)
   refine Zar (b := rb) (o := 0 + 0) (r := .raw (.int .i64 size)) rfl h1.obj Zck Zcc rfl ?_
   refine Zab (Zah (ZaN rfl (by simp only [EV,Nat.reduceEqDiff,↓reduceIte,he];try rfl)) ?_)
   refine ZfX (k := .i64) (a := ((Zem l + pa.flatten.length : Nat) : Int)) (b := size) rfl rfl ?_
   refine Zab ?_
   refine ZaG (v := vT (decide (size < ((Zem l + pa.flatten.length : Nat) : Int)))) rfl rfl ?_
   refine Zaf ?_
   refine ⟨rfl, ⟨by simp only [EV,Nat.reduceEqDiff,↓reduceIte,he];try rfl, by simp only [EV,Nat.reduceEqDiff,↓reduceIte,he];try rfl, by simp only [EV,Nat.reduceEqDiff,↓reduceIte,he];try rfl, ?_⟩, rfl⟩
   rw [show (!decide (size < 1 \/ ((pa.flatten.length + Zem l : Nat) : Int) <= size)) = decide (size < ((Zem l + pa.flatten.length : Nat) : Int)) by
    rw [<- decide_not]
    congr 1
    exact propext (by omega)]
   simp only [EV,Nat.reduceEqDiff,↓reduceIte,he];try rfl
  ·rw [decide_eq_false hz]
   refine Zab (Zan (ZaN rfl (by simp only [EV,Nat.reduceEqDiff,↓reduceIte,he];try rfl)) ?_)
   refine Zab (Zan (ZaN rfl (by simp only [EV,Nat.reduceEqDiff,↓reduceIte,he];try rfl)) ?_)
   refine Zab (Zan (ZaN rfl (by simp only [EV,Nat.reduceEqDiff,↓reduceIte,he];try rfl)) ?_)
   refine Zab (Zan (ZaN rfl (by simp only [EV,Nat.reduceEqDiff,↓reduceIte,he];try rfl)) ?_)
   refine Zab (Zan (ZaN rfl (by simp only [EV,Nat.reduceEqDiff,↓reduceIte,he];try rfl)) ?_)
   refine Zab (Zan (ZaN rfl (by simp only [EV,Nat.reduceEqDiff,↓reduceIte,he];try rfl)) ?_)
   refine Zab ?_
   refine Za2 (v := vT false) rfl rfl ?_
   refine Zaf ?_
   refine ⟨rfl, ⟨by simp only [EV,Nat.reduceEqDiff,↓reduceIte,he];try rfl, by simp only [EV,Nat.reduceEqDiff,↓reduceIte,he];try rfl, by simp only [EV,Nat.reduceEqDiff,↓reduceIte,he];try rfl, ?_⟩, rfl⟩
   rw [decide_eq_true (.inl (by omega))]
   simp only [EV,Nat.reduceEqDiff,↓reduceIte,he];try rfl
 clear he e
 rintro e _ ⟨he, rfl⟩
 refine Zav (t := !decide (size < 1 \/ ((pa.flatten.length + Zem l : Nat) : Int) <= size)) he.2.2.2 (fun hf => ?_) (fun hf => ?_)
 ·rw [Bool.not_eq_true'] at hf
  repeat refine Zac ?_
  first|refine Zaa ?_|refine Zad ?_
  refine Zab (Zae rfl (by simp only [EV,Nat.reduceEqDiff,↓reduceIte,he];try rfl) ?_)
  refine Zaf ?_
  refine Zcw ?_
  show ∃ r, Zaj _ _ _ _ r /\ _
  exact ⟨_, Zal rfl rfl, hK8 hk (of_decide_eq_false hf) σ1 hX1⟩
 rw [Bool.not_eq_false'] at hf
 have hf := of_decide_eq_true hf
 refine Zaz ?_
 refine ZaZ (fun env υ => ∃ S1 l1 fv1, ∃ i : Nat, (env 0 = ptr rb 0 /\ env 1 = .raw (sV k) /\ env 2 = .lst A pa.length c (cs ++ rest) /\ env 10 = vI i) /\ RAt υ rb S1 l1 ps size fv1 pv /\ ZhW l k l1 i /\ But S σ υ /\ (∀ c, S c -> S1 c) /\ (∀ c, S1 c -> S c \/ Za0 σ c)) ?_ ?_
 ·refine Zad ?_
  refine Zab (Zae rfl he.1 ?_)
  refine Zab (Zae rfl he.2.1 ?_)
  refine Zab ?_
  refine Zao (vs := [ptr rb 0, .raw (sV k)]) (by simp only [List.map_cons, List.map_nil, EV,Nat.reduceEqDiff,↓reduceIte,he];try rfl) ?_
  refine Zmf h1 (by omega) (fun i hi hn => ?_) fun hno i hi q1 q2 τ S1 fv1 d1 d2 d3 d4 => ?_
  ·refine Zab (Zae rfl (by simp only [EV,Nat.reduceEqDiff,↓reduceIte,he];try rfl) ?_)
   refine Zaf ?_
   exact ⟨rfl, S, l, fv, i, ⟨by simp only [EV,Nat.reduceEqDiff,↓reduceIte,he];try rfl, by simp only [EV,Nat.reduceEqDiff,↓reduceIte,he];try rfl, by simp only [EV,Nat.reduceEqDiff,↓reduceIte,he];try rfl, by simp only [EV,Nat.reduceEqDiff,↓reduceIte,he];try rfl⟩, h1, .inl ⟨rfl, hi, hn⟩, hX1.but, fun c hc => hc, fun c hc => .inl hc⟩
  ·refine Zab (Zae rfl (by simp only [EV,Nat.reduceEqDiff,↓reduceIte,he];try rfl) ?_)
   refine Zaf ?_
   exact ⟨rfl, S1, _, fv1, i, ⟨by simp only [EV,Nat.reduceEqDiff,↓reduceIte,he];try rfl, by simp only [EV,Nat.reduceEqDiff,↓reduceIte,he];try rfl, by simp only [EV,Nat.reduceEqDiff,↓reduceIte,he];try rfl, by simp only [EV,Nat.reduceEqDiff,↓reduceIte,he];try rfl⟩, d1, .inr ⟨hno, hi, q1, q2, rfl⟩, hX1.but.trans d2, d3, fun c hc => (d4 c hc).imp id fun q => q.of hX1⟩
 clear he e h1
 rintro e υ1 ⟨S1, l1, fv1, i, he, h1, hM, hB1, hS1, hS2⟩
 obtain ⟨hi, hn, hlen, hsum⟩ := hM.at_
 repeat refine Zac ?_
 first|refine Zaa ?_|refine Zad ?_
 refine Zab (Zae rfl (by simp only [EV,Nat.reduceEqDiff,↓reduceIte,he];try rfl) ?_)
 refine Zaf ?_
 apply Zb6 0 1 2 10 11
 iterate 5 ·simp only [EV,Nat.reduceEqDiff,↓reduceIte,he];try rfl
 clear he e
 intro e he
 repeat refine Zac ?_
 first|refine Zaa ?_|refine Zad ?_
 refine Zab (Zae rfl (by simp only [EV,Nat.reduceEqDiff,↓reduceIte,he];try rfl) ?_)
 refine Zaf ?_
 apply ZdN 0 1 2 10 11 12
 iterate 6 ·simp only [EV,Nat.reduceEqDiff,↓reduceIte,he];try rfl
 clear he e
 intro e he
 refine ZaZ (fun env υ => ∃ S2 v2, (env 0 = ptr rb 0 /\ env 1 = .raw (sV k) /\ env 11 = vI pa.flatten.length) /\ RAt υ rb S2 (l1.set i ⟨k, v2, l1[i].d ++ pa.flatten⟩) ps size fv1 pv /\ But S σ υ /\ (∀ c, S c -> S2 c) /\ (∀ c, S2 c -> S c \/ Za0 σ c)) ?_ ?_
 ·refine ZaT ?_
  refine ZaV (fun μ env υ => ∃ (j : Nat), ∃ S2 v2, μ = pa.length - j /\ j <= pa.length /\ (env 0 = ptr rb 0 /\ env 1 = .raw (sV k) /\ env 2 = .lst A pa.length c (cs ++ rest) /\ env 10 = vI i /\ env 11 = vI (pa.take j).flatten.length /\ env 12 = vI j) /\ RAt υ rb S2 (l1.set i ⟨k, v2, l1[i].d ++ (pa.take j).flatten⟩) ps size fv1 pv /\ But S σ υ /\ (∀ c, S c -> S2 c) /\ (∀ c, S2 c -> S c \/ Za0 σ c)) ⟨_, 0, S1, l1[i].v, rfl, Nat.zero_le _, he, ?_, hB1, hS1, hS2⟩ ?_
  ·have e1 : l1.set i ⟨k, l1[i].v, l1[i].d ++ (pa.take 0).flatten⟩ = l1 := by
    rw [List.take_zero, List.flatten_nil, List.append_nil, <- hn]
    exact List.set_getElem_self hi
   rw [e1]
   exact h1
  clear he e h1 hB1 hS1 hS2
  rintro _ e υ ⟨j, S2, v2, rfl, hj, he, h2, hB2, hS21, hS22⟩
  repeat refine Zac ?_
  first|refine Zaa ?_|refine Zad ?_
  refine Zab (Zae rfl he.2.2.2.2.2 ?_)
  refine Zab (Zae rfl he.2.2.1 ?_)
  refine Zab ?_
  refine Zcz (n := pa.length) (c := c) (A := A) rfl rfl rfl Zba ?_
  refine Zab ?_
  refine Zbs j pa.length rfl rfl ?_
  refine Zaf ?_
  apply Zkz 0 1 2 10 11 12 68
  iterate 7 ·simp only [EV,Nat.reduceEqDiff,↓reduceIte,he];try rfl
  clear he e
  intro e he
  refine Zav (t := decide (j < pa.length)) (by simp only [EV,Nat.reduceEqDiff,↓reduceIte,he];try rfl) (fun ht => ?_) (fun ht => ?_)
  ·have hlt : j < pa.length := of_decide_eq_true ht
   obtain ⟨v, hv, hvs⟩ := ZhQ l5 j hlt
   obtain ⟨Av, cv, rv, hvf, hvL⟩ := Zfn hvs
   subst hvf
   have hsn := Zfo pa j hlt
   have hf0 := hfl j
   have hf1 := hfl (j + 1)
   rw [hsn, List.length_append] at hf1
   have hvi : ((cs ++ rest).drop (j * 1))[0]? = some (.lst Av pa[j].length cv (bys pa[j] ++ rv)) := by
    rw [List.getElem?_drop, Nat.mul_one, Nat.add_zero, List.getElem?_append_left (Zbr hv)]
    exact hv
   have hi2 : i < (l1.set i ⟨k, v2, l1[i].d ++ (pa.take j).flatten⟩).length := by rw [List.length_set]; exact hi
   have hself : (l1.set i ⟨k, v2, l1[i].d ++ (pa.take j).flatten⟩)[i] = ⟨k, v2, l1[i].d ++ (pa.take j).flatten⟩ := List.getElem_set_self _
   have hg := (Zeh hi2).2
   have hrow := h2.row _ (List.getElem_mem hi2)
   rw [hself] at hg hrow
   have hdi : l1[i].d.length <= 100000000 := by
    have := ZhV (List.getElem_mem hi)
    omega
   have hsum2 : l1[i].d.length + pa.flatten.length <= 100000000 := by
    have := ZhV (List.getElem_mem hi)
    omega
   refine Zaz ?_
   refine ZaD ?_
   refine Zb5 ?_
   refine ⟨[0, 1, 2, 4, 5, 6, 7, 9, 13, 14, 15, 3, 8, 10, 11, 12, 16, 17, 18, 19, 20], [[], [0], [0, 1], [0, 1, 2], [], [], [5], [5, 6], [5, 6, 7], [], [5, 6, 7, 8, 9], [5, 6, 7, 8, 9, 10], [5, 6, 7, 8, 9, 10, 11], [], [], [13, 14], [13, 14, 15], [5, 6, 7, 8, 9, 10, 11, 12, 13, 14, 15, 16], [0, 1, 2, 3, 4, 5, 6, 7, 8, 9, 10, 11, 12, 13, 14, 15, 16, 17], [0, 1, 2, 3, 4, 5, 6, 7, 8, 9, 10, 11, 12, 13, 14, 15, 16, 17, 18], [0, 1, 2, 3, 4, 5, 6, 7, 8, 9, 10, 11, 12, 13, 14, 15, 16, 17, 18, 19]], fun b => b = rb, [3], [17], [], by kernel_rfl, ?_⟩
   apply ZaH
   case hi => simp only [HIX]; try rfl
   case hw => rfl
   case how => rfl
   case hl => rfl
   refine Zae rfl (by simp only [EV,Nat.reduceEqDiff,↓reduceIte,he];try rfl) ?_
   refine Zbt ?_
   apply ZaH
   case hi => simp only [HIX]; try rfl
   case hw => rfl
   case how => rfl
   case hl => rfl
   refine Zak (v := ptr rb 0) (by simp only [EV,Nat.reduceEqDiff,↓reduceIte,he];try rfl) rfl ?_
   refine Zbt ?_
   apply ZaH
   case hi => simp only [HIX]; try rfl
   case hw => rfl
   case how => rfl
   case hl => rfl
   refine Zag (b := rb) (o := 0) (by simp only [EV,Nat.reduceEqDiff,↓reduceIte,he];try rfl) ZaF rfl ?_
   refine Zbt ?_
   apply ZaH
   case hi => simp only [HIX]; try rfl
   case hw => rfl
   case how => rfl
   case hl => rfl
   refine Zae rfl (by simp only [EV,Nat.reduceEqDiff,↓reduceIte,he];try rfl) ?_
   refine Zbt ?_
   apply ZaH
   case hi => simp only [HIX]; try rfl
   case hw => rfl
   case how => rfl
   case hl => rfl
   refine Zae rfl (by simp only [EV,Nat.reduceEqDiff,↓reduceIte,he];try rfl) ?_
   refine Zbt ?_
   apply ZaH
   case hi => simp only [HIX]; try rfl
   case hw => rfl
   case how => rfl
   case hl => rfl
   refine Zak (v := ptr rb 0) (by simp only [EV,Nat.reduceEqDiff,↓reduceIte,he];try rfl) rfl ?_
   refine Zbt ?_
   apply ZaH
   case hi => simp only [HIX]; try rfl
   case hw => rfl
   case how => rfl
   case hl => rfl
   refine Zag (b := rb) (o := 0) (by simp only [EV,Nat.reduceEqDiff,↓reduceIte,he];try rfl) ZaF rfl ?_
   refine Zbt ?_
   apply ZaH
   case hi => simp only [HIX]; try rfl
   case hw => rfl
   case how => rfl
   case hl => rfl
   refine Zae rfl (by simp only [EV,Nat.reduceEqDiff,↓reduceIte,he];try rfl) ?_
   refine Zbt ?_
   apply ZaH
   case hi => simp only [HIX]; try rfl
   case hw => rfl
   case how => rfl
   case hl => rfl
   refine Zae rfl (by simp only [EV,Nat.reduceEqDiff,↓reduceIte,he];try rfl) ?_
   refine Zbt ?_
   apply ZaH
   case hi => simp only [HIX]; try rfl
   case hw => rfl
   case how => rfl
   case hl => rfl
   refine Zae rfl (by simp only [EV,Nat.reduceEqDiff,↓reduceIte,he];try rfl) ?_
   refine Zbt ?_
   apply ZaH
   case hi => simp only [HIX]; try rfl
   case hw => rfl
   case how => rfl
   case hl => rfl
   refine Zcs (k := .i64) (j := j) (A := A) (n := pa.length) (c := c) (cells := cs ++ rest) (by simp only [EV,Nat.reduceEqDiff,↓reduceIte,he];try rfl) (by simp only [EV,Nat.reduceEqDiff,↓reduceIte,he];try rfl) Zba ZaJ hlt hA rfl fun ad => ?_
   refine Zbt ?_
   apply Zpv
   case hi => simp only [HIX]; try rfl
   case hw => rfl
   case how => rfl
   case hx => simp only [EV,Nat.reduceEqDiff,↓reduceIte,he];try rfl
   case hp => exact rfl
   case hb => exact h2.obj
   case ha => exact ZbX
   case hn => exact ZbF
   case hr => exact rfl
   apply ZaH
   case hi => simp only [HIX]; try rfl
   case hw => rfl
   case how => rfl
   case hl => rfl
   refine Zar (b := rb) (o := 0 + 1) (r := fv1) (by simp only [EV,Nat.reduceEqDiff,↓reduceIte,he];try rfl) h2.obj ZbX ZbF rfl ?_
   refine Zbt ?_
   apply ZaH
   case hi => simp only [HIX]; try rfl
   case hw => rfl
   case how => rfl
   case hl => rfl
   refine Zbb (k := .i64) (j := i) (by simp only [EV,Nat.reduceEqDiff,↓reduceIte,he];try rfl) (by simp only [EV,Nat.reduceEqDiff,↓reduceIte,he];try rfl) Zbh ZbA h2.fl hi2 fun b1 hb1 => ?_
   refine Zbt ?_
   apply ZaH
   case hi => simp only [HIX]; try rfl
   case hw => rfl
   case how => rfl
   case hl => rfl
   refine Zag (b := b1) (o := i * 2) (by simp only [EV,Nat.reduceEqDiff,↓reduceIte,he];try rfl) Zcx rfl ?_
   refine Zbt ?_
   apply ZaH
   case hi => simp only [HIX]; try rfl
   case hw => rfl
   case how => rfl
   case hl => rfl
   refine ZgC (by simp only [EV,Nat.reduceEqDiff,↓reduceIte,he];try rfl) h2.fl hb1 hg ZbO ZaJ ?_
   refine Zbt ?_
   apply ZaH
   case hi => simp only [HIX]; try rfl
   case hw => rfl
   case how => rfl
   case hl => rfl
   refine ZcD (r := .lst Av pa[j].length cv (bys pa[j] ++ rv)) (by simp only [EV,Nat.reduceEqDiff,↓reduceIte,he];try rfl) ZbO ZaJ hvi ?_
   refine Zbt ?_
   apply ZaH
   case hi => simp only [HIX]; try rfl
   case hw => rfl
   case how => rfl
   case hl => rfl
   refine Za9 (m := pa[j].length) (news := bys pa[j]) (by simp only [EV,Nat.reduceEqDiff,↓reduceIte,he];try rfl) (by simp only [EV,Nat.reduceEqDiff,↓reduceIte,he];try rfl) Zaw Zbf ZbT Zke rfl (by omega) hrow (ZbY (by rw [ZcV, Nat.mul_one]) (Zlo _) fun q => (hvL.none q).1) (by rw [List.length_append]; unfold maxLen; omega) (by rw [List.length_append]; omega) fun v3 υ3 hv3 hB3 hn3 => ?_
   refine ⟨fun _ => hB3.keeps fun b hb hq => ZcN hrow h2.obj (by decide) hq hb, ?_⟩
   have hfl3 := h2.fl.but hB3 fun c hc hq => ZeO h2.fl hrow (by decide) hc hq
   apply ZaH
   case hi => simp only [HIX]; try rfl
   case hw => rfl
   case how => rfl
   case hl => rfl
   refine Zbb (k := .i64) (j := i) (by simp only [EV,Nat.reduceEqDiff,↓reduceIte,he];try rfl) (by simp only [EV,Nat.reduceEqDiff,↓reduceIte,he];try rfl) Zbh ZbA hfl3 hi2 fun b2 hb2 => ?_
   refine Zbt ?_
   apply ZaH
   case hi => simp only [HIX]; try rfl
   case hw => rfl
   case how => rfl
   case hl => rfl
   refine Zag (b := b2) (o := i * 2) (by simp only [EV,Nat.reduceEqDiff,↓reduceIte,he];try rfl) Zcx rfl ?_
   refine Zbt ?_
   apply ZaH
   case hi => simp only [HIX]; try rfl
   case hw => rfl
   case how => rfl
   case hl => rfl
   refine ZeU (v := fv1) (r := v3) (b := b2) (o := i * 2 + 1) (by simp only [EV,Nat.reduceEqDiff,↓reduceIte,he];try rfl) (by simp only [EV,Nat.reduceEqDiff,↓reduceIte,he];try rfl) ZaJ hfl3 hb2 (by omega) ⟨hv3.oneV.2.1, hv3.oneV.2.2, hv3.oneV.1⟩ fun υ4 hf4 k4 => ?_
   refine ⟨(fun hf => by cases hf), ?_⟩
   refine Zlr ?_
   have e3 : (l1[i].d ++ (pa.take j).flatten).length + pa[j].length = (l1[i].d ++ (pa.take (j + 1)).flatten).length := by rw [hsn, List.length_append, List.length_append, List.length_append]; omega
   have e4 : bys (l1[i].d ++ (pa.take j).flatten) ++ bys pa[j] = bys (l1[i].d ++ (pa.take (j + 1)).flatten) := by
    rw [hsn]
    unfold bys
    simp
   rw [e3, e4] at hv3
   have hset := (ZfK (f := fun r : Rw => .raw (sV r.nm)) (g := fun r : Rw => r.v) (l1.set i ⟨k, v2, l1[i].d ++ (pa.take j).flatten⟩) i ⟨k, v3, l1[i].d ++ (pa.take (j + 1)).flatten⟩ hi2 ⟨k, v2, l1[i].d ++ (pa.take j).flatten⟩ (by rw [List.getElem?_eq_getElem hi2, hself])).1 rfl
   have hf5 : Hd υ4 88 2 fv1 (l1.set i ⟨k, v2, l1[i].d ++ (pa.take j).flatten⟩).length (rfC ((l1.set i ⟨k, v2, l1[i].d ++ (pa.take j).flatten⟩).set i ⟨k, v3, l1[i].d ++ (pa.take (j + 1)).flatten⟩)) := by
    rw [<- show _ = rfC _ from hset]
    exact hf4
   have hnm : (l1.set i ⟨k, v2, l1[i].d ++ (pa.take j).flatten⟩)[i].nm = k := by rw [hself]
   have hvv : (l1.set i ⟨k, v2, l1[i].d ++ (pa.take j).flatten⟩)[i].v = v2 := by rw [hself]
   have hB4 : But (fun c => hbk fv1 = some c \/ hbk v2 = some c) υ υ4 := (hB3.sub fun c hc => .inr hc).trans (k4.sub fun c hc => .inl hc)
   have h5 := h2.setR hi2 (v' := v3) (d' := l1[i].d ++ (pa.take (j + 1)).flatten) (by rw [hvv]; exact hB4) (by rw [hnm]; exact hf5) (hv3.but k4 fun c hc hq => ZeO hv3 hfl3 (by decide) hc hq) fun c hc => by rw [hvv]; exact hn3 c hc
   rw [hnm, List.set_set] at h5
   have hS5 : ∀ c, (S2 c \/ hbk v3 = some c) -> S c \/ Za0 σ c := fun c hc => by
    rcases hc with hc | hc
    ·exact hS22 c hc
    ·rcases hn3 c hc with q | q
     ·exact hS22 c (by
       have := h2.own.2.2.1 _ (List.getElem_mem hi2) c
       rw [hvv] at this
       exact this q)
     ·exact ZcB hB2 q
   have hB5 : But S σ υ4 := hB2.ext2 (T := fun c => hbk fv1 = some c \/ hbk v2 = some c) (fun c hc => by
    have hc2 : S2 c := by
     rcases hc with hc | hc
     ·exact h2.own.2.1 c hc
     ·have := h2.own.2.2.1 _ (List.getElem_mem hi2) c
      rw [hvv] at this
      exact this hc
    rcases hS22 c hc2 with q | q
    ·exact .inl q
    ·exact .inr q.1) hB4
   clear hf4 hf5 hset hv3 hB3 hn3 hfl3 hrow k4 hB4
   apply ZdN 0 1 2 10 11 12
   iterate 6 ·simp only [EV,Nat.reduceEqDiff,↓reduceIte,he];try rfl
   clear he e
   intro e he
   refine Zad ?_
   refine Zab (Zae rfl he.2.2.2.2.1 ?_)
   refine Zab (Zae rfl he.2.2.1 ?_)
   refine Zab (Zae rfl he.2.2.2.2.2 ?_)
   refine Zab ?_
   refine Zcs (k := .i64) (j := j) (A := A) (n := pa.length) (c := c) (cells := cs ++ rest) rfl rfl Zba ZaJ hlt hA rfl fun ad => ?_
   refine Zab ?_
   refine ZcD (r := .lst Av pa[j].length cv (bys pa[j] ++ rv)) rfl ZbO ZaJ hvi ?_
   refine Zab ?_
   refine Zcz (n := pa[j].length) (c := cv) (A := Av) rfl rfl rfl Zaw ?_
   refine Zab ?_
   refine ZaU ((pa.take j).flatten.length) (pa[j].length) rfl rfl (by omega) ?_
   refine Zab (Zae rfl (by simp only [EV,Nat.reduceEqDiff,↓reduceIte,he];try rfl) ?_)
   refine Zaf ?_
   have e1 : (pa.take j).flatten.length + pa[j].length = (pa.take (j + 1)).flatten.length := by rw [hsn, List.length_append]
   rw [e1]
   show Zay _ _ _ _ _ _
   apply ZdN 0 1 2 10 11 12
   iterate 6 ·simp only [EV,Nat.reduceEqDiff,↓reduceIte,he];try rfl
   clear he e
   intro e he
   refine Zad ?_
   refine Zab (Zae rfl he.2.2.2.2.2 ?_)
   refine Zab ?_
   refine ZaU j 1 rfl rfl (by omega) ?_
   refine Zab (Zae rfl (by simp only [EV,Nat.reduceEqDiff,↓reduceIte,he];try rfl) ?_)
   refine Zaf ?_
   show ∃ n', n' < _ /\ _
   exact ⟨_, (by omega : pa.length - (j + 1) < pa.length - j), j + 1, _, v3, rfl, hlt, ⟨by simp only [EV,Nat.reduceEqDiff,↓reduceIte,he];try rfl, by simp only [EV,Nat.reduceEqDiff,↓reduceIte,he];try rfl, by simp only [EV,Nat.reduceEqDiff,↓reduceIte,he];try rfl, by simp only [EV,Nat.reduceEqDiff,↓reduceIte,he];try rfl, by simp only [EV,Nat.reduceEqDiff,↓reduceIte,he];try rfl, by simp only [EV,Nat.reduceEqDiff,↓reduceIte,he];try rfl⟩, h5, hB5, fun c hc => .inl (hS21 c hc), hS5⟩
  ·have hke : j = pa.length := by have := of_decide_eq_false ht; omega
   refine Zbe ?_
   rw [hke, List.take_length] at he h2
   exact ⟨rfl, S2, v2, ⟨by simp only [EV,Nat.reduceEqDiff,↓reduceIte,he];try rfl, by simp only [EV,Nat.reduceEqDiff,↓reduceIte,he];try rfl, by simp only [EV,Nat.reduceEqDiff,↓reduceIte,he];try rfl⟩, h2, hB2, hS21, hS22⟩
 clear he e h1 hB1 hS1 hS2
 rintro e υ ⟨S2, v2, he, h2, hB2, hS21, hS22⟩
 have hR : ZpL l ps k pa.flatten (l1.set i ⟨k, v2, l1[i].d ++ pa.flatten⟩) (ps ++ if pa.flatten = [] then [] else [(k, pa.flatten.length)]) := ⟨l1, i, v2, l1[i].d, hM, ⟨hi, rfl⟩, rfl, rfl⟩
 repeat refine Zac ?_
 first|refine Zaa ?_|refine Zad ?_
 refine Zab (Zae rfl he.2.2 ?_)
 refine Zab ?_
 refine ZfX (k := .i64) (a := (pa.flatten.length : Int)) (b := 0) rfl rfl ?_
 refine Zaf ?_
 apply ZaP 0 1 11 99
 iterate 4 ·simp only [EV,Nat.reduceEqDiff,↓reduceIte,he];try rfl
 clear he e
 intro e he
 refine ZaZ (fun env υ => ∃ S3 pv3, RAt υ rb S3 (l1.set i ⟨k, v2, l1[i].d ++ pa.flatten⟩) (ps ++ if pa.flatten = [] then [] else [(k, pa.flatten.length)]) size fv1 pv3 /\ But S σ υ /\ (∀ c, S c -> S3 c) /\ (∀ c, S3 c -> S c \/ Za0 σ c)) ?_ ?_
 ·refine ZaS (t := decide ((0 : Int) < (pa.flatten.length : Int))) he.2.2.2 (fun hd0 => ?_) (fun hd0 => ?_)
  ·have hd0 := of_decide_eq_true hd0
   have hdne : ¬ pa.flatten = [] := fun e => by rw [e] at hd0; exact absurd hd0 (by decide)
   refine Zad ?_
   refine Zab (Zae rfl he.1 ?_)
   refine ZcX (b := rb) he.1 ZaF rfl h2.obj rfl Zca ZbR fun u1 u2 u3 => ?_
   refine Zab (Zae rfl he.2.1 ?_)
   refine Zab (Zae rfl he.2.2.1 ?_)
   refine Zab ?_
   refine Za4 (vs := [.raw (sV k), vI pa.flatten.length]) (cells := [.raw (sV k), vI pa.flatten.length]) (by simp only [List.map_cons, List.map_nil, EV,Nat.reduceEqDiff,↓reduceIte,he]; try rfl) Zdc Znl rfl ?_
   refine Zab ?_
   refine Zdr (vs := [.agg [.raw (sV k), vI pa.flatten.length]]) (cells := [.raw (sV k), vI pa.flatten.length]) (by simp only [List.map_cons, List.map_nil, EV,Nat.reduceEqDiff,↓reduceIte,he];try rfl) ZbE Zby Zdc rfl (by omega) rfl rfl fun b3 υ3 hN3 hX3 => ?_
   have h3 := h2.ext hX3
   refine Zab ?_
   refine Za9 (m := 1) (news := [.raw (sV k), vI pa.flatten.length]) (r := .lst (some ⟨b3, 0, none⟩) 1 1 ([.raw (sV k), vI pa.flatten.length] ++ [])) rfl rfl ZbE Zby Zdc Zf8 rfl (by omega) h3.pc (ZbY rfl (Zmd rfl rfl) (fun q => by cases q)) (by unfold maxLen; omega) (by omega) fun pv3 υ4 hp4 hB4 hn4 => ?_
   refine ZlD (b := rb) rfl ZaF rfl fun u1 => ?_
   have hobj4 := hB4.keep _ _ (fun hq => ZcN h3.pc h3.obj (by decide) hq rfl) h3.obj
   refine Zab ?_
   refine ZbQ (b := rb) (o := 0 + 2) (v := pv3) rfl rfl hobj4 ZbR hp4.oneV (by simp) fun υ5 hb5 k5 => ?_
   refine Zaf ?_
   have hp5 : Hd υ5 105 2 pv3 (ps ++ [(k, pa.flatten.length)]).length (rpC (ps ++ [(k, pa.flatten.length)])) := by
    rw [List.length_append, Zjw]
    exact hp4.but k5 fun c hc hq => ZcN hp4 hobj4 (by decide) hc hq
   have hB5 : But (fun c => c = rb \/ hbk pv = some c) υ3 υ5 := (hB4.sub fun c hc => .inr hc).trans (k5.sub fun c hc => .inl hc)
   have h5 := h3.setP hB5 hb5 hp5
   rw [if_neg hdne]
   refine ⟨rfl, _, pv3, h5, (hB2.trans hX3.but).ext2 (T := fun c => c = rb \/ hbk pv = some c) (fun c hc => ?_) hB5, fun c hc => .inl (hS21 c hc), fun c hc => ?_⟩
   ·have hc2 : S2 c := by
     rcases hc with hc | hc
     ·rw [hc]; exact h2.own.1
     ·exact h2.own.2.2.2 c hc
    rcases hS22 c hc2 with q | q
    ·exact .inl q
    ·exact .inr q.1
   ·rcases hc with hc | hc
    ·exact hS22 c hc
    ·rcases hn4 c hc with q | q
     ·exact hS22 c (h2.own.2.2.2 c q)
     ·exact ZcB (hB2.trans hX3.but) q
  ·have hd0 := of_decide_eq_false hd0
   have hdn : pa.flatten = [] := List.eq_nil_of_length_eq_zero (by omega)
   refine Zbq ?_
   exact ⟨rfl, S2, pv, by rw [if_pos hdn, List.append_nil]; exact h2, hB2, hS21, hS22⟩
 clear he e h2 hB2 hS21 hS22
 rintro e υ ⟨S3, pv3, h3, g1, g2, g3⟩
 refine Zpu (fun e => True) trivial fun e he => ?_
 repeat refine Zac ?_
 first|refine Zaa ?_|refine Zad ?_
 refine Zab (Zae rfl (by simp only [EV,Nat.reduceEqDiff,↓reduceIte,he];try rfl) ?_)
 refine Zaf ?_
 refine Zax ?_
 exact ⟨_, Zal rfl (by simp only [EV]; rfl), hK0 hk hf υ S3 _ _ fv1 pv3 h3 g1 g2 g3 hR⟩
end
end Go.Proofs.Ytinpiaibhjmfaaa
