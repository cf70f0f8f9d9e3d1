/- Deeds that are few, and little. -/
import Derived.Test.YtinpiaibhjmfaaaMn
namespace Go.Proofs.Ytinpiaibhjmfaaa
open Go.RowKit
set_option maxRecDepth 100000
set_option linter.unusedVariables false
set_option linter.unusedSimpArgs false
theorem ZbZ : ZaO Try.prog 28 = some 5 := by kernel_rfl
def ZiX {α : Type} (l : List (List α)) : Nat := (l.map (·.length)).sum
theorem ZiY {α : Type} (l : List (List α)) (i : Nat) (h : i < l.length) : ZiX (l.take (i + 1)) = ZiX (l.take i) + l[i].length := by
 unfold ZiX
 rw [List.take_succ_eq_append_getElem h, List.map_append, List.sum_append]
 simp
theorem Zmq {α : Type} (l : List (List α)) : ZiX l = l.flatten.length := by
 unfold ZiX
 rw [List.length_flatten]
def ZfM (x : ZbG) : Nat := x.name.length + x.names.length + x.parts.length + ZiX x.parts + ZiX x.names
def ZdX (l : List ZbG) : Nat := (l.map ZfM).sum
theorem ZjB (l : List ZbG) (i : Nat) (h : i < l.length) : ZdX (l.take (i + 1)) = ZdX (l.take i) + ZfM l[i] := by
 unfold ZdX
 rw [List.take_succ_eq_append_getElem h, List.map_append, List.sum_append]
 simp
theorem ZoH {cs rest : List AV} {i : Nat} {kd n : Int} {nm : List UInt8} {vN vP : AV} (h : (cs.drop (i * 5)).take 5 = Zb2 kd nm vN n vP) (hl : (i + 1) * 5 <= cs.length) (j : Nat) (hj : j < 5) : (cs ++ rest)[i * 5 + j]? = (Zb2 kd nm vN n vP)[j]? := by
 rw [<- h, List.getElem?_take_of_lt hj, List.getElem?_drop, List.getElem?_append_left (by omega)]
section
variable {σ : St} {K : AV -> St -> Prop}
set_option maxHeartbeats 2000000 in
theorem Zkl {l : List ZbG} {A : Option Addr} {c : Nat} {cs rest : List AV} (k0 : ∀ x ∈ l, Zf4 x) (hl0 : l.length <= 140737488355328) (hA0 : A = none -> l.length = 0) (hs : SVs CT 0 ZdC (l.flatMap (CT.enc 6)) cs)
 (hK : ∀ r : Bool, (r = true -> l.length <= 300 /\ ZdX l <= 20000) -> K (vT r) σ) : Zat Try.prog 8 [.lst A l.length c (cs ++ rest)] σ K := by
 refine Zam Zas Try.func8 rfl rfl rfl (Nat.le_of_ble_eq_true rfl) ?_
 refine Zbz 0 (v0 := .lst A l.length c (cs ++ rest)) rfl ?_
 intro e he
 repeat refine Zac ?_
 first|refine Zaa ?_|refine Zad ?_
 refine Zab (Zae rfl (by simp only [EV,Nat.reduceEqDiff,↓reduceIte,he];try rfl) ?_)
 refine Zaf ?_
 apply Zbz 0
 ·simp only [EV,Nat.reduceEqDiff,↓reduceIte,he];try rfl
 clear he e
 intro e he
 repeat refine Zac ?_
 first|refine Zaa ?_|refine Zad ?_
 refine Zab (Zae rfl he ?_)
 refine Zab ?_
 refine Zcz (n := l.length) (c := c) (A := A) rfl rfl rfl ZaW ?_
 refine Zab ?_
 refine ZfX (k := .i64) (a := (l.length : Int)) (b := 300) rfl rfl ?_
 refine Zaf ?_
 apply ZaK 0 9
 iterate 2 ·simp only [EV,Nat.reduceEqDiff,↓reduceIte,he];try rfl
 clear he e
 intro e he
 refine Zav (t := decide ((300 : Int) < l.length)) he.2 (fun ht => ?_) (fun ht => ?_)
 ·repeat refine Zac ?_
  first|refine Zaa ?_|refine Zad ?_
  refine Zab (Zae rfl (by simp only [EV,Nat.reduceEqDiff,↓reduceIte,he];try rfl) ?_)
  refine Zaf ?_
  refine Zcw ?_
  show ∃ r, Zaj _ _ _ _ r /\ _
  exact ⟨_, Zal rfl rfl, hK false (fun q => by cases q)⟩
 have h300 : l.length <= 300 := by have := of_decide_eq_false ht; omega
 refine Zaz ?_
 repeat refine Zac ?_
 first|refine Zaa ?_|refine Zad ?_
 refine Zab (Zae rfl (by simp only [EV,Nat.reduceEqDiff,↓reduceIte,he];try rfl) ?_)
 refine Zaf ?_
 apply ZaK 0 3
 iterate 2 ·simp only [EV,Nat.reduceEqDiff,↓reduceIte,he];try rfl
 clear he e
 intro e he
 repeat refine Zac ?_
 first|refine Zaa ?_|refine Zad ?_
 refine Zab (Zae rfl (by simp only [EV,Nat.reduceEqDiff,↓reduceIte,he];try rfl) ?_)
 refine Zaf ?_
 apply ZaL 0 3 4
 iterate 3 ·simp only [EV,Nat.reduceEqDiff,↓reduceIte,he];try rfl
 clear he e
 intro e he
 refine ZaD ?_
 refine ZaV (fun μ env υ => ∃ (i n : Nat), μ = l.length - i /\ i <= l.length /\ (env 0 = .lst A l.length c (cs ++ rest) /\ env 3 = vI n /\ env 4 = vI i) /\ σ = υ /\ n <= 1000000000000000 /\ (n <= 20000 -> n = ZdX (l.take i))) ⟨_, 0, 0, rfl, Nat.zero_le _, he, rfl, by omega, fun _ => rfl⟩ ?_
 clear he e
 rintro _ e _ ⟨i, n, rfl, hi, he, rfl, hn, hw⟩
 refine Zac ?_
 refine ZaZ (fun env τ => (env 0 = .lst A l.length c (cs ++ rest) /\ env 3 = vI n /\ env 4 = vI i /\ env 17 = vT (decide (i < l.length /\ n <= 20000))) /\ σ = τ) ?_ ?_
 ·refine Zad ?_
  refine Zab (Zae rfl he.2.2 ?_)
  refine Zab (Zae rfl he.1 ?_)
  refine Zab ?_
  refine Zcz (n := l.length) (c := c) (A := A) rfl rfl rfl ZaW ?_
  refine Zab ?_
  refine Zbs i l.length rfl rfl ?_
  refine Zab (Zae rfl (by simp only [EV,Nat.reduceEqDiff,↓reduceIte,he];try rfl) ?_)
  by_cases hlt : i < l.length
  ·rw [decide_eq_true hlt]
   refine Zab (Zah (ZaN rfl (by simp only [EV,Nat.reduceEqDiff,↓reduceIte,he];try rfl)) ?_)
   refine Zae rfl he.2.1 ?_
   refine Zab (Zah (ZaN rfl (by simp only [EV,Nat.reduceEqDiff,↓reduceIte,he];try rfl)) ?_)
   refine Zje (k := .i64) (a := (n : Int)) (b := 20000) rfl rfl ?_
   rw [show decide ((n : Int) <= 20000) = decide (i < l.length /\ n <= 20000) from decide_eq_decide.2 ⟨fun h => ⟨hlt, by omega⟩, fun h => by omega⟩]
   refine Zab ?_
   refine ZaG (v := vT (decide (i < l.length /\ n <= 20000))) rfl rfl ?_
   refine Zaf ?_
   exact ⟨rfl, ⟨by simp only [EV,Nat.reduceEqDiff,↓reduceIte,he];try rfl, by simp only [EV,Nat.reduceEqDiff,↓reduceIte,he];try rfl, by simp only [EV,Nat.reduceEqDiff,↓reduceIte,he];try rfl, by simp only [EV,Nat.reduceEqDiff,↓reduceIte,he];try rfl⟩, rfl⟩
  ·rw [decide_eq_false hlt, decide_eq_false (fun h => hlt h.1 : ¬ (i < l.length /\ n <= 20000))]
   refine Zab (Zan (ZaN rfl (by simp only [EV,Nat.reduceEqDiff,↓reduceIte,he];try rfl)) ?_)
   refine Zab (Zan (ZaN rfl (by simp only [EV,Nat.reduceEqDiff,↓reduceIte,he];try rfl)) ?_)
   refine Zab ?_
   refine Za2 (v := vT false) rfl rfl ?_
   refine Zaf ?_
   exact ⟨rfl, ⟨by simp only [EV,Nat.reduceEqDiff,↓reduceIte,he];try rfl, by simp only [EV,Nat.reduceEqDiff,↓reduceIte,he];try rfl, by simp only [EV,Nat.reduceEqDiff,↓reduceIte,he];try rfl, by simp only [EV,Nat.reduceEqDiff,↓reduceIte,he];try rfl⟩, rfl⟩
 clear he e
 rintro e _ ⟨he, rfl⟩
 refine Zav (t := decide (i < l.length /\ n <= 20000)) he.2.2.2 (fun ht => ?_) (fun ht => ?_)
 ·obtain ⟨hlt, hn20⟩ := of_decide_eq_true ht
  have hw := hw hn20
  obtain ⟨vN, vP, hcell, hclen, hvN, hvP⟩ := Zfw hs i hlt
  obtain ⟨okk, oknm, okN, okn, okP, _⟩ := k0 _ (List.getElem_mem hlt)
  obtain ⟨AN, cN, csN, restN, rfl, n1, n2, n3, n4, n5⟩ := Zd2.1 hvN
  obtain ⟨AP, cP, csP, restP, rfl, p1, p2, p3, p4, p5⟩ := Zd2.1 hvP
  have hat := ZoH (rest := rest) hcell hclen
  have hpc := (ZfF p5).2
  have hnc := Zh1 n5
  have hnml : l[i].name.length <= 140737488355328 := oknm
  have hpl : ∀ p ∈ l[i].parts, p.length <= 140737488355328 := fun p hp => (okP.all p hp).len
  have hnl : ∀ p ∈ l[i].names, p.length <= 140737488355328 := fun p hp => okN.all p hp
  refine Zaz ?_
  refine ZaD ?_
  refine Zb5 ?_
  refine ⟨[0, 1, 2, 3, 4, 8, 9, 10, 11, 15, 16, 17, 18, 5, 6, 7, 12, 13, 14, 19, 20, 21, 22], [[], [], [], [1, 2], [1, 2, 3], [1, 2, 3, 4], [1, 2, 3, 4, 5], [0, 1, 2, 3, 4, 5, 6], [], [], [8, 9], [8, 9, 10], [8, 9, 10, 11], [8, 9, 10, 11, 12], [0, 1, 2, 3, 4, 5, 6, 7, 8, 9, 10, 11, 12, 13], [], [], [15, 16], [15, 16, 17], [15, 16, 17, 18], [15, 16, 17, 18, 19], [0, 1, 2, 3, 4, 5, 6, 7, 8, 9, 10, 11, 12, 13, 14, 15, 16, 17, 18, 19, 20], [0, 1, 2, 3, 4, 5, 6, 7, 8, 9, 10, 11, 12, 13, 14, 15, 16, 17, 18, 19, 20, 21]], fun _ => True, [], [], [], by kernel_rfl, ?_⟩
  apply Zai
  case hi => simp only [HIX]; try rfl
  case hw => rfl
  case how => rfl
  refine Zae rfl he.2.1 ?_
  refine Zaq ?_
  apply Zai
  case hi => simp only [HIX]; try rfl
  case hw => rfl
  case how => rfl
  refine Zae rfl he.1 ?_
  refine Zaq ?_
  apply Zai
  case hi => simp only [HIX]; try rfl
  case hw => rfl
  case how => rfl
  refine Zae rfl he.2.2.1 ?_
  refine Zaq ?_
  apply Zai
  case hi => simp only [HIX]; try rfl
  case hw => rfl
  case how => rfl
  refine Zcs (k := .i64) (j := i) (A := A) (n := l.length) (c := c) (cells := cs ++ rest) rfl rfl ZaW ZbZ hlt hA0 rfl fun ad1 => ?_
  refine Zaq ?_
  apply Zai
  case hi => simp only [HIX]; try rfl
  case hw => rfl
  case how => rfl
  refine Zdp rfl Za5 rfl ?_
  refine Zaq ?_
  apply Zai
  case hi => simp only [HIX]; try rfl
  case hw => rfl
  case how => rfl
  refine Zae rfl he.1 ?_
  refine Zaq ?_
  apply Zai
  case hi => simp only [HIX]; try rfl
  case hw => rfl
  case how => rfl
  refine Zae rfl he.2.2.1 ?_
  refine Zaq ?_
  apply Zai
  case hi => simp only [HIX]; try rfl
  case hw => rfl
  case how => rfl
  refine Zcs (k := .i64) (j := i) (A := A) (n := l.length) (c := c) (cells := cs ++ rest) rfl rfl ZaW ZbZ hlt hA0 rfl fun ad2 => ?_
  refine Zaq ?_
  apply Zai
  case hi => simp only [HIX]; try rfl
  case hw => rfl
  case how => rfl
  refine Zdp rfl Za5 rfl ?_
  refine Zaq ?_
  apply Zai
  case hi => simp only [HIX]; try rfl
  case hw => rfl
  case how => rfl
  refine Zae rfl he.1 ?_
  refine Zaq ?_
  apply Zai
  case hi => simp only [HIX]; try rfl
  case hw => rfl
  case how => rfl
  refine Zae rfl he.2.2.1 ?_
  refine Zaq ?_
  apply Zai
  case hi => simp only [HIX]; try rfl
  case hw => rfl
  case how => rfl
  refine Zcs (k := .i64) (j := i) (A := A) (n := l.length) (c := c) (cells := cs ++ rest) rfl rfl ZaW ZbZ hlt hA0 rfl fun ad3 => ?_
  refine Zaq ?_
  apply Zai
  case hi => simp only [HIX]; try rfl
  case hw => rfl
  case how => rfl
  refine Zdp rfl Za5 rfl ?_
  refine Zaq ?_
  apply Zai
  case hi => simp only [HIX]; try rfl
  case hw => rfl
  case how => rfl
  refine ZcD (r := .raw (sV l[i].name)) rfl Ze8 Zb3 (by rw [List.drop_drop]; show ((cs ++ rest).drop (i * 5 + 1))[0]? = _; rw [List.getElem?_drop]; exact hat 1 (by omega)) ?_
  refine Zaq ?_
  apply Zai
  case hi => simp only [HIX]; try rfl
  case hw => rfl
  case how => rfl
  refine Zfm (a := l[i].name) rfl rfl ZcW ?_
  refine Zaq ?_
  apply Zai
  case hi => simp only [HIX]; try rfl
  case hw => rfl
  case how => rfl
  refine ZaU n l[i].name.length rfl rfl (by omega) ?_
  refine Zaq ?_
  apply Zai
  case hi => simp only [HIX]; try rfl
  case hw => rfl
  case how => rfl
  refine ZcD (r := .lst AN l[i].names.length cN (csN ++ restN)) rfl Zdj Zc7 (by rw [List.drop_drop]; show ((cs ++ rest).drop (i * 5 + 2))[0]? = _; rw [List.getElem?_drop]; exact hat 2 (by omega)) ?_
  refine Zaq ?_
  apply Zai
  case hi => simp only [HIX]; try rfl
  case hw => rfl
  case how => rfl
  refine Zcz (n := l[i].names.length) (c := cN) (A := AN) rfl rfl rfl ZaE ?_
  refine Zaq ?_
  apply Zai
  case hi => simp only [HIX]; try rfl
  case hw => rfl
  case how => rfl
  refine ZaU (n + l[i].name.length) l[i].names.length rfl rfl (by omega) ?_
  refine Zaq ?_
  apply Zai
  case hi => simp only [HIX]; try rfl
  case hw => rfl
  case how => rfl
  refine ZcD (r := .lst AP l[i].parts.length cP (csP ++ restP)) rfl Zd5 ZdI (by rw [List.drop_drop]; show ((cs ++ rest).drop (i * 5 + 4))[0]? = _; rw [List.getElem?_drop]; exact hat 4 (by omega)) ?_
  refine Zaq ?_
  apply Zai
  case hi => simp only [HIX]; try rfl
  case hw => rfl
  case how => rfl
  refine Zcz (n := l[i].parts.length) (c := cP) (A := AP) rfl rfl rfl Zba ?_
  refine Zaq ?_
  apply Zai
  case hi => simp only [HIX]; try rfl
  case hw => rfl
  case how => rfl
  refine ZaU (n + l[i].name.length + l[i].names.length) l[i].parts.length rfl rfl (by omega) ?_
  refine Zaq ?_
  apply Zai
  case hi => simp only [HIX]; try rfl
  case hw => rfl
  case how => rfl
  refine Zae rfl rfl ?_
  refine Zaq ?_
  refine Zcg ?_
  generalize hn0 : n + l[i].name.length + l[i].names.length + l[i].parts.length = n0 at he
  apply ZaL 0 3 4
  iterate 3 ·simp only [EV,Nat.reduceEqDiff,↓reduceIte,he];try rfl
  clear he e
  intro e he
  repeat refine Zac ?_
  first|refine Zaa ?_|refine Zad ?_
  refine Zab (Zae rfl (by simp only [EV,Nat.reduceEqDiff,↓reduceIte,he];try rfl) ?_)
  refine Zaf ?_
  apply ZaP 0 3 4 5
  iterate 4 ·simp only [EV,Nat.reduceEqDiff,↓reduceIte,he];try rfl
  clear he e
  intro e he
  refine ZaZ (fun env τ => ∃ n1 : Nat, (env 0 = .lst A l.length c (cs ++ rest) /\ env 3 = vI n1 /\ env 4 = vI i) /\ σ = τ /\ n1 <= 700000000000000 /\ (n1 <= 20000 -> n1 = n0 + ZiX l[i].parts)) ?_ ?_
  ·refine ZaT ?_
   refine ZaV (fun μ env υ => ∃ (k m : Nat), μ = l[i].parts.length - k /\ k <= l[i].parts.length /\ (env 0 = .lst A l.length c (cs ++ rest) /\ env 3 = vI m /\ env 4 = vI i /\ env 5 = vI k) /\ σ = υ /\ m <= 700000000000000 /\ (m <= 20000 -> m = n0 + ZiX (l[i].parts.take k))) ⟨_, 0, n0, rfl, Nat.zero_le _, he, rfl, by omega, fun _ => rfl⟩ ?_
   clear he e
   rintro _ e _ ⟨k, m, rfl, hk, he, rfl, hm, hmw⟩
   refine Zac ?_
   refine ZaZ (fun env τ => (env 0 = .lst A l.length c (cs ++ rest) /\ env 3 = vI m /\ env 4 = vI i /\ env 5 = vI k /\ env 53 = vT (decide (k < l[i].parts.length /\ m <= 20000))) /\ σ = τ) ?_ ?_
   ·refine Zad ?_
    refine Zab (Zae rfl he.2.2.2 ?_)
    refine Zab (Zae rfl he.1 ?_)
    refine Zab (Zae rfl he.2.2.1 ?_)
    refine Zhw (i := i) rfl rfl hA0 ZaW ZbZ hlt Za5 rfl (hat 4 (by omega)) Zd5 ZdI fun u1 u2 => ?_
    refine Zab ?_
    refine Zcz (n := l[i].parts.length) (c := cP) (A := AP) (v := .lst AP l[i].parts.length cP (csP ++ restP)) rfl rfl rfl Zba ?_
    refine Zab ?_
    refine Zbs k l[i].parts.length rfl rfl ?_
    refine Zab (Zae rfl (by simp only [EV,Nat.reduceEqDiff,↓reduceIte,he];try rfl) ?_)
    by_cases hkt : k < l[i].parts.length
    ·rw [decide_eq_true hkt]
     refine Zab (Zah (ZaN rfl (by simp only [EV,Nat.reduceEqDiff,↓reduceIte,he];try rfl)) ?_)
     refine Zae rfl he.2.1 ?_
     refine Zab (Zah (ZaN rfl (by simp only [EV,Nat.reduceEqDiff,↓reduceIte,he];try rfl)) ?_)
     refine Zje (k := .i64) (a := (m : Int)) (b := 20000) rfl rfl ?_
     rw [show decide ((m : Int) <= 20000) = decide (k < l[i].parts.length /\ m <= 20000) from decide_eq_decide.2 ⟨fun h => ⟨hkt, by omega⟩, fun h => by omega⟩]
     refine Zab ?_
     refine ZaG (v := vT (decide (k < l[i].parts.length /\ m <= 20000))) rfl rfl ?_
     refine Zaf ?_
     exact ⟨rfl, ⟨by simp only [EV,Nat.reduceEqDiff,↓reduceIte,he];try rfl, by simp only [EV,Nat.reduceEqDiff,↓reduceIte,he];try rfl, by simp only [EV,Nat.reduceEqDiff,↓reduceIte,he];try rfl, by simp only [EV,Nat.reduceEqDiff,↓reduceIte,he];try rfl, by simp only [EV,Nat.reduceEqDiff,↓reduceIte,he];try rfl⟩, rfl⟩
    ·rw [decide_eq_false hkt, decide_eq_false (fun h => hkt h.1 : ¬ (k < l[i].parts.length /\ m <= 20000))]
     refine Zab (Zan (ZaN rfl (by simp only [EV,Nat.reduceEqDiff,↓reduceIte,he];try rfl)) ?_)
     refine Zab (Zan (ZaN rfl (by simp only [EV,Nat.reduceEqDiff,↓reduceIte,he];try rfl)) ?_)
     refine Zab ?_
     refine Za2 (v := vT false) rfl rfl ?_
     refine Zaf ?_
     exact ⟨rfl, ⟨by simp only [EV,Nat.reduceEqDiff,↓reduceIte,he];try rfl, by simp only [EV,Nat.reduceEqDiff,↓reduceIte,he];try rfl, by simp only [EV,Nat.reduceEqDiff,↓reduceIte,he];try rfl, by simp only [EV,Nat.reduceEqDiff,↓reduceIte,he];try rfl, by simp only [EV,Nat.reduceEqDiff,↓reduceIte,he];try rfl⟩, rfl⟩
   clear he e
   rintro e _ ⟨he, rfl⟩
   refine Zav (t := decide (k < l[i].parts.length /\ m <= 20000)) he.2.2.2.2 (fun ht => ?_) (fun ht => ?_)
   ·obtain ⟨hkt, hm20⟩ := of_decide_eq_true ht
    obtain ⟨vB, hvB1, hvB2⟩ := hpc k hkt
    obtain ⟨AB, cB, restB, rfl, hLB⟩ := Zfn hvB2
    have hpk := hpl _ (List.getElem_mem hkt)
    have hsn := ZiY l[i].parts k hkt
    refine Zaz ?_
    refine ZaD ?_
    repeat refine Zac ?_
    first|refine Zaa ?_|refine Zad ?_
    refine Zab (Zae rfl he.2.1 ?_)
    refine Zab (Zae rfl he.1 ?_)
    refine Zab (Zae rfl he.2.2.1 ?_)
    refine Zhw (i := i) rfl rfl hA0 ZaW ZbZ hlt Za5 rfl (hat 4 (by omega)) Zd5 ZdI fun u1 u2 => ?_
    refine Zab (Zae rfl he.2.2.2.1 ?_)
    refine Zab ?_
    refine Zpr (k := k) (hs := csP) (r0 := restP) (A := AP) (n := l[i].parts.length) (c := cP) rfl rfl (fun q => (p4 q).1) Zba ZaJ hkt fun ad => ?_
    refine Zab ?_
    refine Zps (k := k) (hs := csP) (r0 := restP) rfl hvB1 ZbO ZaJ ?_
    refine Zab ?_
    refine Zcz (n := l[i].parts[k].length) (c := cB) (A := AB) rfl rfl rfl Zaw ?_
    refine Zab ?_
    refine ZaU m l[i].parts[k].length rfl rfl (by omega) ?_
    refine Zab (Zae rfl (by simp only [EV,Nat.reduceEqDiff,↓reduceIte,he];try rfl) ?_)
    refine Zaf ?_
    apply ZaP 0 3 4 5
    iterate 4 ·simp only [EV,Nat.reduceEqDiff,↓reduceIte,he];try rfl
    clear he e
    intro e he
    repeat refine Zac ?_
    first|refine Zaa ?_|refine Zad ?_
    refine Zab (Zae rfl he.2.2.2 ?_)
    refine Zab ?_
    refine ZaU k 1 rfl rfl (by omega) ?_
    refine Zab (Zae rfl (by simp only [EV,Nat.reduceEqDiff,↓reduceIte,he];try rfl) ?_)
    refine Zaf ?_
    show ∃ n', n' < _ /\ _
    exact ⟨_, (by omega : l[i].parts.length - (k + 1) < l[i].parts.length - k), k + 1, m + l[i].parts[k].length, rfl, hkt, ⟨by simp only [EV,Nat.reduceEqDiff,↓reduceIte,he];try rfl, by simp only [EV,Nat.reduceEqDiff,↓reduceIte,he];try rfl, by simp only [EV,Nat.reduceEqDiff,↓reduceIte,he];try rfl, by simp only [EV,Nat.reduceEqDiff,↓reduceIte,he];try rfl⟩, rfl, by omega, fun q => by rw [hsn]; have := hmw hm20; omega⟩
   ·refine Zbe ?_
    refine ⟨rfl, m, ⟨by simp only [EV,Nat.reduceEqDiff,↓reduceIte,he];try rfl, by simp only [EV,Nat.reduceEqDiff,↓reduceIte,he];try rfl, by simp only [EV,Nat.reduceEqDiff,↓reduceIte,he];try rfl⟩, rfl, hm, fun q => ?_⟩
    have hke : k = l[i].parts.length := by
     have := of_decide_eq_false ht
     omega
    have := hmw q
    rwa [hke, List.take_length] at this
  clear he e
  rintro e _ ⟨n1, he, rfl, hn1, hw1⟩
  repeat refine Zac ?_
  first|refine Zaa ?_|refine Zad ?_
  refine Zab (Zae rfl (by simp only [EV,Nat.reduceEqDiff,↓reduceIte,he];try rfl) ?_)
  refine Zaf ?_
  apply ZaP 0 3 4 6
  iterate 4 ·simp only [EV,Nat.reduceEqDiff,↓reduceIte,he];try rfl
  clear he e
  intro e he
  refine ZmS (fun env τ => ∃ n2 : Nat, (env 0 = .lst A l.length c (cs ++ rest) /\ env 3 = vI n2 /\ env 4 = vI i) /\ σ = τ /\ n2 <= 1000000000000000 /\ (n2 <= 20000 -> n2 = n0 + ZiX l[i].parts + ZiX l[i].names)) ?_ ?_
  ·refine ZaT ?_
   refine ZaV (fun μ env υ => ∃ (k m : Nat), μ = l[i].names.length - k /\ k <= l[i].names.length /\ (env 0 = .lst A l.length c (cs ++ rest) /\ env 3 = vI m /\ env 4 = vI i /\ env 6 = vI k) /\ σ = υ /\ m <= 1000000000000000 /\ (m <= 20000 -> m = n0 + ZiX l[i].parts + ZiX (l[i].names.take k))) ⟨_, 0, n1, rfl, Nat.zero_le _, he, rfl, by omega, fun q => hw1 q⟩ ?_
   clear he e
   rintro _ e _ ⟨k, m, rfl, hk, he, rfl, hm, hmw⟩
   refine Zac ?_
   refine ZaZ (fun env τ => (env 0 = .lst A l.length c (cs ++ rest) /\ env 3 = vI m /\ env 4 = vI i /\ env 6 = vI k /\ env 78 = vT (decide (k < l[i].names.length /\ m <= 20000))) /\ σ = τ) ?_ ?_
   ·refine Zad ?_
    refine Zab (Zae rfl he.2.2.2 ?_)
    refine Zab (Zae rfl he.1 ?_)
    refine Zab (Zae rfl he.2.2.1 ?_)
    refine Zhw (i := i) rfl rfl hA0 ZaW ZbZ hlt Za5 rfl (hat 2 (by omega)) Zdj Zc7 fun u1 u2 => ?_
    refine Zab ?_
    refine Zcz (n := l[i].names.length) (c := cN) (A := AN) (v := .lst AN l[i].names.length cN (csN ++ restN)) rfl rfl rfl ZaE ?_
    refine Zab ?_
    refine Zbs k l[i].names.length rfl rfl ?_
    refine Zab (Zae rfl (by simp only [EV,Nat.reduceEqDiff,↓reduceIte,he];try rfl) ?_)
    by_cases hkt : k < l[i].names.length
    ·rw [decide_eq_true hkt]
     refine Zab (Zah (ZaN rfl (by simp only [EV,Nat.reduceEqDiff,↓reduceIte,he];try rfl)) ?_)
     refine Zae rfl he.2.1 ?_
     refine Zab (Zah (ZaN rfl (by simp only [EV,Nat.reduceEqDiff,↓reduceIte,he];try rfl)) ?_)
     refine Zje (k := .i64) (a := (m : Int)) (b := 20000) rfl rfl ?_
     rw [show decide ((m : Int) <= 20000) = decide (k < l[i].names.length /\ m <= 20000) from decide_eq_decide.2 ⟨fun h => ⟨hkt, by omega⟩, fun h => by omega⟩]
     refine Zab ?_
     refine ZaG (v := vT (decide (k < l[i].names.length /\ m <= 20000))) rfl rfl ?_
     refine Zaf ?_
     exact ⟨rfl, ⟨by simp only [EV,Nat.reduceEqDiff,↓reduceIte,he];try rfl, by simp only [EV,Nat.reduceEqDiff,↓reduceIte,he];try rfl, by simp only [EV,Nat.reduceEqDiff,↓reduceIte,he];try rfl, by simp only [EV,Nat.reduceEqDiff,↓reduceIte,he];try rfl, by simp only [EV,Nat.reduceEqDiff,↓reduceIte,he];try rfl⟩, rfl⟩
    ·rw [decide_eq_false hkt, decide_eq_false (fun h => hkt h.1 : ¬ (k < l[i].names.length /\ m <= 20000))]
     refine Zab (Zan (ZaN rfl (by simp only [EV,Nat.reduceEqDiff,↓reduceIte,he];try rfl)) ?_)
     refine Zab (Zan (ZaN rfl (by simp only [EV,Nat.reduceEqDiff,↓reduceIte,he];try rfl)) ?_)
     refine Zab ?_
     refine Za2 (v := vT false) rfl rfl ?_
     refine Zaf ?_
     exact ⟨rfl, ⟨by simp only [EV,Nat.reduceEqDiff,↓reduceIte,he];try rfl, by simp only [EV,Nat.reduceEqDiff,↓reduceIte,he];try rfl, by simp only [EV,Nat.reduceEqDiff,↓reduceIte,he];try rfl, by simp only [EV,Nat.reduceEqDiff,↓reduceIte,he];try rfl, by simp only [EV,Nat.reduceEqDiff,↓reduceIte,he];try rfl⟩, rfl⟩
   clear he e
   rintro e _ ⟨he, rfl⟩
   refine Zav (t := decide (k < l[i].names.length /\ m <= 20000)) he.2.2.2.2 (fun ht => ?_) (fun ht => ?_)
   ·obtain ⟨hkt, hm20⟩ := of_decide_eq_true ht
    have hpk := hnl _ (List.getElem_mem hkt)
    have hsn := ZiY l[i].names k hkt
    refine Zaz ?_
    refine ZaD ?_
    repeat refine Zac ?_
    first|refine Zaa ?_|refine Zad ?_
    refine Zab (Zae rfl he.2.1 ?_)
    refine Zab (Zae rfl he.1 ?_)
    refine Zab (Zae rfl he.2.2.1 ?_)
    refine Zhw (i := i) rfl rfl hA0 ZaW ZbZ hlt Za5 rfl (hat 2 (by omega)) Zdj Zc7 fun u1 u2 => ?_
    refine Zab (Zae rfl he.2.2.2.1 ?_)
    refine Zab ?_
    refine Zpr (k := k) (hs := csN) (r0 := restN) (A := AN) (n := l[i].names.length) (c := cN) rfl rfl (fun q => (n4 q).1) ZaE Zb3 hkt fun ad => ?_
    refine Zab ?_
    refine Zps (k := k) (hs := csN) (r0 := restN) (v := .raw (sV l[i].names[k])) rfl (by rw [hnc]; exact ZeV hkt) Ze8 Zb3 ?_
    refine Zab ?_
    refine Zfm (a := l[i].names[k]) rfl rfl ZcW ?_
    refine Zab ?_
    refine ZaU m l[i].names[k].length rfl rfl (by omega) ?_
    refine Zab (Zae rfl (by simp only [EV,Nat.reduceEqDiff,↓reduceIte,he];try rfl) ?_)
    refine Zaf ?_
    apply ZaP 0 3 4 6
    iterate 4 ·simp only [EV,Nat.reduceEqDiff,↓reduceIte,he];try rfl
    clear he e
    intro e he
    repeat refine Zac ?_
    first|refine Zaa ?_|refine Zad ?_
    refine Zab (Zae rfl he.2.2.2 ?_)
    refine Zab ?_
    refine ZaU k 1 rfl rfl (by omega) ?_
    refine Zab (Zae rfl (by simp only [EV,Nat.reduceEqDiff,↓reduceIte,he];try rfl) ?_)
    refine Zaf ?_
    show ∃ n', n' < _ /\ _
    exact ⟨_, (by omega : l[i].names.length - (k + 1) < l[i].names.length - k), k + 1, m + l[i].names[k].length, rfl, hkt, ⟨by simp only [EV,Nat.reduceEqDiff,↓reduceIte,he];try rfl, by simp only [EV,Nat.reduceEqDiff,↓reduceIte,he];try rfl, by simp only [EV,Nat.reduceEqDiff,↓reduceIte,he];try rfl, by simp only [EV,Nat.reduceEqDiff,↓reduceIte,he];try rfl⟩, rfl, by omega, fun q => by rw [hsn]; have := hmw hm20; omega⟩
   ·refine Zbe ?_
    refine ⟨rfl, m, ⟨by simp only [EV,Nat.reduceEqDiff,↓reduceIte,he];try rfl, by simp only [EV,Nat.reduceEqDiff,↓reduceIte,he];try rfl, by simp only [EV,Nat.reduceEqDiff,↓reduceIte,he];try rfl⟩, rfl, hm, fun q => ?_⟩
    have hke : k = l[i].names.length := by
     have := of_decide_eq_false ht
     omega
    have := hmw q
    rwa [hke, List.take_length] at this
  clear he e
  rintro e _ ⟨n2, he, rfl, hn2, hw2⟩
  show Zay _ _ _ _ _ _
  repeat refine Zac ?_
  first|refine Zaa ?_|refine Zad ?_
  refine Zab (Zae rfl he.2.2 ?_)
  refine Zab ?_
  refine ZaU i 1 rfl rfl (by omega) ?_
  refine Zab (Zae rfl (by simp only [EV,Nat.reduceEqDiff,↓reduceIte,he];try rfl) ?_)
  refine Zaf ?_
  show ∃ n', n' < _ /\ _
  refine ⟨_, (by omega : l.length - (i + 1) < l.length - i), i + 1, n2, rfl, hlt, ⟨by simp only [EV,Nat.reduceEqDiff,↓reduceIte,he];try rfl, by simp only [EV,Nat.reduceEqDiff,↓reduceIte,he];try rfl, by simp only [EV,Nat.reduceEqDiff,↓reduceIte,he];try rfl⟩, rfl, hn2, fun q => ?_⟩
  rw [ZjB l i hlt, hw2 q, <- hn0, hw]
  unfold ZfM
  omega
 ·refine Zbe ?_
  show Zay _ _ _ _ _ _
  repeat refine Zac ?_
  first|refine Zaa ?_|refine Zad ?_
  refine Zab (Zae rfl he.2.1 ?_)
  refine Zab ?_
  refine Zje (k := .i64) (a := (n : Int)) (b := 20000) rfl rfl ?_
  refine Zab (Zae rfl (by simp only [EV,Nat.reduceEqDiff,↓reduceIte,he];try rfl) ?_)
  refine Zaf ?_
  refine Zax ?_
  have hr : decide ((n : Int) <= 20000) = true -> l.length <= 300 /\ ZdX l <= 20000 := fun q => by
   have hn2 := of_decide_eq_true q
   have hie : i = l.length := by
    have := of_decide_eq_false ht
    omega
   have := hw (by omega)
   rw [hie, List.take_length] at this
   exact ⟨h300, by omega⟩
  show ∃ r, Zaj _ _ _ _ r /\ _
  exact ⟨_, Zal rfl rfl, hK _ hr⟩
end
end Go.Proofs.Ytinpiaibhjmfaaa
