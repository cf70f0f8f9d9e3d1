/- Deeds that are few, and little. -/
import Derived.Test.YtinpiaibhjmfaaaMn
namespace Go.Proofs.Ytinpiaibhjmfaaa
open Go.RowKit
set_option maxRecDepth 100000
set_option linter.unusedVariables false
set_option linter.unusedSimpArgs false
theorem ZbK : ZaH Try.prog 28 = some 5 := by kernel_rfl
def ZiL {α : Type} (l : List (List α)) : Nat := (l.map (·.length)).sum
theorem ZiM {α : Type} (l : List (List α)) (i : Nat) (h : i < l.length) : ZiL (l.take (i + 1)) = ZiL (l.take i) + l[i].length := by
 unfold ZiL
 rw [List.take_succ_eq_append_getElem h, List.map_append, List.sum_append]
 simp
theorem Zl7 {α : Type} (l : List (List α)) : ZiL l = l.flatten.length := by
 unfold ZiL
 rw [List.length_flatten]
def ZfH (x : Zen) : Nat := x.name.length + x.names.length + x.parts.length + ZiL x.parts + ZiL x.names
def ZdH (l : List Zen) : Nat := (l.map ZfH).sum
theorem Zjk (l : List Zen) (i : Nat) (h : i < l.length) : ZdH (l.take (i + 1)) = ZdH (l.take i) + ZfH l[i] := by
 unfold ZdH
 rw [List.take_succ_eq_append_getElem h, List.map_append, List.sum_append]
 simp
theorem Zoo {cs rest : List AV} {i : Nat} {kd n : Int} {nm : List UInt8} {vN vP : AV} (h : (cs.drop (i * 5)).take 5 = ZbQ kd nm vN n vP) (hl : (i + 1) * 5 <= cs.length) (j : Nat) (hj : j < 5) : (cs ++ rest)[i * 5 + j]? = (ZbQ kd nm vN n vP)[j]? := by
 rw [<- h, List.getElem?_take_of_lt hj, List.getElem?_drop, List.getElem?_append_left (by omega)]
section
variable {σ : St} {K : AV -> St -> Prop}
set_option maxHeartbeats 2000000 in
theorem Zj8 {l : List Zen} {A : Option Addr} {c : Nat} {cs rest : List AV} (k0 : ∀ x ∈ l, Zee x) (hl0 : l.length <= 140737488355328) (hA0 : A = none -> l.length = 0) (hs : SVs CT 0 ZeN (l.flatMap (CT.enc 6)) cs)
 (hK : ∀ r : Bool, (r = true -> l.length <= 300 /\ ZdH l <= 20000) -> K (vT r) σ) : Zat Try.prog 8 [.lst A l.length c (cs ++ rest)] σ K := by
 refine Zan Zas Try.func8 rfl rfl rfl (Nat.le_of_ble_eq_true rfl) ?_
 refine ZbN 0 (v0 := .lst A l.length c (cs ++ rest)) rfl ?_
 intro e he
 repeat refine Zac ?_
 first|refine Zaa ?_|refine Zad ?_
 refine Zab (Zag rfl (by simp only [EV,Nat.reduceEqDiff,↓reduceIte,he];try rfl) ?_)
 refine Zaf ?_
 apply ZbN 0
 ·simp only [EV,Nat.reduceEqDiff,↓reduceIte,he];try rfl
 clear he e
 intro e he
 repeat refine Zac ?_
 first|refine Zaa ?_|refine Zad ?_
 refine Zab (Zag rfl he ?_)
 refine Zab ?_
 refine ZcA (n := l.length) (c := c) (A := A) rfl rfl rfl Zcj ?_
 refine Zab ?_
 refine ZfS (k := .i64) (a := (l.length : Int)) (b := 300) rfl rfl ?_
 refine Zaf ?_
 apply ZaO 0 9
 iterate 2 ·simp only [EV,Nat.reduceEqDiff,↓reduceIte,he];try rfl
 clear he e
 intro e he
 refine Zav (t := decide ((300 : Int) < l.length)) he.2 (fun ht => ?_) (fun ht => ?_)
 ·repeat refine Zac ?_
  first|refine Zaa ?_|refine Zad ?_
  refine Zab (Zag rfl (by simp only [EV,Nat.reduceEqDiff,↓reduceIte,he];try rfl) ?_)
  refine Zaf ?_
  refine Zc2 ?_
  show ∃ r, Zaj _ _ _ _ r /\ _
  exact ⟨_, Zal rfl rfl, hK false (fun q => by cases q)⟩
 have h300 : l.length <= 300 := by have := of_decide_eq_false ht; omega
 refine Zaz ?_
 repeat refine Zac ?_
 first|refine Zaa ?_|refine Zad ?_
 refine Zab (Zag rfl (by simp only [EV,Nat.reduceEqDiff,↓reduceIte,he];try rfl) ?_)
 refine Zaf ?_
 apply ZaO 0 3
 iterate 2 ·simp only [EV,Nat.reduceEqDiff,↓reduceIte,he];try rfl
 clear he e
 intro e he
 repeat refine Zac ?_
 first|refine Zaa ?_|refine Zad ?_
 refine Zab (Zag rfl (by simp only [EV,Nat.reduceEqDiff,↓reduceIte,he];try rfl) ?_)
 refine Zaf ?_
 apply ZaP 0 3 4
 iterate 3 ·simp only [EV,Nat.reduceEqDiff,↓reduceIte,he];try rfl
 clear he e
 intro e he
 refine ZaD ?_
 refine ZaN (fun μ env υ => ∃ (i n : Nat), μ = l.length - i /\ i <= l.length /\ (env 0 = .lst A l.length c (cs ++ rest) /\ env 3 = vI n /\ env 4 = vI i) /\ σ = υ /\ n <= 1000000000000000 /\ (n <= 20000 -> n = ZdH (l.take i))) ⟨_, 0, 0, rfl, Nat.zero_le _, he, rfl, by omega, fun _ => rfl⟩ ?_
 clear he e
 rintro _ e _ ⟨i, n, rfl, hi, he, rfl, hn, hw⟩
 refine Zac ?_
 refine ZaQ (fun env τ => (env 0 = .lst A l.length c (cs ++ rest) /\ env 3 = vI n /\ env 4 = vI i /\ env 17 = vT (decide (i < l.length /\ n <= 20000))) /\ σ = τ) ?_ ?_
 ·refine Zad ?_
  refine Zab (Zag rfl he.2.2 ?_)
  refine Zab (Zag rfl he.1 ?_)
  refine Zab ?_
  refine ZcA (n := l.length) (c := c) (A := A) rfl rfl rfl Zcj ?_
  refine Zab ?_
  refine Zbm i l.length rfl rfl ?_
  refine Zab (Zag rfl (by simp only [EV,Nat.reduceEqDiff,↓reduceIte,he];try rfl) ?_)
  by_cases hlt : i < l.length
  ·rw [decide_eq_true hlt]
   refine Zab (Zai (Za6 rfl (by simp only [EV,Nat.reduceEqDiff,↓reduceIte,he];try rfl)) ?_)
   refine Zag rfl he.2.1 ?_
   refine Zab (Zai (Za6 rfl (by simp only [EV,Nat.reduceEqDiff,↓reduceIte,he];try rfl)) ?_)
   refine ZiW (k := .i64) (a := (n : Int)) (b := 20000) rfl rfl ?_
   rw [show decide ((n : Int) <= 20000) = decide (i < l.length /\ n <= 20000) from decide_eq_decide.2 ⟨fun h => ⟨hlt, by omega⟩, fun h => by omega⟩]
   refine Zab ?_
   refine ZaZ (v := vT (decide (i < l.length /\ n <= 20000))) rfl rfl ?_
   refine Zaf ?_
   exact ⟨rfl, ⟨by simp only [EV,Nat.reduceEqDiff,↓reduceIte,he];try rfl, by simp only [EV,Nat.reduceEqDiff,↓reduceIte,he];try rfl, by simp only [EV,Nat.reduceEqDiff,↓reduceIte,he];try rfl, by simp only [EV,Nat.reduceEqDiff,↓reduceIte,he];try rfl⟩, rfl⟩
  ·rw [decide_eq_false hlt, decide_eq_false (fun h => hlt h.1 : ¬ (i < l.length /\ n <= 20000))]
   refine Zab (Zaq (Za6 rfl (by simp only [EV,Nat.reduceEqDiff,↓reduceIte,he];try rfl)) ?_)
   refine Zab (Zaq (Za6 rfl (by simp only [EV,Nat.reduceEqDiff,↓reduceIte,he];try rfl)) ?_)
   refine Zab ?_
   refine Za1 (v := vT false) rfl rfl ?_
   refine Zaf ?_
   exact ⟨rfl, ⟨by simp only [EV,Nat.reduceEqDiff,↓reduceIte,he];try rfl, by simp only [EV,Nat.reduceEqDiff,↓reduceIte,he];try rfl, by simp only [EV,Nat.reduceEqDiff,↓reduceIte,he];try rfl, by simp only [EV,Nat.reduceEqDiff,↓reduceIte,he];try rfl⟩, rfl⟩
 clear he e
 rintro e _ ⟨he, rfl⟩
 refine Zav (t := decide (i < l.length /\ n <= 20000)) he.2.2.2 (fun ht => ?_) (fun ht => ?_)
 ·obtain ⟨hlt, hn20⟩ := of_decide_eq_true ht
  have hw := hw hn20
  obtain ⟨vN, vP, hcell, hclen, hvN, hvP⟩ := Zfp hs i hlt
  obtain ⟨okk, oknm, okN, okn, okP, _⟩ := k0 _ (List.getElem_mem hlt)
  obtain ⟨AN, cN, csN, restN, rfl, n1, n2, n3, n4, n5⟩ := ZeV.1 hvN
  obtain ⟨AP, cP, csP, restP, rfl, p1, p2, p3, p4, p5⟩ := ZeV.1 hvP
  have hat := Zoo (rest := rest) hcell hclen
  have hpc := (ZfA p5).2
  have hnc := ZhT n5
  have hnml : l[i].name.length <= 140737488355328 := oknm
  have hpl : ∀ p ∈ l[i].parts, p.length <= 140737488355328 := fun p hp => (okP.all p hp).len
  have hnl : ∀ p ∈ l[i].names, p.length <= 140737488355328 := fun p hp => okN.all p hp
  refine Zaz ?_
  refine ZaD ?_
  refine Zb1 ?_
  refine ⟨[0, 1, 2, 3, 4, 8, 9, 10, 11, 15, 16, 17, 18, 5, 6, 7, 12, 13, 14, 19, 20, 21, 22], [[], [], [], [1, 2], [1, 2, 3], [1, 2, 3, 4], [1, 2, 3, 4, 5], [0, 1, 2, 3, 4, 5, 6], [], [], [8, 9], [8, 9, 10], [8, 9, 10, 11], [8, 9, 10, 11, 12], [0, 1, 2, 3, 4, 5, 6, 7, 8, 9, 10, 11, 12, 13], [], [], [15, 16], [15, 16, 17], [15, 16, 17, 18], [15, 16, 17, 18, 19], [0, 1, 2, 3, 4, 5, 6, 7, 8, 9, 10, 11, 12, 13, 14, 15, 16, 17, 18, 19, 20], [0, 1, 2, 3, 4, 5, 6, 7, 8, 9, 10, 11, 12, 13, 14, 15, 16, 17, 18, 19, 20, 21]], fun _ => True, [], [], [], by kernel_rfl, ?_⟩
  apply Zah
  case hi => simp only [HIX]; try rfl
  case hw => rfl
  case how => rfl
  refine Zag rfl he.2.1 ?_
  refine Zao ?_
  apply Zah
  case hi => simp only [HIX]; try rfl
  case hw => rfl
  case how => rfl
  refine Zag rfl he.1 ?_
  refine Zao ?_
  apply Zah
  case hi => simp only [HIX]; try rfl
  case hw => rfl
  case how => rfl
  refine Zag rfl he.2.2.1 ?_
  refine Zao ?_
  apply Zah
  case hi => simp only [HIX]; try rfl
  case hw => rfl
  case how => rfl
  refine Zce (k := .i64) (j := i) (A := A) (n := l.length) (c := c) (cells := cs ++ rest) rfl rfl Zcj ZbK hlt hA0 rfl fun ad1 => ?_
  refine Zao ?_
  apply Zah
  case hi => simp only [HIX]; try rfl
  case hw => rfl
  case how => rfl
  refine Zdb rfl ZaX rfl ?_
  refine Zao ?_
  apply Zah
  case hi => simp only [HIX]; try rfl
  case hw => rfl
  case how => rfl
  refine Zag rfl he.1 ?_
  refine Zao ?_
  apply Zah
  case hi => simp only [HIX]; try rfl
  case hw => rfl
  case how => rfl
  refine Zag rfl he.2.2.1 ?_
  refine Zao ?_
  apply Zah
  case hi => simp only [HIX]; try rfl
  case hw => rfl
  case how => rfl
  refine Zce (k := .i64) (j := i) (A := A) (n := l.length) (c := c) (cells := cs ++ rest) rfl rfl Zcj ZbK hlt hA0 rfl fun ad2 => ?_
  refine Zao ?_
  apply Zah
  case hi => simp only [HIX]; try rfl
  case hw => rfl
  case how => rfl
  refine Zdb rfl ZaX rfl ?_
  refine Zao ?_
  apply Zah
  case hi => simp only [HIX]; try rfl
  case hw => rfl
  case how => rfl
  refine Zag rfl he.1 ?_
  refine Zao ?_
  apply Zah
  case hi => simp only [HIX]; try rfl
  case hw => rfl
  case how => rfl
  refine Zag rfl he.2.2.1 ?_
  refine Zao ?_
  apply Zah
  case hi => simp only [HIX]; try rfl
  case hw => rfl
  case how => rfl
  refine Zce (k := .i64) (j := i) (A := A) (n := l.length) (c := c) (cells := cs ++ rest) rfl rfl Zcj ZbK hlt hA0 rfl fun ad3 => ?_
  refine Zao ?_
  apply Zah
  case hi => simp only [HIX]; try rfl
  case hw => rfl
  case how => rfl
  refine Zdb rfl ZaX rfl ?_
  refine Zao ?_
  apply Zah
  case hi => simp only [HIX]; try rfl
  case hw => rfl
  case how => rfl
  refine Zcq (r := .raw (sV l[i].name)) rfl Zfg Zc8 (by rw [List.drop_drop]; show ((cs ++ rest).drop (i * 5 + 1))[0]? = _; rw [List.getElem?_drop]; exact hat 1 (by omega)) ?_
  refine Zao ?_
  apply Zah
  case hi => simp only [HIX]; try rfl
  case hw => rfl
  case how => rfl
  refine Zfd (a := l[i].name) rfl rfl ZcE ?_
  refine Zao ?_
  apply Zah
  case hi => simp only [HIX]; try rfl
  case hw => rfl
  case how => rfl
  refine ZaL n l[i].name.length rfl rfl (by omega) ?_
  refine Zao ?_
  apply Zah
  case hi => simp only [HIX]; try rfl
  case hw => rfl
  case how => rfl
  refine Zcq (r := .lst AN l[i].names.length cN (csN ++ restN)) rfl Zc4 ZcR (by rw [List.drop_drop]; show ((cs ++ rest).drop (i * 5 + 2))[0]? = _; rw [List.getElem?_drop]; exact hat 2 (by omega)) ?_
  refine Zao ?_
  apply Zah
  case hi => simp only [HIX]; try rfl
  case hw => rfl
  case how => rfl
  refine ZcA (n := l[i].names.length) (c := cN) (A := AN) rfl rfl rfl ZaR ?_
  refine Zao ?_
  apply Zah
  case hi => simp only [HIX]; try rfl
  case hw => rfl
  case how => rfl
  refine ZaL (n + l[i].name.length) l[i].names.length rfl rfl (by omega) ?_
  refine Zao ?_
  apply Zah
  case hi => simp only [HIX]; try rfl
  case hw => rfl
  case how => rfl
  refine Zcq (r := .lst AP l[i].parts.length cP (csP ++ restP)) rfl ZdO Zdu (by rw [List.drop_drop]; show ((cs ++ rest).drop (i * 5 + 4))[0]? = _; rw [List.getElem?_drop]; exact hat 4 (by omega)) ?_
  refine Zao ?_
  apply Zah
  case hi => simp only [HIX]; try rfl
  case hw => rfl
  case how => rfl
  refine ZcA (n := l[i].parts.length) (c := cP) (A := AP) rfl rfl rfl Zbn ?_
  refine Zao ?_
  apply Zah
  case hi => simp only [HIX]; try rfl
  case hw => rfl
  case how => rfl
  refine ZaL (n + l[i].name.length + l[i].names.length) l[i].parts.length rfl rfl (by omega) ?_
  refine Zao ?_
  apply Zah
  case hi => simp only [HIX]; try rfl
  case hw => rfl
  case how => rfl
  refine Zag rfl rfl ?_
  refine Zao ?_
  refine Zb8 ?_
  generalize hn0 : n + l[i].name.length + l[i].names.length + l[i].parts.length = n0 at he
  apply ZaP 0 3 4
  iterate 3 ·simp only [EV,Nat.reduceEqDiff,↓reduceIte,he];try rfl
  clear he e
  intro e he
  repeat refine Zac ?_
  first|refine Zaa ?_|refine Zad ?_
  refine Zab (Zag rfl (by simp only [EV,Nat.reduceEqDiff,↓reduceIte,he];try rfl) ?_)
  refine Zaf ?_
  apply ZaK 0 3 4 5
  iterate 4 ·simp only [EV,Nat.reduceEqDiff,↓reduceIte,he];try rfl
  clear he e
  intro e he
  refine ZaQ (fun env τ => ∃ n1 : Nat, (env 0 = .lst A l.length c (cs ++ rest) /\ env 3 = vI n1 /\ env 4 = vI i) /\ σ = τ /\ n1 <= 700000000000000 /\ (n1 <= 20000 -> n1 = n0 + ZiL l[i].parts)) ?_ ?_
  ·refine ZaI ?_
   refine ZaN (fun μ env υ => ∃ (k m : Nat), μ = l[i].parts.length - k /\ k <= l[i].parts.length /\ (env 0 = .lst A l.length c (cs ++ rest) /\ env 3 = vI m /\ env 4 = vI i /\ env 5 = vI k) /\ σ = υ /\ m <= 700000000000000 /\ (m <= 20000 -> m = n0 + ZiL (l[i].parts.take k))) ⟨_, 0, n0, rfl, Nat.zero_le _, he, rfl, by omega, fun _ => rfl⟩ ?_
   clear he e
   rintro _ e _ ⟨k, m, rfl, hk, he, rfl, hm, hmw⟩
   refine Zac ?_
   refine ZaQ (fun env τ => (env 0 = .lst A l.length c (cs ++ rest) /\ env 3 = vI m /\ env 4 = vI i /\ env 5 = vI k /\ env 53 = vT (decide (k < l[i].parts.length /\ m <= 20000))) /\ σ = τ) ?_ ?_
   ·refine Zad ?_
    refine Zab (Zag rfl he.2.2.2 ?_)
    refine Zab (Zag rfl he.1 ?_)
    refine Zab (Zag rfl he.2.2.1 ?_)
    refine Zhn (i := i) rfl rfl hA0 Zcj ZbK hlt ZaX rfl (hat 4 (by omega)) ZdO Zdu fun u1 u2 => ?_
    refine Zab ?_
    refine ZcA (n := l[i].parts.length) (c := cP) (A := AP) (v := .lst AP l[i].parts.length cP (csP ++ restP)) rfl rfl rfl Zbn ?_
    refine Zab ?_
    refine Zbm k l[i].parts.length rfl rfl ?_
    refine Zab (Zag rfl (by simp only [EV,Nat.reduceEqDiff,↓reduceIte,he];try rfl) ?_)
    by_cases hkt : k < l[i].parts.length
    ·rw [decide_eq_true hkt]
     refine Zab (Zai (Za6 rfl (by simp only [EV,Nat.reduceEqDiff,↓reduceIte,he];try rfl)) ?_)
     refine Zag rfl he.2.1 ?_
     refine Zab (Zai (Za6 rfl (by simp only [EV,Nat.reduceEqDiff,↓reduceIte,he];try rfl)) ?_)
     refine ZiW (k := .i64) (a := (m : Int)) (b := 20000) rfl rfl ?_
     rw [show decide ((m : Int) <= 20000) = decide (k < l[i].parts.length /\ m <= 20000) from decide_eq_decide.2 ⟨fun h => ⟨hkt, by omega⟩, fun h => by omega⟩]
     refine Zab ?_
     refine ZaZ (v := vT (decide (k < l[i].parts.length /\ m <= 20000))) rfl rfl ?_
     refine Zaf ?_
     exact ⟨rfl, ⟨by simp only [EV,Nat.reduceEqDiff,↓reduceIte,he];try rfl, by simp only [EV,Nat.reduceEqDiff,↓reduceIte,he];try rfl, by simp only [EV,Nat.reduceEqDiff,↓reduceIte,he];try rfl, by simp only [EV,Nat.reduceEqDiff,↓reduceIte,he];try rfl, by simp only [EV,Nat.reduceEqDiff,↓reduceIte,he];try rfl⟩, rfl⟩
    ·rw [decide_eq_false hkt, decide_eq_false (fun h => hkt h.1 : ¬ (k < l[i].parts.length /\ m <= 20000))]
     refine Zab (Zaq (Za6 rfl (by simp only [EV,Nat.reduceEqDiff,↓reduceIte,he];try rfl)) ?_)
     refine Zab (Zaq (Za6 rfl (by simp only [EV,Nat.reduceEqDiff,↓reduceIte,he];try rfl)) ?_)
     refine Zab ?_
     refine Za1 (v := vT false) rfl rfl ?_
     refine Zaf ?_
     exact ⟨rfl, ⟨by simp only [EV,Nat.reduceEqDiff,↓reduceIte,he];try rfl, by simp only [EV,Nat.reduceEqDiff,↓reduceIte,he];try rfl, by simp only [EV,Nat.reduceEqDiff,↓reduceIte,he];try rfl, by simp only [EV,Nat.reduceEqDiff,↓reduceIte,he];try rfl, by simp only [EV,Nat.reduceEqDiff,↓reduceIte,he];try rfl⟩, rfl⟩
   clear he e
   rintro e _ ⟨he, rfl⟩
   refine Zav (t := decide (k < l[i].parts.length /\ m <= 20000)) he.2.2.2.2 (fun ht => ?_) (fun ht => ?_)
   ·obtain ⟨hkt, hm20⟩ := of_decide_eq_true ht
    obtain ⟨vB, hvB1, hvB2⟩ := hpc k hkt
    obtain ⟨AB, cB, restB, rfl, hLB⟩ := Zff hvB2
    have hpk := hpl _ (List.getElem_mem hkt)
    have hsn := ZiM l[i].parts k hkt
    refine Zaz ?_
    refine ZaD ?_
    repeat refine Zac ?_
    first|refine Zaa ?_|refine Zad ?_
    refine Zab (Zag rfl he.2.1 ?_)
    refine Zab (Zag rfl he.1 ?_)
    refine Zab (Zag rfl he.2.2.1 ?_)
    refine Zhn (i := i) rfl rfl hA0 Zcj ZbK hlt ZaX rfl (hat 4 (by omega)) ZdO Zdu fun u1 u2 => ?_
    refine Zab (Zag rfl he.2.2.2.1 ?_)
    refine Zab ?_
    refine Zo3 (k := k) (hs := csP) (r0 := restP) (A := AP) (n := l[i].parts.length) (c := cP) rfl rfl (fun q => (p4 q).1) Zbn ZaS hkt fun ad => ?_
    refine Zab ?_
    refine Zo4 (k := k) (hs := csP) (r0 := restP) rfl hvB1 Zby ZaS ?_
    refine Zab ?_
    refine ZcA (n := l[i].parts[k].length) (c := cB) (A := AB) rfl rfl rfl Zax ?_
    refine Zab ?_
    refine ZaL m l[i].parts[k].length rfl rfl (by omega) ?_
    refine Zab (Zag rfl (by simp only [EV,Nat.reduceEqDiff,↓reduceIte,he];try rfl) ?_)
    refine Zaf ?_
    apply ZaK 0 3 4 5
    iterate 4 ·simp only [EV,Nat.reduceEqDiff,↓reduceIte,he];try rfl
    clear he e
    intro e he
    repeat refine Zac ?_
    first|refine Zaa ?_|refine Zad ?_
    refine Zab (Zag rfl he.2.2.2 ?_)
    refine Zab ?_
    refine ZaL k 1 rfl rfl (by omega) ?_
    refine Zab (Zag rfl (by simp only [EV,Nat.reduceEqDiff,↓reduceIte,he];try rfl) ?_)
    refine Zaf ?_
    show ∃ n', n' < _ /\ _
    exact ⟨_, (by omega : l[i].parts.length - (k + 1) < l[i].parts.length - k), k + 1, m + l[i].parts[k].length, rfl, hkt, ⟨by simp only [EV,Nat.reduceEqDiff,↓reduceIte,he];try rfl, by simp only [EV,Nat.reduceEqDiff,↓reduceIte,he];try rfl, by simp only [EV,Nat.reduceEqDiff,↓reduceIte,he];try rfl, by simp only [EV,Nat.reduceEqDiff,↓reduceIte,he];try rfl⟩, rfl, by omega, fun q => by rw [hsn]; have := hmw hm20; omega⟩
   ·refine Zba ?_
    refine ⟨rfl, m, ⟨by simp only [EV,Nat.reduceEqDiff,↓reduceIte,he];try rfl, by simp only [EV,Nat.reduceEqDiff,↓reduceIte,he];try rfl, by simp only [EV,Nat.reduceEqDiff,↓reduceIte,he];try rfl⟩, rfl, hm, fun q => ?_⟩
    have hke : k = l[i].parts.length := by
     have := of_decide_eq_false ht
     omega
    have := hmw q
    rwa [hke, List.take_length] at this
  clear he e
  rintro e _ ⟨n1, he, rfl, hn1, hw1⟩
  repeat refine Zac ?_
  first|refine Zaa ?_|refine Zad ?_
  refine Zab (Zag rfl (by simp only [EV,Nat.reduceEqDiff,↓reduceIte,he];try rfl) ?_)
  refine Zaf ?_
  apply ZaK 0 3 4 6
  iterate 4 ·simp only [EV,Nat.reduceEqDiff,↓reduceIte,he];try rfl
  clear he e
  intro e he
  refine ZnV (fun env τ => ∃ n2 : Nat, (env 0 = .lst A l.length c (cs ++ rest) /\ env 3 = vI n2 /\ env 4 = vI i) /\ σ = τ /\ n2 <= 1000000000000000 /\ (n2 <= 20000 -> n2 = n0 + ZiL l[i].parts + ZiL l[i].names)) ?_ ?_
  ·refine ZaI ?_
   refine ZaN (fun μ env υ => ∃ (k m : Nat), μ = l[i].names.length - k /\ k <= l[i].names.length /\ (env 0 = .lst A l.length c (cs ++ rest) /\ env 3 = vI m /\ env 4 = vI i /\ env 6 = vI k) /\ σ = υ /\ m <= 1000000000000000 /\ (m <= 20000 -> m = n0 + ZiL l[i].parts + ZiL (l[i].names.take k))) ⟨_, 0, n1, rfl, Nat.zero_le _, he, rfl, by omega, fun q => hw1 q⟩ ?_
   clear he e
   rintro _ e _ ⟨k, m, rfl, hk, he, rfl, hm, hmw⟩
   refine Zac ?_
   refine ZaQ (fun env τ => (env 0 = .lst A l.length c (cs ++ rest) /\ env 3 = vI m /\ env 4 = vI i /\ env 6 = vI k /\ env 78 = vT (decide (k < l[i].names.length /\ m <= 20000))) /\ σ = τ) ?_ ?_
   ·refine Zad ?_
    refine Zab (Zag rfl he.2.2.2 ?_)
    refine Zab (Zag rfl he.1 ?_)
    refine Zab (Zag rfl he.2.2.1 ?_)
    refine Zhn (i := i) rfl rfl hA0 Zcj ZbK hlt ZaX rfl (hat 2 (by omega)) Zc4 ZcR fun u1 u2 => ?_
    refine Zab ?_
    refine ZcA (n := l[i].names.length) (c := cN) (A := AN) (v := .lst AN l[i].names.length cN (csN ++ restN)) rfl rfl rfl ZaR ?_
    refine Zab ?_
    refine Zbm k l[i].names.length rfl rfl ?_
    refine Zab (Zag rfl (by simp only [EV,Nat.reduceEqDiff,↓reduceIte,he];try rfl) ?_)
    by_cases hkt : k < l[i].names.length
    ·rw [decide_eq_true hkt]
     refine Zab (Zai (Za6 rfl (by simp only [EV,Nat.reduceEqDiff,↓reduceIte,he];try rfl)) ?_)
     refine Zag rfl he.2.1 ?_
     refine Zab (Zai (Za6 rfl (by simp only [EV,Nat.reduceEqDiff,↓reduceIte,he];try rfl)) ?_)
     refine ZiW (k := .i64) (a := (m : Int)) (b := 20000) rfl rfl ?_
     rw [show decide ((m : Int) <= 20000) = decide (k < l[i].names.length /\ m <= 20000) from decide_eq_decide.2 ⟨fun h => ⟨hkt, by omega⟩, fun h => by omega⟩]
     refine Zab ?_
     refine ZaZ (v := vT (decide (k < l[i].names.length /\ m <= 20000))) rfl rfl ?_
     refine Zaf ?_
     exact ⟨rfl, ⟨by simp only [EV,Nat.reduceEqDiff,↓reduceIte,he];try rfl, by simp only [EV,Nat.reduceEqDiff,↓reduceIte,he];try rfl, by simp only [EV,Nat.reduceEqDiff,↓reduceIte,he];try rfl, by simp only [EV,Nat.reduceEqDiff,↓reduceIte,he];try rfl, by simp only [EV,Nat.reduceEqDiff,↓reduceIte,he];try rfl⟩, rfl⟩
    ·rw [decide_eq_false hkt, decide_eq_false (fun h => hkt h.1 : ¬ (k < l[i].names.length /\ m <= 20000))]
     refine Zab (Zaq (Za6 rfl (by simp only [EV,Nat.reduceEqDiff,↓reduceIte,he];try rfl)) ?_)
     refine Zab (Zaq (Za6 rfl (by simp only [EV,Nat.reduceEqDiff,↓reduceIte,he];try rfl)) ?_)
     refine Zab ?_
     refine Za1 (v := vT false) rfl rfl ?_
     refine Zaf ?_
     exact ⟨rfl, ⟨by simp only [EV,Nat.reduceEqDiff,↓reduceIte,he];try rfl, by simp only [EV,Nat.reduceEqDiff,↓reduceIte,he];try rfl, by simp only [EV,Nat.reduceEqDiff,↓reduceIte,he];try rfl, by simp only [EV,Nat.reduceEqDiff,↓reduceIte,he];try rfl, by simp only [EV,Nat.reduceEqDiff,↓reduceIte,he];try rfl⟩, rfl⟩
   clear he e
   rintro e _ ⟨he, rfl⟩
   refine Zav (t := decide (k < l[i].names.length /\ m <= 20000)) he.2.2.2.2 (fun ht => ?_) (fun ht => ?_)
   ·obtain ⟨hkt, hm20⟩ := of_decide_eq_true ht
    have hpk := hnl _ (List.getElem_mem hkt)
    have hsn := ZiM l[i].names k hkt
    refine Zaz ?_
    refine ZaD ?_
    repeat refine Zac ?_
    first|refine Zaa ?_|refine Zad ?_
    refine Zab (Zag rfl he.2.1 ?_)
    refine Zab (Zag rfl he.1 ?_)
    refine Zab (Zag rfl he.2.2.1 ?_)
    refine Zhn (i := i) rfl rfl hA0 Zcj ZbK hlt ZaX rfl (hat 2 (by omega)) Zc4 ZcR fun u1 u2 => ?_
    refine Zab (Zag rfl he.2.2.2.1 ?_)
    refine Zab ?_
    refine Zo3 (k := k) (hs := csN) (r0 := restN) (A := AN) (n := l[i].names.length) (c := cN) rfl rfl (fun q => (n4 q).1) ZaR Zc8 hkt fun ad => ?_
    refine Zab ?_
    refine Zo4 (k := k) (hs := csN) (r0 := restN) (v := .raw (sV l[i].names[k])) rfl (by rw [hnc]; exact ZeH hkt) Zfg Zc8 ?_
    refine Zab ?_
    refine Zfd (a := l[i].names[k]) rfl rfl ZcE ?_
    refine Zab ?_
    refine ZaL m l[i].names[k].length rfl rfl (by omega) ?_
    refine Zab (Zag rfl (by simp only [EV,Nat.reduceEqDiff,↓reduceIte,he];try rfl) ?_)
    refine Zaf ?_
    apply ZaK 0 3 4 6
    iterate 4 ·simp only [EV,Nat.reduceEqDiff,↓reduceIte,he];try rfl
    clear he e
    intro e he
    repeat refine Zac ?_
    first|refine Zaa ?_|refine Zad ?_
    refine Zab (Zag rfl he.2.2.2 ?_)
    refine Zab ?_
    refine ZaL k 1 rfl rfl (by omega) ?_
    refine Zab (Zag rfl (by simp only [EV,Nat.reduceEqDiff,↓reduceIte,he];try rfl) ?_)
    refine Zaf ?_
    show ∃ n', n' < _ /\ _
    exact ⟨_, (by omega : l[i].names.length - (k + 1) < l[i].names.length - k), k + 1, m + l[i].names[k].length, rfl, hkt, ⟨by simp only [EV,Nat.reduceEqDiff,↓reduceIte,he];try rfl, by simp only [EV,Nat.reduceEqDiff,↓reduceIte,he];try rfl, by simp only [EV,Nat.reduceEqDiff,↓reduceIte,he];try rfl, by simp only [EV,Nat.reduceEqDiff,↓reduceIte,he];try rfl⟩, rfl, by omega, fun q => by rw [hsn]; have := hmw hm20; omega⟩
   ·refine Zba ?_
    refine ⟨rfl, m, ⟨by simp only [EV,Nat.reduceEqDiff,↓reduceIte,he];try rfl, by simp only [EV,Nat.reduceEqDiff,↓reduceIte,he];try rfl, by simp only [EV,Nat.reduceEqDiff,↓reduceIte,he];try rfl⟩, rfl, hm, fun q => ?_⟩
    have hke : k = l[i].names.length := by
     have := of_decide_eq_false ht
     omega
    have := hmw q
    rwa [hke, List.take_length] at this
  clear he e
  rintro e _ ⟨n2, he, rfl, hn2, hw2⟩
  show Zay _ _ _ _ _ _
  repeat refine Zac ?_
  first|refine Zaa ?_|refine Zad ?_
  refine Zab (Zag rfl he.2.2 ?_)
  refine Zab ?_
  refine ZaL i 1 rfl rfl (by omega) ?_
  refine Zab (Zag rfl (by simp only [EV,Nat.reduceEqDiff,↓reduceIte,he];try rfl) ?_)
  refine Zaf ?_
  show ∃ n', n' < _ /\ _
  refine ⟨_, (by omega : l.length - (i + 1) < l.length - i), i + 1, n2, rfl, hlt, ⟨by simp only [EV,Nat.reduceEqDiff,↓reduceIte,he];try rfl, by simp only [EV,Nat.reduceEqDiff,↓reduceIte,he];try rfl, by simp only [EV,Nat.reduceEqDiff,↓reduceIte,he];try rfl⟩, rfl, hn2, fun q => ?_⟩
  rw [Zjk l i hlt, hw2 q, <- hn0, hw]
  unfold ZfH
  omega
 ·refine Zba ?_
  show Zay _ _ _ _ _ _
  repeat refine Zac ?_
  first|refine Zaa ?_|refine Zad ?_
  refine Zab (Zag rfl he.2.1 ?_)
  refine Zab ?_
  refine ZiW (k := .i64) (a := (n : Int)) (b := 20000) rfl rfl ?_
  refine Zab (Zag rfl (by simp only [EV,Nat.reduceEqDiff,↓reduceIte,he];try rfl) ?_)
  refine Zaf ?_
  refine Zaw ?_
  have hr : decide ((n : Int) <= 20000) = true -> l.length <= 300 /\ ZdH l <= 20000 := fun q => by
   have hn2 := of_decide_eq_true q
   have hie : i = l.length := by
    have := of_decide_eq_false ht
    omega
   have := hw (by omega)
   rw [hie, List.take_length] at this
   exact ⟨h300, by omega⟩
  show ∃ r, Zaj _ _ _ _ r /\ _
  exact ⟨_, Zal rfl rfl, hK _ hr⟩
end
end Go.Proofs.Ytinpiaibhjmfaaa
