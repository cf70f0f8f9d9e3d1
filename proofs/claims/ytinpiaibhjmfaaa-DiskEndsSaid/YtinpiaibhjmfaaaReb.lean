/- Rows that are lent; what was lent is kept; written over. -/
import Derived.Test.YtinpiaibhjmfaaaRea
namespace Go.Proofs.Ytinpiaibhjmfaaa
open Go.RowKit
set_option maxRecDepth 100000
set_option linter.unusedVariables false
set_option linter.unusedSimpArgs false
def Zcl (σ : St) (S : Nat -> Prop) (v : AV) (ps : List (List UInt8)) : Prop := ∃ (cells : List AV) (bs : List Nat), bs.length = ps.length /\ bs.Nodup /\ Hd σ 32 1 v ps.length cells /\ (∀ i (h : i < ps.length) (hb : i < bs.length), ∃ u, cells[i]? = some u /\ ZjD σ bs[i] u ps[i]) /\ (∀ c ∈ bs, S c) /\ ∀ c, hbk v = some c -> S c
section
variable {σ τ : St} {K : AV -> St -> Prop}
theorem Zcl.but {U S : Nat -> Prop} {v : AV} {ps : List (List UInt8)} (h : Zcl σ S v ps) (k : But U σ τ) (hU : ∀ c, S c -> ¬ U c) : Zcl τ S v ps := by
 obtain ⟨cells, bs, h1, h2, h3, h4, h5, h6⟩ := h
 refine ⟨cells, bs, h1, h2, h3.but k fun c hc => hU c (h6 c hc), fun i hi hb => ?_, h5, h6⟩
 obtain ⟨u, q1, q2⟩ := h4 i hi hb
 exact ⟨u, q1, q2.but k (hU _ (h5 _ (List.getElem_mem hb)))⟩
theorem Zcl.ext {S : Nat -> Prop} {v : AV} {ps : List (List UInt8)} (h : Zcl σ S v ps) (k : Ext σ τ) : Zcl τ S v ps := h.but (U := fun _ => False) k.but fun _ _ => id
theorem Zcl.ls {S : Nat -> Prop} {v : AV} {ps : List (List UInt8)} (h : Zcl σ S v ps) : ZgD σ v ps := by
 obtain ⟨cells, bs, h1, h2, h3, h4, h5, h6⟩ := h
 refine ⟨cells, .of h3, fun i hi => ?_⟩
 obtain ⟨u, q1, q2⟩ := h4 i hi (by omega)
 exact ⟨u, q1, .inl (q2.hd (ZcV _))⟩
theorem Zkn.used {e b n : Nat} {v : AV} {cells marks : List AV} (h : Zkn σ e b n v cells marks) (hl : cells.length = n) : σ.used b := (h.hd hl).used h.bk
theorem Znx {v : AV} {ps : List (List UInt8)} (h : ZgD σ v ps) (hn : ps.length <= 1000000) (hm : ∀ p ∈ ps, p.length <= 1000000) (hK : ∀ u τ, Zcl τ (Za0 σ) u ps -> Ext σ τ -> K u τ) : Zat Try.prog 20 [v] σ K := by
 refine Zam Zas Try.func20 rfl rfl rfl (Nat.le_of_ble_eq_true rfl) ?_
 refine Zbz 0 (v0 := v) rfl ?_
 intro e he
 repeat refine Zac ?_
 first|refine Zaa ?_|refine Zad ?_
 refine Zab (Zae rfl (by simp only [EV,Nat.reduceEqDiff,↓reduceIte,he];try rfl) ?_)
 refine Zaf ?_
 apply Zbz 0
 ·simp only [EV,Nat.reduceEqDiff,↓reduceIte,he];try rfl
 clear he e
 intro e he
 repeat refine Zac ?_
 first|refine Zaa ?_|refine Zad ?_
 refine Zab (Zae rfl (by simp only [EV,Nat.reduceEqDiff,↓reduceIte,he];try rfl) ?_)
 refine Zaf ?_
 apply ZaK 0 3
 iterate 2 ·simp only [EV,Nat.reduceEqDiff,↓reduceIte,he];try rfl
 clear he e
 intro e he
 repeat refine Zac ?_
 first|refine Zaa ?_|refine Zad ?_
 refine Zab (Zae rfl (by simp only [EV,Nat.reduceEqDiff,↓reduceIte,he];try rfl) ?_)
 refine Zaf ?_
 apply ZaL 0 3 4
 iterate 3 ·simp only [EV,Nat.reduceEqDiff,↓reduceIte,he];try rfl
 clear he e
 intro e he
 refine ZaD ?_
 refine ZaV (fun μ env υ => ∃ (i : Nat) (u : AV), μ = ps.length - i /\ i <= ps.length /\ (env 0 = v /\ env 3 = u /\ env 4 = vI i) /\ Zcl υ (Za0 σ) u (ps.take i) /\ Ext σ υ) ⟨_, 0, _, rfl, Nat.zero_le _, he, ⟨[], [], rfl, .nil, ⟨rfl, by simp, .inl ⟨.inl rfl, rfl⟩⟩, fun i hi => by simp at hi, fun c hc => by simp at hc, fun c hc => by cases hc⟩, .refl _⟩ ?_
 clear he e
 rintro _ e υ ⟨i, u, rfl, hi, he, hR, hX⟩
 have hυ := h.ext hX
 have hL := hυ
 obtain ⟨cl, hl1, hl2⟩ := hL
 repeat refine Zac ?_
 first|refine Zaa ?_|refine Zad ?_
 refine Zab (Zae rfl he.2.2 ?_)
 refine Zab (Zae rfl he.1 ?_)
 refine Zab ?_
 refine ZbD rfl hl1 rfl Zba ?_
 refine Zab ?_
 refine Zbs i ps.length rfl rfl ?_
 refine Zaf ?_
 apply ZaP 0 3 4 8
 iterate 4 ·simp only [EV,Nat.reduceEqDiff,↓reduceIte,he];try rfl
 clear he e
 intro e he
 refine Zav (t := decide (i < ps.length)) he.2.2.2 (fun ht => ?_) (fun ht => ?_)
 ·have hlt : i < ps.length := of_decide_eq_true ht
  obtain ⟨w, hw1, hw2⟩ := hl2 i hlt
  refine Zaz ?_
  refine ZaD ?_
  repeat refine Zac ?_
  first|refine Zaa ?_|refine Zad ?_
  refine Zab (Zae rfl he.2.1 ?_)
  refine Zab (Zae rfl he.1 ?_)
  refine Zab (Zae rfl he.2.2.1 ?_)
  refine Zjn hl1 hlt hw1 rfl rfl Zba ZaJ ZbO fun u1 => ?_
  refine Zab ?_
  refine Zao (vs := [w]) (by simp only [List.map_cons, List.map_nil, EV,Nat.reduceEqDiff,↓reduceIte,he];try rfl) ?_
  refine Znv hw2 (hm _ (List.getElem_mem hlt)) fun b x υ2 hB hX2 hN => ?_
  have hbx := hB.bk
  have hone := (hB.hd (ZcV _)).oneV
  refine Zab ?_
  refine Zbd (vs := [x]) (cells := [x]) (by simp only [List.map_cons, List.map_nil, EV,Nat.reduceEqDiff,↓reduceIte,he];try rfl) Zba ZaJ ZcI rfl (by decide) (ZpV ⟨hone.2.1, hone.2.2⟩) fun b3 hu3 hb3 => ?_
  have hX3 := hX2.trans (Ext.put (σ := υ2) (.tail 32 (1 * 1) (1 * 1)) hb3)
  have hB3 := hB.ext (Ext.put (σ := υ2) (.tail 32 (1 * 1) (1 * 1)) hb3)
  obtain ⟨cells, bs, r1, r2, r3', r4', r5, r6⟩ := hR
  have r3 := r3'.ext hX3
  have hti : (ps.take i).length = i := by rw [List.length_take]; omega
  rw [hti] at r1 r3
  refine Zab ?_
  refine Za9 (m := 1) (news := [x]) (by simp only [EV,Nat.reduceEqDiff,↓reduceIte,he];try rfl) (by simp only [EV,Nat.reduceEqDiff,↓reduceIte,he];try rfl) Zba ZaJ ZcI ZoI rfl (by omega) r3 (ZbY (rest := []) rfl (fun a ha => by rw [List.mem_singleton.1 ha]; exact hone.1) (fun q => by cases q)) (by unfold maxLen; omega) (by omega) fun v4 υ4 hv4 hB4 hn4 => ?_
  have hX4 : Ext σ υ4 := But.ext (hX.trans hX3) (fun c hc => (r6 c hc).1) hB4
  have hne : ∀ {d : List UInt8} {b' : Nat} {y : AV}, ZjD (υ2.put b3 (.tail 32 (1 * 1) (1 * 1))) b' y d -> ¬ hbk u = some b' := fun hy hq => (hy.hd (ZcV _)).ne r3 (by decide) hy.bk hq
  refine Zab (Zae rfl (by simp only [EV,Nat.reduceEqDiff,↓reduceIte,he];try rfl) ?_)
  refine Zaf ?_
  apply ZaL 0 3 4
  iterate 3 ·simp only [EV,Nat.reduceEqDiff,↓reduceIte,he];try rfl
  clear he e
  intro e he
  repeat refine Zac ?_
  first|refine Zaa ?_|refine Zad ?_
  refine Zab (Zae rfl he.2.2 ?_)
  refine Zab ?_
  refine ZaU i 1 rfl rfl (by omega) ?_
  refine Zab (Zae rfl (by simp only [EV,Nat.reduceEqDiff,↓reduceIte,he];try rfl) ?_)
  refine Zaf ?_
  show ∃ n', n' < _ /\ _
  have htk : ps.take (i + 1) = ps.take i ++ [ps[i]] := List.take_succ_eq_append_getElem hlt
  have htl : (ps.take (i + 1)).length = i + 1 := by rw [List.length_take]; omega
  have hcl : cells.length = i := by rw [r3.len, Nat.mul_one]
  refine ⟨_, (by omega : ps.length - (i + 1) < ps.length - i), i + 1, v4, rfl, hlt, ⟨by simp only [EV,Nat.reduceEqDiff,↓reduceIte,he];try rfl, by simp only [EV,Nat.reduceEqDiff,↓reduceIte,he];try rfl, by simp only [EV,Nat.reduceEqDiff,↓reduceIte,he];try rfl⟩, ⟨cells ++ [x], bs ++ [b], by rw [htl, List.length_append, r1]; rfl, ?_, by rw [htl]; exact hv4, fun j hj hb => ?_, fun c hc => ?_, fun c hc => (hn4 c hc).elim (fun q => r6 c q) fun q => Za0.of q (hX.trans hX3)⟩, hX4⟩
  ·refine List.nodup_append.2 ⟨r2, by simp, fun a ha a' ha' hq => ?_⟩
   rw [List.mem_singleton.1 ha'] at hq
   subst hq
   obtain ⟨j, hj, rfl⟩ := List.getElem_of_mem ha
   obtain ⟨y, _, q2⟩ := r4' j (by rw [hti]; omega) hj
   exact hN.2 (q2.used (ZcV _))
  ·rw [htl] at hj
   by_cases hji : j < i
   ·obtain ⟨y, q1, q2'⟩ := r4' j (by rw [hti]; omega) (by omega)
    have q2 := q2'.ext hX3
    refine ⟨y, by rw [List.getElem?_append_left (by omega)]; exact q1, ?_⟩
    rw [List.getElem_append_left (by omega)]
    have e1 : (ps.take (i + 1))[j]'(by rw [htl]; omega) = (ps.take i)[j]'(by rw [hti]; omega) := by rw [List.getElem_take, List.getElem_take]
    rw [e1]
    exact q2.but hB4 (hne q2)
   ·have : j = i := by omega
    subst this
    refine ⟨x, by rw [List.getElem?_append_right (by omega), hcl, Nat.sub_self]; rfl, ?_⟩
    have e1 : (ps.take (j + 1))[j]'(by rw [htl]; omega) = ps[j] := List.getElem_take
    have e2 : (bs ++ [b])[j]'hb = b := by rw [List.getElem_append_right (by omega)]; simp
    rw [e1, e2]
    exact hB3.but hB4 (hne hB3)
  ·rcases List.mem_append.1 hc with hc | hc
   ·exact r5 c hc
   ·rw [List.mem_singleton.1 hc]
    exact Za0.of hN hX
 ·have hin : i = ps.length := by have := of_decide_eq_false ht; omega
  subst hin
  rw [List.take_length] at hR
  refine Zbe ?_
  show Zay _ _ _ _ _ _
  repeat refine Zac ?_
  first|refine Zaa ?_|refine Zad ?_
  refine Zab (Zae rfl he.2.1 ?_)
  refine Zab (Zae rfl (by simp only [EV,Nat.reduceEqDiff,↓reduceIte,he];try rfl) ?_)
  refine Zaf ?_
  refine Zax ?_
  show ∃ r, Zaj _ _ _ _ r /\ _
  exact ⟨_, Zal rfl rfl, hK u _ hR hX⟩
theorem ZkR {d : List UInt8} {i : Nat} (h1 : d.length <= i) (h2 : i < d.length + 12) : (bys d ++ Znt 12)[i]? = some (.raw (.int .u8 (mkB 1 (i - d.length)))) := by
 rw [List.getElem?_append_right (by rw [ZcV]; exact h1), ZcV]
 unfold Znt
 rw [List.getElem?_map, List.getElem?_range (by omega)]
 rfl
theorem ZkS {ns : List (List UInt8)} {i : Nat} (h1 : ns.length <= i) (h2 : i < ns.length + 12) : (ZeZ ns ++ Znu 12)[i]? = some (.raw (sV (mkT 1 (i - ns.length)))) := by
 rw [List.getElem?_append_right (by rw [Zdb]; exact h1), Zdb]
 unfold Znu
 rw [List.getElem?_map, List.getElem?_range (by omega)]
 rfl
theorem Zny {b : Nat} {u v : AV} {d : List UInt8} (hu : ZjD σ b u d) (hv : ZcY σ v d) (hl : d.length <= 1000000) (hK : K (vT true) σ) : Zat Try.prog 57 [u, v] σ K := by
 have g1 := Ls.of (hu.hd (ZcV _))
 have g2 := hv.ls
 obtain ⟨c, rfl, hA⟩ := hu
 have hAl := Ls.of hA
 have hc : d.length + 12 <= c := by
  rcases hA.2.2 with ⟨_, h0⟩ | ⟨b', c', all, h0, h1, _, _, _, _, h2, _⟩
  ·omega
  ·unfold hdr at h1
   injection h1 with h1
   injection h1 with _ _ h4
   omega
 refine Zam Zas Try.func57 rfl rfl rfl (Nat.le_of_ble_eq_true rfl) ?_
 refine ZaK 0 1 (v0 := hdr b d.length c) (v1 := v) rfl rfl ?_
 intro e he
 repeat refine Zac ?_
 first|refine Zaa ?_|refine Zad ?_
 refine Zab (Zae rfl (by simp only [EV,Nat.reduceEqDiff,↓reduceIte,he];try rfl) ?_)
 refine Zaf ?_
 apply ZaK 0 1
 iterate 2 ·simp only [EV,Nat.reduceEqDiff,↓reduceIte,he];try rfl
 clear he e
 intro e he
 repeat refine Zac ?_
 first|refine Zaa ?_|refine Zad ?_
 refine Zab (Zae rfl he.1 ?_)
 refine Zab ?_
 refine ZbD rfl g1 rfl Zaw ?_
 refine Zab (Zae rfl he.2 ?_)
 refine Zab ?_
 refine ZbD rfl g2 rfl Zaw ?_
 refine Zab ?_
 refine Zgu (k := .i64) (a := (d.length : Int)) (b := (d.length : Int)) rfl rfl ?_
 rw [decide_eq_false (by simp : ¬ (d.length : Int) ≠ (d.length : Int))]
 refine Zaf ?_
 apply ZaL 0 1 11
 iterate 3 ·simp only [EV,Nat.reduceEqDiff,↓reduceIte,he];try rfl
 clear he e
 intro e he
 refine Zav (t := false) he.2.2 (fun hf => by cases hf) (fun _ => ?_)
 refine Zaz ?_
 repeat refine Zac ?_
 first|refine Zaa ?_|refine Zad ?_
 refine Zab (Zae rfl he.1 ?_)
 refine Zab (Zae rfl he.2.1 ?_)
 refine Zab ?_
 refine ZbD rfl g2 rfl Zaw ?_
 refine Zab ?_
 refine ZaU d.length 12 rfl rfl (by omega) ?_
 refine Zab ?_
 refine ZiZ (b := b) (n := d.length) (c := c) (u := d.length + 12) rfl rfl Zaw Zbf hc ?_
 refine Zab (Zae rfl (by simp only [EV,Nat.reduceEqDiff,↓reduceIte,he];try rfl) ?_)
 refine Zaf ?_
 apply ZaK 1 5
 iterate 2 ·simp only [EV,Nat.reduceEqDiff,↓reduceIte,he];try rfl
 clear he e
 intro e he
 repeat refine Zac ?_
 first|refine Zaa ?_|refine Zad ?_
 refine Zab (Zae rfl (by simp only [EV,Nat.reduceEqDiff,↓reduceIte,he];try rfl) ?_)
 refine Zaf ?_
 apply ZaL 1 5 6
 iterate 3 ·simp only [EV,Nat.reduceEqDiff,↓reduceIte,he];try rfl
 clear he e
 intro e he
 refine ZaD ?_
 refine ZaV (fun μ env υ => ∃ i : Nat, μ = d.length + 12 - i /\ i <= d.length + 12 /\ (env 1 = v /\ env 5 = hdr b (d.length + 12) c /\ env 6 = vI i) /\ σ = υ) ⟨_, 0, rfl, Nat.zero_le _, he, rfl⟩ ?_
 clear he e
 rintro _ e _ ⟨i, rfl, hi, he, rfl⟩
 repeat refine Zac ?_
 first|refine Zaa ?_|refine Zad ?_
 refine Zab (Zae rfl he.2.2 ?_)
 refine Zab (Zae rfl he.2.1 ?_)
 refine Zab ?_
 refine ZbD rfl hAl rfl Zaw ?_
 refine Zab ?_
 refine Zbs i (d.length + 12) rfl rfl ?_
 refine Zaf ?_
 apply ZaP 1 5 6 20
 iterate 4 ·simp only [EV,Nat.reduceEqDiff,↓reduceIte,he];try rfl
 clear he e
 intro e he
 refine Zav (t := decide (i < d.length + 12)) he.2.2.2 (fun ht => ?_) (fun ht => ?_)
 ·have hlt : i < d.length + 12 := of_decide_eq_true ht
  refine Zaz ?_
  refine ZaD ?_
  refine ZaZ (fun env υ => (env 1 = v /\ env 5 = hdr b (d.length + 12) c /\ env 6 = vI i /\ env 57 = vT false) /\ σ = υ) ?_ ?_
  ·refine ZcS ?_
   refine ⟨[0, 1, 2, 3, 4, 5, 6, 7, 9, 10, 11, 8, 12, 13, 14, 15, 16, 17, 18, 19, 20, 21, 22, 23, 24, 26, 27, 28, 29, 25, 30, 31, 32, 33, 34], [[], [], [1], [0, 1, 2], [0, 1, 2, 3], [0, 1, 2, 3, 4], [0, 1, 2, 3, 4], [0, 1, 2, 3, 4, 5, 6], [0, 1, 2, 3, 4, 5, 6, 7], [0, 1, 2, 3, 4], [0, 1, 2, 3, 4], [0, 1, 2, 3, 4, 9, 10], [0, 1, 2, 3, 4, 9, 10, 11], [0, 1, 2, 3, 4, 5, 6, 7, 8, 9, 10, 11, 12], [0, 1, 2, 3, 4, 5, 6, 7, 8, 9, 10, 11, 12, 13], [0, 1, 2, 3, 4, 5, 6, 7, 8, 9, 10, 11, 12, 13, 14], [0, 1, 2, 3, 4, 5, 6, 7, 8, 9, 10, 11, 12, 13, 14, 15], [0, 1, 2, 3, 4, 5, 6, 7, 8, 9, 10, 11, 12, 13, 14, 15, 16], [0, 1, 2, 3, 4, 5, 6, 7, 8, 9, 10, 11, 12, 13, 14, 15, 16], [0, 1, 2, 3, 4, 5, 6, 7, 8, 9, 10, 11, 12, 13, 14, 15, 16, 18], [0, 1, 2, 3, 4, 5, 6, 7, 8, 9, 10, 11, 12, 13, 14, 15, 16, 17, 18, 19], [0, 1, 2, 3, 4, 5, 6, 7, 8, 9, 10, 11, 12, 13, 14, 15, 16, 17, 18, 19, 20], [0, 1, 2, 3, 4, 5, 6, 7, 8, 9, 10, 11, 12, 13, 14, 15, 16, 17, 18, 19, 20, 21], [0, 1, 2, 3, 4, 5, 6, 7, 8, 9, 10, 11, 12, 13, 14, 15, 16, 17, 18, 19, 20, 21], [0, 1, 2, 3, 4, 5, 6, 7, 8, 9, 10, 11, 12, 13, 14, 15, 16, 17, 18, 19, 20, 21, 22, 23], [0, 1, 2, 3, 4, 5, 6, 7, 8, 9, 10, 11, 12, 13, 14, 15, 16, 17, 18, 19, 20, 21, 22, 23, 24], [0, 1, 2, 3, 4, 5, 6, 7, 8, 9, 10, 11, 12, 13, 14, 15, 16, 17, 18, 19, 20, 21], [0, 1, 2, 3, 4, 5, 6, 7, 8, 9, 10, 11, 12, 13, 14, 15, 16, 17, 18, 19, 20, 21], [0, 1, 2, 3, 4, 5, 6, 7, 8, 9, 10, 11, 12, 13, 14, 15, 16, 17, 18, 19, 20, 21, 27], [0, 1, 2, 3, 4, 5, 6, 7, 8, 9, 10, 11, 12, 13, 14, 15, 16, 17, 18, 19, 20, 21, 26, 27, 28], [0, 1, 2, 3, 4, 5, 6, 7, 8, 9, 10, 11, 12, 13, 14, 15, 16, 17, 18, 19, 20, 21, 26, 27, 28, 29], [0, 1, 2, 3, 4, 5, 6, 7, 8, 9, 10, 11, 12, 13, 14, 15, 16, 17, 18, 19, 20, 21, 22, 23, 24, 25, 26, 27, 28, 29, 30], [0, 1, 2, 3, 4, 5, 6, 7, 8, 9, 10, 11, 12, 13, 14, 15, 16, 17, 18, 19, 20, 21, 22, 23, 24, 25, 26, 27, 28, 29, 30, 31], [0, 1, 2, 3, 4, 5, 6, 7, 8, 9, 10, 11, 12, 13, 14, 15, 16, 17, 18, 19, 20, 21, 22, 23, 24, 25, 26, 27, 28, 29, 30, 31, 32], [0, 1, 2, 3, 4, 5, 6, 7, 8, 9, 10, 11, 12, 13, 14, 15, 16, 17, 18, 19, 20, 21, 22, 23, 24, 25, 26, 27, 28, 29, 30, 31, 32, 33]], fun _ => True, [25], [30], [], by kernel_rfl, ?_⟩
   apply Zai
   case hi => simp only [HIX]; try rfl
   case hw => rfl
   case how => rfl
   refine Zae rfl he.2.2.1 ?_
   refine Zaq ?_
   apply Zai
   case hi => simp only [HIX]; try rfl
   case hw => rfl
   case how => rfl
   refine Zae rfl he.1 ?_
   refine Zaq ?_
   apply Zai
   case hi => simp only [HIX]; try rfl
   case hw => rfl
   case how => rfl
   refine ZbD rfl g2 rfl Zaw ?_
   refine Zaq ?_
   apply Zai
   case hi => simp only [HIX]; try rfl
   case hw => rfl
   case how => rfl
   refine Zbs i d.length rfl rfl ?_
   refine Zaq ?_
   apply Zai
   case hi => simp only [HIX]; try rfl
   case hw => rfl
   case how => rfl
   refine Zae rfl rfl ?_
   refine Zaq ?_
   by_cases hid : i < d.length
   ·have hai : (bys d ++ Znt 12)[i]? = some (.raw (.int .u8 (d[i].toNat : Int))) := by
     rw [List.getElem?_append_left (by rw [ZcV]; exact hid)]
     exact Zhz hid
    rw [decide_eq_true hid]
    apply Zai
    case hi => simp only [HIX]; try rfl
    case hw => rfl
    case how => rfl
    refine Zae rfl he.2.1 ?_
    refine Zaq ?_
    apply Zai
    case hi => simp only [HIX]; try rfl
    case hw => rfl
    case how => rfl
    refine Zae rfl he.2.2.1 ?_
    refine Zaq ?_
    apply Zai
    case hi => simp only [HIX]; try rfl
    case hw => rfl
    case how => rfl
    refine ZdT hAl hlt hai rfl rfl Zaw Zbf Zix fun q1 hq1 => ?_
    refine Zaq ?_
    apply Zai
    case hi => simp only [HIX]; try rfl
    case hw => rfl
    case how => rfl
    refine Zae rfl he.1 ?_
    refine Zaq ?_
    apply Zai
    case hi => simp only [HIX]; try rfl
    case hw => rfl
    case how => rfl
    refine Zae rfl he.2.2.1 ?_
    refine Zaq ?_
    apply Zai
    case hi => simp only [HIX]; try rfl
    case hw => rfl
    case how => rfl
    refine ZdT g2 hid (Zhz hid) rfl rfl Zaw Zbf Zix fun q2 hq2 => ?_
    refine Zaq ?_
    apply Zai
    case hi => simp only [HIX]; try rfl
    case hw => rfl
    case how => rfl
    refine Zc3 rfl hq1 ?_
    refine Zaq ?_
    apply Zai
    case hi => simp only [HIX]; try rfl
    case hw => rfl
    case how => rfl
    refine Zc3 rfl hq2 ?_
    refine Zaq ?_
    apply Zai
    case hi => simp only [HIX]; try rfl
    case hw => rfl
    case how => rfl
    refine Zcn (k := .u8) (a := (d[i].toNat : Int)) (b := (d[i].toNat : Int)) rfl rfl ?_
    rw [decide_eq_true rfl]
    refine Zaq ?_
    apply Zai
    case hi => simp only [HIX]; try rfl
    case hw => rfl
    case how => rfl
    with_reducible apply ZbB
    case hx => simp only [EV,Nat.reduceEqDiff,↓reduceIte,he];try rfl
    refine Zaq ?_
    apply Zai
    case hi => simp only [HIX]; try rfl
    case hw => rfl
    case how => rfl
    refine ZaG (v := vT false) rfl rfl ?_
    refine Zaq ?_
    apply Zai
    case hi => simp only [HIX]; try rfl
    case hw => rfl
    case how => rfl
    refine Zae rfl rfl ?_
    refine Zaq ?_
    apply Zai
    case hi => simp only [HIX]; try rfl
    case hw => rfl
    case how => rfl
    refine Zae rfl he.2.2.1 ?_
    refine Zaq ?_
    apply Zai
    case hi => simp only [HIX]; try rfl
    case hw => rfl
    case how => rfl
    refine Zae rfl he.1 ?_
    refine Zaq ?_
    apply Zai
    case hi => simp only [HIX]; try rfl
    case hw => rfl
    case how => rfl
    refine ZbD rfl g2 rfl Zaw ?_
    refine Zaq ?_
    apply Zai
    case hi => simp only [HIX]; try rfl
    case hw => rfl
    case how => rfl
    refine ZfB (k := .i64) (a := (i : Int)) (b := (d.length : Int)) rfl rfl ?_
    rw [decide_eq_false (by omega : ¬ (d.length : Int) <= (i : Int))]
    refine Zaq ?_
    apply Zai
    case hi => simp only [HIX]; try rfl
    case hw => rfl
    case how => rfl
    refine Zae rfl rfl ?_
    refine Zaq ?_
    apply Zbl
    case hi => simp only [HIX]; try rfl
    case hg => rfl
    case how => rfl
    apply Zbl
    case hi => simp only [HIX]; try rfl
    case hg => rfl
    case how => rfl
    apply Zbl
    case hi => simp only [HIX]; try rfl
    case hg => rfl
    case how => rfl
    apply Zbl
    case hi => simp only [HIX]; try rfl
    case hg => rfl
    case how => rfl
    apply Zbl
    case hi => simp only [HIX]; try rfl
    case hg => rfl
    case how => rfl
    apply Zbl
    case hi => simp only [HIX]; try rfl
    case hg => rfl
    case how => rfl
    apply Zbl
    case hi => simp only [HIX]; try rfl
    case hg => rfl
    case how => rfl
    apply Zbl
    case hi => simp only [HIX]; try rfl
    case hg => rfl
    case how => rfl
    apply Zbl
    case hi => simp only [HIX]; try rfl
    case hg => rfl
    case how => rfl
    apply Zbl
    case hi => simp only [HIX]; try rfl
    case hg => rfl
    case how => rfl
    apply Zbl
    case hi => simp only [HIX]; try rfl
    case hg => rfl
    case how => rfl
    apply Zai
    case hi => simp only [HIX]; try rfl
    case hw => rfl
    case how => rfl
    refine Za2 (v := vT false) rfl rfl ?_
    refine Zaq ?_
    apply Zai
    case hi => simp only [HIX]; try rfl
    case hw => rfl
    case how => rfl
    refine Za2 (v := vT false) rfl rfl ?_
    refine Zaq ?_
    refine Zcg ?_
    exact ⟨rfl, ⟨by simp only [EV,Nat.reduceEqDiff,↓reduceIte,he];try rfl, by simp only [EV,Nat.reduceEqDiff,↓reduceIte,he];try rfl, by simp only [EV,Nat.reduceEqDiff,↓reduceIte,he];try rfl, by simp only [EV,Nat.reduceEqDiff,↓reduceIte,he];try rfl⟩, rfl⟩
   ·rw [decide_eq_false hid]
    apply Zbl
    case hi => simp only [HIX]; try rfl
    case hg => rfl
    case how => rfl
    apply Zbl
    case hi => simp only [HIX]; try rfl
    case hg => rfl
    case how => rfl
    apply Zbl
    case hi => simp only [HIX]; try rfl
    case hg => rfl
    case how => rfl
    apply Zbl
    case hi => simp only [HIX]; try rfl
    case hg => rfl
    case how => rfl
    apply Zbl
    case hi => simp only [HIX]; try rfl
    case hg => rfl
    case how => rfl
    apply Zbl
    case hi => simp only [HIX]; try rfl
    case hg => rfl
    case how => rfl
    apply Zbl
    case hi => simp only [HIX]; try rfl
    case hg => rfl
    case how => rfl
    apply Zbl
    case hi => simp only [HIX]; try rfl
    case hg => rfl
    case how => rfl
    apply Zbl
    case hi => simp only [HIX]; try rfl
    case hg => rfl
    case how => rfl
    apply Zbl
    case hi => simp only [HIX]; try rfl
    case hg => rfl
    case how => rfl
    apply Zai
    case hi => simp only [HIX]; try rfl
    case hw => rfl
    case how => rfl
    refine Za2 (v := vT false) rfl rfl ?_
    refine Zaq ?_
    apply Zai
    case hi => simp only [HIX]; try rfl
    case hw => rfl
    case how => rfl
    refine Zae rfl rfl ?_
    refine Zaq ?_
    apply Zai
    case hi => simp only [HIX]; try rfl
    case hw => rfl
    case how => rfl
    refine Zae rfl he.2.2.1 ?_
    refine Zaq ?_
    apply Zai
    case hi => simp only [HIX]; try rfl
    case hw => rfl
    case how => rfl
    refine Zae rfl he.1 ?_
    refine Zaq ?_
    apply Zai
    case hi => simp only [HIX]; try rfl
    case hw => rfl
    case how => rfl
    refine ZbD rfl g2 rfl Zaw ?_
    refine Zaq ?_
    apply Zai
    case hi => simp only [HIX]; try rfl
    case hw => rfl
    case how => rfl
    refine ZfB (k := .i64) (a := (i : Int)) (b := (d.length : Int)) rfl rfl ?_
    rw [decide_eq_true (by omega : (d.length : Int) <= (i : Int))]
    refine Zaq ?_
    apply Zai
    case hi => simp only [HIX]; try rfl
    case hw => rfl
    case how => rfl
    refine Zae rfl rfl ?_
    refine Zaq ?_
    apply Zai
    case hi => simp only [HIX]; try rfl
    case hw => rfl
    case how => rfl
    refine Zae rfl he.2.1 ?_
    refine Zaq ?_
    apply Zai
    case hi => simp only [HIX]; try rfl
    case hw => rfl
    case how => rfl
    refine Zae rfl he.2.2.1 ?_
    refine Zaq ?_
    apply Zai
    case hi => simp only [HIX]; try rfl
    case hw => rfl
    case how => rfl
    refine ZdT hAl hlt (ZkR (by omega) hlt) rfl rfl Zaw Zbf Zix fun q1 hq1 => ?_
    refine Zaq ?_
    apply Zai
    case hi => simp only [HIX]; try rfl
    case hw => rfl
    case how => rfl
    refine Zae rfl he.2.2.1 ?_
    refine Zaq ?_
    apply Zai
    case hi => simp only [HIX]; try rfl
    case hw => rfl
    case how => rfl
    refine Zae rfl he.1 ?_
    refine Zaq ?_
    apply Zai
    case hi => simp only [HIX]; try rfl
    case hw => rfl
    case how => rfl
    refine ZbD rfl g2 rfl Zaw ?_
    refine Zaq ?_
    apply Zai
    case hi => simp only [HIX]; try rfl
    case hw => rfl
    case how => rfl
    refine ZcZ (i : Int) (d.length : Int) rfl rfl (by omega) (by omega) ?_
    rw [show (i : Int) - (d.length : Int) = ((i - d.length : Nat) : Int) by omega]
    refine Zaq ?_
    apply Zai
    case hi => simp only [HIX]; try rfl
    case hw => rfl
    case how => rfl
    refine Zc3 rfl hq1 ?_
    refine Zaq ?_
    apply Zai
    case hi => simp only [HIX]; try rfl
    case hw => rfl
    case how => rfl
    refine Zao (vs := [vI (1 : Nat), vI ((i - d.length : Nat) : Int)]) (by simp only [List.map_cons, List.map_nil, EV,Nat.reduceEqDiff,↓reduceIte,he];try rfl) ?_
    refine Zh2 (by omega) (by omega) ?_
    refine Zaq ?_
    apply Zai
    case hi => simp only [HIX]; try rfl
    case hw => rfl
    case how => rfl
    refine Zcn (k := .u8) (a := mkB 1 (i - d.length)) (b := mkB 1 (i - d.length)) rfl rfl ?_
    rw [decide_eq_true rfl]
    refine Zaq ?_
    apply Zai
    case hi => simp only [HIX]; try rfl
    case hw => rfl
    case how => rfl
    with_reducible apply ZbB
    case hx => simp only [EV,Nat.reduceEqDiff,↓reduceIte,he];try rfl
    refine Zaq ?_
    apply Zai
    case hi => simp only [HIX]; try rfl
    case hw => rfl
    case how => rfl
    refine ZaG (v := vT false) rfl rfl ?_
    refine Zaq ?_
    apply Zai
    case hi => simp only [HIX]; try rfl
    case hw => rfl
    case how => rfl
    refine Za2 (v := vT false) rfl rfl ?_
    refine Zaq ?_
    refine Zcg ?_
    exact ⟨rfl, ⟨by simp only [EV,Nat.reduceEqDiff,↓reduceIte,he];try rfl, by simp only [EV,Nat.reduceEqDiff,↓reduceIte,he];try rfl, by simp only [EV,Nat.reduceEqDiff,↓reduceIte,he];try rfl, by simp only [EV,Nat.reduceEqDiff,↓reduceIte,he];try rfl⟩, rfl⟩
  clear he e
  rintro e _ ⟨he, rfl⟩
  refine ZaS (t := false) he.2.2.2 (fun hf => by cases hf) (fun _ => ?_)
  refine Zbq ?_
  show Zay _ _ _ _ _ _
  refine Zad ?_
  refine Zab (Zae rfl he.2.2.1 ?_)
  refine Zab ?_
  refine ZaU i 1 rfl rfl (by omega) ?_
  refine Zab (Zae rfl (by simp only [EV,Nat.reduceEqDiff,↓reduceIte,he];try rfl) ?_)
  refine Zaf ?_
  show ∃ n', n' < _ /\ _
  exact ⟨_, (by omega : d.length + 12 - (i + 1) < d.length + 12 - i), i + 1, rfl, hlt, ⟨by simp only [EV,Nat.reduceEqDiff,↓reduceIte,he];try rfl, by simp only [EV,Nat.reduceEqDiff,↓reduceIte,he];try rfl, by simp only [EV,Nat.reduceEqDiff,↓reduceIte,he];try rfl⟩, rfl⟩
 ·refine Zbe ?_
  show Zay _ _ _ _ _ _
  repeat refine Zac ?_
  first|refine Zaa ?_|refine Zad ?_
  refine Zab (Zae rfl (by simp only [EV,Nat.reduceEqDiff,↓reduceIte,he];try rfl) ?_)
  refine Zaf ?_
  refine Zax ?_
  show ∃ r, Zaj _ _ _ _ r /\ _
  exact ⟨_, Zal rfl rfl, hK⟩
theorem Znz {b : Nat} {u v : AV} {d : List (List UInt8)} (hu : ZpU σ b u d) (g2 : Ls σ 9 v d.length (ZeZ d)) (hl : d.length <= 1000000) (hK : ∀ τ, Ext σ τ -> K (vT true) τ) : Zat Try.prog 26 [u, v] σ K := by
 have g1 := Ls.of (hu.hd (Zdb _))
 obtain ⟨c, rfl, hA⟩ := hu
 have hAl := Ls.of hA
 have hc : d.length + 12 <= c := by
  rcases hA.2.2 with ⟨_, h0⟩ | ⟨b', c', all, h0, h1, _, _, _, _, h2, _⟩
  ·omega
  ·unfold hdr at h1
   injection h1 with h1
   injection h1 with _ _ h4
   omega
 refine Zam Zas Try.func26 rfl rfl rfl (Nat.le_of_ble_eq_true rfl) ?_
 refine ZaK 0 1 (v0 := hdr b d.length c) (v1 := v) rfl rfl ?_
 intro e he
 repeat refine Zac ?_
 first|refine Zaa ?_|refine Zad ?_
 refine Zab (Zae rfl (by simp only [EV,Nat.reduceEqDiff,↓reduceIte,he];try rfl) ?_)
 refine Zaf ?_
 apply ZaK 0 1
 iterate 2 ·simp only [EV,Nat.reduceEqDiff,↓reduceIte,he];try rfl
 clear he e
 intro e he
 repeat refine Zac ?_
 first|refine Zaa ?_|refine Zad ?_
 refine Zab (Zae rfl he.1 ?_)
 refine Zab ?_
 refine ZbD rfl g1 rfl ZaE ?_
 refine Zab (Zae rfl he.2 ?_)
 refine Zab ?_
 refine ZbD rfl g2 rfl ZaE ?_
 refine Zab ?_
 refine Zgu (k := .i64) (a := (d.length : Int)) (b := (d.length : Int)) rfl rfl ?_
 rw [decide_eq_false (by simp : ¬ (d.length : Int) ≠ (d.length : Int))]
 refine Zaf ?_
 apply ZaL 0 1 11
 iterate 3 ·simp only [EV,Nat.reduceEqDiff,↓reduceIte,he];try rfl
 clear he e
 intro e he
 refine Zav (t := false) he.2.2 (fun hf => by cases hf) (fun _ => ?_)
 refine Zaz ?_
 repeat refine Zac ?_
 first|refine Zaa ?_|refine Zad ?_
 refine Zab (Zae rfl he.1 ?_)
 refine Zab (Zae rfl he.2.1 ?_)
 refine Zab ?_
 refine ZbD rfl g2 rfl ZaE ?_
 refine Zab ?_
 refine ZaU d.length 12 rfl rfl (by omega) ?_
 refine Zab ?_
 refine ZiZ (b := b) (n := d.length) (c := c) (u := d.length + 12) rfl rfl ZaE Zb3 hc ?_
 refine Zab (Zae rfl (by simp only [EV,Nat.reduceEqDiff,↓reduceIte,he];try rfl) ?_)
 refine Zaf ?_
 apply ZaK 1 5
 iterate 2 ·simp only [EV,Nat.reduceEqDiff,↓reduceIte,he];try rfl
 clear he e
 intro e he
 repeat refine Zac ?_
 first|refine Zaa ?_|refine Zad ?_
 refine Zab (Zae rfl (by simp only [EV,Nat.reduceEqDiff,↓reduceIte,he];try rfl) ?_)
 refine Zaf ?_
 apply ZaL 1 5 6
 iterate 3 ·simp only [EV,Nat.reduceEqDiff,↓reduceIte,he];try rfl
 clear he e
 intro e he
 refine ZaD ?_
 refine ZaV (fun μ env υ => ∃ i : Nat, μ = d.length + 12 - i /\ i <= d.length + 12 /\ (env 1 = v /\ env 5 = hdr b (d.length + 12) c /\ env 6 = vI i) /\ Ext σ υ) ⟨_, 0, rfl, Nat.zero_le _, he, .refl _⟩ ?_
 clear he e
 rintro _ e υ ⟨i, rfl, hi, he, hX⟩
 have hAl := hAl.ext hX
 have g2 := g2.ext hX
 repeat refine Zac ?_
 first|refine Zaa ?_|refine Zad ?_
 refine Zab (Zae rfl he.2.2 ?_)
 refine Zab (Zae rfl he.2.1 ?_)
 refine Zab ?_
 refine ZbD rfl hAl rfl ZaE ?_
 refine Zab ?_
 refine Zbs i (d.length + 12) rfl rfl ?_
 refine Zaf ?_
 apply ZaP 1 5 6 20
 iterate 4 ·simp only [EV,Nat.reduceEqDiff,↓reduceIte,he];try rfl
 clear he e
 intro e he
 refine Zav (t := decide (i < d.length + 12)) he.2.2.2 (fun ht => ?_) (fun ht => ?_)
 ·have hlt : i < d.length + 12 := of_decide_eq_true ht
  refine Zaz ?_
  refine ZaD ?_
  refine ZaZ (fun env τ => (env 1 = v /\ env 5 = hdr b (d.length + 12) c /\ env 6 = vI i /\ env 57 = vT false) /\ Ext υ τ) ?_ ?_
  ·refine ZcS ?_
   refine ⟨[0, 1, 2, 3, 4, 5, 6, 7, 9, 10, 11, 8, 12, 13, 14, 15, 16, 17, 18, 19, 20, 21, 22, 23, 24, 26, 27, 28, 29, 25, 30, 31, 32, 33, 34], [[], [], [1], [0, 1, 2], [0, 1, 2, 3], [0, 1, 2, 3, 4], [0, 1, 2, 3, 4], [0, 1, 2, 3, 4, 5, 6], [0, 1, 2, 3, 4, 5, 6, 7], [0, 1, 2, 3, 4], [0, 1, 2, 3, 4], [0, 1, 2, 3, 4, 9, 10], [0, 1, 2, 3, 4, 9, 10, 11], [0, 1, 2, 3, 4, 5, 6, 7, 8, 9, 10, 11, 12], [0, 1, 2, 3, 4, 5, 6, 7, 8, 9, 10, 11, 12, 13], [0, 1, 2, 3, 4, 5, 6, 7, 8, 9, 10, 11, 12, 13, 14], [0, 1, 2, 3, 4, 5, 6, 7, 8, 9, 10, 11, 12, 13, 14, 15], [0, 1, 2, 3, 4, 5, 6, 7, 8, 9, 10, 11, 12, 13, 14, 15, 16], [0, 1, 2, 3, 4, 5, 6, 7, 8, 9, 10, 11, 12, 13, 14, 15, 16], [0, 1, 2, 3, 4, 5, 6, 7, 8, 9, 10, 11, 12, 13, 14, 15, 16, 18], [0, 1, 2, 3, 4, 5, 6, 7, 8, 9, 10, 11, 12, 13, 14, 15, 16, 17, 18, 19], [0, 1, 2, 3, 4, 5, 6, 7, 8, 9, 10, 11, 12, 13, 14, 15, 16, 17, 18, 19, 20], [0, 1, 2, 3, 4, 5, 6, 7, 8, 9, 10, 11, 12, 13, 14, 15, 16, 17, 18, 19, 20, 21], [0, 1, 2, 3, 4, 5, 6, 7, 8, 9, 10, 11, 12, 13, 14, 15, 16, 17, 18, 19, 20, 21], [0, 1, 2, 3, 4, 5, 6, 7, 8, 9, 10, 11, 12, 13, 14, 15, 16, 17, 18, 19, 20, 21, 22, 23], [0, 1, 2, 3, 4, 5, 6, 7, 8, 9, 10, 11, 12, 13, 14, 15, 16, 17, 18, 19, 20, 21, 22, 23, 24], [0, 1, 2, 3, 4, 5, 6, 7, 8, 9, 10, 11, 12, 13, 14, 15, 16, 17, 18, 19, 20, 21], [0, 1, 2, 3, 4, 5, 6, 7, 8, 9, 10, 11, 12, 13, 14, 15, 16, 17, 18, 19, 20, 21], [0, 1, 2, 3, 4, 5, 6, 7, 8, 9, 10, 11, 12, 13, 14, 15, 16, 17, 18, 19, 20, 21, 27], [0, 1, 2, 3, 4, 5, 6, 7, 8, 9, 10, 11, 12, 13, 14, 15, 16, 17, 18, 19, 20, 21, 26, 27, 28], [0, 1, 2, 3, 4, 5, 6, 7, 8, 9, 10, 11, 12, 13, 14, 15, 16, 17, 18, 19, 20, 21, 26, 27, 28, 29], [0, 1, 2, 3, 4, 5, 6, 7, 8, 9, 10, 11, 12, 13, 14, 15, 16, 17, 18, 19, 20, 21, 22, 23, 24, 25, 26, 27, 28, 29, 30], [0, 1, 2, 3, 4, 5, 6, 7, 8, 9, 10, 11, 12, 13, 14, 15, 16, 17, 18, 19, 20, 21, 22, 23, 24, 25, 26, 27, 28, 29, 30, 31], [0, 1, 2, 3, 4, 5, 6, 7, 8, 9, 10, 11, 12, 13, 14, 15, 16, 17, 18, 19, 20, 21, 22, 23, 24, 25, 26, 27, 28, 29, 30, 31, 32], [0, 1, 2, 3, 4, 5, 6, 7, 8, 9, 10, 11, 12, 13, 14, 15, 16, 17, 18, 19, 20, 21, 22, 23, 24, 25, 26, 27, 28, 29, 30, 31, 32, 33]], fun _ => True, [25], [30], [], by kernel_rfl, ?_⟩
   apply Zai
   case hi => simp only [HIX]; try rfl
   case hw => rfl
   case how => rfl
   refine Zae rfl he.2.2.1 ?_
   refine Zaq ?_
   apply Zai
   case hi => simp only [HIX]; try rfl
   case hw => rfl
   case how => rfl
   refine Zae rfl he.1 ?_
   refine Zaq ?_
   apply Zai
   case hi => simp only [HIX]; try rfl
   case hw => rfl
   case how => rfl
   refine ZbD rfl g2 rfl ZaE ?_
   refine Zaq ?_
   apply Zai
   case hi => simp only [HIX]; try rfl
   case hw => rfl
   case how => rfl
   refine Zbs i d.length rfl rfl ?_
   refine Zaq ?_
   apply Zai
   case hi => simp only [HIX]; try rfl
   case hw => rfl
   case how => rfl
   refine Zae rfl rfl ?_
   refine Zaq ?_
   by_cases hid : i < d.length
   ·have hai : (ZeZ d ++ Znu 12)[i]? = some (.raw (sV d[i])) := by
     rw [List.getElem?_append_left (by rw [Zdb]; exact hid)]
     exact ZeV hid
    rw [decide_eq_true hid]
    apply Zai
    case hi => simp only [HIX]; try rfl
    case hw => rfl
    case how => rfl
    refine Zae rfl he.2.1 ?_
    refine Zaq ?_
    apply Zai
    case hi => simp only [HIX]; try rfl
    case hw => rfl
    case how => rfl
    refine Zae rfl he.2.2.1 ?_
    refine Zaq ?_
    apply Zai
    case hi => simp only [HIX]; try rfl
    case hw => rfl
    case how => rfl
    refine ZdT hAl hlt hai rfl rfl ZaE Zb3 Ze8 fun q1 hq1 => ?_
    refine Zaq ?_
    apply Zai
    case hi => simp only [HIX]; try rfl
    case hw => rfl
    case how => rfl
    refine Zae rfl he.1 ?_
    refine Zaq ?_
    apply Zai
    case hi => simp only [HIX]; try rfl
    case hw => rfl
    case how => rfl
    refine Zae rfl he.2.2.1 ?_
    refine Zaq ?_
    apply Zai
    case hi => simp only [HIX]; try rfl
    case hw => rfl
    case how => rfl
    refine ZdT g2 hid (ZeV hid) rfl rfl ZaE Zb3 Ze8 fun q2 hq2 => ?_
    refine Zaq ?_
    apply Zai
    case hi => simp only [HIX]; try rfl
    case hw => rfl
    case how => rfl
    refine Zc3 rfl hq1 ?_
    refine Zaq ?_
    apply Zai
    case hi => simp only [HIX]; try rfl
    case hw => rfl
    case how => rfl
    refine Zc3 rfl hq2 ?_
    refine Zaq ?_
    apply Zai
    case hi => simp only [HIX]; try rfl
    case hw => rfl
    case how => rfl
    refine Zeu (a := d[i]) (c := d[i]) ZcW rfl rfl ?_
    rw [decide_eq_true rfl]
    refine Zaq ?_
    apply Zai
    case hi => simp only [HIX]; try rfl
    case hw => rfl
    case how => rfl
    with_reducible apply ZbB
    case hx => simp only [EV,Nat.reduceEqDiff,↓reduceIte,he];try rfl
    refine Zaq ?_
    apply Zai
    case hi => simp only [HIX]; try rfl
    case hw => rfl
    case how => rfl
    refine ZaG (v := vT false) rfl rfl ?_
    refine Zaq ?_
    apply Zai
    case hi => simp only [HIX]; try rfl
    case hw => rfl
    case how => rfl
    refine Zae rfl rfl ?_
    refine Zaq ?_
    apply Zai
    case hi => simp only [HIX]; try rfl
    case hw => rfl
    case how => rfl
    refine Zae rfl he.2.2.1 ?_
    refine Zaq ?_
    apply Zai
    case hi => simp only [HIX]; try rfl
    case hw => rfl
    case how => rfl
    refine Zae rfl he.1 ?_
    refine Zaq ?_
    apply Zai
    case hi => simp only [HIX]; try rfl
    case hw => rfl
    case how => rfl
    refine ZbD rfl g2 rfl ZaE ?_
    refine Zaq ?_
    apply Zai
    case hi => simp only [HIX]; try rfl
    case hw => rfl
    case how => rfl
    refine ZfB (k := .i64) (a := (i : Int)) (b := (d.length : Int)) rfl rfl ?_
    rw [decide_eq_false (by omega : ¬ (d.length : Int) <= (i : Int))]
    refine Zaq ?_
    apply Zai
    case hi => simp only [HIX]; try rfl
    case hw => rfl
    case how => rfl
    refine Zae rfl rfl ?_
    refine Zaq ?_
    apply Zbl
    case hi => simp only [HIX]; try rfl
    case hg => rfl
    case how => rfl
    apply Zbl
    case hi => simp only [HIX]; try rfl
    case hg => rfl
    case how => rfl
    apply Zbl
    case hi => simp only [HIX]; try rfl
    case hg => rfl
    case how => rfl
    apply Zbl
    case hi => simp only [HIX]; try rfl
    case hg => rfl
    case how => rfl
    apply Zbl
    case hi => simp only [HIX]; try rfl
    case hg => rfl
    case how => rfl
    apply Zbl
    case hi => simp only [HIX]; try rfl
    case hg => rfl
    case how => rfl
    apply Zbl
    case hi => simp only [HIX]; try rfl
    case hg => rfl
    case how => rfl
    apply Zbl
    case hi => simp only [HIX]; try rfl
    case hg => rfl
    case how => rfl
    apply Zbl
    case hi => simp only [HIX]; try rfl
    case hg => rfl
    case how => rfl
    apply Zbl
    case hi => simp only [HIX]; try rfl
    case hg => rfl
    case how => rfl
    apply Zbl
    case hi => simp only [HIX]; try rfl
    case hg => rfl
    case how => rfl
    apply Zai
    case hi => simp only [HIX]; try rfl
    case hw => rfl
    case how => rfl
    refine Za2 (v := vT false) rfl rfl ?_
    refine Zaq ?_
    apply Zai
    case hi => simp only [HIX]; try rfl
    case hw => rfl
    case how => rfl
    refine Za2 (v := vT false) rfl rfl ?_
    refine Zaq ?_
    refine Zcg ?_
    exact ⟨rfl, ⟨by simp only [EV,Nat.reduceEqDiff,↓reduceIte,he];try rfl, by simp only [EV,Nat.reduceEqDiff,↓reduceIte,he];try rfl, by simp only [EV,Nat.reduceEqDiff,↓reduceIte,he];try rfl, by simp only [EV,Nat.reduceEqDiff,↓reduceIte,he];try rfl⟩, .refl _⟩
   ·rw [decide_eq_false hid]
    apply Zbl
    case hi => simp only [HIX]; try rfl
    case hg => rfl
    case how => rfl
    apply Zbl
    case hi => simp only [HIX]; try rfl
    case hg => rfl
    case how => rfl
    apply Zbl
    case hi => simp only [HIX]; try rfl
    case hg => rfl
    case how => rfl
    apply Zbl
    case hi => simp only [HIX]; try rfl
    case hg => rfl
    case how => rfl
    apply Zbl
    case hi => simp only [HIX]; try rfl
    case hg => rfl
    case how => rfl
    apply Zbl
    case hi => simp only [HIX]; try rfl
    case hg => rfl
    case how => rfl
    apply Zbl
    case hi => simp only [HIX]; try rfl
    case hg => rfl
    case how => rfl
    apply Zbl
    case hi => simp only [HIX]; try rfl
    case hg => rfl
    case how => rfl
    apply Zbl
    case hi => simp only [HIX]; try rfl
    case hg => rfl
    case how => rfl
    apply Zbl
    case hi => simp only [HIX]; try rfl
    case hg => rfl
    case how => rfl
    apply Zai
    case hi => simp only [HIX]; try rfl
    case hw => rfl
    case how => rfl
    refine Za2 (v := vT false) rfl rfl ?_
    refine Zaq ?_
    apply Zai
    case hi => simp only [HIX]; try rfl
    case hw => rfl
    case how => rfl
    refine Zae rfl rfl ?_
    refine Zaq ?_
    apply Zai
    case hi => simp only [HIX]; try rfl
    case hw => rfl
    case how => rfl
    refine Zae rfl he.2.2.1 ?_
    refine Zaq ?_
    apply Zai
    case hi => simp only [HIX]; try rfl
    case hw => rfl
    case how => rfl
    refine Zae rfl he.1 ?_
    refine Zaq ?_
    apply Zai
    case hi => simp only [HIX]; try rfl
    case hw => rfl
    case how => rfl
    refine ZbD rfl g2 rfl ZaE ?_
    refine Zaq ?_
    apply Zai
    case hi => simp only [HIX]; try rfl
    case hw => rfl
    case how => rfl
    refine ZfB (k := .i64) (a := (i : Int)) (b := (d.length : Int)) rfl rfl ?_
    rw [decide_eq_true (by omega : (d.length : Int) <= (i : Int))]
    refine Zaq ?_
    apply Zai
    case hi => simp only [HIX]; try rfl
    case hw => rfl
    case how => rfl
    refine Zae rfl rfl ?_
    refine Zaq ?_
    apply Zai
    case hi => simp only [HIX]; try rfl
    case hw => rfl
    case how => rfl
    refine Zae rfl he.2.1 ?_
    refine Zaq ?_
    apply Zai
    case hi => simp only [HIX]; try rfl
    case hw => rfl
    case how => rfl
    refine Zae rfl he.2.2.1 ?_
    refine Zaq ?_
    apply Zai
    case hi => simp only [HIX]; try rfl
    case hw => rfl
    case how => rfl
    refine ZdT hAl hlt (ZkS (by omega) hlt) rfl rfl ZaE Zb3 Ze8 fun q1 hq1 => ?_
    refine Zaq ?_
    apply Zai
    case hi => simp only [HIX]; try rfl
    case hw => rfl
    case how => rfl
    refine Zae rfl he.2.2.1 ?_
    refine Zaq ?_
    apply Zai
    case hi => simp only [HIX]; try rfl
    case hw => rfl
    case how => rfl
    refine Zae rfl he.1 ?_
    refine Zaq ?_
    apply Zai
    case hi => simp only [HIX]; try rfl
    case hw => rfl
    case how => rfl
    refine ZbD rfl g2 rfl ZaE ?_
    refine Zaq ?_
    apply Zai
    case hi => simp only [HIX]; try rfl
    case hw => rfl
    case how => rfl
    refine ZcZ (i : Int) (d.length : Int) rfl rfl (by omega) (by omega) ?_
    rw [show (i : Int) - (d.length : Int) = ((i - d.length : Nat) : Int) by omega]
    refine Zaq ?_
    apply Zai
    case hi => simp only [HIX]; try rfl
    case hw => rfl
    case how => rfl
    refine Zc3 rfl hq1 ?_
    refine Zaq ?_
    apply Zai
    case hi => simp only [HIX]; try rfl
    case hw => rfl
    case how => rfl
    refine Zao (vs := [vI (1 : Nat), vI ((i - d.length : Nat) : Int)]) (by simp only [List.map_cons, List.map_nil, EV,Nat.reduceEqDiff,↓reduceIte,he];try rfl) ?_
    refine Zkm fun υ2 hX2 => ?_
    refine ⟨fun _ => hX2, ?_⟩
    apply Zai
    case hi => simp only [HIX]; try rfl
    case hw => rfl
    case how => rfl
    refine Zeu (a := mkT 1 (i - d.length)) (c := mkT 1 (i - d.length)) ZcW rfl rfl ?_
    rw [decide_eq_true rfl]
    refine Zaq ?_
    apply Zai
    case hi => simp only [HIX]; try rfl
    case hw => rfl
    case how => rfl
    with_reducible apply ZbB
    case hx => simp only [EV,Nat.reduceEqDiff,↓reduceIte,he];try rfl
    refine Zaq ?_
    apply Zai
    case hi => simp only [HIX]; try rfl
    case hw => rfl
    case how => rfl
    refine ZaG (v := vT false) rfl rfl ?_
    refine Zaq ?_
    apply Zai
    case hi => simp only [HIX]; try rfl
    case hw => rfl
    case how => rfl
    refine Za2 (v := vT false) rfl rfl ?_
    refine Zaq ?_
    refine Zcg ?_
    exact ⟨rfl, ⟨by simp only [EV,Nat.reduceEqDiff,↓reduceIte,he];try rfl, by simp only [EV,Nat.reduceEqDiff,↓reduceIte,he];try rfl, by simp only [EV,Nat.reduceEqDiff,↓reduceIte,he];try rfl, by simp only [EV,Nat.reduceEqDiff,↓reduceIte,he];try rfl⟩, hX2⟩
  clear he e
  rintro e υ3 ⟨he, hX3⟩
  refine ZaS (t := false) he.2.2.2 (fun hf => by cases hf) (fun _ => ?_)
  refine Zbq ?_
  show Zay _ _ _ _ _ _
  refine Zad ?_
  refine Zab (Zae rfl he.2.2.1 ?_)
  refine Zab ?_
  refine ZaU i 1 rfl rfl (by omega) ?_
  refine Zab (Zae rfl (by simp only [EV,Nat.reduceEqDiff,↓reduceIte,he];try rfl) ?_)
  refine Zaf ?_
  show ∃ n', n' < _ /\ _
  exact ⟨_, (by omega : d.length + 12 - (i + 1) < d.length + 12 - i), i + 1, rfl, hlt, ⟨by simp only [EV,Nat.reduceEqDiff,↓reduceIte,he];try rfl, by simp only [EV,Nat.reduceEqDiff,↓reduceIte,he];try rfl, by simp only [EV,Nat.reduceEqDiff,↓reduceIte,he];try rfl⟩, hX.trans hX3⟩
 ·refine Zbe ?_
  show Zay _ _ _ _ _ _
  repeat refine Zac ?_
  first|refine Zaa ?_|refine Zad ?_
  refine Zab (Zae rfl (by simp only [EV,Nat.reduceEqDiff,↓reduceIte,he];try rfl) ?_)
  refine Zaf ?_
  refine Zax ?_
  show ∃ r, Zaj _ _ _ _ r /\ _
  exact ⟨_, Zal rfl rfl, hK _ hX⟩
theorem ZnA {S : Nat -> Prop} {u v : AV} {ps : List (List UInt8)} (hu : Zcl σ S u ps) (hv : ZgD σ v ps) (hn : ps.length <= 1000000) (hm : ∀ p ∈ ps, p.length <= 1000000) (hK : K (vT true) σ) : Zat Try.prog 25 [u, v] σ K := by
 obtain ⟨cells, bs, h1, h2, h3, h4, h5, h6⟩ := hu
 obtain ⟨cl, g2, g3⟩ := hv
 have g1 := Ls.of h3
 refine Zam Zas Try.func25 rfl rfl rfl (Nat.le_of_ble_eq_true rfl) ?_
 refine ZaK 0 1 (v0 := u) (v1 := v) rfl rfl ?_
 intro e he
 repeat refine Zac ?_
 first|refine Zaa ?_|refine Zad ?_
 refine Zab (Zae rfl (by simp only [EV,Nat.reduceEqDiff,↓reduceIte,he];try rfl) ?_)
 refine Zaf ?_
 apply ZaK 0 1
 iterate 2 ·simp only [EV,Nat.reduceEqDiff,↓reduceIte,he];try rfl
 clear he e
 intro e he
 repeat refine Zac ?_
 first|refine Zaa ?_|refine Zad ?_
 refine Zab (Zae rfl he.1 ?_)
 refine Zab ?_
 refine ZbD rfl g1 rfl Zba ?_
 refine Zab (Zae rfl he.2 ?_)
 refine Zab ?_
 refine ZbD rfl g2 rfl Zba ?_
 refine Zab ?_
 refine Zgu (k := .i64) (a := (ps.length : Int)) (b := (ps.length : Int)) rfl rfl ?_
 rw [decide_eq_false (by simp : ¬ (ps.length : Int) ≠ (ps.length : Int))]
 refine Zaf ?_
 apply ZaL 0 1 10
 iterate 3 ·simp only [EV,Nat.reduceEqDiff,↓reduceIte,he];try rfl
 clear he e
 intro e he
 refine Zav (t := false) he.2.2 (fun hf => by cases hf) (fun _ => ?_)
 refine Zaz ?_
 repeat refine Zac ?_
 first|refine Zaa ?_|refine Zad ?_
 refine Zab (Zae rfl (by simp only [EV,Nat.reduceEqDiff,↓reduceIte,he];try rfl) ?_)
 refine Zaf ?_
 apply ZaL 0 1 5
 iterate 3 ·simp only [EV,Nat.reduceEqDiff,↓reduceIte,he];try rfl
 clear he e
 intro e he
 refine ZaD ?_
 refine ZaV (fun μ env υ => ∃ i : Nat, μ = ps.length - i /\ i <= ps.length /\ (env 0 = u /\ env 1 = v /\ env 5 = vI i) /\ σ = υ) ⟨_, 0, rfl, Nat.zero_le _, he, rfl⟩ ?_
 clear he e
 rintro _ e _ ⟨i, rfl, hi, he, rfl⟩
 repeat refine Zac ?_
 first|refine Zaa ?_|refine Zad ?_
 refine Zab (Zae rfl he.2.2 ?_)
 refine Zab (Zae rfl he.2.1 ?_)
 refine Zab ?_
 refine ZbD rfl g2 rfl Zba ?_
 refine Zab ?_
 refine Zbs i ps.length rfl rfl ?_
 refine Zaf ?_
 apply ZaP 0 1 5 14
 iterate 4 ·simp only [EV,Nat.reduceEqDiff,↓reduceIte,he];try rfl
 clear he e
 intro e he
 refine Zav (t := decide (i < ps.length)) he.2.2.2 (fun ht => ?_) (fun ht => ?_)
 ·have hlt : i < ps.length := of_decide_eq_true ht
  obtain ⟨y1, q1, q2⟩ := h4 i hlt (by omega)
  obtain ⟨y2, q3, q4⟩ := g3 i hlt
  refine Zaz ?_
  refine ZaD ?_
  refine Zb5 ?_
  refine ⟨[0, 1, 2, 4, 5, 6, 3, 7, 8, 9], [[], [], [0, 1], [0, 1, 2], [], [], [4, 5], [4, 5, 6], [0, 1, 2, 3, 4, 5, 6, 7], [0, 1, 2, 3, 4, 5, 6, 7, 8]], fun _ => True, [], [], [], by kernel_rfl, ?_⟩
  apply Zai
  case hi => simp only [HIX]; try rfl
  case hw => rfl
  case how => rfl
  refine Zae rfl he.1 ?_
  refine Zaq ?_
  apply Zai
  case hi => simp only [HIX]; try rfl
  case hw => rfl
  case how => rfl
  refine Zae rfl he.2.2.1 ?_
  refine Zaq ?_
  apply Zai
  case hi => simp only [HIX]; try rfl
  case hw => rfl
  case how => rfl
  refine ZdT g1 hlt q1 rfl rfl Zba ZaJ ZbO fun p1 hp1 => ?_
  refine Zaq ?_
  apply Zai
  case hi => simp only [HIX]; try rfl
  case hw => rfl
  case how => rfl
  refine Zae rfl he.2.1 ?_
  refine Zaq ?_
  apply Zai
  case hi => simp only [HIX]; try rfl
  case hw => rfl
  case how => rfl
  refine Zae rfl he.2.2.1 ?_
  refine Zaq ?_
  apply Zai
  case hi => simp only [HIX]; try rfl
  case hw => rfl
  case how => rfl
  refine ZdT g2 hlt q3 rfl rfl Zba ZaJ ZbO fun p2 hp2 => ?_
  refine Zaq ?_
  apply Zai
  case hi => simp only [HIX]; try rfl
  case hw => rfl
  case how => rfl
  refine Zc3 rfl hp1 ?_
  refine Zaq ?_
  apply Zai
  case hi => simp only [HIX]; try rfl
  case hw => rfl
  case how => rfl
  refine Zc3 rfl hp2 ?_
  refine Zaq ?_
  apply Zai
  case hi => simp only [HIX]; try rfl
  case hw => rfl
  case how => rfl
  refine Zao (vs := [y1, y2]) (by simp only [List.map_cons, List.map_nil, EV,Nat.reduceEqDiff,↓reduceIte,he];try rfl) ?_
  refine Zny q2 q4 (hm _ (List.getElem_mem hlt)) ?_
  refine Zaq ?_
  apply Zai
  case hi => simp only [HIX]; try rfl
  case hw => rfl
  case how => rfl
  with_reducible apply ZbB
  case hx => simp only [EV,Nat.reduceEqDiff,↓reduceIte,he];try rfl
  refine Zaq ?_
  refine Zcg ?_
  apply ZaP 0 1 5 26
  iterate 4 ·simp only [EV,Nat.reduceEqDiff,↓reduceIte,he];try rfl
  clear he e
  intro e he
  refine ZaS (t := false) he.2.2.2 (fun hf => by cases hf) (fun _ => ?_)
  refine Zbq ?_
  show Zay _ _ _ _ _ _
  refine Zad ?_
  refine Zab (Zae rfl he.2.2.1 ?_)
  refine Zab ?_
  refine ZaU i 1 rfl rfl (by omega) ?_
  refine Zab (Zae rfl (by simp only [EV,Nat.reduceEqDiff,↓reduceIte,he];try rfl) ?_)
  refine Zaf ?_
  show ∃ n', n' < _ /\ _
  exact ⟨_, (by omega : ps.length - (i + 1) < ps.length - i), i + 1, rfl, hlt, ⟨by simp only [EV,Nat.reduceEqDiff,↓reduceIte,he];try rfl, by simp only [EV,Nat.reduceEqDiff,↓reduceIte,he];try rfl, by simp only [EV,Nat.reduceEqDiff,↓reduceIte,he];try rfl⟩, rfl⟩
 ·refine Zbe ?_
  show Zay _ _ _ _ _ _
  repeat refine Zac ?_
  first|refine Zaa ?_|refine Zad ?_
  refine Zab (Zae rfl (by simp only [EV,Nat.reduceEqDiff,↓reduceIte,he];try rfl) ?_)
  refine Zaf ?_
  refine Zax ?_
  show ∃ r, Zaj _ _ _ _ r /\ _
  exact ⟨_, Zal rfl rfl, hK⟩
theorem ZnB {b : Nat} {u : AV} {d : List UInt8} (hu : ZjD σ b u d) (hl : d.length <= 1000000) (hK : ∀ τ, But (fun c => c = b) σ τ -> K (.tup []) τ) : Zat Try.prog 27 [u] σ K := by
 have g1 := hu.hd (ZcV _)
 obtain ⟨c, rfl, hA⟩ := hu
 have hc : d.length + 12 <= c := by
  rcases hA.2.2 with ⟨_, h0⟩ | ⟨b', c', all, h0, h1, _, _, _, _, h2, _⟩
  ·omega
  ·unfold hdr at h1
   injection h1 with h1
   injection h1 with _ _ h4
   omega
 refine Zam Zas Try.func27 rfl rfl rfl (Nat.le_of_ble_eq_true rfl) ?_
 refine Zbz 0 (v0 := hdr b d.length c) rfl ?_
 intro e he
 repeat refine Zac ?_
 first|refine Zaa ?_|refine Zad ?_
 refine Zab (Zae rfl he ?_)
 refine Zab (Zae rfl he ?_)
 refine Zab ?_
 refine Zqn (A := some ⟨b, 0, none⟩) (n := d.length) (c := c) (v := hdr b d.length c) rfl rfl rfl Zaw ?_
 refine Zab (Zae rfl he ?_)
 refine Zab ?_
 refine ZbS rfl g1 rfl Zaw ?_
 refine Zab ?_
 refine ZaU d.length 12 rfl rfl (by omega) ?_
 refine Zab ?_
 refine ZiG c (d.length + 12) rfl rfl ?_
 rw [Nat.min_eq_right hc]
 refine Zab ?_
 refine ZiZ (b := b) (n := d.length) (c := c) (u := d.length + 12) rfl rfl Zaw Zbf hc ?_
 refine Zab (Zae rfl (by simp only [EV,Nat.reduceEqDiff,↓reduceIte,he];try rfl) ?_)
 refine Zaf ?_
 apply Zbz 2
 ·simp only [EV,Nat.reduceEqDiff,↓reduceIte,he];try rfl
 clear he e
 intro e he
 repeat refine Zac ?_
 first|refine Zaa ?_|refine Zad ?_
 refine Zab (Zae rfl (by simp only [EV,Nat.reduceEqDiff,↓reduceIte,he];try rfl) ?_)
 refine Zaf ?_
 apply ZaK 2 3
 iterate 2 ·simp only [EV,Nat.reduceEqDiff,↓reduceIte,he];try rfl
 clear he e
 intro e he
 refine ZaT ?_
 refine ZaV (fun μ env υ => ∃ (i : Nat) (cells : List AV), μ = d.length + 12 - i /\ i <= d.length + 12 /\ (env 2 = hdr b (d.length + 12) c /\ env 3 = vI i) /\ Hd υ 5 1 (hdr b (d.length + 12) c) (d.length + 12) cells /\ But (fun c => c = b) σ υ) ⟨_, 0, _, rfl, Nat.zero_le _, he, hA, .refl _ _⟩ ?_
 clear he e
 rintro _ e υ ⟨i, cells, rfl, hi, he, hA, hB⟩
 repeat refine Zac ?_
 first|refine Zaa ?_|refine Zad ?_
 refine Zab (Zae rfl he.2 ?_)
 refine Zab (Zae rfl he.1 ?_)
 refine Zab ?_
 refine ZbS rfl hA rfl Zaw ?_
 refine Zab ?_
 refine Zbs i (d.length + 12) rfl rfl ?_
 refine Zaf ?_
 apply ZaL 2 3 15
 iterate 3 ·simp only [EV,Nat.reduceEqDiff,↓reduceIte,he];try rfl
 clear he e
 intro e he
 refine Zav (t := decide (i < d.length + 12)) he.2.2 (fun ht => ?_) (fun ht => ?_)
 ·have hlt : i < d.length + 12 := of_decide_eq_true ht
  refine Zaz ?_
  refine ZaD ?_
  repeat refine Zac ?_
  first|refine Zaa ?_|refine Zad ?_
  refine Zab (Zae rfl he.1 ?_)
  refine Zab (Zae rfl (by simp only [EV,Nat.reduceEqDiff,↓reduceIte,he];try rfl) ?_)
  refine Zab (Zae rfl (by simp only [EV,Nat.reduceEqDiff,↓reduceIte,he];try rfl) ?_)
  refine Zab ?_
  refine Zao (vs := [vI (2 : Nat), vI i]) (by simp only [List.map_cons, List.map_nil, EV,Nat.reduceEqDiff,↓reduceIte,he];try rfl) ?_
  refine Zh2 (by omega) (by omega) ?_
  refine Zab ?_
  refine Zbb (k := .i64) (j := i) (by simp only [EV,Nat.reduceEqDiff,↓reduceIte,he];try rfl) (by simp only [EV,Nat.reduceEqDiff,↓reduceIte,he];try rfl) Zaw Zbf hA hlt fun b' hb' => ?_
  refine Zab ?_
  refine ZjS (j := i) (r := .raw (.int .u8 (mkB 2 i))) (by simp only [EV,Nat.reduceEqDiff,↓reduceIte,he];try rfl) (by simp only [EV,Nat.reduceEqDiff,↓reduceIte,he];try rfl) Zbf hA hb' hlt ⟨rfl, rfl, fun a ha => by rw [List.mem_singleton.1 ha]; rfl⟩ fun τ2 hL2 hB2 => ?_
  refine Zaf ?_
  apply ZaK 2 3
  iterate 2 ·simp only [EV,Nat.reduceEqDiff,↓reduceIte,he];try rfl
  clear he e
  intro e he
  repeat refine Zac ?_
  first|refine Zaa ?_|refine Zad ?_
  refine Zab (Zae rfl he.2 ?_)
  refine Zab ?_
  refine ZaU i 1 rfl rfl (by omega) ?_
  refine Zab (Zae rfl (by simp only [EV,Nat.reduceEqDiff,↓reduceIte,he];try rfl) ?_)
  refine Zaf ?_
  show ∃ n', n' < _ /\ _
  exact ⟨_, (by omega : d.length + 12 - (i + 1) < d.length + 12 - i), i + 1, _, rfl, hlt, ⟨by simp only [EV,Nat.reduceEqDiff,↓reduceIte,he];try rfl, by simp only [EV,Nat.reduceEqDiff,↓reduceIte,he];try rfl⟩, hL2, hB.trans (hB2.sub fun x hx => (ZdB hx).symm)⟩
 ·refine Zbe ?_
  exact ⟨_, Zce rfl, hK _ hB⟩
end
end Go.Proofs.Ytinpiaibhjmfaaa
