/- XDr, XDs, XDu in one. -/
import Derived.Test.YtinpiaibhjmfaaaDq
namespace Go.Proofs.Ytinpiaibhjmfaaa
open Go.RowKit
set_option maxRecDepth 100000
set_option linter.unusedVariables false
set_option linter.unusedSimpArgs false
theorem ZcB {S : Nat -> Prop} {σ υ : St} {c : Nat} (hB : But S σ υ) (h : Za0 υ c) : S c \/ Za0 σ c := by
 by_cases hc : S c
 ·exact .inl hc
 ·refine .inr ⟨?_, fun hu => h.2 (hB.used _ hu)⟩
  cases hx : σ.blk c with
  | none => rfl
  | some x =>
   have := hB.keep _ _ hc hx
   rw [h.1] at this
   cases this
def ZoX (fs : List Fl) (pcs : List (Nat × Nat)) (k d : List UInt8) (fs' : List Fl) (pcs' : List (Nat × Nat)) : Prop :=
 ∃ fs1 f0 v', (fs1 = fs \/ (∀ f ∈ fs, f.nm ≠ k) /\ fs1 = fs ++ [f0] /\ f0.d = []) /\ f0 ∈ fs1 /\ f0.nm = k /\ fs' = fs1.map (Zci f0.b v' (f0.d ++ d)) /\ pcs' = pcs ++ (if d = [] then [] else [(f0.b, d.length)])
theorem Zfp {f : Fl} : ∀ {fs : List Fl}, f ∈ fs -> f.d.length <= sumD fs
 | g :: fs, h => by
  have : sumD (g :: fs) = g.d.length + sumD fs := by simp [sumD]
  rcases List.mem_cons.1 h with rfl | h
  ·omega
  ·have := Zfp h; omega
section
variable {σ : St} {bb mb : Nat} {S : Nat -> Prop} {fs : List Fl} {pcs : List (Nat × Nat)} {size : Int} {pv : AV} {K : AV -> St -> Prop}
set_option maxHeartbeats 2000000 in
theorem ZeL (h : DAt σ bb S fs pcs size mb pv) (hS : ∀ c, S c -> σ.used c) {k d : List UInt8} {pa : AV}
 (hcat : ∀ τ0, Ext σ τ0 -> ∀ K' : AV -> St -> Prop, (∀ v τ, Hd τ 5 1 v d.length (bys d) -> Ext τ0 τ -> (∀ b, hbk v = some b -> Za0 τ0 b) -> K' v τ) -> Zat Try.prog 36 [pa] τ0 K')
 (hlen : d.length + sumD fs <= 100000000) (hp : pcs.length <= 100000000)
 (hK2 : ¬ (k ≠ [] /\ k.length <= 40) -> ∀ τ, Ext σ τ -> K (vI 2) τ)
 (hK8 : (k ≠ [] /\ k.length <= 40) -> ¬ (size < 1 \/ ((d.length + sumD fs : Nat) : Int) <= size) -> ∀ τ, Ext σ τ -> K (vI 8) τ)
 (hK0 : (k ≠ [] /\ k.length <= 40) -> (size < 1 \/ ((d.length + sumD fs : Nat) : Int) <= size) -> ∀ τ S' fs' pcs' pv', DAt τ bb S' fs' pcs' size mb pv' -> But S σ τ -> (∀ c, S c -> S' c) -> (∀ c, S' c -> S c \/ Za0 σ c) -> (∀ c, S' c -> τ.used c) -> ZoX fs pcs k d fs' pcs' -> K (vI 0) τ) :
 Zat Try.prog 10 [ptr bb 0, .raw (sV k), pa] σ K := by
 refine Zam Zas Try.func10 rfl rfl rfl (Nat.le_of_ble_eq_true rfl) ?_
 refine ZaL 0 1 2 (v0 := ptr bb 0) (v1 := .raw (sV k)) (v2 := pa) rfl rfl rfl ?_
 intro e he
 repeat refine Zac ?_
 first|refine Zaa ?_|refine Zad ?_
 refine Zab (Zae rfl (by simp only [EV,Nat.reduceEqDiff,↓reduceIte,he];try rfl) ?_)
 refine Zaf ?_
 apply ZaL 0 1 2
 iterate 3 ·simp only [EV,Nat.reduceEqDiff,↓reduceIte,he];try rfl
 clear he e
 intro e he
 refine ZaD ?_
 repeat refine Zac ?_
 first|refine Zaa ?_|refine Zad ?_
 refine Zab (Zae rfl he.1 ?_)
 refine Zab ?_
 refine Zao (vs := [ptr bb 0]) (by simp only [List.map_cons, List.map_nil, EV,Nat.reduceEqDiff,↓reduceIte,he];try rfl) ?_
 refine ZdU h ?_
 refine Zab ?_
 with_reducible apply ZbB
 case hx => simp only [EV,Nat.reduceEqDiff,↓reduceIte,he];try rfl
 refine Zab (Zae rfl (by simp only [EV,Nat.reduceEqDiff,↓reduceIte,he];try rfl) ?_)
 refine Zaf ?_
 apply ZaP 0 1 2 9
 iterate 4 ·simp only [EV,Nat.reduceEqDiff,↓reduceIte,he];try rfl
 clear he e
 intro e he
 refine ZaS (t := false) he.2.2.2 (fun hf => by cases hf) (fun _ => ?_)
 repeat refine Zac ?_
 first|refine Zaa ?_|refine Zad ?_
 refine Zab (Zae rfl he.2.1 ?_)
 refine Zab ?_
 refine Zao (vs := [.raw (sV k)]) (by simp only [List.map_cons, List.map_nil, EV,Nat.reduceEqDiff,↓reduceIte,he];try rfl) ?_
 refine ZjX _ fun σ1 hX1 => ?_
 refine Zab ?_
 with_reducible apply ZbB
 case hx => simp only [EV,Nat.reduceEqDiff,↓reduceIte,he];try rfl
 refine Zab (Zae rfl (by simp only [EV,Nat.reduceEqDiff,↓reduceIte,he];try rfl) ?_)
 refine Zaf ?_
 apply ZaP 0 1 2 13
 iterate 4 ·simp only [EV,Nat.reduceEqDiff,↓reduceIte,he];try rfl
 clear he e
 intro e he
 refine ZaS (t := !decide (k ≠ [] /\ k.length <= 40)) he.2.2.2 (fun hk => ?_) (fun hk => ?_)
 ·rw [Bool.not_eq_true'] at hk
  repeat refine Zac ?_
  first|refine Zaa ?_|refine Zad ?_
  refine Zab (Zae rfl (by simp only [EV,Nat.reduceEqDiff,↓reduceIte,he];try rfl) ?_)
  refine Zaf ?_
  refine Zax ?_
  show ∃ r, Zaj _ _ _ _ r /\ _
  exact ⟨_, Zal rfl rfl, hK2 (of_decide_eq_false hk) σ1 hX1⟩
 rw [Bool.not_eq_false'] at hk
 have hk := of_decide_eq_true hk
 refine Zbq ?_
 show Zay _ _ _ _ _ _
 repeat refine Zac ?_
 first|refine Zaa ?_|refine Zad ?_
 refine Zab (Zae rfl he.2.2.1 ?_)
 refine Zab ?_
 refine Zao (vs := [pa]) (by simp only [List.map_cons, List.map_nil, EV,Nat.reduceEqDiff,↓reduceIte,he];try rfl) ?_
 refine hcat σ1 hX1 _ fun dv σ2 hdv hX2 hdn => ?_
 refine Zab (Zae rfl (by simp only [EV,Nat.reduceEqDiff,↓reduceIte,he];try rfl) ?_)
 refine Zaf ?_
 apply ZaL 0 1 7
 iterate 3 ·simp only [EV,Nat.reduceEqDiff,↓reduceIte,he];try rfl
 clear he e
 intro e he
 have h2 := (h.ext hX1).ext hX2
 repeat refine Zac ?_
 first|refine Zaa ?_|refine Zad ?_
 refine Zab (Zae rfl he.1 ?_)
 refine Zab (Zae rfl he.2.2 ?_)
 refine Zab ?_
 refine ZbS rfl hdv rfl Zaw ?_
 refine Zab ?_
 refine Zao (vs := [ptr bb 0, vI d.length]) (by simp only [List.map_cons, List.map_nil, EV,Nat.reduceEqDiff,↓reduceIte,he];try rfl) ?_
 refine Zok h2 (by omega) _ ?_
 refine Zab ?_
 with_reducible apply ZbB
 case hx => simp only [EV,Nat.reduceEqDiff,↓reduceIte,he];try rfl
 refine Zaf ?_
 apply ZaP 0 1 7 23
 iterate 4 ·simp only [EV,Nat.reduceEqDiff,↓reduceIte,he];try rfl
 clear he e
 intro e he
 refine Zav (t := !decide (size < 1 \/ ((d.length + sumD fs : Nat) : Int) <= size)) he.2.2.2 (fun hf => ?_) (fun hf => ?_)
 ·rw [Bool.not_eq_true'] at hf
  repeat refine Zac ?_
  first|refine Zaa ?_|refine Zad ?_
  refine Zab (Zae rfl (by simp only [EV,Nat.reduceEqDiff,↓reduceIte,he];try rfl) ?_)
  refine Zaf ?_
  refine Zcw ?_
  show ∃ r, Zaj _ _ _ _ r /\ _
  exact ⟨_, Zal rfl rfl, hK8 hk (of_decide_eq_false hf) σ2 (hX1.trans hX2)⟩
 rw [Bool.not_eq_false'] at hf
 have hf := of_decide_eq_true hf
 refine Zaz ?_
 have hX12 := hX1.trans hX2
 have hdS : ∀ c, hbk dv = some c -> ¬ S c := fun c hc hs => (hdn c hc).2 (hX1.used _ (hS c hs))
 repeat refine Zac ?_
 first|refine Zaa ?_|refine Zad ?_
 refine Zab (Zae rfl he.1 ?_)
 refine Zab ?_
 refine Zak (v := ptr bb 0) rfl rfl ?_
 refine Zab ?_
 refine Zag (b := bb) (o := 0) rfl Zbn rfl ?_
 refine Zab ?_
 refine Zar (b := bb) (o := 0 + 1) (r := Zc2 mb) rfl h2.obj ZcH ZcG rfl ?_
 refine Zab (Zae rfl he.2.1 ?_)
 refine Zab ?_
 refine Zeb (k := k) (es := Zbc fs) (b := mb) rfl rfl h2.map ZdF ZcW ZfD ?_
 refine Zab (Zae rfl (by simp only [EV,Nat.reduceEqDiff,↓reduceIte,he];try rfl) ?_)
 refine Zaf ?_
 apply ZaP 0 1 7 8
 iterate 4 ·simp only [EV,Nat.reduceEqDiff,↓reduceIte,he];try rfl
 clear he e
 intro e he
 refine ZaZ (fun env υ => ∃ fs1 S1 f0, DAt υ bb S1 fs1 pcs size mb pv /\ f0 ∈ fs1 /\ f0.nm = k /\ (fs1 = fs \/ (∀ f ∈ fs, f.nm ≠ k) /\ fs1 = fs ++ [f0] /\ f0.d = []) /\ (env 0 = ptr bb 0 /\ env 7 = dv /\ env 8 = ptr f0.b 0) /\ Hd υ 5 1 dv d.length (bys d) /\ (∀ c, hbk dv = some c -> ¬ S1 c) /\ But S σ υ /\ (∀ c, S c -> S1 c) /\ (∀ c, S1 c -> S c \/ Za0 σ c) /\ (∀ c, S1 c -> υ.used c) /\ sumD fs1 = sumD fs) ?_ ?_
 ·cases hg : Zfa (Zbc fs) k with
  | some n =>
   rw [hg] at he
   obtain ⟨f0, hf0, hnm, rfl⟩ := ZcE hg
   repeat refine Zac ?_
   first|refine Zaa ?_|refine Zad ?_
   refine Zab (Zae rfl he.2.2.2 ?_)
   refine Zab ?_
   refine ZdQ (p := some ⟨f0.b, 0, none⟩) ZdG rfl rfl rfl ?_
   refine Zaf ?_
   refine ZaS (t := false) rfl (fun hf => by cases hf) (fun _ => ?_)
   refine Zbq ?_
   exact ⟨rfl, fs, S, f0, h2, hf0, hnm, .inl rfl, ⟨by simp only [EV,Nat.reduceEqDiff,↓reduceIte,he];try rfl, by simp only [EV,Nat.reduceEqDiff,↓reduceIte,he];try rfl, by simp only [EV,Nat.reduceEqDiff,↓reduceIte,he];try rfl⟩, hdv, hdS, hX12.but, fun c hc => hc, fun c hc => .inl hc, fun c hc => hX12.used _ (hS c hc), rfl⟩
  | none =>
   rw [hg] at he
   have hnm := ZcA.1 hg
   repeat refine Zac ?_
   first|refine Zaa ?_|refine Zad ?_
   refine Zab (Zae rfl he.2.2.2 ?_)
   refine Zab ?_
   refine ZdQ (p := none) ZdG rfl rfl rfl ?_
   refine Zaf ?_
   apply ZaP 0 1 7 31
   iterate 4 ·simp only [EV,Nat.reduceEqDiff,↓reduceIte,he];try rfl
   clear he e
   intro e he
   refine ZaS (t := true) he.2.2.2 (fun _ => ?_) (fun hf => by cases hf)
   repeat refine Zac ?_
   first|refine Zaa ?_|refine Zad ?_
   refine Zab ?_
   refine Za4 (vs := []) (cells := [.lst none 0 0 []]) rfl Zlw Zlx rfl ?_
   refine Zab ?_
   refine Zdq (cs := [.lst none 0 0 []]) (v := .agg [.lst none 0 0 []]) rfl rfl fun nb σ3 hn3 hu3 hb3 hub3 hX3 => ?_
   refine Zab (Zae rfl (by simp only [EV,Nat.reduceEqDiff,↓reduceIte,he];try rfl) ?_)
   refine Zaf ?_
   apply ZaP 0 1 7 8
   iterate 4 ·simp only [EV,Nat.reduceEqDiff,↓reduceIte,he];try rfl
   clear he e
   intro e he
   refine Zad ?_
   refine Zab (Zae rfl he.1 ?_)
   refine Zab ?_
   refine Zak (v := ptr bb 0) rfl rfl ?_
   refine Zab ?_
   refine Zag (b := bb) (o := 0) rfl Zbn rfl ?_
   refine Zab ?_
   refine Zar (b := bb) (o := 0 + 1) (r := Zc2 mb) rfl (hX3.keep _ _ h2.obj) ZcH ZcG rfl ?_
   refine Zab (Zae rfl he.2.1 ?_)
   refine Zab (Zae rfl he.2.2.2 ?_)
   refine Zab ?_
   refine Zgz (k := k) (n := nb) (es := Zbc fs) (b := mb) rfl rfl rfl (hX3.keep _ _ h2.map) ZdF ZcW fun σ4 hm4 k4 => ?_
   refine Zaf ?_
   have hnm2 : mb ≠ nb := fun e => by
    have hq := h2.map
    rw [e, hn3] at hq
    cases hq
   have hB4 : But (fun c => c = mb \/ c = nb) σ2 σ4 := hX3.but.trans (k4.sub fun c hc => .inl hc)
   have hadd := h2.addF (nm := k) (nb := nb) (v := .lst none 0 0 []) (d := []) ⟨hn3, hu3⟩ hB4 (k4.keep _ _ (fun q => hnm2 q.symm) hb3) (k4.used _ hub3) (by rw [hm4, Zhu nb hnm]; unfold Zbc; rw [List.map_append]; rfl) ⟨rfl, by simp [bys], .inl ⟨.inl rfl, rfl⟩⟩ hnm rfl
   have hBS : But S σ σ4 := hX12.but.ext2 (T := fun c => c = mb \/ c = nb) (fun c hc => by
    rcases hc with rfl | rfl
    ·exact .inl h.own.2.1
    ·exact .inr (hX12.noneOf hn3)) hB4
   refine ⟨rfl, _, _, ⟨k, nb, .lst none 0 0 [], []⟩, hadd, List.mem_append_right _ List.mem_cons_self, rfl, .inr ⟨hnm, rfl, rfl⟩, ⟨by simp only [EV,Nat.reduceEqDiff,↓reduceIte,he];try rfl, by simp only [EV,Nat.reduceEqDiff,↓reduceIte,he];try rfl, by simp only [EV,Nat.reduceEqDiff,↓reduceIte,he];try rfl⟩, (hdv.ext hX3).but k4 fun c hc q => ?_, fun c hc hs => ?_, hBS, fun c hc => .inl hc, fun c hc => ?_, fun c hc => ?_, by simp [sumD]⟩
   ·obtain ⟨all, hall⟩ := hdv.blk hc
    exact Zcq hall h2.map q
   ·rcases hs with hs | hs
    ·exact hdS c hc hs
    ·obtain ⟨all, hall⟩ := hdv.blk hc
     rw [hs, hn3] at hall
     cases hall
   ·rcases hc with hc | hc
    ·exact .inl hc
    ·rw [hc]; exact .inr (Za0.of ⟨hn3, hu3⟩ hX12)
   ·rcases hc with hc | hc
    ·exact hBS.used _ (hS c hc)
    ·rw [hc]; exact k4.used _ hub3
 clear he e
 rintro e υ ⟨fs1, S1, f0, h3, hf0, hnm, hor, he, hd3, hdS3, hB3, hS13, hS31, hSu3, hsum⟩
 obtain ⟨p1, p2, p3⟩ := h3.file f0 hf0
 have hfl := Zfp hf0
 repeat refine Zac ?_
 first|refine Zaa ?_|refine Zad ?_
 refine Zab (Zae rfl he.2.2 ?_)
 refine Zab (Zae rfl he.2.2 ?_)
 refine Zab ?_
 refine Zak (v := ptr f0.b 0) rfl rfl ?_
 refine Zab ?_
 refine Zag (b := f0.b) (o := 0) rfl Zes rfl ?_
 refine Zab ?_
 refine Zar (b := f0.b) (o := 0 + 0) (r := f0.v) rfl p1 ZbO ZaJ rfl ?_
 refine Zab (Zae rfl he.2.1 ?_)
 refine Zab ?_
 refine Za9 rfl rfl Zaw Zbf ZbT Zpw rfl (by omega) p3 (hd3.src (by omega)) (by unfold maxLen; omega) (by omega) fun v' υ4 hv4 hB4 hn4 => ?_
 refine Zab ?_
 refine Zak (v := ptr f0.b 0) rfl rfl ?_
 refine Zab ?_
 refine Zag (b := f0.b) (o := 0) rfl Zes rfl ?_
 have hfb4 : υ4.blk f0.b = some (.own 78 [f0.v]) := hB4.keep _ _ (fun hq => by
  obtain ⟨all, hall⟩ := p3.blk hq
  exact ZcM hall p1 (by decide) rfl) p1
 refine Zab ?_
 refine ZbQ (b := f0.b) (o := 0 + 0) (v := v') rfl rfl hfb4 ZaJ hv4.oneV (Nat.zero_lt_succ _) fun υ5 hb5 k5 => ?_
 refine Zaf ?_
 have hB5 : But (fun c => c = f0.b \/ hbk f0.v = some c) υ υ5 := (hB4.sub fun c hc => .inr hc).trans (k5.sub fun c hc => .inl hc)
 have hbys : bys f0.d ++ bys d = bys (f0.d ++ d) := by unfold bys; rw [List.map_append]
 have hv5 : Hd υ5 5 1 v' (f0.d ++ d).length (bys (f0.d ++ d)) := by
  rw [List.length_append, <- hbys]
  refine hv4.but k5 fun c hc hq => ?_
  obtain ⟨all, hall⟩ := hv4.blk hc
  exact ZcM hall hfb4 (by decide) hq
 have h5 := h3.setF hf0 hB5 hb5 hv5 hn4
 have hf0S := h3.own.2.2.1 f0 hf0
 have hd5 : Hd υ5 5 1 dv d.length (bys d) := hd3.but hB5 fun c hc hq => by
  rcases hq with hq | hq
  ·obtain ⟨all, hall⟩ := hd3.blk hc
   exact ZcM hall p1 (by decide) hq
  ·exact hdS3 c hc (hf0S.2 c hq)
 have hBS5 : But S σ υ5 := hB3.ext2 (T := fun c => c = f0.b \/ hbk f0.v = some c) (fun c hc => by
  have hs1 : S1 c := by
   rcases hc with rfl | hc
   ·exact hf0S.1
   ·exact hf0S.2 c hc
  rcases hS31 c hs1 with q | q
  ·exact .inl q
  ·exact .inr q.1) hB5
 have hS5 : ∀ c, (S1 c \/ hbk v' = some c) -> S c \/ Za0 σ c := fun c hc => by
  rcases hc with hc | hc
  ·exact hS31 c hc
  ·rcases hn4 c hc with q | q
   ·exact hS31 c (hf0S.2 c q)
   ·exact ZcB hB3 q
 have hSu5 : ∀ c, (S1 c \/ hbk v' = some c) -> υ5.used c := fun c hc => by
  rcases hc with hc | hc
  ·exact hB5.used _ (hSu3 c hc)
  ·exact hv5.used hc
 clear hv4 hB4 hn4 hfb4 k5 hb5
 apply ZaL 0 7 8
 iterate 3 ·simp only [EV,Nat.reduceEqDiff,↓reduceIte,he];try rfl
 clear he e
 intro e he
 refine ZaZ (fun env υ => env 7 = dv /\ ∃ S' pcs' pv', DAt υ bb S' (fs1.map (Zci f0.b v' (f0.d ++ d))) pcs' size mb pv' /\ pcs' = pcs ++ (if d = [] then [] else [(f0.b, d.length)]) /\ But S σ υ /\ (∀ c, S c -> S' c) /\ (∀ c, S' c -> S c \/ Za0 σ c) /\ (∀ c, S' c -> υ.used c)) ?_ ?_
 ·repeat refine Zac ?_
  first|refine Zaa ?_|refine Zad ?_
  refine Zab (Zae rfl he.2.1 ?_)
  refine Zab ?_
  refine ZbS rfl hd5 rfl Zaw ?_
  refine Zab ?_
  refine ZfX (k := .i64) (a := (d.length : Int)) (b := 0) rfl rfl ?_
  refine Zaf ?_
  apply ZaP 0 7 8 51
  iterate 4 ·simp only [EV,Nat.reduceEqDiff,↓reduceIte,he];try rfl
  clear he e
  intro e he
  refine ZaS (t := decide ((0 : Int) < (d.length : Int))) he.2.2.2 (fun hd0 => ?_) (fun hd0 => ?_)
  ·have hd0 := of_decide_eq_true hd0
   have hdne : ¬ d = [] := fun e => by rw [e] at hd0; exact absurd hd0 (by decide)
   refine Zad ?_
   refine Zab (Zae rfl he.1 ?_)
   refine Zab (Zae rfl he.1 ?_)
   refine Zab ?_
   refine Zak (v := ptr bb 0) rfl rfl ?_
   refine Zab ?_
   refine Zag (b := bb) (o := 0) rfl Zbn rfl ?_
   refine Zab ?_
   refine Zag (b := bb) (o := 0 + 0) rfl Zco rfl ?_
   refine Zab ?_
   refine Zar (b := bb) (o := 0 + 0 + 0) (r := pv) rfl h5.obj Zdi Zcp rfl ?_
   refine Zab (Zae rfl he.2.2.1 ?_)
   refine Zab (Zae rfl he.2.1 ?_)
   refine Zab ?_
   refine ZbS rfl hd5 rfl Zaw ?_
   refine Zab ?_
   refine Za4 (vs := [ptr f0.b 0, vI d.length]) (cells := [ptr f0.b 0, vI d.length]) (by simp only [List.map_cons, List.map_nil, EV,Nat.reduceEqDiff,↓reduceIte,he]; try rfl) ZdE Zly rfl ?_
   refine Zab ?_
   refine Zdr (vs := [.agg [ptr f0.b 0, vI d.length]]) (cells := [ptr f0.b 0, vI d.length]) (by simp only [List.map_cons, List.map_nil, EV,Nat.reduceEqDiff,↓reduceIte,he];try rfl) ZbW Zbu ZdE rfl (by omega) rfl rfl fun rb υ6 hN6 hX6 => ?_
   have h6 := h5.ext hX6
   refine Zab ?_
   refine Za9 (m := 1) (news := [ptr f0.b 0, vI d.length]) (r := .lst (some ⟨rb, 0, none⟩) 1 1 ([ptr f0.b 0, vI d.length] ++ [])) rfl rfl ZbW Zbu ZdE Zlz rfl (by omega) h6.pc (ZbY rfl (fun a ha => by
    simp only [List.mem_cons, List.not_mem_nil, or_false] at ha
    rcases ha with rfl | rfl <;> rfl) (fun q => by cases q)) (by unfold maxLen; omega) (by omega) fun pv' υ7 hv7 hB7 hn7 => ?_
   refine Zab ?_
   refine Zak (v := ptr bb 0) rfl rfl ?_
   refine Zab ?_
   refine Zag (b := bb) (o := 0) rfl Zbn rfl ?_
   refine Zab ?_
   refine Zag (b := bb) (o := 0 + 0) rfl Zco rfl ?_
   refine Zab ?_
   refine ZbQ (b := bb) (o := 0 + 0 + 0) (v := pv') rfl rfl (hB7.keep _ _ h6.pvB h6.obj) Zcp hv7.oneV (Nat.zero_lt_succ _) fun υ8 hb8 k8 => ?_
   refine Zaf ?_
   have hB8 : But (fun c => c = bb \/ hbk pv = some c) υ6 υ8 := (hB7.sub fun c hc => .inr hc).trans (k8.sub fun c hc => .inl hc)
   have hpc : pcC pcs ++ [ptr f0.b 0, vI d.length] = pcC (pcs ++ [(f0.b, d.length)]) := by rw [ZfE]; rfl
   have hv8 : Hd υ8 80 2 pv' (pcs ++ [(f0.b, d.length)]).length (pcC (pcs ++ [(f0.b, d.length)])) := by
    rw [List.length_append, <- hpc]
    refine hv7.but k8 fun c hc hq => ?_
    obtain ⟨all, hall⟩ := hv7.blk hc
    exact ZcM hall (hB7.keep _ _ h6.pvB h6.obj) (by decide) hq
   have h8 := h6.setP hB8 hb8 hv8 fun p hp => by
    rcases List.mem_append.1 hp with hp | hp
    ·exact h6.inn p hp
    ·rw [List.mem_singleton.1 hp]
     exact ⟨_, List.mem_map.2 ⟨f0, hf0, rfl⟩, ZdH f0⟩
   have hBS6 : But S σ υ6 := hBS5.trans hX6.but
   refine ⟨rfl, by simp only [EV,Nat.reduceEqDiff,↓reduceIte,he];try rfl, _, _, pv', h8, by rw [if_neg hdne], hBS6.ext2 (T := fun c => c = bb \/ hbk pv = some c) (fun c hc => ?_) hB8, fun c hc => .inl (.inl (hS13 c hc)), fun c hc => ?_, fun c hc => ?_⟩
   ·rcases hS5 c (h6.pvS hc) with q | q
    ·exact .inl q
    ·exact .inr q.1
   ·rcases hc with hc | hc
    ·exact hS5 c hc
    ·rcases hn7 c hc with q | q
     ·exact hS5 c (h6.pvS (.inr q))
     ·exact ZcB hBS6 q
   ·rcases hc with hc | hc
    ·exact hB8.used _ (hX6.used _ (hSu5 c hc))
    ·exact hv8.used hc
  ·have hd0 := of_decide_eq_false hd0
   have hdn : d = [] := List.eq_nil_of_length_eq_zero (by omega)
   refine Zbq ?_
   exact ⟨rfl, by simp only [EV,Nat.reduceEqDiff,↓reduceIte,he];try rfl, _, pcs, pv, h5, by rw [if_pos hdn, List.append_nil], hBS5, fun c hc => .inl (hS13 c hc), hS5, hSu5⟩
 clear he e
 rintro e τ ⟨he, S', pcs', pv', h9, hpcs, g1, g2, g3, g4⟩
 repeat refine Zac ?_
 first|refine Zaa ?_|refine Zad ?_
 refine Zab (Zae rfl (by simp only [EV,Nat.reduceEqDiff,↓reduceIte,he];try rfl) ?_)
 refine Zaf ?_
 refine Zax ?_
 show ∃ r, Zaj _ _ _ _ r /\ _
 exact ⟨_, Zal rfl rfl, hK0 hk hf τ S' _ pcs' pv' h9 g1 g2 g3 g4 ⟨fs1, f0, v', hor, hf0, hnm, rfl, hpcs⟩⟩
end
end Go.Proofs.Ytinpiaibhjmfaaa
namespace Go.Proofs.Ytinpiaibhjmfaaa
open Go.RowKit
set_option maxRecDepth 100000
set_option linter.unusedVariables false
set_option linter.unusedSimpArgs false
theorem Zb7 : Zek Try.prog 9 = some false := by kernel_rfl
theorem ZbJ : ZaO Try.prog 9 = some 1 := by kernel_rfl
theorem ZcJ : Zek Try.prog 30 = some false := by kernel_rfl
theorem ZcK : ZaO Try.prog 30 = some 1 := by kernel_rfl
def ZeZ (ns : List (List UInt8)) : List AV := ns.map fun s => .raw (sV s)
theorem Zdb (ns : List (List UInt8)) : (ZeZ ns).length = ns.length := by simp [ZeZ]
theorem ZeV {ns : List (List UInt8)} {i : Nat} (h : i < ns.length) : (ZeZ ns)[i]? = some (.raw (sV ns[i])) := by
 unfold ZeZ
 rw [List.getElem?_map, List.getElem?_eq_getElem h]
 rfl
def Zc6 (σ : St) (v : AV) (ns : List (List UInt8)) : Prop := (∃ A c rest, v = .lst A ns.length c (ZeZ ns ++ rest) /\ (A = none -> ns.length = 0)) \/ Hd σ 9 1 v ns.length (ZeZ ns)
theorem Zc6.but {S : Nat -> Prop} {σ τ : St} {v : AV} {ns : List (List UInt8)} (h : Zc6 σ v ns) (k : But S σ τ) (hS : ∀ c, hbk v = some c -> ¬ S c) : Zc6 τ v ns := by
 rcases h with h | h
 ·exact .inl h
 ·exact .inr (h.but k hS)
theorem Zc6.val {σ : St} {v : AV} {ns : List (List UInt8)} (h : Zc6 σ v ns) : ∃ A c, v.val = .slice A ns.length c := by
 rcases h with ⟨A, c, rest, rfl, _⟩ | h
 ·exact ⟨A, c, rfl⟩
 ·obtain ⟨A, c, h1, _⟩ := h.val
  exact ⟨A, c, h1⟩
section
variable {ops : Array Oper} {env : Env} {σ τ : St} {K : Env -> St -> Prop}
abbrev fnG (g : FuncId) (fst caps : Array Value) : AV := .raw (.func (.func g) fst caps)
theorem Zhd {n d : Nat} {ty1 ty2 : TypeId} {pos1 pos2 : String} {af1 af2 : Array Edge} {x y : Operand} {v : AV} {ns : List (List UInt8)} {i : Nat} {l : List Oper} (hN : Zc6 σ v ns) (hi : i < ns.length) (hx : ev env x = v) (hy : ev env y = vI i) (h : ∀ u, ZbV Try.prog ops l ((env.put (some n) u).put (some d) (.raw (sV ns[i]))) σ K) :
 ZbV Try.prog ops (⟨some n, .indexAddr 26 x y, ty1, pos1, af1, none⟩ :: ⟨some d, .load 9 (.tmp n), ty2, pos2, af2, none⟩ :: l) env σ K := by
 rcases hN with ⟨A, c, rest, rfl, hA⟩ | hN
 ·refine Zab (Zcs (k := .i64) (j := i) hx hy ZaE ZbJ hi hA rfl fun ad => ?_)
  refine Zab (ZcD (r := .raw (sV ns[i])) (by simp only [EV]; rfl) Zb7 ZbJ ?_ (h _))
  show ((ZeZ ns ++ rest).drop (i * 1))[0]? = _
  rw [List.getElem?_drop, Nat.mul_one, Nat.add_zero, List.getElem?_append_left (by rw [Zdb]; exact hi), ZeV hi]
 ·refine Zab (Zbb (k := .i64) (j := i) hx hy ZaE ZbJ hN hi fun b hb => ?_)
  exact Zab (Zpt (by simp only [EV]; rfl) hN hb hi (ZeV hi) Zb7 ZbJ (h _))
end
set_option maxHeartbeats 1000000 in
theorem ZhE {σ : St} {bb mb : Nat} {S : Nat -> Prop} {fs : List Fl} {pcs : List (Nat × Nat)} {size : Int} {pv v : AV} {ns : List (List UInt8)} {g : FuncId} {fst caps : Array Value} {K : AV -> St -> Prop} (I : Nat -> St -> Prop)
 (h : DAt σ bb S fs pcs size mb pv) (hN : Zc6 σ v ns) (hnl : ns.length <= 1000000000) (h0 : I 0 σ)
 (hstep : ∀ i (hi : i < ns.length) υ, I i υ -> ∃ S fs pcs size mb pv, DAt υ bb S fs pcs size mb pv /\ Zc6 υ v ns /\ (Zfa (Zbc fs) ns[i] = none -> K (vI 6) υ) /\ ∀ fb, Zfa (Zbc fs) ns[i] = some fb -> Zat Try.prog g (fst.toList.map .raw ++ [.raw (sV ns[i]), ptr fb 0] ++ caps.toList.map .raw) υ fun _ τ => I (i + 1) τ)
 (hend : ∀ υ, I ns.length υ -> K (vI 0) υ) : Zat Try.prog 38 [ptr bb 0, fnG g fst caps, v] σ K := by
 refine Zam Zas Try.func38 rfl rfl rfl (Nat.le_of_ble_eq_true rfl) ?_
 refine ZaL 0 1 2 (v0 := ptr bb 0) (v1 := fnG g fst caps) (v2 := v) rfl rfl rfl ?_
 intro e he
 repeat refine Zac ?_
 first|refine Zaa ?_|refine Zad ?_
 refine Zab (Zae rfl (by simp only [EV,Nat.reduceEqDiff,↓reduceIte,he];try rfl) ?_)
 refine Zaf ?_
 apply ZaL 0 1 2
 iterate 3 ·simp only [EV,Nat.reduceEqDiff,↓reduceIte,he];try rfl
 clear he e
 intro e he
 repeat refine Zac ?_
 first|refine Zaa ?_|refine Zad ?_
 refine Zab (Zae rfl he.1 ?_)
 refine Zab ?_
 refine Zao (vs := [ptr bb 0]) (by simp only [List.map_cons, List.map_nil, EV,Nat.reduceEqDiff,↓reduceIte,he];try rfl) ?_
 refine ZdU h ?_
 refine Zab ?_
 with_reducible apply ZbB
 case hx => simp only [EV,Nat.reduceEqDiff,↓reduceIte,he];try rfl
 refine Zaf ?_
 apply ZaP 0 1 2 12
 iterate 4 ·simp only [EV,Nat.reduceEqDiff,↓reduceIte,he];try rfl
 clear he e
 intro e he
 refine Zav (t := false) he.2.2.2 (fun hf => by cases hf) (fun _ => ?_)
 refine Zaz ?_
 obtain ⟨A, c, hv⟩ := hN.val
 repeat refine Zac ?_
 first|refine Zaa ?_|refine Zad ?_
 refine Zab (Zae rfl he.2.2.1 ?_)
 refine Zab ?_
 refine Zcz rfl hv rfl ZaE ?_
 refine Zab (Zae rfl (by simp only [EV,Nat.reduceEqDiff,↓reduceIte,he];try rfl) ?_)
 refine Zaf ?_
 apply Zb6 0 1 13 14 15
 iterate 5 ·simp only [EV,Nat.reduceEqDiff,↓reduceIte,he];try rfl
 clear he e
 intro e he
 refine ZaD ?_
 refine ZaV (fun μ env υ => ∃ i : Nat, μ = ns.length - i /\ i <= ns.length /\ (env 0 = ptr bb 0 /\ env 1 = fnG g fst caps /\ env 13 = v /\ env 14 = vI ns.length /\ env 15 = vI i) /\ I i υ) ⟨_, 0, rfl, Nat.zero_le _, he, h0⟩ ?_
 clear he e h hN
 rintro _ e υ ⟨i, rfl, hi, he, hI⟩
 repeat refine Zac ?_
 first|refine Zaa ?_|refine Zad ?_
 refine Zab ?_
 refine Zbs i ns.length he.2.2.2.2 he.2.2.2.1 ?_
 refine Zaf ?_
 apply ZdN 0 1 13 14 15 16
 iterate 6 ·simp only [EV,Nat.reduceEqDiff,↓reduceIte,he];try rfl
 clear he e
 intro e he
 refine Zav (t := decide (i < ns.length)) he.2.2.2.2.2 (fun ht => ?_) (fun ht => ?_)
 ·have hlt : i < ns.length := of_decide_eq_true ht
  obtain ⟨S, fs, pcs, size, mb, pv, h, hN, hnone, hsome⟩ := hstep i hlt υ hI
  refine Zaz ?_
  refine ZaD ?_
  repeat refine Zac ?_
  first|refine Zaa ?_|refine Zad ?_
  refine Zhd hN hlt he.2.2.1 he.2.2.2.2.1 fun u => ?_
  refine Zab (Zae rfl (by simp only [EV,Nat.reduceEqDiff,↓reduceIte,he];try rfl) ?_)
  refine Zaf ?_
  apply ZdN 0 1 8 13 14 15
  iterate 6 ·simp only [EV,Nat.reduceEqDiff,↓reduceIte,he];try rfl
  clear he e
  intro e he
  repeat refine Zac ?_
  first|refine Zaa ?_|refine Zad ?_
  refine Zab (Zae rfl he.1 ?_)
  refine Zab ?_
  refine Zak (v := ptr bb 0) rfl rfl ?_
  refine Zab ?_
  refine Zag (b := bb) (o := 0) rfl Zbn rfl ?_
  refine Zab ?_
  refine Zar (b := bb) (o := 0 + 1) (r := Zc2 mb) rfl h.obj ZcH ZcG rfl ?_
  refine Zab (Zae rfl he.2.2.1 ?_)
  refine Zab ?_
  refine Zeb (k := ns[i]) (es := Zbc fs) (b := mb) rfl rfl h.map ZdF ZcW ZfD ?_
  refine Zab (Zae rfl (by simp only [EV,Nat.reduceEqDiff,↓reduceIte,he];try rfl) ?_)
  refine Zaf ?_
  apply Zkz 0 1 8 9 13 14 15
  iterate 7 ·simp only [EV,Nat.reduceEqDiff,↓reduceIte,he];try rfl
  clear he e
  intro e he
  repeat refine Zac ?_
  first|refine Zaa ?_|refine Zad ?_
  refine Zab (Zae rfl he.2.2.2.1 ?_)
  cases hg : Zfa (Zbc fs) ns[i] with
  | none =>
   rw [hg] at he
   refine Zab ?_
   refine ZdQ (p := none) ZdG rfl rfl rfl ?_
   refine Zaf ?_
   refine Zav (t := true) rfl (fun _ => ?_) (fun hf => by cases hf)
   repeat refine Zac ?_
   first|refine Zaa ?_|refine Zad ?_
   refine Zab (Zae rfl (by simp only [EV,Nat.reduceEqDiff,↓reduceIte,he];try rfl) ?_)
   refine Zaf ?_
   refine Zcw ?_
   show ∃ r, Zaj _ _ _ _ r /\ _
   exact ⟨_, Zal rfl rfl, hnone hg⟩
  | some fb =>
   rw [hg] at he
   refine Zab ?_
   refine ZdQ (p := some ⟨fb, 0, none⟩) ZdG rfl rfl rfl ?_
   refine Zaf ?_
   apply Zob 0 1 8 9 13 14 15 26
   iterate 8 ·simp only [EV,Nat.reduceEqDiff,↓reduceIte,he];try rfl
   clear he e
   intro e he
   refine Zav (t := false) he.2.2.2.2.2.2.2 (fun hf => by cases hf) (fun _ => ?_)
   refine Zaz ?_
   repeat refine Zac ?_
   first|refine Zaa ?_|refine Zad ?_
   refine Zab (Zae rfl he.2.1 ?_)
   refine Zab (Zae rfl he.2.2.1 ?_)
   refine Zab (Zae rfl he.2.2.2.1 ?_)
   refine Zab ?_
   refine Zol (g := g) (fst := fst) (caps := caps) (vs := [.raw (sV ns[i]), ptr fb 0]) rfl (by simp only [List.map_cons, List.map_nil, EV,Nat.reduceEqDiff,↓reduceIte,he];try rfl) ?_
   refine (hsome fb hg).mono fun a τ hI2 => ?_
   refine Zaf ?_
   show Zay _ _ _ _ _ _
   apply Zb6 0 1 13 14 15
   iterate 5 ·simp only [EV,Nat.reduceEqDiff,↓reduceIte,he];try rfl
   clear he e
   intro e he
   refine Zad ?_
   refine Zab ?_
   refine ZaU i 1 he.2.2.2.2 rfl (by omega) ?_
   refine Zab (Zae rfl (by simp only [EV,Nat.reduceEqDiff,↓reduceIte,he];try rfl) ?_)
   refine Zaf ?_
   show ∃ n', n' < _ /\ _
   exact ⟨_, (by omega : ns.length - (i + 1) < ns.length - i), i + 1, rfl, hlt, ⟨by simp only [EV,Nat.reduceEqDiff,↓reduceIte,he];try rfl, by simp only [EV,Nat.reduceEqDiff,↓reduceIte,he];try rfl, by simp only [EV,Nat.reduceEqDiff,↓reduceIte,he];try rfl, by simp only [EV,Nat.reduceEqDiff,↓reduceIte,he];try rfl, by simp only [EV,Nat.reduceEqDiff,↓reduceIte,he];try rfl⟩, hI2⟩
 ·have hke : i = ns.length := by have := of_decide_eq_false ht; omega
  subst hke
  refine Zbe ?_
  show Zay _ _ _ _ _ _
  repeat refine Zac ?_
  first|refine Zaa ?_|refine Zad ?_
  refine Zab (Zae rfl (by simp only [EV,Nat.reduceEqDiff,↓reduceIte,he];try rfl) ?_)
  refine Zaf ?_
  refine Zax ?_
  show ∃ r, Zaj _ _ _ _ r /\ _
  exact ⟨_, Zal rfl rfl, hend υ hI⟩
def ZeC (fs : List Fl) : List (List UInt8) -> List (Nat × Nat) -> List (Nat × Nat) × Nat
 | [], pcs => (pcs, 0)
 | n :: ns, pcs => match Zfa (Zbc fs) n with
  | none => (pcs, 6)
  | some fb => ZeC fs ns (pcs.filter fun p => !decide (p.1 = fb))
theorem ZfG {fs : List Fl} {n : List UInt8} {ns : List (List UInt8)} {pcs : List (Nat × Nat)} (h : Zfa (Zbc fs) n = none) : ZeC fs (n :: ns) pcs = (pcs, 6) := by
 unfold ZeC
 rw [h]
theorem ZfH {fs : List Fl} {n : List UInt8} {ns : List (List UInt8)} {pcs : List (Nat × Nat)} {fb : Nat} (h : Zfa (Zbc fs) n = some fb) : ZeC fs (n :: ns) pcs = ZeC fs ns (pcs.filter fun p => !decide (p.1 = fb)) := by
 conv => lhs; unfold ZeC
 rw [h]
theorem ZlS {fs : List Fl} {pcs : List (Nat × Nat)} : ZeC fs [] pcs = (pcs, 0) := rfl
section
variable {σ : St} {bb mb : Nat} {S : Nat -> Prop} {fs : List Fl} {pcs : List (Nat × Nat)} {size : Int} {pv : AV} {K : AV -> St -> Prop}
theorem Znc {b2 : Nat} {a : AV} (h : DAt σ bb S fs pcs size mb pv) (hl : pcs.length <= 1000000000) (hb : σ.blk b2 = some (.own 30 [ptr bb 0])) {f0 : Fl} (hf0 : f0 ∈ fs) (hK : ∀ τ pv', DAt τ bb S fs (pcs.filter fun p => !decide (p.1 = f0.b)) size mb pv' -> But S σ τ -> K (.tup []) τ) : Zat Try.prog 39 [a, ptr f0.b 0, ptr b2 0] σ K := by
 refine Zam Zas Try.func39 rfl rfl rfl (Nat.le_of_ble_eq_true rfl) ?_
 refine ZaK 1 2 (v0 := ptr f0.b 0) (v1 := ptr b2 0) rfl rfl ?_
 intro e he
 repeat refine Zac ?_
 first|refine Zaa ?_|refine Zad ?_
 refine Zab ?_
 refine Zar (b := b2) (o := 0) (r := ptr bb 0) he.2 hb ZcJ ZcK rfl ?_
 refine Zab ?_
 refine Zak (v := ptr bb 0) rfl rfl ?_
 refine Zab ?_
 refine Zag (b := bb) (o := 0) rfl Zbn rfl ?_
 refine Zab (Zae rfl he.1 ?_)
 refine Zab ?_
 refine Zao (vs := [ptr bb 0, ptr f0.b 0]) (by simp only [List.map_cons, List.map_nil, EV,Nat.reduceEqDiff,↓reduceIte,he];try rfl) ?_
 refine ZlR h hl hf0 fun τ pv' h1 h2 => ?_
 refine Zaf ?_
 exact ⟨_, Zce rfl, hK τ pv' h1 h2⟩
theorem Zos (h : DAt σ bb S fs pcs size mb pv) (hS : ∀ c, S c -> σ.used c) (hl : pcs.length <= 1000000000) {v : AV} {ns : List (List UInt8)} (hN : Zc6 σ v ns) (hNS : ∀ c, hbk v = some c -> ¬ S c) (hnl : ns.length <= 1000000000)
 (hK : ∀ τ pv', DAt τ bb S fs (ZeC fs ns pcs).1 size mb pv' -> But S σ τ -> K (vI (ZeC fs ns pcs).2) τ) : Zat Try.prog 11 [ptr bb 0, v] σ K := by
 refine Zam Zas Try.func11 rfl rfl rfl (Nat.le_of_ble_eq_true rfl) ?_
 refine ZaK 0 1 (v0 := ptr bb 0) (v1 := v) rfl rfl ?_
 intro e he
 repeat refine Zac ?_
 first|refine Zaa ?_|refine Zad ?_
 refine Zab ?_
 refine Zdq (cs := [ptr bb 0]) (v := ptr bb 0) he.1 rfl fun b2 σ2 hn2 hu2 hb2 hub2 hX2 => ?_
 refine Zab (Zae rfl (by simp only [EV,Nat.reduceEqDiff,↓reduceIte,he];try rfl) ?_)
 refine Zaf ?_
 apply ZaK 1 2
 iterate 2 ·simp only [EV,Nat.reduceEqDiff,↓reduceIte,he];try rfl
 clear he e
 intro e he
 have h2 := h.ext hX2
 have hbS : ¬ S b2 := fun hs => hu2 (hS _ hs)
 repeat refine Zac ?_
 first|refine Zaa ?_|refine Zad ?_
 refine Zab ?_
 refine Zar (b := b2) (o := 0) (r := ptr bb 0) he.2 hb2 ZcJ ZcK rfl ?_
 refine Zab ?_
 refine ZdS (vs := [ptr b2 0]) (by simp only [List.map_cons, List.map_nil, EV,Nat.reduceEqDiff,↓reduceIte,he];try rfl) ?_
 refine Zab (Zae rfl he.1 ?_)
 refine Zab ?_
 refine Zao (vs := [ptr bb 0, fnV 39 #[.pointer (some ⟨b2, 0, none⟩)], v]) (by simp only [List.map_cons, List.map_nil, EV,Nat.reduceEqDiff,↓reduceIte,he];try rfl) ?_
 have hfin : ∀ (a : Nat) (τ : St), (∃ pv', DAt τ bb S fs (ZeC fs ns pcs).1 size mb pv') -> But S σ τ -> a = (ZeC fs ns pcs).2 -> K (vI a) τ := fun a τ ⟨pv', q1⟩ q2 q3 => by
  rw [q3]; exact hK τ pv' q1 q2
 refine ZhE (fun i υ => ∃ pcs' pv', DAt υ bb S fs pcs' size mb pv' /\ pcs'.length <= 1000000000 /\ ZeC fs (ns.drop i) pcs' = ZeC fs ns pcs /\ But S σ υ /\ υ.blk b2 = some (.own 30 [ptr bb 0]) /\ Zc6 υ v ns) h2 (hN.but (S := S) hX2.but hNS) hnl ⟨pcs, pv, h2, hl, rfl, hX2.but, hb2, hN.but (S := S) hX2.but hNS⟩ (fun i hi υ => ?_) (fun υ => ?_)
 ·rintro ⟨pcs', pv', g1, g2, g3, g4, g5, g6⟩
  rw [List.drop_eq_getElem_cons hi] at g3
  refine ⟨S, fs, pcs', size, mb, pv', g1, g6, fun hg => ?_, fun fb hg => ?_⟩
  ·rw [ZfG hg] at g3
   refine Zab (Zae rfl (by simp only [EV,Nat.reduceEqDiff,↓reduceIte,he];try rfl) ?_)
   refine Zaf ?_
   refine Zax ?_
   refine ⟨_, Zal rfl rfl, hfin 6 υ ⟨pv', ?_⟩ g4 ?_⟩
   ·rw [<- g3]; exact g1
   ·rw [<- g3]
  ·rw [ZfH hg] at g3
   obtain ⟨f0, hf0, hnm, rfl⟩ := ZcE hg
   refine Znc (b2 := b2) g1 g2 g5 hf0 fun τ pv2 k1 k2 => ⟨_, pv2, k1, Nat.le_trans (List.length_filter_le _ _) g2, g3, g4.trans k2, k2.keep _ _ hbS g5, g6.but k2 hNS⟩
 ·rintro ⟨pcs', pv', g1, g2, g3, g4, g5, g6⟩
  rw [List.drop_eq_nil_of_le (Nat.le_refl _)] at g3
  rw [ZlS] at g3
  refine Zab (Zae rfl (by simp only [EV,Nat.reduceEqDiff,↓reduceIte,he];try rfl) ?_)
  refine Zaf ?_
  refine Zax ?_
  refine ⟨_, Zal rfl rfl, hfin 0 υ ⟨pv', ?_⟩ g4 ?_⟩
  ·rw [<- g3]; exact g1
  ·rw [<- g3]
theorem ZhF (h : DAt σ bb S fs pcs size mb pv) {k : List UInt8} (hfl : ∀ f ∈ fs, f.d.length <= 1000000000)
 (hK1 : (∀ f ∈ fs, f.nm ≠ k) -> K (.tup [.lst none 0 0 [], vT false]) σ)
 (hK2 : ∀ f0 ∈ fs, f0.nm = k -> ∀ τ v, Hd τ 5 1 v f0.d.length (bys f0.d) -> Ext σ τ -> (∀ c, hbk v = some c -> Za0 σ c) -> K (.tup [v, vT true]) τ) : Zat Try.prog 12 [ptr bb 0, .raw (sV k)] σ K := by
 refine Zam Zas Try.func12 rfl rfl rfl (Nat.le_of_ble_eq_true rfl) ?_
 refine ZaK 0 1 (v0 := ptr bb 0) (v1 := .raw (sV k)) rfl rfl ?_
 intro e he
 repeat refine Zac ?_
 first|refine Zaa ?_|refine Zad ?_
 refine Zab (Zae rfl (by simp only [EV,Nat.reduceEqDiff,↓reduceIte,he];try rfl) ?_)
 refine Zab (Zae rfl (by simp only [EV,Nat.reduceEqDiff,↓reduceIte,he];try rfl) ?_)
 refine Zaf ?_
 apply ZaP 0 1 4 5
 iterate 4 ·simp only [EV,Nat.reduceEqDiff,↓reduceIte,he];try rfl
 clear he e
 intro e he
 repeat refine Zac ?_
 first|refine Zaa ?_|refine Zad ?_
 refine Zab (Zae rfl he.1 ?_)
 refine Zab ?_
 refine Zao (vs := [ptr bb 0]) (by simp only [List.map_cons, List.map_nil, EV,Nat.reduceEqDiff,↓reduceIte,he];try rfl) ?_
 refine ZdU h ?_
 refine Zab ?_
 with_reducible apply ZbB
 case hx => simp only [EV,Nat.reduceEqDiff,↓reduceIte,he];try rfl
 refine Zab (Zae rfl (by simp only [EV,Nat.reduceEqDiff,↓reduceIte,he];try rfl) ?_)
 refine Zab (Zah (ZaN rfl (by simp only [EV,Nat.reduceEqDiff,↓reduceIte,he];try rfl)) ?_)
 refine Zae rfl he.1 ?_
 refine Zab (Zah (ZaN rfl (by simp only [EV,Nat.reduceEqDiff,↓reduceIte,he];try rfl)) ?_)
 refine Zak (v := ptr bb 0) rfl rfl ?_
 refine Zab (Zah (ZaN rfl (by simp only [EV,Nat.reduceEqDiff,↓reduceIte,he];try rfl)) ?_)
 refine Zag (b := bb) (o := 0) rfl Zbn rfl ?_
 refine Zab (Zah (ZaN rfl (by simp only [EV,Nat.reduceEqDiff,↓reduceIte,he];try rfl)) ?_)
 refine Zar (b := bb) (o := 0 + 1) (r := Zc2 mb) rfl h.obj ZcH ZcG rfl ?_
 refine Zab (Zah (ZaN rfl (by simp only [EV,Nat.reduceEqDiff,↓reduceIte,he];try rfl)) ?_)
 refine Zae rfl he.2.1 ?_
 refine Zab (Zah (ZaN rfl (by simp only [EV,Nat.reduceEqDiff,↓reduceIte,he];try rfl)) ?_)
 refine Zeb (k := k) (es := Zbc fs) (b := mb) rfl rfl h.map ZdF ZcW ZfD ?_
 cases hg : Zfa (Zbc fs) k with
 | none =>
  refine Zab (Zah (ZaN rfl (by simp only [EV,Nat.reduceEqDiff,↓reduceIte,he];try rfl)) ?_)
  refine ZdQ (p := none) ZdG rfl rfl rfl ?_
  refine Zab ?_
  refine Za2 (v := vT true) rfl rfl ?_
  refine Zaf ?_
  apply ZaL 0 1 17
  iterate 3 ·simp only [EV,Nat.reduceEqDiff,↓reduceIte,he];try rfl
  clear he e
  intro e he
  refine Zav (t := true) he.2.2 (fun _ => ?_) (fun hf => by cases hf)
  repeat refine Zac ?_
  first|refine Zaa ?_|refine Zad ?_
  refine Zab (Zae rfl (by simp only [EV,Nat.reduceEqDiff,↓reduceIte,he];try rfl) ?_)
  refine Zab (Zae rfl (by simp only [EV,Nat.reduceEqDiff,↓reduceIte,he];try rfl) ?_)
  refine Zaf ?_
  refine Zcw ?_
  show ∃ r, Zaj _ _ _ _ r /\ _
  exact Zfi rfl (Zda rfl) (Zda rfl) (hK1 (ZcA.1 hg))
 | some fb =>
  obtain ⟨f0, hf0, hnm, rfl⟩ := ZcE hg
  obtain ⟨p1, p2, p3⟩ := h.file f0 hf0
  refine Zab (Zah (ZaN rfl (by simp only [EV,Nat.reduceEqDiff,↓reduceIte,he];try rfl)) ?_)
  refine ZdQ (p := some ⟨f0.b, 0, none⟩) ZdG rfl rfl rfl ?_
  refine Zab ?_
  refine Za2 (v := vT false) rfl rfl ?_
  refine Zaf ?_
  apply ZaL 0 1 17
  iterate 3 ·simp only [EV,Nat.reduceEqDiff,↓reduceIte,he];try rfl
  clear he e
  intro e he
  refine Zav (t := false) he.2.2 (fun hf => by cases hf) (fun _ => ?_)
  refine Zaz ?_
  repeat refine Zac ?_
  first|refine Zaa ?_|refine Zad ?_
  refine Zab (Zae rfl he.1 ?_)
  refine Zab ?_
  refine Zak (v := ptr bb 0) rfl rfl ?_
  refine Zab ?_
  refine Zag (b := bb) (o := 0) rfl Zbn rfl ?_
  refine Zab ?_
  refine Zar (b := bb) (o := 0 + 1) (r := Zc2 mb) rfl h.obj ZcH ZcG rfl ?_
  refine Zab (Zae rfl he.2.1 ?_)
  refine Zab ?_
  refine Zeb (k := k) (es := Zbc fs) (b := mb) rfl rfl h.map ZdF ZcW ZfD ?_
  rw [hg]
  refine Zab ?_
  refine Zak (v := ptr f0.b 0) rfl rfl ?_
  refine Zab ?_
  refine Zag (b := f0.b) (o := 0) rfl Zes rfl ?_
  refine Zab ?_
  refine Zar (b := f0.b) (o := 0 + 0) (r := f0.v) rfl p1 ZbO ZaJ rfl ?_
  refine Zab ?_
  refine Zao (vs := [f0.v]) (by simp only [List.map_cons, List.map_nil, EV,Nat.reduceEqDiff,↓reduceIte,he];try rfl) ?_
  refine Ziz p3 (hfl f0 hf0) _ fun v τ q1 q2 q3 => ?_
  refine Zab (Zae rfl (by simp only [EV,Nat.reduceEqDiff,↓reduceIte,he];try rfl) ?_)
  refine Zab (Zae rfl (by simp only [EV,Nat.reduceEqDiff,↓reduceIte,he];try rfl) ?_)
  refine Zaf ?_
  refine Zax ?_
  show ∃ r, Zaj _ _ _ _ r /\ _
  exact Zfi rfl (Zda rfl) (Zda rfl) (hK2 f0 hf0 hnm τ v q1 q2 q3)
theorem ZjZ (h : DAt σ bb S fs pcs size mb pv) (hs : Zcy pcs <= 1000000000) (hl : pcs.length <= 1000000000) (hK : ∀ τ, Ext σ τ -> K (vI (Zcy pcs)) τ) : Zat Try.prog 14 [ptr bb 0] σ K := by
 refine Zam Zas Try.func14 rfl rfl rfl (Nat.le_of_ble_eq_true rfl) ?_
 refine Zbz 0 (v0 := ptr bb 0) rfl ?_
 intro e he
 repeat refine Zac ?_
 first|refine Zaa ?_|refine Zad ?_
 refine Zab (Zae rfl (by simp only [EV,Nat.reduceEqDiff,↓reduceIte,he];try rfl) ?_)
 refine Zaf ?_
 apply Zbz 0
 ·simp only [EV,Nat.reduceEqDiff,↓reduceIte,he];try rfl
 clear he e
 intro e he
 repeat refine Zac ?_
 first|refine Zaa ?_|refine Zad ?_
 refine Zab (Zae rfl he ?_)
 refine Zab ?_
 refine Zao (vs := [ptr bb 0]) (by simp only [List.map_cons, List.map_nil, EV,Nat.reduceEqDiff,↓reduceIte,he];try rfl) ?_
 refine ZdU h ?_
 refine Zab ?_
 with_reducible apply ZbB
 case hx => simp only [EV,Nat.reduceEqDiff,↓reduceIte,he];try rfl
 refine Zaf ?_
 apply ZaK 0 5
 iterate 2 ·simp only [EV,Nat.reduceEqDiff,↓reduceIte,he];try rfl
 clear he e
 intro e he
 refine Zav (t := false) he.2 (fun hf => by cases hf) (fun _ => ?_)
 refine Zaz ?_
 repeat refine Zac ?_
 first|refine Zaa ?_|refine Zad ?_
 refine Zab (Zae rfl he.1 ?_)
 refine Zab ?_
 refine Zak (v := ptr bb 0) rfl rfl ?_
 refine Zab ?_
 refine Zag (b := bb) (o := 0) rfl Zbn rfl ?_
 refine Zab ?_
 refine Zao (vs := [ptr bb 0]) (by simp only [List.map_cons, List.map_nil, EV,Nat.reduceEqDiff,↓reduceIte,he];try rfl) ?_
 refine ZiE h hs hl fun τ hX => ?_
 refine Zab (Zae rfl (by simp only [EV,Nat.reduceEqDiff,↓reduceIte,he];try rfl) ?_)
 refine Zaf ?_
 refine Zax ?_
 show ∃ r, Zaj _ _ _ _ r /\ _
 exact ⟨_, Zal rfl rfl, hK τ hX⟩
end
end Go.Proofs.Ytinpiaibhjmfaaa
namespace Go.Proofs.Ytinpiaibhjmfaaa
open Go.RowKit
set_option maxRecDepth 100000
set_option linter.unusedVariables false
set_option linter.unusedSimpArgs false
abbrev FD := List (List UInt8 × Nat × List UInt8)
def dat (fs : List Fl) : FD := fs.map fun f => (f.nm, f.b, f.d)
def ZkW (b m : Nat) (l : FD) : FD := l.map fun f => if f.2.1 = b then (f.1, f.2.1, f.2.2.take (f.2.2.length - m)) else f
theorem ZlT (b : Nat) (l : FD) : ZkW b 0 l = l := by
 unfold ZkW
 conv => rhs; rw [<- List.map_id l]
 refine List.map_congr_left fun f _ => ?_
 rw [Nat.sub_zero, List.take_length]
 split <;> rfl
def Zcu : Nat -> FD -> List (Nat × Nat) -> FD
 | _, l, [] => l
 | lost, l, p :: ps => Zcu (lost - min lost p.2) (ZkW p.1 (min lost p.2) l) ps
theorem Zew : ∀ (ps : List (Nat × Nat)) (l : FD), Zcu 0 l ps = l
 | [], l => rfl
 | p :: ps, l => by
  unfold Zcu
  rw [Nat.zero_min, ZlT, Nat.sub_zero]
  exact Zew ps l
def Zcj (b : Nat) (pcs : List (Nat × Nat)) : Nat := Zcy (pcs.filter fun p => decide (p.1 = b))
theorem Zed (b : Nat) (l m : List (Nat × Nat)) : Zcj b (l ++ m) = Zcj b l + Zcj b m := by simp [Zcj, Zcy]
theorem Zex (l m : List (Nat × Nat)) : Zcy (l ++ m) = Zcy l + Zcy m := by simp [Zcy]
theorem Zee (b : Nat) (p : Nat × Nat) : Zcj b [p] = if p.1 = b then p.2 else 0 := by
 unfold Zcj Zcy
 by_cases h : p.1 = b <;> simp [h]
theorem Zj0 (p : Nat × Nat) : Zcy [p] = p.2 := by simp [Zcy]
theorem Znd : Zcy [] = 0 := rfl
theorem ZeM (b : Nat) : Zcj b [] = 0 := rfl
theorem ZhG {p : Nat × Nat} : ∀ {l : List (Nat × Nat)}, p ∈ l -> p.2 <= Zcy l
 | q :: l, h => by
  have : Zcy (q :: l) = q.2 + Zcy l := by simp [Zcy]
  rcases List.mem_cons.1 h with rfl | h
  ·omega
  ·have := ZhG h; omega
structure Wf (fs : List Fl) (pcs : List (Nat × Nat)) : Prop where
 pos : ∀ p ∈ pcs, 0 < p.2
 fit : ∀ f ∈ fs, Zcj f.b pcs <= f.d.length
theorem ZlU {fs : List Fl} {f0 : Fl} {v : AV} {m : Nat} (h : ∀ f ∈ fs, f.b = f0.b -> f.d = f0.d) : dat (fs.map (Zci f0.b v (f0.d.take (f0.d.length - m)))) = ZkW f0.b m (dat fs) := by
 unfold dat ZkW
 rw [List.map_map, List.map_map]
 refine List.map_congr_left fun f hf => ?_
 simp only [Function.comp]
 unfold Zci
 by_cases hb : f.b = f0.b
 ·rw [if_pos hb, if_pos hb, h f hf hb]
 ·rw [if_neg hb, if_neg hb]
theorem Zne {fb n : Nat} {init : List (Nat × Nat)} {p : Nat × Nat} (hp : p.1 = fb) (hn : n <= p.2) : shr fb n (init ++ [p]) = init ++ [(p.1, p.2 - n)] := by
 unfold shr
 rw [List.reverse_append]
 show (Zhb fb n (p :: init.reverse)).reverse = _
 unfold Zhb
 rw [if_pos hp, Nat.min_eq_left hn, Nat.sub_self, ZgF, List.reverse_cons, List.reverse_reverse]
theorem ZlV {init : List (Nat × Nat)} {b k : Nat} (h : ∀ p ∈ init, 0 < p.2) : (init ++ [(b, k)]).filter (fun p => !decide (p.2 = 0)) = init ++ (if k = 0 then [] else [(b, k)]) := by
 rw [List.filter_append, List.filter_eq_self.2 fun p hp => by have := h p hp; simp; omega]
 by_cases hk : k = 0 <;> simp [hk]
section
variable {σ : St} {bb mb : Nat} {S : Nat -> Prop} {fs : List Fl} {pcs : List (Nat × Nat)} {size : Int} {pv : AV} {K : AV -> St -> Prop}
set_option maxHeartbeats 2000000 in
theorem Zj1 (h : DAt σ bb S fs pcs size mb pv) (hl : pcs.length <= 1000000000) (hwf : Wf fs pcs) (hs : Zcy pcs <= 1000000000) (hfl : ∀ f ∈ fs, f.d.length <= 1000000000) {keep : Int} (hk : -9223372036854775808 <= keep /\ keep <= 9223372036854775807)
 (hK : ∀ τ fs', DAt τ bb S fs' [] size mb (.lst none 0 0 []) -> dat fs' = Zcu ((Zcy pcs : Int) - max keep 0).toNat (dat fs) pcs.reverse -> But S σ τ -> K (.tup []) τ) : Zat Try.prog 15 [ptr bb 0, .raw (.int .i64 keep)] σ K := by
 refine Zam Zas Try.func15 rfl rfl rfl (Nat.le_of_ble_eq_true rfl) ?_
 refine ZaK 0 1 (v0 := ptr bb 0) (v1 := .raw (.int .i64 keep)) rfl rfl ?_
 intro e he
 repeat refine Zac ?_
 first|refine Zaa ?_|refine Zad ?_
 refine Zab (Zae rfl he.1 ?_)
 refine Zab ?_
 refine Zao (vs := [ptr bb 0]) (by simp only [List.map_cons, List.map_nil, EV,Nat.reduceEqDiff,↓reduceIte,he];try rfl) ?_
 refine ZdU h ?_
 refine Zab ?_
 with_reducible apply ZbB
 case hx => simp only [EV,Nat.reduceEqDiff,↓reduceIte,he];try rfl
 refine Zaf ?_
 apply ZaL 0 1 9
 iterate 3 ·simp only [EV,Nat.reduceEqDiff,↓reduceIte,he];try rfl
 clear he e
 intro e he
 refine Zav (t := false) he.2.2 (fun hf => by cases hf) (fun _ => ?_)
 refine Zaz ?_
 refine ZaZ (fun env υ => env 0 = ptr bb 0 /\ ∃ fs' pcs' pv', DAt υ bb S fs' pcs' size mb pv' /\ dat fs' = Zcu ((Zcy pcs : Int) - max keep 0).toNat (dat fs) pcs.reverse /\ But S σ υ) ?_ ?_
 ·repeat refine Zac ?_
  first|refine Zaa ?_|refine Zad ?_
  refine Zab (Zae rfl he.1 ?_)
  refine Zab ?_
  refine Zak (v := ptr bb 0) rfl rfl ?_
  refine Zab ?_
  refine Zag (b := bb) (o := 0) rfl Zbn rfl ?_
  refine Zab ?_
  refine Zao (vs := [ptr bb 0]) (by simp only [List.map_cons, List.map_nil, EV,Nat.reduceEqDiff,↓reduceIte,he];try rfl) ?_
  refine ZiE h hs hl fun σ1 hX1 => ?_
  refine Zab (Zae rfl he.2.1 ?_)
  refine Zab ?_
  refine Zpa (k := .i64) (k' := .i64) (a := keep) (b := 0) rfl rfl ?_
  rw [show (if keep < 0 then (0 : Int) else keep) = max keep 0 by split <;> omega]
  refine Zab ?_
  refine Zn6 (k := .i64) (a := (Zcy pcs : Int)) (b := max keep 0) rfl rfl (IntWalk.i64_in _ (by omega)) ?_
  refine Zab (Zae rfl (by simp only [EV,Nat.reduceEqDiff,↓reduceIte,he];try rfl) ?_)
  refine Zaf ?_
  have h1 := h.ext hX1
  apply ZaK 0 4
  iterate 2 ·simp only [EV,Nat.reduceEqDiff,↓reduceIte,he];try rfl
  clear he e
  intro e he
  refine ZaT ?_
  refine ZaV (fun μ env υ => ∃ (x : Int) (fs' : List Fl) (pcs' : List (Nat × Nat)) (pv' : AV), μ = x.toNat /\ (env 0 = ptr bb 0 /\ env 4 = .raw (.int .i64 x)) /\ x <= (Zcy pcs' : Int) /\ x <= 1000000000 /\ DAt υ bb S fs' pcs' size mb pv' /\ Wf fs' pcs' /\ pcs'.length <= 1000000000 /\ Zcy pcs' <= 1000000000 /\ (∀ f ∈ fs', f.d.length <= 1000000000) /\ Zcu x.toNat (dat fs') pcs'.reverse = Zcu ((Zcy pcs : Int) - max keep 0).toNat (dat fs) pcs.reverse /\ But S σ υ) ⟨_, _, fs, pcs, pv, rfl, he, by omega, by omega, h1, hwf, hl, hs, hfl, rfl, hX1.but⟩ ?_
  clear he e h h1 hwf hfl
  rintro _ e υ ⟨x, fs', pcs', pv', rfl, he, hx, hx2, h, hwf, hl', hs', hfl, hcr, hB⟩
  repeat refine Zac ?_
  first|refine Zaa ?_|refine Zad ?_
  refine Zab (Zae rfl he.2 ?_)
  refine Zab ?_
  refine ZfX (k := .i64) (a := x) (b := 0) rfl rfl ?_
  refine Zaf ?_
  apply ZaL 0 4 18
  iterate 3 ·simp only [EV,Nat.reduceEqDiff,↓reduceIte,he];try rfl
  clear he e
  intro e he
  refine Zav (t := decide (0 < x)) he.2.2 (fun ht => ?_) (fun ht => ?_)
  ·have hx0 : 0 < x := of_decide_eq_true ht
   obtain ⟨m, rfl⟩ : ∃ m : Nat, x = m := ⟨x.toNat, by omega⟩
   rw [Int.toNat_natCast] at hcr
   obtain ⟨init, p, rfl⟩ : ∃ init p, pcs' = init ++ [p] := by
    rcases List.eq_nil_or_concat pcs' with rfl | ⟨init, p, rfl⟩
    ·simp [Zcy] at hx; omega
    ·exact ⟨init, p, List.concat_eq_append⟩
   rw [List.length_append] at hl'
   have hll : (init ++ [p]).length = init.length + 1 := by simp
   have hp0 := hwf.pos p (by simp)
   have hpi : ∀ q ∈ init, 0 < q.2 := fun q hq => hwf.pos q (List.mem_append_left _ hq)
   have hps : p.2 <= 1000000000 := by
    rw [Zex] at hs'
    have : Zcy [p] = p.2 := by simp [Zcy]
    omega
   have hget : (init ++ [p])[init.length]'(by simp) = p := by simp
   obtain ⟨f0, hf0, hfb⟩ := h.inn p (by simp)
   refine Zaz ?_
   refine ZaT ?_
   refine Zb5 ?_
   refine ⟨[0, 1, 2, 3, 5, 6, 7, 8, 4, 9, 10, 11, 12, 13, 14, 15], [[], [0], [0, 1], [0, 1, 2], [0, 1, 2, 3], [], [5], [5, 6], [5, 6, 7], [5, 6, 7, 8], [5, 6, 7, 8, 9], [5, 6, 7, 8, 9, 10], [0, 1, 2, 3, 4, 5, 6, 7, 8, 9, 10, 11], [0, 1, 2, 3, 4, 5, 6, 7, 8, 9, 10, 11, 12], [], [0, 1, 2, 3, 4, 5, 6, 7, 8, 9, 10, 11, 12, 13, 14]], fun _ => True, [], [], [], by kernel_rfl, ?_⟩
   apply Zai
   case hi => simp only [HIX]; try rfl
   case hw => rfl
   case how => rfl
   refine Zae rfl he.1 ?_
   refine Zaq ?_
   apply Zai
   case hi => simp only [HIX]; try rfl
   case hw => rfl
   case how => rfl
   refine Zak (v := ptr bb 0) (by simp only [EV,Nat.reduceEqDiff,↓reduceIte,he];try rfl) rfl ?_
   refine Zaq ?_
   apply Zai
   case hi => simp only [HIX]; try rfl
   case hw => rfl
   case how => rfl
   refine Zag (b := bb) (o := 0) (by simp only [EV,Nat.reduceEqDiff,↓reduceIte,he];try rfl) Zbn rfl ?_
   refine Zaq ?_
   apply Zai
   case hi => simp only [HIX]; try rfl
   case hw => rfl
   case how => rfl
   refine Zag (b := bb) (o := 0 + 0) (by simp only [EV,Nat.reduceEqDiff,↓reduceIte,he];try rfl) Zco rfl ?_
   refine Zaq ?_
   apply Zai
   case hi => simp only [HIX]; try rfl
   case hw => rfl
   case how => rfl
   refine Zae rfl he.1 ?_
   refine Zaq ?_
   apply Zai
   case hi => simp only [HIX]; try rfl
   case hw => rfl
   case how => rfl
   refine Zak (v := ptr bb 0) (by simp only [EV,Nat.reduceEqDiff,↓reduceIte,he];try rfl) rfl ?_
   refine Zaq ?_
   apply Zai
   case hi => simp only [HIX]; try rfl
   case hw => rfl
   case how => rfl
   refine Zag (b := bb) (o := 0) (by simp only [EV,Nat.reduceEqDiff,↓reduceIte,he];try rfl) Zbn rfl ?_
   refine Zaq ?_
   apply Zai
   case hi => simp only [HIX]; try rfl
   case hw => rfl
   case how => rfl
   refine Zag (b := bb) (o := 0 + 0) (by simp only [EV,Nat.reduceEqDiff,↓reduceIte,he];try rfl) Zco rfl ?_
   refine Zaq ?_
   apply Zai
   case hi => simp only [HIX]; try rfl
   case hw => rfl
   case how => rfl
   refine Zar (b := bb) (o := 0 + 0 + 0) (r := pv') (by simp only [EV,Nat.reduceEqDiff,↓reduceIte,he];try rfl) h.obj Zdi Zcp rfl ?_
   refine Zaq ?_
   apply Zai
   case hi => simp only [HIX]; try rfl
   case hw => rfl
   case how => rfl
   refine Zar (b := bb) (o := 0 + 0 + 0) (r := pv') (by simp only [EV,Nat.reduceEqDiff,↓reduceIte,he];try rfl) h.obj Zdi Zcp rfl ?_
   refine Zaq ?_
   apply Zai
   case hi => simp only [HIX]; try rfl
   case hw => rfl
   case how => rfl
   refine ZbS (by simp only [EV,Nat.reduceEqDiff,↓reduceIte,he];try rfl) h.pc rfl ZbW ?_
   refine Zaq ?_
   apply Zai
   case hi => simp only [HIX]; try rfl
   case hw => rfl
   case how => rfl
   refine ZcZ ((init ++ [p]).length : Int) 1 (by simp only [EV,Nat.reduceEqDiff,↓reduceIte,he];try rfl) (by simp only [EV,Nat.reduceEqDiff,↓reduceIte,he];try rfl) (by omega) (by omega) ?_
   refine Zaq ?_
   rw [show (((init ++ [p]).length : Int) - 1) = (init.length : Int) by rw [hll]; omega]
   apply Zai
   case hi => simp only [HIX]; try rfl
   case hw => rfl
   case how => rfl
   refine Zbb (k := .i64) (j := init.length) (by simp only [EV,Nat.reduceEqDiff,↓reduceIte,he];try rfl) (by simp only [EV,Nat.reduceEqDiff,↓reduceIte,he];try rfl) ZbW Zbu h.pc (by omega) fun b hb => ?_
   refine Zaq ?_
   apply Zai
   case hi => simp only [HIX]; try rfl
   case hw => rfl
   case how => rfl
   refine Zjk (by simp only [EV,Nat.reduceEqDiff,↓reduceIte,he];try rfl) h.pc hb (by omega) Zfb Zbu ?_
   rw [ZhB (by omega), hget]
   refine Zaq ?_
   apply Zai
   case hi => simp only [HIX]; try rfl
   case hw => rfl
   case how => rfl
   refine Zd0 ZdE rfl fun b5 υ5 hn5 hu5 hb5 hub5 hX5 => ?_
   refine ⟨(fun hf => by cases hf), ?_⟩
   apply Zai
   case hi => simp only [HIX]; try rfl
   case hw => rfl
   case how => rfl
   refine Zd1 (b := b5) (o := 0) (u := pcV p) (cs' := [ptr p.1 0, .raw (.int .i64 (p.2 : Int))]) (by simp only [EV,Nat.reduceEqDiff,↓reduceIte,he];try rfl) (by simp only [EV,Nat.reduceEqDiff,↓reduceIte,he];try rfl) hb5 Zbu rfl rfl fun υ6 hb6 k6 => ?_
   refine ⟨(fun hf => by cases hf), ?_⟩
   refine Zcg ?_
   have hX6 : Ext υ υ6 := But.ext hX5 (fun g hg => by rw [hg]; exact hn5) k6
   have h6 := h.ext hX6
   apply ZaL 0 4 5
   iterate 3 ·simp only [EV,Nat.reduceEqDiff,↓reduceIte,he];try rfl
   clear he e
   intro e he
   repeat refine Zac ?_
   first|refine Zaa ?_|refine Zad ?_
   refine Zab (Zae rfl he.2.1 ?_)
   refine Zab ?_
   refine Zag (b := b5) (o := 0) he.2.2 ZdD rfl ?_
   refine Zab ?_
   refine Zar (b := b5) (o := 0 + 1) (r := .raw (.int .i64 (p.2 : Int))) rfl hb6 Zck Zcc rfl ?_
   refine Zab ?_
   refine ZiG m p.2 rfl rfl ?_
   refine Zab (Zae rfl (by simp only [EV,Nat.reduceEqDiff,↓reduceIte,he];try rfl) ?_)
   refine Zaf ?_
   apply ZaP 0 4 5 6
   iterate 4 ·simp only [EV,Nat.reduceEqDiff,↓reduceIte,he];try rfl
   clear he e
   intro e he
   refine Zb5 ?_
   refine ⟨[0, 1, 2, 3, 5, 4, 6], [[], [0], [0, 1], [], [3], [], [0, 1, 2, 3, 4, 5]], fun _ => True, [], [], [], by kernel_rfl, ?_⟩
   apply Zai
   case hi => simp only [HIX]; try rfl
   case hw => rfl
   case how => rfl
   refine Zae rfl he.1 ?_
   refine Zaq ?_
   apply Zai
   case hi => simp only [HIX]; try rfl
   case hw => rfl
   case how => rfl
   refine Zak (v := ptr bb 0) rfl rfl ?_
   refine Zaq ?_
   apply Zai
   case hi => simp only [HIX]; try rfl
   case hw => rfl
   case how => rfl
   refine Zag (b := bb) (o := 0) rfl Zbn rfl ?_
   refine Zaq ?_
   apply Zai
   case hi => simp only [HIX]; try rfl
   case hw => rfl
   case how => rfl
   refine Zag (b := b5) (o := 0) he.2.2.1 ZdD rfl ?_
   refine Zaq ?_
   apply Zai
   case hi => simp only [HIX]; try rfl
   case hw => rfl
   case how => rfl
   refine Zae rfl he.2.2.2 ?_
   refine Zaq ?_
   apply Zai
   case hi => simp only [HIX]; try rfl
   case hw => rfl
   case how => rfl
   refine Zar (b := b5) (o := 0 + 0) (r := ptr f0.b 0) rfl (hfb ▸ hb6) ZgB ZgA rfl ?_
   refine Zaq ?_
   have hsum0 : Zcj f0.b (init ++ [p]) = Zcj f0.b init + p.2 := by rw [Zed, Zee, if_pos hfb.symm]
   have hfit := hwf.fit f0 hf0
   have hmin : min m p.2 <= p.2 := Nat.min_le_right _ _
   apply Zai
   case hi => simp only [HIX]; try rfl
   case hw => rfl
   case how => rfl
   refine Zao (vs := [ptr bb 0, ptr f0.b 0, vI (min m p.2 : Nat)]) (by simp only [List.map_cons, List.map_nil, EV,Nat.reduceEqDiff,↓reduceIte,he];try rfl) ?_
   refine Zhc h6 (by rw [hll]; simp at hl'; omega) (fun q hq => ?_) hf0 (m := min m p.2) (by omega) (hfl f0 hf0) fun τ v2 pv2 d1 d2 => ?_
   ·rcases List.mem_append.1 hq with hq | hq
    ·have := ZhG hq
     rw [Zex] at hs'
     omega
    ·rw [List.mem_singleton.1 hq]; exact hps
   rw [Zne hfb.symm hmin, ZlV hpi] at d1
   refine ⟨(fun hf => by cases hf), ?_⟩
   refine Zcg ?_
   apply ZaP 0 4 5 6
   iterate 4 ·simp only [EV,Nat.reduceEqDiff,↓reduceIte,he];try rfl
   clear he e
   intro e he
   refine Zad ?_
   refine Zab (Zae rfl he.2.1 ?_)
   refine Zab (Zae rfl he.2.2.2 ?_)
   refine Zab ?_
   refine ZcZ (m : Int) ((min m p.2 : Nat) : Int) rfl rfl (by omega) (by omega) ?_
   refine Zab (Zae rfl (by simp only [EV,Nat.reduceEqDiff,↓reduceIte,he];try rfl) ?_)
   refine Zaf ?_
   have hm1 : ((m : Int) - ((min m p.2 : Nat) : Int)) = ((m - min m p.2 : Nat) : Int) := by omega
   have hsp : Zcy (init ++ [p]) = Zcy init + p.2 := by rw [Zex]; simp [Zcy]
   have hdat : dat (fs'.map (Zci f0.b v2 (f0.d.take (f0.d.length - min m p.2)))) = ZkW f0.b (min m p.2) (dat fs') := ZlU fun f hf hfb' => by rw [h.uniq hf hf0 hfb']
   have hcr2 : Zcu (m - min m p.2) (ZkW f0.b (min m p.2) (dat fs')) (init ++ if p.2 - min m p.2 = 0 then [] else [(p.1, p.2 - min m p.2)]).reverse = Zcu m (dat fs') (init ++ [p]).reverse := by
    have e4 : (init ++ [p]).reverse = p :: init.reverse := by simp
    rw [e4]
    show _ = Zcu (m - min m p.2) (ZkW p.1 (min m p.2) (dat fs')) init.reverse
    by_cases hz : p.2 - min m p.2 = 0
    ·rw [if_pos hz, List.append_nil, hfb]
    ·rw [if_neg hz, List.reverse_append]
     have : m - min m p.2 = 0 := by omega
     rw [this, Zew, Zew, hfb]
   rw [hm1]
   show ∃ n', n' < _ /\ _
   refine ⟨_, ?_, ((m - min m p.2 : Nat) : Int), _, _, pv2, rfl, ⟨by simp only [EV,Nat.reduceEqDiff,↓reduceIte,he];try rfl, by simp only [EV,Nat.reduceEqDiff,↓reduceIte,he];try rfl⟩, ?_, by omega, d1, ⟨fun q hq => ?_, fun f hf => ?_⟩, ?_, ?_, fun f hf => ?_, ?_, hB.trans (hX6.but.trans d2)⟩
   ·simp only [Int.toNat_natCast]
    omega
   ·rw [Zex]
    rw [hsp] at hx
    by_cases hz : p.2 - min m p.2 = 0
    ·rw [if_pos hz]; simp [Zcy] at hx ⊢; omega
    ·omega
   ·rcases List.mem_append.1 hq with hq | hq
    ·exact hpi q hq
    ·split at hq
     ·cases hq
     ·rw [List.mem_singleton.1 hq]
      show 0 < p.2 - min m p.2
      omega
   ·obtain ⟨g, hg, rfl⟩ := List.mem_map.1 hf
    rw [ZdH, Zed]
    have hgf := hwf.fit g hg
    rw [Zed, Zee] at hgf
    by_cases hgb : g.b = f0.b
    ·unfold Zci
     rw [if_pos hgb]
     show _ <= (f0.d.take _).length
     rw [List.length_take]
     have : g = f0 := h.uniq hg hf0 hgb
     subst this
     rw [if_pos hfb.symm] at hgf
     split
     ·rw [ZeM]; omega
     ·rw [Zee, if_pos hfb.symm]; dsimp only; omega
    ·unfold Zci
     rw [if_neg hgb]
     rw [if_neg (fun e => hgb (by rw [<- e, hfb]))] at hgf
     split
     ·rw [ZeM]; omega
     ·rw [Zee, if_neg (fun e => hgb (by rw [<- e, hfb]))]; exact hgf
   ·rw [List.length_append]
    simp at hl'
    split <;> simp <;> omega
   ·rw [Zex]
    split
    ·rw [Znd]; omega
    ·rw [Zj0]; dsimp only; omega
   ·obtain ⟨g, hg, rfl⟩ := List.mem_map.1 hf
    have := hfl g hg
    unfold Zci
    split
    ·show (f0.d.take _).length <= _
     rw [List.length_take]
     have := hfl f0 hf0
     omega
    ·exact this
   ·rw [hdat, Int.toNat_natCast, <- hcr, <- hcr2]
  ·have hx0 : ¬ 0 < x := of_decide_eq_false ht
   refine Zbe ?_
   refine ⟨rfl, by simp only [EV,Nat.reduceEqDiff,↓reduceIte,he];try rfl, fs', pcs', pv', h, ?_, hB⟩
   rw [<- hcr, show x.toNat = 0 by omega, Zew]
 clear he e h hwf hfl
 rintro e υ ⟨he, fs', pcs', pv', h, hdat, hB⟩
 refine Zad ?_
 refine Zab (Zae rfl he ?_)
 refine Zab ?_
 refine Zak (v := ptr bb 0) rfl rfl ?_
 refine Zab ?_
 refine Zag (b := bb) (o := 0) rfl Zbn rfl ?_
 refine Zab ?_
 refine Zag (b := bb) (o := 0 + 0) rfl Zco rfl ?_
 refine Zab ?_
 refine ZbQ (b := bb) (o := 0 + 0 + 0) (v := .lst none 0 0 []) rfl rfl h.obj Zcp ⟨rfl, rfl, rfl⟩ (Nat.zero_lt_succ _) fun τ hb k => ?_
 refine Zaf ?_
 refine ⟨_, Zce rfl, hK τ fs' ((h.setP (pcs' := []) (k.sub fun c hc => .inl hc) hb ⟨by simp [pcC], by simp [pcC], .inl ⟨.inl rfl, rfl⟩⟩ fun p hp => by cases hp).mono fun c hc => ?_) hdat (hB.trans (k.sub fun c hc => by rw [hc]; exact h.own.1))⟩
 rcases hc with hc | hc
 ·exact hc
 ·cases hc
end
end Go.Proofs.Ytinpiaibhjmfaaa
