/- XRdf, XRdg, XRdh in one. -/
import Derived.Test.YtinpiaibhjmfaaaMk
namespace Go.Proofs.Ytinpiaibhjmfaaa
open Go.RowKit
set_option maxRecDepth 100000
set_option linter.unusedVariables false
set_option linter.unusedSimpArgs false
theorem Zdl {l : List Rw} (hn : (l.map (·.nm)).Nodup) {i : Nat} (hi : i < l.length) : l.take i ++ l.drop (i + 1) = l.filter fun r => decide (r.nm ≠ l[i].nm) := by
 generalize hk : l[i] = r0
 conv => rhs; rw [<- List.take_append_drop i l, List.filter_append, List.drop_eq_getElem_cons hi]
 have hnn := hn
 rw [<- List.take_append_drop i l, List.map_append, List.drop_eq_getElem_cons hi, List.map_cons, List.nodup_append, List.nodup_cons] at hnn
 rw [hk] at hnn
 rw [List.filter_cons, if_neg (by simp [hk])]
 congr 1
 ·refine (List.filter_eq_self.2 fun r hr => ?_).symm
  simp only [ne_eq, decide_not, Bool.not_eq_eq_eq_not, Bool.not_true, decide_eq_false_iff_not]
  intro e
  exact hnn.2.2 r.nm (List.mem_map.2 ⟨r, hr, rfl⟩) r0.nm List.mem_cons_self e
 ·refine (List.filter_eq_self.2 fun r hr => ?_).symm
  simp only [ne_eq, decide_not, Bool.not_eq_eq_eq_not, Bool.not_true, decide_eq_false_iff_not]
  intro e
  exact hnn.2.1.1 (List.mem_map.2 ⟨r, hr, e⟩)
abbrev noN (k : List UInt8) (l : List Rw) : List Rw := l.filter fun r => decide (r.nm ≠ k)
abbrev noP (k : List UInt8) (ps : PL) : PL := ps.filter fun p => decide (p.1 ≠ k)
def ZdW (ks : List (List UInt8)) : List (List UInt8) -> PL -> PL × Nat
 | [], ps => (ps, 0)
 | n :: ns, ps => if n ∈ ks then ZdW ks ns (noP n ps) else (ps, 6)
def Zei : List (List UInt8) -> List Rw -> PL -> List Rw × PL × Nat
 | [], l, ps => (l, ps, 0)
 | n :: ns, l, ps => if n ∈ l.map (·.nm) then Zei ns (noN n l) (noP n ps) else (l, ps, 6)
theorem ZgO (ks : List (List UInt8)) (n : List UInt8) (ns : List (List UInt8)) (ps : PL) : ZdW ks (n :: ns) ps = if n ∈ ks then ZdW ks ns (noP n ps) else (ps, 6) := rfl
theorem Zhh (n : List UInt8) (ns : List (List UInt8)) (l : List Rw) (ps : PL) : Zei (n :: ns) l ps = if n ∈ l.map (·.nm) then Zei ns (noN n l) (noP n ps) else (l, ps, 6) := rfl
section
variable {σ τ : St} {rb : Nat} {S : Nat -> Prop} {l : List Rw} {ps : PL} {size : Int} {fv pv : AV} {K : AV -> St -> Prop}
theorem newS {S1 S2 : Nat -> Prop} (hB : But S σ τ) (h1 : ∀ c, S1 c -> S c \/ Za0 σ c) (h2 : ∀ c, S2 c -> S1 c \/ Za0 τ c) : ∀ c, S2 c -> S c \/ Za0 σ c := fun c hc => by
 rcases h2 c hc with q | q
 ·exact h1 c q
 ·exact ZcB hB q
theorem ZfV {S1 : Nat -> Prop} {υ : St} (hB : But S σ τ) (h1 : ∀ c, S1 c -> S c \/ Za0 σ c) (k : But S1 τ υ) : But S σ υ := hB.ext2 (T := S1) (fun c hc => (h1 c hc).imp id fun q => q.1) k
theorem Znn (h : RAt σ rb S l ps size fv pv) (hl : l.length <= 10000000) (hp : ps.length <= 10000000) {v : AV} {ns : List (List UInt8)} (hN : Zc6 σ v ns) (hNS : ∀ c, hbk v = some c -> ¬ S c) (hnl : ns.length <= 1000000000)
 (hK : ∀ τ S' pv', RAt τ rb S' l (ZdW (l.map (·.nm)) ns ps).1 size fv pv' -> But S σ τ -> (∀ c, S c -> S' c) -> (∀ c, S' c -> S c \/ Za0 σ c) -> K (vI (ZdW (l.map (·.nm)) ns ps).2) τ) : Zat Try.prog 48 [ptr rb 0, v] σ K := by
 refine Zam Zas Try.func48 rfl rfl rfl (Nat.le_of_ble_eq_true rfl) ?_
 refine ZaK 0 1 (v0 := ptr rb 0) (v1 := v) rfl rfl ?_
 intro e he
 repeat refine Zac ?_
 first|refine Zaa ?_|refine Zad ?_
 refine Zab (Zae rfl (by simp only [EV,Nat.reduceEqDiff,↓reduceIte,he];try rfl) ?_)
 refine Zaf ?_
 apply ZaK 0 1
 iterate 2 ·simp only [EV,Nat.reduceEqDiff,↓reduceIte,he];try rfl
 clear he e
 intro e he
 repeat refine Zac ?_
 first|refine Zaa ?_|refine Zad ?_
 refine Zab (Zae rfl (by simp only [EV,Nat.reduceEqDiff,↓reduceIte,he];try rfl) ?_)
 refine Zaf ?_
 apply ZaL 0 1 5
 iterate 3 ·simp only [EV,Nat.reduceEqDiff,↓reduceIte,he];try rfl
 clear he e
 intro e he
 have hfin : ∀ (a : Nat) τ, (∃ S' pv', RAt τ rb S' l (ZdW (l.map (·.nm)) ns ps).1 size fv pv' /\ But S σ τ /\ (∀ c, S c -> S' c) /\ (∀ c, S' c -> S c \/ Za0 σ c)) -> a = (ZdW (l.map (·.nm)) ns ps).2 -> K (vI a) τ := fun a τ ⟨S', pv', q1, q2, q3, q4⟩ e => by
  rw [e]; exact hK τ S' pv' q1 q2 q3 q4
 refine ZaD ?_
 refine ZaV (fun μ env υ => ∃ (i : Nat), ∃ S' ps' pv', μ = ns.length - i /\ i <= ns.length /\ (env 0 = ptr rb 0 /\ env 1 = v /\ env 5 = vI i) /\ RAt υ rb S' l ps' size fv pv' /\ ps'.length <= ps.length /\ ZdW (l.map (·.nm)) (ns.drop i) ps' = ZdW (l.map (·.nm)) ns ps /\ But S σ υ /\ (∀ c, S c -> S' c) /\ (∀ c, S' c -> S c \/ Za0 σ c)) ⟨_, 0, S, ps, pv, rfl, Nat.zero_le _, he, h, Nat.le_refl _, rfl, .refl _ _, fun c hc => hc, fun c hc => .inl hc⟩ ?_
 clear he e
 rintro _ e υ ⟨i, S', ps', pv', rfl, hi, he, h1, hpl, hD, hB, hS1, hS2⟩
 have hN1 : Zc6 υ v ns := hN.but hB hNS
 obtain ⟨A, c, hv⟩ := hN1.val
 repeat refine Zac ?_
 first|refine Zaa ?_|refine Zad ?_
 refine Zab (Zae rfl he.2.2 ?_)
 refine Zab (Zae rfl he.2.1 ?_)
 refine Zab ?_
 refine Zcz (n := ns.length) (c := c) (A := A) rfl hv rfl ZaE ?_
 refine Zab ?_
 refine Zbs i ns.length rfl rfl ?_
 refine Zaf ?_
 apply ZaP 0 1 5 9
 iterate 4 ·simp only [EV,Nat.reduceEqDiff,↓reduceIte,he];try rfl
 clear he e
 intro e he
 refine Zav (t := decide (i < ns.length)) he.2.2.2 (fun ht => ?_) (fun ht => ?_)
 ·have hlt : i < ns.length := of_decide_eq_true ht
  rw [List.drop_eq_getElem_cons hlt, ZgO] at hD
  refine Zaz ?_
  refine ZaD ?_
  repeat refine Zac ?_
  first|refine Zaa ?_|refine Zad ?_
  refine Zab (Zae rfl he.1 ?_)
  refine Zab (Zae rfl he.2.1 ?_)
  refine Zab (Zae rfl he.2.2.1 ?_)
  refine Zhd (v := v) hN1 hlt rfl rfl fun u => ?_
  refine Zab ?_
  refine Zao (vs := [ptr rb 0, .raw (sV ns[i])]) (by simp only [List.map_cons, List.map_nil, EV,Nat.reduceEqDiff,↓reduceIte,he];try rfl) ?_
  refine ZhT h1 (by omega) (fun j hj hn => ?_) fun hno => ?_
  ·have hmem : ns[i] ∈ l.map (·.nm) := List.mem_map.2 ⟨l[j], List.getElem_mem hj, hn⟩
   rw [if_pos hmem] at hD
   refine Zab ?_
   refine ZeH (k := .i64) (a := (j : Int)) (b := 0) rfl rfl ?_
   rw [decide_eq_false (by omega : ¬ (j : Int) < 0)]
   refine Zaf ?_
   apply ZaP 0 1 5 18
   iterate 4 ·simp only [EV,Nat.reduceEqDiff,↓reduceIte,he];try rfl
   clear he e
   intro e he
   refine Zav (t := false) he.2.2.2 (fun hf => by cases hf) (fun _ => ?_)
   refine Zaz ?_
   refine Zad ?_
   refine Zab (Zae rfl he.1 ?_)
   refine Zab (Zae rfl he.2.1 ?_)
   refine Zab (Zae rfl he.2.2.1 ?_)
   refine Zhd (v := v) hN1 hlt rfl rfl fun u => ?_
   refine Zab ?_
   refine Zao (vs := [ptr rb 0, .raw (sV ns[i])]) (by simp only [List.map_cons, List.map_nil, EV,Nat.reduceEqDiff,↓reduceIte,he];try rfl) ?_
   refine Zkf h1 (by omega) fun υ2 S2 pv2 h2 hB2 hS21 hS22 => ?_
   refine Zaf ?_
   show Zay _ _ _ _ _ _
   apply ZaL 0 1 5
   iterate 3 ·simp only [EV,Nat.reduceEqDiff,↓reduceIte,he];try rfl
   clear he e
   intro e he
   refine Zad ?_
   refine Zab (Zae rfl he.2.2 ?_)
   refine Zab ?_
   refine ZaU i 1 rfl rfl (by omega) ?_
   refine Zab (Zae rfl (by simp only [EV,Nat.reduceEqDiff,↓reduceIte,he];try rfl) ?_)
   refine Zaf ?_
   show ∃ n', n' < _ /\ _
   exact ⟨_, (by omega : ns.length - (i + 1) < ns.length - i), i + 1, S2, _, pv2, rfl, hlt, ⟨by simp only [EV,Nat.reduceEqDiff,↓reduceIte,he];try rfl, by simp only [EV,Nat.reduceEqDiff,↓reduceIte,he];try rfl, by simp only [EV,Nat.reduceEqDiff,↓reduceIte,he];try rfl⟩, h2, Nat.le_trans (List.length_filter_le _ _) hpl, hD, ZfV hB hS2 hB2, fun c hc => hS21 c (hS1 c hc), newS hB hS2 hS22⟩
  ·have hmem : ¬ ns[i] ∈ l.map (·.nm) := fun q => by
    obtain ⟨r, hr, e⟩ := List.mem_map.1 q
    exact hno r hr e
   rw [if_neg hmem] at hD
   refine Zab ?_
   refine ZeH (k := .i64) (a := -1) (b := 0) rfl rfl ?_
   refine Zaf ?_
   apply ZaP 0 1 5 18
   iterate 4 ·simp only [EV,Nat.reduceEqDiff,↓reduceIte,he];try rfl
   clear he e
   intro e he
   refine Zav (t := true) he.2.2.2 (fun _ => ?_) (fun hf => by cases hf)
   repeat refine Zac ?_
   first|refine Zaa ?_|refine Zad ?_
   refine Zab (Zae rfl (by simp only [EV,Nat.reduceEqDiff,↓reduceIte,he];try rfl) ?_)
   refine Zaf ?_
   refine Zcw ?_
   show ∃ r, Zaj _ _ _ _ r /\ _
   exact ⟨_, Zal rfl rfl, hfin 6 υ ⟨S', pv', by rw [<- hD]; exact h1, hB, hS1, hS2⟩ (by rw [<- hD])⟩
 ·have hke : i = ns.length := by have := of_decide_eq_false ht; omega
  rw [List.drop_eq_nil_of_le (by omega)] at hD
  refine Zbe ?_
  show Zay _ _ _ _ _ _
  repeat refine Zac ?_
  first|refine Zaa ?_|refine Zad ?_
  refine Zab (Zae rfl (by simp only [EV,Nat.reduceEqDiff,↓reduceIte,he];try rfl) ?_)
  refine Zaf ?_
  refine Zax ?_
  show ∃ r, Zaj _ _ _ _ r /\ _
  exact ⟨_, Zal rfl rfl, hfin 0 υ ⟨S', pv', by rw [<- hD]; exact h1, hB, hS1, hS2⟩ (by rw [<- hD]; rfl)⟩
theorem ZoD (h : RAt σ rb S l ps size fv pv) (hl : l.length <= 10000000) (hp : ps.length <= 10000000) {v : AV} {ns : List (List UInt8)} (hN : Zc6 σ v ns) (hNS : ∀ c, hbk v = some c -> ¬ S c) (hnl : ns.length <= 1000000000)
 (hK : ∀ τ S' fv' pv', RAt τ rb S' (Zei ns l ps).1 (Zei ns l ps).2.1 size fv' pv' -> But S σ τ -> (∀ c, S c -> S' c) -> (∀ c, S' c -> S c \/ Za0 σ c) -> K (vI (Zei ns l ps).2.2) τ) : Zat Try.prog 51 [ptr rb 0, v] σ K := by
 refine Zam Zas Try.func51 rfl rfl rfl (Nat.le_of_ble_eq_true rfl) ?_
 refine ZaK 0 1 (v0 := ptr rb 0) (v1 := v) rfl rfl ?_
 intro e he
 repeat refine Zac ?_
 first|refine Zaa ?_|refine Zad ?_
 refine Zab (Zae rfl (by simp only [EV,Nat.reduceEqDiff,↓reduceIte,he];try rfl) ?_)
 refine Zaf ?_
 apply ZaK 0 1
 iterate 2 ·simp only [EV,Nat.reduceEqDiff,↓reduceIte,he];try rfl
 clear he e
 intro e he
 repeat refine Zac ?_
 first|refine Zaa ?_|refine Zad ?_
 refine Zab (Zae rfl (by simp only [EV,Nat.reduceEqDiff,↓reduceIte,he];try rfl) ?_)
 refine Zaf ?_
 apply ZaL 0 1 5
 iterate 3 ·simp only [EV,Nat.reduceEqDiff,↓reduceIte,he];try rfl
 clear he e
 intro e he
 have hfin : ∀ (a : Nat) τ, (∃ S' fv' pv', RAt τ rb S' (Zei ns l ps).1 (Zei ns l ps).2.1 size fv' pv' /\ But S σ τ /\ (∀ c, S c -> S' c) /\ (∀ c, S' c -> S c \/ Za0 σ c)) -> a = (Zei ns l ps).2.2 -> K (vI a) τ := fun a τ ⟨S', fv', pv', q1, q2, q3, q4⟩ e => by
  rw [e]; exact hK τ S' fv' pv' q1 q2 q3 q4
 refine ZaD ?_
 refine ZaV (fun μ env υ => ∃ (i : Nat), ∃ S' l' ps' fv' pv', μ = ns.length - i /\ i <= ns.length /\ (env 0 = ptr rb 0 /\ env 1 = v /\ env 5 = vI i) /\ RAt υ rb S' l' ps' size fv' pv' /\ l'.length <= l.length /\ ps'.length <= ps.length /\ Zei (ns.drop i) l' ps' = Zei ns l ps /\ But S σ υ /\ (∀ c, S c -> S' c) /\ (∀ c, S' c -> S c \/ Za0 σ c)) ⟨_, 0, S, l, ps, fv, pv, rfl, Nat.zero_le _, he, h, Nat.le_refl _, Nat.le_refl _, rfl, .refl _ _, fun c hc => hc, fun c hc => .inl hc⟩ ?_
 clear he e
 rintro _ e υ ⟨i, S', l', ps', fv', pv', rfl, hi, he, h1, hll, hpl, hD, hB, hS1, hS2⟩
 have hN1 : Zc6 υ v ns := hN.but hB hNS
 obtain ⟨A, c, hv⟩ := hN1.val
 repeat refine Zac ?_
 first|refine Zaa ?_|refine Zad ?_
 refine Zab (Zae rfl he.2.2 ?_)
 refine Zab (Zae rfl he.2.1 ?_)
 refine Zab ?_
 refine Zcz (n := ns.length) (c := c) (A := A) rfl hv rfl ZaE ?_
 refine Zab ?_
 refine Zbs i ns.length rfl rfl ?_
 refine Zaf ?_
 apply ZaP 0 1 5 9
 iterate 4 ·simp only [EV,Nat.reduceEqDiff,↓reduceIte,he];try rfl
 clear he e
 intro e he
 refine Zav (t := decide (i < ns.length)) he.2.2.2 (fun ht => ?_) (fun ht => ?_)
 ·have hlt : i < ns.length := of_decide_eq_true ht
  rw [List.drop_eq_getElem_cons hlt, Zhh] at hD
  refine Zaz ?_
  refine ZaD ?_
  repeat refine Zac ?_
  first|refine Zaa ?_|refine Zad ?_
  refine Zab (Zae rfl he.1 ?_)
  refine Zab (Zae rfl he.2.1 ?_)
  refine Zab (Zae rfl he.2.2.1 ?_)
  refine Zhd (v := v) hN1 hlt rfl rfl fun u => ?_
  refine Zab ?_
  refine Zao (vs := [ptr rb 0, .raw (sV ns[i])]) (by simp only [List.map_cons, List.map_nil, EV,Nat.reduceEqDiff,↓reduceIte,he];try rfl) ?_
  refine ZhT h1 (by omega) (fun j hj hn => ?_) fun hno => ?_
  ·have hmem : ns[i] ∈ l'.map (·.nm) := List.mem_map.2 ⟨l'[j], List.getElem_mem hj, hn⟩
   rw [if_pos hmem] at hD
   refine Zab ?_
   refine ZeH (k := .i64) (a := (j : Int)) (b := 0) rfl rfl ?_
   rw [decide_eq_false (by omega : ¬ (j : Int) < 0)]
   refine Zaf ?_
   apply ZaP 0 1 5 18
   iterate 4 ·simp only [EV,Nat.reduceEqDiff,↓reduceIte,he];try rfl
   clear he e
   intro e he
   refine Zav (t := false) he.2.2.2 (fun hf => by cases hf) (fun _ => ?_)
   refine Zaz ?_
   refine Zad ?_
   refine Zab (Zae rfl he.1 ?_)
   refine Zab (Zae rfl he.2.1 ?_)
   refine Zab (Zae rfl he.2.2.1 ?_)
   refine Zhd (v := v) hN1 hlt rfl rfl fun u => ?_
   refine Zab ?_
   refine Zao (vs := [ptr rb 0, .raw (sV ns[i])]) (by simp only [List.map_cons, List.map_nil, EV,Nat.reduceEqDiff,↓reduceIte,he];try rfl) ?_
   refine ZgN h1 (by omega) (by omega) hj hn fun υ2 S2 fv2 pv2 h2 hB2 hS21 hS22 => ?_
   rw [Zdl h1.nn hj, hn] at h2
   refine Zaf ?_
   show Zay _ _ _ _ _ _
   apply ZaL 0 1 5
   iterate 3 ·simp only [EV,Nat.reduceEqDiff,↓reduceIte,he];try rfl
   clear he e
   intro e he
   refine Zad ?_
   refine Zab (Zae rfl he.2.2 ?_)
   refine Zab ?_
   refine ZaU i 1 rfl rfl (by omega) ?_
   refine Zab (Zae rfl (by simp only [EV,Nat.reduceEqDiff,↓reduceIte,he];try rfl) ?_)
   refine Zaf ?_
   show ∃ n', n' < _ /\ _
   exact ⟨_, (by omega : ns.length - (i + 1) < ns.length - i), i + 1, S2, _, _, fv2, pv2, rfl, hlt, ⟨by simp only [EV,Nat.reduceEqDiff,↓reduceIte,he];try rfl, by simp only [EV,Nat.reduceEqDiff,↓reduceIte,he];try rfl, by simp only [EV,Nat.reduceEqDiff,↓reduceIte,he];try rfl⟩, h2, Nat.le_trans (List.length_filter_le _ _) hll, Nat.le_trans (List.length_filter_le _ _) hpl, hD, ZfV hB hS2 hB2, fun c hc => hS21 c (hS1 c hc), newS hB hS2 hS22⟩
  ·have hmem : ¬ ns[i] ∈ l'.map (·.nm) := fun q => by
    obtain ⟨r, hr, e⟩ := List.mem_map.1 q
    exact hno r hr e
   rw [if_neg hmem] at hD
   refine Zab ?_
   refine ZeH (k := .i64) (a := -1) (b := 0) rfl rfl ?_
   refine Zaf ?_
   apply ZaP 0 1 5 18
   iterate 4 ·simp only [EV,Nat.reduceEqDiff,↓reduceIte,he];try rfl
   clear he e
   intro e he
   refine Zav (t := true) he.2.2.2 (fun _ => ?_) (fun hf => by cases hf)
   repeat refine Zac ?_
   first|refine Zaa ?_|refine Zad ?_
   refine Zab (Zae rfl (by simp only [EV,Nat.reduceEqDiff,↓reduceIte,he];try rfl) ?_)
   refine Zaf ?_
   refine Zcw ?_
   show ∃ r, Zaj _ _ _ _ r /\ _
   exact ⟨_, Zal rfl rfl, hfin 6 υ ⟨S', fv', pv', by rw [<- hD]; exact h1, hB, hS1, hS2⟩ (by rw [<- hD])⟩
 ·have hke : i = ns.length := by have := of_decide_eq_false ht; omega
  rw [List.drop_eq_nil_of_le (by omega)] at hD
  refine Zbe ?_
  show Zay _ _ _ _ _ _
  repeat refine Zac ?_
  first|refine Zaa ?_|refine Zad ?_
  refine Zab (Zae rfl (by simp only [EV,Nat.reduceEqDiff,↓reduceIte,he];try rfl) ?_)
  refine Zaf ?_
  refine Zax ?_
  show ∃ r, Zaj _ _ _ _ r /\ _
  exact ⟨_, Zal rfl rfl, hfin 0 υ ⟨S', fv', pv', by rw [<- hD]; exact h1, hB, hS1, hS2⟩ (by rw [<- hD]; rfl)⟩
theorem ZoE (h : RAt σ rb S l ps size fv pv) (hl : l.length <= 10000000) (hp : ps.length <= 10000000) (hs : ∀ p ∈ ps, p.2 <= 1000000000) (hfl : ∀ r ∈ l, r.d.length <= 1000000000) {k : List UInt8} {n : Int} (hn : -9223372036854775808 <= n /\ n <= 9223372036854775807)
 (hK6 : (∀ r ∈ l, r.nm ≠ k) -> K (vI 6) σ)
 (hK2 : ∀ r ∈ l, r.nm = k -> (n < 0 \/ (r.d.length : Int) < n) -> K (vI 2) σ)
 (hK0 : ∀ i (hi : i < l.length), l[i].nm = k -> 0 <= n -> n <= (l[i].d.length : Int) -> ∀ τ S' v' pv', RAt τ rb S' (l.set i ⟨k, v', l[i].d.take n.toNat⟩) ((Zmg k (l[i].d.length - n.toNat) ps).filter fun p => decide (0 < p.2)) size fv pv' -> But S σ τ -> (∀ c, S c -> S' c) -> (∀ c, S' c -> S c \/ Za0 σ c) -> K (vI 0) τ) :
 Zat Try.prog 49 [ptr rb 0, .raw (sV k), .raw (.int .i64 n)] σ K := by
 refine Zam Zas Try.func49 rfl rfl rfl (Nat.le_of_ble_eq_true rfl) ?_
 refine ZaL 0 1 2 (v0 := ptr rb 0) (v1 := .raw (sV k)) (v2 := .raw (.int .i64 n)) rfl rfl rfl ?_
 intro e he
 repeat refine Zac ?_
 first|refine Zaa ?_|refine Zad ?_
 refine Zab (Zae rfl (by simp only [EV,Nat.reduceEqDiff,↓reduceIte,he];try rfl) ?_)
 refine Zaf ?_
 apply ZaL 0 1 2
 iterate 3 ·simp only [EV,Nat.reduceEqDiff,↓reduceIte,he];try rfl
 clear he e
 intro e he
 repeat refine Zac ?_
 first|refine Zaa ?_|refine Zad ?_
 refine Zab (Zae rfl he.1 ?_)
 refine Zab (Zae rfl he.2.1 ?_)
 refine Zab ?_
 refine Zao (vs := [ptr rb 0, .raw (sV k)]) (by simp only [List.map_cons, List.map_nil, EV,Nat.reduceEqDiff,↓reduceIte,he];try rfl) ?_
 refine ZhT h (by omega) (fun i hi hnm => ?_) fun hno => ?_
 rotate_left
 ·refine Zab (Zae rfl (by simp only [EV,Nat.reduceEqDiff,↓reduceIte,he];try rfl) ?_)
  refine Zaf ?_
  apply ZaL 0 2 7
  iterate 3 ·simp only [EV,Nat.reduceEqDiff,↓reduceIte,he];try rfl
  clear he e
  intro e he
  repeat refine Zac ?_
  first|refine Zaa ?_|refine Zad ?_
  refine Zab (Zae rfl he.2.2 ?_)
  refine Zab ?_
  refine ZeH (k := .i64) (a := -1) (b := 0) rfl rfl ?_
  refine Zaf ?_
  apply ZaP 0 2 7 12
  iterate 4 ·simp only [EV,Nat.reduceEqDiff,↓reduceIte,he];try rfl
  clear he e
  intro e he
  refine Zav (t := true) he.2.2.2 (fun _ => ?_) (fun hf => by cases hf)
  repeat refine Zac ?_
  first|refine Zaa ?_|refine Zad ?_
  refine Zab (Zae rfl (by simp only [EV,Nat.reduceEqDiff,↓reduceIte,he];try rfl) ?_)
  refine Zaf ?_
  refine Zcw ?_
  show ∃ r, Zaj _ _ _ _ r /\ _
  exact ⟨_, Zal rfl rfl, hK6 hno⟩
 have hm := List.getElem_mem hi
 have hrow := h.row _ hm
 have hd := hfl _ hm
 refine Zab (Zae rfl (by simp only [EV,Nat.reduceEqDiff,↓reduceIte,he];try rfl) ?_)
 refine Zaf ?_
 apply ZaL 0 2 7
 iterate 3 ·simp only [EV,Nat.reduceEqDiff,↓reduceIte,he];try rfl
 clear he e
 intro e he
 repeat refine Zac ?_
 first|refine Zaa ?_|refine Zad ?_
 refine Zab (Zae rfl he.2.2 ?_)
 refine Zab ?_
 refine ZeH (k := .i64) (a := (i : Int)) (b := 0) rfl rfl ?_
 rw [decide_eq_false (by omega : ¬ (i : Int) < 0)]
 refine Zaf ?_
 apply ZaP 0 2 7 12
 iterate 4 ·simp only [EV,Nat.reduceEqDiff,↓reduceIte,he];try rfl
 clear he e
 intro e he
 refine Zav (t := false) he.2.2.2 (fun hf => by cases hf) (fun _ => ?_)
 refine Zaz ?_
 refine Zac ?_
 refine ZaZ (fun env υ => (env 0 = ptr rb 0 /\ env 2 = .raw (.int .i64 n) /\ env 7 = vI i /\ env 27 = vT (decide (n < 0 \/ (l[i].d.length : Int) < n))) /\ σ = υ) ?_ ?_
 ·refine Zad ?_
  refine Zab (Zae rfl he.2.1 ?_)
  refine Zab ?_
  refine ZeH (k := .i64) (a := n) (b := 0) rfl rfl ?_
  refine Zab (Zae rfl (by simp only [EV,Nat.reduceEqDiff,↓reduceIte,he];try rfl) ?_)
  by_cases hz : n < 0
  ·rw [decide_eq_true hz]
   refine Zab (Zan (ZaN rfl (by simp only [EV,Nat.reduceEqDiff,↓reduceIte,he];try rfl)) ?_)
   refine Zab (Zan (ZaN rfl (by simp only [EV,Nat.reduceEqDiff,↓reduceIte,he];try rfl)) ?_)
   refine Zab (Zan (ZaN rfl (by simp only [EV,Nat.reduceEqDiff,↓reduceIte,he];try rfl)) ?_)
   refine Zab (Zan (ZaN rfl (by simp only [EV,Nat.reduceEqDiff,↓reduceIte,he];try rfl)) ?_)
   refine Zab (Zan (ZaN rfl (by simp only [EV,Nat.reduceEqDiff,↓reduceIte,he];try rfl)) ?_)
   refine Zab (Zan (ZaN rfl (by simp only [EV,Nat.reduceEqDiff,↓reduceIte,he];try rfl)) ?_)
   refine Zab (Zan (ZaN rfl (by simp only [EV,Nat.reduceEqDiff,↓reduceIte,he];try rfl)) ?_)
   refine Zab (Zan (ZaN rfl (by simp only [EV,Nat.reduceEqDiff,↓reduceIte,he];try rfl)) ?_)
   refine Zab (Zan (ZaN rfl (by simp only [EV,Nat.reduceEqDiff,↓reduceIte,he];try rfl)) ?_)
   refine Zab (Zan (ZaN rfl (by simp only [EV,Nat.reduceEqDiff,↓reduceIte,he];try rfl)) ?_)
   refine Zab (Zan (ZaN rfl (by simp only [EV,Nat.reduceEqDiff,↓reduceIte,he];try rfl)) ?_)
   refine Zab ?_
   refine ZaG (v := vT true) rfl rfl ?_
   refine Zaf ?_
   refine ⟨rfl, ⟨by simp only [EV,Nat.reduceEqDiff,↓reduceIte,he];try rfl, by simp only [EV,Nat.reduceEqDiff,↓reduceIte,he];try rfl, by simp only [EV,Nat.reduceEqDiff,↓reduceIte,he];try rfl, ?_⟩, rfl⟩
   rw [decide_eq_true (.inl hz)]
   simp only [EV,Nat.reduceEqDiff,↓reduceIte,he];try rfl
  ·rw [decide_eq_false hz]
   refine Zab (Zah (ZaN rfl (by simp only [EV,Nat.reduceEqDiff,↓reduceIte,he];try rfl)) ?_)
   refine Zae rfl (v := .raw (.int .i64 n)) he.2.1 ?_
   refine Zab (Zah (ZaN rfl (by simp only [EV,Nat.reduceEqDiff,↓reduceIte,he];try rfl)) ?_)
   refine Zae rfl (v := ptr rb 0) he.1 ?_
   refine Zab (Zah (ZaN rfl (by simp only [EV,Nat.reduceEqDiff,↓reduceIte,he];try rfl)) ?_)
   refine Zak (v := ptr rb 0) rfl rfl ?_
   refine Zab (Zah (ZaN rfl (by simp only [EV,Nat.reduceEqDiff,↓reduceIte,he];try rfl)) ?_)
   refine Zag (b := rb) (o := 0) rfl ZaF rfl ?_
   refine Zab (Zah (ZaN rfl (by simp only [EV,Nat.reduceEqDiff,↓reduceIte,he];try rfl)) ?_)
   refine Zar (b := rb) (o := 0 + 1) (r := fv) rfl h.obj ZbX ZbF rfl ?_
   refine Zab (Zah (ZaN rfl (by simp only [EV,Nat.reduceEqDiff,↓reduceIte,he];try rfl)) ?_)
   refine Zae rfl (v := vI i) he.2.2.1 ?_
   refine Zab (Zah (ZaN rfl (by simp only [EV,Nat.reduceEqDiff,↓reduceIte,he];try rfl)) ?_)
   refine Zbb (k := .i64) (j := i) rfl rfl Zbh ZbA h.fl hi fun b hb => ?_
   refine Zab (Zah (ZaN rfl (by simp only [EV,Nat.reduceEqDiff,↓reduceIte,he];try rfl)) ?_)
   refine Zag (b := b) (o := i * 2) rfl Zcx rfl ?_
   refine Zab (Zah (ZaN rfl (by simp only [EV,Nat.reduceEqDiff,↓reduceIte,he];try rfl)) ?_)
   refine ZgC rfl h.fl hb (Zeh hi).2 ZbO ZaJ ?_
   refine Zab (Zah (ZaN rfl (by simp only [EV,Nat.reduceEqDiff,↓reduceIte,he];try rfl)) ?_)
   refine ZbS rfl hrow rfl Zaw ?_
   refine Zab (Zah (ZaN rfl (by simp only [EV,Nat.reduceEqDiff,↓reduceIte,he];try rfl)) ?_)
   refine ZfX (k := .i64) (a := n) (b := (l[i].d.length : Int)) rfl rfl ?_
   refine Zab ?_
   refine Za2 (v := vT (decide ((l[i].d.length : Int) < n))) rfl rfl ?_
   refine Zaf ?_
   refine ⟨rfl, ⟨by simp only [EV,Nat.reduceEqDiff,↓reduceIte,he];try rfl, by simp only [EV,Nat.reduceEqDiff,↓reduceIte,he];try rfl, by simp only [EV,Nat.reduceEqDiff,↓reduceIte,he];try rfl, ?_⟩, rfl⟩
   rw [show decide (n < 0 \/ (l[i].d.length : Int) < n) = decide ((l[i].d.length : Int) < n) by congr 1; exact propext ⟨fun q => q.elim (fun q => absurd q hz) id, .inr⟩]
   simp only [EV,Nat.reduceEqDiff,↓reduceIte,he];try rfl
 clear he e
 rintro e _ ⟨he, rfl⟩
 refine Zav (t := decide (n < 0 \/ (l[i].d.length : Int) < n)) he.2.2.2 (fun hf => ?_) (fun hf => ?_)
 ·repeat refine Zac ?_
  first|refine Zaa ?_|refine Zad ?_
  refine Zab (Zae rfl (by simp only [EV,Nat.reduceEqDiff,↓reduceIte,he];try rfl) ?_)
  refine Zaf ?_
  refine Zcw ?_
  show ∃ r, Zaj _ _ _ _ r /\ _
  exact ⟨_, Zal rfl rfl, hK2 _ hm hnm (of_decide_eq_true hf)⟩
 have hf := of_decide_eq_false hf
 have h0 : 0 <= n := by omega
 have h1 : n <= (l[i].d.length : Int) := by omega
 obtain ⟨m, rfl⟩ : ∃ m : Nat, n = m := ⟨n.toNat, by omega⟩
 have hK0 := hK0 i hi hnm h0 h1
 rw [Int.toNat_natCast] at hK0
 refine Zaz ?_
 repeat refine Zac ?_
 first|refine Zaa ?_|refine Zad ?_
 refine Zab (Zae rfl he.1 ?_)
 refine Zab (Zae rfl he.2.2.1 ?_)
 refine ZcX (b := rb) he.1 ZaF rfl h.obj rfl ZbX ZbF fun u1 u2 u3 => ?_
 refine Zab (Zae rfl he.2.2.1 ?_)
 refine Ze6 rfl rfl Zbh ZbA h.fl hi Zcx rfl (Zeh hi).2 ZbO ZaJ fun u1 u2 => ?_
 refine Zab ?_
 refine ZbS rfl hrow rfl Zaw ?_
 refine Zab (Zae rfl he.2.1 ?_)
 refine Zab ?_
 refine ZcZ (l[i].d.length : Int) (m : Int) rfl rfl (by omega) (by omega) ?_
 rw [show ((l[i].d.length : Int) - (m : Int)) = ((l[i].d.length - m : Nat) : Int) by omega]
 refine Zab ?_
 refine Zao (vs := [ptr rb 0, vI i, vI (l[i].d.length - m : Nat)]) (by simp only [List.map_cons, List.map_nil, EV,Nat.reduceEqDiff,↓reduceIte,he];try rfl) ?_
 refine Zki h (by omega) (by omega) hs hi (m := l[i].d.length - m) (Nat.sub_le _ _) hd fun τ S' v' pv' d1 d2 d3 d4 => ?_
 rw [hnm, show l[i].d.length - (l[i].d.length - m) = m by omega] at d1
 refine Zaf ?_
 apply Zbz 0
 ·simp only [EV,Nat.reduceEqDiff,↓reduceIte,he];try rfl
 clear he e
 intro e he
 repeat refine Zac ?_
 first|refine Zaa ?_|refine Zad ?_
 refine Zab (Zae rfl (by simp only [EV,Nat.reduceEqDiff,↓reduceIte,he];try rfl) ?_)
 refine Zaf ?_
 refine Zax ?_
 show ∃ r, Zaj _ _ _ _ r /\ _
 exact ⟨_, Zal rfl rfl, hK0 τ S' v' pv' d1 d2 d3 d4⟩
end
end Go.Proofs.Ytinpiaibhjmfaaa
namespace Go.Proofs.Ytinpiaibhjmfaaa
open Go.RowKit
set_option maxRecDepth 100000
set_option linter.unusedVariables false
set_option linter.unusedSimpArgs false
abbrev RD := List (List UInt8 × List UInt8)
def ZdO (l : List Rw) : RD := l.map fun r => (r.nm, r.d)
def ZnS (k : List UInt8) (m : Nat) (l : RD) : RD := l.map fun f => if f.1 = k then (f.1, f.2.take (f.2.length - m)) else f
theorem Zmj (k : List UInt8) (l : RD) : ZnS k 0 l = l := by
 unfold ZnS
 conv => rhs; rw [<- List.map_id l]
 refine List.map_congr_left fun f _ => ?_
 split
 ·rw [Nat.sub_zero, List.take_length]; rfl
 ·rfl
def ZdK : Nat -> RD -> PL -> RD
 | _, l, [] => l
 | L, l, p :: ps => ZdK (L - min L p.2) (ZnS p.1 (min L p.2) l) ps
theorem Zey : ∀ (ps : PL) (l : RD), ZdK 0 l ps = l
 | [], _ => rfl
 | p :: ps, l => by
  unfold ZdK
  rw [Nat.zero_min, Zmj, Nat.sub_zero]
  exact Zey ps l
theorem Zhi (k : List UInt8) : ∀ l, ZfL k 0 l = l
 | [] => rfl
 | p :: l => by
  rw [ZeW, Nat.zero_min, Nat.sub_zero, Nat.sub_zero, Zhi k l]
  split <;> rfl
theorem Zmk {k : List UInt8} {n : Nat} {init : PL} {p : List UInt8 × Nat} (hp : p.1 = k) (hn : n <= p.2) : Zmg k n (init ++ [p]) = init ++ [(p.1, p.2 - n)] := by
 unfold Zmg
 rw [List.reverse_append]
 show (ZfL k n (p :: init.reverse)).reverse = _
 rw [ZeW, if_pos hp, Nat.min_eq_left hn, Nat.sub_self, Zhi]
 simp
theorem ZkN {init : PL} {b : List UInt8} {k : Nat} (h : ∀ p ∈ init, 0 < p.2) : (init ++ [(b, k)]).filter (fun p => decide (0 < p.2)) = init ++ (if k = 0 then [] else [(b, k)]) := by
 rw [List.filter_append, List.filter_eq_self.2 fun p hp => by simp [h p hp]]
 congr 1
 by_cases hk : k = 0
 ·rw [if_pos hk]; simp [hk]
 ·rw [if_neg hk]; simp [Nat.pos_of_ne_zero hk]
def ZkO (k : List UInt8) (ps : PL) : Nat := ZdJ (ps.filter fun p => decide (p.1 = k))
theorem Zf9 (l m : PL) : ZdJ (l ++ m) = ZdJ l + ZdJ m := by simp [ZdJ]
theorem ZhX (p : List UInt8 × Nat) : ZdJ [p] = p.2 := by simp [ZdJ]
theorem Zga (k : List UInt8) (l m : PL) : ZkO k (l ++ m) = ZkO k l + ZkO k m := by simp [ZkO, ZdJ]
theorem Zgb (k : List UInt8) (p : List UInt8 × Nat) : ZkO k [p] = if p.1 = k then p.2 else 0 := by
 unfold ZkO
 by_cases h : p.1 = k <;> simp [h, ZdJ]
theorem Zkj (k : List UInt8) : ZkO k [] = 0 := rfl
theorem ZhY {p : List UInt8 × Nat} : ∀ {l : PL}, p ∈ l -> p.2 <= ZdJ l
 | q :: l, h => by
  have e : ZdJ (q :: l) = q.2 + ZdJ l := by simp [ZdJ]
  rcases List.mem_cons.1 h with rfl | h
  ·omega
  ·have := ZhY h; omega
structure RWf (l : List Rw) (ps : PL) : Prop where
 pos : ∀ p ∈ ps, 0 < p.2
 inn : ∀ p ∈ ps, ∃ r ∈ l, r.nm = p.1
 fit : ∀ r ∈ l, ZkO r.nm ps <= r.d.length
theorem Zno {l : List Rw} (hn : (l.map (·.nm)).Nodup) {i : Nat} (hi : i < l.length) {v : AV} {m : Nat} : ZdO (l.set i ⟨l[i].nm, v, l[i].d.take (l[i].d.length - m)⟩) = ZnS l[i].nm m (ZdO l) := by
 unfold ZdO ZnS
 rw [List.map_map]
 apply List.ext_getElem?
 intro j
 rw [List.getElem?_map, List.getElem?_map, List.getElem?_set]
 by_cases hij : i = j
 ·subst hij
  rw [if_pos rfl, if_pos hi, List.getElem?_eq_getElem hi]
  simp
 ·rw [if_neg hij]
  cases hj : l[j]? with
  | none => rfl
  | some r =>
   obtain ⟨hjl, hjr⟩ := List.getElem?_eq_some_iff.1 hj
   simp only [Option.map_some, Function.comp]
   rw [if_neg]
   intro e
   refine hij (Zft (hi := by rw [List.length_map]; exact hi) (hj := by rw [List.length_map]; exact hjl) hn ?_)
   rw [List.getElem_map, List.getElem_map, hjr, e]
theorem Zjy {l : List Rw} (hn : (l.map (·.nm)).Nodup) {i : Nat} (hi : i < l.length) {v : AV} {d : List UInt8} {r : Rw} (hr : r ∈ l.set i ⟨l[i].nm, v, d⟩) : r = ⟨l[i].nm, v, d⟩ \/ (r ∈ l /\ r.nm ≠ l[i].nm) := by
 obtain ⟨j, hj, rfl⟩ := List.getElem_of_mem hr
 rw [List.getElem_set]
 split
 ·exact .inl rfl
 ·rename_i hne
  rw [List.length_set] at hj
  refine .inr ⟨List.getElem_mem hj, fun e => hne ?_⟩
  refine (Zft (hi := by rw [List.length_map]; exact hj) (hj := by rw [List.length_map]; exact hi) hn ?_).symm
  rw [List.getElem_map, List.getElem_map]
  exact e
section
variable {σ τ : St} {rb : Nat} {S : Nat -> Prop} {l : List Rw} {ps : PL} {size : Int} {fv pv : AV} {K : AV -> St -> Prop}
set_option maxHeartbeats 2000000 in
theorem Zml (h : RAt σ rb S l ps size fv pv) (hl : l.length <= 10000000) (hp : ps.length <= 10000000) (hwf : RWf l ps) (hs : ZdJ ps <= 1000000000) (hfl : ∀ r ∈ l, r.d.length <= 1000000000) {keep : Int} (hk : -9223372036854775808 <= keep /\ keep <= 9223372036854775807)
 (hK : ∀ τ S' l', RAt τ rb S' l' [] size fv (.lst none 0 0 []) -> ZdO l' = ZdK ((ZdJ ps : Int) - max keep 0).toNat (ZdO l) ps.reverse -> But S σ τ -> (∀ c, S c -> S' c) -> (∀ c, S' c -> S c \/ Za0 σ c) -> K (.tup []) τ) : Zat Try.prog 52 [ptr rb 0, .raw (.int .i64 keep)] σ K := by
 refine Zam Zas Try.func52 rfl rfl rfl (Nat.le_of_ble_eq_true rfl) ?_
 refine ZaK 0 1 (v0 := ptr rb 0) (v1 := .raw (.int .i64 keep)) rfl rfl ?_
 intro e he
 repeat refine Zac ?_
 first|refine Zaa ?_|refine Zad ?_
 refine Zab (Zae rfl he.1 ?_)
 refine Zab ?_
 refine Zao (vs := [ptr rb 0]) (by simp only [List.map_cons, List.map_nil, EV,Nat.reduceEqDiff,↓reduceIte,he];try rfl) ?_
 refine ZiS h (by omega) hs ?_
 refine Zab (Zae rfl he.2 ?_)
 refine Zab ?_
 refine Zpa (k := .i64) (k' := .i64) (a := keep) (b := 0) rfl rfl ?_
 rw [show (if keep < 0 then (0 : Int) else keep) = max keep 0 by split <;> omega]
 refine Zab ?_
 refine Zn6 (k := .i64) (a := (ZdJ ps : Int)) (b := max keep 0) rfl rfl (IntWalk.i64_in _ (by omega)) ?_
 refine Zab (Zae rfl (by simp only [EV,Nat.reduceEqDiff,↓reduceIte,he];try rfl) ?_)
 refine Zaf ?_
 apply ZaK 0 4
 iterate 2 ·simp only [EV,Nat.reduceEqDiff,↓reduceIte,he];try rfl
 clear he e
 intro e he
 refine ZaZ (fun env υ => env 0 = ptr rb 0 /\ ∃ S' l' ps' pv', RAt υ rb S' l' ps' size fv pv' /\ ZdO l' = ZdK ((ZdJ ps : Int) - max keep 0).toNat (ZdO l) ps.reverse /\ But S σ υ /\ (∀ c, S c -> S' c) /\ (∀ c, S' c -> S c \/ Za0 σ c)) ?_ ?_
 ·refine ZaT ?_
  refine ZaV (fun μ env υ => ∃ (x : Int), ∃ S' l' ps' pv', μ = x.toNat /\ (env 0 = ptr rb 0 /\ env 4 = .raw (.int .i64 x)) /\ x <= (ZdJ ps' : Int) /\ x <= 1000000000 /\ RAt υ rb S' l' ps' size fv pv' /\ RWf l' ps' /\ l'.length = l.length /\ ps'.length <= ps.length /\ ZdJ ps' <= 1000000000 /\ (∀ r ∈ l', r.d.length <= 1000000000) /\ ZdK x.toNat (ZdO l') ps'.reverse = ZdK ((ZdJ ps : Int) - max keep 0).toNat (ZdO l) ps.reverse /\ But S σ υ /\ (∀ c, S c -> S' c) /\ (∀ c, S' c -> S c \/ Za0 σ c)) ⟨_, _, S, l, ps, pv, rfl, he, by omega, by omega, h, hwf, rfl, Nat.le_refl _, hs, hfl, rfl, .refl _ _, fun c hc => hc, fun c hc => .inl hc⟩ ?_
  clear he e h hwf hfl
  rintro _ e υ ⟨x, S', l', ps', pv', rfl, he, hx, hx2, h, hwf, hll', hl', hs', hfl, hcr, hB, hS1, hS2⟩
  repeat refine Zac ?_
  first|refine Zaa ?_|refine Zad ?_
  refine Zab (Zae rfl he.2 ?_)
  refine Zab ?_
  refine ZfX (k := .i64) (a := x) (b := 0) rfl rfl ?_
  refine Zaf ?_
  apply ZaL 0 4 13
  iterate 3 ·simp only [EV,Nat.reduceEqDiff,↓reduceIte,he];try rfl
  clear he e
  intro e he
  refine Zav (t := decide (0 < x)) he.2.2 (fun ht => ?_) (fun ht => ?_)
  ·have hx0 : 0 < x := of_decide_eq_true ht
   obtain ⟨m, rfl⟩ : ∃ m : Nat, x = m := ⟨x.toNat, by omega⟩
   rw [Int.toNat_natCast] at hcr
   obtain ⟨init, p, rfl⟩ : ∃ init p, ps' = init ++ [p] := by
    rcases List.eq_nil_or_concat ps' with rfl | ⟨init, p, rfl⟩
    ·simp [ZdJ] at hx; omega
    ·exact ⟨init, p, List.concat_eq_append⟩
   have hll : (init ++ [p]).length = init.length + 1 := by simp
   have hp0 := hwf.pos p (by simp)
   have hpi : ∀ q ∈ init, 0 < q.2 := fun q hq => hwf.pos q (List.mem_append_left _ hq)
   have hps : p.2 <= 1000000000 := by
    rw [Zf9, ZhX] at hs'
    omega
   have hget : (init ++ [p])[init.length]'(by simp) = p := by simp
   obtain ⟨r0, hr0, hrn⟩ := hwf.inn p (by simp)
   obtain ⟨i, hi, rfl⟩ := List.getElem_of_mem hr0
   refine Zaz ?_
   refine ZaT ?_
   refine Zb5 ?_
   refine ⟨[0, 1, 2, 4, 5, 6, 3, 7, 8, 9, 10, 11, 12, 13], [[], [0], [0, 1], [0, 1, 2], [], [4], [4, 5], [4, 5, 6], [4, 5, 6, 7], [4, 5, 6, 7, 8], [0, 1, 2, 3, 4, 5, 6, 7, 8, 9], [0, 1, 2, 3, 4, 5, 6, 7, 8, 9, 10], [], [0, 1, 2, 3, 4, 5, 6, 7, 8, 9, 10, 11, 12]], fun _ => True, [], [], [], by kernel_rfl, ?_⟩
   apply Zai
   case hi => simp only [HIX]; try rfl
   case hw => rfl
   case how => rfl
   refine Zae rfl he.1 ?_
   refine Zaq ?_
   apply Zai
   case hi => simp only [HIX]; try rfl
   case hw => rfl
   case how => rfl
   refine Zak (v := ptr rb 0) (by simp only [EV,Nat.reduceEqDiff,↓reduceIte,he];try rfl) rfl ?_
   refine Zaq ?_
   apply Zai
   case hi => simp only [HIX]; try rfl
   case hw => rfl
   case how => rfl
   refine Zag (b := rb) (o := 0) (by simp only [EV,Nat.reduceEqDiff,↓reduceIte,he];try rfl) ZaF rfl ?_
   refine Zaq ?_
   apply Zai
   case hi => simp only [HIX]; try rfl
   case hw => rfl
   case how => rfl
   refine Zae rfl he.1 ?_
   refine Zaq ?_
   apply Zai
   case hi => simp only [HIX]; try rfl
   case hw => rfl
   case how => rfl
   refine Zak (v := ptr rb 0) (by simp only [EV,Nat.reduceEqDiff,↓reduceIte,he];try rfl) rfl ?_
   refine Zaq ?_
   apply Zai
   case hi => simp only [HIX]; try rfl
   case hw => rfl
   case how => rfl
   refine Zag (b := rb) (o := 0) (by simp only [EV,Nat.reduceEqDiff,↓reduceIte,he];try rfl) ZaF rfl ?_
   refine Zaq ?_
   apply Zai
   case hi => simp only [HIX]; try rfl
   case hw => rfl
   case how => rfl
   refine Zar (b := rb) (o := 0 + 2) (r := pv') (by simp only [EV,Nat.reduceEqDiff,↓reduceIte,he];try rfl) h.obj Zca ZbR rfl ?_
   refine Zaq ?_
   apply Zai
   case hi => simp only [HIX]; try rfl
   case hw => rfl
   case how => rfl
   refine Zar (b := rb) (o := 0 + 2) (r := pv') (by simp only [EV,Nat.reduceEqDiff,↓reduceIte,he];try rfl) h.obj Zca ZbR rfl ?_
   refine Zaq ?_
   apply Zai
   case hi => simp only [HIX]; try rfl
   case hw => rfl
   case how => rfl
   refine ZbS (by simp only [EV,Nat.reduceEqDiff,↓reduceIte,he];try rfl) h.pc rfl ZbE ?_
   refine Zaq ?_
   apply Zai
   case hi => simp only [HIX]; try rfl
   case hw => rfl
   case how => rfl
   refine ZcZ ((init ++ [p]).length : Int) 1 (by simp only [EV,Nat.reduceEqDiff,↓reduceIte,he];try rfl) (by simp only [EV,Nat.reduceEqDiff,↓reduceIte,he];try rfl) (by omega) (by omega) ?_
   refine Zaq ?_
   rw [show (((init ++ [p]).length : Int) - 1) = (init.length : Int) by rw [hll]; omega]
   apply Zai
   case hi => simp only [HIX]; try rfl
   case hw => rfl
   case how => rfl
   refine Zbb (k := .i64) (j := init.length) (by simp only [EV,Nat.reduceEqDiff,↓reduceIte,he];try rfl) (by simp only [EV,Nat.reduceEqDiff,↓reduceIte,he];try rfl) ZbE Zby h.pc (by omega) fun b hb => ?_
   refine Zaq ?_
   apply Zai
   case hi => simp only [HIX]; try rfl
   case hw => rfl
   case how => rfl
   refine Zjk (by simp only [EV,Nat.reduceEqDiff,↓reduceIte,he];try rfl) h.pc hb (by omega) ZhR Zby ?_
   rw [Zjv (by omega), hget]
   refine Zaq ?_
   apply Zai
   case hi => simp only [HIX]; try rfl
   case hw => rfl
   case how => rfl
   refine Zd0 Zdc rfl fun b5 υ5 hn5 hu5 hb5 hub5 hX5 => ?_
   refine ⟨(fun hf => by cases hf), ?_⟩
   apply Zai
   case hi => simp only [HIX]; try rfl
   case hw => rfl
   case how => rfl
   refine Zd1 (b := b5) (o := 0) (u := .agg (PW p)) (cs' := PW p) (by simp only [EV,Nat.reduceEqDiff,↓reduceIte,he];try rfl) (by simp only [EV,Nat.reduceEqDiff,↓reduceIte,he];try rfl) hb5 Zby rfl rfl fun υ6 hb6 k6 => ?_
   refine ⟨(fun hf => by cases hf), ?_⟩
   refine Zcg ?_
   have hX6 : Ext υ υ6 := But.ext hX5 (fun g hg => by rw [hg]; exact hn5) k6
   have h6 := h.ext hX6
   apply ZaL 0 4 5
   iterate 3 ·simp only [EV,Nat.reduceEqDiff,↓reduceIte,he];try rfl
   clear he e
   intro e he
   repeat refine Zac ?_
   first|refine Zaa ?_|refine Zad ?_
   refine Zab (Zae rfl he.2.1 ?_)
   refine Zab ?_
   refine Zag (b := b5) (o := 0) he.2.2 Zc1 rfl ?_
   refine Zab ?_
   refine Zar (b := b5) (o := 0 + 1) (r := vI p.2) rfl hb6 Zck Zcc rfl ?_
   refine Zab ?_
   refine ZiG m p.2 rfl rfl ?_
   refine Zab (Zae rfl (by simp only [EV,Nat.reduceEqDiff,↓reduceIte,he];try rfl) ?_)
   refine Zaf ?_
   apply ZaP 0 4 5 6
   iterate 4 ·simp only [EV,Nat.reduceEqDiff,↓reduceIte,he];try rfl
   clear he e
   intro e he
   have hsum0 : ZkO l'[i].nm (init ++ [p]) = ZkO l'[i].nm init + p.2 := by rw [Zga, Zgb, if_pos hrn.symm]
   have hfit := hwf.fit _ hr0
   have hmin : min m p.2 <= p.2 := Nat.min_le_right _ _
   repeat refine Zac ?_
   first|refine Zaa ?_|refine Zad ?_
   refine Zab (Zae rfl he.1 ?_)
   refine Zab (Zae rfl he.1 ?_)
   refine Zab ?_
   refine Zag (b := b5) (o := 0) he.2.2.1 Zc1 rfl ?_
   refine Zab ?_
   refine Zar (b := b5) (o := 0 + 0) (r := .raw (sV p.1)) rfl hb6 Zb7 ZbJ rfl ?_
   refine Zab ?_
   refine Zao (vs := [ptr rb 0, .raw (sV p.1)]) (by simp only [List.map_cons, List.map_nil, EV,Nat.reduceEqDiff,↓reduceIte,he];try rfl) ?_
   refine ZhT h6 (by omega) (fun j hj hjn => ?_) fun hno => absurd hrn (hno _ hr0)
   have hij : j = i := Zft (hi := by rw [List.length_map]; exact hj) (hj := by rw [List.length_map]; exact hi) h6.nn (by rw [List.getElem_map, List.getElem_map, hjn, hrn])
   subst hij
   refine Zab (Zae rfl he.2.2.2 ?_)
   refine Zab ?_
   refine Zao (vs := [ptr rb 0, vI j, vI (min m p.2 : Nat)]) (by simp only [List.map_cons, List.map_nil, EV,Nat.reduceEqDiff,↓reduceIte,he];try rfl) ?_
   refine Zki h6 (by omega) (by omega) (fun q hq => ?_) hi (m := min m p.2) (by omega) (hfl _ hr0) fun τ S2 v2 pv2 d1 d2 d3 d4 => ?_
   ·have := ZhY hq
    omega
   rw [Zmk hrn.symm hmin, ZkN hpi] at d1
   refine Zaf ?_
   apply ZaL 0 4 6
   iterate 3 ·simp only [EV,Nat.reduceEqDiff,↓reduceIte,he];try rfl
   clear he e
   intro e he
   refine Zad ?_
   refine Zab (Zae rfl he.2.1 ?_)
   refine Zab (Zae rfl he.2.2 ?_)
   refine Zab ?_
   refine ZcZ (m : Int) ((min m p.2 : Nat) : Int) rfl rfl (by omega) (by omega) ?_
   refine Zab (Zae rfl (by simp only [EV,Nat.reduceEqDiff,↓reduceIte,he];try rfl) ?_)
   refine Zaf ?_
   have hm1 : ((m : Int) - ((min m p.2 : Nat) : Int)) = ((m - min m p.2 : Nat) : Int) := by omega
   have hsp : ZdJ (init ++ [p]) = ZdJ init + p.2 := by rw [Zf9, ZhX]
   have hdat := Zno h6.nn hi (v := v2) (m := min m p.2)
   have hcr2 : ZdK (m - min m p.2) (ZnS l'[j].nm (min m p.2) (ZdO l')) (init ++ if p.2 - min m p.2 = 0 then [] else [(p.1, p.2 - min m p.2)]).reverse = ZdK m (ZdO l') (init ++ [p]).reverse := by
    have e4 : (init ++ [p]).reverse = p :: init.reverse := by simp
    rw [e4]
    show _ = ZdK (m - min m p.2) (ZnS p.1 (min m p.2) (ZdO l')) init.reverse
    by_cases hz : p.2 - min m p.2 = 0
    ·rw [if_pos hz, List.append_nil, hrn]
    ·rw [if_neg hz, List.reverse_append]
     have : m - min m p.2 = 0 := by omega
     rw [this, Zey, Zey, hrn]
   have hBτ : But S' υ τ := hX6.but.trans d2
   have hS4 : ∀ c, S2 c -> S' c \/ Za0 υ c := fun c hc => (d4 c hc).imp id fun q => q.of hX6
   rw [hm1]
   show ∃ n', n' < _ /\ _
   refine ⟨_, ?_, ((m - min m p.2 : Nat) : Int), S2, _, _, pv2, rfl, ⟨by simp only [EV,Nat.reduceEqDiff,↓reduceIte,he];try rfl, by simp only [EV,Nat.reduceEqDiff,↓reduceIte,he];try rfl⟩, ?_, by omega, d1, ⟨fun q hq => ?_, fun q hq => ?_, fun r hr => ?_⟩, by rw [List.length_set]; exact hll', ?_, ?_, fun r hr => ?_, ?_, ZfV hB hS2 hBτ, fun c hc => d3 c (hS1 c hc), newS hB hS2 hS4⟩
   ·simp only [Int.toNat_natCast]
    omega
   ·rw [Zf9]
    rw [hsp] at hx
    by_cases hz : p.2 - min m p.2 = 0
    ·rw [if_pos hz]; simp [ZdJ] at hx ⊢; omega
    ·omega
   ·rcases List.mem_append.1 hq with hq | hq
    ·exact hpi q hq
    ·split at hq
     ·cases hq
     ·rw [List.mem_singleton.1 hq]
      show 0 < p.2 - min m p.2
      omega
   ·have hin : ∃ r ∈ l', r.nm = q.1 := by
     rcases List.mem_append.1 hq with hq | hq
     ·exact hwf.inn q (List.mem_append_left _ hq)
     ·split at hq
      ·cases hq
      ·rw [List.mem_singleton.1 hq]
       exact ⟨_, hr0, hrn⟩
    obtain ⟨r, hr, e⟩ := hin
    by_cases hrj : r.nm = l'[j].nm
    ·exact ⟨⟨l'[j].nm, v2, l'[j].d.take (l'[j].d.length - min m p.2)⟩, List.mem_set hi _, by rw [<- e, hrj]⟩
    ·refine ⟨r, ?_, e⟩
     obtain ⟨q', hq', rfl⟩ := List.getElem_of_mem hr
     have hne : j ≠ q' := fun e => hrj (by subst e; rfl)
     refine List.mem_of_getElem? (i := q') ?_
     rw [List.getElem?_set_ne hne, List.getElem?_eq_getElem hq']
   ·rcases Zjy h6.nn hi hr with rfl | ⟨hr, hne⟩
    ·show ZkO l'[j].nm _ <= (l'[j].d.take _).length
     rw [List.length_take, Zga]
     split
     ·rw [Zkj]; omega
     ·rw [Zgb, if_pos hrn.symm]; dsimp only; omega
    ·have hgf := hwf.fit r hr
     rw [Zga, Zgb, if_neg (fun e => hne (by rw [<- e, hrn]))] at hgf
     rw [Zga]
     split
     ·rw [Zkj]; omega
     ·rw [Zgb, if_neg (fun e => hne (by rw [<- e, hrn]))]; exact hgf
   ·rw [List.length_append] at hl' ⊢
    simp at hl'
    split <;> simp <;> omega
   ·rw [Zf9]
    rw [hsp] at hs'
    split
    ·show ZdJ init + 0 <= _
     omega
    ·rw [ZhX]; dsimp only; omega
   ·rcases Zjy h6.nn hi hr with rfl | ⟨hr, hne⟩
    ·show (l'[j].d.take _).length <= _
     rw [List.length_take]
     have := hfl _ hr0
     omega
    ·exact hfl r hr
   ·rw [hdat, Int.toNat_natCast, <- hcr, <- hcr2]
  ·have hx0 : ¬ 0 < x := of_decide_eq_false ht
   refine Zbe ?_
   refine ⟨rfl, by simp only [EV,Nat.reduceEqDiff,↓reduceIte,he];try rfl, S', l', ps', pv', h, ?_, hB, hS1, hS2⟩
   rw [<- hcr, show x.toNat = 0 by omega, Zey]
 clear he e h hwf hfl
 rintro e υ ⟨he, S', l', ps', pv', h, hdat, hB, hS1, hS2⟩
 refine Zad ?_
 refine Zab (Zae rfl he ?_)
 refine ZlD (b := rb) rfl ZaF rfl fun u1 => ?_
 refine Zab ?_
 refine ZbQ (b := rb) (o := 0 + 2) (v := .lst none 0 0 []) rfl rfl h.obj ZbR ⟨rfl, rfl, rfl⟩ (by simp) fun τ hb k => ?_
 refine Zaf ?_
 have h2 := h.setP (ps' := []) (k.sub fun c hc => .inl hc) hb ⟨by simp [rpC], by simp [rpC], .inl ⟨.inl rfl, rfl⟩⟩
 refine ⟨_, Zce rfl, hK τ _ l' h2 hdat (ZfV hB hS2 (k.sub fun c hc => by rw [hc]; exact h.own.1)) (fun c hc => .inl (hS1 c hc)) fun c hc => ?_⟩
 rcases hc with hc | hc
 ·exact hS2 c hc
 ·cases hc
end
end Go.Proofs.Ytinpiaibhjmfaaa
namespace Go.Proofs.Ytinpiaibhjmfaaa
open Go.RowKit
set_option maxRecDepth 100000
set_option linter.unusedVariables false
set_option linter.unusedSimpArgs false
def Zfu (fr to : List UInt8) (ps : PL) : PL := ps.map fun p => if p.1 = fr then (to, p.2) else p
section
variable {σ τ : St} {rb : Nat} {S : Nat -> Prop} {l : List Rw} {ps : PL} {size : Int} {fv pv : AV} {K : AV -> St -> Prop}
theorem ZpM {l : List Rw} {k : List UInt8} (h : ∃ r ∈ l, r.nm = k) : ∃ (i : Nat) (hi : i < l.length), l[i].nm = k := by
 obtain ⟨r, hr, e⟩ := h
 obtain ⟨i, hi, rfl⟩ := List.getElem_of_mem hr
 exact ⟨i, hi, e⟩
theorem Znp (hin : ∀ p ∈ ps, ∃ r ∈ l, r.nm = p.1) {k : List UInt8} (h : ∀ r ∈ l, r.nm ≠ k) : noP k ps = ps := List.filter_eq_self.2 fun p hp => by
 obtain ⟨r, hr, e⟩ := hin p hp
 have := h r hr
 rw [e] at this
 simp [this]
theorem Znq {k : List UInt8} (h : ∀ r ∈ l, r.nm ≠ k) : noN k l = l := List.filter_eq_self.2 fun r hr => by simp [h r hr]
set_option maxHeartbeats 4000000 in
theorem ZkP (h : RAt σ rb S l ps size fv pv) (hl : l.length <= 10000000) (hp : ps.length <= 10000000) (hfl : ∀ r ∈ l, r.d.length <= 1000000000) (hin : ∀ p ∈ ps, ∃ r ∈ l, r.nm = p.1) {fr to : List UInt8}
 (hK6 : (∀ r ∈ l, r.nm ≠ fr) -> K (vI 6) σ)
 (hK2 : (∃ r ∈ l, r.nm = fr) -> ¬ (to ≠ [] /\ to.length <= 40) -> ∀ τ, Ext σ τ -> K (vI 2) τ)
 (hKs : (∃ r ∈ l, r.nm = fr) -> fr = to -> (to ≠ [] /\ to.length <= 40) -> ∀ τ, Ext σ τ -> K (vI 0) τ)
 (hK0 : ∀ r ∈ l, r.nm = fr -> fr ≠ to -> (to ≠ [] /\ to.length <= 40) -> ∀ τ S' l1 i v' fv' pv', ZhW (noN fr (noN to l)) to l1 i -> RAt τ rb S' (l1.set i ⟨to, v', r.d⟩) (noP fr (Zfu fr to (noP to ps))) size fv' pv' -> But S σ τ -> (∀ c, S c -> S' c) -> (∀ c, S' c -> S c \/ Za0 σ c) -> K (vI 0) τ) :
 Zat Try.prog 50 [ptr rb 0, .raw (sV fr), .raw (sV to)] σ K := by
 refine Zam Zas Try.func50 rfl rfl rfl (Nat.le_of_ble_eq_true rfl) ?_
 refine ZaL 0 1 2 (v0 := ptr rb 0) (v1 := .raw (sV fr)) (v2 := .raw (sV to)) rfl rfl rfl ?_
 intro e he
 repeat refine Zac ?_
 first|refine Zaa ?_|refine Zad ?_
 refine Zab (Zae rfl (by simp only [EV,Nat.reduceEqDiff,↓reduceIte,he];try rfl) ?_)
 refine Zaf ?_
 apply ZaL 0 1 2
 iterate 3 ·simp only [EV,Nat.reduceEqDiff,↓reduceIte,he];try rfl
 clear he e
 intro e he
 repeat refine Zac ?_
 first|refine Zaa ?_|refine Zad ?_
 refine Zab (Zae rfl he.1 ?_)
 refine Zab (Zae rfl he.2.1 ?_)
 refine Zab ?_
 refine Zao (vs := [ptr rb 0, .raw (sV fr)]) (by simp only [List.map_cons, List.map_nil, EV,Nat.reduceEqDiff,↓reduceIte,he];try rfl) ?_
 refine ZhT h (by omega) (fun i hi hnm => ?_) fun hno => ?_
 rotate_left
 ·refine Zab (Zae rfl (by simp only [EV,Nat.reduceEqDiff,↓reduceIte,he];try rfl) ?_)
  refine Zaf ?_
  apply ZaP 0 1 2 7
  iterate 4 ·simp only [EV,Nat.reduceEqDiff,↓reduceIte,he];try rfl
  clear he e
  intro e he
  repeat refine Zac ?_
  first|refine Zaa ?_|refine Zad ?_
  refine Zab (Zae rfl he.2.2.2 ?_)
  refine Zab ?_
  refine ZeH (k := .i64) (a := -1) (b := 0) rfl rfl ?_
  refine Zaf ?_
  apply ZaP 0 1 2 16
  iterate 4 ·simp only [EV,Nat.reduceEqDiff,↓reduceIte,he];try rfl
  clear he e
  intro e he
  refine Zav (t := true) he.2.2.2 (fun _ => ?_) (fun hf => by cases hf)
  repeat refine Zac ?_
  first|refine Zaa ?_|refine Zad ?_
  refine Zab (Zae rfl (by simp only [EV,Nat.reduceEqDiff,↓reduceIte,he];try rfl) ?_)
  refine Zaf ?_
  refine Zcw ?_
  show ∃ r, Zaj _ _ _ _ r /\ _
  exact ⟨_, Zal rfl rfl, hK6 hno⟩
 have hmi := List.getElem_mem hi
 refine Zab (Zae rfl (by simp only [EV,Nat.reduceEqDiff,↓reduceIte,he];try rfl) ?_)
 refine Zaf ?_
 apply ZaP 0 1 2 7
 iterate 4 ·simp only [EV,Nat.reduceEqDiff,↓reduceIte,he];try rfl
 clear he e
 intro e he
 repeat refine Zac ?_
 first|refine Zaa ?_|refine Zad ?_
 refine Zab (Zae rfl he.2.2.2 ?_)
 refine Zab ?_
 refine ZeH (k := .i64) (a := (i : Int)) (b := 0) rfl rfl ?_
 rw [decide_eq_false (by omega : ¬ (i : Int) < 0)]
 refine Zaf ?_
 apply ZaP 0 1 2 16
 iterate 4 ·simp only [EV,Nat.reduceEqDiff,↓reduceIte,he];try rfl
 clear he e
 intro e he
 refine Zav (t := false) he.2.2.2 (fun hf => by cases hf) (fun _ => ?_)
 refine Zaz ?_
 repeat refine Zac ?_
 first|refine Zaa ?_|refine Zad ?_
 refine Zab (Zae rfl he.2.2.1 ?_)
 refine Zab ?_
 refine Zao (vs := [.raw (sV to)]) (by simp only [List.map_cons, List.map_nil, EV,Nat.reduceEqDiff,↓reduceIte,he];try rfl) ?_
 refine ZiC to _ fun σ1 hX1 => ?_
 refine Zab ?_
 with_reducible apply ZbB
 case hx => simp only [EV,Nat.reduceEqDiff,↓reduceIte,he];try rfl
 refine Zaf ?_
 apply ZaP 0 1 2 19
 iterate 4 ·simp only [EV,Nat.reduceEqDiff,↓reduceIte,he];try rfl
 clear he e
 intro e he
 refine Zav (t := !decide (to ≠ [] /\ to.length <= 40)) he.2.2.2 (fun hk => ?_) (fun hk => ?_)
 ·rw [Bool.not_eq_true'] at hk
  repeat refine Zac ?_
  first|refine Zaa ?_|refine Zad ?_
  refine Zab (Zae rfl (by simp only [EV,Nat.reduceEqDiff,↓reduceIte,he];try rfl) ?_)
  refine Zaf ?_
  refine Zcw ?_
  show ∃ r, Zaj _ _ _ _ r /\ _
  exact ⟨_, Zal rfl rfl, hK2 ⟨_, hmi, hnm⟩ (of_decide_eq_false hk) σ1 hX1⟩
 rw [Bool.not_eq_false'] at hk
 have hk := of_decide_eq_true hk
 refine Zaz ?_
 repeat refine Zac ?_
 first|refine Zaa ?_|refine Zad ?_
 refine Zab (Zae rfl he.2.1 ?_)
 refine Zab (Zae rfl he.2.2.1 ?_)
 refine Zab ?_
 refine Zeu (a := fr) (c := to) ZcW rfl rfl ?_
 refine Zaf ?_
 apply ZaP 0 1 2 22
 iterate 4 ·simp only [EV,Nat.reduceEqDiff,↓reduceIte,he];try rfl
 clear he e
 intro e he
 refine Zav (t := decide (fr = to)) he.2.2.2 (fun hq => ?_) (fun hq => ?_)
 ·repeat refine Zac ?_
  first|refine Zaa ?_|refine Zad ?_
  refine Zab (Zae rfl (by simp only [EV,Nat.reduceEqDiff,↓reduceIte,he];try rfl) ?_)
  refine Zaf ?_
  refine Zcw ?_
  show ∃ r, Zaj _ _ _ _ r /\ _
  exact ⟨_, Zal rfl rfl, hKs ⟨_, hmi, hnm⟩ (of_decide_eq_true hq) hk σ1 hX1⟩
 have hne := of_decide_eq_false hq
 have h1 := h.ext hX1
 refine Zaz ?_
 refine ZaZ (fun env υ => ∃ S1 fv1 pv1, (env 0 = ptr rb 0 /\ env 1 = .raw (sV fr) /\ env 2 = .raw (sV to)) /\ RAt υ rb S1 (noN to l) (noP to ps) size fv1 pv1 /\ But S σ υ /\ (∀ c, S c -> S1 c) /\ (∀ c, S1 c -> S c \/ Za0 σ c)) ?_ ?_
 ·repeat refine Zac ?_
  first|refine Zaa ?_|refine Zad ?_
  refine Zab (Zae rfl he.1 ?_)
  refine Zab (Zae rfl he.2.2.1 ?_)
  refine Zab ?_
  refine Zao (vs := [ptr rb 0, .raw (sV to)]) (by simp only [List.map_cons, List.map_nil, EV,Nat.reduceEqDiff,↓reduceIte,he];try rfl) ?_
  refine ZhT h1 (by omega) (fun j hj hjn => ?_) fun hno => ?_
  ·refine Zab ?_
   refine ZfB (k := .i64) (a := (j : Int)) (b := 0) rfl rfl ?_
   rw [decide_eq_true (by omega : (0 : Int) <= (j : Int))]
   refine Zaf ?_
   apply ZaP 0 1 2 26
   iterate 4 ·simp only [EV,Nat.reduceEqDiff,↓reduceIte,he];try rfl
   clear he e
   intro e he
   refine ZaS (t := true) he.2.2.2 (fun _ => ?_) (fun hf => by cases hf)
   refine Zad ?_
   refine Zab (Zae rfl he.1 ?_)
   refine Zab (Zae rfl he.2.2.1 ?_)
   refine Zab ?_
   refine Zao (vs := [ptr rb 0, .raw (sV to)]) (by simp only [List.map_cons, List.map_nil, EV,Nat.reduceEqDiff,↓reduceIte,he];try rfl) ?_
   refine ZgN h1 (by omega) (by omega) hj hjn fun υ2 S2 fv2 pv2 h2 hB2 hS21 hS22 => ?_
   rw [Zdl h1.nn hj, hjn] at h2
   refine Zaf ?_
   exact ⟨rfl, S2, fv2, pv2, ⟨by simp only [EV,Nat.reduceEqDiff,↓reduceIte,he];try rfl, by simp only [EV,Nat.reduceEqDiff,↓reduceIte,he];try rfl, by simp only [EV,Nat.reduceEqDiff,↓reduceIte,he];try rfl⟩, h2, hX1.but.trans hB2, hS21, fun c hc => (hS22 c hc).imp id fun q => q.of hX1⟩
  ·refine Zab ?_
   refine ZfB (k := .i64) (a := -1) (b := 0) rfl rfl ?_
   refine Zaf ?_
   apply ZaP 0 1 2 26
   iterate 4 ·simp only [EV,Nat.reduceEqDiff,↓reduceIte,he];try rfl
   clear he e
   intro e he
   refine ZaS (t := false) he.2.2.2 (fun hf => by cases hf) (fun _ => ?_)
   refine Zbq ?_
   refine ⟨rfl, S, fv, pv, ⟨by simp only [EV,Nat.reduceEqDiff,↓reduceIte,he];try rfl, by simp only [EV,Nat.reduceEqDiff,↓reduceIte,he];try rfl, by simp only [EV,Nat.reduceEqDiff,↓reduceIte,he];try rfl⟩, ?_, hX1.but, fun c hc => hc, fun c hc => .inl hc⟩
   rw [Znq hno, Znp hin hno]
   exact h1
 clear he e h1
 rintro e υ1 ⟨S1, fv1, pv1, he, h1, hB1, hS11, hS12⟩
 have hr0 : l[i] ∈ noN to l := List.mem_filter.2 ⟨hmi, by simp [hnm, hne]⟩
 have hl1 : (noN to l).length <= 10000000 := Nat.le_trans (List.length_filter_le _ _) hl
 have hp1 : (noP to ps).length <= 10000000 := Nat.le_trans (List.length_filter_le _ _) hp
 have hK0 := hK0 _ hmi hnm hne hk
 have hd0 := hfl _ hmi
 have hfl1 : ∀ r ∈ noN to l, r.d.length <= 1000000000 := fun r hr => hfl r (List.mem_filter.1 hr).1
 generalize l[i] = r0 at hr0 hnm hK0 hd0
 generalize noN to l = l1 at h1 hr0 hl1 hK0 hfl1
 generalize noP to ps = ps1 at h1 hp1 hK0
 repeat refine Zac ?_
 first|refine Zaa ?_|refine Zad ?_
 refine Zab (Zae rfl he.1 ?_)
 refine Zab (Zae rfl he.2.1 ?_)
 refine Zab ?_
 refine Zao (vs := [ptr rb 0, .raw (sV fr)]) (by simp only [List.map_cons, List.map_nil, EV,Nat.reduceEqDiff,↓reduceIte,he];try rfl) ?_
 refine ZhU h1 (by omega) hfl1 (fun hno => absurd hnm (hno _ hr0)) fun r hr hrn v υ2 hv hX2 hn2 => ?_
 obtain rfl : r = r0 := h1.uniqN hr hr0 (by rw [hrn, hnm])
 refine Zab (Zae rfl (by simp only [EV,Nat.reduceEqDiff,↓reduceIte,he];try rfl) ?_)
 refine Zab ?_
 refine Za8 (l := [v, vT true]) rfl rfl ?_
 refine Zab ?_
 refine Za8 (l := [v, vT true]) rfl rfl ?_
 refine Zab (Zae rfl (by simp only [EV,Nat.reduceEqDiff,↓reduceIte,he];try rfl) ?_)
 refine Zab (Zae rfl (by simp only [EV,Nat.reduceEqDiff,↓reduceIte,he];try rfl) ?_)
 refine Zaf ?_
 apply ZaP 0 1 2 8
 iterate 4 ·simp only [EV,Nat.reduceEqDiff,↓reduceIte,he];try rfl
 clear he e
 intro e he
 have h2 := h1.ext hX2
 have hvS1 : ∀ c, hbk v = some c -> ¬ S1 c := fun c hc hs => (hn2 c hc).2 (h1.su c hs)
 have hB2 := hB1.trans hX2.but
 repeat refine Zac ?_
 first|refine Zaa ?_|refine Zad ?_
 refine Zab (Zae rfl (by simp only [EV,Nat.reduceEqDiff,↓reduceIte,he];try rfl) ?_)
 refine Zaf ?_
 apply Zb6 0 1 2 8 10
 iterate 5 ·simp only [EV,Nat.reduceEqDiff,↓reduceIte,he];try rfl
 clear he e
 intro e he
 refine ZaZ (fun env υ => (env 0 = ptr rb 0 /\ env 1 = .raw (sV fr) /\ env 2 = .raw (sV to) /\ env 8 = v) /\ RAt υ rb S1 l1 (Zfu fr to ps1) size fv1 pv1 /\ But S σ υ /\ Hd υ 5 1 v r.d.length (bys r.d)) ?_ ?_
 ·refine ZaT ?_
  refine ZaV (fun μ env υ => ∃ (j : Nat), μ = ps1.length - j /\ j <= ps1.length /\ (env 0 = ptr rb 0 /\ env 1 = .raw (sV fr) /\ env 2 = .raw (sV to) /\ env 8 = v /\ env 10 = vI j) /\ RAt υ rb S1 l1 (Zfu fr to (ps1.take j) ++ ps1.drop j) size fv1 pv1 /\ But S σ υ /\ Hd υ 5 1 v r.d.length (bys r.d)) ⟨_, 0, rfl, Nat.zero_le _, he, h2, hB2, hv⟩ ?_
  clear he e h2 hB2 hv
  rintro _ e υ ⟨j, rfl, hj, he, h2, hB2, hv⟩
  have hlen : (Zfu fr to (ps1.take j) ++ ps1.drop j).length = ps1.length := by
   unfold Zfu
   rw [List.length_append, List.length_map, List.length_take, List.length_drop]
   omega
  repeat refine Zac ?_
  first|refine Zaa ?_|refine Zad ?_
  refine Zab (Zae rfl he.2.2.2.2 ?_)
  refine ZcX (b := rb) he.1 ZaF rfl h2.obj rfl Zca ZbR fun u1 u2 u3 => ?_
  refine Zab ?_
  refine ZbS rfl h2.pc rfl ZbE ?_
  rw [hlen]
  refine Zab ?_
  refine Zbs j ps1.length rfl rfl ?_
  refine Zaf ?_
  apply ZdN 0 1 2 8 10 42
  iterate 6 ·simp only [EV,Nat.reduceEqDiff,↓reduceIte,he];try rfl
  clear he e
  intro e he
  refine Zav (t := decide (j < ps1.length)) he.2.2.2.2.2 (fun ht => ?_) (fun ht => ?_)
  ·have hlt : j < ps1.length := of_decide_eq_true ht
   have hlt2 : j < (Zfu fr to (ps1.take j) ++ ps1.drop j).length := by omega
   have hrl : (Zfu fr to (ps1.take j)).length = j := by
    unfold Zfu
    rw [List.length_map, List.length_take]
    omega
   have hpj : (Zfu fr to (ps1.take j) ++ ps1.drop j)[j] = ps1[j] := by
    rw [List.getElem_append_right (by omega)]
    simp [hrl]
   have hg := ZiQ hlt2
   rw [hpj] at hg
   have hrs : Zfu fr to (ps1.take (j + 1)) = Zfu fr to (ps1.take j) ++ [if ps1[j].1 = fr then (to, ps1[j].2) else ps1[j]] := by
    unfold Zfu
    rw [List.take_succ_eq_append_getElem hlt, List.map_append]
    rfl
   refine Zaz ?_
   refine ZaZ (fun env υ => (env 0 = ptr rb 0 /\ env 1 = .raw (sV fr) /\ env 2 = .raw (sV to) /\ env 8 = v /\ env 10 = vI j) /\ RAt υ rb S1 l1 (Zfu fr to (ps1.take (j + 1)) ++ ps1.drop (j + 1)) size fv1 pv1 /\ But S σ υ /\ Hd υ 5 1 v r.d.length (bys r.d)) ?_ ?_
   ·refine ZaT ?_
    repeat refine Zac ?_
    first|refine Zaa ?_|refine Zad ?_
    refine ZcX (b := rb) he.1 ZaF rfl h2.obj rfl Zca ZbR fun u1 u2 u3 => ?_
    refine Zab (Zae rfl he.2.2.2.2.1 ?_)
    refine Ze6 rfl rfl ZbE Zby h2.pc hlt2 Zc1 rfl hg.1 Zb7 ZbJ fun u1 u2 => ?_
    refine Zab (Zae rfl he.2.1 ?_)
    refine Zab ?_
    refine Zeu (a := ps1[j].1) (c := fr) ZcW rfl rfl ?_
    refine Zaf ?_
    apply ZdN 0 1 2 8 10 54
    iterate 6 ·simp only [EV,Nat.reduceEqDiff,↓reduceIte,he];try rfl
    clear he e
    intro e he
    refine ZaS (t := decide (ps1[j].1 = fr)) he.2.2.2.2.2 (fun hq => ?_) (fun hq => ?_)
    ·have hq := of_decide_eq_true hq
     refine Zad ?_
     refine ZcX (b := rb) he.1 ZaF rfl h2.obj rfl Zca ZbR fun u1 u2 u3 => ?_
     refine Zab (Zae rfl he.2.2.2.2.1 ?_)
     refine Zab (Zae rfl he.2.2.1 ?_)
     refine ZnN rfl rfl ZbE Zby h2.pc hlt2 Zc1 rfl fun b u1 hb => ?_
     refine Zab ?_
     refine ZeU (v := pv1) (r := .raw (sV to)) (b := b) (o := j * 2 + 0) rfl rfl ZbJ h2.pc hb (by omega) ⟨rfl, rfl, rfl⟩ fun υ3 hp3 k3 => ?_
     refine Zaf ?_
     have hset : (rpC (Zfu fr to (ps1.take j) ++ ps1.drop j)).set (j * 2 + 0) (.raw (sV to)) = rpC (Zfu fr to (ps1.take (j + 1)) ++ ps1.drop (j + 1)) := by
      have := (ZfK (f := fun p : List UInt8 × Nat => .raw (sV p.1)) (g := fun p : List UInt8 × Nat => vI p.2) (Zfu fr to (ps1.take j) ++ ps1.drop j) j (to, ps1[j].2) hlt2 ps1[j] (by rw [List.getElem?_eq_getElem hlt2, hpj])).2 rfl
      refine this.trans ?_
      show rpC _ = _
      congr 1
      rw [hrs, if_pos hq, List.append_assoc, List.set_append_right _ _ (by omega), hrl, Nat.sub_self, List.drop_eq_getElem_cons hlt]
      rfl
     rw [hset] at hp3
     have hl3 : (Zfu fr to (ps1.take (j + 1)) ++ ps1.drop (j + 1)).length = (Zfu fr to (ps1.take j) ++ ps1.drop j).length := by
      rw [hlen]
      unfold Zfu
      rw [List.length_append, List.length_map, List.length_take, List.length_drop]
      omega
     have h3 := h2.setI k3 (by rw [hl3]; exact hp3)
     exact ⟨rfl, ⟨by simp only [EV,Nat.reduceEqDiff,↓reduceIte,he];try rfl, by simp only [EV,Nat.reduceEqDiff,↓reduceIte,he];try rfl, by simp only [EV,Nat.reduceEqDiff,↓reduceIte,he];try rfl, by simp only [EV,Nat.reduceEqDiff,↓reduceIte,he];try rfl, by simp only [EV,Nat.reduceEqDiff,↓reduceIte,he];try rfl⟩, h3, ZfV hB2 hS12 (k3.sub fun c hc => h2.own.2.2.2 c hc), hv.but k3 fun c hc hq => ZeO hv h2.pc (by decide) hc hq⟩
    ·have hq := of_decide_eq_false hq
     refine Zbq ?_
     refine ⟨rfl, ⟨by simp only [EV,Nat.reduceEqDiff,↓reduceIte,he];try rfl, by simp only [EV,Nat.reduceEqDiff,↓reduceIte,he];try rfl, by simp only [EV,Nat.reduceEqDiff,↓reduceIte,he];try rfl, by simp only [EV,Nat.reduceEqDiff,↓reduceIte,he];try rfl, by simp only [EV,Nat.reduceEqDiff,↓reduceIte,he];try rfl⟩, ?_, hB2, hv⟩
     rw [hrs, if_neg hq, List.append_assoc]
     show RAt υ rb S1 l1 (Zfu fr to (ps1.take j) ++ (ps1[j] :: ps1.drop (j + 1))) size fv1 pv1
     rw [<- List.drop_eq_getElem_cons hlt]
     exact h2
   ·clear he e h2 hB2 hv
    rintro e υ ⟨he, h2, hB2, hv⟩
    refine Zad ?_
    refine Zab (Zae rfl he.2.2.2.2 ?_)
    refine Zab ?_
    refine ZaU j 1 rfl rfl (by omega) ?_
    refine Zab (Zae rfl (by simp only [EV,Nat.reduceEqDiff,↓reduceIte,he];try rfl) ?_)
    refine Zaf ?_
    show ∃ n', n' < _ /\ _
    exact ⟨_, (by omega : ps1.length - (j + 1) < ps1.length - j), j + 1, rfl, hlt, ⟨by simp only [EV,Nat.reduceEqDiff,↓reduceIte,he];try rfl, by simp only [EV,Nat.reduceEqDiff,↓reduceIte,he];try rfl, by simp only [EV,Nat.reduceEqDiff,↓reduceIte,he];try rfl, by simp only [EV,Nat.reduceEqDiff,↓reduceIte,he];try rfl, by simp only [EV,Nat.reduceEqDiff,↓reduceIte,he];try rfl⟩, h2, hB2, hv⟩
  ·have hke : j = ps1.length := by have := of_decide_eq_false ht; omega
   refine Zbe ?_
   rw [hke, List.take_length, List.drop_length, List.append_nil] at h2
   exact ⟨rfl, ⟨by simp only [EV,Nat.reduceEqDiff,↓reduceIte,he];try rfl, by simp only [EV,Nat.reduceEqDiff,↓reduceIte,he];try rfl, by simp only [EV,Nat.reduceEqDiff,↓reduceIte,he];try rfl, by simp only [EV,Nat.reduceEqDiff,↓reduceIte,he];try rfl⟩, h2, hB2, hv⟩
 clear he e h2 hB2 hv
 rintro e υ3 ⟨he, h3, hB3, hv⟩
 have hp3 : (Zfu fr to ps1).length <= 10000000 := by unfold Zfu; rw [List.length_map]; exact hp1
 obtain ⟨j, hj, hjn⟩ := ZpM ⟨r, hr, hnm⟩
 repeat refine Zac ?_
 first|refine Zaa ?_|refine Zad ?_
 refine Zab (Zae rfl he.1 ?_)
 refine Zab (Zae rfl he.2.1 ?_)
 refine Zab ?_
 refine Zao (vs := [ptr rb 0, .raw (sV fr)]) (by simp only [List.map_cons, List.map_nil, EV,Nat.reduceEqDiff,↓reduceIte,he];try rfl) ?_
 refine ZgN h3 (by omega) (by omega) hj hjn fun υ4 S4 fv4 pv4 h4 hB4 hS41 hS42 => ?_
 rw [Zdl h3.nn hj, hjn] at h4
 refine Zaf ?_
 apply ZaL 0 2 8
 iterate 3 ·simp only [EV,Nat.reduceEqDiff,↓reduceIte,he];try rfl
 clear he e
 intro e he
 have hv4 := hv.but hB4 hvS1
 have hB34 := ZfV hB3 hS12 hB4
 have hS4 : ∀ c, S4 c -> S c \/ Za0 σ c := newS hB3 hS12 hS42
 have hvS4 : ∀ c, hbk v = some c -> ¬ S4 c := fun c hc hs => by
  rcases hS42 c hs with q | q
  ·exact hvS1 c hc q
  ·exact q.2 (hv.used hc)
 have hl4 : (noN fr l1).length <= 10000000 := Nat.le_trans (List.length_filter_le _ _) hl1
 refine ZaZ (fun env υ => ∃ S5 l5 fv5, ∃ i : Nat, (env 0 = ptr rb 0 /\ env 8 = v /\ env 11 = vI i) /\ RAt υ rb S5 l5 (noP fr (Zfu fr to ps1)) size fv5 pv4 /\ ZhW (noN fr l1) to l5 i /\ But S σ υ /\ (∀ c, S c -> S5 c) /\ (∀ c, S5 c -> S c \/ Za0 σ c) /\ Hd υ 5 1 v r.d.length (bys r.d) /\ (∀ q ∈ l5, q ∈ noN fr l1 \/ q.v = .lst none 0 0 [])) ?_ ?_
 ·repeat refine Zac ?_
  first|refine Zaa ?_|refine Zad ?_
  refine Zab (Zae rfl (by simp only [EV,Nat.reduceEqDiff,↓reduceIte,he];try rfl) ?_)
  refine Zab (Zae rfl (by simp only [EV,Nat.reduceEqDiff,↓reduceIte,he];try rfl) ?_)
  refine Zab ?_
  refine Zao (vs := [ptr rb 0, .raw (sV to)]) (by simp only [List.map_cons, List.map_nil, EV,Nat.reduceEqDiff,↓reduceIte,he];try rfl) ?_
  refine Zmf h4 (Nat.le_trans hl4 (by decide)) (fun i hi hn => ?_) fun hno i hi q1 q2 τ S5 fv5 d1 d2 d3 d4 => ?_
  ·refine Zab (Zae rfl (by simp only [EV,Nat.reduceEqDiff,↓reduceIte,he];try rfl) ?_)
   refine Zaf ?_
   exact ⟨rfl, S4, _, fv4, i, ⟨by simp only [EV,Nat.reduceEqDiff,↓reduceIte,he];try rfl, by simp only [EV,Nat.reduceEqDiff,↓reduceIte,he];try rfl, by simp only [EV,Nat.reduceEqDiff,↓reduceIte,he];try rfl⟩, h4, .inl ⟨rfl, hi, hn⟩, hB34, fun c hc => hS41 c (hS11 c hc), hS4, hv4, fun q hq => .inl hq⟩
  ·refine Zab (Zae rfl (by simp only [EV,Nat.reduceEqDiff,↓reduceIte,he];try rfl) ?_)
   refine Zaf ?_
   refine ⟨rfl, S5, _, fv5, i, ⟨by simp only [EV,Nat.reduceEqDiff,↓reduceIte,he];try rfl, by simp only [EV,Nat.reduceEqDiff,↓reduceIte,he];try rfl, by simp only [EV,Nat.reduceEqDiff,↓reduceIte,he];try rfl⟩, d1, .inr ⟨hno, hi, q1, q2, rfl⟩, ZfV hB34 hS4 d2, fun c hc => d3 c (hS41 c (hS11 c hc)), newS hB34 hS4 d4, hv4.but d2 hvS4, fun q hq => ?_⟩
   rcases List.mem_append.1 hq with hq | hq
   ·exact .inl (List.mem_of_mem_take hq)
   ·rcases List.mem_cons.1 hq with rfl | hq
    ·exact .inr rfl
    ·exact .inl (List.mem_of_mem_drop hq)
 clear he e
 rintro e υ5 ⟨S5, l5, fv5, i5, he, h5, hM, hB5, hS51, hS52, hv5, hr5⟩
 obtain ⟨hi5, hn5, _, _⟩ := hM.at_
 repeat refine Zac ?_
 first|refine Zaa ?_|refine Zad ?_
 refine ZcX (b := rb) (by simp only [EV,Nat.reduceEqDiff,↓reduceIte,he];try rfl) ZaF rfl h5.obj rfl ZbX ZbF fun u1 u2 u3 => ?_
 refine Zab (Zae rfl (by simp only [EV,Nat.reduceEqDiff,↓reduceIte,he];try rfl) ?_)
 refine Zab (Zae rfl (by simp only [EV,Nat.reduceEqDiff,↓reduceIte,he];try rfl) ?_)
 refine ZnN (by simp only [EV,Nat.reduceEqDiff,↓reduceIte,he];try rfl) (by simp only [EV,Nat.reduceEqDiff,↓reduceIte,he];try rfl) Zbh ZbA h5.fl hi5 Zcx rfl fun b u1 hb => ?_
 refine Zab ?_
 refine ZeU (v := fv5) (r := v) (b := b) (o := i5 * 2 + 1) (by simp only [EV,Nat.reduceEqDiff,↓reduceIte,he];try rfl) (by simp only [EV,Nat.reduceEqDiff,↓reduceIte,he];try rfl) ZaJ h5.fl hb (by omega) ⟨hv5.oneV.2.1, hv5.oneV.2.2, hv5.oneV.1⟩ fun υ6 hf6 k6 => ?_
 refine Zaf ?_
 have hset : (rfC l5).set (i5 * 2 + 1) v = rfC (l5.set i5 ⟨l5[i5].nm, v, r.d⟩) :=
  (ZfK (f := fun r : Rw => .raw (sV r.nm)) (g := fun r : Rw => r.v) l5 i5 ⟨l5[i5].nm, v, r.d⟩ hi5 l5[i5] (List.getElem?_eq_getElem hi5)).1 rfl
 rw [hset] at hf6
 have h6 := h5.setR0 hi5 (k6.sub fun c hc => .inl hc) hf6 (hv5.but k6 fun c hc hq => ZeO hv5 h5.fl (by decide) hc hq) fun c hc => .inr fun q hq e => by
  rcases hr5 q hq with hq | hq
  ·exact hvS4 c hc (h4.own.2.2.1 q hq c e)
  ·rw [hq] at e
   cases e
 rw [hn5] at h6
 have hvN : ∀ c, hbk v = some c -> Za0 σ c := fun c hc => by
  rcases ZcB hB1 (hn2 c hc) with q | q
  ·exact absurd (hS11 c q) (hvS1 c hc)
  ·exact q
 apply Zbz 0
 ·simp only [EV,Nat.reduceEqDiff,↓reduceIte,he];try rfl
 clear he e
 intro e he
 repeat refine Zac ?_
 first|refine Zaa ?_|refine Zad ?_
 refine Zab (Zae rfl (by simp only [EV,Nat.reduceEqDiff,↓reduceIte,he];try rfl) ?_)
 refine Zaf ?_
 refine Zax ?_
 have hB6 := ZfV hB5 hS52 (k6.sub fun c hc => h5.own.2.1 c hc)
 have hS6 : ∀ c, (S5 c \/ hbk v = some c) -> S c \/ Za0 σ c := fun c hc => hc.elim (hS52 c) fun q => .inr (hvN c q)
 show ∃ r, Zaj _ _ _ _ r /\ _
 exact ⟨_, Zal rfl rfl, hK0 υ6 _ l5 i5 v fv5 pv4 hM h6 hB6 (fun c hc => .inl (hS51 c hc)) hS6⟩
end
end Go.Proofs.Ytinpiaibhjmfaaa
