/- DiskCrash, by hand: the walk. -/
import Derived.Test.YtinpiaibhjmfaaaMg
namespace Go.Proofs.Ytinpiaibhjmfaaa
open Go.RowKit
set_option maxRecDepth 100000
set_option linter.unusedVariables false
set_option linter.unusedSimpArgs false
theorem Zfy : ZaN Try.prog 32 = some (AV.lst none 0 0 []).val := by kernel_rfl
def Zor (l : List Zc1) : Nat := (l.map fun x => x.parts.flatten.length).sum
theorem ZsZ (l : List Zc1) : Zor l <= Zfg l := by
 unfold Zor Zfg
 refine ZgH fun x _ => ?_
 unfold Zmf
 rw [<- ZpV]
 omega
theorem Zqj (l : List Zc1) (i : Nat) (h : i < l.length) : Zor (l.take (i + 1)) = Zor (l.take i) + l[i].parts.flatten.length := by
 unfold Zor
 rw [List.take_succ_eq_append_getElem h, List.map_append, List.sum_append]
 simp
theorem Zqk (l : List Zc1) (i : Nat) : Zor (l.take i) <= Zor l := by
 have h : Zor l = Zor (l.take i) + Zor (l.drop i) := by
  unfold Zor
  conv => lhs; rw [<- List.take_append_drop i l, List.map_append, List.sum_append]
 omega
theorem ZiF {x : Zc1} : ∀ {l : List Zc1}, x ∈ l -> Zmf x <= Zfg l
 | y :: l, h => by
  have e : Zfg (y :: l) = Zmf y + Zfg l := by simp [Zfg]
  rcases List.mem_cons.1 h with rfl | h
  ·omega
  ·have := ZiF h
   omega
theorem Zju {σ τ : St} {bb bb2 mb mb2 : Nat} {S S2 : Nat -> Prop} {fs fs2 fs3 : List Fl} {pcs pcs2 : List (Nat × Nat)} {size : Int} {pv pv2 : AV} {done : List (Fl × Fl)} (h : DAt σ bb S fs pcs size mb pv) (hw : Wf fs pcs) (h2 : DAt τ bb2 S2 fs2 pcs2 size mb2 pv2) (cp : Ziz fs pcs fs2 pcs2 done) {L : Nat} (hd : dat fs3 = ZbY L (dat fs2) pcs2.reverse) {l lx : List Rw} (hp : (l.map fun r => (r.nm, r.d)).Perm (fs.map fun f => (f.nm, f.d))) (hx : (lx.map fun r => (r.nm, r.d)).Perm (fs3.map fun f => (f.nm, f.d))) :
 lx.length = l.length /\ ∀ r ∈ l, Zfo fs pcs L r.nm <= r.d.length /\ ∃ rx ∈ lx, rx.nm = r.nm /\ rx.d = r.d.take (r.d.length - Zfo fs pcs L r.nm) := by
 have w := cp.wf h h2 hw
 have e1 := hp.length_eq
 have e2 := hx.length_eq
 simp only [List.length_map] at e1 e2
 refine ⟨by rw [e2, Zlv hd, w.2.2.2.1, e1], fun r hr => ⟨?_, Zmt hp hx (g := Zfo fs pcs L) (fun f hf => ?_) r hr⟩⟩
 ·obtain ⟨f, hf, e⟩ := List.mem_map.1 (hp.mem_iff.1 (List.mem_map.2 ⟨r, hr, rfl⟩))
  injection e with q1 q2
  rw [<- q1, <- q2]
  exact Zru h hw hf L
 ·obtain ⟨f3, q1, q2, q3⟩ := cp.crash h h2 hd f hf
  exact ⟨f3, q1, q2, by rw [Zks h hf]; exact q3⟩
theorem Zmu {σ τ : St} {bb bb2 mb mb2 : Nat} {S S2 : Nat -> Prop} {fs fs2 fs3 : List Fl} {pcs pcs2 ps : List (Nat × Nat)} {size : Int} {pv pv2 : AV} {done : List (Fl × Fl)} (h : DAt σ bb S fs pcs size mb pv) (hw : Wf fs pcs) (h2 : DAt τ bb2 S2 fs2 pcs2 size mb2 pv2) (cp : Ziz fs pcs fs2 pcs2 done) (hd : dat fs3 = ZbY 0 (dat fs2) ps) {l lx : List Rw} (hp : (l.map fun r => (r.nm, r.d)).Perm (fs.map fun f => (f.nm, f.d))) (hx : (lx.map fun r => (r.nm, r.d)).Perm (fs3.map fun f => (f.nm, f.d))) :
 lx.length = l.length /\ ∀ r ∈ l, ∃ rx ∈ lx, rx.nm = r.nm /\ rx.d = r.d := by
 have w := cp.wf h h2 hw
 have e1 := hp.length_eq
 have e2 := hx.length_eq
 simp only [List.length_map] at e1 e2
 refine ⟨by rw [e2, Zlv hd, w.2.2.2.1, e1], fun r hr => ?_⟩
 obtain ⟨rx, q1, q2, q3⟩ := Zmt hp hx (g := fun _ => 0) (fun f hf => by
  obtain ⟨f2, hf2, q1, q2, _⟩ := cp.ren h h2 f hf
  obtain ⟨f3, hf3, q3, q4⟩ := Zjp h2 hd f2 hf2
  exact ⟨f3, hf3, by rw [q3, q1], by rw [q4, q2, Nat.sub_zero, List.take_length]⟩) r hr
 exact ⟨rx, q1, q2, by rw [q3, Nat.sub_zero, List.take_length]⟩
theorem Zfz (l : List Rw) : (ZfF (ZfR l)).length = l.length := by simp [ZfF, ZfR]
set_option maxHeartbeats 8000000 in
theorem Zql {l : List Zc1} {size keep more : Int} {A : Option Addr} {c : Nat} {cs rest : List AV} {σ : St} (K : AV -> St -> Prop) (k0 : ∀ x ∈ l, Zfv x) (hl0 : l.length <= 140737488355328) (hkeep : InK .i64 keep) (hmore : InK .i64 more)
 (hL : l.length <= c /\ c <= maxLen /\ (A = none -> l.length = 0 /\ c = 0)) (hs : SVs CT 0 Zf2 (l.flatMap (CT.enc 6)) cs) (hK : ∀ τ, K (vT true) τ) :
 Zau Try.prog 6 [.raw (.int .i64 size), .lst A l.length c (cs ++ rest), .raw (.int .i64 keep), .raw (.int .i64 more)] σ K := by
 have hsa : SV CT 0 Zf2 (.sl 6 l none) (.lst A l.length c (cs ++ rest)) := ZcC.2 ⟨A, c, cs, rest, rfl, hL.1, hL.2.1, hl0, hL.2.2, hs⟩
 have hA0 : A = none -> l.length = 0 := fun q => (hL.2.2 q).1
 obtain ⟨rl, hr1, hr2⟩ := ZsO (l := l) k0 hl0
 refine ZaA ZaL Try.func6 rfl rfl rfl (Nat.le_of_ble_eq_true rfl) ?_
 refine Zcm 0 1 2 3 (v0 := .raw (.int .i64 size)) (v1 := .lst A l.length c (cs ++ rest)) (v2 := .raw (.int .i64 keep)) (v3 := .raw (.int .i64 more)) rfl rfl rfl rfl ?_
 intro e he
 first | refine Zaa ?_ | refine Zad ?_ | (refine Zac ?_; refine Zaa ?_) | (refine Zac ?_; refine Zac ?_; refine Zaa ?_)
 refine Zab (Zai rfl (by simp only [EV, Nat.reduceEqDiff, ↓reduceIte, he] <;> try rfl) ?_)
 refine Zah ?_
 apply Zcm 0 1 2 3
 ·simp only [EV, Nat.reduceEqDiff, ↓reduceIte, he] <;> try rfl
 ·simp only [EV, Nat.reduceEqDiff, ↓reduceIte, he] <;> try rfl
 ·simp only [EV, Nat.reduceEqDiff, ↓reduceIte, he] <;> try rfl
 ·simp only [EV, Nat.reduceEqDiff, ↓reduceIte, he] <;> try rfl
 clear he e
 intro e he
 first | refine Zaa ?_ | refine Zad ?_ | (refine Zac ?_; refine Zaa ?_) | (refine Zac ?_; refine Zac ?_; refine Zaa ?_)
 refine Zab ?_
 refine Zas (vs := []) (by simp only [List.map_cons, List.map_nil, EV, Nat.reduceEqDiff, ↓reduceIte, he] <;> try rfl) ?_
 refine Zrk fun σ1 hX1 => ?_
 refine Zab ?_
 with_reducible apply Zda
 case hx => simp only [EV, Nat.reduceEqDiff, ↓reduceIte, he] <;> try rfl
 refine Zah ?_
 apply ZcI 0 1 2 3 28
 ·simp only [EV, Nat.reduceEqDiff, ↓reduceIte, he] <;> try rfl
 ·simp only [EV, Nat.reduceEqDiff, ↓reduceIte, he] <;> try rfl
 ·simp only [EV, Nat.reduceEqDiff, ↓reduceIte, he] <;> try rfl
 ·simp only [EV, Nat.reduceEqDiff, ↓reduceIte, he] <;> try rfl
 ·simp only [EV, Nat.reduceEqDiff, ↓reduceIte, he] <;> try rfl
 clear he e
 intro e he
 refine ZaX (t := false) (by simp only [EV, Nat.reduceEqDiff, ↓reduceIte, he] <;> try rfl) (fun hf => by cases hf) (fun _ => ?_)
 refine Zbb ?_
 first | refine Zaa ?_ | refine Zad ?_ | (refine Zac ?_; refine Zaa ?_) | (refine Zac ?_; refine Zac ?_; refine Zaa ?_)
 refine Zab (Zai rfl (by simp only [EV, Nat.reduceEqDiff, ↓reduceIte, he] <;> try rfl) ?_)
 refine Zab ?_
 refine Zas (vs := [.lst A l.length c (cs ++ rest)]) (by simp only [List.map_cons, List.map_nil, EV, Nat.reduceEqDiff, ↓reduceIte, he] <;> try rfl) ?_
 refine Zfb (ZeF.ok (l, ()) () (rl, ()) hr1) (Zc8.2 ⟨_, rfl, hsa⟩) (fun N ρ a h => ZaJ.1 h) _ fun σ3 hX3 => ?_
 refine Zab ?_
 with_reducible apply Zda
 case hx => simp only [EV, Nat.reduceEqDiff, ↓reduceIte, he] <;> try rfl
 refine Zah ?_
 apply ZcI 0 1 2 3 31
 ·simp only [EV, Nat.reduceEqDiff, ↓reduceIte, he] <;> try rfl
 ·simp only [EV, Nat.reduceEqDiff, ↓reduceIte, he] <;> try rfl
 ·simp only [EV, Nat.reduceEqDiff, ↓reduceIte, he] <;> try rfl
 ·simp only [EV, Nat.reduceEqDiff, ↓reduceIte, he] <;> try rfl
 ·simp only [EV, Nat.reduceEqDiff, ↓reduceIte, he] <;> try rfl
 clear he e
 intro e he
 cases rl with
 | false =>
  refine ZaX (t := true) (by simp only [EV, Nat.reduceEqDiff, ↓reduceIte, he] <;> try rfl) (fun _ => ?_) (fun hf => by cases hf)
  first | refine Zaa ?_ | refine Zad ?_ | (refine Zac ?_; refine Zaa ?_) | (refine Zac ?_; refine Zac ?_; refine Zaa ?_)
  refine Zab (Zai rfl (by simp only [EV, Nat.reduceEqDiff, ↓reduceIte, he] <;> try rfl) ?_)
  refine Zah ?_
  refine ZhV ?_
  show ∃ r, Zan _ _ _ _ r /\ _
  exact ⟨_, ZaD rfl (by simp only [EV, Nat.reduceEqDiff, ↓reduceIte, he] <;> try rfl), hK σ3⟩
 | true =>
 obtain ⟨h300, hW⟩ := hr2 rfl
 have hbl := ZsZ l
 have hbt := Zqk l
 clear hr1 hr2
 refine ZaX (t := false) (by simp only [EV, Nat.reduceEqDiff, ↓reduceIte, he] <;> try rfl) (fun hf => by cases hf) (fun _ => ?_)
 refine Zbb ?_
 first | refine Zaa ?_ | refine Zad ?_ | (refine Zac ?_; refine Zaa ?_) | (refine Zac ?_; refine Zac ?_; refine Zaa ?_)
 refine Zab (Zai rfl (by simp only [EV, Nat.reduceEqDiff, ↓reduceIte, he] <;> try rfl) ?_)
 refine Zab ?_
 refine Zas (vs := [.raw (.int .i64 size)]) (by simp only [List.map_cons, List.map_nil, EV, Nat.reduceEqDiff, ↓reduceIte, he] <;> try rfl) ?_
 refine ZpP fun bb mb σ4 h4 hE4 hnb hnm => ?_
 refine Zab (Zai rfl (by simp only [EV, Nat.reduceEqDiff, ↓reduceIte, he] <;> try rfl) ?_)
 refine Zah ?_
 apply ZcI 0 1 2 3 9
 ·simp only [EV, Nat.reduceEqDiff, ↓reduceIte, he] <;> try rfl
 ·simp only [EV, Nat.reduceEqDiff, ↓reduceIte, he] <;> try rfl
 ·simp only [EV, Nat.reduceEqDiff, ↓reduceIte, he] <;> try rfl
 ·simp only [EV, Nat.reduceEqDiff, ↓reduceIte, he] <;> try rfl
 ·simp only [EV, Nat.reduceEqDiff, ↓reduceIte, he] <;> try rfl
 clear he e
 intro e he
 first | refine Zaa ?_ | refine Zad ?_ | (refine Zac ?_; refine Zaa ?_) | (refine Zac ?_; refine Zac ?_; refine Zaa ?_)
 refine Zab (Zai rfl (by simp only [EV, Nat.reduceEqDiff, ↓reduceIte, he] <;> try rfl) ?_)
 refine Zah ?_
 apply Zgk 0 1 2 3 9 10
 ·simp only [EV, Nat.reduceEqDiff, ↓reduceIte, he] <;> try rfl
 ·simp only [EV, Nat.reduceEqDiff, ↓reduceIte, he] <;> try rfl
 ·simp only [EV, Nat.reduceEqDiff, ↓reduceIte, he] <;> try rfl
 ·simp only [EV, Nat.reduceEqDiff, ↓reduceIte, he] <;> try rfl
 ·simp only [EV, Nat.reduceEqDiff, ↓reduceIte, he] <;> try rfl
 ·simp only [EV, Nat.reduceEqDiff, ↓reduceIte, he] <;> try rfl
 clear he e
 intro e he
 refine Zcq (fun env υ => ∃ S fs pcs pv, (env 2 = .raw (.int .i64 keep) /\ env 3 = .raw (.int .i64 more) /\ env 9 = ptr bb 0) /\ Inv υ bb mb size S fs pcs pv 300 20000) ?_ ?_
 ·refine ZbB ?_
  refine ZcV (fun μ env υ => ∃ (i : Nat), ∃ S fs pcs pv, μ = l.length - i /\ i <= l.length /\ (env 0 = .raw (.int .i64 size) /\ env 1 = .lst A l.length c (cs ++ rest) /\ env 2 = .raw (.int .i64 keep) /\ env 3 = .raw (.int .i64 more) /\ env 9 = ptr bb 0 /\ env 10 = vI i) /\ Inv υ bb mb size S fs pcs pv i (Zor (l.take i))) ⟨_, 0, _, [], [], _, rfl, Nat.zero_le _, he, h4, fun c hc => ?_, ⟨(fun p hp => by cases hp), fun f hf => by cases hf⟩, (fun f hf => by cases hf), Nat.zero_le _, Nat.le_refl _, Nat.le_refl _, fun q => by show ((0 : Nat) : Int) <= size; omega⟩ ?_
  ·rcases hc with rfl | rfl
   ·exact h4.used
   ·exact h4.umap
  clear he e h4
  rintro _ e υ ⟨i, S, fs, pcs, pv, rfl, hi, he, I⟩
  have hbi := hbt i
  first | refine Zaa ?_ | refine Zad ?_ | (refine Zac ?_; refine Zaa ?_) | (refine Zac ?_; refine Zac ?_; refine Zaa ?_)
  refine Zab (Zai rfl (by simp only [EV, Nat.reduceEqDiff, ↓reduceIte, he] <;> try rfl) ?_)
  refine Zab (Zai rfl (by simp only [EV, Nat.reduceEqDiff, ↓reduceIte, he] <;> try rfl) ?_)
  refine Zab ?_
  refine Zpr (n := l.length) (c := c) (A := A) (by simp only [EV, Nat.reduceEqDiff, ↓reduceIte, he] <;> try rfl) rfl rfl Zp1 ?_
  refine Zab ?_
  refine Zho i l.length (by simp only [EV, Nat.reduceEqDiff, ↓reduceIte, he] <;> try rfl) (by simp only [EV, Nat.reduceEqDiff, ↓reduceIte, he] <;> try rfl) ?_
  refine Zah ?_
  apply ZoG 0 1 2 3 9 10 37
  ·simp only [EV, Nat.reduceEqDiff, ↓reduceIte, he] <;> try rfl
  ·simp only [EV, Nat.reduceEqDiff, ↓reduceIte, he] <;> try rfl
  ·simp only [EV, Nat.reduceEqDiff, ↓reduceIte, he] <;> try rfl
  ·simp only [EV, Nat.reduceEqDiff, ↓reduceIte, he] <;> try rfl
  ·simp only [EV, Nat.reduceEqDiff, ↓reduceIte, he] <;> try rfl
  ·simp only [EV, Nat.reduceEqDiff, ↓reduceIte, he] <;> try rfl
  ·simp only [EV, Nat.reduceEqDiff, ↓reduceIte, he] <;> try rfl
  clear he e
  intro e he
  refine ZaX (t := decide (i < l.length)) (by simp only [EV, Nat.reduceEqDiff, ↓reduceIte, he] <;> try rfl) (fun ht => ?_) (fun ht => ?_)
  ·have hlt : i < l.length := of_decide_eq_true ht
   obtain ⟨vN, vP, hcell, hclen, hvN, hvP⟩ := Zlx hs i hlt
   obtain ⟨q1, q2, q3, q4⟩ := Zrv (σ := υ) hvN
   obtain ⟨_, _, okN, okn, okP, _⟩ := k0 _ (List.getElem_mem hlt)
   have hsn := Zqj l i hlt
   have hbi1 := hbt (i + 1)
   have hpone : vP.one = true /\ Zb7 vP = true := by
    obtain ⟨A', c', cs', rest', rfl, _⟩ := ZcC.1 hvP
    exact ⟨rfl, rfl⟩
   have hplen : l[i].parts.length <= 1000000 := by
    have := ZiF (List.getElem_mem hlt)
    unfold Zmf at this
    omega
   have hnlen : l[i].names.length <= 1000000000 := by
    have := ZiF (List.getElem_mem hlt)
    unfold Zmf at this
    omega
   refine Zbb ?_
   refine ZdD ?_
   first | refine Zaa ?_ | refine Zad ?_ | (refine Zac ?_; refine Zaa ?_) | (refine Zac ?_; refine Zac ?_; refine Zaa ?_)
   refine Zab (Zai rfl (by simp only [EV, Nat.reduceEqDiff, ↓reduceIte, he] <;> try rfl) ?_)
   refine Zab (Zai rfl (by simp only [EV, Nat.reduceEqDiff, ↓reduceIte, he] <;> try rfl) ?_)
   refine Zab (Zai rfl (by simp only [EV, Nat.reduceEqDiff, ↓reduceIte, he] <;> try rfl) ?_)
   refine Zab ?_
   refine ZmG (k := .i64) (j := i) (A := A) (n := l.length) (c := c) (cells := cs ++ rest) (by simp only [EV, Nat.reduceEqDiff, ↓reduceIte, he] <;> try rfl) (by simp only [EV, Nat.reduceEqDiff, ↓reduceIte, he] <;> try rfl) Zp1 Zmp hlt hA0 rfl fun ad => ?_
   refine Zab ?_
   refine ZmE (r := .agg (Zga l[i].kind l[i].name vN l[i].n vP)) (by simp only [EV, Nat.reduceEqDiff, ↓reduceIte, he] <;> try rfl) Zqh Zmp ?_ ?_
   ·show (if 0 + 5 <= ((cs ++ rest).drop (i * 5)).length then some (AV.agg ((((cs ++ rest).drop (i * 5)).drop 0).take 5)) else none) = _
    rw [if_pos (by rw [List.length_drop, List.length_append]; omega), List.drop_zero, List.drop_append_of_le_length (by omega), List.take_append_of_le_length (by rw [List.length_drop]; omega), hcell]
   refine Zab ?_
   refine Zas (vs := [ptr bb 0, .agg (Zga l[i].kind l[i].name vN l[i].n vP)]) (by simp only [List.map_cons, List.map_nil, EV, Nat.reduceEqDiff, ↓reduceIte, he] <;> try rfl) ?_
   refine Zt0 (d := l[i].parts.flatten) I (by omega) (by omega) okn.i64 q1 (fun c hc => (q2 c hc).elim) hnlen ⟨q3, hpone.1⟩ ⟨q4, hpone.2⟩ (fun τ0 _ K' hK' => Zfh hvP hplen (by omega) K' hK') fun υ2 S' fs' pcs' pv' a I2 _ _ _ _ => ?_
   rw [<- hsn] at I2
   refine Zah ?_
   clear I
   apply Zgk 0 1 2 3 9 10
   ·simp only [EV, Nat.reduceEqDiff, ↓reduceIte, he] <;> try rfl
   ·simp only [EV, Nat.reduceEqDiff, ↓reduceIte, he] <;> try rfl
   ·simp only [EV, Nat.reduceEqDiff, ↓reduceIte, he] <;> try rfl
   ·simp only [EV, Nat.reduceEqDiff, ↓reduceIte, he] <;> try rfl
   ·simp only [EV, Nat.reduceEqDiff, ↓reduceIte, he] <;> try rfl
   ·simp only [EV, Nat.reduceEqDiff, ↓reduceIte, he] <;> try rfl
   clear he e
   intro e he
   have hgo : ∀ (env : Env) τ, (env 0 = .raw (.int .i64 size) /\ env 1 = .lst A l.length c (cs ++ rest) /\ env 2 = .raw (.int .i64 keep) /\ env 3 = .raw (.int .i64 more) /\ env 9 = ptr bb 0 /\ env 10 = vI i /\ env 53 = vT false) -> Ext υ2 τ -> Inv τ bb mb size S' fs' pcs' pv' (i + 1) (Zor (l.take (i + 1))) := fun env τ _ hX => I2.ext hX
   refine Zcq (fun env τ => (env 0 = .raw (.int .i64 size) /\ env 1 = .lst A l.length c (cs ++ rest) /\ env 2 = .raw (.int .i64 keep) /\ env 3 = .raw (.int .i64 more) /\ env 9 = ptr bb 0 /\ env 10 = vI i /\ env 53 = vT false) /\ Ext υ2 τ) ?_ ?_
   ·refine Zad ?_
    refine Zab (Zai rfl (by simp only [EV, Nat.reduceEqDiff, ↓reduceIte, he] <;> try rfl) ?_)
    refine Zab ?_
    refine ZlG (k := .i64) (a := size) (b := 0) (by simp only [EV, Nat.reduceEqDiff, ↓reduceIte, he] <;> try rfl) (by simp only [EV, Nat.reduceEqDiff, ↓reduceIte, he] <;> try rfl) ?_
    refine Zab (Zai rfl (by simp only [EV, Nat.reduceEqDiff, ↓reduceIte, he] <;> try rfl) ?_)
    by_cases hz : 0 < size
    ·rw [decide_eq_true hz]
     refine Zab (Zag (ZbV rfl (by simp only [EV, Nat.reduceEqDiff, ↓reduceIte, he] <;> try rfl)) ?_)
     refine Zai rfl (by simp only [EV, Nat.reduceEqDiff, ↓reduceIte, he] <;> try rfl) ?_
     refine Zab (Zag (ZbV rfl (by simp only [EV, Nat.reduceEqDiff, ↓reduceIte, he] <;> try rfl)) ?_)
     refine Zas (vs := [ptr bb 0]) (by simp only [List.map_cons, List.map_nil, EV, Nat.reduceEqDiff, ↓reduceIte, he] <;> try rfl) ?_
     refine Zrs I2 (by omega) (by omega) fun υ3 hX3 => ?_
     refine Zab (Zag (ZbV rfl (by simp only [EV, Nat.reduceEqDiff, ↓reduceIte, he] <;> try rfl)) ?_)
     refine Zai rfl (by simp only [EV, Nat.reduceEqDiff, ↓reduceIte, he] <;> try rfl) ?_
     refine Zab (Zag (ZbV rfl (by simp only [EV, Nat.reduceEqDiff, ↓reduceIte, he] <;> try rfl)) ?_)
     refine ZlG (k := .i64) (a := (sumD fs' : Int)) (b := size) (by simp only [EV, Nat.reduceEqDiff, ↓reduceIte, he] <;> try rfl) (by simp only [EV, Nat.reduceEqDiff, ↓reduceIte, he] <;> try rfl) ?_
     have hcap := I2.cap hz
     rw [decide_eq_false (by omega : ¬ size < (sumD fs' : Int))]
     refine Zab ?_
     refine ZbP (v := vT false) (by simp only [EV, Nat.reduceEqDiff, ↓reduceIte, he] <;> try rfl) (by simp only [EV, Nat.reduceEqDiff, ↓reduceIte, he] <;> try rfl) ?_
     refine Zah ?_
     exact ⟨rfl, ⟨by simp only [EV, Nat.reduceEqDiff, ↓reduceIte, he] <;> try rfl, by simp only [EV, Nat.reduceEqDiff, ↓reduceIte, he] <;> try rfl, by simp only [EV, Nat.reduceEqDiff, ↓reduceIte, he] <;> try rfl, by simp only [EV, Nat.reduceEqDiff, ↓reduceIte, he] <;> try rfl, by simp only [EV, Nat.reduceEqDiff, ↓reduceIte, he] <;> try rfl, by simp only [EV, Nat.reduceEqDiff, ↓reduceIte, he] <;> try rfl, by simp only [EV, Nat.reduceEqDiff, ↓reduceIte, he] <;> try rfl⟩, hX3⟩
    ·rw [decide_eq_false hz]
     refine Zab (ZcU (ZbV rfl (by simp only [EV, Nat.reduceEqDiff, ↓reduceIte, he] <;> try rfl)) ?_)
     refine Zab (ZcU (ZbV rfl (by simp only [EV, Nat.reduceEqDiff, ↓reduceIte, he] <;> try rfl)) ?_)
     refine Zab (ZcU (ZbV rfl (by simp only [EV, Nat.reduceEqDiff, ↓reduceIte, he] <;> try rfl)) ?_)
     refine Zab (ZcU (ZbV rfl (by simp only [EV, Nat.reduceEqDiff, ↓reduceIte, he] <;> try rfl)) ?_)
     refine Zab ?_
     refine Zb4 (v := vT false) (by simp only [EV, Nat.reduceEqDiff, ↓reduceIte, he] <;> try rfl) (by simp only [EV, Nat.reduceEqDiff, ↓reduceIte, he] <;> try rfl) ?_
     refine Zah ?_
     exact ⟨rfl, ⟨by simp only [EV, Nat.reduceEqDiff, ↓reduceIte, he] <;> try rfl, by simp only [EV, Nat.reduceEqDiff, ↓reduceIte, he] <;> try rfl, by simp only [EV, Nat.reduceEqDiff, ↓reduceIte, he] <;> try rfl, by simp only [EV, Nat.reduceEqDiff, ↓reduceIte, he] <;> try rfl, by simp only [EV, Nat.reduceEqDiff, ↓reduceIte, he] <;> try rfl, by simp only [EV, Nat.reduceEqDiff, ↓reduceIte, he] <;> try rfl, by simp only [EV, Nat.reduceEqDiff, ↓reduceIte, he] <;> try rfl⟩, .refl _⟩
   clear he e
   rintro e υ3 ⟨he, hX3⟩
   have I3 := I2.ext hX3
   refine ZbQ (t := false) (by simp only [EV, Nat.reduceEqDiff, ↓reduceIte, he] <;> try rfl) (fun hf => by cases hf) (fun _ => ?_)
   refine ZdC ?_
   show ZaI _ _ _ _ _ _
   refine Zad ?_
   refine Zab (Zai rfl (by simp only [EV, Nat.reduceEqDiff, ↓reduceIte, he] <;> try rfl) ?_)
   refine Zab ?_
   refine Zd4 i 1 (by simp only [EV, Nat.reduceEqDiff, ↓reduceIte, he] <;> try rfl) (by simp only [EV, Nat.reduceEqDiff, ↓reduceIte, he] <;> try rfl) (by omega) ?_
   refine Zab (Zai rfl (by simp only [EV, Nat.reduceEqDiff, ↓reduceIte, he] <;> try rfl) ?_)
   refine Zah ?_
   show ∃ n', n' < _ /\ _
   exact ⟨_, (by omega : l.length - (i + 1) < l.length - i), i + 1, S', fs', pcs', pv', rfl, hlt, ⟨by simp only [EV, Nat.reduceEqDiff, ↓reduceIte, he] <;> try rfl, by simp only [EV, Nat.reduceEqDiff, ↓reduceIte, he] <;> try rfl, by simp only [EV, Nat.reduceEqDiff, ↓reduceIte, he] <;> try rfl, by simp only [EV, Nat.reduceEqDiff, ↓reduceIte, he] <;> try rfl, by simp only [EV, Nat.reduceEqDiff, ↓reduceIte, he] <;> try rfl, by simp only [EV, Nat.reduceEqDiff, ↓reduceIte, he] <;> try rfl⟩, I3⟩
  ·refine ZdZ ?_
   exact ⟨rfl, S, fs, pcs, pv, ⟨by simp only [EV, Nat.reduceEqDiff, ↓reduceIte, he] <;> try rfl, by simp only [EV, Nat.reduceEqDiff, ↓reduceIte, he] <;> try rfl, by simp only [EV, Nat.reduceEqDiff, ↓reduceIte, he] <;> try rfl⟩, I.more (by omega) (by omega)⟩
 clear he e h4
 rintro e υ0 ⟨S, fs, pcs, pv, he, I0⟩
 have hfew := I0.few
 have hps := I0.pcs_ (by omega)
 have hfl := I0.file (by omega)
 have hLw : ∀ k : Nat, ((ZbG pcs : Int) - max (k : Int) 0).toNat = ZbG pcs - k := fun k => by omega
 first | refine Zaa ?_ | refine Zad ?_ | (refine Zac ?_; refine Zaa ?_) | (refine Zac ?_; refine Zac ?_; refine Zaa ?_)
 refine Zab (Zai rfl (by simp only [EV, Nat.reduceEqDiff, ↓reduceIte, he] <;> try rfl) ?_)
 refine Zab ?_
 refine Zas (vs := [ptr bb 0]) (by simp only [List.map_cons, List.map_nil, EV, Nat.reduceEqDiff, ↓reduceIte, he] <;> try rfl) ?_
 refine ZgM I0 (by omega) (by omega) fun m0 l0 υ1 T0 F0 hX1 hT0 hp0 => ?_
 refine Zab (Zai rfl (by simp only [EV, Nat.reduceEqDiff, ↓reduceIte, he] <;> try rfl) ?_)
 refine Zab ?_
 refine Zas (vs := [ptr bb 0]) (by simp only [List.map_cons, List.map_nil, EV, Nat.reduceEqDiff, ↓reduceIte, he] <;> try rfl) ?_
 refine Zfw (I0.ext hX1).disk hps (by omega) fun υ2 hX2 => ?_
 refine Zab (Zai rfl (by simp only [EV, Nat.reduceEqDiff, ↓reduceIte, he] <;> try rfl) ?_)
 refine Zab (Zai rfl (by simp only [EV, Nat.reduceEqDiff, ↓reduceIte, he] <;> try rfl) ?_)
 refine Zah ?_
 apply ZcI 2 3 9 11 12
 ·simp only [EV, Nat.reduceEqDiff, ↓reduceIte, he] <;> try rfl
 ·simp only [EV, Nat.reduceEqDiff, ↓reduceIte, he] <;> try rfl
 ·simp only [EV, Nat.reduceEqDiff, ↓reduceIte, he] <;> try rfl
 ·simp only [EV, Nat.reduceEqDiff, ↓reduceIte, he] <;> try rfl
 ·simp only [EV, Nat.reduceEqDiff, ↓reduceIte, he] <;> try rfl
 clear he e
 intro e he
 have I2 := (I0.ext hX1).ext hX2
 have F2 := F0.ext hX2
 have hTu2 : ∀ c, T0 c -> υ2.used c := fun c hc => hX2.used _ (hT0 c hc).2
 first | refine Zaa ?_ | refine Zad ?_ | (refine Zac ?_; refine Zaa ?_) | (refine Zac ?_; refine Zac ?_; refine Zaa ?_)
 refine Zab (Zai rfl (by simp only [EV, Nat.reduceEqDiff, ↓reduceIte, he] <;> try rfl) ?_)
 refine Zab ?_
 refine Zas (vs := [ptr bb 0]) (by simp only [List.map_cons, List.map_nil, EV, Nat.reduceEqDiff, ↓reduceIte, he] <;> try rfl) ?_
 refine Zmj I2.disk hfl (by omega) fun υ3 ba Sa fsa pca ma pva da Da hX3 hSa Ca => ?_
 have I3 := I2.ext hX3
 refine Zab (Zai rfl (by simp only [EV, Nat.reduceEqDiff, ↓reduceIte, he] <;> try rfl) ?_)
 refine Zab ?_
 refine Zas (vs := [ptr bb 0]) (by simp only [List.map_cons, List.map_nil, EV, Nat.reduceEqDiff, ↓reduceIte, he] <;> try rfl) ?_
 refine Zmj I3.disk hfl (by omega) fun υ4 bB Sb fsb pcb mB pvb db Db hX4 hSb Cb => ?_
 have I4 := I3.ext hX4
 refine Zab (Zai rfl (by simp only [EV, Nat.reduceEqDiff, ↓reduceIte, he] <;> try rfl) ?_)
 refine Zab ?_
 refine Zas (vs := [ptr bb 0]) (by simp only [List.map_cons, List.map_nil, EV, Nat.reduceEqDiff, ↓reduceIte, he] <;> try rfl) ?_
 refine Zmj I4.disk hfl (by omega) fun υ5 bc Sc fsc pcc mc pvc dc Dc hX5 hSc Cc => ?_
 refine Zab (Zai rfl (by simp only [EV, Nat.reduceEqDiff, ↓reduceIte, he] <;> try rfl) ?_)
 refine Zab (Zai rfl (by simp only [EV, Nat.reduceEqDiff, ↓reduceIte, he] <;> try rfl) ?_)
 refine Zab (Zai rfl (by simp only [EV, Nat.reduceEqDiff, ↓reduceIte, he] <;> try rfl) ?_)
 refine Zah ?_
 apply ZiK 2 3 9 11 12 13 14 15
 ·simp only [EV, Nat.reduceEqDiff, ↓reduceIte, he] <;> try rfl
 ·simp only [EV, Nat.reduceEqDiff, ↓reduceIte, he] <;> try rfl
 ·simp only [EV, Nat.reduceEqDiff, ↓reduceIte, he] <;> try rfl
 ·simp only [EV, Nat.reduceEqDiff, ↓reduceIte, he] <;> try rfl
 ·simp only [EV, Nat.reduceEqDiff, ↓reduceIte, he] <;> try rfl
 ·simp only [EV, Nat.reduceEqDiff, ↓reduceIte, he] <;> try rfl
 ·simp only [EV, Nat.reduceEqDiff, ↓reduceIte, he] <;> try rfl
 ·simp only [EV, Nat.reduceEqDiff, ↓reduceIte, he] <;> try rfl
 clear he e
 intro e he
 have Ia := (Ca.inv I2 Da fun x hx => (hSa x hx).2)
 have Ib := (Cb.inv I3 Db fun x hx => (hSb x hx).2)
 have Ic := (Cc.inv I4 Dc fun x hx => (hSc x hx).2)
 have wa := Ca.wf I2.disk Da I2.wf
 have wb := Cb.wf I3.disk Db I3.wf
 have dSa : ∀ c, S c -> ¬ Sa c := Zqs I2.used fun c hc => (hSa c hc).1
 have dTa : ∀ c, T0 c -> ¬ Sa c := Zqs hTu2 fun c hc => (hSa c hc).1
 have dSb : ∀ c, S c -> ¬ Sb c := Zqs I3.used fun c hc => (hSb c hc).1
 have dTb : ∀ c, T0 c -> ¬ Sb c := Zqs (fun c hc => hX3.used _ (hTu2 c hc)) fun c hc => (hSb c hc).1
 have dab : ∀ c, Sa c -> ¬ Sb c := Zqs Ia.used fun c hc => (hSb c hc).1
 have dSc : ∀ c, S c -> ¬ Sc c := Zqs I4.used fun c hc => (hSc c hc).1
 have dTc : ∀ c, T0 c -> ¬ Sc c := Zqs (fun c hc => hX4.used _ (hX3.used _ (hTu2 c hc))) fun c hc => (hSc c hc).1
 have dac : ∀ c, Sa c -> ¬ Sc c := Zqs (Ia.ext hX4).used fun c hc => (hSc c hc).1
 have dbc : ∀ c, Sb c -> ¬ Sc c := Zqs Ib.used fun c hc => (hSc c hc).1
 have dba : ∀ c, Sb c -> ¬ Sa c := fun c h1 h2 => dab c h2 h1
 have dca : ∀ c, Sc c -> ¬ Sa c := fun c h1 h2 => dac c h2 h1
 have dcb : ∀ c, Sc c -> ¬ Sb c := fun c h1 h2 => dbc c h2 h1
 first | refine Zaa ?_ | refine Zad ?_ | (refine Zac ?_; refine Zaa ?_) | (refine Zac ?_; refine Zac ?_; refine Zaa ?_)
 refine Zab (Zai rfl (by simp only [EV, Nat.reduceEqDiff, ↓reduceIte, he] <;> try rfl) ?_)
 refine Zab ?_
 refine Zas (vs := [.raw (.int .i64 keep), .raw (.int .i64 20000)]) (by simp only [List.map_cons, List.map_nil, EV, Nat.reduceEqDiff, ↓reduceIte, he] <;> try rfl) ?_
 refine Zms keep (by decide) (by decide) _ fun υ6 hX6 => ?_
 refine Zab (Zai rfl (by simp only [EV, Nat.reduceEqDiff, ↓reduceIte, he] <;> try rfl) ?_)
 refine Zah ?_
 have hk1 := (ZnE keep (n := 20000) (by decide) (by decide)).2
 have hk2 := (ZnE more (n := 20000) (by decide) (by decide)).2
 generalize Zhd keep 20000 = k at hk1 ⊢
 apply ZiK 3 9 11 12 13 14 15 16
 ·simp only [EV, Nat.reduceEqDiff, ↓reduceIte, he] <;> try rfl
 ·simp only [EV, Nat.reduceEqDiff, ↓reduceIte, he] <;> try rfl
 ·simp only [EV, Nat.reduceEqDiff, ↓reduceIte, he] <;> try rfl
 ·simp only [EV, Nat.reduceEqDiff, ↓reduceIte, he] <;> try rfl
 ·simp only [EV, Nat.reduceEqDiff, ↓reduceIte, he] <;> try rfl
 ·simp only [EV, Nat.reduceEqDiff, ↓reduceIte, he] <;> try rfl
 ·simp only [EV, Nat.reduceEqDiff, ↓reduceIte, he] <;> try rfl
 ·simp only [EV, Nat.reduceEqDiff, ↓reduceIte, he] <;> try rfl
 clear he e
 intro e he
 first | refine Zaa ?_ | refine Zad ?_ | (refine Zac ?_; refine Zaa ?_) | (refine Zac ?_; refine Zac ?_; refine Zaa ?_)
 refine Zab (Zai rfl (by simp only [EV, Nat.reduceEqDiff, ↓reduceIte, he] <;> try rfl) ?_)
 refine Zab (Zai rfl (by simp only [EV, Nat.reduceEqDiff, ↓reduceIte, he] <;> try rfl) ?_)
 refine Zab ?_
 refine Zas (vs := [.raw (.int .i64 more), .raw (.int .i64 20000)]) (by simp only [List.map_cons, List.map_nil, EV, Nat.reduceEqDiff, ↓reduceIte, he] <;> try rfl) ?_
 refine Zms more (by decide) (by decide) _ fun υ7 hX7 => ?_
 generalize Zhd more 20000 = k2 at hk2 ⊢
 refine Zab ?_
 refine Zd4 k k2 (by simp only [EV, Nat.reduceEqDiff, ↓reduceIte, he] <;> try rfl) (by simp only [EV, Nat.reduceEqDiff, ↓reduceIte, he] <;> try rfl) (by omega) ?_
 refine Zab (Zai rfl (by simp only [EV, Nat.reduceEqDiff, ↓reduceIte, he] <;> try rfl) ?_)
 refine Zah ?_
 apply ZiK 9 11 12 13 14 15 16 17
 ·simp only [EV, Nat.reduceEqDiff, ↓reduceIte, he] <;> try rfl
 ·simp only [EV, Nat.reduceEqDiff, ↓reduceIte, he] <;> try rfl
 ·simp only [EV, Nat.reduceEqDiff, ↓reduceIte, he] <;> try rfl
 ·simp only [EV, Nat.reduceEqDiff, ↓reduceIte, he] <;> try rfl
 ·simp only [EV, Nat.reduceEqDiff, ↓reduceIte, he] <;> try rfl
 ·simp only [EV, Nat.reduceEqDiff, ↓reduceIte, he] <;> try rfl
 ·simp only [EV, Nat.reduceEqDiff, ↓reduceIte, he] <;> try rfl
 ·simp only [EV, Nat.reduceEqDiff, ↓reduceIte, he] <;> try rfl
 clear he e
 intro e he
 have hX67 := hX6.trans hX7
 have hX57 := hX5.trans hX67
 have hX47 := hX4.trans hX57
 have J0 := I4.ext hX57
 have G0 := F2.ext (hX3.trans hX47)
 have Ja := Ia.ext hX47
 have Jb := Ib.ext hX57
 have Jc := Ic.ext hX67
 first | refine Zaa ?_ | refine Zad ?_ | (refine Zac ?_; refine Zaa ?_) | (refine Zac ?_; refine Zac ?_; refine Zaa ?_)
 refine Zab (Zai rfl (by simp only [EV, Nat.reduceEqDiff, ↓reduceIte, he] <;> try rfl) ?_)
 refine Zab (Zai rfl (by simp only [EV, Nat.reduceEqDiff, ↓reduceIte, he] <;> try rfl) ?_)
 refine Zab ?_
 refine Zas (vs := [ptr ba 0, vI k]) (by simp only [List.map_cons, List.map_nil, EV, Nat.reduceEqDiff, ↓reduceIte, he] <;> try rfl) ?_
 refine Zfx Ja.disk (by have := Ja.few; omega) Ja.wf (Ja.pcs_ (by omega)) (Ja.file (by omega)) (keep := (k : Int)) (by omega) fun υ8 fa Da8 hda hBa => ?_
 refine Zah ?_
 apply ZiK 9 11 12 13 14 15 16 17
 ·simp only [EV, Nat.reduceEqDiff, ↓reduceIte, he] <;> try rfl
 ·simp only [EV, Nat.reduceEqDiff, ↓reduceIte, he] <;> try rfl
 ·simp only [EV, Nat.reduceEqDiff, ↓reduceIte, he] <;> try rfl
 ·simp only [EV, Nat.reduceEqDiff, ↓reduceIte, he] <;> try rfl
 ·simp only [EV, Nat.reduceEqDiff, ↓reduceIte, he] <;> try rfl
 ·simp only [EV, Nat.reduceEqDiff, ↓reduceIte, he] <;> try rfl
 ·simp only [EV, Nat.reduceEqDiff, ↓reduceIte, he] <;> try rfl
 ·simp only [EV, Nat.reduceEqDiff, ↓reduceIte, he] <;> try rfl
 clear he e
 intro e he
 rw [wa.2.1, hLw] at hda
 have Ja8 := Ja.crashI Da8 hda hBa
 have J08 := J0.but hBa dSa
 have G08 := G0.but hBa dTa
 have Jb8 := Jb.but hBa dba
 have Jc8 := Jc.but hBa dca
 first | refine Zaa ?_ | refine Zad ?_ | (refine Zac ?_; refine Zaa ?_) | (refine Zac ?_; refine Zac ?_; refine Zaa ?_)
 refine Zab (Zai rfl (by simp only [EV, Nat.reduceEqDiff, ↓reduceIte, he] <;> try rfl) ?_)
 refine Zab (Zai rfl (by simp only [EV, Nat.reduceEqDiff, ↓reduceIte, he] <;> try rfl) ?_)
 refine Zab ?_
 refine Zas (vs := [ptr bB 0, vI ((k + k2 : Nat) : Int)]) (by simp only [List.map_cons, List.map_nil, EV, Nat.reduceEqDiff, ↓reduceIte, he] <;> try rfl) ?_
 refine Zfx Jb8.disk (by have := Jb8.few; omega) Jb8.wf (Jb8.pcs_ (by omega)) (Jb8.file (by omega)) (keep := ((k + k2 : Nat) : Int)) (by omega) fun υ9 fb Db9 hdb hBb => ?_
 refine Zah ?_
 apply ZoG 9 11 12 13 14 15 16
 ·simp only [EV, Nat.reduceEqDiff, ↓reduceIte, he] <;> try rfl
 ·simp only [EV, Nat.reduceEqDiff, ↓reduceIte, he] <;> try rfl
 ·simp only [EV, Nat.reduceEqDiff, ↓reduceIte, he] <;> try rfl
 ·simp only [EV, Nat.reduceEqDiff, ↓reduceIte, he] <;> try rfl
 ·simp only [EV, Nat.reduceEqDiff, ↓reduceIte, he] <;> try rfl
 ·simp only [EV, Nat.reduceEqDiff, ↓reduceIte, he] <;> try rfl
 ·simp only [EV, Nat.reduceEqDiff, ↓reduceIte, he] <;> try rfl
 clear he e
 intro e he
 rw [wb.2.1, hLw] at hdb
 have Jb9 := Jb8.crashI Db9 hdb hBb
 have J09 := J08.but hBb dSb
 have G09 := G08.but hBb dTb
 have Ja9 := Ja8.but hBb dab
 have Jc9 := Jc8.but hBb dcb
 clear J0 G0 Ja Jb Jc Ja8 J08 G08 Jb8 Jc8
 first | refine Zaa ?_ | refine Zad ?_ | (refine Zac ?_; refine Zaa ?_) | (refine Zac ?_; refine Zac ?_; refine Zaa ?_)
 refine Zab (Zai rfl (by simp only [EV, Nat.reduceEqDiff, ↓reduceIte, he] <;> try rfl) ?_)
 refine Zab (Zai rfl (by simp only [EV, Nat.reduceEqDiff, ↓reduceIte, he] <;> try rfl) ?_)
 refine Zab ?_
 refine Zas (vs := [ptr bc 0]) (by simp only [List.map_cons, List.map_nil, EV, Nat.reduceEqDiff, ↓reduceIte, he] <;> try rfl) ?_
 refine Zkn Jc9.disk (fun f hf => by have := Jc9.nms f hf; omega) (by have := Jc9.nfs; omega) fun v υ10 hv hX10 hnv => ?_
 have Jc10 := Jc9.ext hX10
 refine Zab ?_
 refine Zas (vs := [ptr bc 0, v]) (by simp only [List.map_cons, List.map_nil, EV, Nat.reduceEqDiff, ↓reduceIte, he] <;> try rfl) ?_
 refine ZpX Jc10.disk Jc10.used (by have := Jc10.few; omega) (ns := srt (fsc.map (·.nm))) (.inr hv) (fun c hc hs => (hnv c hc).2 (Jc9.used c hs)) (by
  rw [Zmr, (Zdb fsc).length_eq]
  have := Jc10.nfs
  omega) fun υ11 pv11 Dc11 hB11 => ?_
 rw [Zrp Jc10.disk] at Dc11 ⊢
 have Jc11 : Inv υ11 bc mc size Sc fsc [] pv11 300 20000 := Jc10.sub Dc11 hB11 (List.Sublist.refl _) (List.nil_sublist _)
 refine Zab ?_
 refine ZjA (k := .i64) (a := 0) (b := 0) (by simp only [EV, Nat.reduceEqDiff, ↓reduceIte, he] <;> try rfl) (by simp only [EV, Nat.reduceEqDiff, ↓reduceIte, he] <;> try rfl) ?_
 rw [decide_eq_false (by omega : ¬ (0 : Int) ≠ 0)]
 refine Zab (Zai rfl (by simp only [EV, Nat.reduceEqDiff, ↓reduceIte, he] <;> try rfl) ?_)
 refine Zab (Zag (ZbV rfl (by simp only [EV, Nat.reduceEqDiff, ↓reduceIte, he] <;> try rfl)) ?_)
 refine Zai rfl (by simp only [EV, Nat.reduceEqDiff, ↓reduceIte, he] <;> try rfl) ?_
 refine Zab (Zag (ZbV rfl (by simp only [EV, Nat.reduceEqDiff, ↓reduceIte, he] <;> try rfl)) ?_)
 refine Zas (vs := [ptr bc 0]) (by simp only [List.map_cons, List.map_nil, EV, Nat.reduceEqDiff, ↓reduceIte, he] <;> try rfl) ?_
 refine Zfw Jc11.disk (by decide) (by decide) fun υ12 hX12 => ?_
 refine Zab (Zag (ZbV rfl (by simp only [EV, Nat.reduceEqDiff, ↓reduceIte, he] <;> try rfl)) ?_)
 refine ZjA (k := .i64) (a := 0) (b := 0) (by simp only [EV, Nat.reduceEqDiff, ↓reduceIte, he] <;> try rfl) (by simp only [EV, Nat.reduceEqDiff, ↓reduceIte, he] <;> try rfl) ?_
 rw [decide_eq_false (by omega : ¬ (0 : Int) ≠ 0)]
 refine Zab ?_
 refine Zb4 (v := vT false) (by simp only [EV, Nat.reduceEqDiff, ↓reduceIte, he] <;> try rfl) (by simp only [EV, Nat.reduceEqDiff, ↓reduceIte, he] <;> try rfl) ?_
 refine Zah ?_
 apply ZiK 9 11 12 13 14 15 16 85
 ·simp only [EV, Nat.reduceEqDiff, ↓reduceIte, he] <;> try rfl
 ·simp only [EV, Nat.reduceEqDiff, ↓reduceIte, he] <;> try rfl
 ·simp only [EV, Nat.reduceEqDiff, ↓reduceIte, he] <;> try rfl
 ·simp only [EV, Nat.reduceEqDiff, ↓reduceIte, he] <;> try rfl
 ·simp only [EV, Nat.reduceEqDiff, ↓reduceIte, he] <;> try rfl
 ·simp only [EV, Nat.reduceEqDiff, ↓reduceIte, he] <;> try rfl
 ·simp only [EV, Nat.reduceEqDiff, ↓reduceIte, he] <;> try rfl
 ·simp only [EV, Nat.reduceEqDiff, ↓reduceIte, he] <;> try rfl
 clear he e
 intro e he
 refine ZaX (t := false) (by simp only [EV, Nat.reduceEqDiff, ↓reduceIte, he] <;> try rfl) (fun hf => by cases hf) (fun _ => ?_)
 refine Zbb ?_
 first | refine Zaa ?_ | refine Zad ?_ | (refine Zac ?_; refine Zaa ?_) | (refine Zac ?_; refine Zac ?_; refine Zaa ?_)
 refine Zab (Zai rfl (by simp only [EV, Nat.reduceEqDiff, ↓reduceIte, he] <;> try rfl) ?_)
 have Jc12 := Jc11.ext hX12
 refine Zab ?_
 refine Zas (vs := [ptr bc 0, .raw (.int .i64 0)]) (by simp only [List.map_cons, List.map_nil, EV, Nat.reduceEqDiff, ↓reduceIte, he] <;> try rfl) ?_
 refine Zfx Jc12.disk (by decide) Jc12.wf (by decide) (Jc12.file (by omega)) (keep := 0) (by decide) fun υ13 fc Dc13 hdc hB13 => ?_
 refine Zah ?_
 apply ZoG 9 11 12 13 14 15 16
 ·simp only [EV, Nat.reduceEqDiff, ↓reduceIte, he] <;> try rfl
 ·simp only [EV, Nat.reduceEqDiff, ↓reduceIte, he] <;> try rfl
 ·simp only [EV, Nat.reduceEqDiff, ↓reduceIte, he] <;> try rfl
 ·simp only [EV, Nat.reduceEqDiff, ↓reduceIte, he] <;> try rfl
 ·simp only [EV, Nat.reduceEqDiff, ↓reduceIte, he] <;> try rfl
 ·simp only [EV, Nat.reduceEqDiff, ↓reduceIte, he] <;> try rfl
 ·simp only [EV, Nat.reduceEqDiff, ↓reduceIte, he] <;> try rfl
 clear he e
 intro e he
 have Jc13 := Jc12.crashI Dc13 hdc hB13
 have hB93 : But Sc υ9 υ13 := ((hX10.but.trans hB11).trans hX12.but).trans hB13
 have J13 := J09.but hB93 dSc
 have G13 := G09.but hB93 dTc
 have Ja13 := Ja9.but hB93 dac
 have Jb13 := Jb9.but hB93 dbc
 clear J09 G09 Ja9 Jb9 Jc9 Jc10 Jc11 Jc12 hv hnv
 first | refine Zaa ?_ | refine Zad ?_ | (refine Zac ?_; refine Zaa ?_) | (refine Zac ?_; refine Zac ?_; refine Zaa ?_)
 refine Zab (Zai rfl (by simp only [EV, Nat.reduceEqDiff, ↓reduceIte, he] <;> try rfl) ?_)
 refine Zab ?_
 refine Zas (vs := [ptr ba 0]) (by simp only [List.map_cons, List.map_nil, EV, Nat.reduceEqDiff, ↓reduceIte, he] <;> try rfl) ?_
 refine ZgM Ja13 (by omega) (by omega) fun mx lx υ14 Tx Fx hX14 hTx hpx => ?_
 refine Zab (Zai rfl (by simp only [EV, Nat.reduceEqDiff, ↓reduceIte, he] <;> try rfl) ?_)
 refine Zab ?_
 refine Zas (vs := [ptr bB 0]) (by simp only [List.map_cons, List.map_nil, EV, Nat.reduceEqDiff, ↓reduceIte, he] <;> try rfl) ?_
 refine ZgM (Jb13.ext hX14) (by omega) (by omega) fun my ly υ15 Ty Fy hX15 hTy hpy => ?_
 refine Zab (Zai rfl (by simp only [EV, Nat.reduceEqDiff, ↓reduceIte, he] <;> try rfl) ?_)
 refine Zab ?_
 refine Zas (vs := [ptr bc 0]) (by simp only [List.map_cons, List.map_nil, EV, Nat.reduceEqDiff, ↓reduceIte, he] <;> try rfl) ?_
 refine ZgM (Jc13.ext (hX14.trans hX15)) (by omega) (by omega) fun mz lz υ16 Tz Fz hX16 hTz hpz => ?_
 refine Zab (Zai rfl (by simp only [EV, Nat.reduceEqDiff, ↓reduceIte, he] <;> try rfl) ?_)
 refine Zab (Zai rfl (by simp only [EV, Nat.reduceEqDiff, ↓reduceIte, he] <;> try rfl) ?_)
 refine Zab (Zai rfl (by simp only [EV, Nat.reduceEqDiff, ↓reduceIte, he] <;> try rfl) ?_)
 refine Zah ?_
 apply Zry 9 11 12 13 14 15 16 18 19 20
 ·simp only [EV, Nat.reduceEqDiff, ↓reduceIte, he] <;> try rfl
 ·simp only [EV, Nat.reduceEqDiff, ↓reduceIte, he] <;> try rfl
 ·simp only [EV, Nat.reduceEqDiff, ↓reduceIte, he] <;> try rfl
 ·simp only [EV, Nat.reduceEqDiff, ↓reduceIte, he] <;> try rfl
 ·simp only [EV, Nat.reduceEqDiff, ↓reduceIte, he] <;> try rfl
 ·simp only [EV, Nat.reduceEqDiff, ↓reduceIte, he] <;> try rfl
 ·simp only [EV, Nat.reduceEqDiff, ↓reduceIte, he] <;> try rfl
 ·simp only [EV, Nat.reduceEqDiff, ↓reduceIte, he] <;> try rfl
 ·simp only [EV, Nat.reduceEqDiff, ↓reduceIte, he] <;> try rfl
 ·simp only [EV, Nat.reduceEqDiff, ↓reduceIte, he] <;> try rfl
 clear he e
 intro e he
 have hX36 := (hX14.trans hX15).trans hX16
 have J16 := J13.ext hX36
 have G16 := G13.ext hX36
 have Ja16 := Ja13.ext hX36
 have Jb16 := Jb13.ext hX36
 have Fx16 := Fx.ext (hX15.trans hX16)
 have Fy16 := Fy.ext hX16
 obtain ⟨hlx, hrx⟩ := Zju I2.disk I2.wf Da Ca hda hp0 hpx
 obtain ⟨hly, hry⟩ := Zju I3.disk I3.wf Db Cb hdb hp0 hpy
 obtain ⟨hlz, hrz⟩ := Zmu I4.disk I4.wf Dc Cc hdc hp0 hpz
 have hsumL := Zqi I2.disk hp0 (ZbG pcs - k)
 generalize hLX : Zfo fs pcs (ZbG pcs - k) = LX at hrx hsumL
 have hmono : ∀ n, Zfo fs pcs (ZbG pcs - (k + k2)) n <= LX n := fun n => by
  rw [<- hLX]
  exact Zoq (by omega)
 generalize hLY : Zfo fs pcs (ZbG pcs - (k + k2)) = LY at hry hmono
 have hrl : ∀ r ∈ l0, r.d.length <= 20000 := fun r hr => by
  obtain ⟨f, hf, e⟩ := List.mem_map.1 (hp0.mem_iff.1 (List.mem_map.2 ⟨r, hr, rfl⟩))
  injection e with q1 q2
  rw [<- q2]
  have := ZeH hf
  have := I0.sum
  omega
 first | refine Zaa ?_ | refine Zad ?_ | (refine Zac ?_; refine Zaa ?_) | (refine Zac ?_; refine Zac ?_; refine Zaa ?_)
 refine Zab (Zai rfl (by simp only [EV, Nat.reduceEqDiff, ↓reduceIte, he] <;> try rfl) ?_)
 refine Zjs rfl (by simp only [EV, Nat.reduceEqDiff, ↓reduceIte, he] <;> try rfl) Fx16.map (Zci _) rfl Zdl ?_
 refine Zab (Zai rfl (by simp only [EV, Nat.reduceEqDiff, ↓reduceIte, he] <;> try rfl) ?_)
 refine Zjs rfl (by simp only [EV, Nat.reduceEqDiff, ↓reduceIte, he] <;> try rfl) G16.map (Zci _) rfl Zdl ?_
 rw [Zfz, Zfz, hlx]
 refine Zab ?_
 refine ZjA (k := .i64) (a := (l0.length : Int)) (b := (l0.length : Int)) (by simp only [EV, Nat.reduceEqDiff, ↓reduceIte, he] <;> try rfl) (by simp only [EV, Nat.reduceEqDiff, ↓reduceIte, he] <;> try rfl) ?_
 rw [decide_eq_false (fun q => q rfl)]
 refine Zab (Zai rfl (by simp only [EV, Nat.reduceEqDiff, ↓reduceIte, he] <;> try rfl) ?_)
 refine Zab (Zag (ZbV rfl (by simp only [EV, Nat.reduceEqDiff, ↓reduceIte, he] <;> try rfl)) ?_)
 refine Zai rfl (by simp only [EV, Nat.reduceEqDiff, ↓reduceIte, he] <;> try rfl) ?_
 refine Zjs (Zgj (ZbV rfl (by simp only [EV, Nat.reduceEqDiff, ↓reduceIte, he] <;> try rfl))) (by simp only [EV, Nat.reduceEqDiff, ↓reduceIte, he] <;> try rfl) Fy16.map (Zci _) rfl Zdl ?_
 refine Zab (Zag (ZbV rfl (by simp only [EV, Nat.reduceEqDiff, ↓reduceIte, he] <;> try rfl)) ?_)
 refine Zai rfl (by simp only [EV, Nat.reduceEqDiff, ↓reduceIte, he] <;> try rfl) ?_
 refine Zjs (Zgj (ZbV rfl (by simp only [EV, Nat.reduceEqDiff, ↓reduceIte, he] <;> try rfl))) (by simp only [EV, Nat.reduceEqDiff, ↓reduceIte, he] <;> try rfl) G16.map (Zci _) rfl Zdl ?_
 rw [Zfz, Zfz, hly]
 refine Zab (Zag (ZbV rfl (by simp only [EV, Nat.reduceEqDiff, ↓reduceIte, he] <;> try rfl)) ?_)
 refine ZjA (k := .i64) (a := (l0.length : Int)) (b := (l0.length : Int)) (by simp only [EV, Nat.reduceEqDiff, ↓reduceIte, he] <;> try rfl) (by simp only [EV, Nat.reduceEqDiff, ↓reduceIte, he] <;> try rfl) ?_
 rw [decide_eq_false (fun q => q rfl)]
 refine Zab ?_
 refine Zb4 (v := vT false) (by simp only [EV, Nat.reduceEqDiff, ↓reduceIte, he] <;> try rfl) (by simp only [EV, Nat.reduceEqDiff, ↓reduceIte, he] <;> try rfl) ?_
 refine Zab (Zai rfl (by simp only [EV, Nat.reduceEqDiff, ↓reduceIte, he] <;> try rfl) ?_)
 refine Zab (Zag (ZbV rfl (by simp only [EV, Nat.reduceEqDiff, ↓reduceIte, he] <;> try rfl)) ?_)
 refine Zai rfl (by simp only [EV, Nat.reduceEqDiff, ↓reduceIte, he] <;> try rfl) ?_
 refine Zjs (Zgj (ZbV rfl (by simp only [EV, Nat.reduceEqDiff, ↓reduceIte, he] <;> try rfl))) (by simp only [EV, Nat.reduceEqDiff, ↓reduceIte, he] <;> try rfl) Fz.map (Zci _) rfl Zdl ?_
 refine Zab (Zag (ZbV rfl (by simp only [EV, Nat.reduceEqDiff, ↓reduceIte, he] <;> try rfl)) ?_)
 refine Zai rfl (by simp only [EV, Nat.reduceEqDiff, ↓reduceIte, he] <;> try rfl) ?_
 refine Zjs (Zgj (ZbV rfl (by simp only [EV, Nat.reduceEqDiff, ↓reduceIte, he] <;> try rfl))) (by simp only [EV, Nat.reduceEqDiff, ↓reduceIte, he] <;> try rfl) G16.map (Zci _) rfl Zdl ?_
 rw [Zfz, Zfz, hlz]
 refine Zab (Zag (ZbV rfl (by simp only [EV, Nat.reduceEqDiff, ↓reduceIte, he] <;> try rfl)) ?_)
 refine ZjA (k := .i64) (a := (l0.length : Int)) (b := (l0.length : Int)) (by simp only [EV, Nat.reduceEqDiff, ↓reduceIte, he] <;> try rfl) (by simp only [EV, Nat.reduceEqDiff, ↓reduceIte, he] <;> try rfl) ?_
 rw [decide_eq_false (fun q => q rfl)]
 refine Zab ?_
 refine Zb4 (v := vT false) (by simp only [EV, Nat.reduceEqDiff, ↓reduceIte, he] <;> try rfl) (by simp only [EV, Nat.reduceEqDiff, ↓reduceIte, he] <;> try rfl) ?_
 refine Zab (Zai rfl (by simp only [EV, Nat.reduceEqDiff, ↓reduceIte, he] <;> try rfl) ?_)
 refine Zab (Zag (ZbV rfl (by simp only [EV, Nat.reduceEqDiff, ↓reduceIte, he] <;> try rfl)) ?_)
 refine Zai rfl (by simp only [EV, Nat.reduceEqDiff, ↓reduceIte, he] <;> try rfl) ?_
 refine Zab (Zag (ZbV rfl (by simp only [EV, Nat.reduceEqDiff, ↓reduceIte, he] <;> try rfl)) ?_)
 refine Zas (vs := [ptr ba 0]) (by simp only [List.map_cons, List.map_nil, EV, Nat.reduceEqDiff, ↓reduceIte, he] <;> try rfl) ?_
 refine Zfw Ja16.disk (by decide) (by decide) fun υ17 hX17 => ?_
 refine Zab (Zag (ZbV rfl (by simp only [EV, Nat.reduceEqDiff, ↓reduceIte, he] <;> try rfl)) ?_)
 refine ZjA (k := .i64) (a := 0) (b := 0) (by simp only [EV, Nat.reduceEqDiff, ↓reduceIte, he] <;> try rfl) (by simp only [EV, Nat.reduceEqDiff, ↓reduceIte, he] <;> try rfl) ?_
 rw [decide_eq_false (by omega : ¬ (0 : Int) ≠ 0)]
 refine Zab ?_
 refine Zb4 (v := vT false) (by simp only [EV, Nat.reduceEqDiff, ↓reduceIte, he] <;> try rfl) (by simp only [EV, Nat.reduceEqDiff, ↓reduceIte, he] <;> try rfl) ?_
 refine Zab (Zai rfl (by simp only [EV, Nat.reduceEqDiff, ↓reduceIte, he] <;> try rfl) ?_)
 refine Zab (Zag (ZbV rfl (by simp only [EV, Nat.reduceEqDiff, ↓reduceIte, he] <;> try rfl)) ?_)
 refine Zai rfl (by simp only [EV, Nat.reduceEqDiff, ↓reduceIte, he] <;> try rfl) ?_
 refine Zab (Zag (ZbV rfl (by simp only [EV, Nat.reduceEqDiff, ↓reduceIte, he] <;> try rfl)) ?_)
 refine Zas (vs := [ptr bB 0]) (by simp only [List.map_cons, List.map_nil, EV, Nat.reduceEqDiff, ↓reduceIte, he] <;> try rfl) ?_
 refine Zfw (Jb16.ext hX17).disk (by decide) (by decide) fun υ18 hX18 => ?_
 refine Zab (Zag (ZbV rfl (by simp only [EV, Nat.reduceEqDiff, ↓reduceIte, he] <;> try rfl)) ?_)
 refine ZjA (k := .i64) (a := 0) (b := 0) (by simp only [EV, Nat.reduceEqDiff, ↓reduceIte, he] <;> try rfl) (by simp only [EV, Nat.reduceEqDiff, ↓reduceIte, he] <;> try rfl) ?_
 rw [decide_eq_false (by omega : ¬ (0 : Int) ≠ 0)]
 refine Zab ?_
 refine Zb4 (v := vT false) (by simp only [EV, Nat.reduceEqDiff, ↓reduceIte, he] <;> try rfl) (by simp only [EV, Nat.reduceEqDiff, ↓reduceIte, he] <;> try rfl) ?_
 refine Zab (Zai rfl (by simp only [EV, Nat.reduceEqDiff, ↓reduceIte, he] <;> try rfl) ?_)
 refine Zab (Zag (ZbV rfl (by simp only [EV, Nat.reduceEqDiff, ↓reduceIte, he] <;> try rfl)) ?_)
 refine Zai rfl (by simp only [EV, Nat.reduceEqDiff, ↓reduceIte, he] <;> try rfl) ?_
 refine Zab (Zag (ZbV rfl (by simp only [EV, Nat.reduceEqDiff, ↓reduceIte, he] <;> try rfl)) ?_)
 refine Zas (vs := [ptr bb 0]) (by simp only [List.map_cons, List.map_nil, EV, Nat.reduceEqDiff, ↓reduceIte, he] <;> try rfl) ?_
 refine Zfw ((J16.ext hX17).ext hX18).disk hps (by omega) fun υ19 hX19 => ?_
 refine Zab (Zag (ZbV rfl (by simp only [EV, Nat.reduceEqDiff, ↓reduceIte, he] <;> try rfl)) ?_)
 refine Zai rfl (by simp only [EV, Nat.reduceEqDiff, ↓reduceIte, he] <;> try rfl) ?_
 refine Zab (Zag (ZbV rfl (by simp only [EV, Nat.reduceEqDiff, ↓reduceIte, he] <;> try rfl)) ?_)
 refine ZjA (k := .i64) (a := (ZbG pcs : Int)) (b := (ZbG pcs : Int)) (by simp only [EV, Nat.reduceEqDiff, ↓reduceIte, he] <;> try rfl) (by simp only [EV, Nat.reduceEqDiff, ↓reduceIte, he] <;> try rfl) ?_
 rw [decide_eq_false (fun q => q rfl)]
 refine Zab ?_
 refine Zb4 (v := vT false) (by simp only [EV, Nat.reduceEqDiff, ↓reduceIte, he] <;> try rfl) (by simp only [EV, Nat.reduceEqDiff, ↓reduceIte, he] <;> try rfl) ?_
 refine Zah ?_
 apply ZiK 11 12 13 16 18 19 20 128
 ·simp only [EV, Nat.reduceEqDiff, ↓reduceIte, he] <;> try rfl
 ·simp only [EV, Nat.reduceEqDiff, ↓reduceIte, he] <;> try rfl
 ·simp only [EV, Nat.reduceEqDiff, ↓reduceIte, he] <;> try rfl
 ·simp only [EV, Nat.reduceEqDiff, ↓reduceIte, he] <;> try rfl
 ·simp only [EV, Nat.reduceEqDiff, ↓reduceIte, he] <;> try rfl
 ·simp only [EV, Nat.reduceEqDiff, ↓reduceIte, he] <;> try rfl
 ·simp only [EV, Nat.reduceEqDiff, ↓reduceIte, he] <;> try rfl
 ·simp only [EV, Nat.reduceEqDiff, ↓reduceIte, he] <;> try rfl
 clear he e
 intro e he
 refine ZaX (t := false) (by simp only [EV, Nat.reduceEqDiff, ↓reduceIte, he] <;> try rfl) (fun hf => by cases hf) (fun _ => ?_)
 refine Zbb ?_
 have hX79 := (hX17.trans hX18).trans hX19
 have G19 := G16.ext hX79
 have Ja19 := Ja16.ext hX79
 have Fx19 := Fx16.ext hX79
 have Fy19 := Fy16.ext hX79
 have Fz19 := Fz.ext hX79
 have hTx19 : ∀ c, Tx c -> υ19.used c := fun c hc => hX79.used _ (hX16.used _ (hX15.used _ (hTx c hc).2))
 have hTy19 : ∀ c, Ty c -> υ19.used c := fun c hc => hX79.used _ (hX16.used _ (hTy c hc).2)
 have hTz19 : ∀ c, Tz c -> υ19.used c := fun c hc => hX79.used _ (hTz c hc).2
 have hm13 : υ13.used m0 := G13.used
 have n0x : ¬ Tx m0 := fun q => (hTx _ q).1.2 hm13
 have n0y : ¬ Ty m0 := fun q => (hTy _ q).1.2 (hX14.used _ hm13)
 have n0z : ¬ Tz m0 := fun q => (hTz _ q).1.2 (hX15.used _ (hX14.used _ hm13))
 have n0a : ¬ Sa m0 := dTa _ F0.own.1
 have dxa : ∀ c, Sa c -> ¬ Tx c := Zqs Ja13.used fun c hc => (hTx c hc).1
 clear G16 Ja16 J16 Jb16 Fx16 Fy16 Fz J13 G13 Jb13 Jc13 Ib Ic I3 I4
 first | refine Zaa ?_ | refine Zad ?_ | (refine Zac ?_; refine Zaa ?_) | (refine Zac ?_; refine Zac ?_; refine Zaa ?_)
 refine Zab (Zai rfl (by simp only [EV, Nat.reduceEqDiff, ↓reduceIte, he] <;> try rfl) ?_)
 refine Zah ?_
 apply ZiK 11 12 13 16 18 19 20 21
 ·simp only [EV, Nat.reduceEqDiff, ↓reduceIte, he] <;> try rfl
 ·simp only [EV, Nat.reduceEqDiff, ↓reduceIte, he] <;> try rfl
 ·simp only [EV, Nat.reduceEqDiff, ↓reduceIte, he] <;> try rfl
 ·simp only [EV, Nat.reduceEqDiff, ↓reduceIte, he] <;> try rfl
 ·simp only [EV, Nat.reduceEqDiff, ↓reduceIte, he] <;> try rfl
 ·simp only [EV, Nat.reduceEqDiff, ↓reduceIte, he] <;> try rfl
 ·simp only [EV, Nat.reduceEqDiff, ↓reduceIte, he] <;> try rfl
 ·simp only [EV, Nat.reduceEqDiff, ↓reduceIte, he] <;> try rfl
 clear he e
 intro e he
 first | refine Zaa ?_ | refine Zad ?_ | (refine Zac ?_; refine Zaa ?_) | (refine Zac ?_; refine Zac ?_; refine Zaa ?_)
 refine Zab (Zai rfl (by simp only [EV, Nat.reduceEqDiff, ↓reduceIte, he] <;> try rfl) ?_)
 refine Zki (b := m0) (es := ZfF (ZfR l0)) (by simp only [EV, Nat.reduceEqDiff, ↓reduceIte, he] <;> try rfl) G19.map (Zci _) Zdl fun arr c1 ib υ20 hM hui hni hne hpin hit huib hB20 => ?_
 refine Zah ?_
 apply ZiK 12 13 16 18 19 20 21 130
 ·simp only [EV, Nat.reduceEqDiff, ↓reduceIte, he] <;> try rfl
 ·simp only [EV, Nat.reduceEqDiff, ↓reduceIte, he] <;> try rfl
 ·simp only [EV, Nat.reduceEqDiff, ↓reduceIte, he] <;> try rfl
 ·simp only [EV, Nat.reduceEqDiff, ↓reduceIte, he] <;> try rfl
 ·simp only [EV, Nat.reduceEqDiff, ↓reduceIte, he] <;> try rfl
 ·simp only [EV, Nat.reduceEqDiff, ↓reduceIte, he] <;> try rfl
 ·simp only [EV, Nat.reduceEqDiff, ↓reduceIte, he] <;> try rfl
 ·simp only [EV, Nat.reduceEqDiff, ↓reduceIte, he] <;> try rfl
 clear he e
 intro e he
 have hne' : m0 ≠ ib := fun q => hne q.symm
 have nbx : ¬ Tx ib := fun q => hui (hTx19 _ q)
 have nby : ¬ Ty ib := fun q => hui (hTy19 _ q)
 have nbz : ¬ Tz ib := fun q => hui (hTz19 _ q)
 have nba : ¬ Sa ib := fun q => hui (Ja19.used _ q)
 refine Zcq (fun env υ => (env 12 = vI (ZbG pcs) /\ env 13 = ptr ba 0 /\ env 16 = vI k /\ env 18 = Zbv mx /\ env 21 = vI ((l0.map fun r => LX r.nm).sum : Nat)) /\ Zjr υ Tx mx lx /\ Inv υ ba ma size Sa fa [] (.lst none 0 0 []) 300 20000 /\ ∀ c, υ19.used c -> υ.used c) ?_ ?_
 ·refine ZbB ?_
  refine ZcV (fun μ env υ => ∃ done seen D, μ = (leftOf arr seen).size /\ (env 12 = vI (ZbG pcs) /\ env 13 = ptr ba 0 /\ env 16 = vI k /\ env 18 = Zbv mx /\ env 19 = Zbv my /\ env 20 = Zbv mz /\ env 21 = vI ((done.map fun r => LX r.nm).sum : Nat) /\ env 130 = ptr ib 0) /\ RL arr c1 m0 ib l0 υ done seen D /\ Zjr υ Tx mx lx /\ Zjr υ Ty my ly /\ Zjr υ Tz mz lz /\ Inv υ ba ma size Sa fa [] (.lst none 0 0 []) 300 20000 /\ (∀ r ∈ l0, Hd υ 5 1 r.v r.d.length (bys r.d) /\ hbk r.v ≠ some ib) /\ ∀ c, υ19.used c -> υ.used c) ⟨_, [], #[], [], rfl, (by simp only [List.map_nil, List.sum_nil]; exact he), ⟨G19.nn, hM, .nil arr, rfl, (fun r hr => by cases hr), hit, hpin⟩, Fx19.but hB20 (fun c hc q => n0x (q ▸ hc)), Fy19.but hB20 (fun c hc q => n0y (q ▸ hc)), Fz19.but hB20 (fun c hc q => n0z (q ▸ hc)), Ja19.but hB20 (fun c hc q => n0a (q ▸ hc)), fun r hr => ⟨(G19.row r hr).but hB20 fun c hc q => ?_, fun q => hui ((G19.row r hr).used q)⟩, hB20.used⟩ ?_
  ·obtain ⟨all, hall⟩ := (G19.row r hr).blk hc
   exact ZbM hall G19.map q
  clear he e hpin hit huib hB20 Fx19 Fy19 Fz19 Ja19
  rintro _ e υ ⟨done, seen, D, rfl, he, R, FX, FY, FZ, JA, HR, HU⟩
  first | refine Zaa ?_ | refine Zad ?_ | (refine Zac ?_; refine Zaa ?_) | (refine Zac ?_; refine Zac ?_; refine Zaa ?_)
  refine Zmh (b := m0) (ib := ib) (es := ZfF (ZfR l0)) (by simp only [EV, Nat.reduceEqDiff, ↓reduceIte, he] <;> try rfl) R.iter R.held R.at_ (Zci _) (fun x hx => R.at_.2.1 _ (List.mem_map.2 ⟨x, hx, rfl⟩)) (Nat.le_refl _) (fun hz υ1 hmap hB1 => ?_) fun en hen υ1 hit1 hB1 => ?_
  ·refine Zab ?_
   refine Za0 (l := [vT false]) (by simp only [EV, Nat.reduceEqDiff, ↓reduceIte, he] <;> try rfl) rfl ?_
   refine Zah ?_
   apply Zto 12 13 16 18 19 20 21 130 132
   ·simp only [EV, Nat.reduceEqDiff, ↓reduceIte, he] <;> try rfl
   ·simp only [EV, Nat.reduceEqDiff, ↓reduceIte, he] <;> try rfl
   ·simp only [EV, Nat.reduceEqDiff, ↓reduceIte, he] <;> try rfl
   ·simp only [EV, Nat.reduceEqDiff, ↓reduceIte, he] <;> try rfl
   ·simp only [EV, Nat.reduceEqDiff, ↓reduceIte, he] <;> try rfl
   ·simp only [EV, Nat.reduceEqDiff, ↓reduceIte, he] <;> try rfl
   ·simp only [EV, Nat.reduceEqDiff, ↓reduceIte, he] <;> try rfl
   ·simp only [EV, Nat.reduceEqDiff, ↓reduceIte, he] <;> try rfl
   ·simp only [EV, Nat.reduceEqDiff, ↓reduceIte, he] <;> try rfl
   clear he e
   intro e he
   refine ZaX (t := false) (by simp only [EV, Nat.reduceEqDiff, ↓reduceIte, he] <;> try rfl) (fun hf => by cases hf) (fun _ => ?_)
   refine ZdZ ?_
   have hs := ((R.perm hz).map fun r => LX r.nm).sum_nat
   refine ⟨rfl, ⟨by simp only [EV, Nat.reduceEqDiff, ↓reduceIte, he] <;> try rfl, by simp only [EV, Nat.reduceEqDiff, ↓reduceIte, he] <;> try rfl, by simp only [EV, Nat.reduceEqDiff, ↓reduceIte, he] <;> try rfl, by simp only [EV, Nat.reduceEqDiff, ↓reduceIte, he] <;> try rfl, ?_⟩, FX.but hB1 fun c hc q => n0x (q ▸ hc), JA.but hB1 fun c hc q => n0a (q ▸ hc), fun c hc => hB1.used _ (HU c hc)⟩
   rw [<- hs]
   simp only [EV, Nat.reduceEqDiff, ↓reduceIte, he] <;> try rfl
  ·obtain ⟨m1, m2⟩ := mem_left hen
   obtain ⟨r, hr, hek, hev⟩ := R.row m1
   have R1 := R.push hen hr hek hev hit1 hB1 hne'
   have FX1 := FX.but hB1 fun c hc q => nbx (q ▸ hc)
   have FY1 := FY.but hB1 fun c hc q => nby (q ▸ hc)
   have FZ1 := FZ.but hB1 fun c hc q => nbz (q ▸ hc)
   have JA1 := JA.but hB1 fun c hc q => nba (q ▸ hc)
   have HR1 : ∀ r ∈ l0, Hd υ1 5 1 r.v r.d.length (bys r.d) /\ hbk r.v ≠ some ib := fun r hr => ⟨(HR r hr).1.but hB1 fun c hc q => (HR r hr).2 (by rw [hc, q]), (HR r hr).2⟩
   have HU1 : ∀ c, υ19.used c -> υ1.used c := fun c hc => hB1.used _ (HU c hc)
   refine Zab ?_
   refine Za0 (l := [vT true, .raw en.key, .raw en.val]) (by simp only [EV, Nat.reduceEqDiff, ↓reduceIte, he] <;> try rfl) rfl ?_
   refine Zah ?_
   apply Zto 12 13 16 18 19 20 21 130 132
   ·simp only [EV, Nat.reduceEqDiff, ↓reduceIte, he] <;> try rfl
   ·simp only [EV, Nat.reduceEqDiff, ↓reduceIte, he] <;> try rfl
   ·simp only [EV, Nat.reduceEqDiff, ↓reduceIte, he] <;> try rfl
   ·simp only [EV, Nat.reduceEqDiff, ↓reduceIte, he] <;> try rfl
   ·simp only [EV, Nat.reduceEqDiff, ↓reduceIte, he] <;> try rfl
   ·simp only [EV, Nat.reduceEqDiff, ↓reduceIte, he] <;> try rfl
   ·simp only [EV, Nat.reduceEqDiff, ↓reduceIte, he] <;> try rfl
   ·simp only [EV, Nat.reduceEqDiff, ↓reduceIte, he] <;> try rfl
   ·simp only [EV, Nat.reduceEqDiff, ↓reduceIte, he] <;> try rfl
   clear he e
   intro e he
   refine ZaX (t := true) (by simp only [EV, Nat.reduceEqDiff, ↓reduceIte, he] <;> try rfl) (fun _ => ?_) (fun hf => by cases hf)
   refine Zbb ?_
   refine ZbB ?_
   obtain ⟨hD1, hD2⟩ := HR1 r hr
   first | refine Zaa ?_ | refine Zad ?_ | (refine Zac ?_; refine Zaa ?_) | (refine Zac ?_; refine Zac ?_; refine Zaa ?_)
   refine Zmg (b := m0) (ib := ib) (e := en) (kv := .raw (sV r.nm)) (vv := r.v) (by simp only [EV, Nat.reduceEqDiff, ↓reduceIte, he] <;> try rfl) R1.iter R1.held m1 R1.at_.2.2 (by rw [hek]; rfl) (by rw [hev]) (fun w B => Zak _) hD1.validV ?_
   refine Zab ?_
   refine Za0 (l := [.raw (sV r.nm), r.v]) (by simp only [EV, Nat.reduceEqDiff, ↓reduceIte, he] <;> try rfl) rfl ?_
   refine Zab ?_
   refine Za0 (l := [.raw (sV r.nm), r.v]) (by simp only [EV, Nat.reduceEqDiff, ↓reduceIte, he] <;> try rfl) rfl ?_
   refine Zab (Zai rfl (by simp only [EV, Nat.reduceEqDiff, ↓reduceIte, he] <;> try rfl) ?_)
   refine Zab (Zai rfl (by simp only [EV, Nat.reduceEqDiff, ↓reduceIte, he] <;> try rfl) ?_)
   refine Zah ?_
   apply Zry 12 13 16 18 19 20 21 22 23 130
   ·simp only [EV, Nat.reduceEqDiff, ↓reduceIte, he] <;> try rfl
   ·simp only [EV, Nat.reduceEqDiff, ↓reduceIte, he] <;> try rfl
   ·simp only [EV, Nat.reduceEqDiff, ↓reduceIte, he] <;> try rfl
   ·simp only [EV, Nat.reduceEqDiff, ↓reduceIte, he] <;> try rfl
   ·simp only [EV, Nat.reduceEqDiff, ↓reduceIte, he] <;> try rfl
   ·simp only [EV, Nat.reduceEqDiff, ↓reduceIte, he] <;> try rfl
   ·simp only [EV, Nat.reduceEqDiff, ↓reduceIte, he] <;> try rfl
   ·simp only [EV, Nat.reduceEqDiff, ↓reduceIte, he] <;> try rfl
   ·simp only [EV, Nat.reduceEqDiff, ↓reduceIte, he] <;> try rfl
   ·simp only [EV, Nat.reduceEqDiff, ↓reduceIte, he] <;> try rfl
   clear he e
   intro e he
   obtain ⟨hLx, rx, hrx1, hrx2, hrx3⟩ := hrx r hr
   obtain ⟨hLy, ry, hry1, hry2, hry3⟩ := hry r hr
   obtain ⟨rz, hrz1, hrz2, hrz3⟩ := hrz r hr
   have hgx : Zmo (ZfR lx) r.nm = some rx.v := by rw [<- hrx2]; exact ZgL FX.nn rx hrx1
   have hgy : Zmo (ZfR ly) r.nm = some ry.v := by rw [<- hry2]; exact ZgL FY.nn ry hry1
   have hgz : Zmo (ZfR lz) r.nm = some rz.v := by rw [<- hrz2]; exact ZgL FZ.nn rz hrz1
   have hrl1 := hrl r hr
   have hlx1 : rx.d.length = r.d.length - LX r.nm := by rw [hrx3, List.length_take]; omega
   have hly1 : ry.d.length = r.d.length - LY r.nm := by rw [hry3, List.length_take]; omega
   have hmn := hmono r.nm
   first | refine Zaa ?_ | refine Zad ?_ | (refine Zac ?_; refine Zaa ?_) | (refine Zac ?_; refine Zac ?_; refine Zaa ?_)
   refine Zab (Zai rfl (by simp only [EV, Nat.reduceEqDiff, ↓reduceIte, he] <;> try rfl) ?_)
   refine Zab (Zai rfl (by simp only [EV, Nat.reduceEqDiff, ↓reduceIte, he] <;> try rfl) ?_)
   refine Zab ?_
   refine Zet (k := r.nm) (es := ZfR lx) (b := mx) (zr := .lst none 0 0 []) (by simp only [EV, Nat.reduceEqDiff, ↓reduceIte, he] <;> try rfl) (by simp only [EV, Nat.reduceEqDiff, ↓reduceIte, he] <;> try rfl) FX1.map Zdl Zel Zfy FX1.valid (fun w B => Za1) ?_
   rw [hgx, Option.getD_some]
   refine Zab (Zai rfl (by simp only [EV, Nat.reduceEqDiff, ↓reduceIte, he] <;> try rfl) ?_)
   refine Zab (Zai rfl (by simp only [EV, Nat.reduceEqDiff, ↓reduceIte, he] <;> try rfl) ?_)
   refine Zab ?_
   refine Zet (k := r.nm) (es := ZfR ly) (b := my) (zr := .lst none 0 0 []) (by simp only [EV, Nat.reduceEqDiff, ↓reduceIte, he] <;> try rfl) (by simp only [EV, Nat.reduceEqDiff, ↓reduceIte, he] <;> try rfl) FY1.map Zdl Zel Zfy FY1.valid (fun w B => Za1) ?_
   rw [hgy, Option.getD_some]
   refine Zab ?_
   refine Zas (vs := [rx.v, ry.v]) (by simp only [List.map_cons, List.map_nil, EV, Nat.reduceEqDiff, ↓reduceIte, he] <;> try rfl) ?_
   refine Zlk (d1 := rx.d) (d2 := ry.d) (.inl (FX1.row rx hrx1)) (.inl (FY1.row ry hry1)) (by omega) (by omega) (by rw [hlx1, hry3, hrx3, List.take_take]; congr 1; omega) _ fun υ2 hX2 => ?_
   have FX2 := FX1.ext hX2
   have FY2 := FY1.ext hX2
   have FZ2 := FZ1.ext hX2
   refine Zab ?_
   with_reducible apply Zda
   case hx => simp only [EV, Nat.reduceEqDiff, ↓reduceIte, he] <;> try rfl
   refine Zab (Zai rfl (by simp only [EV, Nat.reduceEqDiff, ↓reduceIte, he] <;> try rfl) ?_)
   refine Zab (Zag (ZbV rfl (by simp only [EV, Nat.reduceEqDiff, ↓reduceIte, he] <;> try rfl)) ?_)
   refine Zai rfl (by simp only [EV, Nat.reduceEqDiff, ↓reduceIte, he] <;> try rfl) ?_
   refine Zab (Zag (ZbV rfl (by simp only [EV, Nat.reduceEqDiff, ↓reduceIte, he] <;> try rfl)) ?_)
   refine Zai rfl (by simp only [EV, Nat.reduceEqDiff, ↓reduceIte, he] <;> try rfl) ?_
   refine Zab (Zag (ZbV rfl (by simp only [EV, Nat.reduceEqDiff, ↓reduceIte, he] <;> try rfl)) ?_)
   refine Zet (k := r.nm) (es := ZfR ly) (b := my) (zr := .lst none 0 0 []) (by simp only [EV, Nat.reduceEqDiff, ↓reduceIte, he] <;> try rfl) (by simp only [EV, Nat.reduceEqDiff, ↓reduceIte, he] <;> try rfl) FY2.map Zdl Zel Zfy FY2.valid (fun w B => Za1) ?_
   rw [hgy, Option.getD_some]
   refine Zab (Zag (ZbV rfl (by simp only [EV, Nat.reduceEqDiff, ↓reduceIte, he] <;> try rfl)) ?_)
   refine Zai rfl (by simp only [EV, Nat.reduceEqDiff, ↓reduceIte, he] <;> try rfl) ?_
   refine Zab (Zag (ZbV rfl (by simp only [EV, Nat.reduceEqDiff, ↓reduceIte, he] <;> try rfl)) ?_)
   refine Zas (vs := [ry.v, r.v]) (by simp only [List.map_cons, List.map_nil, EV, Nat.reduceEqDiff, ↓reduceIte, he] <;> try rfl) ?_
   refine Zlk (d1 := ry.d) (d2 := r.d) (.inl (FY2.row ry hry1)) (.inl (hD1.ext hX2)) (by omega) (by omega) (by rw [hly1]; exact hry3) _ fun υ3 hX3 => ?_
   have FX3 := FX2.ext hX3
   have FZ3 := FZ2.ext hX3
   refine Zab (Zag (ZbV rfl (by simp only [EV, Nat.reduceEqDiff, ↓reduceIte, he] <;> try rfl)) ?_)
   refine Zda (by simp only [EV, Nat.reduceEqDiff, ↓reduceIte, he] <;> try rfl) ?_
   refine Zab ?_
   refine Zb4 (v := vT false) (by simp only [EV, Nat.reduceEqDiff, ↓reduceIte, he] <;> try rfl) (by simp only [EV, Nat.reduceEqDiff, ↓reduceIte, he] <;> try rfl) ?_
   refine Zab (Zai rfl (by simp only [EV, Nat.reduceEqDiff, ↓reduceIte, he] <;> try rfl) ?_)
   refine Zab (Zag (ZbV rfl (by simp only [EV, Nat.reduceEqDiff, ↓reduceIte, he] <;> try rfl)) ?_)
   refine Zai rfl (by simp only [EV, Nat.reduceEqDiff, ↓reduceIte, he] <;> try rfl) ?_
   refine Zab (Zag (ZbV rfl (by simp only [EV, Nat.reduceEqDiff, ↓reduceIte, he] <;> try rfl)) ?_)
   refine Zai rfl (by simp only [EV, Nat.reduceEqDiff, ↓reduceIte, he] <;> try rfl) ?_
   refine Zab (Zag (ZbV rfl (by simp only [EV, Nat.reduceEqDiff, ↓reduceIte, he] <;> try rfl)) ?_)
   refine Zet (k := r.nm) (es := ZfR lz) (b := mz) (zr := .lst none 0 0 []) (by simp only [EV, Nat.reduceEqDiff, ↓reduceIte, he] <;> try rfl) (by simp only [EV, Nat.reduceEqDiff, ↓reduceIte, he] <;> try rfl) FZ3.map Zdl Zel Zfy FZ3.valid (fun w B => Za1) ?_
   rw [hgz, Option.getD_some]
   refine Zab (Zag (ZbV rfl (by simp only [EV, Nat.reduceEqDiff, ↓reduceIte, he] <;> try rfl)) ?_)
   refine Zai rfl (by simp only [EV, Nat.reduceEqDiff, ↓reduceIte, he] <;> try rfl) ?_
   refine Zab (Zag (ZbV rfl (by simp only [EV, Nat.reduceEqDiff, ↓reduceIte, he] <;> try rfl)) ?_)
   refine Zas (vs := [rz.v, r.v]) (by simp only [List.map_cons, List.map_nil, EV, Nat.reduceEqDiff, ↓reduceIte, he] <;> try rfl) ?_
   refine Zkg (d1 := rz.d) (d2 := r.d) (.inl (FZ3.row rz hrz1)) (.inl ((hD1.ext hX2).ext hX3)) (by rw [hrz3]; omega) (by omega) _ fun υ4 hX4 => ?_
   rw [decide_eq_true hrz3]
   refine Zab (Zag (ZbV rfl (by simp only [EV, Nat.reduceEqDiff, ↓reduceIte, he] <;> try rfl)) ?_)
   refine Zda (by simp only [EV, Nat.reduceEqDiff, ↓reduceIte, he] <;> try rfl) ?_
   refine Zab ?_
   refine Zb4 (v := vT false) (by simp only [EV, Nat.reduceEqDiff, ↓reduceIte, he] <;> try rfl) (by simp only [EV, Nat.reduceEqDiff, ↓reduceIte, he] <;> try rfl) ?_
   refine Zah ?_
   apply Ztp 12 13 16 18 19 20 21 22 23 130 159
   ·simp only [EV, Nat.reduceEqDiff, ↓reduceIte, he] <;> try rfl
   ·simp only [EV, Nat.reduceEqDiff, ↓reduceIte, he] <;> try rfl
   ·simp only [EV, Nat.reduceEqDiff, ↓reduceIte, he] <;> try rfl
   ·simp only [EV, Nat.reduceEqDiff, ↓reduceIte, he] <;> try rfl
   ·simp only [EV, Nat.reduceEqDiff, ↓reduceIte, he] <;> try rfl
   ·simp only [EV, Nat.reduceEqDiff, ↓reduceIte, he] <;> try rfl
   ·simp only [EV, Nat.reduceEqDiff, ↓reduceIte, he] <;> try rfl
   ·simp only [EV, Nat.reduceEqDiff, ↓reduceIte, he] <;> try rfl
   ·simp only [EV, Nat.reduceEqDiff, ↓reduceIte, he] <;> try rfl
   ·simp only [EV, Nat.reduceEqDiff, ↓reduceIte, he] <;> try rfl
   ·simp only [EV, Nat.reduceEqDiff, ↓reduceIte, he] <;> try rfl
   clear he e
   intro e he
   refine ZaX (t := false) (by simp only [EV, Nat.reduceEqDiff, ↓reduceIte, he] <;> try rfl) (fun hf => by cases hf) (fun _ => ?_)
   refine Zbb ?_
   have hE4 := (hX2.trans hX3).trans hX4
   have hgo := Zjt (f := fun r : Rw => LX r.nm) (ZbZ R.nodup) R.each
   have hstp : ((done ++ [r]).map fun r => LX r.nm).sum = (done.map fun r => LX r.nm).sum + LX r.nm := by simp
   first | refine Zaa ?_ | refine Zad ?_ | (refine Zac ?_; refine Zaa ?_) | (refine Zac ?_; refine Zac ?_; refine Zaa ?_)
   refine Zab (Zai rfl (by simp only [EV, Nat.reduceEqDiff, ↓reduceIte, he] <;> try rfl) ?_)
   refine Zab (Zai rfl (by simp only [EV, Nat.reduceEqDiff, ↓reduceIte, he] <;> try rfl) ?_)
   refine Zab ?_
   refine ZcT (by simp only [EV, Nat.reduceEqDiff, ↓reduceIte, he] <;> try rfl) (hD1.ext hE4) rfl Zb3 ?_
   refine Zab ?_
   refine Zd4 ((done.map fun r => LX r.nm).sum) (r.d.length) (by simp only [EV, Nat.reduceEqDiff, ↓reduceIte, he] <;> try rfl) (by simp only [EV, Nat.reduceEqDiff, ↓reduceIte, he] <;> try rfl) (by omega) ?_
   refine Zab (Zai rfl (by simp only [EV, Nat.reduceEqDiff, ↓reduceIte, he] <;> try rfl) ?_)
   refine Zab (Zai rfl (by simp only [EV, Nat.reduceEqDiff, ↓reduceIte, he] <;> try rfl) ?_)
   refine Zab ?_
   refine Zet (k := r.nm) (es := ZfR lx) (b := mx) (zr := .lst none 0 0 []) (by simp only [EV, Nat.reduceEqDiff, ↓reduceIte, he] <;> try rfl) (by simp only [EV, Nat.reduceEqDiff, ↓reduceIte, he] <;> try rfl) (FX3.ext hX4).map Zdl Zel Zfy FX3.valid (fun w B => Za1) ?_
   rw [hgx, Option.getD_some]
   refine Zab ?_
   refine ZcT (by simp only [EV, Nat.reduceEqDiff, ↓reduceIte, he] <;> try rfl) ((FX3.ext hX4).row rx hrx1) rfl Zb3 ?_
   refine Zab ?_
   refine ZfQ (((done.map fun r => LX r.nm).sum + r.d.length : Nat) : Int) (rx.d.length : Int) (by simp only [EV, Nat.reduceEqDiff, ↓reduceIte, he] <;> try rfl) (by simp only [EV, Nat.reduceEqDiff, ↓reduceIte, he] <;> try rfl) (by omega) (by omega) ?_
   rw [show (((done.map fun r => LX r.nm).sum + r.d.length : Nat) : Int) - (rx.d.length : Int) = ((((done ++ [r]).map fun r => LX r.nm).sum : Nat) : Int) by rw [hstp]; omega]
   refine Zab (Zai rfl (by simp only [EV, Nat.reduceEqDiff, ↓reduceIte, he] <;> try rfl) ?_)
   refine Zah ?_
   show ∃ n', n' < _ /\ _
   exact ⟨_, left_shrinks arr seen en hen, done ++ [r], _, _, rfl, ⟨by simp only [EV, Nat.reduceEqDiff, ↓reduceIte, he] <;> try rfl, by simp only [EV, Nat.reduceEqDiff, ↓reduceIte, he] <;> try rfl, by simp only [EV, Nat.reduceEqDiff, ↓reduceIte, he] <;> try rfl, by simp only [EV, Nat.reduceEqDiff, ↓reduceIte, he] <;> try rfl, by simp only [EV, Nat.reduceEqDiff, ↓reduceIte, he] <;> try rfl, by simp only [EV, Nat.reduceEqDiff, ↓reduceIte, he] <;> try rfl, by simp only [EV, Nat.reduceEqDiff, ↓reduceIte, he] <;> try rfl, by simp only [EV, Nat.reduceEqDiff, ↓reduceIte, he] <;> try rfl⟩, R1.ext hE4, FX3.ext hX4, (FY2.ext hX3).ext hX4, FZ3.ext hX4, JA1.ext hE4, fun r hr => ⟨(HR1 r hr).1.ext hE4, (HR1 r hr).2⟩, fun c hc => hE4.used _ (HU1 c hc)⟩
 clear he e hpin hit huib hB20 Fx19 Fy19 Fz19 Ja19
 rintro e υ ⟨he, FX, JA, HU⟩
 first | refine Zaa ?_ | refine Zad ?_ | (refine Zac ?_; refine Zaa ?_) | (refine Zac ?_; refine Zac ?_; refine Zaa ?_)
 refine Zab (Zai rfl (by simp only [EV, Nat.reduceEqDiff, ↓reduceIte, he] <;> try rfl) ?_)
 refine Zab ?_
 refine Zas (vs := [ptr ba 0, .raw (.int .i64 0)]) (by simp only [List.map_cons, List.map_nil, EV, Nat.reduceEqDiff, ↓reduceIte, he] <;> try rfl) ?_
 refine Zfx JA.disk (by decide) JA.wf (by decide) (JA.file (by omega)) (keep := 0) (by decide) fun υ21 fa2 Da21 hda2 hBa2 => ?_
 refine Zah ?_
 apply ZcI 12 13 16 18 21
 ·simp only [EV, Nat.reduceEqDiff, ↓reduceIte, he] <;> try rfl
 ·simp only [EV, Nat.reduceEqDiff, ↓reduceIte, he] <;> try rfl
 ·simp only [EV, Nat.reduceEqDiff, ↓reduceIte, he] <;> try rfl
 ·simp only [EV, Nat.reduceEqDiff, ↓reduceIte, he] <;> try rfl
 ·simp only [EV, Nat.reduceEqDiff, ↓reduceIte, he] <;> try rfl
 clear he e
 intro e he
 have JA21 := JA.crashI Da21 hda2 hBa2
 have FX21 := FX.but hBa2 fun c h1 h2 => dxa c h2 h1
 first | refine Zaa ?_ | refine Zad ?_ | (refine Zac ?_; refine Zaa ?_) | (refine Zac ?_; refine Zac ?_; refine Zaa ?_)
 refine Zab (Zai rfl (by simp only [EV, Nat.reduceEqDiff, ↓reduceIte, he] <;> try rfl) ?_)
 refine Zab ?_
 refine Zas (vs := [ptr ba 0]) (by simp only [List.map_cons, List.map_nil, EV, Nat.reduceEqDiff, ↓reduceIte, he] <;> try rfl) ?_
 refine ZgM JA21 (by omega) (by omega) fun m4 l4 υ22 T4 F4 hX22 hT4 hp4 => ?_
 refine Zab (Zai rfl (by simp only [EV, Nat.reduceEqDiff, ↓reduceIte, he] <;> try rfl) ?_)
 refine Zah ?_
 apply ZcI 12 16 18 21 24
 ·simp only [EV, Nat.reduceEqDiff, ↓reduceIte, he] <;> try rfl
 ·simp only [EV, Nat.reduceEqDiff, ↓reduceIte, he] <;> try rfl
 ·simp only [EV, Nat.reduceEqDiff, ↓reduceIte, he] <;> try rfl
 ·simp only [EV, Nat.reduceEqDiff, ↓reduceIte, he] <;> try rfl
 ·simp only [EV, Nat.reduceEqDiff, ↓reduceIte, he] <;> try rfl
 clear he e
 intro e he
 have FX22 := FX21.ext hX22
 have hr4 : ∀ r ∈ lx, ∃ r4 ∈ l4, r4.nm = r.nm /\ r4.d = r.d := fun r hr => by
  obtain ⟨r4, q1, q2, q3⟩ := Zmt hpx hp4 (g := fun _ => 0) (fun f hf => by
   obtain ⟨f3, hf3, q3, q4⟩ := Zjp JA.disk hda2 f hf
   exact ⟨f3, hf3, q3, by rw [q4, Nat.sub_zero, List.take_length]⟩) r hr
  exact ⟨r4, q1, q2, by rw [q3, Nat.sub_zero, List.take_length]⟩
 have hrlx : ∀ r ∈ lx, r.d.length <= 20000 := fun r hr => by
  obtain ⟨f, hf, e⟩ := List.mem_map.1 (hpx.mem_iff.1 (List.mem_map.2 ⟨r, hr, rfl⟩))
  injection e with q1 q2
  rw [<- q2]
  have := ZeH hf
  have := Ja13.sum
  omega
 have n4x : ¬ T4 mx := fun q => (hT4 _ q).1.2 FX21.used
 clear FX JA JA21 FX21
 first | refine Zaa ?_ | refine Zad ?_ | (refine Zac ?_; refine Zaa ?_) | (refine Zac ?_; refine Zac ?_; refine Zaa ?_)
 refine Zab (Zai rfl (by simp only [EV, Nat.reduceEqDiff, ↓reduceIte, he] <;> try rfl) ?_)
 refine Zki (b := mx) (es := ZfF (ZfR lx)) (by simp only [EV, Nat.reduceEqDiff, ↓reduceIte, he] <;> try rfl) FX22.map (Zci _) Zdl fun ZqF c2 ib2 υ23 hM2 hui2 hni2 hne2 hpin2 hit2 huib2 hB23 => ?_
 refine Zah ?_
 apply ZcI 12 16 21 24 174
 ·simp only [EV, Nat.reduceEqDiff, ↓reduceIte, he] <;> try rfl
 ·simp only [EV, Nat.reduceEqDiff, ↓reduceIte, he] <;> try rfl
 ·simp only [EV, Nat.reduceEqDiff, ↓reduceIte, he] <;> try rfl
 ·simp only [EV, Nat.reduceEqDiff, ↓reduceIte, he] <;> try rfl
 ·simp only [EV, Nat.reduceEqDiff, ↓reduceIte, he] <;> try rfl
 clear he e
 intro e he
 have hne2' : mx ≠ ib2 := fun q => hne2 q.symm
 have nb4 : ¬ T4 ib2 := fun q => hui2 (hT4 _ q).2
 refine Zcq (fun env υ => (env 12 = vI (ZbG pcs) /\ env 16 = vI k /\ env 21 = vI ((l0.map fun r => LX r.nm).sum : Nat))) ?_ ?_
 ·refine ZbB ?_
  refine ZcV (fun μ env υ => ∃ done seen D, μ = (leftOf ZqF seen).size /\ (env 12 = vI (ZbG pcs) /\ env 16 = vI k /\ env 21 = vI ((l0.map fun r => LX r.nm).sum : Nat) /\ env 24 = Zbv m4 /\ env 174 = ptr ib2 0) /\ RL ZqF c2 mx ib2 lx υ done seen D /\ Zjr υ T4 m4 l4 /\ (∀ r ∈ lx, Hd υ 5 1 r.v r.d.length (bys r.d) /\ hbk r.v ≠ some ib2)) ⟨_, [], #[], [], rfl, he, ⟨FX22.nn, hM2, .nil ZqF, rfl, (fun r hr => by cases hr), hit2, hpin2⟩, F4.but hB23 (fun c hc q => n4x (q ▸ hc)), fun r hr => ⟨(FX22.row r hr).but hB23 fun c hc q => ?_, fun q => hui2 ((FX22.row r hr).used q)⟩⟩ ?_
  ·obtain ⟨all, hall⟩ := (FX22.row r hr).blk hc
   exact ZbM hall FX22.map q
  clear he e hpin2 hit2 huib2 hB23
  rintro _ e υ ⟨done, seen, D, rfl, he, R, F4', HR⟩
  first | refine Zaa ?_ | refine Zad ?_ | (refine Zac ?_; refine Zaa ?_) | (refine Zac ?_; refine Zac ?_; refine Zaa ?_)
  refine Zmh (b := mx) (ib := ib2) (es := ZfF (ZfR lx)) (by simp only [EV, Nat.reduceEqDiff, ↓reduceIte, he] <;> try rfl) R.iter R.held R.at_ (Zci _) (fun x hx => R.at_.2.1 _ (List.mem_map.2 ⟨x, hx, rfl⟩)) (Nat.le_refl _) (fun hz υ1 hmap hB1 => ?_) fun en hen υ1 hit1 hB1 => ?_
  ·refine Zab ?_
   refine Za0 (l := [vT false]) (by simp only [EV, Nat.reduceEqDiff, ↓reduceIte, he] <;> try rfl) rfl ?_
   refine Zah ?_
   apply Zgk 12 16 21 24 174 176
   ·simp only [EV, Nat.reduceEqDiff, ↓reduceIte, he] <;> try rfl
   ·simp only [EV, Nat.reduceEqDiff, ↓reduceIte, he] <;> try rfl
   ·simp only [EV, Nat.reduceEqDiff, ↓reduceIte, he] <;> try rfl
   ·simp only [EV, Nat.reduceEqDiff, ↓reduceIte, he] <;> try rfl
   ·simp only [EV, Nat.reduceEqDiff, ↓reduceIte, he] <;> try rfl
   ·simp only [EV, Nat.reduceEqDiff, ↓reduceIte, he] <;> try rfl
   clear he e
   intro e he
   refine ZaX (t := false) (by simp only [EV, Nat.reduceEqDiff, ↓reduceIte, he] <;> try rfl) (fun hf => by cases hf) (fun _ => ?_)
   refine ZdZ ?_
   exact ⟨rfl, by simp only [EV, Nat.reduceEqDiff, ↓reduceIte, he] <;> try rfl, by simp only [EV, Nat.reduceEqDiff, ↓reduceIte, he] <;> try rfl, by simp only [EV, Nat.reduceEqDiff, ↓reduceIte, he] <;> try rfl⟩
  ·obtain ⟨m1, m2⟩ := mem_left hen
   obtain ⟨r, hr, hek, hev⟩ := R.row m1
   have R1 := R.push hen hr hek hev hit1 hB1 hne2'
   have F41 := F4'.but hB1 fun c hc q => nb4 (q ▸ hc)
   have HR1 : ∀ r ∈ lx, Hd υ1 5 1 r.v r.d.length (bys r.d) /\ hbk r.v ≠ some ib2 := fun r hr => ⟨(HR r hr).1.but hB1 fun c hc q => (HR r hr).2 (by rw [hc, q]), (HR r hr).2⟩
   refine Zab ?_
   refine Za0 (l := [vT true, .raw en.key, .raw en.val]) (by simp only [EV, Nat.reduceEqDiff, ↓reduceIte, he] <;> try rfl) rfl ?_
   refine Zah ?_
   apply Zgk 12 16 21 24 174 176
   ·simp only [EV, Nat.reduceEqDiff, ↓reduceIte, he] <;> try rfl
   ·simp only [EV, Nat.reduceEqDiff, ↓reduceIte, he] <;> try rfl
   ·simp only [EV, Nat.reduceEqDiff, ↓reduceIte, he] <;> try rfl
   ·simp only [EV, Nat.reduceEqDiff, ↓reduceIte, he] <;> try rfl
   ·simp only [EV, Nat.reduceEqDiff, ↓reduceIte, he] <;> try rfl
   ·simp only [EV, Nat.reduceEqDiff, ↓reduceIte, he] <;> try rfl
   clear he e
   intro e he
   refine ZaX (t := true) (by simp only [EV, Nat.reduceEqDiff, ↓reduceIte, he] <;> try rfl) (fun _ => ?_) (fun hf => by cases hf)
   refine Zbb ?_
   refine ZbB ?_
   obtain ⟨hD1, hD2⟩ := HR1 r hr
   first | refine Zaa ?_ | refine Zad ?_ | (refine Zac ?_; refine Zaa ?_) | (refine Zac ?_; refine Zac ?_; refine Zaa ?_)
   refine Zmg (b := mx) (ib := ib2) (e := en) (kv := .raw (sV r.nm)) (vv := r.v) (by simp only [EV, Nat.reduceEqDiff, ↓reduceIte, he] <;> try rfl) R1.iter R1.held m1 R1.at_.2.2 (by rw [hek]; rfl) (by rw [hev]) (fun w B => Zak _) hD1.validV ?_
   refine Zab ?_
   refine Za0 (l := [.raw (sV r.nm), r.v]) (by simp only [EV, Nat.reduceEqDiff, ↓reduceIte, he] <;> try rfl) rfl ?_
   refine Zab ?_
   refine Za0 (l := [.raw (sV r.nm), r.v]) (by simp only [EV, Nat.reduceEqDiff, ↓reduceIte, he] <;> try rfl) rfl ?_
   refine Zab (Zai rfl (by simp only [EV, Nat.reduceEqDiff, ↓reduceIte, he] <;> try rfl) ?_)
   refine Zab (Zai rfl (by simp only [EV, Nat.reduceEqDiff, ↓reduceIte, he] <;> try rfl) ?_)
   refine Zah ?_
   apply ZoG 12 16 21 24 25 26 174
   ·simp only [EV, Nat.reduceEqDiff, ↓reduceIte, he] <;> try rfl
   ·simp only [EV, Nat.reduceEqDiff, ↓reduceIte, he] <;> try rfl
   ·simp only [EV, Nat.reduceEqDiff, ↓reduceIte, he] <;> try rfl
   ·simp only [EV, Nat.reduceEqDiff, ↓reduceIte, he] <;> try rfl
   ·simp only [EV, Nat.reduceEqDiff, ↓reduceIte, he] <;> try rfl
   ·simp only [EV, Nat.reduceEqDiff, ↓reduceIte, he] <;> try rfl
   ·simp only [EV, Nat.reduceEqDiff, ↓reduceIte, he] <;> try rfl
   clear he e
   intro e he
   obtain ⟨r4, hr41, hr42, hr43⟩ := hr4 r hr
   have hg4 : Zmo (ZfR l4) r.nm = some r4.v := by rw [<- hr42]; exact ZgL F4'.nn r4 hr41
   have hrl1 := hrlx r hr
   first | refine Zaa ?_ | refine Zad ?_ | (refine Zac ?_; refine Zaa ?_) | (refine Zac ?_; refine Zac ?_; refine Zaa ?_)
   refine Zab (Zai rfl (by simp only [EV, Nat.reduceEqDiff, ↓reduceIte, he] <;> try rfl) ?_)
   refine Zab (Zai rfl (by simp only [EV, Nat.reduceEqDiff, ↓reduceIte, he] <;> try rfl) ?_)
   refine Zab ?_
   refine Zet (k := r.nm) (es := ZfR l4) (b := m4) (zr := .lst none 0 0 []) (by simp only [EV, Nat.reduceEqDiff, ↓reduceIte, he] <;> try rfl) (by simp only [EV, Nat.reduceEqDiff, ↓reduceIte, he] <;> try rfl) F41.map Zdl Zel Zfy F41.valid (fun w B => Za1) ?_
   rw [hg4, Option.getD_some]
   refine Zab (Zai rfl (by simp only [EV, Nat.reduceEqDiff, ↓reduceIte, he] <;> try rfl) ?_)
   refine Zab ?_
   refine Zas (vs := [r4.v, r.v]) (by simp only [List.map_cons, List.map_nil, EV, Nat.reduceEqDiff, ↓reduceIte, he] <;> try rfl) ?_
   refine Zkg (d1 := r4.d) (d2 := r.d) (.inl (F41.row r4 hr41)) (.inl hD1) (by rw [hr43]; omega) (by omega) _ fun υ2 hX2 => ?_
   rw [decide_eq_true hr43]
   refine Zab ?_
   with_reducible apply Zda
   case hx => simp only [EV, Nat.reduceEqDiff, ↓reduceIte, he] <;> try rfl
   refine Zah ?_
   apply Zgk 12 16 21 24 174 185
   ·simp only [EV, Nat.reduceEqDiff, ↓reduceIte, he] <;> try rfl
   ·simp only [EV, Nat.reduceEqDiff, ↓reduceIte, he] <;> try rfl
   ·simp only [EV, Nat.reduceEqDiff, ↓reduceIte, he] <;> try rfl
   ·simp only [EV, Nat.reduceEqDiff, ↓reduceIte, he] <;> try rfl
   ·simp only [EV, Nat.reduceEqDiff, ↓reduceIte, he] <;> try rfl
   ·simp only [EV, Nat.reduceEqDiff, ↓reduceIte, he] <;> try rfl
   clear he e
   intro e he
   refine ZbQ (t := false) (by simp only [EV, Nat.reduceEqDiff, ↓reduceIte, he] <;> try rfl) (fun hf => by cases hf) (fun _ => ?_)
   refine ZdC ?_
   show ∃ n', n' < _ /\ _
   exact ⟨_, left_shrinks ZqF seen en hen, done ++ [r], _, _, rfl, ⟨by simp only [EV, Nat.reduceEqDiff, ↓reduceIte, he] <;> try rfl, by simp only [EV, Nat.reduceEqDiff, ↓reduceIte, he] <;> try rfl, by simp only [EV, Nat.reduceEqDiff, ↓reduceIte, he] <;> try rfl, by simp only [EV, Nat.reduceEqDiff, ↓reduceIte, he] <;> try rfl, by simp only [EV, Nat.reduceEqDiff, ↓reduceIte, he] <;> try rfl⟩, R1.ext hX2, F41.ext hX2, fun r hr => ⟨(HR1 r hr).1.ext hX2, (HR1 r hr).2⟩⟩
 clear he e
 rintro e υ he
 have hgone : (l0.map fun r => LX r.nm).sum = min (ZbG pcs - k) (ZbG pcs) := hsumL
 first | refine Zaa ?_ | refine Zad ?_ | (refine Zac ?_; refine Zaa ?_) | (refine Zac ?_; refine Zac ?_; refine Zaa ?_)
 refine Zab (Zai rfl (by simp only [EV, Nat.reduceEqDiff, ↓reduceIte, he] <;> try rfl) ?_)
 refine Zab (Zai rfl (by simp only [EV, Nat.reduceEqDiff, ↓reduceIte, he] <;> try rfl) ?_)
 refine Zab (Zai rfl (by simp only [EV, Nat.reduceEqDiff, ↓reduceIte, he] <;> try rfl) ?_)
 refine Zab (Zai rfl (by simp only [EV, Nat.reduceEqDiff, ↓reduceIte, he] <;> try rfl) ?_)
 refine Zab ?_
 refine ZpR (ZbG pcs) k (by simp only [EV, Nat.reduceEqDiff, ↓reduceIte, he] <;> try rfl) (by simp only [EV, Nat.reduceEqDiff, ↓reduceIte, he] <;> try rfl) ?_
 refine Zab ?_
 refine ZfQ ((ZbG pcs : Nat) : Int) ((min (ZbG pcs) k : Nat) : Int) (by simp only [EV, Nat.reduceEqDiff, ↓reduceIte, he] <;> try rfl) (by simp only [EV, Nat.reduceEqDiff, ↓reduceIte, he] <;> try rfl) (by omega) (by omega) ?_
 refine Zab ?_
 refine ZeM (k := .i64) (a := (((l0.map fun r => LX r.nm).sum : Nat) : Int)) (b := ((ZbG pcs : Nat) : Int) - ((min (ZbG pcs) k : Nat) : Int)) (by simp only [EV, Nat.reduceEqDiff, ↓reduceIte, he] <;> try rfl) (by simp only [EV, Nat.reduceEqDiff, ↓reduceIte, he] <;> try rfl) ?_
 rw [decide_eq_true (by omega)]
 refine Zab (Zai rfl (by simp only [EV, Nat.reduceEqDiff, ↓reduceIte, he] <;> try rfl) ?_)
 refine Zah ?_
 refine ZaW ?_
 show ∃ r, Zan _ _ _ _ r /\ _
 exact ⟨_, ZaD rfl (by simp only [EV, Nat.reduceEqDiff, ↓reduceIte, he] <;> try rfl), hK υ⟩
theorem Zly (x0 : Int) (x1 : List Zc1) (x2 x3 : Int) (h1 : (∀ x ∈ x1, Zfv x) /\ x1.length <= 140737488355328) (h2 : InK .i64 x2) (h3 : InK .i64 x3) : Tr CT Try.prog (fun _ => True) 6 [.int .i64 x0, .sl 6 x1 none, .int .i64 x2, .int .i64 x3] [] (.bool true) [] := by
 intro ρ σ vs hs _
 obtain ⟨a0, b0, rfl, s0, hs⟩ := hs.to
 obtain ⟨a1, b1, rfl, s1, hs⟩ := hs.to
 obtain ⟨a2, b2, rfl, s2, hs⟩ := hs.to
 obtain ⟨a3, rfl, s3⟩ := Zc8.1 hs
 obtain rfl := Zap.1 s0
 obtain rfl := Zap.1 s2
 obtain rfl := Zap.1 s3
 have s1 : SV CT 0 Zf2 (.sl 6 x1 none) a1 := SVs.shut s1 (by intro x hx; rw [List.mem_singleton.1 hx]; rfl)
 obtain ⟨A1, c1, cs1, rest1, rfl, m1, m2, m3, m4, m5⟩ := ZcC.1 s1
 refine Zoe (Zql _ h1.1 h1.2 h2 h3 ⟨m1, m2, m4⟩ m5 fun τ => rfl) (fun w B => Zak _) _ fun τ hX => ?_
 exact ⟨ρ, ZaJ.2 rfl, ZrO _, Nat.zero_le _, fun i hi => absurd hi (Nat.not_lt_zero i), ⟨fun b k _ hk => hX.keep _ _ hk, hX.used⟩, fun b ⟨i, x, hx, _⟩ => by simp at hx⟩
end Go.Proofs.Ytinpiaibhjmfaaa
