/- DiskRuns, by hand: the walk. -/
import Derived.Test.YtinpiaibhjmfaaaRee
import Derived.Test.YtinpiaibhjmfaaaMi
namespace Go.Proofs.Ytinpiaibhjmfaaa
open Go.RowKit
set_option maxRecDepth 100000
set_option linter.unusedVariables false
set_option linter.unusedSimpArgs false
section
variable {P : Program} {ops : Array Oper} {env : Env} {σ τ : St} {K : Env -> St -> Prop} {lf cf ow : Nat -> Bool} {Pres : Nat -> Prop} {d : Option Nat} {ty t : TypeId} {pos : String} {af : Array Edge} {x : Operand} {i : Nat} {l : List Nat}
theorem ZqL {n : Nat} {ad : Addr} {cells : List AV} {g : Bool} {r : AV} {gd : Option (Nat × Bool)} (hi : ops[i]? = some ⟨d, .load t x, ty, pos, af, gd⟩) (hw : Region.wanted ⟨d, .load t x, ty, pos, af, gd⟩ (ZaA ops env) = true) (how : ow i = false) (hx : ev env x = .eptr ad cells) (ha : Zek P t = some g) (hn : ZaO P t = some n) (hr : Zch (some g) (some n) cells 0 = some r)
 (h : ZbN P ops Pres lf cf ow l (env.put d r) σ K) : ZbN P ops Pres lf cf ow (i :: l) env σ K := by
 have h1 : aOp P ops ⟨d, .load t x, ty, pos, af, none⟩ env σ fun env' σ' => ((cf i && Zb1 ⟨d, .load t x, ty, pos, af, none⟩) = true -> ZfW Pres σ σ') /\ ZbN P ops Pres lf cf ow l env' σ' K := ZcD hx ha hn hr ⟨fun _ _ _ _ _ hb => hb, h⟩
 rw [ZaQ rfl] at h1
 unfold ZbN
 rw [hi]
 dsimp only
 unfold Zel
 rw [how, if_neg Bool.false_ne_true]
 unfold ZeY
 rw [if_pos hw]
 refine ⟨fun _ b' o' hq => ?_, h1⟩
 have hq : [ev env x] = [ptr b' o'] := hq
 rw [hx] at hq
 injection hq with hq
 cases hq
end
theorem Zmy {kd n : Int} {nm : List UInt8} {vN vP : AV} {cs0 : List AV} (h : cs0.length = 5) (h1 : vN.one = true) (h2 : vP.one = true) : (Zbi (.agg (Zb2 kd nm vN n vP)) && (AV.agg (Zb2 kd nm vN n vP)).cells.length == 5 && (AV.agg (Zb2 kd nm vN n vP)).cells.all AV.one && decide (0 + 5 <= cs0.length)) = true := by
 rw [h]
 show (true && (true && (true && (vN.one && (true && (vP.one && true))))) && true) = true
 rw [h1, h2]
 rfl
def ZeX (l : List ZbG) : Nat := (l.map fun x => x.parts.flatten.length).sum
theorem Zmz (l : List ZbG) : ZeX l <= ZdX l := by
 unfold ZeX ZdX
 refine Zfr fun x _ => ?_
 unfold ZfM
 rw [<- Zmq]
 omega
theorem Zi1 (l : List ZbG) (i : Nat) (h : i < l.length) : ZeX (l.take (i + 1)) = ZeX (l.take i) + l[i].parts.flatten.length := by
 unfold ZeX
 rw [List.take_succ_eq_append_getElem h, List.map_append, List.sum_append]
 simp
theorem Zi2 (l : List ZbG) (i : Nat) : ZeX (l.take i) <= ZeX l := by
 have h : ZeX l = ZeX (l.take i) + ZeX (l.drop i) := by
  unfold ZeX
  conv => lhs; rw [<- List.take_append_drop i l, List.map_append, List.sum_append]
 omega
theorem ZgQ {x : ZbG} : ∀ {l : List ZbG}, x ∈ l -> ZfM x <= ZdX l
 | y :: l, h => by
  have e : ZdX (y :: l) = ZfM y + ZdX l := by simp [ZdX]
  rcases List.mem_cons.1 h with rfl | h
  ·omega
  ·have := ZgQ h
   omega
theorem ZmA {α : Type} {p : List α} : ∀ {ps : List (List α)}, p ∈ ps -> p.length <= ZiX ps
 | q :: ps, h => by
  have e : ZiX (q :: ps) = q.length + ZiX ps := by simp [ZiX]
  rcases List.mem_cons.1 h with rfl | h
  ·omega
  ·have := ZmA h
   omega
def Zh3 (σ : St) (size : Int) (M B : Nat) (v w : AV) (U : Nat -> Prop) : Prop := ∃ b2 r2 S2 T2, v = ptr b2 0 /\ w = ptr r2 0 /\ Two σ size M B b2 r2 S2 T2 /\ ∀ c, S2 c \/ T2 c -> ¬ U c
section
variable {σ τ : St} {size : Int} {M B : Nat} {v w : AV} {U W : Nat -> Prop}
theorem Zh3.but (h : Zh3 σ size M B v w U) (k : But W σ τ) (hW : ∀ c, W c -> U c) : Zh3 τ size M B v w U := by
 obtain ⟨b2, r2, S2, T2, h1, h2, h3, h4⟩ := h
 exact ⟨b2, r2, S2, T2, h1, h2, h3.but k fun c hc hq => h4 c hc (hW c hq), h4⟩
theorem Zh3.ext (h : Zh3 σ size M B v w U) (k : Ext σ τ) : Zh3 τ size M B v w U := h.but (W := fun _ => False) k.but fun _ q => q.elim
theorem Zh3.sub (h : Zh3 σ size M B v w U) (hW : ∀ c, W c -> U c) : Zh3 σ size M B v w W := by
 obtain ⟨b2, r2, S2, T2, h1, h2, h3, h4⟩ := h
 exact ⟨b2, r2, S2, T2, h1, h2, h3, fun c hc hq => h4 c hc (hW c hq)⟩
theorem Zh3.new (h : Zh3 σ size M B v w U) : Zh3 σ size M B v w (fun c => U c \/ Za0 σ c) := by
 obtain ⟨b2, r2, S2, T2, h1, h2, h3, h4⟩ := h
 refine ⟨b2, r2, S2, T2, h1, h2, h3, fun c hc hq => ?_⟩
 rcases hq with hq | hq
 ·exact h4 c hc hq
 ·exact hq.2 (h3.used c hc)
theorem ZpZ {c : Nat} (h : Za0 τ c) (k : But W σ τ) (hW : ∀ c, W c -> σ.used c) : Za0 σ c := ⟨k.noneOfB hW h.2 h.1, fun q => h.2 (k.used _ q)⟩
end
set_option maxHeartbeats 8000000 in
theorem ZnC {l m : List ZbG} {size fork : Int} {A A2 : Option Addr} {c c2 : Nat} {cs rest cs2 rest2 : List AV} {σ : St} (K : AV -> St -> Prop) (k0 : ∀ x ∈ l, Zf4 x) (hl0 : l.length <= 140737488355328) (k2 : ∀ x ∈ m, Zf4 x) (hm0 : m.length <= 140737488355328) (hfork : InK .i64 fork)
 (hA0 : A = none -> l.length = 0) (hs : SVs CT 0 ZdC (l.flatMap (CT.enc 6)) cs) (hA2 : A2 = none -> m.length = 0) (hs2 : SVs CT 0 ZdC (m.flatMap (CT.enc 6)) cs2) (hK : ∀ τ, K (vT true) τ) :
 Zat Try.prog 4 [.raw (.int .i64 size), .lst A l.length c (cs ++ rest), .raw (.int .i64 fork), .lst A2 m.length c2 (cs2 ++ rest2)] σ K := by
 refine Zam Zas Try.func4 rfl rfl rfl (Nat.le_of_ble_eq_true rfl) ?_
 refine ZaP 0 1 2 3 (v0 := .raw (.int .i64 size)) (v1 := .lst A l.length c (cs ++ rest)) (v2 := .raw (.int .i64 fork)) (v3 := .lst A2 m.length c2 (cs2 ++ rest2)) rfl rfl rfl rfl ?_
 intro e he
 repeat refine Zac ?_
 first|refine Zaa ?_|refine Zad ?_
 refine Zab (Zae rfl (by simp only [EV,Nat.reduceEqDiff,↓reduceIte,he];try rfl) ?_)
 refine Zaf ?_
 apply ZaP 0 1 2 3
 iterate 4 ·simp only [EV,Nat.reduceEqDiff,↓reduceIte,he];try rfl
 clear he e
 intro e he
 first | refine Zac ?_ | skip
 refine ZaZ (fun env τ => ∃ b : Bool, (env 0 = .raw (.int .i64 size) /\ env 1 = .lst A l.length c (cs ++ rest) /\ env 2 = .raw (.int .i64 fork) /\ env 3 = .lst A2 m.length c2 (cs2 ++ rest2) /\ env 26 = vT b) /\ (b = false -> (l.length <= 300 /\ ZdX l <= 20000) /\ (m.length <= 300 /\ ZdX m <= 20000))) ?_ ?_
 ·refine Zad ?_
  refine Zab (Zae rfl he.2.1 ?_)
  refine Zab ?_
  refine Zao (vs := [.lst A l.length c (cs ++ rest)]) (by simp only [List.map_cons, List.map_nil, EV,Nat.reduceEqDiff,↓reduceIte,he];try rfl) ?_
  refine Zkl k0 hl0 hA0 hs fun r1 hr1 => ?_
  refine Zab ?_
  with_reducible apply ZbB
  case hx => simp only [EV,Nat.reduceEqDiff,↓reduceIte,he];try rfl
  refine Zab (Zae rfl (by simp only [EV,Nat.reduceEqDiff,↓reduceIte,he];try rfl) ?_)
  cases r1 with
  | false =>
   refine Zab (Zan (ZaN rfl (by simp only [EV,Nat.reduceEqDiff,↓reduceIte,he];try rfl)) ?_)
   refine Zab (Zan (ZaN rfl (by simp only [EV,Nat.reduceEqDiff,↓reduceIte,he];try rfl)) ?_)
   refine Zab (Zan (ZaN rfl (by simp only [EV,Nat.reduceEqDiff,↓reduceIte,he];try rfl)) ?_)
   refine Zab ?_
   refine ZaG (v := vT true) rfl rfl ?_
   refine Zaf ?_
   exact ⟨rfl, true, ⟨by simp only [EV,Nat.reduceEqDiff,↓reduceIte,he];try rfl, by simp only [EV,Nat.reduceEqDiff,↓reduceIte,he];try rfl, by simp only [EV,Nat.reduceEqDiff,↓reduceIte,he];try rfl, by simp only [EV,Nat.reduceEqDiff,↓reduceIte,he];try rfl, by simp only [EV,Nat.reduceEqDiff,↓reduceIte,he];try rfl⟩, fun q => by cases q⟩
  | true =>
   refine Zab (Zah (ZaN rfl (by simp only [EV,Nat.reduceEqDiff,↓reduceIte,he];try rfl)) ?_)
   refine Zae rfl he.2.2.2 ?_
   refine Zab (Zah (ZaN rfl (by simp only [EV,Nat.reduceEqDiff,↓reduceIte,he];try rfl)) ?_)
   refine Zao (vs := [.lst A2 m.length c2 (cs2 ++ rest2)]) (by simp only [List.map_cons, List.map_nil, EV,Nat.reduceEqDiff,↓reduceIte,he];try rfl) ?_
   refine Zkl k2 hm0 hA2 hs2 fun r2 hr2 => ?_
   refine Zab (Zah (ZaN rfl (by simp only [EV,Nat.reduceEqDiff,↓reduceIte,he];try rfl)) ?_)
   refine ZbB (b := r2) rfl ?_
   refine Zab ?_
   refine Za2 (v := vT (!r2)) rfl rfl ?_
   refine Zaf ?_
   exact ⟨rfl, !r2, ⟨by simp only [EV,Nat.reduceEqDiff,↓reduceIte,he];try rfl, by simp only [EV,Nat.reduceEqDiff,↓reduceIte,he];try rfl, by simp only [EV,Nat.reduceEqDiff,↓reduceIte,he];try rfl, by simp only [EV,Nat.reduceEqDiff,↓reduceIte,he];try rfl, by simp only [EV,Nat.reduceEqDiff,↓reduceIte,he];try rfl⟩, fun q => ⟨hr1 rfl, hr2 (by cases r2 <;> simp_all)⟩⟩
 clear he e
 rintro e σ1 ⟨b, he, hlt⟩
 cases b with
 | true =>
  refine Zav (t := true) he.2.2.2.2 (fun _ => ?_) (fun hf => by cases hf)
  repeat refine Zac ?_
  first|refine Zaa ?_|refine Zad ?_
  refine Zab ?_
  refine Zao (vs := []) (by simp only [List.map_cons, List.map_nil, EV,Nat.reduceEqDiff,↓reduceIte,he];try rfl) ?_
  refine ZhP fun σ2 hX2 => ?_
  refine Zab (Zae rfl (by simp only [EV,Nat.reduceEqDiff,↓reduceIte,he];try rfl) ?_)
  refine Zaf ?_
  refine Zcw ?_
  show ∃ r, Zaj _ _ _ _ r /\ _
  exact ⟨_, Zal rfl rfl, hK _⟩
 | false =>
 obtain ⟨⟨h300, hW⟩, h300m, hWm⟩ := hlt rfl
 clear hlt
 refine Zav (t := false) he.2.2.2.2 (fun hf => by cases hf) (fun _ => ?_)
 refine Zaz ?_
 have hbl := Zmz l
 have hbt := Zi2 l
 have hbm := Zmz m
 have hbmt := Zi2 m
 repeat refine Zac ?_
 first|refine Zaa ?_|refine Zad ?_
 refine Zab (Zae rfl he.1 ?_)
 refine Zab ?_
 refine Zao (vs := [.raw (.int .i64 size)]) (by simp only [List.map_cons, List.map_nil, EV,Nat.reduceEqDiff,↓reduceIte,he];try rfl) ?_
 refine ZlP fun bb mb σ4 h4 hE4 hnb hnm => ?_
 refine Zab (Zae rfl he.1 ?_)
 refine Zab ?_
 refine Za4 (vs := [.raw (.int .i64 size)]) (cells := [.raw (.int .i64 size), .lst none 0 0 [], .lst none 0 0 []]) (by simp only [List.map_cons, List.map_nil, EV,Nat.reduceEqDiff,↓reduceIte,he];try rfl) Zma Zmc rfl ?_
 refine Zab ?_
 refine Zdq (cs := [.raw (.int .i64 size), .lst none 0 0 [], .lst none 0 0 []]) (v := .agg [.raw (.int .i64 size), .lst none 0 0 [], .lst none 0 0 []]) rfl rfl fun rb σ5 hn5 hu5 hb5 hub5 hX5 => ?_
 have T0 : Two σ5 size 0 0 bb rb (fun b => b = bb \/ b = mb) (fun b => b = rb) := ZoK (h4.ext hX5) hb5 hub5 ⟨fun q => hu5 (by rw [q]; exact h4.used), fun q => hu5 (by rw [q]; exact h4.umap)⟩
 clear h4 hb5 hub5
 refine Zab (Zae rfl (by simp only [EV,Nat.reduceEqDiff,↓reduceIte,he];try rfl) ?_)
 refine Zab (Zae rfl (by simp only [EV,Nat.reduceEqDiff,↓reduceIte,he];try rfl) ?_)
 refine Zaf ?_
 apply Zb6 1 2 3 9 10
 iterate 5 ·simp only [EV,Nat.reduceEqDiff,↓reduceIte,he];try rfl
 clear he e
 intro e he
 repeat refine Zac ?_
 first|refine Zaa ?_|refine Zad ?_
 refine Zab (Zae rfl he.2.1 ?_)
 refine Zab (Zae rfl he.1 ?_)
 refine Zab ?_
 refine Zcz (n := l.length) (c := c) (A := A) rfl rfl rfl ZaW ?_
 refine Zab ?_
 refine ZaU l.length 1 rfl rfl (by omega) ?_
 refine Zab ?_
 refine Zao (vs := [.raw (.int .i64 fork), .raw (.int .i64 ((l.length + 1 : Nat) : Int))]) (by simp only [List.map_cons, List.map_nil, EV,Nat.reduceEqDiff,↓reduceIte,he];try rfl) ?_
 refine Zjq fork (by omega) (by omega) _ fun σ6 hX6 => ?_
 have hk := Zf5 fork (n := ((l.length + 1 : Nat) : Int)) (by omega)
 generalize Zd4 fork ((l.length + 1 : Nat) : Int) = k at hk ⊢
 have T6 := T0.ext hX6
 clear T0
 refine Zab (Zae rfl (by simp only [EV,Nat.reduceEqDiff,↓reduceIte,he];try rfl) ?_)
 refine Zaf ?_
 apply Zb6 1 3 9 10 11
 iterate 5 ·simp only [EV,Nat.reduceEqDiff,↓reduceIte,he];try rfl
 clear he e
 intro e he
 repeat refine Zac ?_
 first|refine Zaa ?_|refine Zad ?_
 refine Zab (Zae rfl (by simp only [EV,Nat.reduceEqDiff,↓reduceIte,he];try rfl) ?_)
 refine Zaf ?_
 apply ZdN 1 3 9 10 11 12
 iterate 6 ·simp only [EV,Nat.reduceEqDiff,↓reduceIte,he];try rfl
 clear he e
 intro e he
 repeat refine Zac ?_
 first|refine Zaa ?_|refine Zad ?_
 refine Zab (Zae rfl (by simp only [EV,Nat.reduceEqDiff,↓reduceIte,he];try rfl) ?_)
 refine Zaf ?_
 apply Zkz 1 3 9 10 11 12 13
 iterate 7 ·simp only [EV,Nat.reduceEqDiff,↓reduceIte,he];try rfl
 clear he e
 intro e he
 repeat refine Zac ?_
 first|refine Zaa ?_|refine Zad ?_
 refine Zab (Zae rfl (by simp only [EV,Nat.reduceEqDiff,↓reduceIte,he];try rfl) ?_)
 refine Zaf ?_
 apply Zob 1 3 9 10 11 12 13 14
 iterate 8 ·simp only [EV,Nat.reduceEqDiff,↓reduceIte,he];try rfl
 clear he e
 intro e he
 have hkl : k <= l.length := by omega
 first | refine Zac ?_ | skip
 refine ZaZ (fun env υ => ∃ S T v w, (env 3 = .lst A2 m.length c2 (cs2 ++ rest2) /\ env 9 = ptr bb 0 /\ env 10 = ptr rb 0 /\ env 12 = v /\ env 13 = w) /\ Two υ size l.length (ZeX l) bb rb S T /\ Zh3 υ size k (ZeX (l.take k)) v w (fun c => S c \/ T c)) ?_ ?_
 ·refine ZaT ?_
  refine ZaV (fun μ env υ => ∃ (i : Nat), ∃ S T v w, μ = l.length - i /\ i <= l.length /\ (env 1 = .lst A l.length c (cs ++ rest) /\ env 3 = .lst A2 m.length c2 (cs2 ++ rest2) /\ env 9 = ptr bb 0 /\ env 10 = ptr rb 0 /\ env 11 = vI k /\ env 12 = v /\ env 13 = w /\ env 14 = vI i) /\ Two υ size i (ZeX (l.take i)) bb rb S T /\ (k < i -> Zh3 υ size k (ZeX (l.take k)) v w (fun c => S c \/ T c))) ⟨_, 0, _, _, _, _, rfl, Nat.zero_le _, he, T6, fun q => by omega⟩ ?_
  clear he e T6
  rintro _ e υ ⟨i, S, T, v, w, rfl, hi, he, hT, hC⟩
  have hbi := hbt i
  repeat refine Zac ?_
  first|refine Zaa ?_|refine Zad ?_
  refine Zab (Zae rfl he.2.2.2.2.2.2.2 ?_)
  refine Zab (Zae rfl he.1 ?_)
  refine Zab ?_
  refine Zcz (n := l.length) (c := c) (A := A) rfl rfl rfl ZaW ?_
  refine Zab ?_
  refine Zje (k := .i64) (a := (i : Int)) (b := (l.length : Int)) rfl rfl ?_
  rw [decide_eq_true (by omega : (i : Int) <= (l.length : Int))]
  refine Zaf ?_
  apply ZmL 1 3 9 10 11 12 13 14 41
  iterate 9 ·simp only [EV,Nat.reduceEqDiff,↓reduceIte,he];try rfl
  clear he e
  intro e he
  refine Zav (t := true) he.2.2.2.2.2.2.2.2 (fun _ => ?_) (fun hf => by cases hf)
  refine Zaz ?_
  refine ZaD ?_
  repeat refine Zac ?_
  first|refine Zaa ?_|refine Zad ?_
  refine Zab (Zae rfl he.2.2.2.2.2.2.2.1 ?_)
  refine Zab (Zae rfl he.2.2.2.2.1 ?_)
  refine Zab ?_
  refine Zcn (k := .i64) (a := (i : Int)) (b := (k : Int)) rfl rfl ?_
  refine Zaf ?_
  apply ZmL 1 3 9 10 11 12 13 14 46
  iterate 9 ·simp only [EV,Nat.reduceEqDiff,↓reduceIte,he];try rfl
  clear he e
  intro e he
  first | refine Zac ?_ | skip
  refine ZaZ (fun env υ => ∃ v w, (env 1 = .lst A l.length c (cs ++ rest) /\ env 3 = .lst A2 m.length c2 (cs2 ++ rest2) /\ env 9 = ptr bb 0 /\ env 10 = ptr rb 0 /\ env 11 = vI k /\ env 12 = v /\ env 13 = w /\ env 14 = vI i) /\ Two υ size i (ZeX (l.take i)) bb rb S T /\ (k <= i -> Zh3 υ size k (ZeX (l.take k)) v w (fun c => S c \/ T c))) ?_ ?_
  ·refine ZaS (t := decide ((i : Int) = (k : Int))) he.2.2.2.2.2.2.2.2 (fun ht => ?_) (fun ht => ?_)
   ·have hik : i = k := by have := of_decide_eq_true ht; omega
    subst hik
    repeat refine Zac ?_
    first|refine Zaa ?_|refine Zad ?_
    refine Zab (Zae rfl he.2.2.1 ?_)
    refine Zab ?_
    refine Zao (vs := [ptr bb 0]) (by simp only [List.map_cons, List.map_nil, EV,Nat.reduceEqDiff,↓reduceIte,he];try rfl) ?_
    refine Zmw hT (by omega) (by omega) fun υ1 b2 S2 hCH hX1 hn1 => ?_
    refine Zab (Zae rfl (by simp only [EV,Nat.reduceEqDiff,↓reduceIte,he];try rfl) ?_)
    refine Zaf ?_
    apply Zkz 1 3 9 10 11 12 14
    iterate 7 ·simp only [EV,Nat.reduceEqDiff,↓reduceIte,he];try rfl
    clear he e
    intro e he
    repeat refine Zac ?_
    first|refine Zaa ?_|refine Zad ?_
    refine Zab (Zae rfl he.2.2.2.1 ?_)
    refine Zab ?_
    refine Zao (vs := [ptr rb 0]) (by simp only [List.map_cons, List.map_nil, EV,Nat.reduceEqDiff,↓reduceIte,he];try rfl) ?_
    refine Zmx hCH (by omega) fun υ2 r2 T2 hT2 hX2 hn2 => ?_
    refine Zab (Zae rfl (by simp only [EV,Nat.reduceEqDiff,↓reduceIte,he];try rfl) ?_)
    refine Zaf ?_
    exact ⟨rfl, _, _, ⟨by simp only [EV,Nat.reduceEqDiff,↓reduceIte,he];try rfl, by simp only [EV,Nat.reduceEqDiff,↓reduceIte,he];try rfl, by simp only [EV,Nat.reduceEqDiff,↓reduceIte,he];try rfl, by simp only [EV,Nat.reduceEqDiff,↓reduceIte,he];try rfl, by simp only [EV,Nat.reduceEqDiff,↓reduceIte,he];try rfl, by simp only [EV,Nat.reduceEqDiff,↓reduceIte,he];try rfl, by simp only [EV,Nat.reduceEqDiff,↓reduceIte,he];try rfl, by simp only [EV,Nat.reduceEqDiff,↓reduceIte,he];try rfl⟩, (hT.ext hX1).ext hX2, fun _ => ⟨b2, r2, S2, T2, rfl, rfl, hT2, fun c hc hq => by
     rcases hc with hc | hc
     ·exact (hn1 c hc).2 (hT.used c hq)
     ·exact (hn2 c hc).2 (hX1.used _ (hT.used c hq))⟩⟩
   ·have hik : i ≠ k := by have := of_decide_eq_false ht; omega
    refine Zbq ?_
    exact ⟨rfl, _, _, ⟨by simp only [EV,Nat.reduceEqDiff,↓reduceIte,he];try rfl, by simp only [EV,Nat.reduceEqDiff,↓reduceIte,he];try rfl, by simp only [EV,Nat.reduceEqDiff,↓reduceIte,he];try rfl, by simp only [EV,Nat.reduceEqDiff,↓reduceIte,he];try rfl, by simp only [EV,Nat.reduceEqDiff,↓reduceIte,he];try rfl, by simp only [EV,Nat.reduceEqDiff,↓reduceIte,he];try rfl, by simp only [EV,Nat.reduceEqDiff,↓reduceIte,he];try rfl, by simp only [EV,Nat.reduceEqDiff,↓reduceIte,he];try rfl⟩, hT, fun q => hC (by omega)⟩
  clear he e hT hC υ v w
  rintro e υ ⟨v, w, he, hT, hC⟩
  repeat refine Zac ?_
  first|refine Zaa ?_|refine Zad ?_
  refine Zab (Zae rfl he.2.2.2.2.2.2.2 ?_)
  refine Zab (Zae rfl he.1 ?_)
  refine Zab ?_
  refine Zcz (n := l.length) (c := c) (A := A) rfl rfl rfl ZaW ?_
  refine Zab ?_
  refine Zcn (k := .i64) (a := (i : Int)) (b := (l.length : Int)) rfl rfl ?_
  refine Zaf ?_
  apply ZmL 1 3 9 10 11 12 13 14 54
  iterate 9 ·simp only [EV,Nat.reduceEqDiff,↓reduceIte,he];try rfl
  clear he e
  intro e he
  refine Zav (t := decide ((i : Int) = (l.length : Int))) he.2.2.2.2.2.2.2.2 (fun ht => ?_) (fun ht => ?_)
  ·have hil : i = l.length := by have := of_decide_eq_true ht; omega
   refine Zbe ?_
   subst hil
   rw [List.take_length] at hT
   exact ⟨rfl, S, T, v, w, ⟨by simp only [EV,Nat.reduceEqDiff,↓reduceIte,he];try rfl, by simp only [EV,Nat.reduceEqDiff,↓reduceIte,he];try rfl, by simp only [EV,Nat.reduceEqDiff,↓reduceIte,he];try rfl, by simp only [EV,Nat.reduceEqDiff,↓reduceIte,he];try rfl, by simp only [EV,Nat.reduceEqDiff,↓reduceIte,he];try rfl⟩, hT, hC hkl⟩
  have hil : i < l.length := by have := of_decide_eq_false ht; omega
  refine Zaz ?_
  obtain ⟨vN, vP, hcell, hclen, hvN, hvP⟩ := Zfw hs i hil
  obtain ⟨q1, q2, q3, q4⟩ := Zfv (σ := υ) hvN
  obtain ⟨_, _, okN, okn, okP, _⟩ := k0 _ (List.getElem_mem hil)
  have hsn := Zi1 l i hil
  have hbi1 := hbt (i + 1)
  have hpone : vP.one = true /\ Zbi vP = true /\ vP.cells = [vP] := by
   obtain ⟨A', c', cs', rest', rfl, _⟩ := Zd2.1 hvP
   exact ⟨rfl, rfl, rfl⟩
  have hdw : ZfM l[i] <= 20000 := Nat.le_trans (ZgQ (List.getElem_mem hil)) hW
  have hplen : l[i].parts.length <= 1000000 := by unfold ZfM at hdw; omega
  have hnlen : l[i].names.length <= 1000000 := by unfold ZfM at hdw; omega
  have hpm : ∀ p ∈ l[i].parts, p.length <= 1000000 := fun p hp => by
   have := ZmA hp
   unfold ZfM at hdw
   omega
  have hNls : ∀ υ, Ls υ 9 vN l[i].names.length (ZeZ l[i].names) := fun υ => by
   have q1 := (Zfv (σ := υ) hvN).1
   rcases q1 with ⟨A', c', rest', rfl, hA'⟩ | q1
   ·exact ⟨Zdb _, fun a ha => by
     obtain ⟨u, _, rfl⟩ := List.mem_map.1 ha
     rfl, .inl ⟨A', c', rest', rfl, hA'⟩⟩
   ·exact .of q1
  repeat refine Zac ?_
  first|refine Zaa ?_|refine Zad ?_
  refine Zab (Zae rfl he.1 ?_)
  refine Zab (Zae rfl he.2.2.2.2.2.2.2.1 ?_)
  refine Zab ?_
  refine Zcs (k := .i64) (j := i) (A := A) (n := l.length) (c := c) (cells := cs ++ rest) rfl rfl ZaW ZbZ hil hA0 rfl fun ad => ?_
  refine Zab ?_
  refine ZcD (r := .agg (Zb2 l[i].kind l[i].name vN l[i].n vP)) rfl ZeN ZbZ ?_ ?_
  ·show (if 0 + 5 <= ((cs ++ rest).drop (i * 5)).length then some (AV.agg ((((cs ++ rest).drop (i * 5)).drop 0).take 5)) else none) = _
   rw [if_pos (by rw [List.length_drop, List.length_append]; omega), List.drop_zero, List.drop_append_of_le_length (by omega), List.take_append_of_le_length (by rw [List.length_drop]; omega), hcell]
  refine Zab ?_
  refine Zd0 ZaC rfl fun bx υ1 hnx hux hbx0 hubx hX1 => ?_
  refine Zab ?_
  refine Zd1 (b := bx) (o := 0) (u := .agg (Zb2 l[i].kind l[i].name vN l[i].n vP)) (cs' := Zb2 l[i].kind l[i].name vN l[i].n vP) rfl rfl hbx0 ZbZ (Zmy rfl q3 hpone.1) rfl fun υ2 hbx k2 => ?_
  refine Zaf ?_
  have hE2 : Ext υ υ2 := But.ext hX1 (fun g hg => by rw [hg]; exact hnx) k2
  have hux2 := k2.used _ hubx
  clear hbx0 hX1 k2
  apply ZmL 1 3 9 10 11 12 13 14 15
  iterate 9 ·simp only [EV,Nat.reduceEqDiff,↓reduceIte,he];try rfl
  clear he e
  intro e he
  repeat refine Zac ?_
  first|refine Zaa ?_|refine Zad ?_
  refine Zab ?_
  refine Zar (b := bx) (o := 0) (r := .agg (Zb2 l[i].kind l[i].name vN l[i].n vP)) he.2.2.2.2.2.2.2.2 hbx ZeN ZbZ rfl ?_
  refine Zab ?_
  refine Zd0 ZaC rfl fun by_ υ3 hny huy hby0 huby hX3 => ?_
  refine Zab ?_
  refine Zd1 (b := by_) (o := 0) (u := .agg (Zb2 l[i].kind l[i].name vN l[i].n vP)) (cs' := Zb2 l[i].kind l[i].name vN l[i].n vP) rfl rfl hby0 ZbZ (Zmy rfl q3 hpone.1) rfl fun υ4 hby k4 => ?_
  refine Zaf ?_
  have hE34 : Ext υ2 υ4 := But.ext hX3 (fun g hg => by rw [hg]; exact hny) k4
  have hE4 : Ext υ υ4 := hE2.trans hE34
  have hbx4 := hE34.keep _ _ hbx
  have huy4 := k4.used _ huby
  have hux4 := hE34.used _ hux2
  have hyx : by_ ≠ bx := fun q => huy (by rw [q]; exact hux2)
  have hnyυ : Za0 υ by_ := Za0.of ⟨hny, huy⟩ hE2
  clear hby0 hX3 k4 hbx
  apply Zih 1 3 9 10 11 12 13 14 15 16
  iterate 10 ·simp only [EV,Nat.reduceEqDiff,↓reduceIte,he];try rfl
  clear he e
  intro e he
  repeat refine Zac ?_
  first|refine Zaa ?_|refine Zad ?_
  refine Zab ?_
  refine Zag (b := bx) (o := 0) he.2.2.2.2.2.2.2.2.1 Za5 rfl ?_
  refine Zab ?_
  refine Zar (b := bx) (o := 0 + 4) (r := vP) rfl hbx4 Zd5 ZdI rfl ?_
  refine Zab ?_
  refine Zao (vs := [vP]) (by simp only [List.map_cons, List.map_nil, EV,Nat.reduceEqDiff,↓reduceIte,he];try rfl) ?_
  refine Znx (Zjp hvP) hplen hpm fun u υ5 hRL hX5 => ?_
  have hy5 := hX5.keep _ _ hby
  have huone : u.one = true /\ Zbi u = true /\ u.cells = [u] := by
   obtain ⟨_, _, _, _, hH, _⟩ := hRL
   exact hH.oneV
  refine Zab ?_
  refine Zag (b := by_) (o := 0) he.2.2.2.2.2.2.2.2.2 Za5 rfl ?_
  refine Zab ?_
  refine ZbQ (b := by_) (o := 0 + 4) (v := u) rfl rfl hy5 ZdI huone (by simp) fun υ6 hy6 k6 => ?_
  have hRL6 := hRL.but k6 fun c hc hq => hc.2 (by rw [hq]; exact huy4)
  have hE6 : Ext υ υ6 := But.ext (hE4.trans hX5) (fun g hg => by rw [hg]; exact hnyυ.1) k6
  have hbx6 := k6.keep _ _ (fun q => hyx q.symm) (hX5.keep _ _ hbx4)
  have huy6 := k6.used _ (hX5.used _ huy4)
  have hux6 := k6.used _ (hX5.used _ hux4)
  refine Zaf ?_
  clear hby hy5 hRL hX5 k6
  apply Zih 1 3 9 10 11 12 13 14 15 16
  iterate 10 ·simp only [EV,Nat.reduceEqDiff,↓reduceIte,he];try rfl
  clear he e
  intro e he
  repeat refine Zac ?_
  first|refine Zaa ?_|refine Zad ?_
  refine Zab ?_
  refine Zag (b := bx) (o := 0) he.2.2.2.2.2.2.2.2.1 Za5 rfl ?_
  refine Zab ?_
  refine Zar (b := bx) (o := 0 + 2) (r := vN) rfl hbx6 Zdj Zc7 rfl ?_
  refine Zab ?_
  refine Zao (vs := [vN]) (by simp only [List.map_cons, List.map_nil, EV,Nat.reduceEqDiff,↓reduceIte,he];try rfl) ?_
  refine Znw (hNls _) hnlen fun bt y υ7 hLT hX7 hnt => ?_
  have hy7 := hX7.keep _ _ hy6
  have hyone : y.one = true /\ Zbi y = true /\ y.cells = [y] := (hLT.hd (Zdb _)).oneV
  refine Zab ?_
  refine Zag (b := by_) (o := 0) he.2.2.2.2.2.2.2.2.2 Za5 rfl ?_
  refine Zab ?_
  refine ZbQ (b := by_) (o := 0 + 2) (v := y) rfl rfl hy7 Zc7 hyone (by simp) fun υ8 hy8 k8 => ?_
  have hLT8 := hLT.but k8 fun hq => hnt.2 (by rw [hq]; exact huy6)
  have hRL8 := (hRL6.ext hX7).but k8 fun c hc hq => hc.2 (by rw [hq]; exact huy4)
  have hE8 : Ext υ υ8 := But.ext (hE6.trans hX7) (fun g hg => by rw [hg]; exact hnyυ.1) k8
  have hbx8 := k8.keep _ _ (fun q => hyx q.symm) (hX7.keep _ _ hbx6)
  have hux8 := k8.used _ (hX7.used _ hux6)
  refine Zaf ?_
  clear hy6 hy7 hLT hRL6 hX7 k8
  have hy8 : υ8.blk by_ = some (.own 28 (Zb2 l[i].kind l[i].name y l[i].n u)) := hy8
  apply Zih 1 3 9 10 11 12 13 14 15 16
  iterate 10 ·simp only [EV,Nat.reduceEqDiff,↓reduceIte,he];try rfl
  clear he e
  intro e he
  have hnbtυ : Za0 υ bt := Za0.of hnt hE6
  have hRLυ : Zcl υ8 (Za0 υ) u l[i].parts := by
   obtain ⟨cells, bs, g1, g2, g3, g4, g5, g6⟩ := hRL8
   exact ⟨cells, bs, g1, g2, g3, g4, fun c hc => Za0.of (g5 c hc) hE4, fun c hc => Za0.of (g6 c hc) hE4⟩
  clear hRL8 hnt
  have hT8 := hT.ext hE8
  have hSυ := fun c hc => hT.used c (.inl hc)
  have hTυ := fun c hc => hT.used c (.inr hc)
  have hC8 : k <= i -> Zh3 υ8 size k (ZeX (l.take k)) v w (fun c => (S c \/ T c) \/ Za0 υ c) := fun q => (hC q).new.ext hE8
  have hNy : Zc6 υ8 y l[i].names := .inr (hLT8.hd (Zdb _))
  have hRws := hRLυ.ls
  have hsx : ¬ S bx := fun q => hux (hSυ _ q)
  have hUN : ∀ c, Za0 υ c -> ¬ (S c \/ T c) := fun c h q => h.2 (hT.used c q)
  obtain ⟨cells, bs, g1, g2, g3, g4, g5, g6⟩ := hRLυ
  first | refine Zac ?_ | skip
  refine ZaZ (fun env τ => ∃ S' T', (env 1 = .lst A l.length c (cs ++ rest) /\ env 3 = .lst A2 m.length c2 (cs2 ++ rest2) /\ env 9 = ptr bb 0 /\ env 10 = ptr rb 0 /\ env 11 = vI k /\ env 12 = v /\ env 13 = w /\ env 14 = vI i /\ env 16 = ptr by_ 0 /\ env 96 = vT false) /\ Two τ size (i + 1) (ZeX (l.take (i + 1))) bb rb S' T' /\ (k < i + 1 -> Zh3 τ size k (ZeX (l.take k)) v w (fun c => (S' c \/ T' c) \/ c ∈ bs)) /\ τ.blk by_ = some (.own 28 (Zb2 l[i].kind l[i].name y l[i].n u)) /\ Hd τ 32 1 u l[i].parts.length cells /\ (∀ j (h : j < l[i].parts.length) (hb : j < bs.length), ∃ x, cells[j]? = some x /\ ZjD τ bs[j] x l[i].parts[j]) /\ ∀ c ∈ bs, ¬ S' c /\ ¬ T' c) ?_ ?_
  ·refine ZcS ?_
   refine ⟨[0, 3, 1, 4, 2, 5, 6, 7, 8, 9, 10, 11, 12, 13, 14, 16, 15, 17, 18, 19, 20, 21, 22, 24, 23, 25, 26, 27, 28], [[], [], [0, 1], [], [], [0, 1, 2, 3, 4], [0, 1, 2, 3, 4, 5], [0, 1, 2, 3, 4, 5, 6], [0, 1, 2, 3, 4, 5, 6, 7], [0, 1, 2, 3, 4, 5, 6, 7], [0, 1, 2, 3, 4, 5, 6, 7, 8, 9], [0, 1, 2, 3, 4, 5, 6, 7, 8, 9, 10], [0, 1, 2, 3, 4, 5, 6, 7, 8, 9, 10, 11], [0, 1, 2, 3, 4, 5, 6, 7, 8, 9, 10, 11, 12], [0, 1, 2, 3, 4, 5, 6, 7, 8, 9, 10, 11, 12, 13], [0, 1, 2, 3, 4, 5, 6, 7, 8, 9, 10, 11, 12, 13, 14], [0, 1, 2, 3, 4, 5, 6, 7, 8, 9, 10, 11, 12, 13], [0, 1, 2, 3, 4, 5, 6, 7, 8, 9, 10, 11, 12, 13, 16], [0, 1, 2, 3, 4, 5, 6, 7, 8, 9, 10, 11, 12, 13, 14, 15, 16, 17], [0, 1, 2, 3, 4, 5, 6, 7, 8, 9, 10, 11, 12, 13, 14, 15, 16, 17, 18], [0, 1, 2, 3, 4, 5, 6, 7, 8, 9, 10, 11, 12, 13, 14, 15, 16, 17, 18, 19], [0, 1, 2, 3, 4, 5, 6, 7, 8, 9, 10, 11, 12, 13, 14, 15, 16, 17, 18, 19, 20], [0, 1, 2, 3, 4, 5, 6, 7, 8, 9, 10, 11, 12, 13, 14, 15, 16, 17, 18, 19, 20, 21], [0, 1, 2, 3, 4, 5, 6, 7, 8, 9, 10, 11, 12, 13, 14, 15, 16, 17, 18, 19, 20, 21, 22], [0, 1, 2, 3, 4, 5, 6, 7, 8, 9, 10, 11, 12, 13, 14, 15, 16, 17, 18, 19, 20, 21], [0, 1, 2, 3, 4, 5, 6, 7, 8, 9, 10, 11, 12, 13, 14, 15, 16, 17, 18, 19, 20, 21, 24], [0, 1, 2, 3, 4, 5, 6, 7, 8, 9, 10, 11, 12, 13, 14, 15, 16, 17, 18, 19, 20, 21, 22, 23, 24, 25], [0, 1, 2, 3, 4, 5, 6, 7, 8, 9, 10, 11, 12, 13, 14, 15, 16, 17, 18, 19, 20, 21, 22, 23, 24, 25, 26], [0, 1, 2, 3, 4, 5, 6, 7, 8, 9, 10, 11, 12, 13, 14, 15, 16, 17, 18, 19, 20, 21, 22, 23, 24, 25, 26, 27]], fun c => c = bx, [4], [2], [], by kernel_rfl, ?_⟩
   apply ZaH
   case hi => simp only [HIX]; try rfl
   case hw => rfl
   case how => rfl
   case hl => rfl
   refine Zae rfl he.2.2.1 ?_
   refine Zbt ?_
   apply ZaH
   case hi => simp only [HIX]; try rfl
   case hw => rfl
   case how => rfl
   case hl => rfl
   refine Zae rfl he.2.2.2.1 ?_
   refine Zbt ?_
   apply ZaH
   case hi => simp only [HIX]; try rfl
   case hw => rfl
   case how => rfl
   case hl => rfl
   refine Zar (b := by_) (o := 0) (r := .agg (Zb2 l[i].kind l[i].name y l[i].n u)) he.2.2.2.2.2.2.2.2.2 hy8 ZeN ZbZ rfl ?_
   refine Zbt ?_
   apply Zpv
   case hi => simp only [HIX]; try rfl
   case hw => rfl
   case how => rfl
   case hx => simp only [EV,Nat.reduceEqDiff,↓reduceIte,he];try rfl
   case hp => exact rfl
   case hb => exact hbx8
   case ha => exact ZeN
   case hn => exact ZbZ
   case hr => exact rfl
   apply ZaH
   case hi => simp only [HIX]; try rfl
   case hw => rfl
   case how => rfl
   case hl => rfl
   refine Zao (vs := [ptr bb 0, .agg (Zb2 l[i].kind l[i].name y l[i].n u)]) (by simp only [List.map_cons, List.map_nil, EV,Nat.reduceEqDiff,↓reduceIte,he];try rfl) ?_
   refine Zmv (d := l[i].parts.flatten) hT8 (by omega) (by omega) okn.i64 hNy (fun c hc hq => by
    rw [hLT8.bk] at hc
    injection hc with hc
    subst hc
    exact hnbtυ.2 (hSυ _ hq)) (by omega) ⟨hyone.1, huone.1⟩ ⟨hyone.2.1, huone.2.1⟩ (fun τ0 hX0 K' hK' => ZiD (hRws.ext hX0) hplen (by omega) K' hK') fun τ1 S' a hH hB1 hs1 hs2 => ?_
   refine ⟨fun _ => hB1.keeps fun c hc hq => hsx (by rw [<- hc]; exact hq), ?_⟩
   apply ZaH
   case hi => simp only [HIX]; try rfl
   case hw => rfl
   case how => rfl
   case hl => rfl
   refine Zao (vs := [ptr rb 0, .agg (Zb2 l[i].kind l[i].name vN l[i].n vP)]) (by simp only [List.map_cons, List.map_nil, EV,Nat.reduceEqDiff,↓reduceIte,he];try rfl) ?_
   refine Zi0 hH (by omega) (by omega) hplen okn.i64 (Zfv hvN).1 (fun c hc => (q2 c hc).elim) (by omega) ⟨q3, hpone.1⟩ ⟨q4, hpone.2.1⟩ hvP fun τ2 T' hT2 hB2 ht1 ht2 => ?_
   refine ⟨(fun hf => by cases hf), ?_⟩
   rw [<- hsn] at hT2
   apply ZaH
   case hi => simp only [HIX]; try rfl
   case hw => rfl
   case how => rfl
   case hl => rfl
   refine Zgu (k := .i64) (a := (a : Int)) (b := (a : Int)) rfl rfl ?_
   rw [decide_eq_false (by simp : ¬ (a : Int) ≠ (a : Int))]
   refine Zbt ?_
   apply ZaH
   case hi => simp only [HIX]; try rfl
   case hw => rfl
   case how => rfl
   case hl => rfl
   refine Zae rfl rfl ?_
   refine Zbt ?_
   apply ZaH
   case hi => simp only [HIX]; try rfl
   case hw => rfl
   case how => rfl
   case hl => rfl
   refine Zae rfl he.2.2.1 ?_
   refine Zbt ?_
   apply ZaH
   case hi => simp only [HIX]; try rfl
   case hw => rfl
   case how => rfl
   case hl => rfl
   refine Zae rfl he.2.2.2.1 ?_
   refine Zbt ?_
   apply ZaH
   case hi => simp only [HIX]; try rfl
   case hw => rfl
   case how => rfl
   case hl => rfl
   refine Zao (vs := [ptr bb 0, ptr rb 0]) (by simp only [List.map_cons, List.map_nil, EV,Nat.reduceEqDiff,↓reduceIte,he];try rfl) ?_
   refine Zgd hT2 (by omega) (by omega) fun τ3 hX3 => ?_
   refine ⟨(fun hf => by cases hf), ?_⟩
   apply ZaH
   case hi => simp only [HIX]; try rfl
   case hw => rfl
   case how => rfl
   case hl => rfl
   with_reducible apply ZbB
   case hx => simp only [EV,Nat.reduceEqDiff,↓reduceIte,he];try rfl
   refine Zbt ?_
   apply ZaH
   case hi => simp only [HIX]; try rfl
   case hw => rfl
   case how => rfl
   case hl => rfl
   refine Za2 (v := vT false) rfl rfl ?_
   refine Zbt ?_
   have hB12 : But (fun c => S c \/ T c) υ8 τ2 := (hB1.sub fun c hc => .inl hc).trans (hB2.sub fun c hc => .inr hc)
   have hB13 : But (fun c => S c \/ T c) υ8 τ3 := hB12.trans hX3.but
   have hy3 := hB13.keep _ _ (hUN by_ hnyυ) hy8
   have hbx3 := hB13.keep _ _ (hUN bx ⟨hnx, hux⟩) hbx8
   have RL3 : Zcl τ3 (Za0 υ) u l[i].parts := Zcl.but ⟨cells, bs, g1, g2, g3, g4, g5, g6⟩ hB13 hUN
   have LT3 := hLT8.but hB13 (hUN bt hnbtυ)
   apply ZaH
   case hi => simp only [HIX]; try rfl
   case hw => rfl
   case how => rfl
   case hl => rfl
   refine Zae rfl rfl ?_
   refine Zbt ?_
   apply ZaH
   case hi => simp only [HIX]; try rfl
   case hw => rfl
   case how => rfl
   case hl => rfl
   refine Zag (b := by_) (o := 0) he.2.2.2.2.2.2.2.2.2 Za5 rfl ?_
   refine Zbt ?_
   apply ZaH
   case hi => simp only [HIX]; try rfl
   case hw => rfl
   case how => rfl
   case hl => rfl
   refine Zag (b := bx) (o := 0) he.2.2.2.2.2.2.2.2.1 Za5 rfl ?_
   refine Zbt ?_
   apply ZaH
   case hi => simp only [HIX]; try rfl
   case hw => rfl
   case how => rfl
   case hl => rfl
   refine Zar (b := by_) (o := 0 + 4) (r := u) rfl hy3 Zd5 ZdI rfl ?_
   refine Zbt ?_
   apply ZaH
   case hi => simp only [HIX]; try rfl
   case hw => rfl
   case how => rfl
   case hl => rfl
   refine Zar (b := bx) (o := 0 + 4) (r := vP) rfl hbx3 Zd5 ZdI rfl ?_
   refine Zbt ?_
   apply ZaH
   case hi => simp only [HIX]; try rfl
   case hw => rfl
   case how => rfl
   case hl => rfl
   refine Zao (vs := [u, vP]) (by simp only [List.map_cons, List.map_nil, EV,Nat.reduceEqDiff,↓reduceIte,he];try rfl) ?_
   refine ZnA RL3 (Zjp hvP) hplen hpm ?_
   refine Zbt ?_
   apply ZaH
   case hi => simp only [HIX]; try rfl
   case hw => rfl
   case how => rfl
   case hl => rfl
   with_reducible apply ZbB
   case hx => simp only [EV,Nat.reduceEqDiff,↓reduceIte,he];try rfl
   refine Zbt ?_
   apply ZaH
   case hi => simp only [HIX]; try rfl
   case hw => rfl
   case how => rfl
   case hl => rfl
   refine Za2 (v := vT false) rfl rfl ?_
   refine Zbt ?_
   apply ZaH
   case hi => simp only [HIX]; try rfl
   case hw => rfl
   case how => rfl
   case hl => rfl
   refine Zae rfl rfl ?_
   refine Zbt ?_
   apply ZaH
   case hi => simp only [HIX]; try rfl
   case hw => rfl
   case how => rfl
   case hl => rfl
   refine Zag (b := by_) (o := 0) he.2.2.2.2.2.2.2.2.2 Za5 rfl ?_
   refine Zbt ?_
   apply ZaH
   case hi => simp only [HIX]; try rfl
   case hw => rfl
   case how => rfl
   case hl => rfl
   refine Zag (b := bx) (o := 0) he.2.2.2.2.2.2.2.2.1 Za5 rfl ?_
   refine Zbt ?_
   apply ZaH
   case hi => simp only [HIX]; try rfl
   case hw => rfl
   case how => rfl
   case hl => rfl
   refine Zar (b := by_) (o := 0 + 2) (r := y) rfl hy3 Zdj Zc7 rfl ?_
   refine Zbt ?_
   apply ZaH
   case hi => simp only [HIX]; try rfl
   case hw => rfl
   case how => rfl
   case hl => rfl
   refine Zar (b := bx) (o := 0 + 2) (r := vN) rfl hbx3 Zdj Zc7 rfl ?_
   refine Zbt ?_
   apply ZaH
   case hi => simp only [HIX]; try rfl
   case hw => rfl
   case how => rfl
   case hl => rfl
   refine Zao (vs := [y, vN]) (by simp only [List.map_cons, List.map_nil, EV,Nat.reduceEqDiff,↓reduceIte,he];try rfl) ?_
   refine Znz LT3 (hNls _) hnlen fun τ4 hX4 => ?_
   refine ⟨(fun hf => by cases hf), ?_⟩
   apply ZaH
   case hi => simp only [HIX]; try rfl
   case hw => rfl
   case how => rfl
   case hl => rfl
   with_reducible apply ZbB
   case hx => simp only [EV,Nat.reduceEqDiff,↓reduceIte,he];try rfl
   refine Zbt ?_
   apply ZaH
   case hi => simp only [HIX]; try rfl
   case hw => rfl
   case how => rfl
   case hl => rfl
   refine Za2 (v := vT false) rfl rfl ?_
   refine Zbt ?_
   refine Zlr ?_
   have hs3 : ∀ c, S' c -> S c \/ Za0 υ c := fun c hc => (hs2 c hc).imp id fun q => Za0.of q hE8
   have ht3 : ∀ c, T' c -> T c \/ Za0 υ c := fun c hc => (ht2 c hc).imp id fun q => Za0.of (ZpZ q hB1 fun c hc => hE8.used _ (hSυ c hc)) hE8
   refine ⟨rfl, S', T', ⟨by simp only [EV,Nat.reduceEqDiff,↓reduceIte,he];try rfl, by simp only [EV,Nat.reduceEqDiff,↓reduceIte,he];try rfl, by simp only [EV,Nat.reduceEqDiff,↓reduceIte,he];try rfl, by simp only [EV,Nat.reduceEqDiff,↓reduceIte,he];try rfl, by simp only [EV,Nat.reduceEqDiff,↓reduceIte,he];try rfl, by simp only [EV,Nat.reduceEqDiff,↓reduceIte,he];try rfl, by simp only [EV,Nat.reduceEqDiff,↓reduceIte,he];try rfl, by simp only [EV,Nat.reduceEqDiff,↓reduceIte,he];try rfl, by simp only [EV,Nat.reduceEqDiff,↓reduceIte,he];try rfl, by simp only [EV,Nat.reduceEqDiff,↓reduceIte,he];try rfl⟩, (hT2.ext hX3).ext hX4, fun q => (((hC8 (by omega)).but hB13 fun c hc => .inl hc).ext hX4).sub fun c hc => ?_, hX4.keep _ _ hy3, (g3.but hB13 fun c hc => hUN c (g6 c hc)).ext hX4, fun j hj hb => ?_, fun c hc => ?_⟩
   ·rcases hc with (hc | hc) | hc
    ·exact (hs3 c hc).imp .inl id
    ·exact (ht3 c hc).imp .inr id
    ·exact .inr (g5 c hc)
   ·obtain ⟨x, r1, r2⟩ := g4 j hj hb
    exact ⟨x, r1, (r2.but hB13 (hUN _ (g5 _ (List.getElem_mem hb)))).ext hX4⟩
   ·obtain ⟨j, hj, rfl⟩ := List.getElem_of_mem hc
    obtain ⟨x, r1, r2⟩ := g4 j (by omega) hj
    have hu8 := r2.used (ZcV _)
    have hn := g5 _ hc
    refine ⟨fun q => ?_, fun q => ?_⟩
    ·rcases hs2 _ q with q | q
     ·exact hUN _ hn (.inl q)
     ·exact q.2 hu8
    ·rcases ht2 _ q with q | q
     ·exact hUN _ hn (.inr q)
     ·exact q.2 (hB1.used _ hu8)
  clear he e hT8 hC8 hNy hRws g3 g4 hLT8 hbx8 hy8
  rintro e υ9 ⟨S', T', he, hT9, hC9, hy9, g3, g4, g7⟩
  have hyb : by_ ∉ bs := fun hq => by
   obtain ⟨j, hj, hje⟩ := List.getElem_of_mem hq
   obtain ⟨x, _, hx⟩ := g4 j (by omega) hj
   obtain ⟨all, ha⟩ := (hx.hd (ZcV _)).blk hx.bk
   rw [hje, hy9] at ha
   injection ha with ha
   injection ha with h1
   exact absurd h1 (by decide)
  have hub : ∀ c, hbk u = some c -> c ∉ bs := fun c hc hq => by
   obtain ⟨j, hj, rfl⟩ := List.getElem_of_mem hq
   obtain ⟨x, _, hx⟩ := g4 j (by omega) hj
   exact (hx.hd (ZcV _)).ne g3 (by decide) hx.bk hc
  refine Zav (t := false) he.2.2.2.2.2.2.2.2.2 (fun hf => by cases hf) (fun _ => ?_)
  refine Zaz ?_
  repeat refine Zac ?_
  first|refine Zaa ?_|refine Zad ?_
  refine Zab (Zae rfl (by simp only [EV,Nat.reduceEqDiff,↓reduceIte,he];try rfl) ?_)
  refine Zaf ?_
  apply Zih 1 3 9 10 11 12 13 14 16 17
  iterate 10 ·simp only [EV,Nat.reduceEqDiff,↓reduceIte,he];try rfl
  clear he e
  intro e he
  refine ZmS (fun env τ => (env 1 = .lst A l.length c (cs ++ rest) /\ env 3 = .lst A2 m.length c2 (cs2 ++ rest2) /\ env 9 = ptr bb 0 /\ env 10 = ptr rb 0 /\ env 11 = vI k /\ env 12 = v /\ env 13 = w /\ env 14 = vI i) /\ Two τ size (i + 1) (ZeX (l.take (i + 1))) bb rb S' T' /\ (k < i + 1 -> Zh3 τ size k (ZeX (l.take k)) v w (fun c => S' c \/ T' c))) ?_ ?_
  ·refine ZaT ?_
   refine ZaV (fun μ env τ => ∃ n : Nat, μ = l[i].parts.length - n /\ n <= l[i].parts.length /\ (env 1 = .lst A l.length c (cs ++ rest) /\ env 3 = .lst A2 m.length c2 (cs2 ++ rest2) /\ env 9 = ptr bb 0 /\ env 10 = ptr rb 0 /\ env 11 = vI k /\ env 12 = v /\ env 13 = w /\ env 14 = vI i /\ env 16 = ptr by_ 0 /\ env 17 = vI n) /\ Two τ size (i + 1) (ZeX (l.take (i + 1))) bb rb S' T' /\ (k < i + 1 -> Zh3 τ size k (ZeX (l.take k)) v w (fun c => (S' c \/ T' c) \/ c ∈ bs)) /\ τ.blk by_ = some (.own 28 (Zb2 l[i].kind l[i].name y l[i].n u)) /\ Hd τ 32 1 u l[i].parts.length cells /\ ∀ j (h : j < l[i].parts.length) (hb : j < bs.length), n <= j -> ∃ x, cells[j]? = some x /\ ZjD τ bs[j] x l[i].parts[j]) ⟨_, 0, rfl, Nat.zero_le _, he, hT9, hC9, hy9, g3, fun j hj hb _ => g4 j hj hb⟩ ?_
   clear he e hT9 hC9 hy9 g3 g4
   rintro _ e υ10 ⟨n, rfl, hn, he, hT9, hC9, hy9, g3, g4⟩
   repeat refine Zac ?_
   first|refine Zaa ?_|refine Zad ?_
   refine Zab (Zae rfl he.2.2.2.2.2.2.2.2.2 ?_)
   refine Zab ?_
   refine Zag (b := by_) (o := 0) he.2.2.2.2.2.2.2.2.1 Za5 rfl ?_
   refine Zab ?_
   refine Zar (b := by_) (o := 0 + 4) (r := u) rfl hy9 Zd5 ZdI rfl ?_
   refine Zab ?_
   refine ZbS rfl g3 rfl Zba ?_
   refine Zab ?_
   refine Zbs n l[i].parts.length rfl rfl ?_
   refine Zaf ?_
   apply Zpf 1 3 9 10 11 12 13 14 16 17 101
   iterate 11 ·simp only [EV,Nat.reduceEqDiff,↓reduceIte,he];try rfl
   clear he e
   intro e he
   refine Zav (t := decide (n < l[i].parts.length)) he.2.2.2.2.2.2.2.2.2.2 (fun ht => ?_) (fun ht => ?_)
   ·have hlt : n < l[i].parts.length := of_decide_eq_true ht
    have hbn : n < bs.length := by omega
    obtain ⟨x, r1, r2⟩ := g4 n hlt hbn (Nat.le_refl _)
    have hmem : bs[n] ∈ bs := List.getElem_mem hbn
    refine Zaz ?_
    refine ZaD ?_
    repeat refine Zac ?_
    first|refine Zaa ?_|refine Zad ?_
    refine Zab ?_
    refine Zag (b := by_) (o := 0) he.2.2.2.2.2.2.2.2.1 Za5 rfl ?_
    refine Zab ?_
    refine Zar (b := by_) (o := 0 + 4) (r := u) rfl hy9 Zd5 ZdI rfl ?_
    refine Zab (Zae rfl he.2.2.2.2.2.2.2.2.2.1 ?_)
    refine Zjn (.of g3) hlt r1 rfl rfl Zba ZaJ ZbO fun u1 => ?_
    refine Zab ?_
    refine Zao (vs := [x]) (by simp only [List.map_cons, List.map_nil, EV,Nat.reduceEqDiff,↓reduceIte,he];try rfl) ?_
    refine ZnB r2 (hpm _ (List.getElem_mem hlt)) fun υ11 hB => ?_
    refine Zaf ?_
    apply Zih 1 3 9 10 11 12 13 14 16 17
    iterate 10 ·simp only [EV,Nat.reduceEqDiff,↓reduceIte,he];try rfl
    clear he e
    intro e he
    repeat refine Zac ?_
    first|refine Zaa ?_|refine Zad ?_
    refine Zab (Zae rfl he.2.2.2.2.2.2.2.2.2 ?_)
    refine Zab ?_
    refine ZaU n 1 rfl rfl (by omega) ?_
    refine Zab (Zae rfl (by simp only [EV,Nat.reduceEqDiff,↓reduceIte,he];try rfl) ?_)
    refine Zaf ?_
    show ∃ n', n' < _ /\ _
    refine ⟨_, (by omega : l[i].parts.length - (n + 1) < l[i].parts.length - n), n + 1, rfl, hlt, ⟨by simp only [EV,Nat.reduceEqDiff,↓reduceIte,he];try rfl, by simp only [EV,Nat.reduceEqDiff,↓reduceIte,he];try rfl, by simp only [EV,Nat.reduceEqDiff,↓reduceIte,he];try rfl, by simp only [EV,Nat.reduceEqDiff,↓reduceIte,he];try rfl, by simp only [EV,Nat.reduceEqDiff,↓reduceIte,he];try rfl, by simp only [EV,Nat.reduceEqDiff,↓reduceIte,he];try rfl, by simp only [EV,Nat.reduceEqDiff,↓reduceIte,he];try rfl, by simp only [EV,Nat.reduceEqDiff,↓reduceIte,he];try rfl, by simp only [EV,Nat.reduceEqDiff,↓reduceIte,he];try rfl, by simp only [EV,Nat.reduceEqDiff,↓reduceIte,he];try rfl⟩, hT9.but hB fun c hc hq => ?_, fun q => (hC9 q).but hB fun c hc => .inr (by rw [hc]; exact hmem), hB.keep _ _ (fun q => hyb (by rw [q]; exact hmem)) hy9, g3.but hB fun c hc hq => hub c hc (by rw [hq]; exact hmem), fun j hj hb hnj => ?_⟩
    ·rcases hc with hc | hc
     ·exact (g7 _ hmem).1 (by rw [<- hq]; exact hc)
     ·exact (g7 _ hmem).2 (by rw [<- hq]; exact hc)
    ·obtain ⟨x', r3, r4⟩ := g4 j hj hb (by omega)
     exact ⟨x', r3, r4.but hB fun q => List.pairwise_iff_getElem.1 g2 n j hbn hb (by omega) q.symm⟩
   ·refine Zbe ?_
    exact ⟨rfl, ⟨by simp only [EV,Nat.reduceEqDiff,↓reduceIte,he];try rfl, by simp only [EV,Nat.reduceEqDiff,↓reduceIte,he];try rfl, by simp only [EV,Nat.reduceEqDiff,↓reduceIte,he];try rfl, by simp only [EV,Nat.reduceEqDiff,↓reduceIte,he];try rfl, by simp only [EV,Nat.reduceEqDiff,↓reduceIte,he];try rfl, by simp only [EV,Nat.reduceEqDiff,↓reduceIte,he];try rfl, by simp only [EV,Nat.reduceEqDiff,↓reduceIte,he];try rfl, by simp only [EV,Nat.reduceEqDiff,↓reduceIte,he];try rfl⟩, hT9, fun q => (hC9 q).sub fun c hc => .inl hc⟩
  clear he e hT9 hC9 hy9 g3 g4
  rintro e υ12 ⟨he, hT9, hC9⟩
  show Zay _ _ _ _ _ _
  repeat refine Zac ?_
  first|refine Zaa ?_|refine Zad ?_
  refine Zab (Zae rfl he.2.2.2.2.2.2.2 ?_)
  refine Zab ?_
  refine ZaU i 1 rfl rfl (by omega) ?_
  refine Zab (Zae rfl (by simp only [EV,Nat.reduceEqDiff,↓reduceIte,he];try rfl) ?_)
  refine Zaf ?_
  show ∃ n', n' < _ /\ _
  exact ⟨_, (by omega : l.length - (i + 1) < l.length - i), i + 1, S', T', v, w, rfl, hil, ⟨by simp only [EV,Nat.reduceEqDiff,↓reduceIte,he];try rfl, by simp only [EV,Nat.reduceEqDiff,↓reduceIte,he];try rfl, by simp only [EV,Nat.reduceEqDiff,↓reduceIte,he];try rfl, by simp only [EV,Nat.reduceEqDiff,↓reduceIte,he];try rfl, by simp only [EV,Nat.reduceEqDiff,↓reduceIte,he];try rfl, by simp only [EV,Nat.reduceEqDiff,↓reduceIte,he];try rfl, by simp only [EV,Nat.reduceEqDiff,↓reduceIte,he];try rfl, by simp only [EV,Nat.reduceEqDiff,↓reduceIte,he];try rfl⟩, hT9, hC9⟩
 clear he e T6
 rintro e υ ⟨S, T, _, _, he, hT, b2, r2, S2, T2, rfl, rfl, hT2, hsep⟩
 have hbk := hbt k
 repeat refine Zac ?_
 first|refine Zaa ?_|refine Zad ?_
 refine Zab (Zae rfl (by simp only [EV,Nat.reduceEqDiff,↓reduceIte,he];try rfl) ?_)
 refine Zaf ?_
 apply ZdN 3 9 10 12 13 18
 iterate 6 ·simp only [EV,Nat.reduceEqDiff,↓reduceIte,he];try rfl
 clear he e
 intro e he
 first | refine Zac ?_ | skip
 refine ZaZ (fun env υ => ∃ S2 T2, (env 9 = ptr bb 0 /\ env 10 = ptr rb 0 /\ env 12 = ptr b2 0 /\ env 13 = ptr r2 0) /\ Two υ size l.length (ZeX l) bb rb S T /\ Two υ size (k + m.length) (ZeX (l.take k) + ZeX m) b2 r2 S2 T2) ?_ ?_
 ·refine ZaT ?_
  refine ZaV (fun μ env υ => ∃ (j : Nat), ∃ S2 T2, μ = m.length - j /\ j <= m.length /\ (env 3 = .lst A2 m.length c2 (cs2 ++ rest2) /\ env 9 = ptr bb 0 /\ env 10 = ptr rb 0 /\ env 12 = ptr b2 0 /\ env 13 = ptr r2 0 /\ env 18 = vI j) /\ Two υ size l.length (ZeX l) bb rb S T /\ Two υ size (k + j) (ZeX (l.take k) + ZeX (m.take j)) b2 r2 S2 T2 /\ ∀ c, S2 c \/ T2 c -> ¬ (S c \/ T c)) ⟨_, 0, S2, T2, rfl, Nat.zero_le _, he, hT, hT2, hsep⟩ ?_
  clear he e hT hT2 hsep
  rintro _ e υ ⟨j, S2, T2, rfl, hj, he, hT, hT2, hsep⟩
  have hbj := hbmt j
  repeat refine Zac ?_
  first|refine Zaa ?_|refine Zad ?_
  refine Zab (Zae rfl he.2.2.2.2.2 ?_)
  refine Zab (Zae rfl he.1 ?_)
  refine Zab ?_
  refine Zcz (n := m.length) (c := c2) (A := A2) rfl rfl rfl ZaW ?_
  refine Zab ?_
  refine Zbs j m.length rfl rfl ?_
  refine Zaf ?_
  apply Zkz 3 9 10 12 13 18 113
  iterate 7 ·simp only [EV,Nat.reduceEqDiff,↓reduceIte,he];try rfl
  clear he e
  intro e he
  refine Zav (t := decide (j < m.length)) he.2.2.2.2.2.2 (fun ht => ?_) (fun ht => ?_)
  ·have hlt : j < m.length := of_decide_eq_true ht
   obtain ⟨vN, vP, hcell, hclen, hvN, hvP⟩ := Zfw hs2 j hlt
   obtain ⟨q1, q2, q3, q4⟩ := Zfv (σ := υ) hvN
   obtain ⟨_, _, okN, okn, okP, _⟩ := k2 _ (List.getElem_mem hlt)
   have hsn := Zi1 m j hlt
   have hbj1 := hbmt (j + 1)
   have hpone : vP.one = true /\ Zbi vP = true := by
    obtain ⟨A', c', cs', rest', rfl, _⟩ := Zd2.1 hvP
    exact ⟨rfl, rfl⟩
   have hdw : ZfM m[j] <= 20000 := Nat.le_trans (ZgQ (List.getElem_mem hlt)) hWm
   have hplen : m[j].parts.length <= 1000000 := by unfold ZfM at hdw; omega
   have hnlen : m[j].names.length <= 1000000 := by unfold ZfM at hdw; omega
   have hld : Zch (some true) (some 5) ((cs2 ++ rest2).drop (j * 5)) 0 = some (.agg (Zb2 m[j].kind m[j].name vN m[j].n vP)) := by
    show (if 0 + 5 <= ((cs2 ++ rest2).drop (j * 5)).length then some (AV.agg ((((cs2 ++ rest2).drop (j * 5)).drop 0).take 5)) else none) = _
    rw [if_pos (by rw [List.length_drop, List.length_append]; omega), List.drop_zero, List.drop_append_of_le_length (by omega), List.take_append_of_le_length (by rw [List.length_drop]; omega), hcell]
   refine Zaz ?_
   refine ZaD ?_
   first | refine Zac ?_ | skip
   refine ZaZ (fun env τ => ∃ S2' T2', (env 3 = .lst A2 m.length c2 (cs2 ++ rest2) /\ env 9 = ptr bb 0 /\ env 10 = ptr rb 0 /\ env 12 = ptr b2 0 /\ env 13 = ptr r2 0 /\ env 18 = vI j /\ env 134 = vT false) /\ Two τ size l.length (ZeX l) bb rb S T /\ Two τ size (k + (j + 1)) (ZeX (l.take k) + ZeX (m.take (j + 1))) b2 r2 S2' T2' /\ ∀ c, S2' c \/ T2' c -> ¬ (S c \/ T c)) ?_ ?_
   ·refine ZcS ?_
    refine ⟨[0, 1, 2, 3, 6, 7, 8, 9, 4, 10, 5, 11, 12, 13, 14, 15, 16, 17, 18], [[], [], [], [1, 2], [1, 2, 3], [0, 1, 2, 3, 4], [], [], [], [7, 8], [7, 8, 9], [0, 1, 2, 3, 4, 5, 6, 7, 8, 9, 10], [0, 1, 2, 3, 4, 5, 6, 7, 8, 9, 10, 11], [0, 1, 2, 3, 4, 5, 6, 7, 8, 9, 10, 11, 12], [0, 1, 2, 3, 4, 5, 6, 7, 8, 9, 10, 11, 12, 13], [0, 1, 2, 3, 4, 5, 6, 7, 8, 9, 10, 11, 12, 13], [0, 1, 2, 3, 4, 5, 6, 7, 8, 9, 10, 11, 12, 13, 14, 15], [0, 1, 2, 3, 4, 5, 6, 7, 8, 9, 10, 11, 12, 13, 14, 15, 16], [0, 1, 2, 3, 4, 5, 6, 7, 8, 9, 10, 11, 12, 13, 14, 15, 16, 17]], fun _ => False, [10], [5], [], by kernel_rfl, ?_⟩
    apply ZaH
    case hi => simp only [HIX]; try rfl
    case hw => rfl
    case how => rfl
    case hl => rfl
    refine Zae rfl he.2.2.2.1 ?_
    refine Zbt ?_
    apply ZaH
    case hi => simp only [HIX]; try rfl
    case hw => rfl
    case how => rfl
    case hl => rfl
    refine Zae rfl he.1 ?_
    refine Zbt ?_
    apply ZaH
    case hi => simp only [HIX]; try rfl
    case hw => rfl
    case how => rfl
    case hl => rfl
    refine Zae rfl he.2.2.2.2.2.1 ?_
    refine Zbt ?_
    apply ZaH
    case hi => simp only [HIX]; try rfl
    case hw => rfl
    case how => rfl
    case hl => rfl
    refine Zcs (k := .i64) (j := j) (A := A2) (n := m.length) (c := c2) (cells := cs2 ++ rest2) rfl rfl ZaW ZbZ hlt hA2 rfl fun ad1 => ?_
    refine Zbt ?_
    apply ZaH
    case hi => simp only [HIX]; try rfl
    case hw => rfl
    case how => rfl
    case hl => rfl
    refine Zae rfl he.2.2.2.2.1 ?_
    refine Zbt ?_
    apply ZaH
    case hi => simp only [HIX]; try rfl
    case hw => rfl
    case how => rfl
    case hl => rfl
    refine Zae rfl he.1 ?_
    refine Zbt ?_
    apply ZaH
    case hi => simp only [HIX]; try rfl
    case hw => rfl
    case how => rfl
    case hl => rfl
    refine Zae rfl he.2.2.2.2.2.1 ?_
    refine Zbt ?_
    apply ZaH
    case hi => simp only [HIX]; try rfl
    case hw => rfl
    case how => rfl
    case hl => rfl
    refine Zcs (k := .i64) (j := j) (A := A2) (n := m.length) (c := c2) (cells := cs2 ++ rest2) rfl rfl ZaW ZbZ hlt hA2 rfl fun ad2 => ?_
    refine Zbt ?_
    apply ZaH
    case hi => simp only [HIX]; try rfl
    case hw => rfl
    case how => rfl
    case hl => rfl
    refine ZcD (r := .agg (Zb2 m[j].kind m[j].name vN m[j].n vP)) rfl ZeN ZbZ hld ?_
    refine Zbt ?_
    apply ZqL
    case hi => simp only [HIX]; try rfl
    case hw => rfl
    case how => rfl
    case hx =>
     simp only [EV,Nat.reduceEqDiff,↓reduceIte,he];try rfl
    case ha => exact ZeN
    case hn => exact ZbZ
    case hr => exact hld
    apply ZaH
    case hi => simp only [HIX]; try rfl
    case hw => rfl
    case how => rfl
    case hl => rfl
    refine Zao (vs := [ptr b2 0, .agg (Zb2 m[j].kind m[j].name vN m[j].n vP)]) (by simp only [List.map_cons, List.map_nil, EV,Nat.reduceEqDiff,↓reduceIte,he];try rfl) ?_
    refine Zmv (d := m[j].parts.flatten) hT2 (by omega) (by omega) okn.i64 q1 (fun c hc => (q2 c hc).elim) (by omega) ⟨q3, hpone.1⟩ ⟨q4, hpone.2⟩ (fun τ0 _ K' hK' => ZeK hvP hplen (by omega) K' hK') fun τ1 S2' a hH hB1 hs1 hs2 => ?_
    refine ⟨fun _ => hB1.keeps fun c hc hq => hc.elim, ?_⟩
    apply ZaH
    case hi => simp only [HIX]; try rfl
    case hw => rfl
    case how => rfl
    case hl => rfl
    refine Zao (vs := [ptr r2 0, .agg (Zb2 m[j].kind m[j].name vN m[j].n vP)]) (by simp only [List.map_cons, List.map_nil, EV,Nat.reduceEqDiff,↓reduceIte,he];try rfl) ?_
    refine Zi0 hH (by omega) (by omega) hplen okn.i64 (Zfv hvN).1 (fun c hc => (q2 c hc).elim) (by omega) ⟨q3, hpone.1⟩ ⟨q4, hpone.2⟩ hvP fun τ2 T2' hT3 hB2 ht1 ht2 => ?_
    refine ⟨(fun hf => by cases hf), ?_⟩
    rw [Nat.add_assoc (ZeX (l.take k)), <- hsn] at hT3
    apply ZaH
    case hi => simp only [HIX]; try rfl
    case hw => rfl
    case how => rfl
    case hl => rfl
    refine Zgu (k := .i64) (a := (a : Int)) (b := (a : Int)) rfl rfl ?_
    rw [decide_eq_false (by simp : ¬ (a : Int) ≠ (a : Int))]
    refine Zbt ?_
    apply ZaH
    case hi => simp only [HIX]; try rfl
    case hw => rfl
    case how => rfl
    case hl => rfl
    refine Zae rfl rfl ?_
    refine Zbt ?_
    apply ZaH
    case hi => simp only [HIX]; try rfl
    case hw => rfl
    case how => rfl
    case hl => rfl
    refine Zae rfl he.2.2.2.1 ?_
    refine Zbt ?_
    apply ZaH
    case hi => simp only [HIX]; try rfl
    case hw => rfl
    case how => rfl
    case hl => rfl
    refine Zae rfl he.2.2.2.2.1 ?_
    refine Zbt ?_
    apply ZaH
    case hi => simp only [HIX]; try rfl
    case hw => rfl
    case how => rfl
    case hl => rfl
    refine Zao (vs := [ptr b2 0, ptr r2 0]) (by simp only [List.map_cons, List.map_nil, EV,Nat.reduceEqDiff,↓reduceIte,he];try rfl) ?_
    refine Zgd hT3 (by omega) (by omega) fun τ3 hX3 => ?_
    refine ⟨(fun hf => by cases hf), ?_⟩
    apply ZaH
    case hi => simp only [HIX]; try rfl
    case hw => rfl
    case how => rfl
    case hl => rfl
    with_reducible apply ZbB
    case hx => simp only [EV,Nat.reduceEqDiff,↓reduceIte,he];try rfl
    refine Zbt ?_
    apply ZaH
    case hi => simp only [HIX]; try rfl
    case hw => rfl
    case how => rfl
    case hl => rfl
    refine Za2 (v := vT false) rfl rfl ?_
    refine Zbt ?_
    refine Zlr ?_
    refine ⟨rfl, S2', T2', ⟨by simp only [EV,Nat.reduceEqDiff,↓reduceIte,he];try rfl, by simp only [EV,Nat.reduceEqDiff,↓reduceIte,he];try rfl, by simp only [EV,Nat.reduceEqDiff,↓reduceIte,he];try rfl, by simp only [EV,Nat.reduceEqDiff,↓reduceIte,he];try rfl, by simp only [EV,Nat.reduceEqDiff,↓reduceIte,he];try rfl, by simp only [EV,Nat.reduceEqDiff,↓reduceIte,he];try rfl, by simp only [EV,Nat.reduceEqDiff,↓reduceIte,he];try rfl⟩, ((hT.but hB1 fun c hc hq => hsep c (.inl hq) hc).but hB2 fun c hc hq => hsep c (.inr hq) hc).ext hX3, hT3.ext hX3, fun c hc hq => ?_⟩
    rcases hc with hc | hc
    ·rcases hs2 c hc with q | q
     ·exact hsep c (.inl q) hq
     ·exact q.2 (hT.used c hq)
    ·rcases ht2 c hc with q | q
     ·exact hsep c (.inr q) hq
     ·exact q.2 (hB1.used _ (hT.used c hq))
   clear he e hT hT2 hsep
   rintro e υ3 ⟨S2', T2', he, hT, hT2, hsep⟩
   refine ZaS (t := false) he.2.2.2.2.2.2 (fun hf => by cases hf) (fun _ => ?_)
   refine Zbq ?_
   show Zay _ _ _ _ _ _
   refine Zad ?_
   refine Zab (Zae rfl he.2.2.2.2.2.1 ?_)
   refine Zab ?_
   refine ZaU j 1 rfl rfl (by omega) ?_
   refine Zab (Zae rfl (by simp only [EV,Nat.reduceEqDiff,↓reduceIte,he];try rfl) ?_)
   refine Zaf ?_
   show ∃ n', n' < _ /\ _
   exact ⟨_, (by omega : m.length - (j + 1) < m.length - j), j + 1, S2', T2', rfl, hlt, ⟨by simp only [EV,Nat.reduceEqDiff,↓reduceIte,he];try rfl, by simp only [EV,Nat.reduceEqDiff,↓reduceIte,he];try rfl, by simp only [EV,Nat.reduceEqDiff,↓reduceIte,he];try rfl, by simp only [EV,Nat.reduceEqDiff,↓reduceIte,he];try rfl, by simp only [EV,Nat.reduceEqDiff,↓reduceIte,he];try rfl, by simp only [EV,Nat.reduceEqDiff,↓reduceIte,he];try rfl⟩, hT, hT2, hsep⟩
  ·have hjm : j = m.length := by have := of_decide_eq_false ht; omega
   refine Zbe ?_
   subst hjm
   rw [List.take_length] at hT2
   exact ⟨rfl, S2, T2, ⟨by simp only [EV,Nat.reduceEqDiff,↓reduceIte,he];try rfl, by simp only [EV,Nat.reduceEqDiff,↓reduceIte,he];try rfl, by simp only [EV,Nat.reduceEqDiff,↓reduceIte,he];try rfl, by simp only [EV,Nat.reduceEqDiff,↓reduceIte,he];try rfl⟩, hT, hT2⟩
 clear he e hT hT2 hsep
 rintro e υ ⟨S2, T2, he, hT, hT2⟩
 repeat refine Zac ?_
 first|refine Zaa ?_|refine Zad ?_
 refine Zab (Zae rfl he.1 ?_)
 refine Zab (Zae rfl he.2.1 ?_)
 refine Zab ?_
 refine Zao (vs := [ptr bb 0, ptr rb 0]) (by simp only [List.map_cons, List.map_nil, EV,Nat.reduceEqDiff,↓reduceIte,he];try rfl) ?_
 refine Zgd hT (by omega) (by omega) fun υ1 hX1 => ?_
 refine Zab (Zae rfl (by simp only [EV,Nat.reduceEqDiff,↓reduceIte,he];try rfl) ?_)
 refine Zab (Zah (ZaN rfl (by simp only [EV,Nat.reduceEqDiff,↓reduceIte,he];try rfl)) ?_)
 refine Zae rfl he.2.2.1 ?_
 refine Zab (Zah (ZaN rfl (by simp only [EV,Nat.reduceEqDiff,↓reduceIte,he];try rfl)) ?_)
 refine Zae rfl he.2.2.2 ?_
 refine Zab (Zah (ZaN rfl (by simp only [EV,Nat.reduceEqDiff,↓reduceIte,he];try rfl)) ?_)
 refine Zao (vs := [ptr b2 0, ptr r2 0]) (by simp only [List.map_cons, List.map_nil, EV,Nat.reduceEqDiff,↓reduceIte,he];try rfl) ?_
 refine Zgd (hT2.ext hX1) (by omega) (by omega) fun υ2 hX2 => ?_
 refine Zab ?_
 refine ZaG (v := vT true) rfl rfl ?_
 refine Zab (Zae rfl (by simp only [EV,Nat.reduceEqDiff,↓reduceIte,he];try rfl) ?_)
 refine Zab (Zah (ZaN rfl (by simp only [EV,Nat.reduceEqDiff,↓reduceIte,he];try rfl)) ?_)
 refine Zao (vs := []) rfl ?_
 refine ZhP fun υ3 hX3 => ?_
 refine Zab ?_
 refine ZaG (v := vT true) rfl rfl ?_
 refine Zab (Zae rfl (by simp only [EV,Nat.reduceEqDiff,↓reduceIte,he];try rfl) ?_)
 refine Zaf ?_
 refine Zax ?_
 show ∃ r, Zaj _ _ _ _ r /\ _
 exact ⟨_, Zal rfl rfl, hK _⟩
end Go.Proofs.Ytinpiaibhjmfaaa
