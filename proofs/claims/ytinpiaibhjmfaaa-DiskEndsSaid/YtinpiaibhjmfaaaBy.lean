/- Lists of bytes and texts, by hand: alike, cloned, one behind the other; names that are right; a number picked. -/
import Derived.Test.YtinpiaibhjmfaaaMe
import Derived.Test.YtinpiaibhjmfaaaSl
import Derived.Test.YtinpiaibhjmfaaaTb
import Derived.Test.YtinpiaibhjmfaaaGw
import Derived.Test.YtinpiaibhjmfaaaSm
namespace Go.Proofs.Ytinpiaibhjmfaaa
open Go.RowKit
set_option maxRecDepth 100000
set_option linter.unusedVariables false
set_option linter.unusedSimpArgs false
theorem ZpB (d : List UInt8) : d.flatMap (CT.enc 1) = d.map fun b => XV.int .u8 (b.toNat : Int) := by
 induction d with
 | nil => rfl
 | cons x d ih => rw [List.flatMap_cons, ih]; rfl
theorem Ze7 {N : Nat} {ρ : Nat -> AV} (d : List UInt8) : SVs CT N ρ (d.flatMap (CT.enc 1)) (bys d) := by
 rw [ZpB]
 exact Zlk d
theorem ZnP {N : Nat} {ρ : Nat -> AV} : ∀ {d : List UInt8} {cs : List AV}, SVs CT N ρ (d.flatMap (CT.enc 1)) cs -> cs = bys d
 | [], cs, h => Zdh.1 h
 | b :: d, cs, h => by
  rw [List.flatMap_cons] at h
  obtain ⟨a, as_, rfl, h1, h2⟩ := SVs.to (v := XV.int .u8 (b.toNat : Int)) h
  rw [ZnP h2, ZaM.1 h1]
  rfl
theorem Zfn {N : Nat} {ρ : Nat -> AV} {d : List UInt8} {a : AV} (h : SV CT N ρ (.sl 1 d none) a) : ∃ A c rest, a = .lst A d.length c (bys d ++ rest) /\ Lst A d.length c := by
 obtain ⟨A, c, cs, rest, rfl, l1, l2, l3, l4, l5⟩ := Zd2.1 h
 rw [ZnP l5]
 exact ⟨A, c, rest, rfl, l1, l2, l3, l4⟩
theorem Zm5 {N : Nat} {ρ : Nat -> AV} {d : List UInt8} {A : Option Addr} {c : Nat} {rest : List AV} (h : Lst A d.length c) : SV CT N ρ (.sl 1 d none) (.lst A d.length c (bys d ++ rest)) :=
 Zd2.2 ⟨A, c, bys d, rest, rfl, h.le, h.most, h.small, h.none, Ze7 d⟩
theorem Zm6 (ps : List (List UInt8)) : ps.flatMap (CT.enc 3) = ps.map fun p => XV.sl 1 p none := by
 induction ps with
 | nil => rfl
 | cons x d ih => rw [List.flatMap_cons, ih]; rfl
theorem Zhy {ps : List (List UInt8)} {A : Option Addr} {c : Nat} {as_ : List AV} (hs : SVs CT 0 ZdC (ps.map fun p => XV.sl 1 p none) as_) (hA : Lst A ps.length c) : SV CT 0 ZdC (.sl 3 ps none) (.lst A ps.length c as_) :=
 Zd2.2 ⟨A, c, as_, [], by rw [List.append_nil], hA.le, hA.most, hA.small, hA.none, by rw [Zm6]; exact hs⟩
theorem Zec {N : Nat} {ρ : Nat -> AV} {d : List UInt8} {A : Option Addr} {c : Nat} (h : Lst A d.length c) : SV CT N ρ (.sl 1 d none) (.lst A d.length c (bys d)) := by
 rw [<- List.append_nil (bys d)]
 exact Zm5 h
theorem Zd3 (b : Nat) {n : Nat} (h : n <= 1000) : Lst (some ⟨b, 0, none⟩) n n := ⟨Nat.le_refl _, by unfold maxLen; omega, by omega, fun q => by cases q⟩
def ZcY (σ : St) (v : AV) (d : List UInt8) : Prop := Hd σ 5 1 v d.length (bys d) \/ SV CT 0 ZdC (.sl 1 d none) v
theorem Zhz {d : List UInt8} {i : Nat} (h : i < d.length) : (bys d)[i]? = some (.raw (.int .u8 (d[i].toNat : Int))) := by
 unfold bys
 rw [List.getElem?_map, List.getElem?_eq_getElem h]
 rfl
theorem Zm7 (d : List UInt8) : ∀ a ∈ bys d, a.one = true := fun a ha => by
 obtain ⟨u, _, rfl⟩ := List.mem_map.1 ha
 rfl
theorem ZcY.ls {σ : St} {v : AV} {d : List UInt8} (h : ZcY σ v d) : Ls σ 5 v d.length (bys d) := by
 rcases h with h | h
 ·exact .of h
 ·obtain ⟨A, c, rest, rfl, hL⟩ := Zfn h
  exact ⟨ZcV d, Zm7 d, .inl ⟨A, c, rest, rfl, fun q => (hL.none q).1⟩⟩
theorem ZcY.but {U : Nat -> Prop} {σ τ : St} {v : AV} {d : List UInt8} (h : ZcY σ v d) (k : But U σ τ) (hU : ∀ c, hbk v = some c -> ¬ U c) : ZcY τ v d := h.imp (fun q => q.but k hU) id
theorem ZcY.ext {σ τ : St} {v : AV} {d : List UInt8} (h : ZcY σ v d) (k : Ext σ τ) : ZcY τ v d := h.imp (fun q => q.ext k) id
def ZgD (σ : St) (v : AV) (ps : List (List UInt8)) : Prop := ∃ cells, Ls σ 32 v ps.length cells /\ ∀ i (h : i < ps.length), ∃ u, cells[i]? = some u /\ ZcY σ u ps[i]
theorem ZgD.but {U : Nat -> Prop} {σ τ : St} {v : AV} {ps : List (List UInt8)} (h : ZgD σ v ps) (k : But U σ τ) (hU : ∀ c, U c -> ¬ σ.used c) : ZgD τ v ps := by
 obtain ⟨cells, h1, h2⟩ := h
 refine ⟨cells, ⟨h1.1, h1.2.1, h1.2.2.imp id fun q => q.but k fun c hc hu => hU c hu (q.used hc)⟩, fun i hi => ?_⟩
 obtain ⟨u, q1, q2⟩ := h2 i hi
 exact ⟨u, q1, q2.imp (fun q => q.but k fun c hc hu => hU c hu (q.used hc)) id⟩
theorem ZgD.ext {σ τ : St} {v : AV} {ps : List (List UInt8)} (h : ZgD σ v ps) (k : Ext σ τ) : ZgD τ v ps := h.but (U := fun _ => False) k.but fun _ q => q.elim
theorem ZfF {N : Nat} {ρ : Nat -> AV} : ∀ {l : List (List UInt8)} {cs : List AV}, SVs CT N ρ (l.flatMap (CT.enc 3)) cs -> cs.length = l.length /\ ∀ i (h : i < l.length), ∃ v, cs[i]? = some v /\ SV CT N ρ (.sl 1 l[i] none) v
 | [], cs, h => by
  rw [Zdh.1 h]
  exact ⟨rfl, fun i h => absurd h (Nat.not_lt_zero i)⟩
 | f :: l, cs, hs => by
  rw [List.flatMap_cons] at hs
  have hs : SVs CT N ρ (XV.sl 1 f none :: l.flatMap (CT.enc 3)) cs := hs
  obtain ⟨a0, as_, rfl, h0, h1⟩ := hs.to
  obtain ⟨q1, q2⟩ := ZfF h1
  refine ⟨by simp [q1], fun i hi => ?_⟩
  cases i with
  | zero => exact ⟨a0, rfl, h0⟩
  | succ i =>
   obtain ⟨v, r1, r2⟩ := q2 i (by simpa using hi)
   exact ⟨v, r1, r2⟩
theorem Zjp {σ : St} {ps : List (List UInt8)} {a : AV} (ha : SV CT 0 ZdC (.sl 3 ps none) a) : ZgD σ a ps := by
 obtain ⟨A, c, cs, rest, rfl, l1, l2, l3, l4, l5⟩ := Zd2.1 ha
 obtain ⟨q1, q2⟩ := ZfF l5
 refine ⟨cs, ⟨q1, fun a ha => ?_, .inl ⟨A, c, rest, rfl, fun q => (l4 q).1⟩⟩, fun i hi => ?_⟩
 ·obtain ⟨i, hi, rfl⟩ := List.getElem_of_mem ha
  obtain ⟨v, r1, r2⟩ := q2 i (by omega)
  rw [List.getElem?_eq_getElem hi] at r1
  injection r1 with r1
  rw [r1]
  obtain ⟨A', c', rest', rfl, _⟩ := Zfn r2
  rfl
 ·obtain ⟨v, r1, r2⟩ := q2 i hi
  exact ⟨v, r1, .inr r2⟩
section
variable {σ : St} {K : AV -> St -> Prop}
theorem Ziw : ZcT Try.prog 5 = some 1 := by kernel_rfl
theorem Zix : Zek Try.prog 5 = some false := by kernel_rfl
theorem Ze8 : Zek Try.prog 9 = some false := by kernel_rfl
theorem Zb3 : ZaO Try.prog 9 = some 1 := by kernel_rfl
theorem Ziy : Program.underlying Try.prog 5 = some (.int .u8) := by kernel_rfl
theorem ZlN {P : Program} {ops : Array Oper} {env : Env} {σ : St} {K : Env -> St -> Prop} {d : Option Nat} {ty ty' t e : TypeId} {pos : String} {af : Array Edge} {x y : Operand} {A : Option Addr} {n c : Nat} {v : AV} (ht : ZaX P t = some e) (hx : ev env x = v) (hv : v.val = .slice A n c) (hy : ev env y = .lst none 0 0 []) (h : K (env.put d (.raw (.bool A.isNone))) σ) : aOp P ops ⟨d, .binOp .eql t x y ty', ty, pos, af, none⟩ env σ K :=
 ZdZ hx hy (fun w _ _ => by rw [hv]; simp [eqGuard_at_slice, binOp, run_equal_slice_nil w t e A n c (ZbU ht)]) h
theorem Zm8 {d : List UInt8} {v : AV} (hv : ZcY σ v d) (hl : d.length <= 1000000000) (K : AV -> St -> Prop) (hK : ∀ a τ, Hd τ 5 1 a d.length (bys d) -> Ext σ τ -> (∀ b, hbk a = some b -> Za0 σ b) -> K a τ) : Zat Try.prog 41 [v] σ K := by
 have hL := hv.ls
 obtain ⟨A, c, h1, h2⟩ := hL.val
 refine Zam Zas Try.func41 rfl rfl rfl (Nat.le_of_ble_eq_true rfl) ?_
 refine Zbz 0 (v0 := v) rfl ?_
 intro e he
 repeat refine Zac ?_
 first|refine Zaa ?_|refine Zad ?_
 refine Zab (Zae rfl (by simp only [EV,Nat.reduceEqDiff,↓reduceIte,he];try rfl) ?_)
 refine Zaf ?_
 apply Zbz 0
 ·simp only [EV,Nat.reduceEqDiff,↓reduceIte,he];try rfl
 clear he e
 intro e he
 repeat refine Zac ?_
 first|refine Zaa ?_|refine Zad ?_
 refine Zab (Zae rfl he ?_)
 refine Zab ?_
 refine ZlN (A := A) (n := d.length) (c := c) Zaw rfl h1 rfl ?_
 refine Zaf ?_
 apply ZaK 0 4
 iterate 2 ·simp only [EV,Nat.reduceEqDiff,↓reduceIte,he];try rfl
 clear he e
 intro e he
 cases A with
 | none =>
  have hd : d = [] := List.eq_nil_of_length_eq_zero (h2 rfl)
  subst hd
  refine Zav (t := true) he.2 (fun _ => ?_) (fun hf => by cases hf)
  repeat refine Zac ?_
  first|refine Zaa ?_|refine Zad ?_
  refine Zab (Zae rfl (by simp only [EV,Nat.reduceEqDiff,↓reduceIte,he];try rfl) ?_)
  refine Zaf ?_
  refine Zcw ?_
  show ∃ r, Zaj _ _ _ _ r /\ _
  exact ⟨_, Zal rfl rfl, hK _ σ ⟨rfl, by simp [bys], .inl ⟨.inl rfl, rfl⟩⟩ (.refl _) (fun b hb => by cases hb)⟩
 | some ad =>
  refine Zav (t := false) he.2 (fun hf => by cases hf) (fun _ => ?_)
  refine Zaz ?_
  repeat refine Zac ?_
  first|refine Zaa ?_|refine Zad ?_
  refine Zom Zaw Zbf ZbT rfl fun ad υ1 hX1 => ?_
  refine Zab (Zae rfl he.1 ?_)
  refine Zab ?_
  refine Za9 (m := d.length) (news := bys d) rfl rfl Zaw Zbf ZbT Ziw rfl (by omega) (Zpx ad) (hL.ext hX1).src (by unfold maxLen; omega) (by omega) fun v2 υ2 hv2 hB2 hn2 => ?_
  rw [Nat.zero_add, List.nil_append] at hv2
  refine Zab (Zae rfl (by simp only [EV,Nat.reduceEqDiff,↓reduceIte,he];try rfl) ?_)
  refine Zaf ?_
  refine Zax ?_
  show ∃ r, Zaj _ _ _ _ r /\ _
  exact ⟨_, Zal rfl rfl, hK v2 υ2 hv2 (But.ext hX1 (fun c hc => by cases hc) hB2) (fun c hc => (hn2 c hc).elim (fun q => by cases q) fun q => Za0.of q hX1)⟩
theorem Ziz {d : List UInt8} {v : AV} (hv : Hd σ 5 1 v d.length (bys d)) (hl : d.length <= 1000000000) (K : AV -> St -> Prop) (hK : ∀ a τ, Hd τ 5 1 a d.length (bys d) -> Ext σ τ -> (∀ b, hbk a = some b -> Za0 σ b) -> K a τ) : Zat Try.prog 41 [v] σ K := Zm8 (.inl hv) hl K hK
theorem ZiA {α : Type} [DecidableEq α] {a b : List α} {i : Nat} (hl : a.length = b.length) (hi : i < a.length) (h : a.take i = b.take i) : (a[i] = b[i]'(by omega) -> a.take (i + 1) = b.take (i + 1)) /\ (a[i] ≠ b[i]'(by omega) -> a ≠ b) := by
 refine ⟨fun e => ?_, fun e q => e (by subst q; rfl)⟩
 rw [List.take_succ_eq_append_getElem hi, List.take_succ_eq_append_getElem (by omega : i < b.length), h, e]
theorem ZjW {v1 v2 : AV} {d1 d2 : List UInt8} (h1 : ZcY σ v1 d1) (h2 : ZcY σ v2 d2) (l1 : d1.length <= 1000000000) (l2 : d2.length <= 1000000000) (K : AV -> St -> Prop) (hK : ∀ τ, Ext σ τ -> K (vT (decide (d1 = d2))) τ) : Zat Try.prog 13 [v1, v2] σ K := by
 have g1 := h1.ls
 have g2 := h2.ls
 refine Zam Zas Try.func13 rfl rfl rfl (Nat.le_of_ble_eq_true rfl) ?_
 refine ZaK 0 1 (v0 := v1) (v1 := v2) rfl rfl ?_
 intro e he
 repeat refine Zac ?_
 first|refine Zaa ?_|refine Zad ?_
 refine Zab (Zae rfl (by simp only [EV,Nat.reduceEqDiff,↓reduceIte,he];try rfl) ?_)
 refine Zaf ?_
 apply ZaK 0 1
 iterate 2 ·simp only [EV,Nat.reduceEqDiff,↓reduceIte,he];try rfl
 clear he e
 intro e he
 repeat refine Zac ?_
 first|refine Zaa ?_|refine Zad ?_
 refine Zab (Zae rfl he.1 ?_)
 refine Zab ?_
 refine ZbD rfl g1 rfl Zaw ?_
 refine Zab (Zae rfl he.2 ?_)
 refine Zab ?_
 refine ZbD rfl g2 rfl Zaw ?_
 refine Zab ?_
 refine Zgu (k := .i64) (a := (d1.length : Int)) (b := (d2.length : Int)) rfl rfl ?_
 refine Zaf ?_
 apply ZaL 0 1 10
 iterate 3 ·simp only [EV,Nat.reduceEqDiff,↓reduceIte,he];try rfl
 clear he e
 intro e he
 refine Zav (t := decide ((d1.length : Int) ≠ (d2.length : Int))) he.2.2 (fun hq => ?_) (fun hq => ?_)
 ·have hq := of_decide_eq_true hq
  rw [decide_eq_false (fun e => hq (by rw [e]))] at hK
  repeat refine Zac ?_
  first|refine Zaa ?_|refine Zad ?_
  refine Zab (Zae rfl (by simp only [EV,Nat.reduceEqDiff,↓reduceIte,he];try rfl) ?_)
  refine Zaf ?_
  refine Zcw ?_
  show ∃ r, Zaj _ _ _ _ r /\ _
  exact ⟨_, Zal rfl rfl, hK σ (.refl _)⟩
 have hq := of_decide_eq_false hq
 have hl : d1.length = d2.length := by omega
 refine Zaz ?_
 repeat refine Zac ?_
 first|refine Zaa ?_|refine Zad ?_
 refine Zab (Zae rfl (by simp only [EV,Nat.reduceEqDiff,↓reduceIte,he];try rfl) ?_)
 refine Zaf ?_
 apply ZaL 0 1 5
 iterate 3 ·simp only [EV,Nat.reduceEqDiff,↓reduceIte,he];try rfl
 clear he e
 intro e he
 refine ZaD ?_
 refine ZaV (fun μ env υ => ∃ i : Nat, μ = d1.length - i /\ i <= d1.length /\ (env 0 = v1 /\ env 1 = v2 /\ env 5 = vI i) /\ σ = υ /\ d1.take i = d2.take i) ⟨_, 0, rfl, Nat.zero_le _, he, rfl, rfl⟩ ?_
 clear he e
 rintro _ e _ ⟨i, rfl, hi, he, rfl, hs⟩
 repeat refine Zac ?_
 first|refine Zaa ?_|refine Zad ?_
 refine Zab (Zae rfl he.2.2 ?_)
 refine Zab (Zae rfl he.1 ?_)
 refine Zab ?_
 refine ZbD rfl g1 rfl Zaw ?_
 refine Zab ?_
 refine Zbs i d1.length rfl rfl ?_
 refine Zaf ?_
 apply ZaP 0 1 5 14
 iterate 4 ·simp only [EV,Nat.reduceEqDiff,↓reduceIte,he];try rfl
 clear he e
 intro e he
 refine Zav (t := decide (i < d1.length)) he.2.2.2 (fun ht => ?_) (fun ht => ?_)
 ·have hlt : i < d1.length := of_decide_eq_true ht
  have hlt2 : i < d2.length := by omega
  obtain ⟨s1, s2⟩ := ZiA hl hlt hs
  refine Zaz ?_
  refine ZaD ?_
  refine Zb5 ?_
  refine ⟨[0, 1, 2, 4, 5, 6, 3, 7, 8], [[], [], [0, 1], [0, 1, 2], [], [], [4, 5], [4, 5, 6], [0, 1, 2, 3, 4, 5, 6, 7]], fun _ => True, [], [], [], by kernel_rfl, ?_⟩
  apply Zai
  case hi => simp only [HIX]; try rfl
  case hw => rfl
  case how => rfl
  refine Zae rfl he.1 ?_
  refine Zaq ?_
  apply Zai
  case hi => simp only [HIX]; try rfl
  case hw => rfl
  case how => rfl
  refine Zae rfl he.2.2.1 ?_
  refine Zaq ?_
  apply Zai
  case hi => simp only [HIX]; try rfl
  case hw => rfl
  case how => rfl
  refine ZdT g1 hlt (Zhz hlt) rfl rfl Zaw Zbf Zix fun q1 hq1 => ?_
  refine Zaq ?_
  apply Zai
  case hi => simp only [HIX]; try rfl
  case hw => rfl
  case how => rfl
  refine Zae rfl he.2.1 ?_
  refine Zaq ?_
  apply Zai
  case hi => simp only [HIX]; try rfl
  case hw => rfl
  case how => rfl
  refine Zae rfl he.2.2.1 ?_
  refine Zaq ?_
  apply Zai
  case hi => simp only [HIX]; try rfl
  case hw => rfl
  case how => rfl
  refine ZdT g2 hlt2 (Zhz hlt2) rfl rfl Zaw Zbf Zix fun q2 hq2 => ?_
  refine Zaq ?_
  apply Zai
  case hi => simp only [HIX]; try rfl
  case hw => rfl
  case how => rfl
  refine Zc3 rfl hq1 ?_
  refine Zaq ?_
  apply Zai
  case hi => simp only [HIX]; try rfl
  case hw => rfl
  case how => rfl
  refine Zc3 rfl hq2 ?_
  refine Zaq ?_
  apply Zai
  case hi => simp only [HIX]; try rfl
  case hw => rfl
  case how => rfl
  refine Zgu (k := .u8) (a := (d1[i].toNat : Int)) (b := (d2[i].toNat : Int)) rfl rfl ?_
  refine Zaq ?_
  refine Zcg ?_
  apply ZaP 0 1 5 25
  iterate 4 ·simp only [EV,Nat.reduceEqDiff,↓reduceIte,he];try rfl
  clear he e
  intro e he
  refine ZaS (t := decide ((d1[i].toNat : Int) ≠ (d2[i].toNat : Int))) he.2.2.2 (fun hq => ?_) (fun hq => ?_)
  ·have hq := of_decide_eq_true hq
   rw [decide_eq_false (s2 fun e => hq (by rw [e]))] at hK
   repeat refine Zac ?_
   first|refine Zaa ?_|refine Zad ?_
   refine Zab (Zae rfl (by simp only [EV,Nat.reduceEqDiff,↓reduceIte,he];try rfl) ?_)
   refine Zaf ?_
   refine Zax ?_
   show ∃ r, Zaj _ _ _ _ r /\ _
   exact ⟨_, Zal rfl rfl, hK _ (.refl _)⟩
  ·have hq := of_decide_eq_false hq
   have he2 : d1[i] = d2[i] := UInt8.toNat_inj.1 (by omega)
   refine Zbq ?_
   show Zay _ _ _ _ _ _
   refine Zad ?_
   refine Zab (Zae rfl he.2.2.1 ?_)
   refine Zab ?_
   refine ZaU i 1 rfl rfl (by omega) ?_
   refine Zab (Zae rfl (by simp only [EV,Nat.reduceEqDiff,↓reduceIte,he];try rfl) ?_)
   refine Zaf ?_
   show ∃ n', n' < _ /\ _
   exact ⟨_, (by omega : d1.length - (i + 1) < d1.length - i), i + 1, rfl, hlt, ⟨by simp only [EV,Nat.reduceEqDiff,↓reduceIte,he];try rfl, by simp only [EV,Nat.reduceEqDiff,↓reduceIte,he];try rfl, by simp only [EV,Nat.reduceEqDiff,↓reduceIte,he];try rfl⟩, rfl, s1 he2⟩
 ·have hke : i = d1.length := by have := of_decide_eq_false ht; omega
  rw [hke, List.take_length, hl, List.take_length] at hs
  rw [decide_eq_true hs] at hK
  refine Zbe ?_
  show Zay _ _ _ _ _ _
  repeat refine Zac ?_
  first|refine Zaa ?_|refine Zad ?_
  refine Zab (Zae rfl (by simp only [EV,Nat.reduceEqDiff,↓reduceIte,he];try rfl) ?_)
  refine Zaf ?_
  refine Zax ?_
  show ∃ r, Zaj _ _ _ _ r /\ _
  exact ⟨_, Zal rfl rfl, hK _ (.refl _)⟩
theorem ZiB {ns : List (List UInt8)} {i : Nat} (h : i < ns.length) : (ns.map fun s => AV.raw (sV s))[i]? = some (.raw (sV ns[i])) := by
 rw [List.getElem?_map, List.getElem?_eq_getElem h]
 rfl
theorem Zm9 {v1 v2 : AV} {d1 d2 : List (List UInt8)} (g1 : Ls σ 9 v1 d1.length (d1.map fun s => .raw (sV s))) (g2 : Ls σ 9 v2 d2.length (d2.map fun s => .raw (sV s))) (l1 : d1.length <= 1000000000) (l2 : d2.length <= 1000000000) (K : AV -> St -> Prop) (hK : ∀ τ, Ext σ τ -> K (vT (decide (d1 = d2))) τ) : Zat Try.prog 53 [v1, v2] σ K := by
 refine Zam Zas Try.func53 rfl rfl rfl (Nat.le_of_ble_eq_true rfl) ?_
 refine ZaK 0 1 (v0 := v1) (v1 := v2) rfl rfl ?_
 intro e he
 repeat refine Zac ?_
 first|refine Zaa ?_|refine Zad ?_
 refine Zab (Zae rfl (by simp only [EV,Nat.reduceEqDiff,↓reduceIte,he];try rfl) ?_)
 refine Zaf ?_
 apply ZaK 0 1
 iterate 2 ·simp only [EV,Nat.reduceEqDiff,↓reduceIte,he];try rfl
 clear he e
 intro e he
 repeat refine Zac ?_
 first|refine Zaa ?_|refine Zad ?_
 refine Zab (Zae rfl he.1 ?_)
 refine Zab ?_
 refine ZbD rfl g1 rfl ZaE ?_
 refine Zab (Zae rfl he.2 ?_)
 refine Zab ?_
 refine ZbD rfl g2 rfl ZaE ?_
 refine Zab ?_
 refine Zgu (k := .i64) (a := (d1.length : Int)) (b := (d2.length : Int)) rfl rfl ?_
 refine Zaf ?_
 apply ZaL 0 1 10
 iterate 3 ·simp only [EV,Nat.reduceEqDiff,↓reduceIte,he];try rfl
 clear he e
 intro e he
 refine Zav (t := decide ((d1.length : Int) ≠ (d2.length : Int))) he.2.2 (fun hq => ?_) (fun hq => ?_)
 ·have hq := of_decide_eq_true hq
  rw [decide_eq_false (fun e => hq (by rw [e]))] at hK
  repeat refine Zac ?_
  first|refine Zaa ?_|refine Zad ?_
  refine Zab (Zae rfl (by simp only [EV,Nat.reduceEqDiff,↓reduceIte,he];try rfl) ?_)
  refine Zaf ?_
  refine Zcw ?_
  show ∃ r, Zaj _ _ _ _ r /\ _
  exact ⟨_, Zal rfl rfl, hK σ (.refl _)⟩
 have hq := of_decide_eq_false hq
 have hl : d1.length = d2.length := by omega
 refine Zaz ?_
 repeat refine Zac ?_
 first|refine Zaa ?_|refine Zad ?_
 refine Zab (Zae rfl (by simp only [EV,Nat.reduceEqDiff,↓reduceIte,he];try rfl) ?_)
 refine Zaf ?_
 apply ZaL 0 1 5
 iterate 3 ·simp only [EV,Nat.reduceEqDiff,↓reduceIte,he];try rfl
 clear he e
 intro e he
 refine ZaD ?_
 refine ZaV (fun μ env υ => ∃ i : Nat, μ = d1.length - i /\ i <= d1.length /\ (env 0 = v1 /\ env 1 = v2 /\ env 5 = vI i) /\ σ = υ /\ d1.take i = d2.take i) ⟨_, 0, rfl, Nat.zero_le _, he, rfl, rfl⟩ ?_
 clear he e
 rintro _ e _ ⟨i, rfl, hi, he, rfl, hs⟩
 repeat refine Zac ?_
 first|refine Zaa ?_|refine Zad ?_
 refine Zab (Zae rfl he.2.2 ?_)
 refine Zab (Zae rfl he.1 ?_)
 refine Zab ?_
 refine ZbD rfl g1 rfl ZaE ?_
 refine Zab ?_
 refine Zbs i d1.length rfl rfl ?_
 refine Zaf ?_
 apply ZaP 0 1 5 14
 iterate 4 ·simp only [EV,Nat.reduceEqDiff,↓reduceIte,he];try rfl
 clear he e
 intro e he
 refine Zav (t := decide (i < d1.length)) he.2.2.2 (fun ht => ?_) (fun ht => ?_)
 ·have hlt : i < d1.length := of_decide_eq_true ht
  have hlt2 : i < d2.length := by omega
  obtain ⟨s1, s2⟩ := ZiA hl hlt hs
  refine Zaz ?_
  refine ZaD ?_
  refine Zb5 ?_
  refine ⟨[0, 1, 2, 4, 5, 6, 3, 7, 8], [[], [], [0, 1], [0, 1, 2], [], [], [4, 5], [4, 5, 6], [0, 1, 2, 3, 4, 5, 6, 7]], fun _ => True, [], [], [], by kernel_rfl, ?_⟩
  apply Zai
  case hi => simp only [HIX]; try rfl
  case hw => rfl
  case how => rfl
  refine Zae rfl he.1 ?_
  refine Zaq ?_
  apply Zai
  case hi => simp only [HIX]; try rfl
  case hw => rfl
  case how => rfl
  refine Zae rfl he.2.2.1 ?_
  refine Zaq ?_
  apply Zai
  case hi => simp only [HIX]; try rfl
  case hw => rfl
  case how => rfl
  refine ZdT g1 hlt (ZiB hlt) rfl rfl ZaE Zb3 Ze8 fun q1 hq1 => ?_
  refine Zaq ?_
  apply Zai
  case hi => simp only [HIX]; try rfl
  case hw => rfl
  case how => rfl
  refine Zae rfl he.2.1 ?_
  refine Zaq ?_
  apply Zai
  case hi => simp only [HIX]; try rfl
  case hw => rfl
  case how => rfl
  refine Zae rfl he.2.2.1 ?_
  refine Zaq ?_
  apply Zai
  case hi => simp only [HIX]; try rfl
  case hw => rfl
  case how => rfl
  refine ZdT g2 hlt2 (ZiB hlt2) rfl rfl ZaE Zb3 Ze8 fun q2 hq2 => ?_
  refine Zaq ?_
  apply Zai
  case hi => simp only [HIX]; try rfl
  case hw => rfl
  case how => rfl
  refine Zc3 rfl hq1 ?_
  refine Zaq ?_
  apply Zai
  case hi => simp only [HIX]; try rfl
  case hw => rfl
  case how => rfl
  refine Zc3 rfl hq2 ?_
  refine Zaq ?_
  apply Zai
  case hi => simp only [HIX]; try rfl
  case hw => rfl
  case how => rfl
  refine Zhv (a := d1[i]) (c := d2[i]) ZcW rfl rfl ?_
  refine Zaq ?_
  refine Zcg ?_
  apply ZaP 0 1 5 25
  iterate 4 ·simp only [EV,Nat.reduceEqDiff,↓reduceIte,he];try rfl
  clear he e
  intro e he
  refine ZaS (t := decide (d1[i] ≠ d2[i])) he.2.2.2 (fun hq => ?_) (fun hq => ?_)
  ·rw [decide_eq_false (s2 (of_decide_eq_true hq))] at hK
   repeat refine Zac ?_
   first|refine Zaa ?_|refine Zad ?_
   refine Zab (Zae rfl (by simp only [EV,Nat.reduceEqDiff,↓reduceIte,he];try rfl) ?_)
   refine Zaf ?_
   refine Zax ?_
   show ∃ r, Zaj _ _ _ _ r /\ _
   exact ⟨_, Zal rfl rfl, hK _ (.refl _)⟩
  ·have hq := of_decide_eq_false hq
   have he2 : d1[i] = d2[i] := Decidable.not_not.1 hq
   refine Zbq ?_
   show Zay _ _ _ _ _ _
   refine Zad ?_
   refine Zab (Zae rfl he.2.2.1 ?_)
   refine Zab ?_
   refine ZaU i 1 rfl rfl (by omega) ?_
   refine Zab (Zae rfl (by simp only [EV,Nat.reduceEqDiff,↓reduceIte,he];try rfl) ?_)
   refine Zaf ?_
   show ∃ n', n' < _ /\ _
   exact ⟨_, (by omega : d1.length - (i + 1) < d1.length - i), i + 1, rfl, hlt, ⟨by simp only [EV,Nat.reduceEqDiff,↓reduceIte,he];try rfl, by simp only [EV,Nat.reduceEqDiff,↓reduceIte,he];try rfl, by simp only [EV,Nat.reduceEqDiff,↓reduceIte,he];try rfl⟩, rfl, s1 he2⟩
 ·have hke : i = d1.length := by have := of_decide_eq_false ht; omega
  rw [hke, List.take_length, hl, List.take_length] at hs
  rw [decide_eq_true hs] at hK
  refine Zbe ?_
  show Zay _ _ _ _ _ _
  repeat refine Zac ?_
  first|refine Zaa ?_|refine Zad ?_
  refine Zab (Zae rfl (by simp only [EV,Nat.reduceEqDiff,↓reduceIte,he];try rfl) ?_)
  refine Zaf ?_
  refine Zax ?_
  show ∃ r, Zaj _ _ _ _ r /\ _
  exact ⟨_, Zal rfl rfl, hK _ (.refl _)⟩
theorem ZjX {k : List UInt8} (K : AV -> St -> Prop) (hK : ∀ τ, Ext σ τ -> K (vT (decide (k ≠ [] /\ k.length <= 40))) τ) : Zat Try.prog 35 [.raw (sV k)] σ K := by
 refine Zam Zas Try.func35 rfl rfl rfl (Nat.le_of_ble_eq_true rfl) ?_
 refine Zbz 0 (v0 := .raw (sV k)) rfl ?_
 intro e he
 repeat refine Zac ?_
 first|refine Zaa ?_|refine Zad ?_
 refine Zab (Zae rfl (by simp only [EV,Nat.reduceEqDiff,↓reduceIte,he];try rfl) ?_)
 refine Zaf ?_
 apply Zbz 0
 ·simp only [EV,Nat.reduceEqDiff,↓reduceIte,he];try rfl
 clear he e
 intro e he
 repeat refine Zac ?_
 first|refine Zaa ?_|refine Zad ?_
 refine Zab (Zae rfl he ?_)
 refine Zab ?_
 refine Zhv (a := k) (c := []) ZcW rfl rfl ?_
 refine Zab (Zae rfl (by simp only [EV,Nat.reduceEqDiff,↓reduceIte,he];try rfl) ?_)
 by_cases hk : k = []
 ·rw [decide_eq_false (fun q => q hk)]
  rw [decide_eq_false (fun q => q.1 hk)] at hK
  refine Zab (Zan (ZaN rfl (by simp only [EV,Nat.reduceEqDiff,↓reduceIte,he];try rfl)) ?_)
  refine Zab (Zan (ZaN rfl (by simp only [EV,Nat.reduceEqDiff,↓reduceIte,he];try rfl)) ?_)
  refine Zab (Zan (ZaN rfl (by simp only [EV,Nat.reduceEqDiff,↓reduceIte,he];try rfl)) ?_)
  refine Zab ?_
  refine Za2 (v := vT false) rfl rfl ?_
  refine Zab (Zae rfl (by simp only [EV,Nat.reduceEqDiff,↓reduceIte,he];try rfl) ?_)
  refine Zaf ?_
  refine Zax ?_
  show ∃ r, Zaj _ _ _ _ r /\ _
  exact ⟨_, Zal rfl rfl, hK σ (.refl _)⟩
 ·rw [decide_eq_true hk]
  rw [show decide (k ≠ [] /\ k.length <= 40) = decide ((k.length : Int) <= 40) by congr 1; exact propext ⟨fun q => by omega, fun q => ⟨hk, by omega⟩⟩] at hK
  refine Zab (Zah (ZaN rfl (by simp only [EV,Nat.reduceEqDiff,↓reduceIte,he];try rfl)) ?_)
  refine Zae rfl (v := .raw (sV k)) he ?_
  refine Zab (Zah (ZaN rfl (by simp only [EV,Nat.reduceEqDiff,↓reduceIte,he];try rfl)) ?_)
  refine Zfm (a := k) rfl rfl ZcW ?_
  refine Zab (Zah (ZaN rfl (by simp only [EV,Nat.reduceEqDiff,↓reduceIte,he];try rfl)) ?_)
  refine Zje (k := .i64) (a := (k.length : Int)) (b := 40) rfl rfl ?_
  refine Zab ?_
  refine ZaG (v := vT (decide ((k.length : Int) <= 40))) rfl rfl ?_
  refine Zab (Zae rfl (by simp only [EV,Nat.reduceEqDiff,↓reduceIte,he];try rfl) ?_)
  refine Zaf ?_
  refine Zax ?_
  show ∃ r, Zaj _ _ _ _ r /\ _
  exact ⟨_, Zal rfl rfl, hK σ (.refl _)⟩
theorem ZiC (k : List UInt8) (K : AV -> St -> Prop) (hK : ∀ τ, Ext σ τ -> K (vT (decide (k ≠ [] /\ k.length <= 40))) τ) : Zat Try.prog 68 [.raw (sV k)] σ K := by
 refine Zam Zas Try.func68 rfl rfl rfl (Nat.le_of_ble_eq_true rfl) ?_
 refine Zbz 0 (v0 := .raw (sV k)) rfl ?_
 intro e he
 repeat refine Zac ?_
 first|refine Zaa ?_|refine Zad ?_
 refine Zab (Zae rfl (by simp only [EV,Nat.reduceEqDiff,↓reduceIte,he];try rfl) ?_)
 refine Zaf ?_
 apply Zbz 0
 ·simp only [EV,Nat.reduceEqDiff,↓reduceIte,he];try rfl
 clear he e
 intro e he
 repeat refine Zac ?_
 first|refine Zaa ?_|refine Zad ?_
 refine Zab (Zae rfl he ?_)
 refine Zab ?_
 refine Zfm (a := k) rfl rfl ZcW ?_
 refine Zab ?_
 refine ZfB (k := .i64) (a := (k.length : Int)) (b := 1) rfl rfl ?_
 refine Zab (Zae rfl (by simp only [EV,Nat.reduceEqDiff,↓reduceIte,he];try rfl) ?_)
 by_cases hk : k = []
 ·have h0 : k.length = 0 := by rw [hk]; rfl
  rw [decide_eq_false (by omega : ¬ (1 : Int) <= (k.length : Int))]
  rw [decide_eq_false (fun q => q.1 hk)] at hK
  refine Zab (Zan (ZaN rfl (by simp only [EV,Nat.reduceEqDiff,↓reduceIte,he];try rfl)) ?_)
  refine Zab (Zan (ZaN rfl (by simp only [EV,Nat.reduceEqDiff,↓reduceIte,he];try rfl)) ?_)
  refine Zab (Zan (ZaN rfl (by simp only [EV,Nat.reduceEqDiff,↓reduceIte,he];try rfl)) ?_)
  refine Zab ?_
  refine Za2 (v := vT false) rfl rfl ?_
  refine Zab (Zae rfl (by simp only [EV,Nat.reduceEqDiff,↓reduceIte,he];try rfl) ?_)
  refine Zaf ?_
  refine Zax ?_
  show ∃ r, Zaj _ _ _ _ r /\ _
  exact ⟨_, Zal rfl rfl, hK σ (.refl _)⟩
 ·have h0 : 0 < k.length := List.length_pos_iff.2 hk
  rw [decide_eq_true (by omega : (1 : Int) <= (k.length : Int))]
  rw [show decide (k ≠ [] /\ k.length <= 40) = decide ((k.length : Int) <= 40) by congr 1; exact propext ⟨fun q => by omega, fun q => ⟨hk, by omega⟩⟩] at hK
  refine Zab (Zah (ZaN rfl (by simp only [EV,Nat.reduceEqDiff,↓reduceIte,he];try rfl)) ?_)
  refine Zae rfl (v := .raw (sV k)) he ?_
  refine Zab (Zah (ZaN rfl (by simp only [EV,Nat.reduceEqDiff,↓reduceIte,he];try rfl)) ?_)
  refine Zfm (a := k) rfl rfl ZcW ?_
  refine Zab (Zah (ZaN rfl (by simp only [EV,Nat.reduceEqDiff,↓reduceIte,he];try rfl)) ?_)
  refine Zje (k := .i64) (a := (k.length : Int)) (b := 40) rfl rfl ?_
  refine Zab ?_
  refine ZaG (v := vT (decide ((k.length : Int) <= 40))) rfl rfl ?_
  refine Zab (Zae rfl (by simp only [EV,Nat.reduceEqDiff,↓reduceIte,he];try rfl) ?_)
  refine Zaf ?_
  refine Zax ?_
  show ∃ r, Zaj _ _ _ _ r /\ _
  exact ⟨_, Zal rfl rfl, hK σ (.refl _)⟩
def Zd4 (x n : Int) : Nat := if x.tmod n < 0 then (x.tmod n + n).toNat else (x.tmod n).toNat
theorem Zf5 (x : Int) {n : Int} (h1 : 1 <= n) : (Zd4 x n : Int) < n := by
 have ha : x.tmod n < n := Int.tmod_lt_of_pos x (by omega)
 have hb : -n < x.tmod n := by
  have := Int.lt_tmod_of_pos x (show 0 < n by omega)
  omega
 unfold Zd4
 split <;> omega
theorem Zjq (x : Int) {n : Int} (h1 : 1 <= n) (h2 : n <= 1000000000) (K : AV -> St -> Prop) (hK : ∀ τ, Ext σ τ -> K (vI (Zd4 x n)) τ) : Zat Try.prog 17 [.raw (.int .i64 x), .raw (.int .i64 n)] σ K := by
 have hp := Zf5 x h1
 have ha : x.tmod n < n := Int.tmod_lt_of_pos x (by omega)
 have hb : -n < x.tmod n := by
  have := Int.lt_tmod_of_pos x (show 0 < n by omega)
  omega
 refine Zam Zas Try.func17 rfl rfl rfl (Nat.le_of_ble_eq_true rfl) ?_
 refine ZaK 0 1 (v0 := .raw (.int .i64 x)) (v1 := .raw (.int .i64 n)) rfl rfl ?_
 intro e he
 repeat refine Zac ?_
 first|refine Zaa ?_|refine Zad ?_
 refine Zab (Zae rfl (by simp only [EV,Nat.reduceEqDiff,↓reduceIte,he];try rfl) ?_)
 refine Zaf ?_
 apply ZaK 0 1
 iterate 2 ·simp only [EV,Nat.reduceEqDiff,↓reduceIte,he];try rfl
 clear he e
 intro e he
 repeat refine Zac ?_
 first|refine Zaa ?_|refine Zad ?_
 refine Zab (Zae rfl he.2 ?_)
 refine Zab ?_
 refine ZeH (k := .i64) (a := n) (b := 1) rfl rfl ?_
 rw [decide_eq_false (by omega : ¬ n < 1)]
 refine Zaf ?_
 apply ZaL 0 1 6
 iterate 3 ·simp only [EV,Nat.reduceEqDiff,↓reduceIte,he];try rfl
 clear he e
 intro e he
 refine Zav (t := false) he.2.2 (fun hf => by cases hf) (fun _ => ?_)
 refine Zaz ?_
 repeat refine Zac ?_
 first|refine Zaa ?_|refine Zad ?_
 refine Zab (Zae rfl he.1 ?_)
 refine Zab (Zae rfl he.2.1 ?_)
 refine Zab ?_
 refine Zn8 (k := .i64) (a := x) (b := n) (r := x.tmod n) rfl rfl (by omega) rfl ?_
 refine Zab (Zae rfl (by simp only [EV,Nat.reduceEqDiff,↓reduceIte,he];try rfl) ?_)
 refine Zaf ?_
 apply ZaK 0 1
 iterate 2 ·simp only [EV,Nat.reduceEqDiff,↓reduceIte,he];try rfl
 clear he e
 intro e he
 repeat refine Zac ?_
 first|refine Zaa ?_|refine Zad ?_
 refine Zab (Zae rfl he.1 ?_)
 refine Zab ?_
 refine ZeH (k := .i64) (a := x.tmod n) (b := 0) rfl rfl ?_
 refine Zaf ?_
 apply ZaL 0 1 11
 iterate 3 ·simp only [EV,Nat.reduceEqDiff,↓reduceIte,he];try rfl
 clear he e
 intro e he
 refine ZaZ (fun env υ => env 0 = vI (Zd4 x n) /\ σ = υ) ?_ ?_
 ·refine ZaS (t := decide (x.tmod n < 0)) he.2.2 (fun hq => ?_) (fun hq => ?_)
  ·have hq := of_decide_eq_true hq
   refine Zad ?_
   refine Zab (Zae rfl he.1 ?_)
   refine Zab (Zae rfl he.2.1 ?_)
   refine Zab ?_
   refine Zig (k := .i64) (a := x.tmod n) (b := n) rfl rfl (IntWalk.i64_in _ (by omega)) ?_
   refine Zab (Zae rfl (by simp only [EV,Nat.reduceEqDiff,↓reduceIte,he];try rfl) ?_)
   refine Zaf ?_
   refine ⟨rfl, ?_, rfl⟩
   rw [show ((Zd4 x n : Nat) : Int) = x.tmod n + n by unfold Zd4; rw [if_pos hq]; omega]
   simp only [EV,Nat.reduceEqDiff,↓reduceIte,he];try rfl
  ·have hq := of_decide_eq_false hq
   refine Zbq ?_
   refine ⟨rfl, ?_, rfl⟩
   rw [show ((Zd4 x n : Nat) : Int) = x.tmod n by unfold Zd4; rw [if_neg hq]; omega]
   simp only [EV,Nat.reduceEqDiff,↓reduceIte,he];try rfl
 clear he e
 rintro e _ ⟨he, rfl⟩
 repeat refine Zac ?_
 first|refine Zaa ?_|refine Zad ?_
 refine Zab (Zae rfl he ?_)
 refine Zab (Zae rfl (by simp only [EV,Nat.reduceEqDiff,↓reduceIte,he];try rfl) ?_)
 refine Zaf ?_
 refine Zax ?_
 show ∃ r, Zaj _ _ _ _ r /\ _
 exact ⟨_, Zal rfl rfl, hK _ (.refl _)⟩
theorem Zoq {n : Nat} (hn : n <= 140737488355328) (K : AV -> St -> Prop) (hK : ∀ v τ, Hd τ 5 1 v 0 [] -> Ext σ τ -> (∀ c, hbk v = some c -> Za0 σ c) -> K v τ) : Zat Try.prog 64 [.lst none 0 0 [], vI n] σ K := by
 refine ZmT (ZkH Try.growLay64 rfl rfl (zv := .int .u8 0) (by_ := 1) false (hsz := by kernel_rfl) (hz := by kernel_rfl) (hby := by kernel_rfl) (E := 1) rfl rfl rfl (by kernel_rfl) (n : Int) (by omega) (by omega) (by omega) : Tr CT Try.prog (fun _ => True) 64 [.nil, .int .i64 n] [] (.as 1 0 0 0 none) [.arr 5 1 false []]) (.cons (Zpm.2 rfl) (.cons (ZaM.2 rfl) .none)) (Nat.le_refl _) K fun a τ cells h1 _ h3 h4 => ?_
 have : cells = [] := List.eq_nil_of_length_eq_zero (by rw [h1.len, Nat.zero_mul])
 subst this
 exact hK a τ h1 h3 h4
theorem ZlO {α : Type} (rows : List (List α)) (i : Nat) : (rows.take i).flatten.length <= rows.flatten.length := by
 conv => rhs; rw [<- List.take_append_drop i rows, List.flatten_append, List.length_append]
 omega
theorem Zfo {α : Type} (rows : List (List α)) (i : Nat) (h : i < rows.length) : (rows.take (i + 1)).flatten = (rows.take i).flatten ++ rows[i] := by
 rw [List.take_succ_eq_append_getElem h, List.flatten_append, List.flatten_singleton]
theorem ZiD {ps : List (List UInt8)} {a : AV} (ha : ZgD σ a ps) (hr : ps.length <= 1000000) (hf : ps.flatten.length <= 100000000) (K : AV -> St -> Prop) (hK : ∀ v τ, Hd τ 5 1 v ps.flatten.length (bys ps.flatten) -> Ext σ τ -> (∀ b, hbk v = some b -> Za0 σ b) -> K v τ) : Zat Try.prog 36 [a] σ K := by
 have hfl := fun i => ZlO ps i
 have hsn : ∀ i (h : i < ps.length), (ps.take i).flatten.length + ps[i].length = (ps.take (i + 1)).flatten.length := fun i h => by rw [Zfo ps i h, List.length_append]
 refine Zam Zas Try.func36 rfl rfl rfl (Nat.le_of_ble_eq_true rfl) ?_
 refine Zbz 0 (v0 := a) rfl ?_
 intro e he
 repeat refine Zac ?_
 first|refine Zaa ?_|refine Zad ?_
 refine Zab (Zae rfl (by simp only [EV,Nat.reduceEqDiff,↓reduceIte,he];try rfl) ?_)
 refine Zaf ?_
 apply Zbz 0
 ·simp only [EV,Nat.reduceEqDiff,↓reduceIte,he];try rfl
 clear he e
 intro e he
 repeat refine Zac ?_
 first|refine Zaa ?_|refine Zad ?_
 refine Zab (Zae rfl (by simp only [EV,Nat.reduceEqDiff,↓reduceIte,he];try rfl) ?_)
 refine Zaf ?_
 apply ZaK 0 3
 iterate 2 ·simp only [EV,Nat.reduceEqDiff,↓reduceIte,he];try rfl
 clear he e
 intro e he
 obtain ⟨cells, hL, hC⟩ := ha
 repeat refine Zac ?_
 first|refine Zaa ?_|refine Zad ?_
 refine Zab (Zae rfl he.1 ?_)
 refine Zab ?_
 refine ZbD rfl hL rfl Zba ?_
 refine Zab (Zae rfl (by simp only [EV,Nat.reduceEqDiff,↓reduceIte,he];try rfl) ?_)
 refine Zaf ?_
 apply Zb6 0 3 9 10 11
 iterate 5 ·simp only [EV,Nat.reduceEqDiff,↓reduceIte,he];try rfl
 clear he e
 intro e he
 refine ZaZ (fun env υ => (env 0 = a /\ env 3 = vI ps.flatten.length) /\ σ = υ) ?_ ?_
 ·refine ZaT ?_
  refine ZaV (fun μ env υ => ∃ i : Nat, μ = ps.length - i /\ i <= ps.length /\ (env 0 = a /\ env 3 = vI (ps.take i).flatten.length /\ env 9 = a /\ env 10 = vI ps.length /\ env 11 = vI i) /\ σ = υ) ⟨_, 0, rfl, Nat.zero_le _, he, rfl⟩ ?_
  clear he e
  rintro _ e _ ⟨i, rfl, hi, he, rfl⟩
  repeat refine Zac ?_
  first|refine Zaa ?_|refine Zad ?_
  refine Zab ?_
  refine Zbs i ps.length he.2.2.2.2 he.2.2.2.1 ?_
  refine Zaf ?_
  apply ZdN 0 3 9 10 11 12
  iterate 6 ·simp only [EV,Nat.reduceEqDiff,↓reduceIte,he];try rfl
  clear he e
  intro e he
  refine Zav (t := decide (i < ps.length)) he.2.2.2.2.2 (fun ht => ?_) (fun ht => ?_)
  ·have hlt : i < ps.length := of_decide_eq_true ht
   obtain ⟨u, hu, hub⟩ := hC i hlt
   have h1 := hfl (i + 1)
   have h2 := hsn i hlt
   refine Zaz ?_
   refine ZaD ?_
   repeat refine Zac ?_
   first|refine Zaa ?_|refine Zad ?_
   refine Zjn hL hlt hu he.2.2.1 he.2.2.2.2.1 Zba ZaJ ZbO fun u1 => ?_
   refine Zab (Zae rfl (by simp only [EV,Nat.reduceEqDiff,↓reduceIte,he];try rfl) ?_)
   refine Zaf ?_
   apply ZdN 0 3 5 9 10 11
   iterate 6 ·simp only [EV,Nat.reduceEqDiff,↓reduceIte,he];try rfl
   clear he e
   intro e he
   repeat refine Zac ?_
   first|refine Zaa ?_|refine Zad ?_
   refine Zab (Zae rfl he.2.1 ?_)
   refine Zab (Zae rfl he.2.2.1 ?_)
   refine Zab ?_
   refine ZbD rfl hub.ls rfl Zaw ?_
   refine Zab ?_
   refine ZaU ((ps.take i).flatten.length) (ps[i].length) rfl rfl (by omega) ?_
   rw [h2]
   refine Zab (Zae rfl (by simp only [EV,Nat.reduceEqDiff,↓reduceIte,he];try rfl) ?_)
   refine Zaf ?_
   apply Zb6 0 3 9 10 11
   iterate 5 ·simp only [EV,Nat.reduceEqDiff,↓reduceIte,he];try rfl
   clear he e
   intro e he
   repeat refine Zac ?_
   first|refine Zaa ?_|refine Zad ?_
   refine Zab (Zae rfl he.2.1 ?_)
   refine Zab ?_
   refine ZeH (k := .i64) (a := ((ps.take (i + 1)).flatten.length : Int)) (b := 0) rfl rfl ?_
   rw [decide_eq_false (by omega : ¬ ((ps.take (i + 1)).flatten.length : Int) < 0)]
   refine Zaf ?_
   apply ZdN 0 3 9 10 11 20
   iterate 6 ·simp only [EV,Nat.reduceEqDiff,↓reduceIte,he];try rfl
   clear he e
   intro e he
   refine ZaS (t := false) he.2.2.2.2.2 (fun hf => by cases hf) (fun _ => ?_)
   refine Zbq ?_
   show Zay _ _ _ _ _ _
   refine Zad ?_
   refine Zab ?_
   refine ZaU i 1 he.2.2.2.2.1 rfl (by omega) ?_
   refine Zab (Zae rfl (by simp only [EV,Nat.reduceEqDiff,↓reduceIte,he];try rfl) ?_)
   refine Zaf ?_
   show ∃ n', n' < _ /\ _
   exact ⟨_, (by omega : ps.length - (i + 1) < ps.length - i), i + 1, rfl, hlt, ⟨by simp only [EV,Nat.reduceEqDiff,↓reduceIte,he];try rfl, by simp only [EV,Nat.reduceEqDiff,↓reduceIte,he];try rfl, by simp only [EV,Nat.reduceEqDiff,↓reduceIte,he];try rfl, by simp only [EV,Nat.reduceEqDiff,↓reduceIte,he];try rfl, by simp only [EV,Nat.reduceEqDiff,↓reduceIte,he];try rfl⟩, rfl⟩
  ·have hke : i = ps.length := by have := of_decide_eq_false ht; omega
   refine Zbe ?_
   have h3 := he.2.1
   rw [hke, List.take_length] at h3
   exact ⟨rfl, ⟨by simp only [EV,Nat.reduceEqDiff,↓reduceIte,he];try rfl, h3⟩, rfl⟩
 clear he e
 rintro e _ ⟨he, rfl⟩
 repeat refine Zac ?_
 first|refine Zaa ?_|refine Zad ?_
 refine Zab (Zae rfl he.2 ?_)
 refine Zab ?_
 refine Zao (vs := [.lst none 0 0 [], vI ps.flatten.length]) (by simp only [List.map_cons, List.map_nil, EV,Nat.reduceEqDiff,↓reduceIte,he];try rfl) ?_
 refine Zoq (by omega) _ fun v0 υ1 hv0 hX1 hn0 => ?_
 refine Zab (Zae rfl (by simp only [EV,Nat.reduceEqDiff,↓reduceIte,he];try rfl) ?_)
 refine Zaf ?_
 apply ZaK 0 6
 iterate 2 ·simp only [EV,Nat.reduceEqDiff,↓reduceIte,he];try rfl
 clear he e
 intro e he
 repeat refine Zac ?_
 first|refine Zaa ?_|refine Zad ?_
 refine Zab (Zae rfl he.1 ?_)
 refine Zab ?_
 refine ZbD rfl (hL.ext hX1) rfl Zba ?_
 refine Zab (Zae rfl (by simp only [EV,Nat.reduceEqDiff,↓reduceIte,he];try rfl) ?_)
 refine Zaf ?_
 apply ZaP 6 25 26 27
 iterate 4 ·simp only [EV,Nat.reduceEqDiff,↓reduceIte,he];try rfl
 clear he e
 intro e he
 refine ZaZ (fun env υ => ∃ v, env 6 = v /\ Hd υ 5 1 v ps.flatten.length (bys ps.flatten) /\ Ext σ υ /\ (∀ c, hbk v = some c -> Za0 σ c)) ?_ ?_
 ·refine ZaT ?_
  refine ZaV (fun μ env υ => ∃ (i : Nat), ∃ v, μ = ps.length - i /\ i <= ps.length /\ (env 6 = v /\ env 25 = a /\ env 26 = vI ps.length /\ env 27 = vI i) /\ Hd υ 5 1 v (ps.take i).flatten.length (bys (ps.take i).flatten) /\ Ext σ υ /\ (∀ c, hbk v = some c -> Za0 σ c)) ⟨_, 0, v0, rfl, Nat.zero_le _, he, hv0, hX1, hn0⟩ ?_
  clear he e hv0 hn0
  rintro _ e υ ⟨i, v, rfl, hi, he, hv, hE, hn⟩
  repeat refine Zac ?_
  first|refine Zaa ?_|refine Zad ?_
  refine Zab ?_
  refine Zbs i ps.length he.2.2.2 he.2.2.1 ?_
  refine Zaf ?_
  apply Zb6 6 25 26 27 28
  iterate 5 ·simp only [EV,Nat.reduceEqDiff,↓reduceIte,he];try rfl
  clear he e
  intro e he
  refine Zav (t := decide (i < ps.length)) he.2.2.2.2 (fun ht => ?_) (fun ht => ?_)
  ·have hlt : i < ps.length := of_decide_eq_true ht
   obtain ⟨u, hu, hub⟩ := hC i hlt
   have h1 := hfl (i + 1)
   have h2 := hsn i hlt
   refine Zaz ?_
   refine ZaD ?_
   repeat refine Zac ?_
   first|refine Zaa ?_|refine Zad ?_
   refine Zjn (hL.ext hE) hlt hu he.2.1 he.2.2.2.1 Zba ZaJ ZbO fun u1 => ?_
   refine Zab (Zae rfl (by simp only [EV,Nat.reduceEqDiff,↓reduceIte,he];try rfl) ?_)
   refine Zaf ?_
   apply Zb6 6 8 25 26 27
   iterate 5 ·simp only [EV,Nat.reduceEqDiff,↓reduceIte,he];try rfl
   clear he e
   intro e he
   refine Zad ?_
   refine Zab (Zae rfl he.1 ?_)
   refine Zab (Zae rfl he.2.1 ?_)
   refine Zab ?_
   refine Za9 (m := ps[i].length) (news := bys ps[i]) (by simp only [EV,Nat.reduceEqDiff,↓reduceIte,he];try rfl) (by simp only [EV,Nat.reduceEqDiff,↓reduceIte,he];try rfl) Zaw Zbf ZbT Ziw rfl (by omega) hv ((hub.ext hE).ls).src (by unfold maxLen; omega) (by omega) fun v2 υ2 hv2 hB2 hn2 => ?_
   refine Zab (Zae rfl (by simp only [EV,Nat.reduceEqDiff,↓reduceIte,he];try rfl) ?_)
   refine Zaf ?_
   have e1 : bys (ps.take i).flatten ++ bys ps[i] = bys (ps.take (i + 1)).flatten := by
    rw [Zfo ps i hlt]
    unfold bys
    rw [List.map_append]
   rw [h2, e1] at hv2
   have hE2 : Ext σ υ2 := But.ext hE (fun c hc => (hn c hc).1) hB2
   have hn3 : ∀ c, hbk v2 = some c -> Za0 σ c := fun c hc => (hn2 c hc).elim (hn c) fun q => Za0.of q hE
   show Zay _ _ _ _ _ _
   apply ZaP 6 25 26 27
   iterate 4 ·simp only [EV,Nat.reduceEqDiff,↓reduceIte,he];try rfl
   clear he e
   intro e he
   refine Zad ?_
   refine Zab ?_
   refine ZaU i 1 he.2.2.2 rfl (by omega) ?_
   refine Zab (Zae rfl (by simp only [EV,Nat.reduceEqDiff,↓reduceIte,he];try rfl) ?_)
   refine Zaf ?_
   show ∃ n', n' < _ /\ _
   exact ⟨_, (by omega : ps.length - (i + 1) < ps.length - i), i + 1, v2, rfl, hlt, ⟨by simp only [EV,Nat.reduceEqDiff,↓reduceIte,he];try rfl, by simp only [EV,Nat.reduceEqDiff,↓reduceIte,he];try rfl, by simp only [EV,Nat.reduceEqDiff,↓reduceIte,he];try rfl, by simp only [EV,Nat.reduceEqDiff,↓reduceIte,he];try rfl⟩, hv2, hE2, hn3⟩
  ·have hke : i = ps.length := by have := of_decide_eq_false ht; omega
   rw [hke, List.take_length] at hv
   refine Zbe ?_
   exact ⟨rfl, v, by simp only [EV,Nat.reduceEqDiff,↓reduceIte,he];try rfl, hv, hE, hn⟩
 clear he e hv0 hn0
 rintro e υ ⟨v, he, hv, hE, hn⟩
 repeat refine Zac ?_
 first|refine Zaa ?_|refine Zad ?_
 refine Zab (Zae rfl he ?_)
 refine Zab (Zae rfl (by simp only [EV,Nat.reduceEqDiff,↓reduceIte,he];try rfl) ?_)
 refine Zaf ?_
 refine Zax ?_
 show ∃ r, Zaj _ _ _ _ r /\ _
 exact ⟨_, Zal rfl rfl, hK v υ hv hE hn⟩
theorem ZeK {ps : List (List UInt8)} {a : AV} (ha : SV CT 0 ZdC (.sl 3 ps none) a) (hr : ps.length <= 1000000) (hf : ps.flatten.length <= 100000000) (K : AV -> St -> Prop) (hK : ∀ v τ, Hd τ 5 1 v ps.flatten.length (bys ps.flatten) -> Ext σ τ -> (∀ b, hbk v = some b -> Za0 σ b) -> K v τ) : Zat Try.prog 36 [a] σ K := ZiD (Zjp ha) hr hf K hK
end
end Go.Proofs.Ytinpiaibhjmfaaa
