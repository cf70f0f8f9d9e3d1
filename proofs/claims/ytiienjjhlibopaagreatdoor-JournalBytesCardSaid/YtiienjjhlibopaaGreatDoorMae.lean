/- XJb, XJr, XJc, XJs, XCrc, XFramePure, XJw, XBits32, XSumW, XRows2, XSumM, XJx in one. -/
import Derived.Test.YtiienjjhlibopaaGreatDoorFacts
import Derived.Test.YtiienjjhlibopaaGreatDoorMad
import Derived.Test.YtiienjjhlibopaaGreatDoorMab
import Derived.WalkKit
import Derived.WalkSpells
import Derived.WalkLawsBesides
import Derived.Laws.BitsAllLaws
import Derived.Test.YtiienjjhlibopaaGreatDoorProg
import Derived.Test.YtiienjjhlibopaaGreatDoorBa
import Derived.BigRegion
namespace Go.Proofs.YtiienjjhlibopaaGreatDoor
open Go.RowKit
set_option maxRecDepth 100000
set_option linter.unusedVariables false
set_option linter.unusedSimpArgs false
def vIs (l : List Int) : List AV := l.map fun x => vI x
theorem Zc1 (l : List Int) : (vIs l).length = l.length := by simp [vIs]
theorem Zc2 {l : List Int} {i : Nat} (h : i < l.length) : (vIs l)[i]? = some (vI l[i]) := by
 unfold vIs
 rw [List.getElem?_map, List.getElem?_eq_getElem h]
 rfl
theorem ZeH (l : List Int) : ∀ a ∈ vIs l, a.one = true := fun a ha => by
 obtain ⟨u, _, rfl⟩ := List.mem_map.1 ha
 rfl
def nsB (l : List Int) : List UInt8 := l.flatMap nB
def Zin (l : List Int) : Bool := l.all nOk
theorem Zer (l : List Int) : (nsB l).length <= 9 * l.length := by
 induction l with
 | nil => simp [nsB]
 | cons x l ih =>
  have := Zfx x
  unfold nsB at ih ⊢
  rw [List.flatMap_cons, List.length_append, List.length_cons]
  omega
theorem ZkC {l : List Int} {i : Nat} (h : i < l.length) : nsB (l.take (i + 1)) = nsB (l.take i) ++ nB l[i] := by
 rw [List.take_succ_eq_append_getElem h]
 unfold nsB
 rw [List.flatMap_append, List.flatMap_singleton]
theorem ZmG {l : List Int} {i : Nat} (h : i < l.length) : Zin (l.take (i + 1)) = (Zin (l.take i) && nOk l[i]) := by
 rw [List.take_succ_eq_append_getElem h]
 unfold Zin
 rw [List.all_append]
 simp only [List.all_cons, List.all_nil, Bool.and_true]
theorem ZcG {σ : St} {K : AV -> St -> Prop} {S : Nat -> Prop} {wb : Nat} {sp : Bool} {bs : List UInt8} {v : AV} {l : List Int} (hW : WAt σ S wb sp bs) (hv : ∀ τ, But S σ τ -> Ls τ 3 v l.length (vIs l)) (hl : bs.length + 9 * l.length <= 90000000)
 (hK : ∀ τ, WTo σ S τ wb (sp || !Zin l) (bs ++ nsB l) -> K (ptr wb 0) τ) : Zan Tryz.prog 59 [ptr wb 0, v] σ K := by
 refine Zai Zam Tryz.func59 rfl rfl rfl (Nat.le_of_ble_eq_true rfl) ?_
 refine ZbL 0 1 (v0 := ptr wb 0) (v1 := v) rfl rfl ?_
 intro e he
 repeat refine Zab ?_
 first|refine Zaa ?_|refine Zad ?_
 refine Zag ?_
 refine Zaf (kp2 0 1 fun e he => ?_)
 repeat refine Zab ?_
 first|refine Zaa ?_|refine Zad ?_
 refine Zag ?_
 refine Zao [ptr wb 0] ?_
 refine Zg7 hW ?_
 refine Zaf (kp3 0 1 8 fun e he => ?_)
 refine ZaC (t := true) he.2.2 (fun ht => ?_) (fun ht => by cases ht)
 refine Zab ?_
 repeat refine Zab ?_
 first|refine Zaa ?_|refine Zad ?_
 refine Zag ?_
 refine Zac (ZaP rfl (hv σ (.refl _ _)) rfl Zco ?_)
 refine Zag ?_
 refine Zaf (kp4 0 9 10 11 fun e he => ?_)
 refine ZaF ?_
 refine Za4 (fun μ env υ => ∃ i : Nat, μ = l.length - i /\ i <= l.length /\ (env 0 = ptr wb 0 /\ env 9 = v /\ env 10 = vI l.length /\ env 11 = vI i) /\ WTo σ S υ wb (sp || !Zin (l.take i)) (bs ++ nsB (l.take i))) ⟨_, 0, rfl, Nat.zero_le _, he, by
  show WTo σ S σ wb (sp || false) (bs ++ [])
  rw [Bool.or_false, List.append_nil]
  exact hW.to⟩ ?_
 clear he e
 rintro _ e υ ⟨i, rfl, hi, he, ⟨S', hW', hB', hS'⟩⟩
 repeat refine Zab ?_
 first|refine Zaa ?_|refine Zad ?_
 refine Zcf i l.length ?_
 refine Zaf (kp5 0 9 10 11 12 fun e he => ?_)
 refine ZaC (t := decide (i < l.length)) he.2.2.2.2 (fun ht => ?_) (fun ht => ?_)
 ·have hlt : i < l.length := of_decide_eq_true ht
  have h9 := Zer (l.take i)
  have hmin : (l.take i).length = i := by simp; omega
  refine ZaL (ZaF ?_)
  repeat refine Zab ?_
  first|refine Zaa ?_|refine Zad ?_
  refine Zgi (hv υ hB') hlt (Zc2 hlt) he.2.1 he.2.2.2.1 Zco ZbG fa9 fun u1 => ?_
  refine Zag ?_
  refine Zaf (kp5 0 6 9 10 11 fun e he => ?_)
  refine Zad (Zag ?_)
  refine ZdP (b := wb) rfl ZeG rfl fun u1 => ?_
  refine Zag ?_
  refine Zao [ptr wb 0, vI l[i]] ?_
  refine ZhO hW' (by rw [List.length_append]; omega) fun τ hτ => ?_
  refine Zaf ?_
  show ZaA _ _ _ _ _ _
  refine kp4 0 9 10 11 ?_
  clear he e
  intro e he
  refine Zad (Zby i 1 ?_)
  refine Zag ?_
  refine Zaf ?_
  show ∃ n', n' < _ /\ _
  refine ⟨_, (by omega : l.length - (i + 1) < l.length - i), i + 1, rfl, hlt, ⟨by simp only [EV,Nat.reduceEqDiff,↓reduceIte,he];try rfl, by simp only [EV,Nat.reduceEqDiff,↓reduceIte,he];try rfl, by simp only [EV,Nat.reduceEqDiff,↓reduceIte,he];try rfl, by simp only [EV,Nat.reduceEqDiff,↓reduceIte,he];try rfl⟩, ?_⟩
  rw [ZkC hlt, ZmG hlt, Bool.not_and, <- Bool.or_assoc, <- List.append_assoc]
  exact .and_ hB' hS' hτ hW.used
 have hke : i = l.length := by have := of_decide_eq_false ht; omega
 subst hke
 refine Zbu ?_
 show ZaA _ _ _ _ _ _
 repeat refine Zab ?_
 first|refine Zaa ?_|refine Zad ?_
 refine Zag ?_
 refine Zag ?_
 refine Zaf (kp1 4 fun e he => ?_)
 refine Zap ?_
 rw [List.take_length] at hW'
 exact ZaD (hK υ ⟨S', hW', hB', hS'⟩)
def ZiD (p : List UInt8) : List UInt8 := Ze5 p.length ++ p
def Zes (ps : List (List UInt8)) : List UInt8 := ps.flatMap ZiD
theorem ZhP {ps : List (List UInt8)} {i : Nat} (h : i < ps.length) : Zes (ps.take (i + 1)) = Zes (ps.take i) ++ ZiD ps[i] := by
 rw [List.take_succ_eq_append_getElem h]
 unfold Zes
 rw [List.flatMap_append, List.flatMap_singleton]
theorem ZkD {n : Nat} (h : n <= 4611686018427387903) : nB n = Ze5 n /\ nOk n = true := by
 have h1 : nOk n = true := decide_eq_true (by omega)
 refine ⟨?_, h1⟩
 unfold nB
 rw [h1, if_pos rfl, Int.toNat_natCast]
theorem Zof {p : List UInt8} (h : p.length <= 4611686018427387903) : (ZiD p).length <= 9 + p.length := by
 have := Zdi h
 unfold ZiD
 rw [List.length_append]
 omega
theorem Zog {σ : St} {K : AV -> St -> Prop} {S : Nat -> Prop} {wb : Nat} {sp : Bool} {bs : List UInt8} {v : AV} {ps : List (List UInt8)} {cells : List AV} (hW : WAt σ S wb sp bs) (hv : ∀ τ, But S σ τ -> Ls τ 23 v ps.length cells /\ ∀ i (h : i < ps.length), ∃ u, cells[i]? = some u /\ Za5 τ u ps[i]) (hl : bs.length + (Zes ps).length <= 80000000) (hn : ps.length <= 80000000)
 (hK : ∀ τ, WTo σ S τ wb sp (bs ++ Zes ps) -> K (ptr wb 0) τ) : Zan Tryz.prog 61 [ptr wb 0, v] σ K := by
 refine Zai Zam Tryz.func61 rfl rfl rfl (Nat.le_of_ble_eq_true rfl) ?_
 refine ZbL 0 1 (v0 := ptr wb 0) (v1 := v) rfl rfl ?_
 intro e he
 repeat refine Zab ?_
 first|refine Zaa ?_|refine Zad ?_
 refine Zag ?_
 refine Zaf (kp2 0 1 fun e he => ?_)
 repeat refine Zab ?_
 first|refine Zaa ?_|refine Zad ?_
 refine Zag ?_
 refine Zao [ptr wb 0] ?_
 refine Zg7 hW ?_
 refine Zaf (kp3 0 1 8 fun e he => ?_)
 refine ZaC (t := true) he.2.2 (fun ht => ?_) (fun ht => by cases ht)
 refine Zab ?_
 repeat refine Zab ?_
 first|refine Zaa ?_|refine Zad ?_
 refine Zag ?_
 refine Zac (ZaP rfl (hv σ (.refl _ _)).1 rfl Zl1 ?_)
 refine Zag ?_
 refine Zaf (kp4 0 9 10 11 fun e he => ?_)
 refine ZaF ?_
 refine Za4 (fun μ env υ => ∃ i : Nat, μ = ps.length - i /\ i <= ps.length /\ (env 0 = ptr wb 0 /\ env 9 = v /\ env 10 = vI ps.length /\ env 11 = vI i) /\ WTo σ S υ wb sp (bs ++ Zes (ps.take i))) ⟨_, 0, rfl, Nat.zero_le _, he, by
  show WTo σ S σ wb sp (bs ++ [])
  rw [List.append_nil]
  exact hW.to⟩ ?_
 clear he e
 rintro _ e υ ⟨i, rfl, hi, he, ⟨S', hW', hB', hS'⟩⟩
 repeat refine Zab ?_
 first|refine Zaa ?_|refine Zad ?_
 refine Zcf i ps.length ?_
 refine Zaf (kp5 0 9 10 11 12 fun e he => ?_)
 refine ZaC (t := decide (i < ps.length)) he.2.2.2.2 (fun ht => ?_) (fun ht => ?_)
 ·have hlt : i < ps.length := of_decide_eq_true ht
  obtain ⟨u, hu1, hu2⟩ := (hv υ hB').2 i hlt
  have hsum : (Zes (ps.take i)).length + (ZiD ps[i]).length <= (Zes ps).length := by
   rw [<- List.length_append, <- ZhP hlt]
   have h0 : Zes ps = Zes (ps.take (i + 1)) ++ Zes (ps.drop (i + 1)) := by
    unfold Zes
    rw [<- List.flatMap_append, List.take_append_drop]
   rw [h0, List.length_append]
   omega
  have hrl : (ZiD ps[i]).length = (Ze5 ps[i].length).length + ps[i].length := by unfold ZiD; rw [List.length_append]
  obtain ⟨q1, q2⟩ := ZkD (n := ps[i].length) (by omega)
  refine ZaL (ZaF ?_)
  repeat refine Zab ?_
  first|refine Zaa ?_|refine Zad ?_
  refine Zgi (hv υ hB').1 hlt hu1 he.2.1 he.2.2.2.1 Zl1 Zb6 fa5 fun u1 => ?_
  refine Zag ?_
  refine Zaf (kp5 0 6 9 10 11 fun e he => ?_)
  repeat refine Zab ?_
  first|refine Zaa ?_|refine Zad ?_
  refine Zag ?_
  refine ZdP (b := wb) rfl ZeG rfl fun u1 => ?_
  refine Zag ?_
  refine Zac (ZaP rfl hu2.ls rfl Zbw ?_)
  refine Zao [ptr wb 0, vI ps[i].length] ?_
  refine ZhO hW' (by rw [List.length_append]; omega) fun τ hτ => ?_
  rw [q1, q2, Bool.not_true, Bool.or_false] at hτ
  have hτ' : WTo σ S τ wb sp ((bs ++ Zes (ps.take i)) ++ Ze5 ps[i].length) := .and_ hB' hS' hτ hW.used
  obtain ⟨S2, hW2, hB2, hS2⟩ := hτ'
  refine Zaf (kp5 0 6 9 10 11 ?_)
  clear he e
  intro e he
  refine Zad (Zag ?_)
  refine ZdP (b := wb) rfl ZeG rfl fun u1 => ?_
  refine Zag ?_
  refine Zao [ptr wb 0, u] ?_
  obtain ⟨u', hu3, hu4⟩ := (hv τ hB2).2 i hlt
  rw [hu1] at hu3
  injection hu3 with hu3
  subst hu3
  refine ZjO hW2 hu4.ls.src (by rw [List.length_append, List.length_append]; omega) fun τ2 hτ2 => ?_
  refine Zaf ?_
  show ZaA _ _ _ _ _ _
  refine kp4 0 9 10 11 ?_
  clear he e
  intro e he
  refine Zad (Zby i 1 ?_)
  refine Zag ?_
  refine Zaf ?_
  show ∃ n', n' < _ /\ _
  refine ⟨_, (by omega : ps.length - (i + 1) < ps.length - i), i + 1, rfl, hlt, ⟨by simp only [EV,Nat.reduceEqDiff,↓reduceIte,he];try rfl, by simp only [EV,Nat.reduceEqDiff,↓reduceIte,he];try rfl, by simp only [EV,Nat.reduceEqDiff,↓reduceIte,he];try rfl, by simp only [EV,Nat.reduceEqDiff,↓reduceIte,he];try rfl⟩, ?_⟩
  rw [ZhP hlt, ZiD, <- List.append_assoc, <- List.append_assoc]
  exact .and_ hB2 hS2 hτ2 hW.used
 have hke : i = ps.length := by have := of_decide_eq_false ht; omega
 subst hke
 refine Zbu ?_
 show ZaA _ _ _ _ _ _
 repeat refine Zab ?_
 first|refine Zaa ?_|refine Zad ?_
 refine Zag ?_
 refine Zag ?_
 refine Zaf (kp1 4 fun e he => ?_)
 refine Zap ?_
 rw [List.take_length] at hW'
 exact ZaD (hK υ ⟨S', hW', hB', hS'⟩)
theorem Zpd (n : Nat) (h : n <= 4611686018427387903) : IntKind.i64.wrap ((BitVec.ofInt (IntKind.i64.bits) (n : Int) &&& BitVec.ofInt (IntKind.i64.bits) 127).toNat) = ((n % 128 : Nat) : Int) := by
 have hb : IntKind.i64.bits = 64 := rfl
 have h8 : (BitVec.ofNat 64 n &&& BitVec.ofNat 64 127).toNat = n % 128 := by
  rw [BitVec.toNat_and, BitVec.toNat_ofNat, BitVec.toNat_ofNat, Nat.mod_eq_of_lt (show n < 2 ^ 64 by omega), show 127 % 2 ^ 64 = 2 ^ 7 - 1 from rfl, Nat.and_two_pow_sub_one_eq_mod]
 rw [hb, ZcM, show (127 : Int) = ((127 : Nat) : Int) from rfl, ZcM, h8, IntWalk.i64_in _ (by omega)]
theorem Zp1 (m : Nat) : IntKind.u8.wrap ((BitVec.ofInt (IntKind.u8.bits) ((UInt8.ofNat (m % 128)).toNat : Int) ||| BitVec.ofInt (IntKind.u8.bits) 128).toNat) = ((UInt8.ofNat (m % 128 + 128)).toNat : Int) := by
 have := ZmD (m % 128)
 rw [Ze6, Nat.mod_mod] at this
 exact this
theorem Zrx {P : Program} {ops : Array Oper} {env : Env} {σ : St} {K : Env -> St -> Prop} {d : Option Nat} {ty t : TypeId} {pos : String} {af : Array Edge} {l' : List Oper} {n : Nat} {parts : Array (Nat × Operand)} {e : TypeId} {sz : Nat} {v : Value} {vs cells : List AV} (hv : parts.toList.map (fun p => ev env p.2) = vs) (ht : ZaW P t = some e) (hs : ZaU P e = some sz) (hz : Zba P e = some v) (hzs : v.cells.size = sz) (hn : n * sz <= 16777216)
 (hf : Zcz (fun i => some (i * sz, sz)) ((List.range (n * sz)).map fun i => .ofV (v.cells[i % sz]!)) ((parts.toList.map (·.1)).zip vs) = some cells)
 (h : ∀ b, ¬ σ.used b -> σ.blk b = none -> Zbz P ops l' (env.put d (hdr b n n)) (σ.put b (.own e cells)) K) : Zbz P ops (⟨d, .buildSlice t n parts, ty, pos, af, none⟩ :: l') env σ K := by
 refine .inr (.inl ⟨by simp [Region.wanted], t, n, parts, e, sz, v, cells, rfl, ht, hs, hz, hzs, hn, ?_, h⟩)
 have : (Op.buildSlice t n parts).operands.toList.map (ev env) = vs := by rw [<- hv]; simp [Op.operands]
 rw [this]
 exact hf
section
variable {σ : St} {K : AV -> St -> Prop}
set_option maxHeartbeats 1000000 in
theorem ZmH {x : Int} (hK0 : nOk x = false -> K (.tup [.lst none 0 0 [], vT false]) σ) (hK1 : nOk x = true -> ∀ a τ, Hd τ 5 1 a (nB x).length (bys (nB x)) -> Ext σ τ -> (∀ b, hbk a = some b -> Za9 σ b) -> K (.tup [a, vT true]) τ) : Zan Tryz.prog 111 [vI x] σ K := by
 refine Zai Zam Tryz.func111 rfl rfl rfl (Nat.le_of_ble_eq_true rfl) ?_
 refine Zbf 0 (v0 := vI x) rfl ?_
 intro e he
 repeat refine Zab ?_
 first|refine Zaa ?_|refine Zad ?_
 refine Zag ?_
 refine Zag ?_
 refine Zaf (kp1 0 fun e he => ?_)
 refine Zab (Zce (fun e' υ => (e' 0 = vI x /\ e' 10 = vT (!nOk x)) /\ σ = υ) ?_ ?_)
 ·refine Zad ?_
  refine Zag ?_
  refine Zac (Zgh (k := .i64) (a := x) (b := 0) rfl rfl ?_)
  refine Zag ?_
  by_cases h0 : x < 0
  ·rw [decide_eq_true h0]
   refine Zal ?_
   refine Zal ?_
   refine Zac (Zaj (v := vT true) rfl rfl ?_)
   refine Zaf ?_
   have hq : nOk x = false := decide_eq_false (by omega)
   rw [hq]
   exact ⟨rfl, ⟨by simp only [EV,Nat.reduceEqDiff,↓reduceIte,he];try rfl, by simp only [EV,Nat.reduceEqDiff,↓reduceIte,he];try rfl⟩, rfl⟩
  ·rw [decide_eq_false h0]
   refine Zau ?_
   refine Zcb rfl he ?_
   refine Zau ?_
   refine Zb3 (k := .i64) (a := x) (b := 4611686018427387903) rfl rfl ?_
   refine Zac (Zak (v := vT (decide (4611686018427387903 < x))) rfl rfl ?_)
   refine Zaf ?_
   have hq : (!nOk x) = decide (4611686018427387903 < x) := by
    unfold nOk
    by_cases h1 : 4611686018427387903 < x
    ·rw [decide_eq_true h1, decide_eq_false (by omega)]; rfl
    ·rw [decide_eq_false h1, decide_eq_true (by omega)]; rfl
   rw [hq]
   exact ⟨rfl, ⟨by simp only [EV,Nat.reduceEqDiff,↓reduceIte,he];try rfl, by simp only [EV,Nat.reduceEqDiff,↓reduceIte,he];try rfl⟩, rfl⟩
 clear he e
 rintro e _ ⟨he, rfl⟩
 refine ZaC (t := !nOk x) he.2 (fun ht => ?_) (fun ht => ?_)
 ·have hq : nOk x = false := by simpa only [Bool.not_eq_true'] using ht
  repeat refine Zab ?_
  first|refine Zaa ?_|refine Zad ?_
  refine Zag ?_
  refine Zag ?_
  refine Zaf (kp2 2 3 ?_)
  clear he e
  intro e he
  refine ZbB ?_
  exact ⟨_, Zbd rfl (ZaO he.1) (ZaO he.2), hK0 hq⟩
 have hq : nOk x = true := by simpa only [Bool.not_eq_false'] using ht
 have hx := of_decide_eq_true hq
 have hnB : nB x = Ze5 x.toNat := by unfold nB; rw [hq, if_pos rfl]
 have hK1 := hK1 hq
 rw [hnB] at hK1
 obtain ⟨X, rfl⟩ : ∃ X : Nat, x = (X : Int) := ⟨x.toNat, by omega⟩
 rw [Int.toNat_natCast] at hK1
 have h9 := Zdi (n := X) (by omega)
 refine ZaL ?_
 repeat refine Zab ?_
 first|refine Zaa ?_|refine Zad ?_
 refine Zag ?_
 refine Zac (Zn9 (k := .i64) (a := (X : Int)) (b := 127) rfl rfl (Zpd X (by omega)) ?_)
 refine Zac (ZbF (k := .i64) (a := ((X % 128 : Nat) : Int)) (r := ((UInt8.ofNat (X % 128)).toNat : Int)) fa1 Zfw rfl (Ze6 _) ?_)
 refine Zrx (vs := bys [UInt8.ofNat (X % 128)]) (cells := bys [UInt8.ofNat (X % 128)]) (by simp only [List.map_cons, List.map_nil, EV,Nat.reduceEqDiff,↓reduceIte,he];try rfl) Zbw Zcn ZeO rfl (by omega) rfl fun rb hu1 hn1 => ?_
 have hX1 := Ext.put (.own 5 (bys [UInt8.ofNat (X % 128)])) hn1
 have hd1 : Hd (σ.put rb (.own 5 (bys [UInt8.ofNat (X % 128)]))) 5 1 (hdr rb 1 1) 1 (bys [UInt8.ofNat (X % 128)]) := ZhI (by omega) (by omega) rfl (ZeE _)
 refine Zag ?_
 refine Zaf (kp2 0 4 fun e he => ?_)
 repeat refine Zab ?_
 first|refine Zaa ?_|refine Zad ?_
 refine Zag ?_
 refine Zac (ZjL (k := .i64) (k' := .u64) (a := X) (b := 7) rfl rfl (by omega) ?_)
 rw [Zsv]
 refine Zag ?_
 refine Zaf (kp2 0 4 ?_)
 clear he e
 intro e he
 refine ZaF ?_
 refine Za4 (fun μ env υ => ∃ (M : Nat) (pre : List UInt8) (v : AV), μ = M /\ M <= X /\ (env 0 = vI (M / 128 : Nat) /\ env 4 = v) /\ Hd υ 5 1 v (pre.length + 1) (bys (pre ++ [UInt8.ofNat (M % 128)])) /\ (∀ b, hbk v = some b -> Za9 σ b) /\ Ext σ υ /\ pre ++ Ze5 M = Ze5 X) ⟨_, X, [], hdr rb 1 1, rfl, Nat.le_refl _, he, hd1, fun b hb => by
  have := Zc8 hb
  subst this
  exact ⟨hn1, hu1⟩, hX1, rfl⟩ ?_
 clear he e
 rintro M e υ ⟨_, pre, v, rfl, hM, he, hv, hn, hE, hpm⟩
 have hlen : pre.length + (Ze5 M).length <= 9 := by
  have := congrArg List.length hpm
  rw [List.length_append] at this
  omega
 have hpos := ZkA M
 repeat refine Zab ?_
 first|refine Zaa ?_|refine Zad ?_
 refine Zag ?_
 refine Zac (Zb3 (k := .i64) (a := ((M / 128 : Nat) : Int)) (b := 0) rfl rfl ?_)
 refine Zaf (kp3 0 4 18 fun e he => ?_)
 refine ZaC (t := decide ((0 : Int) < ((M / 128 : Nat) : Int))) (by simp only [EV,Nat.reduceEqDiff,↓reduceIte,he];try rfl) (fun ht => ?_) (fun ht => ?_)
 ·have hlt : 128 <= M := by have := of_decide_eq_true ht; omega
  obtain ⟨b, hb⟩ := hv.some_ (by omega)
  have hpb : (bys (pre ++ [UInt8.ofNat (M % 128)]))[pre.length]? = some (.raw (.int .u8 ((UInt8.ofNat (M % 128)).toNat : Int))) := by
   rw [ZcF, List.getElem?_append_right (by rw [Zb1]; omega), Zb1, Nat.sub_self]
   rfl
  refine ZaL (Zct ?_)
  repeat refine Zab ?_
  first|refine Zaa ?_|refine Zad ?_
  refine Zag ?_
  refine Zag ?_
  refine Zac (ZeV (by simp only [EV,Nat.reduceEqDiff,↓reduceIte,he];try rfl) hv rfl Zbw ?_)
  refine Zac (ZnE (k := .i64) (a := ((pre.length + 1 : Nat) : Int)) (b := 1) (r := (pre.length : Int)) (by simp only [EV,Nat.reduceEqDiff,↓reduceIte,he];try rfl) (by simp only [EV,Nat.reduceEqDiff,↓reduceIte,he];try rfl) (by rw [IntWalk.i64_in _ (by omega)]; omega) ?_)
  refine Zac (Zb0 (k := .i64) (j := pre.length) (by simp only [EV,Nat.reduceEqDiff,↓reduceIte,he];try rfl) (by simp only [EV,Nat.reduceEqDiff,↓reduceIte,he];try rfl) Zbw Zcn hv (by omega) fun b1 hb1 => ?_)
  refine Zac (Zo7 (by simp only [EV,Nat.reduceEqDiff,↓reduceIte,he];try rfl) hv hb1 (by omega) hpb (by kernel_rfl) Zcn ?_)
  refine Zac (Zrw (k := .u8) (a := ((UInt8.ofNat (M % 128)).toNat : Int)) (b := 128) (by simp only [EV,Nat.reduceEqDiff,↓reduceIte,he];try rfl) (by simp only [EV,Nat.reduceEqDiff,↓reduceIte,he];try rfl) (Zp1 M) ?_)
  refine Zac (Zb0 (k := .i64) (j := pre.length) (by simp only [EV,Nat.reduceEqDiff,↓reduceIte,he];try rfl) (by simp only [EV,Nat.reduceEqDiff,↓reduceIte,he];try rfl) Zbw Zcn hv (by omega) fun b2 hb2 => ?_)
  refine Zac (Zko (r := .raw (.int .u8 ((UInt8.ofNat (M % 128 + 128)).toNat : Int))) (by simp only [EV,Nat.reduceEqDiff,↓reduceIte,he];try rfl) (by simp only [EV,Nat.reduceEqDiff,↓reduceIte,he];try rfl) Zcn hv hb2 (by omega) ⟨rfl, rfl, rfl⟩ fun τ hv3 k3 => ?_)
  refine Zaf (kp2 0 4 fun e he => ?_)
  rw [Nat.mul_one, show (bys (pre ++ [UInt8.ofNat (M % 128)])).set pre.length (.raw (.int .u8 ((UInt8.ofNat (M % 128 + 128)).toNat : Int))) = bys (pre ++ [UInt8.ofNat (M % 128 + 128)]) by
   rw [ZcF, ZcF, List.set_append_right _ _ (by rw [Zb1]; omega), Zb1, Nat.sub_self]
   rfl] at hv3
  repeat refine Zab ?_
  first|refine Zaa ?_|refine Zad ?_
  refine Zag ?_
  refine Zag ?_
  refine Zac (Zn9 (k := .i64) (a := ((M / 128 : Nat) : Int)) (b := 127) (by simp only [EV,Nat.reduceEqDiff,↓reduceIte,he];try rfl) (by simp only [EV,Nat.reduceEqDiff,↓reduceIte,he];try rfl) (Zpd (M / 128) (by omega)) ?_)
  refine Zac (ZbF (k := .i64) (a := ((M / 128 % 128 : Nat) : Int)) (r := ((UInt8.ofNat (M / 128 % 128)).toNat : Int)) fa1 Zfw (by simp only [EV,Nat.reduceEqDiff,↓reduceIte,he];try rfl) (Ze6 _) ?_)
  refine Zac (ZaN (vs := bys [UInt8.ofNat (M / 128 % 128)]) (cells := bys [UInt8.ofNat (M / 128 % 128)]) (by simp only [List.map_cons, List.map_nil, EV,Nat.reduceEqDiff,↓reduceIte,he];try rfl) Zbw Zcn ZeO rfl (by decide) rfl fun b5 hu5 hb5 => ?_)
  have hX5 := Ext.put (.tail 5 (1 * 1) (1 * 1)) hb5
  refine Zac (ZaZ (m := 1) (news := bys [UInt8.ofNat (M / 128 % 128)]) (by simp only [EV,Nat.reduceEqDiff,↓reduceIte,he];try rfl) (by simp only [EV,Nat.reduceEqDiff,↓reduceIte,he];try rfl) Zbw Zcn ZeO ZgQ rfl (by omega) (hv3.ext hX5) (ZjN _ rfl fun q => by cases q) (by unfold maxLen; omega) (by omega) fun v6 τ6 hv6 hB6 hn6 => ?_)
  have hE3 : Ext σ τ := But.ext hE (fun c hc => (hn c hc).1) k3
  have hE6 : Ext σ τ6 := But.ext (hE3.trans hX5) (fun c hc => (hn c hc).1) hB6
  refine Zag ?_
  refine Zaf (kp2 0 4 fun e he => ?_)
  refine Zad (Zag ?_)
  refine Zac (ZjL (k := .i64) (k' := .u64) (a := ((M / 128 : Nat) : Int)) (b := 7) rfl rfl (by omega) ?_)
  rw [Zsv]
  refine Zag ?_
  refine Zaf ?_
  show ∃ n', n' < _ /\ _
  refine ⟨_, (by omega : M / 128 < M), M / 128, pre ++ [UInt8.ofNat (M % 128 + 128)], v6, rfl, by omega, ⟨by simp only [EV,Nat.reduceEqDiff,↓reduceIte,he];try rfl, by simp only [EV,Nat.reduceEqDiff,↓reduceIte,he];try rfl⟩, ?_, fun c hc => (hn6 c hc).elim (hn c) fun q => Za9.of q (hE3.trans hX5), hE6, ?_⟩
  ·rw [ZcF, List.length_append]
   exact hv6
  ·rw [<- hpm, Zik (by omega : ¬ M < 128), List.append_assoc]
   rfl
 ·have hlt : M < 128 := by have := of_decide_eq_false ht; omega
  rw [Zg6 hlt] at hpm
  rw [Nat.mod_eq_of_lt hlt, hpm] at hv
  have hl2 : pre.length + 1 = (Ze5 X).length := by rw [<- hpm, List.length_append]; rfl
  rw [hl2] at hv
  refine Zbu ?_
  show ZaA _ _ _ _ _ _
  repeat refine Zab ?_
  first|refine Zaa ?_|refine Zad ?_
  refine Zag ?_
  refine Zag ?_
  refine Zag ?_
  refine Zaf (kp2 2 3 fun e he => ?_)
  refine Zap ?_
  exact ⟨_, Zbd rfl (ZaO he.1) (ZaO he.2), hK1 v υ hv hE hn⟩
end
theorem Zp2 : Zba Tryz.prog 24 = some (.slice none 0 0) := by kernel_rfl
theorem Zio : ZaW Tryz.prog 177 = some 24 := by kernel_rfl
theorem But.on {S S' : Nat -> Prop} {σ τ υ : St} (k1 : But S σ τ) (k2 : ∀ b, S' b -> S b \/ Za9 σ b) (k : But S' τ υ) : But S σ υ := k1.ext2 (fun b hb => (k2 b hb).imp id fun q => q.1) k
theorem Zet {σ : St} {e : TypeId} {A : Option Addr} {n c : Nat} {cells : List AV} (hl : cells.length = n) (h1 : ∀ a ∈ cells, a.one = true) (hA : A = none -> n = 0) : Ls σ e (.lst A n c cells) n cells := ⟨hl, h1, .inl ⟨A, c, [], by rw [List.append_nil], hA⟩⟩
def Zds (l : List Int) : List UInt8 := Ze5 l.length ++ nsB l
def Ze7 (ls : List (List Int)) : List UInt8 := ls.flatMap Zds
def ZfX (ls : List (List Int)) : Bool := ls.all Zin
theorem ZcX {l : List Int} (h : l.length <= 4611686018427387903) : (Zds l).length <= 9 + 9 * l.length := by
 have h1 := Zdi h
 have h2 := Zer l
 unfold Zds
 rw [List.length_append]
 omega
theorem ZjP {σ : St} {K : AV -> St -> Prop} {S : Nat -> Prop} {wb : Nat} {sp : Bool} {bs : List UInt8} {v : AV} {l : List Int} (hW : WAt σ S wb sp bs) (hv : ∀ τ, But S σ τ -> Ls τ 3 v l.length (vIs l)) (hl : bs.length + 9 * l.length <= 80000000)
 (hK : ∀ τ, WTo σ S τ wb (sp || !Zin l) (bs ++ Zds l) -> K (.tup []) τ) : Zan Tryz.prog 109 [ptr wb 0, v] σ K := by
 refine Zai Zam Tryz.func109 rfl rfl rfl (Nat.le_of_ble_eq_true rfl) ?_
 refine ZbL 0 1 (v0 := ptr wb 0) (v1 := v) rfl rfl ?_
 intro e he
 refine Zad (Zag ?_)
 refine Zag ?_
 refine Zac (ZaP rfl (hv σ (.refl _ _)) rfl Zco ?_)
 refine Zac (ZaN (vs := vIs [l.length]) (cells := vIs [l.length]) (by simp only [List.map_cons, List.map_nil, EV,Nat.reduceEqDiff,↓reduceIte,he];try rfl) Zco ZbG ZjF rfl (by decide) rfl fun b hu hb => ?_)
 have hX := Ext.put (.tail 3 (1 * 1) (1 * 1)) hb
 refine Zao [ptr wb 0, .lst (some ⟨b, 0, none⟩) 1 1 (vIs [l.length])] ?_
 obtain ⟨q1, q2⟩ := ZkD (n := l.length) (by omega)
 refine ZcG (l := [(l.length : Int)]) (hW.ext hX) (fun τ _ => Zet rfl (ZeH _) fun q => by cases q) (by show bs.length + 9 <= _; omega) fun τ hτ => ?_
 have e1 : nsB [(l.length : Int)] = Ze5 l.length := by
  unfold nsB
  rw [List.flatMap_singleton, q1]
 have e2 : Zin [(l.length : Int)] = true := by
  show (nOk l.length && true) = true
  rw [q2]
  rfl
 rw [e1, e2, Bool.not_true, Bool.or_false] at hτ
 have hτ' : WTo σ S τ wb sp (bs ++ Ze5 l.length) := .and_ hX.but (fun b hb => .inl hb) hτ hW.used
 obtain ⟨S', hW', hB', hS'⟩ := hτ'
 have h9 := Zdi (n := l.length) (by omega)
 refine Zag ?_
 refine Zao [ptr wb 0, v] ?_
 refine ZcG hW' (fun υ k => hv υ (hB'.on hS' k)) (by rw [List.length_append]; omega) fun τ2 hτ2 => ?_
 refine Zaf ?_
 refine ⟨_, Zcu rfl, hK τ2 ?_⟩
 unfold Zds
 rw [<- List.append_assoc]
 exact .and_ hB' hS' hτ2 hW.used
theorem ZjQ {ls : List (List Int)} {i : Nat} (h : i < ls.length) : Ze7 (ls.take (i + 1)) = Ze7 (ls.take i) ++ Zds ls[i] := by
 rw [List.take_succ_eq_append_getElem h]
 unfold Ze7
 rw [List.flatMap_append, List.flatMap_singleton]
theorem Zlo {ls : List (List Int)} {i : Nat} (h : i < ls.length) : ZfX (ls.take (i + 1)) = (ZfX (ls.take i) && Zin ls[i]) := by
 rw [List.take_succ_eq_append_getElem h]
 unfold ZfX
 rw [List.all_append]
 simp only [List.all_cons, List.all_nil, Bool.and_true]
def ZbM (σ : St) (cs : List AV) (ls : List (List Int)) : Prop := ∀ i (h : i < ls.length), ∃ u, cs[i]? = some u /\ Ls σ 3 u ls[i].length (vIs ls[i])
theorem Zp3 {σ : St} {e n : Nat} {v : AV} {cells : List AV} (h : Ls σ e v n cells) : v.one = true := by
 rcases h.2.2 with ⟨A, c, rest, rfl, _⟩ | h
 ·rfl
 ·exact h.oneV.1
theorem ZmI {σ : St} {e n : Nat} {v : AV} {cells : List AV} (h : Ls σ e v n cells) : Zbh v = true /\ v.cells = [v] := by
 rcases h.2.2 with ⟨A, c, rest, rfl, _⟩ | h
 ·exact ⟨rfl, rfl⟩
 ·exact h.oneV.2
theorem Zry {z0 z1 z2 z3 a b c d : AV} {pl : Nat -> Option (Nat × Nat)} (h0 : pl 0 = some (0, 1)) (h1 : pl 1 = some (1, 1)) (h2 : pl 2 = some (2, 1)) (h3 : pl 3 = some (3, 1)) (ha : Zbh a = true /\ a.cells = [a]) (hb : Zbh b = true /\ b.cells = [b]) (hc : Zbh c = true /\ c.cells = [c]) (hd : Zbh d = true /\ d.cells = [d]) : Zcz pl [z0, z1, z2, z3] ([0, 1, 2, 3].zip [a, b, c, d]) = some [a, b, c, d] := by
 simp [Zcz, h0, h1, h2, h3, ha.1, ha.2, hb.1, hb.2, hc.1, hc.2, hd.1, hd.2, ZaR]
theorem ZhQ {σ : St} {K : AV -> St -> Prop} {S : Nat -> Prop} {wb : Nat} {sp : Bool} {bs : List UInt8} {c0 c1 c2 c3 : AV} {ls : List (List Int)} (hW : WAt σ S wb sp bs) (h4 : ls.length = 4) (hv : ∀ τ, But S σ τ -> ZbM τ [c0, c1, c2, c3] ls) (hl : bs.length + (Ze7 ls).length + 9 * (ls.flatten).length <= 70000000)
 (hK : ∀ τ, WTo σ S τ wb (sp || !ZfX ls) (bs ++ Ze7 ls) -> K (.tup []) τ) : Zan Tryz.prog 60 [ptr wb 0, .agg [c0, c1, c2, c3]] σ K := by
 have h00 := hv σ (.refl _ _)
 have hcell : ∀ i (h : i < 4) u, [c0, c1, c2, c3][i]? = some u -> u.one = true /\ Zbh u = true /\ u.cells = [u] := fun i h u hu => by
  obtain ⟨u', h1, h2⟩ := h00 i (by omega)
  rw [hu] at h1
  injection h1 with h1
  subst h1
  exact ⟨Zp3 h2, ZmI h2⟩
 refine Zai Zam Tryz.func60 rfl rfl rfl (Nat.le_of_ble_eq_true rfl) ?_
 refine ZbL 0 1 (v0 := ptr wb 0) (v1 := .agg [c0, c1, c2, c3]) rfl rfl ?_
 intro e he
 repeat refine Zab ?_
 first|refine Zaa ?_|refine Zad ?_
 refine Zac (Zbn (cs := [c0, c1, c2, c3]) (v := .agg [c0, c1, c2, c3]) he.2 rfl fun b υ hn hu hb hub hX => ?_)
 refine Zaf (kp2 0 3 fun e he => ?_)
 repeat refine Zab ?_
 first|refine Zaa ?_|refine Zad ?_
 refine Zac (Zae (b := b) (o := 0) he.2 Zcr rfl ?_)
 refine Zac (Zah (b := b) (o := 0 + 0) (r := c0) rfl hb fa6 Zb4 rfl ?_)
 refine Zac (Zae (b := b) (o := 0) he.2 Zcr rfl ?_)
 refine Zac (Zah (b := b) (o := 0 + 1) (r := c1) rfl hb fa6 Zb4 rfl ?_)
 refine Zac (Zae (b := b) (o := 0) he.2 Zcr rfl ?_)
 refine Zac (Zah (b := b) (o := 0 + 2) (r := c2) rfl hb fa6 Zb4 rfl ?_)
 refine Zac (Zae (b := b) (o := 0) he.2 Zcr rfl ?_)
 refine Zac (Zah (b := b) (o := 0 + 3) (r := c3) rfl hb fa6 Zb4 rfl ?_)
 refine Zac (ZaN (vs := [c0, c1, c2, c3]) (cells := [c0, c1, c2, c3]) (by simp only [List.map_cons, List.map_nil, EV,Nat.reduceEqDiff,↓reduceIte,he];try rfl) Zio Zb4 Zp2 rfl (by decide) (Zry rfl rfl rfl rfl (hcell 0 (by omega) c0 rfl).2 (hcell 1 (by omega) c1 rfl).2 (hcell 2 (by omega) c2 rfl).2 (hcell 3 (by omega) c3 rfl).2) fun b2 hu2 hb2 => ?_)
 have hX2 := hX.trans (Ext.put (.tail 24 (4 * 1) (4 * 1)) hb2)
 have hone : ∀ a ∈ [c0, c1, c2, c3], a.one = true := fun a ha => by
  obtain ⟨i, hi, rfl⟩ := List.getElem_of_mem ha
  exact (hcell i (by simpa using hi) _ (List.getElem?_eq_getElem hi)).1
 have hL : ∀ τ, Ls τ 24 (.lst (some ⟨b2, 0, none⟩) 4 4 [c0, c1, c2, c3]) 4 [c0, c1, c2, c3] := fun τ => Zet rfl hone fun q => by cases q
 refine Zac (ZaP rfl (hL _) rfl Zio ?_)
 refine Zag ?_
 refine Zaf (kp4 0 14 15 16 fun e he => ?_)
 refine Zct ?_
 refine Za4 (fun μ env υ => ∃ i : Nat, μ = 4 - i /\ i <= 4 /\ (env 0 = ptr wb 0 /\ env 14 = .lst (some ⟨b2, 0, none⟩) 4 4 [c0, c1, c2, c3] /\ env 15 = vI (4 : Nat) /\ env 16 = vI i) /\ WTo σ S υ wb (sp || !ZfX (ls.take i)) (bs ++ Ze7 (ls.take i))) ⟨_, 0, rfl, Nat.zero_le _, he, by
  show WTo σ S _ wb (sp || false) (bs ++ [])
  rw [Bool.or_false, List.append_nil]
  exact hW.toE hX2⟩ ?_
 clear he e
 rintro _ e υ ⟨i, rfl, hi, he, ⟨S', hW', hB', hS'⟩⟩
 repeat refine Zab ?_
 first|refine Zaa ?_|refine Zad ?_
 refine Zcf i 4 ?_
 refine Zaf (kp5 0 14 15 16 17 fun e he => ?_)
 refine ZaC (t := decide (i < 4)) he.2.2.2.2 (fun ht => ?_) (fun ht => ?_)
 ·have hlt : i < 4 := of_decide_eq_true ht
  obtain ⟨u, hu1, hu2⟩ := hv υ hB' i (by omega)
  have hsum : (Ze7 (ls.take i)).length <= (Ze7 ls).length := by
   have h0 : Ze7 ls = Ze7 (ls.take i) ++ Ze7 (ls.drop i) := by
    unfold Ze7
    rw [<- List.flatMap_append, List.take_append_drop]
   rw [h0, List.length_append]
   omega
  have hfl : (ls[i]'(by omega)).length <= ls.flatten.length := by
   have hm : ls[i]'(by omega) ∈ ls := List.getElem_mem _
   obtain ⟨s, t, hst⟩ := List.append_of_mem hm
   have := congrArg (fun q => q.flatten.length) hst
   simp only [List.flatten_append, List.flatten_cons, List.length_append] at this
   omega
  refine ZaL (ZaF ?_)
  repeat refine Zab ?_
  first|refine Zaa ?_|refine Zad ?_
  refine Zgi (hL υ) hlt hu1 he.2.1 he.2.2.2.1 Zio Zb4 fa6 fun u1 => ?_
  refine Zag ?_
  refine Zaf (kp5 0 5 14 15 16 ?_)
  clear he e
  intro e he
  refine Zad (Zag ?_)
  refine Zag ?_
  refine Zao [ptr wb 0, u] ?_
  refine ZjP (l := ls[i]'(by omega)) hW' (fun τ k => by
   obtain ⟨u', hu3, hu4⟩ := hv τ (hB'.on hS' k) i (by omega)
   rw [hu1] at hu3
   injection hu3 with hu3
   subst hu3
   exact hu4) (by rw [List.length_append]; omega) fun τ hτ => ?_
  refine Zaf ?_
  show ZaA _ _ _ _ _ _
  refine kp4 0 14 15 16 ?_
  clear he e
  intro e he
  refine Zad (Zby i 1 ?_)
  refine Zag ?_
  refine Zaf ?_
  show ∃ n', n' < _ /\ _
  refine ⟨_, (by omega : 4 - (i + 1) < 4 - i), i + 1, rfl, hlt, ⟨by simp only [EV,Nat.reduceEqDiff,↓reduceIte,he];try rfl, by simp only [EV,Nat.reduceEqDiff,↓reduceIte,he];try rfl, by simp only [EV,Nat.reduceEqDiff,↓reduceIte,he];try rfl, by simp only [EV,Nat.reduceEqDiff,↓reduceIte,he];try rfl⟩, ?_⟩
  rw [ZjQ (by omega), Zlo (by omega), Bool.not_and, <- Bool.or_assoc, <- List.append_assoc]
  exact .and_ hB' hS' hτ hW.used
 have hke : i = 4 := by have := of_decide_eq_false ht; omega
 subst hke
 refine Zbu ?_
 rw [<- h4, List.take_length] at hW'
 exact ⟨_, Zcu rfl, hK υ ⟨S', hW', hB', hS'⟩⟩
def Zg8 (x t : Int) (ls : List (List Int)) : List UInt8 := nB x ++ nB t ++ Ze7 ls
theorem Zjc {σ : St} {K : AV -> St -> Prop} {S : Nat -> Prop} {wb : Nat} {sp : Bool} {bs : List UInt8} {x t : Int} {c0 c1 c2 c3 : AV} {ls : List (List Int)} (hW : WAt σ S wb sp bs) (h4 : ls.length = 4) (hv : ∀ τ, But S σ τ -> ZbM τ [c0, c1, c2, c3] ls) (hl : bs.length + (Ze7 ls).length + 9 * (ls.flatten).length <= 60000000)
 (hK : ∀ τ, WTo σ S τ wb (sp || !(nOk x && nOk t && ZfX ls)) (bs ++ Zg8 x t ls) -> K (ptr wb 0) τ) : Zan Tryz.prog 17 [ptr wb 0, .agg [vI x, vI t, c0, c1, c2, c3]] σ K := by
 refine Zai Zam Tryz.func17 rfl rfl rfl (Nat.le_of_ble_eq_true rfl) ?_
 refine ZbL 0 1 (v0 := ptr wb 0) (v1 := .agg [vI x, vI t, c0, c1, c2, c3]) rfl rfl ?_
 intro e he
 repeat refine Zab ?_
 first|refine Zaa ?_|refine Zad ?_
 refine Zac (Zbn (cs := [vI x, vI t, c0, c1, c2, c3]) (v := .agg [vI x, vI t, c0, c1, c2, c3]) he.2 rfl fun b υ hn hu hb hub hX => ?_)
 refine Zag ?_
 refine Zaf (kp2 0 3 fun e he => ?_)
 repeat refine Zab ?_
 first|refine Zaa ?_|refine Zad ?_
 refine Zag ?_
 refine Zac (Zae (b := b) (o := 0) he.2 Zdp rfl ?_)
 refine Zac (Zah (b := b) (o := 0 + 0) (r := vI x) rfl hb fa9 ZbG rfl ?_)
 refine Zac (Zae (b := b) (o := 0) he.2 Zdp rfl ?_)
 refine Zac (Zah (b := b) (o := 0 + 1) (r := vI t) rfl hb fa9 ZbG rfl ?_)
 refine Zac (ZaN (vs := vIs [x, t]) (cells := vIs [x, t]) (by simp only [List.map_cons, List.map_nil, EV,Nat.reduceEqDiff,↓reduceIte,he];try rfl) Zco ZbG ZjF rfl (by decide) rfl fun b2 hu2 hb2 => ?_)
 have hX2 := hX.trans (Ext.put (.tail 3 (2 * 1) (2 * 1)) hb2)
 have hX3 := Ext.put (.tail 3 (2 * 1) (2 * 1)) hb2
 refine Zao [ptr wb 0, .lst (some ⟨b2, 0, none⟩) 2 2 (vIs [x, t])] ?_
 refine ZcG (l := [x, t]) (hW.ext hX2) (fun τ _ => Zet rfl (ZeH _) fun q => by cases q) (by show bs.length + 9 * 2 <= _; omega) fun τ hτ => ?_
 have hxt := Zer [x, t]
 have hxt : (nsB [x, t]).length <= 9 * 2 := hxt
 have hτ' : WTo σ S τ wb (sp || !Zin [x, t]) (bs ++ nsB [x, t]) := .and_ hX2.but (fun b hb => .inl hb) hτ hW.used
 obtain ⟨S', hW', hB', hS'⟩ := hτ'
 have hSb : ¬ S b := fun q => hu (hW.used b q)
 obtain ⟨S1, hW1, hB1, hS1⟩ := hτ
 have hb' : τ.blk b = some (.own 30 [vI x, vI t, c0, c1, c2, c3]) := hB1.keep _ _ hSb (hX3.keep _ _ hb)
 refine Zaf (kp2 0 3 fun e he => ?_)
 repeat refine Zab ?_
 first|refine Zaa ?_|refine Zad ?_
 refine Zag ?_
 refine Zac (Zae (b := b) (o := 0) he.2 Zdp rfl ?_)
 refine Zac (Zah (b := b) (o := 0 + 2) (r := .agg [c0, c1, c2, c3]) rfl hb' fa7 Zdb rfl ?_)
 refine Zao [ptr wb 0, .agg [c0, c1, c2, c3]] ?_
 refine ZhQ hW' h4 (fun υ k => hv υ (hB'.on hS' k)) (by rw [List.length_append]; omega) fun τ2 hτ2 => ?_
 refine Zaf (kp1 0 fun e he => ?_)
 repeat refine Zab ?_
 first|refine Zaa ?_|refine Zad ?_
 refine Zag ?_
 refine Zag ?_
 refine Zaf (kp1 4 fun e he => ?_)
 refine Zap ?_
 have e1 : nsB [x, t] = nB x ++ nB t := by simp [nsB]
 have e2 : Zin [x, t] = (nOk x && nOk t) := by simp [Zin]
 have hτ3 : WTo σ S τ2 wb _ _ := .and_ hB' hS' hτ2 hW.used
 rw [e1, e2, Bool.or_assoc, <- Bool.not_and, List.append_assoc] at hτ3
 exact ZaD (hK τ2 hτ3)
section
variable {σ : St} {K : AV -> St -> Prop}
theorem ZeI {x : Int} (hK : ∀ a τ, Hd τ 5 1 a (nB x).length (bys (nB x)) -> Ext σ τ -> (∀ b, hbk a = some b -> Za9 σ b) -> K a τ) : Zan Tryz.prog 64 [vI x] σ K := by
 refine Zai Zam Tryz.func64 rfl rfl rfl (Nat.le_of_ble_eq_true rfl) ?_
 refine Zbf 0 (v0 := vI x) rfl ?_
 intro e he
 repeat refine Zab ?_
 first|refine Zaa ?_|refine Zad ?_
 refine Zag ?_
 refine Zaf (kp1 0 fun e he => ?_)
 repeat refine Zab ?_
 first|refine Zaa ?_|refine Zad ?_
 refine Zag ?_
 refine Zao [vI x] ?_
 refine ZmH (fun hq => ?_) fun hq a τ ha hX hn => ?_
 ·have hnb : nB x = [] := by unfold nB; rw [hq]; rfl
  rw [hnb] at hK
  refine Zag ?_
  refine Zac (Zaw (l := [.lst none 0 0 [], vT false]) rfl rfl ?_)
  refine Zac (Zaw (l := [.lst none 0 0 [], vT false]) rfl rfl ?_)
  refine Zag ?_
  refine Zag ?_
  refine Zaf (kp1 3 fun e he => ?_)
  repeat refine Zab ?_
  first|refine Zaa ?_|refine Zad ?_
  refine Zag ?_
  refine Zag ?_
  refine Zaf (kp1 2 fun e he => ?_)
  refine Zap ?_
  exact ZaD (hK _ σ ⟨rfl, by simp [bys], .inl ⟨.inl rfl, rfl⟩⟩ (.refl _) (fun b hb => by cases hb))
 ·refine Zag ?_
  refine Zac (Zaw (l := [a, vT true]) rfl rfl ?_)
  refine Zac (Zaw (l := [a, vT true]) rfl rfl ?_)
  refine Zag ?_
  refine Zag ?_
  refine Zaf (kp1 3 fun e he => ?_)
  repeat refine Zab ?_
  first|refine Zaa ?_|refine Zad ?_
  refine Zag ?_
  refine Zag ?_
  refine Zaf (kp1 2 fun e he => ?_)
  refine Zap ?_
  exact ZaD (hK a τ ha hX hn)
theorem Zd0 {v : AV} {l : List Int} (hv : Ls σ 3 v l.length (vIs l)) (hl : l.length <= 10000000) (hK : ∀ a τ, Hd τ 5 1 a (Zds l).length (bys (Zds l)) -> Ext σ τ -> (∀ b, hbk a = some b -> Za9 σ b) -> K a τ) : Zan Tryz.prog 112 [v] σ K := by
 refine Zai Zam Tryz.func112 rfl rfl rfl (Nat.le_of_ble_eq_true rfl) ?_
 refine Zbf 0 (v0 := v) rfl ?_
 intro e he
 repeat refine Zab ?_
 first|refine Zaa ?_|refine Zad ?_
 refine Zag ?_
 refine Zaf (kp1 0 fun e he => ?_)
 repeat refine Zab ?_
 first|refine Zaa ?_|refine Zad ?_
 refine Zag ?_
 refine Zac (ZaP (σ := σ) rfl hv rfl Zco ?_)
 refine Zao [vI l.length] ?_
 refine ZeI fun a σ1 ha hX1 hn1 => ?_
 rw [(ZkD (n := l.length) (by omega)).1] at ha
 have h9 := Zdi (n := l.length) (by omega)
 refine Zag ?_
 refine Zaf (kp2 0 3 fun e he => ?_)
 refine Zab ?_
 repeat refine Zab ?_
 first|refine Zaa ?_|refine Zad ?_
 refine Zag ?_
 refine Zaf (kp3 0 3 4 fun e he => ?_)
 refine ZaF ?_
 refine Za4 (fun μ env υ => ∃ (i : Nat) (a : AV), μ = l.length - i /\ i <= l.length /\ (env 0 = v /\ env 3 = a /\ env 4 = vI i) /\ Hd υ 5 1 a (Ze5 l.length ++ nsB (l.take i)).length (bys (Ze5 l.length ++ nsB (l.take i))) /\ Ext σ υ /\ ∀ b, hbk a = some b -> Za9 σ b) ⟨_, 0, a, rfl, Nat.zero_le _, he, by
  show Hd σ1 5 1 a (Ze5 l.length ++ []).length (bys (Ze5 l.length ++ []))
  rw [List.append_nil]
  exact ha, hX1, hn1⟩ ?_
 clear he e
 rintro _ e υ ⟨i, a, rfl, hi, he, ha, hX, hn⟩
 have h92 := Zer (l.take i)
 have hmin : (l.take i).length = i := by rw [List.length_take]; omega
 refine Zab ?_
 repeat refine Zab ?_
 first|refine Zaa ?_|refine Zad ?_
 refine Zag ?_
 refine Zag ?_
 refine Zac (ZaP rfl (hv.ext hX) rfl Zco ?_)
 refine Zcf i l.length ?_
 refine Zaf (kp4 0 3 4 11 fun e he => ?_)
 refine ZaC (t := decide (i < l.length)) (by simp only [EV,Nat.reduceEqDiff,↓reduceIte,he];try rfl) (fun ht => ?_) (fun ht => ?_)
 ·have hlt : i < l.length := of_decide_eq_true ht
  refine ZaL (ZaF ?_)
  repeat refine Zab ?_
  first|refine Zaa ?_|refine Zad ?_
  refine Zag ?_
  refine Zag ?_
  refine Zag ?_
  refine Zgi (hv.ext hX) hlt (Zc2 hlt) (by simp only [EV,Nat.reduceEqDiff,↓reduceIte,he];try rfl) (by simp only [EV,Nat.reduceEqDiff,↓reduceIte,he];try rfl) Zco ZbG fa9 fun u1 => ?_
  refine Zao [vI l[i]] ?_
  refine ZeI fun c τ hc hX2 hn2 => ?_
  have h9c := Zfx l[i]
  refine Zac (ZaZ (m := (nB l[i]).length) (news := bys (nB l[i])) (by simp only [EV,Nat.reduceEqDiff,↓reduceIte,he];try rfl) (by simp only [EV,Nat.reduceEqDiff,↓reduceIte,he];try rfl) Zbw Zcn ZeO ZgQ rfl (by omega) (ha.ext hX2) (hc.src (by omega)) (by rw [List.length_append]; unfold maxLen; omega) (by rw [List.length_append]; omega) fun v6 τ6 hv6 hB6 hn6 => ?_)
  refine Zag ?_
  refine Zaf ?_
  show ZaA _ _ _ _ _ _
  refine kp3 0 3 4 fun e he => ?_
  refine Zad (Zag ?_)
  refine Zby i 1 ?_
  refine Zag ?_
  refine Zaf ?_
  show ∃ n', n' < _ /\ _
  refine ⟨_, (by omega : l.length - (i + 1) < l.length - i), i + 1, v6, rfl, hlt, ⟨by simp only [EV,Nat.reduceEqDiff,↓reduceIte,he];try rfl, by simp only [EV,Nat.reduceEqDiff,↓reduceIte,he];try rfl, by simp only [EV,Nat.reduceEqDiff,↓reduceIte,he];try rfl⟩, ?_, But.ext (hX.trans hX2) (fun c hc => (hn c hc).1) hB6, fun c hc => (hn6 c hc).elim (hn c) fun q => Za9.of q (hX.trans hX2)⟩
  rw [ZkC hlt, <- List.append_assoc, ZcF, List.length_append]
  exact hv6
 ·have hke : i = l.length := by have := of_decide_eq_false ht; omega
  rw [hke, List.take_length] at ha
  refine Zbu ?_
  show ZaA _ _ _ _ _ _
  repeat refine Zab ?_
  first|refine Zaa ?_|refine Zad ?_
  refine Zag ?_
  refine Zag ?_
  refine Zaf (kp1 2 fun e he => ?_)
  refine Zap ?_
  exact ZaD (hK a υ ha hX hn)
theorem Zoh {v : AV} {p : List UInt8} (hv : Za5 σ v p) (hl : p.length <= 1000000000) (hK : ∀ a τ, Hd τ 5 1 a (ZiD p).length (bys (ZiD p)) -> Ext σ τ -> (∀ b, hbk a = some b -> Za9 σ b) -> K a τ) : Zan Tryz.prog 65 [v] σ K := by
 have hq := ZkD (n := p.length) (by omega)
 have h9 := Zdi (n := p.length) (by omega)
 refine Zai Zam Tryz.func65 rfl rfl rfl (Nat.le_of_ble_eq_true rfl) ?_
 refine Zbf 0 (v0 := v) rfl ?_
 intro e he
 repeat refine Zab ?_
 first|refine Zaa ?_|refine Zad ?_
 refine Zag ?_
 refine Zaf (kp1 0 fun e he => ?_)
 repeat refine Zab ?_
 first|refine Zaa ?_|refine Zad ?_
 refine Zag ?_
 refine Zac (ZaP (σ := σ) rfl hv.ls rfl Zbw ?_)
 refine Zao [vI p.length] ?_
 refine ZmH (fun hq2 => by rw [hq.2] at hq2; cases hq2) fun _ a τ ha hX hn => ?_
 rw [hq.1] at ha
 refine Zag ?_
 refine Zac (Zaw (l := [a, vT true]) rfl rfl ?_)
 refine Zac (Zaw (l := [a, vT true]) rfl rfl ?_)
 refine Zag ?_
 refine Zag ?_
 refine Zaf (kp2 0 3 fun e he => ?_)
 repeat refine Zab ?_
 first|refine Zaa ?_|refine Zad ?_
 refine Zag ?_
 refine Zag ?_
 refine Zac (ZaZ (m := p.length) (news := bys p) (by simp only [EV,Nat.reduceEqDiff,↓reduceIte,he];try rfl) (by simp only [EV,Nat.reduceEqDiff,↓reduceIte,he];try rfl) Zbw Zcn ZeO ZgQ rfl (by omega) ha (hv.ext hX).ls.src (by unfold maxLen; omega) (by omega) fun v6 τ6 hv6 hB6 hn6 => ?_)
 refine Zag ?_
 refine Zaf (kp1 2 fun e he => ?_)
 refine Zap ?_
 exact ZaD (hK v6 τ6 (by unfold ZiD; rw [ZcF, List.length_append]; exact hv6) (But.ext hX (fun c hc => (hn c hc).1) hB6) (fun c hc => (hn6 c hc).elim (hn c) fun q => Za9.of q hX))
end
end Go.Proofs.YtiienjjhlibopaaGreatDoor
namespace Go.Proofs.YtiienjjhlibopaaGreatDoor
namespace Crc
def poly : BitVec 32 := 3988292384#32
def step (x : BitVec 32) : BitVec 32 := (x >>> 1) ^^^ (if x.getLsbD 0 then poly else 0#32)
def steps : Nat -> BitVec 32 -> BitVec 32
 | 0, x => x
 | n + 1, x => steps n (step x)
def byte (b : UInt8) : BitVec 32 := BitVec.ofNat 32 b.toNat
def feed (r : BitVec 32) (b : UInt8) : BitVec 32 := steps 8 (r ^^^ byte b)
def feeds (r : BitVec 32) (l : List UInt8) : BitVec 32 := l.foldl feed r
def more (s : BitVec 32) (l : List UInt8) : BitVec 32 := ~~~ (feeds (~~~ s) l)
theorem Zoi (x y : BitVec 32) : step (x ^^^ y) = step x ^^^ step y := by
 unfold step
 rw [BitVec.getLsbD_xor]
 apply BitVec.eq_of_getLsbD_eq
 intro i hi
 cases hx : x.getLsbD 0 <;> cases hy : y.getLsbD 0 <;> simp [Bool.xor_comm, Bool.xor_left_comm]
theorem steps_succ' (n : Nat) (x : BitVec 32) : steps (n + 1) x = step (steps n x) := by
 induction n generalizing x with
 | zero => rfl
 | succ n ih => rw [steps, ih, steps]
theorem steps_add (m n : Nat) (x : BitVec 32) : steps (m + n) x = steps n (steps m x) := by
 induction m generalizing x with
 | zero => simp [steps]
 | succ m ih => rw [Nat.succ_add, steps, ih, steps]
theorem ZmJ (n : Nat) (x y : BitVec 32) : steps n (x ^^^ y) = steps n x ^^^ steps n y := by
 induction n generalizing x y with
 | zero => rfl
 | succ n ih => rw [steps, Zoi, ih]; rfl
theorem ZmK (x : BitVec 32) (h : x.getLsbD 0 = false) : step x = x >>> 1 := by
 unfold step; rw [h]; simp
theorem ZjR (n : Nat) (x : BitVec 32) (h : ∀ i, i < n -> x.getLsbD i = false) : steps n x = x >>> n := by
 induction n generalizing x with
 | zero => simp [steps]
 | succ n ih =>
  rw [steps, ZmK x (h 0 (by omega)), ih]
  ·rw [<- BitVec.shiftRight_add, Nat.add_comm]
  ·intro i hi
   rw [BitVec.getLsbD_ushiftRight]
   exact h _ (by omega)
theorem part (n : Nat) (x : BitVec 32) : x = ((x >>> n) <<< n) ^^^ (x &&& BitVec.ofNat 32 (2 ^ n - 1)) := by
 apply BitVec.eq_of_getLsbD_eq
 intro i hi
 simp only [BitVec.getLsbD_xor, BitVec.getLsbD_shiftLeft, BitVec.getLsbD_ushiftRight, BitVec.getLsbD_and, BitVec.getLsbD_ofNat, hi, decide_true, Bool.true_and, Nat.testBit_two_pow_sub_one]
 by_cases h : i < n
 ·simp [h]
 ·simp [h, show n + (i - n) = i from by omega]
theorem Zlp (n : Nat) (x : BitVec 32) : steps n x = (x >>> n) ^^^ steps n (x &&& BitVec.ofNat 32 (2 ^ n - 1)) := by
 conv => lhs; rw [part n x]
 rw [ZmJ, ZjR n ((x >>> n) <<< n)]
 ·congr 1
  apply BitVec.eq_of_getLsbD_eq
  intro i hi
  simp only [BitVec.getLsbD_ushiftRight, BitVec.getLsbD_shiftLeft]
  by_cases h : n + i < 32
  ·simp [h]
  ·simp [h, BitVec.getLsbD_of_ge x (n + i) (by omega)]
 ·intro i hi
  simp [BitVec.getLsbD_shiftLeft, hi]
theorem nibble (x : BitVec 32) : steps 4 x = (x >>> 4) ^^^ steps 4 (x &&& 15#32) := Zlp 4 x
theorem feeds_snoc (r : BitVec 32) (a : List UInt8) (b : UInt8) : feeds r (a ++ [b]) = feed (feeds r a) b := by simp [feeds, List.foldl_append]
theorem and_one (r : BitVec 32) : r &&& 1#32 = if r.getLsbD 0 then 1#32 else 0#32 := by
 apply BitVec.eq_of_getLsbD_eq
 intro i hi
 rw [BitVec.getLsbD_and]
 cases i with
 | zero => cases h : r.getLsbD 0 <;> simp
 | succ i => cases h : r.getLsbD 0 <;> simp
end Crc
end Go.Proofs.YtiienjjhlibopaaGreatDoor
namespace Go.Proofs.YtiienjjhlibopaaGreatDoor
def le4 (n : Nat) : List UInt8 := [UInt8.ofNat n, UInt8.ofNat (n / 256), UInt8.ofNat (n / 65536), UInt8.ofNat (n / 16777216)]
abbrev Fr := Int × List UInt8
def hd (f : Fr) : List UInt8 := le4 f.2.length ++ [UInt8.ofNat f.1.toNat]
def Zoj (f : Fr) : Nat := (Crc.more 0#32 (hd f ++ f.2)).toNat
def code (f : Fr) : List UInt8 := hd f ++ (le4 (Zoj f) ++ f.2)
def codes (l : List Fr) : List UInt8 := (l.map code).flatten
theorem Zlq (n : Nat) : (le4 n).length = 4 := rfl
theorem Zg9 (f : Fr) : (hd f).length = 5 := rfl
theorem Zdj (f : Fr) : (code f).length = 9 + f.2.length := by simp [code, hd, le4]; omega
theorem Zlr (f : Fr) (l : List Fr) : codes (f :: l) = code f ++ codes l := rfl
def Zls (l : List UInt8) : Nat -> Nat
 | 0 => 0
 | k + 1 => Zls l k + (l.getD k 0).toNat * 256 ^ k
theorem ZmL (l : List UInt8) (k : Nat) : Zls l k < 256 ^ k := by
 induction k with
 | zero => simp [Zls]
 | succ k ih =>
  have h := (l.getD k 0).toNat_lt
  have h2 : (l.getD k 0).toNat * 256 ^ k <= 255 * 256 ^ k := Nat.mul_le_mul_right _ (by omega)
  rw [Zls, Nat.pow_succ]
  omega
def num (l : List UInt8) (at_ : Nat) : Nat := Zls (l.drop at_) 4
theorem Zrz (l : List UInt8) (at_ : Nat) : num l at_ < 4294967296 := ZmL _ 4
def Zb8 (b : List UInt8) : Option Fr :=
 if b.length < 9 then none
 else if 262144 < num b 0 \/ b.length - 9 < num b 0 then none
 else if num b 5 = (Crc.more 0#32 (b.take 5 ++ (b.drop 9).take (num b 0))).toNat then some (((b.getD 4 0).toNat : Int), (b.drop 9).take (num b 0)) else none
def Zip : Nat -> List UInt8 -> List Fr × Nat
 | 0, _ => ([], 0)
 | k + 1, b => match Zb8 b with
  | none => ([], 0)
  | some f => (f :: (Zip k (b.drop (9 + f.2.length))).1, 9 + f.2.length + (Zip k (b.drop (9 + f.2.length))).2)
def ZaV (b : List UInt8) : List Fr × Nat := Zip (b.length + 1) b
theorem ZeJ {b : List UInt8} {f : Fr} (h : Zb8 b = some f) : 9 + f.2.length <= b.length := by
 unfold Zb8 at h
 split at h
 ·cases h
 ·split at h
  ·cases h
  ·split at h
   ·injection h with h
    subst h
    simp only [List.length_take, List.length_drop]
    omega
   ·cases h
end Go.Proofs.YtiienjjhlibopaaGreatDoor
namespace Go.Proofs.YtiienjjhlibopaaGreatDoor
open Go.RowKit
set_option maxRecDepth 100000
set_option linter.unusedVariables false
set_option linter.unusedSimpArgs false
theorem Zha : Program.underlying Tryz.prog 169 = some (.int .u32) := by kernel_rfl
theorem ZjS (n k : Nat) (hk : k <= 32) : IntKind.u8.wrap ((n : Int).fdiv (2 ^ min ((k : Nat) : Int).toNat IntKind.u32.bits)) = ((UInt8.ofNat (n / 2 ^ k)).toNat : Int) := by
 have hb : IntKind.u32.bits = 32 := rfl
 rw [hb, Int.toNat_natCast, Nat.min_eq_left hk]
 have h : (n : Int).fdiv (2 ^ k) = ((n / 2 ^ k : Nat) : Int) := by
  rw [Int.fdiv_eq_ediv_of_nonneg _ (Int.pow_nonneg (by omega))]
  rw [show ((2 : Int) ^ k) = ((2 ^ k : Nat) : Int) from by simp]
  exact (Int.natCast_ediv _ _).symm
 rw [h, Ze6]
theorem ZmM {σ τ : St} {e n : Nat} {v : AV} {cells : List AV} (h : Hd τ e 1 v n cells) (hX : Ext σ τ) (hn : ∀ b, hbk v = some b -> Za9 σ b) (hl : n <= 140737488355328) : ∃ G A c, Zc0 G τ v (.lst A n c cells) /\ Lst A n c /\ Ext σ (Zdq G τ) := by
 obtain ⟨A, c, q1, q2, q3, q4⟩ := h.lends (G := fun b => hbk v = some b) (fun b hb => hb) (.refl cells)
 exact ⟨_, A, c, q1, ⟨q2, q3, hl, q4⟩, ZcN hX fun c hc => hn c hc⟩
theorem TB.of {A : Option Addr} {c : Nat} {d : List UInt8} (h : Lst A d.length c) : TB (.lst A d.length c (bys d)) d := ⟨A, c, [], by rw [List.append_nil], h⟩
section
variable {σ : St} {K : AV -> St -> Prop}
theorem ZkE {n : Nat} (hn : n < 4294967296) (hK : ∀ a τ, Hd τ 5 1 a 4 (bys (le4 n)) -> Ext σ τ -> (∀ b, hbk a = some b -> Za9 σ b) -> K a τ) : Zan Tryz.prog 200 [.raw (.int .u32 (n : Int))] σ K := by
 refine Zai Zam Tryz.func200 rfl rfl rfl (Nat.le_of_ble_eq_true rfl) ?_
 refine Zbf 0 (v0 := .raw (.int .u32 (n : Int))) rfl ?_
 intro e he
 repeat refine Zab ?_
 first|refine Zaa ?_|refine Zad ?_
 refine Zag ?_
 refine Zaf (kp1 0 fun e he => ?_)
 repeat refine Zab ?_
 first|refine Zaa ?_|refine Zad ?_
 refine Zag ?_
 refine Zac (ZbF (k := .u32) (a := (n : Int)) (r := ((UInt8.ofNat n).toNat : Int)) Zha Zfw rfl (Ze6 n) ?_)
 refine Zag ?_
 refine Zac (ZjL (k := .u32) (k' := .u64) (a := n) (b := 8) rfl rfl (by omega) ?_)
 refine Zac (ZbF (k := .u32) (a := (n : Int).fdiv (2 ^ min (8 : Int).toNat IntKind.u32.bits)) (r := ((UInt8.ofNat (n / 256)).toNat : Int)) Zha Zfw rfl (ZjS n 8 (by omega)) ?_)
 refine Zag ?_
 refine Zac (ZjL (k := .u32) (k' := .u64) (a := n) (b := 16) rfl rfl (by omega) ?_)
 refine Zac (ZbF (k := .u32) (a := (n : Int).fdiv (2 ^ min (16 : Int).toNat IntKind.u32.bits)) (r := ((UInt8.ofNat (n / 65536)).toNat : Int)) Zha Zfw rfl (ZjS n 16 (by omega)) ?_)
 refine Zag ?_
 refine Zac (ZjL (k := .u32) (k' := .u64) (a := n) (b := 24) rfl rfl (by omega) ?_)
 refine Zac (ZbF (k := .u32) (a := (n : Int).fdiv (2 ^ min (24 : Int).toNat IntKind.u32.bits)) (r := ((UInt8.ofNat (n / 16777216)).toNat : Int)) Zha Zfw rfl (ZjS n 24 (by omega)) ?_)
 refine Zrx (vs := bys (le4 n)) (cells := bys (le4 n)) (by simp only [List.map_cons, List.map_nil, EV,Nat.reduceEqDiff,↓reduceIte,he];try rfl) Zbw Zcn ZeO rfl (by omega) rfl fun rb hu1 hn1 => ?_
 refine Zag ?_
 refine Zaf (kp1 2 ?_)
 clear he e
 intro e he
 refine Zap ?_
 exact ZaD (hK _ _ (ZhI (by omega) (by omega) rfl (ZeE _)) (Ext.put _ hn1) (fun b hb => by have h := Zc8 hb; subst h; exact ⟨hn1, hu1⟩))
theorem ZmN {n : Nat} (hn : n < 4294967296) (hK : ∀ a τ, TB a (le4 n) -> Ext σ τ -> K a τ) : Zan Tryz.prog 200 [.raw (.int .u32 (n : Int))] σ K :=
 Zan.tell (ZkE hn fun a τ h1 h2 h3 => by
  obtain ⟨G, A, c, q1, q2, q3⟩ := ZmM h1 h2 h3 (by omega)
  exact ⟨G, _, q1, hK _ _ (TB.of (d := le4 n) q2) q3⟩)
end
end Go.Proofs.YtiienjjhlibopaaGreatDoor
namespace Go.Proofs.YtiienjjhlibopaaGreatDoor
open Go.RowKit
set_option maxRecDepth 100000
namespace B32
theorem lt (x : BitVec 32) : x.toNat < 4294967296 := x.isLt
theorem xor_ (x y : BitVec 32) : Go.bits .xor .u32 (x.toNat : Int) (y.toNat : Int) = ((x ^^^ y).toNat : Int) := by
 rw [u32_xor_nat _ _ (lt x) (lt y), BitVec.toNat_xor]
theorem and_ (x y : BitVec 32) : Go.bits .and .u32 (x.toNat : Int) (y.toNat : Int) = ((x &&& y).toNat : Int) := by
 rw [u32_and_nat _ _ (lt x) (lt y), BitVec.toNat_and]
theorem xor_byte (x : BitVec 32) (b : UInt8) : Go.bits .xor .u32 (x.toNat : Int) (b.toNat : Int) = ((x ^^^ Crc.byte b).toNat : Int) := by
 have hb := b.toNat_lt
 rw [u32_xor_nat _ _ (lt x) (by omega), BitVec.toNat_xor]
 congr 2
 simp [Crc.byte]
theorem and_1 (x : BitVec 32) : Go.bits .and .u32 (x.toNat : Int) 1 = ((x &&& 1#32).toNat : Int) := and_ x 1#32
theorem and_15 (x : BitVec 32) : Go.bits .and .u32 (x.toNat : Int) 15 = ((x &&& 15#32).toNat : Int) := and_ x 15#32
theorem shr_1 (x : BitVec 32) : (x.toNat : Int) / (2 : Int) = ((x >>> 1).toNat : Int) := by rw [BitVec.toNat_ushiftRight, Nat.shiftRight_eq_div_pow]; rfl
theorem shr_4 (x : BitVec 32) : (x.toNat : Int) / (16 : Int) = ((x >>> 4).toNat : Int) := by rw [BitVec.toNat_ushiftRight, Nat.shiftRight_eq_div_pow]; rfl
theorem not_ (x : BitVec 32) : Go.bits .xor .u32 IntKind.u32.max (x.toNat : Int) = ((~~~ x).toNat : Int) := by
 rw [show IntKind.u32.max = ((BitVec.allOnes 32).toNat : Int) from by decide, xor_, BitVec.allOnes_xor]
end B32
end Go.Proofs.YtiienjjhlibopaaGreatDoor
namespace Go.Proofs.YtiienjjhlibopaaGreatDoor
open Go.RowKit
set_option maxRecDepth 100000
theorem Zlt (y : BitVec 32) : Go.bits .xor .u32 ((y.toNat : Int) / (2 : Int)) ((3988292384 : Int) * Go.bits .and .u32 (y.toNat : Int) 1 % (4294967296 : Int)) = ((Crc.step y).toNat : Int) := by
 rw [B32.shr_1, B32.and_1]
 have hw : (3988292384 : Int) * ((y &&& 1#32).toNat : Int) % (4294967296 : Int) = ((if y.getLsbD 0 then Crc.poly else 0#32).toNat : Int) := by
  rw [Crc.and_one]
  cases y.getLsbD 0 <;> simp [Crc.poly]
 rw [hw, B32.xor_]
 rfl
def Zgx (x : BitVec 32) : Value := .int .u32 (x.toNat : Int)
set_option maxHeartbeats 400000 in
theorem ZmO (a : Addr) (x : BitVec 32) (n : Nat) (w : World) (hc : w.cell? a = some (.int .u32 (x.toNat : Int))) (hf : w.frozen? a = false) (hn : n <= 1000) :
 Calls Tryz.prog 254 #[.pointer (some a), .int .i64 n] w fun e w' => e = .returned (.tuple #[]) /\ w.setCell a (.int .u32 ((Crc.steps n x).toNat : Int)) = w' := by
 go_enter Tryz.func254, Tryz.ntmps254
 go_wp2
 go_loopw [6] (fun i wr => ∃ k : Nat, k <= n /\ i = .int .i64 k /\ wr = w.setCell a (.int .u32 ((Crc.steps k x).toNat : Int))) (fun i _ => n - (intOf i).toNat)
 case atStart => exact ⟨0, by omega, rfl, (Zk3 hc).symm⟩
 case round =>
  obtain ⟨k, hk, rfl, rfl⟩ := hrel
  by_cases hlt : k < n
  ·have hS := Lib.hid (Crc.steps_succ' k x)
   have hT := Lib.hid (Zlt (Crc.steps k x))
   go_wp2
   go_roundw
   case rel => exact ⟨k + 1, by omega, by go_num, by rw [Zh1, hT.out, hS.out]⟩
   case measure => simp [intOf]; omega
  ·go_wp2
   have : k = n := by omega
   subst this
   go_end0
   exact ⟨rfl, rfl⟩
def Za6 (x : BitVec 32) (k : Nat) : Array Value := (Zgx x :: (List.range 16).map fun i => Zgx (if i < k then Crc.steps 4 (BitVec.ofNat 32 i) else 0#32)).toArray
theorem ZfY (x : BitVec 32) : Za6 x 0 = #[Zgx x, Zgx 0#32, Zgx 0#32, Zgx 0#32, Zgx 0#32, Zgx 0#32, Zgx 0#32, Zgx 0#32, Zgx 0#32, Zgx 0#32, Zgx 0#32, Zgx 0#32, Zgx 0#32, Zgx 0#32, Zgx 0#32, Zgx 0#32, Zgx 0#32] := by
 simp [Za6, List.range_succ_eq_map]
theorem Zhb (x : BitVec 32) (i : Nat) (hi : i < 16) : (Za6 x 16)[1 + i]? = some (Zgx (Crc.steps 4 (BitVec.ofNat 32 i))) := by
 unfold Za6
 rw [Nat.add_comm]
 simp [hi]
theorem Zhc (x : BitVec 32) (k i : Nat) (hi : i < 16) : ∃ v, (Za6 x k)[1 + i]? = some v := by
 unfold Za6
 rw [Nat.add_comm]
 simp [hi]
theorem Zgj (x : BitVec 32) (k : Nat) : (Za6 x k).setIfInBounds (1 + k) (Zgx (Crc.steps 4 (BitVec.ofNat 32 k))) = Za6 x (k + 1) := by
 unfold Za6
 apply Array.ext'
 simp only [Array.toList_setIfInBounds, Nat.add_comm 1 k, List.set_cons_succ]
 congr 1
 apply List.ext_getElem
 ·simp
 intro i h1 h2
 rw [List.getElem_set]
 simp only [List.getElem_map, List.getElem_range]
 split
 ·next e => subst e; simp
 ·next e =>
  by_cases h : i < k
  ·simp [h, show i < k + 1 from by omega]
  ·simp [h, show ¬ i < k + 1 from by omega]
theorem ZmP (k : Nat) (hk : k < 16) : ((BitVec.ofNat 32 k).toNat : Int) = (k : Int) := by simp; omega
set_option maxHeartbeats 1000000 in
theorem ZmQ (x : BitVec 32) (w : World) :
 Calls Tryz.prog 241 #[.int .u32 (x.toNat : Int)] w fun e w' => ∃ g, e = .returned (.pointer (some ⟨g, 0, none⟩)) /\ w.heap.size <= g /\ Blk w' g 380 (Za6 x 16) /\ Zdt (fun _ => False) w w' := by
 go_enter Tryz.func241, Tryz.ntmps241
 go_wp2
 go_loopw [4, 5, 10] (fun _ _ i wr => ∃ k : Nat, k <= 16 /\ i = .int .i64 k /\ Blk wr w.heap.size 380 (Za6 x k) /\ Zdt (fun _ => False) w wr) (fun _ _ i _ => 16 - (intOf i).toNat)
 case atStart => exact ⟨0, by omega, rfl, by rw [ZfY]; exact Blk.new _ _ _, (Zdt.refl _ _).alloc _⟩
 case round =>
  obtain ⟨k, hk, rfl, hB, hK⟩ := hrel
  by_cases hlt : k < 16
  ·have hU := ZmP k hlt
   have hU' : IntKind.u32.wrap (k : Int) = ((BitVec.ofNat 32 k).toNat : Int) := by rw [hU]; simp [IntKind.wrap, IntKind.bits, IntKind.signed]; omega
   have HB := Lib.hid hB
   have HK := Lib.hid hK
   have hs := hK.size
   have hBs := hB.lt
   clear hB hK
   go_wp2_with fail
   refine (ZmO _ (BitVec.ofNat 32 k) 4 _ (by simp) (by simp) (by omega)).mono ?_
   rintro e w1 ⟨rfl, rfl⟩
   have hB := HB.out
   have hc1 : wr.cell? ⟨w.heap.size, 1 + k, none⟩ = some ((Za6 x k)[1 + k]?.getD (.bool true)) := by
    rw [hB.cell]; obtain ⟨v, hv⟩ := Zhc x k k hlt; rw [hv]; rfl
   have hf1 : wr.frozen? ⟨w.heap.size, 1 + k, none⟩ = false := hB.frozen _
   clear hB
   go_wp2
   go_region
   go_wp2
   go_roundw
   case rel =>
    have hP := HB.out.put (1 + k) (Zgx (Crc.steps 4 (BitVec.ofNat 32 k)))
    rw [Zgj] at hP
    exact ⟨k + 1, by omega, by go_num, (hP.alloc _).drew, ((HK.out.setNew (Nat.le_refl _) _).alloc _).drew⟩
   case measure => simp [intOf]; omega
  ·go_wp2
   have : k = 16 := by omega
   subst this
   go_ret
   exact ⟨w.heap.size, rfl, Nat.le_refl _, hB, hK⟩
theorem Zlu (y : BitVec 32) : Go.bits .xor .u32 ((y.toNat : Int) / (16 : Int)) ((Crc.steps 4 (BitVec.ofNat 32 (y &&& 15#32).toNat)).toNat : Int) = ((Crc.steps 4 y).toNat : Int) := by
 rw [B32.shr_4, B32.xor_, Crc.nibble y]
 simp
set_option maxHeartbeats 1000000 in
theorem ZmR (g : Nat) (x : BitVec 32) (b : UInt8) (w : World) (hB : Blk w g 380 (Za6 x 16)) :
 Calls Tryz.prog 242 #[.pointer (some ⟨g, 0, none⟩), .int .u8 (b.toNat : Int)] w fun e w' => e = .returned (.tuple #[]) /\ Blk w' g 380 (Za6 (Crc.feed x b) 16) /\ Zdt (fun k => k = g) w w' := by
 go_enter Tryz.func242, Tryz.ntmps242
 have hc0 : w.cell? ⟨g, 0, none⟩ = some (.int .u32 (x.toNat : Int)) := by rw [hB.cell]; rfl
 have hf0 : w.frozen? ⟨g, 0, none⟩ = false := hB.frozen _
 have hx := B32.xor_byte x b
 have hb : (b.toNat : Int) % 4294967296 = b.toNat := by have := b.toNat_lt; omega
 have HB := Lib.hid hB
 clear hB
 go_wp2
 go_loopw [15] (fun i wr => ∃ k : Nat, k <= 2 /\ i = .int .i64 k /\ Blk wr g 380 (Za6 (Crc.steps (4 * k) (x ^^^ Crc.byte b)) 16) /\ Zdt (fun k => k = g) w wr) (fun i _ => 2 - (intOf i).toNat)
 case atStart => exact ⟨0, by omega, rfl, HB.out.put 0 (Zgx (x ^^^ Crc.byte b)), (Zdt.refl _ _).put (by rfl) _ _⟩
 case round =>
  obtain ⟨k, hk, rfl, hB, hK⟩ := hrel
  by_cases hlt : k < 2
  ·have hS := Lib.hid (Crc.steps_add (4 * k) 4 (x ^^^ Crc.byte b))
   clear hc0 hf0 hx hb
   generalize hy : Crc.steps (4 * k) (x ^^^ Crc.byte b) = y at *
   have hc0 : wr.cell? ⟨g, 0, none⟩ = some (.int .u32 (y.toNat : Int)) := by rw [hB.cell]; rfl
   have hf0 : wr.frozen? ⟨g, 0, none⟩ = false := hB.frozen _
   have ha := B32.and_15 y
   have hl : (y &&& 15#32).toNat < 16 := by rw [BitVec.toNat_and]; exact Nat.lt_succ_of_le Nat.and_le_right
   have hW := Zlu y
   generalize (y &&& 15#32).toNat = i at *
   have hc1 : wr.cell? ⟨g, 1 + i, none⟩ = some (.int .u32 ((Crc.steps 4 (BitVec.ofNat 32 i)).toNat : Int)) := by rw [hB.cell]; exact Zhb _ _ hl
   have HB := Lib.hid hB
   have HK := Lib.hid hK
   clear hB hK hy
   go_wp2
   go_region
   go_wp2
   go_roundw
   case rel =>
    refine ⟨k + 1, by omega, by go_num, ?_, (HK.out.put (by rfl) _ _).drew⟩
    rw [show 4 * (k + 1) = 4 * k + 4 from by omega, hS.out]
    exact (HB.out.put 0 (Zgx (Crc.steps 4 y))).drew
   case measure => simp [intOf]; omega
  ·go_wp2
   have : k = 2 := by omega
   subst this
   go_end0
   exact ⟨rfl, hB, hK⟩
end Go.Proofs.YtiienjjhlibopaaGreatDoor
namespace Go.Proofs.YtiienjjhlibopaaGreatDoor
open Go.RowKit
set_option maxRecDepth 100000
theorem Rep.rows_len {F : Nat -> Prop} {w : World} {rs : List (List UInt8)} {A : Option Addr} {n c : Nat} (h : Rep F w (ZiE rs) (.slice A n c)) : rs.length = n := by simpa using h.form.1
theorem Rep.rows_at {F : Nat -> Prop} {w : World} {rs : List (List UInt8)} {A : Option Addr} {n c : Nat} (h : Rep F w (ZiE rs) (.slice A n c)) {k : Nat} (hk : k < n) :
 ∃ ad A' c', A = some ad /\ ∃ hl : k < rs.length, w.cell? (ad.add k) = some (.slice A' rs[k].length c') /\ Rep F w (Zf6 rs[k]) (.slice A' rs[k].length c') := by
 obtain ⟨ad, u, rfl, h1, h2, h3, h4, h5⟩ := h.at_ hk
 have hl : k < rs.length := by simpa using h3
 rw [List.getElem_map] at h5
 obtain ⟨A', n', c', rfl, h6, _⟩ := h5.list
 have : n' = rs[k].length := by simp at h6; exact h6.symm
 subst this
 exact ⟨ad, A', c', rfl, hl, h4, h5⟩
theorem Rep.rows_max {F : Nat -> Prop} {w : World} {rs : List (List UInt8)} {A : Option Addr} {n c : Nat} (h : Rep F w (ZiE rs) (.slice A n c)) : n <= 140737488355328 := h.form.2.2.2.1
theorem Rep.bytes_max {F : Nat -> Prop} {w : World} {l : List UInt8} {A : Option Addr} {n c : Nat} (h : Rep F w (Zf6 l) (.slice A n c)) : n <= 140737488355328 := h.form.2.2.2.1
end Go.Proofs.YtiienjjhlibopaaGreatDoor
namespace Go.Proofs.YtiienjjhlibopaaGreatDoor
open Go.RowKit
set_option maxRecDepth 100000
set_option maxHeartbeats 1000000 in
theorem Zok (F : Nat -> Prop) (rs : List (List UInt8)) (A : Option Addr) (n c : Nat) (s : BitVec 32) (w : World) (hr : Rep F w (ZiE rs) (.slice A n c)) :
 Calls Tryz.prog 206 #[.int .u32 (s.toNat : Int), .slice A n c] w fun e w' => e = .returned (.int .u32 ((Crc.more s rs.flatten).toNat : Int)) /\ Zdt (fun _ => False) w w' := by
 have hm := hr.rows_max
 have HR := Lib.hid (Rep.bound _ hr)
 clear hr
 have hno := Lib.hid (B32.not_ s)
 go_enter Tryz.func206, Tryz.ntmps206
 go_wp2_with fail
 rw [hno.out]
 refine (ZmQ (~~~ s) w).mono ?_
 rintro e w1 ⟨g, rfl, hg, hB, hK⟩
 have HB1 := Lib.hid hB
 have HK1 := Lib.hid hK
 have HG := Lib.hid hg
 clear hg hB hK
 go_wp2_with fail
 go_loopw [7, 9, 15, 19, 20, 21, 22, 23, 24, 25, 26, 27, 28] (fun _ _ i _ _ _ _ _ _ _ _ _ _ wr => ∃ k : Nat, k <= n /\ i = .int .i64 k /\ Blk wr g 380 (Za6 (Crc.feeds (~~~ s) (rs.take k).flatten) 16) /\ Zdt (fun _ => False) w wr) (fun _ _ i _ _ _ _ _ _ _ _ _ _ _ => n - (intOf i).toNat)
 case atStart => exact ⟨0, by omega, rfl, HB1.out, HK1.out⟩
 case round =>
  obtain ⟨k, hk, rfl, hB, hK⟩ := hrel
  have HB := Lib.hid hB
  have HK := Lib.hid hK
  by_cases hlt : k < n
  ·obtain ⟨ad, A', c', rfl, hlr, hc1, hRk⟩ := (HR.out.kept hK).rows_at hlt
   have hm2 := hRk.bytes_max
   have HRk := Lib.hid hRk
   clear hB hK hRk
   obtain ⟨wo, rfl⟩ : ∃ wo : World, wo = wr := ⟨_, rfl⟩
   go_wp2_with fail
   go_loopw [9, 21] (fun _ i wr => ∃ j : Nat, j <= rs[k].length /\ i = .int .i64 j /\ Blk wr g 380 (Za6 (Crc.feeds (~~~ s) ((rs.take k).flatten ++ rs[k].take j)) 16) /\ Zdt (fun _ => False) w wr /\ Zdt (fun b => b = g) wo wr) (fun _ i _ => rs[k].length - (intOf i).toNat)
   case atStart => exact ⟨0, by omega, rfl, by simpa using HB.out, HK.out, Zdt.refl _ _⟩
   case round =>
    obtain ⟨j, hj, rfl, hBj, hKj, hKo⟩ := hrel
    have HBj := Lib.hid hBj
    have HKj := Lib.hid hKj
    have HKo := Lib.hid hKo
    by_cases hlj : j < rs[k].length
    ·obtain ⟨ad', rfl, _, _, hlb, hc2⟩ := (HRk.out.keeps hKo (fun b hb _ hbg => by have := HG.out; omega)).bytes_at hlj
     clear hBj hKj hKo
     go_wp2_with fail
     refine (ZmR g _ (rs[k][j]) _ HBj.out).mono ?_
     rintro e w3 ⟨rfl, hB3, hK3⟩
     have HB3 := Lib.hid hB3
     have HK3 := Lib.hid hK3
     clear hB3 hK3
     go_wp2
     go_roundw
     case rel =>
      refine ⟨j + 1, by omega, by go_num, ?_, HKj.out.andThen HK3.out (fun b hb hbg => ?_), HKo.out.trans HK3.out⟩
      ·rw [Zfg _ j hlb, <- List.append_assoc, Crc.feeds_snoc]; exact HB3.out
      ·have := HG.out; omega
     case measure => simp [intOf]; omega
    ·have : j = rs[k].length := by omega
     subst this
     clear hlj hBj hKj hKo
     go_wp2
     go_roundw
     case rel =>
      refine ⟨k + 1, by omega, by go_num, ?_, HKj.out⟩
      have := HBj.out
      rw [List.take_length] at this
      rw [Zfg rs k hlr, List.flatten_append, List.flatten_singleton]
      exact this
     case measure => simp [intOf]; omega
  ·have : k = n := by omega
   subst this
   clear hlt hK
   have hrl := HR.out.rows_len
   rw [List.take_of_length_le (by omega)] at hB
   have hc0 : wr.cell? ⟨g, 0, none⟩ = some (.int .u32 ((Crc.feeds (~~~ s) rs.flatten).toNat : Int)) := by rw [hB.cell]; rfl
   have hno2 := B32.not_ (Crc.feeds (~~~ s) rs.flatten)
   clear hB hrl
   go_wp2
   go_ret
   exact ⟨Zpn (by simp [Crc.more]), HK.out⟩
set_option maxHeartbeats 400000 in
theorem Zp4 (F : Nat -> Prop) (rs : List (List UInt8)) (A : Option Addr) (n c : Nat) (w : World) (hr : Rep F w (ZiE rs) (.slice A n c)) :
 Calls Tryz.prog 163 #[.slice A n c] w fun e w' => e = .returned (.int .u32 ((Crc.more 0#32 rs.flatten).toNat : Int)) /\ Zdt (fun _ => False) w w' := by
 go_enter Tryz.func163, Tryz.ntmps163
 go_wp2_with fail
 refine (Zok F rs A n c 0#32 w hr).mono ?_
 rintro e w1 ⟨rfl, hK⟩
 have HK := Lib.hid hK
 clear hK hr
 go_wp2
 go_ret
 exact ⟨rfl, HK.out⟩
end Go.Proofs.YtiienjjhlibopaaGreatDoor
namespace Go.Proofs.YtiienjjhlibopaaGreatDoor
open Go.RowKit
set_option maxRecDepth 100000
set_option linter.unusedVariables false
set_option linter.unusedSimpArgs false
section
variable {σ : St} {K : AV -> St -> Prop}
theorem Zol {n : Nat} (h : n < 4294967296) : IntKind.u32.wrap (n : Int) = (n : Int) := by simp [IntKind.wrap, IntKind.bits, IntKind.signed]; omega
structure OB (σ0 σ : St) (a : AV) (d : List UInt8) : Prop where
 hd : Hd σ 5 1 a d.length (bys d)
 ext : Ext σ0 σ
 nw : ∀ c, hbk a = some c -> Za9 σ0 c
theorem OB.on {σ0 σ τ : St} {a : AV} {d : List UInt8} (h : OB σ0 σ a d) (k : Ext σ τ) : OB σ0 τ a d := ⟨h.hd.ext k, h.ext.trans k, h.nw⟩
theorem OB.from {σ0 σ1 σ : St} {a : AV} {d : List UInt8} (h : OB σ1 σ a d) (k : Ext σ0 σ1) : OB σ0 σ a d := ⟨h.hd, k.trans h.ext, fun c hc => Za9.of (h.nw c hc) k⟩
theorem ZrA (σ : St) : OB σ σ (.lst none 0 0 []) [] := ⟨⟨rfl, fun a h => (by cases h), .inl ⟨.inl rfl, rfl⟩⟩, .refl _, fun c h => by cases h⟩
theorem OB.told {σ0 σ : St} {a : AV} {d : List UInt8} (h : OB σ0 σ a d) (hl : d.length <= 140737488355328) : ∃ G v, Zc0 G σ a v /\ TB v d /\ Ext σ0 (Zdq G σ) := by
 obtain ⟨G, A, c, q1, q2, q3⟩ := ZmM h.hd h.ext h.nw hl
 exact ⟨G, _, q1, .of q2, q3⟩
theorem Zp5 {σ : St} {K : AV -> St -> Prop} {f : FuncId} {args : List AV} {d : List UInt8} (hl : d.length <= 140737488355328) (h : Zan Tryz.prog f args σ fun a τ => OB σ τ a d) (hK : ∀ a τ, TB a d -> Ext σ τ -> K a τ) : Zan Tryz.prog f args σ K :=
 Zan.tell (h.mono fun a τ q => by
  obtain ⟨G, v, q1, q2, q3⟩ := q.told hl
  exact ⟨G, v, q1, hK _ _ q2 q3⟩)
theorem Ze8 {P : Program} {ops : Array Oper} {env : Env} {σ0 σ : St} {K : Env -> St -> Prop} {dd : Option Nat} {ty t : TypeId} {pos : String} {af : Array Edge} {x y : Operand} {a v : AV} {d d2 : List UInt8} {z : Value} (h : OB σ0 σ a d) (hs2 : Src σ 1 v d2.length (bys d2)) (hl : d.length + d2.length <= 100000000) (hx : ev env x = a) (hy : ev env y = v) (ht : ZaW P t = some 5) (hs : ZaU P 5 = some 1) (hz : Zba P 5 = some z) (hby : Zdv P 5 = some 1) (hzs : z.cells.size = 1)
 (hk : ∀ a2 τ, OB σ0 τ a2 (d ++ d2) -> But (fun c => hbk a = some c) σ τ -> K (env.put dd a2) τ) : aOp P ops ⟨dd, .call ⟨.builtin .append, #[x, y], #[t, t]⟩, ty, pos, af, none⟩ env σ K := by
 refine ZaZ (m := d2.length) (news := bys d2) hx hy ht hs hz hby hzs (by omega) h.hd hs2 (by unfold maxLen; omega) (by omega) fun a2 τ g1 hB hn => hk a2 τ ⟨?_, But.ext h.ext (fun c hc => (h.nw c hc).1) hB, fun c hc => (hn c hc).elim (h.nw c) fun q => Za9.of q h.ext⟩ hB
 rw [<- ZcF, <- List.length_append] at g1
 exact g1
theorem Zjd {σ : St} : ∀ {ps : List (List UInt8)} {cells : List AV}, cells.length = ps.length -> (∀ i (h : i < ps.length), ∃ u, cells[i]? = some u /\ Za5 σ u ps[i] /\ ps[i].length <= 140737488355328) -> ∃ m, ZcS (fun b => ∃ e cs, σ.blk b = some (.own e cs) /\ σ.used b) σ cells m /\ SVs CT 0 ZdO (ps.map fun p => XV.sl 1 p none) m
 | [], [], _, _ => ⟨[], trivial, .none⟩
 | p :: ps, u :: cells, hl, h => by
  obtain ⟨m, h1, h2⟩ := Zjd (ps := ps) (cells := cells) (by simpa using hl) fun i hi => h (i + 1) (by simpa using hi)
  obtain ⟨v, hv, hb, hsm⟩ := h 0 (by simp)
  cases hv
  rcases hb with hb | hb
  ·obtain ⟨A, c, l1, l2, l3, l4⟩ := hb.lends (G := fun b => ∃ e cs, σ.blk b = some (.own e cs) /\ σ.used b) (fun b hq => by
    obtain ⟨all, q⟩ := hb.blk hq
    exact ⟨_, _, q, hb.used hq⟩) (ZcS.refl _)
   exact ⟨.lst A p.length c (bys p) :: m, ⟨l1, h1⟩, .cons (Zmx ⟨l2, l3, hsm, l4⟩) h2⟩
  ·exact ⟨u :: m, ⟨.refl _, h1⟩, .cons hb h2⟩
theorem Zom {rs : List (List UInt8)} {vs : List AV} (hs : SVs CT 0 ZdO [.sl 3 rs none] vs) (hK : ∀ τ, Ext σ τ -> K (.raw (.int .u32 ((Crc.more 0#32 rs.flatten).toNat : Int))) τ) : Zan Tryz.prog 163 vs σ K := by
 refine Zmd (Tr.sum (C := CT) (Eb := 1) (tb := fun x => x) (fun x => rfl) (Er := 3) (tr := fun x => x) (fun x => rfl) (k := .u32) (g := ((Crc.more 0#32 rs.flatten).toNat : Int)) (by kernel_rfl) fun A n c w hR => ?_) hs (fun N ρ a h => Zeh.1 h) K hK
 replace hR := (congrArg (fun l => Rep (fun _ => True) w (ZiE l) (.slice A n c)) (ZpS (α := UInt8) rs)).mp hR
 exact Zp4 _ rs A n c w hR
theorem Zpe {ps : List (List UInt8)} {a : AV} {cells : List AV} (ha : (∃ A c, a = .lst A ps.length c cells /\ Lst A ps.length c) \/ Hd σ 23 1 a ps.length cells) (hl : cells.length = ps.length) (hn : ps.length <= 1000) (hc : ∀ i (h : i < ps.length), ∃ u, cells[i]? = some u /\ Za5 σ u ps[i] /\ ps[i].length <= 140737488355328)
 (hK : ∀ τ, Ext σ τ -> K (.raw (.int .u32 ((Crc.more 0#32 ps.flatten).toNat : Int))) τ) : Zan Tryz.prog 163 [a] σ K := by
 obtain ⟨m, h1, h2⟩ := Zjd hl hc
 have h3 : ∃ A c, Zc0 (fun b => ∃ e cs, σ.blk b = some (.own e cs) /\ σ.used b) σ a (.lst A ps.length c m) /\ Lst A ps.length c := by
  rcases ha with ⟨A, c, rfl, h⟩ | h
  ·exact ⟨A, c, Zma h1, h⟩
  ·obtain ⟨A, c, l1, l2, l3, l4⟩ := h.lends (G := fun b => ∃ e cs, σ.blk b = some (.own e cs) /\ σ.used b) (fun b hq => by
    obtain ⟨all, q⟩ := h.blk hq
    exact ⟨_, _, q, h.used hq⟩) h1
   exact ⟨A, c, l1, l2, l3, by omega, l4⟩
 obtain ⟨A, c, h4, h5⟩ := h3
 refine Zmb (G := fun b => ∃ e cs, σ.blk b = some (.own e cs) /\ σ.used b) (σ := σ) (args := [a]) (args' := [.lst A ps.length c m]) (rv := .raw (.int .u32 ((Crc.more 0#32 ps.flatten).toNat : Int))) (fun b q => q) ⟨h4, trivial⟩ (Zom (.cons (ZpT h2 h5) .none) fun τ hX => ⟨rfl, hX⟩) (fun w B => Zbe _) _ hK
theorem Zon {x : Nat} {v : AV} {d : List UInt8} (hv : TB v d) (hdl : d.length < 4294967296) (hK : ∀ a τ, OB σ τ a (hd ((x : Int), d)) -> K a τ) : Zan Tryz.prog 199 [.agg [vI ((x : Nat) : Int), v]] σ K := by
 refine Zai Zam Tryz.func199 rfl rfl rfl (Nat.le_of_ble_eq_true rfl) ?_
 refine Zbf 0 (v0 := .agg [vI ((x : Nat) : Int), v]) rfl ?_
 intro e he
 refine Zaa (Zac (Zbn (cs := [vI ((x : Nat) : Int), v]) (v := .agg [vI ((x : Nat) : Int), v]) he (by obtain ⟨A, c, rest, rfl, _⟩ := hv <;> rfl) fun b1 υ2 hn3 hu4 hb5 hv6 hX7 => ?_))
 refine Zag ?_
 refine Zaf (kp1 1 fun e he => ?_)
 refine Zbt ?_
 refine ⟨[0, 5, 1, 2, 3, 6, 7, 4, 8, 9, 10], [[], [0], [0, 1], [0, 1, 2], [0, 1, 2, 3], [], [5], [5, 6], [5, 6, 7], [0, 1, 2, 3, 4, 5, 6, 7, 8], [0, 1, 2, 3, 4, 5, 6, 7, 8, 9]], fun _ => True, [6], [4], [8], by kernel_rfl, ?_⟩
 refine Zas ?_
 refine Zae (b := b1) (o := 0) he Zlg rfl ?_
 refine Zaz ?_
 refine Zas ?_
 refine Zae (b := b1) (o := 0) he Zlg rfl ?_
 refine Zaz ?_
 refine Zas ?_
 refine Zah (b := b1) (o := 0 + 1) (r := v) rfl hb5 fa5 Zb6 rfl ?_
 refine Zaz ?_
 refine Zas ?_
 refine ZaP (σ := υ2) rfl hv.ls rfl Zbw ?_
 refine Zaz ?_
 refine Zas ?_
 refine ZbF (k := .i64) (a := ((d.length : Nat) : Int)) (r := ((d.length : Nat) : Int)) fa1 Zha rfl (Zol hdl) ?_
 refine Zaz ?_
 refine Zas ?_
 refine Zah (b := b1) (o := 0 + 0) (r := vI ((x : Nat) : Int)) rfl hb5 fa9 ZbG rfl ?_
 refine Zaz ?_
 refine Zas ?_
 refine ZbF (k := .i64) (a := ((x : Nat) : Int)) (r := ((UInt8.ofNat x).toNat : Int)) fa1 Zfw rfl (Ze6 x) ?_
 refine Zaz ?_
 refine Zas ?_
 refine Zay (vs := [.raw (.int .u32 ((d.length : Nat) : Int))]) (by simp only [List.map_cons, List.map_nil, EV,Nat.reduceEqDiff,↓reduceIte,he];try rfl) ?_
 refine ZkE (n := d.length) (by omega) fun a8 τ9 h10 hX11 h12 => ?_
 refine ⟨fun _ => hX11, ?_⟩
 have h10 : OB _ τ9 a8 (le4 d.length) := ⟨h10, hX11, h12⟩
 have hb5 := hX11.keep _ _ hb5
 have hv6 := hX11.used _ hv6
 refine ZsZ (vs := [.raw (.int .u8 ((UInt8.ofNat x).toNat : Int))]) (cells := [.raw (.int .u8 ((UInt8.ofNat x).toNat : Int))]) (by simp only [HIX]; try rfl) rfl (by simp only [List.map_cons, List.map_nil, EV,Nat.reduceEqDiff,↓reduceIte,he];try rfl) Zbw Zcn ZeO rfl (by omega) rfl fun b13 hu14 hb15 => ?_
 have hX16 := Ext.put (.own 5 [.raw (.int .u8 ((UInt8.ofNat x).toNat : Int))]) hb15
 have ne17 := Zat hb5 hb15
 have hb5 := hX16.keep _ _ hb5
 have hv6 := hX16.used _ hv6
 refine Zas ?_
 refine Ze8 (d2 := [UInt8.ofNat x]) (h10.on hX16) ((ZhI (n := 1) (by omega) (by omega) rfl (ZeE [UInt8.ofNat x])).src (by omega)) (by simp [le4]) rfl rfl Zbw Zcn ZeO ZgQ rfl fun a18 τ19 h20 k21 => ?_
 refine ⟨fun q => (by cases q), ?_⟩
 have h20 := h20.from hX7
 refine Zax ?_
 refine ZbI (kp1 2 ?_)
 clear he e
 intro e he
 refine Zap ?_
 exact ZaD (hK _ _ h20)
theorem Zp6 {x : Nat} {v : AV} {d : List UInt8} (hv : TB v d) (hdl : d.length < 4294967296) (hK : ∀ a τ, TB a (hd ((x : Int), d)) -> Ext σ τ -> K a τ) : Zan Tryz.prog 199 [.agg [vI (x : Int), v]] σ K :=
 Zp5 (by rw [Zg9]; omega) (Zon hv hdl fun a τ h => h) hK
set_option maxHeartbeats 1000000 in
theorem Zoo {x : Nat} {v : AV} {d : List UInt8} {A : Option Addr} {c : Nat} (hx : x <= 255) (hv : TB v d) (hA : A ≠ none) (hd0 : d.length <= 90000000) (hK1 : d.length <= 262144 -> ∀ a τ, OB σ τ a (code ((x : Int), d)) -> K (.tup [a, vI 0]) τ) (hK2 : 262144 < d.length -> ∀ τ, Ext σ τ -> K (.tup [.lst none 0 0 [], vI 3]) τ) : Zan Tryz.prog 156 [.lst A 1 c [vI (x : Int), v]] σ K := by
 refine Zai Zam Tryz.func156 rfl rfl rfl (Nat.le_of_ble_eq_true rfl) ?_
 refine Zbf 0 (v0 := .lst A 1 c [vI (x : Int), v]) rfl ?_
 intro e he
 refine Zaa (Zag ?_)
 refine Zag ?_
 refine Zaf (kp1 0 fun e he => ?_)
 refine Zaa (Zag ?_)
 refine Zaf (kp2 0 4 fun e he => ?_)
 refine Zab (Zaa (Zag ?_))
 refine Zac (Zo6 (n := 1) rfl (AV.val_lst _ _ _ _) rfl ZpB ?_)
 refine Zag ?_
 refine Zaf (kp4 4 8 9 10 fun e he => ?_)
 refine ZaF (Za4 (fun μ env υ => ∃ (i : Nat) (x0 : AV), μ = 1 - i /\ (env 4 = x0 /\ env 8 = .lst A 1 c [vI (x : Int), v] /\ env 9 = vI 1 /\ env 10 = vI ((i : Nat) : Int)) /\ i <= 1 /\ OB σ υ x0 (if i = 0 then [] else code ((x : Int), d)) /\ (i ≠ 0 -> d.length <= 262144)) ⟨_, 0, _, rfl, ⟨by simp only [EV,Nat.reduceEqDiff,↓reduceIte,he];try rfl, by simp only [EV,Nat.reduceEqDiff,↓reduceIte,he];try rfl, by simp only [EV,Nat.reduceEqDiff,↓reduceIte,he];try rfl, by simp only [EV,Nat.reduceEqDiff,↓reduceIte,he];try rfl⟩, Nat.zero_le _, ZrA σ, fun q => absurd rfl q⟩ ?_)
 clear he e
 rintro _ e υ ⟨i, x0, rfl, he, p1, p2, p4⟩
 refine Zaa (Zcf i 1 ?_)
 refine Zaf (kp5 4 8 9 10 11 ?_)
 clear he e
 intro e he
 refine ZaC (t := decide (i < 1)) he.2.2.2.2 (fun ht11 => ?_) (fun ht11 => ?_)
 ·have ht11 := of_decide_eq_true ht11
  obtain rfl : i = 0 := by omega
  have p2 : OB σ υ x0 [] := p2
  refine ZaL (ZaF (Zaa (Zac (Zfm (k := .i64) (j := 0) he.2.1 he.2.2.2.1 ZpB Ze2 (by omega) (fun q => absurd q hA) rfl fun ad22 => ?_))))
  refine Zac (Zki (r := .agg [vI (x : Int), v]) rfl fa3 Ze2 rfl ?_)
  refine Zac (ZaH ZiC rfl fun b23 υ24 hn25 hu26 hb27 hv28 hX29 => ?_)
  refine Zac (ZaB (b := b23) (o := 0) (u := .agg [vI ((x : Nat) : Int), v]) rfl rfl hb27 Ze2 (by obtain ⟨A, c, rest, rfl, _⟩ := hv <;> rfl) rfl fun υ30 hb27 k31 => ?_)
  refine Zaf (kp5 4 6 8 9 10 fun e he => ?_)
  refine ZaF (Zaa (Zac (Zae (b := b23) (o := 0) he.2.1 Zlg rfl ?_)))
  refine Zac (Zah (b := b23) (o := 0 + 0) (r := vI ((x : Nat) : Int)) rfl hb27 fa9 ZbG rfl ?_)
  refine Zcf x 0 ?_
  rw [decide_eq_false (by omega : ¬ (x < 0))]
  refine Zag ?_
  refine Zau ?_
  refine Zae (b := b23) (o := 0) he.2.1 Zlg rfl ?_
  refine Zau ?_
  refine Zah (b := b23) (o := 0 + 0) (r := vI ((x : Nat) : Int)) rfl hb27 fa9 ZbG rfl ?_
  refine Zau ?_
  refine Zb3 (k := .i64) (a := ((x : Nat) : Int)) (b := 255) rfl rfl ?_
  rw [decide_eq_false (by omega : ¬ ((255 : Int) < ((x : Nat) : Int)))]
  refine Zac (Zak (v := vT false) rfl rfl ?_)
  refine Zag ?_
  refine Zaf (kp6 4 6 8 9 10 14 fun e he => ?_)
  refine ZaQ (t := false) he.2.2.2.2.2 (fun ht => by cases ht) (fun ht => ?_)
  refine Zaa (Zac (Zae (b := b23) (o := 0) he.2.1 Zlg rfl ?_))
  refine Zac (Zah (b := b23) (o := 0 + 1) (r := v) rfl hb27 fa5 Zb6 rfl ?_)
  refine Zac (ZaP (σ := υ30) rfl hv.ls rfl Zbw ?_)
  refine Zac (Zb3 (k := .i64) (a := ((d.length : Nat) : Int)) (b := 262144) rfl rfl ?_)
  refine Zag ?_
  refine Zaf (kp6 4 6 8 9 10 23 fun e he => ?_)
  refine ZaQ (t := decide ((262144 : Int) < ((d.length : Nat) : Int))) he.2.2.2.2.2 (fun ht23 => ?_) (fun ht23 => ?_)
  ·have ht23 := of_decide_eq_true ht23
   refine Zaa (Zag ?_)
   refine Zag ?_
   refine Zaf (kp2 2 3 fun e he => ?_)
   refine Zap ?_
   show ∃ r, ZaM _ _ _ _ r /\ _
   exact ⟨_, Zbd rfl (ZaO he.1) (ZaO he.2), hK2 (by omega) _ (p2.ext.trans (But.ext hX29 (fun g hg => by rw [hg]; exact hn25) k31))⟩
  have ht23 := of_decide_eq_false ht23
  refine Zbm ?_
  show ZaA _ _ _ _ _ _
  refine Zaa (Zac (Zah (b := b23) (o := 0) (r := .agg [vI ((x : Nat) : Int), v]) he.2.1 hb27 fa3 Ze2 rfl ?_))
  refine Zao [.agg [vI ((x : Nat) : Int), v]] ?_
  refine Zp6 (x := x) hv (by omega) fun a32 τ33 h34 hX35 => ?_
  have hb27 := hX35.keep _ _ hb27
  refine Zag ?_
  refine Zaf (kp6 4 6 7 8 9 10 fun e he => ?_)
  refine Zda ?_
  refine ⟨[0, 1, 2, 3, 8, 4, 9, 5, 6, 7, 10, 11, 12], [[], [], [], [], [3], [2, 3, 4], [2, 3, 4, 5], [2, 3, 4, 5, 6], [], [8], [0, 1, 2, 3, 4, 5, 6, 7, 8, 9], [0, 1, 2, 3, 4, 5, 6, 7, 8, 9, 10], [0, 1, 2, 3, 4, 5, 6, 7, 8, 9, 10, 11]], fun _ => True, [9], [6, 7], [], by kernel_rfl, ?_⟩
  refine Zax ?_
  refine Zax ?_
  refine Zax ?_
  refine Zas ?_
  refine Zae (b := b23) (o := 0) he.2.1 Zlg rfl ?_
  refine Zaz ?_
  refine Zas ?_
  refine Zae (b := b23) (o := 0) he.2.1 Zlg rfl ?_
  refine Zaz ?_
  refine Zas ?_
  refine Zah (b := b23) (o := 0 + 1) (r := v) rfl hb27 fa5 Zb6 rfl ?_
  refine Zaz ?_
  refine Zas ?_
  refine Zah (b := b23) (o := 0 + 1) (r := v) rfl hb27 fa5 Zb6 rfl ?_
  refine Zaz ?_
  refine Zas ?_
  refine ZaN (vs := [a32, v]) (cells := [a32, v]) (by simp only [List.map_cons, List.map_nil, EV,Nat.reduceEqDiff,↓reduceIte,he];try rfl) Zl1 Zb6 Zrb rfl (by decide) (by obtain ⟨A, c, rest, rfl, _⟩ := h34 <;> obtain ⟨A, c, rest, rfl, _⟩ := hv <;> rfl) fun b36 hu37 hb38 => ?_
  have hX39 := Ext.put (.tail 23 (2 * 1) (2 * 1)) hb38
  refine ⟨fun _ => hX39, ?_⟩
  refine Zas ?_
  refine Zay (vs := [.lst (some ⟨b36, 0, none⟩) 2 2 [a32, v]]) (by simp only [List.map_cons, List.map_nil, EV,Nat.reduceEqDiff,↓reduceIte,he];try rfl) ?_
  refine Zpe (ps := [hd ((x : Int), d), d]) (.inl ⟨_, _, rfl, ZpU b36 (by simp)⟩) rfl (by simp) (fun i h => match i, h with | 0, _ => ⟨_, rfl, h34.at_, by show (hd ((x : Int), d)).length <= _; rw [Zg9]; omega⟩ | 1, _ => ⟨_, rfl, hv.at_, by show d.length <= _; omega⟩ | n + 2, h => absurd h (by simp)) fun τ41 hX42 => ?_
  refine ⟨fun _ => hX42, ?_⟩
  refine Zas ?_
  refine Zay (vs := [.raw (.int .u32 ((Crc.more 0#32 ([hd ((x : Int), d), d] : List (List UInt8)).flatten).toNat : Int))]) (by simp only [List.map_cons, List.map_nil, EV,Nat.reduceEqDiff,↓reduceIte,he];try rfl) ?_
  refine ZmN (n := (Crc.more 0#32 ([hd ((x : Int), d), d] : List (List UInt8)).flatten).toNat) (BitVec.isLt _) fun a43 τ44 h45 hX46 => ?_
  refine ⟨fun _ => hX46, ?_⟩
  refine Zas ?_
  refine ZaN (vs := [x0, a32, a43, v]) (cells := [x0, a32, a43, v]) (by simp only [List.map_cons, List.map_nil, EV,Nat.reduceEqDiff,↓reduceIte,he];try rfl) Zl1 Zb6 Zrb rfl (by decide) (by rcases p2.hd.2.2 with ⟨rfl | ⟨_, rfl⟩, _⟩ | ⟨_, _, _, _, rfl, _⟩ <;> obtain ⟨A, c, rest, rfl, _⟩ := h34 <;> obtain ⟨A, c, rest, rfl, _⟩ := h45 <;> obtain ⟨A, c, rest, rfl, _⟩ := hv <;> rfl) fun b47 hu48 hb49 => ?_
  have hX50 := Ext.put (.tail 23 (4 * 1) (4 * 1)) hb49
  refine ⟨fun _ => hX50, ?_⟩
  refine Zas ?_
  refine Zay (vs := [.lst (some ⟨b47, 0, none⟩) 4 4 [x0, a32, a43, v]]) (by simp only [List.map_cons, List.map_nil, EV,Nat.reduceEqDiff,↓reduceIte,he];try rfl) ?_
  refine Zja (ps := [[], hd ((x : Int), d), le4 (Crc.more 0#32 ([hd ((x : Int), d), d] : List (List UInt8)).flatten).toNat, d]) ⟨[x0, a32, a43, v], Zet rfl (fun a ha => by simp only [List.mem_cons, List.not_mem_nil, or_false] at ha; rcases ha with rfl | rfl | rfl | rfl; exact p2.hd.oneV.1; exact h34.one.1; exact h45.one.1; exact hv.one.1) (fun q => by cases q), (fun i h => match i, h with | 0, _ => ⟨_, rfl, .inl (p2.on ((((((But.ext hX29 (fun g hg => by rw [hg]; exact hn25) k31).trans hX35).trans hX39).trans hX42).trans hX46).trans hX50)).hd⟩ | 1, _ => ⟨_, rfl, h34.at_⟩ | 2, _ => ⟨_, rfl, h45.at_⟩ | 3, _ => ⟨_, rfl, hv.at_⟩ | n + 4, h => absurd h (by simp))⟩ (by simp) (by simp [Zg9, Zlq]; omega) _ fun a52 τ53 h54 hX55 hn56 => ?_
  refine ⟨fun q => (by cases q), ?_⟩
  have e1 : ([[], hd ((x : Int), d), le4 (Crc.more 0#32 ([hd ((x : Int), d), d] : List (List UInt8)).flatten).toNat, d] : List (List UInt8)).flatten = code ((x : Int), d) := by simp [code, Zoj]
  rw [e1] at h54
  have hob : OB σ τ53 a52 (code ((x : Int), d)) := ⟨h54, p2.ext.trans (((((((But.ext hX29 (fun g hg => by rw [hg]; exact hn25) k31).trans hX35).trans hX39).trans hX42).trans hX46).trans hX50).trans hX55), fun c hc => Za9.of (hn56 c hc) (p2.ext.trans ((((((But.ext hX29 (fun g hg => by rw [hg]; exact hn25) k31).trans hX35).trans hX39).trans hX42).trans hX46).trans hX50))⟩
  refine Zax ?_
  refine ZbI ?_
  show ZaA _ _ _ _ _ _
  refine kp4 4 8 9 10 ?_
  clear he e
  intro e he
  refine Zad (Zby 0 1 ?_)
  refine Zag ?_
  refine Zaf ?_
  show ∃ n', n' < _ /\ _
  refine ⟨_, (by omega : _ < _), 0 + 1, a52, rfl, ⟨by simp only [EV,Nat.reduceEqDiff,↓reduceIte,he];try rfl, by simp only [EV,Nat.reduceEqDiff,↓reduceIte,he];try rfl, by simp only [EV,Nat.reduceEqDiff,↓reduceIte,he];try rfl, by simp only [EV,Nat.reduceEqDiff,↓reduceIte,he];try rfl⟩, Nat.le_refl _, hob, fun _ => by omega⟩
 have ht11 := of_decide_eq_false ht11
 obtain rfl : i = 1 := by omega
 have p2 : OB σ υ x0 (code ((x : Int), d)) := p2
 refine Zbu ?_
 show ZaA _ _ _ _ _ _
 refine Zaa (Zag ?_)
 refine Zag ?_
 refine Zag ?_
 refine Zaf (kp2 2 3 fun e he => ?_)
 refine Zap ?_
 show ∃ r, ZaM _ _ _ _ r /\ _
 exact ⟨_, Zbd rfl (ZaO he.1) (ZaO he.2), hK1 (p4 (by omega)) _ _ p2⟩
theorem Zp7 {x : Nat} {v : AV} {d : List UInt8} {A : Option Addr} {c : Nat} (hx : x <= 255) (hv : TB v d) (hA : A ≠ none) (hd0 : d.length <= 90000000) (hK1 : d.length <= 262144 -> ∀ a τ, TB a (code ((x : Int), d)) -> Ext σ τ -> K (.tup [a, vI 0]) τ) (hK2 : 262144 < d.length -> ∀ τ, Ext σ τ -> K (.tup [.lst none 0 0 [], vI 3]) τ) : Zan Tryz.prog 156 [.lst A 1 c [vI (x : Int), v]] σ K := by
 refine Zan.tell (Zoo hx hv hA hd0 (fun h a τ q => ?_) fun h τ q => ?_)
 ·obtain ⟨G, u, q1, q2, q3⟩ := q.told (by rw [Zdj]; show 9 + d.length <= _; omega)
  exact ⟨G, .tup [u, vI 0], Zc0.tup ⟨q1, .refl _, trivial⟩, hK1 h _ _ q2 q3⟩
 ·exact ⟨fun _ => False, _, .refl _, hK2 h _ (ZcN q fun c h => h.elim)⟩
end
end Go.Proofs.YtiienjjhlibopaaGreatDoor
