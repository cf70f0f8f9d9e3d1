/- Lists of bytes and texts, by hand: alike, cloned, one behind the other; names that are right; a number picked. -/
import Derived.Test.YteempnebenjkmaaGreatDoorMe
import Derived.Test.YteempnebenjkmaaGreatDoorSl
import Derived.Test.YteempnebenjkmaaGreatDoorTb
import Derived.Test.YteempnebenjkmaaGreatDoorMm
namespace Go.Proofs.YteempnebenjkmaaGreatDoor
open Go.RowKit
set_option maxRecDepth 100000
set_option linter.unusedVariables false
set_option linter.unusedSimpArgs false
theorem ZBA (d : List UInt8) : d.flatMap (CT.enc 1) = d.map fun b => XV.int .u8 (b.toNat : Int) := by
 induction d with
 | nil => rfl
 | cons x d ih => rw [List.flatMap_cons, ih]; rfl
theorem Zr7 {N : Nat} {ρ : Nat -> AV} (d : List UInt8) : SVs CT N ρ (d.flatMap (CT.enc 1)) (bys d) := by
 rw [ZBA]
 exact ZuD d
theorem Zpx {N : Nat} {ρ : Nat -> AV} : ∀ {d : List UInt8} {cs : List AV}, SVs CT N ρ (d.flatMap (CT.enc 1)) cs -> cs = bys d
 | [], cs, h => ZbA.1 h
 | b :: d, cs, h => by
  rw [List.flatMap_cons] at h
  obtain ⟨a, as_, rfl, h1, h2⟩ := SVs.to (v := XV.int .u8 (b.toNat : Int)) h
  rw [Zpx h2, Zaw.1 h1]
  rfl
theorem Zcc {N : Nat} {ρ : Nat -> AV} {d : List UInt8} {a : AV} (h : SV CT N ρ (.sl 1 d none) a) : ∃ A c rest, a = .lst A d.length c (bys d ++ rest) /\ Lst A d.length c := by
 obtain ⟨A, c, cs, rest, rfl, l1, l2, l3, l4, l5⟩ := Zb8.1 h
 rw [Zpx l5]
 exact ⟨A, c, rest, rfl, l1, l2, l3, l4⟩
theorem Zk1 {N : Nat} {ρ : Nat -> AV} {d : List UInt8} {A : Option Addr} {c : Nat} {rest : List AV} (h : Lst A d.length c) : SV CT N ρ (.sl 1 d none) (.lst A d.length c (bys d ++ rest)) :=
 Zb8.2 ⟨A, c, bys d, rest, rfl, h.le, h.most, h.small, h.none, Zr7 d⟩
theorem Zxn (ps : List (List UInt8)) : ps.flatMap (CT.enc 3) = ps.map fun p => XV.sl 1 p none := by
 induction ps with
 | nil => rfl
 | cons x d ih => rw [List.flatMap_cons, ih]; rfl
theorem Zzx {ps : List (List UInt8)} {A : Option Addr} {c : Nat} {as_ : List AV} (hs : SVs CT 0 ZaV (ps.map fun p => XV.sl 1 p none) as_) (hA : Lst A ps.length c) : SV CT 0 ZaV (.sl 3 ps none) (.lst A ps.length c as_) :=
 Zb8.2 ⟨A, c, as_, [], by rw [List.append_nil], hA.le, hA.most, hA.small, hA.none, by rw [Zxn]; exact hs⟩
theorem ZlV {N : Nat} {ρ : Nat -> AV} {d : List UInt8} {A : Option Addr} {c : Nat} (h : Lst A d.length c) : SV CT N ρ (.sl 1 d none) (.lst A d.length c (bys d)) := by
 rw [<- List.append_nil (bys d)]
 exact Zk1 h
theorem Zvh (b : Nat) {n : Nat} (h : n <= 1000) : Lst (some ⟨b, 0, none⟩) n n := ⟨Nat.le_refl _, by unfold maxLen; omega, by omega, fun q => by cases q⟩
def Zft (σ : St) (v : AV) (d : List UInt8) : Prop := Hd σ 5 1 v d.length (bys d) \/ SV CT 0 ZaV (.sl 1 d none) v
theorem Zxo (d : List UInt8) : ∀ a ∈ bys d, a.one = true := fun a ha => by
 obtain ⟨u, _, rfl⟩ := List.mem_map.1 ha
 rfl
theorem Zft.ls {σ : St} {v : AV} {d : List UInt8} (h : Zft σ v d) : Ls σ 5 v d.length (bys d) := by
 rcases h with h | h
 ·exact .of h
 ·obtain ⟨A, c, rest, rfl, hL⟩ := Zcc h
  exact ⟨ZnY d, Zxo d, .inl ⟨A, c, rest, rfl, fun q => (hL.none q).1⟩⟩
theorem Zft.but {U : Nat -> Prop} {σ τ : St} {v : AV} {d : List UInt8} (h : Zft σ v d) (k : But U σ τ) (hU : ∀ c, hbk v = some c -> ¬ U c) : Zft τ v d := h.imp (fun q => q.but k hU) id
theorem Zft.ext {σ τ : St} {v : AV} {d : List UInt8} (h : Zft σ v d) (k : Ext σ τ) : Zft τ v d := h.imp (fun q => q.ext k) id
def Zpy (σ : St) (v : AV) (ps : List (List UInt8)) : Prop := ∃ cells, Ls σ 22 v ps.length cells /\ ∀ i (h : i < ps.length), ∃ u, cells[i]? = some u /\ Zft σ u ps[i]
theorem Zpy.but {U : Nat -> Prop} {σ τ : St} {v : AV} {ps : List (List UInt8)} (h : Zpy σ v ps) (k : But U σ τ) (hU : ∀ c, U c -> ¬ σ.used c) : Zpy τ v ps := by
 obtain ⟨cells, h1, h2⟩ := h
 refine ⟨cells, ⟨h1.1, h1.2.1, h1.2.2.imp id fun q => q.but k fun c hc hu => hU c hu (q.used hc)⟩, fun i hi => ?_⟩
 obtain ⟨u, q1, q2⟩ := h2 i hi
 exact ⟨u, q1, q2.imp (fun q => q.but k fun c hc hu => hU c hu (q.used hc)) id⟩
theorem Zpy.ext {σ τ : St} {v : AV} {ps : List (List UInt8)} (h : Zpy σ v ps) (k : Ext σ τ) : Zpy τ v ps := h.but (U := fun _ => False) k.but fun _ q => q.elim
theorem Znj {N : Nat} {ρ : Nat -> AV} : ∀ {l : List (List UInt8)} {cs : List AV}, SVs CT N ρ (l.flatMap (CT.enc 3)) cs -> cs.length = l.length /\ ∀ i (h : i < l.length), ∃ v, cs[i]? = some v /\ SV CT N ρ (.sl 1 l[i] none) v
 | [], cs, h => by
  rw [ZbA.1 h]
  exact ⟨rfl, fun i h => absurd h (Nat.not_lt_zero i)⟩
 | f :: l, cs, hs => by
  rw [List.flatMap_cons] at hs
  have hs : SVs CT N ρ (XV.sl 1 f none :: l.flatMap (CT.enc 3)) cs := hs
  obtain ⟨a0, as_, rfl, h0, h1⟩ := hs.to
  obtain ⟨q1, q2⟩ := Znj h1
  refine ⟨by simp [q1], fun i hi => ?_⟩
  cases i with
  | zero => exact ⟨a0, rfl, h0⟩
  | succ i =>
   obtain ⟨v, r1, r2⟩ := q2 i (by simpa using hi)
   exact ⟨v, r1, r2⟩
theorem rows_at {σ : St} {ps : List (List UInt8)} {a : AV} (ha : SV CT 0 ZaV (.sl 3 ps none) a) : Zpy σ a ps := by
 obtain ⟨A, c, cs, rest, rfl, l1, l2, l3, l4, l5⟩ := Zb8.1 ha
 obtain ⟨q1, q2⟩ := Znj l5
 refine ⟨cs, ⟨q1, fun a ha => ?_, .inl ⟨A, c, rest, rfl, fun q => (l4 q).1⟩⟩, fun i hi => ?_⟩
 ·obtain ⟨i, hi, rfl⟩ := List.getElem_of_mem ha
  obtain ⟨v, r1, r2⟩ := q2 i (by omega)
  rw [List.getElem?_eq_getElem hi] at r1
  injection r1 with r1
  rw [r1]
  obtain ⟨A', c', rest', rfl, _⟩ := Zcc r2
  rfl
 ·obtain ⟨v, r1, r2⟩ := q2 i hi
  exact ⟨v, r1, .inr r2⟩
section
variable {σ : St} {K : AV -> St -> Prop}
theorem Zyz : Zb5 Tryz.prog 5 = some 1 := by kernel_rfl
theorem Zvi {P : Program} {ops : Array Oper} {env : Env} {σ : St} {K : Env -> St -> Prop} {d : Option Nat} {ty ty' t e : TypeId} {pos : String} {af : Array Edge} {x y : Operand} {A : Option Addr} {n c : Nat} {v : AV} (ht : Zar P t = some e) (hx : ev env x = v) (hv : v.val = .slice A n c) (hy : ev env y = .lst none 0 0 []) (h : K (env.put d (.raw (.bool A.isNone))) σ) : aOp P ops ⟨d, .binOp .eql t x y ty', ty, pos, af, none⟩ env σ K :=
 Zf9 hx hy (fun w _ _ => by rw [hv]; simp [eqGuard_at_slice, binOp, run_equal_slice_nil w t e A n c (Za0 ht)]) h
theorem Zxp {d : List UInt8} {v : AV} (hv : Zft σ v d) (hl : d.length <= 1000000000) (K : AV -> St -> Prop) (hK : ∀ a τ, Hd τ 5 1 a d.length (bys d) -> Ext σ τ -> (∀ b, hbk a = some b -> Zc2 σ b) -> K a τ) : Zal Tryz.prog 80 [v] σ K := by
 have hL := hv.ls
 obtain ⟨A, c, h1, h2⟩ := hL.val
 refine Zas ZaH Tryz.func80 rfl rfl rfl (Nat.le_of_ble_eq_true rfl) ?_
 refine ZmD 0 (v0 := v) rfl ?_
 intro e he
 repeat refine Zab ?_
 first|refine Zaa ?_|refine Zac ?_
 refine Zah ?_
 refine Zae ?_
 refine kp1 0 ?_
 clear he e
 intro e he
 repeat refine Zab ?_
 first|refine Zaa ?_|refine Zac ?_
 refine Zah ?_
 refine Zad ?_
 refine Zvi (A := A) (n := d.length) (c := c) Zc9 rfl h1 rfl ?_
 refine Zae ?_
 refine kp2 0 4 ?_
 clear he e
 intro e he
 cases A with
 | none =>
  have hd : d = [] := List.eq_nil_of_length_eq_zero (h2 rfl)
  subst hd
  refine ZaT (t := true) he.2 (fun _ => ?_) (fun hf => by cases hf)
  repeat refine Zab ?_
  first|refine Zaa ?_|refine Zac ?_
  refine Zah ?_
  refine Zae ?_
  refine Zfo ?_
  exact ZbW (hK _ σ ⟨rfl, by simp [bys], .inl ⟨.inl rfl, rfl⟩⟩ (.refl _) (fun b hb => by cases hb))
 | some ad =>
  refine ZaT (t := false) he.2 (fun hf => by cases hf) (fun _ => ?_)
  refine Za6 ?_
  repeat refine Zab ?_
  first|refine Zaa ?_|refine Zac ?_
  refine Zzt Zc9 ZlP ZlR rfl fun ad υ1 hX1 => ?_
  refine Zah ?_
  refine Zad ?_
  refine Zch (m := d.length) (news := bys d) rfl rfl Zc9 ZlP ZlR Zyz rfl (by omega) (ZCm ad) (hL.ext hX1).src (by unfold maxLen; omega) (by omega) fun v2 υ2 hv2 hB2 hn2 => ?_
  rw [Nat.zero_add, List.nil_append] at hv2
  refine Zah ?_
  refine Zae ?_
  refine ZaZ ?_
  exact ZbW (hK v2 υ2 hv2 (But.ext hX1 (fun c hc => by cases hc) hB2) (fun c hc => (hn2 c hc).elim (fun q => by cases q) fun q => Zc2.of q hX1))
theorem Zvj {d : List UInt8} {v : AV} (hv : Hd σ 5 1 v d.length (bys d)) (hl : d.length <= 1000000000) (K : AV -> St -> Prop) (hK : ∀ a τ, Hd τ 5 1 a d.length (bys d) -> Ext σ τ -> (∀ b, hbk a = some b -> Zc2 σ b) -> K a τ) : Zal Tryz.prog 80 [v] σ K := Zxp (.inl hv) hl K hK
theorem Zr8 {k : List UInt8} (K : AV -> St -> Prop) (hK : ∀ τ, Ext σ τ -> K (vT (decide (k ≠ [] /\ k.length <= 40))) τ) : Zal Tryz.prog 38 [.raw (sV k)] σ K := by
 refine Zas ZaH Tryz.func38 rfl rfl rfl (Nat.le_of_ble_eq_true rfl) ?_
 refine ZmD 0 (v0 := .raw (sV k)) rfl ?_
 intro e he
 repeat refine Zab ?_
 first|refine Zaa ?_|refine Zac ?_
 refine Zah ?_
 refine Zae ?_
 refine kp1 0 ?_
 clear he e
 intro e he
 repeat refine Zab ?_
 first|refine Zaa ?_|refine Zac ?_
 refine Zah ?_
 refine Zad ?_
 refine Zxj (a := k) (c := []) ZgS rfl rfl ?_
 refine Zah ?_
 by_cases hk : k = []
 ·rw [decide_eq_false (fun q => q hk)]
  rw [decide_eq_false (fun q => q.1 hk)] at hK
  refine Zbk ?_
  refine Zbk ?_
  refine Zbk ?_
  refine Zad ?_
  refine ZbR (v := vT false) rfl rfl ?_
  refine Zah ?_
  refine Zae ?_
  refine ZaZ ?_
  exact ZbW (hK σ (.refl _))
 ·rw [decide_eq_true hk]
  rw [show decide (k ≠ [] /\ k.length <= 40) = decide ((k.length : Int) <= 40) by congr 1; exact propext ⟨fun q => by omega, fun q => ⟨hk, by omega⟩⟩] at hK
  refine Zcn ?_
  refine ZjE rfl (v := .raw (sV k)) he ?_
  refine Zcn ?_
  refine Zn2 (a := k) rfl rfl ZgS ?_
  refine Zcn ?_
  refine ZAU (k := .i64) (a := (k.length : Int)) (b := 40) rfl rfl ?_
  refine Zad ?_
  refine Zbb (v := vT (decide ((k.length : Int) <= 40))) rfl rfl ?_
  refine Zah ?_
  refine Zae ?_
  refine ZaZ ?_
  exact ZbW (hK σ (.refl _))
theorem Zvk (k : List UInt8) (K : AV -> St -> Prop) (hK : ∀ τ, Ext σ τ -> K (vT (decide (k ≠ [] /\ k.length <= 40))) τ) : Zal Tryz.prog 41 [.raw (sV k)] σ K := by
 refine Zas ZaH Tryz.func41 rfl rfl rfl (Nat.le_of_ble_eq_true rfl) ?_
 refine ZmD 0 (v0 := .raw (sV k)) rfl ?_
 intro e he
 repeat refine Zab ?_
 first|refine Zaa ?_|refine Zac ?_
 refine Zah ?_
 refine Zae ?_
 refine kp1 0 ?_
 clear he e
 intro e he
 repeat refine Zab ?_
 first|refine Zaa ?_|refine Zac ?_
 refine Zah ?_
 refine Zad ?_
 refine Zn2 (a := k) rfl rfl ZgS ?_
 refine Zad ?_
 refine ZyX (k := .i64) (a := (k.length : Int)) (b := 1) rfl rfl ?_
 refine Zah ?_
 by_cases hk : k = []
 ·have h0 : k.length = 0 := by rw [hk]; rfl
  rw [decide_eq_false (by omega : ¬ (1 : Int) <= (k.length : Int))]
  rw [decide_eq_false (fun q => q.1 hk)] at hK
  refine Zbk ?_
  refine Zbk ?_
  refine Zbk ?_
  refine Zad ?_
  refine ZbR (v := vT false) rfl rfl ?_
  refine Zah ?_
  refine Zae ?_
  refine ZaZ ?_
  exact ZbW (hK σ (.refl _))
 ·have h0 : 0 < k.length := List.length_pos_iff.2 hk
  rw [decide_eq_true (by omega : (1 : Int) <= (k.length : Int))]
  rw [show decide (k ≠ [] /\ k.length <= 40) = decide ((k.length : Int) <= 40) by congr 1; exact propext ⟨fun q => by omega, fun q => ⟨hk, by omega⟩⟩] at hK
  refine Zcn ?_
  refine ZjE rfl (v := .raw (sV k)) he ?_
  refine Zcn ?_
  refine Zn2 (a := k) rfl rfl ZgS ?_
  refine Zcn ?_
  refine ZAU (k := .i64) (a := (k.length : Int)) (b := 40) rfl rfl ?_
  refine Zad ?_
  refine Zbb (v := vT (decide ((k.length : Int) <= 40))) rfl rfl ?_
  refine Zah ?_
  refine Zae ?_
  refine ZaZ ?_
  exact ZbW (hK σ (.refl _))
theorem Zzy {n : Nat} (hn : n <= 140737488355328) (K : AV -> St -> Prop) (hK : ∀ v τ, Hd τ 5 1 v 0 [] -> Ext σ τ -> (∀ c, hbk v = some c -> Zc2 σ c) -> K v τ) : Zal Tryz.prog 84 [.lst none 0 0 [], vI n] σ K := by
 refine ZnZ (Zni Tryz.growLay84 rfl rfl (zv := .int .u8 0) (by_ := 1) false (hsz := by kernel_rfl) (hz := by kernel_rfl) (hby := by kernel_rfl) (E := 1) rfl rfl rfl (by kernel_rfl) (n : Int) (by omega) (by omega) (by omega) : Tr CT Tryz.prog (fun _ => True) 84 [.nil, .int .i64 n] [] (.as 1 0 0 0 none) [.arr 5 1 false []]) (.cons (Zek.2 rfl) (.cons (Zaw.2 rfl) .none)) (Nat.le_refl _) K fun a τ cells h1 _ h3 h4 => ?_
 have : cells = [] := List.eq_nil_of_length_eq_zero (by rw [h1.len, Nat.zero_mul])
 subst this
 exact hK a τ h1 h3 h4
theorem Zvl {α : Type} (rows : List (List α)) (i : Nat) : (rows.take i).flatten.length <= rows.flatten.length := by
 conv => rhs; rw [<- List.take_append_drop i rows, List.flatten_append, List.length_append]
 omega
theorem ZiQ {α : Type} (rows : List (List α)) (i : Nat) (h : i < rows.length) : (rows.take (i + 1)).flatten = (rows.take i).flatten ++ rows[i] := by
 rw [List.take_succ_eq_append_getElem h, List.flatten_append, List.flatten_singleton]
theorem Zvm {ps : List (List UInt8)} {a : AV} (ha : Zpy σ a ps) (hr : ps.length <= 1000000) (hf : ps.flatten.length <= 100000000) (K : AV -> St -> Prop) (hK : ∀ v τ, Hd τ 5 1 v ps.flatten.length (bys ps.flatten) -> Ext σ τ -> (∀ b, hbk v = some b -> Zc2 σ b) -> K v τ) : Zal Tryz.prog 39 [a] σ K := by
 have hfl := fun i => Zvl ps i
 have hsn : ∀ i (h : i < ps.length), (ps.take i).flatten.length + ps[i].length = (ps.take (i + 1)).flatten.length := fun i h => by rw [ZiQ ps i h, List.length_append]
 refine Zas ZaH Tryz.func39 rfl rfl rfl (Nat.le_of_ble_eq_true rfl) ?_
 refine ZmD 0 (v0 := a) rfl ?_
 intro e he
 repeat refine Zab ?_
 first|refine Zaa ?_|refine Zac ?_
 refine Zah ?_
 refine Zae ?_
 refine kp1 0 ?_
 clear he e
 intro e he
 repeat refine Zab ?_
 first|refine Zaa ?_|refine Zac ?_
 refine Zah ?_
 refine Zae ?_
 refine kp2 0 3 ?_
 clear he e
 intro e he
 obtain ⟨cells, hL, hC⟩ := ha
 repeat refine Zab ?_
 first|refine Zaa ?_|refine Zac ?_
 refine Zah ?_
 refine Zad ?_
 refine Zva rfl hL rfl Zgf ?_
 refine Zah ?_
 refine Zae ?_
 refine kp5 0 3 9 10 11 ?_
 clear he e
 intro e he
 refine Zds (fun env υ => (env 0 = a /\ env 3 = vI ps.flatten.length) /\ σ = υ) ?_ ?_
 ·refine ZdT ?_
  refine Zdn (fun μ env υ => ∃ i : Nat, μ = ps.length - i /\ i <= ps.length /\ (env 0 = a /\ env 3 = vI (ps.take i).flatten.length /\ env 9 = a /\ env 10 = vI ps.length /\ env 11 = vI i) /\ σ = υ) ⟨_, 0, rfl, Nat.zero_le _, he, rfl⟩ ?_
  clear he e
  rintro _ e _ ⟨i, rfl, hi, he, rfl⟩
  repeat refine Zab ?_
  first|refine Zaa ?_|refine Zac ?_
  refine ZjG i ps.length ?_
  refine Zae ?_
  refine kp6 0 3 9 10 11 12 ?_
  clear he e
  intro e he
  refine ZaT (t := decide (i < ps.length)) he.2.2.2.2.2 (fun ht => ?_) (fun ht => ?_)
  ·have hlt : i < ps.length := of_decide_eq_true ht
   obtain ⟨u, hu, hub⟩ := hC i hlt
   have h1 := hfl (i + 1)
   have h2 := hsn i hlt
   refine Za6 ?_
   refine Zb7 ?_
   repeat refine Zab ?_
   first|refine Zaa ?_|refine Zac ?_
   refine ZBw hL hlt hu he.2.2.1 he.2.2.2.2.1 Zgf Zda Zfs fun u1 => ?_
   refine Zah ?_
   refine Zae ?_
   refine kp6 0 3 5 9 10 11 ?_
   clear he e
   intro e he
   repeat refine Zab ?_
   first|refine Zaa ?_|refine Zac ?_
   refine Zah ?_
   refine Zah ?_
   refine Zad ?_
   refine Zva rfl hub.ls rfl Zc9 ?_
   refine ZfM ((ps.take i).flatten.length) (ps[i].length) ?_
   rw [h2]
   refine Zah ?_
   refine Zae ?_
   refine kp5 0 3 9 10 11 ?_
   clear he e
   intro e he
   repeat refine Zab ?_
   first|refine Zaa ?_|refine Zac ?_
   refine Zah ?_
   refine Zad ?_
   refine ZsS (k := .i64) (a := ((ps.take (i + 1)).flatten.length : Int)) (b := 0) rfl rfl ?_
   rw [decide_eq_false (by omega : ¬ ((ps.take (i + 1)).flatten.length : Int) < 0)]
   refine Zae ?_
   refine kp6 0 3 9 10 11 20 ?_
   clear he e
   intro e he
   refine ZcJ (t := false) he.2.2.2.2.2 (fun hf => by cases hf) (fun _ => ?_)
   refine ZeD ?_
   show ZaJ _ _ _ _ _ _
   refine Zac ?_
   refine ZfM i 1 ?_
   refine Zah ?_
   refine Zae ?_
   show ∃ n', n' < _ /\ _
   exact ⟨_, (by omega : ps.length - (i + 1) < ps.length - i), i + 1, rfl, hlt, ⟨by simp only [EV,Nat.reduceEqDiff,↓reduceIte,he];try rfl, by simp only [EV,Nat.reduceEqDiff,↓reduceIte,he];try rfl, by simp only [EV,Nat.reduceEqDiff,↓reduceIte,he];try rfl, by simp only [EV,Nat.reduceEqDiff,↓reduceIte,he];try rfl, by simp only [EV,Nat.reduceEqDiff,↓reduceIte,he];try rfl⟩, rfl⟩
  ·have hke : i = ps.length := by have := of_decide_eq_false ht; omega
   refine Ze5 ?_
   have h3 := he.2.1
   rw [hke, List.take_length] at h3
   exact ⟨rfl, ⟨by simp only [EV,Nat.reduceEqDiff,↓reduceIte,he];try rfl, h3⟩, rfl⟩
 clear he e
 rintro e _ ⟨he, rfl⟩
 repeat refine Zab ?_
 first|refine Zaa ?_|refine Zac ?_
 refine Zah ?_
 refine ZaK [.lst none 0 0 [], vI ps.flatten.length] ?_
 refine Zzy (by omega) _ fun v0 υ1 hv0 hX1 hn0 => ?_
 refine Zah ?_
 refine Zae ?_
 refine kp2 0 6 ?_
 clear he e
 intro e he
 repeat refine Zab ?_
 first|refine Zaa ?_|refine Zac ?_
 refine Zah ?_
 refine Zad ?_
 refine Zva rfl (hL.ext hX1) rfl Zgf ?_
 refine Zah ?_
 refine Zae ?_
 refine kp4 6 25 26 27 ?_
 clear he e
 intro e he
 refine Zds (fun env υ => ∃ v, env 6 = v /\ Hd υ 5 1 v ps.flatten.length (bys ps.flatten) /\ Ext σ υ /\ (∀ c, hbk v = some c -> Zc2 σ c)) ?_ ?_
 ·refine ZdT ?_
  refine Zdn (fun μ env υ => ∃ (i : Nat), ∃ v, μ = ps.length - i /\ i <= ps.length /\ (env 6 = v /\ env 25 = a /\ env 26 = vI ps.length /\ env 27 = vI i) /\ Hd υ 5 1 v (ps.take i).flatten.length (bys (ps.take i).flatten) /\ Ext σ υ /\ (∀ c, hbk v = some c -> Zc2 σ c)) ⟨_, 0, v0, rfl, Nat.zero_le _, he, hv0, hX1, hn0⟩ ?_
  clear he e hv0 hn0
  rintro _ e υ ⟨i, v, rfl, hi, he, hv, hE, hn⟩
  repeat refine Zab ?_
  first|refine Zaa ?_|refine Zac ?_
  refine ZjG i ps.length ?_
  refine Zae ?_
  refine kp5 6 25 26 27 28 ?_
  clear he e
  intro e he
  refine ZaT (t := decide (i < ps.length)) he.2.2.2.2 (fun ht => ?_) (fun ht => ?_)
  ·have hlt : i < ps.length := of_decide_eq_true ht
   obtain ⟨u, hu, hub⟩ := hC i hlt
   have h1 := hfl (i + 1)
   have h2 := hsn i hlt
   refine Za6 ?_
   refine Zb7 ?_
   repeat refine Zab ?_
   first|refine Zaa ?_|refine Zac ?_
   refine ZBw (hL.ext hE) hlt hu he.2.1 he.2.2.2.1 Zgf Zda Zfs fun u1 => ?_
   refine Zah ?_
   refine Zae ?_
   refine kp5 6 8 25 26 27 ?_
   clear he e
   intro e he
   refine Zac ?_
   refine Zah ?_
   refine Zah ?_
   refine Zad ?_
   refine Zch (m := ps[i].length) (news := bys ps[i]) (by simp only [EV,Nat.reduceEqDiff,↓reduceIte,he];try rfl) (by simp only [EV,Nat.reduceEqDiff,↓reduceIte,he];try rfl) Zc9 ZlP ZlR Zyz rfl (by omega) hv ((hub.ext hE).ls).src (by unfold maxLen; omega) (by omega) fun v2 υ2 hv2 hB2 hn2 => ?_
   refine Zah ?_
   refine Zae ?_
   have e1 : bys (ps.take i).flatten ++ bys ps[i] = bys (ps.take (i + 1)).flatten := by
    rw [ZiQ ps i hlt]
    unfold bys
    rw [List.map_append]
   rw [h2, e1] at hv2
   have hE2 : Ext σ υ2 := But.ext hE (fun c hc => (hn c hc).1) hB2
   have hn3 : ∀ c, hbk v2 = some c -> Zc2 σ c := fun c hc => (hn2 c hc).elim (hn c) fun q => Zc2.of q hE
   show ZaJ _ _ _ _ _ _
   refine kp4 6 25 26 27 ?_
   clear he e
   intro e he
   refine Zac ?_
   refine ZfM i 1 ?_
   refine Zah ?_
   refine Zae ?_
   show ∃ n', n' < _ /\ _
   exact ⟨_, (by omega : ps.length - (i + 1) < ps.length - i), i + 1, v2, rfl, hlt, ⟨by simp only [EV,Nat.reduceEqDiff,↓reduceIte,he];try rfl, by simp only [EV,Nat.reduceEqDiff,↓reduceIte,he];try rfl, by simp only [EV,Nat.reduceEqDiff,↓reduceIte,he];try rfl, by simp only [EV,Nat.reduceEqDiff,↓reduceIte,he];try rfl⟩, hv2, hE2, hn3⟩
  ·have hke : i = ps.length := by have := of_decide_eq_false ht; omega
   rw [hke, List.take_length] at hv
   refine Ze5 ?_
   exact ⟨rfl, v, by simp only [EV,Nat.reduceEqDiff,↓reduceIte,he];try rfl, hv, hE, hn⟩
 clear he e hv0 hn0
 rintro e υ ⟨v, he, hv, hE, hn⟩
 repeat refine Zab ?_
 first|refine Zaa ?_|refine Zac ?_
 refine Zah ?_
 refine Zah ?_
 refine Zae ?_
 refine ZaZ ?_
 exact ZbW (hK v υ hv hE hn)
theorem Zpz {ps : List (List UInt8)} {a : AV} (ha : SV CT 0 ZaV (.sl 3 ps none) a) (hr : ps.length <= 1000000) (hf : ps.flatten.length <= 100000000) (K : AV -> St -> Prop) (hK : ∀ v τ, Hd τ 5 1 v ps.flatten.length (bys ps.flatten) -> Ext σ τ -> (∀ b, hbk v = some b -> Zc2 σ b) -> K v τ) : Zal Tryz.prog 39 [a] σ K := Zvm (rows_at ha) hr hf K hK
end
end Go.Proofs.YteempnebenjkmaaGreatDoor
