/- Lists of bytes and texts, by hand: alike, cloned, one behind the other; names that are right; a number picked. -/
import Derived.Test.YteempnebenjkmaaDoorMe
import Derived.Test.YteempnebenjkmaaDoorSl
import Derived.Test.YteempnebenjkmaaDoorTb
import Derived.Test.YteempnebenjkmaaDoorGw
import Derived.Test.YteempnebenjkmaaDoorSm
namespace Go.Proofs.YteempnebenjkmaaDoor
open Go.RowKit
set_option maxRecDepth 100000
set_option linter.unusedVariables false
set_option linter.unusedSimpArgs false
theorem Zz5 (d : List UInt8) : d.flatMap (CT.enc 1) = d.map fun b => XV.int .u8 (b.toNat : Int) := by
 induction d with
 | nil => rfl
 | cons x d ih => rw [List.flatMap_cons, ih]; rfl
theorem Zxd {N : Nat} {ρ : Nat -> AV} (d : List UInt8) : SVs CT N ρ (d.flatMap (CT.enc 1)) (bys d) := by
 rw [Zz5]
 exact Zqy d
theorem Zxe {N : Nat} {ρ : Nat -> AV} : ∀ {d : List UInt8} {cs : List AV}, SVs CT N ρ (d.flatMap (CT.enc 1)) cs -> cs = bys d
 | [], cs, h => Zbd.1 h
 | b :: d, cs, h => by
  rw [List.flatMap_cons] at h
  obtain ⟨a, as_, rfl, h1, h2⟩ := SVs.to (v := XV.int .u8 (b.toNat : Int)) h
  rw [Zxe h2, Zan.1 h1]
  rfl
theorem ZhX {N : Nat} {ρ : Nat -> AV} {d : List UInt8} {a : AV} (h : SV CT N ρ (.sl 1 d none) a) : ∃ A c rest, a = .lst A d.length c (bys d ++ rest) /\ Lst A d.length c := by
 obtain ⟨A, c, cs, rest, rfl, l1, l2, l3, l4, l5⟩ := ZcG.1 h
 rw [Zxe l5]
 exact ⟨A, c, rest, rfl, l1, l2, l3, l4⟩
theorem Zww {N : Nat} {ρ : Nat -> AV} {d : List UInt8} {A : Option Addr} {c : Nat} {rest : List AV} (h : Lst A d.length c) : SV CT N ρ (.sl 1 d none) (.lst A d.length c (bys d ++ rest)) :=
 ZcG.2 ⟨A, c, bys d, rest, rfl, h.le, h.most, h.small, h.none, Zxd d⟩
theorem ZuP {N : Nat} {ρ : Nat -> AV} {d : List UInt8} {A : Option Addr} {c : Nat} (h : Lst A d.length c) : SV CT N ρ (.sl 1 d none) (.lst A d.length c (bys d)) := by
 rw [<- List.append_nil (bys d)]
 exact Zww h
theorem Zyw (b : Nat) {n : Nat} (h : n <= 1000) : Lst (some ⟨b, 0, none⟩) n n := ⟨Nat.le_refl _, by unfold maxLen; omega, by omega, fun q => by cases q⟩
def ZfT (σ : St) (v : AV) (d : List UInt8) : Prop := Hd σ 5 1 v d.length (bys d) \/ SV CT 0 Zdk (.sl 1 d none) v
theorem Zwx (d : List UInt8) : ∀ a ∈ bys d, a.one = true := fun a ha => by
 obtain ⟨u, _, rfl⟩ := List.mem_map.1 ha
 rfl
theorem ZfT.ls {σ : St} {v : AV} {d : List UInt8} (h : ZfT σ v d) : Ls σ 5 v d.length (bys d) := by
 rcases h with h | h
 ·exact .of h
 ·obtain ⟨A, c, rest, rfl, hL⟩ := ZhX h
  exact ⟨Zyn d, Zwx d, .inl ⟨A, c, rest, rfl, fun q => (hL.none q).1⟩⟩
theorem ZfT.but {U : Nat -> Prop} {σ τ : St} {v : AV} {d : List UInt8} (h : ZfT σ v d) (k : But U σ τ) (hU : ∀ c, hbk v = some c -> ¬ U c) : ZfT τ v d := h.imp (fun q => q.but k hU) id
theorem ZfT.ext {σ τ : St} {v : AV} {d : List UInt8} (h : ZfT σ v d) (k : Ext σ τ) : ZfT τ v d := h.imp (fun q => q.ext k) id
def ZpU (σ : St) (v : AV) (ps : List (List UInt8)) : Prop := ∃ cells, Ls σ 27 v ps.length cells /\ ∀ i (h : i < ps.length), ∃ u, cells[i]? = some u /\ ZfT σ u ps[i]
theorem ZpU.but {U : Nat -> Prop} {σ τ : St} {v : AV} {ps : List (List UInt8)} (h : ZpU σ v ps) (k : But U σ τ) (hU : ∀ c, U c -> ¬ σ.used c) : ZpU τ v ps := by
 obtain ⟨cells, h1, h2⟩ := h
 refine ⟨cells, ⟨h1.1, h1.2.1, h1.2.2.imp id fun q => q.but k fun c hc hu => hU c hu (q.used hc)⟩, fun i hi => ?_⟩
 obtain ⟨u, q1, q2⟩ := h2 i hi
 exact ⟨u, q1, q2.imp (fun q => q.but k fun c hc hu => hU c hu (q.used hc)) id⟩
theorem ZpU.ext {σ τ : St} {v : AV} {ps : List (List UInt8)} (h : ZpU σ v ps) (k : Ext σ τ) : ZpU τ v ps := h.but (U := fun _ => False) k.but fun _ q => q.elim
theorem ZnD {N : Nat} {ρ : Nat -> AV} : ∀ {l : List (List UInt8)} {cs : List AV}, SVs CT N ρ (l.flatMap (CT.enc 3)) cs -> cs.length = l.length /\ ∀ i (h : i < l.length), ∃ v, cs[i]? = some v /\ SV CT N ρ (.sl 1 l[i] none) v
 | [], cs, h => by
  rw [Zbd.1 h]
  exact ⟨rfl, fun i h => absurd h (Nat.not_lt_zero i)⟩
 | f :: l, cs, hs => by
  rw [List.flatMap_cons] at hs
  have hs : SVs CT N ρ (XV.sl 1 f none :: l.flatMap (CT.enc 3)) cs := hs
  obtain ⟨a0, as_, rfl, h0, h1⟩ := hs.to
  obtain ⟨q1, q2⟩ := ZnD h1
  refine ⟨by simp [q1], fun i hi => ?_⟩
  cases i with
  | zero => exact ⟨a0, rfl, h0⟩
  | succ i =>
   obtain ⟨v, r1, r2⟩ := q2 i (by simpa using hi)
   exact ⟨v, r1, r2⟩
theorem rows_at {σ : St} {ps : List (List UInt8)} {a : AV} (ha : SV CT 0 Zdk (.sl 3 ps none) a) : ZpU σ a ps := by
 obtain ⟨A, c, cs, rest, rfl, l1, l2, l3, l4, l5⟩ := ZcG.1 ha
 obtain ⟨q1, q2⟩ := ZnD l5
 refine ⟨cs, ⟨q1, fun a ha => ?_, .inl ⟨A, c, rest, rfl, fun q => (l4 q).1⟩⟩, fun i hi => ?_⟩
 ·obtain ⟨i, hi, rfl⟩ := List.getElem_of_mem ha
  obtain ⟨v, r1, r2⟩ := q2 i (by omega)
  rw [List.getElem?_eq_getElem hi] at r1
  injection r1 with r1
  rw [r1]
  obtain ⟨A', c', rest', rfl, _⟩ := ZhX r2
  rfl
 ·obtain ⟨v, r1, r2⟩ := q2 i hi
  exact ⟨v, r1, .inr r2⟩
section
variable {σ : St} {K : AV -> St -> Prop}
theorem Zxf : Zcl Tryd.prog 5 = some 1 := by kernel_rfl
theorem ZuQ {P : Program} {ops : Array Oper} {env : Env} {σ : St} {K : Env -> St -> Prop} {d : Option Nat} {ty ty' t e : TypeId} {pos : String} {af : Array Edge} {x y : Operand} {A : Option Addr} {n c : Nat} {v : AV} (ht : Zar P t = some e) (hx : ev env x = v) (hv : v.val = .slice A n c) (hy : ev env y = .lst none 0 0 []) (h : K (env.put d (.raw (.bool A.isNone))) σ) : aOp P ops ⟨d, .binOp .eql t x y ty', ty, pos, af, none⟩ env σ K :=
 ZhZ hx hy (fun w _ _ => by rw [hv]; simp [eqGuard_at_slice, binOp, run_equal_slice_nil w t e A n c (ZaM ht)]) h
theorem Zwy {d : List UInt8} {v : AV} (hv : ZfT σ v d) (hl : d.length <= 1000000000) (K : AV -> St -> Prop) (hK : ∀ a τ, Hd τ 5 1 a d.length (bys d) -> Ext σ τ -> (∀ b, hbk a = some b -> Zgq σ b) -> K a τ) : Zay Tryd.prog 42 [v] σ K := by
 have hL := hv.ls
 obtain ⟨A, c, h1, h2⟩ := hL.val
 refine ZaG ZaN Tryd.func42 rfl rfl rfl (Nat.le_of_ble_eq_true rfl) ?_
 refine ZdI 0 (v0 := v) rfl ?_
 intro e he
 first | refine Zaa ?_ | refine Zad ?_ | (refine Zac ?_; refine Zaa ?_) | (refine Zac ?_; refine Zac ?_; refine Zaa ?_)
 refine Zab (Zak rfl (by simp only [EV, Nat.reduceEqDiff, ↓reduceIte, he] <;> try rfl) ?_)
 refine Zah ?_
 apply ZdI 0
 ·simp only [EV, Nat.reduceEqDiff, ↓reduceIte, he] <;> try rfl
 clear he e
 intro e he
 first | refine Zaa ?_ | refine Zad ?_ | (refine Zac ?_; refine Zaa ?_) | (refine Zac ?_; refine Zac ?_; refine Zaa ?_)
 refine Zab (Zak rfl (by simp only [EV, Nat.reduceEqDiff, ↓reduceIte, he] <;> try rfl) ?_)
 refine Zab ?_
 refine ZuQ (A := A) (n := d.length) (c := c) Ze4 (by simp only [EV, Nat.reduceEqDiff, ↓reduceIte, he] <;> try rfl) h1 (by simp only [EV, Nat.reduceEqDiff, ↓reduceIte, he] <;> try rfl) ?_
 refine Zah ?_
 apply ZcT 0 4
 ·simp only [EV, Nat.reduceEqDiff, ↓reduceIte, he] <;> try rfl
 ·simp only [EV, Nat.reduceEqDiff, ↓reduceIte, he] <;> try rfl
 clear he e
 intro e he
 cases A with
 | none =>
  have hd : d = [] := List.eq_nil_of_length_eq_zero (h2 rfl)
  subst hd
  refine Zbu (t := true) (by simp only [EV, Nat.reduceEqDiff, ↓reduceIte, he] <;> try rfl) (fun _ => ?_) (fun hf => by cases hf)
  first | refine Zaa ?_ | refine Zad ?_ | (refine Zac ?_; refine Zaa ?_) | (refine Zac ?_; refine Zac ?_; refine Zaa ?_)
  refine Zab (Zak rfl (by simp only [EV, Nat.reduceEqDiff, ↓reduceIte, he] <;> try rfl) ?_)
  refine Zah ?_
  refine ZmK ?_
  show ∃ r, Zaq _ _ _ _ r /\ _
  exact ⟨_, ZaZ rfl (by simp only [EV, Nat.reduceEqDiff, ↓reduceIte, he] <;> try rfl), hK _ σ ⟨rfl, by simp [bys], .inl ⟨.inl rfl, rfl⟩⟩ (.refl _) (fun b hb => by cases hb)⟩
 | some ad =>
  refine Zbu (t := false) (by simp only [EV, Nat.reduceEqDiff, ↓reduceIte, he] <;> try rfl) (fun hf => by cases hf) (fun _ => ?_)
  refine Zb2 ?_
  first | refine Zaa ?_ | refine Zad ?_ | (refine Zac ?_; refine Zaa ?_) | (refine Zac ?_; refine Zac ?_; refine Zaa ?_)
  refine ZBu Ze4 ZpS ZrR rfl fun ad υ1 hX1 => ?_
  refine Zab (Zak rfl (by simp only [EV, Nat.reduceEqDiff, ↓reduceIte, he] <;> try rfl) ?_)
  refine Zab ?_
  refine Zju (m := d.length) (news := bys d) (by simp only [EV, Nat.reduceEqDiff, ↓reduceIte, he] <;> try rfl) (by simp only [EV, Nat.reduceEqDiff, ↓reduceIte, he] <;> try rfl) Ze4 ZpS ZrR Zxf rfl (by omega) (ZB4 ad) (hL.ext hX1).src (by unfold maxLen; omega) (by omega) fun v2 υ2 hv2 hB2 hn2 => ?_
  rw [Nat.zero_add, List.nil_append] at hv2
  refine Zab (Zak rfl (by simp only [EV, Nat.reduceEqDiff, ↓reduceIte, he] <;> try rfl) ?_)
  refine Zah ?_
  refine Zbm ?_
  show ∃ r, Zaq _ _ _ _ r /\ _
  exact ⟨_, ZaZ rfl (by simp only [EV, Nat.reduceEqDiff, ↓reduceIte, he] <;> try rfl), hK v2 υ2 hv2 (But.ext hX1 (fun c hc => by cases hc) hB2) (fun c hc => (hn2 c hc).elim (fun q => by cases q) fun q => Zgq.of q hX1)⟩
theorem ZuR {d : List UInt8} {v : AV} (hv : Hd σ 5 1 v d.length (bys d)) (hl : d.length <= 1000000000) (K : AV -> St -> Prop) (hK : ∀ a τ, Hd τ 5 1 a d.length (bys d) -> Ext σ τ -> (∀ b, hbk a = some b -> Zgq σ b) -> K a τ) : Zay Tryd.prog 42 [v] σ K := Zwy (.inl hv) hl K hK
theorem ZrT {k : List UInt8} (K : AV -> St -> Prop) (hK : ∀ τ, Ext σ τ -> K (vT (decide (k ≠ [] /\ k.length <= 40))) τ) : Zay Tryd.prog 77 [.raw (sV k)] σ K := by
 refine ZaG ZaN Tryd.func77 rfl rfl rfl (Nat.le_of_ble_eq_true rfl) ?_
 refine ZdI 0 (v0 := .raw (sV k)) rfl ?_
 intro e he
 first | refine Zaa ?_ | refine Zad ?_ | (refine Zac ?_; refine Zaa ?_) | (refine Zac ?_; refine Zac ?_; refine Zaa ?_)
 refine Zab (Zak rfl (by simp only [EV, Nat.reduceEqDiff, ↓reduceIte, he] <;> try rfl) ?_)
 refine Zah ?_
 apply ZdI 0
 ·simp only [EV, Nat.reduceEqDiff, ↓reduceIte, he] <;> try rfl
 clear he e
 intro e he
 first | refine Zaa ?_ | refine Zad ?_ | (refine Zac ?_; refine Zaa ?_) | (refine Zac ?_; refine Zac ?_; refine Zaa ?_)
 refine Zab (Zak rfl (by simp only [EV, Nat.reduceEqDiff, ↓reduceIte, he] <;> try rfl) ?_)
 refine Zab ?_
 refine Zwu (a := k) (c := []) Zkv (by simp only [EV, Nat.reduceEqDiff, ↓reduceIte, he] <;> try rfl) (by simp only [EV, Nat.reduceEqDiff, ↓reduceIte, he] <;> try rfl) ?_
 refine Zab (Zak rfl (by simp only [EV, Nat.reduceEqDiff, ↓reduceIte, he] <;> try rfl) ?_)
 by_cases hk : k = []
 ·rw [decide_eq_false (fun q => q hk)]
  rw [decide_eq_false (fun q => q.1 hk)] at hK
  refine Zab (ZeN (Zg8 rfl (by simp only [EV, Nat.reduceEqDiff, ↓reduceIte, he] <;> try rfl)) ?_)
  refine Zab (ZeN (Zg8 rfl (by simp only [EV, Nat.reduceEqDiff, ↓reduceIte, he] <;> try rfl)) ?_)
  refine Zab (ZeN (Zg8 rfl (by simp only [EV, Nat.reduceEqDiff, ↓reduceIte, he] <;> try rfl)) ?_)
  refine Zab ?_
  refine Zfk (v := vT false) (by simp only [EV, Nat.reduceEqDiff, ↓reduceIte, he] <;> try rfl) (by simp only [EV, Nat.reduceEqDiff, ↓reduceIte, he] <;> try rfl) ?_
  refine Zab (Zak rfl (by simp only [EV, Nat.reduceEqDiff, ↓reduceIte, he] <;> try rfl) ?_)
  refine Zah ?_
  refine Zbm ?_
  show ∃ r, Zaq _ _ _ _ r /\ _
  exact ⟨_, ZaZ rfl (by simp only [EV, Nat.reduceEqDiff, ↓reduceIte, he] <;> try rfl), hK σ (.refl _)⟩
 ·rw [decide_eq_true hk]
  rw [show decide (k ≠ [] /\ k.length <= 40) = decide ((k.length : Int) <= 40) by congr 1; exact propext ⟨fun q => by omega, fun q => ⟨hk, by omega⟩⟩] at hK
  refine Zab (ZaE (Zg8 rfl (by simp only [EV, Nat.reduceEqDiff, ↓reduceIte, he] <;> try rfl)) ?_)
  refine Zak rfl (v := .raw (sV k)) (by simp only [EV, Nat.reduceEqDiff, ↓reduceIte, he] <;> try rfl) ?_
  refine Zab (ZaE (Zg8 rfl (by simp only [EV, Nat.reduceEqDiff, ↓reduceIte, he] <;> try rfl)) ?_)
  refine Zwv (a := k) (by simp only [EV, Nat.reduceEqDiff, ↓reduceIte, he] <;> try rfl) rfl Zkv ?_
  refine Zab (ZaE (Zg8 rfl (by simp only [EV, Nat.reduceEqDiff, ↓reduceIte, he] <;> try rfl)) ?_)
  refine ZAJ (k := .i64) (a := (k.length : Int)) (b := 40) (by simp only [EV, Nat.reduceEqDiff, ↓reduceIte, he] <;> try rfl) (by simp only [EV, Nat.reduceEqDiff, ↓reduceIte, he] <;> try rfl) ?_
  refine Zab ?_
  refine Zc8 (v := vT (decide ((k.length : Int) <= 40))) (by simp only [EV, Nat.reduceEqDiff, ↓reduceIte, he] <;> try rfl) (by simp only [EV, Nat.reduceEqDiff, ↓reduceIte, he] <;> try rfl) ?_
  refine Zab (Zak rfl (by simp only [EV, Nat.reduceEqDiff, ↓reduceIte, he] <;> try rfl) ?_)
  refine Zah ?_
  refine Zbm ?_
  show ∃ r, Zaq _ _ _ _ r /\ _
  exact ⟨_, ZaZ rfl (by simp only [EV, Nat.reduceEqDiff, ↓reduceIte, he] <;> try rfl), hK σ (.refl _)⟩
theorem Zyx {n : Nat} (hn : n <= 140737488355328) (K : AV -> St -> Prop) (hK : ∀ v τ, Hd τ 5 1 v 0 [] -> Ext σ τ -> (∀ c, hbk v = some c -> Zgq σ c) -> K v τ) : Zay Tryd.prog 73 [.lst none 0 0 [], vI n] σ K := by
 refine Zwk (Znt Tryd.growLay73 rfl rfl (zv := .int .u8 0) (by_ := 1) false (hsz := by kernel_rfl) (hz := by kernel_rfl) (hby := by kernel_rfl) (E := 1) rfl rfl rfl (by kernel_rfl) (n : Int) (by omega) (by omega) (by omega) : Tr CT Tryd.prog (fun _ => True) 73 [.nil, .int .i64 n] [] (.as 1 0 0 0 none) [.arr 5 1 false []]) (.cons (ZdJ.2 rfl) (.cons (Zan.2 rfl) .none)) (Nat.le_refl _) K fun a τ cells h1 _ h3 h4 => ?_
 have : cells = [] := List.eq_nil_of_length_eq_zero (by rw [h1.len, Nat.zero_mul])
 subst this
 exact hK a τ h1 h3 h4
theorem Zyy {α : Type} (rows : List (List α)) (i : Nat) : (rows.take i).flatten.length <= rows.flatten.length := by
 conv => rhs; rw [<- List.take_append_drop i rows, List.flatten_append, List.length_append]
 omega
theorem ZpV {α : Type} (rows : List (List α)) (i : Nat) (h : i < rows.length) : (rows.take (i + 1)).flatten = (rows.take i).flatten ++ rows[i] := by
 rw [List.take_succ_eq_append_getElem h, List.flatten_append, List.flatten_singleton]
theorem ZuS {ps : List (List UInt8)} {a : AV} (ha : ZpU σ a ps) (hr : ps.length <= 1000000) (hf : ps.flatten.length <= 100000000) (K : AV -> St -> Prop) (hK : ∀ v τ, Hd τ 5 1 v ps.flatten.length (bys ps.flatten) -> Ext σ τ -> (∀ b, hbk v = some b -> Zgq σ b) -> K v τ) : Zay Tryd.prog 53 [a] σ K := by
 have hfl := fun i => Zyy ps i
 have hsn : ∀ i (h : i < ps.length), (ps.take i).flatten.length + ps[i].length = (ps.take (i + 1)).flatten.length := fun i h => by rw [ZpV ps i h, List.length_append]
 refine ZaG ZaN Tryd.func53 rfl rfl rfl (Nat.le_of_ble_eq_true rfl) ?_
 refine ZdI 0 (v0 := a) rfl ?_
 intro e he
 first | refine Zaa ?_ | refine Zad ?_ | (refine Zac ?_; refine Zaa ?_) | (refine Zac ?_; refine Zac ?_; refine Zaa ?_)
 refine Zab (Zak rfl (by simp only [EV, Nat.reduceEqDiff, ↓reduceIte, he] <;> try rfl) ?_)
 refine Zah ?_
 apply ZdI 0
 ·simp only [EV, Nat.reduceEqDiff, ↓reduceIte, he] <;> try rfl
 clear he e
 intro e he
 first | refine Zaa ?_ | refine Zad ?_ | (refine Zac ?_; refine Zaa ?_) | (refine Zac ?_; refine Zac ?_; refine Zaa ?_)
 refine Zab (Zak rfl (by simp only [EV, Nat.reduceEqDiff, ↓reduceIte, he] <;> try rfl) ?_)
 refine Zah ?_
 apply ZcT 0 3
 ·simp only [EV, Nat.reduceEqDiff, ↓reduceIte, he] <;> try rfl
 ·simp only [EV, Nat.reduceEqDiff, ↓reduceIte, he] <;> try rfl
 clear he e
 intro e he
 obtain ⟨cells, hL, hC⟩ := ha
 first | refine Zaa ?_ | refine Zad ?_ | (refine Zac ?_; refine Zaa ?_) | (refine Zac ?_; refine Zac ?_; refine Zaa ?_)
 refine Zab (Zak rfl (by simp only [EV, Nat.reduceEqDiff, ↓reduceIte, he] <;> try rfl) ?_)
 refine Zab ?_
 refine ZuO (by simp only [EV, Nat.reduceEqDiff, ↓reduceIte, he] <;> try rfl) hL rfl Zot ?_
 refine Zab (Zak rfl (by simp only [EV, Nat.reduceEqDiff, ↓reduceIte, he] <;> try rfl) ?_)
 refine Zah ?_
 apply Zg6 0 3 9 10 11
 ·simp only [EV, Nat.reduceEqDiff, ↓reduceIte, he] <;> try rfl
 ·simp only [EV, Nat.reduceEqDiff, ↓reduceIte, he] <;> try rfl
 ·simp only [EV, Nat.reduceEqDiff, ↓reduceIte, he] <;> try rfl
 ·simp only [EV, Nat.reduceEqDiff, ↓reduceIte, he] <;> try rfl
 ·simp only [EV, Nat.reduceEqDiff, ↓reduceIte, he] <;> try rfl
 clear he e
 intro e he
 refine Zhy (fun env υ => (env 0 = a /\ env 3 = vI ps.flatten.length) /\ σ = υ) ?_ ?_
 ·refine Zfl ?_
  refine Zgz (fun μ env υ => ∃ i : Nat, μ = ps.length - i /\ i <= ps.length /\ (env 0 = a /\ env 3 = vI (ps.take i).flatten.length /\ env 9 = a /\ env 10 = vI ps.length /\ env 11 = vI i) /\ σ = υ) ⟨_, 0, rfl, Nat.zero_le _, he, rfl⟩ ?_
  clear he e
  rintro _ e _ ⟨i, rfl, hi, he, rfl⟩
  first | refine Zaa ?_ | refine Zad ?_ | (refine Zac ?_; refine Zaa ?_) | (refine Zac ?_; refine Zac ?_; refine Zaa ?_)
  refine Zab ?_
  refine Zmv i ps.length (by simp only [EV, Nat.reduceEqDiff, ↓reduceIte, he] <;> try rfl) (by simp only [EV, Nat.reduceEqDiff, ↓reduceIte, he] <;> try rfl) ?_
  refine Zah ?_
  apply ZoS 0 3 9 10 11 12
  ·simp only [EV, Nat.reduceEqDiff, ↓reduceIte, he] <;> try rfl
  ·simp only [EV, Nat.reduceEqDiff, ↓reduceIte, he] <;> try rfl
  ·simp only [EV, Nat.reduceEqDiff, ↓reduceIte, he] <;> try rfl
  ·simp only [EV, Nat.reduceEqDiff, ↓reduceIte, he] <;> try rfl
  ·simp only [EV, Nat.reduceEqDiff, ↓reduceIte, he] <;> try rfl
  ·simp only [EV, Nat.reduceEqDiff, ↓reduceIte, he] <;> try rfl
  clear he e
  intro e he
  refine Zbu (t := decide (i < ps.length)) (by simp only [EV, Nat.reduceEqDiff, ↓reduceIte, he] <;> try rfl) (fun ht => ?_) (fun ht => ?_)
  ·have hlt : i < ps.length := of_decide_eq_true ht
   obtain ⟨u, hu, hub⟩ := hC i hlt
   have h1 := hfl (i + 1)
   have h2 := hsn i hlt
   refine Zb2 ?_
   refine Zej ?_
   first | refine Zaa ?_ | refine Zad ?_ | (refine Zac ?_; refine Zaa ?_) | (refine Zac ?_; refine Zac ?_; refine Zaa ?_)
   refine Zz4 hL hlt hu (by simp only [EV, Nat.reduceEqDiff, ↓reduceIte, he] <;> try rfl) (by simp only [EV, Nat.reduceEqDiff, ↓reduceIte, he] <;> try rfl) Zot ZhB Zks fun u1 => ?_
   refine Zab (Zak rfl (by simp only [EV, Nat.reduceEqDiff, ↓reduceIte, he] <;> try rfl) ?_)
   refine Zah ?_
   apply ZoS 0 3 5 9 10 11
   ·simp only [EV, Nat.reduceEqDiff, ↓reduceIte, he] <;> try rfl
   ·simp only [EV, Nat.reduceEqDiff, ↓reduceIte, he] <;> try rfl
   ·simp only [EV, Nat.reduceEqDiff, ↓reduceIte, he] <;> try rfl
   ·simp only [EV, Nat.reduceEqDiff, ↓reduceIte, he] <;> try rfl
   ·simp only [EV, Nat.reduceEqDiff, ↓reduceIte, he] <;> try rfl
   ·simp only [EV, Nat.reduceEqDiff, ↓reduceIte, he] <;> try rfl
   clear he e
   intro e he
   first | refine Zaa ?_ | refine Zad ?_ | (refine Zac ?_; refine Zaa ?_) | (refine Zac ?_; refine Zac ?_; refine Zaa ?_)
   refine Zab (Zak rfl (by simp only [EV, Nat.reduceEqDiff, ↓reduceIte, he] <;> try rfl) ?_)
   refine Zab (Zak rfl (by simp only [EV, Nat.reduceEqDiff, ↓reduceIte, he] <;> try rfl) ?_)
   refine Zab ?_
   refine ZuO (by simp only [EV, Nat.reduceEqDiff, ↓reduceIte, he] <;> try rfl) hub.ls rfl Ze4 ?_
   refine Zab ?_
   refine Zhz ((ps.take i).flatten.length) (ps[i].length) (by simp only [EV, Nat.reduceEqDiff, ↓reduceIte, he] <;> try rfl) (by simp only [EV, Nat.reduceEqDiff, ↓reduceIte, he] <;> try rfl) (by omega) ?_
   rw [h2]
   refine Zab (Zak rfl (by simp only [EV, Nat.reduceEqDiff, ↓reduceIte, he] <;> try rfl) ?_)
   refine Zah ?_
   apply Zg6 0 3 9 10 11
   ·simp only [EV, Nat.reduceEqDiff, ↓reduceIte, he] <;> try rfl
   ·simp only [EV, Nat.reduceEqDiff, ↓reduceIte, he] <;> try rfl
   ·simp only [EV, Nat.reduceEqDiff, ↓reduceIte, he] <;> try rfl
   ·simp only [EV, Nat.reduceEqDiff, ↓reduceIte, he] <;> try rfl
   ·simp only [EV, Nat.reduceEqDiff, ↓reduceIte, he] <;> try rfl
   clear he e
   intro e he
   first | refine Zaa ?_ | refine Zad ?_ | (refine Zac ?_; refine Zaa ?_) | (refine Zac ?_; refine Zac ?_; refine Zaa ?_)
   refine Zab (Zak rfl (by simp only [EV, Nat.reduceEqDiff, ↓reduceIte, he] <;> try rfl) ?_)
   refine Zab ?_
   refine Zxu (k := .i64) (a := ((ps.take (i + 1)).flatten.length : Int)) (b := 0) (by simp only [EV, Nat.reduceEqDiff, ↓reduceIte, he] <;> try rfl) (by simp only [EV, Nat.reduceEqDiff, ↓reduceIte, he] <;> try rfl) ?_
   rw [decide_eq_false (by omega : ¬ ((ps.take (i + 1)).flatten.length : Int) < 0)]
   refine Zah ?_
   apply ZoS 0 3 9 10 11 20
   ·simp only [EV, Nat.reduceEqDiff, ↓reduceIte, he] <;> try rfl
   ·simp only [EV, Nat.reduceEqDiff, ↓reduceIte, he] <;> try rfl
   ·simp only [EV, Nat.reduceEqDiff, ↓reduceIte, he] <;> try rfl
   ·simp only [EV, Nat.reduceEqDiff, ↓reduceIte, he] <;> try rfl
   ·simp only [EV, Nat.reduceEqDiff, ↓reduceIte, he] <;> try rfl
   ·simp only [EV, Nat.reduceEqDiff, ↓reduceIte, he] <;> try rfl
   clear he e
   intro e he
   refine Zdw (t := false) (by simp only [EV, Nat.reduceEqDiff, ↓reduceIte, he] <;> try rfl) (fun hf => by cases hf) (fun _ => ?_)
   refine Zgy ?_
   show ZaP _ _ _ _ _ _
   refine Zad ?_
   refine Zab ?_
   refine Zhz i 1 (by simp only [EV, Nat.reduceEqDiff, ↓reduceIte, he] <;> try rfl) (by simp only [EV, Nat.reduceEqDiff, ↓reduceIte, he] <;> try rfl) (by omega) ?_
   refine Zab (Zak rfl (by simp only [EV, Nat.reduceEqDiff, ↓reduceIte, he] <;> try rfl) ?_)
   refine Zah ?_
   show ∃ n', n' < _ /\ _
   exact ⟨_, (by omega : ps.length - (i + 1) < ps.length - i), i + 1, rfl, hlt, ⟨by simp only [EV, Nat.reduceEqDiff, ↓reduceIte, he] <;> try rfl, by simp only [EV, Nat.reduceEqDiff, ↓reduceIte, he] <;> try rfl, by simp only [EV, Nat.reduceEqDiff, ↓reduceIte, he] <;> try rfl, by simp only [EV, Nat.reduceEqDiff, ↓reduceIte, he] <;> try rfl, by simp only [EV, Nat.reduceEqDiff, ↓reduceIte, he] <;> try rfl⟩, rfl⟩
  ·have hke : i = ps.length := by have := of_decide_eq_false ht; omega
   refine Zia ?_
   have h3 := he.2.1
   rw [hke, List.take_length] at h3
   exact ⟨rfl, ⟨by simp only [EV, Nat.reduceEqDiff, ↓reduceIte, he] <;> try rfl, h3⟩, rfl⟩
 clear he e
 rintro e _ ⟨he, rfl⟩
 first | refine Zaa ?_ | refine Zad ?_ | (refine Zac ?_; refine Zaa ?_) | (refine Zac ?_; refine Zac ?_; refine Zaa ?_)
 refine Zab (Zak rfl (by simp only [EV, Nat.reduceEqDiff, ↓reduceIte, he] <;> try rfl) ?_)
 refine Zab ?_
 refine Za9 (vs := [.lst none 0 0 [], vI ps.flatten.length]) (by simp only [List.map_cons, List.map_nil, EV, Nat.reduceEqDiff, ↓reduceIte, he] <;> try rfl) ?_
 refine Zyx (by omega) _ fun v0 υ1 hv0 hX1 hn0 => ?_
 refine Zab (Zak rfl (by simp only [EV, Nat.reduceEqDiff, ↓reduceIte, he] <;> try rfl) ?_)
 refine Zah ?_
 apply ZcT 0 6
 ·simp only [EV, Nat.reduceEqDiff, ↓reduceIte, he] <;> try rfl
 ·simp only [EV, Nat.reduceEqDiff, ↓reduceIte, he] <;> try rfl
 clear he e
 intro e he
 first | refine Zaa ?_ | refine Zad ?_ | (refine Zac ?_; refine Zaa ?_) | (refine Zac ?_; refine Zac ?_; refine Zaa ?_)
 refine Zab (Zak rfl (by simp only [EV, Nat.reduceEqDiff, ↓reduceIte, he] <;> try rfl) ?_)
 refine Zab ?_
 refine ZuO (by simp only [EV, Nat.reduceEqDiff, ↓reduceIte, he] <;> try rfl) (hL.ext hX1) rfl Zot ?_
 refine Zab (Zak rfl (by simp only [EV, Nat.reduceEqDiff, ↓reduceIte, he] <;> try rfl) ?_)
 refine Zah ?_
 apply ZcU 6 25 26 27
 ·simp only [EV, Nat.reduceEqDiff, ↓reduceIte, he] <;> try rfl
 ·simp only [EV, Nat.reduceEqDiff, ↓reduceIte, he] <;> try rfl
 ·simp only [EV, Nat.reduceEqDiff, ↓reduceIte, he] <;> try rfl
 ·simp only [EV, Nat.reduceEqDiff, ↓reduceIte, he] <;> try rfl
 clear he e
 intro e he
 refine Zhy (fun env υ => ∃ v, env 6 = v /\ Hd υ 5 1 v ps.flatten.length (bys ps.flatten) /\ Ext σ υ /\ (∀ c, hbk v = some c -> Zgq σ c)) ?_ ?_
 ·refine Zfl ?_
  refine Zgz (fun μ env υ => ∃ (i : Nat), ∃ v, μ = ps.length - i /\ i <= ps.length /\ (env 6 = v /\ env 25 = a /\ env 26 = vI ps.length /\ env 27 = vI i) /\ Hd υ 5 1 v (ps.take i).flatten.length (bys (ps.take i).flatten) /\ Ext σ υ /\ (∀ c, hbk v = some c -> Zgq σ c)) ⟨_, 0, v0, rfl, Nat.zero_le _, he, hv0, hX1, hn0⟩ ?_
  clear he e hv0 hn0
  rintro _ e υ ⟨i, v, rfl, hi, he, hv, hE, hn⟩
  first | refine Zaa ?_ | refine Zad ?_ | (refine Zac ?_; refine Zaa ?_) | (refine Zac ?_; refine Zac ?_; refine Zaa ?_)
  refine Zab ?_
  refine Zmv i ps.length (by simp only [EV, Nat.reduceEqDiff, ↓reduceIte, he] <;> try rfl) (by simp only [EV, Nat.reduceEqDiff, ↓reduceIte, he] <;> try rfl) ?_
  refine Zah ?_
  apply Zg6 6 25 26 27 28
  ·simp only [EV, Nat.reduceEqDiff, ↓reduceIte, he] <;> try rfl
  ·simp only [EV, Nat.reduceEqDiff, ↓reduceIte, he] <;> try rfl
  ·simp only [EV, Nat.reduceEqDiff, ↓reduceIte, he] <;> try rfl
  ·simp only [EV, Nat.reduceEqDiff, ↓reduceIte, he] <;> try rfl
  ·simp only [EV, Nat.reduceEqDiff, ↓reduceIte, he] <;> try rfl
  clear he e
  intro e he
  refine Zbu (t := decide (i < ps.length)) (by simp only [EV, Nat.reduceEqDiff, ↓reduceIte, he] <;> try rfl) (fun ht => ?_) (fun ht => ?_)
  ·have hlt : i < ps.length := of_decide_eq_true ht
   obtain ⟨u, hu, hub⟩ := hC i hlt
   have h1 := hfl (i + 1)
   have h2 := hsn i hlt
   refine Zb2 ?_
   refine Zej ?_
   first | refine Zaa ?_ | refine Zad ?_ | (refine Zac ?_; refine Zaa ?_) | (refine Zac ?_; refine Zac ?_; refine Zaa ?_)
   refine Zz4 (hL.ext hE) hlt hu (by simp only [EV, Nat.reduceEqDiff, ↓reduceIte, he] <;> try rfl) (by simp only [EV, Nat.reduceEqDiff, ↓reduceIte, he] <;> try rfl) Zot ZhB Zks fun u1 => ?_
   refine Zab (Zak rfl (by simp only [EV, Nat.reduceEqDiff, ↓reduceIte, he] <;> try rfl) ?_)
   refine Zah ?_
   apply Zg6 6 8 25 26 27
   ·simp only [EV, Nat.reduceEqDiff, ↓reduceIte, he] <;> try rfl
   ·simp only [EV, Nat.reduceEqDiff, ↓reduceIte, he] <;> try rfl
   ·simp only [EV, Nat.reduceEqDiff, ↓reduceIte, he] <;> try rfl
   ·simp only [EV, Nat.reduceEqDiff, ↓reduceIte, he] <;> try rfl
   ·simp only [EV, Nat.reduceEqDiff, ↓reduceIte, he] <;> try rfl
   clear he e
   intro e he
   refine Zad ?_
   refine Zab (Zak rfl (by simp only [EV, Nat.reduceEqDiff, ↓reduceIte, he] <;> try rfl) ?_)
   refine Zab (Zak rfl (by simp only [EV, Nat.reduceEqDiff, ↓reduceIte, he] <;> try rfl) ?_)
   refine Zab ?_
   refine Zju (m := ps[i].length) (news := bys ps[i]) (by simp only [EV, Nat.reduceEqDiff, ↓reduceIte, he] <;> try rfl) (by simp only [EV, Nat.reduceEqDiff, ↓reduceIte, he] <;> try rfl) Ze4 ZpS ZrR Zxf rfl (by omega) hv ((hub.ext hE).ls).src (by unfold maxLen; omega) (by omega) fun v2 υ2 hv2 hB2 hn2 => ?_
   refine Zab (Zak rfl (by simp only [EV, Nat.reduceEqDiff, ↓reduceIte, he] <;> try rfl) ?_)
   refine Zah ?_
   have e1 : bys (ps.take i).flatten ++ bys ps[i] = bys (ps.take (i + 1)).flatten := by
    rw [ZpV ps i hlt]
    unfold bys
    rw [List.map_append]
   rw [h2, e1] at hv2
   have hE2 : Ext σ υ2 := But.ext hE (fun c hc => (hn c hc).1) hB2
   have hn3 : ∀ c, hbk v2 = some c -> Zgq σ c := fun c hc => (hn2 c hc).elim (hn c) fun q => Zgq.of q hE
   show ZaP _ _ _ _ _ _
   apply ZcU 6 25 26 27
   ·simp only [EV, Nat.reduceEqDiff, ↓reduceIte, he] <;> try rfl
   ·simp only [EV, Nat.reduceEqDiff, ↓reduceIte, he] <;> try rfl
   ·simp only [EV, Nat.reduceEqDiff, ↓reduceIte, he] <;> try rfl
   ·simp only [EV, Nat.reduceEqDiff, ↓reduceIte, he] <;> try rfl
   clear he e
   intro e he
   refine Zad ?_
   refine Zab ?_
   refine Zhz i 1 (by simp only [EV, Nat.reduceEqDiff, ↓reduceIte, he] <;> try rfl) (by simp only [EV, Nat.reduceEqDiff, ↓reduceIte, he] <;> try rfl) (by omega) ?_
   refine Zab (Zak rfl (by simp only [EV, Nat.reduceEqDiff, ↓reduceIte, he] <;> try rfl) ?_)
   refine Zah ?_
   show ∃ n', n' < _ /\ _
   exact ⟨_, (by omega : ps.length - (i + 1) < ps.length - i), i + 1, v2, rfl, hlt, ⟨by simp only [EV, Nat.reduceEqDiff, ↓reduceIte, he] <;> try rfl, by simp only [EV, Nat.reduceEqDiff, ↓reduceIte, he] <;> try rfl, by simp only [EV, Nat.reduceEqDiff, ↓reduceIte, he] <;> try rfl, by simp only [EV, Nat.reduceEqDiff, ↓reduceIte, he] <;> try rfl⟩, hv2, hE2, hn3⟩
  ·have hke : i = ps.length := by have := of_decide_eq_false ht; omega
   rw [hke, List.take_length] at hv
   refine Zia ?_
   exact ⟨rfl, v, by simp only [EV, Nat.reduceEqDiff, ↓reduceIte, he] <;> try rfl, hv, hE, hn⟩
 clear he e hv0 hn0
 rintro e υ ⟨v, he, hv, hE, hn⟩
 first | refine Zaa ?_ | refine Zad ?_ | (refine Zac ?_; refine Zaa ?_) | (refine Zac ?_; refine Zac ?_; refine Zaa ?_)
 refine Zab (Zak rfl (by simp only [EV, Nat.reduceEqDiff, ↓reduceIte, he] <;> try rfl) ?_)
 refine Zab (Zak rfl (by simp only [EV, Nat.reduceEqDiff, ↓reduceIte, he] <;> try rfl) ?_)
 refine Zah ?_
 refine Zbm ?_
 show ∃ r, Zaq _ _ _ _ r /\ _
 exact ⟨_, ZaZ rfl (by simp only [EV, Nat.reduceEqDiff, ↓reduceIte, he] <;> try rfl), hK v υ hv hE hn⟩
theorem ZuT {ps : List (List UInt8)} {a : AV} (ha : SV CT 0 Zdk (.sl 3 ps none) a) (hr : ps.length <= 1000000) (hf : ps.flatten.length <= 100000000) (K : AV -> St -> Prop) (hK : ∀ v τ, Hd τ 5 1 v ps.flatten.length (bys ps.flatten) -> Ext σ τ -> (∀ b, hbk v = some b -> Zgq σ b) -> K v τ) : Zay Tryd.prog 53 [a] σ K := ZuS (rows_at ha) hr hf K hK
end
end Go.Proofs.YteempnebenjkmaaDoor
