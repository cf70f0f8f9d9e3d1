/- XRda, XRdb, XRdc, XRdd, XRde, XRdf in one. -/
import Derived.Test.YteempnebenjkmaaGreatDoorMi
import Derived.Test.YteempnebenjkmaaGreatDoorMe
import Derived.Test.YteempnebenjkmaaGreatDoorMg
namespace Go.Proofs.YteempnebenjkmaaGreatDoor
open Go.RowKit
set_option maxRecDepth 100000
set_option linter.unusedVariables false
set_option linter.unusedSimpArgs false
theorem ZcL : Zba Tryz.prog 34 = some [(0, some 1, some false), (1, some 1, some false), (2, some 1, some false)] := by kernel_rfl
theorem Zkd : Zba Tryz.prog 91 = some [(0, some 1, some false), (1, some 1, some false)] := by kernel_rfl
theorem ZcM : Zar Tryz.prog 31 = some 91 := by kernel_rfl
theorem Zwp : Zar Tryz.prog 32 = some 94 := by kernel_rfl
theorem ZdR : Zav Tryz.prog 91 = some 2 := by kernel_rfl
theorem ZsC : Zav Tryz.prog 94 = some 2 := by kernel_rfl
theorem Zej : Zav Tryz.prog 31 = some 1 := by kernel_rfl
theorem Zwq : Zav Tryz.prog 32 = some 1 := by kernel_rfl
theorem ZeZ : Ze0 Tryz.prog 31 = some false := by kernel_rfl
theorem ZAl : Ze0 Tryz.prog 32 = some false := by kernel_rfl
theorem Zke : ZaS Tryz.prog 91 = some (.agg #[.string ⟨#[]⟩, .slice none 0 0]) := by kernel_rfl
theorem ZoL : ZaS Tryz.prog 94 = some (.agg #[.string ⟨#[]⟩, .int .i64 0]) := by kernel_rfl
theorem ZAm : ZbS Tryz.prog 91 = some [(0, 1), (1, 1)] := by kernel_rfl
theorem Zx9 : ZbS Tryz.prog 94 = some [(0, 1), (1, 1)] := by kernel_rfl
theorem Zrp : Zb5 Tryz.prog 91 = some 40 := by kernel_rfl
theorem Zya : Zb5 Tryz.prog 94 = some 24 := by kernel_rfl
theorem ZnA {α β : Type} {f : α -> β} : ∀ {l : List α}, (l.map f).Nodup -> ∀ x ∈ l, ∀ y ∈ l, f x = f y -> x = y
 | a :: l, hn, x, hx, y, hy, e => by
  rw [List.map_cons, List.nodup_cons] at hn
  rcases List.mem_cons.1 hx with e1 | h1 <;> rcases List.mem_cons.1 hy with e2 | h2
  ·rw [e1, e2]
  ·exact absurd (List.mem_map.2 ⟨y, h2, by rw [<- e, e1]⟩) hn.1
  ·exact absurd (List.mem_map.2 ⟨x, h1, by rw [e, e2]⟩) hn.1
  ·exact ZnA hn.2 x h1 y h2 e
theorem Zyb {α : Type} {l : List α} (h : l.Nodup) {i j : Nat} {hi : i < l.length} {hj : j < l.length} (e : l[i] = l[j]) : i = j := by
 rcases Nat.lt_trichotomy i j with q | q | q
 ·exact absurd e (List.pairwise_iff_getElem.1 h i j hi hj q)
 ·exact q
 ·exact absurd e.symm (List.pairwise_iff_getElem.1 h j i hj hi q)
def rfC (l : List Rw) : List AV := l.flatMap fun r => [.raw (sV r.nm), r.v]
abbrev PL := List (List UInt8 × Nat)
def rpC (l : PL) : List AV := l.flatMap fun p => [.raw (sV p.1), vI p.2]
theorem Zwr {α : Type} {f g : α -> AV} : ∀ {l : List α} {i : Nat} (h : i < l.length), (l.flatMap fun x => [f x, g x])[i * 2 + 0]? = some (f l[i]) /\ (l.flatMap fun x => [f x, g x])[i * 2 + 1]? = some (g l[i])
 | x :: l, 0, _ => ⟨rfl, rfl⟩
 | x :: l, i + 1, h => by
  have := Zwr (f := f) (g := g) (l := l) (i := i) (by simpa using h)
  rw [List.flatMap_cons]
  rw [show (i + 1) * 2 + 0 = (i * 2 + 0) + 2 by omega, show (i + 1) * 2 + 1 = (i * 2 + 1) + 2 by omega]
  exact this
theorem ZsD {α : Type} {f g : α -> AV} : ∀ (l : List α) (i : Nat), (l.flatMap fun x => [f x, g x]).drop (i * 2) = (l.drop i).flatMap fun x => [f x, g x]
 | l, 0 => rfl
 | [], i + 1 => by simp
 | x :: l, i + 1 => by
  rw [List.flatMap_cons, show (i + 1) * 2 = i * 2 + 2 by omega, List.drop_succ_cons]
  exact ZsD l i
theorem ZsE {α : Type} {f g : α -> AV} : ∀ (l : List α) (i : Nat), (l.flatMap fun x => [f x, g x]).take (i * 2) = (l.take i).flatMap fun x => [f x, g x]
 | l, 0 => by simp
 | [], i + 1 => by simp
 | x :: l, i + 1 => by
  rw [List.flatMap_cons, show (i + 1) * 2 = i * 2 + 2 by omega, List.take_succ_cons, List.flatMap_cons]
  show f x :: g x :: ((l.flatMap fun x => [f x, g x]).take (i * 2)) = _
  rw [ZsE l i]
  rfl
theorem Zws {α : Type} {f g : α -> AV} : ∀ (l : List α) (i : Nat) (y : α), i < l.length -> ∀ x, l[i]? = some x -> (f y = f x -> (l.flatMap fun x => [f x, g x]).set (i * 2 + 1) (g y) = (l.set i y).flatMap fun x => [f x, g x]) /\ (g y = g x -> (l.flatMap fun x => [f x, g x]).set (i * 2 + 0) (f y) = (l.set i y).flatMap fun x => [f x, g x])
 | z :: l, 0, y, _, x, hx => by
  injection hx with hx
  subst hx
  refine ⟨fun e => ?_, fun e => ?_⟩
  ·show f z :: g y :: _ = f y :: g y :: _
   rw [e]
  ·show f y :: g z :: _ = f y :: g y :: _
   rw [e]
 | z :: l, i + 1, y, h, x, hx => by
  have := Zws (f := f) (g := g) l i y (by simpa using h) x (by simpa using hx)
  rw [List.flatMap_cons, show (i + 1) * 2 + 0 = (i * 2 + 0) + 2 by omega, show (i + 1) * 2 + 1 = (i * 2 + 1) + 2 by omega]
  refine ⟨fun e => ?_, fun e => ?_⟩
  ·show f z :: g z :: ((l.flatMap fun x => [f x, g x]).set (i * 2 + 1) (g y)) = _
   rw [this.1 e]
   rfl
  ·show f z :: g z :: ((l.flatMap fun x => [f x, g x]).set (i * 2 + 0) (f y)) = _
   rw [this.2 e]
   rfl
structure RAt (σ : St) (rb : Nat) (S : Nat -> Prop) (l : List Rw) (ps : PL) (size : Int) (fv pv : AV) : Prop where
 obj : σ.blk rb = some (.own 34 [.raw (.int .i64 size), fv, pv])
 used : σ.used rb
 fl : Hd σ 91 2 fv l.length (rfC l)
 row : ∀ r ∈ l, Hd σ 5 1 r.v r.d.length (bys r.d)
 nn : (l.map (·.nm)).Nodup
 far : ∀ r ∈ l, ∀ q ∈ l, ∀ x, hbk r.v = some x -> hbk q.v = some x -> r.nm = q.nm
 pc : Hd σ 94 2 pv ps.length (rpC ps)
 own : S rb /\ (∀ x, hbk fv = some x -> S x) /\ (∀ r ∈ l, ∀ x, hbk r.v = some x -> S x) /\ ∀ x, hbk pv = some x -> S x
 su : ∀ c, S c -> σ.used c
section
variable {σ τ : St} {rb : Nat} {S : Nat -> Prop} {l : List Rw} {ps : PL} {size : Int} {fv pv : AV} {K : AV -> St -> Prop}
theorem RAt.but {U : Nat -> Prop} (h : RAt σ rb S l ps size fv pv) (k : But U σ τ) (hU : ∀ b, S b -> ¬ U b) : RAt τ rb S l ps size fv pv := by
 obtain ⟨o1, o2, o3, o4⟩ := h.own
 exact ⟨k.keep _ _ (hU _ o1) h.obj, k.used _ h.used, h.fl.but k fun b hb => hU _ (o2 b hb), fun r hr => (h.row r hr).but k fun b hb => hU _ (o3 r hr b hb), h.nn, h.far, h.pc.but k fun b hb => hU _ (o4 b hb), h.own, fun c hc => k.used _ (h.su c hc)⟩
theorem RAt.ext (h : RAt σ rb S l ps size fv pv) (k : Ext σ τ) : RAt τ rb S l ps size fv pv := h.but (U := fun _ => False) k.but fun _ _ => id
theorem Zqj {i : Nat} (hi : i < l.length) : (rfC l)[i * 2 + 0]? = some (.raw (sV l[i].nm)) /\ (rfC l)[i * 2 + 1]? = some l[i].v := Zwr (f := fun r : Rw => .raw (sV r.nm)) (g := fun r : Rw => r.v) hi
theorem ZtS {α β : Type} {f : α -> β} {l : List α} (hn : (l.map f).Nodup) : ∀ x ∈ l, ∀ y ∈ l, f x = f y -> x = y := ZnA hn
theorem RAt.uniqN (h : RAt σ rb S l ps size fv pv) {r q : Rw} (hr : r ∈ l) (hq : q ∈ l) (e : r.nm = q.nm) : r = q := ZtS h.nn r hr q hq e
theorem ZoM {e e' sz sz' n m : Nat} {u v : AV} {cs ds : List AV} (hu : Hd σ e sz u n cs) (hv : Hd σ e' sz' v m ds) (hne : e ≠ e') {c : Nat} (h1 : hbk u = some c) : ¬ hbk v = some c := hu.ne hv hne h1
theorem Zhe {e sz n : Nat} {u : AV} {cs : List AV} {b : Nat} {t : TypeId} {xs : List AV} (hu : Hd σ e sz u n cs) (hb : σ.blk b = some (.own t xs)) (hne : e ≠ t) {c : Nat} (h1 : hbk u = some c) : ¬ c = b := fun q => by
 obtain ⟨all, hall⟩ := hu.blk h1
 exact ZdK hall hb hne q
theorem RAt.setF (h : RAt σ rb S l ps size fv pv) {l' : List Rw} {fv' : AV} (k : But (fun c => c = rb \/ hbk fv = some c) σ τ) (hb : τ.blk rb = some (.own 34 [.raw (.int .i64 size), fv', pv])) (hfl : Hd τ 91 2 fv' l'.length (rfC l')) (hrow : ∀ r ∈ l', r ∈ l \/ (r.v = .lst none 0 0 [] /\ r.d = [])) (nn : (l'.map (·.nm)).Nodup) :
 RAt τ rb (fun c => S c \/ hbk fv' = some c) l' ps size fv' pv := by
 obtain ⟨o1, o2, o3, o4⟩ := h.own
 refine ⟨hb, k.used _ h.used, hfl, fun r hr => ?_, nn, fun r hr q hq x hx hy => ?_, h.pc.but k fun c hc hq => ?_, ⟨.inl o1, fun x hx => .inr hx, fun r hr x hx => ?_, fun x hx => .inl (o4 x hx)⟩, fun c hc => hc.elim (fun q => k.used _ (h.su c q)) fun q => hfl.used q⟩
 ·rcases hrow r hr with hr | ⟨e1, e2⟩
  ·refine (h.row r hr).but k fun c hc hq => ?_
   rcases hq with hq | hq
   ·exact Zhe (h.row r hr) h.obj (by decide) hc hq
   ·exact ZoM (h.row r hr) h.fl (by decide) hc hq
  ·rw [e1, e2]
   exact ⟨by simp [bys], by simp [bys], .inl ⟨.inl rfl, rfl⟩⟩
 ·rcases hrow r hr with hr | ⟨e1, e2⟩
  ·rcases hrow q hq with hq | ⟨e1, e2⟩
   ·exact h.far r hr q hq x hx hy
   ·rw [e1] at hy
    cases hy
  ·rw [e1] at hx
   cases hx
 ·rcases hq with hq | hq
  ·exact Zhe h.pc h.obj (by decide) hc hq
  ·exact ZoM h.pc h.fl (by decide) hc hq
 ·rcases hrow r hr with hr | ⟨e1, e2⟩
  ·exact .inl (o3 r hr x hx)
  ·rw [e1] at hx
   cases hx
theorem RAt.setR0 (h : RAt σ rb S l ps size fv pv) {i : Nat} (hi : i < l.length) {v' : AV} {d' : List UInt8} (k : But (fun c => hbk fv = some c \/ hbk l[i].v = some c) σ τ) (hfl : Hd τ 91 2 fv l.length (rfC (l.set i ⟨l[i].nm, v', d'⟩))) (hv : Hd τ 5 1 v' d'.length (bys d')) (hnew : ∀ c, hbk v' = some c -> hbk l[i].v = some c \/ ∀ r ∈ l, hbk r.v ≠ some c) :
 RAt τ rb (fun c => S c \/ hbk v' = some c) (l.set i ⟨l[i].nm, v', d'⟩) ps size fv pv := by
 obtain ⟨o1, o2, o3, o4⟩ := h.own
 have hmi := List.getElem_mem hi
 have hnm : (l.set i ⟨l[i].nm, v', d'⟩).map (·.nm) = l.map (·.nm) := by
  rw [List.map_set]
  apply List.ext_getElem?
  intro j
  rw [List.getElem?_set]
  split
  ·rename_i e
   subst e
   rw [if_pos (by rw [List.length_map]; exact hi), List.getElem?_map, List.getElem?_eq_getElem hi]
   rfl
  ·rfl
 have hmem : ∀ r ∈ l.set i ⟨l[i].nm, v', d'⟩, r = ⟨l[i].nm, v', d'⟩ \/ (r ∈ l /\ r.nm ≠ l[i].nm) := fun r hr => by
  obtain ⟨j, hj, rfl⟩ := List.getElem_of_mem hr
  rw [List.getElem_set]
  split
  ·exact .inl rfl
  ·rename_i hne
   rw [List.length_set] at hj
   refine .inr ⟨List.getElem_mem hj, fun e => hne ?_⟩
   have hnd := h.nn
   have e1 : (l.map (·.nm))[j]'(by rw [List.length_map]; exact hj) = (l.map (·.nm))[i]'(by rw [List.length_map]; exact hi) := by rw [List.getElem_map, List.getElem_map]; exact e
   exact (Zyb hnd e1).symm
 refine ⟨k.keep _ _ (fun hq => ?_) h.obj, k.used _ h.used, by rw [List.length_set]; exact hfl, fun r hr => ?_, by rw [hnm]; exact h.nn, fun r hr q hq x hx hy => ?_, h.pc.but k fun c hc hq => ?_, ⟨.inl o1, fun x hx => .inl (o2 x hx), fun r hr x hx => ?_, fun x hx => .inl (o4 x hx)⟩, fun c hc => hc.elim (fun q => k.used _ (h.su c q)) fun q => hv.used q⟩
 ·rcases hq with hq | hq
  ·exact Zhe h.fl h.obj (by decide) hq rfl
  ·exact Zhe (h.row _ hmi) h.obj (by decide) hq rfl
 ·rcases hmem r hr with rfl | ⟨hr, hne⟩
  ·exact hv
  ·refine (h.row r hr).but k fun c hc hq => ?_
   rcases hq with hq | hq
   ·exact ZoM (h.row r hr) h.fl (by decide) hc hq
   ·exact hne (h.far r hr _ hmi c hc hq)
 ·rcases hmem r hr with rfl | ⟨hr, hne⟩ <;> rcases hmem q hq with rfl | ⟨hq, hne2⟩
  ·rfl
  ·exfalso
   rcases hnew x hx with q1 | q1
   ·exact hne2 (h.far q hq _ hmi x hy q1)
   ·exact q1 q hq hy
  ·exfalso
   rcases hnew x hy with q1 | q1
   ·exact hne (h.far r hr _ hmi x hx q1)
   ·exact q1 r hr hx
  ·exact h.far r hr q hq x hx hy
 ·rcases hq with hq | hq
  ·exact ZoM h.pc h.fl (by decide) hc hq
  ·exact ZoM h.pc (h.row _ hmi) (by decide) hc hq
 ·rcases hmem r hr with rfl | ⟨hr, hne⟩
  ·exact .inr hx
  ·exact .inl (o3 r hr x hx)
theorem RAt.setR (h : RAt σ rb S l ps size fv pv) {i : Nat} (hi : i < l.length) {v' : AV} {d' : List UInt8} (k : But (fun c => hbk fv = some c \/ hbk l[i].v = some c) σ τ) (hfl : Hd τ 91 2 fv l.length (rfC (l.set i ⟨l[i].nm, v', d'⟩))) (hv : Hd τ 5 1 v' d'.length (bys d')) (hnew : ∀ c, hbk v' = some c -> hbk l[i].v = some c \/ Zc2 σ c) :
 RAt τ rb (fun c => S c \/ hbk v' = some c) (l.set i ⟨l[i].nm, v', d'⟩) ps size fv pv := h.setR0 hi k hfl hv fun c hc => (hnew c hc).imp id fun q r hr e => q.2 ((h.row r hr).used e)
theorem RAt.setP (h : RAt σ rb S l ps size fv pv) {ps' : PL} {pv' : AV} (k : But (fun c => c = rb \/ hbk pv = some c) σ τ) (hb : τ.blk rb = some (.own 34 [.raw (.int .i64 size), fv, pv'])) (hpc : Hd τ 94 2 pv' ps'.length (rpC ps')) :
 RAt τ rb (fun c => S c \/ hbk pv' = some c) l ps' size fv pv' := by
 obtain ⟨o1, o2, o3, o4⟩ := h.own
 refine ⟨hb, k.used _ h.used, h.fl.but k fun c hc hq => ?_, fun r hr => (h.row r hr).but k fun c hc hq => ?_, h.nn, h.far, hpc, ⟨.inl o1, fun x hx => .inl (o2 x hx), fun r hr x hx => .inl (o3 r hr x hx), fun x hx => .inr hx⟩, fun c hc => hc.elim (fun q => k.used _ (h.su c q)) fun q => hpc.used q⟩
 ·rcases hq with hq | hq
  ·exact Zhe h.fl h.obj (by decide) hc hq
  ·exact ZoM h.fl h.pc (by decide) hc hq
 ·rcases hq with hq | hq
  ·exact Zhe (h.row r hr) h.obj (by decide) hc hq
  ·exact ZoM (h.row r hr) h.pc (by decide) hc hq
theorem ZB4 (h : RAt σ rb S l ps size fv pv) (hl : l.length <= 1000000000) {k : List UInt8} (hK1 : ∀ i (hi : i < l.length), l[i].nm = k -> K (vI i) σ) (hK2 : (∀ r ∈ l, r.nm ≠ k) -> K (.raw (.int .i64 (-1))) σ) : Zal Tryz.prog 85 [ptr rb 0, .raw (sV k)] σ K := by
 refine Zas ZaH Tryz.func85 rfl rfl rfl (Nat.le_of_ble_eq_true rfl) ?_
 refine ZfJ 0 1 (v0 := ptr rb 0) (v1 := .raw (sV k)) rfl rfl ?_
 intro e he
 repeat refine Zab ?_
 first|refine Zaa ?_|refine Zac ?_
 refine Zah ?_
 refine Zae ?_
 refine kp2 0 1 ?_
 clear he e
 intro e he
 repeat refine Zab ?_
 first|refine Zaa ?_|refine Zac ?_
 refine Zah ?_
 refine Zae ?_
 refine kp3 0 1 5 ?_
 clear he e
 intro e he
 refine Zb7 ?_
 refine Zdn (fun μ env υ => ∃ (i : Nat), μ = l.length - i /\ i <= l.length /\ (env 0 = ptr rb 0 /\ env 1 = .raw (sV k) /\ env 5 = vI i) /\ υ = σ /\ ∀ r ∈ l.take i, r.nm ≠ k) ⟨_, 0, rfl, Nat.zero_le _, he, rfl, fun r hr => by cases hr⟩ ?_
 clear he e
 rintro _ e _ ⟨i, rfl, hi, he, rfl, hno⟩
 repeat refine Zab ?_
 first|refine Zaa ?_|refine Zac ?_
 refine Zah ?_
 refine ZmK (b := rb) he.1 ZcL rfl h.obj rfl ZeZ Zej fun u1 u2 u3 => ?_
 refine Zad ?_
 refine ZhX rfl h.fl rfl ZcM ?_
 refine ZjG i l.length ?_
 refine Zae ?_
 refine kp4 0 1 5 12 ?_
 clear he e
 intro e he
 refine ZaT (t := decide (i < l.length)) he.2.2.2 (fun ht => ?_) (fun ht => ?_)
 ·have hlt : i < l.length := of_decide_eq_true ht
  refine Za6 ?_
  refine Zb7 ?_
  repeat refine Zab ?_
  first|refine Zaa ?_|refine Zac ?_
  refine ZmK (b := rb) he.1 ZcL rfl h.obj rfl ZeZ Zej fun u1 u2 u3 => ?_
  refine Zah ?_
  refine Zu9 rfl rfl ZcM ZdR h.fl hlt Zkd rfl (Zqj hlt).1 ZcQ ZbX fun u1 u2 => ?_
  refine Zah ?_
  refine Zad ?_
  refine Zr1 (a := l[i].nm) (c := k) ZgS rfl rfl ?_
  refine Zae ?_
  refine kp4 0 1 5 24 ?_
  clear he e
  intro e he
  refine ZcJ (t := decide (l[i].nm = k)) he.2.2.2 (fun hq => ?_) (fun hq => ?_)
  ·repeat refine Zab ?_
   first|refine Zaa ?_|refine Zac ?_
   refine Zah ?_
   refine Zah ?_
   refine Zae ?_
   refine ZaZ ?_
   exact ZbW (hK1 i hlt (of_decide_eq_true hq))
  ·have hq := of_decide_eq_false hq
   refine ZeD ?_
   show ZaJ _ _ _ _ _ _
   refine Zac ?_
   refine Zah ?_
   refine ZfM i 1 ?_
   refine Zah ?_
   refine Zae ?_
   show ∃ n', n' < _ /\ _
   refine ⟨_, (by omega : l.length - (i + 1) < l.length - i), i + 1, rfl, hlt, ⟨by simp only [EV,Nat.reduceEqDiff,↓reduceIte,he];try rfl, by simp only [EV,Nat.reduceEqDiff,↓reduceIte,he];try rfl, by simp only [EV,Nat.reduceEqDiff,↓reduceIte,he];try rfl⟩, rfl, fun r hr => ?_⟩
   rw [List.take_succ_eq_append_getElem hlt] at hr
   rcases List.mem_append.1 hr with hr | hr
   ·exact hno r hr
   ·rw [List.mem_singleton.1 hr]; exact hq
 ·have hke : i = l.length := by have := of_decide_eq_false ht; omega
  refine Ze5 ?_
  show ZaJ _ _ _ _ _ _
  repeat refine Zab ?_
  first|refine Zaa ?_|refine Zac ?_
  refine Zah ?_
  refine Zae ?_
  refine ZaZ ?_
  rw [hke, List.take_length] at hno
  exact ZbW (hK2 hno)
end
theorem ZyN : Zb5 Tryz.prog 5 = some 1 := by kernel_rfl
theorem ZAn (l m : PL) : rpC (l ++ m) = rpC l ++ rpC m := by simp [rpC]
theorem ZAo (l m : List Rw) : rfC (l ++ m) = rfC l ++ rfC m := by simp [rfC]
theorem ZB5 {a b : AV} (ha : a.one = true) (hb : b.one = true) : ∀ x ∈ [a, b], x.one = true := fun x hx => by
 simp only [List.mem_cons, List.not_mem_nil, or_false] at hx
 rcases hx with rfl | rfl
 ·exact ha
 ·exact hb
section
variable {σ τ : St} {rb : Nat} {S : Nat -> Prop} {l : List Rw} {ps : PL} {size : Int} {fv pv : AV} {K : AV -> St -> Prop}
theorem Zyc (h : RAt σ rb S l ps size fv pv) (hl : l.length <= 1000000000) (hfl : ∀ r ∈ l, r.d.length <= 1000000000) {k : List UInt8} (hK1 : (∀ r ∈ l, r.nm ≠ k) -> K (.tup [.lst none 0 0 [], vT false]) σ)
 (hK2 : ∀ r ∈ l, r.nm = k -> ∀ v τ, Hd τ 5 1 v r.d.length (bys r.d) -> Ext σ τ -> (∀ c, hbk v = some c -> Zc2 σ c) -> K (.tup [v, vT true]) τ) : Zal Tryz.prog 45 [ptr rb 0, .raw (sV k)] σ K := by
 refine Zas ZaH Tryz.func45 rfl rfl rfl (Nat.le_of_ble_eq_true rfl) ?_
 refine ZfJ 0 1 (v0 := ptr rb 0) (v1 := .raw (sV k)) rfl rfl ?_
 intro e he
 repeat refine Zab ?_
 first|refine Zaa ?_|refine Zac ?_
 refine Zah ?_
 refine Zah ?_
 refine Zae ?_
 refine kp2 0 1 ?_
 clear he e
 intro e he
 repeat refine Zab ?_
 first|refine Zaa ?_|refine Zac ?_
 refine Zah ?_
 refine Zah ?_
 refine ZaK [ptr rb 0, .raw (sV k)] ?_
 refine ZB4 h hl (fun i hi hn => ?_) fun hno => ?_
 ·refine Zah ?_
  refine Zae ?_
  refine kp2 0 6 ?_
  clear he e
  intro e he
  repeat refine Zab ?_
  first|refine Zaa ?_|refine Zac ?_
  refine Zah ?_
  refine Zad ?_
  refine ZsS (k := .i64) (a := (i : Int)) (b := 0) rfl rfl ?_
  rw [decide_eq_false (by omega : ¬ (i : Int) < 0)]
  refine Zae ?_
  refine kp3 0 6 11 ?_
  clear he e
  intro e he
  refine ZaT (t := false) he.2.2 (fun hf => by cases hf) (fun _ => ?_)
  refine Za6 ?_
  repeat refine Zab ?_
  first|refine Zaa ?_|refine Zac ?_
  refine Zzt Zc9 ZlP ZlR rfl fun ad υ1 hX1 => ?_
  have h1 := h.ext hX1
  have hm := List.getElem_mem hi
  refine ZmK (b := rb) he.1 ZcL rfl h1.obj rfl ZeZ Zej fun u1 u2 u3 => ?_
  refine Zah ?_
  refine Zu9 rfl rfl ZcM ZdR h1.fl hi Zkd rfl (Zqj hi).2 Zfs Zda fun u1 u2 => ?_
  refine Zad ?_
  have hr := h1.row _ hm
  have hd := hfl _ hm
  refine Zch (m := l[i].d.length) (news := bys l[i].d) rfl rfl Zc9 ZlP ZlR ZyN rfl (by omega) (ZCm ad) (hr.src (by omega)) (by unfold maxLen; omega) (by omega) fun v2 υ2 hv2 hB2 hn2 => ?_
  rw [Nat.zero_add, List.nil_append] at hv2
  refine Zah ?_
  refine Zah ?_
  refine Zae ?_
  refine ZaZ ?_
  have hE2 : Ext σ υ2 := But.ext hX1 (fun c hc => by cases hc) hB2
  refine Zix rfl (Za4 rfl) (Za4 rfl) (hK2 _ hm hn v2 υ2 hv2 hE2 fun c hc => ?_)
  rcases hn2 c hc with q | q
  ·cases q
  ·exact Zc2.of q hX1
 ·refine Zah ?_
  refine Zae ?_
  refine kp2 0 6 ?_
  clear he e
  intro e he
  repeat refine Zab ?_
  first|refine Zaa ?_|refine Zac ?_
  refine Zah ?_
  refine Zad ?_
  refine ZsS (k := .i64) (a := -1) (b := 0) rfl rfl ?_
  refine Zae ?_
  refine kp3 0 6 11 ?_
  clear he e
  intro e he
  refine ZaT (t := true) he.2.2 (fun _ => ?_) (fun hf => by cases hf)
  repeat refine Zab ?_
  first|refine Zaa ?_|refine Zac ?_
  refine Zah ?_
  refine Zah ?_
  refine Zae ?_
  refine Zfo ?_
  exact Zix rfl (Za4 rfl) (Za4 rfl) (hK1 hno)
end
theorem Zyd (l : List Rw) (i : Nat) : (rfC l).drop (i * 2) = rfC (l.drop i) := ZsD l i
theorem Zye (l : List Rw) (i : Nat) : (rfC l).take (i * 2) = rfC (l.take i) := ZsE l i
section
variable {σ τ : St} {rb : Nat} {S : Nat -> Prop} {l : List Rw} {ps : PL} {size : Int} {fv pv : AV} {K : AV -> St -> Prop}
theorem ZAp (h : RAt σ rb S l ps size fv pv) (hl : l.length <= 100000000) {k : List UInt8} (hK1 : ∀ i (hi : i < l.length), l[i].nm = k -> K (vI i) σ)
 (hK2 : (∀ r ∈ l, r.nm ≠ k) -> ∀ i, i <= l.length -> (∀ r ∈ l.take i, r.nm < k) -> (∀ hi : i < l.length, ¬ l[i].nm < k) -> ∀ τ S' fv', RAt τ rb S' (l.take i ++ ⟨k, .lst none 0 0 [], []⟩ :: l.drop i) ps size fv' pv -> But S σ τ -> (∀ c, S c -> S' c) -> (∀ c, S' c -> S c \/ Zc2 σ c) -> K (vI i) τ) :
 Zal Tryz.prog 42 [ptr rb 0, .raw (sV k)] σ K := by
 refine Zas ZaH Tryz.func42 rfl rfl rfl (Nat.le_of_ble_eq_true rfl) ?_
 refine ZfJ 0 1 (v0 := ptr rb 0) (v1 := .raw (sV k)) rfl rfl ?_
 intro e he
 repeat refine Zab ?_
 first|refine Zaa ?_|refine Zac ?_
 refine Zah ?_
 refine Zae ?_
 refine kp2 0 1 ?_
 clear he e
 intro e he
 repeat refine Zab ?_
 first|refine Zaa ?_|refine Zac ?_
 refine Zah ?_
 refine Zah ?_
 refine ZaK [ptr rb 0, .raw (sV k)] ?_
 refine ZB4 h (by omega) (fun i hi hn => ?_) fun hno => ?_
 ·refine Zah ?_
  refine Zae ?_
  refine kp3 0 1 5 ?_
  clear he e
  intro e he
  repeat refine Zab ?_
  first|refine Zaa ?_|refine Zac ?_
  refine Zah ?_
  refine Zad ?_
  refine ZyX (k := .i64) (a := (i : Int)) (b := 0) rfl rfl ?_
  rw [decide_eq_true (by omega : (0 : Int) <= (i : Int))]
  refine Zae ?_
  refine kp4 0 1 5 11 ?_
  clear he e
  intro e he
  refine ZaT (t := true) he.2.2.2 (fun _ => ?_) (fun hf => by cases hf)
  repeat refine Zab ?_
  first|refine Zaa ?_|refine Zac ?_
  refine Zah ?_
  refine Zah ?_
  refine Zae ?_
  refine Zfo ?_
  exact ZbW (hK1 i hi hn)
 refine Zah ?_
 refine Zae ?_
 refine kp3 0 1 5 ?_
 clear he e
 intro e he
 repeat refine Zab ?_
 first|refine Zaa ?_|refine Zac ?_
 refine Zah ?_
 refine Zad ?_
 refine ZyX (k := .i64) (a := -1) (b := 0) rfl rfl ?_
 refine Zae ?_
 refine kp3 0 1 11 ?_
 clear he e
 intro e he
 refine ZaT (t := false) he.2.2 (fun hf => by cases hf) (fun _ => ?_)
 refine Za6 ?_
 repeat refine Zab ?_
 first|refine Zaa ?_|refine Zac ?_
 refine Zah ?_
 refine Zae ?_
 refine kp3 0 1 5 ?_
 clear he e
 intro e he
 refine Zds (fun env υ => ∃ i : Nat, (env 0 = ptr rb 0 /\ env 1 = .raw (sV k) /\ env 5 = vI i) /\ σ = υ /\ i <= l.length /\ (∀ r ∈ l.take i, r.nm < k) /\ (∀ hi : i < l.length, ¬ l[i].nm < k)) ?_ ?_
 ·refine ZdT ?_
  refine Zdn (fun μ env υ => ∃ i : Nat, μ = l.length - i /\ (env 0 = ptr rb 0 /\ env 1 = .raw (sV k) /\ env 5 = vI i) /\ σ = υ /\ i <= l.length /\ (∀ r ∈ l.take i, r.nm < k)) ⟨_, 0, rfl, he, rfl, Nat.zero_le _, fun r hr => by cases hr⟩ ?_
  clear he e
  rintro _ e _ ⟨i, rfl, he, rfl, hi, hlt0⟩
  refine Zab ?_
  refine Zds (fun env υ => ∃ b : Bool, (env 0 = ptr rb 0 /\ env 1 = .raw (sV k) /\ env 5 = vI i /\ env 31 = vT b) /\ σ = υ /\ (b = true -> ∃ hi : i < l.length, l[i].nm < k) /\ (b = false -> ∀ hi : i < l.length, ¬ l[i].nm < k)) ?_ ?_
  ·refine Zac ?_
   refine Zah ?_
   refine ZmK (b := rb) (by simp only [EV,Nat.reduceEqDiff,↓reduceIte,he];try rfl) ZcL rfl h.obj rfl ZeZ Zej fun u1 u2 u3 => ?_
   refine Zad ?_
   refine ZhX (by simp only [EV,Nat.reduceEqDiff,↓reduceIte,he];try rfl) h.fl rfl ZcM ?_
   refine ZjG i l.length ?_
   refine Zah ?_
   by_cases hlt : i < l.length
   ·rw [decide_eq_true hlt]
    refine Zcn ?_
    refine ZjE rfl (v := ptr rb 0) (by simp only [EV,Nat.reduceEqDiff,↓reduceIte,he];try rfl) ?_
    refine Zcn ?_
    refine ZaF (v := ptr rb 0) (by simp only [EV,Nat.reduceEqDiff,↓reduceIte,he];try rfl) rfl ?_
    refine Zcn ?_
    refine Zai (b := rb) (o := 0) (by simp only [EV,Nat.reduceEqDiff,↓reduceIte,he];try rfl) ZcL rfl ?_
    refine Zcn ?_
    refine ZaC (b := rb) (o := 0 + 1) (r := fv) (by simp only [EV,Nat.reduceEqDiff,↓reduceIte,he];try rfl) h.obj ZeZ Zej rfl ?_
    refine Zcn ?_
    refine ZjE rfl (by simp only [EV,Nat.reduceEqDiff,↓reduceIte,he];try rfl) ?_
    refine Zcn ?_
    refine ZdV (k := .i64) (j := i) (by simp only [EV,Nat.reduceEqDiff,↓reduceIte,he];try rfl) (by simp only [EV,Nat.reduceEqDiff,↓reduceIte,he];try rfl) ZcM ZdR h.fl hlt fun b hb => ?_
    refine Zcn ?_
    refine Zai (b := b) (o := i * 2) (by simp only [EV,Nat.reduceEqDiff,↓reduceIte,he];try rfl) Zkd rfl ?_
    refine Zcn ?_
    refine Zzs (by simp only [EV,Nat.reduceEqDiff,↓reduceIte,he];try rfl) h.fl hb (Zqj hlt).1 ZcQ ZbX ?_
    refine Zcn ?_
    refine ZjE rfl (by simp only [EV,Nat.reduceEqDiff,↓reduceIte,he];try rfl) ?_
    refine Zcn ?_
    refine Zxi (a := l[i].nm) (c := k) ZgS (by simp only [EV,Nat.reduceEqDiff,↓reduceIte,he];try rfl) (by simp only [EV,Nat.reduceEqDiff,↓reduceIte,he];try rfl) ?_
    refine Zad ?_
    refine Zbb (v := vT (decide (l[i].nm < k))) (by simp only [EV,Nat.reduceEqDiff,↓reduceIte,he];try rfl) (by simp only [EV,Nat.reduceEqDiff,↓reduceIte,he];try rfl) ?_
    refine Zae ?_
    exact ⟨rfl, decide (l[i].nm < k), ⟨by simp only [EV,Nat.reduceEqDiff,↓reduceIte,he];try rfl, by simp only [EV,Nat.reduceEqDiff,↓reduceIte,he];try rfl, by simp only [EV,Nat.reduceEqDiff,↓reduceIte,he];try rfl, by simp only [EV,Nat.reduceEqDiff,↓reduceIte,he];try rfl⟩, rfl, fun q => ⟨hlt, of_decide_eq_true q⟩, fun q _ => of_decide_eq_false q⟩
   ·rw [decide_eq_false hlt]
    refine Zbk ?_
    refine Zbk ?_
    refine Zbk ?_
    refine Zbk ?_
    refine Zbk ?_
    refine Zbk ?_
    refine Zbk ?_
    refine Zbk ?_
    refine Zbk ?_
    refine Zbk ?_
    refine Zad ?_
    refine ZbR (v := vT false) (by simp only [EV,Nat.reduceEqDiff,↓reduceIte,he];try rfl) (by simp only [EV,Nat.reduceEqDiff,↓reduceIte,he];try rfl) ?_
    refine Zae ?_
    exact ⟨rfl, false, ⟨by simp only [EV,Nat.reduceEqDiff,↓reduceIte,he];try rfl, by simp only [EV,Nat.reduceEqDiff,↓reduceIte,he];try rfl, by simp only [EV,Nat.reduceEqDiff,↓reduceIte,he];try rfl, by simp only [EV,Nat.reduceEqDiff,↓reduceIte,he];try rfl⟩, rfl, (fun q => by cases q), fun _ hi => absurd hi hlt⟩
  clear he e
  rintro e _ ⟨b, he, rfl, g1, g2⟩
  refine ZaT (t := b) (by simp only [EV,Nat.reduceEqDiff,↓reduceIte,he];try rfl) (fun hb => ?_) (fun hb => ?_)
  ·obtain ⟨hlt, hq⟩ := g1 hb
   refine Za6 ?_
   refine ZdT ?_
   refine Zac ?_
   refine Zah ?_
   refine ZfM i 1 ?_
   refine Zah ?_
   refine Zae ?_
   show ∃ n', n' < _ /\ _
   refine ⟨_, (by omega : l.length - (i + 1) < l.length - i), i + 1, rfl, ⟨by simp only [EV,Nat.reduceEqDiff,↓reduceIte,he];try rfl, by simp only [EV,Nat.reduceEqDiff,↓reduceIte,he];try rfl, by simp only [EV,Nat.reduceEqDiff,↓reduceIte,he];try rfl⟩, rfl, hlt, fun r hr => ?_⟩
   rw [List.take_succ_eq_append_getElem hlt] at hr
   rcases List.mem_append.1 hr with hr | hr
   ·exact hlt0 r hr
   ·rw [List.mem_singleton.1 hr]; exact hq
  ·refine Ze5 ?_
   exact ⟨rfl, i, ⟨by simp only [EV,Nat.reduceEqDiff,↓reduceIte,he];try rfl, by simp only [EV,Nat.reduceEqDiff,↓reduceIte,he];try rfl, by simp only [EV,Nat.reduceEqDiff,↓reduceIte,he];try rfl⟩, rfl, hi, hlt0, g2 hb⟩
 clear he e
 rintro e _ ⟨i, he, rfl, hi, hlt0, hge⟩
 repeat refine Zab ?_
 first|refine Zaa ?_|refine Zac ?_
 refine Zzt ZcM ZdR Zke rfl fun ad υ1 hX1 => ?_
 have h1 := h.ext hX1
 refine ZmK (b := rb) (by simp only [EV,Nat.reduceEqDiff,↓reduceIte,he];try rfl) ZcL rfl h1.obj rfl ZeZ Zej fun u1 u2 u3 => ?_
 refine Zah ?_
 refine Zad ?_
 refine Zxk (by simp only [EV,Nat.reduceEqDiff,↓reduceIte,he];try rfl) (by simp only [EV,Nat.reduceEqDiff,↓reduceIte,he];try rfl) ZcM ZdR (by decide) h1.fl hi fun r0 hsrc => ?_
 refine Zad ?_
 refine Zch (m := l.length - i) (news := (rfC l).drop (i * 2)) (by simp only [EV,Nat.reduceEqDiff,↓reduceIte,he];try rfl) (by simp only [EV,Nat.reduceEqDiff,↓reduceIte,he];try rfl) ZcM ZdR Zke Zrp rfl (by omega) (ZCm ad) (hsrc _ h1.fl) (by unfold maxLen; omega) (by omega) fun rv υ2 hrv hB2 hn2 => ?_
 rw [Nat.zero_add, List.nil_append, Zyd] at hrv
 have hX2 : Ext υ1 υ2 := But.ext (.refl _) (fun c hc => by cases hc) hB2
 have hE2 := hX1.trans hX2
 have hrn : ∀ c, hbk rv = some c -> Zc2 σ c := fun c hc => by
  rcases hn2 c hc with q | q
  ·cases q
  ·exact Zc2.of q hX1
 refine Zah ?_
 refine Zae ?_
 refine kp4 0 1 5 6 ?_
 clear he e
 intro e he
 have h2 := h1.ext hX2
 repeat refine Zab ?_
 first|refine Zaa ?_|refine Zac ?_
 refine Zah ?_
 refine ZmK (b := rb) (by simp only [EV,Nat.reduceEqDiff,↓reduceIte,he];try rfl) ZcL rfl h2.obj rfl ZeZ Zej fun u1 u2 u3 => ?_
 refine Zah ?_
 refine Zad ?_
 refine Zxr (by simp only [EV,Nat.reduceEqDiff,↓reduceIte,he];try rfl) (by simp only [EV,Nat.reduceEqDiff,↓reduceIte,he];try rfl) ZcM ZdR h2.fl hi fun fv1 hf1 hb1 => ?_
 rw [Zye] at hf1
 refine Zah ?_
 refine Zad ?_
 refine ZcI (vs := [.raw (sV k)]) (cells := [.raw (sV k), .lst none 0 0 []]) (by simp only [List.map_cons, List.map_nil, EV,Nat.reduceEqDiff,↓reduceIte,he]; try rfl) Zke ZAm rfl ?_
 refine Zad ?_
 refine Zif (vs := [.agg [.raw (sV k), .lst none 0 0 []]]) (cells := [.raw (sV k), .lst none 0 0 []]) (by simp only [List.map_cons, List.map_nil, EV,Nat.reduceEqDiff,↓reduceIte,he];try rfl) ZcM ZdR Zke rfl (by omega) rfl rfl fun b3 υ3 hN3 hX3 => ?_
 have h3 := h2.ext hX3
 refine Zad ?_
 refine Zch (m := 1) (news := [.raw (sV k), .lst none 0 0 []]) (r := .lst (some ⟨b3, 0, none⟩) 1 1 ([.raw (sV k), .lst none 0 0 []] ++ [])) (by simp only [EV,Nat.reduceEqDiff,↓reduceIte,he];try rfl) (by simp only [EV,Nat.reduceEqDiff,↓reduceIte,he];try rfl) ZcM ZdR Zke Zrp rfl (by omega) (hf1.ext hX3) (Zge rfl (ZB5 rfl rfl) (fun q => by cases q)) (by unfold maxLen; omega) (by omega) fun fv2 υ4 hf2 hB4 hn4 => ?_
 have hrv3 := hrv.ext hX3
 have hfu : ∀ c, hbk fv1 = some c -> hbk fv = some c := hb1
 have hrv4 : Hd υ4 91 2 rv (l.length - i) (rfC (l.drop i)) := hrv3.but hB4 fun c hc hq => (hrn c hc).2 (h.fl.used (hfu c hq))
 refine Zah ?_
 refine Zad ?_
 refine Zch (m := l.length - i) (news := rfC (l.drop i)) (by simp only [EV,Nat.reduceEqDiff,↓reduceIte,he];try rfl) (by simp only [EV,Nat.reduceEqDiff,↓reduceIte,he];try rfl) ZcM ZdR Zke Zrp rfl (by omega) hf2 (hrv4.src (by omega)) (by unfold maxLen; omega) (by omega) fun fv3 υ5 hf3 hB5 hn5 => ?_
 have hE3 := hE2.trans hX3
 have hn2' : ∀ c, hbk fv2 = some c -> hbk fv = some c \/ Zc2 υ3 c := fun c hc => (hn4 c hc).imp (hfu c) id
 have hB5' : But (fun c => hbk fv = some c) υ3 υ5 := (hB4.sub fun c hc => hfu c hc).ext2 (T := fun c => hbk fv2 = some c) (fun c hc => (hn2' c hc).imp id fun q => q.1) hB5
 refine ZBu (b := rb) (by simp only [EV,Nat.reduceEqDiff,↓reduceIte,he];try rfl) ZcL rfl fun u1 => ?_
 have hobj5 := hB5'.keep _ _ (fun hq => Zhe h3.fl h3.obj (by decide) hq rfl) h3.obj
 refine Zad ?_
 refine Zgg (b := rb) (o := 0 + 1) (v := fv3) (by simp only [EV,Nat.reduceEqDiff,↓reduceIte,he];try rfl) (by simp only [EV,Nat.reduceEqDiff,↓reduceIte,he];try rfl) hobj5 Zej hf3.oneV (by simp) fun υ6 hb6 k6 => ?_
 refine Zae ?_
 have hB6 : But (fun c => c = rb \/ hbk fv = some c) υ3 υ6 := (hB5'.sub fun c hc => .inr hc).trans (k6.sub fun c hc => .inl hc)
 have hcells : rfC (l.take i) ++ [.raw (sV k), .lst none 0 0 []] ++ rfC (l.drop i) = rfC (l.take i ++ ⟨k, .lst none 0 0 [], []⟩ :: l.drop i) := by
  rw [ZAo]
  show _ = rfC (l.take i) ++ ([.raw (sV k), .lst none 0 0 []] ++ rfC (l.drop i))
  rw [List.append_assoc]
 have hlen : (l.take i ++ (⟨k, .lst none 0 0 [], []⟩ : Rw) :: l.drop i).length = i + 1 + (l.length - i) := by
  rw [List.length_append, List.length_take, List.length_cons, List.length_drop]
  omega
 have hf6 : Hd υ6 91 2 fv3 (l.take i ++ (⟨k, .lst none 0 0 [], []⟩ : Rw) :: l.drop i).length (rfC (l.take i ++ ⟨k, .lst none 0 0 [], []⟩ :: l.drop i)) := by
  rw [hlen, <- hcells]
  exact hf3.but k6 fun c hc hq => Zhe hf3 hobj5 (by decide) hc hq
 have h6 := h3.setF hB6 hb6 hf6 (fun r hr => ?_) ?_
 ·refine kp1 5 ?_
  clear he e
  intro e he
  repeat refine Zab ?_
  first|refine Zaa ?_|refine Zac ?_
  refine Zah ?_
  refine Zah ?_
  refine Zae ?_
  refine ZaZ ?_
  have hS3 : ∀ c, (S c \/ hbk fv3 = some c) -> S c \/ Zc2 σ c := fun c hc => by
   rcases hc with hc | hc
   ·exact .inl hc
   ·rcases hn5 c hc with q | q
    ·rcases hn2' c q with q | q
     ·exact .inl (h.own.2.1 c q)
     ·exact .inr (Zc2.of q hE3)
    ·rcases Zd6 (hE3.but.trans (hB4.sub fun c hc => hfu c hc)) q with q | q
     ·exact .inl (h.own.2.1 c q)
     ·exact .inr q
  have hBS : But S σ υ6 := hE3.but.trans (hB6.sub fun c hc => by
   rcases hc with hc | hc
   ·rw [hc]; exact h.own.1
   ·exact h.own.2.1 c hc)
  exact ZbW (hK2 hno i hi hlt0 hge υ6 _ fv3 h6 hBS (fun c hc => .inl hc) hS3)
 ·rcases List.mem_append.1 hr with hr | hr
  ·exact .inl (List.mem_of_mem_take hr)
  ·rcases List.mem_cons.1 hr with rfl | hr
   ·exact .inr ⟨rfl, rfl⟩
   ·exact .inl (List.mem_of_mem_drop hr)
 ·have hnn := h.nn
  rw [List.map_append, List.map_cons]
  rw [<- List.take_append_drop i l, List.map_append, List.nodup_append] at hnn
  refine List.nodup_append.2 ⟨hnn.1, List.nodup_cons.2 ⟨fun hq => ?_, hnn.2.1⟩, fun a ha b hb => ?_⟩
  ·obtain ⟨r, hr, e⟩ := List.mem_map.1 hq
   exact hno r (List.mem_of_mem_drop hr) e
  ·rcases List.mem_cons.1 hb with rfl | hb
   ·obtain ⟨r, hr, e⟩ := List.mem_map.1 ha
    rw [<- e]
    exact hno r (List.mem_of_mem_take hr)
   ·exact hnn.2.2 a ha b hb
end
section
variable {σ τ : St} {rb : Nat} {S : Nat -> Prop} {l : List Rw} {ps : PL} {size : Int} {fv pv : AV} {K : AV -> St -> Prop}
set_option maxHeartbeats 2000000 in
end
def Zhf (l : List Rw) : Nat := (l.map (·.d.length)).sum
theorem ZoN {r : Rw} : ∀ {l : List Rw}, r ∈ l -> r.d.length <= Zhf l
 | a :: l, h => by
  have e : Zhf (a :: l) = a.d.length + Zhf l := by simp [Zhf]
  rcases List.mem_cons.1 h with rfl | h
  ·omega
  ·have := ZoN h
   omega
theorem Zwt (l : List Rw) (i : Nat) : Zhf (l.take i) <= Zhf l := by
 have e : Zhf l = Zhf (l.take i) + Zhf (l.drop i) := by
  unfold Zhf
  conv => lhs; rw [<- List.take_append_drop i l, List.map_append, List.sum_append]
 omega
theorem Zwu {l : List Rw} {i : Nat} (h : i < l.length) : Zhf (l.take (i + 1)) = Zhf (l.take i) + l[i].d.length := by
 unfold Zhf
 rw [List.take_succ_eq_append_getElem h, List.map_append, List.sum_append]
 simp
def Zyf (l : List Rw) (k : List UInt8) (l1 : List Rw) (i : Nat) : Prop :=
 (l1 = l /\ ∃ hi : i < l.length, l[i].nm = k) \/ ((∀ r ∈ l, r.nm ≠ k) /\ i <= l.length /\ (∀ r ∈ l.take i, r.nm < k) /\ (∀ hi : i < l.length, ¬ l[i].nm < k) /\ l1 = l.take i ++ ⟨k, .lst none 0 0 [], []⟩ :: l.drop i)
theorem Zyf.at_ {l l1 : List Rw} {k : List UInt8} {i : Nat} (h : Zyf l k l1 i) : ∃ hi : i < l1.length, l1[i].nm = k /\ l1.length <= l.length + 1 /\ Zhf l1 = Zhf l := by
 rcases h with ⟨rfl, hi, hn⟩ | ⟨_, hi, _, _, rfl⟩
 ·exact ⟨hi, hn, Nat.le_succ _, rfl⟩
 ·have hl : (l.take i).length = i := by rw [List.length_take]; omega
  refine ⟨by rw [List.length_append, hl, List.length_cons]; omega, ?_, by rw [List.length_append, hl, List.length_cons, List.length_drop]; omega, ?_⟩
  ·rw [List.getElem_append_right (by omega)]
   simp [hl]
  ·unfold Zhf
   rw [List.map_append, List.map_cons, List.sum_append, List.sum_cons]
   show _ + (0 + _) = _
   rw [Nat.zero_add, <- List.sum_append, <- List.map_append, List.take_append_drop]
def ZDk (l : List Rw) (ps : PL) (k d : List UInt8) (l' : List Rw) (ps' : PL) : Prop :=
 ∃ l1 i v' d0, Zyf l k l1 i /\ (∃ hi : i < l1.length, l1[i].d = d0) /\ l' = l1.set i ⟨k, v', d0 ++ d⟩ /\ ps' = ps ++ (if d = [] then [] else [(k, d.length)])
section
variable {σ τ : St} {rb : Nat} {S : Nat -> Prop} {l : List Rw} {ps : PL} {size : Int} {fv pv : AV} {K : AV -> St -> Prop}
set_option maxHeartbeats 4000000 in
theorem ZtT (h : RAt σ rb S l ps size fv pv) {k : List UInt8} {pa : List (List UInt8)} {vP : AV} (hP : SV CT 0 ZaV (.sl 3 pa none) vP) (hl : l.length <= 10000000) (hp : ps.length <= 10000000) (hpl : pa.length <= 1000000) (hb : pa.flatten.length + Zhf l <= 100000000)
 (hK2 : ¬ (k ≠ [] /\ k.length <= 40) -> ∀ τ, Ext σ τ -> K (vI 2) τ)
 (hK8 : (k ≠ [] /\ k.length <= 40) -> ¬ (size < 1 \/ ((pa.flatten.length + Zhf l : Nat) : Int) <= size) -> ∀ τ, Ext σ τ -> K (vI 8) τ)
 (hK0 : (k ≠ [] /\ k.length <= 40) -> (size < 1 \/ ((pa.flatten.length + Zhf l : Nat) : Int) <= size) -> ∀ τ S' l' ps' fv' pv', RAt τ rb S' l' ps' size fv' pv' -> But S σ τ -> (∀ c, S c -> S' c) -> (∀ c, S' c -> S c \/ Zc2 σ c) -> ZDk l ps k pa.flatten l' ps' -> K (vI 0) τ) :
 Zal Tryz.prog 11 [ptr rb 0, .raw (sV k), vP] σ K := by
 obtain ⟨A, c, cs, rest, rfl, l1, l2, l3, l4, l5⟩ := Zb8.1 hP
 have hA : A = none -> pa.length = 0 := fun q => (l4 q).1
 have hfl := fun i => Zvl pa i
 refine Zas ZaH Tryz.func11 rfl rfl rfl (Nat.le_of_ble_eq_true rfl) ?_
 refine Zqw 0 1 2 (v0 := ptr rb 0) (v1 := .raw (sV k)) (v2 := .lst A pa.length c (cs ++ rest)) rfl rfl rfl ?_
 intro e he
 repeat refine Zab ?_
 first|refine Zaa ?_|refine Zac ?_
 refine Zah ?_
 refine Zae ?_
 refine kp3 0 1 2 ?_
 clear he e
 intro e he
 repeat refine Zab ?_
 first|refine Zaa ?_|refine Zac ?_
 refine Zah ?_
 refine ZaK [.raw (sV k)] ?_
 refine Zvk k _ fun σ1 hX1 => ?_
 refine ZjF ?_
 refine Zae ?_
 refine kp4 0 1 2 15 ?_
 clear he e
 intro e he
 refine ZaT (t := !decide (k ≠ [] /\ k.length <= 40)) he.2.2.2 (fun hk => ?_) (fun hk => ?_)
 ·rw [Bool.not_eq_true'] at hk
  repeat refine Zab ?_
  first|refine Zaa ?_|refine Zac ?_
  refine Zah ?_
  refine Zae ?_
  refine Zfo ?_
  exact ZbW (hK2 (of_decide_eq_false hk) σ1 hX1)
 rw [Bool.not_eq_false'] at hk
 have hk := of_decide_eq_true hk
 have h1 := h.ext hX1
 refine Za6 ?_
 repeat refine Zab ?_
 first|refine Zaa ?_|refine Zac ?_
 refine Zah ?_
 refine Zae ?_
 refine kp4 0 1 2 7 ?_
 clear he e
 intro e he
 repeat refine Zab ?_
 first|refine Zaa ?_|refine Zac ?_
 refine Zah ?_
 refine Zae ?_
 refine kp5 0 1 2 7 8 ?_
 clear he e
 intro e he
 refine Zds (fun env υ => (env 0 = ptr rb 0 /\ env 1 = .raw (sV k) /\ env 2 = .lst A pa.length c (cs ++ rest) /\ env 7 = vI (Zhf l)) /\ σ1 = υ) ?_ ?_
 ·refine ZdT ?_
  refine Zdn (fun μ env υ => ∃ (i : Nat), μ = l.length - i /\ i <= l.length /\ (env 0 = ptr rb 0 /\ env 1 = .raw (sV k) /\ env 2 = .lst A pa.length c (cs ++ rest) /\ env 7 = vI (Zhf (l.take i)) /\ env 8 = vI i) /\ σ1 = υ) ⟨_, 0, rfl, Nat.zero_le _, he, rfl⟩ ?_
  clear he e
  rintro _ e _ ⟨i, rfl, hi, he, rfl⟩
  repeat refine Zab ?_
  first|refine Zaa ?_|refine Zac ?_
  refine Zah ?_
  refine ZmK (b := rb) he.1 ZcL rfl h1.obj rfl ZeZ Zej fun u1 u2 u3 => ?_
  refine Zad ?_
  refine ZhX rfl h1.fl rfl ZcM ?_
  refine ZjG i l.length ?_
  refine Zae ?_
  refine kp6 0 1 2 7 8 22 ?_
  clear he e
  intro e he
  refine ZaT (t := decide (i < l.length)) he.2.2.2.2.2 (fun ht => ?_) (fun ht => ?_)
  ·have hlt : i < l.length := of_decide_eq_true ht
   have hs1 := Zwu hlt
   have hs2 := Zwt l (i + 1)
   refine Za6 ?_
   refine Zb7 ?_
   refine Zac ?_
   refine Zah ?_
   refine ZmK (b := rb) he.1 ZcL rfl h1.obj rfl ZeZ Zej fun u1 u2 u3 => ?_
   refine Zah ?_
   refine Zu9 rfl rfl ZcM ZdR h1.fl hlt Zkd rfl (Zqj hlt).2 Zfs Zda fun u1 u2 => ?_
   refine Zad ?_
   refine ZhX rfl (h1.row _ (List.getElem_mem hlt)) rfl Zc9 ?_
   refine ZfM (Zhf (l.take i)) (l[i].d.length) ?_
   refine Zah ?_
   refine Zae ?_
   rw [<- hs1]
   show ZaJ _ _ _ _ _ _
   refine kp5 0 1 2 7 8 ?_
   clear he e
   intro e he
   refine Zac ?_
   refine Zah ?_
   refine ZfM i 1 ?_
   refine Zah ?_
   refine Zae ?_
   show ∃ n', n' < _ /\ _
   exact ⟨_, (by omega : l.length - (i + 1) < l.length - i), i + 1, rfl, hlt, ⟨by simp only [EV,Nat.reduceEqDiff,↓reduceIte,he];try rfl, by simp only [EV,Nat.reduceEqDiff,↓reduceIte,he];try rfl, by simp only [EV,Nat.reduceEqDiff,↓reduceIte,he];try rfl, by simp only [EV,Nat.reduceEqDiff,↓reduceIte,he];try rfl, by simp only [EV,Nat.reduceEqDiff,↓reduceIte,he];try rfl⟩, rfl⟩
  ·have hke : i = l.length := by have := of_decide_eq_false ht; omega
   refine Ze5 ?_
   have h7 := he.2.2.2.1
   rw [hke, List.take_length] at h7
   exact ⟨rfl, ⟨by simp only [EV,Nat.reduceEqDiff,↓reduceIte,he];try rfl, by simp only [EV,Nat.reduceEqDiff,↓reduceIte,he];try rfl, by simp only [EV,Nat.reduceEqDiff,↓reduceIte,he];try rfl, h7⟩, rfl⟩
 clear he e
 rintro e _ ⟨he, rfl⟩
 repeat refine Zab ?_
 first|refine Zaa ?_|refine Zac ?_
 refine Zah ?_
 refine Zae ?_
 refine kp5 0 1 2 7 9 ?_
 clear he e
 intro e he
 refine Zds (fun env υ => (env 0 = ptr rb 0 /\ env 1 = .raw (sV k) /\ env 2 = .lst A pa.length c (cs ++ rest) /\ env 7 = vI (Zhf l + pa.flatten.length : Nat)) /\ σ1 = υ) ?_ ?_
 ·refine ZdT ?_
  refine Zdn (fun μ env υ => ∃ (i : Nat), μ = pa.length - i /\ i <= pa.length /\ (env 0 = ptr rb 0 /\ env 1 = .raw (sV k) /\ env 2 = .lst A pa.length c (cs ++ rest) /\ env 7 = vI (Zhf l + (pa.take i).flatten.length : Nat) /\ env 9 = vI i) /\ σ1 = υ) ⟨_, 0, rfl, Nat.zero_le _, he, rfl⟩ ?_
  clear he e
  rintro _ e _ ⟨i, rfl, hi, he, rfl⟩
  repeat refine Zab ?_
  first|refine Zaa ?_|refine Zac ?_
  refine Zah ?_
  refine Zah ?_
  refine Zad ?_
  refine Zfa (n := pa.length) (c := c) (A := A) rfl rfl rfl Zgf ?_
  refine ZjG i pa.length ?_
  refine Zae ?_
  refine kp6 0 1 2 7 9 39 ?_
  clear he e
  intro e he
  refine ZaT (t := decide (i < pa.length)) he.2.2.2.2.2 (fun ht => ?_) (fun ht => ?_)
  ·have hlt : i < pa.length := of_decide_eq_true ht
   obtain ⟨v, hv, hvs⟩ := Zlc l5 i hlt
   obtain ⟨Av, cv, rv, hvf, hvL⟩ := Zcc hvs
   subst hvf
   have hsn := ZiQ pa i hlt
   have hf1 := hfl (i + 1)
   rw [hsn, List.length_append] at hf1
   refine Za6 ?_
   refine Zb7 ?_
   refine Zac ?_
   refine Zah ?_
   refine Zah ?_
   refine Zah ?_
   refine Zad ?_
   refine Zc1 (k := .i64) (j := i) (A := A) (n := pa.length) (c := c) (cells := cs ++ rest) rfl rfl Zgf Zda hlt hA rfl fun ad => ?_
   refine Zad ?_
   refine Zdo (r := .lst Av pa[i].length cv (bys pa[i] ++ rv)) rfl Zfs Zda ?_ ?_
   ·show ((cs ++ rest).drop (i * 1))[0]? = _
    rw [List.getElem?_drop, Nat.mul_one, Nat.add_zero, List.getElem?_append_left (Zat hv)]
    exact hv
   refine Zad ?_
   refine Zfa (n := pa[i].length) (c := cv) (A := Av) rfl rfl rfl Zc9 ?_
   refine ZfM (Zhf l + (pa.take i).flatten.length) (pa[i].length) ?_
   refine Zah ?_
   refine Zae ?_
   have e1 : Zhf l + (pa.take i).flatten.length + pa[i].length = Zhf l + (pa.take (i + 1)).flatten.length := by rw [hsn, List.length_append]; omega
   rw [e1]
   show ZaJ _ _ _ _ _ _
   refine kp5 0 1 2 7 9 ?_
   clear he e
   intro e he
   refine Zac ?_
   refine Zah ?_
   refine ZfM i 1 ?_
   refine Zah ?_
   refine Zae ?_
   show ∃ n', n' < _ /\ _
   exact ⟨_, (by omega : pa.length - (i + 1) < pa.length - i), i + 1, rfl, hlt, ⟨by simp only [EV,Nat.reduceEqDiff,↓reduceIte,he];try rfl, by simp only [EV,Nat.reduceEqDiff,↓reduceIte,he];try rfl, by simp only [EV,Nat.reduceEqDiff,↓reduceIte,he];try rfl, by simp only [EV,Nat.reduceEqDiff,↓reduceIte,he];try rfl, by simp only [EV,Nat.reduceEqDiff,↓reduceIte,he];try rfl⟩, rfl⟩
  ·have hke : i = pa.length := by have := of_decide_eq_false ht; omega
   refine Ze5 ?_
   have h7 := he.2.2.2.1
   rw [hke, List.take_length] at h7
   exact ⟨rfl, ⟨by simp only [EV,Nat.reduceEqDiff,↓reduceIte,he];try rfl, by simp only [EV,Nat.reduceEqDiff,↓reduceIte,he];try rfl, by simp only [EV,Nat.reduceEqDiff,↓reduceIte,he];try rfl, h7⟩, rfl⟩
 clear he e
 rintro e _ ⟨he, rfl⟩
 refine Zab ?_
 refine Zds (fun env υ => (env 0 = ptr rb 0 /\ env 1 = .raw (sV k) /\ env 2 = .lst A pa.length c (cs ++ rest) /\ env 61 = vT (!decide (size < 1 \/ ((pa.flatten.length + Zhf l : Nat) : Int) <= size))) /\ σ1 = υ) ?_ ?_
 ·refine Zac ?_
  refine ZmK (b := rb) he.1 ZcL rfl h1.obj rfl Zu3 Zu1 fun u1 u2 u3 => ?_
  refine Zad ?_
  refine ZnH (k := .i64) (a := size) (b := 0) rfl rfl ?_
  refine Zah ?_
  by_cases hz : 0 < size
  ·rw [decide_eq_true hz]
   refine Zcn ?_
   refine ZjE rfl (v := vI (Zhf l + pa.flatten.length : Nat)) he.2.2.2 ?_
   refine Zcn ?_
   refine ZjE rfl (v := ptr rb 0) he.1 ?_
   refine Zcn ?_
   refine ZaF (v := ptr rb 0) rfl rfl ?_
   refine Zcn ?_
   refine Zai (b := rb) (o := 0) rfl ZcL rfl ?_
   refine Zcn ?_
   refine ZaC (b := rb) (o := 0 + 0) (r := .raw (.int .i64 size)) rfl h1.obj Zu3 Zu1 rfl ?_
   refine Zcn ?_
   refine ZnH (k := .i64) (a := ((Zhf l + pa.flatten.length : Nat) : Int)) (b := size) rfl rfl ?_
   refine Zad ?_
   refine Zbb (v := vT (decide (size < ((Zhf l + pa.flatten.length : Nat) : Int)))) rfl rfl ?_
   refine Zae ?_
   refine ⟨rfl, ⟨by simp only [EV,Nat.reduceEqDiff,↓reduceIte,he];try rfl, by simp only [EV,Nat.reduceEqDiff,↓reduceIte,he];try rfl, by simp only [EV,Nat.reduceEqDiff,↓reduceIte,he];try rfl, ?_⟩, rfl⟩
   rw [show (!decide (size < 1 \/ ((pa.flatten.length + Zhf l : Nat) : Int) <= size)) = decide (size < ((Zhf l + pa.flatten.length : Nat) : Int)) by
    rw [<- decide_not]
    congr 1
    exact propext (by omega)]
   simp only [EV,Nat.reduceEqDiff,↓reduceIte,he];try rfl
  ·rw [decide_eq_false hz]
   refine Zbk ?_
   refine Zbk ?_
   refine Zbk ?_
   refine Zbk ?_
   refine Zbk ?_
   refine Zbk ?_
   refine Zad ?_
   refine ZbR (v := vT false) rfl rfl ?_
   refine Zae ?_
   refine ⟨rfl, ⟨by simp only [EV,Nat.reduceEqDiff,↓reduceIte,he];try rfl, by simp only [EV,Nat.reduceEqDiff,↓reduceIte,he];try rfl, by simp only [EV,Nat.reduceEqDiff,↓reduceIte,he];try rfl, ?_⟩, rfl⟩
   rw [decide_eq_true (.inl (by omega))]
   simp only [EV,Nat.reduceEqDiff,↓reduceIte,he];try rfl
 clear he e
 rintro e _ ⟨he, rfl⟩
 refine ZaT (t := !decide (size < 1 \/ ((pa.flatten.length + Zhf l : Nat) : Int) <= size)) he.2.2.2 (fun hf => ?_) (fun hf => ?_)
 ·rw [Bool.not_eq_true'] at hf
  repeat refine Zab ?_
  first|refine Zaa ?_|refine Zac ?_
  refine Zah ?_
  refine Zae ?_
  refine Zfo ?_
  exact ZbW (hK8 hk (of_decide_eq_false hf) σ1 hX1)
 rw [Bool.not_eq_false'] at hf
 have hf := of_decide_eq_true hf
 refine Za6 ?_
 refine Zds (fun env υ => ∃ S1 l1 fv1, ∃ i : Nat, (env 0 = ptr rb 0 /\ env 1 = .raw (sV k) /\ env 2 = .lst A pa.length c (cs ++ rest) /\ env 10 = vI i) /\ RAt υ rb S1 l1 ps size fv1 pv /\ Zyf l k l1 i /\ But S σ υ /\ (∀ c, S c -> S1 c) /\ (∀ c, S1 c -> S c \/ Zc2 σ c)) ?_ ?_
 ·refine Zac ?_
  refine Zah ?_
  refine Zah ?_
  refine ZaK [ptr rb 0, .raw (sV k)] ?_
  refine ZAp h1 (by omega) (fun i hi hn => ?_) fun hno i hi q1 q2 τ S1 fv1 d1 d2 d3 d4 => ?_
  ·refine Zah ?_
   refine Zae ?_
   exact ⟨rfl, S, l, fv, i, ⟨by simp only [EV,Nat.reduceEqDiff,↓reduceIte,he];try rfl, by simp only [EV,Nat.reduceEqDiff,↓reduceIte,he];try rfl, by simp only [EV,Nat.reduceEqDiff,↓reduceIte,he];try rfl, by simp only [EV,Nat.reduceEqDiff,↓reduceIte,he];try rfl⟩, h1, .inl ⟨rfl, hi, hn⟩, hX1.but, fun c hc => hc, fun c hc => .inl hc⟩
  ·refine Zah ?_
   refine Zae ?_
   exact ⟨rfl, S1, _, fv1, i, ⟨by simp only [EV,Nat.reduceEqDiff,↓reduceIte,he];try rfl, by simp only [EV,Nat.reduceEqDiff,↓reduceIte,he];try rfl, by simp only [EV,Nat.reduceEqDiff,↓reduceIte,he];try rfl, by simp only [EV,Nat.reduceEqDiff,↓reduceIte,he];try rfl⟩, d1, .inr ⟨hno, hi, q1, q2, rfl⟩, hX1.but.trans d2, d3, fun c hc => (d4 c hc).imp id fun q => q.of hX1⟩
 clear he e h1
 rintro e υ1 ⟨S1, l1, fv1, i, he, h1, hM, hB1, hS1, hS2⟩
 obtain ⟨hi, hn, hlen, hsum⟩ := hM.at_
 repeat refine Zab ?_
 first|refine Zaa ?_|refine Zac ?_
 refine Zah ?_
 refine Zae ?_
 refine kp5 0 1 2 10 11 ?_
 clear he e
 intro e he
 repeat refine Zab ?_
 first|refine Zaa ?_|refine Zac ?_
 refine Zah ?_
 refine Zae ?_
 refine kp6 0 1 2 10 11 12 ?_
 clear he e
 intro e he
 refine Zds (fun env υ => ∃ S2 v2, (env 0 = ptr rb 0 /\ env 1 = .raw (sV k) /\ env 11 = vI pa.flatten.length) /\ RAt υ rb S2 (l1.set i ⟨k, v2, l1[i].d ++ pa.flatten⟩) ps size fv1 pv /\ But S σ υ /\ (∀ c, S c -> S2 c) /\ (∀ c, S2 c -> S c \/ Zc2 σ c)) ?_ ?_
 ·refine ZdT ?_
  refine Zdn (fun μ env υ => ∃ (j : Nat), ∃ S2 v2, μ = pa.length - j /\ j <= pa.length /\ (env 0 = ptr rb 0 /\ env 1 = .raw (sV k) /\ env 2 = .lst A pa.length c (cs ++ rest) /\ env 10 = vI i /\ env 11 = vI (pa.take j).flatten.length /\ env 12 = vI j) /\ RAt υ rb S2 (l1.set i ⟨k, v2, l1[i].d ++ (pa.take j).flatten⟩) ps size fv1 pv /\ But S σ υ /\ (∀ c, S c -> S2 c) /\ (∀ c, S2 c -> S c \/ Zc2 σ c)) ⟨_, 0, S1, l1[i].v, rfl, Nat.zero_le _, he, ?_, hB1, hS1, hS2⟩ ?_
  ·have e1 : l1.set i ⟨k, l1[i].v, l1[i].d ++ (pa.take 0).flatten⟩ = l1 := by
    rw [List.take_zero, List.flatten_nil, List.append_nil, <- hn]
    exact List.set_getElem_self hi
   rw [e1]
   exact h1
  clear he e h1 hB1 hS1 hS2
  rintro _ e υ ⟨j, S2, v2, rfl, hj, he, h2, hB2, hS21, hS22⟩
  repeat refine Zab ?_
  first|refine Zaa ?_|refine Zac ?_
  refine Zah ?_
  refine Zah ?_
  refine Zad ?_
  refine Zfa (n := pa.length) (c := c) (A := A) rfl rfl rfl Zgf ?_
  refine ZjG j pa.length ?_
  refine Zae ?_
  refine kp7 0 1 2 10 11 12 68 ?_
  clear he e
  intro e he
  refine ZaT (t := decide (j < pa.length)) (by simp only [EV,Nat.reduceEqDiff,↓reduceIte,he];try rfl) (fun ht => ?_) (fun ht => ?_)
  ·have hlt : j < pa.length := of_decide_eq_true ht
   obtain ⟨v, hv, hvs⟩ := Zlc l5 j hlt
   obtain ⟨Av, cv, rv, hvf, hvL⟩ := Zcc hvs
   subst hvf
   have hsn := ZiQ pa j hlt
   have hf0 := hfl j
   have hf1 := hfl (j + 1)
   rw [hsn, List.length_append] at hf1
   have hvi : ((cs ++ rest).drop (j * 1))[0]? = some (.lst Av pa[j].length cv (bys pa[j] ++ rv)) := by
    rw [List.getElem?_drop, Nat.mul_one, Nat.add_zero, List.getElem?_append_left (Zat hv)]
    exact hv
   have hi2 : i < (l1.set i ⟨k, v2, l1[i].d ++ (pa.take j).flatten⟩).length := by rw [List.length_set]; exact hi
   have hself : (l1.set i ⟨k, v2, l1[i].d ++ (pa.take j).flatten⟩)[i] = ⟨k, v2, l1[i].d ++ (pa.take j).flatten⟩ := List.getElem_set_self _
   have hg := (Zqj hi2).2
   have hrow := h2.row _ (List.getElem_mem hi2)
   rw [hself] at hg hrow
   have hdi : l1[i].d.length <= 100000000 := by
    have := ZoN (List.getElem_mem hi)
    omega
   have hsum2 : l1[i].d.length + pa.flatten.length <= 100000000 := by
    have := ZoN (List.getElem_mem hi)
    omega
   refine Za6 ?_
   refine Zb7 ?_
   refine Zjr ?_
   refine ⟨[0, 1, 2, 4, 5, 6, 7, 9, 13, 14, 15, 3, 8, 10, 11, 12, 16, 17, 18, 19, 20], [[], [0], [0, 1], [0, 1, 2], [], [], [5], [5, 6], [5, 6, 7], [], [5, 6, 7, 8, 9], [5, 6, 7, 8, 9, 10], [5, 6, 7, 8, 9, 10, 11], [], [], [13, 14], [13, 14, 15], [5, 6, 7, 8, 9, 10, 11, 12, 13, 14, 15, 16], [0, 1, 2, 3, 4, 5, 6, 7, 8, 9, 10, 11, 12, 13, 14, 15, 16, 17], [0, 1, 2, 3, 4, 5, 6, 7, 8, 9, 10, 11, 12, 13, 14, 15, 16, 17, 18], [0, 1, 2, 3, 4, 5, 6, 7, 8, 9, 10, 11, 12, 13, 14, 15, 16, 17, 18, 19]], fun b => b = rb, [3], [17], [], by kernel_rfl, ?_⟩
   refine ZiN ?_
   refine ZgC ?_
   refine ZaF (v := ptr rb 0) (by simp only [EV,Nat.reduceEqDiff,↓reduceIte,he];try rfl) rfl ?_
   refine ZiK ?_
   refine ZgC ?_
   refine Zai (b := rb) (o := 0) (by simp only [EV,Nat.reduceEqDiff,↓reduceIte,he];try rfl) ZcL rfl ?_
   refine ZiK ?_
   refine ZiN ?_
   refine ZiN ?_
   refine ZgC ?_
   refine ZaF (v := ptr rb 0) (by simp only [EV,Nat.reduceEqDiff,↓reduceIte,he];try rfl) rfl ?_
   refine ZiK ?_
   refine ZgC ?_
   refine Zai (b := rb) (o := 0) (by simp only [EV,Nat.reduceEqDiff,↓reduceIte,he];try rfl) ZcL rfl ?_
   refine ZiK ?_
   refine ZiN ?_
   refine ZiN ?_
   refine ZiN ?_
   refine ZgC ?_
   refine Zc1 (k := .i64) (j := j) (A := A) (n := pa.length) (c := c) (cells := cs ++ rest) (by simp only [EV,Nat.reduceEqDiff,↓reduceIte,he];try rfl) (by simp only [EV,Nat.reduceEqDiff,↓reduceIte,he];try rfl) Zgf Zda hlt hA rfl fun ad => ?_
   refine ZiK ?_
   apply ZBs
   case hi => simp only [HIX]; try rfl
   case hw => rfl
   case how => rfl
   case hx => simp only [EV,Nat.reduceEqDiff,↓reduceIte,he];try rfl
   case hp => exact rfl
   case hb => exact h2.obj
   case ha => exact ZeZ
   case hn => exact Zej
   case hr => exact rfl
   refine ZgC ?_
   refine ZaC (b := rb) (o := 0 + 1) (r := fv1) (by simp only [EV,Nat.reduceEqDiff,↓reduceIte,he];try rfl) h2.obj ZeZ Zej rfl ?_
   refine ZiK ?_
   refine ZgC ?_
   refine ZdV (k := .i64) (j := i) (by simp only [EV,Nat.reduceEqDiff,↓reduceIte,he];try rfl) (by simp only [EV,Nat.reduceEqDiff,↓reduceIte,he];try rfl) ZcM ZdR h2.fl hi2 fun b1 hb1 => ?_
   refine ZiK ?_
   refine ZgC ?_
   refine Zai (b := b1) (o := i * 2) (by simp only [EV,Nat.reduceEqDiff,↓reduceIte,he];try rfl) Zkd rfl ?_
   refine ZiK ?_
   refine ZgC ?_
   refine Zzs (by simp only [EV,Nat.reduceEqDiff,↓reduceIte,he];try rfl) h2.fl hb1 hg Zfs Zda ?_
   refine ZiK ?_
   refine ZgC ?_
   refine Zdo (r := .lst Av pa[j].length cv (bys pa[j] ++ rv)) (by simp only [EV,Nat.reduceEqDiff,↓reduceIte,he];try rfl) Zfs Zda hvi ?_
   refine ZiK ?_
   refine ZgC ?_
   refine Zch (m := pa[j].length) (news := bys pa[j]) (by simp only [EV,Nat.reduceEqDiff,↓reduceIte,he];try rfl) (by simp only [EV,Nat.reduceEqDiff,↓reduceIte,he];try rfl) Zc9 ZlP ZlR ZyN rfl (by omega) hrow (Zge (by rw [ZnY, Nat.mul_one]) (ZqS _) fun q => (hvL.none q).1) (by rw [List.length_append]; unfold maxLen; omega) (by rw [List.length_append]; omega) fun v3 υ3 hv3 hB3 hn3 => ?_
   refine ⟨fun _ => hB3.keeps fun b hb hq => Zhe hrow h2.obj (by decide) hq hb, ?_⟩
   have hfl3 := h2.fl.but hB3 fun c hc hq => ZoM h2.fl hrow (by decide) hc hq
   refine ZgC ?_
   refine ZdV (k := .i64) (j := i) (by simp only [EV,Nat.reduceEqDiff,↓reduceIte,he];try rfl) (by simp only [EV,Nat.reduceEqDiff,↓reduceIte,he];try rfl) ZcM ZdR hfl3 hi2 fun b2 hb2 => ?_
   refine ZiK ?_
   refine ZgC ?_
   refine Zai (b := b2) (o := i * 2) (by simp only [EV,Nat.reduceEqDiff,↓reduceIte,he];try rfl) Zkd rfl ?_
   refine ZiK ?_
   refine ZgC ?_
   refine Zxh (v := fv1) (r := v3) (b := b2) (o := i * 2 + 1) (by simp only [EV,Nat.reduceEqDiff,↓reduceIte,he];try rfl) (by simp only [EV,Nat.reduceEqDiff,↓reduceIte,he];try rfl) Zda hfl3 hb2 (by omega) ⟨hv3.oneV.2.1, hv3.oneV.2.2, hv3.oneV.1⟩ fun υ4 hf4 k4 => ?_
   refine ⟨(fun hf => by cases hf), ?_⟩
   refine Zyy ?_
   have e3 : (l1[i].d ++ (pa.take j).flatten).length + pa[j].length = (l1[i].d ++ (pa.take (j + 1)).flatten).length := by rw [hsn, List.length_append, List.length_append, List.length_append]; omega
   have e4 : bys (l1[i].d ++ (pa.take j).flatten) ++ bys pa[j] = bys (l1[i].d ++ (pa.take (j + 1)).flatten) := by
    rw [hsn]
    unfold bys
    simp
   rw [e3, e4] at hv3
   have hset := (Zws (f := fun r : Rw => .raw (sV r.nm)) (g := fun r : Rw => r.v) (l1.set i ⟨k, v2, l1[i].d ++ (pa.take j).flatten⟩) i ⟨k, v3, l1[i].d ++ (pa.take (j + 1)).flatten⟩ hi2 ⟨k, v2, l1[i].d ++ (pa.take j).flatten⟩ (by rw [List.getElem?_eq_getElem hi2, hself])).1 rfl
   have hf5 : Hd υ4 91 2 fv1 (l1.set i ⟨k, v2, l1[i].d ++ (pa.take j).flatten⟩).length (rfC ((l1.set i ⟨k, v2, l1[i].d ++ (pa.take j).flatten⟩).set i ⟨k, v3, l1[i].d ++ (pa.take (j + 1)).flatten⟩)) := by
    rw [<- show _ = rfC _ from hset]
    exact hf4
   have hnm : (l1.set i ⟨k, v2, l1[i].d ++ (pa.take j).flatten⟩)[i].nm = k := by rw [hself]
   have hvv : (l1.set i ⟨k, v2, l1[i].d ++ (pa.take j).flatten⟩)[i].v = v2 := by rw [hself]
   have hB4 : But (fun c => hbk fv1 = some c \/ hbk v2 = some c) υ υ4 := (hB3.sub fun c hc => .inr hc).trans (k4.sub fun c hc => .inl hc)
   have h5 := h2.setR hi2 (v' := v3) (d' := l1[i].d ++ (pa.take (j + 1)).flatten) (by rw [hvv]; exact hB4) (by rw [hnm]; exact hf5) (hv3.but k4 fun c hc hq => ZoM hv3 hfl3 (by decide) hc hq) fun c hc => by rw [hvv]; exact hn3 c hc
   rw [hnm, List.set_set] at h5
   have hS5 : ∀ c, (S2 c \/ hbk v3 = some c) -> S c \/ Zc2 σ c := fun c hc => by
    rcases hc with hc | hc
    ·exact hS22 c hc
    ·rcases hn3 c hc with q | q
     ·exact hS22 c (by
       have := h2.own.2.2.1 _ (List.getElem_mem hi2) c
       rw [hvv] at this
       exact this q)
     ·exact Zd6 hB2 q
   have hB5 : But S σ υ4 := hB2.ext2 (T := fun c => hbk fv1 = some c \/ hbk v2 = some c) (fun c hc => by
    have hc2 : S2 c := by
     rcases hc with hc | hc
     ·exact h2.own.2.1 c hc
     ·have := h2.own.2.2.1 _ (List.getElem_mem hi2) c
      rw [hvv] at this
      exact this hc
    rcases hS22 c hc2 with q | q
    ·exact .inl q
    ·exact .inr q.1) hB4
   clear hf4 hf5 hset hv3 hB3 hn3 hfl3 hrow k4 hB4
   refine kp6 0 1 2 10 11 12 ?_
   clear he e
   intro e he
   refine Zac ?_
   refine Zah ?_
   refine Zah ?_
   refine Zah ?_
   refine Zad ?_
   refine Zc1 (k := .i64) (j := j) (A := A) (n := pa.length) (c := c) (cells := cs ++ rest) rfl rfl Zgf Zda hlt hA rfl fun ad => ?_
   refine Zad ?_
   refine Zdo (r := .lst Av pa[j].length cv (bys pa[j] ++ rv)) rfl Zfs Zda hvi ?_
   refine Zad ?_
   refine Zfa (n := pa[j].length) (c := cv) (A := Av) rfl rfl rfl Zc9 ?_
   refine ZfM ((pa.take j).flatten.length) (pa[j].length) ?_
   refine Zah ?_
   refine Zae ?_
   have e1 : (pa.take j).flatten.length + pa[j].length = (pa.take (j + 1)).flatten.length := by rw [hsn, List.length_append]
   rw [e1]
   show ZaJ _ _ _ _ _ _
   refine kp6 0 1 2 10 11 12 ?_
   clear he e
   intro e he
   refine Zac ?_
   refine Zah ?_
   refine ZfM j 1 ?_
   refine Zah ?_
   refine Zae ?_
   show ∃ n', n' < _ /\ _
   exact ⟨_, (by omega : pa.length - (j + 1) < pa.length - j), j + 1, _, v3, rfl, hlt, ⟨by simp only [EV,Nat.reduceEqDiff,↓reduceIte,he];try rfl, by simp only [EV,Nat.reduceEqDiff,↓reduceIte,he];try rfl, by simp only [EV,Nat.reduceEqDiff,↓reduceIte,he];try rfl, by simp only [EV,Nat.reduceEqDiff,↓reduceIte,he];try rfl, by simp only [EV,Nat.reduceEqDiff,↓reduceIte,he];try rfl, by simp only [EV,Nat.reduceEqDiff,↓reduceIte,he];try rfl⟩, h5, hB5, fun c hc => .inl (hS21 c hc), hS5⟩
  ·have hke : j = pa.length := by have := of_decide_eq_false ht; omega
   refine Ze5 ?_
   rw [hke, List.take_length] at he h2
   exact ⟨rfl, S2, v2, ⟨by simp only [EV,Nat.reduceEqDiff,↓reduceIte,he];try rfl, by simp only [EV,Nat.reduceEqDiff,↓reduceIte,he];try rfl, by simp only [EV,Nat.reduceEqDiff,↓reduceIte,he];try rfl⟩, h2, hB2, hS21, hS22⟩
 clear he e h1 hB1 hS1 hS2
 rintro e υ ⟨S2, v2, he, h2, hB2, hS21, hS22⟩
 have hR : ZDk l ps k pa.flatten (l1.set i ⟨k, v2, l1[i].d ++ pa.flatten⟩) (ps ++ if pa.flatten = [] then [] else [(k, pa.flatten.length)]) := ⟨l1, i, v2, l1[i].d, hM, ⟨hi, rfl⟩, rfl, rfl⟩
 repeat refine Zab ?_
 first|refine Zaa ?_|refine Zac ?_
 refine Zah ?_
 refine Zad ?_
 refine ZnH (k := .i64) (a := (pa.flatten.length : Int)) (b := 0) rfl rfl ?_
 refine Zae ?_
 refine kp4 0 1 11 99 ?_
 clear he e
 intro e he
 refine Zds (fun env υ => ∃ S3 pv3, RAt υ rb S3 (l1.set i ⟨k, v2, l1[i].d ++ pa.flatten⟩) (ps ++ if pa.flatten = [] then [] else [(k, pa.flatten.length)]) size fv1 pv3 /\ But S σ υ /\ (∀ c, S c -> S3 c) /\ (∀ c, S3 c -> S c \/ Zc2 σ c)) ?_ ?_
 ·refine ZcJ (t := decide ((0 : Int) < (pa.flatten.length : Int))) he.2.2.2 (fun hd0 => ?_) (fun hd0 => ?_)
  ·have hd0 := of_decide_eq_true hd0
   have hdne : ¬ pa.flatten = [] := fun e => by rw [e] at hd0; exact absurd hd0 (by decide)
   refine Zac ?_
   refine Zah ?_
   refine ZmK (b := rb) he.1 ZcL rfl h2.obj rfl ZAl Zwq fun u1 u2 u3 => ?_
   refine Zah ?_
   refine Zah ?_
   refine Zad ?_
   refine ZcI (vs := [.raw (sV k), vI pa.flatten.length]) (cells := [.raw (sV k), vI pa.flatten.length]) (by simp only [List.map_cons, List.map_nil, EV,Nat.reduceEqDiff,↓reduceIte,he]; try rfl) ZoL Zx9 rfl ?_
   refine Zad ?_
   refine Zif (vs := [.agg [.raw (sV k), vI pa.flatten.length]]) (cells := [.raw (sV k), vI pa.flatten.length]) (by simp only [List.map_cons, List.map_nil, EV,Nat.reduceEqDiff,↓reduceIte,he];try rfl) Zwp ZsC ZoL rfl (by omega) rfl rfl fun b3 υ3 hN3 hX3 => ?_
   have h3 := h2.ext hX3
   refine Zad ?_
   refine Zch (m := 1) (news := [.raw (sV k), vI pa.flatten.length]) (r := .lst (some ⟨b3, 0, none⟩) 1 1 ([.raw (sV k), vI pa.flatten.length] ++ [])) rfl rfl Zwp ZsC ZoL Zya rfl (by omega) h3.pc (Zge rfl (ZB5 rfl rfl) (fun q => by cases q)) (by unfold maxLen; omega) (by omega) fun pv3 υ4 hp4 hB4 hn4 => ?_
   refine ZBu (b := rb) rfl ZcL rfl fun u1 => ?_
   have hobj4 := hB4.keep _ _ (fun hq => Zhe h3.pc h3.obj (by decide) hq rfl) h3.obj
   refine Zad ?_
   refine Zgg (b := rb) (o := 0 + 2) (v := pv3) rfl rfl hobj4 Zwq hp4.oneV (by simp) fun υ5 hb5 k5 => ?_
   refine Zae ?_
   have hp5 : Hd υ5 94 2 pv3 (ps ++ [(k, pa.flatten.length)]).length (rpC (ps ++ [(k, pa.flatten.length)])) := by
    rw [List.length_append, ZAn]
    exact hp4.but k5 fun c hc hq => Zhe hp4 hobj4 (by decide) hc hq
   have hB5 : But (fun c => c = rb \/ hbk pv = some c) υ3 υ5 := (hB4.sub fun c hc => .inr hc).trans (k5.sub fun c hc => .inl hc)
   have h5 := h3.setP hB5 hb5 hp5
   rw [if_neg hdne]
   refine ⟨rfl, _, pv3, h5, (hB2.trans hX3.but).ext2 (T := fun c => c = rb \/ hbk pv = some c) (fun c hc => ?_) hB5, fun c hc => .inl (hS21 c hc), fun c hc => ?_⟩
   ·have hc2 : S2 c := by
     rcases hc with hc | hc
     ·rw [hc]; exact h2.own.1
     ·exact h2.own.2.2.2 c hc
    rcases hS22 c hc2 with q | q
    ·exact .inl q
    ·exact .inr q.1
   ·rcases hc with hc | hc
    ·exact hS22 c hc
    ·rcases hn4 c hc with q | q
     ·exact hS22 c (h2.own.2.2.2 c q)
     ·exact Zd6 (hB2.trans hX3.but) q
  ·have hd0 := of_decide_eq_false hd0
   have hdn : pa.flatten = [] := List.eq_nil_of_length_eq_zero (by omega)
   refine ZeD ?_
   exact ⟨rfl, S2, pv, by rw [if_pos hdn, List.append_nil]; exact h2, hB2, hS21, hS22⟩
 clear he e h2 hB2 hS21 hS22
 rintro e υ ⟨S3, pv3, h3, g1, g2, g3⟩
 refine ZuV (fun e => True) trivial fun e he => ?_
 repeat refine Zab ?_
 first|refine Zaa ?_|refine Zac ?_
 refine Zah ?_
 refine Zae ?_
 refine ZaZ ?_
 exact ⟨_, ZeE rfl (by simp only [EV]; rfl), hK0 hk hf υ S3 _ _ fv1 pv3 h3 g1 g2 g3 hR⟩
end
section
variable {σ τ : St} {rb : Nat} {S : Nat -> Prop} {l : List Rw} {ps : PL} {size : Int} {fv pv : AV} {K : AV -> St -> Prop}
theorem ZDY {S1 S2 : Nat -> Prop} (hB : But S σ τ) (h1 : ∀ c, S1 c -> S c \/ Zc2 σ c) (h2 : ∀ c, S2 c -> S1 c \/ Zc2 τ c) : ∀ c, S2 c -> S c \/ Zc2 σ c := fun c hc => by
 rcases h2 c hc with q | q
 ·exact h1 c q
 ·exact Zd6 hB q
end
end Go.Proofs.YteempnebenjkmaaGreatDoor
