/- XRda, XRdb, XRdc in one. -/
import Derived.Test.YtinpiaibhjmfaaaMi
import Derived.Test.YtinpiaibhjmfaaaMe
import Derived.Test.YtinpiaibhjmfaaaMg
namespace Go.Proofs.Ytinpiaibhjmfaaa
open Go.RowKit
set_option maxRecDepth 100000
set_option linter.unusedVariables false
set_option linter.unusedSimpArgs false
theorem ZaC : Zbx Try.prog 46 = some [(0, some 1, some false), (1, some 1, some false), (2, some 1, some false)] := by kernel_rfl
theorem Zck : Zbx Try.prog 88 = some [(0, some 1, some false), (1, some 1, some false)] := by kernel_rfl
theorem ZcI : Zbx Try.prog 105 = some [(0, some 1, some false), (1, some 1, some false)] := by kernel_rfl
theorem Za9 : ZaU Try.prog 43 = some 88 := by kernel_rfl
theorem Zbq : ZaU Try.prog 44 = some 105 := by kernel_rfl
theorem Zbo : ZaH Try.prog 88 = some 2 := by kernel_rfl
theorem Zbl : ZaH Try.prog 105 = some 2 := by kernel_rfl
theorem Zbr : ZaH Try.prog 43 = some 1 := by kernel_rfl
theorem ZbB : ZaH Try.prog 44 = some 1 := by kernel_rfl
theorem ZbH : Zd5 Try.prog 43 = some false := by kernel_rfl
theorem ZbW : Zd5 Try.prog 44 = some false := by kernel_rfl
theorem ZhJ : Zd5 Try.prog 105 = some true := by kernel_rfl
theorem Zc5 : ZbE Try.prog 88 = some (.agg #[.string ⟨#[]⟩, .slice none 0 0]) := by kernel_rfl
theorem ZcV : ZbE Try.prog 105 = some (.agg #[.string ⟨#[]⟩, .int .i64 0]) := by kernel_rfl
theorem ZlR : ZbE Try.prog 46 = some (.agg #[.int .i64 0, .slice none 0 0, .slice none 0 0]) := by kernel_rfl
theorem ZlS : Zc0 Try.prog 88 = some [(0, 1), (1, 1)] := by kernel_rfl
theorem ZmZ : Zc0 Try.prog 105 = some [(0, 1), (1, 1)] := by kernel_rfl
theorem ZlT : Zc0 Try.prog 46 = some [(0, 1), (1, 1), (2, 1)] := by kernel_rfl
theorem ZfE : ZcL Try.prog 88 = some 40 := by kernel_rfl
theorem Zf2 : ZcL Try.prog 105 = some 24 := by kernel_rfl
theorem Zbw {α β : Type} {f : α -> β} : ∀ {l : List α}, (l.map f).Nodup -> ∀ x ∈ l, ∀ y ∈ l, f x = f y -> x = y
 | a :: l, hn, x, hx, y, hy, e => by
  rw [List.map_cons, List.nodup_cons] at hn
  rcases List.mem_cons.1 hx with e1 | h1 <;> rcases List.mem_cons.1 hy with e2 | h2
  ·rw [e1, e2]
  ·exact absurd (List.mem_map.2 ⟨y, h2, by rw [<- e, e1]⟩) hn.1
  ·exact absurd (List.mem_map.2 ⟨x, h1, by rw [e, e2]⟩) hn.1
  ·exact Zbw hn.2 x h1 y h2 e
theorem Zfm {α : Type} {l : List α} (h : l.Nodup) {i j : Nat} {hi : i < l.length} {hj : j < l.length} (e : l[i] = l[j]) : i = j := by
 rcases Nat.lt_trichotomy i j with q | q | q
 ·exact absurd e (List.pairwise_iff_getElem.1 h i j hi hj q)
 ·exact q
 ·exact absurd e.symm (List.pairwise_iff_getElem.1 h j i hj hi q)
def rfC (l : List Rw) : List AV := l.flatMap fun r => [.raw (sV r.nm), r.v]
abbrev PL := List (List UInt8 × Nat)
def rpC (l : PL) : List AV := l.flatMap fun p => [.raw (sV p.1), vI p.2]
theorem Zjd {α : Type} {f g : α -> AV} : ∀ {l : List α} {i : Nat} (h : i < l.length), (l.flatMap fun x => [f x, g x])[i * 2 + 0]? = some (f l[i]) /\ (l.flatMap fun x => [f x, g x])[i * 2 + 1]? = some (g l[i])
 | x :: l, 0, _ => ⟨rfl, rfl⟩
 | x :: l, i + 1, h => by
  have := Zjd (f := f) (g := g) (l := l) (i := i) (by simpa using h)
  rw [List.flatMap_cons]
  rw [show (i + 1) * 2 + 0 = (i * 2 + 0) + 2 by omega, show (i + 1) * 2 + 1 = (i * 2 + 1) + 2 by omega]
  exact this
theorem ZhK {α : Type} {f g : α -> AV} : ∀ (l : List α) (i : Nat), (l.flatMap fun x => [f x, g x]).drop (i * 2) = (l.drop i).flatMap fun x => [f x, g x]
 | l, 0 => rfl
 | [], i + 1 => by simp
 | x :: l, i + 1 => by
  rw [List.flatMap_cons, show (i + 1) * 2 = i * 2 + 2 by omega, List.drop_succ_cons]
  exact ZhK l i
theorem Zj0 {α : Type} {f g : α -> AV} : ∀ (l : List α) (i : Nat), (l.flatMap fun x => [f x, g x]).take (i * 2) = (l.take i).flatMap fun x => [f x, g x]
 | l, 0 => by simp
 | [], i + 1 => by simp
 | x :: l, i + 1 => by
  rw [List.flatMap_cons, show (i + 1) * 2 = i * 2 + 2 by omega, List.take_succ_cons, List.flatMap_cons]
  show f x :: g x :: ((l.flatMap fun x => [f x, g x]).take (i * 2)) = _
  rw [Zj0 l i]
  rfl
theorem ZfF {α : Type} {f g : α -> AV} : ∀ (l : List α) (i : Nat) (y : α), i < l.length -> ∀ x, l[i]? = some x -> (f y = f x -> (l.flatMap fun x => [f x, g x]).set (i * 2 + 1) (g y) = (l.set i y).flatMap fun x => [f x, g x]) /\ (g y = g x -> (l.flatMap fun x => [f x, g x]).set (i * 2 + 0) (f y) = (l.set i y).flatMap fun x => [f x, g x])
 | z :: l, 0, y, _, x, hx => by
  injection hx with hx
  subst hx
  refine ⟨fun e => ?_, fun e => ?_⟩
  ·show f z :: g y :: _ = f y :: g y :: _
   rw [e]
  ·show f y :: g z :: _ = f y :: g y :: _
   rw [e]
 | z :: l, i + 1, y, h, x, hx => by
  have := ZfF (f := f) (g := g) l i y (by simpa using h) x (by simpa using hx)
  rw [List.flatMap_cons, show (i + 1) * 2 + 0 = (i * 2 + 0) + 2 by omega, show (i + 1) * 2 + 1 = (i * 2 + 1) + 2 by omega]
  refine ⟨fun e => ?_, fun e => ?_⟩
  ·show f z :: g z :: ((l.flatMap fun x => [f x, g x]).set (i * 2 + 1) (g y)) = _
   rw [this.1 e]
   rfl
  ·show f z :: g z :: ((l.flatMap fun x => [f x, g x]).set (i * 2 + 0) (f y)) = _
   rw [this.2 e]
   rfl
structure RAt (σ : St) (rb : Nat) (S : Nat -> Prop) (l : List Rw) (ps : PL) (size : Int) (fv pv : AV) : Prop where
 obj : σ.blk rb = some (.own 46 [.raw (.int .i64 size), fv, pv])
 used : σ.used rb
 fl : Hd σ 88 2 fv l.length (rfC l)
 row : ∀ r ∈ l, Hd σ 5 1 r.v r.d.length (bys r.d)
 nn : (l.map (·.nm)).Nodup
 far : ∀ r ∈ l, ∀ q ∈ l, ∀ x, hbk r.v = some x -> hbk q.v = some x -> r.nm = q.nm
 pc : Hd σ 105 2 pv ps.length (rpC ps)
 own : S rb /\ (∀ x, hbk fv = some x -> S x) /\ (∀ r ∈ l, ∀ x, hbk r.v = some x -> S x) /\ ∀ x, hbk pv = some x -> S x
 su : ∀ c, S c -> σ.used c
section
variable {σ τ : St} {rb : Nat} {S : Nat -> Prop} {l : List Rw} {ps : PL} {size : Int} {fv pv : AV} {K : AV -> St -> Prop}
theorem RAt.but {U : Nat -> Prop} (h : RAt σ rb S l ps size fv pv) (k : But U σ τ) (hU : ∀ b, S b -> ¬ U b) : RAt τ rb S l ps size fv pv := by
 obtain ⟨o1, o2, o3, o4⟩ := h.own
 exact ⟨k.keep _ _ (hU _ o1) h.obj, k.used _ h.used, h.fl.but k fun b hb => hU _ (o2 b hb), fun r hr => (h.row r hr).but k fun b hb => hU _ (o3 r hr b hb), h.nn, h.far, h.pc.but k fun b hb => hU _ (o4 b hb), h.own, fun c hc => k.used _ (h.su c hc)⟩
theorem RAt.ext (h : RAt σ rb S l ps size fv pv) (k : Ext σ τ) : RAt τ rb S l ps size fv pv := h.but (U := fun _ => False) k.but fun _ _ => id
theorem Zd1 {i : Nat} (hi : i < l.length) : (rfC l)[i * 2 + 0]? = some (.raw (sV l[i].nm)) /\ (rfC l)[i * 2 + 1]? = some l[i].v := Zjd (f := fun r : Rw => .raw (sV r.nm)) (g := fun r : Rw => r.v) hi
theorem ZiE {i : Nat} (hi : i < ps.length) : (rpC ps)[i * 2 + 0]? = some (.raw (sV ps[i].1)) /\ (rpC ps)[i * 2 + 1]? = some (vI ps[i].2) := Zjd (f := fun p : List UInt8 × Nat => .raw (sV p.1)) (g := fun p : List UInt8 × Nat => vI p.2) hi
theorem Zkx {α β : Type} {f : α -> β} {l : List α} (hn : (l.map f).Nodup) : ∀ x ∈ l, ∀ y ∈ l, f x = f y -> x = y := Zbw hn
theorem RAt.uniqN (h : RAt σ rb S l ps size fv pv) {r q : Rw} (hr : r ∈ l) (hq : q ∈ l) (e : r.nm = q.nm) : r = q := Zkx h.nn r hr q hq e
theorem ZeB {e e' sz sz' n m : Nat} {u v : AV} {cs ds : List AV} (hu : Hd σ e sz u n cs) (hv : Hd σ e' sz' v m ds) (hne : e ≠ e') {c : Nat} (h1 : hbk u = some c) : ¬ hbk v = some c := hu.ne hv hne h1
theorem Zcv {e sz n : Nat} {u : AV} {cs : List AV} {b : Nat} {t : TypeId} {xs : List AV} (hu : Hd σ e sz u n cs) (hb : σ.blk b = some (.own t xs)) (hne : e ≠ t) {c : Nat} (h1 : hbk u = some c) : ¬ c = b := fun q => by
 obtain ⟨all, hall⟩ := hu.blk h1
 exact Zcu hall hb hne q
theorem RAt.setF (h : RAt σ rb S l ps size fv pv) {l' : List Rw} {fv' : AV} (k : But (fun c => c = rb \/ hbk fv = some c) σ τ) (hb : τ.blk rb = some (.own 46 [.raw (.int .i64 size), fv', pv])) (hfl : Hd τ 88 2 fv' l'.length (rfC l')) (hrow : ∀ r ∈ l', r ∈ l \/ (r.v = .lst none 0 0 [] /\ r.d = [])) (nn : (l'.map (·.nm)).Nodup) :
 RAt τ rb (fun c => S c \/ hbk fv' = some c) l' ps size fv' pv := by
 obtain ⟨o1, o2, o3, o4⟩ := h.own
 refine ⟨hb, k.used _ h.used, hfl, fun r hr => ?_, nn, fun r hr q hq x hx hy => ?_, h.pc.but k fun c hc hq => ?_, ⟨.inl o1, fun x hx => .inr hx, fun r hr x hx => ?_, fun x hx => .inl (o4 x hx)⟩, fun c hc => hc.elim (fun q => k.used _ (h.su c q)) fun q => hfl.used q⟩
 ·rcases hrow r hr with hr | ⟨e1, e2⟩
  ·refine (h.row r hr).but k fun c hc hq => ?_
   rcases hq with hq | hq
   ·exact Zcv (h.row r hr) h.obj (by decide) hc hq
   ·exact ZeB (h.row r hr) h.fl (by decide) hc hq
  ·rw [e1, e2]
   exact ⟨by simp [bys], by simp [bys], .inl ⟨.inl rfl, rfl⟩⟩
 ·rcases hrow r hr with hr | ⟨e1, e2⟩
  ·rcases hrow q hq with hq | ⟨e1, e2⟩
   ·exact h.far r hr q hq x hx hy
   ·rw [e1] at hy
    cases hy
  ·rw [e1] at hx
   cases hx
 ·rcases hq with hq | hq
  ·exact Zcv h.pc h.obj (by decide) hc hq
  ·exact ZeB h.pc h.fl (by decide) hc hq
 ·rcases hrow r hr with hr | ⟨e1, e2⟩
  ·exact .inl (o3 r hr x hx)
  ·rw [e1] at hx
   cases hx
theorem RAt.setR0 (h : RAt σ rb S l ps size fv pv) {i : Nat} (hi : i < l.length) {v' : AV} {d' : List UInt8} (k : But (fun c => hbk fv = some c \/ hbk l[i].v = some c) σ τ) (hfl : Hd τ 88 2 fv l.length (rfC (l.set i ⟨l[i].nm, v', d'⟩))) (hv : Hd τ 5 1 v' d'.length (bys d')) (hnew : ∀ c, hbk v' = some c -> hbk l[i].v = some c \/ ∀ r ∈ l, hbk r.v ≠ some c) :
 RAt τ rb (fun c => S c \/ hbk v' = some c) (l.set i ⟨l[i].nm, v', d'⟩) ps size fv pv := by
 obtain ⟨o1, o2, o3, o4⟩ := h.own
 have hmi := List.getElem_mem hi
 have hnm : (l.set i ⟨l[i].nm, v', d'⟩).map (·.nm) = l.map (·.nm) := by
  rw [List.map_set]
  apply List.ext_getElem?
  intro j
  rw [List.getElem?_set]
  split
  ·rename_i e
   subst e
   rw [if_pos (by rw [List.length_map]; exact hi), List.getElem?_map, List.getElem?_eq_getElem hi]
   rfl
  ·rfl
 have hmem : ∀ r ∈ l.set i ⟨l[i].nm, v', d'⟩, r = ⟨l[i].nm, v', d'⟩ \/ (r ∈ l /\ r.nm ≠ l[i].nm) := fun r hr => by
  obtain ⟨j, hj, rfl⟩ := List.getElem_of_mem hr
  rw [List.getElem_set]
  split
  ·exact .inl rfl
  ·rename_i hne
   rw [List.length_set] at hj
   refine .inr ⟨List.getElem_mem hj, fun e => hne ?_⟩
   have hnd := h.nn
   have e1 : (l.map (·.nm))[j]'(by rw [List.length_map]; exact hj) = (l.map (·.nm))[i]'(by rw [List.length_map]; exact hi) := by rw [List.getElem_map, List.getElem_map]; exact e
   exact (Zfm hnd e1).symm
 refine ⟨k.keep _ _ (fun hq => ?_) h.obj, k.used _ h.used, by rw [List.length_set]; exact hfl, fun r hr => ?_, by rw [hnm]; exact h.nn, fun r hr q hq x hx hy => ?_, h.pc.but k fun c hc hq => ?_, ⟨.inl o1, fun x hx => .inl (o2 x hx), fun r hr x hx => ?_, fun x hx => .inl (o4 x hx)⟩, fun c hc => hc.elim (fun q => k.used _ (h.su c q)) fun q => hv.used q⟩
 ·rcases hq with hq | hq
  ·exact Zcv h.fl h.obj (by decide) hq rfl
  ·exact Zcv (h.row _ hmi) h.obj (by decide) hq rfl
 ·rcases hmem r hr with rfl | ⟨hr, hne⟩
  ·exact hv
  ·refine (h.row r hr).but k fun c hc hq => ?_
   rcases hq with hq | hq
   ·exact ZeB (h.row r hr) h.fl (by decide) hc hq
   ·exact hne (h.far r hr _ hmi c hc hq)
 ·rcases hmem r hr with rfl | ⟨hr, hne⟩ <;> rcases hmem q hq with rfl | ⟨hq, hne2⟩
  ·rfl
  ·exfalso
   rcases hnew x hx with q1 | q1
   ·exact hne2 (h.far q hq _ hmi x hy q1)
   ·exact q1 q hq hy
  ·exfalso
   rcases hnew x hy with q1 | q1
   ·exact hne (h.far r hr _ hmi x hx q1)
   ·exact q1 r hr hx
  ·exact h.far r hr q hq x hx hy
 ·rcases hq with hq | hq
  ·exact ZeB h.pc h.fl (by decide) hc hq
  ·exact ZeB h.pc (h.row _ hmi) (by decide) hc hq
 ·rcases hmem r hr with rfl | ⟨hr, hne⟩
  ·exact .inr hx
  ·exact .inl (o3 r hr x hx)
theorem RAt.setR (h : RAt σ rb S l ps size fv pv) {i : Nat} (hi : i < l.length) {v' : AV} {d' : List UInt8} (k : But (fun c => hbk fv = some c \/ hbk l[i].v = some c) σ τ) (hfl : Hd τ 88 2 fv l.length (rfC (l.set i ⟨l[i].nm, v', d'⟩))) (hv : Hd τ 5 1 v' d'.length (bys d')) (hnew : ∀ c, hbk v' = some c -> hbk l[i].v = some c \/ ZaT σ c) :
 RAt τ rb (fun c => S c \/ hbk v' = some c) (l.set i ⟨l[i].nm, v', d'⟩) ps size fv pv := h.setR0 hi k hfl hv fun c hc => (hnew c hc).imp id fun q r hr e => q.2 ((h.row r hr).used e)
theorem RAt.setP (h : RAt σ rb S l ps size fv pv) {ps' : PL} {pv' : AV} (k : But (fun c => c = rb \/ hbk pv = some c) σ τ) (hb : τ.blk rb = some (.own 46 [.raw (.int .i64 size), fv, pv'])) (hpc : Hd τ 105 2 pv' ps'.length (rpC ps')) :
 RAt τ rb (fun c => S c \/ hbk pv' = some c) l ps' size fv pv' := by
 obtain ⟨o1, o2, o3, o4⟩ := h.own
 refine ⟨hb, k.used _ h.used, h.fl.but k fun c hc hq => ?_, fun r hr => (h.row r hr).but k fun c hc hq => ?_, h.nn, h.far, hpc, ⟨.inl o1, fun x hx => .inl (o2 x hx), fun r hr x hx => .inl (o3 r hr x hx), fun x hx => .inr hx⟩, fun c hc => hc.elim (fun q => k.used _ (h.su c q)) fun q => hpc.used q⟩
 ·rcases hq with hq | hq
  ·exact Zcv h.fl h.obj (by decide) hc hq
  ·exact ZeB h.fl h.pc (by decide) hc hq
 ·rcases hq with hq | hq
  ·exact Zcv (h.row r hr) h.obj (by decide) hc hq
  ·exact ZeB (h.row r hr) h.pc (by decide) hc hq
theorem RAt.setI (h : RAt σ rb S l ps size fv pv) {ps' : PL} (k : But (fun c => hbk pv = some c) σ τ) (hpc : Hd τ 105 2 pv ps'.length (rpC ps')) : RAt τ rb S l ps' size fv pv := by
 obtain ⟨o1, o2, o3, o4⟩ := h.own
 refine ⟨k.keep _ _ (fun hq => Zcv h.pc h.obj (by decide) hq rfl) h.obj, k.used _ h.used, h.fl.but k fun c hc hq => ZeB h.fl h.pc (by decide) hc hq, fun r hr => (h.row r hr).but k fun c hc hq => ZeB (h.row r hr) h.pc (by decide) hc hq, h.nn, h.far, hpc, ⟨o1, o2, o3, o4⟩, fun c hc => k.used _ (h.su c hc)⟩
theorem ZhL (h : RAt σ rb S l ps size fv pv) (hl : l.length <= 1000000000) {k : List UInt8} (hK1 : ∀ i (hi : i < l.length), l[i].nm = k -> K (vI i) σ) (hK2 : (∀ r ∈ l, r.nm ≠ k) -> K (.raw (.int .i64 (-1))) σ) : Zat Try.prog 70 [ptr rb 0, .raw (sV k)] σ K := by
 refine Zan Zas Try.func70 rfl rfl rfl (Nat.le_of_ble_eq_true rfl) ?_
 refine ZaO 0 1 (v0 := ptr rb 0) (v1 := .raw (sV k)) rfl rfl ?_
 intro e he
 repeat refine Zac ?_
 first|refine Zaa ?_|refine Zad ?_
 refine Zab (Zag rfl (by simp only [EV,Nat.reduceEqDiff,↓reduceIte,he];try rfl) ?_)
 refine Zaf ?_
 apply ZaO 0 1
 iterate 2 ·simp only [EV,Nat.reduceEqDiff,↓reduceIte,he];try rfl
 clear he e
 intro e he
 repeat refine Zac ?_
 first|refine Zaa ?_|refine Zad ?_
 refine Zab (Zag rfl (by simp only [EV,Nat.reduceEqDiff,↓reduceIte,he];try rfl) ?_)
 refine Zaf ?_
 apply ZaP 0 1 5
 iterate 3 ·simp only [EV,Nat.reduceEqDiff,↓reduceIte,he];try rfl
 clear he e
 intro e he
 refine ZaD ?_
 refine ZaN (fun μ env υ => ∃ (i : Nat), μ = l.length - i /\ i <= l.length /\ (env 0 = ptr rb 0 /\ env 1 = .raw (sV k) /\ env 5 = vI i) /\ υ = σ /\ ∀ r ∈ l.take i, r.nm ≠ k) ⟨_, 0, rfl, Nat.zero_le _, he, rfl, fun r hr => by cases hr⟩ ?_
 clear he e
 rintro _ e _ ⟨i, rfl, hi, he, rfl, hno⟩
 repeat refine Zac ?_
 first|refine Zaa ?_|refine Zad ?_
 refine Zab (Zag rfl (by simp only [EV,Nat.reduceEqDiff,↓reduceIte,he];try rfl) ?_)
 refine ZcF (b := rb) (by simp only [EV,Nat.reduceEqDiff,↓reduceIte,he];try rfl) ZaC rfl h.obj rfl ZbH Zbr fun u1 u2 u3 => ?_
 refine Zab ?_
 refine ZbC (by simp only [EV,Nat.reduceEqDiff,↓reduceIte,he];try rfl) h.fl rfl Za9 ?_
 refine Zab ?_
 refine Zbm i l.length (by simp only [EV,Nat.reduceEqDiff,↓reduceIte,he];try rfl) (by simp only [EV,Nat.reduceEqDiff,↓reduceIte,he];try rfl) ?_
 refine Zaf ?_
 apply ZaK 0 1 5 12
 iterate 4 ·simp only [EV,Nat.reduceEqDiff,↓reduceIte,he];try rfl
 clear he e
 intro e he
 refine Zav (t := decide (i < l.length)) (by simp only [EV,Nat.reduceEqDiff,↓reduceIte,he];try rfl) (fun ht => ?_) (fun ht => ?_)
 ·have hlt : i < l.length := of_decide_eq_true ht
  refine Zaz ?_
  refine ZaD ?_
  repeat refine Zac ?_
  first|refine Zaa ?_|refine Zad ?_
  refine ZcF (b := rb) (by simp only [EV,Nat.reduceEqDiff,↓reduceIte,he];try rfl) ZaC rfl h.obj rfl ZbH Zbr fun u1 u2 u3 => ?_
  refine Zab (Zag rfl (by simp only [EV,Nat.reduceEqDiff,↓reduceIte,he];try rfl) ?_)
  refine ZeT (by simp only [EV,Nat.reduceEqDiff,↓reduceIte,he];try rfl) (by simp only [EV,Nat.reduceEqDiff,↓reduceIte,he];try rfl) Za9 Zbo h.fl hlt Zck rfl (Zd1 hlt).1 ZbT Zbv fun u1 u2 => ?_
  refine Zab (Zag rfl (by simp only [EV,Nat.reduceEqDiff,↓reduceIte,he];try rfl) ?_)
  refine Zab ?_
  refine Zed (a := l[i].nm) (c := k) ZcE (by simp only [EV,Nat.reduceEqDiff,↓reduceIte,he];try rfl) (by simp only [EV,Nat.reduceEqDiff,↓reduceIte,he];try rfl) ?_
  refine Zaf ?_
  apply ZaK 0 1 5 24
  iterate 4 ·simp only [EV,Nat.reduceEqDiff,↓reduceIte,he];try rfl
  clear he e
  intro e he
  refine ZaM (t := decide (l[i].nm = k)) (by simp only [EV,Nat.reduceEqDiff,↓reduceIte,he];try rfl) (fun hq => ?_) (fun hq => ?_)
  ·repeat refine Zac ?_
   first|refine Zaa ?_|refine Zad ?_
   refine Zab (Zag rfl (by simp only [EV,Nat.reduceEqDiff,↓reduceIte,he];try rfl) ?_)
   refine Zab (Zag rfl (by simp only [EV,Nat.reduceEqDiff,↓reduceIte,he];try rfl) ?_)
   refine Zaf ?_
   refine Zaw ?_
   show ∃ r, Zaj _ _ _ _ r /\ _
   exact ⟨_, Zal rfl (by simp only [EV,Nat.reduceEqDiff,↓reduceIte,he];try rfl), hK1 i hlt (of_decide_eq_true hq)⟩
  ·have hq := of_decide_eq_false hq
   refine Zbh ?_
   show Zay _ _ _ _ _ _
   refine Zad ?_
   refine Zab (Zag rfl (by simp only [EV,Nat.reduceEqDiff,↓reduceIte,he];try rfl) ?_)
   refine Zab ?_
   refine ZaL i 1 (by simp only [EV,Nat.reduceEqDiff,↓reduceIte,he];try rfl) (by simp only [EV,Nat.reduceEqDiff,↓reduceIte,he];try rfl) (by omega) ?_
   refine Zab (Zag rfl (by simp only [EV,Nat.reduceEqDiff,↓reduceIte,he];try rfl) ?_)
   refine Zaf ?_
   show ∃ n', n' < _ /\ _
   refine ⟨_, (by omega : l.length - (i + 1) < l.length - i), i + 1, rfl, hlt, ⟨by simp only [EV,Nat.reduceEqDiff,↓reduceIte,he];try rfl, by simp only [EV,Nat.reduceEqDiff,↓reduceIte,he];try rfl, by simp only [EV,Nat.reduceEqDiff,↓reduceIte,he];try rfl⟩, rfl, fun r hr => ?_⟩
   rw [List.take_succ_eq_append_getElem hlt] at hr
   rcases List.mem_append.1 hr with hr | hr
   ·exact hno r hr
   ·rw [List.mem_singleton.1 hr]; exact hq
 ·have hke : i = l.length := by have := of_decide_eq_false ht; omega
  refine Zba ?_
  show Zay _ _ _ _ _ _
  repeat refine Zac ?_
  first|refine Zaa ?_|refine Zad ?_
  refine Zab (Zag rfl (by simp only [EV,Nat.reduceEqDiff,↓reduceIte,he];try rfl) ?_)
  refine Zaf ?_
  refine Zaw ?_
  rw [hke, List.take_length] at hno
  show ∃ r, Zaj _ _ _ _ r /\ _
  exact ⟨_, Zal rfl (by simp only [EV,Nat.reduceEqDiff,↓reduceIte,he];try rfl), hK2 hno⟩
end
end Go.Proofs.Ytinpiaibhjmfaaa
namespace Go.Proofs.Ytinpiaibhjmfaaa
open Go.RowKit
set_option maxRecDepth 100000
set_option linter.unusedVariables false
set_option linter.unusedSimpArgs false
theorem Zpq : ZcL Try.prog 9 = some 16 := by kernel_rfl
theorem Zj1 : ZcL Try.prog 5 = some 1 := by kernel_rfl
abbrev PW (p : List UInt8 × Nat) : List AV := [.raw (sV p.1), vI p.2]
theorem Zje {ps : PL} {i : Nat} (h : i < ps.length) : ((rpC ps).drop (i * 2)).take 2 = PW ps[i] := by
 unfold rpC
 rw [ZhK, List.drop_eq_getElem_cons h]
 rfl
theorem Zjf (l m : PL) : rpC (l ++ m) = rpC l ++ rpC m := by simp [rpC]
theorem Zjg (l m : List Rw) : rfC (l ++ m) = rfC l ++ rfC m := by simp [rfC]
theorem ZlU {a b : AV} (ha : a.one = true) (hb : b.one = true) : ∀ x ∈ [a, b], x.one = true := fun x hx => by
 simp only [List.mem_cons, List.not_mem_nil, or_false] at hx
 rcases hx with rfl | rfl
 ·exact ha
 ·exact hb
def Zdv (ps : PL) : Nat := (ps.map (·.2)).sum
theorem ZiF {α : Type} {p : α -> Bool} {l : List α} {i : Nat} (h : i < l.length) : (l.take (i + 1)).filter p = (l.take i).filter p ++ if p l[i] then [l[i]] else [] := by
 rw [List.take_succ_eq_append_getElem h, List.filter_append]
 cases hp : p l[i] <;> simp [hp]
section
variable {σ τ : St} {rb : Nat} {S : Nat -> Prop} {l : List Rw} {ps : PL} {size : Int} {fv pv : AV} {K : AV -> St -> Prop}
theorem ZlV (h : RAt σ rb S l ps size fv pv) (hl : l.length <= 1000000000) (hK : ∀ v τ, Hd τ 9 1 v l.length (ZeO (l.map (·.nm))) -> Ext σ τ -> (∀ c, hbk v = some c -> ZaT σ c) -> K v τ) : Zat Try.prog 54 [ptr rb 0] σ K := by
 refine Zan Zas Try.func54 rfl rfl rfl (Nat.le_of_ble_eq_true rfl) ?_
 refine ZbN 0 (v0 := ptr rb 0) rfl ?_
 intro e he
 repeat refine Zac ?_
 first|refine Zaa ?_|refine Zad ?_
 refine Zab (Zag rfl (by simp only [EV,Nat.reduceEqDiff,↓reduceIte,he];try rfl) ?_)
 refine Zaf ?_
 apply ZbN 0
 ·simp only [EV,Nat.reduceEqDiff,↓reduceIte,he];try rfl
 clear he e
 intro e he
 repeat refine Zac ?_
 first|refine Zaa ?_|refine Zad ?_
 refine Zab (Zag rfl (by simp only [EV,Nat.reduceEqDiff,↓reduceIte,he];try rfl) ?_)
 refine Zaf ?_
 apply ZaO 0 3
 iterate 2 ·simp only [EV,Nat.reduceEqDiff,↓reduceIte,he];try rfl
 clear he e
 intro e he
 repeat refine Zac ?_
 first|refine Zaa ?_|refine Zad ?_
 refine Zab (Zag rfl (by simp only [EV,Nat.reduceEqDiff,↓reduceIte,he];try rfl) ?_)
 refine Zaf ?_
 apply ZaP 0 3 4
 iterate 3 ·simp only [EV,Nat.reduceEqDiff,↓reduceIte,he];try rfl
 clear he e
 intro e he
 refine ZaQ (fun env υ => ∃ v, env 3 = v /\ Hd υ 9 1 v l.length (ZeO (l.map (·.nm))) /\ Ext σ υ /\ (∀ c, hbk v = some c -> ZaT σ c)) ?_ ?_
 ·refine ZaI ?_
  refine ZaN (fun μ env υ => ∃ (i : Nat), ∃ v, μ = l.length - i /\ i <= l.length /\ (env 0 = ptr rb 0 /\ env 3 = v /\ env 4 = vI i) /\ Hd υ 9 1 v i (ZeO ((l.take i).map (·.nm))) /\ Ext σ υ /\ (∀ c, hbk v = some c -> ZaT σ c)) ⟨_, 0, _, rfl, Nat.zero_le _, he, ⟨rfl, by simp [ZeO], .inl ⟨.inl rfl, rfl⟩⟩, .refl _, fun c hc => by cases hc⟩ ?_
  clear he e
  rintro _ e υ ⟨i, v, rfl, hi, he, hv, hE, hn⟩
  have h1 := h.ext hE
  repeat refine Zac ?_
  first|refine Zaa ?_|refine Zad ?_
  refine Zab (Zag rfl (by simp only [EV,Nat.reduceEqDiff,↓reduceIte,he];try rfl) ?_)
  refine ZcF (b := rb) (by simp only [EV,Nat.reduceEqDiff,↓reduceIte,he];try rfl) ZaC rfl h1.obj rfl ZbH Zbr fun u1 u2 u3 => ?_
  refine Zab ?_
  refine ZbC (by simp only [EV,Nat.reduceEqDiff,↓reduceIte,he];try rfl) h1.fl rfl Za9 ?_
  refine Zab ?_
  refine Zbm i l.length (by simp only [EV,Nat.reduceEqDiff,↓reduceIte,he];try rfl) (by simp only [EV,Nat.reduceEqDiff,↓reduceIte,he];try rfl) ?_
  refine Zaf ?_
  apply ZaK 0 3 4 11
  iterate 4 ·simp only [EV,Nat.reduceEqDiff,↓reduceIte,he];try rfl
  clear he e
  intro e he
  refine Zav (t := decide (i < l.length)) (by simp only [EV,Nat.reduceEqDiff,↓reduceIte,he];try rfl) (fun ht => ?_) (fun ht => ?_)
  ·have hlt : i < l.length := of_decide_eq_true ht
   refine Zaz ?_
   refine ZaD ?_
   refine Zad ?_
   refine Zab (Zag rfl (by simp only [EV,Nat.reduceEqDiff,↓reduceIte,he];try rfl) ?_)
   refine ZcF (b := rb) (by simp only [EV,Nat.reduceEqDiff,↓reduceIte,he];try rfl) ZaC rfl h1.obj rfl ZbH Zbr fun u1 u2 u3 => ?_
   refine Zab (Zag rfl (by simp only [EV,Nat.reduceEqDiff,↓reduceIte,he];try rfl) ?_)
   refine ZeT (by simp only [EV,Nat.reduceEqDiff,↓reduceIte,he];try rfl) (by simp only [EV,Nat.reduceEqDiff,↓reduceIte,he];try rfl) Za9 Zbo h1.fl hlt Zck rfl (Zd1 hlt).1 ZbT Zbv fun u1 u2 => ?_
   refine Zab ?_
   refine Zdc (vs := [.raw (sV l[i].nm)]) (cells := [.raw (sV l[i].nm)]) (by simp only [List.map_cons, List.map_nil, EV,Nat.reduceEqDiff,↓reduceIte,he];try rfl) ZaR Zbv ZhD rfl (by omega) rfl rfl fun b1 υ1 hN1 hX1 => ?_
   refine Zab ?_
   refine Za8 (m := 1) (news := [.raw (sV l[i].nm)]) (r := .lst (some ⟨b1, 0, none⟩) 1 1 ([.raw (sV l[i].nm)] ++ [])) (by simp only [EV,Nat.reduceEqDiff,↓reduceIte,he];try rfl) (by simp only [EV,Nat.reduceEqDiff,↓reduceIte,he];try rfl) ZaR Zbv ZhD Zpq rfl (by omega) (hv.ext hX1) (Zb5 rfl (fun a ha => by rw [List.mem_singleton.1 ha]; rfl) (fun q => by cases q)) (by unfold maxLen; omega) (by omega) fun v2 υ2 hv2 hB2 hn2 => ?_
   refine Zab (Zag rfl (by simp only [EV,Nat.reduceEqDiff,↓reduceIte,he];try rfl) ?_)
   refine Zaf ?_
   have hE1 := hE.trans hX1
   have hE2 : Ext σ υ2 := But.ext hE1 (fun c hc => (hn c hc).1) hB2
   have hn3 : ∀ c, hbk v2 = some c -> ZaT σ c := fun c hc => by
    rcases hn2 c hc with q | q
    ·exact hn c q
    ·exact ZaT.of q hE1
   have e1 : ZeO ((l.take i).map (·.nm)) ++ [.raw (sV l[i].nm)] = ZeO ((l.take (i + 1)).map (·.nm)) := by
    rw [List.take_succ_eq_append_getElem hlt, List.map_append]
    unfold ZeO
    rw [List.map_append]
    rfl
   rw [e1] at hv2
   show Zay _ _ _ _ _ _
   apply ZaP 0 3 4
   iterate 3 ·simp only [EV,Nat.reduceEqDiff,↓reduceIte,he];try rfl
   clear he e
   intro e he
   refine Zad ?_
   refine Zab (Zag rfl (by simp only [EV,Nat.reduceEqDiff,↓reduceIte,he];try rfl) ?_)
   refine Zab ?_
   refine ZaL i 1 (by simp only [EV,Nat.reduceEqDiff,↓reduceIte,he];try rfl) (by simp only [EV,Nat.reduceEqDiff,↓reduceIte,he];try rfl) (by omega) ?_
   refine Zab (Zag rfl (by simp only [EV,Nat.reduceEqDiff,↓reduceIte,he];try rfl) ?_)
   refine Zaf ?_
   show ∃ n', n' < _ /\ _
   exact ⟨_, (by omega : l.length - (i + 1) < l.length - i), i + 1, v2, rfl, hlt, ⟨by simp only [EV,Nat.reduceEqDiff,↓reduceIte,he];try rfl, by simp only [EV,Nat.reduceEqDiff,↓reduceIte,he];try rfl, by simp only [EV,Nat.reduceEqDiff,↓reduceIte,he];try rfl⟩, hv2, hE2, hn3⟩
  ·have hke : i = l.length := by have := of_decide_eq_false ht; omega
   subst hke
   refine Zba ?_
   rw [List.take_length] at hv
   exact ⟨rfl, v, by simp only [EV,Nat.reduceEqDiff,↓reduceIte,he];try rfl, hv, hE, hn⟩
 clear he e
 rintro e υ ⟨v, he, hv, hE, hn⟩
 repeat refine Zac ?_
 first|refine Zaa ?_|refine Zad ?_
 refine Zab (Zag rfl (by simp only [EV,Nat.reduceEqDiff,↓reduceIte,he];try rfl) ?_)
 refine Zab (Zag rfl (by simp only [EV,Nat.reduceEqDiff,↓reduceIte,he];try rfl) ?_)
 refine Zaf ?_
 refine Zaw ?_
 show ∃ r, Zaj _ _ _ _ r /\ _
 exact ⟨_, Zal rfl (by simp only [EV,Nat.reduceEqDiff,↓reduceIte,he];try rfl), hK v υ hv hE hn⟩
theorem ZhM (h : RAt σ rb S l ps size fv pv) (hl : l.length <= 1000000000) (hfl : ∀ r ∈ l, r.d.length <= 1000000000) {k : List UInt8} (hK1 : (∀ r ∈ l, r.nm ≠ k) -> K (.tup [.lst none 0 0 [], vT false]) σ)
 (hK2 : ∀ r ∈ l, r.nm = k -> ∀ v τ, Hd τ 5 1 v r.d.length (bys r.d) -> Ext σ τ -> (∀ c, hbk v = some c -> ZaT σ c) -> K (.tup [v, vT true]) τ) : Zat Try.prog 56 [ptr rb 0, .raw (sV k)] σ K := by
 refine Zan Zas Try.func56 rfl rfl rfl (Nat.le_of_ble_eq_true rfl) ?_
 refine ZaO 0 1 (v0 := ptr rb 0) (v1 := .raw (sV k)) rfl rfl ?_
 intro e he
 repeat refine Zac ?_
 first|refine Zaa ?_|refine Zad ?_
 refine Zab (Zag rfl (by simp only [EV,Nat.reduceEqDiff,↓reduceIte,he];try rfl) ?_)
 refine Zab (Zag rfl (by simp only [EV,Nat.reduceEqDiff,↓reduceIte,he];try rfl) ?_)
 refine Zaf ?_
 apply ZaO 0 1
 iterate 2 ·simp only [EV,Nat.reduceEqDiff,↓reduceIte,he];try rfl
 clear he e
 intro e he
 repeat refine Zac ?_
 first|refine Zaa ?_|refine Zad ?_
 refine Zab (Zag rfl (by simp only [EV,Nat.reduceEqDiff,↓reduceIte,he];try rfl) ?_)
 refine Zab (Zag rfl (by simp only [EV,Nat.reduceEqDiff,↓reduceIte,he];try rfl) ?_)
 refine Zab ?_
 refine Zar (vs := [ptr rb 0, .raw (sV k)]) (by simp only [List.map_cons, List.map_nil, EV,Nat.reduceEqDiff,↓reduceIte,he];try rfl) ?_
 refine ZhL h hl (fun i hi hn => ?_) fun hno => ?_
 ·refine Zab (Zag rfl (by simp only [EV,Nat.reduceEqDiff,↓reduceIte,he];try rfl) ?_)
  refine Zaf ?_
  apply ZaO 0 6
  iterate 2 ·simp only [EV,Nat.reduceEqDiff,↓reduceIte,he];try rfl
  clear he e
  intro e he
  repeat refine Zac ?_
  first|refine Zaa ?_|refine Zad ?_
  refine Zab (Zag rfl (by simp only [EV,Nat.reduceEqDiff,↓reduceIte,he];try rfl) ?_)
  refine Zab ?_
  refine ZeM (k := .i64) (a := (i : Int)) (b := 0) (by simp only [EV,Nat.reduceEqDiff,↓reduceIte,he];try rfl) (by simp only [EV,Nat.reduceEqDiff,↓reduceIte,he];try rfl) ?_
  rw [decide_eq_false (by omega : ¬ (i : Int) < 0)]
  refine Zaf ?_
  apply ZaP 0 6 11
  iterate 3 ·simp only [EV,Nat.reduceEqDiff,↓reduceIte,he];try rfl
  clear he e
  intro e he
  refine Zav (t := false) (by simp only [EV,Nat.reduceEqDiff,↓reduceIte,he];try rfl) (fun hf => by cases hf) (fun _ => ?_)
  refine Zaz ?_
  repeat refine Zac ?_
  first|refine Zaa ?_|refine Zad ?_
  refine Zn2 Zax Zbu Zcg rfl fun ad υ1 hX1 => ?_
  have h1 := h.ext hX1
  have hm := List.getElem_mem hi
  refine ZcF (b := rb) (by simp only [EV,Nat.reduceEqDiff,↓reduceIte,he];try rfl) ZaC rfl h1.obj rfl ZbH Zbr fun u1 u2 u3 => ?_
  refine Zab (Zag rfl (by simp only [EV,Nat.reduceEqDiff,↓reduceIte,he];try rfl) ?_)
  refine ZeT (by simp only [EV,Nat.reduceEqDiff,↓reduceIte,he];try rfl) (by simp only [EV,Nat.reduceEqDiff,↓reduceIte,he];try rfl) Za9 Zbo h1.fl hi Zck rfl (Zd1 hi).2 Zby ZaS fun u1 u2 => ?_
  refine Zab ?_
  have hr := h1.row _ hm
  have hd := hfl _ hm
  refine Za8 (m := l[i].d.length) (news := bys l[i].d) (by simp only [EV,Nat.reduceEqDiff,↓reduceIte,he];try rfl) (by simp only [EV,Nat.reduceEqDiff,↓reduceIte,he];try rfl) Zax Zbu Zcg Zj1 rfl (by omega) (Zpa ad) (hr.src (by omega)) (by unfold maxLen; omega) (by omega) fun v2 υ2 hv2 hB2 hn2 => ?_
  rw [Nat.zero_add, List.nil_append] at hv2
  refine Zab (Zag rfl (by simp only [EV,Nat.reduceEqDiff,↓reduceIte,he];try rfl) ?_)
  refine Zab (Zag rfl (by simp only [EV,Nat.reduceEqDiff,↓reduceIte,he];try rfl) ?_)
  refine Zaf ?_
  refine Zaw ?_
  have hE2 : Ext σ υ2 := But.ext hX1 (fun c hc => by cases hc) hB2
  refine ZfX rfl (ZdC (by simp only [EV,Nat.reduceEqDiff,↓reduceIte,he];try rfl)) (ZdC (by simp only [EV,Nat.reduceEqDiff,↓reduceIte,he];try rfl)) (hK2 _ hm hn v2 υ2 hv2 hE2 fun c hc => ?_)
  rcases hn2 c hc with q | q
  ·cases q
  ·exact ZaT.of q hX1
 ·refine Zab (Zag rfl (by simp only [EV,Nat.reduceEqDiff,↓reduceIte,he];try rfl) ?_)
  refine Zaf ?_
  apply ZaO 0 6
  iterate 2 ·simp only [EV,Nat.reduceEqDiff,↓reduceIte,he];try rfl
  clear he e
  intro e he
  repeat refine Zac ?_
  first|refine Zaa ?_|refine Zad ?_
  refine Zab (Zag rfl (by simp only [EV,Nat.reduceEqDiff,↓reduceIte,he];try rfl) ?_)
  refine Zab ?_
  refine ZeM (k := .i64) (a := -1) (b := 0) (by simp only [EV,Nat.reduceEqDiff,↓reduceIte,he];try rfl) (by simp only [EV,Nat.reduceEqDiff,↓reduceIte,he];try rfl) ?_
  refine Zaf ?_
  apply ZaP 0 6 11
  iterate 3 ·simp only [EV,Nat.reduceEqDiff,↓reduceIte,he];try rfl
  clear he e
  intro e he
  refine Zav (t := true) (by simp only [EV,Nat.reduceEqDiff,↓reduceIte,he];try rfl) (fun _ => ?_) (fun hf => by cases hf)
  repeat refine Zac ?_
  first|refine Zaa ?_|refine Zad ?_
  refine Zab (Zag rfl (by simp only [EV,Nat.reduceEqDiff,↓reduceIte,he];try rfl) ?_)
  refine Zab (Zag rfl (by simp only [EV,Nat.reduceEqDiff,↓reduceIte,he];try rfl) ?_)
  refine Zaf ?_
  refine Zc2 ?_
  exact ZfX rfl (ZdC (by simp only [EV,Nat.reduceEqDiff,↓reduceIte,he];try rfl)) (ZdC (by simp only [EV,Nat.reduceEqDiff,↓reduceIte,he];try rfl)) (hK1 hno)
theorem ZiG (h : RAt σ rb S l ps size fv pv) (hl : ps.length <= 1000000000) (hs : Zdv ps <= 1000000000) (hK : K (vI (Zdv ps)) σ) : Zat Try.prog 55 [ptr rb 0] σ K := by
 have hsn : ∀ i, Zdv (ps.take i) <= Zdv ps := fun i => by
  have e : Zdv ps = Zdv (ps.take i) + Zdv (ps.drop i) := by
   unfold Zdv
   conv => lhs; rw [<- List.take_append_drop i ps, List.map_append, List.sum_append]
  omega
 refine Zan Zas Try.func55 rfl rfl rfl (Nat.le_of_ble_eq_true rfl) ?_
 refine ZbN 0 (v0 := ptr rb 0) rfl ?_
 intro e he
 repeat refine Zac ?_
 first|refine Zaa ?_|refine Zad ?_
 refine Zab (Zag rfl (by simp only [EV,Nat.reduceEqDiff,↓reduceIte,he];try rfl) ?_)
 refine Zaf ?_
 apply ZbN 0
 ·simp only [EV,Nat.reduceEqDiff,↓reduceIte,he];try rfl
 clear he e
 intro e he
 repeat refine Zac ?_
 first|refine Zaa ?_|refine Zad ?_
 refine Zab (Zag rfl (by simp only [EV,Nat.reduceEqDiff,↓reduceIte,he];try rfl) ?_)
 refine Zaf ?_
 apply ZaO 0 3
 iterate 2 ·simp only [EV,Nat.reduceEqDiff,↓reduceIte,he];try rfl
 clear he e
 intro e he
 repeat refine Zac ?_
 first|refine Zaa ?_|refine Zad ?_
 refine Zab (Zag rfl (by simp only [EV,Nat.reduceEqDiff,↓reduceIte,he];try rfl) ?_)
 refine Zaf ?_
 apply ZaP 0 3 4
 iterate 3 ·simp only [EV,Nat.reduceEqDiff,↓reduceIte,he];try rfl
 clear he e
 intro e he
 refine ZaQ (fun env υ => env 3 = vI (Zdv ps) /\ υ = σ) ?_ ?_
 ·refine ZaI ?_
  refine ZaN (fun μ env υ => ∃ (i : Nat), μ = ps.length - i /\ i <= ps.length /\ (env 0 = ptr rb 0 /\ env 3 = vI (Zdv (ps.take i)) /\ env 4 = vI i) /\ υ = σ) ⟨_, 0, rfl, Nat.zero_le _, he, rfl⟩ ?_
  clear he e
  rintro _ e _ ⟨i, rfl, hi, he, rfl⟩
  repeat refine Zac ?_
  first|refine Zaa ?_|refine Zad ?_
  refine Zab (Zag rfl (by simp only [EV,Nat.reduceEqDiff,↓reduceIte,he];try rfl) ?_)
  refine ZcF (b := rb) (by simp only [EV,Nat.reduceEqDiff,↓reduceIte,he];try rfl) ZaC rfl h.obj rfl ZbW ZbB fun u1 u2 u3 => ?_
  refine Zab ?_
  refine ZbC (by simp only [EV,Nat.reduceEqDiff,↓reduceIte,he];try rfl) h.pc rfl Zbq ?_
  refine Zab ?_
  refine Zbm i ps.length (by simp only [EV,Nat.reduceEqDiff,↓reduceIte,he];try rfl) (by simp only [EV,Nat.reduceEqDiff,↓reduceIte,he];try rfl) ?_
  refine Zaf ?_
  apply ZaK 0 3 4 11
  iterate 4 ·simp only [EV,Nat.reduceEqDiff,↓reduceIte,he];try rfl
  clear he e
  intro e he
  refine Zav (t := decide (i < ps.length)) (by simp only [EV,Nat.reduceEqDiff,↓reduceIte,he];try rfl) (fun ht => ?_) (fun ht => ?_)
  ·have hlt : i < ps.length := of_decide_eq_true ht
   have hs1 : Zdv (ps.take (i + 1)) = Zdv (ps.take i) + ps[i].2 := by
    rw [List.take_succ_eq_append_getElem hlt]
    unfold Zdv
    rw [List.map_append, List.sum_append]
    simp
   have := hsn (i + 1)
   refine Zaz ?_
   refine ZaD ?_
   refine Zad ?_
   refine Zab (Zag rfl (by simp only [EV,Nat.reduceEqDiff,↓reduceIte,he];try rfl) ?_)
   refine ZcF (b := rb) (by simp only [EV,Nat.reduceEqDiff,↓reduceIte,he];try rfl) ZaC rfl h.obj rfl ZbW ZbB fun u1 u2 u3 => ?_
   refine Zab (Zag rfl (by simp only [EV,Nat.reduceEqDiff,↓reduceIte,he];try rfl) ?_)
   refine ZeT (by simp only [EV,Nat.reduceEqDiff,↓reduceIte,he];try rfl) (by simp only [EV,Nat.reduceEqDiff,↓reduceIte,he];try rfl) Zbq Zbl h.pc hlt ZcI rfl (ZiE hlt).2 Zb6 ZbX fun u1 u2 => ?_
   refine Zab ?_
   refine ZaL (Zdv (ps.take i)) (ps[i].2) (by simp only [EV,Nat.reduceEqDiff,↓reduceIte,he];try rfl) (by simp only [EV,Nat.reduceEqDiff,↓reduceIte,he];try rfl) (by omega) ?_
   refine Zab (Zag rfl (by simp only [EV,Nat.reduceEqDiff,↓reduceIte,he];try rfl) ?_)
   refine Zaf ?_
   show Zay _ _ _ _ _ _
   rw [<- hs1]
   apply ZaP 0 3 4
   iterate 3 ·simp only [EV,Nat.reduceEqDiff,↓reduceIte,he];try rfl
   clear he e
   intro e he
   refine Zad ?_
   refine Zab (Zag rfl (by simp only [EV,Nat.reduceEqDiff,↓reduceIte,he];try rfl) ?_)
   refine Zab ?_
   refine ZaL i 1 (by simp only [EV,Nat.reduceEqDiff,↓reduceIte,he];try rfl) (by simp only [EV,Nat.reduceEqDiff,↓reduceIte,he];try rfl) (by omega) ?_
   refine Zab (Zag rfl (by simp only [EV,Nat.reduceEqDiff,↓reduceIte,he];try rfl) ?_)
   refine Zaf ?_
   show ∃ n', n' < _ /\ _
   exact ⟨_, (by omega : ps.length - (i + 1) < ps.length - i), i + 1, rfl, hlt, ⟨by simp only [EV,Nat.reduceEqDiff,↓reduceIte,he];try rfl, by simp only [EV,Nat.reduceEqDiff,↓reduceIte,he];try rfl, by simp only [EV,Nat.reduceEqDiff,↓reduceIte,he];try rfl⟩, rfl⟩
  ·have hke : i = ps.length := by have := of_decide_eq_false ht; omega
   refine Zba ?_
   have h3 := he.2.1
   rw [hke, List.take_length] at h3
   exact ⟨rfl, h3, rfl⟩
 clear he e
 rintro e _ ⟨he, rfl⟩
 repeat refine Zac ?_
 first|refine Zaa ?_|refine Zad ?_
 refine Zab (Zag rfl (by simp only [EV,Nat.reduceEqDiff,↓reduceIte,he];try rfl) ?_)
 refine Zab (Zag rfl (by simp only [EV,Nat.reduceEqDiff,↓reduceIte,he];try rfl) ?_)
 refine Zaf ?_
 refine Zaw ?_
 show ∃ r, Zaj _ _ _ _ r /\ _
 exact ⟨_, Zal rfl (by simp only [EV,Nat.reduceEqDiff,↓reduceIte,he];try rfl), hK⟩
theorem Zj2 (h : RAt σ rb S l ps size fv pv) (hl : ps.length <= 1000000000) {k : List UInt8} (hK : ∀ τ S' pv', RAt τ rb S' l (ps.filter fun p => decide (p.1 ≠ k)) size fv pv' -> But S σ τ -> (∀ c, S c -> S' c) -> (∀ c, S' c -> S c \/ ZaT σ c) -> K (.tup []) τ) : Zat Try.prog 71 [ptr rb 0, .raw (sV k)] σ K := by
 refine Zan Zas Try.func71 rfl rfl rfl (Nat.le_of_ble_eq_true rfl) ?_
 refine ZaO 0 1 (v0 := ptr rb 0) (v1 := .raw (sV k)) rfl rfl ?_
 intro e he
 repeat refine Zac ?_
 first|refine Zaa ?_|refine Zad ?_
 refine Zab (Zag rfl (by simp only [EV,Nat.reduceEqDiff,↓reduceIte,he];try rfl) ?_)
 refine Zaf ?_
 apply ZaP 0 1 4
 iterate 3 ·simp only [EV,Nat.reduceEqDiff,↓reduceIte,he];try rfl
 clear he e
 intro e he
 repeat refine Zac ?_
 first|refine Zaa ?_|refine Zad ?_
 refine Zab (Zag rfl (by simp only [EV,Nat.reduceEqDiff,↓reduceIte,he];try rfl) ?_)
 refine Zaf ?_
 apply ZaK 0 1 4 5
 iterate 4 ·simp only [EV,Nat.reduceEqDiff,↓reduceIte,he];try rfl
 clear he e
 intro e he
 refine ZaQ (fun env υ => ∃ v, (env 0 = ptr rb 0 /\ env 4 = v) /\ Hd υ 105 2 v (ps.filter fun p => decide (p.1 ≠ k)).length (rpC (ps.filter fun p => decide (p.1 ≠ k))) /\ Ext σ υ /\ (∀ c, hbk v = some c -> ZaT σ c)) ?_ ?_
 ·refine ZaI ?_
  refine ZaN (fun μ env υ => ∃ (i : Nat), ∃ v, μ = ps.length - i /\ i <= ps.length /\ (env 0 = ptr rb 0 /\ env 1 = .raw (sV k) /\ env 4 = v /\ env 5 = vI i) /\ Hd υ 105 2 v ((ps.take i).filter fun p => decide (p.1 ≠ k)).length (rpC ((ps.take i).filter fun p => decide (p.1 ≠ k))) /\ Ext σ υ /\ (∀ c, hbk v = some c -> ZaT σ c)) ⟨_, 0, _, rfl, Nat.zero_le _, he, ⟨rfl, by simp [rpC], .inl ⟨.inl rfl, rfl⟩⟩, .refl _, fun c hc => by cases hc⟩ ?_
  clear he e
  rintro _ e υ ⟨i, v, rfl, hi, he, hv, hE, hn⟩
  have h1 := h.ext hE
  repeat refine Zac ?_
  first|refine Zaa ?_|refine Zad ?_
  refine Zab (Zag rfl (by simp only [EV,Nat.reduceEqDiff,↓reduceIte,he];try rfl) ?_)
  refine ZcF (b := rb) (by simp only [EV,Nat.reduceEqDiff,↓reduceIte,he];try rfl) ZaC rfl h1.obj rfl ZbW ZbB fun u1 u2 u3 => ?_
  refine Zab ?_
  refine ZbC (by simp only [EV,Nat.reduceEqDiff,↓reduceIte,he];try rfl) h1.pc rfl Zbq ?_
  refine Zab ?_
  refine Zbm i ps.length (by simp only [EV,Nat.reduceEqDiff,↓reduceIte,he];try rfl) (by simp only [EV,Nat.reduceEqDiff,↓reduceIte,he];try rfl) ?_
  refine Zaf ?_
  apply ZbZ 0 1 4 5 12
  iterate 5 ·simp only [EV,Nat.reduceEqDiff,↓reduceIte,he];try rfl
  clear he e
  intro e he
  refine Zav (t := decide (i < ps.length)) (by simp only [EV,Nat.reduceEqDiff,↓reduceIte,he];try rfl) (fun ht => ?_) (fun ht => ?_)
  ·have hlt : i < ps.length := of_decide_eq_true ht
   have hfs := ZiF (p := fun p : List UInt8 × Nat => decide (p.1 ≠ k)) hlt
   have hfle := List.length_filter_le (fun p : List UInt8 × Nat => decide (p.1 ≠ k)) (ps.take i)
   rw [List.length_take] at hfle
   refine Zaz ?_
   refine ZaQ (fun env υ => ∃ v, (env 0 = ptr rb 0 /\ env 1 = .raw (sV k) /\ env 4 = v /\ env 5 = vI i) /\ Hd υ 105 2 v ((ps.take (i + 1)).filter fun p => decide (p.1 ≠ k)).length (rpC ((ps.take (i + 1)).filter fun p => decide (p.1 ≠ k))) /\ Ext σ υ /\ (∀ c, hbk v = some c -> ZaT σ c)) ?_ ?_
   ·refine ZaI ?_
    repeat refine Zac ?_
    first|refine Zaa ?_|refine Zad ?_
    refine ZcF (b := rb) (by simp only [EV,Nat.reduceEqDiff,↓reduceIte,he];try rfl) ZaC rfl h1.obj rfl ZbW ZbB fun u1 u2 u3 => ?_
    refine Zab (Zag rfl (by simp only [EV,Nat.reduceEqDiff,↓reduceIte,he];try rfl) ?_)
    refine ZeT (by simp only [EV,Nat.reduceEqDiff,↓reduceIte,he];try rfl) (by simp only [EV,Nat.reduceEqDiff,↓reduceIte,he];try rfl) Zbq Zbl h1.pc hlt ZcI rfl (ZiE hlt).1 ZbT Zbv fun u1 u2 => ?_
    refine Zab (Zag rfl (by simp only [EV,Nat.reduceEqDiff,↓reduceIte,he];try rfl) ?_)
    refine Zab ?_
    refine Zhm (a := ps[i].1) (c := k) ZcE (by simp only [EV,Nat.reduceEqDiff,↓reduceIte,he];try rfl) (by simp only [EV,Nat.reduceEqDiff,↓reduceIte,he];try rfl) ?_
    refine Zaf ?_
    apply ZbZ 0 1 4 5 24
    iterate 5 ·simp only [EV,Nat.reduceEqDiff,↓reduceIte,he];try rfl
    clear he e
    intro e he
    refine ZaM (t := decide (ps[i].1 ≠ k)) (by simp only [EV,Nat.reduceEqDiff,↓reduceIte,he];try rfl) (fun hq => ?_) (fun hq => ?_)
    ·refine Zad ?_
     refine Zab (Zag rfl (by simp only [EV,Nat.reduceEqDiff,↓reduceIte,he];try rfl) ?_)
     refine ZcF (b := rb) (by simp only [EV,Nat.reduceEqDiff,↓reduceIte,he];try rfl) ZaC rfl h1.obj rfl ZbW ZbB fun u1 u2 u3 => ?_
     refine Zab (Zag rfl (by simp only [EV,Nat.reduceEqDiff,↓reduceIte,he];try rfl) ?_)
     refine Znq (by simp only [EV,Nat.reduceEqDiff,↓reduceIte,he];try rfl) (by simp only [EV,Nat.reduceEqDiff,↓reduceIte,he];try rfl) Zbq Zbl h1.pc hlt ZhJ fun u1 => ?_
     rw [Zje hlt]
     refine Zab ?_
     refine Zdc (vs := [.agg (PW ps[i])]) (cells := PW ps[i]) (by simp only [List.map_cons, List.map_nil, EV,Nat.reduceEqDiff,↓reduceIte,he];try rfl) Zbq Zbl ZcV rfl (by omega) rfl rfl fun b1 υ1 hN1 hX1 => ?_
     refine Zab ?_
     refine Za8 (m := 1) (news := PW ps[i]) (r := .lst (some ⟨b1, 0, none⟩) 1 1 (PW ps[i] ++ [])) (by simp only [EV,Nat.reduceEqDiff,↓reduceIte,he];try rfl) (by simp only [EV,Nat.reduceEqDiff,↓reduceIte,he];try rfl) Zbq Zbl ZcV Zf2 rfl (by omega) (hv.ext hX1) (Zb5 rfl (ZlU rfl rfl) (fun q => by cases q)) (by unfold maxLen; omega) (by omega) fun v2 υ2 hv2 hB2 hn2 => ?_
     refine Zab (Zag rfl (by simp only [EV,Nat.reduceEqDiff,↓reduceIte,he];try rfl) ?_)
     refine Zaf ?_
     have hE1 := hE.trans hX1
     have hE2 : Ext σ υ2 := But.ext hE1 (fun c hc => (hn c hc).1) hB2
     refine ⟨rfl, v2, ⟨by simp only [EV,Nat.reduceEqDiff,↓reduceIte,he];try rfl, by simp only [EV,Nat.reduceEqDiff,↓reduceIte,he];try rfl, by simp only [EV,Nat.reduceEqDiff,↓reduceIte,he];try rfl, by simp only [EV,Nat.reduceEqDiff,↓reduceIte,he];try rfl⟩, ?_, hE2, fun c hc => ?_⟩
     ·rw [hfs, if_pos hq, List.length_append, Zjf]
      exact hv2
     ·rcases hn2 c hc with q | q
      ·exact hn c q
      ·exact ZaT.of q hE1
    ·refine Zbh ?_
     refine ⟨rfl, v, ⟨by simp only [EV,Nat.reduceEqDiff,↓reduceIte,he];try rfl, by simp only [EV,Nat.reduceEqDiff,↓reduceIte,he];try rfl, by simp only [EV,Nat.reduceEqDiff,↓reduceIte,he];try rfl, by simp only [EV,Nat.reduceEqDiff,↓reduceIte,he];try rfl⟩, ?_, hE, hn⟩
     rw [hfs, if_neg (by rw [hq]; simp), List.append_nil]
     exact hv
   clear he e hv hE hn
   rintro e υ ⟨v, he, hv, hE, hn⟩
   refine Zad ?_
   refine Zab (Zag rfl (by simp only [EV,Nat.reduceEqDiff,↓reduceIte,he];try rfl) ?_)
   refine Zab ?_
   refine ZaL i 1 (by simp only [EV,Nat.reduceEqDiff,↓reduceIte,he];try rfl) (by simp only [EV,Nat.reduceEqDiff,↓reduceIte,he];try rfl) (by omega) ?_
   refine Zab (Zag rfl (by simp only [EV,Nat.reduceEqDiff,↓reduceIte,he];try rfl) ?_)
   refine Zaf ?_
   show ∃ n', n' < _ /\ _
   exact ⟨_, (by omega : ps.length - (i + 1) < ps.length - i), i + 1, v, rfl, hlt, ⟨by simp only [EV,Nat.reduceEqDiff,↓reduceIte,he];try rfl, by simp only [EV,Nat.reduceEqDiff,↓reduceIte,he];try rfl, by simp only [EV,Nat.reduceEqDiff,↓reduceIte,he];try rfl, by simp only [EV,Nat.reduceEqDiff,↓reduceIte,he];try rfl⟩, hv, hE, hn⟩
  ·have hke : i = ps.length := by have := of_decide_eq_false ht; omega
   subst hke
   rw [List.take_length] at hv
   refine Zba ?_
   exact ⟨rfl, v, ⟨by simp only [EV,Nat.reduceEqDiff,↓reduceIte,he];try rfl, by simp only [EV,Nat.reduceEqDiff,↓reduceIte,he];try rfl⟩, hv, hE, hn⟩
 clear he e
 rintro e υ ⟨v, he, hv, hE, hn⟩
 have h1 := h.ext hE
 refine Zad ?_
 refine Zab (Zag rfl (by simp only [EV,Nat.reduceEqDiff,↓reduceIte,he];try rfl) ?_)
 refine Zab (Zag rfl (by simp only [EV,Nat.reduceEqDiff,↓reduceIte,he];try rfl) ?_)
 refine Zlj (b := rb) (by simp only [EV,Nat.reduceEqDiff,↓reduceIte,he];try rfl) ZaC rfl fun u1 => ?_
 refine Zab ?_
 refine ZbJ (b := rb) (o := 0 + 2) (v := v) (by simp only [EV,Nat.reduceEqDiff,↓reduceIte,he];try rfl) (by simp only [EV,Nat.reduceEqDiff,↓reduceIte,he];try rfl) h1.obj ZbB hv.oneV (by simp) fun υ2 hb2 k2 => ?_
 refine Zaf ?_
 have hv2 : Hd υ2 105 2 v (ps.filter fun p => decide (p.1 ≠ k)).length (rpC (ps.filter fun p => decide (p.1 ≠ k))) := hv.but k2 fun c hc hq => Zcv hv h1.obj (by decide) hc hq
 have h2 := h1.setP (k2.sub fun c hc => .inl hc) hb2 hv2
 exact ⟨_, Zb4 rfl, hK υ2 _ v h2 (hE.but.trans (k2.sub fun c hc => by rw [hc]; exact h.own.1)) (fun c hc => .inl hc) fun c hc => hc.imp id fun q => hn c q⟩
end
end Go.Proofs.Ytinpiaibhjmfaaa
namespace Go.Proofs.Ytinpiaibhjmfaaa
open Go.RowKit
set_option maxRecDepth 100000
set_option linter.unusedVariables false
set_option linter.unusedSimpArgs false
theorem Zj3 (l : List Rw) (i : Nat) : (rfC l).drop (i * 2) = rfC (l.drop i) := ZhK l i
theorem Zj4 (l : List Rw) (i : Nat) : (rfC l).take (i * 2) = rfC (l.take i) := Zj0 l i
section
variable {σ τ : St} {rb : Nat} {S : Nat -> Prop} {l : List Rw} {ps : PL} {size : Int} {fv pv : AV} {K : AV -> St -> Prop}
theorem ZlW (h : RAt σ rb S l ps size fv pv) (hl : l.length <= 100000000) {k : List UInt8} (hK1 : ∀ i (hi : i < l.length), l[i].nm = k -> K (vI i) σ)
 (hK2 : (∀ r ∈ l, r.nm ≠ k) -> ∀ i, i <= l.length -> (∀ r ∈ l.take i, r.nm < k) -> (∀ hi : i < l.length, ¬ l[i].nm < k) -> ∀ τ S' fv', RAt τ rb S' (l.take i ++ ⟨k, .lst none 0 0 [], []⟩ :: l.drop i) ps size fv' pv -> But S σ τ -> (∀ c, S c -> S' c) -> (∀ c, S' c -> S c \/ ZaT σ c) -> K (vI i) τ) :
 Zat Try.prog 69 [ptr rb 0, .raw (sV k)] σ K := by
 refine Zan Zas Try.func69 rfl rfl rfl (Nat.le_of_ble_eq_true rfl) ?_
 refine ZaO 0 1 (v0 := ptr rb 0) (v1 := .raw (sV k)) rfl rfl ?_
 intro e he
 repeat refine Zac ?_
 first|refine Zaa ?_|refine Zad ?_
 refine Zab (Zag rfl (by simp only [EV,Nat.reduceEqDiff,↓reduceIte,he];try rfl) ?_)
 refine Zaf ?_
 apply ZaO 0 1
 iterate 2 ·simp only [EV,Nat.reduceEqDiff,↓reduceIte,he];try rfl
 clear he e
 intro e he
 repeat refine Zac ?_
 first|refine Zaa ?_|refine Zad ?_
 refine Zab (Zag rfl (by simp only [EV,Nat.reduceEqDiff,↓reduceIte,he];try rfl) ?_)
 refine Zab (Zag rfl (by simp only [EV,Nat.reduceEqDiff,↓reduceIte,he];try rfl) ?_)
 refine Zab ?_
 refine Zar (vs := [ptr rb 0, .raw (sV k)]) (by simp only [List.map_cons, List.map_nil, EV,Nat.reduceEqDiff,↓reduceIte,he];try rfl) ?_
 refine ZhL h (by omega) (fun i hi hn => ?_) fun hno => ?_
 ·refine Zab (Zag rfl (by simp only [EV,Nat.reduceEqDiff,↓reduceIte,he];try rfl) ?_)
  refine Zaf ?_
  apply ZaP 0 1 5
  iterate 3 ·simp only [EV,Nat.reduceEqDiff,↓reduceIte,he];try rfl
  clear he e
  intro e he
  repeat refine Zac ?_
  first|refine Zaa ?_|refine Zad ?_
  refine Zab (Zag rfl (by simp only [EV,Nat.reduceEqDiff,↓reduceIte,he];try rfl) ?_)
  refine Zab ?_
  refine Zfv (k := .i64) (a := (i : Int)) (b := 0) (by simp only [EV,Nat.reduceEqDiff,↓reduceIte,he];try rfl) (by simp only [EV,Nat.reduceEqDiff,↓reduceIte,he];try rfl) ?_
  rw [decide_eq_true (by omega : (0 : Int) <= (i : Int))]
  refine Zaf ?_
  apply ZaK 0 1 5 11
  iterate 4 ·simp only [EV,Nat.reduceEqDiff,↓reduceIte,he];try rfl
  clear he e
  intro e he
  refine Zav (t := true) (by simp only [EV,Nat.reduceEqDiff,↓reduceIte,he];try rfl) (fun _ => ?_) (fun hf => by cases hf)
  repeat refine Zac ?_
  first|refine Zaa ?_|refine Zad ?_
  refine Zab (Zag rfl (by simp only [EV,Nat.reduceEqDiff,↓reduceIte,he];try rfl) ?_)
  refine Zab (Zag rfl (by simp only [EV,Nat.reduceEqDiff,↓reduceIte,he];try rfl) ?_)
  refine Zaf ?_
  refine Zc2 ?_
  show ∃ r, Zaj _ _ _ _ r /\ _
  exact ⟨_, Zal rfl (by simp only [EV,Nat.reduceEqDiff,↓reduceIte,he];try rfl), hK1 i hi hn⟩
 refine Zab (Zag rfl (by simp only [EV,Nat.reduceEqDiff,↓reduceIte,he];try rfl) ?_)
 refine Zaf ?_
 apply ZaP 0 1 5
 iterate 3 ·simp only [EV,Nat.reduceEqDiff,↓reduceIte,he];try rfl
 clear he e
 intro e he
 repeat refine Zac ?_
 first|refine Zaa ?_|refine Zad ?_
 refine Zab (Zag rfl (by simp only [EV,Nat.reduceEqDiff,↓reduceIte,he];try rfl) ?_)
 refine Zab ?_
 refine Zfv (k := .i64) (a := -1) (b := 0) (by simp only [EV,Nat.reduceEqDiff,↓reduceIte,he];try rfl) (by simp only [EV,Nat.reduceEqDiff,↓reduceIte,he];try rfl) ?_
 refine Zaf ?_
 apply ZaP 0 1 11
 iterate 3 ·simp only [EV,Nat.reduceEqDiff,↓reduceIte,he];try rfl
 clear he e
 intro e he
 refine Zav (t := false) (by simp only [EV,Nat.reduceEqDiff,↓reduceIte,he];try rfl) (fun hf => by cases hf) (fun _ => ?_)
 refine Zaz ?_
 repeat refine Zac ?_
 first|refine Zaa ?_|refine Zad ?_
 refine Zab (Zag rfl (by simp only [EV,Nat.reduceEqDiff,↓reduceIte,he];try rfl) ?_)
 refine Zaf ?_
 apply ZaP 0 1 5
 iterate 3 ·simp only [EV,Nat.reduceEqDiff,↓reduceIte,he];try rfl
 clear he e
 intro e he
 refine ZaQ (fun env υ => ∃ i : Nat, (env 0 = ptr rb 0 /\ env 1 = .raw (sV k) /\ env 5 = vI i) /\ σ = υ /\ i <= l.length /\ (∀ r ∈ l.take i, r.nm < k) /\ (∀ hi : i < l.length, ¬ l[i].nm < k)) ?_ ?_
 ·refine ZaI ?_
  refine ZaN (fun μ env υ => ∃ i : Nat, μ = l.length - i /\ (env 0 = ptr rb 0 /\ env 1 = .raw (sV k) /\ env 5 = vI i) /\ σ = υ /\ i <= l.length /\ (∀ r ∈ l.take i, r.nm < k)) ⟨_, 0, rfl, he, rfl, Nat.zero_le _, fun r hr => by cases hr⟩ ?_
  clear he e
  rintro _ e _ ⟨i, rfl, he, rfl, hi, hlt0⟩
  refine Zac ?_
  refine ZaQ (fun env υ => ∃ b : Bool, (env 0 = ptr rb 0 /\ env 1 = .raw (sV k) /\ env 5 = vI i /\ env 31 = vT b) /\ σ = υ /\ (b = true -> ∃ hi : i < l.length, l[i].nm < k) /\ (b = false -> ∀ hi : i < l.length, ¬ l[i].nm < k)) ?_ ?_
  ·refine Zad ?_
   refine Zab (Zag rfl (by simp only [EV,Nat.reduceEqDiff,↓reduceIte,he];try rfl) ?_)
   refine ZcF (b := rb) (by simp only [EV,Nat.reduceEqDiff,↓reduceIte,he];try rfl) ZaC rfl h.obj rfl ZbH Zbr fun u1 u2 u3 => ?_
   refine Zab ?_
   refine ZbC (by simp only [EV,Nat.reduceEqDiff,↓reduceIte,he];try rfl) h.fl rfl Za9 ?_
   refine Zab ?_
   refine Zbm i l.length (by simp only [EV,Nat.reduceEqDiff,↓reduceIte,he];try rfl) (by simp only [EV,Nat.reduceEqDiff,↓reduceIte,he];try rfl) ?_
   refine Zab (Zag rfl (by simp only [EV,Nat.reduceEqDiff,↓reduceIte,he];try rfl) ?_)
   by_cases hlt : i < l.length
   ·rw [decide_eq_true hlt]
    refine Zab (Zai (Za6 rfl (by simp only [EV,Nat.reduceEqDiff,↓reduceIte,he];try rfl)) ?_)
    refine Zag rfl (v := ptr rb 0) (by simp only [EV,Nat.reduceEqDiff,↓reduceIte,he];try rfl) ?_
    refine Zab (Zai (Za6 rfl (by simp only [EV,Nat.reduceEqDiff,↓reduceIte,he];try rfl)) ?_)
    refine Zak (v := ptr rb 0) (by simp only [EV,Nat.reduceEqDiff,↓reduceIte,he];try rfl) rfl ?_
    refine Zab (Zai (Za6 rfl (by simp only [EV,Nat.reduceEqDiff,↓reduceIte,he];try rfl)) ?_)
    refine Zae (b := rb) (o := 0) (by simp only [EV,Nat.reduceEqDiff,↓reduceIte,he];try rfl) ZaC rfl ?_
    refine Zab (Zai (Za6 rfl (by simp only [EV,Nat.reduceEqDiff,↓reduceIte,he];try rfl)) ?_)
    refine Zap (b := rb) (o := 0 + 1) (r := fv) (by simp only [EV,Nat.reduceEqDiff,↓reduceIte,he];try rfl) h.obj ZbH Zbr rfl ?_
    refine Zab (Zai (Za6 rfl (by simp only [EV,Nat.reduceEqDiff,↓reduceIte,he];try rfl)) ?_)
    refine Zag rfl (by simp only [EV,Nat.reduceEqDiff,↓reduceIte,he];try rfl) ?_
    refine Zab (Zai (Za6 rfl (by simp only [EV,Nat.reduceEqDiff,↓reduceIte,he];try rfl)) ?_)
    refine Za3 (k := .i64) (j := i) (by simp only [EV,Nat.reduceEqDiff,↓reduceIte,he];try rfl) (by simp only [EV,Nat.reduceEqDiff,↓reduceIte,he];try rfl) Za9 Zbo h.fl hlt fun b hb => ?_
    refine Zab (Zai (Za6 rfl (by simp only [EV,Nat.reduceEqDiff,↓reduceIte,he];try rfl)) ?_)
    refine Zae (b := b) (o := i * 2) (by simp only [EV,Nat.reduceEqDiff,↓reduceIte,he];try rfl) Zck rfl ?_
    refine Zab (Zai (Za6 rfl (by simp only [EV,Nat.reduceEqDiff,↓reduceIte,he];try rfl)) ?_)
    refine Zgt (by simp only [EV,Nat.reduceEqDiff,↓reduceIte,he];try rfl) h.fl hb (Zd1 hlt).1 ZbT Zbv ?_
    refine Zab (Zai (Za6 rfl (by simp only [EV,Nat.reduceEqDiff,↓reduceIte,he];try rfl)) ?_)
    refine Zag rfl (by simp only [EV,Nat.reduceEqDiff,↓reduceIte,he];try rfl) ?_
    refine Zab (Zai (Za6 rfl (by simp only [EV,Nat.reduceEqDiff,↓reduceIte,he];try rfl)) ?_)
    refine ZmG (a := l[i].nm) (c := k) ZcE (by simp only [EV,Nat.reduceEqDiff,↓reduceIte,he];try rfl) (by simp only [EV,Nat.reduceEqDiff,↓reduceIte,he];try rfl) ?_
    refine Zab ?_
    refine ZaZ (v := vT (decide (l[i].nm < k))) (by simp only [EV,Nat.reduceEqDiff,↓reduceIte,he];try rfl) (by simp only [EV,Nat.reduceEqDiff,↓reduceIte,he];try rfl) ?_
    refine Zaf ?_
    exact ⟨rfl, decide (l[i].nm < k), ⟨by simp only [EV,Nat.reduceEqDiff,↓reduceIte,he];try rfl, by simp only [EV,Nat.reduceEqDiff,↓reduceIte,he];try rfl, by simp only [EV,Nat.reduceEqDiff,↓reduceIte,he];try rfl, by simp only [EV,Nat.reduceEqDiff,↓reduceIte,he];try rfl⟩, rfl, fun q => ⟨hlt, of_decide_eq_true q⟩, fun q _ => of_decide_eq_false q⟩
   ·rw [decide_eq_false hlt]
    refine Zab (Zaq (Za6 rfl (by simp only [EV,Nat.reduceEqDiff,↓reduceIte,he];try rfl)) ?_)
    refine Zab (Zaq (Za6 rfl (by simp only [EV,Nat.reduceEqDiff,↓reduceIte,he];try rfl)) ?_)
    refine Zab (Zaq (Za6 rfl (by simp only [EV,Nat.reduceEqDiff,↓reduceIte,he];try rfl)) ?_)
    refine Zab (Zaq (Za6 rfl (by simp only [EV,Nat.reduceEqDiff,↓reduceIte,he];try rfl)) ?_)
    refine Zab (Zaq (Za6 rfl (by simp only [EV,Nat.reduceEqDiff,↓reduceIte,he];try rfl)) ?_)
    refine Zab (Zaq (Za6 rfl (by simp only [EV,Nat.reduceEqDiff,↓reduceIte,he];try rfl)) ?_)
    refine Zab (Zaq (Za6 rfl (by simp only [EV,Nat.reduceEqDiff,↓reduceIte,he];try rfl)) ?_)
    refine Zab (Zaq (Za6 rfl (by simp only [EV,Nat.reduceEqDiff,↓reduceIte,he];try rfl)) ?_)
    refine Zab (Zaq (Za6 rfl (by simp only [EV,Nat.reduceEqDiff,↓reduceIte,he];try rfl)) ?_)
    refine Zab (Zaq (Za6 rfl (by simp only [EV,Nat.reduceEqDiff,↓reduceIte,he];try rfl)) ?_)
    refine Zab ?_
    refine Za1 (v := vT false) (by simp only [EV,Nat.reduceEqDiff,↓reduceIte,he];try rfl) (by simp only [EV,Nat.reduceEqDiff,↓reduceIte,he];try rfl) ?_
    refine Zaf ?_
    exact ⟨rfl, false, ⟨by simp only [EV,Nat.reduceEqDiff,↓reduceIte,he];try rfl, by simp only [EV,Nat.reduceEqDiff,↓reduceIte,he];try rfl, by simp only [EV,Nat.reduceEqDiff,↓reduceIte,he];try rfl, by simp only [EV,Nat.reduceEqDiff,↓reduceIte,he];try rfl⟩, rfl, (fun q => by cases q), fun _ hi => absurd hi hlt⟩
  clear he e
  rintro e _ ⟨b, he, rfl, g1, g2⟩
  refine Zav (t := b) (by simp only [EV,Nat.reduceEqDiff,↓reduceIte,he];try rfl) (fun hb => ?_) (fun hb => ?_)
  ·obtain ⟨hlt, hq⟩ := g1 hb
   refine Zaz ?_
   refine ZaI ?_
   refine Zad ?_
   refine Zab (Zag rfl (by simp only [EV,Nat.reduceEqDiff,↓reduceIte,he];try rfl) ?_)
   refine Zab ?_
   refine ZaL i 1 (by simp only [EV,Nat.reduceEqDiff,↓reduceIte,he];try rfl) (by simp only [EV,Nat.reduceEqDiff,↓reduceIte,he];try rfl) (by omega) ?_
   refine Zab (Zag rfl (by simp only [EV,Nat.reduceEqDiff,↓reduceIte,he];try rfl) ?_)
   refine Zaf ?_
   show ∃ n', n' < _ /\ _
   refine ⟨_, (by omega : l.length - (i + 1) < l.length - i), i + 1, rfl, ⟨by simp only [EV,Nat.reduceEqDiff,↓reduceIte,he];try rfl, by simp only [EV,Nat.reduceEqDiff,↓reduceIte,he];try rfl, by simp only [EV,Nat.reduceEqDiff,↓reduceIte,he];try rfl⟩, rfl, hlt, fun r hr => ?_⟩
   rw [List.take_succ_eq_append_getElem hlt] at hr
   rcases List.mem_append.1 hr with hr | hr
   ·exact hlt0 r hr
   ·rw [List.mem_singleton.1 hr]; exact hq
  ·refine Zba ?_
   exact ⟨rfl, i, ⟨by simp only [EV,Nat.reduceEqDiff,↓reduceIte,he];try rfl, by simp only [EV,Nat.reduceEqDiff,↓reduceIte,he];try rfl, by simp only [EV,Nat.reduceEqDiff,↓reduceIte,he];try rfl⟩, rfl, hi, hlt0, g2 hb⟩
 clear he e
 rintro e _ ⟨i, he, rfl, hi, hlt0, hge⟩
 repeat refine Zac ?_
 first|refine Zaa ?_|refine Zad ?_
 refine Zn2 Za9 Zbo Zc5 rfl fun ad υ1 hX1 => ?_
 have h1 := h.ext hX1
 refine ZcF (b := rb) (by simp only [EV,Nat.reduceEqDiff,↓reduceIte,he];try rfl) ZaC rfl h1.obj rfl ZbH Zbr fun u1 u2 u3 => ?_
 refine Zab (Zag rfl (by simp only [EV,Nat.reduceEqDiff,↓reduceIte,he];try rfl) ?_)
 refine Zab ?_
 refine ZjB (by simp only [EV,Nat.reduceEqDiff,↓reduceIte,he];try rfl) (by simp only [EV,Nat.reduceEqDiff,↓reduceIte,he];try rfl) Za9 Zbo (by decide) h1.fl hi fun r0 hsrc => ?_
 refine Zab ?_
 refine Za8 (m := l.length - i) (news := (rfC l).drop (i * 2)) (by simp only [EV,Nat.reduceEqDiff,↓reduceIte,he];try rfl) (by simp only [EV,Nat.reduceEqDiff,↓reduceIte,he];try rfl) Za9 Zbo Zc5 ZfE rfl (by omega) (Zpa ad) (hsrc _ h1.fl) (by unfold maxLen; omega) (by omega) fun rv υ2 hrv hB2 hn2 => ?_
 rw [Nat.zero_add, List.nil_append, Zj3] at hrv
 have hX2 : Ext υ1 υ2 := But.ext (.refl _) (fun c hc => by cases hc) hB2
 have hE2 := hX1.trans hX2
 have hrn : ∀ c, hbk rv = some c -> ZaT σ c := fun c hc => by
  rcases hn2 c hc with q | q
  ·cases q
  ·exact ZaT.of q hX1
 refine Zab (Zag rfl (by simp only [EV,Nat.reduceEqDiff,↓reduceIte,he];try rfl) ?_)
 refine Zaf ?_
 apply ZaK 0 1 5 6
 iterate 4 ·simp only [EV,Nat.reduceEqDiff,↓reduceIte,he];try rfl
 clear he e
 intro e he
 have h2 := h1.ext hX2
 repeat refine Zac ?_
 first|refine Zaa ?_|refine Zad ?_
 refine Zab (Zag rfl (by simp only [EV,Nat.reduceEqDiff,↓reduceIte,he];try rfl) ?_)
 refine ZcF (b := rb) (by simp only [EV,Nat.reduceEqDiff,↓reduceIte,he];try rfl) ZaC rfl h2.obj rfl ZbH Zbr fun u1 u2 u3 => ?_
 refine Zab (Zag rfl (by simp only [EV,Nat.reduceEqDiff,↓reduceIte,he];try rfl) ?_)
 refine Zab ?_
 refine Zf0 (by simp only [EV,Nat.reduceEqDiff,↓reduceIte,he];try rfl) (by simp only [EV,Nat.reduceEqDiff,↓reduceIte,he];try rfl) Za9 Zbo h2.fl hi fun fv1 hf1 hb1 => ?_
 rw [Zj4] at hf1
 refine Zab (Zag rfl (by simp only [EV,Nat.reduceEqDiff,↓reduceIte,he];try rfl) ?_)
 refine Zab ?_
 refine ZdJ (vs := [.raw (sV k)]) (cells := [.raw (sV k), .lst none 0 0 []]) (by simp only [List.map_cons, List.map_nil, EV,Nat.reduceEqDiff,↓reduceIte,he]; try rfl) Zc5 ZlS rfl ?_
 refine Zab ?_
 refine Zdc (vs := [.agg [.raw (sV k), .lst none 0 0 []]]) (cells := [.raw (sV k), .lst none 0 0 []]) (by simp only [List.map_cons, List.map_nil, EV,Nat.reduceEqDiff,↓reduceIte,he];try rfl) Za9 Zbo Zc5 rfl (by omega) rfl rfl fun b3 υ3 hN3 hX3 => ?_
 have h3 := h2.ext hX3
 refine Zab ?_
 refine Za8 (m := 1) (news := [.raw (sV k), .lst none 0 0 []]) (r := .lst (some ⟨b3, 0, none⟩) 1 1 ([.raw (sV k), .lst none 0 0 []] ++ [])) (by simp only [EV,Nat.reduceEqDiff,↓reduceIte,he];try rfl) (by simp only [EV,Nat.reduceEqDiff,↓reduceIte,he];try rfl) Za9 Zbo Zc5 ZfE rfl (by omega) (hf1.ext hX3) (Zb5 rfl (ZlU rfl rfl) (fun q => by cases q)) (by unfold maxLen; omega) (by omega) fun fv2 υ4 hf2 hB4 hn4 => ?_
 have hrv3 := hrv.ext hX3
 have hfu : ∀ c, hbk fv1 = some c -> hbk fv = some c := hb1
 have hrv4 : Hd υ4 88 2 rv (l.length - i) (rfC (l.drop i)) := hrv3.but hB4 fun c hc hq => (hrn c hc).2 (h.fl.used (hfu c hq))
 refine Zab (Zag rfl (by simp only [EV,Nat.reduceEqDiff,↓reduceIte,he];try rfl) ?_)
 refine Zab ?_
 refine Za8 (m := l.length - i) (news := rfC (l.drop i)) (by simp only [EV,Nat.reduceEqDiff,↓reduceIte,he];try rfl) (by simp only [EV,Nat.reduceEqDiff,↓reduceIte,he];try rfl) Za9 Zbo Zc5 ZfE rfl (by omega) hf2 (hrv4.src (by omega)) (by unfold maxLen; omega) (by omega) fun fv3 υ5 hf3 hB5 hn5 => ?_
 have hE3 := hE2.trans hX3
 have hn2' : ∀ c, hbk fv2 = some c -> hbk fv = some c \/ ZaT υ3 c := fun c hc => (hn4 c hc).imp (hfu c) id
 have hB5' : But (fun c => hbk fv = some c) υ3 υ5 := (hB4.sub fun c hc => hfu c hc).ext2 (T := fun c => hbk fv2 = some c) (fun c hc => (hn2' c hc).imp id fun q => q.1) hB5
 refine Zlj (b := rb) (by simp only [EV,Nat.reduceEqDiff,↓reduceIte,he];try rfl) ZaC rfl fun u1 => ?_
 have hobj5 := hB5'.keep _ _ (fun hq => Zcv h3.fl h3.obj (by decide) hq rfl) h3.obj
 refine Zab ?_
 refine ZbJ (b := rb) (o := 0 + 1) (v := fv3) (by simp only [EV,Nat.reduceEqDiff,↓reduceIte,he];try rfl) (by simp only [EV,Nat.reduceEqDiff,↓reduceIte,he];try rfl) hobj5 Zbr hf3.oneV (by simp) fun υ6 hb6 k6 => ?_
 refine Zaf ?_
 have hB6 : But (fun c => c = rb \/ hbk fv = some c) υ3 υ6 := (hB5'.sub fun c hc => .inr hc).trans (k6.sub fun c hc => .inl hc)
 have hcells : rfC (l.take i) ++ [.raw (sV k), .lst none 0 0 []] ++ rfC (l.drop i) = rfC (l.take i ++ ⟨k, .lst none 0 0 [], []⟩ :: l.drop i) := by
  rw [Zjg]
  show _ = rfC (l.take i) ++ ([.raw (sV k), .lst none 0 0 []] ++ rfC (l.drop i))
  rw [List.append_assoc]
 have hlen : (l.take i ++ (⟨k, .lst none 0 0 [], []⟩ : Rw) :: l.drop i).length = i + 1 + (l.length - i) := by
  rw [List.length_append, List.length_take, List.length_cons, List.length_drop]
  omega
 have hf6 : Hd υ6 88 2 fv3 (l.take i ++ (⟨k, .lst none 0 0 [], []⟩ : Rw) :: l.drop i).length (rfC (l.take i ++ ⟨k, .lst none 0 0 [], []⟩ :: l.drop i)) := by
  rw [hlen, <- hcells]
  exact hf3.but k6 fun c hc hq => Zcv hf3 hobj5 (by decide) hc hq
 have h6 := h3.setF hB6 hb6 hf6 (fun r hr => ?_) ?_
 ·apply ZbN 5
  ·simp only [EV,Nat.reduceEqDiff,↓reduceIte,he];try rfl
  clear he e
  intro e he
  repeat refine Zac ?_
  first|refine Zaa ?_|refine Zad ?_
  refine Zab (Zag rfl (by simp only [EV,Nat.reduceEqDiff,↓reduceIte,he];try rfl) ?_)
  refine Zab (Zag rfl (by simp only [EV,Nat.reduceEqDiff,↓reduceIte,he];try rfl) ?_)
  refine Zaf ?_
  refine Zaw ?_
  have hS3 : ∀ c, (S c \/ hbk fv3 = some c) -> S c \/ ZaT σ c := fun c hc => by
   rcases hc with hc | hc
   ·exact .inl hc
   ·rcases hn5 c hc with q | q
    ·rcases hn2' c q with q | q
     ·exact .inl (h.own.2.1 c q)
     ·exact .inr (ZaT.of q hE3)
    ·rcases Zco (hE3.but.trans (hB4.sub fun c hc => hfu c hc)) q with q | q
     ·exact .inl (h.own.2.1 c q)
     ·exact .inr q
  have hBS : But S σ υ6 := hE3.but.trans (hB6.sub fun c hc => by
   rcases hc with hc | hc
   ·rw [hc]; exact h.own.1
   ·exact h.own.2.1 c hc)
  show ∃ r, Zaj _ _ _ _ r /\ _
  exact ⟨_, Zal rfl (by simp only [EV,Nat.reduceEqDiff,↓reduceIte,he];try rfl), hK2 hno i hi hlt0 hge υ6 _ fv3 h6 hBS (fun c hc => .inl hc) hS3⟩
 ·rcases List.mem_append.1 hr with hr | hr
  ·exact .inl (List.mem_of_mem_take hr)
  ·rcases List.mem_cons.1 hr with rfl | hr
   ·exact .inr ⟨rfl, rfl⟩
   ·exact .inl (List.mem_of_mem_drop hr)
 ·have hnn := h.nn
  rw [List.map_append, List.map_cons]
  rw [<- List.take_append_drop i l, List.map_append, List.nodup_append] at hnn
  refine List.nodup_append.2 ⟨hnn.1, List.nodup_cons.2 ⟨fun hq => ?_, hnn.2.1⟩, fun a ha b hb => ?_⟩
  ·obtain ⟨r, hr, e⟩ := List.mem_map.1 hq
   exact hno r (List.mem_of_mem_drop hr) e
  ·rcases List.mem_cons.1 hb with rfl | hb
   ·obtain ⟨r, hr, e⟩ := List.mem_map.1 ha
    rw [<- e]
    exact hno r (List.mem_of_mem_take hr)
   ·exact hnn.2.2 a ha b hb
theorem ZgF (h : RAt σ rb S l ps size fv pv) (hl : l.length <= 100000000) (hp : ps.length <= 1000000000) {i : Nat} (hi : i < l.length) {k : List UInt8} (hn : l[i].nm = k)
 (hK : ∀ τ S' fv' pv', RAt τ rb S' (l.take i ++ l.drop (i + 1)) (ps.filter fun p => decide (p.1 ≠ k)) size fv' pv' -> But S σ τ -> (∀ c, S c -> S' c) -> (∀ c, S' c -> S c \/ ZaT σ c) -> K (.tup []) τ) :
 Zat Try.prog 73 [ptr rb 0, .raw (sV k)] σ K := by
 refine Zan Zas Try.func73 rfl rfl rfl (Nat.le_of_ble_eq_true rfl) ?_
 refine ZaO 0 1 (v0 := ptr rb 0) (v1 := .raw (sV k)) rfl rfl ?_
 intro e he
 repeat refine Zac ?_
 first|refine Zaa ?_|refine Zad ?_
 refine Zab (Zag rfl (by simp only [EV,Nat.reduceEqDiff,↓reduceIte,he];try rfl) ?_)
 refine Zab (Zag rfl (by simp only [EV,Nat.reduceEqDiff,↓reduceIte,he];try rfl) ?_)
 refine Zab ?_
 refine Zar (vs := [ptr rb 0, .raw (sV k)]) (by simp only [List.map_cons, List.map_nil, EV,Nat.reduceEqDiff,↓reduceIte,he];try rfl) ?_
 refine ZhL h (by omega) (fun j hj hnj => ?_) fun hno => absurd hn (hno _ (List.getElem_mem hi))
 have hij : j = i := Zfm (hi := by rw [List.length_map]; exact hj) (hj := by rw [List.length_map]; exact hi) h.nn (by rw [List.getElem_map, List.getElem_map, hnj, hn])
 subst hij
 refine Zab (Zag rfl (by simp only [EV,Nat.reduceEqDiff,↓reduceIte,he];try rfl) ?_)
 refine Zaf ?_
 apply ZaP 0 1 4
 iterate 3 ·simp only [EV,Nat.reduceEqDiff,↓reduceIte,he];try rfl
 clear he e
 intro e he
 refine Zb1 ?_
 refine ⟨[0, 2, 3, 4, 6, 9, 10, 11, 13, 14, 5, 7, 12, 15, 1, 8, 16, 17, 18, 19], [[], [], [], [2], [2, 3], [2, 3, 4], [], [2, 3, 4, 5, 6], [1, 2, 3, 4, 5, 6, 7], [], [9], [9, 10], [9, 10, 11], [], [13], [9, 10, 11, 12, 13, 14], [1, 2, 3, 4, 5, 6, 7, 8, 9, 10, 11, 12, 13, 14, 15], [0, 1, 2, 3, 4, 5, 6, 7, 8, 9, 10, 11, 12, 13, 14, 15, 16], [0, 1, 2, 3, 4, 5, 6, 7, 8, 9, 10, 11, 12, 13, 14, 15, 16, 17], [0, 1, 2, 3, 4, 5, 6, 7, 8, 9, 10, 11, 12, 13, 14, 15, 16, 17, 18]], fun _ => True, [12], [8], [], by kernel_rfl, ?_⟩
 apply Zah
 case hi => simp only [HIX]; try rfl
 case hw => rfl
 case how => rfl
 refine Zag rfl (by simp only [EV,Nat.reduceEqDiff,↓reduceIte,he];try rfl) ?_
 refine Zao ?_
 apply Zah
 case hi => simp only [HIX]; try rfl
 case hw => rfl
 case how => rfl
 refine Zag rfl (by simp only [EV,Nat.reduceEqDiff,↓reduceIte,he];try rfl) ?_
 refine Zao ?_
 apply Zah
 case hi => simp only [HIX]; try rfl
 case hw => rfl
 case how => rfl
 refine Zak (v := ptr rb 0) (by simp only [EV,Nat.reduceEqDiff,↓reduceIte,he];try rfl) rfl ?_
 refine Zao ?_
 apply Zah
 case hi => simp only [HIX]; try rfl
 case hw => rfl
 case how => rfl
 refine Zae (b := rb) (o := 0) (by simp only [EV,Nat.reduceEqDiff,↓reduceIte,he];try rfl) ZaC rfl ?_
 refine Zao ?_
 apply Zah
 case hi => simp only [HIX]; try rfl
 case hw => rfl
 case how => rfl
 refine Zag rfl (by simp only [EV,Nat.reduceEqDiff,↓reduceIte,he];try rfl) ?_
 refine Zao ?_
 apply Zah
 case hi => simp only [HIX]; try rfl
 case hw => rfl
 case how => rfl
 refine Zag rfl (by simp only [EV,Nat.reduceEqDiff,↓reduceIte,he];try rfl) ?_
 refine Zao ?_
 apply Zah
 case hi => simp only [HIX]; try rfl
 case hw => rfl
 case how => rfl
 refine Zak (v := ptr rb 0) (by simp only [EV,Nat.reduceEqDiff,↓reduceIte,he];try rfl) rfl ?_
 refine Zao ?_
 apply Zah
 case hi => simp only [HIX]; try rfl
 case hw => rfl
 case how => rfl
 refine Zae (b := rb) (o := 0) (by simp only [EV,Nat.reduceEqDiff,↓reduceIte,he];try rfl) ZaC rfl ?_
 refine Zao ?_
 apply Zah
 case hi => simp only [HIX]; try rfl
 case hw => rfl
 case how => rfl
 refine Zag rfl (by simp only [EV,Nat.reduceEqDiff,↓reduceIte,he];try rfl) ?_
 refine Zao ?_
 apply Zah
 case hi => simp only [HIX]; try rfl
 case hw => rfl
 case how => rfl
 refine ZaL j 1 (by simp only [EV,Nat.reduceEqDiff,↓reduceIte,he];try rfl) (by simp only [EV,Nat.reduceEqDiff,↓reduceIte,he];try rfl) (by omega) ?_
 refine Zao ?_
 apply Zah
 case hi => simp only [HIX]; try rfl
 case hw => rfl
 case how => rfl
 refine Zap (b := rb) (o := 0 + 1) (r := fv) (by simp only [EV,Nat.reduceEqDiff,↓reduceIte,he];try rfl) h.obj ZbH Zbr rfl ?_
 refine Zao ?_
 apply Zah
 case hi => simp only [HIX]; try rfl
 case hw => rfl
 case how => rfl
 refine Zf0 (by simp only [EV,Nat.reduceEqDiff,↓reduceIte,he];try rfl) (by simp only [EV,Nat.reduceEqDiff,↓reduceIte,he];try rfl) Za9 Zbo h.fl (Nat.le_of_lt hi) fun fv1 hf1 hb1 => ?_
 refine Zao ?_
 rw [Zj4] at hf1
 apply Zah
 case hi => simp only [HIX]; try rfl
 case hw => rfl
 case how => rfl
 refine Zap (b := rb) (o := 0 + 1) (r := fv) (by simp only [EV,Nat.reduceEqDiff,↓reduceIte,he];try rfl) h.obj ZbH Zbr rfl ?_
 refine Zao ?_
 apply Zah
 case hi => simp only [HIX]; try rfl
 case hw => rfl
 case how => rfl
 refine ZjB (lo := j + 1) (by simp only [EV,Nat.reduceEqDiff,↓reduceIte,he];try rfl) (by simp only [EV,Nat.reduceEqDiff,↓reduceIte,he];try rfl) Za9 Zbo (by decide) h.fl hi fun r0 hsrc => ?_
 refine Zao ?_
 apply Zah
 case hi => simp only [HIX]; try rfl
 case hw => rfl
 case how => rfl
 refine Zdc (vs := []) (cells := []) rfl Za9 Zbo Zc5 rfl (by omega) rfl rfl fun b2 υ2 hN2 hX2 => ?_
 refine ⟨fun _ => hX2, ?_⟩
 have h2 := h.ext hX2
 apply Zah
 case hi => simp only [HIX]; try rfl
 case hw => rfl
 case how => rfl
 refine ZjC (m := j) (news := rfC (l.take j)) (by simp only [EV,Nat.reduceEqDiff,↓reduceIte,he];try rfl) (by simp only [EV,Nat.reduceEqDiff,↓reduceIte,he];try rfl) Za9 Zbo Zc5 ZfE rfl (by omega) ((hf1.ext hX2).src (by omega)) (by unfold maxLen; omega) (by omega) fun fv2 υ3 hf2 hX3 hn3 => ?_
 refine ⟨fun _ => hX3, ?_⟩
 have h3 := h2.ext hX3
 have hsr := hsrc _ h3.fl
 rw [Zj3] at hsr
 apply Zah
 case hi => simp only [HIX]; try rfl
 case hw => rfl
 case how => rfl
 refine Za8 (m := l.length - (j + 1)) (news := rfC (l.drop (j + 1))) (by simp only [EV,Nat.reduceEqDiff,↓reduceIte,he];try rfl) (by simp only [EV,Nat.reduceEqDiff,↓reduceIte,he];try rfl) Za9 Zbo Zc5 ZfE rfl (by omega) hf2 hsr (by unfold maxLen; omega) (by omega) fun fv3 υ4 hf3 hB4 hn4 => ?_
 refine ⟨(fun hf => by cases hf), ?_⟩
 have hE3 := hX2.trans hX3
 have hfn : ∀ c, hbk fv2 = some c -> ZaT σ c := fun c hc => ZaT.of (hn3 c hc) hX2
 have hE4 : Ext σ υ4 := But.ext hE3 (fun c hc => (hfn c hc).1) hB4
 have h4 := h.ext hE4
 apply Zah
 case hi => simp only [HIX]; try rfl
 case hw => rfl
 case how => rfl
 refine Zak (v := ptr rb 0) (by simp only [EV,Nat.reduceEqDiff,↓reduceIte,he];try rfl) rfl ?_
 refine Zao ?_
 apply Zah
 case hi => simp only [HIX]; try rfl
 case hw => rfl
 case how => rfl
 refine Zae (b := rb) (o := 0) (by simp only [EV,Nat.reduceEqDiff,↓reduceIte,he];try rfl) ZaC rfl ?_
 refine Zao ?_
 apply Zah
 case hi => simp only [HIX]; try rfl
 case hw => rfl
 case how => rfl
 refine ZbJ (b := rb) (o := 0 + 1) (v := fv3) (by simp only [EV,Nat.reduceEqDiff,↓reduceIte,he];try rfl) (by simp only [EV,Nat.reduceEqDiff,↓reduceIte,he];try rfl) h4.obj Zbr hf3.oneV (by simp) fun υ5 hb5 k5 => ?_
 refine ⟨(fun hf => by cases hf), ?_⟩
 refine Zb8 ?_
 have hlen : (l.take j ++ l.drop (j + 1)).length = j + (l.length - (j + 1)) := by
  rw [List.length_append, List.length_take, List.length_drop]
  omega
 have hf5 : Hd υ5 88 2 fv3 (l.take j ++ l.drop (j + 1)).length (rfC (l.take j ++ l.drop (j + 1))) := by
  rw [hlen, Zjg]
  exact hf3.but k5 fun c hc hq => Zcv hf3 h4.obj (by decide) hc hq
 have hsubl : (l.take j ++ l.drop (j + 1)).Sublist l := by
  conv => rhs; rw [<- List.take_append_drop j l]
  refine List.Sublist.append_left ?_ _
  rw [List.drop_eq_getElem_cons hi]
  exact List.sublist_cons_self _ _
 have h5 := h4.setF (k5.sub fun c hc => .inl hc) hb5 hf5 (fun r hr => .inl (hsubl.subset hr)) (ZcZ h.nn hsubl)
 apply ZaO 0 1
 iterate 2 ·simp only [EV,Nat.reduceEqDiff,↓reduceIte,he];try rfl
 clear he e
 intro e he
 have hB5 : But S σ υ5 := hE4.but.trans (k5.sub fun c hc => by rw [hc]; exact h.own.1)
 have hS5 : ∀ c, (S c \/ hbk fv3 = some c) -> S c \/ ZaT σ c := fun c hc => by
  rcases hc with hc | hc
  ·exact .inl hc
  ·rcases hn4 c hc with q | q
   ·exact .inr (hfn c q)
   ·exact .inr (ZaT.of q hE3)
 repeat refine Zac ?_
 first|refine Zaa ?_|refine Zad ?_
 refine Zab (Zag rfl (by simp only [EV,Nat.reduceEqDiff,↓reduceIte,he];try rfl) ?_)
 refine Zab (Zag rfl (by simp only [EV,Nat.reduceEqDiff,↓reduceIte,he];try rfl) ?_)
 refine Zab ?_
 refine Zar (vs := [ptr rb 0, .raw (sV k)]) (by simp only [List.map_cons, List.map_nil, EV,Nat.reduceEqDiff,↓reduceIte,he];try rfl) ?_
 refine Zj2 h5 hp fun υ6 S6 pv6 h6 hB6 hS61 hS62 => ?_
 refine Zaf ?_
 have hB56 : But S σ υ6 := hB5.ext2 (T := fun c => S c \/ hbk fv3 = some c) (fun c hc => (hS5 c hc).imp id fun q => q.1) hB6
 refine ⟨_, Zb4 rfl, hK υ6 S6 fv3 pv6 h6 hB56 (fun c hc => hS61 c (.inl hc)) fun c hc => ?_⟩
 rcases hS62 c hc with q | q
 ·exact hS5 c q
 ·exact Zco hB5 q
end
end Go.Proofs.Ytinpiaibhjmfaaa
