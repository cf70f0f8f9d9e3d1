/- XRda, XRdb, XRdc in one. -/
import Derived.Test.YtinpiaibhjmfaaaMi
import Derived.Test.YtinpiaibhjmfaaaMe
import Derived.Test.YtinpiaibhjmfaaaMg
namespace Go.Proofs.Ytinpiaibhjmfaaa
open Go.RowKit
set_option maxRecDepth 100000
set_option linter.unusedVariables false
set_option linter.unusedSimpArgs false
theorem ZaF : ZbM Try.prog 46 = some [(0, some 1, some false), (1, some 1, some false), (2, some 1, some false)] := by kernel_rfl
theorem Zcx : ZbM Try.prog 88 = some [(0, some 1, some false), (1, some 1, some false)] := by kernel_rfl
theorem Zc1 : ZbM Try.prog 105 = some [(0, some 1, some false), (1, some 1, some false)] := by kernel_rfl
theorem Zbh : ZaX Try.prog 43 = some 88 := by kernel_rfl
theorem ZbE : ZaX Try.prog 44 = some 105 := by kernel_rfl
theorem ZbA : ZaO Try.prog 88 = some 2 := by kernel_rfl
theorem Zby : ZaO Try.prog 105 = some 2 := by kernel_rfl
theorem ZbF : ZaO Try.prog 43 = some 1 := by kernel_rfl
theorem ZbR : ZaO Try.prog 44 = some 1 := by kernel_rfl
theorem ZbX : Zek Try.prog 43 = some false := by kernel_rfl
theorem Zca : Zek Try.prog 44 = some false := by kernel_rfl
theorem ZhR : Zek Try.prog 105 = some true := by kernel_rfl
theorem Zdk : ZbL Try.prog 88 = some (.agg #[.string ⟨#[]⟩, .slice none 0 0]) := by kernel_rfl
theorem Zdc : ZbL Try.prog 105 = some (.agg #[.string ⟨#[]⟩, .int .i64 0]) := by kernel_rfl
theorem Zma : ZbL Try.prog 46 = some (.agg #[.int .i64 0, .slice none 0 0, .slice none 0 0]) := by kernel_rfl
theorem Zmb : Zc5 Try.prog 88 = some [(0, 1), (1, 1)] := by kernel_rfl
theorem Znl : Zc5 Try.prog 105 = some [(0, 1), (1, 1)] := by kernel_rfl
theorem Zmc : Zc5 Try.prog 46 = some [(0, 1), (1, 1), (2, 1)] := by kernel_rfl
theorem ZfJ : ZcT Try.prog 88 = some 40 := by kernel_rfl
theorem Zf8 : ZcT Try.prog 105 = some 24 := by kernel_rfl
theorem ZbK {α β : Type} {f : α -> β} : ∀ {l : List α}, (l.map f).Nodup -> ∀ x ∈ l, ∀ y ∈ l, f x = f y -> x = y
 | a :: l, hn, x, hx, y, hy, e => by
  rw [List.map_cons, List.nodup_cons] at hn
  rcases List.mem_cons.1 hx with e1 | h1 <;> rcases List.mem_cons.1 hy with e2 | h2
  ·rw [e1, e2]
  ·exact absurd (List.mem_map.2 ⟨y, h2, by rw [<- e, e1]⟩) hn.1
  ·exact absurd (List.mem_map.2 ⟨x, h1, by rw [e, e2]⟩) hn.1
  ·exact ZbK hn.2 x h1 y h2 e
theorem Zft {α : Type} {l : List α} (h : l.Nodup) {i j : Nat} {hi : i < l.length} {hj : j < l.length} (e : l[i] = l[j]) : i = j := by
 rcases Nat.lt_trichotomy i j with q | q | q
 ·exact absurd e (List.pairwise_iff_getElem.1 h i j hi hj q)
 ·exact q
 ·exact absurd e.symm (List.pairwise_iff_getElem.1 h j i hj hi q)
def rfC (l : List Rw) : List AV := l.flatMap fun r => [.raw (sV r.nm), r.v]
abbrev PL := List (List UInt8 × Nat)
def rpC (l : PL) : List AV := l.flatMap fun p => [.raw (sV p.1), vI p.2]
theorem Zju {α : Type} {f g : α -> AV} : ∀ {l : List α} {i : Nat} (h : i < l.length), (l.flatMap fun x => [f x, g x])[i * 2 + 0]? = some (f l[i]) /\ (l.flatMap fun x => [f x, g x])[i * 2 + 1]? = some (g l[i])
 | x :: l, 0, _ => ⟨rfl, rfl⟩
 | x :: l, i + 1, h => by
  have := Zju (f := f) (g := g) (l := l) (i := i) (by simpa using h)
  rw [List.flatMap_cons]
  rw [show (i + 1) * 2 + 0 = (i * 2 + 0) + 2 by omega, show (i + 1) * 2 + 1 = (i * 2 + 1) + 2 by omega]
  exact this
theorem ZhS {α : Type} {f g : α -> AV} : ∀ (l : List α) (i : Nat), (l.flatMap fun x => [f x, g x]).drop (i * 2) = (l.drop i).flatMap fun x => [f x, g x]
 | l, 0 => rfl
 | [], i + 1 => by simp
 | x :: l, i + 1 => by
  rw [List.flatMap_cons, show (i + 1) * 2 = i * 2 + 2 by omega, List.drop_succ_cons]
  exact ZhS l i
theorem Zkd {α : Type} {f g : α -> AV} : ∀ (l : List α) (i : Nat), (l.flatMap fun x => [f x, g x]).take (i * 2) = (l.take i).flatMap fun x => [f x, g x]
 | l, 0 => by simp
 | [], i + 1 => by simp
 | x :: l, i + 1 => by
  rw [List.flatMap_cons, show (i + 1) * 2 = i * 2 + 2 by omega, List.take_succ_cons, List.flatMap_cons]
  show f x :: g x :: ((l.flatMap fun x => [f x, g x]).take (i * 2)) = _
  rw [Zkd l i]
  rfl
theorem ZfK {α : Type} {f g : α -> AV} : ∀ (l : List α) (i : Nat) (y : α), i < l.length -> ∀ x, l[i]? = some x -> (f y = f x -> (l.flatMap fun x => [f x, g x]).set (i * 2 + 1) (g y) = (l.set i y).flatMap fun x => [f x, g x]) /\ (g y = g x -> (l.flatMap fun x => [f x, g x]).set (i * 2 + 0) (f y) = (l.set i y).flatMap fun x => [f x, g x])
 | z :: l, 0, y, _, x, hx => by
  injection hx with hx
  subst hx
  refine ⟨fun e => ?_, fun e => ?_⟩
  ·show f z :: g y :: _ = f y :: g y :: _
   rw [e]
  ·show f y :: g z :: _ = f y :: g y :: _
   rw [e]
 | z :: l, i + 1, y, h, x, hx => by
  have := ZfK (f := f) (g := g) l i y (by simpa using h) x (by simpa using hx)
  rw [List.flatMap_cons, show (i + 1) * 2 + 0 = (i * 2 + 0) + 2 by omega, show (i + 1) * 2 + 1 = (i * 2 + 1) + 2 by omega]
  refine ⟨fun e => ?_, fun e => ?_⟩
  ·show f z :: g z :: ((l.flatMap fun x => [f x, g x]).set (i * 2 + 1) (g y)) = _
   rw [this.1 e]
   rfl
  ·show f z :: g z :: ((l.flatMap fun x => [f x, g x]).set (i * 2 + 0) (f y)) = _
   rw [this.2 e]
   rfl
structure RAt (σ : St) (rb : Nat) (S : Nat -> Prop) (l : List Rw) (ps : PL) (size : Int) (fv pv : AV) : Prop where
 obj : σ.blk rb = some (.own 46 [.raw (.int .i64 size), fv, pv])
 used : σ.used rb
 fl : Hd σ 88 2 fv l.length (rfC l)
 row : ∀ r ∈ l, Hd σ 5 1 r.v r.d.length (bys r.d)
 nn : (l.map (·.nm)).Nodup
 far : ∀ r ∈ l, ∀ q ∈ l, ∀ x, hbk r.v = some x -> hbk q.v = some x -> r.nm = q.nm
 pc : Hd σ 105 2 pv ps.length (rpC ps)
 own : S rb /\ (∀ x, hbk fv = some x -> S x) /\ (∀ r ∈ l, ∀ x, hbk r.v = some x -> S x) /\ ∀ x, hbk pv = some x -> S x
 su : ∀ c, S c -> σ.used c
section
variable {σ τ : St} {rb : Nat} {S : Nat -> Prop} {l : List Rw} {ps : PL} {size : Int} {fv pv : AV} {K : AV -> St -> Prop}
theorem RAt.but {U : Nat -> Prop} (h : RAt σ rb S l ps size fv pv) (k : But U σ τ) (hU : ∀ b, S b -> ¬ U b) : RAt τ rb S l ps size fv pv := by
 obtain ⟨o1, o2, o3, o4⟩ := h.own
 exact ⟨k.keep _ _ (hU _ o1) h.obj, k.used _ h.used, h.fl.but k fun b hb => hU _ (o2 b hb), fun r hr => (h.row r hr).but k fun b hb => hU _ (o3 r hr b hb), h.nn, h.far, h.pc.but k fun b hb => hU _ (o4 b hb), h.own, fun c hc => k.used _ (h.su c hc)⟩
theorem RAt.ext (h : RAt σ rb S l ps size fv pv) (k : Ext σ τ) : RAt τ rb S l ps size fv pv := h.but (U := fun _ => False) k.but fun _ _ => id
theorem Zeh {i : Nat} (hi : i < l.length) : (rfC l)[i * 2 + 0]? = some (.raw (sV l[i].nm)) /\ (rfC l)[i * 2 + 1]? = some l[i].v := Zju (f := fun r : Rw => .raw (sV r.nm)) (g := fun r : Rw => r.v) hi
theorem ZiQ {i : Nat} (hi : i < ps.length) : (rpC ps)[i * 2 + 0]? = some (.raw (sV ps[i].1)) /\ (rpC ps)[i * 2 + 1]? = some (vI ps[i].2) := Zju (f := fun p : List UInt8 × Nat => .raw (sV p.1)) (g := fun p : List UInt8 × Nat => vI p.2) hi
theorem ZkL {α β : Type} {f : α -> β} {l : List α} (hn : (l.map f).Nodup) : ∀ x ∈ l, ∀ y ∈ l, f x = f y -> x = y := ZbK hn
theorem RAt.uniqN (h : RAt σ rb S l ps size fv pv) {r q : Rw} (hr : r ∈ l) (hq : q ∈ l) (e : r.nm = q.nm) : r = q := ZkL h.nn r hr q hq e
theorem ZeO {e e' sz sz' n m : Nat} {u v : AV} {cs ds : List AV} (hu : Hd σ e sz u n cs) (hv : Hd σ e' sz' v m ds) (hne : e ≠ e') {c : Nat} (h1 : hbk u = some c) : ¬ hbk v = some c := hu.ne hv hne h1
theorem ZcN {e sz n : Nat} {u : AV} {cs : List AV} {b : Nat} {t : TypeId} {xs : List AV} (hu : Hd σ e sz u n cs) (hb : σ.blk b = some (.own t xs)) (hne : e ≠ t) {c : Nat} (h1 : hbk u = some c) : ¬ c = b := fun q => by
 obtain ⟨all, hall⟩ := hu.blk h1
 exact ZcM hall hb hne q
theorem RAt.setF (h : RAt σ rb S l ps size fv pv) {l' : List Rw} {fv' : AV} (k : But (fun c => c = rb \/ hbk fv = some c) σ τ) (hb : τ.blk rb = some (.own 46 [.raw (.int .i64 size), fv', pv])) (hfl : Hd τ 88 2 fv' l'.length (rfC l')) (hrow : ∀ r ∈ l', r ∈ l \/ (r.v = .lst none 0 0 [] /\ r.d = [])) (nn : (l'.map (·.nm)).Nodup) :
 RAt τ rb (fun c => S c \/ hbk fv' = some c) l' ps size fv' pv := by
 obtain ⟨o1, o2, o3, o4⟩ := h.own
 refine ⟨hb, k.used _ h.used, hfl, fun r hr => ?_, nn, fun r hr q hq x hx hy => ?_, h.pc.but k fun c hc hq => ?_, ⟨.inl o1, fun x hx => .inr hx, fun r hr x hx => ?_, fun x hx => .inl (o4 x hx)⟩, fun c hc => hc.elim (fun q => k.used _ (h.su c q)) fun q => hfl.used q⟩
 ·rcases hrow r hr with hr | ⟨e1, e2⟩
  ·refine (h.row r hr).but k fun c hc hq => ?_
   rcases hq with hq | hq
   ·exact ZcN (h.row r hr) h.obj (by decide) hc hq
   ·exact ZeO (h.row r hr) h.fl (by decide) hc hq
  ·rw [e1, e2]
   exact ⟨by simp [bys], by simp [bys], .inl ⟨.inl rfl, rfl⟩⟩
 ·rcases hrow r hr with hr | ⟨e1, e2⟩
  ·rcases hrow q hq with hq | ⟨e1, e2⟩
   ·exact h.far r hr q hq x hx hy
   ·rw [e1] at hy
    cases hy
  ·rw [e1] at hx
   cases hx
 ·rcases hq with hq | hq
  ·exact ZcN h.pc h.obj (by decide) hc hq
  ·exact ZeO h.pc h.fl (by decide) hc hq
 ·rcases hrow r hr with hr | ⟨e1, e2⟩
  ·exact .inl (o3 r hr x hx)
  ·rw [e1] at hx
   cases hx
theorem RAt.setR0 (h : RAt σ rb S l ps size fv pv) {i : Nat} (hi : i < l.length) {v' : AV} {d' : List UInt8} (k : But (fun c => hbk fv = some c \/ hbk l[i].v = some c) σ τ) (hfl : Hd τ 88 2 fv l.length (rfC (l.set i ⟨l[i].nm, v', d'⟩))) (hv : Hd τ 5 1 v' d'.length (bys d')) (hnew : ∀ c, hbk v' = some c -> hbk l[i].v = some c \/ ∀ r ∈ l, hbk r.v ≠ some c) :
 RAt τ rb (fun c => S c \/ hbk v' = some c) (l.set i ⟨l[i].nm, v', d'⟩) ps size fv pv := by
 obtain ⟨o1, o2, o3, o4⟩ := h.own
 have hmi := List.getElem_mem hi
 have hnm : (l.set i ⟨l[i].nm, v', d'⟩).map (·.nm) = l.map (·.nm) := by
  rw [List.map_set]
  apply List.ext_getElem?
  intro j
  rw [List.getElem?_set]
  split
  ·rename_i e
   subst e
   rw [if_pos (by rw [List.length_map]; exact hi), List.getElem?_map, List.getElem?_eq_getElem hi]
   rfl
  ·rfl
 have hmem : ∀ r ∈ l.set i ⟨l[i].nm, v', d'⟩, r = ⟨l[i].nm, v', d'⟩ \/ (r ∈ l /\ r.nm ≠ l[i].nm) := fun r hr => by
  obtain ⟨j, hj, rfl⟩ := List.getElem_of_mem hr
  rw [List.getElem_set]
  split
  ·exact .inl rfl
  ·rename_i hne
   rw [List.length_set] at hj
   refine .inr ⟨List.getElem_mem hj, fun e => hne ?_⟩
   have hnd := h.nn
   have e1 : (l.map (·.nm))[j]'(by rw [List.length_map]; exact hj) = (l.map (·.nm))[i]'(by rw [List.length_map]; exact hi) := by rw [List.getElem_map, List.getElem_map]; exact e
   exact (Zft hnd e1).symm
 refine ⟨k.keep _ _ (fun hq => ?_) h.obj, k.used _ h.used, by rw [List.length_set]; exact hfl, fun r hr => ?_, by rw [hnm]; exact h.nn, fun r hr q hq x hx hy => ?_, h.pc.but k fun c hc hq => ?_, ⟨.inl o1, fun x hx => .inl (o2 x hx), fun r hr x hx => ?_, fun x hx => .inl (o4 x hx)⟩, fun c hc => hc.elim (fun q => k.used _ (h.su c q)) fun q => hv.used q⟩
 ·rcases hq with hq | hq
  ·exact ZcN h.fl h.obj (by decide) hq rfl
  ·exact ZcN (h.row _ hmi) h.obj (by decide) hq rfl
 ·rcases hmem r hr with rfl | ⟨hr, hne⟩
  ·exact hv
  ·refine (h.row r hr).but k fun c hc hq => ?_
   rcases hq with hq | hq
   ·exact ZeO (h.row r hr) h.fl (by decide) hc hq
   ·exact hne (h.far r hr _ hmi c hc hq)
 ·rcases hmem r hr with rfl | ⟨hr, hne⟩ <;> rcases hmem q hq with rfl | ⟨hq, hne2⟩
  ·rfl
  ·exfalso
   rcases hnew x hx with q1 | q1
   ·exact hne2 (h.far q hq _ hmi x hy q1)
   ·exact q1 q hq hy
  ·exfalso
   rcases hnew x hy with q1 | q1
   ·exact hne (h.far r hr _ hmi x hx q1)
   ·exact q1 r hr hx
  ·exact h.far r hr q hq x hx hy
 ·rcases hq with hq | hq
  ·exact ZeO h.pc h.fl (by decide) hc hq
  ·exact ZeO h.pc (h.row _ hmi) (by decide) hc hq
 ·rcases hmem r hr with rfl | ⟨hr, hne⟩
  ·exact .inr hx
  ·exact .inl (o3 r hr x hx)
theorem RAt.setR (h : RAt σ rb S l ps size fv pv) {i : Nat} (hi : i < l.length) {v' : AV} {d' : List UInt8} (k : But (fun c => hbk fv = some c \/ hbk l[i].v = some c) σ τ) (hfl : Hd τ 88 2 fv l.length (rfC (l.set i ⟨l[i].nm, v', d'⟩))) (hv : Hd τ 5 1 v' d'.length (bys d')) (hnew : ∀ c, hbk v' = some c -> hbk l[i].v = some c \/ Za0 σ c) :
 RAt τ rb (fun c => S c \/ hbk v' = some c) (l.set i ⟨l[i].nm, v', d'⟩) ps size fv pv := h.setR0 hi k hfl hv fun c hc => (hnew c hc).imp id fun q r hr e => q.2 ((h.row r hr).used e)
theorem RAt.setP (h : RAt σ rb S l ps size fv pv) {ps' : PL} {pv' : AV} (k : But (fun c => c = rb \/ hbk pv = some c) σ τ) (hb : τ.blk rb = some (.own 46 [.raw (.int .i64 size), fv, pv'])) (hpc : Hd τ 105 2 pv' ps'.length (rpC ps')) :
 RAt τ rb (fun c => S c \/ hbk pv' = some c) l ps' size fv pv' := by
 obtain ⟨o1, o2, o3, o4⟩ := h.own
 refine ⟨hb, k.used _ h.used, h.fl.but k fun c hc hq => ?_, fun r hr => (h.row r hr).but k fun c hc hq => ?_, h.nn, h.far, hpc, ⟨.inl o1, fun x hx => .inl (o2 x hx), fun r hr x hx => .inl (o3 r hr x hx), fun x hx => .inr hx⟩, fun c hc => hc.elim (fun q => k.used _ (h.su c q)) fun q => hpc.used q⟩
 ·rcases hq with hq | hq
  ·exact ZcN h.fl h.obj (by decide) hc hq
  ·exact ZeO h.fl h.pc (by decide) hc hq
 ·rcases hq with hq | hq
  ·exact ZcN (h.row r hr) h.obj (by decide) hc hq
  ·exact ZeO (h.row r hr) h.pc (by decide) hc hq
theorem RAt.setI (h : RAt σ rb S l ps size fv pv) {ps' : PL} (k : But (fun c => hbk pv = some c) σ τ) (hpc : Hd τ 105 2 pv ps'.length (rpC ps')) : RAt τ rb S l ps' size fv pv := by
 obtain ⟨o1, o2, o3, o4⟩ := h.own
 refine ⟨k.keep _ _ (fun hq => ZcN h.pc h.obj (by decide) hq rfl) h.obj, k.used _ h.used, h.fl.but k fun c hc hq => ZeO h.fl h.pc (by decide) hc hq, fun r hr => (h.row r hr).but k fun c hc hq => ZeO (h.row r hr) h.pc (by decide) hc hq, h.nn, h.far, hpc, ⟨o1, o2, o3, o4⟩, fun c hc => k.used _ (h.su c hc)⟩
theorem ZhT (h : RAt σ rb S l ps size fv pv) (hl : l.length <= 1000000000) {k : List UInt8} (hK1 : ∀ i (hi : i < l.length), l[i].nm = k -> K (vI i) σ) (hK2 : (∀ r ∈ l, r.nm ≠ k) -> K (.raw (.int .i64 (-1))) σ) : Zat Try.prog 70 [ptr rb 0, .raw (sV k)] σ K := by
 refine Zam Zas Try.func70 rfl rfl rfl (Nat.le_of_ble_eq_true rfl) ?_
 refine ZaK 0 1 (v0 := ptr rb 0) (v1 := .raw (sV k)) rfl rfl ?_
 intro e he
 repeat refine Zac ?_
 first|refine Zaa ?_|refine Zad ?_
 refine Zab (Zae rfl (by simp only [EV,Nat.reduceEqDiff,↓reduceIte,he];try rfl) ?_)
 refine Zaf ?_
 apply ZaK 0 1
 iterate 2 ·simp only [EV,Nat.reduceEqDiff,↓reduceIte,he];try rfl
 clear he e
 intro e he
 repeat refine Zac ?_
 first|refine Zaa ?_|refine Zad ?_
 refine Zab (Zae rfl (by simp only [EV,Nat.reduceEqDiff,↓reduceIte,he];try rfl) ?_)
 refine Zaf ?_
 apply ZaL 0 1 5
 iterate 3 ·simp only [EV,Nat.reduceEqDiff,↓reduceIte,he];try rfl
 clear he e
 intro e he
 refine ZaD ?_
 refine ZaV (fun μ env υ => ∃ (i : Nat), μ = l.length - i /\ i <= l.length /\ (env 0 = ptr rb 0 /\ env 1 = .raw (sV k) /\ env 5 = vI i) /\ υ = σ /\ ∀ r ∈ l.take i, r.nm ≠ k) ⟨_, 0, rfl, Nat.zero_le _, he, rfl, fun r hr => by cases hr⟩ ?_
 clear he e
 rintro _ e _ ⟨i, rfl, hi, he, rfl, hno⟩
 repeat refine Zac ?_
 first|refine Zaa ?_|refine Zad ?_
 refine Zab (Zae rfl he.2.2 ?_)
 refine ZcX (b := rb) he.1 ZaF rfl h.obj rfl ZbX ZbF fun u1 u2 u3 => ?_
 refine Zab ?_
 refine ZbS rfl h.fl rfl Zbh ?_
 refine Zab ?_
 refine Zbs i l.length rfl rfl ?_
 refine Zaf ?_
 apply ZaP 0 1 5 12
 iterate 4 ·simp only [EV,Nat.reduceEqDiff,↓reduceIte,he];try rfl
 clear he e
 intro e he
 refine Zav (t := decide (i < l.length)) he.2.2.2 (fun ht => ?_) (fun ht => ?_)
 ·have hlt : i < l.length := of_decide_eq_true ht
  refine Zaz ?_
  refine ZaD ?_
  repeat refine Zac ?_
  first|refine Zaa ?_|refine Zad ?_
  refine ZcX (b := rb) he.1 ZaF rfl h.obj rfl ZbX ZbF fun u1 u2 u3 => ?_
  refine Zab (Zae rfl he.2.2.1 ?_)
  refine Ze6 rfl rfl Zbh ZbA h.fl hlt Zcx rfl (Zeh hlt).1 Zb7 ZbJ fun u1 u2 => ?_
  refine Zab (Zae rfl he.2.1 ?_)
  refine Zab ?_
  refine Zeu (a := l[i].nm) (c := k) ZcW rfl rfl ?_
  refine Zaf ?_
  apply ZaP 0 1 5 24
  iterate 4 ·simp only [EV,Nat.reduceEqDiff,↓reduceIte,he];try rfl
  clear he e
  intro e he
  refine ZaS (t := decide (l[i].nm = k)) he.2.2.2 (fun hq => ?_) (fun hq => ?_)
  ·repeat refine Zac ?_
   first|refine Zaa ?_|refine Zad ?_
   refine Zab (Zae rfl he.2.2.1 ?_)
   refine Zab (Zae rfl (by simp only [EV,Nat.reduceEqDiff,↓reduceIte,he];try rfl) ?_)
   refine Zaf ?_
   refine Zax ?_
   show ∃ r, Zaj _ _ _ _ r /\ _
   exact ⟨_, Zal rfl rfl, hK1 i hlt (of_decide_eq_true hq)⟩
  ·have hq := of_decide_eq_false hq
   refine Zbq ?_
   show Zay _ _ _ _ _ _
   refine Zad ?_
   refine Zab (Zae rfl he.2.2.1 ?_)
   refine Zab ?_
   refine ZaU i 1 rfl rfl (by omega) ?_
   refine Zab (Zae rfl (by simp only [EV,Nat.reduceEqDiff,↓reduceIte,he];try rfl) ?_)
   refine Zaf ?_
   show ∃ n', n' < _ /\ _
   refine ⟨_, (by omega : l.length - (i + 1) < l.length - i), i + 1, rfl, hlt, ⟨by simp only [EV,Nat.reduceEqDiff,↓reduceIte,he];try rfl, by simp only [EV,Nat.reduceEqDiff,↓reduceIte,he];try rfl, by simp only [EV,Nat.reduceEqDiff,↓reduceIte,he];try rfl⟩, rfl, fun r hr => ?_⟩
   rw [List.take_succ_eq_append_getElem hlt] at hr
   rcases List.mem_append.1 hr with hr | hr
   ·exact hno r hr
   ·rw [List.mem_singleton.1 hr]; exact hq
 ·have hke : i = l.length := by have := of_decide_eq_false ht; omega
  refine Zbe ?_
  show Zay _ _ _ _ _ _
  repeat refine Zac ?_
  first|refine Zaa ?_|refine Zad ?_
  refine Zab (Zae rfl (by simp only [EV,Nat.reduceEqDiff,↓reduceIte,he];try rfl) ?_)
  refine Zaf ?_
  refine Zax ?_
  rw [hke, List.take_length] at hno
  show ∃ r, Zaj _ _ _ _ r /\ _
  exact ⟨_, Zal rfl rfl, hK2 hno⟩
end
end Go.Proofs.Ytinpiaibhjmfaaa
namespace Go.Proofs.Ytinpiaibhjmfaaa
open Go.RowKit
set_option maxRecDepth 100000
set_option linter.unusedVariables false
set_option linter.unusedSimpArgs false
theorem ZpK : ZcT Try.prog 9 = some 16 := by kernel_rfl
theorem Zke : ZcT Try.prog 5 = some 1 := by kernel_rfl
abbrev PW (p : List UInt8 × Nat) : List AV := [.raw (sV p.1), vI p.2]
theorem Zjv {ps : PL} {i : Nat} (h : i < ps.length) : ((rpC ps).drop (i * 2)).take 2 = PW ps[i] := by
 unfold rpC
 rw [ZhS, List.drop_eq_getElem_cons h]
 rfl
theorem Zjw (l m : PL) : rpC (l ++ m) = rpC l ++ rpC m := by simp [rpC]
theorem Zjx (l m : List Rw) : rfC (l ++ m) = rfC l ++ rfC m := by simp [rfC]
theorem Zmd {a b : AV} (ha : a.one = true) (hb : b.one = true) : ∀ x ∈ [a, b], x.one = true := fun x hx => by
 simp only [List.mem_cons, List.not_mem_nil, or_false] at hx
 rcases hx with rfl | rfl
 ·exact ha
 ·exact hb
def ZdJ (ps : PL) : Nat := (ps.map (·.2)).sum
theorem ZiR {α : Type} {p : α -> Bool} {l : List α} {i : Nat} (h : i < l.length) : (l.take (i + 1)).filter p = (l.take i).filter p ++ if p l[i] then [l[i]] else [] := by
 rw [List.take_succ_eq_append_getElem h, List.filter_append]
 cases hp : p l[i] <;> simp [hp]
section
variable {σ τ : St} {rb : Nat} {S : Nat -> Prop} {l : List Rw} {ps : PL} {size : Int} {fv pv : AV} {K : AV -> St -> Prop}
theorem Zme (h : RAt σ rb S l ps size fv pv) (hl : l.length <= 1000000000) (hK : ∀ v τ, Hd τ 9 1 v l.length (ZeZ (l.map (·.nm))) -> Ext σ τ -> (∀ c, hbk v = some c -> Za0 σ c) -> K v τ) : Zat Try.prog 54 [ptr rb 0] σ K := by
 refine Zam Zas Try.func54 rfl rfl rfl (Nat.le_of_ble_eq_true rfl) ?_
 refine Zbz 0 (v0 := ptr rb 0) rfl ?_
 intro e he
 repeat refine Zac ?_
 first|refine Zaa ?_|refine Zad ?_
 refine Zab (Zae rfl (by simp only [EV,Nat.reduceEqDiff,↓reduceIte,he];try rfl) ?_)
 refine Zaf ?_
 apply Zbz 0
 ·simp only [EV,Nat.reduceEqDiff,↓reduceIte,he];try rfl
 clear he e
 intro e he
 repeat refine Zac ?_
 first|refine Zaa ?_|refine Zad ?_
 refine Zab (Zae rfl (by simp only [EV,Nat.reduceEqDiff,↓reduceIte,he];try rfl) ?_)
 refine Zaf ?_
 apply ZaK 0 3
 iterate 2 ·simp only [EV,Nat.reduceEqDiff,↓reduceIte,he];try rfl
 clear he e
 intro e he
 repeat refine Zac ?_
 first|refine Zaa ?_|refine Zad ?_
 refine Zab (Zae rfl (by simp only [EV,Nat.reduceEqDiff,↓reduceIte,he];try rfl) ?_)
 refine Zaf ?_
 apply ZaL 0 3 4
 iterate 3 ·simp only [EV,Nat.reduceEqDiff,↓reduceIte,he];try rfl
 clear he e
 intro e he
 refine ZaZ (fun env υ => ∃ v, env 3 = v /\ Hd υ 9 1 v l.length (ZeZ (l.map (·.nm))) /\ Ext σ υ /\ (∀ c, hbk v = some c -> Za0 σ c)) ?_ ?_
 ·refine ZaT ?_
  refine ZaV (fun μ env υ => ∃ (i : Nat), ∃ v, μ = l.length - i /\ i <= l.length /\ (env 0 = ptr rb 0 /\ env 3 = v /\ env 4 = vI i) /\ Hd υ 9 1 v i (ZeZ ((l.take i).map (·.nm))) /\ Ext σ υ /\ (∀ c, hbk v = some c -> Za0 σ c)) ⟨_, 0, _, rfl, Nat.zero_le _, he, ⟨rfl, by simp [ZeZ], .inl ⟨.inl rfl, rfl⟩⟩, .refl _, fun c hc => by cases hc⟩ ?_
  clear he e
  rintro _ e υ ⟨i, v, rfl, hi, he, hv, hE, hn⟩
  have h1 := h.ext hE
  repeat refine Zac ?_
  first|refine Zaa ?_|refine Zad ?_
  refine Zab (Zae rfl he.2.2 ?_)
  refine ZcX (b := rb) he.1 ZaF rfl h1.obj rfl ZbX ZbF fun u1 u2 u3 => ?_
  refine Zab ?_
  refine ZbS rfl h1.fl rfl Zbh ?_
  refine Zab ?_
  refine Zbs i l.length rfl rfl ?_
  refine Zaf ?_
  apply ZaP 0 3 4 11
  iterate 4 ·simp only [EV,Nat.reduceEqDiff,↓reduceIte,he];try rfl
  clear he e
  intro e he
  refine Zav (t := decide (i < l.length)) he.2.2.2 (fun ht => ?_) (fun ht => ?_)
  ·have hlt : i < l.length := of_decide_eq_true ht
   refine Zaz ?_
   refine ZaD ?_
   refine Zad ?_
   refine Zab (Zae rfl he.2.1 ?_)
   refine ZcX (b := rb) he.1 ZaF rfl h1.obj rfl ZbX ZbF fun u1 u2 u3 => ?_
   refine Zab (Zae rfl he.2.2.1 ?_)
   refine Ze6 (by simp only [EV,Nat.reduceEqDiff,↓reduceIte,he];try rfl) (by simp only [EV,Nat.reduceEqDiff,↓reduceIte,he];try rfl) Zbh ZbA h1.fl hlt Zcx rfl (Zeh hlt).1 Zb7 ZbJ fun u1 u2 => ?_
   refine Zab ?_
   refine Zdr (vs := [.raw (sV l[i].nm)]) (cells := [.raw (sV l[i].nm)]) (by simp only [List.map_cons, List.map_nil, EV,Nat.reduceEqDiff,↓reduceIte,he];try rfl) ZaE ZbJ ZhK rfl (by omega) rfl rfl fun b1 υ1 hN1 hX1 => ?_
   refine Zab ?_
   refine Za9 (m := 1) (news := [.raw (sV l[i].nm)]) (r := .lst (some ⟨b1, 0, none⟩) 1 1 ([.raw (sV l[i].nm)] ++ [])) (by simp only [EV,Nat.reduceEqDiff,↓reduceIte,he];try rfl) (by simp only [EV,Nat.reduceEqDiff,↓reduceIte,he];try rfl) ZaE ZbJ ZhK ZpK rfl (by omega) (hv.ext hX1) (ZbY rfl (fun a ha => by rw [List.mem_singleton.1 ha]; rfl) (fun q => by cases q)) (by unfold maxLen; omega) (by omega) fun v2 υ2 hv2 hB2 hn2 => ?_
   refine Zab (Zae rfl (by simp only [EV,Nat.reduceEqDiff,↓reduceIte,he];try rfl) ?_)
   refine Zaf ?_
   have hE1 := hE.trans hX1
   have hE2 : Ext σ υ2 := But.ext hE1 (fun c hc => (hn c hc).1) hB2
   have hn3 : ∀ c, hbk v2 = some c -> Za0 σ c := fun c hc => by
    rcases hn2 c hc with q | q
    ·exact hn c q
    ·exact Za0.of q hE1
   have e1 : ZeZ ((l.take i).map (·.nm)) ++ [.raw (sV l[i].nm)] = ZeZ ((l.take (i + 1)).map (·.nm)) := by
    rw [List.take_succ_eq_append_getElem hlt, List.map_append]
    unfold ZeZ
    rw [List.map_append]
    rfl
   rw [e1] at hv2
   show Zay _ _ _ _ _ _
   apply ZaL 0 3 4
   iterate 3 ·simp only [EV,Nat.reduceEqDiff,↓reduceIte,he];try rfl
   clear he e
   intro e he
   refine Zad ?_
   refine Zab (Zae rfl he.2.2 ?_)
   refine Zab ?_
   refine ZaU i 1 rfl rfl (by omega) ?_
   refine Zab (Zae rfl (by simp only [EV,Nat.reduceEqDiff,↓reduceIte,he];try rfl) ?_)
   refine Zaf ?_
   show ∃ n', n' < _ /\ _
   exact ⟨_, (by omega : l.length - (i + 1) < l.length - i), i + 1, v2, rfl, hlt, ⟨by simp only [EV,Nat.reduceEqDiff,↓reduceIte,he];try rfl, by simp only [EV,Nat.reduceEqDiff,↓reduceIte,he];try rfl, by simp only [EV,Nat.reduceEqDiff,↓reduceIte,he];try rfl⟩, hv2, hE2, hn3⟩
  ·have hke : i = l.length := by have := of_decide_eq_false ht; omega
   subst hke
   refine Zbe ?_
   rw [List.take_length] at hv
   exact ⟨rfl, v, by simp only [EV,Nat.reduceEqDiff,↓reduceIte,he];try rfl, hv, hE, hn⟩
 clear he e
 rintro e υ ⟨v, he, hv, hE, hn⟩
 repeat refine Zac ?_
 first|refine Zaa ?_|refine Zad ?_
 refine Zab (Zae rfl he ?_)
 refine Zab (Zae rfl (by simp only [EV,Nat.reduceEqDiff,↓reduceIte,he];try rfl) ?_)
 refine Zaf ?_
 refine Zax ?_
 show ∃ r, Zaj _ _ _ _ r /\ _
 exact ⟨_, Zal rfl rfl, hK v υ hv hE hn⟩
theorem ZhU (h : RAt σ rb S l ps size fv pv) (hl : l.length <= 1000000000) (hfl : ∀ r ∈ l, r.d.length <= 1000000000) {k : List UInt8} (hK1 : (∀ r ∈ l, r.nm ≠ k) -> K (.tup [.lst none 0 0 [], vT false]) σ)
 (hK2 : ∀ r ∈ l, r.nm = k -> ∀ v τ, Hd τ 5 1 v r.d.length (bys r.d) -> Ext σ τ -> (∀ c, hbk v = some c -> Za0 σ c) -> K (.tup [v, vT true]) τ) : Zat Try.prog 56 [ptr rb 0, .raw (sV k)] σ K := by
 refine Zam Zas Try.func56 rfl rfl rfl (Nat.le_of_ble_eq_true rfl) ?_
 refine ZaK 0 1 (v0 := ptr rb 0) (v1 := .raw (sV k)) rfl rfl ?_
 intro e he
 repeat refine Zac ?_
 first|refine Zaa ?_|refine Zad ?_
 refine Zab (Zae rfl (by simp only [EV,Nat.reduceEqDiff,↓reduceIte,he];try rfl) ?_)
 refine Zab (Zae rfl (by simp only [EV,Nat.reduceEqDiff,↓reduceIte,he];try rfl) ?_)
 refine Zaf ?_
 apply ZaK 0 1
 iterate 2 ·simp only [EV,Nat.reduceEqDiff,↓reduceIte,he];try rfl
 clear he e
 intro e he
 repeat refine Zac ?_
 first|refine Zaa ?_|refine Zad ?_
 refine Zab (Zae rfl he.1 ?_)
 refine Zab (Zae rfl he.2 ?_)
 refine Zab ?_
 refine Zao (vs := [ptr rb 0, .raw (sV k)]) (by simp only [List.map_cons, List.map_nil, EV,Nat.reduceEqDiff,↓reduceIte,he];try rfl) ?_
 refine ZhT h hl (fun i hi hn => ?_) fun hno => ?_
 ·refine Zab (Zae rfl (by simp only [EV,Nat.reduceEqDiff,↓reduceIte,he];try rfl) ?_)
  refine Zaf ?_
  apply ZaK 0 6
  iterate 2 ·simp only [EV,Nat.reduceEqDiff,↓reduceIte,he];try rfl
  clear he e
  intro e he
  repeat refine Zac ?_
  first|refine Zaa ?_|refine Zad ?_
  refine Zab (Zae rfl he.2 ?_)
  refine Zab ?_
  refine ZeH (k := .i64) (a := (i : Int)) (b := 0) rfl rfl ?_
  rw [decide_eq_false (by omega : ¬ (i : Int) < 0)]
  refine Zaf ?_
  apply ZaL 0 6 11
  iterate 3 ·simp only [EV,Nat.reduceEqDiff,↓reduceIte,he];try rfl
  clear he e
  intro e he
  refine Zav (t := false) he.2.2 (fun hf => by cases hf) (fun _ => ?_)
  refine Zaz ?_
  repeat refine Zac ?_
  first|refine Zaa ?_|refine Zad ?_
  refine Zom Zaw Zbf ZbT rfl fun ad υ1 hX1 => ?_
  have h1 := h.ext hX1
  have hm := List.getElem_mem hi
  refine ZcX (b := rb) he.1 ZaF rfl h1.obj rfl ZbX ZbF fun u1 u2 u3 => ?_
  refine Zab (Zae rfl he.2.1 ?_)
  refine Ze6 rfl rfl Zbh ZbA h1.fl hi Zcx rfl (Zeh hi).2 ZbO ZaJ fun u1 u2 => ?_
  refine Zab ?_
  have hr := h1.row _ hm
  have hd := hfl _ hm
  refine Za9 (m := l[i].d.length) (news := bys l[i].d) rfl rfl Zaw Zbf ZbT Zke rfl (by omega) (Zpx ad) (hr.src (by omega)) (by unfold maxLen; omega) (by omega) fun v2 υ2 hv2 hB2 hn2 => ?_
  rw [Nat.zero_add, List.nil_append] at hv2
  refine Zab (Zae rfl (by simp only [EV,Nat.reduceEqDiff,↓reduceIte,he];try rfl) ?_)
  refine Zab (Zae rfl (by simp only [EV,Nat.reduceEqDiff,↓reduceIte,he];try rfl) ?_)
  refine Zaf ?_
  refine Zax ?_
  have hE2 : Ext σ υ2 := But.ext hX1 (fun c hc => by cases hc) hB2
  refine Zfi rfl (Zda rfl) (Zda rfl) (hK2 _ hm hn v2 υ2 hv2 hE2 fun c hc => ?_)
  rcases hn2 c hc with q | q
  ·cases q
  ·exact Za0.of q hX1
 ·refine Zab (Zae rfl (by simp only [EV,Nat.reduceEqDiff,↓reduceIte,he];try rfl) ?_)
  refine Zaf ?_
  apply ZaK 0 6
  iterate 2 ·simp only [EV,Nat.reduceEqDiff,↓reduceIte,he];try rfl
  clear he e
  intro e he
  repeat refine Zac ?_
  first|refine Zaa ?_|refine Zad ?_
  refine Zab (Zae rfl he.2 ?_)
  refine Zab ?_
  refine ZeH (k := .i64) (a := -1) (b := 0) rfl rfl ?_
  refine Zaf ?_
  apply ZaL 0 6 11
  iterate 3 ·simp only [EV,Nat.reduceEqDiff,↓reduceIte,he];try rfl
  clear he e
  intro e he
  refine Zav (t := true) he.2.2 (fun _ => ?_) (fun hf => by cases hf)
  repeat refine Zac ?_
  first|refine Zaa ?_|refine Zad ?_
  refine Zab (Zae rfl (by simp only [EV,Nat.reduceEqDiff,↓reduceIte,he];try rfl) ?_)
  refine Zab (Zae rfl (by simp only [EV,Nat.reduceEqDiff,↓reduceIte,he];try rfl) ?_)
  refine Zaf ?_
  refine Zcw ?_
  exact Zfi rfl (Zda rfl) (Zda rfl) (hK1 hno)
theorem ZiS (h : RAt σ rb S l ps size fv pv) (hl : ps.length <= 1000000000) (hs : ZdJ ps <= 1000000000) (hK : K (vI (ZdJ ps)) σ) : Zat Try.prog 55 [ptr rb 0] σ K := by
 have hsn : ∀ i, ZdJ (ps.take i) <= ZdJ ps := fun i => by
  have e : ZdJ ps = ZdJ (ps.take i) + ZdJ (ps.drop i) := by
   unfold ZdJ
   conv => lhs; rw [<- List.take_append_drop i ps, List.map_append, List.sum_append]
  omega
 refine Zam Zas Try.func55 rfl rfl rfl (Nat.le_of_ble_eq_true rfl) ?_
 refine Zbz 0 (v0 := ptr rb 0) rfl ?_
 intro e he
 repeat refine Zac ?_
 first|refine Zaa ?_|refine Zad ?_
 refine Zab (Zae rfl (by simp only [EV,Nat.reduceEqDiff,↓reduceIte,he];try rfl) ?_)
 refine Zaf ?_
 apply Zbz 0
 ·simp only [EV,Nat.reduceEqDiff,↓reduceIte,he];try rfl
 clear he e
 intro e he
 repeat refine Zac ?_
 first|refine Zaa ?_|refine Zad ?_
 refine Zab (Zae rfl (by simp only [EV,Nat.reduceEqDiff,↓reduceIte,he];try rfl) ?_)
 refine Zaf ?_
 apply ZaK 0 3
 iterate 2 ·simp only [EV,Nat.reduceEqDiff,↓reduceIte,he];try rfl
 clear he e
 intro e he
 repeat refine Zac ?_
 first|refine Zaa ?_|refine Zad ?_
 refine Zab (Zae rfl (by simp only [EV,Nat.reduceEqDiff,↓reduceIte,he];try rfl) ?_)
 refine Zaf ?_
 apply ZaL 0 3 4
 iterate 3 ·simp only [EV,Nat.reduceEqDiff,↓reduceIte,he];try rfl
 clear he e
 intro e he
 refine ZaZ (fun env υ => env 3 = vI (ZdJ ps) /\ υ = σ) ?_ ?_
 ·refine ZaT ?_
  refine ZaV (fun μ env υ => ∃ (i : Nat), μ = ps.length - i /\ i <= ps.length /\ (env 0 = ptr rb 0 /\ env 3 = vI (ZdJ (ps.take i)) /\ env 4 = vI i) /\ υ = σ) ⟨_, 0, rfl, Nat.zero_le _, he, rfl⟩ ?_
  clear he e
  rintro _ e _ ⟨i, rfl, hi, he, rfl⟩
  repeat refine Zac ?_
  first|refine Zaa ?_|refine Zad ?_
  refine Zab (Zae rfl he.2.2 ?_)
  refine ZcX (b := rb) he.1 ZaF rfl h.obj rfl Zca ZbR fun u1 u2 u3 => ?_
  refine Zab ?_
  refine ZbS rfl h.pc rfl ZbE ?_
  refine Zab ?_
  refine Zbs i ps.length rfl rfl ?_
  refine Zaf ?_
  apply ZaP 0 3 4 11
  iterate 4 ·simp only [EV,Nat.reduceEqDiff,↓reduceIte,he];try rfl
  clear he e
  intro e he
  refine Zav (t := decide (i < ps.length)) he.2.2.2 (fun ht => ?_) (fun ht => ?_)
  ·have hlt : i < ps.length := of_decide_eq_true ht
   have hs1 : ZdJ (ps.take (i + 1)) = ZdJ (ps.take i) + ps[i].2 := by
    rw [List.take_succ_eq_append_getElem hlt]
    unfold ZdJ
    rw [List.map_append, List.sum_append]
    simp
   have := hsn (i + 1)
   refine Zaz ?_
   refine ZaD ?_
   refine Zad ?_
   refine Zab (Zae rfl he.2.1 ?_)
   refine ZcX (b := rb) he.1 ZaF rfl h.obj rfl Zca ZbR fun u1 u2 u3 => ?_
   refine Zab (Zae rfl he.2.2.1 ?_)
   refine Ze6 rfl rfl ZbE Zby h.pc hlt Zc1 rfl (ZiQ hlt).2 Zck Zcc fun u1 u2 => ?_
   refine Zab ?_
   refine ZaU (ZdJ (ps.take i)) (ps[i].2) rfl rfl (by omega) ?_
   refine Zab (Zae rfl (by simp only [EV,Nat.reduceEqDiff,↓reduceIte,he];try rfl) ?_)
   refine Zaf ?_
   show Zay _ _ _ _ _ _
   rw [<- hs1]
   apply ZaL 0 3 4
   iterate 3 ·simp only [EV,Nat.reduceEqDiff,↓reduceIte,he];try rfl
   clear he e
   intro e he
   refine Zad ?_
   refine Zab (Zae rfl he.2.2 ?_)
   refine Zab ?_
   refine ZaU i 1 rfl rfl (by omega) ?_
   refine Zab (Zae rfl (by simp only [EV,Nat.reduceEqDiff,↓reduceIte,he];try rfl) ?_)
   refine Zaf ?_
   show ∃ n', n' < _ /\ _
   exact ⟨_, (by omega : ps.length - (i + 1) < ps.length - i), i + 1, rfl, hlt, ⟨by simp only [EV,Nat.reduceEqDiff,↓reduceIte,he];try rfl, by simp only [EV,Nat.reduceEqDiff,↓reduceIte,he];try rfl, by simp only [EV,Nat.reduceEqDiff,↓reduceIte,he];try rfl⟩, rfl⟩
  ·have hke : i = ps.length := by have := of_decide_eq_false ht; omega
   refine Zbe ?_
   have h3 := he.2.1
   rw [hke, List.take_length] at h3
   exact ⟨rfl, h3, rfl⟩
 clear he e
 rintro e _ ⟨he, rfl⟩
 repeat refine Zac ?_
 first|refine Zaa ?_|refine Zad ?_
 refine Zab (Zae rfl he ?_)
 refine Zab (Zae rfl (by simp only [EV,Nat.reduceEqDiff,↓reduceIte,he];try rfl) ?_)
 refine Zaf ?_
 refine Zax ?_
 show ∃ r, Zaj _ _ _ _ r /\ _
 exact ⟨_, Zal rfl rfl, hK⟩
theorem Zkf (h : RAt σ rb S l ps size fv pv) (hl : ps.length <= 1000000000) {k : List UInt8} (hK : ∀ τ S' pv', RAt τ rb S' l (ps.filter fun p => decide (p.1 ≠ k)) size fv pv' -> But S σ τ -> (∀ c, S c -> S' c) -> (∀ c, S' c -> S c \/ Za0 σ c) -> K (.tup []) τ) : Zat Try.prog 71 [ptr rb 0, .raw (sV k)] σ K := by
 refine Zam Zas Try.func71 rfl rfl rfl (Nat.le_of_ble_eq_true rfl) ?_
 refine ZaK 0 1 (v0 := ptr rb 0) (v1 := .raw (sV k)) rfl rfl ?_
 intro e he
 repeat refine Zac ?_
 first|refine Zaa ?_|refine Zad ?_
 refine Zab (Zae rfl (by simp only [EV,Nat.reduceEqDiff,↓reduceIte,he];try rfl) ?_)
 refine Zaf ?_
 apply ZaL 0 1 4
 iterate 3 ·simp only [EV,Nat.reduceEqDiff,↓reduceIte,he];try rfl
 clear he e
 intro e he
 repeat refine Zac ?_
 first|refine Zaa ?_|refine Zad ?_
 refine Zab (Zae rfl (by simp only [EV,Nat.reduceEqDiff,↓reduceIte,he];try rfl) ?_)
 refine Zaf ?_
 apply ZaP 0 1 4 5
 iterate 4 ·simp only [EV,Nat.reduceEqDiff,↓reduceIte,he];try rfl
 clear he e
 intro e he
 refine ZaZ (fun env υ => ∃ v, (env 0 = ptr rb 0 /\ env 4 = v) /\ Hd υ 105 2 v (ps.filter fun p => decide (p.1 ≠ k)).length (rpC (ps.filter fun p => decide (p.1 ≠ k))) /\ Ext σ υ /\ (∀ c, hbk v = some c -> Za0 σ c)) ?_ ?_
 ·refine ZaT ?_
  refine ZaV (fun μ env υ => ∃ (i : Nat), ∃ v, μ = ps.length - i /\ i <= ps.length /\ (env 0 = ptr rb 0 /\ env 1 = .raw (sV k) /\ env 4 = v /\ env 5 = vI i) /\ Hd υ 105 2 v ((ps.take i).filter fun p => decide (p.1 ≠ k)).length (rpC ((ps.take i).filter fun p => decide (p.1 ≠ k))) /\ Ext σ υ /\ (∀ c, hbk v = some c -> Za0 σ c)) ⟨_, 0, _, rfl, Nat.zero_le _, he, ⟨rfl, by simp [rpC], .inl ⟨.inl rfl, rfl⟩⟩, .refl _, fun c hc => by cases hc⟩ ?_
  clear he e
  rintro _ e υ ⟨i, v, rfl, hi, he, hv, hE, hn⟩
  have h1 := h.ext hE
  repeat refine Zac ?_
  first|refine Zaa ?_|refine Zad ?_
  refine Zab (Zae rfl he.2.2.2 ?_)
  refine ZcX (b := rb) he.1 ZaF rfl h1.obj rfl Zca ZbR fun u1 u2 u3 => ?_
  refine Zab ?_
  refine ZbS rfl h1.pc rfl ZbE ?_
  refine Zab ?_
  refine Zbs i ps.length rfl rfl ?_
  refine Zaf ?_
  apply Zb6 0 1 4 5 12
  iterate 5 ·simp only [EV,Nat.reduceEqDiff,↓reduceIte,he];try rfl
  clear he e
  intro e he
  refine Zav (t := decide (i < ps.length)) he.2.2.2.2 (fun ht => ?_) (fun ht => ?_)
  ·have hlt : i < ps.length := of_decide_eq_true ht
   have hfs := ZiR (p := fun p : List UInt8 × Nat => decide (p.1 ≠ k)) hlt
   have hfle := List.length_filter_le (fun p : List UInt8 × Nat => decide (p.1 ≠ k)) (ps.take i)
   rw [List.length_take] at hfle
   refine Zaz ?_
   refine ZaZ (fun env υ => ∃ v, (env 0 = ptr rb 0 /\ env 1 = .raw (sV k) /\ env 4 = v /\ env 5 = vI i) /\ Hd υ 105 2 v ((ps.take (i + 1)).filter fun p => decide (p.1 ≠ k)).length (rpC ((ps.take (i + 1)).filter fun p => decide (p.1 ≠ k))) /\ Ext σ υ /\ (∀ c, hbk v = some c -> Za0 σ c)) ?_ ?_
   ·refine ZaT ?_
    repeat refine Zac ?_
    first|refine Zaa ?_|refine Zad ?_
    refine ZcX (b := rb) he.1 ZaF rfl h1.obj rfl Zca ZbR fun u1 u2 u3 => ?_
    refine Zab (Zae rfl he.2.2.2.1 ?_)
    refine Ze6 rfl rfl ZbE Zby h1.pc hlt Zc1 rfl (ZiQ hlt).1 Zb7 ZbJ fun u1 u2 => ?_
    refine Zab (Zae rfl he.2.1 ?_)
    refine Zab ?_
    refine Zhv (a := ps[i].1) (c := k) ZcW rfl rfl ?_
    refine Zaf ?_
    apply Zb6 0 1 4 5 24
    iterate 5 ·simp only [EV,Nat.reduceEqDiff,↓reduceIte,he];try rfl
    clear he e
    intro e he
    refine ZaS (t := decide (ps[i].1 ≠ k)) he.2.2.2.2 (fun hq => ?_) (fun hq => ?_)
    ·refine Zad ?_
     refine Zab (Zae rfl he.2.2.1 ?_)
     refine ZcX (b := rb) he.1 ZaF rfl h1.obj rfl Zca ZbR fun u1 u2 u3 => ?_
     refine Zab (Zae rfl he.2.2.2.1 ?_)
     refine ZnO rfl rfl ZbE Zby h1.pc hlt ZhR fun u1 => ?_
     rw [Zjv hlt]
     refine Zab ?_
     refine Zdr (vs := [.agg (PW ps[i])]) (cells := PW ps[i]) (by simp only [List.map_cons, List.map_nil, EV,Nat.reduceEqDiff,↓reduceIte,he];try rfl) ZbE Zby Zdc rfl (by omega) rfl rfl fun b1 υ1 hN1 hX1 => ?_
     refine Zab ?_
     refine Za9 (m := 1) (news := PW ps[i]) (r := .lst (some ⟨b1, 0, none⟩) 1 1 (PW ps[i] ++ [])) rfl rfl ZbE Zby Zdc Zf8 rfl (by omega) (hv.ext hX1) (ZbY rfl (Zmd rfl rfl) (fun q => by cases q)) (by unfold maxLen; omega) (by omega) fun v2 υ2 hv2 hB2 hn2 => ?_
     refine Zab (Zae rfl (by simp only [EV,Nat.reduceEqDiff,↓reduceIte,he];try rfl) ?_)
     refine Zaf ?_
     have hE1 := hE.trans hX1
     have hE2 : Ext σ υ2 := But.ext hE1 (fun c hc => (hn c hc).1) hB2
     refine ⟨rfl, v2, ⟨by simp only [EV,Nat.reduceEqDiff,↓reduceIte,he];try rfl, by simp only [EV,Nat.reduceEqDiff,↓reduceIte,he];try rfl, by simp only [EV,Nat.reduceEqDiff,↓reduceIte,he];try rfl, by simp only [EV,Nat.reduceEqDiff,↓reduceIte,he];try rfl⟩, ?_, hE2, fun c hc => ?_⟩
     ·rw [hfs, if_pos hq, List.length_append, Zjw]
      exact hv2
     ·rcases hn2 c hc with q | q
      ·exact hn c q
      ·exact Za0.of q hE1
    ·refine Zbq ?_
     refine ⟨rfl, v, ⟨by simp only [EV,Nat.reduceEqDiff,↓reduceIte,he];try rfl, by simp only [EV,Nat.reduceEqDiff,↓reduceIte,he];try rfl, by simp only [EV,Nat.reduceEqDiff,↓reduceIte,he];try rfl, by simp only [EV,Nat.reduceEqDiff,↓reduceIte,he];try rfl⟩, ?_, hE, hn⟩
     rw [hfs, if_neg (by rw [hq]; simp), List.append_nil]
     exact hv
   clear he e hv hE hn
   rintro e υ ⟨v, he, hv, hE, hn⟩
   refine Zad ?_
   refine Zab (Zae rfl he.2.2.2 ?_)
   refine Zab ?_
   refine ZaU i 1 rfl rfl (by omega) ?_
   refine Zab (Zae rfl (by simp only [EV,Nat.reduceEqDiff,↓reduceIte,he];try rfl) ?_)
   refine Zaf ?_
   show ∃ n', n' < _ /\ _
   exact ⟨_, (by omega : ps.length - (i + 1) < ps.length - i), i + 1, v, rfl, hlt, ⟨by simp only [EV,Nat.reduceEqDiff,↓reduceIte,he];try rfl, by simp only [EV,Nat.reduceEqDiff,↓reduceIte,he];try rfl, by simp only [EV,Nat.reduceEqDiff,↓reduceIte,he];try rfl, by simp only [EV,Nat.reduceEqDiff,↓reduceIte,he];try rfl⟩, hv, hE, hn⟩
  ·have hke : i = ps.length := by have := of_decide_eq_false ht; omega
   subst hke
   rw [List.take_length] at hv
   refine Zbe ?_
   exact ⟨rfl, v, ⟨by simp only [EV,Nat.reduceEqDiff,↓reduceIte,he];try rfl, by simp only [EV,Nat.reduceEqDiff,↓reduceIte,he];try rfl⟩, hv, hE, hn⟩
 clear he e
 rintro e υ ⟨v, he, hv, hE, hn⟩
 have h1 := h.ext hE
 refine Zad ?_
 refine Zab (Zae rfl he.1 ?_)
 refine Zab (Zae rfl he.2 ?_)
 refine ZlD (b := rb) rfl ZaF rfl fun u1 => ?_
 refine Zab ?_
 refine ZbQ (b := rb) (o := 0 + 2) (v := v) rfl rfl h1.obj ZbR hv.oneV (by simp) fun υ2 hb2 k2 => ?_
 refine Zaf ?_
 have hv2 : Hd υ2 105 2 v (ps.filter fun p => decide (p.1 ≠ k)).length (rpC (ps.filter fun p => decide (p.1 ≠ k))) := hv.but k2 fun c hc hq => ZcN hv h1.obj (by decide) hc hq
 have h2 := h1.setP (k2.sub fun c hc => .inl hc) hb2 hv2
 exact ⟨_, Zce rfl, hK υ2 _ v h2 (hE.but.trans (k2.sub fun c hc => by rw [hc]; exact h.own.1)) (fun c hc => .inl hc) fun c hc => hc.imp id fun q => hn c q⟩
end
end Go.Proofs.Ytinpiaibhjmfaaa
namespace Go.Proofs.Ytinpiaibhjmfaaa
open Go.RowKit
set_option maxRecDepth 100000
set_option linter.unusedVariables false
set_option linter.unusedSimpArgs false
theorem Zkg (l : List Rw) (i : Nat) : (rfC l).drop (i * 2) = rfC (l.drop i) := ZhS l i
theorem Zkh (l : List Rw) (i : Nat) : (rfC l).take (i * 2) = rfC (l.take i) := Zkd l i
section
variable {σ τ : St} {rb : Nat} {S : Nat -> Prop} {l : List Rw} {ps : PL} {size : Int} {fv pv : AV} {K : AV -> St -> Prop}
theorem Zmf (h : RAt σ rb S l ps size fv pv) (hl : l.length <= 100000000) {k : List UInt8} (hK1 : ∀ i (hi : i < l.length), l[i].nm = k -> K (vI i) σ)
 (hK2 : (∀ r ∈ l, r.nm ≠ k) -> ∀ i, i <= l.length -> (∀ r ∈ l.take i, r.nm < k) -> (∀ hi : i < l.length, ¬ l[i].nm < k) -> ∀ τ S' fv', RAt τ rb S' (l.take i ++ ⟨k, .lst none 0 0 [], []⟩ :: l.drop i) ps size fv' pv -> But S σ τ -> (∀ c, S c -> S' c) -> (∀ c, S' c -> S c \/ Za0 σ c) -> K (vI i) τ) :
 Zat Try.prog 69 [ptr rb 0, .raw (sV k)] σ K := by
 refine Zam Zas Try.func69 rfl rfl rfl (Nat.le_of_ble_eq_true rfl) ?_
 refine ZaK 0 1 (v0 := ptr rb 0) (v1 := .raw (sV k)) rfl rfl ?_
 intro e he
 repeat refine Zac ?_
 first|refine Zaa ?_|refine Zad ?_
 refine Zab (Zae rfl (by simp only [EV,Nat.reduceEqDiff,↓reduceIte,he];try rfl) ?_)
 refine Zaf ?_
 apply ZaK 0 1
 iterate 2 ·simp only [EV,Nat.reduceEqDiff,↓reduceIte,he];try rfl
 clear he e
 intro e he
 repeat refine Zac ?_
 first|refine Zaa ?_|refine Zad ?_
 refine Zab (Zae rfl he.1 ?_)
 refine Zab (Zae rfl he.2 ?_)
 refine Zab ?_
 refine Zao (vs := [ptr rb 0, .raw (sV k)]) (by simp only [List.map_cons, List.map_nil, EV,Nat.reduceEqDiff,↓reduceIte,he];try rfl) ?_
 refine ZhT h (by omega) (fun i hi hn => ?_) fun hno => ?_
 ·refine Zab (Zae rfl (by simp only [EV,Nat.reduceEqDiff,↓reduceIte,he];try rfl) ?_)
  refine Zaf ?_
  apply ZaL 0 1 5
  iterate 3 ·simp only [EV,Nat.reduceEqDiff,↓reduceIte,he];try rfl
  clear he e
  intro e he
  repeat refine Zac ?_
  first|refine Zaa ?_|refine Zad ?_
  refine Zab (Zae rfl he.2.2 ?_)
  refine Zab ?_
  refine ZfB (k := .i64) (a := (i : Int)) (b := 0) rfl rfl ?_
  rw [decide_eq_true (by omega : (0 : Int) <= (i : Int))]
  refine Zaf ?_
  apply ZaP 0 1 5 11
  iterate 4 ·simp only [EV,Nat.reduceEqDiff,↓reduceIte,he];try rfl
  clear he e
  intro e he
  refine Zav (t := true) he.2.2.2 (fun _ => ?_) (fun hf => by cases hf)
  repeat refine Zac ?_
  first|refine Zaa ?_|refine Zad ?_
  refine Zab (Zae rfl he.2.2.1 ?_)
  refine Zab (Zae rfl (by simp only [EV,Nat.reduceEqDiff,↓reduceIte,he];try rfl) ?_)
  refine Zaf ?_
  refine Zcw ?_
  show ∃ r, Zaj _ _ _ _ r /\ _
  exact ⟨_, Zal rfl rfl, hK1 i hi hn⟩
 refine Zab (Zae rfl (by simp only [EV,Nat.reduceEqDiff,↓reduceIte,he];try rfl) ?_)
 refine Zaf ?_
 apply ZaL 0 1 5
 iterate 3 ·simp only [EV,Nat.reduceEqDiff,↓reduceIte,he];try rfl
 clear he e
 intro e he
 repeat refine Zac ?_
 first|refine Zaa ?_|refine Zad ?_
 refine Zab (Zae rfl he.2.2 ?_)
 refine Zab ?_
 refine ZfB (k := .i64) (a := -1) (b := 0) rfl rfl ?_
 refine Zaf ?_
 apply ZaL 0 1 11
 iterate 3 ·simp only [EV,Nat.reduceEqDiff,↓reduceIte,he];try rfl
 clear he e
 intro e he
 refine Zav (t := false) he.2.2 (fun hf => by cases hf) (fun _ => ?_)
 refine Zaz ?_
 repeat refine Zac ?_
 first|refine Zaa ?_|refine Zad ?_
 refine Zab (Zae rfl (by simp only [EV,Nat.reduceEqDiff,↓reduceIte,he];try rfl) ?_)
 refine Zaf ?_
 apply ZaL 0 1 5
 iterate 3 ·simp only [EV,Nat.reduceEqDiff,↓reduceIte,he];try rfl
 clear he e
 intro e he
 refine ZaZ (fun env υ => ∃ i : Nat, (env 0 = ptr rb 0 /\ env 1 = .raw (sV k) /\ env 5 = vI i) /\ σ = υ /\ i <= l.length /\ (∀ r ∈ l.take i, r.nm < k) /\ (∀ hi : i < l.length, ¬ l[i].nm < k)) ?_ ?_
 ·refine ZaT ?_
  refine ZaV (fun μ env υ => ∃ i : Nat, μ = l.length - i /\ (env 0 = ptr rb 0 /\ env 1 = .raw (sV k) /\ env 5 = vI i) /\ σ = υ /\ i <= l.length /\ (∀ r ∈ l.take i, r.nm < k)) ⟨_, 0, rfl, he, rfl, Nat.zero_le _, fun r hr => by cases hr⟩ ?_
  clear he e
  rintro _ e _ ⟨i, rfl, he, rfl, hi, hlt0⟩
  refine Zac ?_
  refine ZaZ (fun env υ => ∃ b : Bool, (env 0 = ptr rb 0 /\ env 1 = .raw (sV k) /\ env 5 = vI i /\ env 31 = vT b) /\ σ = υ /\ (b = true -> ∃ hi : i < l.length, l[i].nm < k) /\ (b = false -> ∀ hi : i < l.length, ¬ l[i].nm < k)) ?_ ?_
  ·refine Zad ?_
   refine Zab (Zae rfl he.2.2 ?_)
   refine ZcX (b := rb) he.1 ZaF rfl h.obj rfl ZbX ZbF fun u1 u2 u3 => ?_
   refine Zab ?_
   refine ZbS (by simp only [EV,Nat.reduceEqDiff,↓reduceIte,he];try rfl) h.fl rfl Zbh ?_
   refine Zab ?_
   refine Zbs i l.length (by simp only [EV,Nat.reduceEqDiff,↓reduceIte,he];try rfl) (by simp only [EV,Nat.reduceEqDiff,↓reduceIte,he];try rfl) ?_
   refine Zab (Zae rfl (by simp only [EV,Nat.reduceEqDiff,↓reduceIte,he];try rfl) ?_)
   by_cases hlt : i < l.length
   ·rw [decide_eq_true hlt]
    refine Zab (Zah (ZaN rfl (by simp only [EV,Nat.reduceEqDiff,↓reduceIte,he];try rfl)) ?_)
    refine Zae rfl (v := ptr rb 0) he.1 ?_
    refine Zab (Zah (ZaN rfl (by simp only [EV,Nat.reduceEqDiff,↓reduceIte,he];try rfl)) ?_)
    refine Zak (v := ptr rb 0) (by simp only [EV,Nat.reduceEqDiff,↓reduceIte,he];try rfl) rfl ?_
    refine Zab (Zah (ZaN rfl (by simp only [EV,Nat.reduceEqDiff,↓reduceIte,he];try rfl)) ?_)
    refine Zag (b := rb) (o := 0) (by simp only [EV,Nat.reduceEqDiff,↓reduceIte,he];try rfl) ZaF rfl ?_
    refine Zab (Zah (ZaN rfl (by simp only [EV,Nat.reduceEqDiff,↓reduceIte,he];try rfl)) ?_)
    refine Zar (b := rb) (o := 0 + 1) (r := fv) (by simp only [EV,Nat.reduceEqDiff,↓reduceIte,he];try rfl) h.obj ZbX ZbF rfl ?_
    refine Zab (Zah (ZaN rfl (by simp only [EV,Nat.reduceEqDiff,↓reduceIte,he];try rfl)) ?_)
    refine Zae rfl he.2.2 ?_
    refine Zab (Zah (ZaN rfl (by simp only [EV,Nat.reduceEqDiff,↓reduceIte,he];try rfl)) ?_)
    refine Zbb (k := .i64) (j := i) (by simp only [EV,Nat.reduceEqDiff,↓reduceIte,he];try rfl) (by simp only [EV,Nat.reduceEqDiff,↓reduceIte,he];try rfl) Zbh ZbA h.fl hlt fun b hb => ?_
    refine Zab (Zah (ZaN rfl (by simp only [EV,Nat.reduceEqDiff,↓reduceIte,he];try rfl)) ?_)
    refine Zag (b := b) (o := i * 2) (by simp only [EV,Nat.reduceEqDiff,↓reduceIte,he];try rfl) Zcx rfl ?_
    refine Zab (Zah (ZaN rfl (by simp only [EV,Nat.reduceEqDiff,↓reduceIte,he];try rfl)) ?_)
    refine ZgC (by simp only [EV,Nat.reduceEqDiff,↓reduceIte,he];try rfl) h.fl hb (Zeh hlt).1 Zb7 ZbJ ?_
    refine Zab (Zah (ZaN rfl (by simp only [EV,Nat.reduceEqDiff,↓reduceIte,he];try rfl)) ?_)
    refine Zae rfl he.2.1 ?_
    refine Zab (Zah (ZaN rfl (by simp only [EV,Nat.reduceEqDiff,↓reduceIte,he];try rfl)) ?_)
    refine Zm1 (a := l[i].nm) (c := k) ZcW (by simp only [EV,Nat.reduceEqDiff,↓reduceIte,he];try rfl) (by simp only [EV,Nat.reduceEqDiff,↓reduceIte,he];try rfl) ?_
    refine Zab ?_
    refine ZaG (v := vT (decide (l[i].nm < k))) (by simp only [EV,Nat.reduceEqDiff,↓reduceIte,he];try rfl) (by simp only [EV,Nat.reduceEqDiff,↓reduceIte,he];try rfl) ?_
    refine Zaf ?_
    exact ⟨rfl, decide (l[i].nm < k), ⟨by simp only [EV,Nat.reduceEqDiff,↓reduceIte,he];try rfl, by simp only [EV,Nat.reduceEqDiff,↓reduceIte,he];try rfl, by simp only [EV,Nat.reduceEqDiff,↓reduceIte,he];try rfl, by simp only [EV,Nat.reduceEqDiff,↓reduceIte,he];try rfl⟩, rfl, fun q => ⟨hlt, of_decide_eq_true q⟩, fun q _ => of_decide_eq_false q⟩
   ·rw [decide_eq_false hlt]
    refine Zab (Zan (ZaN rfl (by simp only [EV,Nat.reduceEqDiff,↓reduceIte,he];try rfl)) ?_)
    refine Zab (Zan (ZaN rfl (by simp only [EV,Nat.reduceEqDiff,↓reduceIte,he];try rfl)) ?_)
    refine Zab (Zan (ZaN rfl (by simp only [EV,Nat.reduceEqDiff,↓reduceIte,he];try rfl)) ?_)
    refine Zab (Zan (ZaN rfl (by simp only [EV,Nat.reduceEqDiff,↓reduceIte,he];try rfl)) ?_)
    refine Zab (Zan (ZaN rfl (by simp only [EV,Nat.reduceEqDiff,↓reduceIte,he];try rfl)) ?_)
    refine Zab (Zan (ZaN rfl (by simp only [EV,Nat.reduceEqDiff,↓reduceIte,he];try rfl)) ?_)
    refine Zab (Zan (ZaN rfl (by simp only [EV,Nat.reduceEqDiff,↓reduceIte,he];try rfl)) ?_)
    refine Zab (Zan (ZaN rfl (by simp only [EV,Nat.reduceEqDiff,↓reduceIte,he];try rfl)) ?_)
    refine Zab (Zan (ZaN rfl (by simp only [EV,Nat.reduceEqDiff,↓reduceIte,he];try rfl)) ?_)
    refine Zab (Zan (ZaN rfl (by simp only [EV,Nat.reduceEqDiff,↓reduceIte,he];try rfl)) ?_)
    refine Zab ?_
    refine Za2 (v := vT false) (by simp only [EV,Nat.reduceEqDiff,↓reduceIte,he];try rfl) (by simp only [EV,Nat.reduceEqDiff,↓reduceIte,he];try rfl) ?_
    refine Zaf ?_
    exact ⟨rfl, false, ⟨by simp only [EV,Nat.reduceEqDiff,↓reduceIte,he];try rfl, by simp only [EV,Nat.reduceEqDiff,↓reduceIte,he];try rfl, by simp only [EV,Nat.reduceEqDiff,↓reduceIte,he];try rfl, by simp only [EV,Nat.reduceEqDiff,↓reduceIte,he];try rfl⟩, rfl, (fun q => by cases q), fun _ hi => absurd hi hlt⟩
  clear he e
  rintro e _ ⟨b, he, rfl, g1, g2⟩
  refine Zav (t := b) he.2.2.2 (fun hb => ?_) (fun hb => ?_)
  ·obtain ⟨hlt, hq⟩ := g1 hb
   refine Zaz ?_
   refine ZaT ?_
   refine Zad ?_
   refine Zab (Zae rfl he.2.2.1 ?_)
   refine Zab ?_
   refine ZaU i 1 (by simp only [EV,Nat.reduceEqDiff,↓reduceIte,he];try rfl) (by simp only [EV,Nat.reduceEqDiff,↓reduceIte,he];try rfl) (by omega) ?_
   refine Zab (Zae rfl (by simp only [EV,Nat.reduceEqDiff,↓reduceIte,he];try rfl) ?_)
   refine Zaf ?_
   show ∃ n', n' < _ /\ _
   refine ⟨_, (by omega : l.length - (i + 1) < l.length - i), i + 1, rfl, ⟨by simp only [EV,Nat.reduceEqDiff,↓reduceIte,he];try rfl, by simp only [EV,Nat.reduceEqDiff,↓reduceIte,he];try rfl, by simp only [EV,Nat.reduceEqDiff,↓reduceIte,he];try rfl⟩, rfl, hlt, fun r hr => ?_⟩
   rw [List.take_succ_eq_append_getElem hlt] at hr
   rcases List.mem_append.1 hr with hr | hr
   ·exact hlt0 r hr
   ·rw [List.mem_singleton.1 hr]; exact hq
  ·refine Zbe ?_
   exact ⟨rfl, i, ⟨by simp only [EV,Nat.reduceEqDiff,↓reduceIte,he];try rfl, by simp only [EV,Nat.reduceEqDiff,↓reduceIte,he];try rfl, by simp only [EV,Nat.reduceEqDiff,↓reduceIte,he];try rfl⟩, rfl, hi, hlt0, g2 hb⟩
 clear he e
 rintro e _ ⟨i, he, rfl, hi, hlt0, hge⟩
 repeat refine Zac ?_
 first|refine Zaa ?_|refine Zad ?_
 refine Zom Zbh ZbA Zdk rfl fun ad υ1 hX1 => ?_
 have h1 := h.ext hX1
 refine ZcX (b := rb) he.1 ZaF rfl h1.obj rfl ZbX ZbF fun u1 u2 u3 => ?_
 refine Zab (Zae rfl he.2.2 ?_)
 refine Zab ?_
 refine ZjU (by simp only [EV,Nat.reduceEqDiff,↓reduceIte,he];try rfl) (by simp only [EV,Nat.reduceEqDiff,↓reduceIte,he];try rfl) Zbh ZbA (by decide) h1.fl hi fun r0 hsrc => ?_
 refine Zab ?_
 refine Za9 (m := l.length - i) (news := (rfC l).drop (i * 2)) (by simp only [EV,Nat.reduceEqDiff,↓reduceIte,he];try rfl) (by simp only [EV,Nat.reduceEqDiff,↓reduceIte,he];try rfl) Zbh ZbA Zdk ZfJ rfl (by omega) (Zpx ad) (hsrc _ h1.fl) (by unfold maxLen; omega) (by omega) fun rv υ2 hrv hB2 hn2 => ?_
 rw [Nat.zero_add, List.nil_append, Zkg] at hrv
 have hX2 : Ext υ1 υ2 := But.ext (.refl _) (fun c hc => by cases hc) hB2
 have hE2 := hX1.trans hX2
 have hrn : ∀ c, hbk rv = some c -> Za0 σ c := fun c hc => by
  rcases hn2 c hc with q | q
  ·cases q
  ·exact Za0.of q hX1
 refine Zab (Zae rfl (by simp only [EV,Nat.reduceEqDiff,↓reduceIte,he];try rfl) ?_)
 refine Zaf ?_
 apply ZaP 0 1 5 6
 iterate 4 ·simp only [EV,Nat.reduceEqDiff,↓reduceIte,he];try rfl
 clear he e
 intro e he
 have h2 := h1.ext hX2
 repeat refine Zac ?_
 first|refine Zaa ?_|refine Zad ?_
 refine Zab (Zae rfl he.1 ?_)
 refine ZcX (b := rb) he.1 ZaF rfl h2.obj rfl ZbX ZbF fun u1 u2 u3 => ?_
 refine Zab (Zae rfl he.2.2.1 ?_)
 refine Zab ?_
 refine Zf6 (by simp only [EV,Nat.reduceEqDiff,↓reduceIte,he];try rfl) (by simp only [EV,Nat.reduceEqDiff,↓reduceIte,he];try rfl) Zbh ZbA h2.fl hi fun fv1 hf1 hb1 => ?_
 rw [Zkh] at hf1
 refine Zab (Zae rfl he.2.1 ?_)
 refine Zab ?_
 refine Za4 (vs := [.raw (sV k)]) (cells := [.raw (sV k), .lst none 0 0 []]) (by simp only [List.map_cons, List.map_nil, EV,Nat.reduceEqDiff,↓reduceIte,he]; try rfl) Zdk Zmb rfl ?_
 refine Zab ?_
 refine Zdr (vs := [.agg [.raw (sV k), .lst none 0 0 []]]) (cells := [.raw (sV k), .lst none 0 0 []]) (by simp only [List.map_cons, List.map_nil, EV,Nat.reduceEqDiff,↓reduceIte,he];try rfl) Zbh ZbA Zdk rfl (by omega) rfl rfl fun b3 υ3 hN3 hX3 => ?_
 have h3 := h2.ext hX3
 refine Zab ?_
 refine Za9 (m := 1) (news := [.raw (sV k), .lst none 0 0 []]) (r := .lst (some ⟨b3, 0, none⟩) 1 1 ([.raw (sV k), .lst none 0 0 []] ++ [])) (by simp only [EV,Nat.reduceEqDiff,↓reduceIte,he];try rfl) (by simp only [EV,Nat.reduceEqDiff,↓reduceIte,he];try rfl) Zbh ZbA Zdk ZfJ rfl (by omega) (hf1.ext hX3) (ZbY rfl (Zmd rfl rfl) (fun q => by cases q)) (by unfold maxLen; omega) (by omega) fun fv2 υ4 hf2 hB4 hn4 => ?_
 have hrv3 := hrv.ext hX3
 have hfu : ∀ c, hbk fv1 = some c -> hbk fv = some c := hb1
 have hrv4 : Hd υ4 88 2 rv (l.length - i) (rfC (l.drop i)) := hrv3.but hB4 fun c hc hq => (hrn c hc).2 (h.fl.used (hfu c hq))
 refine Zab (Zae rfl he.2.2.2 ?_)
 refine Zab ?_
 refine Za9 (m := l.length - i) (news := rfC (l.drop i)) (by simp only [EV,Nat.reduceEqDiff,↓reduceIte,he];try rfl) (by simp only [EV,Nat.reduceEqDiff,↓reduceIte,he];try rfl) Zbh ZbA Zdk ZfJ rfl (by omega) hf2 (hrv4.src (by omega)) (by unfold maxLen; omega) (by omega) fun fv3 υ5 hf3 hB5 hn5 => ?_
 have hE3 := hE2.trans hX3
 have hn2' : ∀ c, hbk fv2 = some c -> hbk fv = some c \/ Za0 υ3 c := fun c hc => (hn4 c hc).imp (hfu c) id
 have hB5' : But (fun c => hbk fv = some c) υ3 υ5 := (hB4.sub fun c hc => hfu c hc).ext2 (T := fun c => hbk fv2 = some c) (fun c hc => (hn2' c hc).imp id fun q => q.1) hB5
 refine ZlD (b := rb) (by simp only [EV,Nat.reduceEqDiff,↓reduceIte,he];try rfl) ZaF rfl fun u1 => ?_
 have hobj5 := hB5'.keep _ _ (fun hq => ZcN h3.fl h3.obj (by decide) hq rfl) h3.obj
 refine Zab ?_
 refine ZbQ (b := rb) (o := 0 + 1) (v := fv3) (by simp only [EV,Nat.reduceEqDiff,↓reduceIte,he];try rfl) (by simp only [EV,Nat.reduceEqDiff,↓reduceIte,he];try rfl) hobj5 ZbF hf3.oneV (by simp) fun υ6 hb6 k6 => ?_
 refine Zaf ?_
 have hB6 : But (fun c => c = rb \/ hbk fv = some c) υ3 υ6 := (hB5'.sub fun c hc => .inr hc).trans (k6.sub fun c hc => .inl hc)
 have hcells : rfC (l.take i) ++ [.raw (sV k), .lst none 0 0 []] ++ rfC (l.drop i) = rfC (l.take i ++ ⟨k, .lst none 0 0 [], []⟩ :: l.drop i) := by
  rw [Zjx]
  show _ = rfC (l.take i) ++ ([.raw (sV k), .lst none 0 0 []] ++ rfC (l.drop i))
  rw [List.append_assoc]
 have hlen : (l.take i ++ (⟨k, .lst none 0 0 [], []⟩ : Rw) :: l.drop i).length = i + 1 + (l.length - i) := by
  rw [List.length_append, List.length_take, List.length_cons, List.length_drop]
  omega
 have hf6 : Hd υ6 88 2 fv3 (l.take i ++ (⟨k, .lst none 0 0 [], []⟩ : Rw) :: l.drop i).length (rfC (l.take i ++ ⟨k, .lst none 0 0 [], []⟩ :: l.drop i)) := by
  rw [hlen, <- hcells]
  exact hf3.but k6 fun c hc hq => ZcN hf3 hobj5 (by decide) hc hq
 have h6 := h3.setF hB6 hb6 hf6 (fun r hr => ?_) ?_
 ·apply Zbz 5
  ·simp only [EV,Nat.reduceEqDiff,↓reduceIte,he];try rfl
  clear he e
  intro e he
  repeat refine Zac ?_
  first|refine Zaa ?_|refine Zad ?_
  refine Zab (Zae rfl he ?_)
  refine Zab (Zae rfl (by simp only [EV,Nat.reduceEqDiff,↓reduceIte,he];try rfl) ?_)
  refine Zaf ?_
  refine Zax ?_
  have hS3 : ∀ c, (S c \/ hbk fv3 = some c) -> S c \/ Za0 σ c := fun c hc => by
   rcases hc with hc | hc
   ·exact .inl hc
   ·rcases hn5 c hc with q | q
    ·rcases hn2' c q with q | q
     ·exact .inl (h.own.2.1 c q)
     ·exact .inr (Za0.of q hE3)
    ·rcases ZcB (hE3.but.trans (hB4.sub fun c hc => hfu c hc)) q with q | q
     ·exact .inl (h.own.2.1 c q)
     ·exact .inr q
  have hBS : But S σ υ6 := hE3.but.trans (hB6.sub fun c hc => by
   rcases hc with hc | hc
   ·rw [hc]; exact h.own.1
   ·exact h.own.2.1 c hc)
  show ∃ r, Zaj _ _ _ _ r /\ _
  exact ⟨_, Zal rfl rfl, hK2 hno i hi hlt0 hge υ6 _ fv3 h6 hBS (fun c hc => .inl hc) hS3⟩
 ·rcases List.mem_append.1 hr with hr | hr
  ·exact .inl (List.mem_of_mem_take hr)
  ·rcases List.mem_cons.1 hr with rfl | hr
   ·exact .inr ⟨rfl, rfl⟩
   ·exact .inl (List.mem_of_mem_drop hr)
 ·have hnn := h.nn
  rw [List.map_append, List.map_cons]
  rw [<- List.take_append_drop i l, List.map_append, List.nodup_append] at hnn
  refine List.nodup_append.2 ⟨hnn.1, List.nodup_cons.2 ⟨fun hq => ?_, hnn.2.1⟩, fun a ha b hb => ?_⟩
  ·obtain ⟨r, hr, e⟩ := List.mem_map.1 hq
   exact hno r (List.mem_of_mem_drop hr) e
  ·rcases List.mem_cons.1 hb with rfl | hb
   ·obtain ⟨r, hr, e⟩ := List.mem_map.1 ha
    rw [<- e]
    exact hno r (List.mem_of_mem_take hr)
   ·exact hnn.2.2 a ha b hb
theorem ZgN (h : RAt σ rb S l ps size fv pv) (hl : l.length <= 100000000) (hp : ps.length <= 1000000000) {i : Nat} (hi : i < l.length) {k : List UInt8} (hn : l[i].nm = k)
 (hK : ∀ τ S' fv' pv', RAt τ rb S' (l.take i ++ l.drop (i + 1)) (ps.filter fun p => decide (p.1 ≠ k)) size fv' pv' -> But S σ τ -> (∀ c, S c -> S' c) -> (∀ c, S' c -> S c \/ Za0 σ c) -> K (.tup []) τ) :
 Zat Try.prog 73 [ptr rb 0, .raw (sV k)] σ K := by
 refine Zam Zas Try.func73 rfl rfl rfl (Nat.le_of_ble_eq_true rfl) ?_
 refine ZaK 0 1 (v0 := ptr rb 0) (v1 := .raw (sV k)) rfl rfl ?_
 intro e he
 repeat refine Zac ?_
 first|refine Zaa ?_|refine Zad ?_
 refine Zab (Zae rfl he.1 ?_)
 refine Zab (Zae rfl he.2 ?_)
 refine Zab ?_
 refine Zao (vs := [ptr rb 0, .raw (sV k)]) (by simp only [List.map_cons, List.map_nil, EV,Nat.reduceEqDiff,↓reduceIte,he];try rfl) ?_
 refine ZhT h (by omega) (fun j hj hnj => ?_) fun hno => absurd hn (hno _ (List.getElem_mem hi))
 have hij : j = i := Zft (hi := by rw [List.length_map]; exact hj) (hj := by rw [List.length_map]; exact hi) h.nn (by rw [List.getElem_map, List.getElem_map, hnj, hn])
 subst hij
 refine Zab (Zae rfl (by simp only [EV,Nat.reduceEqDiff,↓reduceIte,he];try rfl) ?_)
 refine Zaf ?_
 apply ZaL 0 1 4
 iterate 3 ·simp only [EV,Nat.reduceEqDiff,↓reduceIte,he];try rfl
 clear he e
 intro e he
 refine Zb5 ?_
 refine ⟨[0, 2, 3, 4, 6, 9, 10, 11, 13, 14, 5, 7, 12, 15, 1, 8, 16, 17, 18, 19], [[], [], [], [2], [2, 3], [2, 3, 4], [], [2, 3, 4, 5, 6], [1, 2, 3, 4, 5, 6, 7], [], [9], [9, 10], [9, 10, 11], [], [13], [9, 10, 11, 12, 13, 14], [1, 2, 3, 4, 5, 6, 7, 8, 9, 10, 11, 12, 13, 14, 15], [0, 1, 2, 3, 4, 5, 6, 7, 8, 9, 10, 11, 12, 13, 14, 15, 16], [0, 1, 2, 3, 4, 5, 6, 7, 8, 9, 10, 11, 12, 13, 14, 15, 16, 17], [0, 1, 2, 3, 4, 5, 6, 7, 8, 9, 10, 11, 12, 13, 14, 15, 16, 17, 18]], fun _ => True, [12], [8], [], by kernel_rfl, ?_⟩
 apply Zai
 case hi => simp only [HIX]; try rfl
 case hw => rfl
 case how => rfl
 refine Zae rfl (by simp only [EV,Nat.reduceEqDiff,↓reduceIte,he];try rfl) ?_
 refine Zaq ?_
 apply Zai
 case hi => simp only [HIX]; try rfl
 case hw => rfl
 case how => rfl
 refine Zae rfl (by simp only [EV,Nat.reduceEqDiff,↓reduceIte,he];try rfl) ?_
 refine Zaq ?_
 apply Zai
 case hi => simp only [HIX]; try rfl
 case hw => rfl
 case how => rfl
 refine Zak (v := ptr rb 0) (by simp only [EV,Nat.reduceEqDiff,↓reduceIte,he];try rfl) rfl ?_
 refine Zaq ?_
 apply Zai
 case hi => simp only [HIX]; try rfl
 case hw => rfl
 case how => rfl
 refine Zag (b := rb) (o := 0) (by simp only [EV,Nat.reduceEqDiff,↓reduceIte,he];try rfl) ZaF rfl ?_
 refine Zaq ?_
 apply Zai
 case hi => simp only [HIX]; try rfl
 case hw => rfl
 case how => rfl
 refine Zae rfl (by simp only [EV,Nat.reduceEqDiff,↓reduceIte,he];try rfl) ?_
 refine Zaq ?_
 apply Zai
 case hi => simp only [HIX]; try rfl
 case hw => rfl
 case how => rfl
 refine Zae rfl (by simp only [EV,Nat.reduceEqDiff,↓reduceIte,he];try rfl) ?_
 refine Zaq ?_
 apply Zai
 case hi => simp only [HIX]; try rfl
 case hw => rfl
 case how => rfl
 refine Zak (v := ptr rb 0) (by simp only [EV,Nat.reduceEqDiff,↓reduceIte,he];try rfl) rfl ?_
 refine Zaq ?_
 apply Zai
 case hi => simp only [HIX]; try rfl
 case hw => rfl
 case how => rfl
 refine Zag (b := rb) (o := 0) (by simp only [EV,Nat.reduceEqDiff,↓reduceIte,he];try rfl) ZaF rfl ?_
 refine Zaq ?_
 apply Zai
 case hi => simp only [HIX]; try rfl
 case hw => rfl
 case how => rfl
 refine Zae rfl (by simp only [EV,Nat.reduceEqDiff,↓reduceIte,he];try rfl) ?_
 refine Zaq ?_
 apply Zai
 case hi => simp only [HIX]; try rfl
 case hw => rfl
 case how => rfl
 refine ZaU j 1 (by simp only [EV,Nat.reduceEqDiff,↓reduceIte,he];try rfl) (by simp only [EV,Nat.reduceEqDiff,↓reduceIte,he];try rfl) (by omega) ?_
 refine Zaq ?_
 apply Zai
 case hi => simp only [HIX]; try rfl
 case hw => rfl
 case how => rfl
 refine Zar (b := rb) (o := 0 + 1) (r := fv) (by simp only [EV,Nat.reduceEqDiff,↓reduceIte,he];try rfl) h.obj ZbX ZbF rfl ?_
 refine Zaq ?_
 apply Zai
 case hi => simp only [HIX]; try rfl
 case hw => rfl
 case how => rfl
 refine Zf6 (by simp only [EV,Nat.reduceEqDiff,↓reduceIte,he];try rfl) (by simp only [EV,Nat.reduceEqDiff,↓reduceIte,he];try rfl) Zbh ZbA h.fl (Nat.le_of_lt hi) fun fv1 hf1 hb1 => ?_
 refine Zaq ?_
 rw [Zkh] at hf1
 apply Zai
 case hi => simp only [HIX]; try rfl
 case hw => rfl
 case how => rfl
 refine Zar (b := rb) (o := 0 + 1) (r := fv) (by simp only [EV,Nat.reduceEqDiff,↓reduceIte,he];try rfl) h.obj ZbX ZbF rfl ?_
 refine Zaq ?_
 apply Zai
 case hi => simp only [HIX]; try rfl
 case hw => rfl
 case how => rfl
 refine ZjU (lo := j + 1) (by simp only [EV,Nat.reduceEqDiff,↓reduceIte,he];try rfl) (by simp only [EV,Nat.reduceEqDiff,↓reduceIte,he];try rfl) Zbh ZbA (by decide) h.fl hi fun r0 hsrc => ?_
 refine Zaq ?_
 apply Zai
 case hi => simp only [HIX]; try rfl
 case hw => rfl
 case how => rfl
 refine Zdr (vs := []) (cells := []) rfl Zbh ZbA Zdk rfl (by omega) rfl rfl fun b2 υ2 hN2 hX2 => ?_
 refine ⟨fun _ => hX2, ?_⟩
 have h2 := h.ext hX2
 apply Zai
 case hi => simp only [HIX]; try rfl
 case hw => rfl
 case how => rfl
 refine Zha (m := j) (news := rfC (l.take j)) (by simp only [EV,Nat.reduceEqDiff,↓reduceIte,he];try rfl) (by simp only [EV,Nat.reduceEqDiff,↓reduceIte,he];try rfl) Zbh ZbA Zdk ZfJ rfl (by omega) ((hf1.ext hX2).src (by omega)) (by unfold maxLen; omega) (by omega) fun fv2 υ3 hf2 hX3 hn3 => ?_
 refine ⟨fun _ => hX3, ?_⟩
 have h3 := h2.ext hX3
 have hsr := hsrc _ h3.fl
 rw [Zkg] at hsr
 apply Zai
 case hi => simp only [HIX]; try rfl
 case hw => rfl
 case how => rfl
 refine Za9 (m := l.length - (j + 1)) (news := rfC (l.drop (j + 1))) (by simp only [EV,Nat.reduceEqDiff,↓reduceIte,he];try rfl) (by simp only [EV,Nat.reduceEqDiff,↓reduceIte,he];try rfl) Zbh ZbA Zdk ZfJ rfl (by omega) hf2 hsr (by unfold maxLen; omega) (by omega) fun fv3 υ4 hf3 hB4 hn4 => ?_
 refine ⟨(fun hf => by cases hf), ?_⟩
 have hE3 := hX2.trans hX3
 have hfn : ∀ c, hbk fv2 = some c -> Za0 σ c := fun c hc => Za0.of (hn3 c hc) hX2
 have hE4 : Ext σ υ4 := But.ext hE3 (fun c hc => (hfn c hc).1) hB4
 have h4 := h.ext hE4
 apply Zai
 case hi => simp only [HIX]; try rfl
 case hw => rfl
 case how => rfl
 refine Zak (v := ptr rb 0) (by simp only [EV,Nat.reduceEqDiff,↓reduceIte,he];try rfl) rfl ?_
 refine Zaq ?_
 apply Zai
 case hi => simp only [HIX]; try rfl
 case hw => rfl
 case how => rfl
 refine Zag (b := rb) (o := 0) (by simp only [EV,Nat.reduceEqDiff,↓reduceIte,he];try rfl) ZaF rfl ?_
 refine Zaq ?_
 apply Zai
 case hi => simp only [HIX]; try rfl
 case hw => rfl
 case how => rfl
 refine ZbQ (b := rb) (o := 0 + 1) (v := fv3) (by simp only [EV,Nat.reduceEqDiff,↓reduceIte,he];try rfl) (by simp only [EV,Nat.reduceEqDiff,↓reduceIte,he];try rfl) h4.obj ZbF hf3.oneV (by simp) fun υ5 hb5 k5 => ?_
 refine ⟨(fun hf => by cases hf), ?_⟩
 refine Zcg ?_
 have hlen : (l.take j ++ l.drop (j + 1)).length = j + (l.length - (j + 1)) := by
  rw [List.length_append, List.length_take, List.length_drop]
  omega
 have hf5 : Hd υ5 88 2 fv3 (l.take j ++ l.drop (j + 1)).length (rfC (l.take j ++ l.drop (j + 1))) := by
  rw [hlen, Zjx]
  exact hf3.but k5 fun c hc hq => ZcN hf3 h4.obj (by decide) hc hq
 have hsubl : (l.take j ++ l.drop (j + 1)).Sublist l := by
  conv => rhs; rw [<- List.take_append_drop j l]
  refine List.Sublist.append_left ?_ _
  rw [List.drop_eq_getElem_cons hi]
  exact List.sublist_cons_self _ _
 have h5 := h4.setF (k5.sub fun c hc => .inl hc) hb5 hf5 (fun r hr => .inl (hsubl.subset hr)) (Zde h.nn hsubl)
 apply ZaK 0 1
 iterate 2 ·simp only [EV,Nat.reduceEqDiff,↓reduceIte,he];try rfl
 clear he e
 intro e he
 have hB5 : But S σ υ5 := hE4.but.trans (k5.sub fun c hc => by rw [hc]; exact h.own.1)
 have hS5 : ∀ c, (S c \/ hbk fv3 = some c) -> S c \/ Za0 σ c := fun c hc => by
  rcases hc with hc | hc
  ·exact .inl hc
  ·rcases hn4 c hc with q | q
   ·exact .inr (hfn c q)
   ·exact .inr (Za0.of q hE3)
 repeat refine Zac ?_
 first|refine Zaa ?_|refine Zad ?_
 refine Zab (Zae rfl he.1 ?_)
 refine Zab (Zae rfl he.2 ?_)
 refine Zab ?_
 refine Zao (vs := [ptr rb 0, .raw (sV k)]) (by simp only [List.map_cons, List.map_nil, EV,Nat.reduceEqDiff,↓reduceIte,he];try rfl) ?_
 refine Zkf h5 hp fun υ6 S6 pv6 h6 hB6 hS61 hS62 => ?_
 refine Zaf ?_
 have hB56 : But S σ υ6 := hB5.ext2 (T := fun c => S c \/ hbk fv3 = some c) (fun c hc => (hS5 c hc).imp id fun q => q.1) hB6
 refine ⟨_, Zce rfl, hK υ6 S6 fv3 pv6 h6 hB56 (fun c hc => hS61 c (.inl hc)) fun c hc => ?_⟩
 rcases hS62 c hc with q | q
 ·exact hS5 c q
 ·exact ZcB hB5 q
end
end Go.Proofs.Ytinpiaibhjmfaaa
