/- A disk's pieces: drop, shorten. -/
import Derived.Test.YtinpiaibhjmfaaaDo
namespace Go.Proofs.Ytinpiaibhjmfaaa
open Go.RowKit
set_option maxRecDepth 100000
set_option linter.unusedVariables false
set_option linter.unusedSimpArgs false
theorem ZgE : ZaO Try.prog (Program.pointee Try.prog 76) = some 1 := by kernel_rfl
section
variable {P : Program} {ops : Array Oper} {env : Env} {σ τ : St} {K : Env -> St -> Prop} {d : Option Nat} {ty t : TypeId} {pos : String} {af : Array Edge} {x y : Operand}
theorem ZbQ {b o : Nat} {T : TypeId} {cs : List AV} {v : AV} (hx : ev env x = ptr b o) (hy : ev env y = v) (hb : σ.blk b = some (.own T cs)) (hn : ZaO P t = some 1) (hv : v.one = true /\ Zbi v = true /\ v.cells = [v]) (ho : o < cs.length)
 (h : ∀ τ, τ.blk b = some (.own T (cs.set o v)) -> But (fun c => c = b) σ τ -> K (env.put d (.raw undef)) τ) : aOp P ops ⟨d, .store t x y, ty, pos, af, none⟩ env σ K := by
 refine Zd1 (cs' := cs.set o v) hx hy hb hn ?_ ?_ h
 ·rw [hv.2.2]
  simp [hv.1, hv.2.1]
  omega
 ·rw [hv.2.2]
  unfold ZaR
  rw [List.set_eq_take_append_cons_drop, if_pos ho]
  simp
end
theorem Znb {σ : St} {p : Nat × Nat} {fb b3 : Nat} {c1 c2 : List AV} (hp : σ.blk p.1 = some (.own 78 c1)) (hf : σ.blk fb = some (.own 78 c2)) (hb : σ.blk b3 = some (.own 76 [ptr fb 0])) (K : AV -> St -> Prop) (hK : ∀ τ, Ext σ τ -> K (vT (decide (p.1 = fb))) τ) : Zat Try.prog 66 [pcV p, ptr b3 0] σ K := by
 refine Zam Zas Try.func66 rfl rfl rfl (Nat.le_of_ble_eq_true rfl) ?_
 refine ZaK 0 1 (v0 := pcV p) (v1 := ptr b3 0) rfl rfl ?_
 intro e he
 repeat refine Zac ?_
 first|refine Zaa ?_|refine Zad ?_
 refine Zab ?_
 refine Zdq (cs := [ptr p.1 0, .raw (.int .i64 (p.2 : Int))]) (v := pcV p) he.1 rfl fun b2 τ hn2 hu2 hb2 hub2 hX2 => ?_
 refine Zab (Zae rfl (by simp only [EV,Nat.reduceEqDiff,↓reduceIte,he];try rfl) ?_)
 refine Zaf ?_
 apply ZaK 1 2
 iterate 2 ·simp only [EV,Nat.reduceEqDiff,↓reduceIte,he];try rfl
 clear he e
 intro e he
 repeat refine Zac ?_
 first|refine Zaa ?_|refine Zad ?_
 refine Zab ?_
 refine Zag (b := b2) (o := 0) he.2 ZdD rfl ?_
 refine Zab ?_
 refine Zar (b := b2) (o := 0 + 0) (r := ptr p.1 0) rfl hb2 ZgB ZgA rfl ?_
 refine Zab ?_
 refine Zar (b := b3) (o := 0) (r := ptr fb 0) he.1 (hX2.keep _ _ hb) ZgB ZgA rfl ?_
 refine ZlB (m := 0) (p := p.1) (q := fb) ZdG ZgE rfl rfl (hX2.keep _ _ hp) (hX2.keep _ _ hf) ?_
 refine Zab (Zae rfl (by simp only [EV,Nat.reduceEqDiff,↓reduceIte,he];try rfl) ?_)
 refine Zaf ?_
 refine Zax ?_
 show ∃ r, Zaj _ _ _ _ r /\ _
 exact ⟨_, Zal rfl rfl, hK τ hX2⟩
theorem Zjr {σ : St} {p : Nat × Nat} (K : AV -> St -> Prop) (hK : ∀ τ, Ext σ τ -> K (vT (decide (p.2 = 0))) τ) : Zat Try.prog 67 [pcV p] σ K := by
 refine Zam Zas Try.func67 rfl rfl rfl (Nat.le_of_ble_eq_true rfl) ?_
 refine Zbz 0 (v0 := pcV p) rfl ?_
 intro e he
 repeat refine Zac ?_
 first|refine Zaa ?_|refine Zad ?_
 refine Zab ?_
 refine Zdq (cs := [ptr p.1 0, .raw (.int .i64 (p.2 : Int))]) (v := pcV p) he rfl fun b2 τ hn2 hu2 hb2 hub2 hX2 => ?_
 refine Zab (Zae rfl (by simp only [EV,Nat.reduceEqDiff,↓reduceIte,he];try rfl) ?_)
 refine Zaf ?_
 apply Zbz 1
 ·simp only [EV,Nat.reduceEqDiff,↓reduceIte,he];try rfl
 clear he e
 intro e he
 repeat refine Zac ?_
 first|refine Zaa ?_|refine Zad ?_
 refine Zab ?_
 refine Zag (b := b2) (o := 0) he ZdD rfl ?_
 refine Zab ?_
 refine Zar (b := b2) (o := 0 + 1) (r := .raw (.int .i64 (p.2 : Int))) rfl hb2 Zck Zcc rfl ?_
 refine Zab ?_
 refine Zcn (k := .i64) (a := (p.2 : Int)) (b := 0) rfl rfl ?_
 rw [show decide ((p.2 : Int) = 0) = decide (p.2 = 0) by congr 1; exact propext (by omega)]
 refine Zab (Zae rfl (by simp only [EV,Nat.reduceEqDiff,↓reduceIte,he];try rfl) ?_)
 refine Zaf ?_
 refine Zax ?_
 show ∃ r, Zaj _ _ _ _ r /\ _
 exact ⟨_, Zal rfl rfl, hK τ hX2⟩
def Zhb (fb : Nat) : Nat -> List (Nat × Nat) -> List (Nat × Nat)
 | _, [] => []
 | m, p :: l => if p.1 = fb then (p.1, p.2 - min m p.2) :: Zhb fb (m - min m p.2) l else p :: Zhb fb m l
theorem ZgF (fb : Nat) : ∀ l, Zhb fb 0 l = l
 | [] => rfl
 | p :: l => by
  unfold Zhb
  rw [Nat.zero_min, Nat.zero_sub, Nat.sub_zero, ZgF fb l]
  split <;> rfl
def shr (fb m : Nat) (pcs : List (Nat × Nat)) : List (Nat × Nat) := (Zhb fb m pcs.reverse).reverse
theorem ZhD (fb : Nat) : ∀ m l, (Zhb fb m l).map (·.1) = l.map (·.1)
 | _, [] => rfl
 | m, p :: l => by
  unfold Zhb
  split
  ·rw [List.map_cons, List.map_cons, ZhD]
  ·rw [List.map_cons, List.map_cons, ZhD]
theorem ZlQ (fb m : Nat) (l : List (Nat × Nat)) : (shr fb m l).map (·.1) = l.map (·.1) := by
 unfold shr
 rw [List.map_reverse, ZhD, List.map_reverse, List.reverse_reverse]
theorem Zjs (fb m : Nat) (l : List (Nat × Nat)) : (shr fb m l).length = l.length := by
 have := congrArg List.length (ZlQ fb m l)
 rwa [List.length_map, List.length_map] at this
theorem ZpC {fb m : Nat} {l : List (Nat × Nat)} {p : Nat × Nat} (h : p ∈ shr fb m l) : ∃ p' ∈ l, p'.1 = p.1 := by
 have h1 : p.1 ∈ (shr fb m l).map (·.1) := List.mem_map.2 ⟨p, h, rfl⟩
 rw [ZlQ] at h1
 exact List.mem_map.1 h1
section
variable {P : Program} {ops : Array Oper} {env : Env} {σ τ : St} {K : Env -> St -> Prop} {d : Option Nat} {ty ty' t : TypeId} {pos : String} {af : Array Edge} {x y : Operand}
theorem ZcZ (a b : Int) (hx : ev env x = .raw (.int .i64 a)) (hy : ev env y = .raw (.int .i64 b)) (h1 : -4611686018427387904 < a - b) (h2 : a - b < 4611686018427387904) (h : K (env.put d (.raw (.int .i64 (a - b)))) σ) : aOp P ops ⟨d, .binOp .sub t x y ty', ty, pos, af, none⟩ env σ K :=
 Zn6 hx hy (by rw [IntWalk.i64_in _ (by omega)]) h
theorem ZiG {u v : Operand} {ts : Array TypeId} (a b : Nat) (hx : ev env u = vI a) (hy : ev env v = vI b) (h : K (env.put d (vI ((min a b : Nat) : Int))) σ) : aOp P ops ⟨d, .call ⟨.builtin .min, #[u, v], ts⟩, ty, pos, af, none⟩ env σ K := by
 refine Zqk hx hy ?_
 have e : (if (b : Int) < (a : Int) then (b : Int) else (a : Int)) = ((min a b : Nat) : Int) := by split <;> omega
 rw [e]
 exact h
end
section
variable {σ : St} {bb mb : Nat} {S : Nat -> Prop} {fs : List Fl} {pcs : List (Nat × Nat)} {size : Int} {pv : AV} {K : AV -> St -> Prop}
theorem DAt.pvS (h : DAt σ bb S fs pcs size mb pv) {c : Nat} (hc : c = bb \/ hbk pv = some c) : S c := by
 rcases hc with rfl | hc
 ·exact h.own.1
 ·exact h.own.2.2.2 _ hc
theorem DAt.pvF (h : DAt σ bb S fs pcs size mb pv) {f : Fl} (hf : f ∈ fs) : ¬ hbk pv = some f.b := fun hq => by
 obtain ⟨all, hall⟩ := h.pc.blk hq
 exact ZcM hall (h.file f hf).1 (by decide) rfl
theorem DAt.pvB (h : DAt σ bb S fs pcs size mb pv) : ¬ hbk pv = some bb := fun hq => by
 obtain ⟨all, hall⟩ := h.pc.blk hq
 exact ZcM hall h.obj (by decide) rfl
theorem ZlR (h : DAt σ bb S fs pcs size mb pv) (hl : pcs.length <= 1000000000) {f0 : Fl} (hf0 : f0 ∈ fs) (hK : ∀ τ pv', DAt τ bb S fs (pcs.filter fun p => !decide (p.1 = f0.b)) size mb pv' -> But S σ τ -> K (.tup []) τ) : Zat Try.prog 40 [ptr bb 0, ptr f0.b 0] σ K := by
 refine Zam Zas Try.func40 rfl rfl rfl (Nat.le_of_ble_eq_true rfl) ?_
 refine ZaK 0 1 (v0 := ptr bb 0) (v1 := ptr f0.b 0) rfl rfl ?_
 intro e he
 repeat refine Zac ?_
 first|refine Zaa ?_|refine Zad ?_
 refine Zab ?_
 refine Zdq (cs := [ptr f0.b 0]) (v := ptr f0.b 0) he.2 rfl fun b3 σ3 hn3 hu3 hb3 hub3 hX3 => ?_
 refine Zaf ?_
 apply ZaK 0 3
 iterate 2 ·simp only [EV,Nat.reduceEqDiff,↓reduceIte,he];try rfl
 clear he e
 intro e he
 have h3 := h.ext hX3
 repeat refine Zac ?_
 first|refine Zaa ?_|refine Zad ?_
 refine Zab (Zae rfl he.1 ?_)
 refine Zab (Zae rfl he.1 ?_)
 refine Zab ?_
 refine Zak (v := ptr bb 0) rfl rfl ?_
 refine Zab ?_
 refine Zag (b := bb) (o := 0) rfl Zco rfl ?_
 refine Zab ?_
 refine Zar (b := bb) (o := 0) (r := pv) rfl h3.obj Zdi Zcp rfl ?_
 refine Zab ?_
 refine ZdS (vs := [ptr b3 0]) (by simp only [List.map_cons, List.map_nil, EV,Nat.reduceEqDiff,↓reduceIte,he];try rfl) ?_
 refine Zab ?_
 refine Zao (vs := [pv, fnV 66 #[.pointer (some ⟨b3, 0, none⟩)]]) (by simp only [List.map_cons, List.map_nil, EV,Nat.reduceEqDiff,↓reduceIte,he];try rfl) ?_
 refine ZiF (q := fun p => decide (p.1 = f0.b)) h3.pc hl (fun υ hB p hp K' hK' => ?_) fun τ pv' d1 d2 d3 => ?_
 ·obtain ⟨f, hf, hfp⟩ := h3.inn p hp
  refine Znb (c1 := [f.v]) (c2 := [f0.v]) (hB.keep _ _ (by rw [<- hfp]; exact h3.pvF hf) (by rw [<- hfp]; exact (h3.file f hf).1)) (hB.keep _ _ (h3.pvF hf0) (h3.file f0 hf0).1) (hB.keep _ _ (fun hq => ?_) hb3) K' hK'
  obtain ⟨all, hall⟩ := h3.pc.blk hq
  exact ZcM hall hb3 (by decide) rfl
 refine Zab ?_
 refine Zak (v := ptr bb 0) rfl rfl ?_
 refine Zab ?_
 refine Zag (b := bb) (o := 0) rfl Zco rfl ?_
 refine Zab ?_
 refine ZbQ (b := bb) (o := 0) (v := pv') rfl rfl (d2.keep _ _ h3.pvB h3.obj) Zcp d1.oneV (Nat.zero_lt_succ _) fun τ2 hb2 k2 => ?_
 refine Zaf ?_
 have hB2 : But (fun c => c = bb \/ hbk pv = some c) σ3 τ2 := (d2.sub fun c hc => .inr hc).trans (k2.sub fun c hc => .inl hc)
 refine ⟨_, Zce rfl, hK τ2 pv' ((h3.setP hB2 hb2 (d1.but k2 fun c hc hq => ?_) fun p hp => ?_).mono fun c hc => ?_) (hX3.but.trans (hB2.sub fun c hc => h3.pvS hc))⟩
 ·rw [hq] at hc
  exact h3.pvB (d3 _ hc)
 ·exact h3.inn p (List.mem_filter.1 hp).1
 ·rcases hc with hc | hc
  ·exact hc
  ·exact h3.pvS (.inr (d3 _ hc))
set_option maxHeartbeats 2000000 in
theorem Zhc (h : DAt σ bb S fs pcs size mb pv) (hl : pcs.length <= 1000000000) (hs : ∀ p ∈ pcs, p.2 <= 1000000000) {f0 : Fl} (hf0 : f0 ∈ fs) {m : Nat} (hm : m <= f0.d.length) (hd : f0.d.length <= 1000000000)
 (hK : ∀ τ v' pv', DAt τ bb S (fs.map (Zci f0.b v' (f0.d.take (f0.d.length - m)))) ((shr f0.b m pcs).filter fun p => !decide (p.2 = 0)) size mb pv' -> But S σ τ -> K (.tup []) τ) : Zat Try.prog 43 [ptr bb 0, ptr f0.b 0, vI m] σ K := by
 obtain ⟨p1, p2, p3⟩ := h.file f0 hf0
 refine Zam Zas Try.func43 rfl rfl rfl (Nat.le_of_ble_eq_true rfl) ?_
 refine ZaL 0 1 2 (v0 := ptr bb 0) (v1 := ptr f0.b 0) (v2 := vI m) rfl rfl rfl ?_
 intro e he
 refine Zb5 ?_
 refine ⟨[0, 1, 2, 3, 5, 6, 7, 10, 4, 8, 9, 11, 12, 13, 14, 15], [[], [], [1], [1, 2], [1, 2, 3], [], [5], [5, 6], [5, 6, 7], [5, 6, 7, 8], [], [5, 6, 7, 8, 9, 10], [1, 2, 3, 4, 5, 6, 7, 8, 9, 10, 11], [0, 1, 2, 3, 4, 5, 6, 7, 8, 9, 10, 11, 12], [0, 1, 2, 3, 4, 5, 6, 7, 8, 9, 10, 11, 12, 13], [0, 1, 2, 3, 4, 5, 6, 7, 8, 9, 10, 11, 12, 13, 14]], fun _ => True, [], [], [], by kernel_rfl, ?_⟩
 apply Zai
 case hi => simp only [HIX]; try rfl
 case hw => rfl
 case how => rfl
 refine Zae rfl he.2.1 ?_
 refine Zaq ?_
 apply Zai
 case hi => simp only [HIX]; try rfl
 case hw => rfl
 case how => rfl
 refine Zae rfl he.2.1 ?_
 refine Zaq ?_
 apply Zai
 case hi => simp only [HIX]; try rfl
 case hw => rfl
 case how => rfl
 refine Zak (v := ptr f0.b 0) rfl rfl ?_
 refine Zaq ?_
 apply Zai
 case hi => simp only [HIX]; try rfl
 case hw => rfl
 case how => rfl
 refine Zag (b := f0.b) (o := 0) rfl Zes rfl ?_
 refine Zaq ?_
 apply Zai
 case hi => simp only [HIX]; try rfl
 case hw => rfl
 case how => rfl
 refine Zae rfl he.2.1 ?_
 refine Zaq ?_
 apply Zai
 case hi => simp only [HIX]; try rfl
 case hw => rfl
 case how => rfl
 refine Zak (v := ptr f0.b 0) rfl rfl ?_
 refine Zaq ?_
 apply Zai
 case hi => simp only [HIX]; try rfl
 case hw => rfl
 case how => rfl
 refine Zag (b := f0.b) (o := 0) rfl Zes rfl ?_
 refine Zaq ?_
 apply Zai
 case hi => simp only [HIX]; try rfl
 case hw => rfl
 case how => rfl
 refine Zae rfl he.2.2 ?_
 refine Zaq ?_
 apply Zai
 case hi => simp only [HIX]; try rfl
 case hw => rfl
 case how => rfl
 refine Zar (b := f0.b) (o := 0 + 0) (r := f0.v) rfl p1 ZbO ZaJ rfl ?_
 refine Zaq ?_
 apply Zai
 case hi => simp only [HIX]; try rfl
 case hw => rfl
 case how => rfl
 refine Zar (b := f0.b) (o := 0 + 0) (r := f0.v) rfl p1 ZbO ZaJ rfl ?_
 refine Zaq ?_
 apply Zai
 case hi => simp only [HIX]; try rfl
 case hw => rfl
 case how => rfl
 refine ZbS rfl p3 rfl Zaw ?_
 refine Zaq ?_
 apply Zai
 case hi => simp only [HIX]; try rfl
 case hw => rfl
 case how => rfl
 refine ZcZ (f0.d.length : Int) (m : Int) rfl rfl (by omega) (by omega) ?_
 refine Zaq ?_
 apply Zai
 case hi => simp only [HIX]; try rfl
 case hw => rfl
 case how => rfl
 refine Zf6 (u := f0.d.length - m) (v := f0.v) rfl (Eq.trans rfl (by rw [Int.ofNat_sub hm]; rfl)) Zaw Zbf p3 (Nat.sub_le _ _) fun v' hv' hbv => ?_
 refine Zaq ?_
 apply Zai
 case hi => simp only [HIX]; try rfl
 case hw => rfl
 case how => rfl
 refine Zak (v := ptr f0.b 0) rfl rfl ?_
 refine Zaq ?_
 apply Zai
 case hi => simp only [HIX]; try rfl
 case hw => rfl
 case how => rfl
 refine Zag (b := f0.b) (o := 0) rfl Zes rfl ?_
 refine Zaq ?_
 apply Zai
 case hi => simp only [HIX]; try rfl
 case hw => rfl
 case how => rfl
 refine ZbQ (b := f0.b) (o := 0 + 0) (v := v') rfl rfl p1 ZaJ hv'.oneV (Nat.zero_lt_succ _) fun σ1 hb1 k1 => ?_
 refine ⟨(fun hf => by cases hf), ?_⟩
 refine Zcg ?_
 have hlen : (f0.d.take (f0.d.length - m)).length = f0.d.length - m := by rw [List.length_take]; omega
 have hv1 : Hd σ1 5 1 v' (f0.d.take (f0.d.length - m)).length (bys (f0.d.take (f0.d.length - m))) := by
  rw [hlen]
  have : bys (f0.d.take (f0.d.length - m)) = (bys f0.d).take ((f0.d.length - m) * 1) := by
   unfold bys
   rw [Nat.mul_one, List.map_take]
  rw [this]
  refine hv'.but k1 fun c hc hq => ?_
  obtain ⟨all, hall⟩ := p3.blk (hbv c hc)
  exact ZcM hall p1 (by decide) hq
 have h1 : DAt σ1 bb S (fs.map (Zci f0.b v' (f0.d.take (f0.d.length - m)))) pcs size mb pv := (h.setF hf0 (k1.sub fun c hc => .inl hc) hb1 hv1 fun c hc => .inl (hbv c hc)).mono fun c hc => by
  rcases hc with hc | hc
  ·exact hc
  ·exact (h.own.2.2.1 f0 hf0).2 c (hbv c hc)
 have hfile0 : σ1.blk f0.b = some (.own 78 [v']) := hb1
 have hS1 : But S σ σ1 := k1.sub fun c hc => by rw [hc]; exact (h.own.2.2.1 f0 hf0).1
 clear hv1 k1 hb1 hv' hlen
 apply ZaL 0 1 2
 iterate 3 ·simp only [EV,Nat.reduceEqDiff,↓reduceIte,he];try rfl
 clear he e
 intro e he
 refine ZaZ (fun env υ => env 0 = ptr bb 0 /\ Hd υ 80 2 pv pcs.length (pcC (shr f0.b m pcs)) /\ But (fun c => hbk pv = some c) σ1 υ) ?_ ?_
 ·repeat refine Zac ?_
  first|refine Zaa ?_|refine Zad ?_
  refine Zab (Zae rfl he.1 ?_)
  refine Zab ?_
  refine Zak (v := ptr bb 0) rfl rfl ?_
  refine Zab ?_
  refine Zag (b := bb) (o := 0) rfl Zco rfl ?_
  refine Zab ?_
  refine Zar (b := bb) (o := 0 + 0) (r := pv) rfl h1.obj Zdi Zcp rfl ?_
  refine Zab ?_
  refine ZbS rfl h1.pc rfl ZbW ?_
  refine Zab ?_
  refine ZcZ (pcs.length : Int) 1 rfl rfl (by omega) (by omega) ?_
  refine Zab (Zae rfl (by simp only [EV,Nat.reduceEqDiff,↓reduceIte,he];try rfl) ?_)
  refine Zaf ?_
  apply ZaP 0 1 2 6
  iterate 4 ·simp only [EV,Nat.reduceEqDiff,↓reduceIte,he];try rfl
  clear he e
  intro e he
  refine ZaT ?_
  refine ZaV (fun μ env υ => ∃ (t m' : Nat) (done : List (Nat × Nat)), μ = t /\ t <= pcs.length /\ (env 0 = ptr bb 0 /\ env 1 = ptr f0.b 0 /\ env 2 = vI m' /\ env 6 = .raw (.int .i64 ((t : Int) - 1))) /\ m' <= m /\ Zhb f0.b m pcs.reverse = done ++ Zhb f0.b m' (pcs.take t).reverse /\ done.length = pcs.length - t /\ Hd υ 80 2 pv pcs.length (pcC (pcs.take t ++ done.reverse)) /\ But (fun c => hbk pv = some c) σ1 υ) ⟨_, pcs.length, m, [], rfl, Nat.le_refl _, he, Nat.le_refl _, by rw [List.take_length]; rfl, by simp, by rw [List.take_length, List.reverse_nil, List.append_nil]; exact h1.pc, .refl _ _⟩ ?_
  clear he e
  rintro t e υ ⟨_, m', done, rfl, ht, he, hmm, hR, hdl, hL, hB⟩
  have hobj : υ.blk bb = some (.own 65 [pv, Zc2 mb, .raw (.int .i64 size)]) := hB.keep _ _ h1.pvB h1.obj
  have hend : ∀ (he0 : e 0 = ptr bb 0), t = 0 \/ m' = 0 -> (e 0 = ptr bb 0 /\ Hd υ 80 2 pv pcs.length (pcC (shr f0.b m pcs)) /\ But (fun c => hbk pv = some c) σ1 υ) := fun he0 hor => by
   have : shr f0.b m pcs = pcs.take t ++ done.reverse := by
    unfold shr
    rw [hR, List.reverse_append]
    rcases hor with rfl | rfl
    ·rfl
    ·rw [ZgF, List.reverse_reverse]
   rw [this]
   exact ⟨he0, hL, hB⟩
  rcases Nat.eq_zero_or_pos t with ht0 | ht0
  ·repeat refine Zac ?_
   first|refine Zaa ?_|refine Zad ?_
   refine Zab (Zae rfl he.2.2.2 ?_)
   refine Zab ?_
   refine ZfB (k := .i64) (a := (t : Int) - 1) (b := 0) rfl rfl ?_
   rw [decide_eq_false (by omega : ¬ (0 : Int) <= (t : Int) - 1)]
   refine Zab (Zae rfl (by simp only [EV,Nat.reduceEqDiff,↓reduceIte,he];try rfl) ?_)
   refine Zab (Zan (ZaN rfl (by simp only [EV,Nat.reduceEqDiff,↓reduceIte,he];try rfl)) ?_)
   refine Zab (Zan (ZaN rfl (by simp only [EV,Nat.reduceEqDiff,↓reduceIte,he];try rfl)) ?_)
   refine Zab ?_
   refine Za2 (v := vT false) rfl rfl ?_
   refine Zaf ?_
   refine Zav (t := false) rfl (fun hf => by cases hf) (fun _ => ?_)
   refine Zbe ?_
   exact ⟨rfl, by simp only [EV,Nat.reduceEqDiff,↓reduceIte,he];try rfl, (hend he.1 (.inl ht0)).2⟩
  rcases Nat.eq_zero_or_pos m' with hm0 | hm0
  ·repeat refine Zac ?_
   first|refine Zaa ?_|refine Zad ?_
   refine Zab (Zae rfl he.2.2.2 ?_)
   refine Zab ?_
   refine ZfB (k := .i64) (a := (t : Int) - 1) (b := 0) rfl rfl ?_
   rw [decide_eq_true (by omega : (0 : Int) <= (t : Int) - 1)]
   refine Zab (Zae rfl (by simp only [EV,Nat.reduceEqDiff,↓reduceIte,he];try rfl) ?_)
   refine Zab (Zah (ZaN rfl (by simp only [EV,Nat.reduceEqDiff,↓reduceIte,he];try rfl)) ?_)
   refine Zae rfl he.2.2.1 ?_
   refine Zab (Zah (ZaN rfl (by simp only [EV,Nat.reduceEqDiff,↓reduceIte,he];try rfl)) ?_)
   refine ZfX (k := .i64) (a := (m' : Int)) (b := 0) rfl rfl ?_
   rw [decide_eq_false (by omega : ¬ (0 : Int) < (m' : Int))]
   refine Zab ?_
   refine ZaG (v := vT false) rfl rfl ?_
   refine Zaf ?_
   refine Zav (t := false) rfl (fun hf => by cases hf) (fun _ => ?_)
   refine Zbe ?_
   exact ⟨rfl, by simp only [EV,Nat.reduceEqDiff,↓reduceIte,he];try rfl, (hend he.1 (.inr hm0)).2⟩
  clear hend
  obtain ⟨j, rfl⟩ : ∃ j, t = j + 1 := ⟨t - 1, by omega⟩
  have hj : j < pcs.length := by omega
  have htk : pcs.take (j + 1) = pcs.take j ++ [pcs[j]] := List.take_succ_eq_append_getElem hj
  have hpj := hs _ (List.getElem_mem hj)
  generalize hp : pcs[j] = p at htk hpj
  have hlj : (pcs.take (j + 1) ++ done.reverse).length = pcs.length := by
   rw [List.length_append, List.length_take, List.length_reverse, hdl]; omega
  have hRj : Zhb f0.b m' (pcs.take (j + 1)).reverse = (if p.1 = f0.b then (p.1, p.2 - min m' p.2) :: Zhb f0.b (m' - min m' p.2) (pcs.take j).reverse else p :: Zhb f0.b m' (pcs.take j).reverse) := by
   rw [htk, List.reverse_append]
   rfl
  have hget : (pcs.take (j + 1) ++ done.reverse)[j]'(by omega) = p := by
   rw [List.getElem_append_left (by rw [List.length_take]; omega), List.getElem_take]
   exact hp
  have hj1 : ((j : Int) + 1 - 1) = (j : Int) := by omega
  rw [show (((j + 1 : Nat) : Int) - 1) = (j : Int) by omega] at he
  repeat refine Zac ?_
  first|refine Zaa ?_|refine Zad ?_
  refine Zab (Zae rfl he.2.2.2 ?_)
  refine Zab ?_
  refine ZfB (k := .i64) (a := (j : Int)) (b := 0) rfl rfl ?_
  rw [decide_eq_true (by omega : (0 : Int) <= (j : Int))]
  refine Zab (Zae rfl (by simp only [EV,Nat.reduceEqDiff,↓reduceIte,he];try rfl) ?_)
  refine Zab (Zah (ZaN rfl (by simp only [EV,Nat.reduceEqDiff,↓reduceIte,he];try rfl)) ?_)
  refine Zae rfl he.2.2.1 ?_
  refine Zab (Zah (ZaN rfl (by simp only [EV,Nat.reduceEqDiff,↓reduceIte,he];try rfl)) ?_)
  refine ZfX (k := .i64) (a := (m' : Int)) (b := 0) rfl rfl ?_
  rw [decide_eq_true (by omega : (0 : Int) < (m' : Int))]
  refine Zab ?_
  refine ZaG (v := vT true) rfl rfl ?_
  refine Zaf ?_
  apply Zb6 0 1 2 6 34
  iterate 5 ·simp only [EV,Nat.reduceEqDiff,↓reduceIte,he];try rfl
  clear he e
  intro e he
  refine Zav (t := true) he.2.2.2.2 (fun _ => ?_) (fun hf => by cases hf)
  refine Zaz ?_
  refine ZaZ (fun env υ => ∃ (m' : Nat) (done : List (Nat × Nat)), (env 0 = ptr bb 0 /\ env 1 = ptr f0.b 0 /\ env 2 = vI m' /\ env 6 = vI j) /\ m' <= m /\ Zhb f0.b m pcs.reverse = done ++ Zhb f0.b m' (pcs.take j).reverse /\ done.length = pcs.length - j /\ Hd υ 80 2 pv pcs.length (pcC (pcs.take j ++ done.reverse)) /\ But (fun c => hbk pv = some c) σ1 υ) ?_ ?_
  ·refine ZaT ?_
   repeat refine Zac ?_
   first|refine Zaa ?_|refine Zad ?_
   refine Zab (Zae rfl he.1 ?_)
   refine Zab ?_
   refine Zak (v := ptr bb 0) (by simp only [EV,Nat.reduceEqDiff,↓reduceIte,he];try rfl) rfl ?_
   refine Zab ?_
   refine Zag (b := bb) (o := 0) (by simp only [EV,Nat.reduceEqDiff,↓reduceIte,he];try rfl) Zco rfl ?_
   refine Zab ?_
   refine Zar (b := bb) (o := 0 + 0) (r := pv) (by simp only [EV,Nat.reduceEqDiff,↓reduceIte,he];try rfl) hobj Zdi Zcp rfl ?_
   refine Zab (Zae rfl he.2.2.2.1 ?_)
   refine Zab ?_
   refine Zbb (k := .i64) (j := j) (by simp only [EV,Nat.reduceEqDiff,↓reduceIte,he];try rfl) (by simp only [EV,Nat.reduceEqDiff,↓reduceIte,he];try rfl) ZbW Zbu hL hj fun b hb => ?_
   obtain ⟨c, all, hpv, q1, q2, q3, q4, q5, q6⟩ := hL.at_ hb
   have hq2 := hL.len
   have hall : ∀ o < 2, all[j * 2 + o]? = (pcC (pcs.take (j + 1) ++ done.reverse))[j * 2 + o]? := fun o ho => by
    rw [<- q4, List.getElem?_take_of_lt (by omega)]
   have hcj : (pcC (pcs.take (j + 1) ++ done.reverse)).drop (j * 2) = ptr p.1 0 :: .raw (.int .i64 (p.2 : Int)) :: pcC ((pcs.take (j + 1) ++ done.reverse).drop (j + 1)) := by
    rw [ZhA, List.drop_eq_getElem_cons (by omega), hget]
    rfl
   have hc0 : all[j * 2 + 0]? = some (ptr p.1 0) := by
    rw [hall 0 (by omega), <- List.getElem?_drop, hcj]
    rfl
   have hc1 : all[j * 2 + 1]? = some (.raw (.int .i64 (p.2 : Int))) := by
    rw [hall 1 (by omega), <- List.getElem?_drop, hcj]
    rfl
   refine Zab ?_
   refine Zag (b := b) (o := j * 2) (by simp only [EV,Nat.reduceEqDiff,↓reduceIte,he];try rfl) ZdD rfl ?_
   refine Zab ?_
   refine Zar (b := b) (o := j * 2 + 0) (r := ptr p.1 0) (by simp only [EV,Nat.reduceEqDiff,↓reduceIte,he];try rfl) q1 ZgB ZgA hc0 ?_
   refine Zab (Zae rfl he.2.1 ?_)
   obtain ⟨fp, hfp, hfpb⟩ := h1.inn p (by rw [<- hp]; exact List.getElem_mem hj)
   refine ZlB (m := 0) (p := p.1) (q := f0.b) (cp := [fp.v]) (cq := [v']) ZdG ZgE (by simp only [EV,Nat.reduceEqDiff,↓reduceIte,he];try rfl) (by simp only [EV,Nat.reduceEqDiff,↓reduceIte,he];try rfl) (hB.keep _ _ (by rw [<- hfpb]; exact h1.pvF hfp) (by rw [<- hfpb]; exact (h1.file fp hfp).1)) (hB.keep _ _ (h.pvF hf0) hfile0) ?_
   refine Zaf ?_
   apply Zb6 0 1 2 6 46
   iterate 5 ·simp only [EV,Nat.reduceEqDiff,↓reduceIte,he];try rfl
   clear he e
   intro e he
   refine ZaS (t := decide (p.1 = f0.b)) he.2.2.2.2 (fun hpf => ?_) (fun hpf => ?_)
   ·have hpf : p.1 = f0.b := of_decide_eq_true hpf
    rw [if_pos hpf] at hRj
    repeat refine Zac ?_
    first|refine Zaa ?_|refine Zad ?_
    refine Zab (Zae rfl he.2.2.1 ?_)
    refine Zab (Zae rfl he.1 ?_)
    refine Zab ?_
    refine Zak (v := ptr bb 0) rfl rfl ?_
    refine Zab ?_
    refine Zag (b := bb) (o := 0) rfl Zco rfl ?_
    refine Zab ?_
    refine Zar (b := bb) (o := 0 + 0) (r := pv) rfl hobj Zdi Zcp rfl ?_
    refine Zab (Zae rfl he.2.2.2.1 ?_)
    refine Zab ?_
    refine Zbb (k := .i64) (j := j) (by exact rfl) (by exact rfl) ZbW Zbu hL hj fun b' hb' => ?_
    obtain rfl : b = b' := by rw [hb] at hb'; injection hb'
    refine Zab ?_
    refine Zag (b := b) (o := j * 2) rfl ZdD rfl ?_
    refine Zab ?_
    refine Zar (b := b) (o := j * 2 + 1) (r := .raw (.int .i64 (p.2 : Int))) rfl q1 Zck Zcc hc1 ?_
    refine Zab ?_
    refine ZiG m' p.2 rfl rfl ?_
    refine Zab (Zae rfl (by simp only [EV,Nat.reduceEqDiff,↓reduceIte,he];try rfl) ?_)
    refine Zaf ?_
    apply Zb6 0 1 2 6 7
    iterate 5 ·simp only [EV,Nat.reduceEqDiff,↓reduceIte,he];try rfl
    clear he e
    intro e he
    repeat refine Zac ?_
    first|refine Zaa ?_|refine Zad ?_
    refine Zab (Zae rfl he.1 ?_)
    refine Zab ?_
    refine Zak (v := ptr bb 0) rfl rfl ?_
    refine Zab ?_
    refine Zag (b := bb) (o := 0) rfl Zco rfl ?_
    refine Zab ?_
    refine Zar (b := bb) (o := 0 + 0) (r := pv) rfl hobj Zdi Zcp rfl ?_
    refine Zab (Zae rfl he.2.2.2.1 ?_)
    refine Zab ?_
    refine Zbb (k := .i64) (j := j) (by exact rfl) (by exact rfl) ZbW Zbu hL hj fun b' hb' => ?_
    obtain rfl : b = b' := by rw [hb] at hb'; injection hb'
    refine Zab ?_
    refine Zag (b := b) (o := j * 2) rfl ZdD rfl ?_
    refine Zab ?_
    refine Zar (b := b) (o := j * 2 + 1) (r := .raw (.int .i64 (p.2 : Int))) rfl q1 Zck Zcc hc1 ?_
    refine Zab (Zae rfl he.2.2.2.2 ?_)
    refine Zab ?_
    refine ZcZ (p.2 : Int) ((min m' p.2 : Nat) : Int) rfl rfl (by omega) (by omega) ?_
    refine Zab ?_
    refine Zbb (k := .i64) (j := j) (by exact rfl) (by exact rfl) ZbW Zbu hL hj fun b' hb' => ?_
    obtain rfl : b = b' := by rw [hb] at hb'; injection hb'
    refine Zab ?_
    refine Zag (b := b) (o := j * 2) rfl ZdD rfl ?_
    refine Zab ?_
    refine ZeU (b := b) (o := j * 2 + 1) (r := .raw (.int .i64 ((p.2 : Int) - ((min m' p.2 : Nat) : Int)))) rfl rfl Zcc hL hb (by omega) ⟨rfl, rfl, rfl⟩ fun υ2 hL2 hB2 => ?_
    refine Zaf ?_
    apply Zb6 0 1 2 6 7
    iterate 5 ·simp only [EV,Nat.reduceEqDiff,↓reduceIte,he];try rfl
    clear he e
    intro e he
    refine Zad ?_
    refine Zab (Zae rfl he.2.2.1 ?_)
    refine Zab (Zae rfl he.2.2.2.2 ?_)
    refine Zab ?_
    refine ZcZ (m' : Int) ((min m' p.2 : Nat) : Int) rfl rfl (by omega) (by omega) ?_
    refine Zab (Zae rfl (by simp only [EV,Nat.reduceEqDiff,↓reduceIte,he];try rfl) ?_)
    refine Zaf ?_
    have hset : (pcC (pcs.take (j + 1) ++ done.reverse)).set (j * 2 + 1) (.raw (.int .i64 ((p.2 : Int) - ((min m' p.2 : Nat) : Int)))) = pcC (pcs.take j ++ (done ++ [(p.1, p.2 - min m' p.2)]).reverse) := by
     have e1 : pcs.take (j + 1) ++ done.reverse = pcs.take j ++ (p :: done.reverse) := by rw [htk, List.append_assoc]; rfl
     have e2 : (pcC (pcs.take j)).length = j * 2 := by rw [Zjm, List.length_take, Nat.min_eq_left (by omega)]
     rw [e1, List.reverse_append, ZfE, ZfE, List.set_append_right _ _ (by omega), e2, Nat.add_sub_cancel_left]
     show _ = pcC (pcs.take j) ++ (ptr p.1 0 :: .raw (.int .i64 ((p.2 - min m' p.2 : Nat) : Int)) :: pcC done.reverse)
     rw [Int.ofNat_sub (Nat.min_le_right _ _)]
     rfl
    refine ⟨rfl, m' - min m' p.2, done ++ [(p.1, p.2 - min m' p.2)], ⟨by simp only [EV,Nat.reduceEqDiff,↓reduceIte,he];try rfl, by simp only [EV,Nat.reduceEqDiff,↓reduceIte,he];try rfl, ?_, by simp only [EV,Nat.reduceEqDiff,↓reduceIte,he];try rfl⟩, by omega, ?_, by rw [List.length_append, hdl]; simp; omega, hset ▸ hL2, hB.trans hB2⟩
    ·rw [Int.ofNat_sub (Nat.min_le_left _ _)]
     simp only [EV,Nat.reduceEqDiff,↓reduceIte,he];try rfl
    ·rw [hR, hRj, List.append_assoc]
     rfl
   ·have hpf : ¬ p.1 = f0.b := of_decide_eq_false hpf
    rw [if_neg hpf] at hRj
    refine Zbq ?_
    refine ⟨rfl, m', done ++ [p], ⟨by simp only [EV,Nat.reduceEqDiff,↓reduceIte,he];try rfl, by simp only [EV,Nat.reduceEqDiff,↓reduceIte,he];try rfl, by simp only [EV,Nat.reduceEqDiff,↓reduceIte,he];try rfl, by simp only [EV,Nat.reduceEqDiff,↓reduceIte,he];try rfl⟩, hmm, ?_, by rw [List.length_append, hdl]; simp; omega, ?_, hB⟩
    ·rw [hR, hRj, List.append_assoc]
     rfl
    ·have e3 : pcs.take j ++ (done ++ [p]).reverse = pcs.take (j + 1) ++ done.reverse := by
      rw [List.reverse_append, htk, List.append_assoc]
      rfl
     rw [e3]
     exact hL
  ·clear he e hL hB hobj hR hdl hlj hRj hget hmm hm0
   rintro e υ ⟨m'', done', he, g1, g2, g3, g4, g5⟩
   refine Zad ?_
   refine Zab (Zae rfl he.2.2.2 ?_)
   refine Zab ?_
   refine ZcZ (j : Int) 1 rfl rfl (by omega) (by omega) ?_
   refine Zab (Zae rfl (by simp only [EV,Nat.reduceEqDiff,↓reduceIte,he];try rfl) ?_)
   refine Zaf ?_
   show ∃ n', n' < _ /\ _
   exact ⟨_, Nat.lt_succ_self j, j, m'', done', rfl, by omega, ⟨by simp only [EV,Nat.reduceEqDiff,↓reduceIte,he];try rfl, by simp only [EV,Nat.reduceEqDiff,↓reduceIte,he];try rfl, by simp only [EV,Nat.reduceEqDiff,↓reduceIte,he];try rfl, by simp only [EV,Nat.reduceEqDiff,↓reduceIte,he];try rfl⟩, g1, g2, g3, g4, g5⟩
 clear he e
 rintro e υ ⟨he, hL, hB⟩
 have hobj : υ.blk bb = some (.own 65 [pv, Zc2 mb, .raw (.int .i64 size)]) := hB.keep _ _ h1.pvB h1.obj
 refine Zad ?_
 refine Zab (Zae rfl he ?_)
 refine Zab (Zae rfl he ?_)
 refine Zab ?_
 refine Zak (v := ptr bb 0) rfl rfl ?_
 refine Zab ?_
 refine Zag (b := bb) (o := 0) rfl Zco rfl ?_
 refine Zab ?_
 refine Zar (b := bb) (o := 0 + 0) (r := pv) rfl hobj Zdi Zcp rfl ?_
 refine Zab ?_
 refine Zao (vs := [pv, fnV 67 #[]]) (by simp only [List.map_cons, List.map_nil, EV,Nat.reduceEqDiff,↓reduceIte,he];try rfl) ?_
 rw [<- Zjs f0.b m pcs] at hL
 refine ZiF (q := fun p => decide (p.2 = 0)) hL (by rw [Zjs]; exact hl) (fun υ' _ p hp K' hK' => Zjr K' hK') fun τ pv' d1 d2 d3 => ?_
 refine Zab ?_
 refine Zak (v := ptr bb 0) rfl rfl ?_
 refine Zab ?_
 refine Zag (b := bb) (o := 0) rfl Zco rfl ?_
 refine Zab ?_
 refine ZbQ (b := bb) (o := 0 + 0) (v := pv') rfl rfl (d2.keep _ _ h1.pvB hobj) Zcp d1.oneV (Nat.zero_lt_succ _) fun τ2 hb2 k2 => ?_
 refine Zaf ?_
 have hB2 : But (fun c => c = bb \/ hbk pv = some c) σ1 τ2 := ((hB.trans d2).sub fun c hc => .inr hc).trans (k2.sub fun c hc => .inl hc)
 refine ⟨_, Zce rfl, hK τ2 v' pv' ((h1.setP hB2 hb2 (d1.but k2 fun c hc hq => ?_) fun p hp => ?_).mono fun c hc => ?_) (hS1.trans (hB2.sub fun c hc => h1.pvS hc))⟩
 ·rw [hq] at hc
  exact h1.pvB (d3 _ hc)
 ·obtain ⟨p', hp', hpp⟩ := ZpC (List.mem_filter.1 hp).1
  rw [<- hpp]
  exact h1.inn p' hp'
 ·rcases hc with hc | hc
  ·exact hc
  ·exact h1.pvS (.inr (d3 _ hc))
end
end Go.Proofs.Ytinpiaibhjmfaaa
