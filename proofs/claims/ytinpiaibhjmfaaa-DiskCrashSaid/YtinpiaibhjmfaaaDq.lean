/- A disk's pieces: drop, shorten. -/
import Derived.Test.YtinpiaibhjmfaaaDo
namespace Go.Proofs.Ytinpiaibhjmfaaa
open Go.RowKit
set_option maxRecDepth 100000
set_option linter.unusedVariables false
set_option linter.unusedSimpArgs false
theorem Zit : Zax Try.prog (Program.pointee Try.prog 76) = some 1 := by kernel_rfl
section
variable {P : Program} {ops : Array Oper} {env : Env} {σ τ : St} {K : Env -> St -> Prop} {d : Option Nat} {ty t : TypeId} {pos : String} {af : Array Edge} {x y : Operand}
theorem Zdu {b o : Nat} {T : TypeId} {cs : List AV} {v : AV} (hx : ev env x = ptr b o) (hy : ev env y = v) (hb : σ.blk b = some (.own T cs)) (hn : Zax P t = some 1) (hv : v.one = true /\ Zb7 v = true /\ v.cells = [v]) (ho : o < cs.length)
 (h : ∀ τ, τ.blk b = some (.own T (cs.set o v)) -> But (fun c => c = b) σ τ -> K (env.put d (.raw undef)) τ) : aOp P ops ⟨d, .store t x y, ty, pos, af, none⟩ env σ K := by
 refine ZfV (cs' := cs.set o v) hx hy hb hn ?_ ?_ h
 ·rw [hv.2.2]
  simp [hv.1, hv.2.1]
  omega
 ·rw [hv.2.2]
  unfold ZaB
  rw [List.set_eq_take_append_cons_drop, if_pos ho]
  simp
end
theorem Zrd {σ : St} {p : Nat × Nat} {fb b3 : Nat} {c1 c2 : List AV} (hp : σ.blk p.1 = some (.own 78 c1)) (hf : σ.blk fb = some (.own 78 c2)) (hb : σ.blk b3 = some (.own 76 [ptr fb 0])) (K : AV -> St -> Prop) (hK : ∀ τ, Ext σ τ -> K (vT (decide (p.1 = fb))) τ) : Zau Try.prog 66 [pcV p, ptr b3 0] σ K := by
 refine ZaA ZaL Try.func66 rfl rfl rfl (Nat.le_of_ble_eq_true rfl) ?_
 refine ZcW 0 1 (v0 := pcV p) (v1 := ptr b3 0) rfl rfl ?_
 intro e he
 first | refine Zaa ?_ | refine Zad ?_ | (refine Zac ?_; refine Zaa ?_) | (refine Zac ?_; refine Zac ?_; refine Zaa ?_)
 refine Zab ?_
 refine ZfU (cs := [ptr p.1 0, .raw (.int .i64 (p.2 : Int))]) (v := pcV p) (by simp only [EV, Nat.reduceEqDiff, ↓reduceIte, he] <;> try rfl) rfl fun b2 τ hn2 hu2 hb2 hub2 hX2 => ?_
 refine Zab (Zai rfl (by simp only [EV, Nat.reduceEqDiff, ↓reduceIte, he] <;> try rfl) ?_)
 refine Zah ?_
 apply ZcW 1 2
 ·simp only [EV, Nat.reduceEqDiff, ↓reduceIte, he] <;> try rfl
 ·simp only [EV, Nat.reduceEqDiff, ↓reduceIte, he] <;> try rfl
 clear he e
 intro e he
 first | refine Zaa ?_ | refine Zad ?_ | (refine Zac ?_; refine Zaa ?_) | (refine Zac ?_; refine Zac ?_; refine Zaa ?_)
 refine Zab ?_
 refine Zae (b := b2) (o := 0) (by simp only [EV, Nat.reduceEqDiff, ↓reduceIte, he] <;> try rfl) ZdJ rfl ?_
 refine Zab ?_
 refine Zar (b := b2) (o := 0 + 0) (r := ptr p.1 0) (by simp only [EV, Nat.reduceEqDiff, ↓reduceIte, he] <;> try rfl) hb2 Zip Zio rfl ?_
 refine Zab ?_
 refine Zar (b := b3) (o := 0) (r := ptr fb 0) (by simp only [EV, Nat.reduceEqDiff, ↓reduceIte, he] <;> try rfl) (hX2.keep _ _ hb) Zip Zio rfl ?_
 refine ZpD (m := 0) (p := p.1) (q := fb) ZdL Zit (by simp only [EV, Nat.reduceEqDiff, ↓reduceIte, he] <;> try rfl) (by simp only [EV, Nat.reduceEqDiff, ↓reduceIte, he] <;> try rfl) (hX2.keep _ _ hp) (hX2.keep _ _ hf) ?_
 refine Zab (Zai rfl (by simp only [EV, Nat.reduceEqDiff, ↓reduceIte, he] <;> try rfl) ?_)
 refine Zah ?_
 refine ZaW ?_
 show ∃ r, Zan _ _ _ _ r /\ _
 exact ⟨_, ZaD rfl (by simp only [EV, Nat.reduceEqDiff, ↓reduceIte, he] <;> try rfl), hK τ hX2⟩
theorem Zmd {σ : St} {p : Nat × Nat} (K : AV -> St -> Prop) (hK : ∀ τ, Ext σ τ -> K (vT (decide (p.2 = 0))) τ) : Zau Try.prog 67 [pcV p] σ K := by
 refine ZaA ZaL Try.func67 rfl rfl rfl (Nat.le_of_ble_eq_true rfl) ?_
 refine ZdU 0 (v0 := pcV p) rfl ?_
 intro e he
 first | refine Zaa ?_ | refine Zad ?_ | (refine Zac ?_; refine Zaa ?_) | (refine Zac ?_; refine Zac ?_; refine Zaa ?_)
 refine Zab ?_
 refine ZfU (cs := [ptr p.1 0, .raw (.int .i64 (p.2 : Int))]) (v := pcV p) (by simp only [EV, Nat.reduceEqDiff, ↓reduceIte, he] <;> try rfl) rfl fun b2 τ hn2 hu2 hb2 hub2 hX2 => ?_
 refine Zab (Zai rfl (by simp only [EV, Nat.reduceEqDiff, ↓reduceIte, he] <;> try rfl) ?_)
 refine Zah ?_
 apply ZdU 1
 ·simp only [EV, Nat.reduceEqDiff, ↓reduceIte, he] <;> try rfl
 clear he e
 intro e he
 first | refine Zaa ?_ | refine Zad ?_ | (refine Zac ?_; refine Zaa ?_) | (refine Zac ?_; refine Zac ?_; refine Zaa ?_)
 refine Zab ?_
 refine Zae (b := b2) (o := 0) (by simp only [EV, Nat.reduceEqDiff, ↓reduceIte, he] <;> try rfl) ZdJ rfl ?_
 refine Zab ?_
 refine Zar (b := b2) (o := 0 + 1) (r := .raw (.int .i64 (p.2 : Int))) (by simp only [EV, Nat.reduceEqDiff, ↓reduceIte, he] <;> try rfl) hb2 Zek Zd5 rfl ?_
 refine Zab ?_
 refine ZeM (k := .i64) (a := (p.2 : Int)) (b := 0) (by simp only [EV, Nat.reduceEqDiff, ↓reduceIte, he] <;> try rfl) (by simp only [EV, Nat.reduceEqDiff, ↓reduceIte, he] <;> try rfl) ?_
 rw [show decide ((p.2 : Int) = 0) = decide (p.2 = 0) by congr 1; exact propext (by omega)]
 refine Zab (Zai rfl (by simp only [EV, Nat.reduceEqDiff, ↓reduceIte, he] <;> try rfl) ?_)
 refine Zah ?_
 refine ZaW ?_
 show ∃ r, Zan _ _ _ _ r /\ _
 exact ⟨_, ZaD rfl (by simp only [EV, Nat.reduceEqDiff, ↓reduceIte, he] <;> try rfl), hK τ hX2⟩
def Zkt (fb : Nat) : Nat -> List (Nat × Nat) -> List (Nat × Nat)
 | _, [] => []
 | m, p :: l => if p.1 = fb then (p.1, p.2 - min m p.2) :: Zkt fb (m - min m p.2) l else p :: Zkt fb m l
theorem Ziu (fb : Nat) : ∀ l, Zkt fb 0 l = l
 | [] => rfl
 | p :: l => by
  unfold Zkt
  rw [Nat.zero_min, Nat.zero_sub, Nat.sub_zero, Ziu fb l]
  split <;> rfl
def shr (fb m : Nat) (pcs : List (Nat × Nat)) : List (Nat × Nat) := (Zkt fb m pcs.reverse).reverse
theorem Zj8 (fb : Nat) : ∀ m l, (Zkt fb m l).map (·.1) = l.map (·.1)
 | _, [] => rfl
 | m, p :: l => by
  unfold Zkt
  split
  ·rw [List.map_cons, List.map_cons, Zj8]
  ·rw [List.map_cons, List.map_cons, Zj8]
theorem ZpQ (fb m : Nat) (l : List (Nat × Nat)) : (shr fb m l).map (·.1) = l.map (·.1) := by
 unfold shr
 rw [List.map_reverse, Zj8, List.map_reverse, List.reverse_reverse]
theorem Zme (fb m : Nat) (l : List (Nat × Nat)) : (shr fb m l).length = l.length := by
 have := congrArg List.length (ZpQ fb m l)
 rwa [List.length_map, List.length_map] at this
theorem ZtT {fb m : Nat} {l : List (Nat × Nat)} {p : Nat × Nat} (h : p ∈ shr fb m l) : ∃ p' ∈ l, p'.1 = p.1 := by
 have h1 : p.1 ∈ (shr fb m l).map (·.1) := List.mem_map.2 ⟨p, h, rfl⟩
 rw [ZpQ] at h1
 exact List.mem_map.1 h1
section
variable {P : Program} {ops : Array Oper} {env : Env} {σ τ : St} {K : Env -> St -> Prop} {d : Option Nat} {ty ty' t : TypeId} {pos : String} {af : Array Edge} {x y : Operand}
theorem ZfQ (a b : Int) (hx : ev env x = .raw (.int .i64 a)) (hy : ev env y = .raw (.int .i64 b)) (h1 : -4611686018427387904 < a - b) (h2 : a - b < 4611686018427387904) (h : K (env.put d (.raw (.int .i64 (a - b)))) σ) : aOp P ops ⟨d, .binOp .sub t x y ty', ty, pos, af, none⟩ env σ K :=
 Zti hx hy (by rw [IntWalk.i64_in _ (by omega)]) h
theorem ZpR {u v : Operand} {ts : Array TypeId} (a b : Nat) (hx : ev env u = vI a) (hy : ev env v = vI b) (h : K (env.put d (vI ((min a b : Nat) : Int))) σ) : aOp P ops ⟨d, .call ⟨.builtin .min, #[u, v], ts⟩, ty, pos, af, none⟩ env σ K := by
 refine Zuo hx hy ?_
 have e : (if (b : Int) < (a : Int) then (b : Int) else (a : Int)) = ((min a b : Nat) : Int) := by split <;> omega
 rw [e]
 exact h
end
section
variable {σ : St} {bb mb : Nat} {S : Nat -> Prop} {fs : List Fl} {pcs : List (Nat × Nat)} {size : Int} {pv : AV} {K : AV -> St -> Prop}
theorem DAt.pvS (h : DAt σ bb S fs pcs size mb pv) {c : Nat} (hc : c = bb \/ hbk pv = some c) : S c := by
 rcases hc with rfl | hc
 ·exact h.own.1
 ·exact h.own.2.2.2 _ hc
theorem DAt.pvF (h : DAt σ bb S fs pcs size mb pv) {f : Fl} (hf : f ∈ fs) : ¬ hbk pv = some f.b := fun hq => by
 obtain ⟨all, hall⟩ := h.pc.blk hq
 exact ZcQ hall (h.file f hf).1 (by decide) rfl
theorem DAt.pvB (h : DAt σ bb S fs pcs size mb pv) : ¬ hbk pv = some bb := fun hq => by
 obtain ⟨all, hall⟩ := h.pc.blk hq
 exact ZcQ hall h.obj (by decide) rfl
theorem ZpS (h : DAt σ bb S fs pcs size mb pv) (hl : pcs.length <= 1000000000) {f0 : Fl} (hf0 : f0 ∈ fs) (hK : ∀ τ pv', DAt τ bb S fs (pcs.filter fun p => !decide (p.1 = f0.b)) size mb pv' -> But S σ τ -> K (.tup []) τ) : Zau Try.prog 40 [ptr bb 0, ptr f0.b 0] σ K := by
 refine ZaA ZaL Try.func40 rfl rfl rfl (Nat.le_of_ble_eq_true rfl) ?_
 refine ZcW 0 1 (v0 := ptr bb 0) (v1 := ptr f0.b 0) rfl rfl ?_
 intro e he
 first | refine Zaa ?_ | refine Zad ?_ | (refine Zac ?_; refine Zaa ?_) | (refine Zac ?_; refine Zac ?_; refine Zaa ?_)
 refine Zab ?_
 refine ZfU (cs := [ptr f0.b 0]) (v := ptr f0.b 0) (by simp only [EV, Nat.reduceEqDiff, ↓reduceIte, he] <;> try rfl) rfl fun b3 σ3 hn3 hu3 hb3 hub3 hX3 => ?_
 refine Zah ?_
 apply ZcW 0 3
 ·simp only [EV, Nat.reduceEqDiff, ↓reduceIte, he] <;> try rfl
 ·simp only [EV, Nat.reduceEqDiff, ↓reduceIte, he] <;> try rfl
 clear he e
 intro e he
 have h3 := h.ext hX3
 first | refine Zaa ?_ | refine Zad ?_ | (refine Zac ?_; refine Zaa ?_) | (refine Zac ?_; refine Zac ?_; refine Zaa ?_)
 refine Zab (Zai rfl (by simp only [EV, Nat.reduceEqDiff, ↓reduceIte, he] <;> try rfl) ?_)
 refine Zab (Zai rfl (by simp only [EV, Nat.reduceEqDiff, ↓reduceIte, he] <;> try rfl) ?_)
 refine Zab ?_
 refine Zam (v := ptr bb 0) (by simp only [EV, Nat.reduceEqDiff, ↓reduceIte, he] <;> try rfl) rfl ?_
 refine Zab ?_
 refine Zae (b := bb) (o := 0) (by simp only [EV, Nat.reduceEqDiff, ↓reduceIte, he] <;> try rfl) Zca rfl ?_
 refine Zab ?_
 refine Zar (b := bb) (o := 0) (r := pv) (by simp only [EV, Nat.reduceEqDiff, ↓reduceIte, he] <;> try rfl) h3.obj Zdf Zcb rfl ?_
 refine Zab ?_
 refine ZgE (vs := [ptr b3 0]) (by simp only [List.map_cons, List.map_nil, EV, Nat.reduceEqDiff, ↓reduceIte, he] <;> try rfl) ?_
 refine Zab ?_
 refine Zas (vs := [pv, fnV 66 #[.pointer (some ⟨b3, 0, none⟩)]]) (by simp only [List.map_cons, List.map_nil, EV, Nat.reduceEqDiff, ↓reduceIte, he] <;> try rfl) ?_
 refine Zlh (q := fun p => decide (p.1 = f0.b)) h3.pc hl (fun υ hB p hp K' hK' => ?_) fun τ pv' d1 d2 d3 => ?_
 ·obtain ⟨f, hf, hfp⟩ := h3.inn p hp
  refine Zrd (c1 := [f.v]) (c2 := [f0.v]) (hB.keep _ _ (by rw [<- hfp]; exact h3.pvF hf) (by rw [<- hfp]; exact (h3.file f hf).1)) (hB.keep _ _ (h3.pvF hf0) (h3.file f0 hf0).1) (hB.keep _ _ (fun hq => ?_) hb3) K' hK'
  obtain ⟨all, hall⟩ := h3.pc.blk hq
  exact ZcQ hall hb3 (by decide) rfl
 refine Zab ?_
 refine Zam (v := ptr bb 0) (by simp only [EV, Nat.reduceEqDiff, ↓reduceIte, he] <;> try rfl) rfl ?_
 refine Zab ?_
 refine Zae (b := bb) (o := 0) (by simp only [EV, Nat.reduceEqDiff, ↓reduceIte, he] <;> try rfl) Zca rfl ?_
 refine Zab ?_
 refine Zdu (b := bb) (o := 0) (v := pv') (by simp only [EV, Nat.reduceEqDiff, ↓reduceIte, he] <;> try rfl) (by simp only [EV, Nat.reduceEqDiff, ↓reduceIte, he] <;> try rfl) (d2.keep _ _ h3.pvB h3.obj) Zcb d1.oneV (Nat.zero_lt_succ _) fun τ2 hb2 k2 => ?_
 refine Zah ?_
 have hB2 : But (fun c => c = bb \/ hbk pv = some c) σ3 τ2 := (d2.sub fun c hc => .inr hc).trans (k2.sub fun c hc => .inl hc)
 refine ⟨_, Zdo rfl, hK τ2 pv' ((h3.setP hB2 hb2 (d1.but k2 fun c hc hq => ?_) fun p hp => ?_).mono fun c hc => ?_) (hX3.but.trans (hB2.sub fun c hc => h3.pvS hc))⟩
 ·rw [hq] at hc
  exact h3.pvB (d3 _ hc)
 ·exact h3.inn p (List.mem_filter.1 hp).1
 ·rcases hc with hc | hc
  ·exact hc
  ·exact h3.pvS (.inr (d3 _ hc))
set_option maxHeartbeats 2000000 in
theorem Zjj (h : DAt σ bb S fs pcs size mb pv) (hl : pcs.length <= 1000000000) (hs : ∀ p ∈ pcs, p.2 <= 1000000000) {f0 : Fl} (hf0 : f0 ∈ fs) {m : Nat} (hm : m <= f0.d.length) (hd : f0.d.length <= 1000000000)
 (hK : ∀ τ v' pv', DAt τ bb S (fs.map (Zcd f0.b v' (f0.d.take (f0.d.length - m)))) ((shr f0.b m pcs).filter fun p => !decide (p.2 = 0)) size mb pv' -> But S σ τ -> K (.tup []) τ) : Zau Try.prog 43 [ptr bb 0, ptr f0.b 0, vI m] σ K := by
 obtain ⟨p1, p2, p3⟩ := h.file f0 hf0
 refine ZaA ZaL Try.func43 rfl rfl rfl (Nat.le_of_ble_eq_true rfl) ?_
 refine ZcX 0 1 2 (v0 := ptr bb 0) (v1 := ptr f0.b 0) (v2 := vI m) rfl rfl rfl ?_
 intro e he
 refine ZgU ?_
 refine ⟨[0, 1, 2, 3, 5, 6, 7, 10, 4, 8, 9, 11, 12, 13, 14, 15], [[], [], [1], [1, 2], [1, 2, 3], [], [5], [5, 6], [5, 6, 7], [5, 6, 7, 8], [], [5, 6, 7, 8, 9, 10], [1, 2, 3, 4, 5, 6, 7, 8, 9, 10, 11], [0, 1, 2, 3, 4, 5, 6, 7, 8, 9, 10, 11, 12], [0, 1, 2, 3, 4, 5, 6, 7, 8, 9, 10, 11, 12, 13], [0, 1, 2, 3, 4, 5, 6, 7, 8, 9, 10, 11, 12, 13, 14]], fun _ => True, [], [], [], by kernel_rfl, ?_⟩
 apply Zao
 case hi => simp only [HIX]; try rfl
 case hw => rfl
 case how => rfl
 refine Zai rfl (by simp only [EV, Nat.reduceEqDiff, ↓reduceIte, he] <;> try rfl) ?_
 refine ZaY ?_
 apply Zao
 case hi => simp only [HIX]; try rfl
 case hw => rfl
 case how => rfl
 refine Zai rfl (by simp only [EV, Nat.reduceEqDiff, ↓reduceIte, he] <;> try rfl) ?_
 refine ZaY ?_
 apply Zao
 case hi => simp only [HIX]; try rfl
 case hw => rfl
 case how => rfl
 refine Zam (v := ptr f0.b 0) (by simp only [EV, Nat.reduceEqDiff, ↓reduceIte, he] <;> try rfl) rfl ?_
 refine ZaY ?_
 apply Zao
 case hi => simp only [HIX]; try rfl
 case hw => rfl
 case how => rfl
 refine Zae (b := f0.b) (o := 0) (by simp only [EV, Nat.reduceEqDiff, ↓reduceIte, he] <;> try rfl) ZeD rfl ?_
 refine ZaY ?_
 apply Zao
 case hi => simp only [HIX]; try rfl
 case hw => rfl
 case how => rfl
 refine Zai rfl (by simp only [EV, Nat.reduceEqDiff, ↓reduceIte, he] <;> try rfl) ?_
 refine ZaY ?_
 apply Zao
 case hi => simp only [HIX]; try rfl
 case hw => rfl
 case how => rfl
 refine Zam (v := ptr f0.b 0) (by simp only [EV, Nat.reduceEqDiff, ↓reduceIte, he] <;> try rfl) rfl ?_
 refine ZaY ?_
 apply Zao
 case hi => simp only [HIX]; try rfl
 case hw => rfl
 case how => rfl
 refine Zae (b := f0.b) (o := 0) (by simp only [EV, Nat.reduceEqDiff, ↓reduceIte, he] <;> try rfl) ZeD rfl ?_
 refine ZaY ?_
 apply Zao
 case hi => simp only [HIX]; try rfl
 case hw => rfl
 case how => rfl
 refine Zai rfl (by simp only [EV, Nat.reduceEqDiff, ↓reduceIte, he] <;> try rfl) ?_
 refine ZaY ?_
 apply Zao
 case hi => simp only [HIX]; try rfl
 case hw => rfl
 case how => rfl
 refine Zar (b := f0.b) (o := 0 + 0) (r := f0.v) (by simp only [EV, Nat.reduceEqDiff, ↓reduceIte, he] <;> try rfl) p1 Zf4 ZcZ rfl ?_
 refine ZaY ?_
 apply Zao
 case hi => simp only [HIX]; try rfl
 case hw => rfl
 case how => rfl
 refine Zar (b := f0.b) (o := 0 + 0) (r := f0.v) (by simp only [EV, Nat.reduceEqDiff, ↓reduceIte, he] <;> try rfl) p1 Zf4 ZcZ rfl ?_
 refine ZaY ?_
 apply Zao
 case hi => simp only [HIX]; try rfl
 case hw => rfl
 case how => rfl
 refine ZcT (by simp only [EV, Nat.reduceEqDiff, ↓reduceIte, he] <;> try rfl) p3 rfl Zb3 ?_
 refine ZaY ?_
 apply Zao
 case hi => simp only [HIX]; try rfl
 case hw => rfl
 case how => rfl
 refine ZfQ (f0.d.length : Int) (m : Int) (by simp only [EV, Nat.reduceEqDiff, ↓reduceIte, he] <;> try rfl) (by simp only [EV, Nat.reduceEqDiff, ↓reduceIte, he] <;> try rfl) (by omega) (by omega) ?_
 refine ZaY ?_
 apply Zao
 case hi => simp only [HIX]; try rfl
 case hw => rfl
 case how => rfl
 refine Zrc (u := f0.d.length - m) (v := f0.v) (by simp only [EV, Nat.reduceEqDiff, ↓reduceIte, he] <;> try rfl) (Eq.trans (by simp only [EV, Nat.reduceEqDiff, ↓reduceIte, he] <;> try rfl) (by rw [Int.ofNat_sub hm]; rfl)) Zb3 Zhp p3 (Nat.sub_le _ _) fun v' hv' hbv => ?_
 refine ZaY ?_
 apply Zao
 case hi => simp only [HIX]; try rfl
 case hw => rfl
 case how => rfl
 refine Zam (v := ptr f0.b 0) (by simp only [EV, Nat.reduceEqDiff, ↓reduceIte, he] <;> try rfl) rfl ?_
 refine ZaY ?_
 apply Zao
 case hi => simp only [HIX]; try rfl
 case hw => rfl
 case how => rfl
 refine Zae (b := f0.b) (o := 0) (by simp only [EV, Nat.reduceEqDiff, ↓reduceIte, he] <;> try rfl) ZeD rfl ?_
 refine ZaY ?_
 apply Zao
 case hi => simp only [HIX]; try rfl
 case hw => rfl
 case how => rfl
 refine Zdu (b := f0.b) (o := 0 + 0) (v := v') (by simp only [EV, Nat.reduceEqDiff, ↓reduceIte, he] <;> try rfl) (by simp only [EV, Nat.reduceEqDiff, ↓reduceIte, he] <;> try rfl) p1 ZcZ hv'.oneV (Nat.zero_lt_succ _) fun σ1 hb1 k1 => ?_
 refine ⟨(fun hf => by cases hf), ?_⟩
 refine Zfa ?_
 have hlen : (f0.d.take (f0.d.length - m)).length = f0.d.length - m := by rw [List.length_take]; omega
 have hv1 : Hd σ1 5 1 v' (f0.d.take (f0.d.length - m)).length (bys (f0.d.take (f0.d.length - m))) := by
  rw [hlen]
  have : bys (f0.d.take (f0.d.length - m)) = (bys f0.d).take ((f0.d.length - m) * 1) := by
   unfold bys
   rw [Nat.mul_one, List.map_take]
  rw [this]
  refine hv'.but k1 fun c hc hq => ?_
  obtain ⟨all, hall⟩ := p3.blk (hbv c hc)
  exact ZcQ hall p1 (by decide) hq
 have h1 : DAt σ1 bb S (fs.map (Zcd f0.b v' (f0.d.take (f0.d.length - m)))) pcs size mb pv := (h.setF hf0 (k1.sub fun c hc => .inl hc) hb1 hv1 fun c hc => .inl (hbv c hc)).mono fun c hc => by
  rcases hc with hc | hc
  ·exact hc
  ·exact (h.own.2.2.1 f0 hf0).2 c (hbv c hc)
 have hfile0 : σ1.blk f0.b = some (.own 78 [v']) := hb1
 have hS1 : But S σ σ1 := k1.sub fun c hc => by rw [hc]; exact (h.own.2.2.1 f0 hf0).1
 clear hv1 k1 hb1 hv' hlen
 apply ZcX 0 1 2
 ·simp only [EV, Nat.reduceEqDiff, ↓reduceIte, he] <;> try rfl
 ·simp only [EV, Nat.reduceEqDiff, ↓reduceIte, he] <;> try rfl
 ·simp only [EV, Nat.reduceEqDiff, ↓reduceIte, he] <;> try rfl
 clear he e
 intro e he
 refine Zcq (fun env υ => env 0 = ptr bb 0 /\ Hd υ 80 2 pv pcs.length (pcC (shr f0.b m pcs)) /\ But (fun c => hbk pv = some c) σ1 υ) ?_ ?_
 ·first | refine Zaa ?_ | refine Zad ?_ | (refine Zac ?_; refine Zaa ?_) | (refine Zac ?_; refine Zac ?_; refine Zaa ?_)
  refine Zab (Zai rfl (by simp only [EV, Nat.reduceEqDiff, ↓reduceIte, he] <;> try rfl) ?_)
  refine Zab ?_
  refine Zam (v := ptr bb 0) (by simp only [EV, Nat.reduceEqDiff, ↓reduceIte, he] <;> try rfl) rfl ?_
  refine Zab ?_
  refine Zae (b := bb) (o := 0) (by simp only [EV, Nat.reduceEqDiff, ↓reduceIte, he] <;> try rfl) Zca rfl ?_
  refine Zab ?_
  refine Zar (b := bb) (o := 0 + 0) (r := pv) (by simp only [EV, Nat.reduceEqDiff, ↓reduceIte, he] <;> try rfl) h1.obj Zdf Zcb rfl ?_
  refine Zab ?_
  refine ZcT (by simp only [EV, Nat.reduceEqDiff, ↓reduceIte, he] <;> try rfl) h1.pc rfl Zbt ?_
  refine Zab ?_
  refine ZfQ (pcs.length : Int) 1 (by simp only [EV, Nat.reduceEqDiff, ↓reduceIte, he] <;> try rfl) (by simp only [EV, Nat.reduceEqDiff, ↓reduceIte, he] <;> try rfl) (by omega) (by omega) ?_
  refine Zab (Zai rfl (by simp only [EV, Nat.reduceEqDiff, ↓reduceIte, he] <;> try rfl) ?_)
  refine Zah ?_
  apply Zcm 0 1 2 6
  ·simp only [EV, Nat.reduceEqDiff, ↓reduceIte, he] <;> try rfl
  ·simp only [EV, Nat.reduceEqDiff, ↓reduceIte, he] <;> try rfl
  ·simp only [EV, Nat.reduceEqDiff, ↓reduceIte, he] <;> try rfl
  ·simp only [EV, Nat.reduceEqDiff, ↓reduceIte, he] <;> try rfl
  clear he e
  intro e he
  refine ZbB ?_
  refine ZcV (fun μ env υ => ∃ (t m' : Nat) (done : List (Nat × Nat)), μ = t /\ t <= pcs.length /\ (env 0 = ptr bb 0 /\ env 1 = ptr f0.b 0 /\ env 2 = vI m' /\ env 6 = .raw (.int .i64 ((t : Int) - 1))) /\ m' <= m /\ Zkt f0.b m pcs.reverse = done ++ Zkt f0.b m' (pcs.take t).reverse /\ done.length = pcs.length - t /\ Hd υ 80 2 pv pcs.length (pcC (pcs.take t ++ done.reverse)) /\ But (fun c => hbk pv = some c) σ1 υ) ⟨_, pcs.length, m, [], rfl, Nat.le_refl _, he, Nat.le_refl _, by rw [List.take_length]; rfl, by simp, by rw [List.take_length, List.reverse_nil, List.append_nil]; exact h1.pc, .refl _ _⟩ ?_
  clear he e
  rintro t e υ ⟨_, m', done, rfl, ht, he, hmm, hR, hdl, hL, hB⟩
  have hobj : υ.blk bb = some (.own 65 [pv, Zbv mb, .raw (.int .i64 size)]) := hB.keep _ _ h1.pvB h1.obj
  have hend : ∀ (he0 : e 0 = ptr bb 0), t = 0 \/ m' = 0 -> (e 0 = ptr bb 0 /\ Hd υ 80 2 pv pcs.length (pcC (shr f0.b m pcs)) /\ But (fun c => hbk pv = some c) σ1 υ) := fun he0 hor => by
   have : shr f0.b m pcs = pcs.take t ++ done.reverse := by
    unfold shr
    rw [hR, List.reverse_append]
    rcases hor with rfl | rfl
    ·rfl
    ·rw [Ziu, List.reverse_reverse]
   rw [this]
   exact ⟨he0, hL, hB⟩
  rcases Nat.eq_zero_or_pos t with ht0 | ht0
  ·first | refine Zaa ?_ | refine Zad ?_ | (refine Zac ?_; refine Zaa ?_) | (refine Zac ?_; refine Zac ?_; refine Zaa ?_)
   refine Zab (Zai rfl (by simp only [EV, Nat.reduceEqDiff, ↓reduceIte, he] <;> try rfl) ?_)
   refine Zab ?_
   refine Zr2 (k := .i64) (a := (t : Int) - 1) (b := 0) (by simp only [EV, Nat.reduceEqDiff, ↓reduceIte, he] <;> try rfl) (by simp only [EV, Nat.reduceEqDiff, ↓reduceIte, he] <;> try rfl) ?_
   rw [decide_eq_false (by omega : ¬ (0 : Int) <= (t : Int) - 1)]
   refine Zab (Zai rfl (by simp only [EV, Nat.reduceEqDiff, ↓reduceIte, he] <;> try rfl) ?_)
   refine Zab (ZcU (ZbV rfl (by simp only [EV, Nat.reduceEqDiff, ↓reduceIte, he] <;> try rfl)) ?_)
   refine Zab (ZcU (ZbV rfl (by simp only [EV, Nat.reduceEqDiff, ↓reduceIte, he] <;> try rfl)) ?_)
   refine Zab ?_
   refine Zb4 (v := vT false) (by simp only [EV, Nat.reduceEqDiff, ↓reduceIte, he] <;> try rfl) (by simp only [EV, Nat.reduceEqDiff, ↓reduceIte, he] <;> try rfl) ?_
   refine Zah ?_
   refine ZaX (t := false) (by simp only [EV, Nat.reduceEqDiff, ↓reduceIte, he] <;> try rfl) (fun hf => by cases hf) (fun _ => ?_)
   refine ZdZ ?_
   exact ⟨rfl, by simp only [EV, Nat.reduceEqDiff, ↓reduceIte, he] <;> try rfl, (hend (by simp only [EV, Nat.reduceEqDiff, ↓reduceIte, he] <;> try rfl) (.inl ht0)).2⟩
  rcases Nat.eq_zero_or_pos m' with hm0 | hm0
  ·first | refine Zaa ?_ | refine Zad ?_ | (refine Zac ?_; refine Zaa ?_) | (refine Zac ?_; refine Zac ?_; refine Zaa ?_)
   refine Zab (Zai rfl (by simp only [EV, Nat.reduceEqDiff, ↓reduceIte, he] <;> try rfl) ?_)
   refine Zab ?_
   refine Zr2 (k := .i64) (a := (t : Int) - 1) (b := 0) (by simp only [EV, Nat.reduceEqDiff, ↓reduceIte, he] <;> try rfl) (by simp only [EV, Nat.reduceEqDiff, ↓reduceIte, he] <;> try rfl) ?_
   rw [decide_eq_true (by omega : (0 : Int) <= (t : Int) - 1)]
   refine Zab (Zai rfl (by simp only [EV, Nat.reduceEqDiff, ↓reduceIte, he] <;> try rfl) ?_)
   refine Zab (Zag (ZbV rfl (by simp only [EV, Nat.reduceEqDiff, ↓reduceIte, he] <;> try rfl)) ?_)
   refine Zai rfl (by simp only [EV, Nat.reduceEqDiff, ↓reduceIte, he] <;> try rfl) ?_
   refine Zab (Zag (ZbV rfl (by simp only [EV, Nat.reduceEqDiff, ↓reduceIte, he] <;> try rfl)) ?_)
   refine ZlG (k := .i64) (a := (m' : Int)) (b := 0) (by simp only [EV, Nat.reduceEqDiff, ↓reduceIte, he] <;> try rfl) (by simp only [EV, Nat.reduceEqDiff, ↓reduceIte, he] <;> try rfl) ?_
   rw [decide_eq_false (by omega : ¬ (0 : Int) < (m' : Int))]
   refine Zab ?_
   refine ZbP (v := vT false) (by simp only [EV, Nat.reduceEqDiff, ↓reduceIte, he] <;> try rfl) (by simp only [EV, Nat.reduceEqDiff, ↓reduceIte, he] <;> try rfl) ?_
   refine Zah ?_
   refine ZaX (t := false) (by simp only [EV, Nat.reduceEqDiff, ↓reduceIte, he] <;> try rfl) (fun hf => by cases hf) (fun _ => ?_)
   refine ZdZ ?_
   exact ⟨rfl, by simp only [EV, Nat.reduceEqDiff, ↓reduceIte, he] <;> try rfl, (hend (by simp only [EV, Nat.reduceEqDiff, ↓reduceIte, he] <;> try rfl) (.inr hm0)).2⟩
  clear hend
  obtain ⟨j, rfl⟩ : ∃ j, t = j + 1 := ⟨t - 1, by omega⟩
  have hj : j < pcs.length := by omega
  have htk : pcs.take (j + 1) = pcs.take j ++ [pcs[j]] := List.take_succ_eq_append_getElem hj
  have hpj := hs _ (List.getElem_mem hj)
  generalize hp : pcs[j] = p at htk hpj
  have hlj : (pcs.take (j + 1) ++ done.reverse).length = pcs.length := by
   rw [List.length_append, List.length_take, List.length_reverse, hdl]; omega
  have hRj : Zkt f0.b m' (pcs.take (j + 1)).reverse = (if p.1 = f0.b then (p.1, p.2 - min m' p.2) :: Zkt f0.b (m' - min m' p.2) (pcs.take j).reverse else p :: Zkt f0.b m' (pcs.take j).reverse) := by
   rw [htk, List.reverse_append]
   rfl
  have hget : (pcs.take (j + 1) ++ done.reverse)[j]'(by omega) = p := by
   rw [List.getElem_append_left (by rw [List.length_take]; omega), List.getElem_take]
   exact hp
  have hj1 : ((j : Int) + 1 - 1) = (j : Int) := by omega
  rw [show (((j + 1 : Nat) : Int) - 1) = (j : Int) by omega] at he
  first | refine Zaa ?_ | refine Zad ?_ | (refine Zac ?_; refine Zaa ?_) | (refine Zac ?_; refine Zac ?_; refine Zaa ?_)
  refine Zab (Zai rfl (by simp only [EV, Nat.reduceEqDiff, ↓reduceIte, he] <;> try rfl) ?_)
  refine Zab ?_
  refine Zr2 (k := .i64) (a := (j : Int)) (b := 0) (by simp only [EV, Nat.reduceEqDiff, ↓reduceIte, he] <;> try rfl) (by simp only [EV, Nat.reduceEqDiff, ↓reduceIte, he] <;> try rfl) ?_
  rw [decide_eq_true (by omega : (0 : Int) <= (j : Int))]
  refine Zab (Zai rfl (by simp only [EV, Nat.reduceEqDiff, ↓reduceIte, he] <;> try rfl) ?_)
  refine Zab (Zag (ZbV rfl (by simp only [EV, Nat.reduceEqDiff, ↓reduceIte, he] <;> try rfl)) ?_)
  refine Zai rfl (by simp only [EV, Nat.reduceEqDiff, ↓reduceIte, he] <;> try rfl) ?_
  refine Zab (Zag (ZbV rfl (by simp only [EV, Nat.reduceEqDiff, ↓reduceIte, he] <;> try rfl)) ?_)
  refine ZlG (k := .i64) (a := (m' : Int)) (b := 0) (by simp only [EV, Nat.reduceEqDiff, ↓reduceIte, he] <;> try rfl) (by simp only [EV, Nat.reduceEqDiff, ↓reduceIte, he] <;> try rfl) ?_
  rw [decide_eq_true (by omega : (0 : Int) < (m' : Int))]
  refine Zab ?_
  refine ZbP (v := vT true) (by simp only [EV, Nat.reduceEqDiff, ↓reduceIte, he] <;> try rfl) (by simp only [EV, Nat.reduceEqDiff, ↓reduceIte, he] <;> try rfl) ?_
  refine Zah ?_
  apply ZcI 0 1 2 6 34
  ·simp only [EV, Nat.reduceEqDiff, ↓reduceIte, he] <;> try rfl
  ·simp only [EV, Nat.reduceEqDiff, ↓reduceIte, he] <;> try rfl
  ·simp only [EV, Nat.reduceEqDiff, ↓reduceIte, he] <;> try rfl
  ·simp only [EV, Nat.reduceEqDiff, ↓reduceIte, he] <;> try rfl
  ·simp only [EV, Nat.reduceEqDiff, ↓reduceIte, he] <;> try rfl
  clear he e
  intro e he
  refine ZaX (t := true) (by simp only [EV, Nat.reduceEqDiff, ↓reduceIte, he] <;> try rfl) (fun _ => ?_) (fun hf => by cases hf)
  refine Zbb ?_
  refine Zcq (fun env υ => ∃ (m' : Nat) (done : List (Nat × Nat)), (env 0 = ptr bb 0 /\ env 1 = ptr f0.b 0 /\ env 2 = vI m' /\ env 6 = vI j) /\ m' <= m /\ Zkt f0.b m pcs.reverse = done ++ Zkt f0.b m' (pcs.take j).reverse /\ done.length = pcs.length - j /\ Hd υ 80 2 pv pcs.length (pcC (pcs.take j ++ done.reverse)) /\ But (fun c => hbk pv = some c) σ1 υ) ?_ ?_
  ·refine ZbB ?_
   first | refine Zaa ?_ | refine Zad ?_ | (refine Zac ?_; refine Zaa ?_) | (refine Zac ?_; refine Zac ?_; refine Zaa ?_)
   refine Zab (Zai rfl (by simp only [EV, Nat.reduceEqDiff, ↓reduceIte, he] <;> try rfl) ?_)
   refine Zab ?_
   refine Zam (v := ptr bb 0) (by simp only [EV, Nat.reduceEqDiff, ↓reduceIte, he] <;> try rfl) rfl ?_
   refine Zab ?_
   refine Zae (b := bb) (o := 0) (by simp only [EV, Nat.reduceEqDiff, ↓reduceIte, he] <;> try rfl) Zca rfl ?_
   refine Zab ?_
   refine Zar (b := bb) (o := 0 + 0) (r := pv) (by simp only [EV, Nat.reduceEqDiff, ↓reduceIte, he] <;> try rfl) hobj Zdf Zcb rfl ?_
   refine Zab (Zai rfl (by simp only [EV, Nat.reduceEqDiff, ↓reduceIte, he] <;> try rfl) ?_)
   refine Zab ?_
   refine ZcL (k := .i64) (j := j) (by simp only [EV, Nat.reduceEqDiff, ↓reduceIte, he] <;> try rfl) (by simp only [EV, Nat.reduceEqDiff, ↓reduceIte, he] <;> try rfl) Zbt Za6 hL hj fun b hb => ?_
   obtain ⟨c, all, hpv, q1, q2, q3, q4, q5, q6⟩ := hL.at_ hb
   have hq2 := hL.len
   have hall : ∀ o < 2, all[j * 2 + o]? = (pcC (pcs.take (j + 1) ++ done.reverse))[j * 2 + o]? := fun o ho => by
    rw [<- q4, List.getElem?_take_of_lt (by omega)]
   have hcj : (pcC (pcs.take (j + 1) ++ done.reverse)).drop (j * 2) = ptr p.1 0 :: .raw (.int .i64 (p.2 : Int)) :: pcC ((pcs.take (j + 1) ++ done.reverse).drop (j + 1)) := by
    rw [Zj5, List.drop_eq_getElem_cons (by omega), hget]
    rfl
   have hc0 : all[j * 2 + 0]? = some (ptr p.1 0) := by
    rw [hall 0 (by omega), <- List.getElem?_drop, hcj]
    rfl
   have hc1 : all[j * 2 + 1]? = some (.raw (.int .i64 (p.2 : Int))) := by
    rw [hall 1 (by omega), <- List.getElem?_drop, hcj]
    rfl
   refine Zab ?_
   refine Zae (b := b) (o := j * 2) (by simp only [EV, Nat.reduceEqDiff, ↓reduceIte, he] <;> try rfl) ZdJ rfl ?_
   refine Zab ?_
   refine Zar (b := b) (o := j * 2 + 0) (r := ptr p.1 0) (by simp only [EV, Nat.reduceEqDiff, ↓reduceIte, he] <;> try rfl) q1 Zip Zio hc0 ?_
   refine Zab (Zai rfl (by simp only [EV, Nat.reduceEqDiff, ↓reduceIte, he] <;> try rfl) ?_)
   obtain ⟨fp, hfp, hfpb⟩ := h1.inn p (by rw [<- hp]; exact List.getElem_mem hj)
   refine ZpD (m := 0) (p := p.1) (q := f0.b) (cp := [fp.v]) (cq := [v']) ZdL Zit (by simp only [EV, Nat.reduceEqDiff, ↓reduceIte, he] <;> try rfl) (by simp only [EV, Nat.reduceEqDiff, ↓reduceIte, he] <;> try rfl) (hB.keep _ _ (by rw [<- hfpb]; exact h1.pvF hfp) (by rw [<- hfpb]; exact (h1.file fp hfp).1)) (hB.keep _ _ (h.pvF hf0) hfile0) ?_
   refine Zah ?_
   apply ZcI 0 1 2 6 46
   ·simp only [EV, Nat.reduceEqDiff, ↓reduceIte, he] <;> try rfl
   ·simp only [EV, Nat.reduceEqDiff, ↓reduceIte, he] <;> try rfl
   ·simp only [EV, Nat.reduceEqDiff, ↓reduceIte, he] <;> try rfl
   ·simp only [EV, Nat.reduceEqDiff, ↓reduceIte, he] <;> try rfl
   ·simp only [EV, Nat.reduceEqDiff, ↓reduceIte, he] <;> try rfl
   clear he e
   intro e he
   refine ZbQ (t := decide (p.1 = f0.b)) (by simp only [EV, Nat.reduceEqDiff, ↓reduceIte, he] <;> try rfl) (fun hpf => ?_) (fun hpf => ?_)
   ·have hpf : p.1 = f0.b := of_decide_eq_true hpf
    rw [if_pos hpf] at hRj
    first | refine Zaa ?_ | refine Zad ?_ | (refine Zac ?_; refine Zaa ?_) | (refine Zac ?_; refine Zac ?_; refine Zaa ?_)
    refine Zab (Zai rfl (by simp only [EV, Nat.reduceEqDiff, ↓reduceIte, he] <;> try rfl) ?_)
    refine Zab (Zai rfl (by simp only [EV, Nat.reduceEqDiff, ↓reduceIte, he] <;> try rfl) ?_)
    refine Zab ?_
    refine Zam (v := ptr bb 0) (by simp only [EV, Nat.reduceEqDiff, ↓reduceIte, he] <;> try rfl) rfl ?_
    refine Zab ?_
    refine Zae (b := bb) (o := 0) (by simp only [EV, Nat.reduceEqDiff, ↓reduceIte, he] <;> try rfl) Zca rfl ?_
    refine Zab ?_
    refine Zar (b := bb) (o := 0 + 0) (r := pv) (by simp only [EV, Nat.reduceEqDiff, ↓reduceIte, he] <;> try rfl) hobj Zdf Zcb rfl ?_
    refine Zab (Zai rfl (by simp only [EV, Nat.reduceEqDiff, ↓reduceIte, he] <;> try rfl) ?_)
    refine Zab ?_
    refine ZcL (k := .i64) (j := j) (by simp only [EV, Nat.reduceEqDiff, ↓reduceIte, he] <;> try rfl) (by simp only [EV, Nat.reduceEqDiff, ↓reduceIte, he] <;> try rfl) Zbt Za6 hL hj fun b' hb' => ?_
    obtain rfl : b = b' := by rw [hb] at hb'; injection hb'
    refine Zab ?_
    refine Zae (b := b) (o := j * 2) (by simp only [EV, Nat.reduceEqDiff, ↓reduceIte, he] <;> try rfl) ZdJ rfl ?_
    refine Zab ?_
    refine Zar (b := b) (o := j * 2 + 1) (r := .raw (.int .i64 (p.2 : Int))) (by simp only [EV, Nat.reduceEqDiff, ↓reduceIte, he] <;> try rfl) q1 Zek Zd5 hc1 ?_
    refine Zab ?_
    refine ZpR m' p.2 (by simp only [EV, Nat.reduceEqDiff, ↓reduceIte, he] <;> try rfl) (by simp only [EV, Nat.reduceEqDiff, ↓reduceIte, he] <;> try rfl) ?_
    refine Zab (Zai rfl (by simp only [EV, Nat.reduceEqDiff, ↓reduceIte, he] <;> try rfl) ?_)
    refine Zah ?_
    apply ZcI 0 1 2 6 7
    ·simp only [EV, Nat.reduceEqDiff, ↓reduceIte, he] <;> try rfl
    ·simp only [EV, Nat.reduceEqDiff, ↓reduceIte, he] <;> try rfl
    ·simp only [EV, Nat.reduceEqDiff, ↓reduceIte, he] <;> try rfl
    ·simp only [EV, Nat.reduceEqDiff, ↓reduceIte, he] <;> try rfl
    ·simp only [EV, Nat.reduceEqDiff, ↓reduceIte, he] <;> try rfl
    clear he e
    intro e he
    first | refine Zaa ?_ | refine Zad ?_ | (refine Zac ?_; refine Zaa ?_) | (refine Zac ?_; refine Zac ?_; refine Zaa ?_)
    refine Zab (Zai rfl (by simp only [EV, Nat.reduceEqDiff, ↓reduceIte, he] <;> try rfl) ?_)
    refine Zab ?_
    refine Zam (v := ptr bb 0) (by simp only [EV, Nat.reduceEqDiff, ↓reduceIte, he] <;> try rfl) rfl ?_
    refine Zab ?_
    refine Zae (b := bb) (o := 0) (by simp only [EV, Nat.reduceEqDiff, ↓reduceIte, he] <;> try rfl) Zca rfl ?_
    refine Zab ?_
    refine Zar (b := bb) (o := 0 + 0) (r := pv) (by simp only [EV, Nat.reduceEqDiff, ↓reduceIte, he] <;> try rfl) hobj Zdf Zcb rfl ?_
    refine Zab (Zai rfl (by simp only [EV, Nat.reduceEqDiff, ↓reduceIte, he] <;> try rfl) ?_)
    refine Zab ?_
    refine ZcL (k := .i64) (j := j) (by simp only [EV, Nat.reduceEqDiff, ↓reduceIte, he] <;> try rfl) (by simp only [EV, Nat.reduceEqDiff, ↓reduceIte, he] <;> try rfl) Zbt Za6 hL hj fun b' hb' => ?_
    obtain rfl : b = b' := by rw [hb] at hb'; injection hb'
    refine Zab ?_
    refine Zae (b := b) (o := j * 2) (by simp only [EV, Nat.reduceEqDiff, ↓reduceIte, he] <;> try rfl) ZdJ rfl ?_
    refine Zab ?_
    refine Zar (b := b) (o := j * 2 + 1) (r := .raw (.int .i64 (p.2 : Int))) (by simp only [EV, Nat.reduceEqDiff, ↓reduceIte, he] <;> try rfl) q1 Zek Zd5 hc1 ?_
    refine Zab (Zai rfl (by simp only [EV, Nat.reduceEqDiff, ↓reduceIte, he] <;> try rfl) ?_)
    refine Zab ?_
    refine ZfQ (p.2 : Int) ((min m' p.2 : Nat) : Int) (by simp only [EV, Nat.reduceEqDiff, ↓reduceIte, he] <;> try rfl) (by simp only [EV, Nat.reduceEqDiff, ↓reduceIte, he] <;> try rfl) (by omega) (by omega) ?_
    refine Zab ?_
    refine ZcL (k := .i64) (j := j) (by simp only [EV, Nat.reduceEqDiff, ↓reduceIte, he] <;> try rfl) (by simp only [EV, Nat.reduceEqDiff, ↓reduceIte, he] <;> try rfl) Zbt Za6 hL hj fun b' hb' => ?_
    obtain rfl : b = b' := by rw [hb] at hb'; injection hb'
    refine Zab ?_
    refine Zae (b := b) (o := j * 2) (by simp only [EV, Nat.reduceEqDiff, ↓reduceIte, he] <;> try rfl) ZdJ rfl ?_
    refine Zab ?_
    refine Zq6 (b := b) (o := j * 2 + 1) (r := .raw (.int .i64 ((p.2 : Int) - ((min m' p.2 : Nat) : Int)))) (by simp only [EV, Nat.reduceEqDiff, ↓reduceIte, he] <;> try rfl) (by simp only [EV, Nat.reduceEqDiff, ↓reduceIte, he] <;> try rfl) Zd5 hL hb (by omega) ⟨rfl, rfl, rfl⟩ fun υ2 hL2 hB2 => ?_
    refine Zah ?_
    apply ZcI 0 1 2 6 7
    ·simp only [EV, Nat.reduceEqDiff, ↓reduceIte, he] <;> try rfl
    ·simp only [EV, Nat.reduceEqDiff, ↓reduceIte, he] <;> try rfl
    ·simp only [EV, Nat.reduceEqDiff, ↓reduceIte, he] <;> try rfl
    ·simp only [EV, Nat.reduceEqDiff, ↓reduceIte, he] <;> try rfl
    ·simp only [EV, Nat.reduceEqDiff, ↓reduceIte, he] <;> try rfl
    clear he e
    intro e he
    refine Zad ?_
    refine Zab (Zai rfl (by simp only [EV, Nat.reduceEqDiff, ↓reduceIte, he] <;> try rfl) ?_)
    refine Zab (Zai rfl (by simp only [EV, Nat.reduceEqDiff, ↓reduceIte, he] <;> try rfl) ?_)
    refine Zab ?_
    refine ZfQ (m' : Int) ((min m' p.2 : Nat) : Int) (by simp only [EV, Nat.reduceEqDiff, ↓reduceIte, he] <;> try rfl) (by simp only [EV, Nat.reduceEqDiff, ↓reduceIte, he] <;> try rfl) (by omega) (by omega) ?_
    refine Zab (Zai rfl (by simp only [EV, Nat.reduceEqDiff, ↓reduceIte, he] <;> try rfl) ?_)
    refine Zah ?_
    have hset : (pcC (pcs.take (j + 1) ++ done.reverse)).set (j * 2 + 1) (.raw (.int .i64 ((p.2 : Int) - ((min m' p.2 : Nat) : Int)))) = pcC (pcs.take j ++ (done ++ [(p.1, p.2 - min m' p.2)]).reverse) := by
     have e1 : pcs.take (j + 1) ++ done.reverse = pcs.take j ++ (p :: done.reverse) := by rw [htk, List.append_assoc]; rfl
     have e2 : (pcC (pcs.take j)).length = j * 2 := by rw [Zl9, List.length_take, Nat.min_eq_left (by omega)]
     rw [e1, List.reverse_append, Zg7, Zg7, List.set_append_right _ _ (by omega), e2, Nat.add_sub_cancel_left]
     show _ = pcC (pcs.take j) ++ (ptr p.1 0 :: .raw (.int .i64 ((p.2 - min m' p.2 : Nat) : Int)) :: pcC done.reverse)
     rw [Int.ofNat_sub (Nat.min_le_right _ _)]
     rfl
    refine ⟨rfl, m' - min m' p.2, done ++ [(p.1, p.2 - min m' p.2)], ⟨by simp only [EV, Nat.reduceEqDiff, ↓reduceIte, he] <;> try rfl, by simp only [EV, Nat.reduceEqDiff, ↓reduceIte, he] <;> try rfl, ?_, by simp only [EV, Nat.reduceEqDiff, ↓reduceIte, he] <;> try rfl⟩, by omega, ?_, by rw [List.length_append, hdl]; simp; omega, hset ▸ hL2, hB.trans hB2⟩
    ·rw [Int.ofNat_sub (Nat.min_le_left _ _)]
     simp only [EV, Nat.reduceEqDiff, ↓reduceIte, he] <;> try rfl
    ·rw [hR, hRj, List.append_assoc]
     rfl
   ·have hpf : ¬ p.1 = f0.b := of_decide_eq_false hpf
    rw [if_neg hpf] at hRj
    refine ZdC ?_
    refine ⟨rfl, m', done ++ [p], ⟨by simp only [EV, Nat.reduceEqDiff, ↓reduceIte, he] <;> try rfl, by simp only [EV, Nat.reduceEqDiff, ↓reduceIte, he] <;> try rfl, by simp only [EV, Nat.reduceEqDiff, ↓reduceIte, he] <;> try rfl, by simp only [EV, Nat.reduceEqDiff, ↓reduceIte, he] <;> try rfl⟩, hmm, ?_, by rw [List.length_append, hdl]; simp; omega, ?_, hB⟩
    ·rw [hR, hRj, List.append_assoc]
     rfl
    ·have e3 : pcs.take j ++ (done ++ [p]).reverse = pcs.take (j + 1) ++ done.reverse := by
      rw [List.reverse_append, htk, List.append_assoc]
      rfl
     rw [e3]
     exact hL
  ·clear he e hL hB hobj hR hdl hlj hRj hget hmm hm0
   rintro e υ ⟨m'', done', he, g1, g2, g3, g4, g5⟩
   refine Zad ?_
   refine Zab (Zai rfl (by simp only [EV, Nat.reduceEqDiff, ↓reduceIte, he] <;> try rfl) ?_)
   refine Zab ?_
   refine ZfQ (j : Int) 1 (by simp only [EV, Nat.reduceEqDiff, ↓reduceIte, he] <;> try rfl) (by simp only [EV, Nat.reduceEqDiff, ↓reduceIte, he] <;> try rfl) (by omega) (by omega) ?_
   refine Zab (Zai rfl (by simp only [EV, Nat.reduceEqDiff, ↓reduceIte, he] <;> try rfl) ?_)
   refine Zah ?_
   show ∃ n', n' < _ /\ _
   exact ⟨_, Nat.lt_succ_self j, j, m'', done', rfl, by omega, ⟨by simp only [EV, Nat.reduceEqDiff, ↓reduceIte, he] <;> try rfl, by simp only [EV, Nat.reduceEqDiff, ↓reduceIte, he] <;> try rfl, by simp only [EV, Nat.reduceEqDiff, ↓reduceIte, he] <;> try rfl, by simp only [EV, Nat.reduceEqDiff, ↓reduceIte, he] <;> try rfl⟩, g1, g2, g3, g4, g5⟩
 clear he e
 rintro e υ ⟨he, hL, hB⟩
 have hobj : υ.blk bb = some (.own 65 [pv, Zbv mb, .raw (.int .i64 size)]) := hB.keep _ _ h1.pvB h1.obj
 refine Zad ?_
 refine Zab (Zai rfl (by simp only [EV, Nat.reduceEqDiff, ↓reduceIte, he] <;> try rfl) ?_)
 refine Zab (Zai rfl (by simp only [EV, Nat.reduceEqDiff, ↓reduceIte, he] <;> try rfl) ?_)
 refine Zab ?_
 refine Zam (v := ptr bb 0) (by simp only [EV, Nat.reduceEqDiff, ↓reduceIte, he] <;> try rfl) rfl ?_
 refine Zab ?_
 refine Zae (b := bb) (o := 0) (by simp only [EV, Nat.reduceEqDiff, ↓reduceIte, he] <;> try rfl) Zca rfl ?_
 refine Zab ?_
 refine Zar (b := bb) (o := 0 + 0) (r := pv) (by simp only [EV, Nat.reduceEqDiff, ↓reduceIte, he] <;> try rfl) hobj Zdf Zcb rfl ?_
 refine Zab ?_
 refine Zas (vs := [pv, fnV 67 #[]]) (by simp only [List.map_cons, List.map_nil, EV, Nat.reduceEqDiff, ↓reduceIte, he] <;> try rfl) ?_
 rw [<- Zme f0.b m pcs] at hL
 refine Zlh (q := fun p => decide (p.2 = 0)) hL (by rw [Zme]; exact hl) (fun υ' _ p hp K' hK' => Zmd K' hK') fun τ pv' d1 d2 d3 => ?_
 refine Zab ?_
 refine Zam (v := ptr bb 0) (by simp only [EV, Nat.reduceEqDiff, ↓reduceIte, he] <;> try rfl) rfl ?_
 refine Zab ?_
 refine Zae (b := bb) (o := 0) (by simp only [EV, Nat.reduceEqDiff, ↓reduceIte, he] <;> try rfl) Zca rfl ?_
 refine Zab ?_
 refine Zdu (b := bb) (o := 0 + 0) (v := pv') (by simp only [EV, Nat.reduceEqDiff, ↓reduceIte, he] <;> try rfl) (by simp only [EV, Nat.reduceEqDiff, ↓reduceIte, he] <;> try rfl) (d2.keep _ _ h1.pvB hobj) Zcb d1.oneV (Nat.zero_lt_succ _) fun τ2 hb2 k2 => ?_
 refine Zah ?_
 have hB2 : But (fun c => c = bb \/ hbk pv = some c) σ1 τ2 := ((hB.trans d2).sub fun c hc => .inr hc).trans (k2.sub fun c hc => .inl hc)
 refine ⟨_, Zdo rfl, hK τ2 v' pv' ((h1.setP hB2 hb2 (d1.but k2 fun c hc hq => ?_) fun p hp => ?_).mono fun c hc => ?_) (hS1.trans (hB2.sub fun c hc => h1.pvS hc))⟩
 ·rw [hq] at hc
  exact h1.pvB (d3 _ hc)
 ·obtain ⟨p', hp', hpp⟩ := ZtT (List.mem_filter.1 hp).1
  rw [<- hpp]
  exact h1.inn p' hp'
 ·rcases hc with hc | hc
  ·exact hc
  ·exact h1.pvS (.inr (d3 _ hc))
end
end Go.Proofs.Ytinpiaibhjmfaaa
