/- XDw, XDv in one. -/
import Derived.Test.YtinpiaibhjmfaaaMc
namespace Go.Proofs.Ytinpiaibhjmfaaa
open Go.RowKit
set_option maxRecDepth 100000
set_option linter.unusedVariables false
set_option linter.unusedSimpArgs false
theorem Zd8 (fs : List Fl) : sumD fs = ((dat fs).map (·.2.2.length)).sum := by
 unfold sumD dat
 rw [List.map_map]
 rfl
theorem ZdS {fs : List Fl} {f : Fl} (h : f ∈ fs) : (f.nm, f.b, f.d) ∈ dat fs := List.mem_map.2 ⟨f, h, rfl⟩
theorem Zhr {fs : List Fl} {q : List UInt8 × Nat × List UInt8} (h : q ∈ dat fs) : ∃ f ∈ fs, q = (f.nm, f.b, f.d) := by
 obtain ⟨f, hf, e⟩ := List.mem_map.1 h
 exact ⟨f, hf, e.symm⟩
def Zri (b : Nat) (d : List UInt8) (l : FD) : FD := l.map fun f => if f.2.1 = b then (f.1, f.2.1, f.2.2 ++ d) else f
abbrev Zqq (b : Nat) (d : List UInt8) : List (Nat × Nat) := if d = [] then [] else [(b, d.length)]
theorem Zlj (b : Nat) (d : List UInt8) : ZbG (Zqq b d) = d.length := by
 unfold Zqq
 split
 ·rename_i h; subst h; rfl
 ·rw [Znq]
theorem Zns (b : Nat) (d : List UInt8) : (Zqq b d).length <= 1 := by
 unfold Zqq
 split <;> simp
theorem Zjl (b c : Nat) (d : List UInt8) : Zb6 c (Zqq b d) = if b = c then d.length else 0 := by
 unfold Zqq
 split
 ·rename_i h; subst h; rw [Zfj]; split <;> rfl
 ·rw [Zer]
theorem Zon {b : Nat} {pcs : List (Nat × Nat)} (h : ∀ p ∈ pcs, p.1 ≠ b) : Zb6 b pcs = 0 := by
 unfold Zb6
 rw [List.filter_eq_nil_iff.2 fun p hp => by simp [h p hp]]
 rfl
theorem Zfk {σ τ : St} {bb bb' mb mb' : Nat} {S S' : Nat -> Prop} {fs fs' : List Fl} {pcs pcs' : List (Nat × Nat)} {size size' : Int} {pv pv' : AV} {k d : List UInt8} (h : DAt σ bb S fs pcs size mb pv) (h' : DAt τ bb' S' fs' pcs' size' mb' pv') (ha : ZtU fs pcs k d fs' pcs') :
 (∃ nb, (∀ f ∈ fs, f.nm ≠ k) /\ (∀ f ∈ fs, f.b ≠ nb) /\ dat fs' = dat fs ++ [(k, nb, d)] /\ pcs' = pcs ++ Zqq nb d) \/ ∃ f0 ∈ fs, f0.nm = k /\ dat fs' = Zri f0.b d (dat fs) /\ pcs' = pcs ++ Zqq f0.b d := by
 obtain ⟨fs1, f0, v', hor, hf0, hnm, rfl, hp⟩ := ha
 rcases hor with rfl | ⟨hn, rfl, hd⟩
 ·right
  refine ⟨f0, hf0, hnm, ?_, hp⟩
  unfold dat Zri
  rw [List.map_map, List.map_map]
  refine List.map_congr_left fun f hf => ?_
  simp only [Function.comp]
  unfold Zcd
  by_cases hb : f.b = f0.b
  ·rw [if_pos hb, if_pos hb, h.uniq hf hf0 hb]
  ·rw [if_neg hb, if_neg hb]
 ·left
  have hne : ∀ f ∈ fs, f.b ≠ f0.b := fun f hf e => by
   have hnd := h'.nd
   rw [List.map_map, List.map_append, List.nodup_append] at hnd
   exact hnd.2.2 f.b (List.mem_map.2 ⟨f, hf, ZdN f⟩) f0.b (List.mem_map.2 ⟨f0, List.mem_cons_self, ZdN f0⟩) e
  refine ⟨f0.b, hn, hne, ?_, hp⟩
  unfold dat
  rw [List.map_map, List.map_append]
  congr 1
  ·refine List.map_congr_left fun f hf => ?_
   simp only [Function.comp]
   unfold Zcd
   rw [if_neg (hne f hf)]
  ·simp [Zcd, hnm, hd]
theorem Znt {b : Nat} {d : List UInt8} : ∀ {l : FD}, (l.map (·.2.1)).Nodup -> (∃ q ∈ l, q.2.1 = b) -> ((Zri b d l).map (·.2.2.length)).sum = (l.map (·.2.2.length)).sum + d.length
 | [], _, h => by obtain ⟨q, hq, _⟩ := h; cases hq
 | f :: l, hnd, h => by
  rw [List.map_cons, List.nodup_cons] at hnd
  by_cases hb : f.2.1 = b
  ·have : Zri b d l = l := by
    unfold Zri
    conv => rhs; rw [<- List.map_id l]
    refine List.map_congr_left fun g hg => ?_
    rw [if_neg (fun e => hnd.1 (List.mem_map.2 ⟨g, hg, by rw [e, hb]⟩))]
    rfl
   show (((if f.2.1 = b then (f.1, f.2.1, f.2.2 ++ d) else f) :: Zri b d l).map (·.2.2.length)).sum = _
   rw [this, if_pos hb]
   simp
   omega
  ·have ih := Znt (b := b) (d := d) hnd.2 (by
    obtain ⟨q, hq, hqb⟩ := h
    rcases List.mem_cons.1 hq with rfl | hq
    ·exact absurd hqb hb
    ·exact ⟨q, hq, hqb⟩)
   show (((if f.2.1 = b then (f.1, f.2.1, f.2.2 ++ d) else f) :: Zri b d l).map (·.2.2.length)).sum = _
   rw [if_neg hb, List.map_cons, List.sum_cons, ih, List.map_cons, List.sum_cons]
   omega
theorem Zu4 (fs : List Fl) : (dat fs).map (·.2.1) = fs.map (·.b) := by
 unfold dat
 rw [List.map_map]
 rfl
theorem Zke {σ τ : St} {bb bb' mb mb' : Nat} {S S' : Nat -> Prop} {fs fs' : List Fl} {pcs pcs' : List (Nat × Nat)} {size size' : Int} {pv pv' : AV} {k d : List UInt8} (h : DAt σ bb S fs pcs size mb pv) (h' : DAt τ bb' S' fs' pcs' size' mb' pv') (ha : ZtU fs pcs k d fs' pcs') (hwf : Wf fs pcs) :
 Wf fs' pcs' /\ ZbG pcs' = ZbG pcs + d.length /\ pcs'.length <= pcs.length + 1 /\ sumD fs' = sumD fs + d.length := by
 have hpos : ∀ b, ∀ p ∈ pcs ++ Zqq b d, 0 < p.2 := fun b p hp => by
  rcases List.mem_append.1 hp with hp | hp
  ·exact hwf.pos p hp
  ·unfold Zqq at hp
   split at hp
   ·cases hp
   ·rename_i hd
    rw [List.mem_singleton.1 hp]
    exact List.length_pos_iff.2 hd
 rcases Zfk h h' ha with ⟨nb, hn, hnb, hdat, rfl⟩ | ⟨f0, hf0, hnm, hdat, rfl⟩
 ·refine ⟨⟨hpos nb, fun f hf => ?_⟩, by rw [ZeI, Zlj], by rw [List.length_append]; have := Zns nb d; omega, by rw [Zd8, hdat, List.map_append, List.sum_append, <- Zd8]; simp⟩
  have hm := ZdS hf
  rw [hdat] at hm
  rw [Zeq, Zjl]
  rcases List.mem_append.1 hm with hm | hm
  ·obtain ⟨g, hg, e⟩ := Zhr hm
   injection e with _ e
   injection e with e1 e2
   rw [e1, e2, if_neg (fun e => hnb g hg e.symm)]
   exact hwf.fit g hg
  ·have e := List.mem_singleton.1 hm
   injection e with _ e
   injection e with e1 e2
   rw [e1, e2, if_pos rfl, Zon fun p hp => ?_]
   ·omega
   ·obtain ⟨g, hg, e⟩ := h.inn p hp
    rw [<- e]
    exact hnb g hg
 ·have hsum : sumD fs' = sumD fs + d.length := by
   rw [Zd8, hdat, Znt (by rw [Zu4]; exact h.nd) ⟨_, ZdS hf0, rfl⟩, <- Zd8]
  refine ⟨⟨hpos f0.b, fun f hf => ?_⟩, by rw [ZeI, Zlj], by rw [List.length_append]; have := Zns f0.b d; omega, hsum⟩
  have hm := ZdS hf
  rw [hdat] at hm
  rw [Zeq, Zjl]
  obtain ⟨q, hq, e⟩ := List.mem_map.1 hm
  obtain ⟨g, hg, rfl⟩ := Zhr hq
  dsimp only at e
  have hfit := hwf.fit g hg
  by_cases hb : g.b = f0.b
  ·rw [if_pos hb] at e
   injection e with _ e
   injection e with e1 e2
   rw [<- e1, <- e2, if_pos hb.symm, List.length_append]
   omega
  ·rw [if_neg hb] at e
   injection e with _ e
   injection e with e1 e2
   rw [<- e1, <- e2, if_neg (fun e => hb e.symm)]
   exact hfit
end Go.Proofs.Ytinpiaibhjmfaaa
namespace Go.Proofs.Ytinpiaibhjmfaaa
open Go.RowKit
set_option maxRecDepth 100000
set_option linter.unusedVariables false
set_option linter.unusedSimpArgs false
theorem Zp1 : Zaw Try.prog 29 = some 28 := by kernel_rfl
theorem Zrj (ps : List (List UInt8)) : ps.flatMap (CT.enc 3) = ps.map fun p => XV.sl 1 p none := by
 induction ps with
 | nil => rfl
 | cons p ps ih => rw [List.flatMap_cons, ih]; rfl
theorem Zkf {ps : List (List UInt8)} {A : Option Addr} {c : Nat} {as_ : List AV} (hs : SVs CT 0 Zf2 (ps.map fun p => XV.sl 1 p none) as_) (hA : Lst A ps.length c) : SV CT 0 Zf2 (.sl 3 ps none) (.lst A ps.length c as_) :=
 ZcC.2 ⟨A, c, as_, [], by rw [List.append_nil], hA.le, hA.most, hA.small, hA.none, by rw [Zrj]; exact hs⟩
theorem ZdT {N : Nat} {ρ : Nat -> AV} {d : List UInt8} {A : Option Addr} {c : Nat} (h : Lst A d.length c) : SV CT N ρ (.sl 1 d none) (.lst A d.length c (bys d)) := by
 have := Znl (N := N) (ρ := ρ) (rest := []) h
 rwa [List.append_nil] at this
theorem Zea (b : Nat) {n : Nat} (h : n <= 1000) : Lst (some ⟨b, 0, none⟩) n n := ⟨Nat.le_refl _, by unfold maxLen; omega, by omega, fun q => by cases q⟩
def Zfl (σ : St) (v : AV) (d : List UInt8) : Prop := Hd σ 5 1 v d.length (bys d) \/ SV CT 0 Zf2 (.sl 1 d none) v
theorem Zfl.own {σ : St} {v : AV} {d : List UInt8} (h : Zfl σ v d) {b : Nat} (hb : hbk v = some b) : ∃ e cs, σ.blk b = some (.own e cs) /\ σ.used b := by
 rcases h with h | h
 ·obtain ⟨all, h1⟩ := h.blk hb
  exact ⟨_, _, h1, h.used hb⟩
 ·obtain ⟨A, c, rest, rfl, _⟩ := Zra h
  cases hb
theorem Zfl.lend {σ : St} {v : AV} {d : List UInt8} {G : Nat -> Prop} (h : Zfl σ v d) (hl : d.length <= 1000000000) (hG : ∀ b, hbk v = some b -> G b) : ∃ v', Zod G σ v v' /\ SV CT 0 Zf2 (.sl 1 d none) v' := by
 rcases h with h | h
 ·obtain ⟨A, c, hL, l1, l2, l3⟩ := h.lends hG (ZcD.refl _)
  exact ⟨_, hL, ZdT ⟨l1, l2, by omega, l3⟩⟩
 ·exact ⟨v, .refl v, h⟩
theorem Zkg {σ : St} {v1 v2 : AV} {d1 d2 : List UInt8} (h1 : Zfl σ v1 d1) (h2 : Zfl σ v2 d2) (l1 : d1.length <= 1000000000) (l2 : d2.length <= 1000000000) (K : AV -> St -> Prop) (hK : ∀ τ, Ext σ τ -> K (vT (decide (d1 = d2))) τ) : Zau Try.prog 13 [v1, v2] σ K := by
 obtain ⟨u1, e1, s1⟩ := h1.lend (G := fun b => hbk v1 = some b \/ hbk v2 = some b) l1 fun b hb => .inl hb
 obtain ⟨u2, e2, s2⟩ := h2.lend (G := fun b => hbk v1 = some b \/ hbk v2 = some b) l2 fun b hb => .inr hb
 refine Zk5 (G := fun b => hbk v1 = some b \/ hbk v2 = some b) (args' := [u1, u2]) (rv := vT (decide (d1 = d2))) (fun b hb => hb.elim h1.own h2.own) (show ZcD _ _ [v1, v2] _ from ⟨e1, e2, trivial⟩) ?_ (fun w B => Zak _) K hK
 exact Zfb (Zcu.ok (d1, d2, ()) () (_, ()) (Ziw d1 d2 (by omega))) (.cons s1 (Zc8.2 ⟨_, rfl, s2⟩)) (fun N ρ a h => ZaJ.1 h) _ fun τ hX => ⟨rfl, hX⟩
theorem Zlk {σ : St} {v1 v2 : AV} {d1 d2 : List UInt8} (h1 : Zfl σ v1 d1) (h2 : Zfl σ v2 d2) (l1 : d1.length <= 1000000000) (l2 : d2.length <= 1000000000) (hd : d1 = d2.take d1.length) (K : AV -> St -> Prop) (hK : ∀ τ, Ext σ τ -> K (vT true) τ) : Zau Try.prog 16 [v1, v2] σ K := by
 obtain ⟨u1, e1, s1⟩ := h1.lend (G := fun b => hbk v1 = some b \/ hbk v2 = some b) l1 fun b hb => .inl hb
 obtain ⟨u2, e2, s2⟩ := h2.lend (G := fun b => hbk v1 = some b \/ hbk v2 = some b) l2 fun b hb => .inr hb
 refine Zk5 (G := fun b => hbk v1 = some b \/ hbk v2 = some b) (args' := [u1, u2]) (rv := vT true) (fun b hb => hb.elim h1.own h2.own) (show ZcD _ _ [v1, v2] _ from ⟨e1, e2, trivial⟩) ?_ (fun w B => Zak _) K hK
 exact Zfb (Zep.ok (d1, d2, ()) () (true, ()) (Zrf d1 d2 (by omega) hd)) (.cons s1 (Zc8.2 ⟨_, rfl, s2⟩)) (fun N ρ a h => ZaJ.1 h) _ fun τ hX => ⟨rfl, hX⟩
theorem Zkh {l : FD} {k : List UInt8} {nb : Nat} {d : List UInt8} {fs : List Fl} (hd : dat fs = l) (hm : (k, nb, d) ∈ l) : ∃ f ∈ fs, f.nm = k /\ f.b = nb /\ f.d = d := by
 rw [<- hd] at hm
 obtain ⟨f, hf, e⟩ := Zhr hm
 injection e with e1 e
 injection e with e2 e3
 exact ⟨f, hf, e1.symm, e2.symm, e3.symm⟩
section
variable {σ : St} {K : AV -> St -> Prop}
set_option maxHeartbeats 4000000 in
theorem Zrk (hK : ∀ τ, Ext σ τ -> K (vT true) τ) : Zau Try.prog 7 [] σ K := by
 refine ZaA ZaL Try.func7 rfl rfl rfl (Nat.le_of_ble_eq_true rfl) ?_
 refine Zaa ?_
 refine Zab (Zdn rfl ?_)
 refine Zah ?_
 refine Zaa ?_
 refine Zab ?_
 refine Zas (vs := [.raw (.int .i64 4)]) rfl ?_
 refine ZpP fun bb mb σ1 h1 hE1 hnb hnm => ?_
 refine Zab (Zdn (v := ptr bb 0) (by simp only [EV, Nat.reduceEqDiff, ↓reduceIte]) ?_)
 refine Zah ?_
 refine ZdU 1 (v0 := ptr bb 0) (by simp only [EV, Nat.reduceEqDiff, ↓reduceIte]) ?_
 intro e he
 have hS1 : ∀ c, (c = bb \/ c = mb) -> Zde σ c /\ σ1.used c := fun c hc => by
  rcases hc with rfl | rfl
  ·exact ⟨hnb, h1.used⟩
  ·exact ⟨hnm, h1.umap⟩
 first | refine Zaa ?_ | refine Zad ?_ | (refine Zac ?_; refine Zaa ?_) | (refine Zac ?_; refine Zac ?_; refine Zaa ?_)
 refine Zab (Zai rfl (by simp only [EV, Nat.reduceEqDiff, ↓reduceIte, he] <;> try rfl) ?_)
 refine Zab ?_
 refine Zgl (vs := [.raw (.int .u8 1)]) (cells := bys [1]) rfl Zb3 Zhp Ziq rfl (by omega) rfl rfl fun b12 σa hNa hXa => ?_
 refine Zab ?_
 refine Zgl (vs := [.raw (.int .u8 2)]) (cells := bys [2]) rfl Zb3 Zhp Ziq rfl (by omega) rfl rfl fun b13 σb hNb hXb => ?_
 refine Zab ?_
 refine Zgl (vs := [.lst (some ⟨b12, 0, none⟩) 1 1 (bys [1]), .lst (some ⟨b13, 0, none⟩) 1 1 (bys [2])]) (cells := [.lst (some ⟨b12, 0, none⟩) 1 1 (bys [1]), .lst (some ⟨b13, 0, none⟩) 1 1 (bys [2])]) (by simp only [List.map_cons, List.map_nil, EV, Nat.reduceEqDiff, ↓reduceIte, he]; try rfl) ZjT ZcZ ZjU rfl (by omega) rfl rfl fun b14 σc hNc hXc => ?_
 have hX1c : Ext σ1 σc := (hXa.trans hXb).trans hXc
 refine Zab ?_
 refine Zas (vs := [ptr bb 0, .raw (sV [97]), .lst (some ⟨b14, 0, none⟩) 2 2 [.lst (some ⟨b12, 0, none⟩) 1 1 (bys [1]), .lst (some ⟨b13, 0, none⟩) 1 1 (bys [2])]]) (by simp only [List.map_cons, List.map_nil, EV, Nat.reduceEqDiff, ↓reduceIte, he] <;> try rfl) ?_
 refine Zfi (h1.ext hX1c) (fun c hc => hX1c.used _ (hS1 c hc).2) (d := [1, 2]) (fun τ0 _ K' hK' => Zfh (ps := [[1], [2]]) (Zkf (ps := [[1], [2]]) (.cons (ZdT (d := [1]) (Zea _ (by decide))) (.cons (ZdT (d := [2]) (Zea _ (by decide))) .none)) (Zea _ (by decide))) (by decide) (by decide) K' hK') (by decide) (by decide) (fun q => absurd ⟨by decide, by decide⟩ q) (fun _ q => absurd (.inr (by decide)) q) fun _ _ σ2 S2 fs2 pcs2 pv2 h2 hB2 hS12 hS21 hSu2 ha2 => ?_
 obtain ⟨hwf2, hs2, hl2, hd2⟩ := Zke h1 h2 ha2 ⟨(fun p hp => by cases hp), fun f hf => by cases hf⟩
 have hE1c := hE1.trans hX1c
 have hE2 : Ext σ σ2 := But.ext hE1c (fun c hc => (hS1 c hc).1.1) hB2
 have hSn2 : ∀ c, S2 c -> Zde σ c := fun c hc => by
  rcases hS21 c hc with q | q
  ·exact (hS1 c q).1
  ·exact q.of hE1c
 obtain ⟨nb, hdat2, hpcs2⟩ : ∃ nb, dat fs2 = [([97], nb, [1, 2])] /\ pcs2 = [(nb, 2)] := by
  rcases Zfk h1 h2 ha2 with ⟨nb, _, _, g1, g2⟩ | ⟨f0, hf0, _⟩
  ·exact ⟨nb, g1, g2⟩
  ·cases hf0
 refine Zab (Zai rfl (by simp only [EV, Nat.reduceEqDiff, ↓reduceIte, he] <;> try rfl) ?_)
 refine Zah ?_
 apply ZcW 1 2
 ·simp only [EV, Nat.reduceEqDiff, ↓reduceIte, he] <;> try rfl
 ·simp only [EV, Nat.reduceEqDiff, ↓reduceIte, he] <;> try rfl
 clear he e
 intro e he
 first | refine Zaa ?_ | refine Zad ?_ | (refine Zac ?_; refine Zaa ?_) | (refine Zac ?_; refine Zac ?_; refine Zaa ?_)
 refine Zab (Zai rfl (by simp only [EV, Nat.reduceEqDiff, ↓reduceIte, he] <;> try rfl) ?_)
 refine Zab ?_
 refine Zgl (vs := [.raw (.int .u8 3)]) (cells := bys [3]) rfl Zb3 Zhp Ziq rfl (by omega) rfl rfl fun b17 σa hNa hXa => ?_
 refine Zab ?_
 refine Zgl (vs := [.lst (some ⟨b17, 0, none⟩) 1 1 (bys [3])]) (cells := [.lst (some ⟨b17, 0, none⟩) 1 1 (bys [3])]) (by simp only [List.map_cons, List.map_nil, EV, Nat.reduceEqDiff, ↓reduceIte, he]; try rfl) ZjT ZcZ ZjU rfl (by omega) rfl rfl fun b18 σb hNb hXb => ?_
 have hX2c : Ext σ2 σb := hXa.trans hXb
 refine Zab ?_
 refine Zas (vs := [ptr bb 0, .raw (sV [98]), .lst (some ⟨b18, 0, none⟩) 1 1 [.lst (some ⟨b17, 0, none⟩) 1 1 (bys [3])]]) (by simp only [List.map_cons, List.map_nil, EV, Nat.reduceEqDiff, ↓reduceIte, he] <;> try rfl) ?_
 refine Zfi (h2.ext hX2c) (fun c hc => hX2c.used _ (hSu2 c hc)) (d := [3]) (fun τ0 _ K' hK' => Zfh (ps := [[3]]) (Zkf (ps := [[3]]) (.cons (ZdT (d := [3]) (Zea _ (by decide))) .none) (Zea _ (by decide))) (by decide) (by decide) K' hK') (by rw [hd2]; decide) (by rw [hpcs2]; simp) (fun q => absurd ⟨by decide, by decide⟩ q) (fun _ q => absurd (.inr (by rw [hd2]; decide)) q) fun _ _ σ3 S3 fs3 pcs3 pv3 h3 hB3 hS23 hS32 hSu3 ha3 => ?_
 obtain ⟨hwf3, hs3, hl3, hd3⟩ := Zke h2 h3 ha3 hwf2
 have hE2c := hE2.trans hX2c
 have hE3 : Ext σ σ3 := But.ext hE2c (fun c hc => (hSn2 c hc).1) hB3
 have hSn3 : ∀ c, S3 c -> Zde σ c := fun c hc => by
  rcases hS32 c hc with q | q
  ·exact hSn2 c q
  ·exact q.of hE2c
 obtain ⟨mb2, hne, hdat3, hpcs3⟩ : ∃ mb2, nb ≠ mb2 /\ dat fs3 = [([97], nb, [1, 2]), ([98], mb2, [3])] /\ pcs3 = [(nb, 2), (mb2, 1)] := by
  rcases Zfk h2 h3 ha3 with ⟨mb2, _, gb, g1, g2⟩ | ⟨f0, hf0, hq, _⟩
  ·obtain ⟨f, hf, _, hfb, _⟩ := Zkh hdat2 List.mem_cons_self
   refine ⟨mb2, fun e => gb f hf (hfb.trans e), ?_, ?_⟩
   ·rw [g1, hdat2]; rfl
   ·rw [g2, hpcs2]; rfl
  ·have := ZdS hf0
   rw [hdat2, hq] at this
   exact absurd this (by simp)
 refine Zab (Zai rfl (by simp only [EV, Nat.reduceEqDiff, ↓reduceIte, he] <;> try rfl) ?_)
 refine Zah ?_
 apply ZcX 1 2 3
 ·simp only [EV, Nat.reduceEqDiff, ↓reduceIte, he] <;> try rfl
 ·simp only [EV, Nat.reduceEqDiff, ↓reduceIte, he] <;> try rfl
 ·simp only [EV, Nat.reduceEqDiff, ↓reduceIte, he] <;> try rfl
 clear he e
 intro e he
 first | refine Zaa ?_ | refine Zad ?_ | (refine Zac ?_; refine Zaa ?_) | (refine Zac ?_; refine Zac ?_; refine Zaa ?_)
 refine Zab (Zai rfl (by simp only [EV, Nat.reduceEqDiff, ↓reduceIte, he] <;> try rfl) ?_)
 refine Zab ?_
 refine Zgl (vs := [.raw (.int .u8 4)]) (cells := bys [4]) rfl Zb3 Zhp Ziq rfl (by omega) rfl rfl fun b21 σa hNa hXa => ?_
 refine Zab ?_
 refine Zgl (vs := [.lst (some ⟨b21, 0, none⟩) 1 1 (bys [4])]) (cells := [.lst (some ⟨b21, 0, none⟩) 1 1 (bys [4])]) (by simp only [List.map_cons, List.map_nil, EV, Nat.reduceEqDiff, ↓reduceIte, he]; try rfl) ZjT ZcZ ZjU rfl (by omega) rfl rfl fun b22 σb hNb hXb => ?_
 have hX3c : Ext σ3 σb := hXa.trans hXb
 refine Zab ?_
 refine Zas (vs := [ptr bb 0, .raw (sV [97]), .lst (some ⟨b22, 0, none⟩) 1 1 [.lst (some ⟨b21, 0, none⟩) 1 1 (bys [4])]]) (by simp only [List.map_cons, List.map_nil, EV, Nat.reduceEqDiff, ↓reduceIte, he] <;> try rfl) ?_
 refine Zfi (h3.ext hX3c) (fun c hc => hX3c.used _ (hSu3 c hc)) (d := [4]) (fun τ0 _ K' hK' => Zfh (ps := [[4]]) (Zkf (ps := [[4]]) (.cons (ZdT (d := [4]) (Zea _ (by decide))) .none) (Zea _ (by decide))) (by decide) (by decide) K' hK') (by rw [hd3, hd2]; decide) (by rw [hpcs3]; simp) (fun q => absurd ⟨by decide, by decide⟩ q) (fun _ q => absurd (.inr (by rw [hd3, hd2]; decide)) q) fun _ _ σ4 S4 fs4 pcs4 pv4 h4 hB4 hS34 hS43 hSu4 ha4 => ?_
 obtain ⟨hwf4, hs4, hl4, hd4⟩ := Zke h3 h4 ha4 hwf3
 have hE3c := hE3.trans hX3c
 have hE4 : Ext σ σ4 := But.ext hE3c (fun c hc => (hSn3 c hc).1) hB4
 have hSn4 : ∀ c, S4 c -> Zde σ c := fun c hc => by
  rcases hS43 c hc with q | q
  ·exact hSn3 c q
  ·exact q.of hE3c
 obtain ⟨hdat4, hpcs4⟩ : dat fs4 = [([97], nb, [1, 2, 4]), ([98], mb2, [3])] /\ pcs4 = [(nb, 2), (mb2, 1), (nb, 1)] := by
  rcases Zfk h3 h4 ha4 with ⟨_, gn, _⟩ | ⟨f0, hf0, hq, g1, g2⟩
  ·obtain ⟨f, hf, hfn, _⟩ := Zkh hdat3 List.mem_cons_self
   exact absurd hfn (gn f hf)
  ·have hm := ZdS hf0
   rw [hdat3, hq] at hm
   have hfb : f0.b = nb := by simp at hm; exact hm.1
   rw [hfb] at g1 g2
   refine ⟨?_, ?_⟩
   ·rw [g1, hdat3]; simp [Zri, Ne.symm hne]
   ·rw [g2, hpcs3]; rfl
 refine Zab (Zai rfl (by simp only [EV, Nat.reduceEqDiff, ↓reduceIte, he] <;> try rfl) ?_)
 refine Zah ?_
 apply Zcm 1 2 3 4
 ·simp only [EV, Nat.reduceEqDiff, ↓reduceIte, he] <;> try rfl
 ·simp only [EV, Nat.reduceEqDiff, ↓reduceIte, he] <;> try rfl
 ·simp only [EV, Nat.reduceEqDiff, ↓reduceIte, he] <;> try rfl
 ·simp only [EV, Nat.reduceEqDiff, ↓reduceIte, he] <;> try rfl
 clear he e
 intro e he
 first | refine Zaa ?_ | refine Zad ?_ | (refine Zac ?_; refine Zaa ?_) | (refine Zac ?_; refine Zac ?_; refine Zaa ?_)
 refine Zab (Zai rfl (by simp only [EV, Nat.reduceEqDiff, ↓reduceIte, he] <;> try rfl) ?_)
 refine Zab ?_
 refine Zgl (vs := [.raw (.int .u8 5)]) (cells := bys [5]) rfl Zb3 Zhp Ziq rfl (by omega) rfl rfl fun b25 σa hNa hXa => ?_
 refine Zab ?_
 refine Zgl (vs := [.lst (some ⟨b25, 0, none⟩) 1 1 (bys [5])]) (cells := [.lst (some ⟨b25, 0, none⟩) 1 1 (bys [5])]) (by simp only [List.map_cons, List.map_nil, EV, Nat.reduceEqDiff, ↓reduceIte, he]; try rfl) ZjT ZcZ ZjU rfl (by omega) rfl rfl fun b26 σb hNb hXb => ?_
 have hX4c : Ext σ4 σb := hXa.trans hXb
 refine Zab ?_
 refine Zas (vs := [ptr bb 0, .raw (sV [99]), .lst (some ⟨b26, 0, none⟩) 1 1 [.lst (some ⟨b25, 0, none⟩) 1 1 (bys [5])]]) (by simp only [List.map_cons, List.map_nil, EV, Nat.reduceEqDiff, ↓reduceIte, he] <;> try rfl) ?_
 refine Zfi (h4.ext hX4c) (fun c hc => hX4c.used _ (hSu4 c hc)) (d := [5]) (fun τ0 _ K' hK' => Zfh (ps := [[5]]) (Zkf (ps := [[5]]) (.cons (ZdT (d := [5]) (Zea _ (by decide))) .none) (Zea _ (by decide))) (by decide) (by decide) K' hK') (by rw [hd4, hd3, hd2]; decide) (by rw [hpcs4]; simp) (fun q => absurd ⟨by decide, by decide⟩ q) (fun _ _ σ5 hX5 => ?_) fun _ hf => absurd hf (by rw [hd4, hd3, hd2]; decide)
 have hX45 := hX4c.trans hX5
 have hE5 := hE4.trans hX45
 have h5 := h4.ext hX45
 refine Zab (Zai rfl (by simp only [EV, Nat.reduceEqDiff, ↓reduceIte, he] <;> try rfl) ?_)
 refine Zah ?_
 apply ZcI 1 2 3 4 5
 ·simp only [EV, Nat.reduceEqDiff, ↓reduceIte, he] <;> try rfl
 ·simp only [EV, Nat.reduceEqDiff, ↓reduceIte, he] <;> try rfl
 ·simp only [EV, Nat.reduceEqDiff, ↓reduceIte, he] <;> try rfl
 ·simp only [EV, Nat.reduceEqDiff, ↓reduceIte, he] <;> try rfl
 ·simp only [EV, Nat.reduceEqDiff, ↓reduceIte, he] <;> try rfl
 clear he e
 intro e he
 first | refine Zaa ?_ | refine Zad ?_ | (refine Zac ?_; refine Zaa ?_) | (refine Zac ?_; refine Zac ?_; refine Zaa ?_)
 refine Zab (Zai rfl (by simp only [EV, Nat.reduceEqDiff, ↓reduceIte, he] <;> try rfl) ?_)
 refine Zab ?_
 refine Zas (vs := [ptr bb 0, .raw (.int .i64 2)]) (by simp only [List.map_cons, List.map_nil, EV, Nat.reduceEqDiff, ↓reduceIte, he] <;> try rfl) ?_
 have hsum4 : ZbG pcs4 = 4 := by rw [hpcs4]; rfl
 have hfl4 : ∀ f ∈ fs4, f.d.length <= 1000000000 := fun f hf => by
  have := ZeH hf
  rw [hd4, hd3, hd2] at this
  exact Nat.le_trans this (by decide)
 refine Zfx h5 (by rw [hpcs4]; simp) hwf4 (by rw [hsum4]; decide) hfl4 ⟨by decide, by decide⟩ fun σ6 fs6 h6 hdat6 hB6 => ?_
 have hE6 : Ext σ σ6 := But.ext hE5 (fun c hc => (hSn4 c hc).1) hB6
 have hdat6 : dat fs6 = [([97], nb, [1, 2]), ([98], mb2, [])] := by
  rw [hdat6, hsum4, hdat4, hpcs4]
  show ZbY 2 _ [(nb, 1), (mb2, 1), (nb, 2)] = _
  simp [ZbY, Zos, hne, Ne.symm hne]
 refine Zah ?_
 apply ZcI 1 2 3 4 5
 ·simp only [EV, Nat.reduceEqDiff, ↓reduceIte, he] <;> try rfl
 ·simp only [EV, Nat.reduceEqDiff, ↓reduceIte, he] <;> try rfl
 ·simp only [EV, Nat.reduceEqDiff, ↓reduceIte, he] <;> try rfl
 ·simp only [EV, Nat.reduceEqDiff, ↓reduceIte, he] <;> try rfl
 ·simp only [EV, Nat.reduceEqDiff, ↓reduceIte, he] <;> try rfl
 clear he e
 intro e he
 have hfl6 : ∀ f ∈ fs6, f.d.length <= 1000000000 := fun f hf => by
  have := ZeH hf
  rw [Zd8, hdat6] at this
  simp at this
  omega
 first | refine Zaa ?_ | refine Zad ?_ | (refine Zac ?_; refine Zaa ?_) | (refine Zac ?_; refine Zac ?_; refine Zaa ?_)
 refine Zab (Zai rfl (by simp only [EV, Nat.reduceEqDiff, ↓reduceIte, he] <;> try rfl) ?_)
 refine Zab ?_
 refine Zas (vs := [ptr bb 0, .raw (sV [97])]) (by simp only [List.map_cons, List.map_nil, EV, Nat.reduceEqDiff, ↓reduceIte, he] <;> try rfl) ?_
 refine Zkc h6 hfl6 (fun hq => ?_) fun f0 hf0 hq σ7 v7 hv7 hX7 hn7 => ?_
 ·obtain ⟨f, hf, hfn, _⟩ := Zkh hdat6 List.mem_cons_self
  exact absurd hfn (hq f hf)
 have hfd : f0.d = [1, 2] := by
  have hm := ZdS hf0
  rw [hdat6, hq] at hm
  simp at hm
  exact hm.2
 rw [hfd] at hv7
 refine Zab (Zai rfl (by simp only [EV, Nat.reduceEqDiff, ↓reduceIte, he] <;> try rfl) ?_)
 refine Zab ?_
 refine Za0 (l := [v7, vT true]) (by simp only [EV, Nat.reduceEqDiff, ↓reduceIte, he] <;> try rfl) rfl ?_
 refine Zab ?_
 refine Za0 (l := [v7, vT true]) (by simp only [EV, Nat.reduceEqDiff, ↓reduceIte, he] <;> try rfl) rfl ?_
 refine Zab (Zai rfl (by simp only [EV, Nat.reduceEqDiff, ↓reduceIte, he] <;> try rfl) ?_)
 refine Zab (Zai rfl (by simp only [EV, Nat.reduceEqDiff, ↓reduceIte, he] <;> try rfl) ?_)
 refine Zah ?_
 apply Zgk 1 2 3 4 5 6
 ·simp only [EV, Nat.reduceEqDiff, ↓reduceIte, he] <;> try rfl
 ·simp only [EV, Nat.reduceEqDiff, ↓reduceIte, he] <;> try rfl
 ·simp only [EV, Nat.reduceEqDiff, ↓reduceIte, he] <;> try rfl
 ·simp only [EV, Nat.reduceEqDiff, ↓reduceIte, he] <;> try rfl
 ·simp only [EV, Nat.reduceEqDiff, ↓reduceIte, he] <;> try rfl
 ·simp only [EV, Nat.reduceEqDiff, ↓reduceIte, he] <;> try rfl
 clear he e
 intro e he
 first | refine Zaa ?_ | refine Zad ?_ | (refine Zac ?_; refine Zaa ?_) | (refine Zac ?_; refine Zac ?_; refine Zaa ?_)
 refine Zab (Zai rfl (by simp only [EV, Nat.reduceEqDiff, ↓reduceIte, he] <;> try rfl) ?_)
 refine Zab ?_
 refine Zas (vs := [ptr bb 0, .raw (sV [98])]) (by simp only [List.map_cons, List.map_nil, EV, Nat.reduceEqDiff, ↓reduceIte, he] <;> try rfl) ?_
 refine Zkc (h6.ext hX7) hfl6 (fun hq => ?_) fun f1 hf1 hq1 σ8 v8 hv8 hX8 hn8 => ?_
 ·obtain ⟨f, hf, hfn, _⟩ := Zkh hdat6 (List.mem_cons_of_mem _ List.mem_cons_self)
  exact absurd hfn (hq f hf)
 have hfd1 : f1.d = [] := by
  have hm := ZdS hf1
  rw [hdat6, hq1] at hm
  simp at hm
  exact hm.2
 rw [hfd1] at hv8
 refine Zab (Zai rfl (by simp only [EV, Nat.reduceEqDiff, ↓reduceIte, he] <;> try rfl) ?_)
 refine Zab ?_
 refine Za0 (l := [v8, vT true]) (by simp only [EV, Nat.reduceEqDiff, ↓reduceIte, he] <;> try rfl) rfl ?_
 refine Zab ?_
 refine Za0 (l := [v8, vT true]) (by simp only [EV, Nat.reduceEqDiff, ↓reduceIte, he] <;> try rfl) rfl ?_
 refine Zab (Zai rfl (by simp only [EV, Nat.reduceEqDiff, ↓reduceIte, he] <;> try rfl) ?_)
 refine Zab (Zai rfl (by simp only [EV, Nat.reduceEqDiff, ↓reduceIte, he] <;> try rfl) ?_)
 refine Zah ?_
 apply ZiK 1 2 3 4 5 6 8 9
 ·simp only [EV, Nat.reduceEqDiff, ↓reduceIte, he] <;> try rfl
 ·simp only [EV, Nat.reduceEqDiff, ↓reduceIte, he] <;> try rfl
 ·simp only [EV, Nat.reduceEqDiff, ↓reduceIte, he] <;> try rfl
 ·simp only [EV, Nat.reduceEqDiff, ↓reduceIte, he] <;> try rfl
 ·simp only [EV, Nat.reduceEqDiff, ↓reduceIte, he] <;> try rfl
 ·simp only [EV, Nat.reduceEqDiff, ↓reduceIte, he] <;> try rfl
 ·simp only [EV, Nat.reduceEqDiff, ↓reduceIte, he] <;> try rfl
 ·simp only [EV, Nat.reduceEqDiff, ↓reduceIte, he] <;> try rfl
 clear he e
 intro e he
 first | refine Zaa ?_ | refine Zad ?_ | (refine Zac ?_; refine Zaa ?_) | (refine Zac ?_; refine Zac ?_; refine Zaa ?_)
 refine Zab (Zai rfl (by simp only [EV, Nat.reduceEqDiff, ↓reduceIte, he] <;> try rfl) ?_)
 refine Zab ?_
 refine ZeM (k := .i64) (a := 0) (b := 0) (by simp only [EV, Nat.reduceEqDiff, ↓reduceIte, he] <;> try rfl) (by simp only [EV, Nat.reduceEqDiff, ↓reduceIte, he] <;> try rfl) ?_
 refine Zab (Zai rfl (by simp only [EV, Nat.reduceEqDiff, ↓reduceIte, he] <;> try rfl) ?_)
 refine Zab (Zag (ZbV rfl (by simp only [EV, Nat.reduceEqDiff, ↓reduceIte, he] <;> try rfl)) ?_)
 refine Zai rfl (by simp only [EV, Nat.reduceEqDiff, ↓reduceIte, he] <;> try rfl) ?_
 refine Zab (Zag (ZbV rfl (by simp only [EV, Nat.reduceEqDiff, ↓reduceIte, he] <;> try rfl)) ?_)
 refine ZeM (k := .i64) (a := 0) (b := 0) (by simp only [EV, Nat.reduceEqDiff, ↓reduceIte, he] <;> try rfl) (by simp only [EV, Nat.reduceEqDiff, ↓reduceIte, he] <;> try rfl) ?_
 refine Zab ?_
 refine ZbP (v := vT true) (by simp only [EV, Nat.reduceEqDiff, ↓reduceIte, he] <;> try rfl) (by simp only [EV, Nat.reduceEqDiff, ↓reduceIte, he] <;> try rfl) ?_
 refine Zab (Zai rfl (by simp only [EV, Nat.reduceEqDiff, ↓reduceIte, he] <;> try rfl) ?_)
 refine Zab (Zag (ZbV rfl (by simp only [EV, Nat.reduceEqDiff, ↓reduceIte, he] <;> try rfl)) ?_)
 refine Zai rfl (by simp only [EV, Nat.reduceEqDiff, ↓reduceIte, he] <;> try rfl) ?_
 refine Zab (Zag (ZbV rfl (by simp only [EV, Nat.reduceEqDiff, ↓reduceIte, he] <;> try rfl)) ?_)
 refine ZeM (k := .i64) (a := 0) (b := 0) (by simp only [EV, Nat.reduceEqDiff, ↓reduceIte, he] <;> try rfl) (by simp only [EV, Nat.reduceEqDiff, ↓reduceIte, he] <;> try rfl) ?_
 refine Zab ?_
 refine ZbP (v := vT true) (by simp only [EV, Nat.reduceEqDiff, ↓reduceIte, he] <;> try rfl) (by simp only [EV, Nat.reduceEqDiff, ↓reduceIte, he] <;> try rfl) ?_
 refine Zab (Zai rfl (by simp only [EV, Nat.reduceEqDiff, ↓reduceIte, he] <;> try rfl) ?_)
 refine Zab (Zag (ZbV rfl (by simp only [EV, Nat.reduceEqDiff, ↓reduceIte, he] <;> try rfl)) ?_)
 refine Zai rfl (by simp only [EV, Nat.reduceEqDiff, ↓reduceIte, he] <;> try rfl) ?_
 refine Zab (Zag (ZbV rfl (by simp only [EV, Nat.reduceEqDiff, ↓reduceIte, he] <;> try rfl)) ?_)
 refine ZeM (k := .i64) (a := 8) (b := 8) (by simp only [EV, Nat.reduceEqDiff, ↓reduceIte, he] <;> try rfl) (by simp only [EV, Nat.reduceEqDiff, ↓reduceIte, he] <;> try rfl) ?_
 refine Zab ?_
 refine ZbP (v := vT true) (by simp only [EV, Nat.reduceEqDiff, ↓reduceIte, he] <;> try rfl) (by simp only [EV, Nat.reduceEqDiff, ↓reduceIte, he] <;> try rfl) ?_
 refine Zab (Zai rfl (by simp only [EV, Nat.reduceEqDiff, ↓reduceIte, he] <;> try rfl) ?_)
 refine Zab (Zag (ZbV rfl (by simp only [EV, Nat.reduceEqDiff, ↓reduceIte, he] <;> try rfl)) ?_)
 refine Zai rfl (by simp only [EV, Nat.reduceEqDiff, ↓reduceIte, he] <;> try rfl) ?_
 refine Zab (Zag (ZbV rfl (by simp only [EV, Nat.reduceEqDiff, ↓reduceIte, he] <;> try rfl)) ?_)
 refine Zgl (vs := [.raw (.int .u8 1), .raw (.int .u8 2)]) (cells := bys [1, 2]) rfl Zb3 Zhp Ziq rfl (by omega) rfl rfl fun b56 σ9 hN9 hX9 => ?_
 refine Zab (Zag (ZbV rfl (by simp only [EV, Nat.reduceEqDiff, ↓reduceIte, he] <;> try rfl)) ?_)
 refine Zas (vs := [v7, .lst (some ⟨b56, 0, none⟩) 2 2 (bys [1, 2])]) (by simp only [List.map_cons, List.map_nil, EV, Nat.reduceEqDiff, ↓reduceIte, he] <;> try rfl) ?_
 refine Zkg (d1 := [1, 2]) (d2 := [1, 2]) (.inl ((hv7.ext hX8).ext hX9)) (.inr (ZdT (d := [1, 2]) (Zea _ (by decide)))) (by decide) (by decide) _ fun σ10 hX10 => ?_
 rw [decide_eq_true rfl]
 refine Zab ?_
 refine ZbP (v := vT true) (by simp only [EV, Nat.reduceEqDiff, ↓reduceIte, he] <;> try rfl) (by simp only [EV, Nat.reduceEqDiff, ↓reduceIte, he] <;> try rfl) ?_
 refine Zab (Zai rfl (by simp only [EV, Nat.reduceEqDiff, ↓reduceIte, he] <;> try rfl) ?_)
 refine Zab (Zag (ZbV rfl (by simp only [EV, Nat.reduceEqDiff, ↓reduceIte, he] <;> try rfl)) ?_)
 refine Zai rfl (by simp only [EV, Nat.reduceEqDiff, ↓reduceIte, he] <;> try rfl) ?_
 refine Zab ?_
 refine ZbP (v := vT true) (by simp only [EV, Nat.reduceEqDiff, ↓reduceIte, he] <;> try rfl) (by simp only [EV, Nat.reduceEqDiff, ↓reduceIte, he] <;> try rfl) ?_
 refine Zab (Zai rfl (by simp only [EV, Nat.reduceEqDiff, ↓reduceIte, he] <;> try rfl) ?_)
 refine Zab (Zag (ZbV rfl (by simp only [EV, Nat.reduceEqDiff, ↓reduceIte, he] <;> try rfl)) ?_)
 refine Zai rfl (by simp only [EV, Nat.reduceEqDiff, ↓reduceIte, he] <;> try rfl) ?_
 refine Zab (Zag (ZbV rfl (by simp only [EV, Nat.reduceEqDiff, ↓reduceIte, he] <;> try rfl)) ?_)
 refine ZcT (by simp only [EV, Nat.reduceEqDiff, ↓reduceIte, he] <;> try rfl) ((hv8.ext hX9).ext hX10) rfl Zb3 ?_
 refine Zab (Zag (ZbV rfl (by simp only [EV, Nat.reduceEqDiff, ↓reduceIte, he] <;> try rfl)) ?_)
 refine ZeM (k := .i64) (a := 0) (b := 0) (by simp only [EV, Nat.reduceEqDiff, ↓reduceIte, he] <;> try rfl) (by simp only [EV, Nat.reduceEqDiff, ↓reduceIte, he] <;> try rfl) ?_
 refine Zab ?_
 refine ZbP (v := vT true) (by simp only [EV, Nat.reduceEqDiff, ↓reduceIte, he] <;> try rfl) (by simp only [EV, Nat.reduceEqDiff, ↓reduceIte, he] <;> try rfl) ?_
 refine Zab (Zai rfl (by simp only [EV, Nat.reduceEqDiff, ↓reduceIte, he] <;> try rfl) ?_)
 refine Zab (Zag (ZbV rfl (by simp only [EV, Nat.reduceEqDiff, ↓reduceIte, he] <;> try rfl)) ?_)
 refine Zai rfl (by simp only [EV, Nat.reduceEqDiff, ↓reduceIte, he] <;> try rfl) ?_
 refine Zab (Zag (ZbV rfl (by simp only [EV, Nat.reduceEqDiff, ↓reduceIte, he] <;> try rfl)) ?_)
 refine Zas (vs := [ptr bb 0]) (by simp only [List.map_cons, List.map_nil, EV, Nat.reduceEqDiff, ↓reduceIte, he] <;> try rfl) ?_
 have hX610 := ((hX7.trans hX8).trans hX9).trans hX10
 refine Zfw (h6.ext hX610) (by decide) (by decide) fun σ11 hX11 => ?_
 refine Zab (Zag (ZbV rfl (by simp only [EV, Nat.reduceEqDiff, ↓reduceIte, he] <;> try rfl)) ?_)
 refine ZeM (k := .i64) (a := 0) (b := 0) (by simp only [EV, Nat.reduceEqDiff, ↓reduceIte, he] <;> try rfl) (by simp only [EV, Nat.reduceEqDiff, ↓reduceIte, he] <;> try rfl) ?_
 refine Zab ?_
 refine ZbP (v := vT true) (by simp only [EV, Nat.reduceEqDiff, ↓reduceIte, he] <;> try rfl) (by simp only [EV, Nat.reduceEqDiff, ↓reduceIte, he] <;> try rfl) ?_
 refine Zab (Zai rfl (by simp only [EV, Nat.reduceEqDiff, ↓reduceIte, he] <;> try rfl) ?_)
 refine Zah ?_
 refine ZaW ?_
 show ∃ r, Zan _ _ _ _ r /\ _
 exact ⟨_, ZaD rfl (by simp only [EV, Nat.reduceEqDiff, ↓reduceIte, he] <;> try rfl), hK σ11 ((hE6.trans hX610).trans hX11)⟩
end
end Go.Proofs.Ytinpiaibhjmfaaa
