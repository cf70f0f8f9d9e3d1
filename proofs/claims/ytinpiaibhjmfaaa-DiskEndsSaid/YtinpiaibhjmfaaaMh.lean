/- XDw, XDva, XDv in one. -/
import Derived.Test.YtinpiaibhjmfaaaMf
import Derived.Test.YtinpiaibhjmfaaaMg
namespace Go.Proofs.Ytinpiaibhjmfaaa
open Go.RowKit
set_option maxRecDepth 100000
set_option linter.unusedVariables false
set_option linter.unusedSimpArgs false
theorem ZdV (fs : List Fl) : sumD fs = ((dat fs).map (·.2.2.length)).sum := by
 unfold sumD dat
 rw [List.map_map]
 rfl
theorem Zb9 {fs : List Fl} {f : Fl} (h : f ∈ fs) : (f.nm, f.b, f.d) ∈ dat fs := List.mem_map.2 ⟨f, h, rfl⟩
theorem Zc0 {fs : List Fl} {q : List UInt8 × Nat × List UInt8} (h : q ∈ dat fs) : ∃ f ∈ fs, q = (f.nm, f.b, f.d) := by
 obtain ⟨f, hf, e⟩ := List.mem_map.1 h
 exact ⟨f, hf, e.symm⟩
def ZmI (b : Nat) (d : List UInt8) (l : FD) : FD := l.map fun f => if f.2.1 = b then (f.1, f.2.1, f.2.2 ++ d) else f
abbrev ZkX (b : Nat) (d : List UInt8) : List (Nat × Nat) := if d = [] then [] else [(b, d.length)]
theorem ZiM (b : Nat) (d : List UInt8) : Zcy (ZkX b d) = d.length := by
 unfold ZkX
 split
 ·rename_i h; subst h; rfl
 ·rw [Zj0]
theorem Zj3 (b : Nat) (d : List UInt8) : (ZkX b d).length <= 1 := by
 unfold ZkX
 split <;> simp
theorem Zhe (b c : Nat) (d : List UInt8) : Zcj c (ZkX b d) = if b = c then d.length else 0 := by
 unfold ZkX
 split
 ·rename_i h; subst h; rw [ZeM]; split <;> rfl
 ·rw [Zee]
theorem ZkK {b : Nat} {pcs : List (Nat × Nat)} (h : ∀ p ∈ pcs, p.1 ≠ b) : Zcj b pcs = 0 := by
 unfold Zcj
 rw [List.filter_eq_nil_iff.2 fun p hp => by simp [h p hp]]
 rfl
theorem Zeg {σ τ : St} {bb bb' mb mb' : Nat} {S S' : Nat -> Prop} {fs fs' : List Fl} {pcs pcs' : List (Nat × Nat)} {size size' : Int} {pv pv' : AV} {k d : List UInt8} (h : DAt σ bb S fs pcs size mb pv) (h' : DAt τ bb' S' fs' pcs' size' mb' pv') (ha : ZoX fs pcs k d fs' pcs') :
 (∃ nb, (∀ f ∈ fs, f.nm ≠ k) /\ (∀ f ∈ fs, f.b ≠ nb) /\ dat fs' = dat fs ++ [(k, nb, d)] /\ pcs' = pcs ++ ZkX nb d) \/ ∃ f0 ∈ fs, f0.nm = k /\ dat fs' = ZmI f0.b d (dat fs) /\ pcs' = pcs ++ ZkX f0.b d := by
 obtain ⟨fs1, f0, v', hor, hf0, hnm, rfl, hp⟩ := ha
 rcases hor with rfl | ⟨hn, rfl, hd⟩
 ·right
  refine ⟨f0, hf0, hnm, ?_, hp⟩
  unfold dat ZmI
  rw [List.map_map, List.map_map]
  refine List.map_congr_left fun f hf => ?_
  simp only [Function.comp]
  unfold Zci
  by_cases hb : f.b = f0.b
  ·rw [if_pos hb, if_pos hb, h.uniq hf hf0 hb]
  ·rw [if_neg hb, if_neg hb]
 ·left
  have hne : ∀ f ∈ fs, f.b ≠ f0.b := fun f hf e => by
   have hnd := h'.nd
   rw [List.map_map, List.map_append, List.nodup_append] at hnd
   exact hnd.2.2 f.b (List.mem_map.2 ⟨f, hf, ZdH f⟩) f0.b (List.mem_map.2 ⟨f0, List.mem_cons_self, ZdH f0⟩) e
  refine ⟨f0.b, hn, hne, ?_, hp⟩
  unfold dat
  rw [List.map_map, List.map_append]
  congr 1
  ·refine List.map_congr_left fun f hf => ?_
   simp only [Function.comp]
   unfold Zci
   rw [if_neg (hne f hf)]
  ·simp [Zci, hnm, hd]
theorem Zj4 {b : Nat} {d : List UInt8} : ∀ {l : FD}, (l.map (·.2.1)).Nodup -> (∃ q ∈ l, q.2.1 = b) -> ((ZmI b d l).map (·.2.2.length)).sum = (l.map (·.2.2.length)).sum + d.length
 | [], _, h => by obtain ⟨q, hq, _⟩ := h; cases hq
 | f :: l, hnd, h => by
  rw [List.map_cons, List.nodup_cons] at hnd
  by_cases hb : f.2.1 = b
  ·have : ZmI b d l = l := by
    unfold ZmI
    conv => rhs; rw [<- List.map_id l]
    refine List.map_congr_left fun g hg => ?_
    rw [if_neg (fun e => hnd.1 (List.mem_map.2 ⟨g, hg, by rw [e, hb]⟩))]
    rfl
   show (((if f.2.1 = b then (f.1, f.2.1, f.2.2 ++ d) else f) :: ZmI b d l).map (·.2.2.length)).sum = _
   rw [this, if_pos hb]
   simp
   omega
  ·have ih := Zj4 (b := b) (d := d) hnd.2 (by
    obtain ⟨q, hq, hqb⟩ := h
    rcases List.mem_cons.1 hq with rfl | hq
    ·exact absurd hqb hb
    ·exact ⟨q, hq, hqb⟩)
   show (((if f.2.1 = b then (f.1, f.2.1, f.2.2 ++ d) else f) :: ZmI b d l).map (·.2.2.length)).sum = _
   rw [if_neg hb, List.map_cons, List.sum_cons, ih, List.map_cons, List.sum_cons]
   omega
theorem ZqE (fs : List Fl) : (dat fs).map (·.2.1) = fs.map (·.b) := by
 unfold dat
 rw [List.map_map]
 rfl
theorem ZhM {σ τ : St} {bb bb' mb mb' : Nat} {S S' : Nat -> Prop} {fs fs' : List Fl} {pcs pcs' : List (Nat × Nat)} {size size' : Int} {pv pv' : AV} {k d : List UInt8} (h : DAt σ bb S fs pcs size mb pv) (h' : DAt τ bb' S' fs' pcs' size' mb' pv') (ha : ZoX fs pcs k d fs' pcs') (hwf : Wf fs pcs) :
 Wf fs' pcs' /\ Zcy pcs' = Zcy pcs + d.length /\ pcs'.length <= pcs.length + 1 /\ sumD fs' = sumD fs + d.length := by
 have hpos : ∀ b, ∀ p ∈ pcs ++ ZkX b d, 0 < p.2 := fun b p hp => by
  rcases List.mem_append.1 hp with hp | hp
  ·exact hwf.pos p hp
  ·unfold ZkX at hp
   split at hp
   ·cases hp
   ·rename_i hd
    rw [List.mem_singleton.1 hp]
    exact List.length_pos_iff.2 hd
 rcases Zeg h h' ha with ⟨nb, hn, hnb, hdat, rfl⟩ | ⟨f0, hf0, hnm, hdat, rfl⟩
 ·refine ⟨⟨hpos nb, fun f hf => ?_⟩, by rw [Zex, ZiM], by rw [List.length_append]; have := Zj3 nb d; omega, by rw [ZdV, hdat, List.map_append, List.sum_append, <- ZdV]; simp⟩
  have hm := Zb9 hf
  rw [hdat] at hm
  rw [Zed, Zhe]
  rcases List.mem_append.1 hm with hm | hm
  ·obtain ⟨g, hg, e⟩ := Zc0 hm
   injection e with _ e
   injection e with e1 e2
   rw [e1, e2, if_neg (fun e => hnb g hg e.symm)]
   exact hwf.fit g hg
  ·have e := List.mem_singleton.1 hm
   injection e with _ e
   injection e with e1 e2
   rw [e1, e2, if_pos rfl, ZkK fun p hp => ?_]
   ·omega
   ·obtain ⟨g, hg, e⟩ := h.inn p hp
    rw [<- e]
    exact hnb g hg
 ·have hsum : sumD fs' = sumD fs + d.length := by
   rw [ZdV, hdat, Zj4 (by rw [ZqE]; exact h.nd) ⟨_, Zb9 hf0, rfl⟩, <- ZdV]
  refine ⟨⟨hpos f0.b, fun f hf => ?_⟩, by rw [Zex, ZiM], by rw [List.length_append]; have := Zj3 f0.b d; omega, hsum⟩
  have hm := Zb9 hf
  rw [hdat] at hm
  rw [Zed, Zhe]
  obtain ⟨q, hq, e⟩ := List.mem_map.1 hm
  obtain ⟨g, hg, rfl⟩ := Zc0 hq
  dsimp only at e
  have hfit := hwf.fit g hg
  by_cases hb : g.b = f0.b
  ·rw [if_pos hb] at e
   injection e with _ e
   injection e with e1 e2
   rw [<- e1, <- e2, if_pos hb.symm, List.length_append]
   omega
  ·rw [if_neg hb] at e
   injection e with _ e
   injection e with e1 e2
   rw [<- e1, <- e2, if_neg (fun e => hb e.symm)]
   exact hfit
end Go.Proofs.Ytinpiaibhjmfaaa
namespace Go.Proofs.Ytinpiaibhjmfaaa
open Go.RowKit
set_option maxRecDepth 100000
set_option linter.unusedVariables false
set_option linter.unusedSimpArgs false
theorem Zl1 {a n : Nat} : ∀ {bs : List Nat}, bs.Nodup -> (bs.map fun b => if a = b then n else 0).sum = if a ∈ bs then n else 0
 | [], _ => by simp
 | b :: bs, h => by
  rw [List.nodup_cons] at h
  rw [List.map_cons, List.sum_cons, Zl1 h.2]
  by_cases hab : a = b
  ·subst hab
   simp [h.1]
  ·simp [hab]
theorem Zct (b : Nat) (p : Nat × Nat) (l : List (Nat × Nat)) : Zcj b (p :: l) = (if p.1 = b then p.2 else 0) + Zcj b l := by
 rw [show p :: l = [p] ++ l from rfl, Zed, Zee]
theorem Zfq (p : Nat × Nat) (l : List (Nat × Nat)) : Zcy (p :: l) = p.2 + Zcy l := by simp [Zcy]
theorem Zl2 {α : Type} (f g : α -> Nat) : ∀ l : List α, (l.map fun x => f x + g x).sum = (l.map f).sum + (l.map g).sum
 | [] => rfl
 | x :: l => by
  rw [List.map_cons, List.sum_cons, Zl2 f g l, List.map_cons, List.sum_cons, List.map_cons, List.sum_cons]
  omega
theorem Zl3 {bs : List Nat} (hn : bs.Nodup) : ∀ {pcs : List (Nat × Nat)}, (∀ p ∈ pcs, p.1 ∈ bs) -> (bs.map fun b => Zcj b pcs).sum = Zcy pcs
 | [], _ => by
  rw [show (fun b => Zcj b []) = fun _ => 0 from rfl]
  clear hn
  induction bs with
  | nil => rfl
  | cons b bs ih =>
   rw [List.map_cons, List.sum_cons, ih fun p hp => by cases hp]
   rfl
 | p :: l, h => by
  rw [show (fun b => Zcj b (p :: l)) = fun b => (if p.1 = b then p.2 else 0) + Zcj b l from funext fun b => Zct b p l, Zl2, Zl1 hn, if_pos (h p List.mem_cons_self), Zl3 hn fun q hq => h q (List.mem_cons_of_mem _ hq), Zfq]
theorem Zfr {α : Type} {f g : α -> Nat} : ∀ {l : List α}, (∀ x ∈ l, f x <= g x) -> (l.map f).sum <= (l.map g).sum
 | [], _ => Nat.le_refl _
 | x :: l, h => by
  rw [List.map_cons, List.sum_cons, List.map_cons, List.sum_cons]
  have := h x List.mem_cons_self
  have := Zfr fun y hy => h y (List.mem_cons_of_mem x hy)
  omega
theorem ZoA {σ : St} {bb mb : Nat} {S : Nat -> Prop} {fs : List Fl} {pcs : List (Nat × Nat)} {size : Int} {pv : AV} (h : DAt σ bb S fs pcs size mb pv) (hw : Wf fs pcs) : Zcy pcs <= sumD fs := by
 rw [<- Zl3 h.nd fun p hp => by
  obtain ⟨f, hf, e⟩ := h.inn p hp
  exact List.mem_map.2 ⟨f, hf, e⟩, List.map_map]
 exact Zfr fun f hf => hw.fit f hf
theorem Zni {l m : List (Nat × Nat)} (h : l.Sublist m) : Zcy l <= Zcy m := by
 induction h with
 | slnil => exact Nat.le_refl _
 | cons a _ ih => rw [Zfq]; omega
 | cons_cons a _ ih => rw [Zfq, Zfq]; omega
theorem ZgK {l m : List (Nat × Nat)} (b : Nat) (h : l.Sublist m) : Zcj b l <= Zcj b m := Zni (h.filter _)
theorem Wf.sub {fs fs' : List Fl} {pcs pcs' : List (Nat × Nat)} (h : Wf fs pcs) (h1 : ∀ f ∈ fs', f ∈ fs) (h2 : pcs'.Sublist pcs) : Wf fs' pcs' := ⟨fun p hp => h.pos p (h2.subset hp), fun f hf => Nat.le_trans (ZgK _ h2) (h.fit f (h1 f hf))⟩
theorem Zf7 {l m : List Fl} (h : l.Sublist m) : sumD l <= sumD m := by
 have hc : ∀ (f : Fl) (l : List Fl), sumD (f :: l) = f.d.length + sumD l := fun f l => by simp [sumD]
 induction h with
 | slnil => exact Nat.le_refl _
 | cons a _ ih => rw [hc]; omega
 | cons_cons a _ ih => rw [hc, hc]; omega
theorem ZiN (fs : List Fl) : ∀ (ns : List (List UInt8)) (pcs : List (Nat × Nat)), (ZeC fs ns pcs).1.Sublist pcs
 | [], pcs => List.Sublist.refl _
 | n :: ns, pcs => by
  cases hg : Zfa (Zbc fs) n with
  | none => rw [ZfG hg]; exact List.Sublist.refl _
  | some fb => rw [ZfH hg]; exact (ZiN fs ns _).trans List.filter_sublist
theorem ZhN : ∀ (ns : List (List UInt8)) (fs : List Fl) (pcs : List (Nat × Nat)), (ZgH ns fs pcs).1.Sublist fs /\ (ZgH ns fs pcs).2.1.Sublist pcs
 | [], fs, pcs => ⟨List.Sublist.refl _, List.Sublist.refl _⟩
 | n :: ns, fs, pcs => by
  cases hg : Zfa (Zbc fs) n with
  | none => rw [ZgI hg]; exact ⟨List.Sublist.refl _, List.Sublist.refl _⟩
  | some fb =>
   rw [ZgJ hg]
   obtain ⟨h1, h2⟩ := ZhN ns (Zdt n fs) (pcs.filter fun p => !decide (p.1 = fb))
   exact ⟨h1.trans List.filter_sublist, h2.trans List.filter_sublist⟩
theorem ZfI (b c : Nat) : ∀ (m : Nat) (l : List (Nat × Nat)), Zcj c (Zhb b m l) = if c = b then Zcj b l - min m (Zcj b l) else Zcj c l
 | m, [] => by
  show Zcj c [] = _
  rw [ZeM, ZeM]
  split <;> simp
 | m, p :: l => by
  unfold Zhb
  by_cases hp : p.1 = b
  ·rw [if_pos hp, Zct, ZfI b c _ l, Zct b, Zct c]
   by_cases hc : c = b
   ·subst hc
    rw [if_pos hp, if_pos rfl, if_pos hp, if_pos rfl]
    dsimp only
    omega
   ·rw [if_neg hc, if_neg hc]
    dsimp only
    rw [if_neg (fun e => hc (by rw [<- e, hp])), if_neg (fun e => hc (by rw [<- e, hp]))]
  ·rw [if_neg hp, Zct, ZfI b c _ l, Zct b, Zct c]
   by_cases hc : c = b
   ·subst hc
    rw [if_neg hp, if_pos rfl, if_pos rfl]
    omega
   ·rw [if_neg hc, if_neg hc]
theorem ZgL (c : Nat) (l : List (Nat × Nat)) : Zcj c l.reverse = Zcj c l := by
 unfold Zcj Zcy
 rw [List.filter_reverse, List.map_reverse, List.sum_reverse]
theorem Zl4 (b c m : Nat) (l : List (Nat × Nat)) : Zcj c (shr b m l) = if c = b then Zcj b l - min m (Zcj b l) else Zcj c l := by
 unfold shr
 rw [ZgL, ZfI, ZgL, ZgL]
theorem Zhf : ∀ (ps : List (Nat × Nat)) (L : Nat) (l : FD), (Zcu L l ps).map (fun f => (f.1, f.2.1)) = l.map fun f => (f.1, f.2.1)
 | [], L, l => rfl
 | p :: ps, L, l => by
  unfold Zcu
  rw [Zhf ps]
  unfold ZkW
  rw [List.map_map]
  refine List.map_congr_left fun f _ => ?_
  simp only [Function.comp]
  split <;> rfl
theorem Zhg : ∀ (ps : List (Nat × Nat)) (L : Nat) (l : FD), ((Zcu L l ps).map (·.2.2.length)).sum <= (l.map (·.2.2.length)).sum
 | [], L, l => Nat.le_refl _
 | p :: ps, L, l => by
  unfold Zcu
  refine Nat.le_trans (Zhg ps _ _) ?_
  unfold ZkW
  rw [List.map_map]
  refine Zfr fun f _ => ?_
  simp only [Function.comp]
  split
  ·dsimp only
   rw [List.length_take]
   omega
  ·exact Nat.le_refl _
structure Inv (υ : St) (bb mb : Nat) (size : Int) (S : Nat -> Prop) (fs : List Fl) (pcs : List (Nat × Nat)) (pv : AV) (M B : Nat) : Prop where
 disk : DAt υ bb S fs pcs size mb pv
 used : ∀ c, S c -> υ.used c
 wf : Wf fs pcs
 nms : ∀ f ∈ fs, f.nm.length <= 40
 sum : sumD fs <= B
 few : pcs.length <= M
 nfs : fs.length <= M
 cap : 0 < size -> (sumD fs : Int) <= size
section
variable {σ τ : St} {bb mb : Nat} {size : Int} {S : Nat -> Prop} {fs : List Fl} {pcs : List (Nat × Nat)} {pv : AV} {M B : Nat}
theorem Inv.ext (h : Inv σ bb mb size S fs pcs pv M B) (k : Ext σ τ) : Inv τ bb mb size S fs pcs pv M B := ⟨h.disk.ext k, fun c hc => k.used _ (h.used c hc), h.wf, h.nms, h.sum, h.few, h.nfs, h.cap⟩
theorem Inv.more (h : Inv σ bb mb size S fs pcs pv M B) {M' B' : Nat} (h1 : M <= M') (h2 : B <= B') : Inv σ bb mb size S fs pcs pv M' B' := ⟨h.disk, h.used, h.wf, h.nms, Nat.le_trans h.sum h2, Nat.le_trans h.few h1, Nat.le_trans h.nfs h1, h.cap⟩
theorem Inv.file (h : Inv σ bb mb size S fs pcs pv M B) (hB : B <= 1000000000) : ∀ f ∈ fs, f.d.length <= 1000000000 := fun f hf => by
 have := Zfp hf
 have := h.sum
 omega
theorem Inv.pcs_ (h : Inv σ bb mb size S fs pcs pv M B) (hB : B <= 1000000000) : Zcy pcs <= 1000000000 := by
 have := ZoA h.disk h.wf
 have := h.sum
 omega
theorem Inv.pc (h : Inv σ bb mb size S fs pcs pv M B) (hB : B <= 1000000000) : ∀ p ∈ pcs, p.2 <= 1000000000 := fun p hp => by
 have := ZhG hp
 have := h.pcs_ hB
 omega
theorem Inv.sub (h : Inv σ bb mb size S fs pcs pv M B) {fs' : List Fl} {pcs' : List (Nat × Nat)} {pv' : AV} (hd : DAt τ bb S fs' pcs' size mb pv') (hB : But S σ τ) (h1 : fs'.Sublist fs) (h2 : pcs'.Sublist pcs) : Inv τ bb mb size S fs' pcs' pv' M B :=
 ⟨hd, fun c hc => hB.used _ (h.used c hc), h.wf.sub (fun f hf => h1.subset hf) h2, fun f hf => h.nms f (h1.subset hf), Nat.le_trans (Zf7 h1) h.sum, Nat.le_trans h2.length_le h.few, Nat.le_trans h1.length_le h.nfs, fun hs => by
  have := h.cap hs
  have := Zf7 h1
  omega⟩
theorem Inv.app (h : Inv σ bb mb size S fs pcs pv M B) {S' : Nat -> Prop} {fs' : List Fl} {pcs' : List (Nat × Nat)} {pv' : AV} {k d : List UInt8} (hd : DAt τ bb S' fs' pcs' size mb pv') (hu : ∀ c, S' c -> τ.used c) (ha : ZoX fs pcs k d fs' pcs') (hk : k.length <= 40) (hf : size < 1 \/ ((d.length + sumD fs : Nat) : Int) <= size) : Inv τ bb mb size S' fs' pcs' pv' (M + 1) (B + d.length) := by
 obtain ⟨w1, w2, w3, w4⟩ := ZhM h.disk hd ha h.wf
 have hn : ∀ f ∈ fs', f.nm.length <= 40 /\ fs'.length <= fs.length + 1 := fun f hf => by
  have hm := Zb9 hf
  have hlen : fs'.length = (dat fs').length := by simp [dat]
  have hlen2 : fs.length = (dat fs).length := by simp [dat]
  rcases Zeg h.disk hd ha with ⟨nb, _, _, g1, _⟩ | ⟨f0, _, _, g1, _⟩
  ·rw [g1] at hm
   refine ⟨?_, by rw [hlen, g1, List.length_append, <- hlen2]; exact Nat.le_refl _⟩
   rcases List.mem_append.1 hm with hm | hm
   ·obtain ⟨g, hg, e⟩ := Zc0 hm
    injection e with e _
    rw [e]; exact h.nms g hg
   ·have e := List.mem_singleton.1 hm
    injection e with e _
    rw [e]; exact hk
  ·rw [g1] at hm
   refine ⟨?_, by rw [hlen, g1]; unfold ZmI; rw [List.length_map, <- hlen2]; omega⟩
   obtain ⟨q, hq, e⟩ := List.mem_map.1 hm
   obtain ⟨g, hg, rfl⟩ := Zc0 hq
   have : f.nm = g.nm := by
    dsimp only at e
    split at e
    ·injection e with e _; exact e.symm
    ·injection e with e _; exact e.symm
   rw [this]; exact h.nms g hg
 refine ⟨hd, hu, w1, fun f hf => (hn f hf).1, by have := h.sum; omega, by have := h.few; omega, ?_, fun hs => ?_⟩
 ·cases hfs : fs' with
  | nil => exact Nat.zero_le _
  | cons f l =>
   have := (hn f (by rw [hfs]; exact List.mem_cons_self)).2
   have := h.nfs
   rw [hfs] at *
   omega
 ·rcases hf with q | q
  ·omega
  ·rw [w4]; omega
theorem Inv.cutI (h : Inv σ bb mb size S fs pcs pv M B) {f0 : Fl} (hf0 : f0 ∈ fs) {n : Nat} (hn : n <= f0.d.length) {v' pv' : AV} (hd : DAt τ bb S (fs.map (Zci f0.b v' (f0.d.take n))) ((shr f0.b (f0.d.length - n) pcs).filter fun p => !decide (p.2 = 0)) size mb pv') (hB : But S σ τ) : Inv τ bb mb size S (fs.map (Zci f0.b v' (f0.d.take n))) ((shr f0.b (f0.d.length - n) pcs).filter fun p => !decide (p.2 = 0)) pv' M B := by
 have hs : sumD (fs.map (Zci f0.b v' (f0.d.take n))) <= sumD fs := by
  unfold sumD
  rw [List.map_map]
  refine Zfr fun f hf => ?_
  simp only [Function.comp]
  unfold Zci
  split
  ·rename_i hb
   rw [h.disk.uniq hf hf0 hb]
   show (f0.d.take n).length <= _
   rw [List.length_take]
   omega
  ·exact Nat.le_refl _
 refine ⟨hd, fun c hc => hB.used _ (h.used c hc), ⟨fun p hp => ?_, fun f hf => ?_⟩, fun f hf => ?_, Nat.le_trans hs h.sum, ?_, by rw [List.length_map]; exact h.nfs, fun q => by have := h.cap q; omega⟩
 ·have := (List.mem_filter.1 hp).2
  simp at this
  omega
 ·obtain ⟨g, hg, rfl⟩ := List.mem_map.1 hf
  rw [ZdH]
  refine Nat.le_trans (ZgK _ List.filter_sublist) ?_
  rw [Zl4]
  have hfit := h.wf.fit g hg
  by_cases hb : g.b = f0.b
  ·have : g = f0 := h.disk.uniq hg hf0 hb
   subst this
   rw [if_pos rfl]
   unfold Zci
   rw [if_pos rfl]
   show _ <= (g.d.take n).length
   rw [List.length_take]
   omega
  ·rw [if_neg hb]
   unfold Zci
   rw [if_neg hb]
   exact hfit
 ·obtain ⟨g, hg, rfl⟩ := List.mem_map.1 hf
  rw [ZhC]
  exact h.nms g hg
 ·have h1 := List.length_filter_le (fun p : Nat × Nat => !decide (p.2 = 0)) (shr f0.b (f0.d.length - n) pcs)
  rw [Zjs] at h1
  exact Nat.le_trans h1 h.few
theorem Inv.renI (h : Inv σ bb mb size S fs pcs pv M B) {f0 : Fl} (hf0 : f0 ∈ fs) {to : List UInt8} (hto : to.length <= 40) (hne : f0.nm ≠ to) {pv' : AV} (hd : DAt τ bb S (rnF fs f0 to) (rnP fs pcs to) size mb pv') (hB : But S σ τ) : Inv τ bb mb size S (rnF fs f0 to) (rnP fs pcs to) pv' M B := by
 have hp : (rnP fs pcs to).Sublist pcs := by
  unfold rnP
  split
  ·exact List.Sublist.refl _
  ·exact List.filter_sublist
 have hlen : ∀ l : List Fl, f0 ∈ l -> (Zdt f0.nm l).length + 1 <= l.length /\ sumD (Zdt f0.nm l) + f0.d.length <= sumD l := fun l => by
  have hc : ∀ (f : Fl) (l : List Fl), sumD (f :: l) = f.d.length + sumD l := fun f l => by simp [sumD]
  induction l with
  | nil => intro q; cases q
  | cons a l ih =>
   intro q
   have hs1 := Zf7 (List.filter_sublist (p := fun f : Fl => !decide (f.nm = f0.nm)) (l := l))
   have hs2 := List.length_filter_le (fun f : Fl => !decide (f.nm = f0.nm)) l
   rcases List.mem_cons.1 q with rfl | q
   ·have e : Zdt f0.nm (f0 :: l) = Zdt f0.nm l := by simp [Zdt]
    rw [e, hc, List.length_cons]
    show (Zdt f0.nm l).length + 1 <= _ /\ _
    unfold Zdt
    constructor <;> omega
   ·obtain ⟨i1, i2⟩ := ih q
    by_cases ha : a.nm = f0.nm
    ·have e : Zdt f0.nm (a :: l) = Zdt f0.nm l := by simp [Zdt, ha]
     rw [e, hc, List.length_cons]
     constructor <;> omega
    ·have e : Zdt f0.nm (a :: l) = a :: Zdt f0.nm l := by simp [Zdt, ha]
     rw [e, hc, hc, List.length_cons, List.length_cons]
     constructor <;> omega
 obtain ⟨l1, l2⟩ := hlen (Zdt to fs) (Zbx.2 ⟨hf0, hne⟩)
 have l3 := List.length_filter_le (fun f : Fl => !decide (f.nm = to)) fs
 have l4 := Zf7 (List.filter_sublist (p := fun f : Fl => !decide (f.nm = to)) (l := fs))
 have hsum : sumD (rnF fs f0 to) <= sumD fs := by
  unfold rnF sumD
  rw [List.map_append, List.sum_append]
  simp only [List.map_cons, List.map_nil, List.sum_cons, List.sum_nil]
  unfold sumD at l2 l4
  unfold Zdt at l2 ⊢
  omega
 have hmem : ∀ f ∈ rnF fs f0 to, (∃ g ∈ fs, g.b = f.b /\ g.d = f.d) /\ f.nm.length <= 40 := fun f hf => by
  rcases List.mem_append.1 hf with hf | hf
  ·have hf2 := (Zbx.1 (Zbx.1 hf).1).1
   exact ⟨⟨f, hf2, rfl, rfl⟩, h.nms f hf2⟩
  ·rw [List.mem_singleton.1 hf]
   exact ⟨⟨f0, hf0, rfl, rfl⟩, hto⟩
 refine ⟨hd, fun c hc => hB.used _ (h.used c hc), ⟨fun p hp2 => h.wf.pos p (hp.subset hp2), fun f hf => ?_⟩, fun f hf => (hmem f hf).2, Nat.le_trans hsum h.sum, Nat.le_trans hp.length_le h.few, ?_, fun q => by have := h.cap q; omega⟩
 ·obtain ⟨g, hg, e1, e2⟩ := (hmem f hf).1
  rw [<- e1, <- e2]
  exact Nat.le_trans (ZgK _ hp) (h.wf.fit g hg)
 ·unfold rnF
  rw [List.length_append]
  have := h.nfs
  unfold Zdt at l1 ⊢
  simp only [List.length_cons, List.length_nil]
  omega
theorem Inv.crashI (h : Inv σ bb mb size S fs pcs pv M B) {fs' : List Fl} {L : Nat} (hd : DAt τ bb S fs' [] size mb (.lst none 0 0 [])) (hdat : dat fs' = Zcu L (dat fs) pcs.reverse) (hB : But S σ τ) : Inv τ bb mb size S fs' [] (.lst none 0 0 []) M B := by
 have hs : sumD fs' <= sumD fs := by
  rw [ZdV, ZdV, hdat]
  exact Zhg _ _ _
 have hfst := Zhf pcs.reverse L (dat fs)
 rw [<- hdat] at hfst
 have hl : fs'.length = fs.length := by
  have := congrArg List.length hfst
  simpa [dat] using this
 refine ⟨hd, fun c hc => hB.used _ (h.used c hc), ⟨(fun p hp => by cases hp), fun f hf => Nat.zero_le _⟩, fun f hf => ?_, Nat.le_trans hs h.sum, Nat.zero_le _, by rw [hl]; exact h.nfs, fun q => by have := h.cap q; omega⟩
 have hm : (f.nm, f.b) ∈ (dat fs').map fun f => (f.1, f.2.1) := List.mem_map.2 ⟨_, Zb9 hf, rfl⟩
 rw [hfst] at hm
 obtain ⟨q, hq, e⟩ := List.mem_map.1 hm
 obtain ⟨g, hg, rfl⟩ := Zc0 hq
 injection e with e _
 have e : g.nm = f.nm := e
 rw [<- e]
 exact h.nms g hg
end
end Go.Proofs.Ytinpiaibhjmfaaa
namespace Go.Proofs.Ytinpiaibhjmfaaa
open Go.RowKit
set_option maxRecDepth 100000
set_option linter.unusedVariables false
set_option linter.unusedSimpArgs false
theorem ZaW : ZaX Try.prog 29 = some 28 := by kernel_rfl
theorem ZhO {l : FD} {k : List UInt8} {nb : Nat} {d : List UInt8} {fs : List Fl} (hd : dat fs = l) (hm : (k, nb, d) ∈ l) : ∃ f ∈ fs, f.nm = k /\ f.b = nb /\ f.d = d := by
 rw [<- hd] at hm
 obtain ⟨f, hf, e⟩ := Zc0 hm
 injection e with e1 e
 injection e with e2 e3
 exact ⟨f, hf, e1.symm, e2.symm, e3.symm⟩
section
variable {σ : St} {K : AV -> St -> Prop}
set_option maxHeartbeats 4000000 in
theorem ZhP (hK : ∀ τ, Ext σ τ -> K (vT true) τ) : Zat Try.prog 7 [] σ K := by
 refine Zam Zas Try.func7 rfl rfl rfl (Nat.le_of_ble_eq_true rfl) ?_
 refine Zaa ?_
 refine Zab (Zfh rfl ?_)
 refine Zaf ?_
 refine Zaa ?_
 refine Zab ?_
 refine Zao (vs := [.raw (.int .i64 4)]) rfl ?_
 refine ZlP fun bb mb σ1 h1 hE1 hnb hnm => ?_
 refine Zab (Zfh (v := ptr bb 0) (by simp only [EV, Nat.reduceEqDiff, ↓reduceIte]) ?_)
 refine Zaf ?_
 refine Zbz 1 (v0 := ptr bb 0) (by simp only [EV, Nat.reduceEqDiff, ↓reduceIte]) ?_
 intro e he
 have hS1 : ∀ c, (c = bb \/ c = mb) -> Za0 σ c /\ σ1.used c := fun c hc => by
  rcases hc with rfl | rfl
  ·exact ⟨hnb, h1.used⟩
  ·exact ⟨hnm, h1.umap⟩
 repeat refine Zac ?_
 first|refine Zaa ?_|refine Zad ?_
 refine Zab (Zae rfl he ?_)
 refine Zab ?_
 refine Zdr (vs := [.raw (.int .u8 1)]) (cells := bys [1]) rfl Zaw Zbf ZbT rfl (by omega) rfl rfl fun b12 σa hNa hXa => ?_
 refine Zab ?_
 refine Zdr (vs := [.raw (.int .u8 2)]) (cells := bys [2]) rfl Zaw Zbf ZbT rfl (by omega) rfl rfl fun b13 σb hNb hXb => ?_
 refine Zab ?_
 refine Zdr (vs := [.lst (some ⟨b12, 0, none⟩) 1 1 (bys [1]), .lst (some ⟨b13, 0, none⟩) 1 1 (bys [2])]) (cells := [.lst (some ⟨b12, 0, none⟩) 1 1 (bys [1]), .lst (some ⟨b13, 0, none⟩) 1 1 (bys [2])]) (by simp only [List.map_cons, List.map_nil, EV,Nat.reduceEqDiff,↓reduceIte,he]; try rfl) Zba ZaJ ZcI rfl (by omega) rfl rfl fun b14 σc hNc hXc => ?_
 have hX1c : Ext σ1 σc := (hXa.trans hXb).trans hXc
 refine Zab ?_
 refine Zao (vs := [ptr bb 0, .raw (sV [97]), .lst (some ⟨b14, 0, none⟩) 2 2 [.lst (some ⟨b12, 0, none⟩) 1 1 (bys [1]), .lst (some ⟨b13, 0, none⟩) 1 1 (bys [2])]]) (by simp only [List.map_cons, List.map_nil, EV,Nat.reduceEqDiff,↓reduceIte,he];try rfl) ?_
 refine ZeL (h1.ext hX1c) (fun c hc => hX1c.used _ (hS1 c hc).2) (d := [1, 2]) (fun τ0 _ K' hK' => ZeK (ps := [[1], [2]]) (Zhy (ps := [[1], [2]]) (.cons (Zec (d := [1]) (Zd3 _ (by decide))) (.cons (Zec (d := [2]) (Zd3 _ (by decide))) .none)) (Zd3 _ (by decide))) (by decide) (by decide) K' hK') (by decide) (by decide) (fun q => absurd ⟨by decide, by decide⟩ q) (fun _ q => absurd (.inr (by decide)) q) fun _ _ σ2 S2 fs2 pcs2 pv2 h2 hB2 hS12 hS21 hSu2 ha2 => ?_
 obtain ⟨hwf2, hs2, hl2, hd2⟩ := ZhM h1 h2 ha2 ⟨(fun p hp => by cases hp), fun f hf => by cases hf⟩
 have hE1c := hE1.trans hX1c
 have hE2 : Ext σ σ2 := But.ext hE1c (fun c hc => (hS1 c hc).1.1) hB2
 have hSn2 : ∀ c, S2 c -> Za0 σ c := fun c hc => by
  rcases hS21 c hc with q | q
  ·exact (hS1 c q).1
  ·exact q.of hE1c
 obtain ⟨nb, hdat2, hpcs2⟩ : ∃ nb, dat fs2 = [([97], nb, [1, 2])] /\ pcs2 = [(nb, 2)] := by
  rcases Zeg h1 h2 ha2 with ⟨nb, _, _, g1, g2⟩ | ⟨f0, hf0, _⟩
  ·exact ⟨nb, g1, g2⟩
  ·cases hf0
 refine Zab (Zae rfl (by simp only [EV,Nat.reduceEqDiff,↓reduceIte,he];try rfl) ?_)
 refine Zaf ?_
 apply ZaK 1 2
 iterate 2 ·simp only [EV,Nat.reduceEqDiff,↓reduceIte,he];try rfl
 clear he e
 intro e he
 repeat refine Zac ?_
 first|refine Zaa ?_|refine Zad ?_
 refine Zab (Zae rfl he.1 ?_)
 refine Zab ?_
 refine Zdr (vs := [.raw (.int .u8 3)]) (cells := bys [3]) rfl Zaw Zbf ZbT rfl (by omega) rfl rfl fun b17 σa hNa hXa => ?_
 refine Zab ?_
 refine Zdr (vs := [.lst (some ⟨b17, 0, none⟩) 1 1 (bys [3])]) (cells := [.lst (some ⟨b17, 0, none⟩) 1 1 (bys [3])]) (by simp only [List.map_cons, List.map_nil, EV,Nat.reduceEqDiff,↓reduceIte,he]; try rfl) Zba ZaJ ZcI rfl (by omega) rfl rfl fun b18 σb hNb hXb => ?_
 have hX2c : Ext σ2 σb := hXa.trans hXb
 refine Zab ?_
 refine Zao (vs := [ptr bb 0, .raw (sV [98]), .lst (some ⟨b18, 0, none⟩) 1 1 [.lst (some ⟨b17, 0, none⟩) 1 1 (bys [3])]]) (by simp only [List.map_cons, List.map_nil, EV,Nat.reduceEqDiff,↓reduceIte,he];try rfl) ?_
 refine ZeL (h2.ext hX2c) (fun c hc => hX2c.used _ (hSu2 c hc)) (d := [3]) (fun τ0 _ K' hK' => ZeK (ps := [[3]]) (Zhy (ps := [[3]]) (.cons (Zec (d := [3]) (Zd3 _ (by decide))) .none) (Zd3 _ (by decide))) (by decide) (by decide) K' hK') (by rw [hd2]; decide) (by rw [hpcs2]; simp) (fun q => absurd ⟨by decide, by decide⟩ q) (fun _ q => absurd (.inr (by rw [hd2]; decide)) q) fun _ _ σ3 S3 fs3 pcs3 pv3 h3 hB3 hS23 hS32 hSu3 ha3 => ?_
 obtain ⟨hwf3, hs3, hl3, hd3⟩ := ZhM h2 h3 ha3 hwf2
 have hE2c := hE2.trans hX2c
 have hE3 : Ext σ σ3 := But.ext hE2c (fun c hc => (hSn2 c hc).1) hB3
 have hSn3 : ∀ c, S3 c -> Za0 σ c := fun c hc => by
  rcases hS32 c hc with q | q
  ·exact hSn2 c q
  ·exact q.of hE2c
 obtain ⟨mb2, hne, hdat3, hpcs3⟩ : ∃ mb2, nb ≠ mb2 /\ dat fs3 = [([97], nb, [1, 2]), ([98], mb2, [3])] /\ pcs3 = [(nb, 2), (mb2, 1)] := by
  rcases Zeg h2 h3 ha3 with ⟨mb2, _, gb, g1, g2⟩ | ⟨f0, hf0, hq, _⟩
  ·obtain ⟨f, hf, _, hfb, _⟩ := ZhO hdat2 List.mem_cons_self
   refine ⟨mb2, fun e => gb f hf (hfb.trans e), ?_, ?_⟩
   ·rw [g1, hdat2]; rfl
   ·rw [g2, hpcs2]; rfl
  ·have := Zb9 hf0
   rw [hdat2, hq] at this
   exact absurd this (by simp)
 refine Zab (Zae rfl (by simp only [EV,Nat.reduceEqDiff,↓reduceIte,he];try rfl) ?_)
 refine Zaf ?_
 apply ZaL 1 2 3
 iterate 3 ·simp only [EV,Nat.reduceEqDiff,↓reduceIte,he];try rfl
 clear he e
 intro e he
 repeat refine Zac ?_
 first|refine Zaa ?_|refine Zad ?_
 refine Zab (Zae rfl he.1 ?_)
 refine Zab ?_
 refine Zdr (vs := [.raw (.int .u8 4)]) (cells := bys [4]) rfl Zaw Zbf ZbT rfl (by omega) rfl rfl fun b21 σa hNa hXa => ?_
 refine Zab ?_
 refine Zdr (vs := [.lst (some ⟨b21, 0, none⟩) 1 1 (bys [4])]) (cells := [.lst (some ⟨b21, 0, none⟩) 1 1 (bys [4])]) (by simp only [List.map_cons, List.map_nil, EV,Nat.reduceEqDiff,↓reduceIte,he]; try rfl) Zba ZaJ ZcI rfl (by omega) rfl rfl fun b22 σb hNb hXb => ?_
 have hX3c : Ext σ3 σb := hXa.trans hXb
 refine Zab ?_
 refine Zao (vs := [ptr bb 0, .raw (sV [97]), .lst (some ⟨b22, 0, none⟩) 1 1 [.lst (some ⟨b21, 0, none⟩) 1 1 (bys [4])]]) (by simp only [List.map_cons, List.map_nil, EV,Nat.reduceEqDiff,↓reduceIte,he];try rfl) ?_
 refine ZeL (h3.ext hX3c) (fun c hc => hX3c.used _ (hSu3 c hc)) (d := [4]) (fun τ0 _ K' hK' => ZeK (ps := [[4]]) (Zhy (ps := [[4]]) (.cons (Zec (d := [4]) (Zd3 _ (by decide))) .none) (Zd3 _ (by decide))) (by decide) (by decide) K' hK') (by rw [hd3, hd2]; decide) (by rw [hpcs3]; simp) (fun q => absurd ⟨by decide, by decide⟩ q) (fun _ q => absurd (.inr (by rw [hd3, hd2]; decide)) q) fun _ _ σ4 S4 fs4 pcs4 pv4 h4 hB4 hS34 hS43 hSu4 ha4 => ?_
 obtain ⟨hwf4, hs4, hl4, hd4⟩ := ZhM h3 h4 ha4 hwf3
 have hE3c := hE3.trans hX3c
 have hE4 : Ext σ σ4 := But.ext hE3c (fun c hc => (hSn3 c hc).1) hB4
 have hSn4 : ∀ c, S4 c -> Za0 σ c := fun c hc => by
  rcases hS43 c hc with q | q
  ·exact hSn3 c q
  ·exact q.of hE3c
 obtain ⟨hdat4, hpcs4⟩ : dat fs4 = [([97], nb, [1, 2, 4]), ([98], mb2, [3])] /\ pcs4 = [(nb, 2), (mb2, 1), (nb, 1)] := by
  rcases Zeg h3 h4 ha4 with ⟨_, gn, _⟩ | ⟨f0, hf0, hq, g1, g2⟩
  ·obtain ⟨f, hf, hfn, _⟩ := ZhO hdat3 List.mem_cons_self
   exact absurd hfn (gn f hf)
  ·have hm := Zb9 hf0
   rw [hdat3, hq] at hm
   have hfb : f0.b = nb := by simp at hm; exact hm.1
   rw [hfb] at g1 g2
   refine ⟨?_, ?_⟩
   ·rw [g1, hdat3]; simp [ZmI, Ne.symm hne]
   ·rw [g2, hpcs3]; rfl
 refine Zab (Zae rfl (by simp only [EV,Nat.reduceEqDiff,↓reduceIte,he];try rfl) ?_)
 refine Zaf ?_
 apply ZaP 1 2 3 4
 iterate 4 ·simp only [EV,Nat.reduceEqDiff,↓reduceIte,he];try rfl
 clear he e
 intro e he
 repeat refine Zac ?_
 first|refine Zaa ?_|refine Zad ?_
 refine Zab (Zae rfl he.1 ?_)
 refine Zab ?_
 refine Zdr (vs := [.raw (.int .u8 5)]) (cells := bys [5]) rfl Zaw Zbf ZbT rfl (by omega) rfl rfl fun b25 σa hNa hXa => ?_
 refine Zab ?_
 refine Zdr (vs := [.lst (some ⟨b25, 0, none⟩) 1 1 (bys [5])]) (cells := [.lst (some ⟨b25, 0, none⟩) 1 1 (bys [5])]) (by simp only [List.map_cons, List.map_nil, EV,Nat.reduceEqDiff,↓reduceIte,he]; try rfl) Zba ZaJ ZcI rfl (by omega) rfl rfl fun b26 σb hNb hXb => ?_
 have hX4c : Ext σ4 σb := hXa.trans hXb
 refine Zab ?_
 refine Zao (vs := [ptr bb 0, .raw (sV [99]), .lst (some ⟨b26, 0, none⟩) 1 1 [.lst (some ⟨b25, 0, none⟩) 1 1 (bys [5])]]) (by simp only [List.map_cons, List.map_nil, EV,Nat.reduceEqDiff,↓reduceIte,he];try rfl) ?_
 refine ZeL (h4.ext hX4c) (fun c hc => hX4c.used _ (hSu4 c hc)) (d := [5]) (fun τ0 _ K' hK' => ZeK (ps := [[5]]) (Zhy (ps := [[5]]) (.cons (Zec (d := [5]) (Zd3 _ (by decide))) .none) (Zd3 _ (by decide))) (by decide) (by decide) K' hK') (by rw [hd4, hd3, hd2]; decide) (by rw [hpcs4]; simp) (fun q => absurd ⟨by decide, by decide⟩ q) (fun _ _ σ5 hX5 => ?_) fun _ hf => absurd hf (by rw [hd4, hd3, hd2]; decide)
 have hX45 := hX4c.trans hX5
 have hE5 := hE4.trans hX45
 have h5 := h4.ext hX45
 refine Zab (Zae rfl (by simp only [EV,Nat.reduceEqDiff,↓reduceIte,he];try rfl) ?_)
 refine Zaf ?_
 apply Zb6 1 2 3 4 5
 iterate 5 ·simp only [EV,Nat.reduceEqDiff,↓reduceIte,he];try rfl
 clear he e
 intro e he
 repeat refine Zac ?_
 first|refine Zaa ?_|refine Zad ?_
 refine Zab (Zae rfl he.1 ?_)
 refine Zab ?_
 refine Zao (vs := [ptr bb 0, .raw (.int .i64 2)]) (by simp only [List.map_cons, List.map_nil, EV,Nat.reduceEqDiff,↓reduceIte,he];try rfl) ?_
 have hsum4 : Zcy pcs4 = 4 := by rw [hpcs4]; rfl
 have hfl4 : ∀ f ∈ fs4, f.d.length <= 1000000000 := fun f hf => by
  have := Zfp hf
  rw [hd4, hd3, hd2] at this
  exact Nat.le_trans this (by decide)
 refine Zj1 h5 (by rw [hpcs4]; simp) hwf4 (by rw [hsum4]; decide) hfl4 ⟨by decide, by decide⟩ fun σ6 fs6 h6 hdat6 hB6 => ?_
 have hE6 : Ext σ σ6 := But.ext hE5 (fun c hc => (hSn4 c hc).1) hB6
 have hdat6 : dat fs6 = [([97], nb, [1, 2]), ([98], mb2, [])] := by
  rw [hdat6, hsum4, hdat4, hpcs4]
  show Zcu 2 _ [(nb, 1), (mb2, 1), (nb, 2)] = _
  simp [Zcu, ZkW, hne, Ne.symm hne]
 refine Zaf ?_
 apply Zb6 1 2 3 4 5
 iterate 5 ·simp only [EV,Nat.reduceEqDiff,↓reduceIte,he];try rfl
 clear he e
 intro e he
 have hfl6 : ∀ f ∈ fs6, f.d.length <= 1000000000 := fun f hf => by
  have := Zfp hf
  rw [ZdV, hdat6] at this
  simp at this
  omega
 repeat refine Zac ?_
 first|refine Zaa ?_|refine Zad ?_
 refine Zab (Zae rfl he.1 ?_)
 refine Zab ?_
 refine Zao (vs := [ptr bb 0, .raw (sV [97])]) (by simp only [List.map_cons, List.map_nil, EV,Nat.reduceEqDiff,↓reduceIte,he];try rfl) ?_
 refine ZhF h6 hfl6 (fun hq => ?_) fun f0 hf0 hq σ7 v7 hv7 hX7 hn7 => ?_
 ·obtain ⟨f, hf, hfn, _⟩ := ZhO hdat6 List.mem_cons_self
  exact absurd hfn (hq f hf)
 have hfd : f0.d = [1, 2] := by
  have hm := Zb9 hf0
  rw [hdat6, hq] at hm
  simp at hm
  exact hm.2
 rw [hfd] at hv7
 refine Zab (Zae rfl (by simp only [EV,Nat.reduceEqDiff,↓reduceIte,he];try rfl) ?_)
 refine Zab ?_
 refine Za8 (l := [v7, vT true]) rfl rfl ?_
 refine Zab ?_
 refine Za8 (l := [v7, vT true]) rfl rfl ?_
 refine Zab (Zae rfl (by simp only [EV,Nat.reduceEqDiff,↓reduceIte,he];try rfl) ?_)
 refine Zab (Zae rfl (by simp only [EV,Nat.reduceEqDiff,↓reduceIte,he];try rfl) ?_)
 refine Zaf ?_
 apply ZdN 1 2 3 4 5 6
 iterate 6 ·simp only [EV,Nat.reduceEqDiff,↓reduceIte,he];try rfl
 clear he e
 intro e he
 repeat refine Zac ?_
 first|refine Zaa ?_|refine Zad ?_
 refine Zab (Zae rfl he.1 ?_)
 refine Zab ?_
 refine Zao (vs := [ptr bb 0, .raw (sV [98])]) (by simp only [List.map_cons, List.map_nil, EV,Nat.reduceEqDiff,↓reduceIte,he];try rfl) ?_
 refine ZhF (h6.ext hX7) hfl6 (fun hq => ?_) fun f1 hf1 hq1 σ8 v8 hv8 hX8 hn8 => ?_
 ·obtain ⟨f, hf, hfn, _⟩ := ZhO hdat6 (List.mem_cons_of_mem _ List.mem_cons_self)
  exact absurd hfn (hq f hf)
 have hfd1 : f1.d = [] := by
  have hm := Zb9 hf1
  rw [hdat6, hq1] at hm
  simp at hm
  exact hm.2
 rw [hfd1] at hv8
 refine Zab (Zae rfl (by simp only [EV,Nat.reduceEqDiff,↓reduceIte,he];try rfl) ?_)
 refine Zab ?_
 refine Za8 (l := [v8, vT true]) rfl rfl ?_
 refine Zab ?_
 refine Za8 (l := [v8, vT true]) rfl rfl ?_
 refine Zab (Zae rfl (by simp only [EV,Nat.reduceEqDiff,↓reduceIte,he];try rfl) ?_)
 refine Zab (Zae rfl (by simp only [EV,Nat.reduceEqDiff,↓reduceIte,he];try rfl) ?_)
 refine Zaf ?_
 apply Zob 1 2 3 4 5 6 8 9
 iterate 8 ·simp only [EV,Nat.reduceEqDiff,↓reduceIte,he];try rfl
 clear he e
 intro e he
 repeat refine Zac ?_
 first|refine Zaa ?_|refine Zad ?_
 refine Zab (Zae rfl he.2.1 ?_)
 refine Zab ?_
 refine Zcn (k := .i64) (a := 0) (b := 0) rfl rfl ?_
 refine Zab (Zae rfl (by simp only [EV,Nat.reduceEqDiff,↓reduceIte,he];try rfl) ?_)
 refine Zab (Zah (ZaN rfl (by simp only [EV,Nat.reduceEqDiff,↓reduceIte,he];try rfl)) ?_)
 refine Zae rfl he.2.2.1 ?_
 refine Zab (Zah (ZaN rfl (by simp only [EV,Nat.reduceEqDiff,↓reduceIte,he];try rfl)) ?_)
 refine Zcn (k := .i64) (a := 0) (b := 0) rfl rfl ?_
 refine Zab ?_
 refine ZaG (v := vT true) rfl rfl ?_
 refine Zab (Zae rfl (by simp only [EV,Nat.reduceEqDiff,↓reduceIte,he];try rfl) ?_)
 refine Zab (Zah (ZaN rfl (by simp only [EV,Nat.reduceEqDiff,↓reduceIte,he];try rfl)) ?_)
 refine Zae rfl he.2.2.2.1 ?_
 refine Zab (Zah (ZaN rfl (by simp only [EV,Nat.reduceEqDiff,↓reduceIte,he];try rfl)) ?_)
 refine Zcn (k := .i64) (a := 0) (b := 0) rfl rfl ?_
 refine Zab ?_
 refine ZaG (v := vT true) rfl rfl ?_
 refine Zab (Zae rfl (by simp only [EV,Nat.reduceEqDiff,↓reduceIte,he];try rfl) ?_)
 refine Zab (Zah (ZaN rfl (by simp only [EV,Nat.reduceEqDiff,↓reduceIte,he];try rfl)) ?_)
 refine Zae rfl he.2.2.2.2.1 ?_
 refine Zab (Zah (ZaN rfl (by simp only [EV,Nat.reduceEqDiff,↓reduceIte,he];try rfl)) ?_)
 refine Zcn (k := .i64) (a := 8) (b := 8) rfl rfl ?_
 refine Zab ?_
 refine ZaG (v := vT true) rfl rfl ?_
 refine Zab (Zae rfl (by simp only [EV,Nat.reduceEqDiff,↓reduceIte,he];try rfl) ?_)
 refine Zab (Zah (ZaN rfl (by simp only [EV,Nat.reduceEqDiff,↓reduceIte,he];try rfl)) ?_)
 refine Zae rfl he.2.2.2.2.2.1 ?_
 refine Zab (Zah (ZaN rfl (by simp only [EV,Nat.reduceEqDiff,↓reduceIte,he];try rfl)) ?_)
 refine Zdr (vs := [.raw (.int .u8 1), .raw (.int .u8 2)]) (cells := bys [1, 2]) rfl Zaw Zbf ZbT rfl (by omega) rfl rfl fun b56 σ9 hN9 hX9 => ?_
 refine Zab (Zah (ZaN rfl (by simp only [EV,Nat.reduceEqDiff,↓reduceIte,he];try rfl)) ?_)
 refine Zao (vs := [v7, .lst (some ⟨b56, 0, none⟩) 2 2 (bys [1, 2])]) (by simp only [List.map_cons, List.map_nil, EV,Nat.reduceEqDiff,↓reduceIte,he];try rfl) ?_
 refine ZjW (d1 := [1, 2]) (d2 := [1, 2]) (.inl ((hv7.ext hX8).ext hX9)) (.inr (Zec (d := [1, 2]) (Zd3 _ (by decide)))) (by decide) (by decide) _ fun σ10 hX10 => ?_
 rw [decide_eq_true rfl]
 refine Zab ?_
 refine ZaG (v := vT true) rfl rfl ?_
 refine Zab (Zae rfl (by simp only [EV,Nat.reduceEqDiff,↓reduceIte,he];try rfl) ?_)
 refine Zab (Zah (ZaN rfl (by simp only [EV,Nat.reduceEqDiff,↓reduceIte,he];try rfl)) ?_)
 refine Zae rfl he.2.2.2.2.2.2.2 ?_
 refine Zab ?_
 refine ZaG (v := vT true) rfl rfl ?_
 refine Zab (Zae rfl (by simp only [EV,Nat.reduceEqDiff,↓reduceIte,he];try rfl) ?_)
 refine Zab (Zah (ZaN rfl (by simp only [EV,Nat.reduceEqDiff,↓reduceIte,he];try rfl)) ?_)
 refine Zae rfl he.2.2.2.2.2.2.1 ?_
 refine Zab (Zah (ZaN rfl (by simp only [EV,Nat.reduceEqDiff,↓reduceIte,he];try rfl)) ?_)
 refine ZbS rfl ((hv8.ext hX9).ext hX10) rfl Zaw ?_
 refine Zab (Zah (ZaN rfl (by simp only [EV,Nat.reduceEqDiff,↓reduceIte,he];try rfl)) ?_)
 refine Zcn (k := .i64) (a := 0) (b := 0) rfl rfl ?_
 refine Zab ?_
 refine ZaG (v := vT true) rfl rfl ?_
 refine Zab (Zae rfl (by simp only [EV,Nat.reduceEqDiff,↓reduceIte,he];try rfl) ?_)
 refine Zab (Zah (ZaN rfl (by simp only [EV,Nat.reduceEqDiff,↓reduceIte,he];try rfl)) ?_)
 refine Zae rfl he.1 ?_
 refine Zab (Zah (ZaN rfl (by simp only [EV,Nat.reduceEqDiff,↓reduceIte,he];try rfl)) ?_)
 refine Zao (vs := [ptr bb 0]) (by simp only [List.map_cons, List.map_nil, EV,Nat.reduceEqDiff,↓reduceIte,he];try rfl) ?_
 have hX610 := ((hX7.trans hX8).trans hX9).trans hX10
 refine ZjZ (h6.ext hX610) (by decide) (by decide) fun σ11 hX11 => ?_
 refine Zab (Zah (ZaN rfl (by simp only [EV,Nat.reduceEqDiff,↓reduceIte,he];try rfl)) ?_)
 refine Zcn (k := .i64) (a := 0) (b := 0) rfl rfl ?_
 refine Zab ?_
 refine ZaG (v := vT true) rfl rfl ?_
 refine Zab (Zae rfl (by simp only [EV,Nat.reduceEqDiff,↓reduceIte,he];try rfl) ?_)
 refine Zaf ?_
 refine Zax ?_
 show ∃ r, Zaj _ _ _ _ r /\ _
 exact ⟨_, Zal rfl rfl, hK σ11 ((hE6.trans hX610).trans hX11)⟩
end
end Go.Proofs.Ytinpiaibhjmfaaa
