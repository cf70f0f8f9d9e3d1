/- XDva, XDg, XDca in one. -/
import Derived.Test.YtinpiaibhjmfaaaMe
import Derived.Test.YtinpiaibhjmfaaaMd
import Derived.Test.YtinpiaibhjmfaaaSk
import Derived.Test.YtinpiaibhjmfaaaNw
namespace Go.Proofs.Ytinpiaibhjmfaaa
open Go.RowKit
set_option maxRecDepth 100000
set_option linter.unusedVariables false
set_option linter.unusedSimpArgs false
theorem Zml {a n : Nat} : ∀ {bs : List Nat}, bs.Nodup -> (bs.map fun b => if a = b then n else 0).sum = if a ∈ bs then n else 0
 | [], _ => by simp
 | b :: bs, h => by
  rw [List.nodup_cons] at h
  rw [List.map_cons, List.sum_cons, Zml h.2]
  by_cases hab : a = b
  ·subst hab
   simp [h.1]
  ·simp [hab]
theorem Zb1 (b : Nat) (p : Nat × Nat) (l : List (Nat × Nat)) : Zb6 b (p :: l) = (if p.1 = b then p.2 else 0) + Zb6 b l := by
 rw [show p :: l = [p] ++ l from rfl, Zeq, Zer]
theorem Zfm (p : Nat × Nat) (l : List (Nat × Nat)) : ZbG (p :: l) = p.2 + ZbG l := by simp [ZbG]
theorem Zmm {α : Type} (f g : α -> Nat) : ∀ l : List α, (l.map fun x => f x + g x).sum = (l.map f).sum + (l.map g).sum
 | [] => rfl
 | x :: l => by
  rw [List.map_cons, List.sum_cons, Zmm f g l, List.map_cons, List.sum_cons, List.map_cons, List.sum_cons]
  omega
theorem Zp8 {bs : List Nat} (hn : bs.Nodup) : ∀ {pcs : List (Nat × Nat)}, (∀ p ∈ pcs, p.1 ∈ bs) -> (bs.map fun b => Zb6 b pcs).sum = ZbG pcs
 | [], _ => by
  rw [show (fun b => Zb6 b []) = fun _ => 0 from rfl]
  clear hn
  induction bs with
  | nil => rfl
  | cons b bs ih =>
   rw [List.map_cons, List.sum_cons, ih fun p hp => by cases hp]
   rfl
 | p :: l, h => by
  rw [show (fun b => Zb6 b (p :: l)) = fun b => (if p.1 = b then p.2 else 0) + Zb6 b l from funext fun b => Zb1 b p l, Zmm, Zml hn, if_pos (h p List.mem_cons_self), Zp8 hn fun q hq => h q (List.mem_cons_of_mem _ hq), Zfm]
theorem ZgH {α : Type} {f g : α -> Nat} : ∀ {l : List α}, (∀ x ∈ l, f x <= g x) -> (l.map f).sum <= (l.map g).sum
 | [], _ => Nat.le_refl _
 | x :: l, h => by
  rw [List.map_cons, List.sum_cons, List.map_cons, List.sum_cons]
  have := h x List.mem_cons_self
  have := ZgH fun y hy => h y (List.mem_cons_of_mem x hy)
  omega
theorem ZsV {σ : St} {bb mb : Nat} {S : Nat -> Prop} {fs : List Fl} {pcs : List (Nat × Nat)} {size : Int} {pv : AV} (h : DAt σ bb S fs pcs size mb pv) (hw : Wf fs pcs) : ZbG pcs <= sumD fs := by
 rw [<- Zp8 h.nd fun p hp => by
  obtain ⟨f, hf, e⟩ := h.inn p hp
  exact List.mem_map.2 ⟨f, hf, e⟩, List.map_map]
 exact ZgH fun f hf => hw.fit f hf
theorem Zrn {l m : List (Nat × Nat)} (h : l.Sublist m) : ZbG l <= ZbG m := by
 induction h with
 | slnil => exact Nat.le_refl _
 | cons a _ ih => rw [Zfm]; omega
 | cons_cons a _ ih => rw [Zfm, Zfm]; omega
theorem ZiA {l m : List (Nat × Nat)} (b : Nat) (h : l.Sublist m) : Zb6 b l <= Zb6 b m := Zrn (h.filter _)
theorem Wf.sub {fs fs' : List Fl} {pcs pcs' : List (Nat × Nat)} (h : Wf fs pcs) (h1 : ∀ f ∈ fs', f ∈ fs) (h2 : pcs'.Sublist pcs) : Wf fs' pcs' := ⟨fun p hp => h.pos p (h2.subset hp), fun f hf => Nat.le_trans (ZiA _ h2) (h.fit f (h1 f hf))⟩
theorem ZgI {l m : List Fl} (h : l.Sublist m) : sumD l <= sumD m := by
 have hc : ∀ (f : Fl) (l : List Fl), sumD (f :: l) = f.d.length + sumD l := fun f l => by simp [sumD]
 induction h with
 | slnil => exact Nat.le_refl _
 | cons a _ ih => rw [hc]; omega
 | cons_cons a _ ih => rw [hc, hc]; omega
theorem Zls (fs : List Fl) : ∀ (ns : List (List UInt8)) (pcs : List (Nat × Nat)), (ZeQ fs ns pcs).1.Sublist pcs
 | [], pcs => List.Sublist.refl _
 | n :: ns, pcs => by
  cases hg : Zf3 (ZaV fs) n with
  | none => rw [Zjk hg]; exact List.Sublist.refl _
  | some fb => rw [Zhb hg]; exact (Zls fs ns _).trans List.filter_sublist
theorem Zkm : ∀ (ns : List (List UInt8)) (fs : List Fl) (pcs : List (Nat × Nat)), (Zjm ns fs pcs).1.Sublist fs /\ (Zjm ns fs pcs).2.1.Sublist pcs
 | [], fs, pcs => ⟨List.Sublist.refl _, List.Sublist.refl _⟩
 | n :: ns, fs, pcs => by
  cases hg : Zf3 (ZaV fs) n with
  | none => rw [Zlq hg]; exact ⟨List.Sublist.refl _, List.Sublist.refl _⟩
  | some fb =>
   rw [Zlr hg]
   obtain ⟨h1, h2⟩ := Zkm ns (Zeb n fs) (pcs.filter fun p => !decide (p.1 = fb))
   exact ⟨h1.trans List.filter_sublist, h2.trans List.filter_sublist⟩
theorem Zhc (b c : Nat) : ∀ (m : Nat) (l : List (Nat × Nat)), Zb6 c (Zkt b m l) = if c = b then Zb6 b l - min m (Zb6 b l) else Zb6 c l
 | m, [] => by
  show Zb6 c [] = _
  rw [Zfj, Zfj]
  split <;> simp
 | m, p :: l => by
  unfold Zkt
  by_cases hp : p.1 = b
  ·rw [if_pos hp, Zb1, Zhc b c _ l, Zb1 b, Zb1 c]
   by_cases hc : c = b
   ·subst hc
    rw [if_pos hp, if_pos rfl, if_pos hp, if_pos rfl]
    dsimp only
    omega
   ·rw [if_neg hc, if_neg hc]
    dsimp only
    rw [if_neg (fun e => hc (by rw [<- e, hp])), if_neg (fun e => hc (by rw [<- e, hp]))]
  ·rw [if_neg hp, Zb1, Zhc b c _ l, Zb1 b, Zb1 c]
   by_cases hc : c = b
   ·subst hc
    rw [if_neg hp, if_pos rfl, if_pos rfl]
    omega
   ·rw [if_neg hc, if_neg hc]
theorem ZgJ (c : Nat) (l : List (Nat × Nat)) : Zb6 c l.reverse = Zb6 c l := by
 unfold Zb6 ZbG
 rw [List.filter_reverse, List.map_reverse, List.sum_reverse]
theorem Zp9 (b c m : Nat) (l : List (Nat × Nat)) : Zb6 c (shr b m l) = if c = b then Zb6 b l - min m (Zb6 b l) else Zb6 c l := by
 unfold shr
 rw [ZgJ, Zhc, ZgJ, ZgJ]
theorem Zjn : ∀ (ps : List (Nat × Nat)) (L : Nat) (l : FD), (ZbY L l ps).map (fun f => (f.1, f.2.1)) = l.map fun f => (f.1, f.2.1)
 | [], L, l => rfl
 | p :: ps, L, l => by
  unfold ZbY
  rw [Zjn ps]
  unfold Zos
  rw [List.map_map]
  refine List.map_congr_left fun f _ => ?_
  simp only [Function.comp]
  split <;> rfl
theorem Zjo : ∀ (ps : List (Nat × Nat)) (L : Nat) (l : FD), ((ZbY L l ps).map (·.2.2.length)).sum <= (l.map (·.2.2.length)).sum
 | [], L, l => Nat.le_refl _
 | p :: ps, L, l => by
  unfold ZbY
  refine Nat.le_trans (Zjo ps _ _) ?_
  unfold Zos
  rw [List.map_map]
  refine ZgH fun f _ => ?_
  simp only [Function.comp]
  split
  ·dsimp only
   rw [List.length_take]
   omega
  ·exact Nat.le_refl _
structure Inv (υ : St) (bb mb : Nat) (size : Int) (S : Nat -> Prop) (fs : List Fl) (pcs : List (Nat × Nat)) (pv : AV) (M B : Nat) : Prop where
 disk : DAt υ bb S fs pcs size mb pv
 used : ∀ c, S c -> υ.used c
 wf : Wf fs pcs
 nms : ∀ f ∈ fs, f.nm.length <= 40
 sum : sumD fs <= B
 few : pcs.length <= M
 nfs : fs.length <= M
 cap : 0 < size -> (sumD fs : Int) <= size
section
variable {σ τ : St} {bb mb : Nat} {size : Int} {S : Nat -> Prop} {fs : List Fl} {pcs : List (Nat × Nat)} {pv : AV} {M B : Nat}
theorem Inv.ext (h : Inv σ bb mb size S fs pcs pv M B) (k : Ext σ τ) : Inv τ bb mb size S fs pcs pv M B := ⟨h.disk.ext k, fun c hc => k.used _ (h.used c hc), h.wf, h.nms, h.sum, h.few, h.nfs, h.cap⟩
theorem Inv.more (h : Inv σ bb mb size S fs pcs pv M B) {M' B' : Nat} (h1 : M <= M') (h2 : B <= B') : Inv σ bb mb size S fs pcs pv M' B' := ⟨h.disk, h.used, h.wf, h.nms, Nat.le_trans h.sum h2, Nat.le_trans h.few h1, Nat.le_trans h.nfs h1, h.cap⟩
theorem Inv.file (h : Inv σ bb mb size S fs pcs pv M B) (hB : B <= 1000000000) : ∀ f ∈ fs, f.d.length <= 1000000000 := fun f hf => by
 have := ZeH hf
 have := h.sum
 omega
theorem Inv.pcs_ (h : Inv σ bb mb size S fs pcs pv M B) (hB : B <= 1000000000) : ZbG pcs <= 1000000000 := by
 have := ZsV h.disk h.wf
 have := h.sum
 omega
theorem Inv.pc (h : Inv σ bb mb size S fs pcs pv M B) (hB : B <= 1000000000) : ∀ p ∈ pcs, p.2 <= 1000000000 := fun p hp => by
 have := Zkd hp
 have := h.pcs_ hB
 omega
theorem Inv.sub (h : Inv σ bb mb size S fs pcs pv M B) {fs' : List Fl} {pcs' : List (Nat × Nat)} {pv' : AV} (hd : DAt τ bb S fs' pcs' size mb pv') (hB : But S σ τ) (h1 : fs'.Sublist fs) (h2 : pcs'.Sublist pcs) : Inv τ bb mb size S fs' pcs' pv' M B :=
 ⟨hd, fun c hc => hB.used _ (h.used c hc), h.wf.sub (fun f hf => h1.subset hf) h2, fun f hf => h.nms f (h1.subset hf), Nat.le_trans (ZgI h1) h.sum, Nat.le_trans h2.length_le h.few, Nat.le_trans h1.length_le h.nfs, fun hs => by
  have := h.cap hs
  have := ZgI h1
  omega⟩
theorem Inv.app (h : Inv σ bb mb size S fs pcs pv M B) {S' : Nat -> Prop} {fs' : List Fl} {pcs' : List (Nat × Nat)} {pv' : AV} {k d : List UInt8} (hd : DAt τ bb S' fs' pcs' size mb pv') (hu : ∀ c, S' c -> τ.used c) (ha : ZtU fs pcs k d fs' pcs') (hk : k.length <= 40) (hf : size < 1 \/ ((d.length + sumD fs : Nat) : Int) <= size) : Inv τ bb mb size S' fs' pcs' pv' (M + 1) (B + d.length) := by
 obtain ⟨w1, w2, w3, w4⟩ := Zke h.disk hd ha h.wf
 have hn : ∀ f ∈ fs', f.nm.length <= 40 /\ fs'.length <= fs.length + 1 := fun f hf => by
  have hm := ZdS hf
  have hlen : fs'.length = (dat fs').length := by simp [dat]
  have hlen2 : fs.length = (dat fs).length := by simp [dat]
  rcases Zfk h.disk hd ha with ⟨nb, _, _, g1, _⟩ | ⟨f0, _, _, g1, _⟩
  ·rw [g1] at hm
   refine ⟨?_, by rw [hlen, g1, List.length_append, <- hlen2]; exact Nat.le_refl _⟩
   rcases List.mem_append.1 hm with hm | hm
   ·obtain ⟨g, hg, e⟩ := Zhr hm
    injection e with e _
    rw [e]; exact h.nms g hg
   ·have e := List.mem_singleton.1 hm
    injection e with e _
    rw [e]; exact hk
  ·rw [g1] at hm
   refine ⟨?_, by rw [hlen, g1]; unfold Zri; rw [List.length_map, <- hlen2]; omega⟩
   obtain ⟨q, hq, e⟩ := List.mem_map.1 hm
   obtain ⟨g, hg, rfl⟩ := Zhr hq
   have : f.nm = g.nm := by
    dsimp only at e
    split at e
    ·injection e with e _; exact e.symm
    ·injection e with e _; exact e.symm
   rw [this]; exact h.nms g hg
 refine ⟨hd, hu, w1, fun f hf => (hn f hf).1, by have := h.sum; omega, by have := h.few; omega, ?_, fun hs => ?_⟩
 ·cases hfs : fs' with
  | nil => exact Nat.zero_le _
  | cons f l =>
   have := (hn f (by rw [hfs]; exact List.mem_cons_self)).2
   have := h.nfs
   rw [hfs] at *
   omega
 ·rcases hf with q | q
  ·omega
  ·rw [w4]; omega
theorem Inv.cutI (h : Inv σ bb mb size S fs pcs pv M B) {f0 : Fl} (hf0 : f0 ∈ fs) {n : Nat} (hn : n <= f0.d.length) {v' pv' : AV} (hd : DAt τ bb S (fs.map (Zcd f0.b v' (f0.d.take n))) ((shr f0.b (f0.d.length - n) pcs).filter fun p => !decide (p.2 = 0)) size mb pv') (hB : But S σ τ) : Inv τ bb mb size S (fs.map (Zcd f0.b v' (f0.d.take n))) ((shr f0.b (f0.d.length - n) pcs).filter fun p => !decide (p.2 = 0)) pv' M B := by
 have hs : sumD (fs.map (Zcd f0.b v' (f0.d.take n))) <= sumD fs := by
  unfold sumD
  rw [List.map_map]
  refine ZgH fun f hf => ?_
  simp only [Function.comp]
  unfold Zcd
  split
  ·rename_i hb
   rw [h.disk.uniq hf hf0 hb]
   show (f0.d.take n).length <= _
   rw [List.length_take]
   omega
  ·exact Nat.le_refl _
 refine ⟨hd, fun c hc => hB.used _ (h.used c hc), ⟨fun p hp => ?_, fun f hf => ?_⟩, fun f hf => ?_, Nat.le_trans hs h.sum, ?_, by rw [List.length_map]; exact h.nfs, fun q => by have := h.cap q; omega⟩
 ·have := (List.mem_filter.1 hp).2
  simp at this
  omega
 ·obtain ⟨g, hg, rfl⟩ := List.mem_map.1 hf
  rw [ZdN]
  refine Nat.le_trans (ZiA _ List.filter_sublist) ?_
  rw [Zp9]
  have hfit := h.wf.fit g hg
  by_cases hb : g.b = f0.b
  ·have : g = f0 := h.disk.uniq hg hf0 hb
   subst this
   rw [if_pos rfl]
   unfold Zcd
   rw [if_pos rfl]
   show _ <= (g.d.take n).length
   rw [List.length_take]
   omega
  ·rw [if_neg hb]
   unfold Zcd
   rw [if_neg hb]
   exact hfit
 ·obtain ⟨g, hg, rfl⟩ := List.mem_map.1 hf
  rw [Zj7]
  exact h.nms g hg
 ·have h1 := List.length_filter_le (fun p : Nat × Nat => !decide (p.2 = 0)) (shr f0.b (f0.d.length - n) pcs)
  rw [Zme] at h1
  exact Nat.le_trans h1 h.few
theorem Inv.renI (h : Inv σ bb mb size S fs pcs pv M B) {f0 : Fl} (hf0 : f0 ∈ fs) {to : List UInt8} (hto : to.length <= 40) (hne : f0.nm ≠ to) {pv' : AV} (hd : DAt τ bb S (rnF fs f0 to) (rnP fs pcs to) size mb pv') (hB : But S σ τ) : Inv τ bb mb size S (rnF fs f0 to) (rnP fs pcs to) pv' M B := by
 have hp : (rnP fs pcs to).Sublist pcs := by
  unfold rnP
  split
  ·exact List.Sublist.refl _
  ·exact List.filter_sublist
 have hlen : ∀ l : List Fl, f0 ∈ l -> (Zeb f0.nm l).length + 1 <= l.length /\ sumD (Zeb f0.nm l) + f0.d.length <= sumD l := fun l => by
  have hc : ∀ (f : Fl) (l : List Fl), sumD (f :: l) = f.d.length + sumD l := fun f l => by simp [sumD]
  induction l with
  | nil => intro q; cases q
  | cons a l ih =>
   intro q
   have hs1 := ZgI (List.filter_sublist (p := fun f : Fl => !decide (f.nm = f0.nm)) (l := l))
   have hs2 := List.length_filter_le (fun f : Fl => !decide (f.nm = f0.nm)) l
   rcases List.mem_cons.1 q with rfl | q
   ·have e : Zeb f0.nm (f0 :: l) = Zeb f0.nm l := by simp [Zeb]
    rw [e, hc, List.length_cons]
    show (Zeb f0.nm l).length + 1 <= _ /\ _
    unfold Zeb
    constructor <;> omega
   ·obtain ⟨i1, i2⟩ := ih q
    by_cases ha : a.nm = f0.nm
    ·have e : Zeb f0.nm (a :: l) = Zeb f0.nm l := by simp [Zeb, ha]
     rw [e, hc, List.length_cons]
     constructor <;> omega
    ·have e : Zeb f0.nm (a :: l) = a :: Zeb f0.nm l := by simp [Zeb, ha]
     rw [e, hc, hc, List.length_cons, List.length_cons]
     constructor <;> omega
 obtain ⟨l1, l2⟩ := hlen (Zeb to fs) (Zdv.2 ⟨hf0, hne⟩)
 have l3 := List.length_filter_le (fun f : Fl => !decide (f.nm = to)) fs
 have l4 := ZgI (List.filter_sublist (p := fun f : Fl => !decide (f.nm = to)) (l := fs))
 have hsum : sumD (rnF fs f0 to) <= sumD fs := by
  unfold rnF sumD
  rw [List.map_append, List.sum_append]
  simp only [List.map_cons, List.map_nil, List.sum_cons, List.sum_nil]
  unfold sumD at l2 l4
  unfold Zeb at l2 ⊢
  omega
 have hmem : ∀ f ∈ rnF fs f0 to, (∃ g ∈ fs, g.b = f.b /\ g.d = f.d) /\ f.nm.length <= 40 := fun f hf => by
  rcases List.mem_append.1 hf with hf | hf
  ·have hf2 := (Zdv.1 (Zdv.1 hf).1).1
   exact ⟨⟨f, hf2, rfl, rfl⟩, h.nms f hf2⟩
  ·rw [List.mem_singleton.1 hf]
   exact ⟨⟨f0, hf0, rfl, rfl⟩, hto⟩
 refine ⟨hd, fun c hc => hB.used _ (h.used c hc), ⟨fun p hp2 => h.wf.pos p (hp.subset hp2), fun f hf => ?_⟩, fun f hf => (hmem f hf).2, Nat.le_trans hsum h.sum, Nat.le_trans hp.length_le h.few, ?_, fun q => by have := h.cap q; omega⟩
 ·obtain ⟨g, hg, e1, e2⟩ := (hmem f hf).1
  rw [<- e1, <- e2]
  exact Nat.le_trans (ZiA _ hp) (h.wf.fit g hg)
 ·unfold rnF
  rw [List.length_append]
  have := h.nfs
  unfold Zeb at l1 ⊢
  simp only [List.length_cons, List.length_nil]
  omega
theorem Inv.crashI (h : Inv σ bb mb size S fs pcs pv M B) {fs' : List Fl} {L : Nat} (hd : DAt τ bb S fs' [] size mb (.lst none 0 0 [])) (hdat : dat fs' = ZbY L (dat fs) pcs.reverse) (hB : But S σ τ) : Inv τ bb mb size S fs' [] (.lst none 0 0 []) M B := by
 have hs : sumD fs' <= sumD fs := by
  rw [Zd8, Zd8, hdat]
  exact Zjo _ _ _
 have hfst := Zjn pcs.reverse L (dat fs)
 rw [<- hdat] at hfst
 have hl : fs'.length = fs.length := by
  have := congrArg List.length hfst
  simpa [dat] using this
 refine ⟨hd, fun c hc => hB.used _ (h.used c hc), ⟨(fun p hp => by cases hp), fun f hf => Nat.zero_le _⟩, fun f hf => ?_, Nat.le_trans hs h.sum, Nat.zero_le _, by rw [hl]; exact h.nfs, fun q => by have := h.cap q; omega⟩
 have hm : (f.nm, f.b) ∈ (dat fs').map fun f => (f.1, f.2.1) := List.mem_map.2 ⟨_, ZdS hf, rfl⟩
 rw [hfst] at hm
 obtain ⟨q, hq, e⟩ := List.mem_map.1 hm
 obtain ⟨g, hg, rfl⟩ := Zhr hq
 injection e with e _
 have e : g.nm = f.nm := e
 rw [<- e]
 exact h.nms g hg
end
end Go.Proofs.Ytinpiaibhjmfaaa
namespace Go.Proofs.Ytinpiaibhjmfaaa
open Go.RowKit Go.Maps Go.Sort
set_option maxRecDepth 100000
set_option linter.unusedVariables false
set_option linter.unusedSimpArgs false
theorem Zqa {H : Type} (W : World) (Bm b nn : Nat) (D0 : DataW H) (R : Value -> Option (DataW H × List MemPlace)) (hB : Bm < W.heap.size) (hc : W.cell? ⟨Bm, 0, none⟩ = some (.map (some b))) (hown : W.ownsMap Try.prog 9 R b nn D0) (hmax : Maps.size D0 <= maxLen) (hbytes : Maps.size D0 * 16 <= 140737488355328) :
 CallsIn Fence.wide 5 Try.prog 59 #[.func (.func 77) #[] #[.pointer (some ⟨Bm, 0, none⟩)]] W fun e w' => ∃ (v : Value) (ss : List (List UInt8)), e = .returned v /\ ss.Perm (strKeys D0) /\
  w'.ownsRow W.heap.size 9 1 v ss.length ((ss.mergeSort (fun x y => decide (x <= y))).map encStr) /\ (v = .slice none 0 0 ↔ ss = []) /\ Below W.heap.size W w' := by
 have hseq : SeqGives Fence.wide 2 Try.prog 77 #[.pointer (some ⟨Bm, 0, none⟩)] encStr (fun ss => ss.Perm (strKeys D0)) (Maps.size D0) W :=
  AnyZ.keys_gives (ρ := Try.keys60_ren) { Try.keys60 with } Fence.wide _ trivial rfl (by omega) Bm b nn D0 _ hB hc hown
 exact AnyZ.sorted_in Try.sorted59 Fence.wide 5 trivial trivial trivial trivial rfl (by omega) (Try.sorts59 _) (enters_of Try.func76 (by kernel_rfl) rfl) 77 #[.pointer (some ⟨Bm, 0, none⟩)] trivial (enters_of Try.func77 (by kernel_rfl) rfl) _ _ hmax hbytes _ hseq
def srt (l : List (List UInt8)) : List (List UInt8) := l.mergeSort leB
theorem ZhJ (l : List (List UInt8)) : (srt l).Perm l := List.mergeSort_perm l leB
abbrev R0 : Value -> Option (DataW Unit × List MemPlace) := fun _ => some (.nil, [])
theorem ZtZ {s : List UInt8} (h : s.length <= maxLen) : keyOf Try.prog 9 (sV s) = some (.string s) := by
 unfold keyOf mapKey
 rw [Zel]
 dsimp only
 rw [if_pos (by simpa [ByteArray.size] using h)]
section
variable {σ : St} {bb mb : Nat} {S : Nat -> Prop} {fs : List Fl} {pcs : List (Nat × Nat)} {size : Int} {pv : AV} {K : AV -> St -> Prop}
theorem Zqb (h : DAt σ bb S fs pcs size mb pv) (hnl : ∀ f ∈ fs, f.nm.length <= 1000000000) (hfl : fs.length <= 1000000000) {nb : Nat} (hnb : σ.blk nb = some (.own 63 [Zbv mb])) (hnu : σ.used nb)
 (hK : ∀ v τ, Hd τ 9 1 v (srt (fs.map (·.nm))).length (Zj9 (srt (fs.map (·.nm)))) -> Ext σ τ -> (∀ c, hbk v = some c -> Zde σ c) -> K v τ) : Zau Try.prog 59 [fnV 77 #[.pointer (some ⟨nb, 0, none⟩)]] σ K := by
 intro w Z hH hV
 refine .inl ⟨by kernel_rfl, ?_⟩
 obtain ⟨_, arr, c, hh, hM⟩ := hH.mapAt h.map (Zds _)
 have hkeys := Znx h hM
 have hcell : w.cell? ⟨nb, 0, none⟩ = some (.map (some mb)) := ZhG hH hnb (j := 0) (d := Zbv mb) rfl
 have hrd : ∀ x ∈ arr.toList, ∃ f ∈ fs, x.key = sV f.nm /\ WideElems.rd Try.prog 9 R0 x = some (.string f.nm, .nil) := fun x hx => by
  obtain ⟨f, hf, hk, _⟩ := Zny hM hx
  refine ⟨f, hf, hk, ?_⟩
  unfold WideElems.rd
  rw [hk, ZtZ (by have := hnl f hf; unfold maxLen; omega)]
  rfl
 have hsz : arr.size = fs.length := by
  have := congrArg List.length hM.1
  simpa [Zei, ZaV] using this
 have hown : w.ownsMap Try.prog 9 R0 mb arr.size (.map ((arr.toList.map (WideElems.rg Try.prog 9 R0)).foldr DataW.insert [])) :=
  ⟨arr, c, hh, ⟨by rw [hsz]; unfold maxLen; omega, ⟨fun x hx => hM.2.1 _ (List.mem_map.2 ⟨x, hx, rfl⟩), hM.2.2, hkeys⟩, fun x hx => by
   obtain ⟨f, _, _, q⟩ := hrd x hx
   exact ⟨_, q⟩⟩, Nat.le_refl _, rfl⟩
 have hsk : (strKeys (.map ((arr.toList.map (WideElems.rg Try.prog 9 R0)).foldr DataW.insert [])) : List (List UInt8)).Perm (fs.map (·.nm)) := by
  have e1 : ((arr.toList.map (WideElems.rg Try.prog 9 R0)).map fun p => strOf p.1) = fs.map (·.nm) := by
   have e2 : (arr.toList.map (·.key)) = (fs.map (·.nm)).map sV := by
    have : arr.toList.map (·.key) = (arr.toList.map fun e : MapEntry => (e.key, e.val)).map (·.1) := by rw [List.map_map]; rfl
    rw [this, hM.1]
    unfold Zei ZaV
    rw [List.map_map, List.map_map, List.map_map]
    rfl
   have hrd2 := hrd
   generalize arr.toList = L at e2 hrd2 ⊢
   generalize fs.map (·.nm) = N at e2 ⊢
   clear hrd hown hkeys hcell hK hV hH hnb hnu hM h hsz hh
   induction L generalizing N with
   | nil => cases N with
    | nil => rfl
    | cons a N => simp at e2
   | cons x L ih => cases N with
    | nil => simp at e2
    | cons a N =>
     simp only [List.map_cons, List.cons.injEq] at e2 ⊢
     obtain ⟨f, _, hk, q⟩ := hrd2 x List.mem_cons_self
     refine ⟨?_, ih (fun y hy => hrd2 y (List.mem_cons_of_mem _ hy)) N e2.2⟩
     unfold WideElems.rg
     rw [q]
     have := e2.1
     rw [hk] at this
     show strOf (Lit.string f.nm) = a
     rw [<- Znw this]
     rfl
  rw [<- e1]
  exact (WideShapes.sorted_perm _).map _
 have hms : Maps.size (.map ((arr.toList.map (WideElems.rg Try.prog 9 R0)).foldr DataW.insert []) : DataW Unit) <= 1000000000 := by
  have : (strKeys (.map ((arr.toList.map (WideElems.rg Try.prog 9 R0)).foldr DataW.insert [])) : List (List UInt8)).length = fs.length := by
   rw [hsk.length_eq, List.length_map]
  have e : (strKeys (.map ((arr.toList.map (WideElems.rg Try.prog 9 R0)).foldr DataW.insert [])) : List (List UInt8)).length = Maps.size (.map ((arr.toList.map (WideElems.rg Try.prog 9 R0)).foldr DataW.insert []) : DataW Unit) := by
   unfold strKeys Maps.size
   simp
  omega
 have hcall := callsIn_wide.1 (Zqa w nb mb arr.size _ R0 (hH.used _ hnu) hcell hown (by unfold maxLen; omega) (by omega))
 refine Calls.mono hcall ?_
 rintro e w' ⟨v, ss, rfl, hp, hrow, hnil, hbel⟩
 have hss : (ss.mergeSort fun x y => decide (x <= y)) = srt (fs.map (·.nm)) := mergeSort_of_perm (hp.trans hsk)
 rw [hss] at hrow
 have hlen : ss.length = (srt (fs.map (·.nm))).length := by rw [(ZhJ _).length_eq, (hp.trans hsk).length_eq]
 rw [hlen] at hrow
 generalize hL : srt (fs.map (·.nm)) = L at hrow hlen hK
 rcases hrow.2 with ⟨rfl, hz⟩ | ⟨g, cap, cur, rfl, hg, hgh, r1, r2, r3, r4⟩
 ·have hL0 : L = [] := List.eq_nil_of_length_eq_zero hz
  subst hL0
  exact ⟨.lst none 0 0 [], σ, rfl, hK _ σ ⟨rfl, by simp [Zj9], .inl ⟨.inl rfl, rfl⟩⟩ (.refl _) (fun c hc => by cases hc), hH.below_same hbel, Za1, Grow.below_same hH hbel⟩
 ·obtain ⟨f1, f2⟩ := hH.fresh_of hg
  rw [Nat.mul_one] at r3 r4
  have hcur : (Zj9 L ++ (cur.toList.drop L.length).map AV.raw).map AV.val = cur.toList := by
   conv => rhs; rw [<- List.take_append_drop L.length cur.toList, r4]
   simp [Zj9, Function.comp_def, encStr]
  have hX : Ext σ (σ.put g (.own 9 (Zj9 L ++ (cur.toList.drop L.length).map AV.raw))) := Ext.put _ f2
  have hcl : (Zj9 L ++ (cur.toList.drop L.length).map AV.raw).length = cap * 1 := by
   have := congrArg List.length hcur
   rw [List.length_map] at this
   rw [this, Array.length_toList, r3, Nat.mul_one]
  refine ⟨hdr g L.length cap, _, rfl, hK _ _ ⟨by rw [Zka, Nat.mul_one], fun a ha => ?_, ?_⟩ hX fun c hc => ?_, hH.new_own hbel hg 9 _ (by rw [hcur]; exact hgh) ?_, Zak _, Grow.below hH hbel hg _⟩
  ·obtain ⟨s, _, rfl⟩ := List.mem_map.1 ha; rfl
  ·rcases Nat.eq_zero_or_pos cap with hc0 | hc0
   ·refine .inl ⟨.inr ⟨⟨g, 0, none⟩, ?_⟩, by omega⟩
    have : L.length = 0 := by omega
    unfold hdr
    rw [this, hc0]
   ·refine .inr ⟨g, cap, _, hc0, rfl, ZaE _ _ _, .inr rfl, hcl, ?_, r1, r2⟩
    rw [Nat.mul_one]
    exact List.take_left' (Zka L)
  ·rw [<- Zhn hc]; exact ⟨f2, f1⟩
  ·intro c hc
   rcases List.mem_append.1 hc with hc | hc
   ·obtain ⟨s, _, rfl⟩ := List.mem_map.1 hc; exact ⟨_, rfl⟩
   ·obtain ⟨s, _, rfl⟩ := List.mem_map.1 hc; exact ⟨_, rfl⟩
theorem ZsW (hK : ∀ nb τ, τ.blk nb = some (.own 63 [Zbv mb]) -> τ.used nb -> Ext σ τ -> K (fnV 77 #[.pointer (some ⟨nb, 0, none⟩)]) τ) : Zau Try.prog 60 [Zbv mb] σ K := by
 refine ZaA ZaL Try.func60 rfl rfl rfl (Nat.le_of_ble_eq_true rfl) ?_
 refine ZdU 0 (v0 := Zbv mb) rfl ?_
 intro e he
 first | refine Zaa ?_ | refine Zad ?_ | (refine Zac ?_; refine Zaa ?_) | (refine Zac ?_; refine Zac ?_; refine Zaa ?_)
 refine Zab ?_
 refine ZfU (cs := [Zbv mb]) (v := Zbv mb) (by simp only [EV, Nat.reduceEqDiff, ↓reduceIte, he] <;> try rfl) rfl fun nb τ hn hu hb hub hX => ?_
 refine Zab (Zai rfl (by simp only [EV, Nat.reduceEqDiff, ↓reduceIte, he] <;> try rfl) ?_)
 refine Zah ?_
 apply ZdU 1
 ·simp only [EV, Nat.reduceEqDiff, ↓reduceIte, he] <;> try rfl
 clear he e
 intro e he
 first | refine Zaa ?_ | refine Zad ?_ | (refine Zac ?_; refine Zaa ?_) | (refine Zac ?_; refine Zac ?_; refine Zaa ?_)
 refine Zab ?_
 refine ZgE (vs := [ptr nb 0]) (by simp only [List.map_cons, List.map_nil, EV, Nat.reduceEqDiff, ↓reduceIte, he] <;> try rfl) ?_
 refine Zab (Zai rfl (by simp only [EV, Nat.reduceEqDiff, ↓reduceIte, he] <;> try rfl) ?_)
 refine Zah ?_
 refine ZaW ?_
 show ∃ r, Zan _ _ _ _ r /\ _
 exact ⟨_, ZaD rfl (by simp only [EV, Nat.reduceEqDiff, ↓reduceIte, he] <;> try rfl), hK nb τ hb hub hX⟩
theorem Zkn (h : DAt σ bb S fs pcs size mb pv) (hnl : ∀ f ∈ fs, f.nm.length <= 1000000000) (hfl : fs.length <= 1000000000)
 (hK : ∀ v τ, Hd τ 9 1 v (srt (fs.map (·.nm))).length (Zj9 (srt (fs.map (·.nm)))) -> Ext σ τ -> (∀ c, hbk v = some c -> Zde σ c) -> K v τ) : Zau Try.prog 28 [ptr bb 0] σ K := by
 refine ZaA ZaL Try.func28 rfl rfl rfl (Nat.le_of_ble_eq_true rfl) ?_
 refine ZdU 0 (v0 := ptr bb 0) rfl ?_
 intro e he
 first | refine Zaa ?_ | refine Zad ?_ | (refine Zac ?_; refine Zaa ?_) | (refine Zac ?_; refine Zac ?_; refine Zaa ?_)
 refine Zab (Zai rfl (by simp only [EV, Nat.reduceEqDiff, ↓reduceIte, he] <;> try rfl) ?_)
 refine Zah ?_
 apply ZdU 0
 ·simp only [EV, Nat.reduceEqDiff, ↓reduceIte, he] <;> try rfl
 clear he e
 intro e he
 first | refine Zaa ?_ | refine Zad ?_ | (refine Zac ?_; refine Zaa ?_) | (refine Zac ?_; refine Zac ?_; refine Zaa ?_)
 refine Zab (Zai rfl (by simp only [EV, Nat.reduceEqDiff, ↓reduceIte, he] <;> try rfl) ?_)
 refine Zab ?_
 refine Zas (vs := [ptr bb 0]) (by simp only [List.map_cons, List.map_nil, EV, Nat.reduceEqDiff, ↓reduceIte, he] <;> try rfl) ?_
 refine Zd7 h ?_
 refine Zab ?_
 with_reducible apply Zda
 case hx => simp only [EV, Nat.reduceEqDiff, ↓reduceIte, he] <;> try rfl
 refine Zah ?_
 apply ZcW 0 5
 ·simp only [EV, Nat.reduceEqDiff, ↓reduceIte, he] <;> try rfl
 ·simp only [EV, Nat.reduceEqDiff, ↓reduceIte, he] <;> try rfl
 clear he e
 intro e he
 refine ZaX (t := false) (by simp only [EV, Nat.reduceEqDiff, ↓reduceIte, he] <;> try rfl) (fun hf => by cases hf) (fun _ => ?_)
 refine Zbb ?_
 first | refine Zaa ?_ | refine Zad ?_ | (refine Zac ?_; refine Zaa ?_) | (refine Zac ?_; refine Zac ?_; refine Zaa ?_)
 refine Zab (Zai rfl (by simp only [EV, Nat.reduceEqDiff, ↓reduceIte, he] <;> try rfl) ?_)
 refine Zab ?_
 refine Zam (v := ptr bb 0) (by simp only [EV, Nat.reduceEqDiff, ↓reduceIte, he] <;> try rfl) rfl ?_
 refine Zab ?_
 refine Zae (b := bb) (o := 0) (by simp only [EV, Nat.reduceEqDiff, ↓reduceIte, he] <;> try rfl) Za3 rfl ?_
 refine Zab ?_
 refine Zar (b := bb) (o := 0 + 1) (r := Zbv mb) (by simp only [EV, Nat.reduceEqDiff, ↓reduceIte, he] <;> try rfl) h.obj ZcN ZcM rfl ?_
 refine Zab ?_
 refine Zas (vs := [Zbv mb]) (by simp only [List.map_cons, List.map_nil, EV, Nat.reduceEqDiff, ↓reduceIte, he] <;> try rfl) ?_
 refine ZsW fun nb τ hb hub hX => ?_
 refine Zab ?_
 refine Zas (vs := [fnV 77 #[.pointer (some ⟨nb, 0, none⟩)]]) (by simp only [List.map_cons, List.map_nil, EV, Nat.reduceEqDiff, ↓reduceIte, he] <;> try rfl) ?_
 refine Zqb (h.ext hX) hnl hfl hb hub fun v τ2 hv hX2 hn => ?_
 refine Zab (Zai rfl (by simp only [EV, Nat.reduceEqDiff, ↓reduceIte, he] <;> try rfl) ?_)
 refine Zah ?_
 refine ZaW ?_
 show ∃ r, Zan _ _ _ _ r /\ _
 exact ⟨_, ZaD rfl (by simp only [EV, Nat.reduceEqDiff, ↓reduceIte, he] <;> try rfl), hK v τ2 hv (hX.trans hX2) fun c hc => (hn c hc).of hX⟩
end
end Go.Proofs.Ytinpiaibhjmfaaa
namespace Go.Proofs.Ytinpiaibhjmfaaa
open Go.RowKit
set_option maxRecDepth 100000
set_option linter.unusedVariables false
set_option linter.unusedSimpArgs false
def ZiS (b : Nat) : Nat -> List (Nat × Nat) -> Nat
 | _, [] => 0
 | L, p :: ps => (if p.1 = b then min L p.2 else 0) + ZiS b (L - min L p.2) ps
theorem Zqc (b L : Nat) (p : Nat × Nat) (ps : List (Nat × Nat)) : ZiS b L (p :: ps) = (if p.1 = b then min L p.2 else 0) + ZiS b (L - min L p.2) ps := rfl
theorem Zlt (b : Nat) : ∀ (ps : List (Nat × Nat)) {L L' : Nat}, L <= L' -> ZiS b L ps <= ZiS b L' ps
 | [], _, _, _ => Nat.le_refl _
 | p :: ps, L, L', h => by
  unfold ZiS
  have := Zlt b ps (show L - min L p.2 <= L' - min L' p.2 by omega)
  split <;> omega
theorem Zqd (b : Nat) : ∀ (ps : List (Nat × Nat)) (L : Nat), ZiS b L ps <= Zb6 b ps
 | [], _ => Nat.le_refl _
 | p :: ps, L => by
  unfold ZiS
  rw [Zb1]
  have := Zqd b ps (L - min L p.2)
  split <;> omega
theorem Znz {bs : List Nat} (hn : bs.Nodup) : ∀ (ps : List (Nat × Nat)) (L : Nat), (∀ p ∈ ps, p.1 ∈ bs) -> (bs.map fun b => ZiS b L ps).sum = min L (ZbG ps)
 | [], L, _ => by
  rw [show (fun b => ZiS b L []) = fun _ => 0 from rfl, Znr, Nat.min_zero]
  clear hn
  induction bs with
  | nil => rfl
  | cons b bs ih => rw [List.map_cons, List.sum_cons, ih fun p hp => by cases hp]
 | p :: ps, L, h => by
  rw [show (fun b => ZiS b L (p :: ps)) = fun b => (if p.1 = b then min L p.2 else 0) + ZiS b (L - min L p.2) ps from rfl, Zmm, Zml hn, if_pos (h p List.mem_cons_self), Znz hn ps _ fun q hq => h q (List.mem_cons_of_mem _ hq), Zfm]
  omega
theorem ZnA {g : Nat -> Nat} {b : Nat} : ∀ (ps : List (Nat × Nat)) (L : Nat), (∀ p ∈ ps, g p.1 = g b ↔ p.1 = b) -> ZiS (g b) L (ps.map fun p => (g p.1, p.2)) = ZiS b L ps
 | [], L, _ => rfl
 | p :: ps, L, h => by
  have h1 := h p List.mem_cons_self
  rw [List.map_cons]
  unfold ZiS
  rw [ZnA ps _ fun q hq => h q (List.mem_cons_of_mem _ hq)]
  by_cases hb : p.1 = b
  ·rw [if_pos hb, if_pos (h1.2 hb)]
  ·rw [if_neg hb, if_neg fun e => hb (h1.1 e)]
theorem ZiB : ∀ (ps : List (Nat × Nat)) (L : Nat) (l : FD), ZbY L l ps = l.map fun f => (f.1, f.2.1, f.2.2.take (f.2.2.length - ZiS f.2.1 L ps))
 | [], L, l => by
  show l = _
  conv => lhs; rw [<- List.map_id l]
  refine List.map_congr_left fun f _ => ?_
  show f = (f.1, f.2.1, f.2.2.take (f.2.2.length - 0))
  rw [Nat.sub_zero, List.take_length]
 | p :: ps, L, l => by
  unfold ZbY
  rw [ZiB ps]
  unfold Zos
  rw [List.map_map]
  refine List.map_congr_left fun f _ => ?_
  simp only [Function.comp]
  rw [Zqc]
  by_cases hb : f.2.1 = p.1
  ·rw [if_pos hb, if_pos hb.symm]
   dsimp only
   rw [List.length_take, List.take_take]
   congr 3
   omega
  ·rw [if_neg hb, if_neg fun e => hb e.symm, Nat.zero_add]
theorem Zlu {g : Nat -> Nat} {b : Nat} : ∀ (ps : List (Nat × Nat)), (∀ p ∈ ps, g p.1 = g b ↔ p.1 = b) -> Zb6 (g b) (ps.map fun p => (g p.1, p.2)) = Zb6 b ps
 | [], _ => rfl
 | p :: ps, h => by
  have h1 := h p List.mem_cons_self
  rw [List.map_cons, Zb1, Zb1, Zlu ps fun q hq => h q (List.mem_cons_of_mem _ hq)]
  by_cases hb : p.1 = b
  ·rw [if_pos hb, if_pos (h1.2 hb)]
  ·rw [if_neg hb, if_neg fun e => hb (h1.1 e)]
theorem Zro {g : Nat -> Nat} (ps : List (Nat × Nat)) : ZbG (ps.map fun p => (g p.1, p.2)) = ZbG ps := by
 unfold ZbG
 rw [List.map_map]
 rfl
section
variable {σ τ : St} {bb bb2 mb mb2 : Nat} {S S2 : Nat -> Prop} {fs fs2 : List Fl} {pcs pcs2 : List (Nat × Nat)} {size : Int} {pv pv2 : AV} {done : List (Fl × Fl)}
theorem ZgK : ∀ {done : List (Fl × Fl)}, (done.map fun q => q.1.b).Nodup -> ∀ q ∈ done, Zhs (prs done) q.1.b = some q.2.b
 | p :: l, hn, q, hq => by
  rw [List.map_cons, List.nodup_cons] at hn
  show (if q.1.b = p.1.b then some p.2.b else Zhs (prs l) q.1.b) = _
  rcases List.mem_cons.1 hq with rfl | hq
  ·rw [if_pos rfl]
  ·rw [if_neg fun e => hn.1 (List.mem_map.2 ⟨q, hq, e⟩), ZgK hn.2 q hq]
theorem Ziz.ren (h : DAt σ bb S fs pcs size mb pv) (h2 : DAt τ bb2 S2 fs2 pcs2 size mb2 pv2) (c : Ziz fs pcs fs2 pcs2 done) : ∀ f ∈ fs, ∃ f2 ∈ fs2, f2.nm = f.nm /\ f2.d = f.d /\ f2.b = (Zhs (prs done) f.b).getD 0 /\ ∀ p ∈ pcs, (Zhs (prs done) p.1).getD 0 = (Zhs (prs done) f.b).getD 0 ↔ p.1 = f.b := fun f hf => by
 have hnb : (done.map fun q => q.1.b).Nodup := by
  have : (done.map fun q => q.1.b) = (done.map (·.1)).map (·.b) := by rw [List.map_map]; rfl
  rw [this, (c.one.map _).nodup_iff]
  exact h.nd
 have hnb2 : (done.map fun q => q.2.b).Nodup := by
  have : (done.map fun q => q.2.b) = (done.map (·.2)).map (·.b) := by rw [List.map_map]; rfl
  rw [this, <- c.two]
  exact h2.nd
 have hfind : ∀ g ∈ fs, ∃ q ∈ done, q.1 = g := fun g hg => by
  obtain ⟨q, hq, e⟩ := List.mem_map.1 (c.one.mem_iff.2 hg)
  exact ⟨q, hq, e⟩
 obtain ⟨q, hq, rfl⟩ := hfind f hf
 have hg := ZgK hnb q hq
 refine ⟨q.2, by rw [c.two]; exact List.mem_map.2 ⟨q, hq, rfl⟩, (c.same q hq).1, (c.same q hq).2, by rw [hg]; rfl, fun p hp => ?_⟩
 obtain ⟨g, hg1, hg2⟩ := h.inn p hp
 obtain ⟨r, hr, rfl⟩ := hfind g hg1
 rw [<- hg2, hg, ZgK hnb r hr]
 show r.2.b = q.2.b ↔ _
 constructor
 ·intro e
  have : r = q := by
   clear hg hg1 hg2 hfind hp hf
   induction done with
   | nil => cases hq
   | cons a l ih =>
    rw [List.map_cons, List.nodup_cons] at hnb2
    rcases List.mem_cons.1 hr with e1 | e1 <;> rcases List.mem_cons.1 hq with e2 | e2
    ·rw [e1, e2]
    ·exact absurd (List.mem_map.2 ⟨q, e2, by rw [<- e, e1]⟩) hnb2.1
    ·exact absurd (List.mem_map.2 ⟨r, e1, by rw [e, e2]⟩) hnb2.1
    ·have hnd := hnb2.2
     have key : ∀ {l : List (Fl × Fl)}, (l.map fun q => q.2.b).Nodup -> ∀ r ∈ l, ∀ q ∈ l, r.2.b = q.2.b -> r = q := by
      intro l
      induction l with
      | nil => intro _ r hr; cases hr
      | cons a l ih =>
       intro hn r hr q hq e
       rw [List.map_cons, List.nodup_cons] at hn
       rcases List.mem_cons.1 hr with e1 | e1 <;> rcases List.mem_cons.1 hq with e2 | e2
       ·rw [e1, e2]
       ·exact absurd (List.mem_map.2 ⟨q, e2, by rw [<- e, e1]⟩) hn.1
       ·exact absurd (List.mem_map.2 ⟨r, e1, by rw [e, e2]⟩) hn.1
       ·exact ih hn.2 r e1 q e2 e
     exact key hnd r e1 q e2 e
  rw [this]
 ·intro e
  have := h.uniq hg1 hf e
  have hq2 : Zhs (prs done) r.1.b = some r.2.b := ZgK hnb r hr
  rw [this, ZgK hnb q hq] at hq2
  injection hq2 with hq2
  exact hq2.symm
theorem Ziz.wf (h : DAt σ bb S fs pcs size mb pv) (h2 : DAt τ bb2 S2 fs2 pcs2 size mb2 pv2) (c : Ziz fs pcs fs2 pcs2 done) (hw : Wf fs pcs) : Wf fs2 pcs2 /\ ZbG pcs2 = ZbG pcs /\ pcs2.length = pcs.length /\ fs2.length = fs.length /\ (∀ f2 ∈ fs2, ∃ f ∈ fs, f2.nm = f.nm /\ f2.d = f.d) := by
 have hall : ∀ f2 ∈ fs2, ∃ f ∈ fs, f2.nm = f.nm /\ f2.d = f.d := fun f2 hf2 => by
  rw [c.two] at hf2
  obtain ⟨q, hq, rfl⟩ := List.mem_map.1 hf2
  exact ⟨q.1, c.one.mem_iff.1 (List.mem_map.2 ⟨q, hq, rfl⟩), (c.same q hq).1, (c.same q hq).2⟩
 refine ⟨⟨fun p hp => ?_, fun f2 hf2 => ?_⟩, by rw [c.pcs, Zro (g := fun x => (Zhs (prs done) x).getD 0)], by rw [c.pcs, List.length_map], ?_, hall⟩
 ·rw [c.pcs] at hp
  obtain ⟨p', hp', rfl⟩ := List.mem_map.1 hp
  exact hw.pos p' hp'
 ·obtain ⟨f, hf, e1, e2⟩ := hall f2 hf2
  obtain ⟨g2, hg2, q1, q2, q3, q4⟩ := c.ren h h2 f hf
  have : f2 = g2 := h2.uniqN hf2 hg2 (by rw [e1, q1])
  subst this
  rw [q3, e2, c.pcs, Zlu (g := fun x => (Zhs (prs done) x).getD 0) pcs q4]
  exact hw.fit f hf
 ·rw [c.two, List.length_map]
  have := c.one.length_eq
  rwa [List.length_map] at this
theorem Ziz.crash (h : DAt σ bb S fs pcs size mb pv) (h2 : DAt τ bb2 S2 fs2 pcs2 size mb2 pv2) (c : Ziz fs pcs fs2 pcs2 done) {fs3 : List Fl} {L : Nat} (hd : dat fs3 = ZbY L (dat fs2) pcs2.reverse) : ∀ f ∈ fs, ∃ f3 ∈ fs3, f3.nm = f.nm /\ f3.d = f.d.take (f.d.length - ZiS f.b L pcs.reverse) := fun f hf => by
 obtain ⟨f2, hf2, q1, q2, q3, q4⟩ := c.ren h h2 f hf
 rw [ZiB] at hd
 have hm : (f2.nm, f2.b, f2.d.take (f2.d.length - ZiS f2.b L pcs2.reverse)) ∈ dat fs3 := by
  rw [hd]
  exact List.mem_map.2 ⟨_, ZdS hf2, rfl⟩
 obtain ⟨f3, hf3, e⟩ := Zhr hm
 injection e with e1 e
 injection e with e2 e3
 refine ⟨f3, hf3, by rw [<- e1, q1], ?_⟩
 rw [<- e3, q2, q3, c.pcs, <- List.map_reverse, ZnA (g := fun x => (Zhs (prs done) x).getD 0) pcs.reverse L fun p hp => q4 p (List.mem_reverse.1 hp)]
theorem Zjp (h2 : DAt τ bb2 S2 fs2 pcs2 size mb2 pv2) {fs3 : List Fl} {ps : List (Nat × Nat)} (hd : dat fs3 = ZbY 0 (dat fs2) ps) : ∀ f ∈ fs2, ∃ f3 ∈ fs3, f3.nm = f.nm /\ f3.d = f.d := fun f hf => by
 rw [ZdR] at hd
 have hm := ZdS hf
 rw [<- hd] at hm
 obtain ⟨f3, hf3, e⟩ := Zhr hm
 injection e with e1 e
 injection e with e2 e3
 exact ⟨f3, hf3, e1.symm, e3.symm⟩
theorem Zlv {fs3 : List Fl} {L : Nat} {ps : List (Nat × Nat)} (hd : dat fs3 = ZbY L (dat fs2) ps) : fs3.length = fs2.length := by
 rw [ZiB] at hd
 have := congrArg List.length hd
 simpa [dat] using this
theorem Zrp (h : DAt σ bb S fs pcs size mb pv) : ZeQ fs (srt (fs.map (·.nm))) pcs = ([], 0) := by
 have key : ∀ (ns : List (List UInt8)) (ps : List (Nat × Nat)), (∀ n ∈ ns, ∃ f ∈ fs, f.nm = n) -> (∀ p ∈ ps, ∃ f ∈ fs, f.nm ∈ ns /\ f.b = p.1) -> ZeQ fs ns ps = ([], 0) := by
  intro ns
  induction ns with
  | nil =>
   intro ps _ h2
   cases ps with
   | nil => rfl
   | cons p ps =>
    obtain ⟨f, _, hn, _⟩ := h2 p List.mem_cons_self
    cases hn
  | cons n ns ih =>
   intro ps h1 h2
   obtain ⟨f, hf, hn⟩ := h1 n List.mem_cons_self
   cases hg : Zf3 (ZaV fs) n with
   | none => exact absurd hn (ZcP.1 hg f hf)
   | some fb =>
    obtain ⟨g, hg1, hg2, rfl⟩ := ZcO hg
    rw [Zhb hg]
    refine ih _ (fun m hm => h1 m (List.mem_cons_of_mem _ hm)) fun p hp => ?_
    obtain ⟨hp1, hp2⟩ := List.mem_filter.1 hp
    obtain ⟨f', hf', hn', hb'⟩ := h2 p hp1
    rcases List.mem_cons.1 hn' with e | e
    ·have : f' = g := h.uniqN hf' hg1 (by rw [e, hg2])
     rw [<- hb', this] at hp2
     simp at hp2
    ·exact ⟨f', hf', e, hb'⟩
 refine key _ _ (fun n hn => ?_) fun p hp => ?_
 ·obtain ⟨f, hf, e⟩ := List.mem_map.1 ((ZhJ _).mem_iff.1 hn)
  exact ⟨f, hf, e⟩
 ·obtain ⟨f, hf, e⟩ := h.inn p hp
  exact ⟨f, hf, (ZhJ _).mem_iff.2 (List.mem_map.2 ⟨f, hf, rfl⟩), e⟩
end
end Go.Proofs.Ytinpiaibhjmfaaa
