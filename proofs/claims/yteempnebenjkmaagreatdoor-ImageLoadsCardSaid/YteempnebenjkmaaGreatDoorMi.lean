/- XDw, XDva, XDc, XSk, XNw, XDg, XDca, XDe, XDz, XDcb, XDcc in one. -/
import Derived.Test.YteempnebenjkmaaGreatDoorMf
import Derived.Test.YteempnebenjkmaaGreatDoorMe
import Derived.Test.YteempnebenjkmaaGreatDoorMg
import Derived.Shelf.SlGeneric
import Derived.Shelf.SlIter.Nil
import Derived.Test.YteempnebenjkmaaGreatDoorProg
import Derived.Test.YteempnebenjkmaaGreatDoorSl
import Derived.Test.YteempnebenjkmaaGreatDoorMc
import Derived.Test.YteempnebenjkmaaGreatDoorBy
namespace Go.Proofs.YteempnebenjkmaaGreatDoor
open Go.RowKit
set_option maxRecDepth 100000
set_option linter.unusedVariables false
set_option linter.unusedSimpArgs false
theorem Zlb (fs : List Fl) : Zef fs = ((dat fs).map (·.2.2.length)).sum := by
 unfold Zef dat
 rw [List.map_map]
 rfl
theorem Zmz {fs : List Fl} {f : Fl} (h : f ∈ fs) : (f.nm, f.b, f.d) ∈ dat fs := List.mem_map.2 ⟨f, h, rfl⟩
theorem Zqd {fs : List Fl} {q : List UInt8 × Nat × List UInt8} (h : q ∈ dat fs) : ∃ f ∈ fs, q = (f.nm, f.b, f.d) := by
 obtain ⟨f, hf, e⟩ := List.mem_map.1 h
 exact ⟨f, hf, e.symm⟩
def ZyL (b : Nat) (d : List UInt8) (l : FD) : FD := l.map fun f => if f.2.1 = b then (f.1, f.2.1, f.2.2 ++ d) else f
abbrev Zqe (b : Nat) (d : List UInt8) : List (Nat × Nat) := if d = [] then [] else [(b, d.length)]
theorem Zqf (b : Nat) (d : List UInt8) : ZfF (Zqe b d) = d.length := by
 unfold Zqe
 split
 ·rename_i h; subst h; rfl
 ·rw [Zxv]
theorem Zsv (b : Nat) (d : List UInt8) : (Zqe b d).length <= 1 := by
 unfold Zqe
 split <;> simp
theorem Znz (b c : Nat) (d : List UInt8) : Zfu c (Zqe b d) = if b = c then d.length else 0 := by
 unfold Zqe
 split
 ·rename_i h; subst h; rw [Zvr]; split <;> rfl
 ·rw [ZpD]
theorem ZtQ {b : Nat} {pcs : List (Nat × Nat)} (h : ∀ p ∈ pcs, p.1 ≠ b) : Zfu b pcs = 0 := by
 unfold Zfu
 rw [List.filter_eq_nil_iff.2 fun p hp => by simp [h p hp]]
 rfl
theorem Zqg {σ τ : St} {bb bb' mb mb' : Nat} {S S' : Nat -> Prop} {fs fs' : List Fl} {pcs pcs' : List (Nat × Nat)} {size size' : Int} {pv pv' : AV} {k d : List UInt8} (h : DAt σ bb S fs pcs size mb pv) (h' : DAt τ bb' S' fs' pcs' size' mb' pv') (ha : Zth fs pcs k d fs' pcs') :
 (∃ nb, (∀ f ∈ fs, f.nm ≠ k) /\ (∀ f ∈ fs, f.b ≠ nb) /\ dat fs' = dat fs ++ [(k, nb, d)] /\ pcs' = pcs ++ Zqe nb d) \/ ∃ f0 ∈ fs, f0.nm = k /\ dat fs' = ZyL f0.b d (dat fs) /\ pcs' = pcs ++ Zqe f0.b d := by
 obtain ⟨fs1, f0, v', hor, hf0, hnm, rfl, hp⟩ := ha
 rcases hor with rfl | ⟨hn, rfl, hd⟩
 ·right
  refine ⟨f0, hf0, hnm, ?_, hp⟩
  unfold dat ZyL
  rw [List.map_map, List.map_map]
  refine List.map_congr_left fun f hf => ?_
  simp only [Function.comp]
  unfold ZdG
  by_cases hb : f.b = f0.b
  ·rw [if_pos hb, if_pos hb, h.uniq hf hf0 hb]
  ·rw [if_neg hb, if_neg hb]
 ·left
  have hne : ∀ f ∈ fs, f.b ≠ f0.b := fun f hf e => by
   have hnd := h'.nd
   rw [List.map_map, List.map_append, List.nodup_append] at hnd
   exact hnd.2.2 f.b (List.mem_map.2 ⟨f, hf, ZeO f⟩) f0.b (List.mem_map.2 ⟨f0, List.mem_cons_self, ZeO f0⟩) e
  refine ⟨f0.b, hn, hne, ?_, hp⟩
  unfold dat
  rw [List.map_map, List.map_append]
  congr 1
  ·refine List.map_congr_left fun f hf => ?_
   simp only [Function.comp]
   unfold ZdG
   rw [if_neg (hne f hf)]
  ·simp [ZdG, hnm, hd]
theorem Zsw {b : Nat} {d : List UInt8} : ∀ {l : FD}, (l.map (·.2.1)).Nodup -> (∃ q ∈ l, q.2.1 = b) -> ((ZyL b d l).map (·.2.2.length)).sum = (l.map (·.2.2.length)).sum + d.length
 | [], _, h => by obtain ⟨q, hq, _⟩ := h; cases hq
 | f :: l, hnd, h => by
  rw [List.map_cons, List.nodup_cons] at hnd
  by_cases hb : f.2.1 = b
  ·have : ZyL b d l = l := by
    unfold ZyL
    conv => rhs; rw [<- List.map_id l]
    refine List.map_congr_left fun g hg => ?_
    rw [if_neg (fun e => hnd.1 (List.mem_map.2 ⟨g, hg, by rw [e, hb]⟩))]
    rfl
   show (((if f.2.1 = b then (f.1, f.2.1, f.2.2 ++ d) else f) :: ZyL b d l).map (·.2.2.length)).sum = _
   rw [this, if_pos hb]
   simp
   omega
  ·have ih := Zsw (b := b) (d := d) hnd.2 (by
    obtain ⟨q, hq, hqb⟩ := h
    rcases List.mem_cons.1 hq with rfl | hq
    ·exact absurd hqb hb
    ·exact ⟨q, hq, hqb⟩)
   show (((if f.2.1 = b then (f.1, f.2.1, f.2.2 ++ d) else f) :: ZyL b d l).map (·.2.2.length)).sum = _
   rw [if_neg hb, List.map_cons, List.sum_cons, ih, List.map_cons, List.sum_cons]
   omega
theorem ZDj (fs : List Fl) : (dat fs).map (·.2.1) = fs.map (·.b) := by
 unfold dat
 rw [List.map_map]
 rfl
theorem ZAj {σ τ : St} {bb bb' mb mb' : Nat} {S S' : Nat -> Prop} {fs fs' : List Fl} {pcs pcs' : List (Nat × Nat)} {size size' : Int} {pv pv' : AV} {k d : List UInt8} (h : DAt σ bb S fs pcs size mb pv) (h' : DAt τ bb' S' fs' pcs' size' mb' pv') (ha : Zth fs pcs k d fs' pcs') (hwf : Wf fs pcs) :
 Wf fs' pcs' /\ ZfF pcs' = ZfF pcs + d.length /\ pcs'.length <= pcs.length + 1 /\ Zef fs' = Zef fs + d.length := by
 have hpos : ∀ b, ∀ p ∈ pcs ++ Zqe b d, 0 < p.2 := fun b p hp => by
  rcases List.mem_append.1 hp with hp | hp
  ·exact hwf.pos p hp
  ·unfold Zqe at hp
   split at hp
   ·cases hp
   ·rename_i hd
    rw [List.mem_singleton.1 hp]
    exact List.length_pos_iff.2 hd
 rcases Zqg h h' ha with ⟨nb, hn, hnb, hdat, rfl⟩ | ⟨f0, hf0, hnm, hdat, rfl⟩
 ·refine ⟨⟨hpos nb, fun f hf => ?_⟩, by rw [Zsd, Zqf], by rw [List.length_append]; have := Zsv nb d; omega, by rw [Zlb, hdat, List.map_append, List.sum_append, <- Zlb]; simp⟩
  have hm := Zmz hf
  rw [hdat] at hm
  rw [ZlW, Znz]
  rcases List.mem_append.1 hm with hm | hm
  ·obtain ⟨g, hg, e⟩ := Zqd hm
   injection e with _ e
   injection e with e1 e2
   rw [e1, e2, if_neg (fun e => hnb g hg e.symm)]
   exact hwf.fit g hg
  ·have e := List.mem_singleton.1 hm
   injection e with _ e
   injection e with e1 e2
   rw [e1, e2, if_pos rfl, ZtQ fun p hp => ?_]
   ·omega
   ·obtain ⟨g, hg, e⟩ := h.inn p hp
    rw [<- e]
    exact hnb g hg
 ·have hsum : Zef fs' = Zef fs + d.length := by
   rw [Zlb, hdat, Zsw (by rw [ZDj]; exact h.nd) ⟨_, Zmz hf0, rfl⟩, <- Zlb]
  refine ⟨⟨hpos f0.b, fun f hf => ?_⟩, by rw [Zsd, Zqf], by rw [List.length_append]; have := Zsv f0.b d; omega, hsum⟩
  have hm := Zmz hf
  rw [hdat] at hm
  rw [ZlW, Znz]
  obtain ⟨q, hq, e⟩ := List.mem_map.1 hm
  obtain ⟨g, hg, rfl⟩ := Zqd hq
  dsimp only at e
  have hfit := hwf.fit g hg
  by_cases hb : g.b = f0.b
  ·rw [if_pos hb] at e
   injection e with _ e
   injection e with e1 e2
   rw [<- e1, <- e2, if_pos hb.symm, List.length_append]
   omega
  ·rw [if_neg hb] at e
   injection e with _ e
   injection e with e1 e2
   rw [<- e1, <- e2, if_neg (fun e => hb e.symm)]
   exact hfit
theorem Zwj {a n : Nat} : ∀ {bs : List Nat}, bs.Nodup -> (bs.map fun b => if a = b then n else 0).sum = if a ∈ bs then n else 0
 | [], _ => by simp
 | b :: bs, h => by
  rw [List.nodup_cons] at h
  rw [List.map_cons, List.sum_cons, Zwj h.2]
  by_cases hab : a = b
  ·subst hab
   simp [h.1]
  ·simp [hab]
theorem Zkc (b : Nat) (p : Nat × Nat) (l : List (Nat × Nat)) : Zfu b (p :: l) = (if p.1 = b then p.2 else 0) + Zfu b l := by
 rw [show p :: l = [p] ++ l from rfl, ZlW, ZpD]
theorem Zji (p : Nat × Nat) (l : List (Nat × Nat)) : ZfF (p :: l) = p.2 + ZfF l := by simp [ZfF]
theorem Zwk {α : Type} (f g : α -> Nat) : ∀ l : List α, (l.map fun x => f x + g x).sum = (l.map f).sum + (l.map g).sum
 | [] => rfl
 | x :: l => by
  rw [List.map_cons, List.sum_cons, Zwk f g l, List.map_cons, List.sum_cons, List.map_cons, List.sum_cons]
  omega
theorem Zwl {bs : List Nat} (hn : bs.Nodup) : ∀ {pcs : List (Nat × Nat)}, (∀ p ∈ pcs, p.1 ∈ bs) -> (bs.map fun b => Zfu b pcs).sum = ZfF pcs
 | [], _ => by
  rw [show (fun b => Zfu b []) = fun _ => 0 from rfl]
  clear hn
  induction bs with
  | nil => rfl
  | cons b bs ih =>
   rw [List.map_cons, List.sum_cons, ih fun p hp => by cases hp]
   rfl
 | p :: l, h => by
  rw [show (fun b => Zfu b (p :: l)) = fun b => (if p.1 = b then p.2 else 0) + Zfu b l from funext fun b => Zkc b p l, Zwk, Zwj hn, if_pos (h p List.mem_cons_self), Zwl hn fun q hq => h q (List.mem_cons_of_mem _ hq), Zji]
theorem Zsx {α : Type} {f g : α -> Nat} : ∀ {l : List α}, (∀ x ∈ l, f x <= g x) -> (l.map f).sum <= (l.map g).sum
 | [], _ => Nat.le_refl _
 | x :: l, h => by
  rw [List.map_cons, List.sum_cons, List.map_cons, List.sum_cons]
  have := h x List.mem_cons_self
  have := Zsx fun y hy => h y (List.mem_cons_of_mem x hy)
  omega
theorem ZAk {σ : St} {bb mb : Nat} {S : Nat -> Prop} {fs : List Fl} {pcs : List (Nat × Nat)} {size : Int} {pv : AV} (h : DAt σ bb S fs pcs size mb pv) (hw : Wf fs pcs) : ZfF pcs <= Zef fs := by
 rw [<- Zwl h.nd fun p hp => by
  obtain ⟨f, hf, e⟩ := h.inn p hp
  exact List.mem_map.2 ⟨f, hf, e⟩, List.map_map]
 exact Zsx fun f hf => hw.fit f hf
theorem Zx6 {l m : List (Nat × Nat)} (h : l.Sublist m) : ZfF l <= ZfF m := by
 induction h with
 | slnil => exact Nat.le_refl _
 | cons a _ ih => rw [Zji]; omega
 | cons_cons a _ ih => rw [Zji, Zji]; omega
theorem Zwm {l m : List (Nat × Nat)} (b : Nat) (h : l.Sublist m) : Zfu b l <= Zfu b m := Zx6 (h.filter _)
theorem Wf.sub {fs fs' : List Fl} {pcs pcs' : List (Nat × Nat)} (h : Wf fs pcs) (h1 : ∀ f ∈ fs', f ∈ fs) (h2 : pcs'.Sublist pcs) : Wf fs' pcs' := ⟨fun p hp => h.pos p (h2.subset hp), fun f hf => Nat.le_trans (Zwm _ h2) (h.fit f (h1 f hf))⟩
theorem Zsy {l m : List Fl} (h : l.Sublist m) : Zef l <= Zef m := by
 have hc : ∀ (f : Fl) (l : List Fl), Zef (f :: l) = f.d.length + Zef l := fun f l => by simp [Zef]
 induction h with
 | slnil => exact Nat.le_refl _
 | cons a _ ih => rw [hc]; omega
 | cons_cons a _ ih => rw [hc, hc]; omega
structure Inv (υ : St) (bb mb : Nat) (size : Int) (S : Nat -> Prop) (fs : List Fl) (pcs : List (Nat × Nat)) (pv : AV) (M B : Nat) : Prop where
 disk : DAt υ bb S fs pcs size mb pv
 used : ∀ c, S c -> υ.used c
 wf : Wf fs pcs
 nms : ∀ f ∈ fs, f.nm.length <= 40
 sum : Zef fs <= B
 few : pcs.length <= M
 nfs : fs.length <= M
 cap : 0 < size -> (Zef fs : Int) <= size
section
variable {σ τ : St} {bb mb : Nat} {size : Int} {S : Nat -> Prop} {fs : List Fl} {pcs : List (Nat × Nat)} {pv : AV} {M B : Nat}
theorem Inv.ext (h : Inv σ bb mb size S fs pcs pv M B) (k : Ext σ τ) : Inv τ bb mb size S fs pcs pv M B := ⟨h.disk.ext k, fun c hc => k.used _ (h.used c hc), h.wf, h.nms, h.sum, h.few, h.nfs, h.cap⟩
theorem Inv.more (h : Inv σ bb mb size S fs pcs pv M B) {M' B' : Nat} (h1 : M <= M') (h2 : B <= B') : Inv σ bb mb size S fs pcs pv M' B' := ⟨h.disk, h.used, h.wf, h.nms, Nat.le_trans h.sum h2, Nat.le_trans h.few h1, Nat.le_trans h.nfs h1, h.cap⟩
theorem Inv.file (h : Inv σ bb mb size S fs pcs pv M B) (hB : B <= 1000000000) : ∀ f ∈ fs, f.d.length <= 1000000000 := fun f hf => by
 have := Zn5 hf
 have := h.sum
 omega
theorem Inv.pcs_ (h : Inv σ bb mb size S fs pcs pv M B) (hB : B <= 1000000000) : ZfF pcs <= 1000000000 := by
 have := ZAk h.disk h.wf
 have := h.sum
 omega
theorem Inv.pc (h : Inv σ bb mb size S fs pcs pv M B) (hB : B <= 1000000000) : ∀ p ∈ pcs, p.2 <= 1000000000 := fun p hp => by
 have := Zse hp
 have := h.pcs_ hB
 omega
theorem Inv.sub (h : Inv σ bb mb size S fs pcs pv M B) {fs' : List Fl} {pcs' : List (Nat × Nat)} {pv' : AV} (hd : DAt τ bb S fs' pcs' size mb pv') (hB : But S σ τ) (h1 : fs'.Sublist fs) (h2 : pcs'.Sublist pcs) : Inv τ bb mb size S fs' pcs' pv' M B :=
 ⟨hd, fun c hc => hB.used _ (h.used c hc), h.wf.sub (fun f hf => h1.subset hf) h2, fun f hf => h.nms f (h1.subset hf), Nat.le_trans (Zsy h1) h.sum, Nat.le_trans h2.length_le h.few, Nat.le_trans h1.length_le h.nfs, fun hs => by
  have := h.cap hs
  have := Zsy h1
  omega⟩
theorem Inv.app (h : Inv σ bb mb size S fs pcs pv M B) {S' : Nat -> Prop} {fs' : List Fl} {pcs' : List (Nat × Nat)} {pv' : AV} {k d : List UInt8} (hd : DAt τ bb S' fs' pcs' size mb pv') (hu : ∀ c, S' c -> τ.used c) (ha : Zth fs pcs k d fs' pcs') (hk : k.length <= 40) (hf : size < 1 \/ ((d.length + Zef fs : Nat) : Int) <= size) : Inv τ bb mb size S' fs' pcs' pv' (M + 1) (B + d.length) := by
 obtain ⟨w1, w2, w3, w4⟩ := ZAj h.disk hd ha h.wf
 have hn : ∀ f ∈ fs', f.nm.length <= 40 /\ fs'.length <= fs.length + 1 := fun f hf => by
  have hm := Zmz hf
  have hlen : fs'.length = (dat fs').length := by simp [dat]
  have hlen2 : fs.length = (dat fs).length := by simp [dat]
  rcases Zqg h.disk hd ha with ⟨nb, _, _, g1, _⟩ | ⟨f0, _, _, g1, _⟩
  ·rw [g1] at hm
   refine ⟨?_, by rw [hlen, g1, List.length_append, <- hlen2]; exact Nat.le_refl _⟩
   rcases List.mem_append.1 hm with hm | hm
   ·obtain ⟨g, hg, e⟩ := Zqd hm
    injection e with e _
    rw [e]; exact h.nms g hg
   ·have e := List.mem_singleton.1 hm
    injection e with e _
    rw [e]; exact hk
  ·rw [g1] at hm
   refine ⟨?_, by rw [hlen, g1]; unfold ZyL; rw [List.length_map, <- hlen2]; omega⟩
   obtain ⟨q, hq, e⟩ := List.mem_map.1 hm
   obtain ⟨g, hg, rfl⟩ := Zqd hq
   have : f.nm = g.nm := by
    dsimp only at e
    split at e
    ·injection e with e _; exact e.symm
    ·injection e with e _; exact e.symm
   rw [this]; exact h.nms g hg
 refine ⟨hd, hu, w1, fun f hf => (hn f hf).1, by have := h.sum; omega, by have := h.few; omega, ?_, fun hs => ?_⟩
 ·cases hfs : fs' with
  | nil => exact Nat.zero_le _
  | cons f l =>
   have := (hn f (by rw [hfs]; exact List.mem_cons_self)).2
   have := h.nfs
   rw [hfs] at *
   omega
 ·rcases hf with q | q
  ·omega
  ·rw [w4]; omega
end
section
variable {σ τ : St} {bb mb : Nat} {S : Nat -> Prop} {fs : List Fl} {pcs : List (Nat × Nat)} {size : Int} {pv : AV}
end
abbrev prs (done : List (Fl × Fl)) : List (Nat × Nat) := done.map fun q => (q.1.b, q.2.b)
structure ZtR (fs : List Fl) (pcs : List (Nat × Nat)) (fs2 : List Fl) (pcs2 : List (Nat × Nat)) (done : List (Fl × Fl)) : Prop where
 two : fs2 = done.map (·.2)
 one : (done.map (·.1)).Perm fs
 same : ∀ q ∈ done, q.2.nm = q.1.nm /\ q.2.d = q.1.d
 pcs : pcs2 = pcs.map fun p => ((ZvE (prs done) p.1).getD 0, p.2)
section
variable {σ : St} {bb mb : Nat} {S : Nat -> Prop} {fs : List Fl} {pcs : List (Nat × Nat)} {size : Int} {pv : AV} {K : AV -> St -> Prop}
structure ZD2 (σ : St) (fs : List Fl) (arr : Array MapEntry) (c mb ib tw bb2 mb2 : Nat) (size : Int) (υ : St) (done : List (Fl × Fl)) (seen : Array Nat) (D : List MapEntry) (S2 : Nat -> Prop) : Prop where
 came : ZAH arr seen D
 what : (D.map fun e : MapEntry => (e.key, e.val)) = done.map fun q => (sV q.1.nm, pV q.1.b)
 each : ∀ q ∈ done, q.1 ∈ fs /\ q.2.nm = q.1.nm /\ q.2.d = q.1.d
 disk : DAt υ bb2 S2 (done.map (·.2)) [] size mb2 (.lst none 0 0 [])
 ZDY : ∀ x, S2 x -> Zc2 σ x /\ υ.used x /\ x ≠ tw /\ x ≠ ib
 twin : υ.blk tw = some (.map (ZC9 (prs done)))
 utw : υ.used tw
 iter : υ.blk ib = some (.map (ZDl mb c seen c))
 uib : υ.used ib
 held : υ.blk mb = some (.map (ZAL arr c))
 but : But (fun x => x = mb) σ υ
set_option maxHeartbeats 4000000 in
end
end Go.Proofs.YteempnebenjkmaaGreatDoor
namespace Go.Proofs
open Go.Shelf
def Tryz.keys82_ren : Go.Shelf.Ren := ⟨fun | 7 => 82 | 10 => 150 | n => n, fun | 23 => 76 | 26 => 9 | 3 => 85 | 28 => 160 | 0 => 0 | 27 => 159 | 33 => 82 | 4 => 4 | n => n, fun | n => n⟩
theorem Tryz.keys82 : Go.Proofs.SlLaysZ.n7 Tryz.prog Tryz.keys82_ren := {
 mixed := by kernel_rfl
 f7 := ⟨Tryz.f82.name, by decide, Tryz.func82.trans (congrArg some (by kernel_rfl))⟩
 f10 := ⟨Tryz.f150.name, by decide, Tryz.func150.trans (congrArg some (by kernel_rfl))⟩
 t0 := Tryz.underlying0
 a0 := Tryz.isAgg0
 z0 := Tryz.sizeOf0
 v0 := Tryz.zeroValue0
 t4 := Tryz.underlying4
 a4 := Tryz.isAgg4
 z4 := Tryz.sizeOf4
 v4 := Tryz.zeroValue4
 t23 := Tryz.underlying76
 a23 := Tryz.isAgg76
 z23 := Tryz.sizeOf76
 v23 := Tryz.zeroValue76
 t26 := Tryz.underlying9
 a26 := Tryz.isAgg9
 z26 := Tryz.sizeOf9
 v26 := Tryz.zeroValue9
 t27 := Tryz.underlying159
 a27 := Tryz.isAgg159
 z27 := Tryz.sizeOf159
 v27 := Tryz.zeroValue159
 t28 := Tryz.underlying160
 a28 := Tryz.isAgg160
 z28 := Tryz.sizeOf160
 v28 := Tryz.zeroValue160
 t33 := Tryz.underlying82
 a33 := Tryz.isAgg82
 z33 := Tryz.sizeOf82
 v33 := Tryz.zeroValue82 }
def Tryz.sorted81_ren : Go.Shelf.Ren := ⟨fun | 6 => 81 | 8 => 148 | 9 => 149 | 11 => 195 | 13 => 197 | 12 => 196 | 23 => 217 | 24 => 218 | 14 => 208 | 15 => 209 | 16 => 210 | 17 => 211 | 18 => 212 | 19 => 213 | 20 => 214 | 21 => 215 | 22 => 216 | 25 => 225 | 26 => 226 | 27 => 227 | 28 => 228 | 29 => 229 | 30 => 230 | 31 => 235 | n => n, fun | 26 => 9 | 28 => 160 | 24 => 69 | 0 => 0 | 3 => 3 | 37 => 162 | 48 => 74 | 50 => 175 | 4 => 4 | 40 => 336 | 39 => 335 | 45 => 341 | 5 => 5 | 9 => 9 | 51 => 350 | 55 => 354 | 57 => 360 | 58 => 233 | 33 => 82 | n => n, fun | n => n⟩
theorem Tryz.sorted81 : Go.Proofs.SlLaysZ.n6 Tryz.prog Tryz.sorted81_ren := {
 mixed := by kernel_rfl
 f6 := ⟨Tryz.f81.name, by decide, Tryz.func81.trans (congrArg some (by kernel_rfl))⟩
 f8 := ⟨Tryz.f148.name, by decide, Tryz.func148.trans (congrArg some (by kernel_rfl))⟩
 f11 := ⟨Tryz.f195.name, by decide, Tryz.func195.trans (congrArg some (by kernel_rfl))⟩
 t0 := Tryz.underlying0
 a0 := Tryz.isAgg0
 z0 := Tryz.sizeOf0
 v0 := Tryz.zeroValue0
 t24 := Tryz.underlying69
 a24 := Tryz.isAgg69
 z24 := Tryz.sizeOf69
 v24 := Tryz.zeroValue69
 t26 := Tryz.underlying9
 a26 := Tryz.isAgg9
 z26 := Tryz.sizeOf9
 v26 := Tryz.zeroValue9
 t28 := Tryz.underlying160
 a28 := Tryz.isAgg160
 z28 := Tryz.sizeOf160
 v28 := Tryz.zeroValue160
 i26 := by kernel_rfl }
open Go.RowKit Go.Maps Go.Sort
theorem Tryz.sorts81 (m : Nat) : AnyZ.SortsIn Tryz.prog Tryz.sorted81_ren Fence.wide m :=
 ⟨fun blk off cap ss W hH hblk hsz => callsIn_wide.2 (Tryz.slices_Sort_string blk off cap ss W hH hblk hsz),
  fun p cap W => callsIn_wide.2 (Tryz.slices_Sort_string_none p cap W)⟩
theorem Tryz.maps_Keys_82 (mb : Option Nat) (W : World) : CallsIn Fence.wide 5 Tryz.prog 82 #[.map mb] W fun e w' => e = .returned (.func (.func 150) #[] #[.pointer (some ⟨W.heap.size, 0, none⟩)]) /\ w' = W.alloc (.cells #[.map mb] 76) :=
 AnyZ.keys_in Tryz.keys82 Fence.wide 5 trivial rfl mb W
set_option maxHeartbeats 1000000 in
theorem Tryz.slices_Sorted_keys_81_82 {H : Type} (b nn : Nat) (D0 : DataW H) (R : Value -> Option (DataW H × List MemPlace)) (w : World) (hown : w.ownsMap Tryz.prog 9 R b nn D0) (hmax : Maps.size D0 <= maxLen) (hbytes : Maps.size D0 * 16 <= 140737488355328) :
 CallsIn Fence.wide 5 Tryz.prog 81 #[.func (.func 150) #[] #[.pointer (some ⟨w.heap.size, 0, none⟩)]] (w.alloc (.cells #[.map (some b)] 76)) fun e w' => ∃ (v : Value) (ss : List (List UInt8)), e = .returned v /\ ss.Perm (strKeys D0) /\
  w'.ownsRow (w.alloc (.cells #[.map (some b)] 76)).heap.size 9 1 v ss.length ((ss.mergeSort (fun x y => decide (x <= y))).map encStr) /\ (v = .slice none 0 0 ↔ ss = []) /\ Below (w.alloc (.cells #[.map (some b)] 76)).heap.size (w.alloc (.cells #[.map (some b)] 76)) w' := by
 have hbl := hown.lt
 have hseq : SeqGives Fence.wide 2 Tryz.prog 150 #[.pointer (some ⟨w.heap.size, 0, none⟩)] encStr (fun ss => ss.Perm (strKeys D0)) (Maps.size D0) (w.alloc (.cells #[.map (some b)] 76)) :=
  AnyZ.keys_gives (ρ := Tryz.keys82_ren) { Tryz.keys82 with } Fence.wide _ trivial rfl (by omega) w.heap.size b nn D0 _ (by simp) (by simp) (by
   obtain ⟨es, clock, hb, Ft, hs, hD⟩ := hown
   exact ⟨es, clock, (Below.heap_alloc _ _ b hbl).trans hb, Ft, hs, hD⟩)
 exact AnyZ.sorted_in Tryz.sorted81 Fence.wide 5 trivial trivial trivial trivial rfl (by omega) (Tryz.sorts81 _) (enters_of Tryz.func149 (by kernel_rfl) rfl) 150 #[.pointer (some ⟨w.heap.size, 0, none⟩)] trivial (enters_of Tryz.func150 (by kernel_rfl) rfl) _ _ hmax hbytes _ hseq
set_option maxHeartbeats 1000000 in
theorem Tryz.slices_Sorted_keys_nil_81_82 (w : World) :
 CallsIn Fence.wide 5 Tryz.prog 81 #[.func (.func 150) #[] #[.pointer (some ⟨w.heap.size, 0, none⟩)]] (w.alloc (.cells #[.map none] 76)) fun e w' => ∃ (v : Value) (ss : List (List UInt8)), e = .returned v /\ ss = [] /\
  w'.ownsRow (w.alloc (.cells #[.map none] 76)).heap.size 9 1 v ss.length ((ss.mergeSort (fun x y => decide (x <= y))).map encStr) /\ (v = .slice none 0 0 ↔ ss = []) /\ Below (w.alloc (.cells #[.map none] 76)).heap.size (w.alloc (.cells #[.map none] 76)) w' := by
 have hseq : SeqGives Fence.wide 2 Tryz.prog 150 #[.pointer (some ⟨w.heap.size, 0, none⟩)] encStr (fun ss : List (List UInt8) => ss = []) 0 (w.alloc (.cells #[.map none] 76)) :=
  AnyZ.keys_gives_nil (ρ := Tryz.keys82_ren) { Tryz.keys82 with } Fence.wide _ trivial rfl w.heap.size _ (by simp) (by simp)
 exact AnyZ.sorted_in Tryz.sorted81 Fence.wide 5 trivial trivial trivial trivial rfl (by omega) (Tryz.sorts81 _) (enters_of Tryz.func149 (by kernel_rfl) rfl) 150 #[.pointer (some ⟨w.heap.size, 0, none⟩)] trivial (enters_of Tryz.func150 (by kernel_rfl) rfl) _ 0 (Nat.zero_le _) (by omega) _ hseq
end Go.Proofs
namespace Go.Proofs.YteempnebenjkmaaGreatDoor
open Go.RowKit
set_option linter.unusedSimpArgs false
set_option maxRecDepth 100000
set_option linter.unusedVariables false
section
variable {w w' : World} {σ : St} {Z : Nat -> Prop}
theorem Grow.below (h : Zan w σ Z) (hb : Below w.heap.size w w') {g : Nat} (hg : w.heap.size <= g) (k : Bk) : Grow w σ w' (σ.put g k) := by
 have hne : ∀ b, b < w.heap.size -> b ≠ g := fun b hb => by omega
 refine ⟨hb.os, hb.tape, hb.output, hb.size, fun b hl hu => ?_, fun b hl hn => ⟨hb.block b hl, ?_⟩, fun b t k' s hl ht => ⟨fun j v _ hv => ?_, .inr ⟨t, k', s, ?_, Nat.le_refl _⟩⟩, fun b hu => .inl hu⟩
 ·rcases hu with hu | hu
  ·exact hu
  ·exact absurd hu (hne b hl)
 ·show (if b = g then _ else σ.blk b) = _
  rw [if_neg (hne b hl)]; exact hn
 ·rw [World.cell?_of_block (w := w) (hb.block b hl)]; exact hv
 ·show (if b = g then _ else σ.blk b) = _
  rw [if_neg (hne b hl)]; exact ht
end
end Go.Proofs.YteempnebenjkmaaGreatDoor
namespace Go.Proofs.YteempnebenjkmaaGreatDoor
open Go.RowKit Go.Maps Go.Sort
set_option maxRecDepth 100000
set_option linter.unusedVariables false
set_option linter.unusedSimpArgs false
abbrev R0 : Value -> Option (DataW Unit × List MemPlace) := fun _ => some (.nil, [])
section
variable {σ : St} {bb mb : Nat} {S : Nat -> Prop} {fs : List Fl} {pcs : List (Nat × Nat)} {size : Int} {pv : AV} {K : AV -> St -> Prop}
end
end Go.Proofs.YteempnebenjkmaaGreatDoor
namespace Go.Proofs.YteempnebenjkmaaGreatDoor
open Go.RowKit
set_option maxRecDepth 100000
set_option linter.unusedVariables false
set_option linter.unusedSimpArgs false
def Zx7 (b : Nat) : Nat -> List (Nat × Nat) -> Nat
 | _, [] => 0
 | L, p :: ps => (if p.1 = b then min L p.2 else 0) + Zx7 b (L - min L p.2) ps
theorem Zwn (b L : Nat) (p : Nat × Nat) (ps : List (Nat × Nat)) : Zx7 b L (p :: ps) = (if p.1 = b then min L p.2 else 0) + Zx7 b (L - min L p.2) ps := rfl
theorem Zsz {g : Nat -> Nat} {b : Nat} : ∀ (ps : List (Nat × Nat)) (L : Nat), (∀ p ∈ ps, g p.1 = g b ↔ p.1 = b) -> Zx7 (g b) L (ps.map fun p => (g p.1, p.2)) = Zx7 b L ps
 | [], L, _ => rfl
 | p :: ps, L, h => by
  have h1 := h p List.mem_cons_self
  rw [List.map_cons]
  unfold Zx7
  rw [Zsz ps _ fun q hq => h q (List.mem_cons_of_mem _ hq)]
  by_cases hb : p.1 = b
  ·rw [if_pos hb, if_pos (h1.2 hb)]
  ·rw [if_neg hb, if_neg fun e => hb (h1.1 e)]
theorem Zqh : ∀ (ps : List (Nat × Nat)) (L : Nat) (l : FD), ZpC L l ps = l.map fun f => (f.1, f.2.1, f.2.2.take (f.2.2.length - Zx7 f.2.1 L ps))
 | [], L, l => by
  show l = _
  conv => lhs; rw [<- List.map_id l]
  refine List.map_congr_left fun f _ => ?_
  show f = (f.1, f.2.1, f.2.2.take (f.2.2.length - 0))
  rw [Nat.sub_zero, List.take_length]
 | p :: ps, L, l => by
  unfold ZpC
  rw [Zqh ps]
  unfold ZDC
  rw [List.map_map]
  refine List.map_congr_left fun f _ => ?_
  simp only [Function.comp]
  rw [Zwn]
  by_cases hb : f.2.1 = p.1
  ·rw [if_pos hb, if_pos hb.symm]
   dsimp only
   rw [List.length_take, List.take_take]
   congr 3
   omega
  ·rw [if_neg hb, if_neg fun e => hb e.symm, Nat.zero_add]
theorem Zqi {g : Nat -> Nat} {b : Nat} : ∀ (ps : List (Nat × Nat)), (∀ p ∈ ps, g p.1 = g b ↔ p.1 = b) -> Zfu (g b) (ps.map fun p => (g p.1, p.2)) = Zfu b ps
 | [], _ => rfl
 | p :: ps, h => by
  have h1 := h p List.mem_cons_self
  rw [List.map_cons, Zkc, Zkc, Zqi ps fun q hq => h q (List.mem_cons_of_mem _ hq)]
  by_cases hb : p.1 = b
  ·rw [if_pos hb, if_pos (h1.2 hb)]
  ·rw [if_neg hb, if_neg fun e => hb (h1.1 e)]
theorem Zx8 {g : Nat -> Nat} (ps : List (Nat × Nat)) : ZfF (ps.map fun p => (g p.1, p.2)) = ZfF ps := by
 unfold ZfF
 rw [List.map_map]
 rfl
section
variable {σ τ : St} {bb bb2 mb mb2 : Nat} {S S2 : Nat -> Prop} {fs fs2 : List Fl} {pcs pcs2 : List (Nat × Nat)} {size : Int} {pv pv2 : AV} {done : List (Fl × Fl)}
theorem Zjj : ∀ {done : List (Fl × Fl)}, (done.map fun q => q.1.b).Nodup -> ∀ q ∈ done, ZvE (prs done) q.1.b = some q.2.b
 | p :: l, hn, q, hq => by
  rw [List.map_cons, List.nodup_cons] at hn
  show (if q.1.b = p.1.b then some p.2.b else ZvE (prs l) q.1.b) = _
  rcases List.mem_cons.1 hq with rfl | hq
  ·rw [if_pos rfl]
  ·rw [if_neg fun e => hn.1 (List.mem_map.2 ⟨q, hq, e⟩), Zjj hn.2 q hq]
theorem ZtR.ren (h : DAt σ bb S fs pcs size mb pv) (h2 : DAt τ bb2 S2 fs2 pcs2 size mb2 pv2) (c : ZtR fs pcs fs2 pcs2 done) : ∀ f ∈ fs, ∃ f2 ∈ fs2, f2.nm = f.nm /\ f2.d = f.d /\ f2.b = (ZvE (prs done) f.b).getD 0 /\ ∀ p ∈ pcs, (ZvE (prs done) p.1).getD 0 = (ZvE (prs done) f.b).getD 0 ↔ p.1 = f.b := fun f hf => by
 have hnb : (done.map fun q => q.1.b).Nodup := by
  have : (done.map fun q => q.1.b) = (done.map (·.1)).map (·.b) := by rw [List.map_map]; rfl
  rw [this, (c.one.map _).nodup_iff]
  exact h.nd
 have hnb2 : (done.map fun q => q.2.b).Nodup := by
  have : (done.map fun q => q.2.b) = (done.map (·.2)).map (·.b) := by rw [List.map_map]; rfl
  rw [this, <- c.two]
  exact h2.nd
 have hfind : ∀ g ∈ fs, ∃ q ∈ done, q.1 = g := fun g hg => by
  obtain ⟨q, hq, e⟩ := List.mem_map.1 (c.one.mem_iff.2 hg)
  exact ⟨q, hq, e⟩
 obtain ⟨q, hq, rfl⟩ := hfind f hf
 have hg := Zjj hnb q hq
 refine ⟨q.2, by rw [c.two]; exact List.mem_map.2 ⟨q, hq, rfl⟩, (c.same q hq).1, (c.same q hq).2, by rw [hg]; rfl, fun p hp => ?_⟩
 obtain ⟨g, hg1, hg2⟩ := h.inn p hp
 obtain ⟨r, hr, rfl⟩ := hfind g hg1
 rw [<- hg2, hg, Zjj hnb r hr]
 show r.2.b = q.2.b ↔ _
 constructor
 ·intro e
  have : r = q := by
   clear hg hg1 hg2 hfind hp hf
   induction done with
   | nil => cases hq
   | cons a l ih =>
    rw [List.map_cons, List.nodup_cons] at hnb2
    rcases List.mem_cons.1 hr with e1 | e1 <;> rcases List.mem_cons.1 hq with e2 | e2
    ·rw [e1, e2]
    ·exact absurd (List.mem_map.2 ⟨q, e2, by rw [<- e, e1]⟩) hnb2.1
    ·exact absurd (List.mem_map.2 ⟨r, e1, by rw [e, e2]⟩) hnb2.1
    ·have hnd := hnb2.2
     have key : ∀ {l : List (Fl × Fl)}, (l.map fun q => q.2.b).Nodup -> ∀ r ∈ l, ∀ q ∈ l, r.2.b = q.2.b -> r = q := by
      intro l
      induction l with
      | nil => intro _ r hr; cases hr
      | cons a l ih =>
       intro hn r hr q hq e
       rw [List.map_cons, List.nodup_cons] at hn
       rcases List.mem_cons.1 hr with e1 | e1 <;> rcases List.mem_cons.1 hq with e2 | e2
       ·rw [e1, e2]
       ·exact absurd (List.mem_map.2 ⟨q, e2, by rw [<- e, e1]⟩) hn.1
       ·exact absurd (List.mem_map.2 ⟨r, e1, by rw [e, e2]⟩) hn.1
       ·exact ih hn.2 r e1 q e2 e
     exact key hnd r e1 q e2 e
  rw [this]
 ·intro e
  have := h.uniq hg1 hf e
  have hq2 : ZvE (prs done) r.1.b = some r.2.b := Zjj hnb r hr
  rw [this, Zjj hnb q hq] at hq2
  injection hq2 with hq2
  exact hq2.symm
theorem ZtR.wf (h : DAt σ bb S fs pcs size mb pv) (h2 : DAt τ bb2 S2 fs2 pcs2 size mb2 pv2) (c : ZtR fs pcs fs2 pcs2 done) (hw : Wf fs pcs) : Wf fs2 pcs2 /\ ZfF pcs2 = ZfF pcs /\ pcs2.length = pcs.length /\ fs2.length = fs.length /\ (∀ f2 ∈ fs2, ∃ f ∈ fs, f2.nm = f.nm /\ f2.d = f.d) := by
 have hall : ∀ f2 ∈ fs2, ∃ f ∈ fs, f2.nm = f.nm /\ f2.d = f.d := fun f2 hf2 => by
  rw [c.two] at hf2
  obtain ⟨q, hq, rfl⟩ := List.mem_map.1 hf2
  exact ⟨q.1, c.one.mem_iff.1 (List.mem_map.2 ⟨q, hq, rfl⟩), (c.same q hq).1, (c.same q hq).2⟩
 refine ⟨⟨fun p hp => ?_, fun f2 hf2 => ?_⟩, by rw [c.pcs, Zx8 (g := fun x => (ZvE (prs done) x).getD 0)], by rw [c.pcs, List.length_map], ?_, hall⟩
 ·rw [c.pcs] at hp
  obtain ⟨p', hp', rfl⟩ := List.mem_map.1 hp
  exact hw.pos p' hp'
 ·obtain ⟨f, hf, e1, e2⟩ := hall f2 hf2
  obtain ⟨g2, hg2, q1, q2, q3, q4⟩ := c.ren h h2 f hf
  have : f2 = g2 := h2.uniqN hf2 hg2 (by rw [e1, q1])
  subst this
  rw [q3, e2, c.pcs, Zqi (g := fun x => (ZvE (prs done) x).getD 0) pcs q4]
  exact hw.fit f hf
 ·rw [c.two, List.length_map]
  have := c.one.length_eq
  rwa [List.length_map] at this
theorem ZtR.crash (h : DAt σ bb S fs pcs size mb pv) (h2 : DAt τ bb2 S2 fs2 pcs2 size mb2 pv2) (c : ZtR fs pcs fs2 pcs2 done) {fs3 : List Fl} {L : Nat} (hd : dat fs3 = ZpC L (dat fs2) pcs2.reverse) : ∀ f ∈ fs, ∃ f3 ∈ fs3, f3.nm = f.nm /\ f3.d = f.d.take (f.d.length - Zx7 f.b L pcs.reverse) := fun f hf => by
 obtain ⟨f2, hf2, q1, q2, q3, q4⟩ := c.ren h h2 f hf
 rw [Zqh] at hd
 have hm : (f2.nm, f2.b, f2.d.take (f2.d.length - Zx7 f2.b L pcs2.reverse)) ∈ dat fs3 := by
  rw [hd]
  exact List.mem_map.2 ⟨_, Zmz hf2, rfl⟩
 obtain ⟨f3, hf3, e⟩ := Zqd hm
 injection e with e1 e
 injection e with e2 e3
 refine ⟨f3, hf3, by rw [<- e1, q1], ?_⟩
 rw [<- e3, q2, q3, c.pcs, <- List.map_reverse, Zsz (g := fun x => (ZvE (prs done) x).getD 0) pcs.reverse L fun p hp => q4 p (List.mem_reverse.1 hp)]
end
abbrev ZB3 := List (List UInt8 × AV)
def ZDL (es : ZB3) : List (Value × Value) := es.map fun p => (sV p.1, p.2.val)
def ZCo : ZB3 -> List UInt8 -> AV -> ZB3
 | [], k, n => [(k, n)]
 | p :: es, k, n => if k = p.1 then (k, n) :: es else p :: ZCo es k n
section
variable {P : Program}
end
section
variable {P : Program} {ops : Array Oper} {env : Env} {σ τ : St} {K : Env -> St -> Prop} {d : Option Nat} {ty ty' t kt et : TypeId} {pos : String} {af : Array Edge} {x y z : Operand} {b n : Nat} {es : ZB3} {k : List UInt8}
end
theorem Zlc {N : Nat} {ρ : Nat -> AV} : ∀ {l : List (List UInt8)} {cs : List AV}, SVs CT N ρ (l.flatMap (CT.enc 3)) cs -> ∀ (i : Nat) (h : i < l.length), ∃ v, cs[i]? = some v /\ SV CT N ρ (.sl 1 l[i] none) v
 | f :: l, cs, hs, i, hi => by
  rw [List.flatMap_cons] at hs
  have hs : SVs CT N ρ (XV.sl 1 f none :: l.flatMap (CT.enc 3)) cs := hs
  obtain ⟨a0, as_, rfl, h0, h1⟩ := hs.to
  cases i with
  | zero => exact ⟨a0, rfl, h0⟩
  | succ i =>
   obtain ⟨v, q1, q2⟩ := Zlc (l := l) h1 i (by simpa using hi)
   exact ⟨v, q1, q2⟩
theorem Hd.validV {σ : St} {e sz n : Nat} {v : AV} {cells : List AV} (h : Hd σ e sz v n cells) : ∀ w B, Zag w B v := fun w B => by
 rcases h.2.2 with ⟨rfl | ⟨ad, rfl⟩, _⟩ | ⟨b, c, all, _, rfl, _⟩
 ·exact Zde
 ·exact ZaL _
 ·exact ZaL _
structure Rw where
 nm : List UInt8
 v : AV
 d : List UInt8
def ZyM (l : List Rw) : ZB3 := l.map fun r => (r.nm, r.v)
structure Zwo (υ : St) (T : Nat -> Prop) (m : Nat) (l : List Rw) : Prop where
 map : υ.blk m = some (.map (ZDL (ZyM l)))
 used : υ.used m
 row : ∀ r ∈ l, Hd υ 5 1 r.v r.d.length (bys r.d)
 nn : (l.map (·.nm)).Nodup
 own : T m /\ ∀ r ∈ l, ∀ x, hbk r.v = some x -> T x
theorem ZsA {k : List UInt8} {v : AV} : ∀ {l : List Rw}, (∀ r ∈ l, r.nm ≠ k) -> ZCo (ZyM l) k v = ZyM l ++ [(k, v)]
 | [], _ => rfl
 | a :: l, h => by
  show (if k = a.nm then (k, v) :: ZyM l else (a.nm, a.v) :: ZCo (ZyM l) k v) = _
  rw [if_neg fun e => h a List.mem_cons_self e.symm, ZsA fun r hr => h r (List.mem_cons_of_mem _ hr)]
  rfl
section
variable {σ υ τ : St} {T : Nat -> Prop} {m : Nat} {l : List Rw}
theorem Zwo.but {U : Nat -> Prop} (h : Zwo υ T m l) (k : But U υ τ) (hU : ∀ c, T c -> ¬ U c) : Zwo τ T m l :=
 ⟨k.keep _ _ (hU _ h.own.1) h.map, k.used _ h.used, fun r hr => (h.row r hr).but k fun b hb => hU _ (h.own.2 r hr b hb), h.nn, h.own⟩
theorem Zwo.ext (h : Zwo υ T m l) (k : Ext υ τ) : Zwo τ T m l := h.but (U := fun _ => False) k.but fun _ _ => id
theorem Zwo.valid (h : Zwo υ T m l) : ∀ p ∈ ZyM l, ∀ w B, Zag w B p.2 := fun p hp => by
 obtain ⟨r, hr, rfl⟩ := List.mem_map.1 hp
 exact (h.row r hr).validV
theorem Zwo.push {k d : List UInt8} {v : AV} (h : Zwo υ T m l) (hv : Hd υ 5 1 v d.length (bys d)) (hne : ∀ r ∈ l, r.nm ≠ k) (hb : τ.blk m = some (.map (ZDL (ZCo (ZyM l) k v)))) (k4 : But (fun c => c = m) υ τ) : Zwo τ (fun c => T c \/ hbk v = some c) m (l ++ [⟨k, v, d⟩]) := by
 have hH : ∀ {u : AV} {n : Nat} {cs : List AV}, Hd υ 5 1 u n cs -> Hd τ 5 1 u n cs := fun {u n cs} hu => hu.but k4 fun c hc hq => by
  obtain ⟨all, hall⟩ := hu.blk hc
  exact ZeN hall h.map hq
 refine ⟨?_, k4.used _ h.used, fun r hr => ?_, ?_, .inl h.own.1, fun r hr x hx => ?_⟩
 ·rw [hb, ZsA hne]
  unfold ZyM
  rw [List.map_append]
  rfl
 ·rcases List.mem_append.1 hr with hr | hr
  ·exact hH (h.row r hr)
  ·rw [List.mem_singleton.1 hr]
   exact hH hv
 ·rw [List.map_append, List.nodup_append]
  refine ⟨h.nn, by simp, fun a ha b hb e => ?_⟩
  obtain ⟨r, hr, rfl⟩ := List.mem_map.1 ha
  simp at hb
  exact hne r hr (e.trans hb)
 ·rcases List.mem_append.1 hr with hr | hr
  ·exact .inl (h.own.2 r hr x hx)
  ·rw [List.mem_singleton.1 hr] at hx
   exact .inr hx
end
section
variable {σ : St} {bb mb : Nat} {S : Nat -> Prop} {fs : List Fl} {pcs : List (Nat × Nat)} {size : Int} {pv : AV} {K : AV -> St -> Prop} {M B : Nat}
end
def Zib (nm : List UInt8) (ns : List (List UInt8)) : List UInt8 := match ns with
 | [] => nm
 | n :: _ => n
section
variable {σ : St} {bb mb : Nat} {S : Nat -> Prop} {fs : List Fl} {pcs : List (Nat × Nat)} {size : Int} {pv : AV} {K : AV -> St -> Prop} {M B : Nat}
inductive ZsB (size : Int) (nm : List UInt8) (ns : List (List UInt8)) (n : Int) (d : List UInt8) (fs : List Fl) (pcs : List (Nat × Nat)) : Nat -> List Fl -> List (Nat × Nat) -> Nat -> Prop
 | bad {i : Nat} : i < 2 -> ¬ (nm ≠ [] /\ nm.length <= 40) -> ZsB size nm ns n d fs pcs i fs pcs 2
 | full {i : Nat} : i < 2 -> (nm ≠ [] /\ nm.length <= 40) -> ¬ (size < 1 \/ ((d.length + Zef fs : Nat) : Int) <= size) -> ZsB size nm ns n d fs pcs i fs pcs 8
 | app {i : Nat} {fs' pcs'} : i < 2 -> (nm ≠ [] /\ nm.length <= 40) -> (size < 1 \/ ((d.length + Zef fs : Nat) : Int) <= size) -> Zth fs pcs nm d fs' pcs' -> ZsB size nm ns n d fs pcs i fs' pcs' 0
 | sync : ZsB size nm ns n d fs pcs 2 fs (ZeP fs ns pcs).1 (ZeP fs ns pcs).2
 | cut6 : (∀ f ∈ fs, f.nm ≠ nm) -> ZsB size nm ns n d fs pcs 3 fs pcs 6
 | cut2 {f0 : Fl} : f0 ∈ fs -> f0.nm = nm -> (n < 0 \/ (f0.d.length : Int) < n) -> ZsB size nm ns n d fs pcs 3 fs pcs 2
 | cut {f0 : Fl} {v' : AV} : f0 ∈ fs -> f0.nm = nm -> 0 <= n -> n <= (f0.d.length : Int) -> ZsB size nm ns n d fs pcs 3 (fs.map (ZdG f0.b v' (f0.d.take n.toNat))) ((shr f0.b (f0.d.length - n.toNat) pcs).filter fun p => !decide (p.2 = 0)) 0
 | ZAC : (∃ f ∈ fs, f.nm = nm) -> ¬ (Zib nm ns ≠ [] /\ (Zib nm ns).length <= 40) -> ZsB size nm ns n d fs pcs 4 fs pcs 2
 | ren6 : (∀ f ∈ fs, f.nm ≠ nm) -> ZsB size nm ns n d fs pcs 4 fs pcs 6
 | rens {f0 : Fl} : f0 ∈ fs -> f0.nm = nm -> nm = Zib nm ns -> (Zib nm ns ≠ [] /\ (Zib nm ns).length <= 40) -> ZsB size nm ns n d fs pcs 4 fs pcs 0
 | ren {f0 : Fl} : f0 ∈ fs -> f0.nm = nm -> nm ≠ Zib nm ns -> (Zib nm ns ≠ [] /\ (Zib nm ns).length <= 40) -> ZsB size nm ns n d fs pcs 4 (rnF fs f0 (Zib nm ns)) (rnP fs pcs (Zib nm ns)) 0
 | rem : ZsB size nm ns n d fs pcs 5 (ZfA ns fs pcs).1 (ZfA ns fs pcs).2.1 (ZfA ns fs pcs).2.2
 | crash {fs'} : dat fs' = ZpC ((ZfF pcs : Int) - max n 0).toNat (dat fs) pcs.reverse -> ZsB size nm ns n d fs pcs 6 fs' [] 0
 | none {i : Nat} : 7 <= i -> ZsB size nm ns n d fs pcs i fs pcs 0
end
end Go.Proofs.YteempnebenjkmaaGreatDoor
