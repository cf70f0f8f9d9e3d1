/- XDw, XDva, XDc, XSk, XNw, XDg, XDca in one. -/
import Derived.Test.YteempnebenjkmaaGreatDoorMf
import Derived.Test.YteempnebenjkmaaGreatDoorMe
import Derived.Test.YteempnebenjkmaaGreatDoorMg
import Derived.Shelf.SlGeneric
import Derived.Shelf.SlIter.Nil
import Derived.Test.YteempnebenjkmaaGreatDoorProg
import Derived.Test.YteempnebenjkmaaGreatDoorSl
import Derived.Test.YteempnebenjkmaaGreatDoorMc
namespace Go.Proofs.YteempnebenjkmaaGreatDoor
open Go.RowKit
set_option maxRecDepth 100000
set_option linter.unusedVariables false
set_option linter.unusedSimpArgs false
theorem ZkZ (fs : List Fl) : Zde fs = ((dat fs).map (·.2.2.length)).sum := by
 unfold Zde dat
 rw [List.map_map]
 rfl
theorem Zmc {fs : List Fl} {f : Fl} (h : f ∈ fs) : (f.nm, f.b, f.d) ∈ dat fs := List.mem_map.2 ⟨f, h, rfl⟩
theorem ZpL {fs : List Fl} {q : List UInt8 × Nat × List UInt8} (h : q ∈ dat fs) : ∃ f ∈ fs, q = (f.nm, f.b, f.d) := by
 obtain ⟨f, hf, e⟩ := List.mem_map.1 h
 exact ⟨f, hf, e.symm⟩
def ZxP (b : Nat) (d : List UInt8) (l : FD) : FD := l.map fun f => if f.2.1 = b then (f.1, f.2.1, f.2.2 ++ d) else f
abbrev ZpM (b : Nat) (d : List UInt8) : List (Nat × Nat) := if d = [] then [] else [(b, d.length)]
theorem ZpN (b : Nat) (d : List UInt8) : ZcB (ZpM b d) = d.length := by
 unfold ZpM
 split
 ·rename_i h; subst h; rfl
 ·rw [ZrP]
theorem Zr7 (b : Nat) (d : List UInt8) : (ZpM b d).length <= 1 := by
 unfold ZpM
 split <;> simp
theorem Znb (b c : Nat) (d : List UInt8) : ZcP c (ZpM b d) = if b = c then d.length else 0 := by
 unfold ZpM
 split
 ·rename_i h; subst h; rw [ZiO]; split <;> rfl
 ·rw [Zfx]
theorem Zth {b : Nat} {pcs : List (Nat × Nat)} (h : ∀ p ∈ pcs, p.1 ≠ b) : ZcP b pcs = 0 := by
 unfold ZcP
 rw [List.filter_eq_nil_iff.2 fun p hp => by simp [h p hp]]
 rfl
theorem ZpO {σ τ : St} {bb bb' mb mb' : Nat} {S S' : Nat -> Prop} {fs fs' : List Fl} {pcs pcs' : List (Nat × Nat)} {size size' : Int} {pv pv' : AV} {k d : List UInt8} (h : DAt σ bb S fs pcs size mb pv) (h' : DAt τ bb' S' fs' pcs' size' mb' pv') (ha : ZsT fs pcs k d fs' pcs') :
 (∃ nb, (∀ f ∈ fs, f.nm ≠ k) /\ (∀ f ∈ fs, f.b ≠ nb) /\ dat fs' = dat fs ++ [(k, nb, d)] /\ pcs' = pcs ++ ZpM nb d) \/ ∃ f0 ∈ fs, f0.nm = k /\ dat fs' = ZxP f0.b d (dat fs) /\ pcs' = pcs ++ ZpM f0.b d := by
 obtain ⟨fs1, f0, v', hor, hf0, hnm, rfl, hp⟩ := ha
 rcases hor with rfl | ⟨hn, rfl, hd⟩
 ·right
  refine ⟨f0, hf0, hnm, ?_, hp⟩
  unfold dat ZxP
  rw [List.map_map, List.map_map]
  refine List.map_congr_left fun f hf => ?_
  simp only [Function.comp]
  unfold Zco
  by_cases hb : f.b = f0.b
  ·rw [if_pos hb, if_pos hb, h.uniq hf hf0 hb]
  ·rw [if_neg hb, if_neg hb]
 ·left
  have hne : ∀ f ∈ fs, f.b ≠ f0.b := fun f hf e => by
   have hnd := h'.nd
   rw [List.map_map, List.map_append, List.nodup_append] at hnd
   exact hnd.2.2 f.b (List.mem_map.2 ⟨f, hf, Zd7 f⟩) f0.b (List.mem_map.2 ⟨f0, List.mem_cons_self, Zd7 f0⟩) e
  refine ⟨f0.b, hn, hne, ?_, hp⟩
  unfold dat
  rw [List.map_map, List.map_append]
  congr 1
  ·refine List.map_congr_left fun f hf => ?_
   simp only [Function.comp]
   unfold Zco
   rw [if_neg (hne f hf)]
  ·simp [Zco, hnm, hd]
theorem Zr8 {b : Nat} {d : List UInt8} : ∀ {l : FD}, (l.map (·.2.1)).Nodup -> (∃ q ∈ l, q.2.1 = b) -> ((ZxP b d l).map (·.2.2.length)).sum = (l.map (·.2.2.length)).sum + d.length
 | [], _, h => by obtain ⟨q, hq, _⟩ := h; cases hq
 | f :: l, hnd, h => by
  rw [List.map_cons, List.nodup_cons] at hnd
  by_cases hb : f.2.1 = b
  ·have : ZxP b d l = l := by
    unfold ZxP
    conv => rhs; rw [<- List.map_id l]
    refine List.map_congr_left fun g hg => ?_
    rw [if_neg (fun e => hnd.1 (List.mem_map.2 ⟨g, hg, by rw [e, hb]⟩))]
    rfl
   show (((if f.2.1 = b then (f.1, f.2.1, f.2.2 ++ d) else f) :: ZxP b d l).map (·.2.2.length)).sum = _
   rw [this, if_pos hb]
   simp
   omega
  ·have ih := Zr8 (b := b) (d := d) hnd.2 (by
    obtain ⟨q, hq, hqb⟩ := h
    rcases List.mem_cons.1 hq with rfl | hq
    ·exact absurd hqb hb
    ·exact ⟨q, hq, hqb⟩)
   show (((if f.2.1 = b then (f.1, f.2.1, f.2.2 ++ d) else f) :: ZxP b d l).map (·.2.2.length)).sum = _
   rw [if_neg hb, List.map_cons, List.sum_cons, ih, List.map_cons, List.sum_cons]
   omega
theorem ZB1 (fs : List Fl) : (dat fs).map (·.2.1) = fs.map (·.b) := by
 unfold dat
 rw [List.map_map]
 rfl
theorem Zzi {σ τ : St} {bb bb' mb mb' : Nat} {S S' : Nat -> Prop} {fs fs' : List Fl} {pcs pcs' : List (Nat × Nat)} {size size' : Int} {pv pv' : AV} {k d : List UInt8} (h : DAt σ bb S fs pcs size mb pv) (h' : DAt τ bb' S' fs' pcs' size' mb' pv') (ha : ZsT fs pcs k d fs' pcs') (hwf : Wf fs pcs) :
 Wf fs' pcs' /\ ZcB pcs' = ZcB pcs + d.length /\ pcs'.length <= pcs.length + 1 /\ Zde fs' = Zde fs + d.length := by
 have hpos : ∀ b, ∀ p ∈ pcs ++ ZpM b d, 0 < p.2 := fun b p hp => by
  rcases List.mem_append.1 hp with hp | hp
  ·exact hwf.pos p hp
  ·unfold ZpM at hp
   split at hp
   ·cases hp
   ·rename_i hd
    rw [List.mem_singleton.1 hp]
    exact List.length_pos_iff.2 hd
 rcases ZpO h h' ha with ⟨nb, hn, hnb, hdat, rfl⟩ | ⟨f0, hf0, hnm, hdat, rfl⟩
 ·refine ⟨⟨hpos nb, fun f hf => ?_⟩, by rw [Zgl, ZpN], by rw [List.length_append]; have := Zr7 nb d; omega, by rw [ZkZ, hdat, List.map_append, List.sum_append, <- ZkZ]; simp⟩
  have hm := Zmc hf
  rw [hdat] at hm
  rw [Zfw, Znb]
  rcases List.mem_append.1 hm with hm | hm
  ·obtain ⟨g, hg, e⟩ := ZpL hm
   injection e with _ e
   injection e with e1 e2
   rw [e1, e2, if_neg (fun e => hnb g hg e.symm)]
   exact hwf.fit g hg
  ·have e := List.mem_singleton.1 hm
   injection e with _ e
   injection e with e1 e2
   rw [e1, e2, if_pos rfl, Zth fun p hp => ?_]
   ·omega
   ·obtain ⟨g, hg, e⟩ := h.inn p hp
    rw [<- e]
    exact hnb g hg
 ·have hsum : Zde fs' = Zde fs + d.length := by
   rw [ZkZ, hdat, Zr8 (by rw [ZB1]; exact h.nd) ⟨_, Zmc hf0, rfl⟩, <- ZkZ]
  refine ⟨⟨hpos f0.b, fun f hf => ?_⟩, by rw [Zgl, ZpN], by rw [List.length_append]; have := Zr7 f0.b d; omega, hsum⟩
  have hm := Zmc hf
  rw [hdat] at hm
  rw [Zfw, Znb]
  obtain ⟨q, hq, e⟩ := List.mem_map.1 hm
  obtain ⟨g, hg, rfl⟩ := ZpL hq
  dsimp only at e
  have hfit := hwf.fit g hg
  by_cases hb : g.b = f0.b
  ·rw [if_pos hb] at e
   injection e with _ e
   injection e with e1 e2
   rw [<- e1, <- e2, if_pos hb.symm, List.length_append]
   omega
  ·rw [if_neg hb] at e
   injection e with _ e
   injection e with e1 e2
   rw [<- e1, <- e2, if_neg (fun e => hb e.symm)]
   exact hfit
end Go.Proofs.YteempnebenjkmaaGreatDoor
namespace Go.Proofs.YteempnebenjkmaaGreatDoor
open Go.RowKit
set_option maxRecDepth 100000
set_option linter.unusedVariables false
set_option linter.unusedSimpArgs false
theorem Zvv {a n : Nat} : ∀ {bs : List Nat}, bs.Nodup -> (bs.map fun b => if a = b then n else 0).sum = if a ∈ bs then n else 0
 | [], _ => by simp
 | b :: bs, h => by
  rw [List.nodup_cons] at h
  rw [List.map_cons, List.sum_cons, Zvv h.2]
  by_cases hab : a = b
  ·subst hab
   simp [h.1]
  ·simp [hab]
theorem Zhw (b : Nat) (p : Nat × Nat) (l : List (Nat × Nat)) : ZcP b (p :: l) = (if p.1 = b then p.2 else 0) + ZcP b l := by
 rw [show p :: l = [p] ++ l from rfl, Zfw, Zfx]
theorem Zi9 (p : Nat × Nat) (l : List (Nat × Nat)) : ZcB (p :: l) = p.2 + ZcB l := by simp [ZcB]
theorem Zvw {α : Type} (f g : α -> Nat) : ∀ l : List α, (l.map fun x => f x + g x).sum = (l.map f).sum + (l.map g).sum
 | [] => rfl
 | x :: l => by
  rw [List.map_cons, List.sum_cons, Zvw f g l, List.map_cons, List.sum_cons, List.map_cons, List.sum_cons]
  omega
theorem Zvx {bs : List Nat} (hn : bs.Nodup) : ∀ {pcs : List (Nat × Nat)}, (∀ p ∈ pcs, p.1 ∈ bs) -> (bs.map fun b => ZcP b pcs).sum = ZcB pcs
 | [], _ => by
  rw [show (fun b => ZcP b []) = fun _ => 0 from rfl]
  clear hn
  induction bs with
  | nil => rfl
  | cons b bs ih =>
   rw [List.map_cons, List.sum_cons, ih fun p hp => by cases hp]
   rfl
 | p :: l, h => by
  rw [show (fun b => ZcP b (p :: l)) = fun b => (if p.1 = b then p.2 else 0) + ZcP b l from funext fun b => Zhw b p l, Zvw, Zvv hn, if_pos (h p List.mem_cons_self), Zvx hn fun q hq => h q (List.mem_cons_of_mem _ hq), Zi9]
theorem Zr9 {α : Type} {f g : α -> Nat} : ∀ {l : List α}, (∀ x ∈ l, f x <= g x) -> (l.map f).sum <= (l.map g).sum
 | [], _ => Nat.le_refl _
 | x :: l, h => by
  rw [List.map_cons, List.sum_cons, List.map_cons, List.sum_cons]
  have := h x List.mem_cons_self
  have := Zr9 fun y hy => h y (List.mem_cons_of_mem x hy)
  omega
theorem Zzj {σ : St} {bb mb : Nat} {S : Nat -> Prop} {fs : List Fl} {pcs : List (Nat × Nat)} {size : Int} {pv : AV} (h : DAt σ bb S fs pcs size mb pv) (hw : Wf fs pcs) : ZcB pcs <= Zde fs := by
 rw [<- Zvx h.nd fun p hp => by
  obtain ⟨f, hf, e⟩ := h.inn p hp
  exact List.mem_map.2 ⟨f, hf, e⟩, List.map_map]
 exact Zr9 fun f hf => hw.fit f hf
theorem Zxf {l m : List (Nat × Nat)} (h : l.Sublist m) : ZcB l <= ZcB m := by
 induction h with
 | slnil => exact Nat.le_refl _
 | cons a _ ih => rw [Zi9]; omega
 | cons_cons a _ ih => rw [Zi9, Zi9]; omega
theorem Zvy {l m : List (Nat × Nat)} (b : Nat) (h : l.Sublist m) : ZcP b l <= ZcP b m := Zxf (h.filter _)
theorem Wf.sub {fs fs' : List Fl} {pcs pcs' : List (Nat × Nat)} (h : Wf fs pcs) (h1 : ∀ f ∈ fs', f ∈ fs) (h2 : pcs'.Sublist pcs) : Wf fs' pcs' := ⟨fun p hp => h.pos p (h2.subset hp), fun f hf => Nat.le_trans (Zvy _ h2) (h.fit f (h1 f hf))⟩
theorem Zsa {l m : List Fl} (h : l.Sublist m) : Zde l <= Zde m := by
 have hc : ∀ (f : Fl) (l : List Fl), Zde (f :: l) = f.d.length + Zde l := fun f l => by simp [Zde]
 induction h with
 | slnil => exact Nat.le_refl _
 | cons a _ ih => rw [hc]; omega
 | cons_cons a _ ih => rw [hc, hc]; omega
structure Inv (υ : St) (bb mb : Nat) (size : Int) (S : Nat -> Prop) (fs : List Fl) (pcs : List (Nat × Nat)) (pv : AV) (M B : Nat) : Prop where
 disk : DAt υ bb S fs pcs size mb pv
 used : ∀ c, S c -> υ.used c
 wf : Wf fs pcs
 nms : ∀ f ∈ fs, f.nm.length <= 40
 sum : Zde fs <= B
 few : pcs.length <= M
 nfs : fs.length <= M
 cap : 0 < size -> (Zde fs : Int) <= size
section
variable {σ τ : St} {bb mb : Nat} {size : Int} {S : Nat -> Prop} {fs : List Fl} {pcs : List (Nat × Nat)} {pv : AV} {M B : Nat}
theorem Inv.ext (h : Inv σ bb mb size S fs pcs pv M B) (k : Ext σ τ) : Inv τ bb mb size S fs pcs pv M B := ⟨h.disk.ext k, fun c hc => k.used _ (h.used c hc), h.wf, h.nms, h.sum, h.few, h.nfs, h.cap⟩
theorem Inv.more (h : Inv σ bb mb size S fs pcs pv M B) {M' B' : Nat} (h1 : M <= M') (h2 : B <= B') : Inv σ bb mb size S fs pcs pv M' B' := ⟨h.disk, h.used, h.wf, h.nms, Nat.le_trans h.sum h2, Nat.le_trans h.few h1, Nat.le_trans h.nfs h1, h.cap⟩
theorem Inv.file (h : Inv σ bb mb size S fs pcs pv M B) (hB : B <= 1000000000) : ∀ f ∈ fs, f.d.length <= 1000000000 := fun f hf => by
 have := ZnI hf
 have := h.sum
 omega
theorem Inv.pcs_ (h : Inv σ bb mb size S fs pcs pv M B) (hB : B <= 1000000000) : ZcB pcs <= 1000000000 := by
 have := Zzj h.disk h.wf
 have := h.sum
 omega
theorem Inv.pc (h : Inv σ bb mb size S fs pcs pv M B) (hB : B <= 1000000000) : ∀ p ∈ pcs, p.2 <= 1000000000 := fun p hp => by
 have := ZnK hp
 have := h.pcs_ hB
 omega
theorem Inv.sub (h : Inv σ bb mb size S fs pcs pv M B) {fs' : List Fl} {pcs' : List (Nat × Nat)} {pv' : AV} (hd : DAt τ bb S fs' pcs' size mb pv') (hB : But S σ τ) (h1 : fs'.Sublist fs) (h2 : pcs'.Sublist pcs) : Inv τ bb mb size S fs' pcs' pv' M B :=
 ⟨hd, fun c hc => hB.used _ (h.used c hc), h.wf.sub (fun f hf => h1.subset hf) h2, fun f hf => h.nms f (h1.subset hf), Nat.le_trans (Zsa h1) h.sum, Nat.le_trans h2.length_le h.few, Nat.le_trans h1.length_le h.nfs, fun hs => by
  have := h.cap hs
  have := Zsa h1
  omega⟩
theorem Inv.app (h : Inv σ bb mb size S fs pcs pv M B) {S' : Nat -> Prop} {fs' : List Fl} {pcs' : List (Nat × Nat)} {pv' : AV} {k d : List UInt8} (hd : DAt τ bb S' fs' pcs' size mb pv') (hu : ∀ c, S' c -> τ.used c) (ha : ZsT fs pcs k d fs' pcs') (hk : k.length <= 40) (hf : size < 1 \/ ((d.length + Zde fs : Nat) : Int) <= size) : Inv τ bb mb size S' fs' pcs' pv' (M + 1) (B + d.length) := by
 obtain ⟨w1, w2, w3, w4⟩ := Zzi h.disk hd ha h.wf
 have hn : ∀ f ∈ fs', f.nm.length <= 40 /\ fs'.length <= fs.length + 1 := fun f hf => by
  have hm := Zmc hf
  have hlen : fs'.length = (dat fs').length := by simp [dat]
  have hlen2 : fs.length = (dat fs).length := by simp [dat]
  rcases ZpO h.disk hd ha with ⟨nb, _, _, g1, _⟩ | ⟨f0, _, _, g1, _⟩
  ·rw [g1] at hm
   refine ⟨?_, by rw [hlen, g1, List.length_append, <- hlen2]; exact Nat.le_refl _⟩
   rcases List.mem_append.1 hm with hm | hm
   ·obtain ⟨g, hg, e⟩ := ZpL hm
    injection e with e _
    rw [e]; exact h.nms g hg
   ·have e := List.mem_singleton.1 hm
    injection e with e _
    rw [e]; exact hk
  ·rw [g1] at hm
   refine ⟨?_, by rw [hlen, g1]; unfold ZxP; rw [List.length_map, <- hlen2]; omega⟩
   obtain ⟨q, hq, e⟩ := List.mem_map.1 hm
   obtain ⟨g, hg, rfl⟩ := ZpL hq
   have : f.nm = g.nm := by
    dsimp only at e
    split at e
    ·injection e with e _; exact e.symm
    ·injection e with e _; exact e.symm
   rw [this]; exact h.nms g hg
 refine ⟨hd, hu, w1, fun f hf => (hn f hf).1, by have := h.sum; omega, by have := h.few; omega, ?_, fun hs => ?_⟩
 ·cases hfs : fs' with
  | nil => exact Nat.zero_le _
  | cons f l =>
   have := (hn f (by rw [hfs]; exact List.mem_cons_self)).2
   have := h.nfs
   rw [hfs] at *
   omega
 ·rcases hf with q | q
  ·omega
  ·rw [w4]; omega
end
end Go.Proofs.YteempnebenjkmaaGreatDoor
namespace Go.Proofs.YteempnebenjkmaaGreatDoor
open Go.RowKit
set_option maxRecDepth 100000
set_option linter.unusedVariables false
set_option linter.unusedSimpArgs false
section
variable {σ τ : St} {bb mb : Nat} {S : Nat -> Prop} {fs : List Fl} {pcs : List (Nat × Nat)} {size : Int} {pv : AV}
end
abbrev prs (done : List (Fl × Fl)) : List (Nat × Nat) := done.map fun q => (q.1.b, q.2.b)
structure Zti (fs : List Fl) (pcs : List (Nat × Nat)) (fs2 : List Fl) (pcs2 : List (Nat × Nat)) (done : List (Fl × Fl)) : Prop where
 two : fs2 = done.map (·.2)
 one : (done.map (·.1)).Perm fs
 same : ∀ q ∈ done, q.2.nm = q.1.nm /\ q.2.d = q.1.d
 pcs : pcs2 = pcs.map fun p => ((Zu2 (prs done) p.1).getD 0, p.2)
theorem ZxQ {s t : List UInt8} (h : sV s = sV t) : s = t := by
 unfold sV at h
 injection h with h
 injection h with h
 have := congrArg Array.toList h
 simpa using this
section
variable {σ : St} {bb mb : Nat} {S : Nat -> Prop} {fs : List Fl} {pcs : List (Nat × Nat)} {size : Int} {pv : AV} {K : AV -> St -> Prop}
theorem Zxg {arr : Array MapEntry} {c : Nat} (h : DAt σ bb S fs pcs size mb pv) (hM : ZvP arr c (ZgK (Za3 fs))) : (arr.toList.map (·.key)).Nodup := by
 have e1 : arr.toList.map (·.key) = (arr.toList.map fun e : MapEntry => (e.key, e.val)).map (·.1) := by rw [List.map_map]; rfl
 rw [e1, hM.1]
 have e2 : (ZgK (Za3 fs)).map (·.1) = (fs.map (·.nm)).map sV := by
  unfold ZgK Za3
  rw [List.map_map, List.map_map, List.map_map]
  rfl
 rw [e2]
 have hnn := h.nn
 generalize fs.map (·.nm) = l at hnn
 clear h hM e1 e2
 induction l with
 | nil => exact .nil
 | cons a l ih =>
  rw [List.nodup_cons] at hnn
  refine List.nodup_cons.2 ⟨fun ha => ?_, ih hnn.2⟩
  obtain ⟨x, hx, e⟩ := List.mem_map.1 ha
  exact hnn.1 (ZxQ e ▸ hx)
theorem Zxh {arr : Array MapEntry} {c : Nat} (hM : ZvP arr c (ZgK (Za3 fs))) {e : MapEntry} (he : e ∈ arr.toList) : ∃ f ∈ fs, e.key = sV f.nm /\ e.val = pV f.b := by
 have : (e.key, e.val) ∈ ZgK (Za3 fs) := by
  rw [<- hM.1]
  exact List.mem_map.2 ⟨e, he, rfl⟩
 unfold ZgK Za3 at this
 rw [List.map_map] at this
 obtain ⟨f, hf, hq⟩ := List.mem_map.1 this
 injection hq with q1 q2
 exact ⟨f, hf, q1.symm, q2.symm⟩
structure ZCG (σ : St) (fs : List Fl) (arr : Array MapEntry) (c mb ib tw bb2 mb2 : Nat) (size : Int) (υ : St) (done : List (Fl × Fl)) (seen : Array Nat) (D : List MapEntry) (S2 : Nat -> Prop) : Prop where
 came : Zzw arr seen D
 what : (D.map fun e : MapEntry => (e.key, e.val)) = done.map fun q => (sV q.1.nm, pV q.1.b)
 each : ∀ q ∈ done, q.1 ∈ fs /\ q.2.nm = q.1.nm /\ q.2.d = q.1.d
 disk : DAt υ bb2 S2 (done.map (·.2)) [] size mb2 (.lst none 0 0 [])
 newS : ∀ x, S2 x -> Zei σ x /\ υ.used x /\ x ≠ tw /\ x ≠ ib
 twin : υ.blk tw = some (.map (ZBR (prs done)))
 utw : υ.used tw
 iter : υ.blk ib = some (.map (ZB4 mb c seen c))
 uib : υ.used ib
 held : υ.blk mb = some (.map (Zzz arr c))
 but : But (fun x => x = mb) σ υ
set_option maxHeartbeats 4000000 in
end
end Go.Proofs.YteempnebenjkmaaGreatDoor
namespace Go.Proofs
open Go.Shelf
def Tryz.keys82_ren : Go.Shelf.Ren := ⟨fun | 7 => 82 | 10 => 150 | n => n, fun | 23 => 76 | 26 => 9 | 3 => 85 | 28 => 160 | 0 => 0 | 27 => 159 | 33 => 82 | 4 => 4 | n => n, fun | n => n⟩
theorem Tryz.keys82 : Go.Proofs.SlLaysZ.n7 Tryz.prog Tryz.keys82_ren := {
 mixed := by kernel_rfl
 f7 := ⟨Tryz.f82.name, by decide, Tryz.func82.trans (congrArg some (by kernel_rfl))⟩
 f10 := ⟨Tryz.f150.name, by decide, Tryz.func150.trans (congrArg some (by kernel_rfl))⟩
 t0 := Tryz.underlying0
 a0 := Tryz.isAgg0
 z0 := Tryz.sizeOf0
 v0 := Tryz.zeroValue0
 t4 := Tryz.underlying4
 a4 := Tryz.isAgg4
 z4 := Tryz.sizeOf4
 v4 := Tryz.zeroValue4
 t23 := Tryz.underlying76
 a23 := Tryz.isAgg76
 z23 := Tryz.sizeOf76
 v23 := Tryz.zeroValue76
 t26 := Tryz.underlying9
 a26 := Tryz.isAgg9
 z26 := Tryz.sizeOf9
 v26 := Tryz.zeroValue9
 t27 := Tryz.underlying159
 a27 := Tryz.isAgg159
 z27 := Tryz.sizeOf159
 v27 := Tryz.zeroValue159
 t28 := Tryz.underlying160
 a28 := Tryz.isAgg160
 z28 := Tryz.sizeOf160
 v28 := Tryz.zeroValue160
 t33 := Tryz.underlying82
 a33 := Tryz.isAgg82
 z33 := Tryz.sizeOf82
 v33 := Tryz.zeroValue82 }
def Tryz.sorted81_ren : Go.Shelf.Ren := ⟨fun | 6 => 81 | 8 => 148 | 9 => 149 | 11 => 195 | 13 => 197 | 12 => 196 | 23 => 217 | 24 => 218 | 14 => 208 | 15 => 209 | 16 => 210 | 17 => 211 | 18 => 212 | 19 => 213 | 20 => 214 | 21 => 215 | 22 => 216 | 25 => 225 | 26 => 226 | 27 => 227 | 28 => 228 | 29 => 229 | 30 => 230 | 31 => 235 | n => n, fun | 26 => 9 | 28 => 160 | 24 => 69 | 0 => 0 | 3 => 3 | 37 => 162 | 48 => 74 | 50 => 175 | 4 => 4 | 40 => 336 | 39 => 335 | 45 => 341 | 5 => 5 | 9 => 9 | 51 => 350 | 55 => 354 | 57 => 360 | 58 => 233 | 33 => 82 | n => n, fun | n => n⟩
theorem Tryz.sorted81 : Go.Proofs.SlLaysZ.n6 Tryz.prog Tryz.sorted81_ren := {
 mixed := by kernel_rfl
 f6 := ⟨Tryz.f81.name, by decide, Tryz.func81.trans (congrArg some (by kernel_rfl))⟩
 f8 := ⟨Tryz.f148.name, by decide, Tryz.func148.trans (congrArg some (by kernel_rfl))⟩
 f11 := ⟨Tryz.f195.name, by decide, Tryz.func195.trans (congrArg some (by kernel_rfl))⟩
 t0 := Tryz.underlying0
 a0 := Tryz.isAgg0
 z0 := Tryz.sizeOf0
 v0 := Tryz.zeroValue0
 t24 := Tryz.underlying69
 a24 := Tryz.isAgg69
 z24 := Tryz.sizeOf69
 v24 := Tryz.zeroValue69
 t26 := Tryz.underlying9
 a26 := Tryz.isAgg9
 z26 := Tryz.sizeOf9
 v26 := Tryz.zeroValue9
 t28 := Tryz.underlying160
 a28 := Tryz.isAgg160
 z28 := Tryz.sizeOf160
 v28 := Tryz.zeroValue160
 i26 := by kernel_rfl }
open Go.RowKit Go.Maps Go.Sort
theorem Tryz.sorts81 (m : Nat) : AnyZ.SortsIn Tryz.prog Tryz.sorted81_ren Fence.wide m :=
 ⟨fun blk off cap ss W hH hblk hsz => callsIn_wide.2 (Tryz.slices_Sort_string blk off cap ss W hH hblk hsz),
  fun p cap W => callsIn_wide.2 (Tryz.slices_Sort_string_none p cap W)⟩
theorem Tryz.maps_Keys_82 (mb : Option Nat) (W : World) : CallsIn Fence.wide 5 Tryz.prog 82 #[.map mb] W fun e w' => e = .returned (.func (.func 150) #[] #[.pointer (some ⟨W.heap.size, 0, none⟩)]) /\ w' = W.alloc (.cells #[.map mb] 76) :=
 AnyZ.keys_in Tryz.keys82 Fence.wide 5 trivial rfl mb W
set_option maxHeartbeats 1000000 in
theorem Tryz.slices_Sorted_keys_81_82 {H : Type} (b nn : Nat) (D0 : DataW H) (R : Value -> Option (DataW H × List MemPlace)) (w : World) (hown : w.ownsMap Tryz.prog 9 R b nn D0) (hmax : Maps.size D0 <= maxLen) (hbytes : Maps.size D0 * 16 <= 140737488355328) :
 CallsIn Fence.wide 5 Tryz.prog 81 #[.func (.func 150) #[] #[.pointer (some ⟨w.heap.size, 0, none⟩)]] (w.alloc (.cells #[.map (some b)] 76)) fun e w' => ∃ (v : Value) (ss : List (List UInt8)), e = .returned v /\ ss.Perm (strKeys D0) /\
  w'.ownsRow (w.alloc (.cells #[.map (some b)] 76)).heap.size 9 1 v ss.length ((ss.mergeSort (fun x y => decide (x <= y))).map encStr) /\ (v = .slice none 0 0 ↔ ss = []) /\ Below (w.alloc (.cells #[.map (some b)] 76)).heap.size (w.alloc (.cells #[.map (some b)] 76)) w' := by
 have hbl := hown.lt
 have hseq : SeqGives Fence.wide 2 Tryz.prog 150 #[.pointer (some ⟨w.heap.size, 0, none⟩)] encStr (fun ss => ss.Perm (strKeys D0)) (Maps.size D0) (w.alloc (.cells #[.map (some b)] 76)) :=
  AnyZ.keys_gives (ρ := Tryz.keys82_ren) { Tryz.keys82 with } Fence.wide _ trivial rfl (by omega) w.heap.size b nn D0 _ (by simp) (by simp) (by
   obtain ⟨es, clock, hb, Ft, hs, hD⟩ := hown
   exact ⟨es, clock, (Below.heap_alloc _ _ b hbl).trans hb, Ft, hs, hD⟩)
 exact AnyZ.sorted_in Tryz.sorted81 Fence.wide 5 trivial trivial trivial trivial rfl (by omega) (Tryz.sorts81 _) (enters_of Tryz.func149 (by kernel_rfl) rfl) 150 #[.pointer (some ⟨w.heap.size, 0, none⟩)] trivial (enters_of Tryz.func150 (by kernel_rfl) rfl) _ _ hmax hbytes _ hseq
set_option maxHeartbeats 1000000 in
theorem Tryz.slices_Sorted_keys_nil_81_82 (w : World) :
 CallsIn Fence.wide 5 Tryz.prog 81 #[.func (.func 150) #[] #[.pointer (some ⟨w.heap.size, 0, none⟩)]] (w.alloc (.cells #[.map none] 76)) fun e w' => ∃ (v : Value) (ss : List (List UInt8)), e = .returned v /\ ss = [] /\
  w'.ownsRow (w.alloc (.cells #[.map none] 76)).heap.size 9 1 v ss.length ((ss.mergeSort (fun x y => decide (x <= y))).map encStr) /\ (v = .slice none 0 0 ↔ ss = []) /\ Below (w.alloc (.cells #[.map none] 76)).heap.size (w.alloc (.cells #[.map none] 76)) w' := by
 have hseq : SeqGives Fence.wide 2 Tryz.prog 150 #[.pointer (some ⟨w.heap.size, 0, none⟩)] encStr (fun ss : List (List UInt8) => ss = []) 0 (w.alloc (.cells #[.map none] 76)) :=
  AnyZ.keys_gives_nil (ρ := Tryz.keys82_ren) { Tryz.keys82 with } Fence.wide _ trivial rfl w.heap.size _ (by simp) (by simp)
 exact AnyZ.sorted_in Tryz.sorted81 Fence.wide 5 trivial trivial trivial trivial rfl (by omega) (Tryz.sorts81 _) (enters_of Tryz.func149 (by kernel_rfl) rfl) 150 #[.pointer (some ⟨w.heap.size, 0, none⟩)] trivial (enters_of Tryz.func150 (by kernel_rfl) rfl) _ 0 (Nat.zero_le _) (by omega) _ hseq
end Go.Proofs
namespace Go.Proofs.YteempnebenjkmaaGreatDoor
open Go.RowKit
set_option linter.unusedSimpArgs false
set_option maxRecDepth 100000
set_option linter.unusedVariables false
section
variable {w w' : World} {σ : St} {Z : Nat -> Prop}
theorem Grow.below (h : Zaj w σ Z) (hb : Below w.heap.size w w') {g : Nat} (hg : w.heap.size <= g) (k : Bk) : Grow w σ w' (σ.put g k) := by
 have hne : ∀ b, b < w.heap.size -> b ≠ g := fun b hb => by omega
 refine ⟨hb.os, hb.tape, hb.output, hb.size, fun b hl hu => ?_, fun b hl hn => ⟨hb.block b hl, ?_⟩, fun b t k' s hl ht => ⟨fun j v _ hv => ?_, .inr ⟨t, k', s, ?_, Nat.le_refl _⟩⟩, fun b hu => .inl hu⟩
 ·rcases hu with hu | hu
  ·exact hu
  ·exact absurd hu (hne b hl)
 ·show (if b = g then _ else σ.blk b) = _
  rw [if_neg (hne b hl)]; exact hn
 ·rw [World.cell?_of_block (w := w) (hb.block b hl)]; exact hv
 ·show (if b = g then _ else σ.blk b) = _
  rw [if_neg (hne b hl)]; exact ht
theorem Zaj.new_own (h : Zaj w σ Z) (hb : Below w.heap.size w w') {g : Nat} (hg : w.heap.size <= g) (t : TypeId) (cs : List AV) (hgh : w'.heap[g]? = some (.cells (cs.map AV.val).toArray t (0, 0))) (hv : ∀ c ∈ cs, ∃ v, c = .raw v) :
 Zaj w' (σ.put g (.own t cs)) Z := by
 have hG := Grow.below h hb hg (.own t cs)
 have hgl : g < w'.heap.size := (Array.getElem?_eq_some_iff.1 hgh).1
 have hs := hb.size
 refine ⟨fun b hu => ?_, fun b hz => ?_, fun b t' cs' hb' => ?_, fun b t' k s hb' => ?_, fun b es hb' => ?_⟩
 ·rcases hu with hu | hu
  ·have := h.used _ hu; omega
  ·subst hu; exact hgl
 ·obtain ⟨h1, h2⟩ := h.z _ hz
  refine ⟨by omega, ?_⟩
  show (if b = g then _ else σ.blk b) = _
  rw [if_neg (by omega)]; exact h2
 ·change (if b = g then some (Bk.own t cs) else σ.blk b) = _ at hb'
  split at hb'
  ·rename_i e
   injection hb' with hb'
   injection hb' with e1 e2
   subst e1 e2 e
   refine ⟨.inr rfl, hgh, fun c hc => ?_⟩
   obtain ⟨v, rfl⟩ := hv c hc
   unfold Zae; trivial
  ·obtain ⟨h1, h2, h3⟩ := h.own _ _ _ hb'
   exact ⟨.inl h1, (hb.block _ (h.used _ h1)).trans h2, fun c hc => hG.valid (h3 c hc)⟩
 ·change (if b = g then some (Bk.own t cs) else σ.blk b) = _ at hb'
  split at hb'
  ·injection hb' with hb'; cases hb'
  ·obtain ⟨h1, cs', h2, h3⟩ := h.tail _ _ _ _ hb'
   exact ⟨.inl h1, cs', (hb.block _ (h.used _ h1)).trans h2, h3⟩
 ·change (if b = g then some (Bk.own t cs) else σ.blk b) = _ at hb'
  split at hb'
  ·injection hb' with hb'; cases hb'
  ·obtain ⟨h1, a', c', h2, h3⟩ := h.map _ _ hb'
   exact ⟨.inl h1, a', c', (hb.block _ (h.used _ h1)).trans h2, h3⟩
theorem Grow.below_same (h : Zaj w σ Z) (hb : Below w.heap.size w w') : Grow w σ w' σ :=
 ⟨hb.os, hb.tape, hb.output, hb.size, fun b hl hu => hu, fun b hl hn => ⟨hb.block b hl, hn⟩, fun b t k' s hl ht => ⟨fun j v _ hv => by rw [World.cell?_of_block (w := w) (hb.block b hl)]; exact hv, .inr ⟨t, k', s, ht, Nat.le_refl _⟩⟩, fun b hu => hu⟩
theorem Zaj.below_same (h : Zaj w σ Z) (hb : Below w.heap.size w w') : Zaj w' σ Z := by
 have hG := Grow.below_same h hb
 have hs := hb.size
 refine ⟨fun b hu => by have := h.used _ hu; omega, fun b hz => ?_, fun b t' cs' hb' => ?_, fun b t' k s hb' => ?_, fun b es hb' => ?_⟩
 ·obtain ⟨h1, h2⟩ := h.z _ hz
  exact ⟨by omega, h2⟩
 ·obtain ⟨h1, h2, h3⟩ := h.own _ _ _ hb'
  exact ⟨h1, (hb.block _ (h.used _ h1)).trans h2, fun c hc => hG.valid (h3 c hc)⟩
 ·obtain ⟨h1, cs', h2, h3⟩ := h.tail _ _ _ _ hb'
  exact ⟨h1, cs', (hb.block _ (h.used _ h1)).trans h2, h3⟩
 ·obtain ⟨h1, a', c', h2, h3⟩ := h.map _ _ hb'
  exact ⟨h1, a', c', (hb.block _ (h.used _ h1)).trans h2, h3⟩
theorem Zaj.fresh_of (h : Zaj w σ Z) {g : Nat} (hg : w.heap.size <= g) : ¬ σ.used g /\ σ.blk g = none := by
 have hu : ¬ σ.used g := fun hu => by have := h.used _ hu; omega
 refine ⟨hu, ?_⟩
 cases hx : σ.blk g with
 | none => rfl
 | some x => cases x with
  | own t cs => exact absurd (h.own _ _ _ hx).1 hu
  | tail t k s => exact absurd (h.tail _ _ _ _ hx).1 hu
  | map es => exact absurd (h.map _ _ hx).1 hu
end
end Go.Proofs.YteempnebenjkmaaGreatDoor
namespace Go.Proofs.YteempnebenjkmaaGreatDoor
open Go.RowKit Go.Maps Go.Sort
set_option maxRecDepth 100000
set_option linter.unusedVariables false
set_option linter.unusedSimpArgs false
theorem Zvz {H : Type} (W : World) (Bm b nn : Nat) (D0 : DataW H) (R : Value -> Option (DataW H × List MemPlace)) (hB : Bm < W.heap.size) (hc : W.cell? ⟨Bm, 0, none⟩ = some (.map (some b))) (hown : W.ownsMap Tryz.prog 9 R b nn D0) (hmax : Maps.size D0 <= maxLen) (hbytes : Maps.size D0 * 16 <= 140737488355328) :
 CallsIn Fence.wide 5 Tryz.prog 81 #[.func (.func 150) #[] #[.pointer (some ⟨Bm, 0, none⟩)]] W fun e w' => ∃ (v : Value) (ss : List (List UInt8)), e = .returned v /\ ss.Perm (strKeys D0) /\
  w'.ownsRow W.heap.size 9 1 v ss.length ((ss.mergeSort (fun x y => decide (x <= y))).map encStr) /\ (v = .slice none 0 0 ↔ ss = []) /\ Below W.heap.size W w' := by
 have hseq : SeqGives Fence.wide 2 Tryz.prog 150 #[.pointer (some ⟨Bm, 0, none⟩)] encStr (fun ss => ss.Perm (strKeys D0)) (Maps.size D0) W :=
  AnyZ.keys_gives (ρ := Tryz.keys82_ren) { Tryz.keys82 with } Fence.wide _ trivial rfl (by omega) Bm b nn D0 _ hB hc hown
 exact AnyZ.sorted_in Tryz.sorted81 Fence.wide 5 trivial trivial trivial trivial rfl (by omega) (Tryz.sorts81 _) (enters_of Tryz.func149 (by kernel_rfl) rfl) 150 #[.pointer (some ⟨Bm, 0, none⟩)] trivial (enters_of Tryz.func150 (by kernel_rfl) rfl) _ _ hmax hbytes _ hseq
def srt (l : List (List UInt8)) : List (List UInt8) := l.mergeSort leB
theorem Zsb (l : List (List UInt8)) : (srt l).Perm l := List.mergeSort_perm l leB
abbrev R0 : Value -> Option (DataW Unit × List MemPlace) := fun _ => some (.nil, [])
theorem ZAI {s : List UInt8} (h : s.length <= maxLen) : keyOf Tryz.prog 9 (sV s) = some (.string s) := by
 unfold keyOf mapKey
 rw [ZiK]
 dsimp only
 rw [if_pos (by simpa [ByteArray.size] using h)]
section
variable {σ : St} {bb mb : Nat} {S : Nat -> Prop} {fs : List Fl} {pcs : List (Nat × Nat)} {size : Int} {pv : AV} {K : AV -> St -> Prop}
theorem ZvA (h : DAt σ bb S fs pcs size mb pv) (hnl : ∀ f ∈ fs, f.nm.length <= 1000000000) (hfl : fs.length <= 1000000000) {nb : Nat} (hnb : σ.blk nb = some (.own 76 [Zc9 mb])) (hnu : σ.used nb)
 (hK : ∀ v τ, Hd τ 9 1 v (srt (fs.map (·.nm))).length (ZrN (srt (fs.map (·.nm)))) -> Ext σ τ -> (∀ c, hbk v = some c -> Zei σ c) -> K v τ) : Zan Tryz.prog 81 [fnV 150 #[.pointer (some ⟨nb, 0, none⟩)]] σ K := by
 intro w Z hH hV
 refine .inl ⟨by kernel_rfl, ?_⟩
 obtain ⟨_, arr, c, hh, hM⟩ := hH.mapAt h.map (Zgd _)
 have hkeys := Zxg h hM
 have hcell : w.cell? ⟨nb, 0, none⟩ = some (.map (some mb)) := ZkR hH hnb (j := 0) (d := Zc9 mb) rfl
 have hrd : ∀ x ∈ arr.toList, ∃ f ∈ fs, x.key = sV f.nm /\ WideElems.rd Tryz.prog 9 R0 x = some (.string f.nm, .nil) := fun x hx => by
  obtain ⟨f, hf, hk, _⟩ := Zxh hM hx
  refine ⟨f, hf, hk, ?_⟩
  unfold WideElems.rd
  rw [hk, ZAI (by have := hnl f hf; unfold maxLen; omega)]
  rfl
 have hsz : arr.size = fs.length := by
  have := congrArg List.length hM.1
  simpa [ZgK, Za3] using this
 have hown : w.ownsMap Tryz.prog 9 R0 mb arr.size (.map ((arr.toList.map (WideElems.rg Tryz.prog 9 R0)).foldr DataW.insert [])) :=
  ⟨arr, c, hh, ⟨by rw [hsz]; unfold maxLen; omega, ⟨fun x hx => hM.2.1 _ (List.mem_map.2 ⟨x, hx, rfl⟩), hM.2.2, hkeys⟩, fun x hx => by
   obtain ⟨f, _, _, q⟩ := hrd x hx
   exact ⟨_, q⟩⟩, Nat.le_refl _, rfl⟩
 have hsk : (strKeys (.map ((arr.toList.map (WideElems.rg Tryz.prog 9 R0)).foldr DataW.insert [])) : List (List UInt8)).Perm (fs.map (·.nm)) := by
  have e1 : ((arr.toList.map (WideElems.rg Tryz.prog 9 R0)).map fun p => strOf p.1) = fs.map (·.nm) := by
   have e2 : (arr.toList.map (·.key)) = (fs.map (·.nm)).map sV := by
    have : arr.toList.map (·.key) = (arr.toList.map fun e : MapEntry => (e.key, e.val)).map (·.1) := by rw [List.map_map]; rfl
    rw [this, hM.1]
    unfold ZgK Za3
    rw [List.map_map, List.map_map, List.map_map]
    rfl
   have hrd2 := hrd
   generalize arr.toList = L at e2 hrd2 ⊢
   generalize fs.map (·.nm) = N at e2 ⊢
   clear hrd hown hkeys hcell hK hV hH hnb hnu hM h hsz hh
   induction L generalizing N with
   | nil => cases N with
    | nil => rfl
    | cons a N => simp at e2
   | cons x L ih => cases N with
    | nil => simp at e2
    | cons a N =>
     simp only [List.map_cons, List.cons.injEq] at e2 ⊢
     obtain ⟨f, _, hk, q⟩ := hrd2 x List.mem_cons_self
     refine ⟨?_, ih (fun y hy => hrd2 y (List.mem_cons_of_mem _ hy)) N e2.2⟩
     unfold WideElems.rg
     rw [q]
     have := e2.1
     rw [hk] at this
     show strOf (Lit.string f.nm) = a
     rw [<- ZxQ this]
     rfl
  rw [<- e1]
  exact (WideShapes.sorted_perm _).map _
 have hms : Maps.size (.map ((arr.toList.map (WideElems.rg Tryz.prog 9 R0)).foldr DataW.insert []) : DataW Unit) <= 1000000000 := by
  have : (strKeys (.map ((arr.toList.map (WideElems.rg Tryz.prog 9 R0)).foldr DataW.insert [])) : List (List UInt8)).length = fs.length := by
   rw [hsk.length_eq, List.length_map]
  have e : (strKeys (.map ((arr.toList.map (WideElems.rg Tryz.prog 9 R0)).foldr DataW.insert [])) : List (List UInt8)).length = Maps.size (.map ((arr.toList.map (WideElems.rg Tryz.prog 9 R0)).foldr DataW.insert []) : DataW Unit) := by
   unfold strKeys Maps.size
   simp
  omega
 have hcall := callsIn_wide.1 (Zvz w nb mb arr.size _ R0 (hH.used _ hnu) hcell hown (by unfold maxLen; omega) (by omega))
 refine Calls.mono hcall ?_
 rintro e w' ⟨v, ss, rfl, hp, hrow, hnil, hbel⟩
 have hss : (ss.mergeSort fun x y => decide (x <= y)) = srt (fs.map (·.nm)) := mergeSort_of_perm (hp.trans hsk)
 rw [hss] at hrow
 have hlen : ss.length = (srt (fs.map (·.nm))).length := by rw [(Zsb _).length_eq, (hp.trans hsk).length_eq]
 rw [hlen] at hrow
 generalize hL : srt (fs.map (·.nm)) = L at hrow hlen hK
 rcases hrow.2 with ⟨rfl, hz⟩ | ⟨g, cap, cur, rfl, hg, hgh, r1, r2, r3, r4⟩
 ·have hL0 : L = [] := List.eq_nil_of_length_eq_zero hz
  subst hL0
  exact ⟨.lst none 0 0 [], σ, rfl, hK _ σ ⟨rfl, by simp [ZrN], .inl ⟨.inl rfl, rfl⟩⟩ (.refl _) (fun c hc => by cases hc), hH.below_same hbel, ZcF, Grow.below_same hH hbel⟩
 ·obtain ⟨f1, f2⟩ := hH.fresh_of hg
  rw [Nat.mul_one] at r3 r4
  have hcur : (ZrN L ++ (cur.toList.drop L.length).map AV.raw).map AV.val = cur.toList := by
   conv => rhs; rw [<- List.take_append_drop L.length cur.toList, r4]
   simp [ZrN, Function.comp_def, encStr]
  have hX : Ext σ (σ.put g (.own 9 (ZrN L ++ (cur.toList.drop L.length).map AV.raw))) := Ext.put _ f2
  have hcl : (ZrN L ++ (cur.toList.drop L.length).map AV.raw).length = cap * 1 := by
   have := congrArg List.length hcur
   rw [List.length_map] at this
   rw [this, Array.length_toList, r3, Nat.mul_one]
  refine ⟨hdr g L.length cap, _, rfl, hK _ _ ⟨by rw [ZnJ, Nat.mul_one], fun a ha => ?_, ?_⟩ hX fun c hc => ?_, hH.new_own hbel hg 9 _ (by rw [hcur]; exact hgh) ?_, Zaz _, Grow.below hH hbel hg _⟩
  ·obtain ⟨s, _, rfl⟩ := List.mem_map.1 ha; rfl
  ·rcases Nat.eq_zero_or_pos cap with hc0 | hc0
   ·refine .inl ⟨.inr ⟨⟨g, 0, none⟩, ?_⟩, by omega⟩
    have : L.length = 0 := by omega
    unfold hdr
    rw [this, hc0]
   ·refine .inr ⟨g, cap, _, hc0, rfl, ZaV _ _ _, .inr rfl, hcl, ?_, r1, r2⟩
    rw [Nat.mul_one]
    exact List.take_left' (ZnJ L)
  ·rw [<- Zkh hc]; exact ⟨f2, f1⟩
  ·intro c hc
   rcases List.mem_append.1 hc with hc | hc
   ·obtain ⟨s, _, rfl⟩ := List.mem_map.1 hc; exact ⟨_, rfl⟩
   ·obtain ⟨s, _, rfl⟩ := List.mem_map.1 hc; exact ⟨_, rfl⟩
theorem Zzk (hK : ∀ nb τ, τ.blk nb = some (.own 76 [Zc9 mb]) -> τ.used nb -> Ext σ τ -> K (fnV 150 #[.pointer (some ⟨nb, 0, none⟩)]) τ) : Zan Tryz.prog 82 [Zc9 mb] σ K := by
 refine Zay ZaF Tryz.func82 rfl rfl rfl (Nat.le_of_ble_eq_true rfl) ?_
 refine Zla 0 (v0 := Zc9 mb) rfl ?_
 intro e he
 repeat refine Zab ?_
 first|refine Zaa ?_|refine Zac ?_
 refine Zad ?_
 refine Zh3 (cs := [Zc9 mb]) (v := Zc9 mb) (by simp only [EV,Nat.reduceEqDiff,↓reduceIte,he];try rfl) rfl fun nb τ hn hu hb hub hX => ?_
 refine Zah ?_
 refine Zag ?_
 refine kp1 1 ?_
 clear he e
 intro e he
 repeat refine Zab ?_
 first|refine Zaa ?_|refine Zac ?_
 refine Zad ?_
 refine Zgf (vs := [ptr nb 0]) (by simp only [List.map_cons, List.map_nil, EV,Nat.reduceEqDiff,↓reduceIte,he];try rfl) ?_
 refine Zah ?_
 refine Zag ?_
 refine Za5 ?_
 exact ZbX (hK nb τ hb hub hX)
theorem Zxi (h : DAt σ bb S fs pcs size mb pv) (hnl : ∀ f ∈ fs, f.nm.length <= 1000000000) (hfl : fs.length <= 1000000000)
 (hK : ∀ v τ, Hd τ 9 1 v (srt (fs.map (·.nm))).length (ZrN (srt (fs.map (·.nm)))) -> Ext σ τ -> (∀ c, hbk v = some c -> Zei σ c) -> K v τ) : Zan Tryz.prog 33 [ptr bb 0] σ K := by
 refine Zay ZaF Tryz.func33 rfl rfl rfl (Nat.le_of_ble_eq_true rfl) ?_
 refine Zla 0 (v0 := ptr bb 0) rfl ?_
 intro e he
 repeat refine Zab ?_
 first|refine Zaa ?_|refine Zac ?_
 refine Zah ?_
 refine Zag ?_
 refine kp1 0 ?_
 clear he e
 intro e he
 repeat refine Zab ?_
 first|refine Zaa ?_|refine Zac ?_
 refine Zah ?_
 refine ZaN [ptr bb 0] ?_
 refine Zgh h ?_
 refine ZiJ ?_
 refine Zag ?_
 refine kp2 0 5 ?_
 clear he e
 intro e he
 refine Za0 (t := false) (by simp only [EV,Nat.reduceEqDiff,↓reduceIte,he];try rfl) (fun hf => by cases hf) (fun _ => ?_)
 refine Zbh ?_
 repeat refine Zab ?_
 first|refine Zaa ?_|refine Zac ?_
 refine Zah ?_
 refine Zad ?_
 refine Zar (v := ptr bb 0) (by simp only [EV,Nat.reduceEqDiff,↓reduceIte,he];try rfl) rfl ?_
 refine Zad ?_
 refine Zaf (b := bb) (o := 0) (by simp only [EV,Nat.reduceEqDiff,↓reduceIte,he];try rfl) ZbI rfl ?_
 refine Zad ?_
 refine Zau (b := bb) (o := 0 + 1) (r := Zc9 mb) (by simp only [EV,Nat.reduceEqDiff,↓reduceIte,he];try rfl) h.obj Zd6 Zd5 rfl ?_
 refine ZaN [Zc9 mb] ?_
 refine Zzk fun nb τ hb hub hX => ?_
 refine ZaN [fnV 150 #[.pointer (some ⟨nb, 0, none⟩)]] ?_
 refine ZvA (h.ext hX) hnl hfl hb hub fun v τ2 hv hX2 hn => ?_
 refine Zah ?_
 refine Zag ?_
 refine Za5 ?_
 exact ZbX (hK v τ2 hv (hX.trans hX2) fun c hc => (hn c hc).of hX)
end
end Go.Proofs.YteempnebenjkmaaGreatDoor
namespace Go.Proofs.YteempnebenjkmaaGreatDoor
open Go.RowKit
set_option maxRecDepth 100000
set_option linter.unusedVariables false
set_option linter.unusedSimpArgs false
def Ztm (b : Nat) : Nat -> List (Nat × Nat) -> Nat
 | _, [] => 0
 | L, p :: ps => (if p.1 = b then min L p.2 else 0) + Ztm b (L - min L p.2) ps
theorem ZvB (b L : Nat) (p : Nat × Nat) (ps : List (Nat × Nat)) : Ztm b L (p :: ps) = (if p.1 = b then min L p.2 else 0) + Ztm b (L - min L p.2) ps := rfl
theorem ZvC (b : Nat) : ∀ (ps : List (Nat × Nat)) (L : Nat), Ztm b L ps <= ZcP b ps
 | [], _ => Nat.le_refl _
 | p :: ps, L => by
  unfold Ztm
  rw [Zhw]
  have := ZvC b ps (L - min L p.2)
  split <;> omega
theorem Zsc {g : Nat -> Nat} {b : Nat} : ∀ (ps : List (Nat × Nat)) (L : Nat), (∀ p ∈ ps, g p.1 = g b ↔ p.1 = b) -> Ztm (g b) L (ps.map fun p => (g p.1, p.2)) = Ztm b L ps
 | [], L, _ => rfl
 | p :: ps, L, h => by
  have h1 := h p List.mem_cons_self
  rw [List.map_cons]
  unfold Ztm
  rw [Zsc ps _ fun q hq => h q (List.mem_cons_of_mem _ hq)]
  by_cases hb : p.1 = b
  ·rw [if_pos hb, if_pos (h1.2 hb)]
  ·rw [if_neg hb, if_neg fun e => hb (h1.1 e)]
theorem Zmd : ∀ (ps : List (Nat × Nat)) (L : Nat) (l : FD), Zfv L l ps = l.map fun f => (f.1, f.2.1, f.2.2.take (f.2.2.length - Ztm f.2.1 L ps))
 | [], L, l => by
  show l = _
  conv => lhs; rw [<- List.map_id l]
  refine List.map_congr_left fun f _ => ?_
  show f = (f.1, f.2.1, f.2.2.take (f.2.2.length - 0))
  rw [Nat.sub_zero, List.take_length]
 | p :: ps, L, l => by
  unfold Zfv
  rw [Zmd ps]
  unfold ZwH
  rw [List.map_map]
  refine List.map_congr_left fun f _ => ?_
  simp only [Function.comp]
  rw [ZvB]
  by_cases hb : f.2.1 = p.1
  ·rw [if_pos hb, if_pos hb.symm]
   dsimp only
   rw [List.length_take, List.take_take]
   congr 3
   omega
  ·rw [if_neg hb, if_neg fun e => hb e.symm, Nat.zero_add]
theorem ZpP {g : Nat -> Nat} {b : Nat} : ∀ (ps : List (Nat × Nat)), (∀ p ∈ ps, g p.1 = g b ↔ p.1 = b) -> ZcP (g b) (ps.map fun p => (g p.1, p.2)) = ZcP b ps
 | [], _ => rfl
 | p :: ps, h => by
  have h1 := h p List.mem_cons_self
  rw [List.map_cons, Zhw, Zhw, ZpP ps fun q hq => h q (List.mem_cons_of_mem _ hq)]
  by_cases hb : p.1 = b
  ·rw [if_pos hb, if_pos (h1.2 hb)]
  ·rw [if_neg hb, if_neg fun e => hb (h1.1 e)]
theorem Zxj {g : Nat -> Nat} (ps : List (Nat × Nat)) : ZcB (ps.map fun p => (g p.1, p.2)) = ZcB ps := by
 unfold ZcB
 rw [List.map_map]
 rfl
section
variable {σ τ : St} {bb bb2 mb mb2 : Nat} {S S2 : Nat -> Prop} {fs fs2 : List Fl} {pcs pcs2 : List (Nat × Nat)} {size : Int} {pv pv2 : AV} {done : List (Fl × Fl)}
theorem Zja : ∀ {done : List (Fl × Fl)}, (done.map fun q => q.1.b).Nodup -> ∀ q ∈ done, Zu2 (prs done) q.1.b = some q.2.b
 | p :: l, hn, q, hq => by
  rw [List.map_cons, List.nodup_cons] at hn
  show (if q.1.b = p.1.b then some p.2.b else Zu2 (prs l) q.1.b) = _
  rcases List.mem_cons.1 hq with rfl | hq
  ·rw [if_pos rfl]
  ·rw [if_neg fun e => hn.1 (List.mem_map.2 ⟨q, hq, e⟩), Zja hn.2 q hq]
theorem Zti.ren (h : DAt σ bb S fs pcs size mb pv) (h2 : DAt τ bb2 S2 fs2 pcs2 size mb2 pv2) (c : Zti fs pcs fs2 pcs2 done) : ∀ f ∈ fs, ∃ f2 ∈ fs2, f2.nm = f.nm /\ f2.d = f.d /\ f2.b = (Zu2 (prs done) f.b).getD 0 /\ ∀ p ∈ pcs, (Zu2 (prs done) p.1).getD 0 = (Zu2 (prs done) f.b).getD 0 ↔ p.1 = f.b := fun f hf => by
 have hnb : (done.map fun q => q.1.b).Nodup := by
  have : (done.map fun q => q.1.b) = (done.map (·.1)).map (·.b) := by rw [List.map_map]; rfl
  rw [this, (c.one.map _).nodup_iff]
  exact h.nd
 have hnb2 : (done.map fun q => q.2.b).Nodup := by
  have : (done.map fun q => q.2.b) = (done.map (·.2)).map (·.b) := by rw [List.map_map]; rfl
  rw [this, <- c.two]
  exact h2.nd
 have hfind : ∀ g ∈ fs, ∃ q ∈ done, q.1 = g := fun g hg => by
  obtain ⟨q, hq, e⟩ := List.mem_map.1 (c.one.mem_iff.2 hg)
  exact ⟨q, hq, e⟩
 obtain ⟨q, hq, rfl⟩ := hfind f hf
 have hg := Zja hnb q hq
 refine ⟨q.2, by rw [c.two]; exact List.mem_map.2 ⟨q, hq, rfl⟩, (c.same q hq).1, (c.same q hq).2, by rw [hg]; rfl, fun p hp => ?_⟩
 obtain ⟨g, hg1, hg2⟩ := h.inn p hp
 obtain ⟨r, hr, rfl⟩ := hfind g hg1
 rw [<- hg2, hg, Zja hnb r hr]
 show r.2.b = q.2.b ↔ _
 constructor
 ·intro e
  have : r = q := by
   clear hg hg1 hg2 hfind hp hf
   induction done with
   | nil => cases hq
   | cons a l ih =>
    rw [List.map_cons, List.nodup_cons] at hnb2
    rcases List.mem_cons.1 hr with e1 | e1 <;> rcases List.mem_cons.1 hq with e2 | e2
    ·rw [e1, e2]
    ·exact absurd (List.mem_map.2 ⟨q, e2, by rw [<- e, e1]⟩) hnb2.1
    ·exact absurd (List.mem_map.2 ⟨r, e1, by rw [e, e2]⟩) hnb2.1
    ·have hnd := hnb2.2
     have key : ∀ {l : List (Fl × Fl)}, (l.map fun q => q.2.b).Nodup -> ∀ r ∈ l, ∀ q ∈ l, r.2.b = q.2.b -> r = q := by
      intro l
      induction l with
      | nil => intro _ r hr; cases hr
      | cons a l ih =>
       intro hn r hr q hq e
       rw [List.map_cons, List.nodup_cons] at hn
       rcases List.mem_cons.1 hr with e1 | e1 <;> rcases List.mem_cons.1 hq with e2 | e2
       ·rw [e1, e2]
       ·exact absurd (List.mem_map.2 ⟨q, e2, by rw [<- e, e1]⟩) hn.1
       ·exact absurd (List.mem_map.2 ⟨r, e1, by rw [e, e2]⟩) hn.1
       ·exact ih hn.2 r e1 q e2 e
     exact key hnd r e1 q e2 e
  rw [this]
 ·intro e
  have := h.uniq hg1 hf e
  have hq2 : Zu2 (prs done) r.1.b = some r.2.b := Zja hnb r hr
  rw [this, Zja hnb q hq] at hq2
  injection hq2 with hq2
  exact hq2.symm
theorem Zti.wf (h : DAt σ bb S fs pcs size mb pv) (h2 : DAt τ bb2 S2 fs2 pcs2 size mb2 pv2) (c : Zti fs pcs fs2 pcs2 done) (hw : Wf fs pcs) : Wf fs2 pcs2 /\ ZcB pcs2 = ZcB pcs /\ pcs2.length = pcs.length /\ fs2.length = fs.length /\ (∀ f2 ∈ fs2, ∃ f ∈ fs, f2.nm = f.nm /\ f2.d = f.d) := by
 have hall : ∀ f2 ∈ fs2, ∃ f ∈ fs, f2.nm = f.nm /\ f2.d = f.d := fun f2 hf2 => by
  rw [c.two] at hf2
  obtain ⟨q, hq, rfl⟩ := List.mem_map.1 hf2
  exact ⟨q.1, c.one.mem_iff.1 (List.mem_map.2 ⟨q, hq, rfl⟩), (c.same q hq).1, (c.same q hq).2⟩
 refine ⟨⟨fun p hp => ?_, fun f2 hf2 => ?_⟩, by rw [c.pcs, Zxj (g := fun x => (Zu2 (prs done) x).getD 0)], by rw [c.pcs, List.length_map], ?_, hall⟩
 ·rw [c.pcs] at hp
  obtain ⟨p', hp', rfl⟩ := List.mem_map.1 hp
  exact hw.pos p' hp'
 ·obtain ⟨f, hf, e1, e2⟩ := hall f2 hf2
  obtain ⟨g2, hg2, q1, q2, q3, q4⟩ := c.ren h h2 f hf
  have : f2 = g2 := h2.uniqN hf2 hg2 (by rw [e1, q1])
  subst this
  rw [q3, e2, c.pcs, ZpP (g := fun x => (Zu2 (prs done) x).getD 0) pcs q4]
  exact hw.fit f hf
 ·rw [c.two, List.length_map]
  have := c.one.length_eq
  rwa [List.length_map] at this
theorem Zti.crash (h : DAt σ bb S fs pcs size mb pv) (h2 : DAt τ bb2 S2 fs2 pcs2 size mb2 pv2) (c : Zti fs pcs fs2 pcs2 done) {fs3 : List Fl} {L : Nat} (hd : dat fs3 = Zfv L (dat fs2) pcs2.reverse) : ∀ f ∈ fs, ∃ f3 ∈ fs3, f3.nm = f.nm /\ f3.d = f.d.take (f.d.length - Ztm f.b L pcs.reverse) := fun f hf => by
 obtain ⟨f2, hf2, q1, q2, q3, q4⟩ := c.ren h h2 f hf
 rw [Zmd] at hd
 have hm : (f2.nm, f2.b, f2.d.take (f2.d.length - Ztm f2.b L pcs2.reverse)) ∈ dat fs3 := by
  rw [hd]
  exact List.mem_map.2 ⟨_, Zmc hf2, rfl⟩
 obtain ⟨f3, hf3, e⟩ := ZpL hm
 injection e with e1 e
 injection e with e2 e3
 refine ⟨f3, hf3, by rw [<- e1, q1], ?_⟩
 rw [<- e3, q2, q3, c.pcs, <- List.map_reverse, Zsc (g := fun x => (Zu2 (prs done) x).getD 0) pcs.reverse L fun p hp => q4 p (List.mem_reverse.1 hp)]
end
end Go.Proofs.YteempnebenjkmaaGreatDoor
