/- What appending, saving, a crash make of a disk's files, plainly; saving an image as it is (round 09Z). -/
import Derived.Test.YteempnebenjkmaaGreatDoorMg
import Derived.Test.YteempnebenjkmaaGreatDoorPq
import Derived.Test.YteempnebenjkmaaGreatDoorMe
namespace Go.Proofs.YteempnebenjkmaaGreatDoor
open Go.RowKit
set_option maxRecDepth 100000
set_option linter.unusedVariables false
set_option linter.unusedSimpArgs false
theorem ZpJ {fb : Nat} {v : AV} {d : List UInt8} {f : Fl} (h : f.b ≠ fb) : Zco fb v d f = f := by unfold Zco; rw [if_neg h]
theorem Zr6 {v : AV} {d : List UInt8} {f : Fl} : Zco f.b v d f = ⟨f.nm, f.b, v, d⟩ := by unfold Zco; rw [if_pos rfl]
theorem ZpK {fs : List Fl} {fb : Nat} {v : AV} {d : List UInt8} (h : ∀ f ∈ fs, f.b ≠ fb) : fs.map (Zco fb v d) = fs := by
 conv => rhs; rw [<- List.map_id fs]
 exact List.map_congr_left fun f hf => ZpJ (h f hf)
theorem Zoe {fs fs' : List Fl} {pcs pcs' : List (Nat × Nat)} {k d : List UInt8} (h : ZsT fs pcs k d fs' pcs') (hn : ∀ f ∈ fs, f.nm ≠ k) (hd : (fs'.map (·.b)).Nodup) :
 ∃ b v, fs' = fs ++ [⟨k, b, v, d⟩] /\ pcs' = pcs ++ (if d = [] then [] else [(b, d.length)]) /\ ∀ f ∈ fs, f.b ≠ b := by
 obtain ⟨fs1, f0, v', h1, h2, h3, rfl, rfl⟩ := h
 rcases h1 with rfl | ⟨_, rfl, h4⟩
 ·exact absurd h3 (hn f0 h2)
 ·have hb : ((fs ++ [f0]).map (Zco f0.b v' (f0.d ++ d))).map (·.b) = fs.map (·.b) ++ [f0.b] := by
   rw [List.map_map, List.map_append, List.map_singleton]
   congr 1
   ·exact List.map_congr_left fun f _ => Zd7 f
   ·simp [Zd7]
  rw [hb, List.nodup_append] at hd
  have hne : ∀ f ∈ fs, f.b ≠ f0.b := fun f hf e => hd.2.2 f.b (List.mem_map.2 ⟨f, hf, rfl⟩) f0.b (List.mem_singleton.2 rfl) e
  refine ⟨f0.b, v', ?_, rfl, hne⟩
  rw [List.map_append, ZpK hne, List.map_singleton, Zr6, h3, h4]
  rfl
section
variable {σ : St} {bb mb : Nat} {S : Nat -> Prop} {fs fs' fs3 : List Fl} {pcs pcs' pcs3 : List (Nat × Nat)} {size : Int} {pv : AV} {k nm d : List UInt8}
theorem Zxc (h0 : DAt σ bb S fs pcs size mb pv) (h : ZsT fs pcs k d fs' pcs') {f0 : Fl} (hf : f0 ∈ fs) (hk : f0.nm = k) :
 ∃ v', fs' = fs.map (Zco f0.b v' (f0.d ++ d)) /\ pcs' = pcs ++ (if d = [] then [] else [(f0.b, d.length)]) := by
 obtain ⟨fs1, f1, v', h1, h2, h3, rfl, rfl⟩ := h
 rcases h1 with rfl | ⟨h4, _⟩
 ·obtain rfl : f1 = f0 := h0.uniqN h2 hf (h3.trans hk.symm)
  exact ⟨v', rfl, rfl⟩
 ·exact absurd hk (h4 f0 hf)
theorem Zxd {fs : List Fl} {F : Fl} {n : List UInt8} (h : F.nm ≠ n) : ZgL (Za3 (fs ++ [F])) n = ZgL (Za3 fs) n := by
 cases hg : ZgL (Za3 fs) n with
 | none => exact Zcv.2 fun f hf => (List.mem_append.1 hf).elim (Zcv.1 hg f) fun q => by rw [List.mem_singleton.1 q]; exact h
 | some x =>
  induction fs with
  | nil => cases hg
  | cons f l ih =>
   show (if n = f.nm then some f.b else ZgL (Za3 (l ++ [F])) n) = some x
   replace hg : (if n = f.nm then some f.b else ZgL (Za3 l) n) = some x := hg
   by_cases hn : n = f.nm
   ·rw [if_pos hn] at hg ⊢; exact hg
   ·rw [if_neg hn] at hg ⊢; exact ih hg
theorem Zof (k : List UInt8) (l m : List Fl) : ZhD k (l ++ m) = ZhD k l ++ ZhD k m := List.filter_append ..
theorem Zxe (h0 : DAt σ bb S fs pcs size mb pv) (h : Zs9 fs pcs k nm d fs3 pcs3) (hk : ∀ f ∈ fs, f.nm ≠ k) (hne : k ≠ nm) :
 ∃ b v, fs3 = ZhD nm fs ++ [⟨nm, b, v, d⟩] /\ pcs3 = rnP fs pcs nm /\ ∀ f ∈ fs, f.b ≠ b := by
 obtain ⟨fs2, pcs2, f, hA, hnd, hf, hfk, rfl, rfl⟩ := h.ex
 obtain ⟨b, v, rfl, rfl, hb⟩ := Zoe hA hk hnd
 obtain rfl : f = ⟨k, b, v, d⟩ := (List.mem_append.1 hf).elim (fun q => absurd hfk (hk f q)) List.mem_singleton.1
 refine ⟨b, v, ?_, ?_, hb⟩
 ·unfold rnF
  rw [Zof, Zof, Zi0 (k := k) fun g hg => hk g (Zgt.1 hg).1]
  simp [ZhD, hne]
 ·have hdg : ZgL (Za3 (fs ++ [⟨k, b, v, d⟩])) k = some b := by
   cases hg : ZgL (Za3 (fs ++ [(⟨k, b, v, d⟩ : Fl)])) k with
   | none => exact absurd rfl (Zcv.1 hg ⟨k, b, v, d⟩ (List.mem_append_right _ (List.mem_singleton.2 rfl)))
   | some x =>
    obtain ⟨g, hg1, hg2, rfl⟩ := ZdO hg
    rcases List.mem_append.1 hg1 with q | q
    ·exact absurd hg2 (hk g q)
    ·rw [List.mem_singleton.1 q]
  have hp : ∀ p ∈ pcs, ¬ p.1 = b := fun p hp e => by
   obtain ⟨g, hg, hge⟩ := h0.inn p hp
   exact hb g hg (hge.trans e)
  have hs : (ZeL (fs ++ [⟨k, b, v, d⟩]) [k] (pcs ++ if d = [] then [] else [(b, d.length)])).1 = pcs := by
   rw [Zhj hdg, ZlL, List.filter_append, List.filter_eq_self.2 fun p q => by simp [hp p q]]
   split <;> simp
  rw [hs]
  unfold rnP
  rw [Zxd hne]
end
end Go.Proofs.YteempnebenjkmaaGreatDoor
