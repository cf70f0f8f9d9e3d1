/- A disk, as it lies: its object, map, files, pieces. -/
import Derived.Test.YtinpiaibhjmfaaaDf
import Derived.Test.YtinpiaibhjmfaaaDh
namespace Go.Proofs.Ytinpiaibhjmfaaa
open Go.RowKit
set_option maxRecDepth 100000
set_option linter.unusedVariables false
set_option linter.unusedSimpArgs false
theorem dk_mixed : Try.prog.follows .mixedOrders = true := by kernel_rfl
theorem dk_st65 : structA Try.prog 65 = some [(0, some 1, some true), (1, some 1, some false), (2, some 1, some false)] := by kernel_rfl
theorem dk_st62 : structA Try.prog 62 = some [(0, some 1, some false)] := by kernel_rfl
theorem dk_st78 : structA Try.prog 78 = some [(0, some 1, some false)] := by kernel_rfl
theorem dk_st80 : structA Try.prog 80 = some [(0, some 1, some false), (1, some 1, some false)] := by kernel_rfl
theorem dk_sl22 : sliceA Try.prog 22 = some 32 := by kernel_rfl
theorem dk_sl32 : sliceA Try.prog 32 = some 5 := by kernel_rfl
theorem dk_sl60 : sliceA Try.prog 60 = some 80 := by kernel_rfl
theorem dk_sl26 : sliceA Try.prog 26 = some 9 := by kernel_rfl
theorem dk_sz3 : sizeA Try.prog 3 = some 1 := by kernel_rfl
theorem dk_sz5 : sizeA Try.prog 5 = some 1 := by kernel_rfl
theorem dk_sz32 : sizeA Try.prog 32 = some 1 := by kernel_rfl
theorem dk_sz60 : sizeA Try.prog 60 = some 1 := by kernel_rfl
theorem dk_sz63 : sizeA Try.prog 63 = some 1 := by kernel_rfl
theorem dk_sz76 : sizeA Try.prog 76 = some 1 := by kernel_rfl
theorem dk_sz80 : sizeA Try.prog 80 = some 2 := by kernel_rfl
theorem dk_ag3 : aggA Try.prog 3 = some false := by kernel_rfl
theorem dk_ag32 : aggA Try.prog 32 = some false := by kernel_rfl
theorem dk_ag60 : aggA Try.prog 60 = some false := by kernel_rfl
theorem dk_ag63 : aggA Try.prog 63 = some false := by kernel_rfl
theorem dk_ag76 : aggA Try.prog 76 = some false := by kernel_rfl
theorem dk_ag80 : aggA Try.prog 80 = some true := by kernel_rfl
theorem dk_ze5 : zeroA Try.prog 5 = some (.int .u8 0) := by kernel_rfl
theorem dk_ze32 : zeroA Try.prog 32 = some (.slice none 0 0) := by kernel_rfl
theorem dk_ze65 : zeroA Try.prog 65 = some (.agg #[.slice none 0 0, .map none, .int .i64 0]) := by kernel_rfl
theorem dk_ze76 : zeroA Try.prog 76 = some (.pointer none) := by kernel_rfl
theorem dk_ze78 : zeroA Try.prog 78 = some (.agg #[.slice none 0 0]) := by kernel_rfl
theorem dk_ze80 : zeroA Try.prog 80 = some (.agg #[.pointer none, .int .i64 0]) := by kernel_rfl
theorem dk_pl65 : placesB Try.prog 65 = some [(0, 1), (1, 1), (2, 1)] := by kernel_rfl
theorem dk_pl78 : placesB Try.prog 78 = some [(0, 1)] := by kernel_rfl
theorem dk_pl80 : placesB Try.prog 80 = some [(0, 1), (1, 1)] := by kernel_rfl
theorem dk_by5 : bytesA Try.prog 5 = some 1 := by kernel_rfl
theorem dk_by80 : bytesA Try.prog 80 = some 16 := by kernel_rfl
theorem dk_u63 : Program.underlying Try.prog 63 = some (.map 9 76) := by kernel_rfl
theorem dk_u9 : Program.underlying Try.prog 9 = some .string := by kernel_rfl
theorem dk_p76 : Program.underlying Try.prog 76 = some (.pointer (Program.pointee Try.prog 76)) := by kernel_rfl
theorem dk_p30 : Program.underlying Try.prog 30 = some (.pointer (Program.pointee Try.prog 30)) := by kernel_rfl
/-- A file: its name, place, bytes' header, bytes. -/
structure Fl where
 nm : List UInt8
 b : Nat
 v : AV
 d : List UInt8
def pcC (l : List (Nat × Nat)) : List AV := l.flatMap fun p => [ptr p.1 0, .raw (.int .i64 (p.2 : Int))]
theorem pcC_len (l : List (Nat × Nat)) : (pcC l).length = l.length * 2 := by
 induction l with
 | nil => rfl
 | cons p l ih =>
  show (pcC l).length + 1 + 1 = (l.length + 1) * 2
  omega
theorem pcC_app (l m : List (Nat × Nat)) : pcC (l ++ m) = pcC l ++ pcC m := by simp [pcC]
def sumD (fs : List Fl) : Nat := (fs.map (·.d.length)).sum
def sumP (pcs : List (Nat × Nat)) : Nat := (pcs.map (·.2)).sum
def dirOf (fs : List Fl) : Dir := fs.map fun f => (f.nm, f.b)
structure DAt (σ : St) (bb : Nat) (S : Nat → Prop) (fs : List Fl) (pcs : List (Nat × Nat)) (size : Int) (mb : Nat) (pv : AV) : Prop where
 obj : σ.blk bb = some (.own 65 [pv, mapv mb, .raw (.int .i64 size)])
 used : σ.used bb
 map : σ.blk mb = some (.map (ents (dirOf fs)))
 umap : σ.used mb
 file : ∀ f ∈ fs, σ.blk f.b = some (.own 78 [f.v]) ∧ σ.used f.b ∧ Hd σ 5 1 f.v f.d.length (bys f.d)
 nd : (fs.map (·.b)).Nodup
 nn : (fs.map (·.nm)).Nodup
 far : ∀ f ∈ fs, ∀ g ∈ fs, ∀ x, hbk f.v = some x → hbk g.v = some x → f.b = g.b
 pc : Hd σ 80 2 pv pcs.length (pcC pcs)
 own : S bb ∧ S mb ∧ (∀ f ∈ fs, S f.b ∧ ∀ x, hbk f.v = some x → S x) ∧ ∀ x, hbk pv = some x → S x
 inn : ∀ p ∈ pcs, ∃ f ∈ fs, f.b = p.1
section
variable {σ τ : St} {bb mb : Nat} {S : Nat → Prop} {fs : List Fl} {pcs : List (Nat × Nat)} {size : Int} {pv : AV}
theorem DAt.but {U : Nat → Prop} (h : DAt σ bb S fs pcs size mb pv) (k : But U σ τ) (hU : ∀ b, S b → ¬ U b) : DAt τ bb S fs pcs size mb pv := by
 obtain ⟨o1, o2, o3, o4⟩ := h.own
 exact ⟨k.keep _ _ (hU _ o1) h.obj, k.used _ h.used, k.keep _ _ (hU _ o2) h.map, k.used _ h.umap, fun f hf => ⟨k.keep _ _ (hU _ (o3 f hf).1) (h.file f hf).1, k.used _ (h.file f hf).2.1, (h.file f hf).2.2.but k fun b hb => hU _ ((o3 f hf).2 b hb)⟩, h.nd, h.nn, h.far, h.pc.but k fun b hb => hU _ (o4 b hb), h.own, h.inn⟩
theorem DAt.ext (h : DAt σ bb S fs pcs size mb pv) (k : Ext σ τ) : DAt τ bb S fs pcs size mb pv := h.but (U := fun _ => False) k.but fun _ _ => id
theorem dget_mem : ∀ {fs : List Fl} {k : List UInt8} {n : Nat}, dget (dirOf fs) k = some n → ∃ f ∈ fs, f.nm = k ∧ f.b = n
 | f :: fs, k, n, h => by
  unfold dirOf dget at h
  simp only [List.map_cons] at h
  by_cases hk : k = f.nm
  ·rw [if_pos hk] at h
   injection h with h
   exact ⟨f, List.mem_cons_self, hk.symm, h⟩
  ·rw [if_neg hk] at h
   obtain ⟨g, hg, h1⟩ := dget_mem (fs := fs) h
   exact ⟨g, List.mem_cons_of_mem _ hg, h1⟩
theorem dget_none : ∀ {fs : List Fl} {k : List UInt8}, dget (dirOf fs) k = none ↔ ∀ f ∈ fs, f.nm ≠ k
 | [], k => by simp [dirOf, dget]
 | f :: fs, k => by
  show (if k = f.nm then some f.b else dget (dirOf fs) k) = none ↔ _
  by_cases hk : k = f.nm
  ·rw [if_pos hk]
   simp [hk]
  ·rw [if_neg hk, dget_none (fs := fs)]
   simp only [List.mem_cons, forall_eq_or_imp]
   exact ⟨fun h => ⟨fun e => hk e.symm, h⟩, fun h => h.2⟩
theorem dput_new {fs : List Fl} {k : List UInt8} (n : Nat) (h : ∀ f ∈ fs, f.nm ≠ k) : dput (dirOf fs) k n = dirOf fs ++ [(k, n)] := by
 induction fs with
 | nil => rfl
 | cons f fs ih =>
  show (if k = f.nm then (k, n) :: dirOf fs else (f.nm, f.b) :: dput (dirOf fs) k n) = _
  rw [if_neg (fun e => h f List.mem_cons_self e.symm), ih (fun g hg => h g (List.mem_cons_of_mem _ hg))]
  rfl
/-- Nothing of what was there is touched in the world. -/
theorem heap_more {w w' : World} {Z : Nat → Prop} (hH : HeapOk w σ Z) (hs : w.heap.size ≤ w'.heap.size) (hb : ∀ b, b < w.heap.size → w'.heap[b]? = w.heap[b]?) (ho : w'.os = w.os ∧ w'.output = w.output ∧ w'.tape = w.tape) : HeapOk w' σ Z ∧ Grow w σ w' σ := by
 have hG : Grow w σ w' σ := ⟨ho.1, ho.2.2, ho.2.1, hs, fun b hb hu => hu, fun b hb' hn => ⟨hb b hb', hn⟩, fun b t k s hb' ht => ⟨fun j v _ hv => by rw [World.cell?_of_block (w := w) (hb b hb')]; exact hv, .inr ⟨t, k, s, ht, Nat.le_refl _⟩⟩, fun b hu => hu⟩
 refine ⟨⟨fun b hu => Nat.lt_of_lt_of_le (hH.used _ hu) hs, fun b hz => ?_, fun b t cs hb' => ?_, fun b t k s hb' => ?_, fun b es hb' => ?_⟩, hG⟩
 ·obtain ⟨z1, z2⟩ := hH.z _ hz
  exact ⟨Nat.lt_of_lt_of_le z1 hs, z2⟩
 ·obtain ⟨g1, g2, g3⟩ := hH.own _ _ _ hb'
  exact ⟨g1, (hb b (hH.used _ g1)).trans g2, fun c hc => hG.valid (g3 c hc)⟩
 ·obtain ⟨g1, cs, g2, g3⟩ := hH.tail _ _ _ _ hb'
  exact ⟨g1, cs, (hb b (hH.used _ g1)).trans g2, g3⟩
 ·obtain ⟨g1, a, c, g2, g3⟩ := hH.map _ _ hb'
  exact ⟨g1, a, c, (hb b (hH.used _ g1)).trans g2, g3⟩
theorem own_cell {w : World} {Z : Nat → Prop} (hH : HeapOk w σ Z) {b : Nat} {t : TypeId} {cs : List AV} (hb : σ.blk b = some (.own t cs)) {j : Nat} {d : AV} (hd : cs[j]? = some d) : w.cell? ⟨b, j, none⟩ = some d.val := by
 have := own_cells hH hb 0 j (by rw [Nat.zero_add]; exact hd)
 rw [add_off_, Nat.zero_add] at this
 exact this
theorem fits_ok {more : Nat} (h : DAt σ bb S fs pcs size mb pv) (hm : more + sumD fs ≤ 1000000000) (K : AV → St → Prop) (hK : K (vT (decide (size < 1 ∨ ((more + sumD fs : Nat) : Int) ≤ size))) σ) : CallsA Try.prog 37 [ptr bb 0, vI more] σ K := by
 intro w Z hH hV
 refine .inl ⟨by kernel_rfl, ?_⟩
 obtain ⟨_, arr, c, hh, harr, hfr1, hfr2⟩ := hH.map _ _ h.map
 have hmem : ∀ x ∈ arr.toList, ∃ f ∈ fs, x.val = pV f.b := fun x hx => by
  have : (x.key, x.val) ∈ ents (dirOf fs) := by
   rw [← harr]
   exact List.mem_map.2 ⟨x, hx, rfl⟩
  obtain ⟨p, hp, hpx⟩ := List.mem_map.1 this
  obtain ⟨f, hf, rfl⟩ := List.mem_map.1 hp
  injection hpx with _ h2
  exact ⟨f, hf, h2.symm⟩
 have hfile : ∀ f ∈ fs, ∃ A c, w.cell? ⟨f.b, 0, none⟩ = some (.slice A f.d.length c) := fun f hf => by
  obtain ⟨A, c, hv, _⟩ := (h.file f hf).2.2.val
  exact ⟨A, c, by rw [← hv]; exact own_cell hH (h.file f hf).1 rfl⟩
 have hsum : ((lens w arr).map fun e => valOf e.val).sum = (sumD fs : Int) := by
  have h1 : (lens w arr).map (fun e => valOf e.val) = (arr.toList.map fun e : MapEntry => (e.key, e.val)).map fun p => lenAt w p.2 := by
   unfold lens
   rw [List.map_map, List.map_map]
   rfl
  rw [h1, harr]
  unfold ents dirOf sumD
  rw [List.map_map, List.map_map]
  clear h1 hmem harr hm hK
  have hfile2 := hfile
  clear hfile h
  induction fs with
  | nil => rfl
  | cons f fs ih =>
   obtain ⟨A, c, hc⟩ := hfile2 f List.mem_cons_self
   rw [List.map_cons, List.sum_cons, List.map_cons, List.sum_cons, ih (fun g hg => hfile2 g (List.mem_cons_of_mem _ hg))]
   show lenAt w (pV f.b) + _ = _
   rw [lenAt_of hc]
   omega
 have hc := fits_any bb mb pv.val size more arr c w (own_cell hH h.obj (j := 1) rfl) (own_cell hH h.obj (j := 2) rfl) hh ⟨fun x hx => hfr1 _ (List.mem_map.2 ⟨x, hx, rfl⟩), hfr2⟩ (fun x hx => by
  obtain ⟨f, hf, hxv⟩ := hmem x hx
  obtain ⟨A, c, hc⟩ := hfile f hf
  exact ⟨f.b, A, _, c, hxv, hc⟩) (by omega) (by rw [hsum]; omega)
 rw [hsum] at hc
 refine Calls.mono hc ?_
 rintro e w' ⟨rfl, w1, seen, hal, rfl⟩
 have hsz : w1.heap.size = w.heap.size := by rw [hal.1]
 obtain ⟨q1, q2⟩ := heap_more (w' := w1.alloc (.mapIter (some mb) c seen c)) hH (by simp only [World.size_alloc]; omega) (fun b hb => by rw [heap_alloc_old w1 _ (by omega), hal.1]) ⟨hal.2.1, hal.2.2.1, hal.2.2.2⟩
 refine ⟨vT (decide (size < 1 ∨ ((more + sumD fs : Nat) : Int) ≤ size)), σ, ?_, hK, q1, valid_raw _, q2⟩
 simp [vT]
end
end Go.Proofs.Ytinpiaibhjmfaaa
