/- A disk, as it lies: its object, map, files, pieces. -/
import Derived.Test.YtinpiaibhjmfaaaDf
import Derived.Test.YtinpiaibhjmfaaaDh
namespace Go.Proofs.Ytinpiaibhjmfaaa
open Go.RowKit
set_option maxRecDepth 100000
set_option linter.unusedVariables false
set_option linter.unusedSimpArgs false
theorem ZaL : Try.prog.follows .mixedOrders = true := by kernel_rfl
theorem Za3 : Zbo Try.prog 65 = some [(0, some 1, some true), (1, some 1, some false), (2, some 1, some false)] := by kernel_rfl
theorem Zca : Zbo Try.prog 62 = some [(0, some 1, some false)] := by kernel_rfl
theorem ZeD : Zbo Try.prog 78 = some [(0, some 1, some false)] := by kernel_rfl
theorem ZdJ : Zbo Try.prog 80 = some [(0, some 1, some false), (1, some 1, some false)] := by kernel_rfl
theorem ZjT : Zaw Try.prog 22 = some 32 := by kernel_rfl
theorem Zb3 : Zaw Try.prog 32 = some 5 := by kernel_rfl
theorem Zbt : Zaw Try.prog 60 = some 80 := by kernel_rfl
theorem Zfd : Zaw Try.prog 26 = some 9 := by kernel_rfl
theorem Zd5 : Zax Try.prog 3 = some 1 := by kernel_rfl
theorem Zhp : Zax Try.prog 5 = some 1 := by kernel_rfl
theorem ZcZ : Zax Try.prog 32 = some 1 := by kernel_rfl
theorem Zcb : Zax Try.prog 60 = some 1 := by kernel_rfl
theorem ZcM : Zax Try.prog 63 = some 1 := by kernel_rfl
theorem Zio : Zax Try.prog 76 = some 1 := by kernel_rfl
theorem Za6 : Zax Try.prog 80 = some 2 := by kernel_rfl
theorem Zek : Zc4 Try.prog 3 = some false := by kernel_rfl
theorem Zf4 : Zc4 Try.prog 32 = some false := by kernel_rfl
theorem Zdf : Zc4 Try.prog 60 = some false := by kernel_rfl
theorem ZcN : Zc4 Try.prog 63 = some false := by kernel_rfl
theorem Zip : Zc4 Try.prog 76 = some false := by kernel_rfl
theorem Zf5 : Zc4 Try.prog 80 = some true := by kernel_rfl
theorem Ziq : ZaN Try.prog 5 = some (.int .u8 0) := by kernel_rfl
theorem ZjU : ZaN Try.prog 32 = some (.slice none 0 0) := by kernel_rfl
theorem ZsE : ZaN Try.prog 65 = some (.agg #[.slice none 0 0, .map none, .int .i64 0]) := by kernel_rfl
theorem Zg6 : ZaN Try.prog 76 = some (.pointer none) := by kernel_rfl
theorem Zpy : ZaN Try.prog 78 = some (.agg #[.slice none 0 0]) := by kernel_rfl
theorem ZdK : ZaN Try.prog 80 = some (.agg #[.pointer none, .int .i64 0]) := by kernel_rfl
theorem ZsF : Zdx Try.prog 65 = some [(0, 1), (1, 1), (2, 1)] := by kernel_rfl
theorem Zpz : Zdx Try.prog 78 = some [(0, 1)] := by kernel_rfl
theorem ZpA : Zdx Try.prog 80 = some [(0, 1), (1, 1)] := by kernel_rfl
theorem ZtM : Zb5 Try.prog 5 = some 1 := by kernel_rfl
theorem ZpB : Zb5 Try.prog 80 = some 16 := by kernel_rfl
theorem Zd6 : Program.underlying Try.prog 63 = some (.map 9 76) := by kernel_rfl
theorem Zel : Program.underlying Try.prog 9 = some .string := by kernel_rfl
theorem ZdL : Program.underlying Try.prog 76 = some (.pointer (Program.pointee Try.prog 76)) := by kernel_rfl
theorem ZtN : Program.underlying Try.prog 30 = some (.pointer (Program.pointee Try.prog 30)) := by kernel_rfl
structure Fl where
 nm : List UInt8
 b : Nat
 v : AV
 d : List UInt8
def pcC (l : List (Nat × Nat)) : List AV := l.flatMap fun p => [ptr p.1 0, .raw (.int .i64 (p.2 : Int))]
theorem Zl9 (l : List (Nat × Nat)) : (pcC l).length = l.length * 2 := by
 induction l with
 | nil => rfl
 | cons p l ih =>
  show (pcC l).length + 1 + 1 = (l.length + 1) * 2
  omega
theorem Zg7 (l m : List (Nat × Nat)) : pcC (l ++ m) = pcC l ++ pcC m := by simp [pcC]
def sumD (fs : List Fl) : Nat := (fs.map (·.d.length)).sum
def ZbG (pcs : List (Nat × Nat)) : Nat := (pcs.map (·.2)).sum
def ZaV (fs : List Fl) : Dir := fs.map fun f => (f.nm, f.b)
structure DAt (σ : St) (bb : Nat) (S : Nat -> Prop) (fs : List Fl) (pcs : List (Nat × Nat)) (size : Int) (mb : Nat) (pv : AV) : Prop where
 obj : σ.blk bb = some (.own 65 [pv, Zbv mb, .raw (.int .i64 size)])
 used : σ.used bb
 map : σ.blk mb = some (.map (Zei (ZaV fs)))
 umap : σ.used mb
 file : ∀ f ∈ fs, σ.blk f.b = some (.own 78 [f.v]) /\ σ.used f.b /\ Hd σ 5 1 f.v f.d.length (bys f.d)
 nd : (fs.map (·.b)).Nodup
 nn : (fs.map (·.nm)).Nodup
 far : ∀ f ∈ fs, ∀ g ∈ fs, ∀ x, hbk f.v = some x -> hbk g.v = some x -> f.b = g.b
 pc : Hd σ 80 2 pv pcs.length (pcC pcs)
 own : S bb /\ S mb /\ (∀ f ∈ fs, S f.b /\ ∀ x, hbk f.v = some x -> S x) /\ ∀ x, hbk pv = some x -> S x
 inn : ∀ p ∈ pcs, ∃ f ∈ fs, f.b = p.1
section
variable {σ τ : St} {bb mb : Nat} {S : Nat -> Prop} {fs : List Fl} {pcs : List (Nat × Nat)} {size : Int} {pv : AV}
theorem DAt.but {U : Nat -> Prop} (h : DAt σ bb S fs pcs size mb pv) (k : But U σ τ) (hU : ∀ b, S b -> ¬ U b) : DAt τ bb S fs pcs size mb pv := by
 obtain ⟨o1, o2, o3, o4⟩ := h.own
 exact ⟨k.keep _ _ (hU _ o1) h.obj, k.used _ h.used, k.keep _ _ (hU _ o2) h.map, k.used _ h.umap, fun f hf => ⟨k.keep _ _ (hU _ (o3 f hf).1) (h.file f hf).1, k.used _ (h.file f hf).2.1, (h.file f hf).2.2.but k fun b hb => hU _ ((o3 f hf).2 b hb)⟩, h.nd, h.nn, h.far, h.pc.but k fun b hb => hU _ (o4 b hb), h.own, h.inn⟩
theorem DAt.ext (h : DAt σ bb S fs pcs size mb pv) (k : Ext σ τ) : DAt τ bb S fs pcs size mb pv := h.but (U := fun _ => False) k.but fun _ _ => id
theorem ZcO : ∀ {fs : List Fl} {k : List UInt8} {n : Nat}, Zf3 (ZaV fs) k = some n -> ∃ f ∈ fs, f.nm = k /\ f.b = n
 | f :: fs, k, n, h => by
  unfold ZaV Zf3 at h
  simp only [List.map_cons] at h
  by_cases hk : k = f.nm
  ·rw [if_pos hk] at h
   injection h with h
   exact ⟨f, List.mem_cons_self, hk.symm, h⟩
  ·rw [if_neg hk] at h
   obtain ⟨g, hg, h1⟩ := ZcO (fs := fs) h
   exact ⟨g, List.mem_cons_of_mem _ hg, h1⟩
theorem ZcP : ∀ {fs : List Fl} {k : List UInt8}, Zf3 (ZaV fs) k = none ↔ ∀ f ∈ fs, f.nm ≠ k
 | [], k => by simp [ZaV, Zf3]
 | f :: fs, k => by
  show (if k = f.nm then some f.b else Zf3 (ZaV fs) k) = none ↔ _
  by_cases hk : k = f.nm
  ·rw [if_pos hk]
   simp [hk]
  ·rw [if_neg hk, ZcP (fs := fs)]
   simp only [List.mem_cons, forall_eq_or_imp]
   exact ⟨fun h => ⟨fun e => hk e.symm, h⟩, fun h => h.2⟩
theorem ZjV {fs : List Fl} {k : List UInt8} (n : Nat) (h : ∀ f ∈ fs, f.nm ≠ k) : ZqX (ZaV fs) k n = ZaV fs ++ [(k, n)] := by
 induction fs with
 | nil => rfl
 | cons f fs ih =>
  show (if k = f.nm then (k, n) :: ZaV fs else (f.nm, f.b) :: ZqX (ZaV fs) k n) = _
  rw [if_neg (fun e => h f List.mem_cons_self e.symm), ih (fun g hg => h g (List.mem_cons_of_mem _ hg))]
  rfl
theorem ZpC {w w' : World} {Z : Nat -> Prop} (hH : Zaj w σ Z) (hs : w.heap.size <= w'.heap.size) (hb : ∀ b, b < w.heap.size -> w'.heap[b]? = w.heap[b]?) (ho : w'.os = w.os /\ w'.output = w.output /\ w'.tape = w.tape) : Zaj w' σ Z /\ Grow w σ w' σ := by
 have hG : Grow w σ w' σ := ⟨ho.1, ho.2.2, ho.2.1, hs, fun b hb hu => hu, fun b hb' hn => ⟨hb b hb', hn⟩, fun b t k s hb' ht => ⟨fun j v _ hv => by rw [World.cell?_of_block (w := w) (hb b hb')]; exact hv, .inr ⟨t, k, s, ht, Nat.le_refl _⟩⟩, fun b hu => hu⟩
 refine ⟨⟨fun b hu => Nat.lt_of_lt_of_le (hH.used _ hu) hs, fun b hz => ?_, fun b t cs hb' => ?_, fun b t k s hb' => ?_, fun b es hb' => ?_⟩, hG⟩
 ·obtain ⟨z1, z2⟩ := hH.z _ hz
  exact ⟨Nat.lt_of_lt_of_le z1 hs, z2⟩
 ·obtain ⟨g1, g2, g3⟩ := hH.own _ _ _ hb'
  exact ⟨g1, (hb b (hH.used _ g1)).trans g2, fun c hc => hG.valid (g3 c hc)⟩
 ·obtain ⟨g1, cs, g2, g3⟩ := hH.tail _ _ _ _ hb'
  exact ⟨g1, cs, (hb b (hH.used _ g1)).trans g2, g3⟩
 ·obtain ⟨g1, a, c, g2, g3⟩ := hH.map _ _ hb'
  exact ⟨g1, a, c, (hb b (hH.used _ g1)).trans g2, g3⟩
theorem ZhG {w : World} {Z : Nat -> Prop} (hH : Zaj w σ Z) {b : Nat} {t : TypeId} {cs : List AV} (hb : σ.blk b = some (.own t cs)) {j : Nat} {d : AV} (hd : cs[j]? = some d) : w.cell? ⟨b, j, none⟩ = some d.val := by
 have := Zee hH hb 0 j (by rw [Nat.zero_add]; exact hd)
 rw [Zbe, Nat.zero_add] at this
 exact this
theorem ZsG {more : Nat} (h : DAt σ bb S fs pcs size mb pv) (hm : more + sumD fs <= 1000000000) (K : AV -> St -> Prop) (hK : K (vT (decide (size < 1 \/ ((more + sumD fs : Nat) : Int) <= size))) σ) : Zau Try.prog 37 [ptr bb 0, vI more] σ K := by
 intro w Z hH hV
 refine .inl ⟨by kernel_rfl, ?_⟩
 obtain ⟨_, arr, c, hh, harr, hfr1, hfr2⟩ := hH.mapAt h.map (Zds _)
 have hmem : ∀ x ∈ arr.toList, ∃ f ∈ fs, x.val = pV f.b := fun x hx => by
  have : (x.key, x.val) ∈ Zei (ZaV fs) := by
   rw [<- harr]
   exact List.mem_map.2 ⟨x, hx, rfl⟩
  obtain ⟨p, hp, hpx⟩ := List.mem_map.1 this
  obtain ⟨f, hf, rfl⟩ := List.mem_map.1 hp
  injection hpx with _ h2
  exact ⟨f, hf, h2.symm⟩
 have hfile : ∀ f ∈ fs, ∃ A c, w.cell? ⟨f.b, 0, none⟩ = some (.slice A f.d.length c) := fun f hf => by
  obtain ⟨A, c, hv, _⟩ := (h.file f hf).2.2.val
  exact ⟨A, c, by rw [<- hv]; exact ZhG hH (h.file f hf).1 rfl⟩
 have hsum : ((Zk8 w arr).map fun e => valOf e.val).sum = (sumD fs : Int) := by
  have h1 : (Zk8 w arr).map (fun e => valOf e.val) = (arr.toList.map fun e : MapEntry => (e.key, e.val)).map fun p => Zk7 w p.2 := by
   unfold Zk8
   rw [List.map_map, List.map_map]
   rfl
  rw [h1, harr]
  unfold Zei ZaV sumD
  rw [List.map_map, List.map_map]
  clear h1 hmem harr hm hK
  have hfile2 := hfile
  clear hfile h
  induction fs with
  | nil => rfl
  | cons f fs ih =>
   obtain ⟨A, c, hc⟩ := hfile2 f List.mem_cons_self
   rw [List.map_cons, List.sum_cons, List.map_cons, List.sum_cons, ih (fun g hg => hfile2 g (List.mem_cons_of_mem _ hg))]
   show Zk7 w (pV f.b) + _ = _
   rw [ZjS hc]
   omega
 have hc := Zq1 bb mb pv.val size more arr c w (ZhG hH h.obj (j := 1) rfl) (ZhG hH h.obj (j := 2) rfl) hh ⟨fun x hx => hfr1 _ (List.mem_map.2 ⟨x, hx, rfl⟩), hfr2⟩ (fun x hx => by
  obtain ⟨f, hf, hxv⟩ := hmem x hx
  obtain ⟨A, c, hc⟩ := hfile f hf
  exact ⟨f.b, A, _, c, hxv, hc⟩) (by omega) (by rw [hsum]; omega)
 rw [hsum] at hc
 refine Calls.mono hc ?_
 rintro e w' ⟨rfl, w1, seen, hal, rfl⟩
 have hsz : w1.heap.size = w.heap.size := by rw [hal.1]
 obtain ⟨q1, q2⟩ := ZpC (w' := w1.alloc (.mapIter (some mb) c seen c)) hH (by simp only [World.size_alloc]; omega) (fun b hb => by rw [heap_alloc_old w1 _ (by omega), hal.1]) ⟨hal.2.1, hal.2.2.1, hal.2.2.2⟩
 refine ⟨vT (decide (size < 1 \/ ((more + sumD fs : Nat) : Int) <= size)), σ, ?_, hK, q1, Zak _, q2⟩
 simp [vT]
end
end Go.Proofs.Ytinpiaibhjmfaaa
