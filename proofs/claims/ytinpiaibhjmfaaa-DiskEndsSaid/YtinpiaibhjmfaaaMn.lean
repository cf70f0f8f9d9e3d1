/- XRdk, XRdl, XDcd, XRed in one. -/
import Derived.Test.YtinpiaibhjmfaaaMm
import Derived.Test.YtinpiaibhjmfaaaMi
namespace Go.Proofs.Ytinpiaibhjmfaaa
open Go.RowKit
set_option maxRecDepth 100000
set_option linter.unusedVariables false
set_option linter.unusedSimpArgs false
theorem Zmn {a b : List UInt8} (h : a < b) : a <= b := List.le_of_lt h
structure Rl (g : Nat -> List UInt8) (fs : List Fl) (pcs : List (Nat × Nat)) (l : List Rw) (ps : PL) : Prop where
 blk : ∀ f ∈ fs, g f.b = f.nm
 files : ∀ k d, (∃ f ∈ fs, f.nm = k /\ f.d = d) ↔ ∃ r ∈ l, r.nm = k /\ r.d = d
 pcs : ps = pcs.map fun p => (g p.1, p.2)
 asc : (l.map (·.nm)).Pairwise (· <= ·)
structure Bth (fs : List Fl) (pcs : List (Nat × Nat)) (l : List Rw) (ps : PL) : Prop where
 nb : (fs.map (·.b)).Nodup
 nn : (fs.map (·.nm)).Nodup
 inn : ∀ p ∈ pcs, ∃ f ∈ fs, f.b = p.1
 ln : (l.map (·.nm)).Nodup
section
variable {g : Nat -> List UInt8} {fs fs' : List Fl} {pcs pcs' : List (Nat × Nat)} {l l' : List Rw} {ps ps' : PL}
theorem Rl.nm (R : Rl g fs pcs l ps) (k : List UInt8) : (∃ f ∈ fs, f.nm = k) ↔ ∃ r ∈ l, r.nm = k :=
 ⟨fun ⟨f, hf, e⟩ => by
  obtain ⟨r, hr, q, _⟩ := (R.files k f.d).1 ⟨f, hf, e, rfl⟩
  exact ⟨r, hr, q⟩, fun ⟨r, hr, e⟩ => by
  obtain ⟨f, hf, q, _⟩ := (R.files k r.d).2 ⟨r, hr, e, rfl⟩
  exact ⟨f, hf, q⟩⟩
theorem Rl.mem (R : Rl g fs pcs l ps) (k : List UInt8) : (k ∈ l.map (·.nm)) ↔ ∃ f ∈ fs, f.nm = k := by
 rw [R.nm, List.mem_map]
theorem Rl.dat (R : Rl g fs pcs l ps) (B : Bth fs pcs l ps) {f : Fl} {r : Rw} (hf : f ∈ fs) (hr : r ∈ l) (e : f.nm = r.nm) : f.d = r.d := by
 obtain ⟨q, hq, e1, e2⟩ := (R.files f.nm f.d).1 ⟨f, hf, rfl, rfl⟩
 have : q = r := ZbK B.ln q hq r hr (by rw [e1, e])
 rw [<- e2, this]
theorem Rl.key (R : Rl g fs pcs l ps) (B : Bth fs pcs l ps) {p : Nat × Nat} (hp : p ∈ pcs) {f : Fl} (hf : f ∈ fs) : g p.1 = f.nm ↔ p.1 = f.b := by
 obtain ⟨q, hq, e⟩ := B.inn p hp
 rw [<- e, R.blk q hq]
 constructor
 ·intro h
  rw [ZbK B.nn q hq f hf h]
 ·intro h
  rw [ZbK B.nb q hq f hf h]
theorem Rl.perm (R : Rl g fs pcs l ps) (B : Bth fs pcs l ps) : (fs.map fun f => (f.nm, f.d)).Perm (ZdO l) := by
 refine (List.perm_ext_iff_of_nodup ?_ ?_).2 fun x => ?_
 ·refine Zb8 (f := Prod.fst) ?_
  rw [List.map_map]
  exact B.nn
 ·refine Zb8 (f := Prod.fst) ?_
  unfold ZdO
  rw [List.map_map]
  exact B.ln
 ·obtain ⟨k, d⟩ := x
  unfold ZdO
  rw [List.mem_map, List.mem_map]
  constructor
  ·rintro ⟨f, hf, e⟩
   injection e with e1 e2
   obtain ⟨r, hr, q1, q2⟩ := (R.files k d).1 ⟨f, hf, e1, e2⟩
   exact ⟨r, hr, by rw [q1, q2]⟩
  ·rintro ⟨f, hf, e⟩
   injection e with e1 e2
   obtain ⟨r, hr, q1, q2⟩ := (R.files k d).2 ⟨f, hf, e1, e2⟩
   exact ⟨r, hr, by rw [q1, q2]⟩
theorem Rl.len (R : Rl g fs pcs l ps) (B : Bth fs pcs l ps) : l.length = fs.length := by
 have := (R.perm B).length_eq
 unfold ZdO at this
 rw [List.length_map, List.length_map] at this
 exact this.symm
theorem Rl.sum (R : Rl g fs pcs l ps) (B : Bth fs pcs l ps) : Zem l = sumD fs := by
 have := ((R.perm B).map fun x : List UInt8 × List UInt8 => x.2.length).sum_nat
 unfold ZdO at this
 rw [List.map_map, List.map_map] at this
 exact this.symm
theorem Rl.plen (R : Rl g fs pcs l ps) : ps.length = pcs.length := by rw [R.pcs, List.length_map]
theorem Zkk (g : Nat -> List UInt8) (pcs : List (Nat × Nat)) : ZdJ (pcs.map fun p => (g p.1, p.2)) = Zcy pcs := by
 unfold ZdJ Zcy
 rw [List.map_map]
 rfl
theorem Rl.psum (R : Rl g fs pcs l ps) : ZdJ ps = Zcy pcs := by rw [R.pcs, Zkk]
theorem Zgc {p : Nat × Nat -> Bool} {q : List UInt8 × Nat -> Bool} {pcs : List (Nat × Nat)} (h : ∀ x ∈ pcs, q (g x.1, x.2) = p x) : (pcs.map fun p => (g p.1, p.2)).filter q = (pcs.filter p).map fun p => (g p.1, p.2) := by
 induction pcs with
 | nil => rfl
 | cons a pcs ih =>
  have h1 := h a List.mem_cons_self
  have h2 := ih fun x hx => h x (List.mem_cons_of_mem _ hx)
  rw [List.map_cons, List.filter_cons, List.filter_cons, h1, h2]
  cases p a <;> rfl
theorem Rl.noP_ (R : Rl g fs pcs l ps) (B : Bth fs pcs l ps) {f : Fl} (hf : f ∈ fs) : noP f.nm ps = (pcs.filter fun p => !decide (p.1 = f.b)).map fun p => (g p.1, p.2) := by
 rw [R.pcs]
 refine Zgc fun x hx => ?_
 have := R.key B hx hf
 by_cases h : x.1 = f.b
 ·simp [h, R.blk f hf]
 ·have h2 : ¬ g x.1 = f.nm := fun q => h (this.1 q)
  simp [h, h2]
theorem Rl.sumS_ (R : Rl g fs pcs l ps) (B : Bth fs pcs l ps) {f : Fl} (hf : f ∈ fs) : ZkO f.nm ps = Zcj f.b pcs := by
 unfold ZkO Zcj
 rw [R.pcs, Zgc (p := fun p => decide (p.1 = f.b)) fun x hx => ?_, Zkk]
 have := R.key B hx hf
 exact decide_eq_decide.2 this
theorem Rl.wf (R : Rl g fs pcs l ps) (B : Bth fs pcs l ps) (W : Wf fs pcs) : RWf l ps := by
 refine ⟨fun p hp => ?_, fun p hp => ?_, fun r hr => ?_⟩
 ·rw [R.pcs] at hp
  obtain ⟨q, hq, rfl⟩ := List.mem_map.1 hp
  exact W.pos q hq
 ·rw [R.pcs] at hp
  obtain ⟨q, hq, rfl⟩ := List.mem_map.1 hp
  obtain ⟨f, hf, e⟩ := B.inn q hq
  refine (R.nm _).1 ⟨f, hf, ?_⟩
  rw [<- R.blk f hf, e]
 ·obtain ⟨f, hf, e⟩ := (R.nm r.nm).2 ⟨r, hr, rfl⟩
  rw [<- e, R.sumS_ B hf, <- R.dat B hf hr e]
  exact W.fit f hf
theorem Rl.names (R : Rl g fs pcs l ps) (B : Bth fs pcs l ps) : srt (fs.map (·.nm)) = l.map (·.nm) := by
 have hp : (fs.map (·.nm)).Perm (l.map (·.nm)) := by
  have := (R.perm B).map Prod.fst
  unfold ZdO at this
  rw [List.map_map, List.map_map] at this
  exact this
 have tr : ∀ a b c : List UInt8, leB a b = true -> leB b c = true -> leB a c = true := fun a b c h1 h2 => by simp only [leB, decide_eq_true_eq] at *; exact List.le_trans h1 h2
 have to : ∀ a b : List UInt8, (leB a b || leB b a) = true := fun a b => by simp only [leB, Bool.or_eq_true, decide_eq_true_eq]; exact List.le_total a b
 refine List.Perm.eq_of_pairwise (le := fun a b => leB a b = true) (fun a b _ _ h1 h2 => ?_) (List.pairwise_mergeSort tr to _) ?_ ((Zj9 _).trans hp)
 ·simp only [leB, decide_eq_true_eq] at h1 h2
  exact List.le_antisymm h1 h2
 ·refine R.asc.imp fun {a b} h => ?_
  simp only [leB, decide_eq_true_eq]
  exact h
theorem ZnT (hblk : ∀ f ∈ fs, g f.b = f.nm) (hnb : (fs.map (·.b)).Nodup) (hnn : (fs.map (·.nm)).Nodup) {ks : List (List UInt8)} (hks : ∀ k, k ∈ ks ↔ ∃ f ∈ fs, f.nm = k) : ∀ (ns : List (List UInt8)) (pcs : List (Nat × Nat)), (∀ p ∈ pcs, ∃ f ∈ fs, f.b = p.1) -> ZdW ks ns (pcs.map fun p => (g p.1, p.2)) = ((ZeC fs ns pcs).1.map fun p => (g p.1, p.2), (ZeC fs ns pcs).2)
 | [], pcs, _ => rfl
 | n :: ns, pcs, hin => by
  rw [ZgO]
  cases hg : Zfa (Zbc fs) n with
  | none =>
   rw [ZfG hg, if_neg fun q => ?_]
   obtain ⟨f, hf, e⟩ := (hks n).1 q
   exact ZcA.1 hg f hf e
  | some fb =>
   obtain ⟨f, hf, e, rfl⟩ := ZcE hg
   rw [ZfH hg, if_pos ((hks n).2 ⟨f, hf, e⟩), <- e]
   have R : Rl g fs pcs [] (pcs.map fun p => (g p.1, p.2)) -> True := fun _ => trivial
   have hf2 : noP f.nm (pcs.map fun p => (g p.1, p.2)) = (pcs.filter fun p => !decide (p.1 = f.b)).map fun p => (g p.1, p.2) := by
    refine Zgc fun x hx => ?_
    obtain ⟨q, hq, e2⟩ := hin x hx
    by_cases h : x.1 = f.b
    ·simp [h, hblk f hf]
    ·have h2 : ¬ g x.1 = f.nm := fun e3 => h (by
      rw [<- e2, hblk q hq] at e3
      rw [<- e2, ZbK hnn q hq f hf e3])
     simp [h, h2]
   rw [hf2]
   exact ZnT hblk hnb hnn hks ns _ fun p hp => hin p (List.mem_filter.1 hp).1
theorem Zmo (R : Rl g fs pcs l ps) {m : List Rw} (hs : m.Sublist l) : (m.map (·.nm)).Pairwise (· <= ·) := R.asc.sublist (hs.map _)
theorem ZpO (R : Rl g fs pcs l ps) (B : Bth fs pcs l ps) {f0 : Fl} (hf0 : f0 ∈ fs) : Rl g (Zdt f0.nm fs) (pcs.filter fun p => !decide (p.1 = f0.b)) (noN f0.nm l) (noP f0.nm ps) /\ Bth (Zdt f0.nm fs) (pcs.filter fun p => !decide (p.1 = f0.b)) (noN f0.nm l) (noP f0.nm ps) := by
 refine ⟨⟨fun f hf => R.blk f (Zbx.1 hf).1, fun k d => ?_, R.noP_ B hf0, Zmo R List.filter_sublist⟩, Zde B.nb List.filter_sublist, Zde B.nn List.filter_sublist, fun p hp => ?_, Zde B.ln List.filter_sublist⟩
 ·constructor
  ·rintro ⟨f, hf, e1, e2⟩
   obtain ⟨hf1, hf2⟩ := Zbx.1 hf
   obtain ⟨r, hr, q1, q2⟩ := (R.files k d).1 ⟨f, hf1, e1, e2⟩
   refine ⟨r, List.mem_filter.2 ⟨hr, ?_⟩, q1, q2⟩
   rw [e1] at hf2
   simp [q1, hf2]
  ·rintro ⟨r, hr, e1, e2⟩
   obtain ⟨hr1, hr2⟩ := List.mem_filter.1 hr
   obtain ⟨f, hf, q1, q2⟩ := (R.files k d).2 ⟨r, hr1, e1, e2⟩
   refine ⟨f, Zbx.2 ⟨hf, ?_⟩, q1, q2⟩
   simp only [ne_eq, decide_not, Bool.not_eq_eq_eq_not, Bool.not_true, decide_eq_false_iff_not] at hr2
   rw [q1, <- e1]
   exact hr2
 ·obtain ⟨hp1, hp2⟩ := List.mem_filter.1 hp
  obtain ⟨f, hf, e⟩ := B.inn p hp1
  refine ⟨f, Zbx.2 ⟨hf, fun q => ?_⟩, e⟩
  have := ZbK B.nn f hf f0 hf0 q
  rw [this] at e
  simp [e] at hp2
theorem ZpP : ∀ (ns : List (List UInt8)) {fs : List Fl} {pcs : List (Nat × Nat)} {l : List Rw} {ps : PL}, Rl g fs pcs l ps -> Bth fs pcs l ps -> (Zei ns l ps).2.2 = (ZgH ns fs pcs).2.2 /\ Rl g (ZgH ns fs pcs).1 (ZgH ns fs pcs).2.1 (Zei ns l ps).1 (Zei ns l ps).2.1
 | [], fs, pcs, l, ps, R, B => ⟨rfl, R⟩
 | n :: ns, fs, pcs, l, ps, R, B => by
  rw [Zhh]
  cases hg : Zfa (Zbc fs) n with
  | none =>
   rw [ZgI hg, if_neg fun q => ?_]
   ·exact ⟨rfl, R⟩
   ·obtain ⟨f, hf, e⟩ := (R.mem n).1 q
    exact ZcA.1 hg f hf e
  | some fb =>
   obtain ⟨f, hf, e, rfl⟩ := ZcE hg
   rw [ZgJ hg, if_pos ((R.mem n).2 ⟨f, hf, e⟩), <- e]
   obtain ⟨R1, B1⟩ := ZpO R B hf
   exact ZpP ns R1 B1
theorem ZiT {k : List UInt8} {fb : Nat} : ∀ (m : Nat) (pcs : List (Nat × Nat)), (∀ p ∈ pcs, g p.1 = k ↔ p.1 = fb) -> ZfL k m (pcs.map fun p => (g p.1, p.2)) = (Zhb fb m pcs).map fun p => (g p.1, p.2)
 | m, [], _ => rfl
 | m, p :: pcs, h => by
  have h1 := h p List.mem_cons_self
  have ih := fun m => ZiT m pcs fun q hq => h q (List.mem_cons_of_mem _ hq)
  rw [List.map_cons, ZeW]
  unfold Zhb
  by_cases hp : p.1 = fb
  ·rw [if_pos (h1.2 hp), if_pos hp, List.map_cons, ih]
  ·rw [if_neg (fun q => hp (h1.1 q)), if_neg hp, List.map_cons, ih]
theorem Zns {k : List UInt8} {fb : Nat} (m : Nat) (h : ∀ p ∈ pcs, g p.1 = k ↔ p.1 = fb) : Zmg k m (pcs.map fun p => (g p.1, p.2)) = (shr fb m pcs).map fun p => (g p.1, p.2) := by
 unfold Zmg shr
 rw [<- List.map_reverse, ZiT m _ fun p hp => h p (List.mem_reverse.1 hp), List.map_reverse]
def Zjz (k : List UInt8) : Nat -> PL -> Nat
 | _, [] => 0
 | L, p :: ps => (if p.1 = k then min L p.2 else 0) + Zjz k (L - min L p.2) ps
theorem Zhj (k : List UInt8) (L : Nat) (p : List UInt8 × Nat) (ps : PL) : Zjz k L (p :: ps) = (if p.1 = k then min L p.2 else 0) + Zjz k (L - min L p.2) ps := rfl
theorem ZiU {k : List UInt8} {fb : Nat} : ∀ (pcs : List (Nat × Nat)) (L : Nat), (∀ p ∈ pcs, g p.1 = k ↔ p.1 = fb) -> Zjz k L (pcs.map fun p => (g p.1, p.2)) = ZkY fb L pcs
 | [], L, _ => rfl
 | p :: pcs, L, h => by
  have h1 := h p List.mem_cons_self
  rw [List.map_cons, Zhj, ZiO, ZiU pcs _ fun q hq => h q (List.mem_cons_of_mem _ hq)]
  by_cases hp : p.1 = fb
  ·rw [if_pos (h1.2 hp), if_pos hp]
  ·rw [if_neg (fun q => hp (h1.1 q)), if_neg hp]
theorem ZiV : ∀ (ps : PL) (L : Nat) (l : RD), ZdK L l ps = l.map fun f => (f.1, f.2.take (f.2.length - Zjz f.1 L ps))
 | [], L, l => by
  show l = _
  conv => lhs; rw [<- List.map_id l]
  refine List.map_congr_left fun f _ => ?_
  show f = (f.1, f.2.take (f.2.length - 0))
  rw [Nat.sub_zero, List.take_length]
 | p :: ps, L, l => by
  unfold ZdK
  rw [ZiV ps]
  unfold ZnS
  rw [List.map_map]
  refine List.map_congr_left fun f _ => ?_
  simp only [Function.comp]
  rw [Zhj]
  by_cases hb : f.1 = p.1
  ·rw [if_pos hb, if_pos hb.symm]
   dsimp only
   rw [List.length_take, List.take_take]
   congr 2
   omega
  ·rw [if_neg hb, if_neg fun e => hb e.symm, Nat.zero_add]
theorem ZoF (R : Rl g fs pcs l ps) (B : Bth fs pcs l ps) {L : Nat} (h1 : dat fs' = Zcu L (dat fs) pcs.reverse) (h2 : ZdO l' = ZdK L (ZdO l) ps.reverse) : Rl g fs' [] l' [] := by
 rw [ZgM] at h1
 rw [ZiV] at h2
 have hnm : l'.map (·.nm) = l.map (·.nm) := by
  have := congrArg (List.map Prod.fst) h2
  unfold ZdO at this
  rw [List.map_map, List.map_map, List.map_map] at this
  exact this
 have hl : ∀ f ∈ fs, Zjz f.nm L ps.reverse = ZkY f.b L pcs.reverse := fun f hf => by
  rw [R.pcs, <- List.map_reverse]
  exact ZiU _ _ fun p hp => R.key B (List.mem_reverse.1 hp) hf
 refine ⟨fun f hf => ?_, fun k d => ?_, rfl, by rw [hnm]; exact R.asc⟩
 ·have hm := Zb9 hf
  rw [h1] at hm
  obtain ⟨q, hq, e⟩ := List.mem_map.1 hm
  obtain ⟨f1, hf1, rfl⟩ := Zc0 hq
  injection e with e1 e
  injection e with e2 _
  rw [<- e2, <- e1]
  exact R.blk f1 hf1
 ·constructor
  ·rintro ⟨f, hf, e1, e2⟩
   have hm := Zb9 hf
   rw [h1] at hm
   obtain ⟨q, hq, e⟩ := List.mem_map.1 hm
   obtain ⟨f1, hf1, rfl⟩ := Zc0 hq
   injection e with q1 e
   injection e with _ q3
   obtain ⟨r, hr, p1, p2⟩ := (R.files f1.nm f1.d).1 ⟨f1, hf1, rfl, rfl⟩
   have hm2 : (r.nm, r.d.take (r.d.length - Zjz r.nm L ps.reverse)) ∈ ZdO l' := by
    rw [h2]
    exact List.mem_map.2 ⟨(r.nm, r.d), List.mem_map.2 ⟨r, hr, rfl⟩, rfl⟩
   obtain ⟨r', hr', e'⟩ := List.mem_map.1 hm2
   injection e' with s1 s2
   refine ⟨r', hr', ?_, ?_⟩
   ·rw [s1, p1]
    exact q1.trans e1
   ·rw [s2, p1, p2, hl f1 hf1]
    exact q3.trans e2
  ·rintro ⟨r, hr, e1, e2⟩
   have hm : (r.nm, r.d) ∈ ZdO l' := List.mem_map.2 ⟨r, hr, rfl⟩
   rw [h2] at hm
   obtain ⟨q, hq, e⟩ := List.mem_map.1 hm
   obtain ⟨r1, hr1, rfl⟩ := List.mem_map.1 hq
   injection e with q1 q2
   obtain ⟨f1, hf1, p1, p2⟩ := (R.files r1.nm r1.d).2 ⟨r1, hr1, rfl, rfl⟩
   have hm2 : (f1.nm, f1.b, f1.d.take (f1.d.length - ZkY f1.b L pcs.reverse)) ∈ dat fs' := by
    rw [h1]
    exact List.mem_map.2 ⟨_, Zb9 hf1, rfl⟩
   obtain ⟨f', hf', e'⟩ := Zc0 hm2
   injection e' with s1 e'
   injection e' with s2 s3
   refine ⟨f', hf', ?_, ?_⟩
   ·rw [<- s1, p1]
    exact q1.trans e1
   ·rw [<- s3, <- hl f1 hf1, p1, p2]
    exact q2.trans e2
end
end Go.Proofs.Ytinpiaibhjmfaaa
namespace Go.Proofs.Ytinpiaibhjmfaaa
open Go.RowKit
set_option maxRecDepth 100000
set_option linter.unusedVariables false
set_option linter.unusedSimpArgs false
theorem ZoG {l : List Rw} {k : List UInt8} {i : Nat} (h : (l.map (·.nm)).Pairwise (· <= ·)) (h1 : ∀ r ∈ l.take i, r.nm < k) (h2 : ∀ hi : i < l.length, ¬ l[i].nm < k) (x : Rw) (hx : x.nm = k) : ((l.take i ++ x :: l.drop i).map (·.nm)).Pairwise (· <= ·) := by
 have hd : ∀ r ∈ l.drop i, k <= r.nm := fun r hr => by
  rcases Nat.lt_or_ge i l.length with hi | hi
  ·have hq := List.not_lt.1 (h2 hi)
   rw [List.drop_eq_getElem_cons hi] at hr
   rcases List.mem_cons.1 hr with rfl | hr
   ·exact hq
   ·have hp := h.sublist ((List.drop_sublist i l).map _)
    rw [List.drop_eq_getElem_cons hi, List.map_cons, List.pairwise_cons] at hp
    exact List.le_trans hq (hp.1 _ (List.mem_map.2 ⟨r, hr, rfl⟩))
  ·rw [List.drop_eq_nil_of_le hi] at hr
   cases hr
 rw [List.map_append, List.map_cons, hx, List.pairwise_append, List.pairwise_cons]
 refine ⟨h.sublist ((List.take_sublist i l).map _), ⟨fun a ha => ?_, h.sublist ((List.drop_sublist i l).map _)⟩, fun a ha b hb => ?_⟩
 ·obtain ⟨r, hr, rfl⟩ := List.mem_map.1 ha
  exact hd r hr
 ·obtain ⟨r, hr, rfl⟩ := List.mem_map.1 ha
  have hrk := Zmn (h1 r hr)
  rcases List.mem_cons.1 hb with rfl | hb
  ·exact hrk
  ·obtain ⟨q, hq, rfl⟩ := List.mem_map.1 hb
   exact List.le_trans hrk (hd q hq)
theorem Zmp {l : List Rw} {i : Nat} (hi : i <= l.length) (y x : Rw) : (l.take i ++ y :: l.drop i).set i x = l.take i ++ x :: l.drop i := by
 have hl : (l.take i).length = i := by rw [List.length_take]; omega
 rw [List.set_append_right _ _ (by omega), hl, Nat.sub_self]
 rfl
theorem ZjA {l : List Rw} {i : Nat} {x r : Rw} : r ∈ l.take i ++ x :: l.drop i ↔ r ∈ l \/ r = x := by
 rw [List.mem_append, List.mem_cons]
 constructor
 ·rintro (h | h | h)
  ·exact .inl (List.mem_of_mem_take h)
  ·exact .inr h
  ·exact .inl (List.mem_of_mem_drop h)
 ·rintro (h | h)
  ·rw [<- List.take_append_drop i l, List.mem_append] at h
   rcases h with h | h
   ·exact .inl h
   ·exact .inr (.inr h)
  ·exact .inr (.inl h)
theorem ZhZ {l : List Rw} (hn : (l.map (·.nm)).Nodup) {i : Nat} (hi : i < l.length) {x r : Rw} (hx : x.nm = l[i].nm) : r ∈ l.set i x ↔ r = x \/ (r ∈ l /\ r.nm ≠ x.nm) := by
 obtain ⟨xn, xv, xd⟩ := x
 have hx : xn = l[i].nm := hx
 subst hx
 constructor
 ·exact Zjy hn hi
 ·rintro (rfl | ⟨hr, hne⟩)
  ·exact List.mem_set hi _
  ·obtain ⟨q, hq, rfl⟩ := List.getElem_of_mem hr
   have hne2 : i ≠ q := fun e => hne (by subst e; rfl)
   refine List.mem_of_getElem? (i := q) ?_
   rw [List.getElem?_set_ne hne2, List.getElem?_eq_getElem hq]
theorem ZpQ {l : List Rw} {i : Nat} (hi : i < l.length) {x : Rw} (hx : x.nm = l[i].nm) : (l.set i x).map (·.nm) = l.map (·.nm) := by
 rw [List.map_set, hx]
 have : l[i].nm = (l.map (·.nm))[i]'(by rw [List.length_map]; exact hi) := by rw [List.getElem_map]
 rw [this]
 exact List.set_getElem_self _
section
variable {g : Nat -> List UInt8} {fs fs' : List Fl} {pcs pcs' : List (Nat × Nat)} {l l' : List Rw} {ps ps' : PL}
theorem ZpR (R : Rl g fs pcs l ps) (B : Bth fs pcs l ps) {f0 : Fl} (hf0 : f0 ∈ fs) {D : List UInt8} (hdat : dat fs' = (dat fs).map fun f => if f.2.1 = f0.b then (f.1, f.2.1, D) else f) {i : Nat} (hi : i < l.length) (hn : l[i].nm = f0.nm) {v : AV} (hp : ps' = pcs'.map fun p => (g p.1, p.2)) : Rl g fs' pcs' (l.set i ⟨f0.nm, v, D⟩) ps' := by
 have hiff : ∀ k d, (∃ f ∈ fs', f.nm = k /\ f.d = d) ↔ (k = f0.nm /\ d = D) \/ ∃ f ∈ fs, f.nm = k /\ f.d = d /\ f.nm ≠ f0.nm := fun k d => by
  constructor
  ·rintro ⟨f, hf, e1, e2⟩
   have hm := Zb9 hf
   rw [hdat] at hm
   obtain ⟨q, hq, e⟩ := List.mem_map.1 hm
   obtain ⟨f1, hf1, rfl⟩ := Zc0 hq
   dsimp only at e
   by_cases hb : f1.b = f0.b
   ·rw [if_pos hb] at e
    injection e with q1 e
    injection e with _ q3
    have := ZbK B.nb f1 hf1 f0 hf0 hb
    subst this
    exact .inl ⟨by rw [<- e1, <- q1], by rw [<- e2, <- q3]⟩
   ·rw [if_neg hb] at e
    injection e with q1 e
    injection e with _ q3
    exact .inr ⟨f1, hf1, by rw [q1, e1], by rw [q3, e2], fun q => hb (by rw [ZbK B.nn f1 hf1 f0 hf0 q])⟩
  ·rintro (⟨rfl, rfl⟩ | ⟨f, hf, e1, e2, hne⟩)
   ·have hm : (f0.nm, f0.b, d) ∈ dat fs' := by
     rw [hdat]
     exact List.mem_map.2 ⟨_, Zb9 hf0, by dsimp only; rw [if_pos rfl]⟩
    obtain ⟨f', hf', e⟩ := Zc0 hm
    injection e with q1 e
    injection e with _ q3
    exact ⟨f', hf', q1.symm, q3.symm⟩
   ·have hb : ¬ f.b = f0.b := fun q => hne (by rw [ZbK B.nb f hf f0 hf0 q])
    have hm : (f.nm, f.b, f.d) ∈ dat fs' := by
     rw [hdat]
     exact List.mem_map.2 ⟨_, Zb9 hf, by dsimp only; rw [if_neg hb]⟩
    obtain ⟨f', hf', e⟩ := Zc0 hm
    injection e with q1 e
    injection e with _ q3
    exact ⟨f', hf', by rw [<- q1, e1], by rw [<- q3, e2]⟩
 refine ⟨fun f hf => ?_, fun k d => ?_, hp, by rw [ZpQ hi hn.symm]; exact R.asc⟩
 ·have hm := Zb9 hf
  rw [hdat] at hm
  obtain ⟨q, hq, e⟩ := List.mem_map.1 hm
  obtain ⟨f1, hf1, rfl⟩ := Zc0 hq
  dsimp only at e
  have hfb : f1.nm = f.nm /\ f1.b = f.b := by
   split at e <;> (injection e with q1 e; injection e with q2 _; exact ⟨q1, q2⟩)
  rw [<- hfb.1, <- hfb.2]
  exact R.blk f1 hf1
 ·rw [hiff]
  constructor
  ·rintro (⟨rfl, rfl⟩ | ⟨f, hf, e1, e2, hne⟩)
   ·exact ⟨_, (ZhZ B.ln hi hn.symm).2 (.inl rfl), rfl, rfl⟩
   ·obtain ⟨r, hr, q1, q2⟩ := (R.files k d).1 ⟨f, hf, e1, e2⟩
    exact ⟨r, (ZhZ B.ln hi hn.symm).2 (.inr ⟨hr, by show r.nm ≠ f0.nm; rw [q1, <- e1]; exact hne⟩), q1, q2⟩
  ·rintro ⟨r, hr, e1, e2⟩
   rcases (ZhZ B.ln hi hn.symm).1 hr with rfl | ⟨hr, hne⟩
   ·exact .inl ⟨e1.symm, e2.symm⟩
   ·obtain ⟨f, hf, q1, q2⟩ := (R.files k d).2 ⟨r, hr, e1, e2⟩
    exact .inr ⟨f, hf, q1, q2, by rw [q1, <- e1]; exact hne⟩
theorem ZpS {m : List Rw} {fs0 : List Fl} (hblk : ∀ f ∈ fs0, g f.b = f.nm) (hfiles : ∀ k d, (∃ f ∈ fs0, f.nm = k /\ f.d = d) ↔ ∃ r ∈ m, r.nm = k /\ r.d = d) (hasc : (m.map (·.nm)).Pairwise (· <= ·)) {k D : List UInt8} {nb : Nat} (hg : g nb = k) (hdat : dat fs' = dat fs0 ++ [(k, nb, D)]) {i : Nat} (hi : i <= m.length) (h1 : ∀ r ∈ m.take i, r.nm < k) (h2 : ∀ hi : i < m.length, ¬ m[i].nm < k) {v : AV} (hp : ps' = pcs'.map fun p => (g p.1, p.2)) : Rl g fs' pcs' (m.take i ++ ⟨k, v, D⟩ :: m.drop i) ps' := by
 refine ⟨fun f hf => ?_, fun k' d' => ?_, hp, ZoG hasc h1 h2 _ rfl⟩
 ·have hm := Zb9 hf
  rw [hdat] at hm
  rcases List.mem_append.1 hm with hm | hm
  ·obtain ⟨f1, hf1, e⟩ := Zc0 hm
   injection e with q1 e
   injection e with q2 _
   rw [q1, q2]
   exact hblk f1 hf1
  ·have e := List.mem_singleton.1 hm
   injection e with q1 e
   injection e with q2 _
   rw [q1, q2]
   exact hg
 ·constructor
  ·rintro ⟨f, hf, e1, e2⟩
   have hm := Zb9 hf
   rw [hdat] at hm
   rcases List.mem_append.1 hm with hm | hm
   ·obtain ⟨f1, hf1, e⟩ := Zc0 hm
    injection e with q1 e
    injection e with _ q3
    obtain ⟨r, hr, s1, s2⟩ := (hfiles k' d').1 ⟨f1, hf1, by rw [<- q1, e1], by rw [<- q3, e2]⟩
    exact ⟨r, ZjA.2 (.inl hr), s1, s2⟩
   ·have e := List.mem_singleton.1 hm
    injection e with q1 e
    injection e with _ q3
    exact ⟨_, ZjA.2 (.inr rfl), by rw [<- e1, q1], by rw [<- e2, q3]⟩
  ·rintro ⟨r, hr, e1, e2⟩
   rcases ZjA.1 hr with hr | rfl
   ·obtain ⟨f1, hf1, s1, s2⟩ := (hfiles k' d').2 ⟨r, hr, e1, e2⟩
    have hm : (f1.nm, f1.b, f1.d) ∈ dat fs' := by
     rw [hdat]
     exact List.mem_append_left _ (Zb9 hf1)
    obtain ⟨f', hf', e⟩ := Zc0 hm
    injection e with q1 e
    injection e with _ q3
    exact ⟨f', hf', by rw [<- q1, s1], by rw [<- q3, s2]⟩
   ·have hm : (k, nb, D) ∈ dat fs' := by
     rw [hdat]
     exact List.mem_append_right _ List.mem_cons_self
    obtain ⟨f', hf', e⟩ := Zc0 hm
    injection e with q1 e
    injection e with _ q3
    exact ⟨f', hf', by rw [<- q1]; exact e1, by rw [<- q3]; exact e2⟩
theorem ZqH {σ τ : St} {bb bb' mb mb' : Nat} {S S' : Nat -> Prop} {size size' : Int} {pv pv' : AV} {k d : List UInt8} (h : DAt σ bb S fs pcs size mb pv) (h' : DAt τ bb' S' fs' pcs' size' mb' pv') (R : Rl g fs pcs l ps) (B : Bth fs pcs l ps) (hA : ZoX fs pcs k d fs' pcs') (hR : ZpL l ps k d l' ps') : ∃ g', Rl g' fs' pcs' l' ps' := by
 obtain ⟨l1, i, v', d0, hM, ⟨hi1, hd0⟩, rfl, rfl⟩ := hR
 rcases Zeg h h' hA with ⟨nb, hno, hnb, hdat, rfl⟩ | ⟨f0, hf0, hnm, hdat, rfl⟩
 ·rcases hM with ⟨rfl, hi, hn⟩ | ⟨hno2, hi, hlt, hge, rfl⟩
  ·obtain ⟨f, hf, e⟩ := (R.nm k).2 ⟨_, List.getElem_mem hi, hn⟩
   exact absurd e (hno f hf)
  ·have hl : (l.take i).length = i := by rw [List.length_take]; omega
   have hd : d0 = [] := by
    rw [<- hd0, List.getElem_append_right (by omega)]
    simp [hl]
   subst hd
   rw [Zmp hi, List.nil_append]
   have hg' : ∀ b, b ≠ nb -> (fun b => if b = nb then k else g b) b = g b := fun b hb => if_neg hb
   refine ⟨fun b => if b = nb then k else g b, ZpS (fun f hf => ?_) R.files R.asc (if_pos rfl) hdat hi hlt hge ?_⟩
   ·rw [if_neg (hnb f hf)]
    exact R.blk f hf
   ·rw [List.map_append, R.pcs]
    congr 1
    ·refine List.map_congr_left fun p hp => ?_
     obtain ⟨f, hf, e⟩ := B.inn p hp
     rw [if_neg (by rw [<- e]; exact hnb f hf)]
    ·unfold ZkX
     split
     ·rfl
     ·simp
 ·rcases hM with ⟨rfl, hi, hn⟩ | ⟨hno2, hi, hlt, hge, rfl⟩
  ·have hd : d0 = f0.d := by rw [<- hd0, R.dat B hf0 (List.getElem_mem hi) (by rw [hnm, hn])]
   subst hd hnm
   refine ⟨g, ZpR R B hf0 ?_ hi hn ?_⟩
   ·rw [hdat]
    unfold ZmI
    refine List.map_congr_left fun q hq => ?_
    obtain ⟨f1, hf1, rfl⟩ := Zc0 hq
    by_cases hb : f1.b = f0.b
    ·rw [if_pos hb, if_pos hb, ZbK B.nb f1 hf1 f0 hf0 hb]
    ·rw [if_neg hb, if_neg hb]
   ·rw [List.map_append, <- R.pcs]
    congr 1
    unfold ZkX
    split
    ·rfl
    ·simp [R.blk f0 hf0]
  ·obtain ⟨r, hr, e⟩ := (R.nm k).1 ⟨f0, hf0, hnm⟩
   exact absurd e (hno2 r hr)
theorem ZqI (R : Rl g fs pcs l ps) (B : Bth fs pcs l ps) {f0 : Fl} (hf0 : f0 ∈ fs) {n : Nat} {v v' : AV} {j : Nat} (hj : j < l.length) (hn : l[j].nm = f0.nm) :
 Rl g (fs.map (Zci f0.b v (f0.d.take n))) ((shr f0.b (f0.d.length - n) pcs).filter fun p => !decide (p.2 = 0)) (l.set j ⟨f0.nm, v', l[j].d.take n⟩) ((Zmg f0.nm (l[j].d.length - n) ps).filter fun p => decide (0 < p.2)) := by
 have hd : l[j].d = f0.d := (R.dat B hf0 (List.getElem_mem hj) hn.symm).symm
 rw [hd]
 refine ZpR R B hf0 ?_ hj hn ?_
 ·unfold dat
  rw [List.map_map, List.map_map]
  refine List.map_congr_left fun f hf => ?_
  simp only [Function.comp]
  unfold Zci
  by_cases hb : f.b = f0.b
  ·rw [if_pos hb, if_pos hb]
  ·rw [if_neg hb, if_neg hb]
 ·rw [R.pcs, Zns (fb := f0.b) _ fun p hp => R.key B hp hf0]
  refine Zgc fun x _ => ?_
  by_cases hx : x.2 = 0
  ·simp [hx]
  ·simp [hx, Nat.pos_of_ne_zero hx]
theorem ZqJ (R : Rl g fs pcs l ps) (B : Bth fs pcs l ps) {f0 : Fl} (hf0 : f0 ∈ fs) {to : List UInt8} (hne : f0.nm ≠ to) {r : Rw} (hr : r ∈ l) (hrn : r.nm = f0.nm) {l1 : List Rw} {j : Nat} {v' : AV} (hM : ZhW (noN f0.nm (noN to l)) to l1 j) :
 ∃ g', Rl g' (rnF fs f0 to) (rnP fs pcs to) (l1.set j ⟨to, v', r.d⟩) (noP f0.nm (Zfu f0.nm to (noP to ps))) := by
 have hd : r.d = f0.d := (R.dat B hf0 hr hrn.symm).symm
 rw [hd]
 rcases hM with ⟨rfl, hi, hn⟩ | ⟨hno2, hi, hlt, hge, rfl⟩
 ·have := List.getElem_mem hi
  have h1 := (List.mem_filter.1 (List.mem_filter.1 this).1).2
  simp only [ne_eq, decide_not, Bool.not_eq_eq_eq_not, Bool.not_true, decide_eq_false_iff_not] at h1
  exact absurd hn h1
 ·rw [Zmp hi]
  have hf0' : f0 ∈ Zdt to fs := Zbx.2 ⟨hf0, hne⟩
  have hbne : ∀ f ∈ Zdt f0.nm (Zdt to fs), f.b ≠ f0.b := fun f hf e => by
   obtain ⟨h1, h2⟩ := Zbx.1 hf
   exact h2 (by rw [ZbK B.nb f (Zbx.1 h1).1 f0 hf0 e])
  have hg' : ∀ b, b ≠ f0.b -> (fun b => if b = f0.b then to else g b) b = g b := fun b hb => if_neg hb
  have hX : noP to ps = (rnP fs pcs to).map fun p => (g p.1, p.2) := by
   unfold rnP
   cases hg : Zfa (Zbc fs) to with
   | none =>
    show noP to ps = pcs.map _
    rw [<- R.pcs]
    refine List.filter_eq_self.2 fun p hp => ?_
    rw [R.pcs] at hp
    obtain ⟨q, hq, rfl⟩ := List.mem_map.1 hp
    obtain ⟨f, hf, e⟩ := B.inn q hq
    have := ZcA.1 hg f hf
    rw [<- R.blk f hf, e] at this
    simp [this]
   | some ob =>
    obtain ⟨f, hf, e, rfl⟩ := ZcE hg
    have := R.noP_ B hf
    rw [e] at this
    exact this
  have hsub : ∀ p ∈ rnP fs pcs to, p ∈ pcs := fun p hp => by
   unfold rnP at hp
   split at hp
   ·exact hp
   ·exact (List.mem_filter.1 hp).1
  have hkey : ∀ p ∈ rnP fs pcs to, g p.1 = f0.nm ↔ p.1 = f0.b := fun p hp => R.key B (hsub p hp) hf0
  have hps : noP f0.nm (Zfu f0.nm to (noP to ps)) = (rnP fs pcs to).map fun p => ((fun b => if b = f0.b then to else g b) p.1, p.2) := by
   have h1 : Zfu f0.nm to (noP to ps) = (rnP fs pcs to).map fun p => ((fun b => if b = f0.b then to else g b) p.1, p.2) := by
    rw [hX]
    unfold Zfu
    rw [List.map_map]
    refine List.map_congr_left fun p hp => ?_
    simp only [Function.comp]
    by_cases hb : p.1 = f0.b
    ·rw [if_pos ((hkey p hp).2 hb), if_pos hb]
    ·rw [if_neg (fun q => hb ((hkey p hp).1 q)), if_neg hb]
   rw [h1]
   refine List.filter_eq_self.2 fun p hp => ?_
   obtain ⟨q, hq, rfl⟩ := List.mem_map.1 hp
   by_cases hb : q.1 = f0.b
   ·simp [hb, Ne.symm hne]
   ·have : ¬ g q.1 = f0.nm := fun e => hb ((hkey q hq).1 e)
    simp [hb, this]
  refine ⟨fun b => if b = f0.b then to else g b, ZpS (fs0 := Zdt f0.nm (Zdt to fs)) (fun f hf => ?_) (fun k d => ?_) (Zmo R (List.filter_sublist.trans List.filter_sublist)) (nb := f0.b) (if_pos rfl) ?_ hi hlt hge hps⟩
  ·rw [if_neg (hbne f hf)]
   exact R.blk f (Zbx.1 (Zbx.1 hf).1).1
  ·constructor
   ·rintro ⟨f, hf, e1, e2⟩
    obtain ⟨h1, h2⟩ := Zbx.1 hf
    obtain ⟨h3, h4⟩ := Zbx.1 h1
    obtain ⟨q, hq, s1, s2⟩ := (R.files k d).1 ⟨f, h3, e1, e2⟩
    refine ⟨q, List.mem_filter.2 ⟨List.mem_filter.2 ⟨hq, ?_⟩, ?_⟩, s1, s2⟩
    ·rw [s1, <- e1]; simp [h4]
    ·rw [s1, <- e1]; simp [h2]
   ·rintro ⟨q, hq, e1, e2⟩
    obtain ⟨h1, h2⟩ := List.mem_filter.1 hq
    obtain ⟨h3, h4⟩ := List.mem_filter.1 h1
    simp only [ne_eq, decide_not, Bool.not_eq_eq_eq_not, Bool.not_true, decide_eq_false_iff_not] at h2 h4
    obtain ⟨f, hf, s1, s2⟩ := (R.files k d).2 ⟨q, h3, e1, e2⟩
    exact ⟨f, Zbx.2 ⟨Zbx.2 ⟨hf, by rw [s1, <- e1]; exact h4⟩, by rw [s1, <- e1]; exact h2⟩, s1, s2⟩
  ·unfold rnF dat
   rw [List.map_append]
   rfl
theorem Zej.inv {size : Int} {nm : List UInt8} {ns : List (List UInt8)} {n : Int} {pa : List (List UInt8)} {i a : Nat} (h : Zej size nm ns n pa l ps i l' ps' a) :
 (i < 2 -> (¬ (nm ≠ [] /\ nm.length <= 40) /\ l' = l /\ ps' = ps /\ a = 2) \/ ((nm ≠ [] /\ nm.length <= 40) /\ ¬ (size < 1 \/ ((pa.flatten.length + Zem l : Nat) : Int) <= size) /\ l' = l /\ ps' = ps /\ a = 8) \/ ((nm ≠ [] /\ nm.length <= 40) /\ (size < 1 \/ ((pa.flatten.length + Zem l : Nat) : Int) <= size) /\ ZpL l ps nm pa.flatten l' ps' /\ a = 0)) /\
 (i = 2 -> l' = l /\ ps' = (ZdW (l.map (·.nm)) ns ps).1 /\ a = (ZdW (l.map (·.nm)) ns ps).2) /\
 (i = 3 -> ((∀ r ∈ l, r.nm ≠ nm) /\ l' = l /\ ps' = ps /\ a = 6) \/ ((∃ r ∈ l, r.nm = nm /\ (n < 0 \/ (r.d.length : Int) < n)) /\ l' = l /\ ps' = ps /\ a = 2) \/ ∃ (j : Nat) (v' : AV) (hj : j < l.length), l[j].nm = nm /\ 0 <= n /\ n <= (l[j].d.length : Int) /\ l' = l.set j ⟨nm, v', l[j].d.take n.toNat⟩ /\ ps' = ((Zmg nm (l[j].d.length - n.toNat) ps).filter fun p => decide (0 < p.2)) /\ a = 0) /\
 (i = 4 -> ((∃ r ∈ l, r.nm = nm) /\ ¬ (Zbo nm ns ≠ [] /\ (Zbo nm ns).length <= 40) /\ l' = l /\ ps' = ps /\ a = 2) \/ ((∀ r ∈ l, r.nm ≠ nm) /\ l' = l /\ ps' = ps /\ a = 6) \/ ((∃ r ∈ l, r.nm = nm) /\ nm = Zbo nm ns /\ (Zbo nm ns ≠ [] /\ (Zbo nm ns).length <= 40) /\ l' = l /\ ps' = ps /\ a = 0) \/ ∃ r l1 j v', r ∈ l /\ r.nm = nm /\ nm ≠ Zbo nm ns /\ (Zbo nm ns ≠ [] /\ (Zbo nm ns).length <= 40) /\ ZhW (noN nm (noN (Zbo nm ns) l)) (Zbo nm ns) l1 j /\ l' = l1.set j ⟨Zbo nm ns, v', r.d⟩ /\ ps' = noP nm (Zfu nm (Zbo nm ns) (noP (Zbo nm ns) ps)) /\ a = 0) /\
 (i = 5 -> l' = (Zei ns l ps).1 /\ ps' = (Zei ns l ps).2.1 /\ a = (Zei ns l ps).2.2) /\
 (i = 6 -> ZdO l' = ZdK ((ZdJ ps : Int) - max n 0).toNat (ZdO l) ps.reverse /\ ps' = [] /\ a = 0) /\
 (7 <= i -> l' = l /\ ps' = ps /\ a = 0) := by
 cases h with
 | bad h1 h2 => exact ⟨fun _ => .inl ⟨h2, rfl, rfl, rfl⟩, fun q => by omega, fun q => by omega, fun q => by omega, fun q => by omega, fun q => by omega, fun q => by omega⟩
 | full h1 h2 h3 => exact ⟨fun _ => .inr (.inl ⟨h2, h3, rfl, rfl, rfl⟩), fun q => by omega, fun q => by omega, fun q => by omega, fun q => by omega, fun q => by omega, fun q => by omega⟩
 | app h1 h2 h3 h4 => exact ⟨fun _ => .inr (.inr ⟨h2, h3, h4, rfl⟩), fun q => by omega, fun q => by omega, fun q => by omega, fun q => by omega, fun q => by omega, fun q => by omega⟩
 | sync => exact ⟨fun q => by omega, fun _ => ⟨rfl, rfl, rfl⟩, fun q => by omega, fun q => by omega, fun q => by omega, fun q => by omega, fun q => by omega⟩
 | cut6 h1 => exact ⟨fun q => by omega, fun q => by omega, fun _ => .inl ⟨h1, rfl, rfl, rfl⟩, fun q => by omega, fun q => by omega, fun q => by omega, fun q => by omega⟩
 | cut2 h1 h2 h3 => exact ⟨fun q => by omega, fun q => by omega, fun _ => .inr (.inl ⟨⟨_, h1, h2, h3⟩, rfl, rfl, rfl⟩), fun q => by omega, fun q => by omega, fun q => by omega, fun q => by omega⟩
 | cut hj h1 h2 h3 => exact ⟨fun q => by omega, fun q => by omega, fun _ => .inr (.inr ⟨_, _, hj, h1, h2, h3, rfl, rfl, rfl⟩), fun q => by omega, fun q => by omega, fun q => by omega, fun q => by omega⟩
 | ren2 h1 h2 => exact ⟨fun q => by omega, fun q => by omega, fun q => by omega, fun _ => .inl ⟨h1, h2, rfl, rfl, rfl⟩, fun q => by omega, fun q => by omega, fun q => by omega⟩
 | ren6 h1 => exact ⟨fun q => by omega, fun q => by omega, fun q => by omega, fun _ => .inr (.inl ⟨h1, rfl, rfl, rfl⟩), fun q => by omega, fun q => by omega, fun q => by omega⟩
 | rens h1 h2 h3 => exact ⟨fun q => by omega, fun q => by omega, fun q => by omega, fun _ => .inr (.inr (.inl ⟨h1, h2, h3, rfl, rfl, rfl⟩)), fun q => by omega, fun q => by omega, fun q => by omega⟩
 | ren h1 h2 h3 h4 h5 => exact ⟨fun q => by omega, fun q => by omega, fun q => by omega, fun _ => .inr (.inr (.inr ⟨_, _, _, _, h1, h2, h3, h4, h5, rfl, rfl, rfl⟩)), fun q => by omega, fun q => by omega, fun q => by omega⟩
 | rem => exact ⟨fun q => by omega, fun q => by omega, fun q => by omega, fun q => by omega, fun _ => ⟨rfl, rfl, rfl⟩, fun q => by omega, fun q => by omega⟩
 | crash h1 => exact ⟨fun q => by omega, fun q => by omega, fun q => by omega, fun q => by omega, fun q => by omega, fun _ => ⟨h1, rfl, rfl⟩, fun q => by omega⟩
 | none h1 => exact ⟨fun q => by omega, fun q => by omega, fun q => by omega, fun q => by omega, fun q => by omega, fun q => by omega, fun _ => ⟨rfl, rfl, rfl⟩⟩
theorem ZqK {σ τ : St} {bb bb' mb mb' : Nat} {S S' : Nat -> Prop} {size size' : Int} {pv pv' : AV} {nm : List UInt8} {ns : List (List UInt8)} {n : Int} {pa : List (List UInt8)} {i a a' : Nat} (h : DAt σ bb S fs pcs size mb pv) (h' : DAt τ bb' S' fs' pcs' size' mb' pv') (R : Rl g fs pcs l ps) (B : Bth fs pcs l ps)
 (hA : ZgZ size nm ns n pa.flatten fs pcs i fs' pcs' a) (hR : Zej size nm ns n pa l ps i l' ps' a') : a = a' /\ ∃ g', Rl g' fs' pcs' l' ps' := by
 have hsum := R.sum B
 obtain ⟨i0, i2, i3, i4, i5, i6, i7⟩ := hR.inv
 have hex := R.nm nm
 cases hA with
 | bad h1 h2 =>
  rcases i0 h1 with ⟨_, rfl, rfl, rfl⟩ | ⟨q, _⟩ | ⟨q, _⟩
  ·exact ⟨rfl, g, R⟩
  ·exact absurd q h2
  ·exact absurd q h2
 | full h1 h2 h3 =>
  rcases i0 h1 with ⟨q, _⟩ | ⟨_, _, rfl, rfl, rfl⟩ | ⟨_, q, _⟩
  ·exact absurd h2 q
  ·exact ⟨rfl, g, R⟩
  ·rw [hsum] at q
   exact absurd q h3
 | app h1 h2 h3 h4 =>
  rcases i0 h1 with ⟨q, _⟩ | ⟨_, q, _⟩ | ⟨_, _, q, rfl⟩
  ·exact absurd h2 q
  ·rw [hsum] at q
   exact absurd h3 q
  ·exact ⟨rfl, ZqH h h' R B h4 q⟩
 | sync =>
  obtain ⟨rfl, rfl, rfl⟩ := i2 rfl
  have := ZnT (ks := l'.map (·.nm)) R.blk B.nb B.nn R.mem ns pcs B.inn
  rw [<- R.pcs] at this
  rw [this]
  exact ⟨rfl, g, R.blk, R.files, rfl, R.asc⟩
 | cut6 h1 =>
  rcases i3 rfl with ⟨_, rfl, rfl, rfl⟩ | ⟨⟨r, hr, e, _⟩, _⟩ | ⟨j, v', hj, e, _⟩
  ·exact ⟨rfl, g, R⟩
  ·obtain ⟨f, hf, e2⟩ := hex.2 ⟨r, hr, e⟩
   exact absurd e2 (h1 f hf)
  ·obtain ⟨f, hf, e2⟩ := hex.2 ⟨_, List.getElem_mem hj, e⟩
   exact absurd e2 (h1 f hf)
 | cut2 h1 h2 h3 =>
  rcases i3 rfl with ⟨q, _⟩ | ⟨_, rfl, rfl, rfl⟩ | ⟨j, v', hj, e, q1, q2, _⟩
  ·obtain ⟨r, hr, e2⟩ := hex.1 ⟨_, h1, h2⟩
   exact absurd e2 (q r hr)
  ·exact ⟨rfl, g, R⟩
  ·rw [<- R.dat B h1 (List.getElem_mem hj) (by rw [h2, e])] at q2
   exact h3.elim (fun q => absurd q1 (Int.not_le.2 q)) fun q => absurd q2 (Int.not_le.2 q)
 | cut h1 h2 h3 h4 =>
  rename_i f0 v0
  rcases i3 rfl with ⟨q, _⟩ | ⟨⟨r, hr, e, q⟩, _⟩ | ⟨j, v', hj, e, q1, q2, rfl, rfl, rfl⟩
  ·obtain ⟨r, hr, e2⟩ := hex.1 ⟨_, h1, h2⟩
   exact absurd e2 (q r hr)
  ·rw [<- R.dat B h1 hr (by rw [h2, e])] at q
   exact q.elim (fun q => absurd h3 (Int.not_le.2 q)) fun q => absurd h4 (Int.not_le.2 q)
  ·subst h2
   exact ⟨rfl, g, ZqI R B h1 hj e⟩
 | ren2 h1 h2 =>
  rcases i4 rfl with ⟨_, _, rfl, rfl, rfl⟩ | ⟨q, _⟩ | ⟨_, _, q, _⟩ | ⟨_, _, _, _, _, _, _, q, _⟩
  ·exact ⟨rfl, g, R⟩
  ·obtain ⟨r, hr, e2⟩ := hex.1 h1
   exact absurd e2 (q r hr)
  ·exact absurd q h2
  ·exact absurd q h2
 | ren6 h1 =>
  rcases i4 rfl with ⟨q, _⟩ | ⟨_, rfl, rfl, rfl⟩ | ⟨q, _⟩ | ⟨r, _, _, _, hr, e, _⟩
  ·obtain ⟨f, hf, e2⟩ := hex.2 q
   exact absurd e2 (h1 f hf)
  ·exact ⟨rfl, g, R⟩
  ·obtain ⟨f, hf, e2⟩ := hex.2 q
   exact absurd e2 (h1 f hf)
  ·obtain ⟨f, hf, e2⟩ := hex.2 ⟨r, hr, e⟩
   exact absurd e2 (h1 f hf)
 | rens h1 h2 h3 h4 =>
  rcases i4 rfl with ⟨_, q, _⟩ | ⟨q, _⟩ | ⟨_, _, _, rfl, rfl, rfl⟩ | ⟨r, _, _, _, hr, e, q, _⟩
  ·exact absurd h4 q
  ·obtain ⟨r, hr, e2⟩ := hex.1 ⟨_, h1, h2⟩
   exact absurd e2 (q r hr)
  ·exact ⟨rfl, g, R⟩
  ·exact absurd h3 q
 | ren h1 h2 h3 h4 =>
  rename_i f0
  rcases i4 rfl with ⟨_, q, _⟩ | ⟨q, _⟩ | ⟨_, q, _⟩ | ⟨r, l1, j, v', hr, e, _, _, hM, rfl, rfl, rfl⟩
  ·exact absurd h4 q
  ·obtain ⟨r, hr, e2⟩ := hex.1 ⟨_, h1, h2⟩
   exact absurd e2 (q r hr)
  ·exact absurd q h3
  ·subst h2
   exact ⟨rfl, ZqJ R B h1 h3 hr e hM⟩
 | rem =>
  obtain ⟨rfl, rfl, rfl⟩ := i5 rfl
  obtain ⟨q1, q2⟩ := ZpP ns R B
  exact ⟨q1.symm, g, q2⟩
 | crash h1 =>
  obtain ⟨q, rfl, rfl⟩ := i6 rfl
  rw [R.psum] at q
  exact ⟨rfl, g, ZoF R B h1 q⟩
 | none h1 =>
  obtain ⟨rfl, rfl, rfl⟩ := i7 h1
  exact ⟨rfl, g, R⟩
end
end Go.Proofs.Ytinpiaibhjmfaaa
namespace Go.Proofs.Ytinpiaibhjmfaaa
open Go.RowKit
set_option maxRecDepth 100000
set_option linter.unusedVariables false
set_option linter.unusedSimpArgs false
theorem Zh0 {α β : Type} {f : α -> β} : ∀ {l : List α}, l.Nodup -> (∀ x ∈ l, ∀ y ∈ l, f x = f y -> x = y) -> (l.map f).Nodup
 | [], _, _ => .nil
 | a :: l, h, hi => by
  rw [List.nodup_cons] at h
  rw [List.map_cons, List.nodup_cons]
  refine ⟨fun ha => ?_, Zh0 h.2 fun x hx y hy => hi x (List.mem_cons_of_mem _ hx) y (List.mem_cons_of_mem _ hy)⟩
  obtain ⟨x, hx, e⟩ := List.mem_map.1 ha
  have := hi x (List.mem_cons_of_mem _ hx) a List.mem_cons_self e
  subst this
  exact h.1 hx
theorem ZiW {α β : Type} {f : α -> β} : ∀ {l : List α}, (l.map f).Nodup -> ∀ x ∈ l, ∀ y ∈ l, f x = f y -> x = y
 | a :: l, hn, x, hx, y, hy, e => by
  rw [List.map_cons, List.nodup_cons] at hn
  rcases List.mem_cons.1 hx with e1 | h1 <;> rcases List.mem_cons.1 hy with e2 | h2
  ·rw [e1, e2]
  ·exact absurd (List.mem_map.2 ⟨y, h2, by rw [<- e, e1]⟩) hn.1
  ·exact absurd (List.mem_map.2 ⟨x, h1, by rw [e, e2]⟩) hn.1
  ·exact ZiW hn.2 x h1 y h2 e
structure RL (arr : Array MapEntry) (c m ib : Nat) (l : List Rw) (υ : St) (done : List Rw) (seen : Array Nat) (D : List MapEntry) : Prop where
 nn : (l.map (·.nm)).Nodup
 at_ : Zhl arr c (ZoY (ZkZ l))
 came : Zng arr seen D
 what : (D.map fun e : MapEntry => (e.key, e.val)) = done.map fun r => (sV r.nm, r.v.val)
 each : ∀ r ∈ done, r ∈ l
 iter : υ.blk ib = some (.map (Zh5 m c seen c))
 held : υ.blk m = some (.map (Zfd arr c))
section
variable {arr : Array MapEntry} {c m ib : Nat} {l : List Rw} {υ τ : St} {done : List Rw} {seen : Array Nat} {D : List MapEntry}
theorem ZgP (l : List Rw) : ZoY (ZkZ l) = l.map fun r => (sV r.nm, r.v.val) := by
 unfold ZoY ZkZ
 rw [List.map_map]
 rfl
theorem RL.but {U : Nat -> Prop} (h : RL arr c m ib l υ done seen D) (k : But U υ τ) (h1 : ¬ U ib) (h2 : ¬ U m) : RL arr c m ib l τ done seen D := ⟨h.nn, h.at_, h.came, h.what, h.each, k.keep _ _ h1 h.iter, k.keep _ _ h2 h.held⟩
theorem RL.ext (h : RL arr c m ib l υ done seen D) (k : Ext υ τ) : RL arr c m ib l τ done seen D := h.but (U := fun _ => False) k.but id id
theorem RL.keys (h : RL arr c m ib l υ done seen D) : (arr.toList.map (·.key)).Nodup := by
 have e1 : arr.toList.map (·.key) = (l.map (·.nm)).map sV := by
  have : arr.toList.map (·.key) = (arr.toList.map fun e : MapEntry => (e.key, e.val)).map (·.1) := by rw [List.map_map]; rfl
  rw [this, h.at_.1, ZgP, List.map_map, List.map_map]
  rfl
 rw [e1]
 exact Zh0 h.nn fun x _ y _ e => Zj6 e
theorem RL.row (h : RL arr c m ib l υ done seen D) {e : MapEntry} (he : e ∈ arr.toList) : ∃ r ∈ l, e.key = sV r.nm /\ e.val = r.v.val := by
 have : (e.key, e.val) ∈ ZoY (ZkZ l) := by
  rw [<- h.at_.1]
  exact List.mem_map.2 ⟨e, he, rfl⟩
 rw [ZgP] at this
 obtain ⟨r, hr, q⟩ := List.mem_map.1 this
 injection q with q1 q2
 exact ⟨r, hr, q1.symm, q2.symm⟩
theorem RL.nodup (h : RL arr c m ib l υ done seen D) : (done.map (·.nm)).Nodup := by
 have h1 : (D.map (·.key)).Nodup := Zh0 (Zb8 h.came.nd) fun x hx y hy e => Zjt h.keys (h.came.sub x hx) (h.came.sub y hy) e
 have e1 : D.map (·.key) = (done.map (·.nm)).map sV := by
  have : D.map (·.key) = (D.map fun e : MapEntry => (e.key, e.val)).map (·.1) := by rw [List.map_map]; rfl
  rw [this, h.what, List.map_map, List.map_map]
  rfl
 rw [e1] at h1
 exact Zb8 h1
theorem RL.perm (h : RL arr c m ib l υ done seen D) (h0 : (leftOf arr seen).size = 0) : done.Perm l := by
 have hp := (h.came.perm h.at_.2.2 h0).map fun e : MapEntry => (e.key, e.val)
 rw [h.what, h.at_.1, ZgP] at hp
 refine (List.perm_ext_iff_of_nodup (Zb8 h.nodup) (Zb8 h.nn)).2 fun r => ⟨h.each r, fun hr => ?_⟩
 obtain ⟨q, hq, e⟩ := List.mem_map.1 (hp.mem_iff.2 (List.mem_map.2 ⟨r, hr, rfl⟩))
 injection e with e _
 rw [<- ZiW h.nn q (h.each q hq) r hr (Zj6 e)]
 exact hq
theorem RL.push (h : RL arr c m ib l υ done seen D) {e : MapEntry} (he : e ∈ (leftOf arr seen).toList) {r : Rw} (hr : r ∈ l) (hk : e.key = sV r.nm) (hv : e.val = r.v.val) (hi : τ.blk ib = some (.map (Zh5 m c (seen.push e.born) c))) (k : But (fun x => x = ib) υ τ) (hne : m ≠ ib) : RL arr c m ib l τ (done ++ [r]) (seen.push e.born) (D ++ [e]) := by
 refine ⟨h.nn, h.at_, h.came.push he, ?_, fun x hx => ?_, hi, k.keep _ _ hne h.held⟩
 ·rw [List.map_append, h.what, List.map_append]
  show _ ++ [(e.key, e.val)] = _ ++ [(sV r.nm, r.v.val)]
  rw [hk, hv]
 ·rcases List.mem_append.1 hx with hx | hx
  ·exact h.each x hx
  ·rw [List.mem_singleton.1 hx]; exact hr
end
section
variable {σ τ : St} {bb bb2 mb mb2 : Nat} {S S2 : Nat -> Prop} {fs fs2 : List Fl} {pcs pcs2 : List (Nat × Nat)} {size : Int} {pv pv2 : AV} {done : List (Fl × Fl)} {M B : Nat}
theorem ZgY.inv (I : Inv σ bb mb size S fs pcs pv M B) (h2 : DAt τ bb2 S2 fs2 pcs2 size mb2 pv2) (c : ZgY fs pcs fs2 pcs2 done) (hu : ∀ x, S2 x -> τ.used x) : Inv τ bb2 mb2 size S2 fs2 pcs2 pv2 M B := by
 obtain ⟨w1, w2, w3, w4, w5⟩ := c.wf I.disk h2 I.wf
 have hs : sumD fs2 = sumD fs := by
  rw [<- Zl9 c.one, c.two]
  unfold sumD
  rw [List.map_map, List.map_map]
  congr 1
  exact List.map_congr_left fun q hq => by
   show q.2.d.length = q.1.d.length
   rw [(c.same q hq).2]
 exact ⟨h2, hu, w1, fun f hf => by
  obtain ⟨g, hg, e1, _⟩ := w5 f hf
  rw [e1]; exact I.nms g hg, by rw [hs]; exact I.sum, by rw [w3]; exact I.few, by rw [w4]; exact I.nfs, fun q => by rw [hs]; exact I.cap q⟩
theorem Inv.but {U : Nat -> Prop} (I : Inv σ bb mb size S fs pcs pv M B) (k : But U σ τ) (hU : ∀ c, S c -> ¬ U c) : Inv τ bb mb size S fs pcs pv M B := ⟨I.disk.but k hU, fun c hc => k.used _ (I.used c hc), I.wf, I.nms, I.sum, I.few, I.nfs, I.cap⟩
end
theorem Zh1 {N : Nat} {ρ : Nat -> AV} : ∀ {ns : List (List UInt8)} {cs : List AV}, SVs CT N ρ (ns.flatMap (CT.enc 2)) cs -> cs = ZeZ ns
 | [], cs, h => by
  rw [List.flatMap_nil, Zdh] at h
  rw [h]
  rfl
 | n :: ns, cs, h => by
  rw [List.flatMap_cons] at h
  have h : SVs CT N ρ (XV.str n :: ns.flatMap (CT.enc 2)) cs := h
  obtain ⟨a0, as_, rfl, h0, h1⟩ := h.to
  rw [Zbj.1 h0, Zh1 h1]
  rfl
theorem Zfv {σ : St} {ns : List (List UInt8)} {a : AV} (h : SV CT 0 ZdC (.sl 2 ns none) a) : Zc6 σ a ns /\ (∀ c, hbk a = some c -> False) /\ a.one = true /\ Zbi a = true := by
 obtain ⟨A, c, cs, rest, rfl, l1, l2, l3, l4, l5⟩ := Zd2.1 h
 rw [Zh1 l5]
 exact ⟨.inl ⟨A, c, rest, rfl, fun q => (l4 q).1⟩, (fun c hc => by cases hc), rfl, rfl⟩
theorem Zfw {N : Nat} {ρ : Nat -> AV} : ∀ {l : List ZbG} {cs : List AV}, SVs CT N ρ (l.flatMap (CT.enc 6)) cs -> ∀ (i : Nat) (h : i < l.length), ∃ vN vP, (cs.drop (i * 5)).take 5 = Zb2 l[i].kind l[i].name vN l[i].n vP /\ (i + 1) * 5 <= cs.length /\ SV CT N ρ (.sl 2 l[i].names none) vN /\ SV CT N ρ (.sl 3 l[i].parts none) vP
 | f :: l, cs, hs, i, hi => by
  rw [List.flatMap_cons] at hs
  have hs : SVs CT N ρ (XV.int .i64 f.kind :: XV.str f.name :: XV.sl 2 f.names none :: XV.int .i64 f.n :: XV.sl 3 f.parts none :: l.flatMap (CT.enc 6)) cs := hs
  obtain ⟨a0, c0, rfl, h0, hs⟩ := hs.to
  obtain ⟨a1, c1, rfl, h1, hs⟩ := hs.to
  obtain ⟨a2, c2, rfl, h2, hs⟩ := hs.to
  obtain ⟨a3, c3, rfl, h3, hs⟩ := hs.to
  obtain ⟨a4, c4, rfl, h4, hs⟩ := hs.to
  cases i with
  | zero =>
   refine ⟨a2, a4, ?_, by simp only [List.length_cons]; omega, h2, h4⟩
   rw [ZaM.1 h0, Zbj.1 h1, ZaM.1 h3]
   rfl
  | succ i =>
   obtain ⟨vN, vP, q1, q2, q3, q4⟩ := Zfw (l := l) hs i (by simpa using hi)
   refine ⟨vN, vP, ?_, by simp only [List.length_cons]; omega, q3, q4⟩
   rw [show (i + 1) * 5 = i * 5 + 5 by omega]
   exact q1
end Go.Proofs.Ytinpiaibhjmfaaa
namespace Go.Proofs.Ytinpiaibhjmfaaa
open Go.RowKit
set_option maxRecDepth 100000
set_option linter.unusedVariables false
set_option linter.unusedSimpArgs false
structure Prs (σ : St) (size : Int) (M B bb mb rb : Nat) (S T : Nat -> Prop) (fs : List Fl) (pcs : List (Nat × Nat)) (pv : AV) (l : List Rw) (ps : PL) (fv pr : AV) (g : Nat -> List UInt8) : Prop where
 d : Inv σ bb mb size S fs pcs pv M B
 m : RAt σ rb T l ps size fv pr
 r : Rl g fs pcs l ps
 sep : ∀ c, S c -> ¬ T c
def Two (σ : St) (size : Int) (M B bb rb : Nat) (S T : Nat -> Prop) : Prop := ∃ mb fs pcs pv l ps fv pr g, Prs σ size M B bb mb rb S T fs pcs pv l ps fv pr g
section
variable {σ τ : St} {size : Int} {M B bb mb rb : Nat} {S T : Nat -> Prop} {fs : List Fl} {pcs : List (Nat × Nat)} {pv : AV} {l : List Rw} {ps : PL} {fv pr : AV} {g : Nat -> List UInt8} {K : AV -> St -> Prop}
theorem ZnU (h : DAt σ bb S fs pcs size mb pv) (m : RAt τ rb T l ps size fv pr) : Bth fs pcs l ps := ⟨h.nd, h.nn, h.inn, m.nn⟩
theorem Prs.b (h : Prs σ size M B bb mb rb S T fs pcs pv l ps fv pr g) : Bth fs pcs l ps := ZnU h.d.disk h.m
theorem Prs.len (h : Prs σ size M B bb mb rb S T fs pcs pv l ps fv pr g) : l.length <= M := by rw [h.r.len h.b]; exact h.d.nfs
theorem Prs.plen (h : Prs σ size M B bb mb rb S T fs pcs pv l ps fv pr g) : ps.length <= M := by rw [h.r.plen]; exact h.d.few
theorem Prs.fl (h : Prs σ size M B bb mb rb S T fs pcs pv l ps fv pr g) (hB : B <= 100000000) : ∀ r ∈ l, r.d.length <= 1000000000 := fun r hr => by
 obtain ⟨f, hf, _, e⟩ := (h.r.files r.nm r.d).2 ⟨r, hr, rfl, rfl⟩
 rw [<- e]
 exact h.d.file (by omega) f hf
theorem Prs.psm (h : Prs σ size M B bb mb rb S T fs pcs pv l ps fv pr g) (hB : B <= 100000000) : ZdJ ps <= 1000000000 := by
 rw [h.r.psum]
 have := h.d.pcs_ (by omega)
 omega
theorem Two.but {U : Nat -> Prop} (h : Two σ size M B bb rb S T) (k : But U σ τ) (hU : ∀ c, S c \/ T c -> ¬ U c) : Two τ size M B bb rb S T := by
 obtain ⟨mb, fs, pcs, pv, l, ps, fv, pr, g, h⟩ := h
 exact ⟨mb, fs, pcs, pv, l, ps, fv, pr, g, h.d.but k fun c hc => hU c (.inl hc), h.m.but k fun c hc => hU c (.inr hc), h.r, h.sep⟩
theorem Two.ext (h : Two σ size M B bb rb S T) (k : Ext σ τ) : Two τ size M B bb rb S T := h.but (U := fun _ => False) k.but fun _ _ => id
theorem Two.used (h : Two σ size M B bb rb S T) : ∀ c, S c \/ T c -> σ.used c := fun c hc => by
 obtain ⟨mb, fs, pcs, pv, l, ps, fv, pr, g, h⟩ := h
 rcases hc with hc | hc
 ·exact h.d.used c hc
 ·exact h.m.su c hc
theorem Two.sep (h : Two σ size M B bb rb S T) : ∀ c, S c -> ¬ T c := by
 obtain ⟨mb, fs, pcs, pv, l, ps, fv, pr, g, h⟩ := h
 exact h.sep
theorem Two.more (h : Two σ size M B bb rb S T) {M' B' : Nat} (h1 : M <= M') (h2 : B <= B') : Two σ size M' B' bb rb S T := by
 obtain ⟨mb, fs, pcs, pv, l, ps, fv, pr, g, h⟩ := h
 exact ⟨mb, fs, pcs, pv, l, ps, fv, pr, g, h.d.more h1 h2, h.m, h.r, h.sep⟩
set_option maxHeartbeats 1000000 in
theorem Zgd (h : Two σ size M B bb rb S T) (hM : M <= 10000000) (hB : B <= 100000000) (hK : ∀ τ, Ext σ τ -> K (vT true) τ) : Zat Try.prog 24 [ptr bb 0, ptr rb 0] σ K := by
 obtain ⟨mb, fs, pcs, pv, l, ps, fv, pr, g, h⟩ := h
 have hll := h.len
 have hpl := h.plen
 have hfl := h.fl hB
 have hsl := h.psm hB
 have hpp := h.d.pcs_ (by omega)
 have hfw := h.d.few
 have hnf := h.d.nfs
 have hff := h.d.file (by omega)
 have hnames := h.r.names h.b
 have hlen : (srt (fs.map (·.nm))).length = l.length := by rw [hnames, List.length_map]
 refine Zam Zas Try.func24 rfl rfl rfl (Nat.le_of_ble_eq_true rfl) ?_
 refine ZaK 0 1 (v0 := ptr bb 0) (v1 := ptr rb 0) rfl rfl ?_
 intro e he
 repeat refine Zac ?_
 first|refine Zaa ?_|refine Zad ?_
 refine Zab (Zae rfl (by simp only [EV,Nat.reduceEqDiff,↓reduceIte,he];try rfl) ?_)
 refine Zaf ?_
 apply ZaK 0 1
 iterate 2 ·simp only [EV,Nat.reduceEqDiff,↓reduceIte,he];try rfl
 clear he e
 intro e he
 repeat refine Zac ?_
 first|refine Zaa ?_|refine Zad ?_
 refine Zab (Zae rfl he.1 ?_)
 refine Zab ?_
 refine Zao (vs := [ptr bb 0]) (by simp only [List.map_cons, List.map_nil, EV,Nat.reduceEqDiff,↓reduceIte,he];try rfl) ?_
 refine Znj h.d.disk (fun f hf => by have := h.d.nms f hf; omega) (by omega) fun u υ1 hu hX1 hn1 => ?_
 rw [hlen, hnames] at hu
 refine Zab (Zae rfl (by simp only [EV,Nat.reduceEqDiff,↓reduceIte,he];try rfl) ?_)
 refine Zaf ?_
 apply ZaL 0 1 5
 iterate 3 ·simp only [EV,Nat.reduceEqDiff,↓reduceIte,he];try rfl
 clear he e
 intro e he
 first | refine Zac ?_ | skip
 refine ZaZ (fun env τ => (env 0 = ptr bb 0 /\ env 1 = ptr rb 0 /\ env 5 = u /\ env 28 = vT false) /\ Ext σ τ /\ Hd τ 9 1 u l.length (ZeZ (l.map (·.nm)))) ?_ ?_
 ·refine Zad ?_
  refine Zab (Zae rfl he.2.2 ?_)
  refine Zab (Zae rfl he.2.1 ?_)
  refine Zab ?_
  refine Zao (vs := [ptr rb 0]) (by simp only [List.map_cons, List.map_nil, EV,Nat.reduceEqDiff,↓reduceIte,he];try rfl) ?_
  refine Zme (h.m.ext hX1) (by omega) fun u2 υ2 hu2 hX2 hn2 => ?_
  have hua := hu.ext hX2
  refine Zab ?_
  refine Zao (vs := [u, u2]) (by simp only [List.map_cons, List.map_nil, EV,Nat.reduceEqDiff,↓reduceIte,he];try rfl) ?_
  refine Zm9 (d1 := l.map (·.nm)) (d2 := l.map (·.nm)) (by rw [List.length_map]; exact .of hua) (by rw [List.length_map]; exact .of hu2) (by rw [List.length_map]; omega) (by rw [List.length_map]; omega) _ fun υ3 hX3 => ?_
  rw [decide_eq_true rfl]
  have hX : Ext σ υ3 := (hX1.trans hX2).trans hX3
  refine Zab ?_
  with_reducible apply ZbB
  case hx => simp only [EV,Nat.reduceEqDiff,↓reduceIte,he];try rfl
  refine Zab (Zae rfl (by simp only [EV,Nat.reduceEqDiff,↓reduceIte,he];try rfl) ?_)
  refine Zab (Zah (ZaN rfl (by simp only [EV,Nat.reduceEqDiff,↓reduceIte,he];try rfl)) ?_)
  refine Zae rfl he.1 ?_
  refine Zab (Zah (ZaN rfl (by simp only [EV,Nat.reduceEqDiff,↓reduceIte,he];try rfl)) ?_)
  refine Zao (vs := [ptr bb 0]) (by simp only [List.map_cons, List.map_nil, EV,Nat.reduceEqDiff,↓reduceIte,he];try rfl) ?_
  refine ZjZ (h.d.ext hX).disk (by omega) (by omega) fun υ4 hX4 => ?_
  refine Zab (Zah (ZaN rfl (by simp only [EV,Nat.reduceEqDiff,↓reduceIte,he];try rfl)) ?_)
  refine Zae rfl he.2.1 ?_
  refine Zab (Zah (ZaN rfl (by simp only [EV,Nat.reduceEqDiff,↓reduceIte,he];try rfl)) ?_)
  refine Zao (vs := [ptr rb 0]) (by simp only [List.map_cons, List.map_nil, EV,Nat.reduceEqDiff,↓reduceIte,he];try rfl) ?_
  refine ZiS (h.m.ext (hX.trans hX4)) (by omega) (by omega) ?_
  refine Zab (Zah (ZaN rfl (by simp only [EV,Nat.reduceEqDiff,↓reduceIte,he];try rfl)) ?_)
  refine Zgu (k := .i64) (a := (Zcy pcs : Int)) (b := (ZdJ ps : Int)) rfl rfl ?_
  rw [decide_eq_false (by rw [h.r.psum]; simp)]
  refine Zab ?_
  refine Za2 (v := vT false) rfl rfl ?_
  refine Zaf ?_
  exact ⟨rfl, ⟨by simp only [EV,Nat.reduceEqDiff,↓reduceIte,he];try rfl, by simp only [EV,Nat.reduceEqDiff,↓reduceIte,he];try rfl, by simp only [EV,Nat.reduceEqDiff,↓reduceIte,he];try rfl, by simp only [EV,Nat.reduceEqDiff,↓reduceIte,he];try rfl⟩, hX.trans hX4, (hua.ext hX3).ext hX4⟩
 clear he e hX1 hn1 hu
 rintro e υ1 ⟨he, hX1, hu⟩
 refine Zav (t := false) he.2.2.2 (fun hf => by cases hf) (fun _ => ?_)
 refine Zaz ?_
 repeat refine Zac ?_
 first|refine Zaa ?_|refine Zad ?_
 refine Zab (Zae rfl (by simp only [EV,Nat.reduceEqDiff,↓reduceIte,he];try rfl) ?_)
 refine Zaf ?_
 apply ZaP 0 1 5 6
 iterate 4 ·simp only [EV,Nat.reduceEqDiff,↓reduceIte,he];try rfl
 clear he e
 intro e he
 refine ZaD ?_
 refine ZaV (fun μ env υ => ∃ i : Nat, μ = l.length - i /\ i <= l.length /\ (env 0 = ptr bb 0 /\ env 1 = ptr rb 0 /\ env 5 = u /\ env 6 = vI i) /\ Ext σ υ /\ Hd υ 9 1 u l.length (ZeZ (l.map (·.nm)))) ⟨_, 0, rfl, Nat.zero_le _, he, hX1, hu⟩ ?_
 clear he e hX1 hu
 rintro _ e υ ⟨i, rfl, hi, he, hX, hu⟩
 repeat refine Zac ?_
 first|refine Zaa ?_|refine Zad ?_
 refine Zab (Zae rfl he.2.2.2 ?_)
 refine Zab (Zae rfl he.2.2.1 ?_)
 refine Zab ?_
 refine ZbS rfl hu rfl ZaE ?_
 refine Zab ?_
 refine Zbs i l.length rfl rfl ?_
 refine Zaf ?_
 apply Zb6 0 1 5 6 32
 iterate 5 ·simp only [EV,Nat.reduceEqDiff,↓reduceIte,he];try rfl
 clear he e
 intro e he
 refine Zav (t := decide (i < l.length)) he.2.2.2.2 (fun ht => ?_) (fun ht => ?_)
 ·have hlt : i < l.length := of_decide_eq_true ht
  have hmem : l[i] ∈ l := List.getElem_mem hlt
  have hgi : (ZeZ (l.map (·.nm)))[i]? = some (.raw (sV l[i].nm)) := by
   rw [ZeV (by rw [List.length_map]; exact hlt), List.getElem_map]
  refine Zaz ?_
  refine ZaD ?_
  repeat refine Zac ?_
  first|refine Zaa ?_|refine Zad ?_
  refine Zab (Zae rfl he.1 ?_)
  refine Zab (Zae rfl he.2.2.1 ?_)
  refine Zab (Zae rfl he.2.2.2.1 ?_)
  refine Zjn (.of hu) hlt hgi rfl rfl ZaE Zb3 Ze8 fun q1 => ?_
  refine Zab ?_
  refine Zao (vs := [ptr bb 0, .raw (sV l[i].nm)]) (by simp only [List.map_cons, List.map_nil, EV,Nat.reduceEqDiff,↓reduceIte,he];try rfl) ?_
  refine ZhF (h.d.ext hX).disk hff (fun hno => ?_) fun f0 hf0 hfn υ2 a ha hX2 hna => ?_
  ·obtain ⟨f, hf, q, _⟩ := (h.r.files l[i].nm l[i].d).2 ⟨_, hmem, rfl, rfl⟩
   exact absurd q (hno f hf)
  have hd := h.r.dat h.b hf0 hmem hfn
  rw [hd] at ha
  refine Zab (Zae rfl (by simp only [EV,Nat.reduceEqDiff,↓reduceIte,he];try rfl) ?_)
  refine Zab ?_
  refine Za8 (l := [a, vT true]) rfl rfl ?_
  refine Zab ?_
  refine Za8 (l := [a, vT true]) rfl rfl ?_
  refine Zab (Zae rfl (by simp only [EV,Nat.reduceEqDiff,↓reduceIte,he];try rfl) ?_)
  refine Zab (Zae rfl (by simp only [EV,Nat.reduceEqDiff,↓reduceIte,he];try rfl) ?_)
  refine Zaf ?_
  apply ZdN 0 1 5 6 7 8
  iterate 6 ·simp only [EV,Nat.reduceEqDiff,↓reduceIte,he];try rfl
  clear he e
  intro e he
  repeat refine Zac ?_
  first|refine Zaa ?_|refine Zad ?_
  refine Zab (Zae rfl he.2.1 ?_)
  refine Zab (Zae rfl he.2.2.1 ?_)
  refine Zab (Zae rfl he.2.2.2.1 ?_)
  refine Zjn (.of (hu.ext hX2)) hlt hgi rfl rfl ZaE Zb3 Ze8 fun q1 => ?_
  refine Zab ?_
  refine Zao (vs := [ptr rb 0, .raw (sV l[i].nm)]) (by simp only [List.map_cons, List.map_nil, EV,Nat.reduceEqDiff,↓reduceIte,he];try rfl) ?_
  refine ZhU ((h.m.ext hX).ext hX2) (by omega) hfl (fun hno => absurd rfl (hno _ hmem)) fun r hr hrn b υ3 hb hX3 hnb => ?_
  have hrl : r = l[i] := ZbK h.m.nn r hr _ hmem hrn
  rw [hrl] at hb
  refine Zab (Zae rfl (by simp only [EV,Nat.reduceEqDiff,↓reduceIte,he];try rfl) ?_)
  refine Zab ?_
  refine Za8 (l := [b, vT true]) rfl rfl ?_
  refine Zab ?_
  refine Za8 (l := [b, vT true]) rfl rfl ?_
  refine Zab (Zae rfl (by simp only [EV,Nat.reduceEqDiff,↓reduceIte,he];try rfl) ?_)
  refine Zab (Zae rfl (by simp only [EV,Nat.reduceEqDiff,↓reduceIte,he];try rfl) ?_)
  refine Zaf ?_
  apply Zkz 0 1 5 6 7 8 9
  iterate 7 ·simp only [EV,Nat.reduceEqDiff,↓reduceIte,he];try rfl
  clear he e
  intro e he
  have hlen := hfl _ hmem
  repeat refine Zac ?_
  first|refine Zaa ?_|refine Zad ?_
  refine Zab (Zae rfl he.2.2.2.2.2.1 ?_)
  refine Zab ?_
  with_reducible apply ZbB
  case hx => simp only [EV,Nat.reduceEqDiff,↓reduceIte,he];try rfl
  refine Zab (Zae rfl (by simp only [EV,Nat.reduceEqDiff,↓reduceIte,he];try rfl) ?_)
  refine Zab (Zah (ZaN rfl (by simp only [EV,Nat.reduceEqDiff,↓reduceIte,he];try rfl)) ?_)
  refine Zae rfl he.2.2.2.2.1 ?_
  refine Zab (Zah (ZaN rfl (by simp only [EV,Nat.reduceEqDiff,↓reduceIte,he];try rfl)) ?_)
  refine Zae rfl he.2.2.2.2.2.2 ?_
  refine Zab (Zah (ZaN rfl (by simp only [EV,Nat.reduceEqDiff,↓reduceIte,he];try rfl)) ?_)
  refine Zao (vs := [a, b]) (by simp only [List.map_cons, List.map_nil, EV,Nat.reduceEqDiff,↓reduceIte,he];try rfl) ?_
  refine ZjW (d1 := l[i].d) (d2 := l[i].d) (.inl (ha.ext hX3)) (.inl hb) hlen hlen _ fun υ4 hX4 => ?_
  rw [decide_eq_true rfl]
  refine Zab (Zah (ZaN rfl (by simp only [EV,Nat.reduceEqDiff,↓reduceIte,he];try rfl)) ?_)
  refine ZbB (b := true) rfl ?_
  refine Zab ?_
  refine Za2 (v := vT false) rfl rfl ?_
  refine Zaf ?_
  apply Zb6 0 1 5 6 60
  iterate 5 ·simp only [EV,Nat.reduceEqDiff,↓reduceIte,he];try rfl
  clear he e
  intro e he
  refine ZaS (t := false) he.2.2.2.2 (fun hf => by cases hf) (fun _ => ?_)
  refine Zbq ?_
  show Zay _ _ _ _ _ _
  refine Zad ?_
  refine Zab (Zae rfl he.2.2.2.1 ?_)
  refine Zab ?_
  refine ZaU i 1 rfl rfl (by omega) ?_
  refine Zab (Zae rfl (by simp only [EV,Nat.reduceEqDiff,↓reduceIte,he];try rfl) ?_)
  refine Zaf ?_
  show ∃ n', n' < _ /\ _
  exact ⟨_, (by omega : l.length - (i + 1) < l.length - i), i + 1, rfl, hlt, ⟨by simp only [EV,Nat.reduceEqDiff,↓reduceIte,he];try rfl, by simp only [EV,Nat.reduceEqDiff,↓reduceIte,he];try rfl, by simp only [EV,Nat.reduceEqDiff,↓reduceIte,he];try rfl, by simp only [EV,Nat.reduceEqDiff,↓reduceIte,he];try rfl⟩, ((hX.trans hX2).trans hX3).trans hX4, ((hu.ext hX2).ext hX3).ext hX4⟩
 ·refine Zbe ?_
  show Zay _ _ _ _ _ _
  first | refine Zac ?_ | skip
  refine ZaZ (fun env τ => (env 1 = ptr rb 0 /\ env 12 = vT (decide (∃ r ∈ l, r.nm = [40, 110, 111, 110, 101, 41]))) /\ Ext σ τ) ?_ ?_
  ·refine Zad ?_
   refine Zab (Zae rfl he.1 ?_)
   refine Zab ?_
   refine Zao (vs := [ptr bb 0, .raw (sV [40, 110, 111, 110, 101, 41])]) (by simp only [List.map_cons, List.map_nil, EV,Nat.reduceEqDiff,↓reduceIte,he];try rfl) ?_
   refine ZhF (k := [40, 110, 111, 110, 101, 41]) (h.d.ext hX).disk hff (fun hno => ?_) fun f0 hf0 hfn υ2 a ha hX2 hna => ?_
   ·rw [decide_eq_false (fun q => by
     obtain ⟨f, hf, e⟩ := (h.r.nm _).2 q
     exact hno f hf e)]
    refine Zab (Zae rfl (by simp only [EV,Nat.reduceEqDiff,↓reduceIte,he];try rfl) ?_)
    refine Zab ?_
    refine Za8 (l := [.lst none 0 0 [], vT false]) rfl rfl ?_
    refine Zab ?_
    refine Za8 (l := [.lst none 0 0 [], vT false]) rfl rfl ?_
    refine Zab (Zae rfl (by simp only [EV,Nat.reduceEqDiff,↓reduceIte,he];try rfl) ?_)
    refine Zab (Zae rfl (by simp only [EV,Nat.reduceEqDiff,↓reduceIte,he];try rfl) ?_)
    refine Zaf ?_
    exact ⟨rfl, ⟨by simp only [EV,Nat.reduceEqDiff,↓reduceIte,he];try rfl, by simp only [EV,Nat.reduceEqDiff,↓reduceIte,he];try rfl⟩, hX⟩
   ·rw [decide_eq_true ((h.r.nm _).1 ⟨f0, hf0, hfn⟩)]
    refine Zab (Zae rfl (by simp only [EV,Nat.reduceEqDiff,↓reduceIte,he];try rfl) ?_)
    refine Zab ?_
    refine Za8 (l := [a, vT true]) rfl rfl ?_
    refine Zab ?_
    refine Za8 (l := [a, vT true]) rfl rfl ?_
    refine Zab (Zae rfl (by simp only [EV,Nat.reduceEqDiff,↓reduceIte,he];try rfl) ?_)
    refine Zab (Zae rfl (by simp only [EV,Nat.reduceEqDiff,↓reduceIte,he];try rfl) ?_)
    refine Zaf ?_
    exact ⟨rfl, ⟨by simp only [EV,Nat.reduceEqDiff,↓reduceIte,he];try rfl, by simp only [EV,Nat.reduceEqDiff,↓reduceIte,he];try rfl⟩, hX.trans hX2⟩
  clear he e hX hu
  rintro e υ ⟨he, hX⟩
  first | refine Zac ?_ | skip
  refine ZaZ (fun env τ => (env 12 = vT (decide (∃ r ∈ l, r.nm = [40, 110, 111, 110, 101, 41])) /\ env 14 = vT (decide (∃ r ∈ l, r.nm = [40, 110, 111, 110, 101, 41]))) /\ Ext σ τ) ?_ ?_
  ·refine Zad ?_
   refine Zab (Zae rfl he.1 ?_)
   refine Zab ?_
   refine Zao (vs := [ptr rb 0, .raw (sV [40, 110, 111, 110, 101, 41])]) (by simp only [List.map_cons, List.map_nil, EV,Nat.reduceEqDiff,↓reduceIte,he];try rfl) ?_
   refine ZhU (k := [40, 110, 111, 110, 101, 41]) (h.m.ext hX) (by omega) hfl (fun hno => ?_) fun r hr hrn a υ2 ha hX2 hna => ?_
   ·rw [decide_eq_false (fun ⟨r, hr, q⟩ => hno r hr q)] at he ⊢
    refine Zab (Zae rfl (by simp only [EV,Nat.reduceEqDiff,↓reduceIte,he];try rfl) ?_)
    refine Zab ?_
    refine Za8 (l := [.lst none 0 0 [], vT false]) rfl rfl ?_
    refine Zab ?_
    refine Za8 (l := [.lst none 0 0 [], vT false]) rfl rfl ?_
    refine Zab (Zae rfl (by simp only [EV,Nat.reduceEqDiff,↓reduceIte,he];try rfl) ?_)
    refine Zab (Zae rfl (by simp only [EV,Nat.reduceEqDiff,↓reduceIte,he];try rfl) ?_)
    refine Zaf ?_
    exact ⟨rfl, ⟨by simp only [EV,Nat.reduceEqDiff,↓reduceIte,he];try rfl, by simp only [EV,Nat.reduceEqDiff,↓reduceIte,he];try rfl⟩, hX⟩
   ·rw [decide_eq_true ⟨r, hr, hrn⟩] at he ⊢
    refine Zab (Zae rfl (by simp only [EV,Nat.reduceEqDiff,↓reduceIte,he];try rfl) ?_)
    refine Zab ?_
    refine Za8 (l := [a, vT true]) rfl rfl ?_
    refine Zab ?_
    refine Za8 (l := [a, vT true]) rfl rfl ?_
    refine Zab (Zae rfl (by simp only [EV,Nat.reduceEqDiff,↓reduceIte,he];try rfl) ?_)
    refine Zab (Zae rfl (by simp only [EV,Nat.reduceEqDiff,↓reduceIte,he];try rfl) ?_)
    refine Zaf ?_
    exact ⟨rfl, ⟨by simp only [EV,Nat.reduceEqDiff,↓reduceIte,he];try rfl, by simp only [EV,Nat.reduceEqDiff,↓reduceIte,he];try rfl⟩, hX.trans hX2⟩
  clear he e hX
  rintro e υ ⟨he, hX⟩
  repeat refine Zac ?_
  first|refine Zaa ?_|refine Zad ?_
  refine Zab (Zae rfl he.1 ?_)
  refine Zab (Zae rfl he.2 ?_)
  refine Zab ?_
  refine Zo9 ZqG rfl rfl ?_
  rw [decide_eq_true rfl]
  refine Zab (Zae rfl (by simp only [EV,Nat.reduceEqDiff,↓reduceIte,he];try rfl) ?_)
  refine Zaf ?_
  refine Zax ?_
  show ∃ r, Zaj _ _ _ _ r /\ _
  exact ⟨_, Zal rfl rfl, hK _ hX⟩
end
end Go.Proofs.Ytinpiaibhjmfaaa
