/- XXa, XXs, XXt, XXu, XXv, XXm in one. -/
import Derived.Test.YteempnebenjkmaaGreatDoorMa
import Derived.Laws.AppendOwn
import Derived.Laws.MakeOwn
import Derived.Lib.AppendZerosOnto
namespace Go.Proofs.YteempnebenjkmaaGreatDoor
open Go.RowKit
set_option linter.unusedSimpArgs false
set_option maxRecDepth 100000
set_option linter.unusedVariables false
section
variable {P : Program} {w : World} {σ : St} {Z : Nat -> Prop}
theorem Zaj.write (hH : Zaj w σ Z) {b : Nat} {e : TypeId} {cs cs' : List AV} (hb : σ.blk b = some (.own e cs)) (hv : ∀ c ∈ cs', Zae w (σ.free Z) c) :
 Zaj (w.setRow b (cs'.map AV.val).toArray) (σ.set b (.own e cs')) Z /\ Grow w σ (w.setRow b (cs'.map AV.val).toArray) (σ.set b (.own e cs')) := by
 obtain ⟨hu, hh, hvs⟩ := hH.own _ _ _ hb
 have hg : Grow w σ (w.setRow b (cs'.map AV.val).toArray) (σ.set b (.own e cs')) := by
  refine ⟨rfl, rfl, rfl, by simp [World.setRow], fun _ _ h => h, fun b' hb' hn' => ?_, fun b' t' k s hb' ht' => ?_, fun _ h => h⟩
  ·have hne : b' ≠ b := by rintro rfl; rw [hb] at hn'; cases hn'
   exact ⟨setRow_other _ _ _ _ hne, by show (if b' = b then _ else σ.blk b') = _; rw [if_neg hne]; exact hn'⟩
  ·have hne : b' ≠ b := by rintro rfl; rw [hb] at ht'; cases ht'
   refine ⟨fun j v _ hv => ?_, .inr ⟨t', k, s, ?_, Nat.le_refl _⟩⟩
   ·rw [World.cell?_of_block (w := w) (setRow_other _ _ _ _ hne)]; exact hv
   ·show (if b' = b then _ else σ.blk b') = _
    rw [if_neg hne]; exact ht'
 refine ⟨⟨fun b' hu' => ?_, fun b' hz => ?_, fun b' t' cs2 hb' => ?_, fun b' t' k s hb' => ?_, fun b' es hb' => ?_⟩, hg⟩
 ·have := hH.used _ hu'; simpa [World.setRow] using this
 ·obtain ⟨z1, z2⟩ := hH.z _ hz
  have hne : b' ≠ b := by rintro rfl; rw [hb] at z2; cases z2
  refine ⟨by simpa [World.setRow] using z1, ?_⟩
  show (if b' = b then _ else σ.blk b') = _
  rw [if_neg hne]; exact z2
 ·change (if b' = b then some (Bk.own e cs') else σ.blk b') = _ at hb'
  split at hb'
  ·rename_i hbb
   injection hb' with hb'
   injection hb' with e1 e2
   subst e1 e2 hbb
   exact ⟨hu, setRow_heap _ _ _ _ _ _ hh, fun c hc => hg.valid (hv c hc)⟩
  ·rename_i hne
   obtain ⟨g1, g2, g3⟩ := hH.own _ _ _ hb'
   exact ⟨g1, (setRow_other _ _ _ _ hne).trans g2, fun c hc => hg.valid (g3 c hc)⟩
 ·change (if b' = b then some (Bk.own e cs') else σ.blk b') = _ at hb'
  split at hb'
  ·injection hb' with hb'; cases hb'
  ·rename_i hne
   obtain ⟨g1, cs2, g2, g3⟩ := hH.tail _ _ _ _ hb'
   exact ⟨g1, cs2, (setRow_other _ _ _ _ hne).trans g2, g3⟩
 ·change (if b' = b then some (Bk.own e cs') else σ.blk b') = _ at hb'
  split at hb'
  ·injection hb' with hb'; cases hb'
  ·rename_i hne
   obtain ⟨g1, a', c', g2, g3⟩ := hH.map _ _ hb'
   exact ⟨g1, a', c', (setRow_other _ _ _ _ hne).trans g2, g3⟩
theorem Zlk {b : Nat} {k : Bk} (hb : σ.blk b = some k) : σ.set b k = σ := St.ext' (fun c => by
 show (if c = b then some k else σ.blk c) = _
 split
 ·rename_i e; rw [e, hb]
 ·rfl) (fun _ => Iff.rfl)
theorem Zh5 (cs : List AV) (o : Nat) : ZaC cs o [] = cs := by simp [ZaC]
theorem Zaj.storeAt (hH : Zaj w σ Z) {b off : Nat} {e : TypeId} {cs news : List AV} (hb : σ.blk b = some (.own e cs)) (hfit : off + news.length <= cs.length) (h1 : ∀ a ∈ news, a.one = true) (hv : ∀ a ∈ news, Zae w (σ.free Z) a) :
 (storeCells ⟨b, off, none⟩ (news.map AV.val)).run P w = .ok () (w.setRow b ((ZaC cs off news).map AV.val).toArray) /\
 Zaj (w.setRow b ((ZaC cs off news).map AV.val).toArray) (σ.set b (.own e (ZaC cs off news))) Z /\ Grow w σ (w.setRow b ((ZaC cs off news).map AV.val).toArray) (σ.set b (.own e (ZaC cs off news))) := by
 obtain ⟨hu, hh, hvs⟩ := hH.own _ _ _ hb
 have hst := run_storeCells_at P b off e (news.map AV.val) 0 (cs.map AV.val).toArray w hh (by simp; omega) (fun v hv => by
  simp only [List.mem_map] at hv
  obtain ⟨c, hc, rfl⟩ := hv
  exact AV.one_val (h1 c hc))
 have harr : ((cs.map AV.val).toArray.toList.take (off + 0) ++ news.map AV.val ++ (cs.map AV.val).toArray.toList.drop (off + 0 + (news.map AV.val).length)).toArray = ((ZaC cs off news).map AV.val).toArray := by
  simp [ZaC]
 rw [harr] at hst
 refine ⟨hst, hH.write hb fun c hc => ?_⟩
 unfold ZaC at hc
 simp only [List.mem_append] at hc
 rcases hc with (hc | hc) | hc
 ·exact hvs c (List.mem_of_mem_take hc)
 ·exact hv c hc
 ·exact hvs c (List.mem_of_mem_drop hc)
structure Src (σ : St) (sz : Nat) (y : AV) (m : Nat) (news : List AV) : Prop where
 len : news.length = m * sz
 one : ∀ a ∈ news, a.one = true
 at_ : ∃ A c, y.val = .slice A m c /\ (A = none -> m = 0)
 rd : ∀ w Z, Zaj w σ Z -> Zae w (σ.free Z) y -> (∀ a ∈ news, Zae w (σ.free Z) a) /\ ∀ ad c, y.val = .slice (some ad) m c -> ∀ j u, (news.map AV.val)[j]? = some u -> w.cell? (ad.add j) = some u
theorem Zjl {e sz : Nat} (hs : Zax P e = some sz) : ∃ i, P.info? e = some i /\ i.size = sz := by
 unfold Zax at hs
 cases hi : P.info? e with
 | none => rw [hi] at hs; cases hs
 | some i => rw [hi] at hs; exact ⟨i, rfl, by simpa using hs⟩
theorem ZbA {size n len cap : Nat} (h : n = 0) (A : Option Addr) : (Builtin.firstCells size n (.slice A len cap)).run P w = .ok #[] w := by
 subst h
 cases A <;> simp [Builtin.firstCells, loadCells, loadCellsFrom]
theorem ZgS {b lo n c m sz : Nat} {e t ty : TypeId} {cs news : List AV} {y : AV} {ad : Addr} (hH : Zaj w σ Z) (hV : Zae w (σ.free Z) y) (ht : Zaq P t = some e) (hs : Zax P e = some sz) (hsz : 0 < sz) (hb : σ.blk b = some (.own e cs))
 (hcap : (lo + c) * sz <= cs.length) (had : 0 < c -> ad = ⟨b, lo * sz, none⟩) (src : Src σ sz y m news) (hroom : n + m <= c) :
 ∃ w', (Builtin.append_ #[t, t] ty #[.slice (some ad) n c, y.val]).run P w = .ok (.slice (some ad) (n + m) c) w' /\ Zaj w' (σ.set b (.own e (ZaC cs ((lo + n) * sz) news))) Z /\ Grow w σ w' (σ.set b (.own e (ZaC cs ((lo + n) * sz) news))) := by
 have hty := ZaJ ht
 obtain ⟨i, hi, hsi⟩ := Zjl hs
 subst hsi
 obtain ⟨A, c', hy, hA⟩ := src.at_
 obtain ⟨hnv, hrd⟩ := src.rd w Z hH hV
 by_cases hm : m = 0
 ·subst hm
  have hn : news = [] := List.eq_nil_of_length_eq_zero (by simpa using src.len)
  subst hn
  rw [Zh5, Zlk hb]
  refine ⟨w, ?_, hH, Grow.refl _ _⟩
  rw [hy]
  have hf := ZbA (P := P) (w := w) (size := i.size) (n := 0) (len := 0) (cap := c') rfl A
  simp [Builtin.append_, run_underlying hty, sizeOf, typeInfo, hi, Builtin.lenOf, hf, (show n <= c by omega), storeCells]
 ·cases A with
  | none => exact absurd (hA rfl) hm
  | some a =>
   have had := had (by omega)
   subst had
   have hlen := src.len
   have hmul : (lo + n + m) * i.size <= (lo + c) * i.size := Nat.mul_le_mul_right _ (by omega)
   rw [Nat.add_mul] at hmul
   obtain ⟨g1, g2, g3⟩ := hH.storeAt (P := P) (off := (lo + n) * i.size) hb (by omega) src.one hnv
   refine ⟨_, ?_, g2, g3⟩
   rw [hy]
   have hf := run_firstCells_some (P := P) w i.size m a m c' (news.map AV.val) (by simpa using hlen) (hrd a c' hy)
   rw [Nat.add_mul] at g1
   have hst : (storeCells ((⟨b, lo * i.size, none⟩ : Addr).add (n * i.size)) (news.map AV.val)).run P w = .ok () (w.setRow b ((ZaC cs ((lo + n) * i.size) news).map AV.val).toArray) := by
    rw [Zbs, Nat.add_mul]; exact g1
   simp only [Builtin.append_, run_underlying hty, sizeOf, typeInfo, hi, Builtin.lenOf, hroom, hf, hst, Sem.run_bind, Sem.run_pure, Result.andThen_ok]
   simp [run_underlying hty, hi, hroom, hf, hst]
theorem Zaj.made (hH : Zaj w σ Z) (t : TypeId) (cs : List AV) (hv : ∀ c ∈ cs, Zae w (σ.free Z) c) :
 ¬ σ.used w.heap.size /\ σ.blk w.heap.size = none /\ Zaj (w.drew.alloc (.cells (cs.map AV.val).toArray t)) (σ.put w.heap.size (.own t cs)) Z /\ Grow w σ (w.drew.alloc (.cells (cs.map AV.val).toArray t)) (σ.put w.heap.size (.own t cs)) := by
 have hH2 := hH.drew_
 have hgd := Grow.drew_ w σ
 obtain ⟨f1, f2⟩ := hH.fresh
 exact ⟨f1, f2, hH2.alloc_own t cs (fun c hc => hgd.valid (hv c hc)), hgd.trans (Grow.alloc hH2 _ _)⟩
theorem Zce (zv : Value) (n : Nat) (hz : 0 < zv.cells.size) : ((List.replicate n ((List.range zv.cells.size).map fun i => AV.ofV (zv.cells[i % zv.cells.size]!))).flatten).map AV.val = (Builtin.zeroCells zv.cells n).toList := by
 apply List.ext_getElem?
 intro j
 induction n generalizing j with
 | zero => simp [Builtin.zeroCells]
 | succ n ih =>
  rw [List.replicate_succ, List.flatten_cons, List.map_append]
  by_cases hj : j < zv.cells.size
  ·rw [List.getElem?_append_left (by simpa using hj)]
   have hlt : j < (n + 1) * zv.cells.size := by rw [Nat.succ_mul]; omega
   simp [Builtin.zeroCells, hj, hlt]
  ·rw [List.getElem?_append_right (by simp; omega)]
   rw [ih]
   simp only [List.length_map, List.length_range, Builtin.zeroCells, Array.toList_map, Array.toList_range, List.getElem?_map]
   by_cases hj2 : j < (n + 1) * zv.cells.size
   ·have h2 := hj2
    rw [Nat.succ_mul] at h2
    rw [List.getElem?_range (by omega), List.getElem?_range hj2]
    simp only [Option.map_some, Option.some.injEq]
    congr 1
    exact (Nat.mod_eq_sub_mod (by omega)).symm
   ·have h2 := hj2
    rw [Nat.succ_mul] at h2
    rw [List.getElem?_eq_none (by simp; omega), List.getElem?_eq_none (by simp; omega)]
theorem Zkc {n c m sz bytes : Nat} {e t ty : TypeId} {z : Value} {olds news : List AV} {x y : AV} (hH : Zaj w σ Z) (hVx : Zae w (σ.free Z) x) (hV : Zae w (σ.free Z) y) (ht : Zaq P t = some e) (hs : Zax P e = some sz) (hz : ZaR P e = some z) (hby : Zcd P e = some bytes) (hzs : z.cells.size = sz) (hsz : 0 < sz)
 (srcx : Src σ sz x n olds) {A : Option Addr} (hx : x.val = .slice A n c) (hA0 : A = none -> c = 0) (src : Src σ sz y m news) (hg : c < n + m) (hnc : n <= c) (h63 : n + m <= maxLen) (hb : (n + m) * bytes <= 140737488355328) :
 ∃ cap w' rest, rest = ((List.replicate (cap - (n + m)) ((List.range z.cells.size).map fun i => AV.ofV (z.cells[i % z.cells.size]!))).flatten) /\ (Builtin.append_ #[t, t] ty #[x.val, y.val]).run P w = .ok (.slice (some ⟨w.heap.size, 0, none⟩) (n + m) cap) w' /\ n + m <= cap /\ cap <= maxLen /\ (olds ++ news ++ rest).length = cap * sz /\
  ¬ σ.used w.heap.size /\ σ.blk w.heap.size = none /\ Zaj w' (σ.put w.heap.size (.own e (olds ++ news ++ rest))) Z /\ Grow w σ w' (σ.put w.heap.size (.own e (olds ++ news ++ rest))) := by
 have hty := ZaJ ht
 obtain ⟨i, hi, hsi⟩ := Zjl hs
 have hzi : i.zero = some z := by unfold ZaR at hz; rw [hi] at hz; simpa using hz
 have hbi : i.bytes = bytes := by unfold Zcd at hby; rw [hi] at hby; simpa using hby
 subst hsi hbi
 obtain ⟨A', c', hy, hA⟩ := src.at_
 obtain ⟨hnv, hrd⟩ := src.rd w Z hH hV
 obtain ⟨hov, hro⟩ := srcx.rd w Z hH hVx
 have hm : m ≠ 0 := by omega
 have h63' : n + m <= 9223372036854775807 := by simp only [maxLen] at h63; omega
 cases A' with
 | none => exact absurd (hA rfl) hm
 | some a =>
 have hlen := src.len
 have hlo := srcx.len
 have key : ∀ old, old < n + m -> ∃ cap w' rest, rest = ((List.replicate (cap - (n + m)) ((List.range z.cells.size).map fun i => AV.ofV (z.cells[i % z.cells.size]!))).flatten) /\ w' = (w.drew.alloc (.cells ((olds.map AV.val).toArray ++ (news.map AV.val).toArray ++ Builtin.zeroCells z.cells (grownCap w (n + m) old e - (n + m))) e)) /\ cap = grownCap w (n + m) old e /\ n + m <= cap /\ cap <= maxLen /\ (olds ++ news ++ rest).length = cap * i.size /\
  ¬ σ.used w.heap.size /\ σ.blk w.heap.size = none /\ Zaj w' (σ.put w.heap.size (.own e (olds ++ news ++ rest))) Z /\ Grow w σ w' (σ.put w.heap.size (.own e (olds ++ news ++ rest))) := by
  intro old ho
  have hge := grownCap_ge w (n + m) old e
  have hcm := grownCap_le_maxLen w (n + m) old e h63
  generalize grownCap w (n + m) old e = cap at *
  have harr : (olds.map AV.val).toArray ++ (news.map AV.val).toArray ++ Builtin.zeroCells z.cells (cap - (n + m)) = ((olds ++ news ++ ((List.replicate (cap - (n + m)) ((List.range z.cells.size).map fun i => AV.ofV (z.cells[i % z.cells.size]!))).flatten)).map AV.val).toArray := by
   apply Array.ext'
   have hzv := Zce z (cap - (n + m)) (by omega)
   simp only [Array.toList_append, List.map_append, hzv]
  rw [harr]
  obtain ⟨f1, f2, f3, f4⟩ := hH.made e (olds ++ news ++ ((List.replicate (cap - (n + m)) ((List.range z.cells.size).map fun i => AV.ofV (z.cells[i % z.cells.size]!))).flatten)) (fun q hq => by
   rcases List.mem_append.1 hq with hq | hq
   ·rcases List.mem_append.1 hq with hq | hq
    ·exact hov q hq
    ·exact hnv q hq
   ·obtain ⟨l, hl, hal⟩ := List.mem_flatten.1 hq
    have hl := (List.mem_replicate.1 hl).2
    subst hl
    obtain ⟨j, _, rfl⟩ := List.mem_map.1 hal
    exact Zcq _)
  refine ⟨cap, _, _, rfl, rfl, rfl, hge, hcm, ?_, f1, f2, f3, f4⟩
  have hzl : ((List.replicate (cap - (n + m)) ((List.range z.cells.size).map fun i => AV.ofV (z.cells[i % z.cells.size]!))).flatten).length = (cap - (n + m)) * z.cells.size := by
   have hq := congrArg List.length (Zce z (cap - (n + m)) (by omega))
   rw [List.length_map] at hq
   rw [hq]
   simp [size_zeroCells]
  rw [List.length_append, List.length_append, hzl, hzs, hlen, hlo]
  rw [<- Nat.add_mul, <- Nat.add_mul]
  congr 1
  omega
 cases A with
 | none =>
  have hc0 := hA0 rfl
  subst hc0
  have hn0 : n = 0 := by omega
  subst hn0
  have ho0 : olds = [] := List.eq_nil_of_length_eq_zero (by simpa using hlo)
  subst ho0
  obtain ⟨cap, w', rest, e0, e1, e2, r⟩ := key 0 (by omega)
  refine ⟨cap, w', rest, e0, ?_, r⟩
  have hr := run_append_nil (P := P) w t ty e i z hty hi hzi a m c' (news.map AV.val) (by simpa using hlen) (hrd a c' hy) (by omega) (by omega) (by have hb := hb; simp only [Nat.zero_add] at hb; omega)
  rw [hx, hy, hr, e1, e2]
  simp
 | some ao =>
  obtain ⟨cap, w', rest, e0, e1, e2, r⟩ := key c hg
  refine ⟨cap, w', rest, e0, ?_, r⟩
  have hr := run_append_grow (P := P) w t ty e i z hty hi hzi ao n c (olds.map AV.val) (by simpa using hlo) (hro ao c hx) a m c' (news.map AV.val) (by simpa using hlen) (hrd a c' hy) hg (by omega) (growslice_fits (by omega) hb)
  rw [hx, hy, hr, e1, e2]
theorem Znl {n c m sz bytes : Nat} {e t tn ty : TypeId} {z : Value} {olds : List AV} {x : AV} {kq kn : IntKind} (hH : Zaj w σ Z) (hVx : Zae w (σ.free Z) x) (ht : Zaq P t = some e) (htn : P.underlying tn = some (.int kn)) (hs : Zax P e = some sz) (hz : ZaR P e = some z) (hby : Zcd P e = some bytes) (hzs : z.cells.size = sz) (hsz : 0 < sz)
 (srcx : Src σ sz x n olds) {ad : Addr} (hx : x.val = .slice (some ad) n c) (hg : c < n + m) (hnc : n <= c) (h63 : n + m <= maxLen) (hb : (n + m) * bytes <= 140737488355328) :
 ∃ cap w' rest, rest = (List.replicate (m + (cap - (n + m))) ((List.range z.cells.size).map fun i => AV.ofV (z.cells[i % z.cells.size]!))).flatten /\ (Builtin.append_ #[t, tn] ty #[x.val, .int kq m]).run P w = .ok (.slice (some ⟨w.heap.size, 0, none⟩) (n + m) cap) w' /\ n + m <= cap /\ cap <= maxLen /\ (olds ++ rest).length = cap * sz /\
  ¬ σ.used w.heap.size /\ σ.blk w.heap.size = none /\ Zaj w' (σ.put w.heap.size (.own e (olds ++ rest))) Z /\ Grow w σ w' (σ.put w.heap.size (.own e (olds ++ rest))) := by
 have hty := ZaJ ht
 obtain ⟨i, hi, hsi⟩ := Zjl hs
 have hzi : i.zero = some z := by unfold ZaR at hz; rw [hi] at hz; simpa using hz
 have hbi : i.bytes = bytes := by unfold Zcd at hby; rw [hi] at hby; simpa using hby
 subst hsi hbi
 obtain ⟨hov, hro⟩ := srcx.rd w Z hH hVx
 have h63' : n + m <= 9223372036854775807 := by simp only [maxLen] at h63; omega
 have hlo := srcx.len
 have hge := grownCap_ge w (n + m) c e
 have hcm := grownCap_le_maxLen w (n + m) c e h63
 have hold : (Builtin.firstCells i.size n (.slice (some ad) n c)).run P w.drew = .ok (olds.map AV.val).toArray w.drew := run_firstCells_some (P := P) w.drew i.size n ad n c (olds.map AV.val) (by simpa using hlo) (by simpa using hro ad c hx)
 have hmb : m * i.bytes <= (n + m) * i.bytes := Nat.mul_le_mul_right _ (by omega)
 have hr := Go.Lib.run_append_grow_zeros (P := P) w t tn ty e i z kq kn hty htn hi hzi (some ad) n c (olds.map AV.val) hold m (by omega) hsz hg (by omega) (by omega) (growslice_fits (by omega) hb)
 generalize grownCap w (n + m) c e = cap at *
 have hzz : 0 < z.cells.size := by omega
 have harr : (olds.map AV.val).toArray ++ Builtin.zeroCells z.cells m ++ Builtin.zeroCells z.cells (cap - (n + m)) = ((olds ++ (List.replicate (m + (cap - (n + m))) ((List.range z.cells.size).map fun i => AV.ofV (z.cells[i % z.cells.size]!))).flatten).map AV.val).toArray := by
  apply Array.ext'
  rw [<- List.replicate_append_replicate, List.flatten_append]
  simp only [Array.toList_append, List.map_append, Zce z m hzz, Zce z (cap - (n + m)) hzz, List.append_assoc]
 rw [harr] at hr
 obtain ⟨f1, f2, f3, f4⟩ := hH.made e (olds ++ (List.replicate (m + (cap - (n + m))) ((List.range z.cells.size).map fun i => AV.ofV (z.cells[i % z.cells.size]!))).flatten) (fun q hq => by
  rcases List.mem_append.1 hq with hq | hq
  ·exact hov q hq
  ·obtain ⟨l, hl, hal⟩ := List.mem_flatten.1 hq
   have hl := (List.mem_replicate.1 hl).2
   subst hl
   obtain ⟨j, _, rfl⟩ := List.mem_map.1 hal
   exact Zcq _)
 refine ⟨cap, _, _, rfl, by rw [hx]; exact hr, hge, hcm, ?_, f1, f2, f3, f4⟩
 have hzl : ((List.replicate (m + (cap - (n + m))) ((List.range z.cells.size).map fun i => AV.ofV (z.cells[i % z.cells.size]!))).flatten).length = (m + (cap - (n + m))) * z.cells.size := by
  have hq := congrArg List.length (Zce z (m + (cap - (n + m))) hzz)
  rw [List.length_map] at hq
  rw [hq]
  simp [size_zeroCells]
 rw [List.length_append, hzl, hzs, hlo, <- Nat.add_mul]
 congr 1
 omega
theorem copy_ {b lo n c m sz : Nat} {e t t' ty : TypeId} {cs news : List AV} {y : AV} {ad : Addr} (hH : Zaj w σ Z) (hV : Zae w (σ.free Z) y) (ht : Zaq P t = some e) (hs : Zax P e = some sz) (hsz : 0 < sz) (hb : σ.blk b = some (.own e cs))
 (hcap : (lo + n) * sz <= cs.length) (had : 0 < n -> ad = ⟨b, lo * sz, none⟩) (src : Src σ sz y m news) :
 ∃ w', (Builtin.copy_ #[t, t'] ty #[.slice (some ad) n c, y.val]).run P w = .ok (goInt ((min m n : Nat) : Int)) w' /\ Zaj w' (σ.set b (.own e (ZaC cs (lo * sz) (news.take (min m n * sz))))) Z /\ Grow w σ w' (σ.set b (.own e (ZaC cs (lo * sz) (news.take (min m n * sz))))) := by
 have hty := ZaJ ht
 obtain ⟨i, hi, hsi⟩ := Zjl hs
 subst hsi
 obtain ⟨A, c', hy, hA⟩ := src.at_
 obtain ⟨hnv, hrd⟩ := src.rd w Z hH hV
 by_cases hm : min m n = 0
 ·rw [hm, Nat.zero_mul, List.take_zero, Zh5, Zlk hb]
  refine ⟨w, ?_, hH, Grow.refl _ _⟩
  rw [hy]
  have hf := ZbA (P := P) (w := w) (size := i.size) (n := 0) (len := m) (cap := c') rfl A
  have hm' : Nat.min m n = 0 := hm
  simp [Builtin.copy_, run_underlying hty, sizeOf, typeInfo, hi, Builtin.lenOf, hf, hm', storeCells]
 ·cases A with
  | none => exact absurd (hA rfl) (by omega)
  | some a =>
   have had := had (by omega)
   subst had
   have hlen := src.len
   have hmul : (lo + min m n) * i.size <= (lo + n) * i.size := Nat.mul_le_mul_right _ (by omega)
   have hmul2 : min m n * i.size <= m * i.size := Nat.mul_le_mul_right _ (by omega)
   rw [Nat.add_mul] at hmul
   have htl : (news.take (min m n * i.size)).length = min m n * i.size := by rw [List.length_take]; omega
   obtain ⟨g1, g2, g3⟩ := hH.storeAt (P := P) (off := lo * i.size) (news := news.take (min m n * i.size)) hb (by rw [htl]; omega) (fun a ha => src.one a (List.mem_of_mem_take ha)) (fun a ha => hnv a (List.mem_of_mem_take ha))
   refine ⟨_, ?_, g2, g3⟩
   rw [hy]
   have hf := run_firstCells_some (P := P) w i.size (min m n) a m c' ((news.take (min m n * i.size)).map AV.val) (by simpa using htl) (fun j u hu => hrd a c' hy j u (by
    rw [List.map_take, List.getElem?_take] at hu
    split at hu
    ·exact hu
    ·cases hu))
   have hmm : Nat.min m n = min m n := rfl
   rw [List.map_take] at g1 hf
   simp [Builtin.copy_, run_underlying hty, sizeOf, typeInfo, hi, Builtin.lenOf, hmm, hf, g1]
theorem clear_ {b lo n c sz : Nat} {e t ty : TypeId} {z : Value} {cs news : List AV} {ad : Addr} (hH : Zaj w σ Z) (ht : Zaq P t = some e) (hz : ZaR P e = some z) (hzs : z.cells.size = sz) (hsz : 0 < sz) (hb : σ.blk b = some (.own e cs))
 (hcap : (lo + n) * sz <= cs.length) (had : 0 < n -> ad = ⟨b, lo * sz, none⟩) (hn : news.map AV.val = (Builtin.zeroCells z.cells n).toList) (h1 : ∀ a ∈ news, a.one = true) (hv : ∀ a ∈ news, Zae w (σ.free Z) a) :
 ∃ w', (Builtin.clear_ #[t] ty #[.slice (some ad) n c]).run P w = .ok (.tuple #[]) w' /\ Zaj w' (σ.set b (.own e (ZaC cs (lo * sz) news))) Z /\ Grow w σ w' (σ.set b (.own e (ZaC cs (lo * sz) news))) := by
 have hty := ZaJ ht
 have hlen : news.length = n * sz := by
  have := congrArg List.length hn
  rw [List.length_map] at this
  rw [this]
  simp [size_zeroCells, hzs]
 by_cases h0 : n = 0
 ·subst h0
  have hnn : news = [] := List.eq_nil_of_length_eq_zero (by simpa using hlen)
  subst hnn
  rw [Zh5, Zlk hb]
  refine ⟨w, ?_, hH, Grow.refl _ _⟩
  simp [Builtin.clear_, run_underlying hty]
 ·have had := had (by omega)
  subst had
  rw [Nat.add_mul] at hcap
  obtain ⟨g1, g2, g3⟩ := hH.storeAt (P := P) (off := lo * sz) (news := news) hb (by omega) h1 hv
  refine ⟨_, ?_, g2, g3⟩
  obtain ⟨m, rfl⟩ : ∃ m, n = m + 1 := ⟨n - 1, by omega⟩
  rw [hn] at g1
  have hzv := Zci (P := P) (w := w) hz
  simp [Builtin.clear_, run_underlying hty, hzv, g1]
end
end Go.Proofs.YteempnebenjkmaaGreatDoor
namespace Go.Proofs.YteempnebenjkmaaGreatDoor
open Go.RowKit
set_option linter.unusedSimpArgs false
set_option maxRecDepth 100000
set_option linter.unusedVariables false
variable {T : Nat -> Type} {A : Type}
section
variable {U : Nat -> Prop} {C : Zaw T} {ρ ρ' : Nat -> AV} {h h1 : List (HI T)} {σ τ : St}
theorem Hp.kill (H : Hp C ρ' h1 τ) (R : Rel U ρ h σ ρ' h1 τ) (i : Nat) : Hp C ρ' (h1.set i .dead) τ /\ Rel U ρ h σ ρ' (h1.set i .dead) τ := by
 have hl : (h1.set i HI.dead).length = h1.length := by simp
 refine ⟨⟨fun j x hx => ?_, fun j k x y c hx hy ax ay bx by_ => ?_⟩, ⟨by rw [hl]; exact R.len, R.ext, R.but, fun c ⟨j, x, hx, ax, bx⟩ => ?_⟩⟩
 ·rw [hl]
  rcases Zbg hx with ⟨_, rfl, _⟩ | ⟨_, hx⟩
  ·trivial
  ·exact H.it j x hx
 ·rcases Zbg hx with ⟨_, rfl, _⟩ | ⟨_, hx⟩
  ·cases ax
  rcases Zbg hy with ⟨_, rfl, _⟩ | ⟨_, hy⟩
  ·cases ay
  exact H.dist j k x y c hx hy ax ay bx by_
 ·rcases Zbg hx with ⟨_, rfl, _⟩ | ⟨_, hx⟩
  ·cases ax
  exact R.born c ⟨j, x, hx, ax, bx⟩
theorem Hp.newNil (H : Hp C ρ h σ) (e : TypeId) (E : Nat) (kp : Bool) : Hp C (rup ρ h.length (.lst none 0 0 [])) (h ++ [.arr e E kp []]) σ /\ Rel U ρ h σ (rup ρ h.length (.lst none 0 0 [])) (h ++ [.arr e E kp []]) σ := by
 have hext : ∀ j, j < h.length -> rup ρ h.length (.lst none 0 0 []) j = ρ j := fun j hj => ZdV (by omega)
 have hlen : h.length <= (h ++ [HI.arr e E kp []]).length := by simp
 refine ⟨⟨fun j x hx => ?_, fun j k x y c hx hy ax ay bx by_ => ?_⟩, ⟨hlen, hext, .refl _ _, fun c ⟨j, x, hx, ax, bx⟩ => ?_⟩⟩
 ·rcases Zbd hx with ⟨rfl, rfl⟩ | ⟨hj, hx⟩
  ·exact .inr ⟨Zav _ _ _, rfl⟩
  ·have := H.it j x hx
   cases x with
   | obj t' cs' =>
    obtain ⟨b', acs', q1, q2, q3, q4⟩ := this
    exact ⟨b', acs', (hext j hj).trans q1, q2, q3, q4.ext hlen hext⟩
   | arr e2 E2 kp2 xs2 =>
    unfold SH at this ⊢
    rw [hext j hj]
    exact this
   | row e2 sz2 =>
    unfold SH at this ⊢
    rw [hext j hj]
    exact this
   | mmap K2 V2 es2 =>
    unfold SH at this ⊢
    rw [hext j hj]
    exact this
   | gen E2 x2 =>
    unfold SH at this ⊢
    rw [hext j hj]
    exact this
   | dead => trivial
 ·rcases Zbd hx with ⟨rfl, rfl⟩ | ⟨hj, hx⟩ <;> rcases Zbd hy with ⟨rfl, rfl⟩ | ⟨hk, hy⟩
  ·rfl
  ·rw [Zav] at bx; cases bx
  ·rw [Zav] at by_; cases by_
  ·rw [hext j hj] at bx
   rw [hext k hk] at by_
   exact H.dist j k x y c hx hy ax ay bx by_
 ·rcases Zbd hx with ⟨rfl, rfl⟩ | ⟨hj, hx⟩
  ·rw [Zav] at bx; cases bx
  ·rw [hext j hj] at bx
   exact .inl ⟨j, x, hx, ax, bx⟩
theorem Hp.move (H : Hp C ρ' h1 τ) (R : Rel U ρ h σ ρ' h1 τ) {i : Nat} {e : TypeId} {E : Nat} {kp : Bool} {xs : List (T E)} (hi : h1[i]? = some (.arr e E kp xs)) :
 Hp C (rup ρ' h1.length (ρ' i)) (h1.set i .dead ++ [.arr e E kp xs]) τ /\ Rel U ρ h σ (rup ρ' h1.length (ρ' i)) (h1.set i .dead ++ [.arr e E kp xs]) τ := by
 obtain ⟨H2, R2⟩ := H.kill R i
 have hil := ZaA hi
 have hl : (h1.set i HI.dead).length = h1.length := by simp
 have hext : ∀ j, j < h1.length -> rup ρ' h1.length (ρ' i) j = ρ' j := fun j hj => ZdV (by omega)
 have hlen : (h1.set i HI.dead).length <= (h1.set i HI.dead ++ [HI.arr e E kp xs]).length := by simp
 have hi0 := H.it i _ hi
 have hne : ∀ j x, (h1.set i HI.dead)[j]? = some x -> x.alive = true -> j ≠ i /\ h1[j]? = some x := fun j x hx ax => by
  rcases Zbg hx with ⟨_, rfl, _⟩ | ⟨hn, hx⟩
  ·cases ax
  ·exact ⟨hn, hx⟩
 refine ⟨⟨fun j x hx => ?_, fun j k x y c hx hy ax ay bx by_ => ?_⟩, ⟨by rw [List.length_append, hl]; have := R.len; omega, fun j hj => ?_, R.but, fun c ⟨j, x, hx, ax, bx⟩ => ?_⟩⟩
 ·rcases Zbd hx with ⟨rfl, rfl⟩ | ⟨hj, hx⟩
  ·rw [hl]
   unfold SH at hi0 ⊢
   rw [Zav]
   exact hi0
  ·rw [hl] at hj
   have := H2.it j x hx
   cases x with
   | obj t' cs' =>
    obtain ⟨b', acs', q1, q2, q3, q4⟩ := this
    exact ⟨b', acs', (hext j hj).trans q1, q2, q3, q4.ext hlen (fun m hm => hext m (by rw [hl] at hm; exact hm))⟩
   | arr e2 E2 kp2 xs2 =>
    unfold SH at this ⊢
    rw [hext j hj]
    exact this
   | row e2 sz2 =>
    unfold SH at this ⊢
    rw [hext j hj]
    exact this
   | mmap K2 V2 es2 =>
    unfold SH at this ⊢
    rw [hext j hj]
    exact this
   | gen E2 x2 =>
    unfold SH at this ⊢
    rw [hext j hj]
    exact this
   | dead => trivial
 ·rcases Zbd hx with ⟨rfl, rfl⟩ | ⟨hj, hx⟩ <;> rcases Zbd hy with ⟨rfl, rfl⟩ | ⟨hk, hy⟩
  ·rfl
  ·rw [hl] at hk bx
   rw [Zav] at bx
   rw [hext k hk] at by_
   obtain ⟨q1, q2⟩ := hne k y hy ay
   exact absurd (H.dist k i y _ c q2 hi ay rfl by_ bx) q1
  ·rw [hl] at hj by_
   rw [Zav] at by_
   rw [hext j hj] at bx
   obtain ⟨q1, q2⟩ := hne j x hx ax
   exact absurd (H.dist j i x _ c q2 hi ax rfl bx by_) q1
  ·rw [hl] at hj hk
   rw [hext j hj] at bx
   rw [hext k hk] at by_
   exact H2.dist j k x y c hx hy ax ay bx by_
 ·rw [hext j (by have := R.len; omega)]
  exact R.ext j hj
 ·rcases Zbd hx with ⟨rfl, rfl⟩ | ⟨hj, hx⟩
  ·rw [hl, Zav] at bx
   exact R.born c ⟨i, _, hi, rfl, bx⟩
  ·rw [hl] at hj
   rw [hext j hj] at bx
   exact R2.born c ⟨j, x, hx, ax, bx⟩
end
section
variable {U : Nat -> Prop} {C : Zaw T} {N : Nat} {ρ : Nat -> AV} {P : Program} {h : List (HI T)} {d : Option Nat} {ty t : TypeId} {pos : String} {af : Array Edge} {g : Option (Nat × Bool)} {z : A} {k : XV T -> List (HI T) -> Option A} {vs : List (XV T)}
theorem ZoB {tb : Option Bool} {n : Option Nat} {cs : List AV} {q : Nat} {a : AV} (hq : q <= cs.length) (h : ZbH tb n (cs.drop q) 0 = some a) : ZbH tb n cs q = some a := by
 unfold ZbH at h ⊢
 split at h
 ·split at h
  ·rename_i hl
   rw [List.length_drop] at hl
   rw [if_pos (by omega)]
   exact h
  ·cases h
 ·rw [List.getElem?_drop] at h
  exact h
 ·cases h
theorem ZzT {E j : Nat} {xs : List (T E)} {x : T E} {pre rest : List AV} (hs : SVs C N ρ (xs.flatMap (C.enc E)) pre) (hj : xs[j]? = some x) : ∃ p q r, pre ++ rest = p ++ (q ++ r) /\ p.length = j * C.sz E /\ SVs C N ρ (C.enc E x) q := by
 have hlt := ZaA hj
 have hlen := hs.len
 rw [Zb3] at hlen
 have hm : (j + 1) * C.sz E <= xs.length * C.sz E := Nat.mul_le_mul_right _ hlt
 rw [Nat.succ_mul] at hm
 refine ⟨pre.take (j * C.sz E), (pre.drop (j * C.sz E)).take (C.sz E), (pre.drop (j * C.sz E)).drop (C.sz E) ++ rest, ?_, by rw [List.length_take]; omega, ?_⟩
 ·rw [<- List.append_assoc, <- List.append_assoc, List.append_assoc (pre.take _), List.take_append_drop, List.take_append_drop]
 ·have := (hs.drop (j * C.sz E)).take (C.sz E)
  rw [ZcE, List.drop_eq_getElem_cons hlt, List.flatMap_cons, List.take_append_of_le_length (by rw [C.len]; omega), List.take_of_length_le (by rw [C.len]; omega)] at this
  have hx : xs[j] = x := by rw [List.getElem?_eq_getElem hlt] at hj; injection hj
  rw [hx] at this
  exact this
theorem Hp.arrAt {σ : St} {E i b : Nat} {kp : Bool} {e : TypeId} {xs : List (T E)} (H : Hp C ρ h σ) (hi : h[i]? = some (.arr e E kp xs)) {K : Nat} (hρ : ρ i = ab b K) : ∃ pre rest, σ.blk b = some (.own e (pre ++ rest)) /\ σ.used b /\ (∀ N' ρ', SVs C N' ρ' (xs.flatMap (C.enc E)) pre) /\ (pre ++ rest).length = K * C.sz E /\ K <= maxLen /\ (C.full E = true -> ∃ zs : List (T E), ∀ N' ρ', SVs C N' ρ' (zs.flatMap (C.enc E)) rest) := by
 rcases H.it i _ hi with ⟨b', K', pre, rest, hb1, hb2, hb3, hb4⟩ | ⟨hb1, _⟩
 ·rw [hρ] at hb1
  obtain ⟨e1, e2⟩ := Zxp hb1
  subst e1 e2
  exact ⟨pre, rest, hb2, hb3, hb4⟩
 ·rw [hρ] at hb1; cases hb1
theorem Znm {α β : Type} {o : Option α} {f : α -> Option β} {z : β} (h : o.bind f = some z) : ∃ a, o = some a /\ f a = some z := by
 cases o with
 | none => cases h
 | some a => exact ⟨a, rfl, h⟩
theorem ZmM (pre rest news : List AV) {off : Nat} (ho : off <= pre.length) : ZaC (pre ++ rest) off news = (pre.take off ++ news ++ pre.drop (off + news.length)) ++ rest.drop (off + news.length - pre.length) := by
 unfold ZaC
 rw [List.take_append_of_le_length ho, List.drop_append, List.append_assoc, List.append_assoc, List.append_assoc]
theorem Zrc {σ : St} {b sz off m : Nat} {e : TypeId} {cs : List AV} {y : AV} {ad : Addr} {c : Nat} (hy : y.val = .slice (some ad) m c) (hb : σ.blk b = some (.own e cs)) (had : 0 < m -> ad = ⟨b, off, none⟩) (hsz : 0 < sz) (hl : off + m * sz <= cs.length) (h1 : ∀ a ∈ (cs.drop off).take (m * sz), a.one = true) :
 Src σ sz y m ((cs.drop off).take (m * sz)) := by
 refine ⟨by rw [List.length_take, List.length_drop]; omega, h1, ⟨_, _, hy, fun e => by cases e⟩, fun w Z hH hV => ⟨fun a ha => (hH.own _ _ _ hb).2.2 a (List.mem_of_mem_drop (List.mem_of_mem_take ha)), fun ad' c' hy' j u hu => ?_⟩⟩
 rw [hy] at hy'
 injection hy' with q1 _ _
 injection q1 with q1
 subst q1
 rw [List.getElem?_map, List.getElem?_take] at hu
 split at hu
 ·rename_i hj
  have hm : 0 < m := by
   rcases Nat.eq_zero_or_pos m with h0 | h0
   ·subst h0; omega
   ·exact h0
  rw [had hm]
  cases hd : (cs.drop off)[j]? with
  | none => rw [hd] at hu; cases hu
  | some q =>
   rw [hd] at hu
   injection hu with hu
   subst hu
   rw [List.getElem?_drop] at hd
   exact ZdU hH hb off j hd
 ·cases hu
theorem Znn {σ : St} {sz : Nat} : Src σ sz (.lst none 0 0 []) 0 [] := ⟨by simp, by simp, ⟨none, 0, by simp, fun _ => rfl⟩, fun w Z hH hV => ⟨by simp, fun ad c hy j u hu => by simp at hu⟩⟩
theorem Zfr {E : Nat} {v : XV T} {k : List (T E) -> Option A} (hk : Zye C E h v k = some z) : ∃ ys : List (T E), k ys = some z /\ ∀ ρ σ a, SV C h.length ρ v a -> Hp C ρ h σ -> ∃ news, Src σ (C.sz E) a ys.length news /\ ∀ N' ρ', SVs C N' ρ' (ys.flatMap (C.enc E)) news := by
 unfold Zye at hk
 split at hk
 ·refine ⟨[], hk, fun ρ σ a hs H => ⟨[], ?_, fun _ _ => .none⟩⟩
  rw [ZdB.1 hs]
  exact Znn
 ·rename_i E' ys ow
  split at hk
  rotate_left
  ·cases hk
  rename_i hE
  subst hE
  refine ⟨ys, hk, fun ρ σ a hs H => ?_⟩
  obtain ⟨B, c, cs, rest, rfl, l1, l2, l3, l4, l5⟩ := Zew hs
  have hlen := l5.len
  rw [Zb3] at hlen
  refine ⟨cs, ⟨hlen, l5.ones fun v hv => ZdJ (ZbZ ys v hv), ⟨B, c, by simp, fun e => (l4 e).1⟩, fun w Z hH hV => ?_⟩, fun N' ρ' => l5.shut (ZbZ ys)⟩
  cases B with
  | none =>
   have : ys.length = 0 := (l4 rfl).1
   have hc0 : cs = [] := List.eq_nil_of_length_eq_zero (by rw [hlen, this, Nat.zero_mul])
   subst hc0
   exact ⟨by simp, fun ad c hy j u hu => by simp at hu⟩
  | some ad =>
   unfold Zae at hV
   have hat := hV.2.2 ad rfl
   refine ⟨fun q hq => ?_, fun ad' c' hy j u hu => ?_⟩
   ·obtain ⟨j, hj⟩ := List.getElem?_of_mem hq
    exact (Zct hat (by rw [List.getElem?_append_left (ZaA hj)]; exact hj)).2.2
   ·rw [AV.val_lst] at hy
    injection hy with q1 _ _
    injection q1 with q1
    subst q1
    rw [List.getElem?_map] at hu
    cases hd : cs[j]? with
    | none => rw [hd] at hu; cases hu
    | some q =>
     rw [hd] at hu
     injection hu with hu
     subst hu
     exact (Zct hat (by rw [List.getElem?_append_left (ZaA hd)]; exact hd)).1
 ·rename_i E' j lo m co
  split at hk
  rotate_left
  ·cases hk
  rename_i e2 E2 kp xs hj
  split at hk
  rotate_left
  ·cases hk
  rename_i hE
  subst hE
  split at hk
  rotate_left
  ·cases hk
  rename_i hE'
  have hE' := Nat.eq_of_beq_eq_true hE'
  subst hE'
  split at hk
  rotate_left
  ·cases hk
  rename_i hlm
  have hyl : ((xs.drop lo).take m).length = m := by rw [List.length_take, List.length_drop]; omega
  refine ⟨_, hk, fun ρ σ a hs H => ?_⟩
  rcases ZbE.1 hs with ⟨ad, c, rfl, hA⟩ | ⟨rfl, hn0, hiN, hρi, hco⟩
  ·obtain ⟨b, q1, q2⟩ := hA.at_
   obtain ⟨pre, rest, hb2, hb3, hb4, hb5, hb6⟩ := H.arrAt hj q1
   have hpl := (hb4 h.length ρ).len
   rw [Zb3] at hpl
   have hle := hA.le
   have hm1 : (lo + m) * C.sz E' <= xs.length * C.sz E' := Nat.mul_le_mul_right _ hlm
   rw [Nat.add_mul] at hm1
   have hcut : ((pre ++ rest).drop (lo * C.sz E')).take (m * C.sz E') = (pre.drop (lo * C.sz E')).take (m * C.sz E') := by
    rw [List.drop_append_of_le_length (by omega), List.take_append_of_le_length (by rw [List.length_drop]; omega)]
   have hsv : ∀ N' ρ', SVs C N' ρ' (((xs.drop lo).take m).flatMap (C.enc E')) ((pre.drop (lo * C.sz E')).take (m * C.sz E')) := fun N' ρ' => by
    have := ((hb4 N' ρ').drop (lo * C.sz E')).take (m * C.sz E')
    rw [ZcE, Zc2] at this
    exact this
   refine ⟨(pre.drop (lo * C.sz E')).take (m * C.sz E'), ?_, hsv⟩
   rw [hyl]
   have := Zrc (σ := σ) (sz := C.sz E') (off := lo * C.sz E') (m := m) (c := c) (y := .raw (.slice (some ad) m c)) (by simp) hb2 (fun h0 => q2 (by omega)) (C.pos E') (by rw [List.length_append]; omega) (by
    rw [hcut]
    exact (hsv h.length ρ).ones fun v hv => ZdJ (ZbZ _ v hv))
   rw [hcut] at this
   exact this
  ·subst hn0
   refine ⟨[], ?_, fun _ _ => by rw [List.take_zero]; exact .none⟩
   rw [hyl]
   exact Znn
 ·cases hk
theorem Zga {E sz : Nat} {zv : Value} {k : T E -> Option A} (hk : Zsu C E sz zv k = some z) : ∃ zt : T E, k zt = some z /\ ∀ n N ρ, SVs C N ρ ((List.replicate n zt).flatMap (C.enc E)) ((List.replicate n ((List.range sz).map fun i => AV.ofV (zv.cells[i % sz]!))).flatten) := by
 unfold Zsu at hk
 cases hd : C.dec E ((List.range sz).map fun i => .ofV (zv.cells[i % sz]!)) with
 | none => rw [hd] at hk; cases hk
 | some zt =>
  rw [hd] at hk
  refine ⟨zt, hk, fun n N ρ => ?_⟩
  have h0 : SVs C N ρ (C.enc E zt) ((List.range sz).map fun i => AV.ofV (zv.cells[i % sz]!)) := Wks.sv (C.back E _ _ hd) (ZiA _ _ _)
  induction n with
  | zero => exact .none
  | succ n ih =>
   rw [List.replicate_succ, List.replicate_succ, List.flatMap_cons, List.flatten_cons]
   exact h0.app ih
theorem ZgT {E sz : Nat} {zv : Value} (h : ZmK C E sz zv = true) (hf : C.full E = true) : ∃ zt : T E, ∀ n N ρ, SVs C N ρ ((List.replicate n zt).flatMap (C.enc E)) ((List.replicate n ((List.range sz).map fun i => AV.ofV (zv.cells[i % sz]!))).flatten) := by
 unfold ZmK at h
 rw [hf, Bool.not_true, Bool.false_or] at h
 obtain ⟨zt, hd⟩ := Option.isSome_iff_exists.1 h
 obtain ⟨zt', _, hz⟩ := Zga (C := C) (E := E) (sz := sz) (zv := zv) (k := some) (z := zt) (by unfold Zsu; rw [hd]; rfl)
 exact ⟨zt', hz⟩
end
end Go.Proofs.YteempnebenjkmaaGreatDoor
namespace Go.Proofs.YteempnebenjkmaaGreatDoor
open Go.RowKit
set_option linter.unusedSimpArgs false
set_option maxRecDepth 100000
set_option linter.unusedVariables false
variable {T : Nat -> Type} {A : Type}
section
variable {U : Nat -> Prop} {C : Zaw T} {N : Nat} {ρ ρ' : Nat -> AV} {P : Program} {h h1 : List (HI T)} {d : Option Nat} {ty t t' : TypeId} {pos : String} {af : Array Edge} {g : Option (Nat × Bool)} {z : A} {k : XV T -> List (HI T) -> Option A} {vs : List (XV T)} {σ τ : St}
theorem Hp.spliceArr (H : Hp C ρ h σ) {i : Nat} (hU : U i) {e : TypeId} {E : Nat} {kp : Bool} {xs ys : List (T E)} (hi : h[i]? = some (.arr e E kp xs)) {b K lo : Nat} (hb : ρ i = ab b K) {cs news : List AV} (hcs : σ.blk b = some (.own e cs)) (hlo : lo <= xs.length) (hys : ∀ N ρ, SVs C N ρ (ys.flatMap (C.enc E)) news) (hfit : lo + ys.length <= K) :
 Hp C ρ (h.set i (.arr e E kp (xs.take lo ++ ys ++ xs.drop (lo + ys.length)))) (σ.set b (.own e (ZaC cs (lo * C.sz E) news))) /\ Rel U ρ h σ ρ (h.set i (.arr e E kp (xs.take lo ++ ys ++ xs.drop (lo + ys.length)))) (σ.set b (.own e (ZaC cs (lo * C.sz E) news))) := by
 obtain ⟨pre, rest, hb2, hb3, hb4, hb5, hb6, hb7⟩ := H.arrAt hi hb
 rw [hcs] at hb2
 injection hb2 with hb2
 injection hb2 with _ hb2
 subst hb2
 have hpl := (hb4 h.length ρ).len
 have hnl := (hys h.length ρ).len
 rw [Zb3] at hpl hnl
 have hm1 : lo * C.sz E <= xs.length * C.sz E := Nat.mul_le_mul_right _ hlo
 have hm2 : (lo + ys.length) * C.sz E <= K * C.sz E := Nat.mul_le_mul_right _ hfit
 rw [ZmM pre rest news (by omega)]
 refine H.writeArr hU hi hb (fun N ρ => ?_) ?_ (fun hf => ?_)
 ·rw [List.flatMap_append, List.flatMap_append]
  have p1 := (hb4 N ρ).take (lo * C.sz E)
  have p3 := (hb4 N ρ).drop ((lo + ys.length) * C.sz E)
  rw [Zc2] at p1
  rw [ZcE, Nat.add_mul, <- hnl] at p3
  exact (p1.app (hys N ρ)).app p3
 ·rw [Nat.add_mul] at hm2
  simp only [List.length_append, List.length_take, List.length_drop] at hb5 ⊢
  omega
 ·obtain ⟨zs, hzs⟩ := hb7 hf
  refine ⟨zs.drop (lo + ys.length - xs.length), fun N ρ => ?_⟩
  have p := (hzs N ρ).drop ((lo + ys.length - xs.length) * C.sz E)
  rw [ZcE] at p
  have he : lo * C.sz E + news.length - pre.length = (lo + ys.length - xs.length) * C.sz E := by rw [hpl, hnl, Nat.sub_mul, Nat.add_mul]
  rw [he]
  exact p
theorem Hp.cutArr (H : Hp C ρ' h1 τ) (R : Rel U ρ h σ ρ' h1 τ) {i : Nat} {e : TypeId} {E : Nat} {kp : Bool} {xs zs : List (T E)} (hi : h1[i]? = some (.arr e E kp (xs ++ zs))) :
 Hp C ρ' (h1.set i (.arr e E kp xs)) τ /\ Rel U ρ h σ ρ' (h1.set i (.arr e E kp xs)) τ := by
 have hl : (h1.set i (HI.arr e E kp xs)).length = h1.length := by simp
 have hi0 := H.it i _ hi
 refine ⟨⟨fun j x hx => ?_, fun j k x y c hx hy ax ay bx by_ => ?_⟩, ⟨by rw [hl]; exact R.len, R.ext, R.but, fun c ⟨j, x, hx, ax, bx⟩ => ?_⟩⟩
 ·rw [hl]
  rcases Zbg hx with ⟨e1, e2, _⟩ | ⟨_, hx⟩
  ·subst e1 e2
   rcases hi0 with ⟨b, K, pre, rest, q1, q2, q3, q4, q5, q6, q7⟩ | ⟨q1, q2⟩
   ·refine .inl ⟨b, K, pre.take (xs.length * C.sz E), pre.drop (xs.length * C.sz E) ++ rest, q1, by rw [<- List.append_assoc, List.take_append_drop]; exact q2, q3, fun N ρ => ?_, by rw [<- List.append_assoc, List.take_append_drop]; exact q5, q6, fun hf => ?_⟩
    ·have := (q4 N ρ).take (xs.length * C.sz E)
     rw [Zc2, List.take_left] at this
     exact this
    ·obtain ⟨ws, hws⟩ := q7 hf
     refine ⟨zs ++ ws, fun N ρ => ?_⟩
     have := (q4 N ρ).drop (xs.length * C.sz E)
     rw [ZcE, List.drop_left] at this
     rw [List.flatMap_append]
     exact this.app (hws N ρ)
   ·exact .inr ⟨q1, (List.append_eq_nil_iff.1 q2).1⟩
  ·exact H.it j x hx
 ·rcases Zbg hx with ⟨e1, e2, _⟩ | ⟨_, hx2⟩ <;> rcases Zbg hy with ⟨e3, e4, _⟩ | ⟨_, hy2⟩
  ·omega
  ·subst e1; exact H.dist j k _ y c hi hy2 rfl ay bx by_
  ·subst e3; exact H.dist j k x _ c hx2 hi ax rfl bx by_
  ·exact H.dist j k x y c hx2 hy2 ax ay bx by_
 ·rcases Zbg hx with ⟨e1, e2, _⟩ | ⟨_, hx⟩
  ·subst e1; exact R.born c ⟨j, _, hi, rfl, bx⟩
  ·exact R.born c ⟨j, x, hx, ax, bx⟩
theorem ZkM {α : Type} {l : List α} {i : Nat} {x : α} (hi : l[i]? = some x) : l.set i x = l := by
 apply List.ext_getElem?
 intro j
 rw [List.getElem?_set]
 split
 ·rename_i e
  subst e
  rw [hi, if_pos (ZaA hi)]
 ·rfl
theorem Zgb {ox oy : Operand} {a b : AV} {K : AV -> St -> Prop}
 (hrun : ∀ w Z, Zaj w σ Z -> Zae w (σ.free Z) a -> Zae w (σ.free Z) b -> ∃ r σ' w', (Builtin.append_ #[t, t'] ty #[a.val, b.val]).run P w = .ok r.val w' /\ K r σ' /\ Zaj w' σ' Z /\ Zae w' (σ'.free Z) r /\ Grow w σ w' σ') :
 ZdH P ⟨d, .call ⟨.builtin .append, #[ox, oy], #[t, t']⟩, ty, pos, af, g⟩ [a, b] σ K := by
 refine .inr ⟨rfl, fun ρ hρ w Z hH hV => ?_⟩
 have hρ' := hρ
 simp [Op.operands, Call.operands] at hρ'
 obtain ⟨r, σ', w', h1, h2, h3, h4, h5⟩ := hrun w Z hH (hV a (by simp)) (hV b (by simp))
 refine ⟨r, σ', w', .inl ?_, h2, h3, h4, h5⟩
 simp [execOp, resolve, invoke, builtin, hρ', h1]
theorem Zaz {w : World} {B : Nat -> Nat -> Prop} (v : Value) : Zae w B (.raw v) := by unfold Zae; trivial
theorem ZcF {w : World} {B : Nat -> Nat -> Prop} : Zae w B (.lst none 0 0 []) := by
 unfold Zae
 exact ⟨Nat.le_refl _, fun _ => ⟨rfl, rfl, rfl⟩, fun ad had => by cases had⟩
theorem ZtV {E i lo n : Nat} {co : Option Nat} {e : TypeId} {kp : Bool} {xs : List (T E)} (hi : h[i]? = some (.arr e E kp xs)) (hl : lo + n <= xs.length) : Zye C E h (.as E i lo n co) some = some ((xs.drop lo).take n) := by
 unfold Zye
 simp [hi, hl]
theorem Zqk {E n c : Nat} {e : TypeId} (kp : Bool) {sz by_ : Nat} {zv : Value} {a b : AV} {olds ys : List (T E)} {cells news : List AV} {w : World} {Z : Nat -> Prop} (H : Hp C ρ h σ) (hH : Zaj w σ Z) (hV1 : Zae w (σ.free Z) a) (hV2 : Zae w (σ.free Z) b)
 (he : Zaq P t = some e) (hsz : Zax P e = some sz) (hz : ZaR P e = some zv) (hby : Zcd P e = some by_) (hzs : zv.cells.size = sz) (e1 : sz = C.sz E) (hfu : ZmK C E sz zv = true)
 (srcx : Src σ sz a n cells) (hxs : ∀ N ρ, SVs C N ρ (olds.flatMap (C.enc E)) cells) {B : Option Addr} (ha : a.val = .slice B n c) (hB : B = none -> c = 0) (src : Src σ sz b ys.length news) (hys : ∀ N ρ, SVs C N ρ (ys.flatMap (C.enc E)) news) (hg : c < n + ys.length) (hnc : n <= c) (h63 : n + ys.length <= 140737488355328) (hb : (n + ys.length) * by_ <= 140737488355328) :
 ∃ r σ' w' ρ', (Builtin.append_ #[t, t] ty #[a.val, b.val]).run P w = .ok r.val w' /\ Zaj w' σ' Z /\ Zae w' (σ'.free Z) r /\ Grow w σ w' σ' /\ (∀ N, h.length < N -> SV C N ρ' (.as E h.length 0 (n + ys.length) none) r) /\ Hp C ρ' (h ++ [.arr e E kp (olds ++ ys)]) σ' /\ Rel U ρ h σ ρ' (h ++ [.arr e E kp (olds ++ ys)]) σ' := by
 have hpos := C.pos E
 obtain ⟨cap, w', rest, r0, r1, r2, r3, r4, f1, f2, f3, f4⟩ := Zkc (ty := ty) hH hV1 hV2 he hsz hz hby hzs (by omega) srcx ha hB src hg hnc (by unfold maxLen; omega) hb
 obtain ⟨g1, g2⟩ := H.newArr (U := U) kp f1 f2 e (E := E) (K := cap) (xs := olds ++ ys) (pre := cells ++ news) (rest := rest) (fun N ρ => by rw [List.flatMap_append]; exact (hxs N ρ).app (hys N ρ)) (by rw [r4, e1]) r3 (fun hf => by
  obtain ⟨zt, hzt⟩ := ZgT hfu hf
  exact ⟨_, fun N ρ => by rw [r0, hzs]; exact hzt _ N ρ⟩)
 refine ⟨.raw (.slice (some ⟨w.heap.size, 0, none⟩) (n + ys.length) cap), _, w', _, by rw [r1]; simp, f3, Zaz _, f4, fun N hN => ?_, g1, g2⟩
 exact ZbE.2 (.inl ⟨_, _, rfl, hN, r2, r3, h63, ⟨w.heap.size, by rw [Nat.zero_add]; exact Zav _ _ _, fun _ => by rw [Nat.zero_mul]⟩, fun c' hc => by cases hc⟩)
theorem Zyl {x y : XV T} {ox oy : Operand} (hm : ZtN C x y = true) (hU0 : ∀ E i lo n co, x = .as E i lo n co -> U i) (hk : ZBm C P t x y h k = some z) : Zbl C P U ⟨d, .call ⟨.builtin .append, #[ox, oy], #[t, t]⟩, ty, pos, af, g⟩ [x, y] h k z := by
 unfold ZBm at hk
 split at hk
 ·cases hk
 rename_i e he
 split at hk
 rotate_left
 ·cases hk
 rename_i sz zv by_ hsz hz hby
 split at hk
 rotate_left
 ·cases hk
 rename_i hzs
 have hzs := Nat.eq_of_beq_eq_true hzs
 split at hk
 ·-- an array
  rename_i E i lo n co
  have hU := hU0 _ _ _ _ _ rfl
  split at hk
  rotate_left
  ·cases hk
  rename_i e' E' kp xs hi
  split at hk
  rotate_left
  ·cases hk
  rename_i hc
  simp only [Bool.and_eq_true] at hc
  obtain ⟨⟨⟨c1, c2⟩, e1⟩, hfu⟩ := hc
  have c1 := Nat.eq_of_beq_eq_true c1
  have c2 := Nat.eq_of_beq_eq_true c2
  have e1 := Nat.eq_of_beq_eq_true e1
  subst c1 c2
  obtain ⟨ys, hk2, hsrc⟩ := Zfr hk
  clear hk
  have hk := hk2
  clear hk2
  split at hk
  rotate_left
  ·cases hk
  rename_i hroom
  obtain ⟨b1, b2, b3⟩ := hroom
  have hpos := C.pos E
  obtain ⟨xn, hxn, hsrcx⟩ := Zfr (ZtV (C := C) (co := co) hi b3)
  injection hxn with hxn
  subst hxn
  have hxl : ((xs.drop lo).take n).length = n := by rw [List.length_take, List.length_drop]; omega
  cases co with
  | some c0 =>
   dsimp only at hk
   split at hk
   ·rename_i hfit
    rw [ZaX] at hk
    refine ⟨_, _, hk, fun ρ σ as_ hs H => ?_⟩
    obtain ⟨a, b, rfl, h3, h4⟩ := Zfp.1 hs
    obtain ⟨news, src, hys⟩ := hsrc ρ σ b h4 H
    refine Zgb fun w Z hH hV1 hV2 => ?_
    rcases ZbE.1 h3 with ⟨ad, c, rfl, hA⟩ | ⟨rfl, hn0, hiN, hρi, hco⟩
    ·obtain ⟨bb, q1, q2⟩ := hA.at_
     obtain ⟨pre, rest, hb2, hb3, hb4, hb5, hb6⟩ := H.arrAt hi q1
     have hcc := hA.cap c0 rfl
     subst hcc
     rw [<- e1] at src
     obtain ⟨w', r1, r2, r3⟩ := ZgS (ty := ty) (lo := lo) (n := n) hH hV2 he hsz (by omega) hb2 (by rw [hb5, e1]; exact Nat.le_refl _) (by rw [e1]; exact q2) src hfit
     rw [e1] at r2 r3
     obtain ⟨g1, g2⟩ := H.spliceArr hU hi q1 hb2 b3 hys (by omega)
     refine ⟨.raw (.slice (some ad) (n + ys.length) c), _, w', by simpa using r1, ⟨ρ, ZbE.2 (.inl ⟨_, _, rfl, by rw [List.length_set]; exact hA.lt, hfit, hA.max, b1, ⟨bb, q1, q2⟩, hA.cap⟩), g1, g2⟩, r2, Zaz _, r3⟩
    ·subst hn0
     have hc0 := hco c0 rfl
     have hm0 : ys = [] := List.eq_nil_of_length_eq_zero (by omega)
     subst hm0
     have hxs : xs = [] := by
      rcases H.it i _ hi with ⟨b', K, pre, rest, q1, _⟩ | ⟨_, q⟩
      ·rw [hρi] at q1; cases q1
      ·exact q
     subst hxs
     obtain ⟨A', c', hy, hA'⟩ := src.at_
     obtain ⟨ii, hii, hsi⟩ := Zjl hsz
     refine ⟨.lst none 0 0 [], σ, w, ?_, ⟨ρ, ?_, ?_, ?_⟩, hH, ZcF, Grow.refl _ _⟩
     ·rw [hy]
      have hf := ZbA (P := P) (w := w) (size := ii.size) (n := 0) (len := 0) (cap := c') rfl A'
      simp [Builtin.append_, run_underlying (ZaJ he), sizeOf, typeInfo, hii, Builtin.lenOf, hf]
     ·exact ZbE.2 (.inr ⟨rfl, by simp, by rw [List.length_set]; exact hiN, hρi, hco⟩)
     ·have : h.set i (.arr e' E kp (List.take (lo + 0) [] ++ [] ++ List.drop (lo + 0 + ([] : List (T E)).length) [])) = h := by
       simp only [List.take_nil, List.drop_nil, List.append_nil]
       exact ZkM hi
      rw [this]; exact H
     ·have : h.set i (.arr e' E kp (List.take (lo + 0) [] ++ [] ++ List.drop (lo + 0 + ([] : List (T E)).length) [])) = h := by
       simp only [List.take_nil, List.drop_nil, List.append_nil]
       exact ZkM hi
      rw [this]; exact .refl _ _ _ _
   ·rename_i hfit
    rw [ZaX] at hk
    refine ⟨_, _, hk, fun ρ σ as_ hs H => ?_⟩
    obtain ⟨a, b, rfl, h3, h4⟩ := Zfp.1 hs
    obtain ⟨news, src, hys⟩ := hsrc ρ σ b h4 H
    obtain ⟨cells, srcx, hxs⟩ := hsrcx ρ σ a h3 H
    rw [hxl] at srcx
    rw [<- e1] at src srcx
    refine Zgb fun w Z hH hV1 hV2 => ?_
    obtain ⟨B, c, ha, hB, hcc, hnc⟩ : ∃ B c, a.val = .slice B n c /\ (B = none -> c = 0) /\ c = c0 /\ n <= c := by
     rcases ZbE.1 h3 with ⟨ad, c, rfl, hA⟩ | ⟨rfl, hn0, hiN, hρi, hco⟩
     ·exact ⟨some ad, c, by simp, fun e => (by cases e), hA.cap c0 rfl, hA.le⟩
     ·exact ⟨none, 0, by simp [hn0], fun _ => rfl, (hco c0 rfl).symm, by omega⟩
    subst hcc
    obtain ⟨r, σ', w', ρ', r1, r2, r3, r4, r5, r6, r7⟩ := Zqk (U := U) (ty := ty) kp H hH hV1 hV2 he hsz hz hby hzs e1 hfu srcx hxs ha hB src hys (by omega) hnc b1 b2
    exact ⟨r, σ', w', r1, ⟨ρ', r5 _ (by simp), r6, r7⟩, r2, r3, r4⟩
  | none =>
   dsimp only at hk
   split at hk
   rotate_left
   ·cases hk
   rename_i hlo
   have hlo := Nat.eq_of_beq_eq_true hlo
   subst hlo
   rw [ZaX] at hk
   rw [List.drop_zero] at hsrcx hxl
   refine ⟨_, _, hk, fun ρ σ as_ hs H => ?_⟩
   obtain ⟨a, b, rfl, h3, h4⟩ := Zfp.1 hs
   obtain ⟨news, src, hys⟩ := hsrc ρ σ b h4 H
   obtain ⟨cells, srcx, hxs⟩ := hsrcx ρ σ a h3 H
   rw [hxl] at srcx
   rw [<- e1] at src srcx
   have hil := ZaA hi
   refine Zgb fun w Z hH hV1 hV2 => ?_
   obtain ⟨B, c, ha, hB, hnc⟩ : ∃ B c, a.val = .slice B n c /\ (B = none -> c = 0) /\ n <= c := by
    rcases ZbE.1 h3 with ⟨ad, c, rfl, hA⟩ | ⟨rfl, hn0, hiN, hρi, hco⟩
    ·exact ⟨some ad, c, by simp, fun e => (by cases e), hA.le⟩
    ·exact ⟨none, 0, by simp [hn0], fun _ => rfl, by omega⟩
   by_cases hfit : n + ys.length <= c
   ·rcases ZbE.1 h3 with ⟨ad, c', rfl, hA⟩ | ⟨rfl, hn0, hiN, hρi, hco⟩
    ·simp only [AV.val_raw, Value.slice.injEq] at ha
     obtain ⟨rfl, _, rfl⟩ := ha
     obtain ⟨bb, q1, q2⟩ := hA.at_
     obtain ⟨pre, rest, hb2, hb3, hb4, hb5, hb6⟩ := H.arrAt hi q1
     obtain ⟨w', r1, r2, r3⟩ := ZgS (ty := ty) (lo := 0) (n := n) hH hV2 he hsz (by omega) hb2 (by rw [hb5, e1]; exact Nat.le_refl _) (by rw [e1]; exact q2) src hfit
     rw [e1] at r2 r3
     rw [Nat.zero_add] at r2 r3 b3 q1
     obtain ⟨g1, g2⟩ := H.spliceArr hU hi q1 hb2 b3 hys (by omega)
     obtain ⟨g3, g4⟩ := g1.cutArr g2 (i := i) (e := e') (E := E) (kp := kp) (xs := xs.take n ++ ys) (zs := xs.drop (n + ys.length)) (by rw [List.getElem?_set_self hil])
     rw [List.set_set] at g3 g4
     obtain ⟨g5, g6⟩ := g3.move g4 (i := i) (by rw [List.getElem?_set_self hil])
     rw [List.set_set, List.length_set] at g5 g6
     refine ⟨.raw (.slice (some ad) (n + ys.length) c'), _, w', by simpa using r1, ⟨_, ZbE.2 (.inl ⟨_, _, rfl, by simp, hfit, hA.max, b1, ⟨bb, by rw [Zav, Nat.zero_add]; exact q1, q2⟩, fun c'' hc => by cases hc⟩), g5, g6⟩, r2, Zaz _, r3⟩
    ·subst hn0
     simp only [AV.val_lst, Value.slice.injEq] at ha
     obtain ⟨rfl, _, rfl⟩ := ha
     have hm0 : ys = [] := List.eq_nil_of_length_eq_zero (by omega)
     subst hm0
     have hxs : xs = [] := by
      rcases H.it i _ hi with ⟨b', K, pre, rest, q1, _⟩ | ⟨_, q⟩
      ·rw [hρi] at q1; cases q1
      ·exact q
     subst hxs
     obtain ⟨A', c', hy, hA'⟩ := src.at_
     obtain ⟨ii, hii, hsi⟩ := Zjl hsz
     obtain ⟨g5, g6⟩ := H.move (.refl U ρ h σ) hi
     refine ⟨.lst none 0 0 [], σ, w, ?_, ⟨_, ?_, g5, g6⟩, hH, ZcF, Grow.refl _ _⟩
     ·rw [hy]
      have hf := ZbA (P := P) (w := w) (size := ii.size) (n := 0) (len := 0) (cap := c') rfl A'
      simp [Builtin.append_, run_underlying (ZaJ he), sizeOf, typeInfo, hii, Builtin.lenOf, hf]
     ·exact ZbE.2 (.inr ⟨rfl, by simp, by simp, by rw [Zav]; exact hρi, fun c' hc => by cases hc⟩)
   ·obtain ⟨r, σ', w', ρ', r1, r2, r3, r4, r5, r6, r7⟩ := Zqk (U := U) (ty := ty) kp H hH hV1 hV2 he hsz hz hby hzs e1 hfu srcx hxs ha hB src hys (by omega) hnc b1 b2
    obtain ⟨g1, g2⟩ := r6.kill r7 i
    rw [List.set_append_left _ _ hil] at g1 g2
    exact ⟨r, σ', w', r1, ⟨ρ', r5 _ (by simp), g1, g2⟩, r2, r3, r4⟩
 ·-- nil
  split at hk
  rotate_left
  ·cases hk
  rename_i E ys ow
  split at hk
  rotate_left
  ·cases hk
  rename_i e1
  simp only [Bool.and_eq_true] at e1
  have hfu := e1.2
  have e1 := Nat.eq_of_beq_eq_true e1.1
  split at hk
  rotate_left
  ·cases hk
  rename_i hroom
  obtain ⟨b1, b2⟩ := hroom
  rw [ZaX] at hk
  refine ⟨_, _, hk, fun ρ σ as_ hs H => ?_⟩
  obtain ⟨a, b, rfl, h3, h4⟩ := Zfp.1 hs
  rw [ZdB.1 h3]
  obtain ⟨ys', hys', hsrc⟩ := Zfr (C := C) (h := h) (E := E) (v := .sl E ys ow) (k := some) (z := ys) (by unfold Zye; simp)
  injection hys' with hys'
  subst hys'
  obtain ⟨news, src, hys⟩ := hsrc ρ σ b h4 H
  rw [<- e1] at src
  have hpos := C.pos E
  refine Zgb fun w Z hH hV1 hV2 => ?_
  by_cases hm0 : ys'.length = 0
  ·have hm0 : ys' = [] := List.eq_nil_of_length_eq_zero hm0
   subst hm0
   obtain ⟨A', c', hy, hA'⟩ := src.at_
   obtain ⟨ii, hii, hsi⟩ := Zjl hsz
   obtain ⟨g5, g6⟩ := H.newNil (U := U) e E false
   refine ⟨.lst none 0 0 [], σ, w, ?_, ⟨_, ?_, g5, g6⟩, hH, ZcF, Grow.refl _ _⟩
   ·rw [hy]
    have hf := ZbA (P := P) (w := w) (size := ii.size) (n := 0) (len := 0) (cap := c') rfl A'
    simp [Builtin.append_, run_underlying (ZaJ he), sizeOf, typeInfo, hii, Builtin.lenOf, hf]
   ·exact ZbE.2 (.inr ⟨rfl, by simp, by simp, Zav _ _ _, fun c' hc => by cases hc⟩)
  ·obtain ⟨r, σ', w', ρ', r1, r2, r3, r4, r5, r6, r7⟩ := Zqk (U := U) (ty := ty) (n := 0) (c := 0) (olds := []) (cells := []) false H hH ZcF hV2 he hsz hz hby hzs e1 hfu Znn (fun _ _ => .none) (B := none) (by simp) (fun _ => rfl) src hys (by omega) (Nat.le_refl _) (by omega) (by rw [Nat.zero_add]; exact b2)
   rw [Nat.zero_add] at r5
   exact ⟨r, σ', w', r1, ⟨ρ', r5 _ (by simp), r6, r7⟩, r2, r3, r4⟩
 ·cases hk
end
end Go.Proofs.YteempnebenjkmaaGreatDoor
namespace Go.Proofs.YteempnebenjkmaaGreatDoor
open Go.RowKit
set_option linter.unusedSimpArgs false
set_option maxRecDepth 100000
set_option linter.unusedVariables false
variable {T : Nat -> Type} {A : Type}
section
variable {U : Nat -> Prop} {C : Zaw T} {N : Nat} {ρ ρ' : Nat -> AV} {P : Program} {h h1 : List (HI T)} {d : Option Nat} {ty t t' : TypeId} {pos : String} {af : Array Edge} {g : Option (Nat × Bool)} {z : A} {k : XV T -> List (HI T) -> Option A} {vs : List (XV T)} {σ τ : St}
theorem Zym {x y : XV T} {ox oy : Operand} (hk : ZBn C P t t' x y h k = some z) : Zbl C P U ⟨d, .call ⟨.builtin .append, #[ox, oy], #[t, t']⟩, ty, pos, af, g⟩ [x, y] h k z := by
 unfold ZBn at hk
 split at hk
 rotate_left
 ·cases hk
 rename_i e kn he htn
 split at hk
 rotate_left
 ·cases hk
 rename_i sz zv by_ hsz hz hby
 split at hk
 rotate_left
 ·cases hk
 rename_i hzs
 have hzs := Nat.eq_of_beq_eq_true hzs
 split at hk
 rotate_left
 ·cases hk
 rename_i E i lo n c0 kq m
 split at hk
 rotate_left
 ·cases hk
 rename_i e' E' kp xs hi
 split at hk
 rotate_left
 ·cases hk
 rename_i hc
 simp only [Bool.and_eq_true] at hc
 obtain ⟨⟨⟨c1, c2⟩, e1⟩, hfu⟩ := hc
 have c1 := Nat.eq_of_beq_eq_true c1
 have c2 := Nat.eq_of_beq_eq_true c2
 have e1 := Nat.eq_of_beq_eq_true e1
 subst c1 c2
 split at hk
 rotate_left
 ·cases hk
 rename_i hroom
 obtain ⟨b1, b2, b3, b4, b5⟩ := hroom
 rw [ZaX] at hk
 have hpos := C.pos E
 obtain ⟨xn, hxn, hsrcx⟩ := Zfr (ZtV (C := C) (co := some c0) hi b5)
 injection hxn with hxn
 subst hxn
 have hxl : ((xs.drop lo).take n).length = n := by rw [List.length_take, List.length_drop]; omega
 refine ⟨_, _, hk, fun ρ σ as_ hs H => ?_⟩
 obtain ⟨a, b, rfl, h3, h4⟩ := Zfp.1 hs
 rw [Zam.1 h4]
 obtain ⟨cells, srcx, hxs⟩ := hsrcx ρ σ a h3 H
 rw [hxl] at srcx
 rw [<- e1] at srcx
 refine Zgb fun w Z hH hV1 hV2 => ?_
 obtain ⟨M, rfl⟩ : ∃ M : Nat, m = (M : Int) := ⟨m.toNat, by omega⟩
 rw [Int.toNat_natCast]
 rcases ZbE.1 h3 with ⟨ad, c, rfl, hA⟩ | ⟨rfl, hn0, hiN, hρi, hco⟩
 ·have hcc := hA.cap c0 rfl
  subst hcc
  have hb4 : (n + M) * by_ <= 140737488355328 := by
   have : (((n + M) * by_ : Nat) : Int) <= 140737488355328 := by rw [Int.natCast_mul, Int.natCast_add]; exact b4
   omega
  obtain ⟨cap, w', rest, r0, r1, r2, r3, r4, f1, f2, f3, f4⟩ := Znl (ty := ty) (kq := kq) (m := M) (ad := ad) (c := c) hH hV1 he htn hsz hz hby hzs (by omega) srcx (by simp) (by omega) (by omega) (by unfold maxLen; omega) hb4
  obtain ⟨g1, g2⟩ := H.newArr (U := U) kp f1 f2 e' (E := E) (K := cap) (xs := (xs.drop lo).take n) (pre := cells) (rest := rest) hxs (by rw [r4, e1]) r3 (fun hf => by
   obtain ⟨zt, hzt⟩ := ZgT hfu hf
   exact ⟨_, fun N ρ => by rw [r0, hzs]; exact hzt _ N ρ⟩)
  exact ⟨.raw (.slice (some ⟨w.heap.size, 0, none⟩) (n + M) cap), _, w', by simpa using r1, ⟨_, ZbE.2 (.inl ⟨_, _, rfl, by simp, r2, r3, by omega, ⟨w.heap.size, by rw [Nat.zero_add]; exact Zav _ _ _, fun _ => by rw [Nat.zero_mul]⟩, fun c' hc => by cases hc⟩), g1, g2⟩, f3, Zaz _, f4⟩
 ·subst hn0
  have hc0 := hco c0 rfl
  subst hc0
  have hty := ZaJ he
  obtain ⟨i', hi', hsi⟩ := Zjl hsz
  have hzi : i'.zero = some zv := by unfold ZaR at hz; rw [hi'] at hz; simpa using hz
  have hbi : i'.bytes = by_ := by unfold Zcd at hby; rw [hi'] at hby; simpa using hby
  have hb4 : M * by_ <= 140737488355328 := by
   have : ((M * by_ : Nat) : Int) <= 140737488355328 := by rw [Int.natCast_mul]; simpa using b4
   omega
  have hr := Go.Lib.run_append_grow_zeros (P := P) w t t' ty e' i' zv kq kn hty htn hi' hzi none 0 0 [] (by simp [Builtin.firstCells]) M (by omega) (by omega) (by omega) (by omega) (by rw [hbi]; omega) (growslice_fits (by omega) (by rw [hbi]; simpa using hb4))
  have hge := grownCap_ge w (0 + M) 0 e'
  have hcm := grownCap_le_maxLen w (0 + M) 0 e' (by unfold maxLen; omega)
  generalize grownCap w (0 + M) 0 e' = cap at *
  have hzz : 0 < zv.cells.size := by omega
  have harr : ([] : List Value).toArray ++ Builtin.zeroCells zv.cells M ++ Builtin.zeroCells zv.cells (cap - (0 + M)) = (((List.replicate (M + (cap - (0 + M))) ((List.range zv.cells.size).map fun i => AV.ofV (zv.cells[i % zv.cells.size]!))).flatten).map AV.val).toArray := by
   apply Array.ext'
   rw [<- List.replicate_append_replicate, List.flatten_append]
   simp only [Array.toList_append, List.map_append, Zce zv M hzz, Zce zv (cap - (0 + M)) hzz, List.nil_append]
  rw [harr] at hr
  obtain ⟨f1, f2, f3, f4⟩ := hH.made e' ((List.replicate (M + (cap - (0 + M))) ((List.range zv.cells.size).map fun i => AV.ofV (zv.cells[i % zv.cells.size]!))).flatten) (fun q hq => by
   obtain ⟨l, hl, hal⟩ := List.mem_flatten.1 hq
   have hl := (List.mem_replicate.1 hl).2
   subst hl
   obtain ⟨j, _, rfl⟩ := List.mem_map.1 hal
   exact Zcq _)
  have hxe : (xs.drop lo).take 0 = [] := List.take_zero
  have hzl : ((List.replicate (M + (cap - (0 + M))) ((List.range zv.cells.size).map fun i => AV.ofV (zv.cells[i % zv.cells.size]!))).flatten).length = (M + (cap - (0 + M))) * zv.cells.size := by
   have hq := congrArg List.length (Zce zv (M + (cap - (0 + M))) hzz)
   rw [List.length_map] at hq
   rw [hq]
   simp [size_zeroCells]
  obtain ⟨g1, g2⟩ := H.newArr (U := U) kp f1 f2 e' (E := E) (K := cap) (xs := (xs.drop lo).take 0) (pre := []) (rest := (List.replicate (M + (cap - (0 + M))) ((List.range zv.cells.size).map fun i => AV.ofV (zv.cells[i % zv.cells.size]!))).flatten) (fun _ _ => by rw [hxe]; exact .none) (by
   rw [List.nil_append, hzl, hzs, e1]
   congr 1
   omega) hcm (fun hf => by
   obtain ⟨zt, hzt⟩ := ZgT hfu hf
   exact ⟨_, fun N ρ => by rw [hzs]; exact hzt _ N ρ⟩)
  refine ⟨.raw (.slice (some ⟨w.heap.size, 0, none⟩) (0 + M) cap), _, _, by simpa using hr, ⟨_, ZbE.2 (.inl ⟨_, _, rfl, by simp, hge, hcm, by omega, ⟨w.heap.size, by rw [Nat.zero_add]; exact Zav _ _ _, fun _ => by rw [Nat.zero_mul]⟩, fun c' hc => by cases hc⟩), g1, g2⟩, f3, Zaz _, f4⟩
theorem Zrd {i e E : Nat} {kp : Bool} {xs : List (T E)} (H : Hp C ρ h σ) (hi : h[i]? = some (.arr e E kp xs)) (hρ : ρ i = .lst none 0 0 []) : xs = [] := by
 rcases H.it i _ hi with ⟨b', K, pre, rest, q1, _⟩ | ⟨_, q⟩
 ·rw [hρ] at q1; cases q1
 ·exact q
theorem ZvV {x y : XV T} {ox oy : Operand} (hU0 : ∀ E i lo n co, x = .as E i lo n co -> U i) (hk : Zyf C P t x y h k = some z) : Zbl C P U ⟨d, .call ⟨.builtin .copy, #[ox, oy], #[t, t']⟩, ty, pos, af, g⟩ [x, y] h k z := by
 unfold Zyf at hk
 split at hk
 ·cases hk
 rename_i e he
 split at hk
 rotate_left
 ·cases hk
 rename_i sz hsz
 split at hk
 rotate_left
 ·cases hk
 rename_i E i lo n co
 have hU := hU0 _ _ _ _ _ rfl
 split at hk
 rotate_left
 ·cases hk
 rename_i e' E' kp xs hi
 split at hk
 rotate_left
 ·cases hk
 rename_i hc
 simp only [Bool.and_eq_true] at hc
 obtain ⟨⟨c1, c2⟩, e1⟩ := hc
 have c1 := Nat.eq_of_beq_eq_true c1
 have c2 := Nat.eq_of_beq_eq_true c2
 have e1 := Nat.eq_of_beq_eq_true e1
 subst c1 c2
 obtain ⟨ys, hk2, hsrc⟩ := Zfr hk
 clear hk
 have hk := hk2
 clear hk2
 split at hk
 rotate_left
 ·cases hk
 rename_i hlo
 rw [ZaX] at hk
 have hpos := C.pos E
 refine ⟨_, _, hk, fun ρ σ as_ hs H => ?_⟩
 obtain ⟨a, b, rfl, h3, h4⟩ := Zfp.1 hs
 obtain ⟨news, src, hys⟩ := hsrc ρ σ b h4 H
 have htk : (ys.take n).length = min ys.length n := by rw [List.length_take]; omega
 refine .inr ⟨rfl, fun ρv hρ w Z hH hV => ?_⟩
 have hρ' := hρ
 simp [Op.operands, Call.operands] at hρ'
 rcases ZbE.1 h3 with ⟨ad, c, rfl, hA⟩ | ⟨rfl, hn0, hiN, hρi, hco⟩
 ·obtain ⟨bb, q1, q2⟩ := hA.at_
  obtain ⟨pre, rest, hb2, hb3, hb4, hb5, hb6⟩ := H.arrAt hi q1
  have hle := hA.le
  have hm1 : (lo + n) * C.sz E <= (lo + c) * C.sz E := Nat.mul_le_mul_right _ (by omega)
  rw [<- e1] at src
  obtain ⟨w', r1, r2, r3⟩ := copy_ (t' := t') (ty := ty) (lo := lo) (n := n) (c := c) hH (hV b (by simp)) he hsz (by omega) hb2 (by rw [hb5, e1]; exact hm1) (by rw [e1]; exact fun h0 => q2 (by omega)) src
  rw [e1] at r2 r3
  have hst : ∀ N ρ, SVs C N ρ ((ys.take n).flatMap (C.enc E)) (news.take (min ys.length n * C.sz E)) := fun N ρ => by
   have := (hys N ρ).take (min ys.length n * C.sz E)
   rw [Zc2] at this
   have hmin : ys.take (min ys.length n) = ys.take n := by
    rw [Nat.min_comm, List.take_eq_take_iff]
    omega
   rw [hmin] at this
   exact this
  obtain ⟨g1, g2⟩ := H.spliceArr hU hi q1 hb2 hlo hst (by rw [htk]; omega)
  rw [htk] at g1 g2
  refine ⟨.raw (goInt ((min ys.length n : Nat) : Int)), _, w', .inl ?_, ⟨ρ, Zam.2 rfl, g1, g2⟩, r2, Zaz _, r3⟩
  simp only [AV.val_raw] at hρ' r1
  simp [execOp, resolve, invoke, builtin, hρ', r1]
 ·subst hn0
  have hxs := Zrd H hi hρi
  subst hxs
  have hset : h.set i (.arr e' E kp (List.take lo [] ++ ys.take 0 ++ List.drop (lo + min ys.length 0) [])) = h := by
   simp only [List.take_nil, List.drop_nil, List.append_nil, List.take_zero]
   exact ZkM hi
  rw [hset]
  obtain ⟨A', c', hy, hA'⟩ := src.at_
  obtain ⟨ii, hii, hsi⟩ := Zjl hsz
  have hf := ZbA (P := P) (w := w) (size := ii.size) (n := 0) (len := ys.length) (cap := c') rfl A'
  refine ⟨.raw (goInt ((min ys.length 0 : Nat) : Int)), σ, w, .inl ?_, ⟨ρ, Zam.2 rfl, H, .refl _ _ _ _⟩, hH, Zaz _, Grow.refl _ _⟩
  rw [hy] at hρ'
  simp only [AV.val_lst] at hρ'
  simp [execOp, resolve, invoke, builtin, hρ', Builtin.copy_, run_underlying (ZaJ he), sizeOf, typeInfo, hii, Builtin.lenOf, hf]
theorem ZgU {α : Type} (n : Nat) (l : List α) : ((List.replicate n l).flatten).length = n * l.length := by
 induction n with
 | zero => simp
 | succ n ih => rw [List.replicate_succ, List.flatten_cons, List.length_append, ih, Nat.succ_mul]; omega
theorem ZtW {x : XV T} {ox : Operand} (hU0 : ∀ E i lo n co, x = .as E i lo n co -> U i) (hk : ZtO C P t x h k = some z) : Zbl C P U ⟨d, .call ⟨.builtin .clear, #[ox], #[t]⟩, ty, pos, af, g⟩ [x] h k z := by
 unfold ZtO at hk
 split at hk
 ·cases hk
 rename_i e he
 split at hk
 rotate_left
 ·cases hk
 rename_i sz zv hsz hz
 split at hk
 rotate_left
 ·cases hk
 rename_i hzs
 have hzs := Nat.eq_of_beq_eq_true hzs
 split at hk
 rotate_left
 ·cases hk
 rename_i E i lo n co
 have hU := hU0 _ _ _ _ _ rfl
 split at hk
 rotate_left
 ·cases hk
 rename_i e' E' kp xs hi
 split at hk
 rotate_left
 ·cases hk
 rename_i hc
 simp only [Bool.and_eq_true] at hc
 obtain ⟨⟨c1, c2⟩, e1⟩ := hc
 have c1 := Nat.eq_of_beq_eq_true c1
 have c2 := Nat.eq_of_beq_eq_true c2
 have e1 := Nat.eq_of_beq_eq_true e1
 subst c1 c2
 obtain ⟨zt, hk2, hzt⟩ := Zga hk
 clear hk
 have hk := hk2
 clear hk2
 split at hk
 rotate_left
 ·cases hk
 rename_i hlo
 rw [ZaX] at hk
 have hpos := C.pos E
 refine ⟨_, _, hk, fun ρ σ as_ hs H => ?_⟩
 obtain ⟨a, rfl, h3⟩ := Zef.1 hs
 refine .inr ⟨rfl, fun ρv hρ w Z hH hV => ?_⟩
 have hρ' := hρ
 simp [Op.operands, Call.operands] at hρ'
 have hv := Zce zv n (by omega)
 rw [hzs] at hv
 rcases ZbE.1 h3 with ⟨ad, c, rfl, hA⟩ | ⟨rfl, hn0, hiN, hρi, hco⟩
 ·obtain ⟨bb, q1, q2⟩ := hA.at_
  obtain ⟨pre, rest, hb2, hb3, hb4, hb5, hb6⟩ := H.arrAt hi q1
  have hle := hA.le
  have hm1 : (lo + n) * C.sz E <= (lo + c) * C.sz E := Nat.mul_le_mul_right _ (by omega)
  have hones := (hzt n h.length ρ).ones fun v hv => ZdJ (ZbZ _ v hv)
  obtain ⟨w', r1, r2, r3⟩ := clear_ (P := P) (t := t) (ty := ty) (lo := lo) (n := n) (c := c) (ad := ad) hH he hz hzs (by omega) hb2 (by rw [hb5, e1]; exact hm1) (by rw [e1]; exact fun h0 => q2 (by omega)) hv hones (fun a ha => by
   obtain ⟨l, hl, hal⟩ := List.mem_flatten.1 ha
   have hl := (List.mem_replicate.1 hl).2
   subst hl
   obtain ⟨j, _, rfl⟩ := List.mem_map.1 hal
   exact Zcq _)
  rw [e1] at r2 r3
  obtain ⟨g1, g2⟩ := H.spliceArr (ys := List.replicate n zt) hU hi q1 hb2 hlo (fun N ρ => by have := hzt n N ρ; rw [e1] at this; exact this) (by rw [List.length_replicate]; omega)
  rw [List.length_replicate] at g1 g2
  refine ⟨.raw (.tuple #[]), _, w', .inl ?_, ⟨ρ, Zbq, g1, g2⟩, r2, Zaz _, r3⟩
  simp only [AV.val_raw] at hρ' r1
  simp [execOp, resolve, invoke, builtin, hρ', r1]
 ·subst hn0
  have hxs := Zrd H hi hρi
  subst hxs
  have hset : h.set i (.arr e' E kp (List.take lo [] ++ List.replicate 0 zt ++ List.drop (lo + 0) [])) = h := by
   simp only [List.take_nil, List.drop_nil, List.append_nil, List.replicate_zero]
   exact ZkM hi
  rw [hset]
  refine ⟨.raw (.tuple #[]), σ, w, .inl ?_, ⟨ρ, Zbq, H, .refl _ _ _ _⟩, hH, Zaz _, Grow.refl _ _⟩
  simp only [AV.val_lst] at hρ'
  simp [execOp, resolve, invoke, builtin, hρ', Builtin.clear_, run_underlying (ZaJ he)]
theorem ZvW {x y : XV T} {ox oy : Operand} (hk : Zyg C P t x y h k = some z) : Zbl C P U ⟨d, .makeSlice t ox oy, ty, pos, af, g⟩ [x, y] h k z := by
 unfold Zyg at hk
 split at hk
 ·cases hk
 rename_i e he
 split at hk
 rotate_left
 ·cases hk
 rename_i sz zv by_ E hsz hz hby hE
 split at hk
 rotate_left
 ·cases hk
 rename_i hc
 simp only [Bool.and_eq_true] at hc
 have hzs := Nat.eq_of_beq_eq_true hc.1
 have e1 := Nat.eq_of_beq_eq_true hc.2
 split at hk
 rotate_left
 ·cases hk
 rename_i kl l kc c
 split at hk
 rotate_left
 ·cases hk
 rename_i hb
 obtain ⟨b1, b2, b3, b4⟩ := hb
 obtain ⟨zt, hk2, hzt⟩ := Zga hk
 clear hk
 have hk := hk2
 clear hk2
 rw [ZaX] at hk
 have hpos := C.pos E
 refine ⟨_, _, hk, fun ρ σ as_ hs H => ?_⟩
 obtain ⟨a, b, rfl, h3, h4⟩ := Zfp.1 hs
 rw [Zam.1 h3, Zam.1 h4]
 refine .inr ⟨rfl, fun ρv hρ w Z hH hV => ?_⟩
 have hρ' := hρ
 simp [Op.operands] at hρ'
 have hty := ZaJ he
 obtain ⟨i, hi, hsi⟩ := Zjl hsz
 have hzi : i.zero = some zv := by unfold ZaR at hz; rw [hi] at hz; simpa using hz
 have hbi : i.bytes = by_ := by unfold Zcd at hby; rw [hi] at hby; simpa using hby
 have hr := run_make (P := P) w t e i zv hty hi hzi kl kc l c b1 b2 (by rw [hbi]; omega) (by omega)
 have hv := Zce zv c.toNat (by omega)
 rw [hzs] at hv
 have harr : madeCells zv.cells (c.toNat * i.size) = ((((List.replicate c.toNat ((List.range sz).map fun i => AV.ofV (zv.cells[i % sz]!))).flatten)).map AV.val).toArray := by
  rw [hv]
  simp [madeCells, Builtin.zeroCells, hsi, hzs]
  apply Array.ext'
  simp
 rw [harr] at hr
 obtain ⟨f1, f2⟩ := hH.fresh
 have f3 := hH.alloc_own e ((List.replicate c.toNat ((List.range sz).map fun i => AV.ofV (zv.cells[i % sz]!))).flatten) (fun a ha => by
  obtain ⟨l, hl, hal⟩ := List.mem_flatten.1 ha
  have hl := (List.mem_replicate.1 hl).2
  subst hl
  obtain ⟨j, _, rfl⟩ := List.mem_map.1 hal
  exact Zcq _)
 have f4 := Grow.alloc hH (.cells ((((List.replicate c.toNat ((List.range sz).map fun i => AV.ofV (zv.cells[i % sz]!))).flatten)).map AV.val).toArray e) (.own e ((List.replicate c.toNat ((List.range sz).map fun i => AV.ofV (zv.cells[i % sz]!))).flatten))
 obtain ⟨g1, g2⟩ := H.newArr (U := U) true f1 f2 e (E := E) (K := c.toNat) (xs := List.replicate c.toNat zt) (pre := (List.replicate c.toNat ((List.range sz).map fun i => AV.ofV (zv.cells[i % sz]!))).flatten) (rest := []) (fun N ρ => hzt c.toNat N ρ) (by rw [List.append_nil, ZgU, List.length_map, List.length_range, e1]) (by unfold maxLen; omega) (fun _ => ⟨[], fun _ _ => .none⟩)
 rw [List.append_nil] at g1 g2
 refine ⟨.raw (.slice (some ⟨w.heap.size, 0, none⟩) l.toNat c.toNat), _, _, .inl ?_, ⟨_, ZbE.2 (.inl ⟨_, _, rfl, by simp, by omega, by unfold maxLen; omega, by omega, ⟨w.heap.size, by rw [Nat.zero_add]; exact Zav _ _ _, fun _ => by rw [Nat.zero_mul]⟩, fun c' hc => by injection hc⟩), g1, g2⟩, f3, Zaz _, f4⟩
 simp [execOp, hρ', hr]
theorem Zyn {ts : Array TypeId} {as_ : Array Operand} {E i lo n c : Nat} {e : TypeId} (hts : ts[0]? = some t) (he : Zaq P t = some e) (hk : k (.int .i64 (c : Nat)) h = some z) (has : as_.size = 1) : Zbl C P U ⟨d, .call ⟨.builtin .cap, as_, ts⟩, ty, pos, af, g⟩ [.as E i lo n (some c)] h k z := by
 refine ⟨_, h, hk, Zle.same fun ρ σ vs K hs H hK => ?_⟩
 obtain ⟨a, rfl, h3⟩ := Zef.1 hs
 refine .inl ⟨.int .i64 (c : Nat), fun ρ' hρ w => ?_, hK _ (Zam.2 rfl)⟩
 have hav : ∃ A, a.val = .slice A n c := by
  rcases ZbE.1 h3 with ⟨ad, c', rfl, hA⟩ | ⟨rfl, hn0, hiN, hρi, hco⟩
  ·rw [<- hA.cap c rfl]; exact ⟨some ad, by simp⟩
  ·rw [hn0, hco c rfl]; exact ⟨none, by simp⟩
 obtain ⟨A, hA⟩ := hav
 have hts' : ts.toList[0]? = some t := by rw [<- hts]; simp
 simp [Op.operands, Call.operands, hA] at hρ
 obtain ⟨q, hq, hρ⟩ := hρ
 have hq' : as_ = #[q] := by
  cases as_
  simpa using hq
 subst hq'
 simp [execOp, resolve, invoke, builtin, Builtin.cap_, hρ, hts, run_underlying (ZaJ he), goInt]
end
end Go.Proofs.YteempnebenjkmaaGreatDoor
namespace Go.Proofs.YteempnebenjkmaaGreatDoor
open Go.RowKit
set_option linter.unusedSimpArgs false
set_option maxRecDepth 100000
set_option linter.unusedVariables false
variable {T : Nat -> Type} {A : Type}
section
variable {U : Nat -> Prop} {C : Zaw T} {N : Nat} {ρ ρ' : Nat -> AV} {P : Program} {h h1 : List (HI T)} {d : Option Nat} {ty t t' : TypeId} {pos : String} {af : Array Edge} {g : Option (Nat × Bool)} {z : A} {k : XV T -> List (HI T) -> Option A} {vs : List (XV T)} {σ τ : St}
theorem Zyo {E : Nat} {kk : IntKind} {tb : List (Int × List (T E))} {a : AV} : SV C N ρ (.mp E kk tb) a ↔ ∃ b ls, a = .mp b (tb.map fun p => Value.int kk p.1) ls /\ SVs C N ρ (tb.map fun p => XV.sl E p.2 none) ls :=
 ⟨fun h => by cases h; exact ⟨_, _, rfl, ‹_›⟩, fun ⟨b, ls, e, h⟩ => by subst e; exact .mp E kk tb b ls h .none⟩
theorem Zll {α : Type} {kk : IntKind} {n : Int} : ∀ {tb : List (Int × α)} {es : List MapEntry} (i : Nat), es.map (·.key) = tb.map (fun p => Value.int kk p.1) ->
 (lkp tb n = none /\ Instr.findNow (.int kk) (.int kk n) es i = some none) \/ ∃ j v x, lkp tb n = some x /\ tb[j]?.map (·.2) = some x /\ es[j]?.map (·.val) = some v /\ Instr.findNow (.int kk) (.int kk n) es i = some (some (i + j, v))
 | [], [], i, _ => .inl ⟨rfl, rfl⟩
 | [], e :: es, i, h => by simp at h
 | p :: tb, [], i, h => by simp at h
 | p :: tb, e :: es, i, h => by
  simp only [List.map_cons, List.cons.injEq] at h
  obtain ⟨h1, h2⟩ := h
  unfold lkp Instr.findNow
  rw [h1]
  have hs : Instr.sameNow (.int kk) (.int kk n) (.int kk p.1) = some (n == p.1) := by simp [Instr.sameNow]
  rw [hs]
  by_cases hp : n = p.1
  ·right
   refine ⟨0, e.val, p.2, by rw [decide_eq_true hp]; rfl, rfl, rfl, ?_⟩
   rw [show (n == p.1) = true from by simpa using hp]
   rfl
  ·rw [decide_eq_false hp, show (n == p.1) = false from by simpa using hp]
   rcases Zll (i + 1) h2 with ⟨g1, g2⟩ | ⟨j, v, x, g1, g2, g3, g4⟩
   ·exact .inl ⟨g1, g2⟩
   ·exact .inr ⟨j + 1, v, x, g1, by simpa using g2, by simpa using g3, by rw [show i + (j + 1) = i + 1 + j from by omega]; exact g4⟩
theorem Zlm {t kt et : TypeId} {kd : IntKind} {zv : Value} {b c : Nat} {es : Array MapEntry} {n : Int} {w : World} {comma : Bool} {r : Option (Nat × Value)} (ht : P.underlying t = some (.map kt et)) (hkt : P.underlying kt = some (.int kd)) (hz : ZaR P et = some zv)
 (hb : w.heap[b]? = some (.map es c)) (hf : Instr.findNow (.int kd) (.int kd n) es.toList 0 = some r) :
 (Instr.lookup t (.map (some b)) (.int kd n) comma).run P w = .ok (if comma then .tuple #[match r with | some (_, v) => v | none => zv, .bool r.isSome] else match r with | some (_, v) => v | none => zv) w := by
 have ho : (getObj b).run P w = .ok (.map es c) w := by simp [getObj, Sem.run, hb]
 have hck : (Instr.checkKey es.isEmpty 10000 kt (.int kd n)).run P w = .ok () w := by
  rw [show (10000 : Nat) = 9999 + 1 from rfl]
  unfold Instr.checkKey
  rw [Sem.run_bind, run_underlying hkt]
  rfl
 have hfk : (Instr.findKey kt (.int kd n) es.toList).run P w = .ok r w := by
  unfold Instr.findKey
  rw [Sem.run_bind, run_underlying hkt]
  dsimp only [Result.andThen]
  rw [hf]
  rfl
 unfold Instr.lookup
 rw [Sem.run_bind, run_underlying ht]
 dsimp only [Result.andThen]
 rw [Sem.run_bind, ho]
 dsimp only [Result.andThen]
 rw [Sem.run_bind, Sem.run_pure]
 dsimp only [Result.andThen]
 rw [Sem.run_bind, hck]
 dsimp only [Result.andThen]
 rw [Sem.run_bind, hfk]
 dsimp only [Result.andThen]
 cases r with
 | none =>
  dsimp only
  rw [Sem.run_bind, Zci hz]
  cases comma <;> rfl
 | some x => cases comma <;> rfl
theorem Zsz {E : Nat} {kk k' : IntKind} {tb : List (Int × List (T E))} {n : Int} {ox oi : Operand} {comma : Bool} (hk : Zqe P t comma E kk tb k' n h k = some z) : Zbl C P U ⟨d, .lookup t ox oi comma, ty, pos, af, g⟩ [.mp E kk tb, .int k' n] h k z := by
 unfold Zqe at hk
 split at hk
 rotate_left
 ·cases hk
 rename_i kd et hm
 unfold ZCk at hm
 split at hm
 rotate_left
 ·cases hm
 rename_i kt et' ht
 split at hm
 rotate_left
 ·cases hm
 rename_i kd' hkt
 injection hm with hm
 injection hm with e1 e2
 subst e1 e2
 split at hk
 rotate_left
 ·cases hk
 rename_i hz
 split at hk
 rotate_left
 ·cases hk
 rename_i hkk
 obtain ⟨e1, e2⟩ := hkk
 subst e1
 subst e2
 have key : ∃ rx : XV T, k rx h = some z /\ ∀ ρ b ls, SVs C h.length ρ (tb.map fun p => XV.sl E p.2 none) ls -> ∀ w B, Zae w B (.mp b (tb.map fun p => Value.int kd' p.1) ls) ->
  ∃ r : AV, SV C h.length ρ rx r /\ Zae w B r /\ (Instr.lookup t (.map (some b)) (.int kd' n) comma).run P w = .ok r.val w := by
  have base : ∀ ρ b ls, SVs C h.length ρ (tb.map fun p => XV.sl E p.2 none) ls -> ∀ w B, Zae w B (.mp b (tb.map fun p => Value.int kd' p.1) ls) ->
   ∃ r : AV, SV C h.length ρ (.sl E ((lkp tb n).getD []) none) r /\ Zae w B r /\ (Instr.lookup t (.map (some b)) (.int kd' n) comma).run P w = .ok (if comma then .tuple #[r.val, .bool (lkp tb n).isSome] else r.val) w := by
   intro ρ b ls hl w B hV
   unfold Zae at hV
   obtain ⟨_, ⟨es, c, h1, h2, h3⟩, h4⟩ := hV
   rw [AV.vals_map] at h3
   rcases Zll (kk := kd') (n := n) (tb := tb) (es := es.toList) 0 h2 with ⟨g1, g2⟩ | ⟨j, v, x, g1, g2, g3, g4⟩
   ·refine ⟨.lst none 0 0 [], ?_, ZcF, ?_⟩
    ·rw [g1]
     exact (Wk.nil E).sv (ZdB.2 rfl)
    ·rw [Zlm ht hkt hz h1 g2, g1]
     cases comma <;> simp
   ·have hj : ∃ p, tb[j]? = some p /\ p.2 = x := by
     cases hq : tb[j]? with
     | none => rw [hq] at g2; cases g2
     | some p => rw [hq] at g2; injection g2 with g2; exact ⟨p, rfl, g2⟩
    obtain ⟨p, hp, rfl⟩ := hj
    obtain ⟨a, ha, hsa⟩ := hl.get (i := j) (x := XV.sl E p.2 none) (by rw [List.getElem?_map, hp]; rfl)
    have hav : a.val = v := by
     have := congrArg (·[j]?) h3
     simp only [List.getElem?_map, ha, g3] at this
     injection this with this
     exact this.symm
    refine ⟨a, by rw [g1]; exact hsa, ZaI.iff.1 h4 a (List.mem_of_getElem? ha), ?_⟩
    rw [Zlm ht hkt hz h1 g4, g1, hav]
    cases comma <;> simp
  cases comma
  ·refine ⟨_, hk, fun ρ b ls hl w B hV => ?_⟩
   obtain ⟨r, r1, r2, r3⟩ := base ρ b ls hl w B hV
   exact ⟨r, r1, r2, by simpa using r3⟩
  ·refine ⟨_, hk, fun ρ b ls hl w B hV => ?_⟩
   obtain ⟨r, r1, r2, r3⟩ := base ρ b ls hl w B hV
   refine ⟨.tup [r, .raw (.bool (lkp tb n).isSome)], ZeU.2 ⟨_, rfl, .cons r1 (ZaO.2 rfl)⟩, ?_, by simpa using r3⟩
   unfold Zae
   exact ZaI.iff.2 (by simp [r2, Zaz])
 obtain ⟨rx, k1, k2⟩ := key
 refine ⟨_, _, k1, fun ρ σ as_ hs H => ?_⟩
 obtain ⟨a, b, rfl, h3, h4⟩ := Zfp.1 hs
 obtain ⟨bm, ls, rfl, h5⟩ := Zyo.1 h3
 rw [Zam.1 h4]
 refine .inr ⟨rfl, fun ρv hρ w Z hH hV => ?_⟩
 have hρ' := hρ
 simp [Op.operands] at hρ'
 obtain ⟨r, r1, r2, r3⟩ := k2 ρ bm ls h5 w _ (hV _ (by simp))
 exact ⟨r, σ, w, .inl (by simp [execOp, hρ', r3]), ⟨ρ, r1, H, .refl _ _ _ _⟩, hH, r2, Grow.refl _ _⟩
end
end Go.Proofs.YteempnebenjkmaaGreatDoor
namespace Go.Proofs.YteempnebenjkmaaGreatDoor
open Go.RowKit
set_option linter.unusedSimpArgs false
set_option maxRecDepth 100000
set_option linter.unusedVariables false
section
variable {P : Program} {w : World} {σ : St} {Z : Nat -> Prop}
def ZdC (w : World) (b : Nat) (es : Array MapEntry) (c : Nat) : World := { w with heap := w.heap.setIfInBounds b (.map es c) }
theorem Zql {b c c' : Nat} {es es' : Array MapEntry} (hb : w.heap[b]? = some (.map es c)) : (ZdC w b es' c').heap[b]? = some (.map es' c') := by
 have hlt : b < w.heap.size := (Array.getElem?_eq_some_iff.1 hb).1
 simp [ZdC, hlt]
theorem ZdW {b b' c' : Nat} {es' : Array MapEntry} (hne : b' ≠ b) : (ZdC w b es' c').heap[b']? = w.heap[b']? := by
 simp [ZdC, Ne.symm hne]
theorem ZoC {a : Array MapEntry} {c : Nat} {x : MapEntry} (h1 : ∀ n ∈ a.toList.map fun e : MapEntry => e.born, n < c) (h2 : (a.toList.map fun e : MapEntry => e.born).Nodup) (hx : x.born = c := by rfl) : (∀ n ∈ (a.push x).toList.map fun e : MapEntry => e.born, n < c + 1) /\ ((a.push x).toList.map fun e : MapEntry => e.born).Nodup := by
 rw [Array.toList_push, List.map_append, List.map_cons, List.map_nil, hx]
 refine ⟨fun n hn => ?_, ?_⟩
 ·rcases List.mem_append.1 hn with hn | hn
  ·have := h1 n hn; omega
  ·rw [List.mem_singleton.1 hn]; omega
 ·rw [List.nodup_append]
  refine ⟨h2, by simp, fun n hn m hm e => ?_⟩
  rw [List.mem_singleton.1 hm] at e
  have := h1 n hn
  omega
theorem Zln (a : Array MapEntry) (j : Nat) (f : MapEntry -> MapEntry) (hf : ∀ e, (f e).born = e.born) : ((a.modify j f).toList.map fun e : MapEntry => e.born) = a.toList.map fun e : MapEntry => e.born := by
 rw [Array.toList_modify]
 generalize a.toList = l
 induction l generalizing j with
 | nil => cases j <;> rfl
 | cons x l ih => cases j with
  | zero =>
   show (f x).born :: _ = _
   rw [hf]
   rfl
  | succ j =>
   show x.born :: ((l.modify j f).map fun e : MapEntry => e.born) = _
   rw [ih]
   rfl
theorem Zre (K V : MK) : ∀ es : List (K.ty × V.ty), Ztp (es.map fun p => (K.val p.1, V.val p.2)) = 0
 | [] => rfl
 | p :: es => by
  cases K <;> rfl
theorem Zaj.alloc_map (h : Zaj w σ Z) : Zaj (w.alloc (.map #[] 0)) (σ.put w.heap.size (.map [])) Z := by
 have hg := Grow.alloc h (.map #[] 0) (.map [])
 refine ⟨fun b hu => ?_, fun b hz => ?_, fun b t' cs' hb => ?_, fun b t' k s hb => ?_, fun b es hb => ?_⟩
 ·simp only [World.size_alloc]
  rcases hu with hu | rfl
  ·have := h.used _ hu; omega
  ·omega
 ·obtain ⟨h1, h2⟩ := h.z _ hz
  refine ⟨by simp only [World.size_alloc]; omega, ?_⟩
  have hne : b ≠ w.heap.size := by omega
  show (if b = w.heap.size then _ else σ.blk b) = none
  rw [if_neg hne]; exact h2
 ·change (if b = w.heap.size then some (Bk.map []) else σ.blk b) = _ at hb
  split at hb
  ·injection hb with hb; cases hb
  ·obtain ⟨h1, h2, h3⟩ := h.own _ _ _ hb
   exact ⟨.inl h1, (Below.heap_alloc _ _ _ (h.used _ h1)).trans h2, fun c hc => hg.valid (h3 c hc)⟩
 ·change (if b = w.heap.size then some (Bk.map []) else σ.blk b) = _ at hb
  split at hb
  ·injection hb with hb; cases hb
  ·obtain ⟨h1, cs', h2, h3⟩ := h.tail _ _ _ _ hb
   exact ⟨.inl h1, cs', (Below.heap_alloc _ _ _ (h.used _ h1)).trans h2, h3⟩
 ·change (if b = w.heap.size then some (Bk.map []) else σ.blk b) = _ at hb
  split at hb
  ·rename_i hbb
   injection hb with hb
   injection hb with hb
   subst hb hbb
   exact ⟨.inr rfl, .map #[] 0, (), heap_alloc_new _ _, .inl ⟨rfl, rfl, by simp, by simp⟩⟩
  ·obtain ⟨h1, a, c, h2, h3⟩ := h.map _ _ hb
   exact ⟨.inl h1, a, c, (Below.heap_alloc _ _ _ (h.used _ h1)).trans h2, h3⟩
theorem Zaj.write_map (hH : Zaj w σ Z) {b c c' : Nat} {es : List (Value × Value)} {a a' : Array MapEntry} (hb : σ.blk b = some (.map es)) (hh : w.heap[b]? = some (.map a c)) (hfr : (∀ n ∈ a'.toList.map fun e : MapEntry => e.born, n < c') /\ (a'.toList.map fun e : MapEntry => e.born).Nodup) (ht : Ztp (a'.toList.map fun e : MapEntry => (e.key, e.val)) = 0) :
 Zaj (ZdC w b a' c') (σ.set b (.map (a'.toList.map fun e : MapEntry => (e.key, e.val)))) Z /\ Grow w σ (ZdC w b a' c') (σ.set b (.map (a'.toList.map fun e : MapEntry => (e.key, e.val)))) := by
 obtain ⟨hu, _⟩ := hH.map _ _ hb
 have hg : Grow w σ (ZdC w b a' c') (σ.set b (.map (a'.toList.map fun e : MapEntry => (e.key, e.val)))) := by
  refine ⟨rfl, rfl, rfl, by simp [ZdC], fun _ _ h => h, fun b' hb' hn' => ?_, fun b' t' k s hb' ht' => ?_, fun _ h => h⟩
  ·have hne : b' ≠ b := by rintro rfl; rw [hb] at hn'; cases hn'
   exact ⟨ZdW hne, by show (if b' = b then _ else σ.blk b') = _; rw [if_neg hne]; exact hn'⟩
  ·have hne : b' ≠ b := by rintro rfl; rw [hb] at ht'; cases ht'
   refine ⟨fun j v _ hv => ?_, .inr ⟨t', k, s, ?_, Nat.le_refl _⟩⟩
   ·rw [World.cell?_of_block (w := w) (ZdW hne)]; exact hv
   ·show (if b' = b then _ else σ.blk b') = _
    rw [if_neg hne]; exact ht'
 refine ⟨⟨fun b' hu' => ?_, fun b' hz => ?_, fun b' t' cs2 hb' => ?_, fun b' t' k s hb' => ?_, fun b' es' hb' => ?_⟩, hg⟩
 ·have := hH.used _ hu'; simpa [ZdC] using this
 ·obtain ⟨z1, z2⟩ := hH.z _ hz
  have hne : b' ≠ b := by rintro rfl; rw [hb] at z2; cases z2
  refine ⟨by simpa [ZdC] using z1, ?_⟩
  show (if b' = b then _ else σ.blk b') = _
  rw [if_neg hne]; exact z2
 ·change (if b' = b then _ else σ.blk b') = _ at hb'
  split at hb'
  ·injection hb' with hb'; cases hb'
  ·rename_i hne
   obtain ⟨g1, g2, g3⟩ := hH.own _ _ _ hb'
   exact ⟨g1, (ZdW hne).trans g2, fun c hc => hg.valid (g3 c hc)⟩
 ·change (if b' = b then _ else σ.blk b') = _ at hb'
  split at hb'
  ·injection hb' with hb'; cases hb'
  ·rename_i hne
   obtain ⟨g1, cs2, g2, g3⟩ := hH.tail _ _ _ _ hb'
   exact ⟨g1, cs2, (ZdW hne).trans g2, g3⟩
 ·change (if b' = b then _ else σ.blk b') = _ at hb'
  split at hb'
  ·rename_i hbb
   injection hb' with hb'
   injection hb' with hb'
   subst hb' hbb
   exact ⟨hu, .map a' c', (), Zql hh, .inl ⟨ht, rfl, hfr⟩⟩
  ·rename_i hne
   obtain ⟨g1, a2, c2, g2, g3⟩ := hH.map _ _ hb'
   exact ⟨g1, a2, c2, (ZdW hne).trans g2, g3⟩
end
variable {T : Nat -> Type} {A : Type}
section
variable {U : Nat -> Prop} {C : Zaw T} {N : Nat} {ρ ρ' : Nat -> AV} {P : Program} {h h1 : List (HI T)} {d : Option Nat} {ty t t' : TypeId} {pos : String} {af : Array Edge} {g : Option (Nat × Bool)} {z : A} {k : XV T -> List (HI T) -> Option A} {vs : List (XV T)} {σ τ : St} {b : Nat}
theorem ZkN {b c : Nat} (h : Zc9 b = Zc9 c) : b = c := by
 unfold Zc9 at h
 injection h with h
 injection h with h
 injection h with h
theorem Hp.newMap (H : Hp C ρ h σ) (hb : ¬ σ.used b) (hn : σ.blk b = none) (K V : MK) :
 Hp C (rup ρ h.length (Zc9 b)) (h ++ [.mmap K V []]) (σ.put b (.map [])) /\ Rel U ρ h σ (rup ρ h.length (Zc9 b)) (h ++ [.mmap K V []]) (σ.put b (.map [])) /\ SV C (h ++ [HI.mmap K V []]).length (rup ρ h.length (Zc9 b)) (.mo h.length) (Zc9 b) := by
 have hext : ∀ i, i < h.length -> rup ρ h.length (Zc9 b) i = ρ i := fun i hi => ZdV (by omega)
 have hlen : h.length <= (h ++ [HI.mmap K V []]).length := by simp
 have hnew : ∀ i x c, h[i]? = some x -> x.alive = true -> (ρ i).owns c -> c ≠ b := fun i x c h1 h2 h3 e => by
  subst e
  exact hb (H.used ⟨i, x, h1, h2, h3⟩)
 have hsh : ∀ i x, h[i]? = some x -> SH C (h ++ [HI.mmap K V []]).length (rup ρ h.length (Zc9 b)) (σ.put b (.map [])) i x := fun i x hx => by
  have hi := ZaA hx
  have := H.it i x hx
  cases x with
  | obj t' cs' =>
   obtain ⟨b', acs', h1, h2, h3, h4⟩ := this
   have hne : b' ≠ b := hnew i _ b' hx rfl (by rw [h1]; rfl)
   exact ⟨b', acs', (hext i hi).trans h1, by rw [Zat _ _ hne]; exact h2, .inl h3, h4.ext hlen hext⟩
  | mmap K V es =>
   obtain ⟨b', h1, h2, h3⟩ := this
   have hne : b' ≠ b := hnew i _ b' hx rfl (by rw [h1]; rfl)
   exact ⟨b', (hext i hi).trans h1, by rw [Zat _ _ hne]; exact h2, .inl h3⟩
  | arr e E kp xs =>
   rcases this with ⟨b', K', pre, rest, h1, h2, h3, h4⟩ | ⟨h1, h2⟩
   ·have hne : b' ≠ b := hnew i _ b' hx rfl (by rw [h1]; rfl)
    exact .inl ⟨b', K', pre, rest, (hext i hi).trans h1, by rw [Zat _ _ hne]; exact h2, .inl h3, h4⟩
   ·exact .inr ⟨(hext i hi).trans h1, h2⟩
  | row e sz =>
   obtain ⟨n, cs', ho⟩ := this
   exact ⟨n, cs', by rw [hext i hi]; exact ho.ext (Ext.put _ hn)⟩
  | gen E x =>
   show C.gsh E x _ (rup ρ h.length (Zc9 b) i)
   rw [hext i hi]
   exact C.gsh_but _ _ _ _ _ (fun _ => False) this (Ext.put _ hn).but (fun _ _ hf => hf)
  | dead => trivial
 refine ⟨⟨fun i x hx => ?_, fun i j x y c hx hy ax ay bx by_ => ?_⟩, ⟨hlen, hext, (Ext.put _ hn).but, fun c hc => ?_⟩, .mo _ b (by simp) (Zav _ _ _) .none⟩
 ·rcases Zbd hx with ⟨rfl, rfl⟩ | ⟨hi, hx⟩
  ·exact ⟨b, Zav _ _ _, ZaV _ _ _, .inr rfl⟩
  ·exact hsh i x hx
 ·rcases Zbd hx with ⟨rfl, rfl⟩ | ⟨hi, hx⟩ <;> rcases Zbd hy with ⟨rfl, rfl⟩ | ⟨hj, hy⟩
  ·rfl
  ·rw [Zav] at bx; injection bx with bx; subst bx
   rw [hext j hj] at by_
   exact absurd rfl (hnew j y _ hy ay by_)
  ·rw [Zav] at by_; injection by_ with by_; subst by_
   rw [hext i hi] at bx
   exact absurd rfl (hnew i x _ hx ax bx)
  ·rw [hext i hi] at bx; rw [hext j hj] at by_
   exact H.dist i j x y c hx hy ax ay bx by_
 ·obtain ⟨i, x, hx, ax, bx⟩ := hc
  rcases Zbd hx with ⟨rfl, rfl⟩ | ⟨hi, hx⟩
  ·rw [Zav] at bx; injection bx with bx; subst bx
   exact .inr ⟨hn, hb⟩
  ·rw [hext i hi] at bx
   exact .inl ⟨i, x, hx, ax, bx⟩
theorem Hp.writeMap (H : Hp C ρ h σ) {i : Nat} (hU : U i) {K V : MK} {es es' : List (K.ty × V.ty)} (hi : h[i]? = some (.mmap K V es)) (hb : ρ i = Zc9 b) :
 Hp C ρ (h.set i (.mmap K V es')) (σ.set b (.map (es'.map fun p => (K.val p.1, V.val p.2)))) /\ Rel U ρ h σ ρ (h.set i (.mmap K V es')) (σ.set b (.map (es'.map fun p => (K.val p.1, V.val p.2)))) := by
 obtain ⟨b0, e0, hb0, hu0⟩ := H.it i _ hi
 rw [hb] at e0
 have hbb := (ZkN e0).symm
 subst hbb
 have hoth : ∀ j x c, h[j]? = some x -> x.alive = true -> j ≠ i -> (ρ j).owns c -> c ≠ b0 := fun j x c h1 h2 h3 h4 e => by
  subst e
  exact h3 (H.dist j i x _ c h1 hi h2 rfl h4 (by rw [hb]; rfl))
 have hset : ∀ c, c ≠ b0 -> (σ.set b0 (.map (es'.map fun p => (K.val p.1, V.val p.2)))).blk c = σ.blk c := fun c hc => by show (if c = b0 then _ else σ.blk c) = _; rw [if_neg hc]
 have hbut : But (fun c => c = b0) σ (σ.set b0 (.map (es'.map fun p => (K.val p.1, V.val p.2)))) := ⟨fun c k hc hk => (hset c hc).trans hk, fun c hc => hc⟩
 have hliv : ∀ c, Liv ρ (h.set i (.mmap K V es')) c -> Liv ρ h c := fun c ⟨j, x, hx, ax, bx⟩ => by
  rcases Zbg hx with ⟨rfl, rfl, _⟩ | ⟨_, hx⟩
  ·exact ⟨j, _, hi, rfl, bx⟩
  ·exact ⟨j, x, hx, ax, bx⟩
 refine ⟨⟨fun j x hx => ?_, fun j k x y c hx hy ax ay bx by_ => ?_⟩, ⟨by simp, fun _ _ => rfl, ⟨fun c k hc hk => hbut.keep c k (fun e => hc ⟨i, _, hU, hi, rfl, by rw [hb, e]; rfl⟩) hk, fun c hc => hc⟩, fun c hc => .inl (hliv c hc)⟩⟩
 ·rw [List.length_set]
  rcases Zbg hx with ⟨rfl, rfl, _⟩ | ⟨hne, hx⟩
  ·exact ⟨b0, hb, by show (if b0 = b0 then _ else σ.blk b0) = _; rw [if_pos rfl], hu0⟩
  ·have := H.it j x hx
   cases x with
   | obj t' cs' =>
    obtain ⟨b', acs2, h1, h2, h3, h4⟩ := this
    exact ⟨b', acs2, h1, (hset b' (hoth j _ b' hx rfl hne (by rw [h1]; rfl))).trans h2, h3, h4⟩
   | mmap K' V' es2 =>
    obtain ⟨b', h1, h2, h3⟩ := this
    exact ⟨b', h1, (hset b' (hoth j _ b' hx rfl hne (by rw [h1]; rfl))).trans h2, h3⟩
   | arr e E kp xs =>
    rcases this with ⟨b', K', pre, rest, h1, h2, h3, h4⟩ | ⟨h1, h2⟩
    ·exact .inl ⟨b', K', pre, rest, h1, (hset b' (hoth j _ b' hx rfl hne (by rw [h1]; rfl))).trans h2, h3, h4⟩
    ·exact .inr ⟨h1, h2⟩
   | row e sz =>
    obtain ⟨n, cs', ho'⟩ := this
    exact ⟨n, cs', ho'.but' hbut fun g hg => hoth j _ g hx rfl hne hg⟩
   | gen E x => exact C.gsh_but _ _ _ _ _ _ this hbut (fun b' hb' => hoth j _ b' hx rfl hne hb')
   | dead => trivial
 ·rcases Zbg hx with ⟨e1, e2, _⟩ | ⟨hne, hx2⟩ <;> rcases Zbg hy with ⟨e3, e4, _⟩ | ⟨hne2, hy2⟩
  ·rw [e1, e3]
  ·subst e1; exact H.dist j k _ y c hi hy2 rfl ay bx by_
  ·subst e3; exact H.dist j k x _ c hx2 hi ax rfl bx by_
  ·exact H.dist j k x y c hx2 hy2 ax ay bx by_
def Zyp (P : Program) (t : TypeId) : MK -> Prop
 | .str => P.underlying t = some .string
 | .int k => P.underlying t = some (.int k)
 | .two k j => ∃ fs f g, P.underlying t = some (.struct fs) /\ fs.toList = [f, g] /\ P.underlying f.type = some (.int k) /\ P.underlying g.type = some (.int j) /\ f.name ≠ "_" /\ g.name ≠ "_" /\ f.offset = 0 /\ g.offset = 1 /\ ZgQ P 8 t = some [.i k, .i j]
theorem ZmN {K : MK} (h : Zrb P t = some K) : Zyp P t K := by
 unfold Zrb at h
 split at h
 ·injection h with h; subst h; assumption
 ·injection h with h; subst h; assumption
 ·rename_i fs hu
  split at h
  ·rename_i f g k j hl hk
   split at h
   ·rename_i k' j' hf hg
    split at h
    ·rename_i hc
     obtain ⟨e1, e2, n1, n2, o1, o2⟩ := hc
     subst e1 e2
     injection h with h
     subst h
     exact ⟨fs, f, g, hu, hl, hf, hg, n1, n2, o1, o2, hk⟩
    ·cases h
   ·cases h
  ·cases h
 ·cases h
theorem ZzU {V : MK} {o : Option Value} (h : V.zOk o = true) : o = some (V.val V.zero) := by
 cases V with
 | str => cases o with
  | none => cases h
  | some v => cases v with
   | string s =>
    have h : Nat.beq s.data.toList.length 0 = true := h
    have h := Nat.eq_of_beq_eq_true h
    have : s = ⟨([] : List UInt8).toArray⟩ := by
     cases s with | mk d => congr 1; cases d with | mk l => simpa using h
    rw [this]; rfl
   | _ => cases h
 | int k0 => cases o with
  | none => cases h
  | some v => cases v with
   | int k1 n =>
    have h : (decide (k0 = k1) && decide (n = 0)) = true := h
    simp only [Bool.and_eq_true, decide_eq_true_eq] at h
    obtain ⟨e1, e2⟩ := h
    subst e1 e2
    rfl
   | _ => cases h
 | two k j => cases o <;> cases h
theorem ZmO {K V : MK} (h : Zsv P t = some (K, V)) : ∃ kt et, P.underlying t = some (.map kt et) /\ Zyp P kt K /\ Zyp P et V /\ ZaR P et = some (V.val V.zero) := by
 unfold Zsv at h
 split at h
 rotate_left
 ·cases h
 rename_i kt et ht
 split at h
 rotate_left
 ·cases h
 rename_i K' V' hK hV
 rw [cond_eq_ite] at h
 split at h
 rotate_left
 ·cases h
 rename_i hz
 injection h with h
 injection h with e1 e2
 subst e1 e2
 exact ⟨kt, et, ht, ZmN hK, ZmN hV, ZzU hz⟩
theorem Zyq {K : MK} {x : XV T} {y : K.ty} (h : K.of x = some y) {a : AV} (hs : SV C N ρ x a) : a.val = K.val y := by
 cases K with
 | str => cases x with
  | str s => injection h with h; subst h; rw [ZbU.1 hs]; rfl
  | _ => cases h
 | int k0 => cases x with
  | int k1 n =>
   unfold MK.of at h
   dsimp only at h
   split at h
   ·rename_i e; injection h with h; subst h; subst e; rw [Zam.1 hs]; rfl
   ·cases h
  | _ => cases h
 | two k0 j0 => cases x with
  | agg l =>
   rcases l with _ | ⟨c, _ | ⟨d, _ | ⟨e, l⟩⟩⟩
   ·cases h
   ·cases c <;> cases h
   ·cases c with
    | int k1 a1 => cases d with
     | int j1 b1 =>
      have h : (if k0 = k1 /\ j0 = j1 then some ((a1, b1) : Int × Int) else none) = some y := h
      split at h
      ·rename_i e
       injection h with h
       subst h
       obtain ⟨rfl, rfl⟩ := e
       obtain ⟨ls, rfl, hl⟩ := ZbV.1 hs
       obtain ⟨p, q, rfl, h1, h2⟩ := Zfp.1 hl
       rw [Zam.1 h1, Zam.1 h2]
       simp [MK.val]
      ·cases h
     | _ => cases h
    | _ => cases h
   ·cases c <;> first | (cases h; done) | (cases d <;> cases h)
  | _ => cases h
theorem ZBp (V : MK) (y : V.ty) : ∃ r : AV, (∀ N ρ, SV C N ρ (V.xv y) r) /\ r.val = V.val y /\ ∀ w B, Zae w B r := by
 cases V with
 | str => exact ⟨_, fun N ρ => ZbU.2 rfl, rfl, fun w B => Zaz _⟩
 | int k0 => exact ⟨_, fun N ρ => Zam.2 rfl, rfl, fun w B => Zaz _⟩
 | two k j => exact ⟨.agg [.raw (.int k y.1), .raw (.int j y.2)], fun N ρ => ZbV.2 ⟨_, rfl, Zfp.2 ⟨_, _, rfl, Zam.2 rfl, Zam.2 rfl⟩⟩, by simp [MK.val], fun w B => by unfold Zae; exact ZaI.iff.2 (by simp [Zaz])⟩
theorem Zlo (a b : List UInt8) : ((ByteArray.mk a.toArray) == (ByteArray.mk b.toArray)) = decide (a = b) := by
 show (a.toArray == b.toArray) = _
 by_cases h : a = b
 ·subst h; simp
 ·rw [decide_eq_false h]
  rw [beq_eq_false_iff_ne]
  intro e
  exact h (by simpa using congrArg Array.toList e)
theorem ZzV {K : MK} {x y : K.ty} (h : K.eqb x y = true) : x = y := by
 cases K with
 | str => exact of_decide_eq_true h
 | int k0 => exact of_decide_eq_true h
 | two k j =>
  have h : (decide ((show Int × Int from x).1 = (show Int × Int from y).1) && decide ((show Int × Int from x).2 = (show Int × Int from y).2)) = true := h
  simp only [Bool.and_eq_true, decide_eq_true_eq] at h
  exact Prod.ext h.1 h.2
theorem Zkd {t : TypeId} {k : IntKind} {xs : Array Value} {o : Nat} {v : Value} {w : World} (hu : P.underlying t = some (.int k)) (hx : xs[o]? = some v) : (part t xs o).run P w = .ok v w := by
 simp [part, isAgg, run_underlying hu, hx]
theorem Zno {K : MK} {kt : TypeId} {w : World} {y : K.ty} (hk : Zyp P kt K) (e : Bool) : (Instr.checkKey e 10000 kt (K.val y)).run P w = .ok () w := by
 rw [show (10000 : Nat) = 9999 + 1 from rfl]
 cases K with
 | str => unfold Instr.checkKey; rw [Sem.run_bind, run_underlying hk]; rfl
 | int k0 => unfold Instr.checkKey; rw [Sem.run_bind, run_underlying hk]; rfl
 | two k j =>
  obtain ⟨fs, f, g, hu, hl, hf, hg, n1, n2, o1, o2, _⟩ := hk
  obtain ⟨fa⟩ := fs
  dsimp only at hl
  subst hl
  have c1 : (Instr.checkKey e 9999 f.type (.int k y.1)).run P w = .ok () w := by
   rw [show (9999 : Nat) = 9998 + 1 from rfl]; unfold Instr.checkKey; rw [Sem.run_bind, run_underlying hf]; rfl
  have c2 : (Instr.checkKey e 9999 g.type (.int j y.2)).run P w = .ok () w := by
   rw [show (9999 : Nat) = 9998 + 1 from rfl]; unfold Instr.checkKey; rw [Sem.run_bind, run_underlying hg]; rfl
  have p1 : (part f.type #[.int k y.1, .int j y.2] f.offset).run P w = .ok (.int k y.1) w := Zkd hf (by rw [o1]; rfl)
  have p2 : (part g.type #[.int k y.1, .int j y.2] g.offset).run P w = .ok (.int j y.2) w := Zkd hg (by rw [o2]; rfl)
  unfold Instr.checkKey
  rw [Sem.run_bind, run_underlying hu]
  simp [MK.val, n1, n2, p1, p2, c1, c2, Result.andThen]
def ZsA (K V : MK) (x : K.ty) : List (K.ty × V.ty) -> Nat -> Option (Nat × Value)
 | [], _ => none
 | p :: es, i => bif K.eqb x p.1 then some (i, V.val p.2) else ZsA K V x es (i + 1)
theorem Zqm {K V : MK} {x : K.ty} : ∀ {es : List (K.ty × V.ty)} {l : List MapEntry} (i : Nat), l.map (fun e : MapEntry => (e.key, e.val)) = es.map (fun p => (K.val p.1, V.val p.2)) ->
 (Zqf K es x = none /\ ZsA K V x es i = none /\ ∀ v, ZvJ K es x v = es ++ [(x, v)]) \/
  ∃ j y, Zqf K es x = some y /\ ZsA K V x es i = some (i + j, V.val y) /\ (l[j]?).map (·.key) = some (K.val x) /\ ∀ v f, (∀ e : MapEntry, ((f e).key, (f e).val) = (K.val x, V.val v)) -> (l.modify j f).map (fun e : MapEntry => (e.key, e.val)) = (ZvJ K es x v).map (fun p => (K.val p.1, V.val p.2))
 | [], [], i, _ => .inl ⟨rfl, rfl, fun v => rfl⟩
 | [], e :: l, i, h => by simp at h
 | p :: es, [], i, h => by simp at h
 | p :: es, e :: l, i, h => by
  simp only [List.map_cons, List.cons.injEq] at h
  obtain ⟨h1, h2⟩ := h
  injection h1 with h1 h3
  unfold Zqf ZvJ ZsA
  cases hp : K.eqb x p.1 with
  | true =>
   have hx := ZzV hp
   refine .inr ⟨0, p.2, rfl, rfl, by simp [h1, hx], fun v f hf => ?_⟩
   simp [List.modify, h2, hf e]
  | false =>
   rcases Zqm (x := x) (i + 1) h2 with ⟨g1, g2, g3⟩ | ⟨j, y, g1, g2, g3, g4⟩
   ·exact .inl ⟨g1, g2, fun v => by dsimp only [cond]; rw [g3 v]; rfl⟩
   ·refine .inr ⟨j + 1, y, g1, by rw [show i + (j + 1) = i + 1 + j from by omega]; exact g2, by simpa using g3, fun v f hf => ?_⟩
    dsimp only [cond]
    rw [List.modify_succ_cons, List.map_cons, List.map_cons, g4 v f hf, h1, h3]
theorem ZtX {K V : MK} {d : TypeDesc} {x : K.ty} (hd : ∀ y : K.ty, Instr.sameNow d (K.val x) (K.val y) = some (K.eqb x y)) : ∀ {es : List (K.ty × V.ty)} {l : List MapEntry} (i : Nat), l.map (fun e : MapEntry => (e.key, e.val)) = es.map (fun p => (K.val p.1, V.val p.2)) -> Instr.findNow d (K.val x) l i = some (ZsA K V x es i)
 | [], [], i, _ => rfl
 | [], e :: l, i, h => by simp at h
 | p :: es, [], i, h => by simp at h
 | p :: es, e :: l, i, h => by
  simp only [List.map_cons, List.cons.injEq] at h
  obtain ⟨h1, h2⟩ := h
  injection h1 with h1 h3
  unfold ZsA Instr.findNow
  rw [h1, hd]
  cases hp : K.eqb x p.1 with
  | true => rw [h3]; rfl
  | false => exact ZtX hd (i + 1) h2
theorem Zxr {K V : MK} {kt : TypeId} {x : K.ty} {w : World} (hd : ∀ y : K.ty, (Op.equal kt (K.val x) (K.val y)).run P w = .ok (K.eqb x y) w) : ∀ {es : List (K.ty × V.ty)} {l : List MapEntry} (i : Nat), l.map (fun e : MapEntry => (e.key, e.val)) = es.map (fun p => (K.val p.1, V.val p.2)) -> (Instr.findAsking kt (K.val x) l i).run P w = .ok (ZsA K V x es i) w
 | [], [], i, _ => rfl
 | [], e :: l, i, h => by simp at h
 | p :: es, [], i, h => by simp at h
 | p :: es, e :: l, i, h => by
  simp only [List.map_cons, List.cons.injEq] at h
  obtain ⟨h1, h2⟩ := h
  injection h1 with h1 h3
  unfold ZsA Instr.findAsking
  rw [h1, Sem.run_bind, hd]
  cases hp : K.eqb x p.1 with
  | true => rw [h3]; rfl
  | false => exact Zxr hd (i + 1) h2
theorem ZtY {kt : TypeId} {k j : IntKind} {w : World} (hk : Zyp P kt (.two k j)) (x y : Int × Int) : (Op.equal kt (MK.val (.two k j) x) (MK.val (.two k j) y)).run P w = .ok (MK.eqb (.two k j) x y) w := by
 obtain ⟨fs, f, g, hu, hl, hf, hg, n1, n2, o1, o2, hks⟩ := hk
 have hA : Zdk P kt = some true := by unfold Zdk; rw [hu]; rfl
 have hE := Zjj (P := P) (10000 - 8) 8 kt _ hks
 obtain ⟨r, hr, hiff⟩ := hE w (MK.val (.two k j) x) (MK.val (.two k j) y) (.inl ⟨_, rfl, hA, ⟨⟨_, rfl⟩, ⟨_, rfl⟩, trivial⟩⟩) (.inl ⟨_, rfl, hA, ⟨⟨_, rfl⟩, ⟨_, rfl⟩, trivial⟩⟩)
 rw [show (10000 - 8 + 8 : Nat) = 10000 from rfl] at hr
 show (Op.equalIn 10000 kt _ _).run P w = _
 rw [hr]
 congr 1
 have e : MK.eqb (.two k j) x y = (decide (x.1 = y.1) && decide (x.2 = y.2)) := rfl
 rw [e]
 simp only [MK.val, Value.cells] at hiff
 cases r <;> simp_all
theorem Zxs {K V : MK} {kt : TypeId} {w : World} {x : K.ty} {es : List (K.ty × V.ty)} {l : List MapEntry} (hk : Zyp P kt K) (h : l.map (fun e : MapEntry => (e.key, e.val)) = es.map (fun p => (K.val p.1, V.val p.2))) : (Instr.findKey kt (K.val x) l).run P w = .ok (ZsA K V x es 0) w := by
 cases K with
 | str =>
  unfold Instr.findKey
  rw [Sem.run_bind, run_underlying hk]
  dsimp only [Result.andThen]
  rw [show Instr.findNow .string (MK.val .str x) l 0 = some (ZsA .str V x es 0) from ZtX (K := .str) (V := V) (d := .string) (x := x) (es := es) (fun y => congrArg some (Zlo x y)) 0 h]
  rfl
 | int k0 =>
  unfold Instr.findKey
  rw [Sem.run_bind, run_underlying hk]
  dsimp only [Result.andThen]
  rw [show Instr.findNow (.int k0) (MK.val (.int k0) x) l 0 = some (ZsA (.int k0) V x es 0) from ZtX (K := .int k0) (V := V) (d := .int k0) (x := x) (es := es) (fun y => by
   show (if k0 = k0 then some ((show Int from x) == y) else none) = some (decide ((show Int from x) = y))
   rw [if_pos rfl]
   congr 1) 0 h]
  rfl
 | two k j =>
  have hu := hk
  obtain ⟨fs, f, g, hu, _⟩ := hu
  unfold Instr.findKey
  rw [Sem.run_bind, run_underlying hu]
  dsimp only [Result.andThen]
  cases l with
  | nil => cases es with
   | nil => rfl
   | cons p es => simp at h
  | cons e l =>
   have : Instr.findNow (.struct fs) (MK.val (.two k j) x) (e :: l) 0 = none := by
    unfold Instr.findNow
    rfl
   rw [this]
   exact Zxr (K := .two k j) (V := V) (es := es) (fun y => ZtY hk x y) 0 h
theorem Zrf {K : MK} {w : World} {x : K.ty} : (Instr.keyThatStays (K.val x) (K.val x)).run P w = .ok (K.val x) w := by
 have : Instr.sameBits 10000 (K.val x) (K.val x) = true := by
  cases K with
  | str =>
   show ((ByteArray.mk (List.toArray x)) == (ByteArray.mk (List.toArray x))) = true
   rw [Zlo]; simp
  | int k0 => simp [MK.val, Instr.sameBits]
  | two k j => simp [MK.val, Instr.sameBits]
 unfold Instr.keyThatStays
 rw [if_pos this]
 rfl
theorem ZmP {w : World} {a : Array MapEntry} {c : Nat} (hb : w.heap[b]? = some (.map a c)) : (getObj b).run P w = .ok (.map a c) w := by
 simp [getObj, Sem.run, hb]
theorem ZmQ {w : World} {a a' : Array MapEntry} {c c' : Nat} (hb : w.heap[b]? = some (.map a c)) : (setObj b (.map a' c')).run P w = .ok () (ZdC w b a' c') := by
 simp [setObj, Sem.run, hb, ZdC]
theorem ZtZ {K V : MK} (hm : Zsv P t = some (K, V)) (hk : k (.mo h.length) (h ++ [.mmap K V []]) = some z) : Zbl C P U ⟨d, .makeMap t none, ty, pos, af, g⟩ [] h k z := by
 refine ⟨_, _, hk, fun ρ σ as_ hs H => ?_⟩
 have := Zbc.1 hs
 subst this
 refine .inr ⟨rfl, fun ρv hρ w Z hH hV => ?_⟩
 obtain ⟨f1, f2⟩ := hH.fresh
 obtain ⟨g1, g2, g3⟩ := H.newMap (U := U) f1 f2 K V
 refine ⟨Zc9 w.heap.size, _, w.alloc (.map #[] 0), .inl ?_, ⟨_, g3, g1, g2⟩, hH.alloc_map, Zaz _, Grow.alloc hH _ _⟩
 have : (Instr.makeMap t none).run P w = .ok (.map (some w.heap.size)) (w.alloc (.map #[] 0)) := rfl
 simp [execOp, this, Zc9]
theorem ZvX {i : Nat} {x v : XV T} {om ox ov : Operand} (hU : U i) (hk : Zyh P t i x v h k = some z) : Zbl C P U ⟨d, .mapUpdate t om ox ov, ty, pos, af, g⟩ [.mo i, x, v] h k z := by
 unfold Zyh at hk
 split at hk
 rotate_left
 ·cases hk
 rename_i K V es hi
 split at hk
 rotate_left
 ·cases hk
 rename_i K' V' hm
 split at hk
 rotate_left
 ·cases hk
 rename_i hKV
 obtain ⟨e1, e2⟩ := hKV
 subst e1 e2
 obtain ⟨a, ha, hk⟩ := Znm hk
 obtain ⟨b, hb, hk⟩ := Znm hk
 rw [ZaX] at hk
 obtain ⟨kt, et, t1, t2, t3, t4⟩ := ZmO hm
 refine ⟨_, _, hk, fun ρ σ as_ hs H => ?_⟩
 obtain ⟨am, ax, av, rfl, s1, s2, s3⟩ := ZCi.1 hs
 obtain ⟨bm, rfl, s4, s5⟩ := Zlc.1 s1
 have s2 := Zyq ha s2
 have s3 := Zyq hb s3
 refine .inr ⟨rfl, fun ρv hρ w Z hH hV => ?_⟩
 have hρ' := hρ
 simp [Op.operands, Zc9] at hρ'
 obtain ⟨r1, r2, r3⟩ := hρ'
 rw [s2] at r2
 rw [s3] at r3
 obtain ⟨b0, e0, hb0, hu0⟩ := H.it i _ hi
 rw [s5] at e0
 have hbb := (ZkN e0).symm
 subst hbb
 obtain ⟨_, arr, c, hh, harr, hfr1, hfr2⟩ := hH.mapAt hb0 (Zre _ _ _)
 obtain ⟨g1, g2⟩ := H.writeMap (U := U) (es' := ZvJ K' es a b) hU hi s5
 have fin : ∀ (arr' : Array MapEntry) (c' : Nat), ((∀ n ∈ arr'.toList.map fun e : MapEntry => e.born, n < c') /\ (arr'.toList.map fun e : MapEntry => e.born).Nodup) -> arr'.toList.map (fun e : MapEntry => (e.key, e.val)) = (ZvJ K' es a b).map (fun p => (K'.val p.1, V'.val p.2)) -> (Instr.mapUpdate t (.map (some b0)) (K'.val a) (V'.val b)).run P w = .ok () (ZdC w b0 arr' c') ->
  ∃ r σ' w', ((execOp ρv ⟨d, .mapUpdate t om ox ov, ty, pos, af, g⟩).run P w = .ok (.value r.val) w' \/ (execOp ρv ⟨d, .mapUpdate t om ox ov, ty, pos, af, g⟩).run P w = .ok .skip w' /\ r = .raw undef) /\ (∃ ρ', SV C (h.set i (.mmap K' V' (ZvJ K' es a b))).length ρ' .junk r /\ Hp C ρ' (h.set i (.mmap K' V' (ZvJ K' es a b))) σ' /\ Rel U ρ h σ ρ' (h.set i (.mmap K' V' (ZvJ K' es a b))) σ') /\ Zaj w' σ' Z /\ Zae w' (σ'.free Z) r /\ Grow w σ w' σ' := by
  intro arr' c' h0 h1 h2
  obtain ⟨q1, q2⟩ := hH.write_map (a' := arr') (c' := c') hb0 hh h0 (by rw [h1]; exact Zre _ _ _)
  rw [h1] at q1 q2
  refine ⟨.raw undef, _, ZdC w b0 arr' c', .inr ⟨?_, rfl⟩, ⟨ρ, Zbq, g1, g2⟩, q1, Zaz _, q2⟩
  simp [execOp, r1, r2, r3, h2]
 have pre : ∀ r, ZsA K' V' a es 0 = r -> (Instr.mapUpdate t (.map (some b0)) (K'.val a) (V'.val b)).run P w = (match r with
  | some (j, _) => do
   let key <- Instr.keyThatStays (((arr[j]?).map (fun e : MapEntry => e.key)).getD (K'.val a)) (K'.val a)
   setObj b0 (.map (arr.modify j fun (e : MapEntry) => { e with key, val := V'.val b }) c)
  | none => setObj b0 (.map (arr.push { key := K'.val a, val := V'.val b, born := c }) (c + 1))).run P w := by
  intro r hr
  unfold Instr.mapUpdate
  rw [Sem.run_bind, run_underlying t1]
  dsimp only [Result.andThen]
  rw [Sem.run_bind, ZmP hh]
  dsimp only [Result.andThen]
  rw [Sem.run_bind, Zno t2]
  dsimp only [Result.andThen]
  rw [Sem.run_bind, Zxs t2 harr, hr]
  dsimp only [Result.andThen]
  cases r <;> rfl
 rcases Zqm (x := a) 0 harr with ⟨m1, m2, m3⟩ | ⟨j, y, m1, m2, m3, m4⟩
 ·refine fin (arr.push { key := K'.val a, val := V'.val b, born := c }) (c + 1) (ZoC hfr1 hfr2) (by simp [harr, m3 b]) ?_
  rw [pre _ m2]
  exact ZmQ hh
 ·rw [Nat.zero_add] at m2
  refine fin (arr.modify j fun (e : MapEntry) => { e with key := K'.val a, val := V'.val b }) c (by rw [Zln arr j (fun (e : MapEntry) => { e with key := K'.val a, val := V'.val b }) fun _ => rfl]; exact ⟨hfr1, hfr2⟩) ?_ ?_
  ·rw [Array.toList_modify]
   exact m4 b _ (fun e => rfl)
  ·rw [pre _ m2]
   dsimp only
   have hkey : ((arr[j]?).map (fun e : MapEntry => e.key)).getD (K'.val a) = K'.val a := by
    rw [Array.getElem?_toList] at m3
    rw [m3]; rfl
   rw [hkey, Sem.run_bind, Zrf]
   exact ZmQ hh
theorem ZvY {K V : MK} {kt et : TypeId} {es : List (K.ty × V.ty)} {arr : Array MapEntry} {c : Nat} {comma : Bool} {a : K.ty} {w : World} (t1 : P.underlying t = some (.map kt et)) (t2 : Zyp P kt K) (t4 : ZaR P et = some (V.val V.zero)) (hh : w.heap[b]? = some (.map arr c)) (harr : arr.toList.map (fun e : MapEntry => (e.key, e.val)) = es.map (fun p => (K.val p.1, V.val p.2))) :
 (Instr.lookup t (.map (some b)) (K.val a) comma).run P w = .ok (if comma then .tuple #[V.val ((Zqf K es a).getD V.zero), .bool (Zqf K es a).isSome] else V.val ((Zqf K es a).getD V.zero)) w := by
 have pre : ∀ r, ZsA K V a es 0 = r -> (Instr.lookup t (.map (some b)) (K.val a) comma).run P w = .ok (if comma then .tuple #[match r with | some (_, v) => v | none => V.val V.zero, .bool r.isSome] else match r with | some (_, v) => v | none => V.val V.zero) w := by
  intro r hr
  unfold Instr.lookup
  rw [Sem.run_bind, run_underlying t1]
  dsimp only [Result.andThen]
  rw [Sem.run_bind, ZmP hh]
  dsimp only [Result.andThen]
  rw [Sem.run_bind, Sem.run_pure]
  dsimp only [Result.andThen]
  rw [Sem.run_bind, Zno t2]
  dsimp only [Result.andThen]
  rw [Sem.run_bind, Zxs t2 harr, hr]
  dsimp only [Result.andThen]
  cases r with
  | none =>
   dsimp only
   rw [Sem.run_bind, Zci t4]
   cases comma <;> rfl
  | some x => cases comma <;> rfl
 rcases Zqm (x := a) 0 harr with ⟨m1, m2, m3⟩ | ⟨j, y, m1, m2, m3, m4⟩
 ·rw [pre _ m2, m1]; rfl
 ·rw [pre _ m2, m1]; rfl
theorem ZvZ {i : Nat} {x : XV T} {om ox : Operand} {comma : Bool} (hk : Zyi P t comma i x h k = some z) : Zbl C P U ⟨d, .lookup t om ox comma, ty, pos, af, g⟩ [.mo i, x] h k z := by
 unfold Zyi at hk
 split at hk
 rotate_left
 ·cases hk
 rename_i K V es hi
 split at hk
 rotate_left
 ·cases hk
 rename_i K' V' hm
 split at hk
 rotate_left
 ·cases hk
 rename_i hKV
 obtain ⟨e1, e2⟩ := hKV
 subst e1 e2
 obtain ⟨a, ha, hk⟩ := Znm hk
 obtain ⟨kt, et, t1, t2, t3, t4⟩ := ZmO hm
 have key : ∀ ρ σ (as_ : List AV), SVs C h.length ρ [.mo i, x] as_ -> Hp C ρ h σ -> ∀ ρv : Operand -> Value, [ρv om, ρv ox] = as_.map AV.val -> ∀ w Z, Zaj w σ Z ->
  (execOp ρv ⟨d, .lookup t om ox comma, ty, pos, af, g⟩).run P w = .ok (.value (if comma then .tuple #[V'.val ((Zqf K' es a).getD V'.zero), .bool (Zqf K' es a).isSome] else V'.val ((Zqf K' es a).getD V'.zero))) w := by
  intro ρ σ as_ hs H ρv hρ w Z hH
  obtain ⟨am, ax, rfl, s1, s2⟩ := Zfp.1 hs
  obtain ⟨bm, rfl, s4, s5⟩ := Zlc.1 s1
  have s2 := Zyq ha s2
  simp [Zc9] at hρ
  obtain ⟨r1, r2⟩ := hρ
  rw [s2] at r2
  obtain ⟨b0, e0, hb0, hu0⟩ := H.it i _ hi
  rw [s5] at e0
  have hbb := (ZkN e0).symm
  subst hbb
  obtain ⟨_, arr, c, hh, harr, hfr1, hfr2⟩ := hH.mapAt hb0 (Zre _ _ _)
  simp only [execOp, r1, r2]
  rw [Sem.run_bind, ZvY t1 t2 t4 hh harr]
  rfl
 obtain ⟨rv, v1, v2, v3⟩ := ZBp (C := C) V' ((Zqf K' es a).getD V'.zero)
 cases comma
 ·dsimp only at hk
  rw [Zc1] at hk
  refine ⟨_, _, hk, fun ρ σ as_ hs H => .inr ⟨rfl, fun ρv hρ w Z hH hV => ?_⟩⟩
  exact ⟨rv, σ, w, .inl (by rw [key ρ σ as_ hs H ρv (by simpa [Op.operands] using hρ) w Z hH, v2]; simp), ⟨ρ, v1 _ _, H, .refl _ _ _ _⟩, hH, v3 _ _, Grow.refl _ _⟩
 ·dsimp only at hk
  rw [Zc1] at hk
  refine ⟨_, _, hk, fun ρ σ as_ hs H => .inr ⟨rfl, fun ρv hρ w Z hH hV => ?_⟩⟩
  refine ⟨.tup [rv, .raw (.bool (Zqf K' es a).isSome)], σ, w, .inl (by rw [key ρ σ as_ hs H ρv (by simpa [Op.operands] using hρ) w Z hH, <- v2]; simp), ⟨ρ, ZeU.2 ⟨_, rfl, .cons (v1 _ _) (ZaO.2 rfl)⟩, H, .refl _ _ _ _⟩, hH, ?_, Grow.refl _ _⟩
  unfold Zae
  exact ZaI.iff.2 (by simp [v3, Zaz])
theorem Zv0 {c : Call} {i : Nat} (hn : c.args.size = 1) (hk : Zyj P c i h k = some z) : ∃ r h', k r h' = some z /\ ∀ ρ σ as_, SVs C h.length ρ [.mo i] as_ -> Hp C ρ h σ -> Zjd P ⟨d, .call c, ty, pos, af, g⟩ as_ σ fun rv τ => ∃ ρ', SV C h'.length ρ' r rv /\ Hp C ρ' h' τ /\ Rel U ρ h σ ρ' h' τ := by
 unfold Zyj at hk
 split at hk
 rotate_left
 ·cases hk
 rename_i t hc ht
 split at hk
 rotate_left
 ·cases hk
 rename_i kt et K V es hu hi
 refine ⟨_, _, hk, fun ρ σ as_ hs H => fun ρv hρ w Z hH hV => ?_⟩
 obtain ⟨am, rfl, s1⟩ := Zef.1 hs
 obtain ⟨bm, rfl, s4, s5⟩ := Zlc.1 s1
 obtain ⟨b0, e0, hb0, hu0⟩ := H.it i _ hi
 rw [s5] at e0
 have hbb := (ZkN e0).symm
 subst hbb
 obtain ⟨_, arr, c', hh, harr, hfr1, hfr2⟩ := hH.mapAt hb0 (Zre _ _ _)
 have hlen : arr.size = es.length := by
  have := congrArg List.length harr
  simpa using this
 refine ⟨.raw (.int .i64 es.length), σ, w, .inl ?_, ⟨ρ, Zam.2 rfl, H, .refl _ _ _ _⟩, hH, Zaz _, Grow.refl _ _⟩
 obtain ⟨cal, args, ats⟩ := c
 dsimp only at hc ht hn
 subst hc
 simp [Op.operands, Call.operands, Zc9] at hρ
 obtain ⟨q, hq, hρ⟩ := hρ
 have hq' : args = #[q] := by
  cases args
  simpa using hq
 subst hq'
 simp [execOp, resolve, invoke, builtin, Builtin.len_, hρ, ht, run_underlying hu, goInt, ZmP hh, hlen, Result.andThen]
end
end Go.Proofs.YteempnebenjkmaaGreatDoor
