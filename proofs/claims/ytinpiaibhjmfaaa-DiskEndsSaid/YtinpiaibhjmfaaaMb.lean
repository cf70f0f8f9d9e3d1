/- XXa, XXs, XXt, XXu, XXv, XXm in one. -/
import Derived.Test.YtinpiaibhjmfaaaMa
import Derived.Laws.AppendOwn
import Derived.Laws.MakeOwn
import Derived.Lib.AppendZerosOnto
namespace Go.Proofs.Ytinpiaibhjmfaaa
open Go.RowKit
set_option linter.unusedSimpArgs false
set_option maxRecDepth 100000
set_option linter.unusedVariables false
section
variable {P : Program} {w : World} {σ : St} {Z : Nat -> Prop}
theorem Zau.write (hH : Zau w σ Z) {b : Nat} {e : TypeId} {cs cs' : List AV} (hb : σ.blk b = some (.own e cs)) (hv : ∀ c ∈ cs', Zap w (σ.free Z) c) :
 Zau (w.setRow b (cs'.map AV.val).toArray) (σ.set b (.own e cs')) Z /\ Grow w σ (w.setRow b (cs'.map AV.val).toArray) (σ.set b (.own e cs')) := by
 obtain ⟨hu, hh, hvs⟩ := hH.own _ _ _ hb
 have hg : Grow w σ (w.setRow b (cs'.map AV.val).toArray) (σ.set b (.own e cs')) := by
  refine ⟨rfl, rfl, rfl, by simp [World.setRow], fun _ _ h => h, fun b' hb' hn' => ?_, fun b' t' k s hb' ht' => ?_, fun _ h => h⟩
  ·have hne : b' ≠ b := by rintro rfl; rw [hb] at hn'; cases hn'
   exact ⟨setRow_other _ _ _ _ hne, by show (if b' = b then _ else σ.blk b') = _; rw [if_neg hne]; exact hn'⟩
  ·have hne : b' ≠ b := by rintro rfl; rw [hb] at ht'; cases ht'
   refine ⟨fun j v _ hv => ?_, .inr ⟨t', k, s, ?_, Nat.le_refl _⟩⟩
   ·rw [World.cell?_of_block (w := w) (setRow_other _ _ _ _ hne)]; exact hv
   ·show (if b' = b then _ else σ.blk b') = _
    rw [if_neg hne]; exact ht'
 refine ⟨⟨fun b' hu' => ?_, fun b' hz => ?_, fun b' t' cs2 hb' => ?_, fun b' t' k s hb' => ?_, fun b' es hb' => ?_⟩, hg⟩
 ·have := hH.used _ hu'; simpa [World.setRow] using this
 ·obtain ⟨z1, z2⟩ := hH.z _ hz
  have hne : b' ≠ b := by rintro rfl; rw [hb] at z2; cases z2
  refine ⟨by simpa [World.setRow] using z1, ?_⟩
  show (if b' = b then _ else σ.blk b') = _
  rw [if_neg hne]; exact z2
 ·change (if b' = b then some (Bk.own e cs') else σ.blk b') = _ at hb'
  split at hb'
  ·rename_i hbb
   injection hb' with hb'
   injection hb' with e1 e2
   subst e1 e2 hbb
   exact ⟨hu, setRow_heap _ _ _ _ _ _ hh, fun c hc => hg.valid (hv c hc)⟩
  ·rename_i hne
   obtain ⟨g1, g2, g3⟩ := hH.own _ _ _ hb'
   exact ⟨g1, (setRow_other _ _ _ _ hne).trans g2, fun c hc => hg.valid (g3 c hc)⟩
 ·change (if b' = b then some (Bk.own e cs') else σ.blk b') = _ at hb'
  split at hb'
  ·injection hb' with hb'; cases hb'
  ·rename_i hne
   obtain ⟨g1, cs2, g2, g3⟩ := hH.tail _ _ _ _ hb'
   exact ⟨g1, cs2, (setRow_other _ _ _ _ hne).trans g2, g3⟩
 ·change (if b' = b then some (Bk.own e cs') else σ.blk b') = _ at hb'
  split at hb'
  ·injection hb' with hb'; cases hb'
  ·rename_i hne
   obtain ⟨g1, a', c', g2, g3⟩ := hH.map _ _ hb'
   exact ⟨g1, a', c', (setRow_other _ _ _ _ hne).trans g2, g3⟩
theorem Zii {b : Nat} {k : Bk} (hb : σ.blk b = some k) : σ.set b k = σ := St.ext' (fun c => by
 show (if c = b then some k else σ.blk c) = _
 split
 ·rename_i e; rw [e, hb]
 ·rfl) (fun _ => Iff.rfl)
theorem Zgw (cs : List AV) (o : Nat) : ZaR cs o [] = cs := by simp [ZaR]
theorem Zau.storeAt (hH : Zau w σ Z) {b off : Nat} {e : TypeId} {cs news : List AV} (hb : σ.blk b = some (.own e cs)) (hfit : off + news.length <= cs.length) (h1 : ∀ a ∈ news, a.one = true) (hv : ∀ a ∈ news, Zap w (σ.free Z) a) :
 (storeCells ⟨b, off, none⟩ (news.map AV.val)).run P w = .ok () (w.setRow b ((ZaR cs off news).map AV.val).toArray) /\
 Zau (w.setRow b ((ZaR cs off news).map AV.val).toArray) (σ.set b (.own e (ZaR cs off news))) Z /\ Grow w σ (w.setRow b ((ZaR cs off news).map AV.val).toArray) (σ.set b (.own e (ZaR cs off news))) := by
 obtain ⟨hu, hh, hvs⟩ := hH.own _ _ _ hb
 have hst := run_storeCells_at P b off e (news.map AV.val) 0 (cs.map AV.val).toArray w hh (by simp; omega) (fun v hv => by
  simp only [List.mem_map] at hv
  obtain ⟨c, hc, rfl⟩ := hv
  exact AV.one_val (h1 c hc))
 have harr : ((cs.map AV.val).toArray.toList.take (off + 0) ++ news.map AV.val ++ (cs.map AV.val).toArray.toList.drop (off + 0 + (news.map AV.val).length)).toArray = ((ZaR cs off news).map AV.val).toArray := by
  simp [ZaR]
 rw [harr] at hst
 refine ⟨hst, hH.write hb fun c hc => ?_⟩
 unfold ZaR at hc
 simp only [List.mem_append] at hc
 rcases hc with (hc | hc) | hc
 ·exact hvs c (List.mem_of_mem_take hc)
 ·exact hv c hc
 ·exact hvs c (List.mem_of_mem_drop hc)
structure Src (σ : St) (sz : Nat) (y : AV) (m : Nat) (news : List AV) : Prop where
 len : news.length = m * sz
 one : ∀ a ∈ news, a.one = true
 at_ : ∃ A c, y.val = .slice A m c /\ (A = none -> m = 0)
 rd : ∀ w Z, Zau w σ Z -> Zap w (σ.free Z) y -> (∀ a ∈ news, Zap w (σ.free Z) a) /\ ∀ ad c, y.val = .slice (some ad) m c -> ∀ j u, (news.map AV.val)[j]? = some u -> w.cell? (ad.add j) = some u
theorem ZkC {e sz : Nat} (hs : ZaO P e = some sz) : ∃ i, P.info? e = some i /\ i.size = sz := by
 unfold ZaO at hs
 cases hi : P.info? e with
 | none => rw [hi] at hs; cases hs
 | some i => rw [hi] at hs; exact ⟨i, rfl, by simpa using hs⟩
theorem ZdA {size n len cap : Nat} (h : n = 0) (A : Option Addr) : (Builtin.firstCells size n (.slice A len cap)).run P w = .ok #[] w := by
 subst h
 cases A <;> simp [Builtin.firstCells, loadCells, loadCellsFrom]
theorem Zij {b lo n c m sz : Nat} {e t ty : TypeId} {cs news : List AV} {y : AV} {ad : Addr} (hH : Zau w σ Z) (hV : Zap w (σ.free Z) y) (ht : ZaX P t = some e) (hs : ZaO P e = some sz) (hsz : 0 < sz) (hb : σ.blk b = some (.own e cs))
 (hcap : (lo + c) * sz <= cs.length) (had : 0 < c -> ad = ⟨b, lo * sz, none⟩) (src : Src σ sz y m news) (hroom : n + m <= c) :
 ∃ w', (Builtin.append_ #[t, t] ty #[.slice (some ad) n c, y.val]).run P w = .ok (.slice (some ad) (n + m) c) w' /\ Zau w' (σ.set b (.own e (ZaR cs ((lo + n) * sz) news))) Z /\ Grow w σ w' (σ.set b (.own e (ZaR cs ((lo + n) * sz) news))) := by
 have hty := ZbU ht
 obtain ⟨i, hi, hsi⟩ := ZkC hs
 subst hsi
 obtain ⟨A, c', hy, hA⟩ := src.at_
 obtain ⟨hnv, hrd⟩ := src.rd w Z hH hV
 by_cases hm : m = 0
 ·subst hm
  have hn : news = [] := List.eq_nil_of_length_eq_zero (by simpa using src.len)
  subst hn
  rw [Zgw, Zii hb]
  refine ⟨w, ?_, hH, Grow.refl _ _⟩
  rw [hy]
  have hf := ZdA (P := P) (w := w) (size := i.size) (n := 0) (len := 0) (cap := c') rfl A
  simp [Builtin.append_, run_underlying hty, sizeOf, typeInfo, hi, Builtin.lenOf, hf, (show n <= c by omega), storeCells]
 ·cases A with
  | none => exact absurd (hA rfl) hm
  | some a =>
   have had := had (by omega)
   subst had
   have hlen := src.len
   have hmul : (lo + n + m) * i.size <= (lo + c) * i.size := Nat.mul_le_mul_right _ (by omega)
   rw [Nat.add_mul] at hmul
   obtain ⟨g1, g2, g3⟩ := hH.storeAt (P := P) (off := (lo + n) * i.size) hb (by omega) src.one hnv
   refine ⟨_, ?_, g2, g3⟩
   rw [hy]
   have hf := run_firstCells_some (P := P) w i.size m a m c' (news.map AV.val) (by simpa using hlen) (hrd a c' hy)
   rw [Nat.add_mul] at g1
   have hst : (storeCells ((⟨b, lo * i.size, none⟩ : Addr).add (n * i.size)) (news.map AV.val)).run P w = .ok () (w.setRow b ((ZaR cs ((lo + n) * i.size) news).map AV.val).toArray) := by
    rw [Zcr, Nat.add_mul]; exact g1
   simp only [Builtin.append_, run_underlying hty, sizeOf, typeInfo, hi, Builtin.lenOf, hroom, hf, hst, Sem.run_bind, Sem.run_pure, Result.andThen_ok]
   simp [run_underlying hty, hi, hroom, hf, hst]
theorem Zau.made (hH : Zau w σ Z) (t : TypeId) (cs : List AV) (hv : ∀ c ∈ cs, Zap w (σ.free Z) c) :
 ¬ σ.used w.heap.size /\ σ.blk w.heap.size = none /\ Zau (w.drew.alloc (.cells (cs.map AV.val).toArray t)) (σ.put w.heap.size (.own t cs)) Z /\ Grow w σ (w.drew.alloc (.cells (cs.map AV.val).toArray t)) (σ.put w.heap.size (.own t cs)) := by
 have hH2 := hH.drew_
 have hgd := Grow.drew_ w σ
 obtain ⟨f1, f2⟩ := hH.fresh
 exact ⟨f1, f2, hH2.alloc_own t cs (fun c hc => hgd.valid (hv c hc)), hgd.trans (Grow.alloc hH2 _ _)⟩
theorem Zfk (zv : Value) (n : Nat) (hz : 0 < zv.cells.size) : ((List.replicate n ((List.range zv.cells.size).map fun i => AV.ofV (zv.cells[i % zv.cells.size]!))).flatten).map AV.val = (Builtin.zeroCells zv.cells n).toList := by
 apply List.ext_getElem?
 intro j
 induction n generalizing j with
 | zero => simp [Builtin.zeroCells]
 | succ n ih =>
  rw [List.replicate_succ, List.flatten_cons, List.map_append]
  by_cases hj : j < zv.cells.size
  ·rw [List.getElem?_append_left (by simpa using hj)]
   have hlt : j < (n + 1) * zv.cells.size := by rw [Nat.succ_mul]; omega
   simp [Builtin.zeroCells, hj, hlt]
  ·rw [List.getElem?_append_right (by simp; omega)]
   rw [ih]
   simp only [List.length_map, List.length_range, Builtin.zeroCells, Array.toList_map, Array.toList_range, List.getElem?_map]
   by_cases hj2 : j < (n + 1) * zv.cells.size
   ·have h2 := hj2
    rw [Nat.succ_mul] at h2
    rw [List.getElem?_range (by omega), List.getElem?_range hj2]
    simp only [Option.map_some, Option.some.injEq]
    congr 1
    exact (Nat.mod_eq_sub_mod (by omega)).symm
   ·have h2 := hj2
    rw [Nat.succ_mul] at h2
    rw [List.getElem?_eq_none (by simp; omega), List.getElem?_eq_none (by simp; omega)]
theorem ZfQ {n c m sz bytes : Nat} {e t ty : TypeId} {z : Value} {olds news : List AV} {x y : AV} (hH : Zau w σ Z) (hVx : Zap w (σ.free Z) x) (hV : Zap w (σ.free Z) y) (ht : ZaX P t = some e) (hs : ZaO P e = some sz) (hz : ZbL P e = some z) (hby : ZcT P e = some bytes) (hzs : z.cells.size = sz) (hsz : 0 < sz)
 (srcx : Src σ sz x n olds) {A : Option Addr} (hx : x.val = .slice A n c) (hA0 : A = none -> c = 0) (src : Src σ sz y m news) (hg : c < n + m) (hnc : n <= c) (h63 : n + m <= maxLen) (hb : (n + m) * bytes <= 140737488355328) :
 ∃ cap w' rest, rest = ((List.replicate (cap - (n + m)) ((List.range z.cells.size).map fun i => AV.ofV (z.cells[i % z.cells.size]!))).flatten) /\ (Builtin.append_ #[t, t] ty #[x.val, y.val]).run P w = .ok (.slice (some ⟨w.heap.size, 0, none⟩) (n + m) cap) w' /\ n + m <= cap /\ cap <= maxLen /\ (olds ++ news ++ rest).length = cap * sz /\
  ¬ σ.used w.heap.size /\ σ.blk w.heap.size = none /\ Zau w' (σ.put w.heap.size (.own e (olds ++ news ++ rest))) Z /\ Grow w σ w' (σ.put w.heap.size (.own e (olds ++ news ++ rest))) := by
 have hty := ZbU ht
 obtain ⟨i, hi, hsi⟩ := ZkC hs
 have hzi : i.zero = some z := by unfold ZbL at hz; rw [hi] at hz; simpa using hz
 have hbi : i.bytes = bytes := by unfold ZcT at hby; rw [hi] at hby; simpa using hby
 subst hsi hbi
 obtain ⟨A', c', hy, hA⟩ := src.at_
 obtain ⟨hnv, hrd⟩ := src.rd w Z hH hV
 obtain ⟨hov, hro⟩ := srcx.rd w Z hH hVx
 have hm : m ≠ 0 := by omega
 have h63' : n + m <= 9223372036854775807 := by simp only [maxLen] at h63; omega
 cases A' with
 | none => exact absurd (hA rfl) hm
 | some a =>
 have hlen := src.len
 have hlo := srcx.len
 have key : ∀ old, old < n + m -> ∃ cap w' rest, rest = ((List.replicate (cap - (n + m)) ((List.range z.cells.size).map fun i => AV.ofV (z.cells[i % z.cells.size]!))).flatten) /\ w' = (w.drew.alloc (.cells ((olds.map AV.val).toArray ++ (news.map AV.val).toArray ++ Builtin.zeroCells z.cells (grownCap w (n + m) old e - (n + m))) e)) /\ cap = grownCap w (n + m) old e /\ n + m <= cap /\ cap <= maxLen /\ (olds ++ news ++ rest).length = cap * i.size /\
  ¬ σ.used w.heap.size /\ σ.blk w.heap.size = none /\ Zau w' (σ.put w.heap.size (.own e (olds ++ news ++ rest))) Z /\ Grow w σ w' (σ.put w.heap.size (.own e (olds ++ news ++ rest))) := by
  intro old ho
  have hge := grownCap_ge w (n + m) old e
  have hcm := grownCap_le_maxLen w (n + m) old e h63
  generalize grownCap w (n + m) old e = cap at *
  have harr : (olds.map AV.val).toArray ++ (news.map AV.val).toArray ++ Builtin.zeroCells z.cells (cap - (n + m)) = ((olds ++ news ++ ((List.replicate (cap - (n + m)) ((List.range z.cells.size).map fun i => AV.ofV (z.cells[i % z.cells.size]!))).flatten)).map AV.val).toArray := by
   apply Array.ext'
   have hzv := Zfk z (cap - (n + m)) (by omega)
   simp only [Array.toList_append, List.map_append, hzv]
  rw [harr]
  obtain ⟨f1, f2, f3, f4⟩ := hH.made e (olds ++ news ++ ((List.replicate (cap - (n + m)) ((List.range z.cells.size).map fun i => AV.ofV (z.cells[i % z.cells.size]!))).flatten)) (fun q hq => by
   rcases List.mem_append.1 hq with hq | hq
   ·rcases List.mem_append.1 hq with hq | hq
    ·exact hov q hq
    ·exact hnv q hq
   ·obtain ⟨l, hl, hal⟩ := List.mem_flatten.1 hq
    have hl := (List.mem_replicate.1 hl).2
    subst hl
    obtain ⟨j, _, rfl⟩ := List.mem_map.1 hal
    exact Zdv _)
  refine ⟨cap, _, _, rfl, rfl, rfl, hge, hcm, ?_, f1, f2, f3, f4⟩
  have hzl : ((List.replicate (cap - (n + m)) ((List.range z.cells.size).map fun i => AV.ofV (z.cells[i % z.cells.size]!))).flatten).length = (cap - (n + m)) * z.cells.size := by
   have hq := congrArg List.length (Zfk z (cap - (n + m)) (by omega))
   rw [List.length_map] at hq
   rw [hq]
   simp [size_zeroCells]
  rw [List.length_append, List.length_append, hzl, hzs, hlen, hlo]
  rw [<- Nat.add_mul, <- Nat.add_mul]
  congr 1
  omega
 cases A with
 | none =>
  have hc0 := hA0 rfl
  subst hc0
  have hn0 : n = 0 := by omega
  subst hn0
  have ho0 : olds = [] := List.eq_nil_of_length_eq_zero (by simpa using hlo)
  subst ho0
  obtain ⟨cap, w', rest, e0, e1, e2, r⟩ := key 0 (by omega)
  refine ⟨cap, w', rest, e0, ?_, r⟩
  have hr := run_append_nil (P := P) w t ty e i z hty hi hzi a m c' (news.map AV.val) (by simpa using hlen) (hrd a c' hy) (by omega) (by omega) (by have hb := hb; simp only [Nat.zero_add] at hb; omega)
  rw [hx, hy, hr, e1, e2]
  simp
 | some ao =>
  obtain ⟨cap, w', rest, e0, e1, e2, r⟩ := key c hg
  refine ⟨cap, w', rest, e0, ?_, r⟩
  have hr := run_append_grow (P := P) w t ty e i z hty hi hzi ao n c (olds.map AV.val) (by simpa using hlo) (hro ao c hx) a m c' (news.map AV.val) (by simpa using hlen) (hrd a c' hy) hg (by omega) (growslice_fits (by omega) hb)
  rw [hx, hy, hr, e1, e2]
theorem clear_ {b lo n c sz : Nat} {e t ty : TypeId} {z : Value} {cs news : List AV} {ad : Addr} (hH : Zau w σ Z) (ht : ZaX P t = some e) (hz : ZbL P e = some z) (hzs : z.cells.size = sz) (hsz : 0 < sz) (hb : σ.blk b = some (.own e cs))
 (hcap : (lo + n) * sz <= cs.length) (had : 0 < n -> ad = ⟨b, lo * sz, none⟩) (hn : news.map AV.val = (Builtin.zeroCells z.cells n).toList) (h1 : ∀ a ∈ news, a.one = true) (hv : ∀ a ∈ news, Zap w (σ.free Z) a) :
 ∃ w', (Builtin.clear_ #[t] ty #[.slice (some ad) n c]).run P w = .ok (.tuple #[]) w' /\ Zau w' (σ.set b (.own e (ZaR cs (lo * sz) news))) Z /\ Grow w σ w' (σ.set b (.own e (ZaR cs (lo * sz) news))) := by
 have hty := ZbU ht
 have hlen : news.length = n * sz := by
  have := congrArg List.length hn
  rw [List.length_map] at this
  rw [this]
  simp [size_zeroCells, hzs]
 by_cases h0 : n = 0
 ·subst h0
  have hnn : news = [] := List.eq_nil_of_length_eq_zero (by simpa using hlen)
  subst hnn
  rw [Zgw, Zii hb]
  refine ⟨w, ?_, hH, Grow.refl _ _⟩
  simp [Builtin.clear_, run_underlying hty]
 ·have had := had (by omega)
  subst had
  rw [Nat.add_mul] at hcap
  obtain ⟨g1, g2, g3⟩ := hH.storeAt (P := P) (off := lo * sz) (news := news) hb (by omega) h1 hv
  refine ⟨_, ?_, g2, g3⟩
  obtain ⟨m, rfl⟩ : ∃ m, n = m + 1 := ⟨n - 1, by omega⟩
  rw [hn] at g1
  have hzv := Zc9 (P := P) (w := w) hz
  simp [Builtin.clear_, run_underlying hty, hzv, g1]
end
end Go.Proofs.Ytinpiaibhjmfaaa
namespace Go.Proofs.Ytinpiaibhjmfaaa
open Go.RowKit
set_option linter.unusedSimpArgs false
set_option maxRecDepth 100000
set_option linter.unusedVariables false
variable {T : Nat -> Type} {A : Type}
section
variable {U : Nat -> Prop} {C : Zbg T} {ρ ρ' : Nat -> AV} {h h1 : List (HI T)} {σ τ : St}
theorem Hp.kill (H : Hp C ρ' h1 τ) (R : Rel U ρ h σ ρ' h1 τ) (i : Nat) : Hp C ρ' (h1.set i .dead) τ /\ Rel U ρ h σ ρ' (h1.set i .dead) τ := by
 have hl : (h1.set i HI.dead).length = h1.length := by simp
 refine ⟨⟨fun j x hx => ?_, fun j k x y c hx hy ax ay bx by_ => ?_⟩, ⟨by rw [hl]; exact R.len, R.ext, R.but, fun c ⟨j, x, hx, ax, bx⟩ => ?_⟩⟩
 ·rw [hl]
  rcases ZcF hx with ⟨_, rfl, _⟩ | ⟨_, hx⟩
  ·trivial
  ·exact H.it j x hx
 ·rcases ZcF hx with ⟨_, rfl, _⟩ | ⟨_, hx⟩
  ·cases ax
  rcases ZcF hy with ⟨_, rfl, _⟩ | ⟨_, hy⟩
  ·cases ay
  exact H.dist j k x y c hx hy ax ay bx by_
 ·rcases ZcF hx with ⟨_, rfl, _⟩ | ⟨_, hx⟩
  ·cases ax
  exact R.born c ⟨j, x, hx, ax, bx⟩
theorem Hp.newNil (H : Hp C ρ h σ) (e : TypeId) (E : Nat) (kp : Bool) : Hp C (rup ρ h.length (.lst none 0 0 [])) (h ++ [.arr e E kp []]) σ /\ Rel U ρ h σ (rup ρ h.length (.lst none 0 0 [])) (h ++ [.arr e E kp []]) σ := by
 have hext : ∀ j, j < h.length -> rup ρ h.length (.lst none 0 0 []) j = ρ j := fun j hj => Zdz (by omega)
 have hlen : h.length <= (h ++ [HI.arr e E kp []]).length := by simp
 refine ⟨⟨fun j x hx => ?_, fun j k x y c hx hy ax ay bx by_ => ?_⟩, ⟨hlen, hext, .refl _ _, fun c ⟨j, x, hx, ax, bx⟩ => ?_⟩⟩
 ·rcases ZbP hx with ⟨rfl, rfl⟩ | ⟨hj, hx⟩
  ·exact .inr ⟨Za6 _ _ _, rfl⟩
  ·have := H.it j x hx
   cases x with
   | obj t' cs' =>
    obtain ⟨b', acs', q1, q2, q3, q4⟩ := this
    exact ⟨b', acs', (hext j hj).trans q1, q2, q3, q4.ext hlen hext⟩
   | arr e2 E2 kp2 xs2 =>
    unfold SH at this ⊢
    rw [hext j hj]
    exact this
   | row e2 sz2 =>
    unfold SH at this ⊢
    rw [hext j hj]
    exact this
   | mmap K2 V2 es2 =>
    unfold SH at this ⊢
    rw [hext j hj]
    exact this
   | gen E2 x2 =>
    unfold SH at this ⊢
    rw [hext j hj]
    exact this
   | dead => trivial
 ·rcases ZbP hx with ⟨rfl, rfl⟩ | ⟨hj, hx⟩ <;> rcases ZbP hy with ⟨rfl, rfl⟩ | ⟨hk, hy⟩
  ·rfl
  ·rw [Za6] at bx; cases bx
  ·rw [Za6] at by_; cases by_
  ·rw [hext j hj] at bx
   rw [hext k hk] at by_
   exact H.dist j k x y c hx hy ax ay bx by_
 ·rcases ZbP hx with ⟨rfl, rfl⟩ | ⟨hj, hx⟩
  ·rw [Za6] at bx; cases bx
  ·rw [hext j hj] at bx
   exact .inl ⟨j, x, hx, ax, bx⟩
theorem Hp.move (H : Hp C ρ' h1 τ) (R : Rel U ρ h σ ρ' h1 τ) {i : Nat} {e : TypeId} {E : Nat} {kp : Bool} {xs : List (T E)} (hi : h1[i]? = some (.arr e E kp xs)) :
 Hp C (rup ρ' h1.length (ρ' i)) (h1.set i .dead ++ [.arr e E kp xs]) τ /\ Rel U ρ h σ (rup ρ' h1.length (ρ' i)) (h1.set i .dead ++ [.arr e E kp xs]) τ := by
 obtain ⟨H2, R2⟩ := H.kill R i
 have hil := Zbr hi
 have hl : (h1.set i HI.dead).length = h1.length := by simp
 have hext : ∀ j, j < h1.length -> rup ρ' h1.length (ρ' i) j = ρ' j := fun j hj => Zdz (by omega)
 have hlen : (h1.set i HI.dead).length <= (h1.set i HI.dead ++ [HI.arr e E kp xs]).length := by simp
 have hi0 := H.it i _ hi
 have hne : ∀ j x, (h1.set i HI.dead)[j]? = some x -> x.alive = true -> j ≠ i /\ h1[j]? = some x := fun j x hx ax => by
  rcases ZcF hx with ⟨_, rfl, _⟩ | ⟨hn, hx⟩
  ·cases ax
  ·exact ⟨hn, hx⟩
 refine ⟨⟨fun j x hx => ?_, fun j k x y c hx hy ax ay bx by_ => ?_⟩, ⟨by rw [List.length_append, hl]; have := R.len; omega, fun j hj => ?_, R.but, fun c ⟨j, x, hx, ax, bx⟩ => ?_⟩⟩
 ·rcases ZbP hx with ⟨rfl, rfl⟩ | ⟨hj, hx⟩
  ·rw [hl]
   unfold SH at hi0 ⊢
   rw [Za6]
   exact hi0
  ·rw [hl] at hj
   have := H2.it j x hx
   cases x with
   | obj t' cs' =>
    obtain ⟨b', acs', q1, q2, q3, q4⟩ := this
    exact ⟨b', acs', (hext j hj).trans q1, q2, q3, q4.ext hlen (fun m hm => hext m (by rw [hl] at hm; exact hm))⟩
   | arr e2 E2 kp2 xs2 =>
    unfold SH at this ⊢
    rw [hext j hj]
    exact this
   | row e2 sz2 =>
    unfold SH at this ⊢
    rw [hext j hj]
    exact this
   | mmap K2 V2 es2 =>
    unfold SH at this ⊢
    rw [hext j hj]
    exact this
   | gen E2 x2 =>
    unfold SH at this ⊢
    rw [hext j hj]
    exact this
   | dead => trivial
 ·rcases ZbP hx with ⟨rfl, rfl⟩ | ⟨hj, hx⟩ <;> rcases ZbP hy with ⟨rfl, rfl⟩ | ⟨hk, hy⟩
  ·rfl
  ·rw [hl] at hk bx
   rw [Za6] at bx
   rw [hext k hk] at by_
   obtain ⟨q1, q2⟩ := hne k y hy ay
   exact absurd (H.dist k i y _ c q2 hi ay rfl by_ bx) q1
  ·rw [hl] at hj by_
   rw [Za6] at by_
   rw [hext j hj] at bx
   obtain ⟨q1, q2⟩ := hne j x hx ax
   exact absurd (H.dist j i x _ c q2 hi ax rfl bx by_) q1
  ·rw [hl] at hj hk
   rw [hext j hj] at bx
   rw [hext k hk] at by_
   exact H2.dist j k x y c hx hy ax ay bx by_
 ·rw [hext j (by have := R.len; omega)]
  exact R.ext j hj
 ·rcases ZbP hx with ⟨rfl, rfl⟩ | ⟨hj, hx⟩
  ·rw [hl, Za6] at bx
   exact R.born c ⟨i, _, hi, rfl, bx⟩
  ·rw [hl] at hj
   rw [hext j hj] at bx
   exact R2.born c ⟨j, x, hx, ax, bx⟩
end
section
variable {U : Nat -> Prop} {C : Zbg T} {N : Nat} {ρ : Nat -> AV} {P : Program} {h : List (HI T)} {d : Option Nat} {ty t : TypeId} {pos : String} {af : Array Edge} {g : Option (Nat × Bool)} {z : A} {k : XV T -> List (HI T) -> Option A} {vs : List (XV T)}
theorem Hp.arrAt {σ : St} {E i b : Nat} {kp : Bool} {e : TypeId} {xs : List (T E)} (H : Hp C ρ h σ) (hi : h[i]? = some (.arr e E kp xs)) {K : Nat} (hρ : ρ i = ab b K) : ∃ pre rest, σ.blk b = some (.own e (pre ++ rest)) /\ σ.used b /\ (∀ N' ρ', SVs C N' ρ' (xs.flatMap (C.enc E)) pre) /\ (pre ++ rest).length = K * C.sz E /\ K <= maxLen /\ (C.full E = true -> ∃ zs : List (T E), ∀ N' ρ', SVs C N' ρ' (zs.flatMap (C.enc E)) rest) := by
 rcases H.it i _ hi with ⟨b', K', pre, rest, hb1, hb2, hb3, hb4⟩ | ⟨hb1, _⟩
 ·rw [hρ] at hb1
  obtain ⟨e1, e2⟩ := Zpk hb1
  subst e1 e2
  exact ⟨pre, rest, hb2, hb3, hb4⟩
 ·rw [hρ] at hb1; cases hb1
theorem ZjQ {σ : St} {b sz off m : Nat} {e : TypeId} {cs : List AV} {y : AV} {ad : Addr} {c : Nat} (hy : y.val = .slice (some ad) m c) (hb : σ.blk b = some (.own e cs)) (had : 0 < m -> ad = ⟨b, off, none⟩) (hsz : 0 < sz) (hl : off + m * sz <= cs.length) (h1 : ∀ a ∈ (cs.drop off).take (m * sz), a.one = true) :
 Src σ sz y m ((cs.drop off).take (m * sz)) := by
 refine ⟨by rw [List.length_take, List.length_drop]; omega, h1, ⟨_, _, hy, fun e => by cases e⟩, fun w Z hH hV => ⟨fun a ha => (hH.own _ _ _ hb).2.2 a (List.mem_of_mem_drop (List.mem_of_mem_take ha)), fun ad' c' hy' j u hu => ?_⟩⟩
 rw [hy] at hy'
 injection hy' with q1 _ _
 injection q1 with q1
 subst q1
 rw [List.getElem?_map, List.getElem?_take] at hu
 split at hu
 ·rename_i hj
  have hm : 0 < m := by
   rcases Nat.eq_zero_or_pos m with h0 | h0
   ·subst h0; omega
   ·exact h0
  rw [had hm]
  cases hd : (cs.drop off)[j]? with
  | none => rw [hd] at hu; cases hu
  | some q =>
   rw [hd] at hu
   injection hu with hu
   subst hu
   rw [List.getElem?_drop] at hd
   exact ZeE hH hb off j hd
 ·cases hu
theorem Zlj {σ : St} {sz : Nat} : Src σ sz (.lst none 0 0 []) 0 [] := ⟨by simp, by simp, ⟨none, 0, by simp, fun _ => rfl⟩, fun w Z hH hV => ⟨by simp, fun ad c hy j u hu => by simp at hu⟩⟩
end
end Go.Proofs.Ytinpiaibhjmfaaa
namespace Go.Proofs.Ytinpiaibhjmfaaa
open Go.RowKit
set_option linter.unusedSimpArgs false
set_option maxRecDepth 100000
set_option linter.unusedVariables false
variable {T : Nat -> Type} {A : Type}
section
variable {U : Nat -> Prop} {C : Zbg T} {N : Nat} {ρ ρ' : Nat -> AV} {P : Program} {h h1 : List (HI T)} {d : Option Nat} {ty t t' : TypeId} {pos : String} {af : Array Edge} {g : Option (Nat × Bool)} {z : A} {k : XV T -> List (HI T) -> Option A} {vs : List (XV T)} {σ τ : St}
theorem Zhs {ox oy : Operand} {a b : AV} {K : AV -> St -> Prop}
 (hrun : ∀ w Z, Zau w σ Z -> Zap w (σ.free Z) a -> Zap w (σ.free Z) b -> ∃ r σ' w', (Builtin.append_ #[t, t'] ty #[a.val, b.val]).run P w = .ok r.val w' /\ K r σ' /\ Zau w' σ' Z /\ Zap w' (σ'.free Z) r /\ Grow w σ w' σ') :
 Zc8 P ⟨d, .call ⟨.builtin .append, #[ox, oy], #[t, t']⟩, ty, pos, af, g⟩ [a, b] σ K := by
 refine .inr ⟨rfl, fun ρ hρ w Z hH hV => ?_⟩
 have hρ' := hρ
 simp [Op.operands, Call.operands] at hρ'
 obtain ⟨r, σ', w', h1, h2, h3, h4, h5⟩ := hrun w Z hH (hV a (by simp)) (hV b (by simp))
 refine ⟨r, σ', w', .inl ?_, h2, h3, h4, h5⟩
 simp [execOp, resolve, invoke, builtin, hρ', h1]
theorem ZaY {w : World} {B : Nat -> Nat -> Prop} (v : Value) : Zap w B (.raw v) := by unfold Zap; trivial
theorem ZeT {w : World} {B : Nat -> Nat -> Prop} : Zap w B (.lst none 0 0 []) := by
 unfold Zap
 exact ⟨Nat.le_refl _, fun _ => ⟨rfl, rfl, rfl⟩, fun ad had => by cases had⟩
end
end Go.Proofs.Ytinpiaibhjmfaaa
namespace Go.Proofs.Ytinpiaibhjmfaaa
open Go.RowKit
set_option linter.unusedSimpArgs false
set_option maxRecDepth 100000
set_option linter.unusedVariables false
variable {T : Nat -> Type} {A : Type}
section
variable {U : Nat -> Prop} {C : Zbg T} {N : Nat} {ρ ρ' : Nat -> AV} {P : Program} {h h1 : List (HI T)} {d : Option Nat} {ty t t' : TypeId} {pos : String} {af : Array Edge} {g : Option (Nat × Bool)} {z : A} {k : XV T -> List (HI T) -> Option A} {vs : List (XV T)} {σ τ : St}
theorem ZfR {α : Type} (n : Nat) (l : List α) : ((List.replicate n l).flatten).length = n * l.length := by
 induction n with
 | zero => simp
 | succ n ih => rw [List.replicate_succ, List.flatten_cons, List.length_append, ih, Nat.succ_mul]; omega
end
end Go.Proofs.Ytinpiaibhjmfaaa
namespace Go.Proofs.Ytinpiaibhjmfaaa
open Go.RowKit
set_option linter.unusedSimpArgs false
set_option maxRecDepth 100000
set_option linter.unusedVariables false
variable {T : Nat -> Type} {A : Type}
section
variable {U : Nat -> Prop} {C : Zbg T} {N : Nat} {ρ ρ' : Nat -> AV} {P : Program} {h h1 : List (HI T)} {d : Option Nat} {ty t t' : TypeId} {pos : String} {af : Array Edge} {g : Option (Nat × Bool)} {z : A} {k : XV T -> List (HI T) -> Option A} {vs : List (XV T)} {σ τ : St}
end
end Go.Proofs.Ytinpiaibhjmfaaa
namespace Go.Proofs.Ytinpiaibhjmfaaa
open Go.RowKit
set_option linter.unusedSimpArgs false
set_option maxRecDepth 100000
set_option linter.unusedVariables false
section
variable {P : Program} {w : World} {σ : St} {Z : Nat -> Prop}
def Zc4 (w : World) (b : Nat) (es : Array MapEntry) (c : Nat) : World := { w with heap := w.heap.setIfInBounds b (.map es c) }
theorem Zji {b c c' : Nat} {es es' : Array MapEntry} (hb : w.heap[b]? = some (.map es c)) : (Zc4 w b es' c').heap[b]? = some (.map es' c') := by
 have hlt : b < w.heap.size := (Array.getElem?_eq_some_iff.1 hb).1
 simp [Zc4, hlt]
theorem Zdd {b b' c' : Nat} {es' : Array MapEntry} (hne : b' ≠ b) : (Zc4 w b es' c').heap[b']? = w.heap[b']? := by
 simp [Zc4, Ne.symm hne]
theorem Zik {a : Array MapEntry} {c : Nat} {x : MapEntry} (h1 : ∀ n ∈ a.toList.map fun e : MapEntry => e.born, n < c) (h2 : (a.toList.map fun e : MapEntry => e.born).Nodup) (hx : x.born = c := by rfl) : (∀ n ∈ (a.push x).toList.map fun e : MapEntry => e.born, n < c + 1) /\ ((a.push x).toList.map fun e : MapEntry => e.born).Nodup := by
 rw [Array.toList_push, List.map_append, List.map_cons, List.map_nil, hx]
 refine ⟨fun n hn => ?_, ?_⟩
 ·rcases List.mem_append.1 hn with hn | hn
  ·have := h1 n hn; omega
  ·rw [List.mem_singleton.1 hn]; omega
 ·rw [List.nodup_append]
  refine ⟨h2, by simp, fun n hn m hm e => ?_⟩
  rw [List.mem_singleton.1 hm] at e
  have := h1 n hn
  omega
theorem Zjj (a : Array MapEntry) (j : Nat) (f : MapEntry -> MapEntry) (hf : ∀ e, (f e).born = e.born) : ((a.modify j f).toList.map fun e : MapEntry => e.born) = a.toList.map fun e : MapEntry => e.born := by
 rw [Array.toList_modify]
 generalize a.toList = l
 induction l generalizing j with
 | nil => cases j <;> rfl
 | cons x l ih => cases j with
  | zero =>
   show (f x).born :: _ = _
   rw [hf]
   rfl
  | succ j =>
   show x.born :: ((l.modify j f).map fun e : MapEntry => e.born) = _
   rw [ih]
   rfl
theorem Zau.alloc_map (h : Zau w σ Z) : Zau (w.alloc (.map #[] 0)) (σ.put w.heap.size (.map [])) Z := by
 have hg := Grow.alloc h (.map #[] 0) (.map [])
 refine ⟨fun b hu => ?_, fun b hz => ?_, fun b t' cs' hb => ?_, fun b t' k s hb => ?_, fun b es hb => ?_⟩
 ·simp only [World.size_alloc]
  rcases hu with hu | rfl
  ·have := h.used _ hu; omega
  ·omega
 ·obtain ⟨h1, h2⟩ := h.z _ hz
  refine ⟨by simp only [World.size_alloc]; omega, ?_⟩
  have hne : b ≠ w.heap.size := by omega
  show (if b = w.heap.size then _ else σ.blk b) = none
  rw [if_neg hne]; exact h2
 ·change (if b = w.heap.size then some (Bk.map []) else σ.blk b) = _ at hb
  split at hb
  ·injection hb with hb; cases hb
  ·obtain ⟨h1, h2, h3⟩ := h.own _ _ _ hb
   exact ⟨.inl h1, (Below.heap_alloc _ _ _ (h.used _ h1)).trans h2, fun c hc => hg.valid (h3 c hc)⟩
 ·change (if b = w.heap.size then some (Bk.map []) else σ.blk b) = _ at hb
  split at hb
  ·injection hb with hb; cases hb
  ·obtain ⟨h1, cs', h2, h3⟩ := h.tail _ _ _ _ hb
   exact ⟨.inl h1, cs', (Below.heap_alloc _ _ _ (h.used _ h1)).trans h2, h3⟩
 ·change (if b = w.heap.size then some (Bk.map []) else σ.blk b) = _ at hb
  split at hb
  ·rename_i hbb
   injection hb with hb
   injection hb with hb
   subst hb hbb
   exact ⟨.inr rfl, .map #[] 0, (), heap_alloc_new _ _, .inl ⟨rfl, rfl, by simp, by simp⟩⟩
  ·obtain ⟨h1, a, c, h2, h3⟩ := h.map _ _ hb
   exact ⟨.inl h1, a, c, (Below.heap_alloc _ _ _ (h.used _ h1)).trans h2, h3⟩
theorem Zau.write_map (hH : Zau w σ Z) {b c c' : Nat} {es : List (Value × Value)} {a a' : Array MapEntry} (hb : σ.blk b = some (.map es)) (hh : w.heap[b]? = some (.map a c)) (hfr : (∀ n ∈ a'.toList.map fun e : MapEntry => e.born, n < c') /\ (a'.toList.map fun e : MapEntry => e.born).Nodup) (ht : Zhm (a'.toList.map fun e : MapEntry => (e.key, e.val)) = 0) :
 Zau (Zc4 w b a' c') (σ.set b (.map (a'.toList.map fun e : MapEntry => (e.key, e.val)))) Z /\ Grow w σ (Zc4 w b a' c') (σ.set b (.map (a'.toList.map fun e : MapEntry => (e.key, e.val)))) := by
 obtain ⟨hu, _⟩ := hH.map _ _ hb
 have hg : Grow w σ (Zc4 w b a' c') (σ.set b (.map (a'.toList.map fun e : MapEntry => (e.key, e.val)))) := by
  refine ⟨rfl, rfl, rfl, by simp [Zc4], fun _ _ h => h, fun b' hb' hn' => ?_, fun b' t' k s hb' ht' => ?_, fun _ h => h⟩
  ·have hne : b' ≠ b := by rintro rfl; rw [hb] at hn'; cases hn'
   exact ⟨Zdd hne, by show (if b' = b then _ else σ.blk b') = _; rw [if_neg hne]; exact hn'⟩
  ·have hne : b' ≠ b := by rintro rfl; rw [hb] at ht'; cases ht'
   refine ⟨fun j v _ hv => ?_, .inr ⟨t', k, s, ?_, Nat.le_refl _⟩⟩
   ·rw [World.cell?_of_block (w := w) (Zdd hne)]; exact hv
   ·show (if b' = b then _ else σ.blk b') = _
    rw [if_neg hne]; exact ht'
 refine ⟨⟨fun b' hu' => ?_, fun b' hz => ?_, fun b' t' cs2 hb' => ?_, fun b' t' k s hb' => ?_, fun b' es' hb' => ?_⟩, hg⟩
 ·have := hH.used _ hu'; simpa [Zc4] using this
 ·obtain ⟨z1, z2⟩ := hH.z _ hz
  have hne : b' ≠ b := by rintro rfl; rw [hb] at z2; cases z2
  refine ⟨by simpa [Zc4] using z1, ?_⟩
  show (if b' = b then _ else σ.blk b') = _
  rw [if_neg hne]; exact z2
 ·change (if b' = b then _ else σ.blk b') = _ at hb'
  split at hb'
  ·injection hb' with hb'; cases hb'
  ·rename_i hne
   obtain ⟨g1, g2, g3⟩ := hH.own _ _ _ hb'
   exact ⟨g1, (Zdd hne).trans g2, fun c hc => hg.valid (g3 c hc)⟩
 ·change (if b' = b then _ else σ.blk b') = _ at hb'
  split at hb'
  ·injection hb' with hb'; cases hb'
  ·rename_i hne
   obtain ⟨g1, cs2, g2, g3⟩ := hH.tail _ _ _ _ hb'
   exact ⟨g1, cs2, (Zdd hne).trans g2, g3⟩
 ·change (if b' = b then _ else σ.blk b') = _ at hb'
  split at hb'
  ·rename_i hbb
   injection hb' with hb'
   injection hb' with hb'
   subst hb' hbb
   exact ⟨hu, .map a' c', (), Zji hh, .inl ⟨ht, rfl, hfr⟩⟩
  ·rename_i hne
   obtain ⟨g1, a2, c2, g2, g3⟩ := hH.map _ _ hb'
   exact ⟨g1, a2, c2, (Zdd hne).trans g2, g3⟩
end
variable {T : Nat -> Type} {A : Type}
section
variable {U : Nat -> Prop} {C : Zbg T} {N : Nat} {ρ ρ' : Nat -> AV} {P : Program} {h h1 : List (HI T)} {d : Option Nat} {ty t t' : TypeId} {pos : String} {af : Array Edge} {g : Option (Nat × Bool)} {z : A} {k : XV T -> List (HI T) -> Option A} {vs : List (XV T)} {σ τ : St} {b : Nat}
def Zq8 (P : Program) (t : TypeId) : MK -> Prop
 | .str => P.underlying t = some .string
 | .int k => P.underlying t = some (.int k)
 | .two k j => ∃ fs f g, P.underlying t = some (.struct fs) /\ fs.toList = [f, g] /\ P.underlying f.type = some (.int k) /\ P.underlying g.type = some (.int j) /\ f.name ≠ "_" /\ g.name ≠ "_" /\ f.offset = 0 /\ g.offset = 1 /\ ZnJ P 8 t = some [.i k, .i j]
theorem Zil (a b : List UInt8) : ((ByteArray.mk a.toArray) == (ByteArray.mk b.toArray)) = decide (a = b) := by
 show (a.toArray == b.toArray) = _
 by_cases h : a = b
 ·subst h; simp
 ·rw [decide_eq_false h]
  rw [beq_eq_false_iff_ne]
  intro e
  exact h (by simpa using congrArg Array.toList e)
theorem ZfS {t : TypeId} {k : IntKind} {xs : Array Value} {o : Nat} {v : Value} {w : World} (hu : P.underlying t = some (.int k)) (hx : xs[o]? = some v) : (part t xs o).run P w = .ok v w := by
 simp [part, isAgg, run_underlying hu, hx]
theorem ZmO {K : MK} {kt : TypeId} {w : World} {y : K.ty} (hk : Zq8 P kt K) (e : Bool) : (Instr.checkKey e 10000 kt (K.val y)).run P w = .ok () w := by
 rw [show (10000 : Nat) = 9999 + 1 from rfl]
 cases K with
 | str => unfold Instr.checkKey; rw [Sem.run_bind, run_underlying hk]; rfl
 | int k0 => unfold Instr.checkKey; rw [Sem.run_bind, run_underlying hk]; rfl
 | two k j =>
  obtain ⟨fs, f, g, hu, hl, hf, hg, n1, n2, o1, o2, _⟩ := hk
  obtain ⟨fa⟩ := fs
  dsimp only at hl
  subst hl
  have c1 : (Instr.checkKey e 9999 f.type (.int k y.1)).run P w = .ok () w := by
   rw [show (9999 : Nat) = 9998 + 1 from rfl]; unfold Instr.checkKey; rw [Sem.run_bind, run_underlying hf]; rfl
  have c2 : (Instr.checkKey e 9999 g.type (.int j y.2)).run P w = .ok () w := by
   rw [show (9999 : Nat) = 9998 + 1 from rfl]; unfold Instr.checkKey; rw [Sem.run_bind, run_underlying hg]; rfl
  have p1 : (part f.type #[.int k y.1, .int j y.2] f.offset).run P w = .ok (.int k y.1) w := ZfS hf (by rw [o1]; rfl)
  have p2 : (part g.type #[.int k y.1, .int j y.2] g.offset).run P w = .ok (.int j y.2) w := ZfS hg (by rw [o2]; rfl)
  unfold Instr.checkKey
  rw [Sem.run_bind, run_underlying hu]
  simp [MK.val, n1, n2, p1, p2, c1, c2, Result.andThen]
theorem ZmP {K : MK} {w : World} {x : K.ty} : (Instr.keyThatStays (K.val x) (K.val x)).run P w = .ok (K.val x) w := by
 have : Instr.sameBits 10000 (K.val x) (K.val x) = true := by
  cases K with
  | str =>
   show ((ByteArray.mk (List.toArray x)) == (ByteArray.mk (List.toArray x))) = true
   rw [Zil]; simp
  | int k0 => simp [MK.val, Instr.sameBits]
  | two k j => simp [MK.val, Instr.sameBits]
 unfold Instr.keyThatStays
 rw [if_pos this]
 rfl
theorem Zim {w : World} {a : Array MapEntry} {c : Nat} (hb : w.heap[b]? = some (.map a c)) : (getObj b).run P w = .ok (.map a c) w := by
 simp [getObj, Sem.run, hb]
theorem Zin {w : World} {a a' : Array MapEntry} {c c' : Nat} (hb : w.heap[b]? = some (.map a c)) : (setObj b (.map a' c')).run P w = .ok () (Zc4 w b a' c') := by
 simp [setObj, Sem.run, hb, Zc4]
end
end Go.Proofs.Ytinpiaibhjmfaaa
