/- XXa, XXs, XXt, XXu, XXv, XXm in one. -/
import Derived.Test.YteempnebenjkmaaGreatDoorMa
import Derived.Laws.AppendOwn
import Derived.Laws.MakeOwn
import Derived.Lib.AppendZerosOnto
namespace Go.Proofs.YteempnebenjkmaaGreatDoor
open Go.RowKit
set_option linter.unusedSimpArgs false
set_option maxRecDepth 100000
set_option linter.unusedVariables false
section
variable {P : Program} {w : World} {σ : St} {Z : Nat -> Prop}
theorem Zan.write (hH : Zan w σ Z) {b : Nat} {e : TypeId} {cs cs' : List AV} (hb : σ.blk b = some (.own e cs)) (hv : ∀ c ∈ cs', Zag w (σ.free Z) c) :
 Zan (w.setRow b (cs'.map AV.val).toArray) (σ.set b (.own e cs')) Z /\ Grow w σ (w.setRow b (cs'.map AV.val).toArray) (σ.set b (.own e cs')) := by
 obtain ⟨hu, hh, hvs⟩ := hH.own _ _ _ hb
 have hg : Grow w σ (w.setRow b (cs'.map AV.val).toArray) (σ.set b (.own e cs')) := by
  refine ⟨rfl, rfl, rfl, by simp [World.setRow], fun _ _ h => h, fun b' hb' hn' => ?_, fun b' t' k s hb' ht' => ?_, fun _ h => h⟩
  ·have hne : b' ≠ b := by rintro rfl; rw [hb] at hn'; cases hn'
   exact ⟨setRow_other _ _ _ _ hne, by show (if b' = b then _ else σ.blk b') = _; rw [if_neg hne]; exact hn'⟩
  ·have hne : b' ≠ b := by rintro rfl; rw [hb] at ht'; cases ht'
   refine ⟨fun j v _ hv => ?_, .inr ⟨t', k, s, ?_, Nat.le_refl _⟩⟩
   ·rw [World.cell?_of_block (w := w) (setRow_other _ _ _ _ hne)]; exact hv
   ·show (if b' = b then _ else σ.blk b') = _
    rw [if_neg hne]; exact ht'
 refine ⟨⟨fun b' hu' => ?_, fun b' hz => ?_, fun b' t' cs2 hb' => ?_, fun b' t' k s hb' => ?_, fun b' es hb' => ?_⟩, hg⟩
 ·have := hH.used _ hu'; simpa [World.setRow] using this
 ·obtain ⟨z1, z2⟩ := hH.z _ hz
  have hne : b' ≠ b := by rintro rfl; rw [hb] at z2; cases z2
  refine ⟨by simpa [World.setRow] using z1, ?_⟩
  show (if b' = b then _ else σ.blk b') = _
  rw [if_neg hne]; exact z2
 ·change (if b' = b then some (Bk.own e cs') else σ.blk b') = _ at hb'
  split at hb'
  ·rename_i hbb
   injection hb' with hb'
   injection hb' with e1 e2
   subst e1 e2 hbb
   exact ⟨hu, setRow_heap _ _ _ _ _ _ hh, fun c hc => hg.valid (hv c hc)⟩
  ·rename_i hne
   obtain ⟨g1, g2, g3⟩ := hH.own _ _ _ hb'
   exact ⟨g1, (setRow_other _ _ _ _ hne).trans g2, fun c hc => hg.valid (g3 c hc)⟩
 ·change (if b' = b then some (Bk.own e cs') else σ.blk b') = _ at hb'
  split at hb'
  ·injection hb' with hb'; cases hb'
  ·rename_i hne
   obtain ⟨g1, cs2, g2, g3⟩ := hH.tail _ _ _ _ hb'
   exact ⟨g1, cs2, (setRow_other _ _ _ _ hne).trans g2, g3⟩
 ·change (if b' = b then some (Bk.own e cs') else σ.blk b') = _ at hb'
  split at hb'
  ·injection hb' with hb'; cases hb'
  ·rename_i hne
   obtain ⟨g1, a', c', g2, g3⟩ := hH.map _ _ hb'
   exact ⟨g1, a', c', (setRow_other _ _ _ _ hne).trans g2, g3⟩
theorem Zo8 {b : Nat} {k : Bk} (hb : σ.blk b = some k) : σ.set b k = σ := St.ext' (fun c => by
 show (if c = b then some k else σ.blk c) = _
 split
 ·rename_i e; rw [e, hb]
 ·rfl) (fun _ => Iff.rfl)
theorem Zlu (cs : List AV) (o : Nat) : ZaG cs o [] = cs := by simp [ZaG]
theorem Zan.storeAt (hH : Zan w σ Z) {b off : Nat} {e : TypeId} {cs news : List AV} (hb : σ.blk b = some (.own e cs)) (hfit : off + news.length <= cs.length) (h1 : ∀ a ∈ news, a.one = true) (hv : ∀ a ∈ news, Zag w (σ.free Z) a) :
 (storeCells ⟨b, off, none⟩ (news.map AV.val)).run P w = .ok () (w.setRow b ((ZaG cs off news).map AV.val).toArray) /\
 Zan (w.setRow b ((ZaG cs off news).map AV.val).toArray) (σ.set b (.own e (ZaG cs off news))) Z /\ Grow w σ (w.setRow b ((ZaG cs off news).map AV.val).toArray) (σ.set b (.own e (ZaG cs off news))) := by
 obtain ⟨hu, hh, hvs⟩ := hH.own _ _ _ hb
 have hst := run_storeCells_at P b off e (news.map AV.val) 0 (cs.map AV.val).toArray w hh (by simp; omega) (fun v hv => by
  simp only [List.mem_map] at hv
  obtain ⟨c, hc, rfl⟩ := hv
  exact AV.one_val (h1 c hc))
 have harr : ((cs.map AV.val).toArray.toList.take (off + 0) ++ news.map AV.val ++ (cs.map AV.val).toArray.toList.drop (off + 0 + (news.map AV.val).length)).toArray = ((ZaG cs off news).map AV.val).toArray := by
  simp [ZaG]
 rw [harr] at hst
 refine ⟨hst, hH.write hb fun c hc => ?_⟩
 unfold ZaG at hc
 simp only [List.mem_append] at hc
 rcases hc with (hc | hc) | hc
 ·exact hvs c (List.mem_of_mem_take hc)
 ·exact hv c hc
 ·exact hvs c (List.mem_of_mem_drop hc)
structure Src (σ : St) (sz : Nat) (y : AV) (m : Nat) (news : List AV) : Prop where
 len : news.length = m * sz
 one : ∀ a ∈ news, a.one = true
 at_ : ∃ A c, y.val = .slice A m c /\ (A = none -> m = 0)
 rd : ∀ w Z, Zan w σ Z -> Zag w (σ.free Z) y -> (∀ a ∈ news, Zag w (σ.free Z) a) /\ ∀ ad c, y.val = .slice (some ad) m c -> ∀ j u, (news.map AV.val)[j]? = some u -> w.cell? (ad.add j) = some u
theorem ZnL {e sz : Nat} (hs : Zav P e = some sz) : ∃ i, P.info? e = some i /\ i.size = sz := by
 unfold Zav at hs
 cases hi : P.info? e with
 | none => rw [hi] at hs; cases hs
 | some i => rw [hi] at hs; exact ⟨i, rfl, by simpa using hs⟩
theorem Zct {size n len cap : Nat} (h : n = 0) (A : Option Addr) : (Builtin.firstCells size n (.slice A len cap)).run P w = .ok #[] w := by
 subst h
 cases A <;> simp [Builtin.firstCells, loadCells, loadCellsFrom]
theorem ZgI {b lo n c m sz : Nat} {e t ty : TypeId} {cs news : List AV} {y : AV} {ad : Addr} (hH : Zan w σ Z) (hV : Zag w (σ.free Z) y) (ht : Zar P t = some e) (hs : Zav P e = some sz) (hsz : 0 < sz) (hb : σ.blk b = some (.own e cs))
 (hcap : (lo + c) * sz <= cs.length) (had : 0 < c -> ad = ⟨b, lo * sz, none⟩) (src : Src σ sz y m news) (hroom : n + m <= c) :
 ∃ w', (Builtin.append_ #[t, t] ty #[.slice (some ad) n c, y.val]).run P w = .ok (.slice (some ad) (n + m) c) w' /\ Zan w' (σ.set b (.own e (ZaG cs ((lo + n) * sz) news))) Z /\ Grow w σ w' (σ.set b (.own e (ZaG cs ((lo + n) * sz) news))) := by
 have hty := Za0 ht
 obtain ⟨i, hi, hsi⟩ := ZnL hs
 subst hsi
 obtain ⟨A, c', hy, hA⟩ := src.at_
 obtain ⟨hnv, hrd⟩ := src.rd w Z hH hV
 by_cases hm : m = 0
 ·subst hm
  have hn : news = [] := List.eq_nil_of_length_eq_zero (by simpa using src.len)
  subst hn
  rw [Zlu, Zo8 hb]
  refine ⟨w, ?_, hH, Grow.refl _ _⟩
  rw [hy]
  have hf := Zct (P := P) (w := w) (size := i.size) (n := 0) (len := 0) (cap := c') rfl A
  simp [Builtin.append_, run_underlying hty, sizeOf, typeInfo, hi, Builtin.lenOf, hf, (show n <= c by omega), storeCells]
 ·cases A with
  | none => exact absurd (hA rfl) hm
  | some a =>
   have had := had (by omega)
   subst had
   have hlen := src.len
   have hmul : (lo + n + m) * i.size <= (lo + c) * i.size := Nat.mul_le_mul_right _ (by omega)
   rw [Nat.add_mul] at hmul
   obtain ⟨g1, g2, g3⟩ := hH.storeAt (P := P) (off := (lo + n) * i.size) hb (by omega) src.one hnv
   refine ⟨_, ?_, g2, g3⟩
   rw [hy]
   have hf := run_firstCells_some (P := P) w i.size m a m c' (news.map AV.val) (by simpa using hlen) (hrd a c' hy)
   rw [Nat.add_mul] at g1
   have hst : (storeCells ((⟨b, lo * i.size, none⟩ : Addr).add (n * i.size)) (news.map AV.val)).run P w = .ok () (w.setRow b ((ZaG cs ((lo + n) * i.size) news).map AV.val).toArray) := by
    rw [Zbl, Nat.add_mul]; exact g1
   simp only [Builtin.append_, run_underlying hty, sizeOf, typeInfo, hi, Builtin.lenOf, hroom, hf, hst, Sem.run_bind, Sem.run_pure, Result.andThen_ok]
   simp [run_underlying hty, hi, hroom, hf, hst]
theorem Zan.made (hH : Zan w σ Z) (t : TypeId) (cs : List AV) (hv : ∀ c ∈ cs, Zag w (σ.free Z) c) :
 ¬ σ.used w.heap.size /\ σ.blk w.heap.size = none /\ Zan (w.drew.alloc (.cells (cs.map AV.val).toArray t)) (σ.put w.heap.size (.own t cs)) Z /\ Grow w σ (w.drew.alloc (.cells (cs.map AV.val).toArray t)) (σ.put w.heap.size (.own t cs)) := by
 have hH2 := hH.drew_
 have hgd := Grow.drew_ w σ
 obtain ⟨f1, f2⟩ := hH.fresh
 exact ⟨f1, f2, hH2.alloc_own t cs (fun c hc => hgd.valid (hv c hc)), hgd.trans (Grow.alloc hH2 _ _)⟩
theorem ZgJ (zv : Value) (n : Nat) (hz : 0 < zv.cells.size) : ((List.replicate n ((List.range zv.cells.size).map fun i => AV.ofV (zv.cells[i % zv.cells.size]!))).flatten).map AV.val = (Builtin.zeroCells zv.cells n).toList := by
 apply List.ext_getElem?
 intro j
 induction n generalizing j with
 | zero => simp [Builtin.zeroCells]
 | succ n ih =>
  rw [List.replicate_succ, List.flatten_cons, List.map_append]
  by_cases hj : j < zv.cells.size
  ·rw [List.getElem?_append_left (by simpa using hj)]
   have hlt : j < (n + 1) * zv.cells.size := by rw [Nat.succ_mul]; omega
   simp [Builtin.zeroCells, hj, hlt]
  ·rw [List.getElem?_append_right (by simp; omega)]
   rw [ih]
   simp only [List.length_map, List.length_range, Builtin.zeroCells, Array.toList_map, Array.toList_range, List.getElem?_map]
   by_cases hj2 : j < (n + 1) * zv.cells.size
   ·have h2 := hj2
    rw [Nat.succ_mul] at h2
    rw [List.getElem?_range (by omega), List.getElem?_range hj2]
    simp only [Option.map_some, Option.some.injEq]
    congr 1
    exact (Nat.mod_eq_sub_mod (by omega)).symm
   ·have h2 := hj2
    rw [Nat.succ_mul] at h2
    rw [List.getElem?_eq_none (by simp; omega), List.getElem?_eq_none (by simp; omega)]
theorem Zkk {n c m sz bytes : Nat} {e t ty : TypeId} {z : Value} {olds news : List AV} {x y : AV} (hH : Zan w σ Z) (hVx : Zag w (σ.free Z) x) (hV : Zag w (σ.free Z) y) (ht : Zar P t = some e) (hs : Zav P e = some sz) (hz : ZaS P e = some z) (hby : Zb5 P e = some bytes) (hzs : z.cells.size = sz) (hsz : 0 < sz)
 (srcx : Src σ sz x n olds) {A : Option Addr} (hx : x.val = .slice A n c) (hA0 : A = none -> c = 0) (src : Src σ sz y m news) (hg : c < n + m) (hnc : n <= c) (h63 : n + m <= maxLen) (hb : (n + m) * bytes <= 140737488355328) :
 ∃ cap w' rest, rest = ((List.replicate (cap - (n + m)) ((List.range z.cells.size).map fun i => AV.ofV (z.cells[i % z.cells.size]!))).flatten) /\ (Builtin.append_ #[t, t] ty #[x.val, y.val]).run P w = .ok (.slice (some ⟨w.heap.size, 0, none⟩) (n + m) cap) w' /\ n + m <= cap /\ cap <= maxLen /\ (olds ++ news ++ rest).length = cap * sz /\
  ¬ σ.used w.heap.size /\ σ.blk w.heap.size = none /\ Zan w' (σ.put w.heap.size (.own e (olds ++ news ++ rest))) Z /\ Grow w σ w' (σ.put w.heap.size (.own e (olds ++ news ++ rest))) := by
 have hty := Za0 ht
 obtain ⟨i, hi, hsi⟩ := ZnL hs
 have hzi : i.zero = some z := by unfold ZaS at hz; rw [hi] at hz; simpa using hz
 have hbi : i.bytes = bytes := by unfold Zb5 at hby; rw [hi] at hby; simpa using hby
 subst hsi hbi
 obtain ⟨A', c', hy, hA⟩ := src.at_
 obtain ⟨hnv, hrd⟩ := src.rd w Z hH hV
 obtain ⟨hov, hro⟩ := srcx.rd w Z hH hVx
 have hm : m ≠ 0 := by omega
 have h63' : n + m <= 9223372036854775807 := by simp only [maxLen] at h63; omega
 cases A' with
 | none => exact absurd (hA rfl) hm
 | some a =>
 have hlen := src.len
 have hlo := srcx.len
 have key : ∀ old, old < n + m -> ∃ cap w' rest, rest = ((List.replicate (cap - (n + m)) ((List.range z.cells.size).map fun i => AV.ofV (z.cells[i % z.cells.size]!))).flatten) /\ w' = (w.drew.alloc (.cells ((olds.map AV.val).toArray ++ (news.map AV.val).toArray ++ Builtin.zeroCells z.cells (grownCap w (n + m) old e - (n + m))) e)) /\ cap = grownCap w (n + m) old e /\ n + m <= cap /\ cap <= maxLen /\ (olds ++ news ++ rest).length = cap * i.size /\
  ¬ σ.used w.heap.size /\ σ.blk w.heap.size = none /\ Zan w' (σ.put w.heap.size (.own e (olds ++ news ++ rest))) Z /\ Grow w σ w' (σ.put w.heap.size (.own e (olds ++ news ++ rest))) := by
  intro old ho
  have hge := grownCap_ge w (n + m) old e
  have hcm := grownCap_le_maxLen w (n + m) old e h63
  generalize grownCap w (n + m) old e = cap at *
  have harr : (olds.map AV.val).toArray ++ (news.map AV.val).toArray ++ Builtin.zeroCells z.cells (cap - (n + m)) = ((olds ++ news ++ ((List.replicate (cap - (n + m)) ((List.range z.cells.size).map fun i => AV.ofV (z.cells[i % z.cells.size]!))).flatten)).map AV.val).toArray := by
   apply Array.ext'
   have hzv := ZgJ z (cap - (n + m)) (by omega)
   simp only [Array.toList_append, List.map_append, hzv]
  rw [harr]
  obtain ⟨f1, f2, f3, f4⟩ := hH.made e (olds ++ news ++ ((List.replicate (cap - (n + m)) ((List.range z.cells.size).map fun i => AV.ofV (z.cells[i % z.cells.size]!))).flatten)) (fun q hq => by
   rcases List.mem_append.1 hq with hq | hq
   ·rcases List.mem_append.1 hq with hq | hq
    ·exact hov q hq
    ·exact hnv q hq
   ·obtain ⟨l, hl, hal⟩ := List.mem_flatten.1 hq
    have hl := (List.mem_replicate.1 hl).2
    subst hl
    obtain ⟨j, _, rfl⟩ := List.mem_map.1 hal
    exact Zd4 _)
  refine ⟨cap, _, _, rfl, rfl, rfl, hge, hcm, ?_, f1, f2, f3, f4⟩
  have hzl : ((List.replicate (cap - (n + m)) ((List.range z.cells.size).map fun i => AV.ofV (z.cells[i % z.cells.size]!))).flatten).length = (cap - (n + m)) * z.cells.size := by
   have hq := congrArg List.length (ZgJ z (cap - (n + m)) (by omega))
   rw [List.length_map] at hq
   rw [hq]
   simp [size_zeroCells]
  rw [List.length_append, List.length_append, hzl, hzs, hlen, hlo]
  rw [<- Nat.add_mul, <- Nat.add_mul]
  congr 1
  omega
 cases A with
 | none =>
  have hc0 := hA0 rfl
  subst hc0
  have hn0 : n = 0 := by omega
  subst hn0
  have ho0 : olds = [] := List.eq_nil_of_length_eq_zero (by simpa using hlo)
  subst ho0
  obtain ⟨cap, w', rest, e0, e1, e2, r⟩ := key 0 (by omega)
  refine ⟨cap, w', rest, e0, ?_, r⟩
  have hr := run_append_nil (P := P) w t ty e i z hty hi hzi a m c' (news.map AV.val) (by simpa using hlen) (hrd a c' hy) (by omega) (by omega) (by have hb := hb; simp only [Nat.zero_add] at hb; omega)
  rw [hx, hy, hr, e1, e2]
  simp
 | some ao =>
  obtain ⟨cap, w', rest, e0, e1, e2, r⟩ := key c hg
  refine ⟨cap, w', rest, e0, ?_, r⟩
  have hr := run_append_grow (P := P) w t ty e i z hty hi hzi ao n c (olds.map AV.val) (by simpa using hlo) (hro ao c hx) a m c' (news.map AV.val) (by simpa using hlen) (hrd a c' hy) hg (by omega) (growslice_fits (by omega) hb)
  rw [hx, hy, hr, e1, e2]
theorem clear_ {b lo n c sz : Nat} {e t ty : TypeId} {z : Value} {cs news : List AV} {ad : Addr} (hH : Zan w σ Z) (ht : Zar P t = some e) (hz : ZaS P e = some z) (hzs : z.cells.size = sz) (hsz : 0 < sz) (hb : σ.blk b = some (.own e cs))
 (hcap : (lo + n) * sz <= cs.length) (had : 0 < n -> ad = ⟨b, lo * sz, none⟩) (hn : news.map AV.val = (Builtin.zeroCells z.cells n).toList) (h1 : ∀ a ∈ news, a.one = true) (hv : ∀ a ∈ news, Zag w (σ.free Z) a) :
 ∃ w', (Builtin.clear_ #[t] ty #[.slice (some ad) n c]).run P w = .ok (.tuple #[]) w' /\ Zan w' (σ.set b (.own e (ZaG cs (lo * sz) news))) Z /\ Grow w σ w' (σ.set b (.own e (ZaG cs (lo * sz) news))) := by
 have hty := Za0 ht
 have hlen : news.length = n * sz := by
  have := congrArg List.length hn
  rw [List.length_map] at this
  rw [this]
  simp [size_zeroCells, hzs]
 by_cases h0 : n = 0
 ·subst h0
  have hnn : news = [] := List.eq_nil_of_length_eq_zero (by simpa using hlen)
  subst hnn
  rw [Zlu, Zo8 hb]
  refine ⟨w, ?_, hH, Grow.refl _ _⟩
  simp [Builtin.clear_, run_underlying hty]
 ·have had := had (by omega)
  subst had
  rw [Nat.add_mul] at hcap
  obtain ⟨g1, g2, g3⟩ := hH.storeAt (P := P) (off := lo * sz) (news := news) hb (by omega) h1 hv
  refine ⟨_, ?_, g2, g3⟩
  obtain ⟨m, rfl⟩ : ∃ m, n = m + 1 := ⟨n - 1, by omega⟩
  rw [hn] at g1
  have hzv := ZdS (P := P) (w := w) hz
  simp [Builtin.clear_, run_underlying hty, hzv, g1]
end
variable {T : Nat -> Type} {A : Type}
section
variable {U : Nat -> Prop} {C : ZaA T} {ρ ρ' : Nat -> AV} {h h1 : List (HI T)} {σ τ : St}
theorem Hp.kill (H : Hp C ρ' h1 τ) (R : Rel U ρ h σ ρ' h1 τ) (i : Nat) : Hp C ρ' (h1.set i .dead) τ /\ Rel U ρ h σ ρ' (h1.set i .dead) τ := by
 have hl : (h1.set i HI.dead).length = h1.length := by simp
 refine ⟨⟨fun j x hx => ?_, fun j k x y c hx hy ax ay bx by_ => ?_⟩, ⟨by rw [hl]; exact R.len, R.ext, R.but, fun c ⟨j, x, hx, ax, bx⟩ => ?_⟩⟩
 ·rw [hl]
  rcases Zby hx with ⟨_, rfl, _⟩ | ⟨_, hx⟩
  ·trivial
  ·exact H.it j x hx
 ·rcases Zby hx with ⟨_, rfl, _⟩ | ⟨_, hx⟩
  ·cases ax
  rcases Zby hy with ⟨_, rfl, _⟩ | ⟨_, hy⟩
  ·cases ay
  exact H.dist j k x y c hx hy ax ay bx by_
 ·rcases Zby hx with ⟨_, rfl, _⟩ | ⟨_, hx⟩
  ·cases ax
  exact R.born c ⟨j, x, hx, ax, bx⟩
theorem Hp.newNil (H : Hp C ρ h σ) (e : TypeId) (E : Nat) (kp : Bool) : Hp C (rup ρ h.length (.lst none 0 0 [])) (h ++ [.arr e E kp []]) σ /\ Rel U ρ h σ (rup ρ h.length (.lst none 0 0 [])) (h ++ [.arr e E kp []]) σ := by
 have hext : ∀ j, j < h.length -> rup ρ h.length (.lst none 0 0 []) j = ρ j := fun j hj => ZeF (by omega)
 have hlen : h.length <= (h ++ [HI.arr e E kp []]).length := by simp
 refine ⟨⟨fun j x hx => ?_, fun j k x y c hx hy ax ay bx by_ => ?_⟩, ⟨hlen, hext, .refl _ _, fun c ⟨j, x, hx, ax, bx⟩ => ?_⟩⟩
 ·rcases Zbu hx with ⟨rfl, rfl⟩ | ⟨hj, hx⟩
  ·exact .inr ⟨ZaD _ _ _, rfl⟩
  ·have := H.it j x hx
   cases x with
   | obj t' cs' =>
    obtain ⟨b', acs', q1, q2, q3, q4⟩ := this
    exact ⟨b', acs', (hext j hj).trans q1, q2, q3, q4.ext hlen hext⟩
   | arr e2 E2 kp2 xs2 =>
    unfold SH at this ⊢
    rw [hext j hj]
    exact this
   | row e2 sz2 =>
    unfold SH at this ⊢
    rw [hext j hj]
    exact this
   | mmap K2 V2 es2 =>
    unfold SH at this ⊢
    rw [hext j hj]
    exact this
   | gen E2 x2 =>
    unfold SH at this ⊢
    rw [hext j hj]
    exact this
   | dead => trivial
 ·rcases Zbu hx with ⟨rfl, rfl⟩ | ⟨hj, hx⟩ <;> rcases Zbu hy with ⟨rfl, rfl⟩ | ⟨hk, hy⟩
  ·rfl
  ·rw [ZaD] at bx; cases bx
  ·rw [ZaD] at by_; cases by_
  ·rw [hext j hj] at bx
   rw [hext k hk] at by_
   exact H.dist j k x y c hx hy ax ay bx by_
 ·rcases Zbu hx with ⟨rfl, rfl⟩ | ⟨hj, hx⟩
  ·rw [ZaD] at bx; cases bx
  ·rw [hext j hj] at bx
   exact .inl ⟨j, x, hx, ax, bx⟩
theorem Hp.move (H : Hp C ρ' h1 τ) (R : Rel U ρ h σ ρ' h1 τ) {i : Nat} {e : TypeId} {E : Nat} {kp : Bool} {xs : List (T E)} (hi : h1[i]? = some (.arr e E kp xs)) :
 Hp C (rup ρ' h1.length (ρ' i)) (h1.set i .dead ++ [.arr e E kp xs]) τ /\ Rel U ρ h σ (rup ρ' h1.length (ρ' i)) (h1.set i .dead ++ [.arr e E kp xs]) τ := by
 obtain ⟨H2, R2⟩ := H.kill R i
 have hil := Zat hi
 have hl : (h1.set i HI.dead).length = h1.length := by simp
 have hext : ∀ j, j < h1.length -> rup ρ' h1.length (ρ' i) j = ρ' j := fun j hj => ZeF (by omega)
 have hlen : (h1.set i HI.dead).length <= (h1.set i HI.dead ++ [HI.arr e E kp xs]).length := by simp
 have hi0 := H.it i _ hi
 have hne : ∀ j x, (h1.set i HI.dead)[j]? = some x -> x.alive = true -> j ≠ i /\ h1[j]? = some x := fun j x hx ax => by
  rcases Zby hx with ⟨_, rfl, _⟩ | ⟨hn, hx⟩
  ·cases ax
  ·exact ⟨hn, hx⟩
 refine ⟨⟨fun j x hx => ?_, fun j k x y c hx hy ax ay bx by_ => ?_⟩, ⟨by rw [List.length_append, hl]; have := R.len; omega, fun j hj => ?_, R.but, fun c ⟨j, x, hx, ax, bx⟩ => ?_⟩⟩
 ·rcases Zbu hx with ⟨rfl, rfl⟩ | ⟨hj, hx⟩
  ·rw [hl]
   unfold SH at hi0 ⊢
   rw [ZaD]
   exact hi0
  ·rw [hl] at hj
   have := H2.it j x hx
   cases x with
   | obj t' cs' =>
    obtain ⟨b', acs', q1, q2, q3, q4⟩ := this
    exact ⟨b', acs', (hext j hj).trans q1, q2, q3, q4.ext hlen (fun m hm => hext m (by rw [hl] at hm; exact hm))⟩
   | arr e2 E2 kp2 xs2 =>
    unfold SH at this ⊢
    rw [hext j hj]
    exact this
   | row e2 sz2 =>
    unfold SH at this ⊢
    rw [hext j hj]
    exact this
   | mmap K2 V2 es2 =>
    unfold SH at this ⊢
    rw [hext j hj]
    exact this
   | gen E2 x2 =>
    unfold SH at this ⊢
    rw [hext j hj]
    exact this
   | dead => trivial
 ·rcases Zbu hx with ⟨rfl, rfl⟩ | ⟨hj, hx⟩ <;> rcases Zbu hy with ⟨rfl, rfl⟩ | ⟨hk, hy⟩
  ·rfl
  ·rw [hl] at hk bx
   rw [ZaD] at bx
   rw [hext k hk] at by_
   obtain ⟨q1, q2⟩ := hne k y hy ay
   exact absurd (H.dist k i y _ c q2 hi ay rfl by_ bx) q1
  ·rw [hl] at hj by_
   rw [ZaD] at by_
   rw [hext j hj] at bx
   obtain ⟨q1, q2⟩ := hne j x hx ax
   exact absurd (H.dist j i x _ c q2 hi ax rfl bx by_) q1
  ·rw [hl] at hj hk
   rw [hext j hj] at bx
   rw [hext k hk] at by_
   exact H2.dist j k x y c hx hy ax ay bx by_
 ·rw [hext j (by have := R.len; omega)]
  exact R.ext j hj
 ·rcases Zbu hx with ⟨rfl, rfl⟩ | ⟨hj, hx⟩
  ·rw [hl, ZaD] at bx
   exact R.born c ⟨i, _, hi, rfl, bx⟩
  ·rw [hl] at hj
   rw [hext j hj] at bx
   exact R2.born c ⟨j, x, hx, ax, bx⟩
end
section
variable {U : Nat -> Prop} {C : ZaA T} {N : Nat} {ρ : Nat -> AV} {P : Program} {h : List (HI T)} {d : Option Nat} {ty t : TypeId} {pos : String} {af : Array Edge} {g : Option (Nat × Bool)} {z : A} {k : XV T -> List (HI T) -> Option A} {vs : List (XV T)}
theorem Zo9 {tb : Option Bool} {n : Option Nat} {cs : List AV} {q : Nat} {a : AV} (hq : q <= cs.length) (h : Zbw tb n (cs.drop q) 0 = some a) : Zbw tb n cs q = some a := by
 unfold Zbw at h ⊢
 split at h
 ·split at h
  ·rename_i hl
   rw [List.length_drop] at hl
   rw [if_pos (by omega)]
   exact h
  ·cases h
 ·rw [List.getElem?_drop] at h
  exact h
 ·cases h
theorem ZA6 {E j : Nat} {xs : List (T E)} {x : T E} {pre rest : List AV} (hs : SVs C N ρ (xs.flatMap (C.enc E)) pre) (hj : xs[j]? = some x) : ∃ p q r, pre ++ rest = p ++ (q ++ r) /\ p.length = j * C.sz E /\ SVs C N ρ (C.enc E x) q := by
 have hlt := Zat hj
 have hlen := hs.len
 rw [Zcl] at hlen
 have hm : (j + 1) * C.sz E <= xs.length * C.sz E := Nat.mul_le_mul_right _ hlt
 rw [Nat.succ_mul] at hm
 refine ⟨pre.take (j * C.sz E), (pre.drop (j * C.sz E)).take (C.sz E), (pre.drop (j * C.sz E)).drop (C.sz E) ++ rest, ?_, by rw [List.length_take]; omega, ?_⟩
 ·rw [<- List.append_assoc, <- List.append_assoc, List.append_assoc (pre.take _), List.take_append_drop, List.take_append_drop]
 ·have := (hs.drop (j * C.sz E)).take (C.sz E)
  rw [Zeq, List.drop_eq_getElem_cons hlt, List.flatMap_cons, List.take_append_of_le_length (by rw [C.len]; omega), List.take_of_length_le (by rw [C.len]; omega)] at this
  have hx : xs[j] = x := by rw [List.getElem?_eq_getElem hlt] at hj; injection hj
  rw [hx] at this
  exact this
theorem Hp.arrAt {σ : St} {E i b : Nat} {kp : Bool} {e : TypeId} {xs : List (T E)} (H : Hp C ρ h σ) (hi : h[i]? = some (.arr e E kp xs)) {K : Nat} (hρ : ρ i = ab b K) : ∃ pre rest, σ.blk b = some (.own e (pre ++ rest)) /\ σ.used b /\ (∀ N' ρ', SVs C N' ρ' (xs.flatMap (C.enc E)) pre) /\ (pre ++ rest).length = K * C.sz E /\ K <= maxLen /\ (C.full E = true -> ∃ zs : List (T E), ∀ N' ρ', SVs C N' ρ' (zs.flatMap (C.enc E)) rest) := by
 rcases H.it i _ hi with ⟨b', K', pre, rest, hb1, hb2, hb3, hb4⟩ | ⟨hb1, _⟩
 ·rw [hρ] at hb1
  obtain ⟨e1, e2⟩ := Zyn hb1
  subst e1 e2
  exact ⟨pre, rest, hb2, hb3, hb4⟩
 ·rw [hρ] at hb1; cases hb1
theorem ZCJ {α β : Type} {o : Option α} {f : α -> Option β} {z : β} (h : o.bind f = some z) : ∃ a, o = some a /\ f a = some z := by
 cases o with
 | none => cases h
 | some a => exact ⟨a, rfl, h⟩
theorem Zs0 (pre rest news : List AV) {off : Nat} (ho : off <= pre.length) : ZaG (pre ++ rest) off news = (pre.take off ++ news ++ pre.drop (off + news.length)) ++ rest.drop (off + news.length - pre.length) := by
 unfold ZaG
 rw [List.take_append_of_le_length ho, List.drop_append, List.append_assoc, List.append_assoc, List.append_assoc]
theorem ZnM {σ : St} {b sz off m : Nat} {e : TypeId} {cs : List AV} {y : AV} {ad : Addr} {c : Nat} (hy : y.val = .slice (some ad) m c) (hb : σ.blk b = some (.own e cs)) (had : 0 < m -> ad = ⟨b, off, none⟩) (hsz : 0 < sz) (hl : off + m * sz <= cs.length) (h1 : ∀ a ∈ (cs.drop off).take (m * sz), a.one = true) :
 Src σ sz y m ((cs.drop off).take (m * sz)) := by
 refine ⟨by rw [List.length_take, List.length_drop]; omega, h1, ⟨_, _, hy, fun e => by cases e⟩, fun w Z hH hV => ⟨fun a ha => (hH.own _ _ _ hb).2.2 a (List.mem_of_mem_drop (List.mem_of_mem_take ha)), fun ad' c' hy' j u hu => ?_⟩⟩
 rw [hy] at hy'
 injection hy' with q1 _ _
 injection q1 with q1
 subst q1
 rw [List.getElem?_map, List.getElem?_take] at hu
 split at hu
 ·rename_i hj
  have hm : 0 < m := by
   rcases Nat.eq_zero_or_pos m with h0 | h0
   ·subst h0; omega
   ·exact h0
  rw [had hm]
  cases hd : (cs.drop off)[j]? with
  | none => rw [hd] at hu; cases hu
  | some q =>
   rw [hd] at hu
   injection hu with hu
   subst hu
   rw [List.getElem?_drop] at hd
   exact Zdl hH hb off j hd
 ·cases hu
theorem Zlv {σ : St} {sz : Nat} : Src σ sz (.lst none 0 0 []) 0 [] := ⟨by simp, by simp, ⟨none, 0, by simp, fun _ => rfl⟩, fun w Z hH hV => ⟨by simp, fun ad c hy j u hu => by simp at hu⟩⟩
theorem Zjw {E : Nat} {v : XV T} {k : List (T E) -> Option A} (hk : ZAz C E h v k = some z) : ∃ ys : List (T E), k ys = some z /\ ∀ ρ σ a, SV C h.length ρ v a -> Hp C ρ h σ -> ∃ news, Src σ (C.sz E) a ys.length news /\ ∀ N' ρ', SVs C N' ρ' (ys.flatMap (C.enc E)) news := by
 unfold ZAz at hk
 split at hk
 ·refine ⟨[], hk, fun ρ σ a hs H => ⟨[], ?_, fun _ _ => .none⟩⟩
  rw [Zek.1 hs]
  exact Zlv
 ·rename_i E' ys ow
  split at hk
  rotate_left
  ·cases hk
  rename_i hE
  subst hE
  refine ⟨ys, hk, fun ρ σ a hs H => ?_⟩
  obtain ⟨B, c, cs, rest, rfl, l1, l2, l3, l4, l5⟩ := Zfp hs
  have hlen := l5.len
  rw [Zcl] at hlen
  refine ⟨cs, ⟨hlen, l5.ones fun v hv => Zew (ZcA ys v hv), ⟨B, c, by simp, fun e => (l4 e).1⟩, fun w Z hH hV => ?_⟩, fun N' ρ' => l5.shut (ZcA ys)⟩
  cases B with
  | none =>
   have : ys.length = 0 := (l4 rfl).1
   have hc0 : cs = [] := List.eq_nil_of_length_eq_zero (by rw [hlen, this, Nat.zero_mul])
   subst hc0
   exact ⟨by simp, fun ad c hy j u hu => by simp at hu⟩
  | some ad =>
   unfold Zag at hV
   have hat := hV.2.2 ad rfl
   refine ⟨fun q hq => ?_, fun ad' c' hy j u hu => ?_⟩
   ·obtain ⟨j, hj⟩ := List.getElem?_of_mem hq
    exact (Zcs hat (by rw [List.getElem?_append_left (Zat hj)]; exact hj)).2.2
   ·rw [AV.val_lst] at hy
    injection hy with q1 _ _
    injection q1 with q1
    subst q1
    rw [List.getElem?_map] at hu
    cases hd : cs[j]? with
    | none => rw [hd] at hu; cases hu
    | some q =>
     rw [hd] at hu
     injection hu with hu
     subst hu
     exact (Zcs hat (by rw [List.getElem?_append_left (Zat hd)]; exact hd)).1
 ·rename_i E' j lo m co
  split at hk
  rotate_left
  ·cases hk
  rename_i e2 E2 kp xs hj
  split at hk
  rotate_left
  ·cases hk
  rename_i hE
  subst hE
  split at hk
  rotate_left
  ·cases hk
  rename_i hE'
  have hE' := Nat.eq_of_beq_eq_true hE'
  subst hE'
  split at hk
  rotate_left
  ·cases hk
  rename_i hlm
  have hyl : ((xs.drop lo).take m).length = m := by rw [List.length_take, List.length_drop]; omega
  refine ⟨_, hk, fun ρ σ a hs H => ?_⟩
  rcases ZbQ.1 hs with ⟨ad, c, rfl, hA⟩ | ⟨rfl, hn0, hiN, hρi, hco⟩
  ·obtain ⟨b, q1, q2⟩ := hA.at_
   obtain ⟨pre, rest, hb2, hb3, hb4, hb5, hb6⟩ := H.arrAt hj q1
   have hpl := (hb4 h.length ρ).len
   rw [Zcl] at hpl
   have hle := hA.le
   have hm1 : (lo + m) * C.sz E' <= xs.length * C.sz E' := Nat.mul_le_mul_right _ hlm
   rw [Nat.add_mul] at hm1
   have hcut : ((pre ++ rest).drop (lo * C.sz E')).take (m * C.sz E') = (pre.drop (lo * C.sz E')).take (m * C.sz E') := by
    rw [List.drop_append_of_le_length (by omega), List.take_append_of_le_length (by rw [List.length_drop]; omega)]
   have hsv : ∀ N' ρ', SVs C N' ρ' (((xs.drop lo).take m).flatMap (C.enc E')) ((pre.drop (lo * C.sz E')).take (m * C.sz E')) := fun N' ρ' => by
    have := ((hb4 N' ρ').drop (lo * C.sz E')).take (m * C.sz E')
    rw [Zeq, Zer] at this
    exact this
   refine ⟨(pre.drop (lo * C.sz E')).take (m * C.sz E'), ?_, hsv⟩
   rw [hyl]
   have := ZnM (σ := σ) (sz := C.sz E') (off := lo * C.sz E') (m := m) (c := c) (y := .raw (.slice (some ad) m c)) (by simp) hb2 (fun h0 => q2 (by omega)) (C.pos E') (by rw [List.length_append]; omega) (by
    rw [hcut]
    exact (hsv h.length ρ).ones fun v hv => Zew (ZcA _ v hv))
   rw [hcut] at this
   exact this
  ·subst hn0
   refine ⟨[], ?_, fun _ _ => by rw [List.take_zero]; exact .none⟩
   rw [hyl]
   exact Zlv
 ·cases hk
theorem Zih {E sz : Nat} {zv : Value} {k : T E -> Option A} (hk : Zun C E sz zv k = some z) : ∃ zt : T E, k zt = some z /\ ∀ n N ρ, SVs C N ρ ((List.replicate n zt).flatMap (C.enc E)) ((List.replicate n ((List.range sz).map fun i => AV.ofV (zv.cells[i % sz]!))).flatten) := by
 unfold Zun at hk
 cases hd : C.dec E ((List.range sz).map fun i => .ofV (zv.cells[i % sz]!)) with
 | none => rw [hd] at hk; cases hk
 | some zt =>
  rw [hd] at hk
  refine ⟨zt, hk, fun n N ρ => ?_⟩
  have h0 : SVs C N ρ (C.enc E zt) ((List.range sz).map fun i => AV.ofV (zv.cells[i % sz]!)) := Wks.sv (C.back E _ _ hd) (ZiD _ _ _)
  induction n with
  | zero => exact .none
  | succ n ih =>
   rw [List.replicate_succ, List.replicate_succ, List.flatMap_cons, List.flatten_cons]
   exact h0.app ih
theorem Zpa {E sz : Nat} {zv : Value} (h : Zm7 C E sz zv = true) (hf : C.full E = true) : ∃ zt : T E, ∀ n N ρ, SVs C N ρ ((List.replicate n zt).flatMap (C.enc E)) ((List.replicate n ((List.range sz).map fun i => AV.ofV (zv.cells[i % sz]!))).flatten) := by
 unfold Zm7 at h
 rw [hf, Bool.not_true, Bool.false_or] at h
 obtain ⟨zt, hd⟩ := Option.isSome_iff_exists.1 h
 obtain ⟨zt', _, hz⟩ := Zih (C := C) (E := E) (sz := sz) (zv := zv) (k := some) (z := zt) (by unfold Zun; rw [hd]; rfl)
 exact ⟨zt', hz⟩
end
end Go.Proofs.YteempnebenjkmaaGreatDoor
namespace Go.Proofs.YteempnebenjkmaaGreatDoor
open Go.RowKit
set_option linter.unusedSimpArgs false
set_option maxRecDepth 100000
set_option linter.unusedVariables false
variable {T : Nat -> Type} {A : Type}
section
variable {U : Nat -> Prop} {C : ZaA T} {N : Nat} {ρ ρ' : Nat -> AV} {P : Program} {h h1 : List (HI T)} {d : Option Nat} {ty t t' : TypeId} {pos : String} {af : Array Edge} {g : Option (Nat × Bool)} {z : A} {k : XV T -> List (HI T) -> Option A} {vs : List (XV T)} {σ τ : St}
theorem Hp.spliceArr (H : Hp C ρ h σ) {i : Nat} (hU : U i) {e : TypeId} {E : Nat} {kp : Bool} {xs ys : List (T E)} (hi : h[i]? = some (.arr e E kp xs)) {b K lo : Nat} (hb : ρ i = ab b K) {cs news : List AV} (hcs : σ.blk b = some (.own e cs)) (hlo : lo <= xs.length) (hys : ∀ N ρ, SVs C N ρ (ys.flatMap (C.enc E)) news) (hfit : lo + ys.length <= K) :
 Hp C ρ (h.set i (.arr e E kp (xs.take lo ++ ys ++ xs.drop (lo + ys.length)))) (σ.set b (.own e (ZaG cs (lo * C.sz E) news))) /\ Rel U ρ h σ ρ (h.set i (.arr e E kp (xs.take lo ++ ys ++ xs.drop (lo + ys.length)))) (σ.set b (.own e (ZaG cs (lo * C.sz E) news))) := by
 obtain ⟨pre, rest, hb2, hb3, hb4, hb5, hb6, hb7⟩ := H.arrAt hi hb
 rw [hcs] at hb2
 injection hb2 with hb2
 injection hb2 with _ hb2
 subst hb2
 have hpl := (hb4 h.length ρ).len
 have hnl := (hys h.length ρ).len
 rw [Zcl] at hpl hnl
 have hm1 : lo * C.sz E <= xs.length * C.sz E := Nat.mul_le_mul_right _ hlo
 have hm2 : (lo + ys.length) * C.sz E <= K * C.sz E := Nat.mul_le_mul_right _ hfit
 rw [Zs0 pre rest news (by omega)]
 refine H.writeArr hU hi hb (fun N ρ => ?_) ?_ (fun hf => ?_)
 ·rw [List.flatMap_append, List.flatMap_append]
  have p1 := (hb4 N ρ).take (lo * C.sz E)
  have p3 := (hb4 N ρ).drop ((lo + ys.length) * C.sz E)
  rw [Zer] at p1
  rw [Zeq, Nat.add_mul, <- hnl] at p3
  exact (p1.app (hys N ρ)).app p3
 ·rw [Nat.add_mul] at hm2
  simp only [List.length_append, List.length_take, List.length_drop] at hb5 ⊢
  omega
 ·obtain ⟨zs, hzs⟩ := hb7 hf
  refine ⟨zs.drop (lo + ys.length - xs.length), fun N ρ => ?_⟩
  have p := (hzs N ρ).drop ((lo + ys.length - xs.length) * C.sz E)
  rw [Zeq] at p
  have he : lo * C.sz E + news.length - pre.length = (lo + ys.length - xs.length) * C.sz E := by rw [hpl, hnl, Nat.sub_mul, Nat.add_mul]
  rw [he]
  exact p
theorem Hp.cutArr (H : Hp C ρ' h1 τ) (R : Rel U ρ h σ ρ' h1 τ) {i : Nat} {e : TypeId} {E : Nat} {kp : Bool} {xs zs : List (T E)} (hi : h1[i]? = some (.arr e E kp (xs ++ zs))) :
 Hp C ρ' (h1.set i (.arr e E kp xs)) τ /\ Rel U ρ h σ ρ' (h1.set i (.arr e E kp xs)) τ := by
 have hl : (h1.set i (HI.arr e E kp xs)).length = h1.length := by simp
 have hi0 := H.it i _ hi
 refine ⟨⟨fun j x hx => ?_, fun j k x y c hx hy ax ay bx by_ => ?_⟩, ⟨by rw [hl]; exact R.len, R.ext, R.but, fun c ⟨j, x, hx, ax, bx⟩ => ?_⟩⟩
 ·rw [hl]
  rcases Zby hx with ⟨e1, e2, _⟩ | ⟨_, hx⟩
  ·subst e1 e2
   rcases hi0 with ⟨b, K, pre, rest, q1, q2, q3, q4, q5, q6, q7⟩ | ⟨q1, q2⟩
   ·refine .inl ⟨b, K, pre.take (xs.length * C.sz E), pre.drop (xs.length * C.sz E) ++ rest, q1, by rw [<- List.append_assoc, List.take_append_drop]; exact q2, q3, fun N ρ => ?_, by rw [<- List.append_assoc, List.take_append_drop]; exact q5, q6, fun hf => ?_⟩
    ·have := (q4 N ρ).take (xs.length * C.sz E)
     rw [Zer, List.take_left] at this
     exact this
    ·obtain ⟨ws, hws⟩ := q7 hf
     refine ⟨zs ++ ws, fun N ρ => ?_⟩
     have := (q4 N ρ).drop (xs.length * C.sz E)
     rw [Zeq, List.drop_left] at this
     rw [List.flatMap_append]
     exact this.app (hws N ρ)
   ·exact .inr ⟨q1, (List.append_eq_nil_iff.1 q2).1⟩
  ·exact H.it j x hx
 ·rcases Zby hx with ⟨e1, e2, _⟩ | ⟨_, hx2⟩ <;> rcases Zby hy with ⟨e3, e4, _⟩ | ⟨_, hy2⟩
  ·omega
  ·subst e1; exact H.dist j k _ y c hi hy2 rfl ay bx by_
  ·subst e3; exact H.dist j k x _ c hx2 hi ax rfl bx by_
  ·exact H.dist j k x y c hx2 hy2 ax ay bx by_
 ·rcases Zby hx with ⟨e1, e2, _⟩ | ⟨_, hx⟩
  ·subst e1; exact R.born c ⟨j, _, hi, rfl, bx⟩
  ·exact R.born c ⟨j, x, hx, ax, bx⟩
theorem ZrD {α : Type} {l : List α} {i : Nat} {x : α} (hi : l[i]? = some x) : l.set i x = l := by
 apply List.ext_getElem?
 intro j
 rw [List.getElem?_set]
 split
 ·rename_i e
  subst e
  rw [hi, if_pos (Zat hi)]
 ·rfl
theorem Zhm {ox oy : Operand} {a b : AV} {K : AV -> St -> Prop}
 (hrun : ∀ w Z, Zan w σ Z -> Zag w (σ.free Z) a -> Zag w (σ.free Z) b -> ∃ r σ' w', (Builtin.append_ #[t, t'] ty #[a.val, b.val]).run P w = .ok r.val w' /\ K r σ' /\ Zan w' σ' Z /\ Zag w' (σ'.free Z) r /\ Grow w σ w' σ') :
 ZdL P ⟨d, .call ⟨.builtin .append, #[ox, oy], #[t, t']⟩, ty, pos, af, g⟩ [a, b] σ K := by
 refine .inr ⟨rfl, fun ρ hρ w Z hH hV => ?_⟩
 have hρ' := hρ
 simp [Op.operands, Call.operands] at hρ'
 obtain ⟨r, σ', w', h1, h2, h3, h4, h5⟩ := hrun w Z hH (hV a (by simp)) (hV b (by simp))
 refine ⟨r, σ', w', .inl ?_, h2, h3, h4, h5⟩
 simp [execOp, resolve, invoke, builtin, hρ', h1]
theorem ZaL {w : World} {B : Nat -> Nat -> Prop} (v : Value) : Zag w B (.raw v) := by unfold Zag; trivial
theorem Zde {w : World} {B : Nat -> Nat -> Prop} : Zag w B (.lst none 0 0 []) := by
 unfold Zag
 exact ⟨Nat.le_refl _, fun _ => ⟨rfl, rfl, rfl⟩, fun ad had => by cases had⟩
theorem Zy9 {E i lo n : Nat} {co : Option Nat} {e : TypeId} {kp : Bool} {xs : List (T E)} (hi : h[i]? = some (.arr e E kp xs)) (hl : lo + n <= xs.length) : ZAz C E h (.as E i lo n co) some = some ((xs.drop lo).take n) := by
 unfold ZAz
 simp [hi, hl]
theorem ZqH {E n c : Nat} {e : TypeId} (kp : Bool) {sz by_ : Nat} {zv : Value} {a b : AV} {olds ys : List (T E)} {cells news : List AV} {w : World} {Z : Nat -> Prop} (H : Hp C ρ h σ) (hH : Zan w σ Z) (hV1 : Zag w (σ.free Z) a) (hV2 : Zag w (σ.free Z) b)
 (he : Zar P t = some e) (hsz : Zav P e = some sz) (hz : ZaS P e = some zv) (hby : Zb5 P e = some by_) (hzs : zv.cells.size = sz) (e1 : sz = C.sz E) (hfu : Zm7 C E sz zv = true)
 (srcx : Src σ sz a n cells) (hxs : ∀ N ρ, SVs C N ρ (olds.flatMap (C.enc E)) cells) {B : Option Addr} (ha : a.val = .slice B n c) (hB : B = none -> c = 0) (src : Src σ sz b ys.length news) (hys : ∀ N ρ, SVs C N ρ (ys.flatMap (C.enc E)) news) (hg : c < n + ys.length) (hnc : n <= c) (h63 : n + ys.length <= 140737488355328) (hb : (n + ys.length) * by_ <= 140737488355328) :
 ∃ r σ' w' ρ', (Builtin.append_ #[t, t] ty #[a.val, b.val]).run P w = .ok r.val w' /\ Zan w' σ' Z /\ Zag w' (σ'.free Z) r /\ Grow w σ w' σ' /\ (∀ N, h.length < N -> SV C N ρ' (.as E h.length 0 (n + ys.length) none) r) /\ Hp C ρ' (h ++ [.arr e E kp (olds ++ ys)]) σ' /\ Rel U ρ h σ ρ' (h ++ [.arr e E kp (olds ++ ys)]) σ' := by
 have hpos := C.pos E
 obtain ⟨cap, w', rest, r0, r1, r2, r3, r4, f1, f2, f3, f4⟩ := Zkk (ty := ty) hH hV1 hV2 he hsz hz hby hzs (by omega) srcx ha hB src hg hnc (by unfold maxLen; omega) hb
 obtain ⟨g1, g2⟩ := H.newArr (U := U) kp f1 f2 e (E := E) (K := cap) (xs := olds ++ ys) (pre := cells ++ news) (rest := rest) (fun N ρ => by rw [List.flatMap_append]; exact (hxs N ρ).app (hys N ρ)) (by rw [r4, e1]) r3 (fun hf => by
  obtain ⟨zt, hzt⟩ := Zpa hfu hf
  exact ⟨_, fun N ρ => by rw [r0, hzs]; exact hzt _ N ρ⟩)
 refine ⟨.raw (.slice (some ⟨w.heap.size, 0, none⟩) (n + ys.length) cap), _, w', _, by rw [r1]; simp, f3, ZaL _, f4, fun N hN => ?_, g1, g2⟩
 exact ZbQ.2 (.inl ⟨_, _, rfl, hN, r2, r3, h63, ⟨w.heap.size, by rw [Nat.zero_add]; exact ZaD _ _ _, fun _ => by rw [Nat.zero_mul]⟩, fun c' hc => by cases hc⟩)
theorem Zza {x y : XV T} {ox oy : Operand} (hm : Zuo C x y = true) (hU0 : ∀ E i lo n co, x = .as E i lo n co -> U i) (hk : ZCH C P t x y h k = some z) : Zb9 C P U ⟨d, .call ⟨.builtin .append, #[ox, oy], #[t, t]⟩, ty, pos, af, g⟩ [x, y] h k z := by
 unfold ZCH at hk
 split at hk
 ·cases hk
 rename_i e he
 split at hk
 rotate_left
 ·cases hk
 rename_i sz zv by_ hsz hz hby
 split at hk
 rotate_left
 ·cases hk
 rename_i hzs
 have hzs := Nat.eq_of_beq_eq_true hzs
 split at hk
 ·-- an array
  rename_i E i lo n co
  have hU := hU0 _ _ _ _ _ rfl
  split at hk
  rotate_left
  ·cases hk
  rename_i e' E' kp xs hi
  split at hk
  rotate_left
  ·cases hk
  rename_i hc
  simp only [Bool.and_eq_true] at hc
  obtain ⟨⟨⟨c1, c2⟩, e1⟩, hfu⟩ := hc
  have c1 := Nat.eq_of_beq_eq_true c1
  have c2 := Nat.eq_of_beq_eq_true c2
  have e1 := Nat.eq_of_beq_eq_true e1
  subst c1 c2
  obtain ⟨ys, hk2, hsrc⟩ := Zjw hk
  clear hk
  have hk := hk2
  clear hk2
  split at hk
  rotate_left
  ·cases hk
  rename_i hroom
  obtain ⟨b1, b2, b3⟩ := hroom
  have hpos := C.pos E
  obtain ⟨xn, hxn, hsrcx⟩ := Zjw (Zy9 (C := C) (co := co) hi b3)
  injection hxn with hxn
  subst hxn
  have hxl : ((xs.drop lo).take n).length = n := by rw [List.length_take, List.length_drop]; omega
  cases co with
  | some c0 =>
   dsimp only at hk
   split at hk
   ·rename_i hfit
    rw [Zbr] at hk
    refine ⟨_, _, hk, fun ρ σ as_ hs H => ?_⟩
    obtain ⟨a, b, rfl, h3, h4⟩ := Zig.1 hs
    obtain ⟨news, src, hys⟩ := hsrc ρ σ b h4 H
    refine Zhm fun w Z hH hV1 hV2 => ?_
    rcases ZbQ.1 h3 with ⟨ad, c, rfl, hA⟩ | ⟨rfl, hn0, hiN, hρi, hco⟩
    ·obtain ⟨bb, q1, q2⟩ := hA.at_
     obtain ⟨pre, rest, hb2, hb3, hb4, hb5, hb6⟩ := H.arrAt hi q1
     have hcc := hA.cap c0 rfl
     subst hcc
     rw [<- e1] at src
     obtain ⟨w', r1, r2, r3⟩ := ZgI (ty := ty) (lo := lo) (n := n) hH hV2 he hsz (by omega) hb2 (by rw [hb5, e1]; exact Nat.le_refl _) (by rw [e1]; exact q2) src hfit
     rw [e1] at r2 r3
     obtain ⟨g1, g2⟩ := H.spliceArr hU hi q1 hb2 b3 hys (by omega)
     refine ⟨.raw (.slice (some ad) (n + ys.length) c), _, w', by simpa using r1, ⟨ρ, ZbQ.2 (.inl ⟨_, _, rfl, by rw [List.length_set]; exact hA.lt, hfit, hA.max, b1, ⟨bb, q1, q2⟩, hA.cap⟩), g1, g2⟩, r2, ZaL _, r3⟩
    ·subst hn0
     have hc0 := hco c0 rfl
     have hm0 : ys = [] := List.eq_nil_of_length_eq_zero (by omega)
     subst hm0
     have hxs : xs = [] := by
      rcases H.it i _ hi with ⟨b', K, pre, rest, q1, _⟩ | ⟨_, q⟩
      ·rw [hρi] at q1; cases q1
      ·exact q
     subst hxs
     obtain ⟨A', c', hy, hA'⟩ := src.at_
     obtain ⟨ii, hii, hsi⟩ := ZnL hsz
     refine ⟨.lst none 0 0 [], σ, w, ?_, ⟨ρ, ?_, ?_, ?_⟩, hH, Zde, Grow.refl _ _⟩
     ·rw [hy]
      have hf := Zct (P := P) (w := w) (size := ii.size) (n := 0) (len := 0) (cap := c') rfl A'
      simp [Builtin.append_, run_underlying (Za0 he), sizeOf, typeInfo, hii, Builtin.lenOf, hf]
     ·exact ZbQ.2 (.inr ⟨rfl, by simp, by rw [List.length_set]; exact hiN, hρi, hco⟩)
     ·have : h.set i (.arr e' E kp (List.take (lo + 0) [] ++ [] ++ List.drop (lo + 0 + ([] : List (T E)).length) [])) = h := by
       simp only [List.take_nil, List.drop_nil, List.append_nil]
       exact ZrD hi
      rw [this]; exact H
     ·have : h.set i (.arr e' E kp (List.take (lo + 0) [] ++ [] ++ List.drop (lo + 0 + ([] : List (T E)).length) [])) = h := by
       simp only [List.take_nil, List.drop_nil, List.append_nil]
       exact ZrD hi
      rw [this]; exact .refl _ _ _ _
   ·rename_i hfit
    rw [Zbr] at hk
    refine ⟨_, _, hk, fun ρ σ as_ hs H => ?_⟩
    obtain ⟨a, b, rfl, h3, h4⟩ := Zig.1 hs
    obtain ⟨news, src, hys⟩ := hsrc ρ σ b h4 H
    obtain ⟨cells, srcx, hxs⟩ := hsrcx ρ σ a h3 H
    rw [hxl] at srcx
    rw [<- e1] at src srcx
    refine Zhm fun w Z hH hV1 hV2 => ?_
    obtain ⟨B, c, ha, hB, hcc, hnc⟩ : ∃ B c, a.val = .slice B n c /\ (B = none -> c = 0) /\ c = c0 /\ n <= c := by
     rcases ZbQ.1 h3 with ⟨ad, c, rfl, hA⟩ | ⟨rfl, hn0, hiN, hρi, hco⟩
     ·exact ⟨some ad, c, by simp, fun e => (by cases e), hA.cap c0 rfl, hA.le⟩
     ·exact ⟨none, 0, by simp [hn0], fun _ => rfl, (hco c0 rfl).symm, by omega⟩
    subst hcc
    obtain ⟨r, σ', w', ρ', r1, r2, r3, r4, r5, r6, r7⟩ := ZqH (U := U) (ty := ty) kp H hH hV1 hV2 he hsz hz hby hzs e1 hfu srcx hxs ha hB src hys (by omega) hnc b1 b2
    exact ⟨r, σ', w', r1, ⟨ρ', r5 _ (by simp), r6, r7⟩, r2, r3, r4⟩
  | none =>
   dsimp only at hk
   split at hk
   rotate_left
   ·cases hk
   rename_i hlo
   have hlo := Nat.eq_of_beq_eq_true hlo
   subst hlo
   rw [Zbr] at hk
   rw [List.drop_zero] at hsrcx hxl
   refine ⟨_, _, hk, fun ρ σ as_ hs H => ?_⟩
   obtain ⟨a, b, rfl, h3, h4⟩ := Zig.1 hs
   obtain ⟨news, src, hys⟩ := hsrc ρ σ b h4 H
   obtain ⟨cells, srcx, hxs⟩ := hsrcx ρ σ a h3 H
   rw [hxl] at srcx
   rw [<- e1] at src srcx
   have hil := Zat hi
   refine Zhm fun w Z hH hV1 hV2 => ?_
   obtain ⟨B, c, ha, hB, hnc⟩ : ∃ B c, a.val = .slice B n c /\ (B = none -> c = 0) /\ n <= c := by
    rcases ZbQ.1 h3 with ⟨ad, c, rfl, hA⟩ | ⟨rfl, hn0, hiN, hρi, hco⟩
    ·exact ⟨some ad, c, by simp, fun e => (by cases e), hA.le⟩
    ·exact ⟨none, 0, by simp [hn0], fun _ => rfl, by omega⟩
   by_cases hfit : n + ys.length <= c
   ·rcases ZbQ.1 h3 with ⟨ad, c', rfl, hA⟩ | ⟨rfl, hn0, hiN, hρi, hco⟩
    ·simp only [AV.val_raw, Value.slice.injEq] at ha
     obtain ⟨rfl, _, rfl⟩ := ha
     obtain ⟨bb, q1, q2⟩ := hA.at_
     obtain ⟨pre, rest, hb2, hb3, hb4, hb5, hb6⟩ := H.arrAt hi q1
     obtain ⟨w', r1, r2, r3⟩ := ZgI (ty := ty) (lo := 0) (n := n) hH hV2 he hsz (by omega) hb2 (by rw [hb5, e1]; exact Nat.le_refl _) (by rw [e1]; exact q2) src hfit
     rw [e1] at r2 r3
     rw [Nat.zero_add] at r2 r3 b3 q1
     obtain ⟨g1, g2⟩ := H.spliceArr hU hi q1 hb2 b3 hys (by omega)
     obtain ⟨g3, g4⟩ := g1.cutArr g2 (i := i) (e := e') (E := E) (kp := kp) (xs := xs.take n ++ ys) (zs := xs.drop (n + ys.length)) (by rw [List.getElem?_set_self hil])
     rw [List.set_set] at g3 g4
     obtain ⟨g5, g6⟩ := g3.move g4 (i := i) (by rw [List.getElem?_set_self hil])
     rw [List.set_set, List.length_set] at g5 g6
     refine ⟨.raw (.slice (some ad) (n + ys.length) c'), _, w', by simpa using r1, ⟨_, ZbQ.2 (.inl ⟨_, _, rfl, by simp, hfit, hA.max, b1, ⟨bb, by rw [ZaD, Nat.zero_add]; exact q1, q2⟩, fun c'' hc => by cases hc⟩), g5, g6⟩, r2, ZaL _, r3⟩
    ·subst hn0
     simp only [AV.val_lst, Value.slice.injEq] at ha
     obtain ⟨rfl, _, rfl⟩ := ha
     have hm0 : ys = [] := List.eq_nil_of_length_eq_zero (by omega)
     subst hm0
     have hxs : xs = [] := by
      rcases H.it i _ hi with ⟨b', K, pre, rest, q1, _⟩ | ⟨_, q⟩
      ·rw [hρi] at q1; cases q1
      ·exact q
     subst hxs
     obtain ⟨A', c', hy, hA'⟩ := src.at_
     obtain ⟨ii, hii, hsi⟩ := ZnL hsz
     obtain ⟨g5, g6⟩ := H.move (.refl U ρ h σ) hi
     refine ⟨.lst none 0 0 [], σ, w, ?_, ⟨_, ?_, g5, g6⟩, hH, Zde, Grow.refl _ _⟩
     ·rw [hy]
      have hf := Zct (P := P) (w := w) (size := ii.size) (n := 0) (len := 0) (cap := c') rfl A'
      simp [Builtin.append_, run_underlying (Za0 he), sizeOf, typeInfo, hii, Builtin.lenOf, hf]
     ·exact ZbQ.2 (.inr ⟨rfl, by simp, by simp, by rw [ZaD]; exact hρi, fun c' hc => by cases hc⟩)
   ·obtain ⟨r, σ', w', ρ', r1, r2, r3, r4, r5, r6, r7⟩ := ZqH (U := U) (ty := ty) kp H hH hV1 hV2 he hsz hz hby hzs e1 hfu srcx hxs ha hB src hys (by omega) hnc b1 b2
    obtain ⟨g1, g2⟩ := r6.kill r7 i
    rw [List.set_append_left _ _ hil] at g1 g2
    exact ⟨r, σ', w', r1, ⟨ρ', r5 _ (by simp), g1, g2⟩, r2, r3, r4⟩
 ·-- nil
  split at hk
  rotate_left
  ·cases hk
  rename_i E ys ow
  split at hk
  rotate_left
  ·cases hk
  rename_i e1
  simp only [Bool.and_eq_true] at e1
  have hfu := e1.2
  have e1 := Nat.eq_of_beq_eq_true e1.1
  split at hk
  rotate_left
  ·cases hk
  rename_i hroom
  obtain ⟨b1, b2⟩ := hroom
  rw [Zbr] at hk
  refine ⟨_, _, hk, fun ρ σ as_ hs H => ?_⟩
  obtain ⟨a, b, rfl, h3, h4⟩ := Zig.1 hs
  rw [Zek.1 h3]
  obtain ⟨ys', hys', hsrc⟩ := Zjw (C := C) (h := h) (E := E) (v := .sl E ys ow) (k := some) (z := ys) (by unfold ZAz; simp)
  injection hys' with hys'
  subst hys'
  obtain ⟨news, src, hys⟩ := hsrc ρ σ b h4 H
  rw [<- e1] at src
  have hpos := C.pos E
  refine Zhm fun w Z hH hV1 hV2 => ?_
  by_cases hm0 : ys'.length = 0
  ·have hm0 : ys' = [] := List.eq_nil_of_length_eq_zero hm0
   subst hm0
   obtain ⟨A', c', hy, hA'⟩ := src.at_
   obtain ⟨ii, hii, hsi⟩ := ZnL hsz
   obtain ⟨g5, g6⟩ := H.newNil (U := U) e E false
   refine ⟨.lst none 0 0 [], σ, w, ?_, ⟨_, ?_, g5, g6⟩, hH, Zde, Grow.refl _ _⟩
   ·rw [hy]
    have hf := Zct (P := P) (w := w) (size := ii.size) (n := 0) (len := 0) (cap := c') rfl A'
    simp [Builtin.append_, run_underlying (Za0 he), sizeOf, typeInfo, hii, Builtin.lenOf, hf]
   ·exact ZbQ.2 (.inr ⟨rfl, by simp, by simp, ZaD _ _ _, fun c' hc => by cases hc⟩)
  ·obtain ⟨r, σ', w', ρ', r1, r2, r3, r4, r5, r6, r7⟩ := ZqH (U := U) (ty := ty) (n := 0) (c := 0) (olds := []) (cells := []) false H hH Zde hV2 he hsz hz hby hzs e1 hfu Zlv (fun _ _ => .none) (B := none) (by simp) (fun _ => rfl) src hys (by omega) (Nat.le_refl _) (by omega) (by rw [Nat.zero_add]; exact b2)
   rw [Nat.zero_add] at r5
   exact ⟨r, σ', w', r1, ⟨ρ', r5 _ (by simp), r6, r7⟩, r2, r3, r4⟩
 ·cases hk
end
end Go.Proofs.YteempnebenjkmaaGreatDoor
namespace Go.Proofs.YteempnebenjkmaaGreatDoor
open Go.RowKit
set_option linter.unusedSimpArgs false
set_option maxRecDepth 100000
set_option linter.unusedVariables false
variable {T : Nat -> Type} {A : Type}
section
variable {U : Nat -> Prop} {C : ZaA T} {N : Nat} {ρ ρ' : Nat -> AV} {P : Program} {h h1 : List (HI T)} {d : Option Nat} {ty t t' : TypeId} {pos : String} {af : Array Edge} {g : Option (Nat × Bool)} {z : A} {k : XV T -> List (HI T) -> Option A} {vs : List (XV T)} {σ τ : St}
theorem ZgK {α : Type} (n : Nat) (l : List α) : ((List.replicate n l).flatten).length = n * l.length := by
 induction n with
 | zero => simp
 | succ n ih => rw [List.replicate_succ, List.flatten_cons, List.length_append, ih, Nat.succ_mul]; omega
theorem ZwN {x y : XV T} {ox oy : Operand} (hk : Zy7 C P t x y h k = some z) : Zb9 C P U ⟨d, .makeSlice t ox oy, ty, pos, af, g⟩ [x, y] h k z := by
 unfold Zy7 at hk
 split at hk
 ·cases hk
 rename_i e he
 split at hk
 rotate_left
 ·cases hk
 rename_i sz zv by_ E hsz hz hby hE
 split at hk
 rotate_left
 ·cases hk
 rename_i hc
 simp only [Bool.and_eq_true] at hc
 have hzs := Nat.eq_of_beq_eq_true hc.1
 have e1 := Nat.eq_of_beq_eq_true hc.2
 split at hk
 rotate_left
 ·cases hk
 rename_i kl l kc c
 split at hk
 rotate_left
 ·cases hk
 rename_i hb
 obtain ⟨b1, b2, b3, b4⟩ := hb
 obtain ⟨zt, hk2, hzt⟩ := Zih hk
 clear hk
 have hk := hk2
 clear hk2
 rw [Zbr] at hk
 have hpos := C.pos E
 refine ⟨_, _, hk, fun ρ σ as_ hs H => ?_⟩
 obtain ⟨a, b, rfl, h3, h4⟩ := Zig.1 hs
 rw [Zaw.1 h3, Zaw.1 h4]
 refine .inr ⟨rfl, fun ρv hρ w Z hH hV => ?_⟩
 have hρ' := hρ
 simp [Op.operands] at hρ'
 have hty := Za0 he
 obtain ⟨i, hi, hsi⟩ := ZnL hsz
 have hzi : i.zero = some zv := by unfold ZaS at hz; rw [hi] at hz; simpa using hz
 have hbi : i.bytes = by_ := by unfold Zb5 at hby; rw [hi] at hby; simpa using hby
 have hr := run_make (P := P) w t e i zv hty hi hzi kl kc l c b1 b2 (by rw [hbi]; omega) (by omega)
 have hv := ZgJ zv c.toNat (by omega)
 rw [hzs] at hv
 have harr : madeCells zv.cells (c.toNat * i.size) = ((((List.replicate c.toNat ((List.range sz).map fun i => AV.ofV (zv.cells[i % sz]!))).flatten)).map AV.val).toArray := by
  rw [hv]
  simp [madeCells, Builtin.zeroCells, hsi, hzs]
  apply Array.ext'
  simp
 rw [harr] at hr
 obtain ⟨f1, f2⟩ := hH.fresh
 have f3 := hH.alloc_own e ((List.replicate c.toNat ((List.range sz).map fun i => AV.ofV (zv.cells[i % sz]!))).flatten) (fun a ha => by
  obtain ⟨l, hl, hal⟩ := List.mem_flatten.1 ha
  have hl := (List.mem_replicate.1 hl).2
  subst hl
  obtain ⟨j, _, rfl⟩ := List.mem_map.1 hal
  exact Zd4 _)
 have f4 := Grow.alloc hH (.cells ((((List.replicate c.toNat ((List.range sz).map fun i => AV.ofV (zv.cells[i % sz]!))).flatten)).map AV.val).toArray e) (.own e ((List.replicate c.toNat ((List.range sz).map fun i => AV.ofV (zv.cells[i % sz]!))).flatten))
 obtain ⟨g1, g2⟩ := H.newArr (U := U) true f1 f2 e (E := E) (K := c.toNat) (xs := List.replicate c.toNat zt) (pre := (List.replicate c.toNat ((List.range sz).map fun i => AV.ofV (zv.cells[i % sz]!))).flatten) (rest := []) (fun N ρ => hzt c.toNat N ρ) (by rw [List.append_nil, ZgK, List.length_map, List.length_range, e1]) (by unfold maxLen; omega) (fun _ => ⟨[], fun _ _ => .none⟩)
 rw [List.append_nil] at g1 g2
 refine ⟨.raw (.slice (some ⟨w.heap.size, 0, none⟩) l.toNat c.toNat), _, _, .inl ?_, ⟨_, ZbQ.2 (.inl ⟨_, _, rfl, by simp, by omega, by unfold maxLen; omega, by omega, ⟨w.heap.size, by rw [Nat.zero_add]; exact ZaD _ _ _, fun _ => by rw [Nat.zero_mul]⟩, fun c' hc => by injection hc⟩), g1, g2⟩, f3, ZaL _, f4⟩
 simp [execOp, hρ', hr]
end
end Go.Proofs.YteempnebenjkmaaGreatDoor
namespace Go.Proofs.YteempnebenjkmaaGreatDoor
open Go.RowKit
set_option linter.unusedSimpArgs false
set_option maxRecDepth 100000
set_option linter.unusedVariables false
variable {T : Nat -> Type} {A : Type}
section
variable {U : Nat -> Prop} {C : ZaA T} {N : Nat} {ρ ρ' : Nat -> AV} {P : Program} {h h1 : List (HI T)} {d : Option Nat} {ty t t' : TypeId} {pos : String} {af : Array Edge} {g : Option (Nat × Bool)} {z : A} {k : XV T -> List (HI T) -> Option A} {vs : List (XV T)} {σ τ : St}
theorem ZA7 {E : Nat} {kk : IntKind} {tb : List (Int × List (T E))} {a : AV} : SV C N ρ (.mp E kk tb) a ↔ ∃ b ls, a = .mp b (tb.map fun p => Value.int kk p.1) ls /\ SVs C N ρ (tb.map fun p => XV.sl E p.2 none) ls :=
 ⟨fun h => by cases h; exact ⟨_, _, rfl, ‹_›⟩, fun ⟨b, ls, e, h⟩ => by subst e; exact .mp E kk tb b ls h .none⟩
end
end Go.Proofs.YteempnebenjkmaaGreatDoor
namespace Go.Proofs.YteempnebenjkmaaGreatDoor
open Go.RowKit
set_option linter.unusedSimpArgs false
set_option maxRecDepth 100000
set_option linter.unusedVariables false
section
variable {P : Program} {w : World} {σ : St} {Z : Nat -> Prop}
def Zel (w : World) (b : Nat) (es : Array MapEntry) (c : Nat) : World := { w with heap := w.heap.setIfInBounds b (.map es c) }
theorem ZqI {b c c' : Nat} {es es' : Array MapEntry} (hb : w.heap[b]? = some (.map es c)) : (Zel w b es' c').heap[b]? = some (.map es' c') := by
 have hlt : b < w.heap.size := (Array.getElem?_eq_some_iff.1 hb).1
 simp [Zel, hlt]
theorem Zd5 {b b' c' : Nat} {es' : Array MapEntry} (hne : b' ≠ b) : (Zel w b es' c').heap[b']? = w.heap[b']? := by
 simp [Zel, Ne.symm hne]
theorem Zuu {a : Array MapEntry} {c : Nat} {x : MapEntry} (h1 : ∀ n ∈ a.toList.map fun e : MapEntry => e.born, n < c) (h2 : (a.toList.map fun e : MapEntry => e.born).Nodup) (hx : x.born = c := by rfl) : (∀ n ∈ (a.push x).toList.map fun e : MapEntry => e.born, n < c + 1) /\ ((a.push x).toList.map fun e : MapEntry => e.born).Nodup := by
 rw [Array.toList_push, List.map_append, List.map_cons, List.map_nil, hx]
 refine ⟨fun n hn => ?_, ?_⟩
 ·rcases List.mem_append.1 hn with hn | hn
  ·have := h1 n hn; omega
  ·rw [List.mem_singleton.1 hn]; omega
 ·rw [List.nodup_append]
  refine ⟨h2, by simp, fun n hn m hm e => ?_⟩
  rw [List.mem_singleton.1 hm] at e
  have := h1 n hn
  omega
theorem ZqJ (a : Array MapEntry) (j : Nat) (f : MapEntry -> MapEntry) (hf : ∀ e, (f e).born = e.born) : ((a.modify j f).toList.map fun e : MapEntry => e.born) = a.toList.map fun e : MapEntry => e.born := by
 rw [Array.toList_modify]
 generalize a.toList = l
 induction l generalizing j with
 | nil => cases j <;> rfl
 | cons x l ih => cases j with
  | zero =>
   show (f x).born :: _ = _
   rw [hf]
   rfl
  | succ j =>
   show x.born :: ((l.modify j f).map fun e : MapEntry => e.born) = _
   rw [ih]
   rfl
theorem Zan.alloc_map (h : Zan w σ Z) : Zan (w.alloc (.map #[] 0)) (σ.put w.heap.size (.map [])) Z := by
 have hg := Grow.alloc h (.map #[] 0) (.map [])
 refine ⟨fun b hu => ?_, fun b hz => ?_, fun b t' cs' hb => ?_, fun b t' k s hb => ?_, fun b es hb => ?_⟩
 ·simp only [World.size_alloc]
  rcases hu with hu | rfl
  ·have := h.used _ hu; omega
  ·omega
 ·obtain ⟨h1, h2⟩ := h.z _ hz
  refine ⟨by simp only [World.size_alloc]; omega, ?_⟩
  have hne : b ≠ w.heap.size := by omega
  show (if b = w.heap.size then _ else σ.blk b) = none
  rw [if_neg hne]; exact h2
 ·change (if b = w.heap.size then some (Bk.map []) else σ.blk b) = _ at hb
  split at hb
  ·injection hb with hb; cases hb
  ·obtain ⟨h1, h2, h3⟩ := h.own _ _ _ hb
   exact ⟨.inl h1, (Below.heap_alloc _ _ _ (h.used _ h1)).trans h2, fun c hc => hg.valid (h3 c hc)⟩
 ·change (if b = w.heap.size then some (Bk.map []) else σ.blk b) = _ at hb
  split at hb
  ·injection hb with hb; cases hb
  ·obtain ⟨h1, cs', h2, h3⟩ := h.tail _ _ _ _ hb
   exact ⟨.inl h1, cs', (Below.heap_alloc _ _ _ (h.used _ h1)).trans h2, h3⟩
 ·change (if b = w.heap.size then some (Bk.map []) else σ.blk b) = _ at hb
  split at hb
  ·rename_i hbb
   injection hb with hb
   injection hb with hb
   subst hb hbb
   exact ⟨.inr rfl, .map #[] 0, (), heap_alloc_new _ _, .inl ⟨rfl, rfl, by simp, by simp⟩⟩
  ·obtain ⟨h1, a, c, h2, h3⟩ := h.map _ _ hb
   exact ⟨.inl h1, a, c, (Below.heap_alloc _ _ _ (h.used _ h1)).trans h2, h3⟩
theorem Zan.write_map (hH : Zan w σ Z) {b c c' : Nat} {es : List (Value × Value)} {a a' : Array MapEntry} (hb : σ.blk b = some (.map es)) (hh : w.heap[b]? = some (.map a c)) (hfr : (∀ n ∈ a'.toList.map fun e : MapEntry => e.born, n < c') /\ (a'.toList.map fun e : MapEntry => e.born).Nodup) (ht : ZwF (a'.toList.map fun e : MapEntry => (e.key, e.val)) = 0) :
 Zan (Zel w b a' c') (σ.set b (.map (a'.toList.map fun e : MapEntry => (e.key, e.val)))) Z /\ Grow w σ (Zel w b a' c') (σ.set b (.map (a'.toList.map fun e : MapEntry => (e.key, e.val)))) := by
 obtain ⟨hu, _⟩ := hH.map _ _ hb
 have hg : Grow w σ (Zel w b a' c') (σ.set b (.map (a'.toList.map fun e : MapEntry => (e.key, e.val)))) := by
  refine ⟨rfl, rfl, rfl, by simp [Zel], fun _ _ h => h, fun b' hb' hn' => ?_, fun b' t' k s hb' ht' => ?_, fun _ h => h⟩
  ·have hne : b' ≠ b := by rintro rfl; rw [hb] at hn'; cases hn'
   exact ⟨Zd5 hne, by show (if b' = b then _ else σ.blk b') = _; rw [if_neg hne]; exact hn'⟩
  ·have hne : b' ≠ b := by rintro rfl; rw [hb] at ht'; cases ht'
   refine ⟨fun j v _ hv => ?_, .inr ⟨t', k, s, ?_, Nat.le_refl _⟩⟩
   ·rw [World.cell?_of_block (w := w) (Zd5 hne)]; exact hv
   ·show (if b' = b then _ else σ.blk b') = _
    rw [if_neg hne]; exact ht'
 refine ⟨⟨fun b' hu' => ?_, fun b' hz => ?_, fun b' t' cs2 hb' => ?_, fun b' t' k s hb' => ?_, fun b' es' hb' => ?_⟩, hg⟩
 ·have := hH.used _ hu'; simpa [Zel] using this
 ·obtain ⟨z1, z2⟩ := hH.z _ hz
  have hne : b' ≠ b := by rintro rfl; rw [hb] at z2; cases z2
  refine ⟨by simpa [Zel] using z1, ?_⟩
  show (if b' = b then _ else σ.blk b') = _
  rw [if_neg hne]; exact z2
 ·change (if b' = b then _ else σ.blk b') = _ at hb'
  split at hb'
  ·injection hb' with hb'; cases hb'
  ·rename_i hne
   obtain ⟨g1, g2, g3⟩ := hH.own _ _ _ hb'
   exact ⟨g1, (Zd5 hne).trans g2, fun c hc => hg.valid (g3 c hc)⟩
 ·change (if b' = b then _ else σ.blk b') = _ at hb'
  split at hb'
  ·injection hb' with hb'; cases hb'
  ·rename_i hne
   obtain ⟨g1, cs2, g2, g3⟩ := hH.tail _ _ _ _ hb'
   exact ⟨g1, cs2, (Zd5 hne).trans g2, g3⟩
 ·change (if b' = b then _ else σ.blk b') = _ at hb'
  split at hb'
  ·rename_i hbb
   injection hb' with hb'
   injection hb' with hb'
   subst hb' hbb
   exact ⟨hu, .map a' c', (), ZqI hh, .inl ⟨ht, rfl, hfr⟩⟩
  ·rename_i hne
   obtain ⟨g1, a2, c2, g2, g3⟩ := hH.map _ _ hb'
   exact ⟨g1, a2, c2, (Zd5 hne).trans g2, g3⟩
end
variable {T : Nat -> Type} {A : Type}
section
variable {U : Nat -> Prop} {C : ZaA T} {N : Nat} {ρ ρ' : Nat -> AV} {P : Program} {h h1 : List (HI T)} {d : Option Nat} {ty t t' : TypeId} {pos : String} {af : Array Edge} {g : Option (Nat × Bool)} {z : A} {k : XV T -> List (HI T) -> Option A} {vs : List (XV T)} {σ τ : St} {b : Nat}
def ZDR (P : Program) (t : TypeId) : MK -> Prop
 | .str => P.underlying t = some .string
 | .int k => P.underlying t = some (.int k)
 | .two k j => ∃ fs f g, P.underlying t = some (.struct fs) /\ fs.toList = [f, g] /\ P.underlying f.type = some (.int k) /\ P.underlying g.type = some (.int j) /\ f.name ≠ "_" /\ g.name ≠ "_" /\ f.offset = 0 /\ g.offset = 1 /\ Zym P 8 t = some [.i k, .i j]
theorem Zpb (a b : List UInt8) : ((ByteArray.mk a.toArray) == (ByteArray.mk b.toArray)) = decide (a = b) := by
 show (a.toArray == b.toArray) = _
 by_cases h : a = b
 ·subst h; simp
 ·rw [decide_eq_false h]
  rw [beq_eq_false_iff_ne]
  intro e
  exact h (by simpa using congrArg Array.toList e)
theorem Zkl {t : TypeId} {k : IntKind} {xs : Array Value} {o : Nat} {v : Value} {w : World} (hu : P.underlying t = some (.int k)) (hx : xs[o]? = some v) : (part t xs o).run P w = .ok v w := by
 simp [part, isAgg, run_underlying hu, hx]
theorem ZwO {K : MK} {kt : TypeId} {w : World} {y : K.ty} (hk : ZDR P kt K) (e : Bool) : (Instr.checkKey e 10000 kt (K.val y)).run P w = .ok () w := by
 rw [show (10000 : Nat) = 9999 + 1 from rfl]
 cases K with
 | str => unfold Instr.checkKey; rw [Sem.run_bind, run_underlying hk]; rfl
 | int k0 => unfold Instr.checkKey; rw [Sem.run_bind, run_underlying hk]; rfl
 | two k j =>
  obtain ⟨fs, f, g, hu, hl, hf, hg, n1, n2, o1, o2, _⟩ := hk
  obtain ⟨fa⟩ := fs
  dsimp only at hl
  subst hl
  have c1 : (Instr.checkKey e 9999 f.type (.int k y.1)).run P w = .ok () w := by
   rw [show (9999 : Nat) = 9998 + 1 from rfl]; unfold Instr.checkKey; rw [Sem.run_bind, run_underlying hf]; rfl
  have c2 : (Instr.checkKey e 9999 g.type (.int j y.2)).run P w = .ok () w := by
   rw [show (9999 : Nat) = 9998 + 1 from rfl]; unfold Instr.checkKey; rw [Sem.run_bind, run_underlying hg]; rfl
  have p1 : (part f.type #[.int k y.1, .int j y.2] f.offset).run P w = .ok (.int k y.1) w := Zkl hf (by rw [o1]; rfl)
  have p2 : (part g.type #[.int k y.1, .int j y.2] g.offset).run P w = .ok (.int j y.2) w := Zkl hg (by rw [o2]; rfl)
  unfold Instr.checkKey
  rw [Sem.run_bind, run_underlying hu]
  simp [MK.val, n1, n2, p1, p2, c1, c2, Result.andThen]
theorem ZwP {K : MK} {w : World} {x : K.ty} : (Instr.keyThatStays (K.val x) (K.val x)).run P w = .ok (K.val x) w := by
 have : Instr.sameBits 10000 (K.val x) (K.val x) = true := by
  cases K with
  | str =>
   show ((ByteArray.mk (List.toArray x)) == (ByteArray.mk (List.toArray x))) = true
   rw [Zpb]; simp
  | int k0 => simp [MK.val, Instr.sameBits]
  | two k j => simp [MK.val, Instr.sameBits]
 unfold Instr.keyThatStays
 rw [if_pos this]
 rfl
theorem Zuv {w : World} {a : Array MapEntry} {c : Nat} (hb : w.heap[b]? = some (.map a c)) : (getObj b).run P w = .ok (.map a c) w := by
 simp [getObj, Sem.run, hb]
theorem ZrE {w : World} {a a' : Array MapEntry} {c c' : Nat} (hb : w.heap[b]? = some (.map a c)) : (setObj b (.map a' c')).run P w = .ok () (Zel w b a' c') := by
 simp [setObj, Sem.run, hb, Zel]
end
end Go.Proofs.YteempnebenjkmaaGreatDoor
