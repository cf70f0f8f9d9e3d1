/- Arrays: what is appended, copied, cleared, made, in the model's memory. -/
import Derived.Test.YtlmmpfbdgiokmaaGreatX6
import Derived.Laws.AppendOwn
import Derived.Laws.MakeOwn
import Derived.Lib.AppendZerosOnto
namespace Go.Proofs.YtlmmpfbdgiokmaaGreat
open Go.RowKit
set_option linter.unusedSimpArgs false
set_option maxRecDepth 100000
set_option linter.unusedVariables false
section
variable {P : Program} {w : World} {σ : St} {Z : Nat → Prop}
theorem HeapOk.write (hH : HeapOk w σ Z) {b : Nat} {e : TypeId} {cs cs' : List AV} (hb : σ.blk b = some (.own e cs)) (hv : ∀ c ∈ cs', Valid w (σ.free Z) c) :
    HeapOk (w.setRow b (cs'.map AV.val).toArray) (σ.set b (.own e cs')) Z ∧ Grow w σ (w.setRow b (cs'.map AV.val).toArray) (σ.set b (.own e cs')) := by
  obtain ⟨hu, hh, hvs⟩ := hH.own _ _ _ hb
  have hg : Grow w σ (w.setRow b (cs'.map AV.val).toArray) (σ.set b (.own e cs')) := by
    refine ⟨rfl, rfl, rfl, by simp [World.setRow], fun _ _ h => h, fun b' hb' hn' => ?_, fun b' t' k s hb' ht' => ?_, fun _ h => h⟩
    · have hne : b' ≠ b := by rintro rfl; rw [hb] at hn'; cases hn'
      exact ⟨setRow_other _ _ _ _ hne, by show (if b' = b then _ else σ.blk b') = _; rw [if_neg hne]; exact hn'⟩
    · have hne : b' ≠ b := by rintro rfl; rw [hb] at ht'; cases ht'
      refine ⟨fun j v _ hv => ?_, .inr ⟨t', k, s, ?_, Nat.le_refl _⟩⟩
      · rw [World.cell?_of_block (w := w) (setRow_other _ _ _ _ hne)]; exact hv
      · show (if b' = b then _ else σ.blk b') = _
        rw [if_neg hne]; exact ht'
  refine ⟨⟨fun b' hu' => ?_, fun b' hz => ?_, fun b' t' cs2 hb' => ?_, fun b' t' k s hb' => ?_, fun b' es hb' => ?_⟩, hg⟩
  · have := hH.used _ hu'; simpa [World.setRow] using this
  · obtain ⟨z1, z2⟩ := hH.z _ hz
    have hne : b' ≠ b := by rintro rfl; rw [hb] at z2; cases z2
    refine ⟨by simpa [World.setRow] using z1, ?_⟩
    show (if b' = b then _ else σ.blk b') = _
    rw [if_neg hne]; exact z2
  · change (if b' = b then some (Bk.own e cs') else σ.blk b') = _ at hb'
    split at hb'
    · rename_i hbb
      injection hb' with hb'
      injection hb' with e1 e2
      subst e1 e2 hbb
      exact ⟨hu, setRow_heap _ _ _ _ _ _ hh, fun c hc => hg.valid (hv c hc)⟩
    · rename_i hne
      obtain ⟨g1, g2, g3⟩ := hH.own _ _ _ hb'
      exact ⟨g1, (setRow_other _ _ _ _ hne).trans g2, fun c hc => hg.valid (g3 c hc)⟩
  · change (if b' = b then some (Bk.own e cs') else σ.blk b') = _ at hb'
    split at hb'
    · injection hb' with hb'; cases hb'
    · rename_i hne
      obtain ⟨g1, cs2, g2, g3⟩ := hH.tail _ _ _ _ hb'
      exact ⟨g1, cs2, (setRow_other _ _ _ _ hne).trans g2, g3⟩
  · change (if b' = b then some (Bk.own e cs') else σ.blk b') = _ at hb'
    split at hb'
    · injection hb' with hb'; cases hb'
    · rename_i hne
      obtain ⟨g1, a', c', g2, g3⟩ := hH.map _ _ hb'
      exact ⟨g1, a', c', (setRow_other _ _ _ _ hne).trans g2, g3⟩
theorem set_same_ {b : Nat} {k : Bk} (hb : σ.blk b = some k) : σ.set b k = σ := St.ext' (fun c => by
  show (if c = b then some k else σ.blk c) = _
  split
  · rename_i e; rw [e, hb]
  · rfl) (fun _ => Iff.rfl)
theorem splice_nil_ (cs : List AV) (o : Nat) : splice cs o [] = cs := by simp [splice]
/-- Cells are stored over a block of ours. -/
theorem HeapOk.storeAt (hH : HeapOk w σ Z) {b off : Nat} {e : TypeId} {cs news : List AV} (hb : σ.blk b = some (.own e cs)) (hfit : off + news.length ≤ cs.length) (h1 : ∀ a ∈ news, a.one = true) (hv : ∀ a ∈ news, Valid w (σ.free Z) a) :
    (storeCells ⟨b, off, none⟩ (news.map AV.val)).run P w = .ok () (w.setRow b ((splice cs off news).map AV.val).toArray) ∧
    HeapOk (w.setRow b ((splice cs off news).map AV.val).toArray) (σ.set b (.own e (splice cs off news))) Z ∧ Grow w σ (w.setRow b ((splice cs off news).map AV.val).toArray) (σ.set b (.own e (splice cs off news))) := by
  obtain ⟨hu, hh, hvs⟩ := hH.own _ _ _ hb
  have hst := run_storeCells_at P b off e (news.map AV.val) 0 (cs.map AV.val).toArray w hh (by simp; omega) (fun v hv => by
    simp only [List.mem_map] at hv
    obtain ⟨c, hc, rfl⟩ := hv
    exact AV.one_val (h1 c hc))
  have harr : ((cs.map AV.val).toArray.toList.take (off + 0) ++ news.map AV.val ++ (cs.map AV.val).toArray.toList.drop (off + 0 + (news.map AV.val).length)).toArray = ((splice cs off news).map AV.val).toArray := by
    simp [splice]
  rw [harr] at hst
  refine ⟨hst, hH.write hb fun c hc => ?_⟩
  unfold splice at hc
  simp only [List.mem_append] at hc
  rcases hc with (hc | hc) | hc
  · exact hvs c (List.mem_of_mem_take hc)
  · exact hv c hc
  · exact hvs c (List.mem_of_mem_drop hc)
/-- What may be read there: m elements' cells. -/
structure Src (σ : St) (sz : Nat) (y : AV) (m : Nat) (news : List AV) : Prop where
  len : news.length = m * sz
  one : ∀ a ∈ news, a.one = true
  at_ : ∃ A c, y.val = .slice A m c ∧ (A = none → m = 0)
  rd : ∀ w Z, HeapOk w σ Z → Valid w (σ.free Z) y → (∀ a ∈ news, Valid w (σ.free Z) a) ∧ ∀ ad c, y.val = .slice (some ad) m c → ∀ j u, (news.map AV.val)[j]? = some u → w.cell? (ad.add j) = some u
theorem infoA {e sz : Nat} (hs : sizeA P e = some sz) : ∃ i, P.info? e = some i ∧ i.size = sz := by
  unfold sizeA at hs
  cases hi : P.info? e with
  | none => rw [hi] at hs; cases hs
  | some i => rw [hi] at hs; exact ⟨i, rfl, by simpa using hs⟩
theorem run_first_none_ {size n len cap : Nat} (h : n = 0) (A : Option Addr) : (Builtin.firstCells size n (.slice A len cap)).run P w = .ok #[] w := by
  subst h
  cases A <;> simp [Builtin.firstCells, loadCells, loadCellsFrom]
theorem append_room_ {b lo n c m sz : Nat} {e t ty : TypeId} {cs news : List AV} {y : AV} {ad : Addr} (hH : HeapOk w σ Z) (hV : Valid w (σ.free Z) y) (ht : sliceA P t = some e) (hs : sizeA P e = some sz) (hsz : 0 < sz) (hb : σ.blk b = some (.own e cs))
    (hcap : (lo + c) * sz ≤ cs.length) (had : 0 < c → ad = ⟨b, lo * sz, none⟩) (src : Src σ sz y m news) (hroom : n + m ≤ c) :
    ∃ w', (Builtin.append_ #[t, t] ty #[.slice (some ad) n c, y.val]).run P w = .ok (.slice (some ad) (n + m) c) w' ∧ HeapOk w' (σ.set b (.own e (splice cs ((lo + n) * sz) news))) Z ∧ Grow w σ w' (σ.set b (.own e (splice cs ((lo + n) * sz) news))) := by
  have hty := run_slice' ht
  obtain ⟨i, hi, hsi⟩ := infoA hs
  subst hsi
  obtain ⟨A, c', hy, hA⟩ := src.at_
  obtain ⟨hnv, hrd⟩ := src.rd w Z hH hV
  by_cases hm : m = 0
  · subst hm
    have hn : news = [] := List.eq_nil_of_length_eq_zero (by simpa using src.len)
    subst hn
    rw [splice_nil_, set_same_ hb]
    refine ⟨w, ?_, hH, Grow.refl _ _⟩
    rw [hy]
    have hf := run_first_none_ (P := P) (w := w) (size := i.size) (n := 0) (len := 0) (cap := c') rfl A
    simp [Builtin.append_, run_underlying hty, sizeOf, typeInfo, hi, Builtin.lenOf, hf, (show n ≤ c by omega), storeCells]
  · cases A with
    | none => exact absurd (hA rfl) hm
    | some a =>
      have had := had (by omega)
      subst had
      have hlen := src.len
      have hmul : (lo + n + m) * i.size ≤ (lo + c) * i.size := Nat.mul_le_mul_right _ (by omega)
      rw [Nat.add_mul] at hmul
      obtain ⟨g1, g2, g3⟩ := hH.storeAt (P := P) (off := (lo + n) * i.size) hb (by omega) src.one hnv
      refine ⟨_, ?_, g2, g3⟩
      rw [hy]
      have hf := run_firstCells_some (P := P) w i.size m a m c' (news.map AV.val) (by simpa using hlen) (hrd a c' hy)
      rw [Nat.add_mul] at g1
      have hst : (storeCells ((⟨b, lo * i.size, none⟩ : Addr).add (n * i.size)) (news.map AV.val)).run P w = .ok () (w.setRow b ((splice cs ((lo + n) * i.size) news).map AV.val).toArray) := by
        rw [add_off_, Nat.add_mul]; exact g1
      simp only [Builtin.append_, run_underlying hty, sizeOf, typeInfo, hi, Builtin.lenOf, hroom, hf, hst, Sem.run_bind, Sem.run_pure, Result.andThen_ok]
      simp [run_underlying hty, hi, hroom, hf, hst]
/-- A block that was made becomes ours. -/
theorem HeapOk.made (hH : HeapOk w σ Z) (t : TypeId) (cs : List AV) (hv : ∀ c ∈ cs, Valid w (σ.free Z) c) :
    ¬ σ.used w.heap.size ∧ σ.blk w.heap.size = none ∧ HeapOk (w.drew.alloc (.cells (cs.map AV.val).toArray t)) (σ.put w.heap.size (.own t cs)) Z ∧ Grow w σ (w.drew.alloc (.cells (cs.map AV.val).toArray t)) (σ.put w.heap.size (.own t cs)) := by
  have hH2 := hH.drew_
  have hgd := Grow.drew_ w σ
  obtain ⟨f1, f2⟩ := hH.fresh
  exact ⟨f1, f2, hH2.alloc_own t cs (fun c hc => hgd.valid (hv c hc)), hgd.trans (Grow.alloc hH2 _ _)⟩
theorem zeros_val (zv : Value) (n : Nat) (hz : 0 < zv.cells.size) : ((List.replicate n ((List.range zv.cells.size).map fun i => AV.ofV (zv.cells[i % zv.cells.size]!))).flatten).map AV.val = (Builtin.zeroCells zv.cells n).toList := by
  apply List.ext_getElem?
  intro j
  induction n generalizing j with
  | zero => simp [Builtin.zeroCells]
  | succ n ih =>
    rw [List.replicate_succ, List.flatten_cons, List.map_append]
    by_cases hj : j < zv.cells.size
    · rw [List.getElem?_append_left (by simpa using hj)]
      have hlt : j < (n + 1) * zv.cells.size := by rw [Nat.succ_mul]; omega
      simp [Builtin.zeroCells, hj, hlt]
    · rw [List.getElem?_append_right (by simp; omega)]
      rw [ih]
      simp only [List.length_map, List.length_range, Builtin.zeroCells, Array.toList_map, Array.toList_range, List.getElem?_map]
      by_cases hj2 : j < (n + 1) * zv.cells.size
      · have h2 := hj2
        rw [Nat.succ_mul] at h2
        rw [List.getElem?_range (by omega), List.getElem?_range hj2]
        simp only [Option.map_some, Option.some.injEq]
        congr 1
        exact (Nat.mod_eq_sub_mod (by omega)).symm
      · have h2 := hj2
        rw [Nat.succ_mul] at h2
        rw [List.getElem?_eq_none (by simp; omega), List.getElem?_eq_none (by simp; omega)]
theorem append_grow_ {n c m sz bytes : Nat} {e t ty : TypeId} {z : Value} {olds news : List AV} {x y : AV} (hH : HeapOk w σ Z) (hVx : Valid w (σ.free Z) x) (hV : Valid w (σ.free Z) y) (ht : sliceA P t = some e) (hs : sizeA P e = some sz) (hz : zeroA P e = some z) (hby : bytesA P e = some bytes) (hzs : z.cells.size = sz) (hsz : 0 < sz)
    (srcx : Src σ sz x n olds) {A : Option Addr} (hx : x.val = .slice A n c) (hA0 : A = none → c = 0) (src : Src σ sz y m news) (hg : c < n + m) (hnc : n ≤ c) (h63 : n + m ≤ maxLen) (hb : (n + m) * bytes ≤ 140737488355328) :
    ∃ cap w' rest, rest = ((List.replicate (cap - (n + m)) ((List.range z.cells.size).map fun i => AV.ofV (z.cells[i % z.cells.size]!))).flatten) ∧ (Builtin.append_ #[t, t] ty #[x.val, y.val]).run P w = .ok (.slice (some ⟨w.heap.size, 0, none⟩) (n + m) cap) w' ∧ n + m ≤ cap ∧ cap ≤ maxLen ∧ (olds ++ news ++ rest).length = cap * sz ∧
      ¬ σ.used w.heap.size ∧ σ.blk w.heap.size = none ∧ HeapOk w' (σ.put w.heap.size (.own e (olds ++ news ++ rest))) Z ∧ Grow w σ w' (σ.put w.heap.size (.own e (olds ++ news ++ rest))) := by
  have hty := run_slice' ht
  obtain ⟨i, hi, hsi⟩ := infoA hs
  have hzi : i.zero = some z := by unfold zeroA at hz; rw [hi] at hz; simpa using hz
  have hbi : i.bytes = bytes := by unfold bytesA at hby; rw [hi] at hby; simpa using hby
  subst hsi hbi
  obtain ⟨A', c', hy, hA⟩ := src.at_
  obtain ⟨hnv, hrd⟩ := src.rd w Z hH hV
  obtain ⟨hov, hro⟩ := srcx.rd w Z hH hVx
  have hm : m ≠ 0 := by omega
  have h63' : n + m ≤ 9223372036854775807 := by simp only [maxLen] at h63; omega
  cases A' with
  | none => exact absurd (hA rfl) hm
  | some a =>
  have hlen := src.len
  have hlo := srcx.len
  have key : ∀ old, old < n + m → ∃ cap w' rest, rest = ((List.replicate (cap - (n + m)) ((List.range z.cells.size).map fun i => AV.ofV (z.cells[i % z.cells.size]!))).flatten) ∧ w' = (w.drew.alloc (.cells ((olds.map AV.val).toArray ++ (news.map AV.val).toArray ++ Builtin.zeroCells z.cells (grownCap w (n + m) old e - (n + m))) e)) ∧ cap = grownCap w (n + m) old e ∧ n + m ≤ cap ∧ cap ≤ maxLen ∧ (olds ++ news ++ rest).length = cap * i.size ∧
      ¬ σ.used w.heap.size ∧ σ.blk w.heap.size = none ∧ HeapOk w' (σ.put w.heap.size (.own e (olds ++ news ++ rest))) Z ∧ Grow w σ w' (σ.put w.heap.size (.own e (olds ++ news ++ rest))) := by
    intro old ho
    have hge := grownCap_ge w (n + m) old e
    have hcm := grownCap_le_maxLen w (n + m) old e h63
    generalize grownCap w (n + m) old e = cap at *
    have harr : (olds.map AV.val).toArray ++ (news.map AV.val).toArray ++ Builtin.zeroCells z.cells (cap - (n + m)) = ((olds ++ news ++ ((List.replicate (cap - (n + m)) ((List.range z.cells.size).map fun i => AV.ofV (z.cells[i % z.cells.size]!))).flatten)).map AV.val).toArray := by
      apply Array.ext'
      have hzv := zeros_val z (cap - (n + m)) (by omega)
      simp only [Array.toList_append, List.map_append, hzv]
    rw [harr]
    obtain ⟨f1, f2, f3, f4⟩ := hH.made e (olds ++ news ++ ((List.replicate (cap - (n + m)) ((List.range z.cells.size).map fun i => AV.ofV (z.cells[i % z.cells.size]!))).flatten)) (fun q hq => by
      rcases List.mem_append.1 hq with hq | hq
      · rcases List.mem_append.1 hq with hq | hq
        · exact hov q hq
        · exact hnv q hq
      · obtain ⟨l, hl, hal⟩ := List.mem_flatten.1 hq
        have hl := (List.mem_replicate.1 hl).2
        subst hl
        obtain ⟨j, _, rfl⟩ := List.mem_map.1 hal
        exact ofV_valid _)
    refine ⟨cap, _, _, rfl, rfl, rfl, hge, hcm, ?_, f1, f2, f3, f4⟩
    have hzl : ((List.replicate (cap - (n + m)) ((List.range z.cells.size).map fun i => AV.ofV (z.cells[i % z.cells.size]!))).flatten).length = (cap - (n + m)) * z.cells.size := by
      have hq := congrArg List.length (zeros_val z (cap - (n + m)) (by omega))
      rw [List.length_map] at hq
      rw [hq]
      simp [size_zeroCells]
    rw [List.length_append, List.length_append, hzl, hzs, hlen, hlo]
    rw [← Nat.add_mul, ← Nat.add_mul]
    congr 1
    omega
  cases A with
  | none =>
    have hc0 := hA0 rfl
    subst hc0
    have hn0 : n = 0 := by omega
    subst hn0
    have ho0 : olds = [] := List.eq_nil_of_length_eq_zero (by simpa using hlo)
    subst ho0
    obtain ⟨cap, w', rest, e0, e1, e2, r⟩ := key 0 (by omega)
    refine ⟨cap, w', rest, e0, ?_, r⟩
    have hr := run_append_nil (P := P) w t ty e i z hty hi hzi a m c' (news.map AV.val) (by simpa using hlen) (hrd a c' hy) (by omega) (by omega) (by have hb := hb; simp only [Nat.zero_add] at hb; omega)
    rw [hx, hy, hr, e1, e2]
    simp
  | some ao =>
    obtain ⟨cap, w', rest, e0, e1, e2, r⟩ := key c hg
    refine ⟨cap, w', rest, e0, ?_, r⟩
    have hr := run_append_grow (P := P) w t ty e i z hty hi hzi ao n c (olds.map AV.val) (by simpa using hlo) (hro ao c hx) a m c' (news.map AV.val) (by simpa using hlen) (hrd a c' hy) hg (by omega) (growslice_fits (by omega) hb)
    rw [hx, hy, hr, e1, e2]
/-- Zeros behind what there is, with no room for them. -/
theorem append_zeros_ {n c m sz bytes : Nat} {e t tn ty : TypeId} {z : Value} {olds : List AV} {x : AV} {kq kn : IntKind} (hH : HeapOk w σ Z) (hVx : Valid w (σ.free Z) x) (ht : sliceA P t = some e) (htn : P.underlying tn = some (.int kn)) (hs : sizeA P e = some sz) (hz : zeroA P e = some z) (hby : bytesA P e = some bytes) (hzs : z.cells.size = sz) (hsz : 0 < sz)
    (srcx : Src σ sz x n olds) {ad : Addr} (hx : x.val = .slice (some ad) n c) (hg : c < n + m) (hnc : n ≤ c) (h63 : n + m ≤ maxLen) (hb : (n + m) * bytes ≤ 140737488355328) :
    ∃ cap w' rest, rest = (List.replicate (m + (cap - (n + m))) ((List.range z.cells.size).map fun i => AV.ofV (z.cells[i % z.cells.size]!))).flatten ∧ (Builtin.append_ #[t, tn] ty #[x.val, .int kq m]).run P w = .ok (.slice (some ⟨w.heap.size, 0, none⟩) (n + m) cap) w' ∧ n + m ≤ cap ∧ cap ≤ maxLen ∧ (olds ++ rest).length = cap * sz ∧
      ¬ σ.used w.heap.size ∧ σ.blk w.heap.size = none ∧ HeapOk w' (σ.put w.heap.size (.own e (olds ++ rest))) Z ∧ Grow w σ w' (σ.put w.heap.size (.own e (olds ++ rest))) := by
  have hty := run_slice' ht
  obtain ⟨i, hi, hsi⟩ := infoA hs
  have hzi : i.zero = some z := by unfold zeroA at hz; rw [hi] at hz; simpa using hz
  have hbi : i.bytes = bytes := by unfold bytesA at hby; rw [hi] at hby; simpa using hby
  subst hsi hbi
  obtain ⟨hov, hro⟩ := srcx.rd w Z hH hVx
  have h63' : n + m ≤ 9223372036854775807 := by simp only [maxLen] at h63; omega
  have hlo := srcx.len
  have hge := grownCap_ge w (n + m) c e
  have hcm := grownCap_le_maxLen w (n + m) c e h63
  have hold : (Builtin.firstCells i.size n (.slice (some ad) n c)).run P w.drew = .ok (olds.map AV.val).toArray w.drew := run_firstCells_some (P := P) w.drew i.size n ad n c (olds.map AV.val) (by simpa using hlo) (by simpa using hro ad c hx)
  have hmb : m * i.bytes ≤ (n + m) * i.bytes := Nat.mul_le_mul_right _ (by omega)
  have hr := Go.Lib.run_append_grow_zeros (P := P) w t tn ty e i z kq kn hty htn hi hzi (some ad) n c (olds.map AV.val) hold m (by omega) hsz hg (by omega) (by omega) (growslice_fits (by omega) hb)
  generalize grownCap w (n + m) c e = cap at *
  have hzz : 0 < z.cells.size := by omega
  have harr : (olds.map AV.val).toArray ++ Builtin.zeroCells z.cells m ++ Builtin.zeroCells z.cells (cap - (n + m)) = ((olds ++ (List.replicate (m + (cap - (n + m))) ((List.range z.cells.size).map fun i => AV.ofV (z.cells[i % z.cells.size]!))).flatten).map AV.val).toArray := by
    apply Array.ext'
    rw [← List.replicate_append_replicate, List.flatten_append]
    simp only [Array.toList_append, List.map_append, zeros_val z m hzz, zeros_val z (cap - (n + m)) hzz, List.append_assoc]
  rw [harr] at hr
  obtain ⟨f1, f2, f3, f4⟩ := hH.made e (olds ++ (List.replicate (m + (cap - (n + m))) ((List.range z.cells.size).map fun i => AV.ofV (z.cells[i % z.cells.size]!))).flatten) (fun q hq => by
    rcases List.mem_append.1 hq with hq | hq
    · exact hov q hq
    · obtain ⟨l, hl, hal⟩ := List.mem_flatten.1 hq
      have hl := (List.mem_replicate.1 hl).2
      subst hl
      obtain ⟨j, _, rfl⟩ := List.mem_map.1 hal
      exact ofV_valid _)
  refine ⟨cap, _, _, rfl, by rw [hx]; exact hr, hge, hcm, ?_, f1, f2, f3, f4⟩
  have hzl : ((List.replicate (m + (cap - (n + m))) ((List.range z.cells.size).map fun i => AV.ofV (z.cells[i % z.cells.size]!))).flatten).length = (m + (cap - (n + m))) * z.cells.size := by
    have hq := congrArg List.length (zeros_val z (m + (cap - (n + m))) hzz)
    rw [List.length_map] at hq
    rw [hq]
    simp [size_zeroCells]
  rw [List.length_append, hzl, hzs, hlo, ← Nat.add_mul]
  congr 1
  omega
theorem copy_ {b lo n c m sz : Nat} {e t t' ty : TypeId} {cs news : List AV} {y : AV} {ad : Addr} (hH : HeapOk w σ Z) (hV : Valid w (σ.free Z) y) (ht : sliceA P t = some e) (hs : sizeA P e = some sz) (hsz : 0 < sz) (hb : σ.blk b = some (.own e cs))
    (hcap : (lo + n) * sz ≤ cs.length) (had : 0 < n → ad = ⟨b, lo * sz, none⟩) (src : Src σ sz y m news) :
    ∃ w', (Builtin.copy_ #[t, t'] ty #[.slice (some ad) n c, y.val]).run P w = .ok (goInt ((min m n : Nat) : Int)) w' ∧ HeapOk w' (σ.set b (.own e (splice cs (lo * sz) (news.take (min m n * sz))))) Z ∧ Grow w σ w' (σ.set b (.own e (splice cs (lo * sz) (news.take (min m n * sz))))) := by
  have hty := run_slice' ht
  obtain ⟨i, hi, hsi⟩ := infoA hs
  subst hsi
  obtain ⟨A, c', hy, hA⟩ := src.at_
  obtain ⟨hnv, hrd⟩ := src.rd w Z hH hV
  by_cases hm : min m n = 0
  · rw [hm, Nat.zero_mul, List.take_zero, splice_nil_, set_same_ hb]
    refine ⟨w, ?_, hH, Grow.refl _ _⟩
    rw [hy]
    have hf := run_first_none_ (P := P) (w := w) (size := i.size) (n := 0) (len := m) (cap := c') rfl A
    have hm' : Nat.min m n = 0 := hm
    simp [Builtin.copy_, run_underlying hty, sizeOf, typeInfo, hi, Builtin.lenOf, hf, hm', storeCells]
  · cases A with
    | none => exact absurd (hA rfl) (by omega)
    | some a =>
      have had := had (by omega)
      subst had
      have hlen := src.len
      have hmul : (lo + min m n) * i.size ≤ (lo + n) * i.size := Nat.mul_le_mul_right _ (by omega)
      have hmul2 : min m n * i.size ≤ m * i.size := Nat.mul_le_mul_right _ (by omega)
      rw [Nat.add_mul] at hmul
      have htl : (news.take (min m n * i.size)).length = min m n * i.size := by rw [List.length_take]; omega
      obtain ⟨g1, g2, g3⟩ := hH.storeAt (P := P) (off := lo * i.size) (news := news.take (min m n * i.size)) hb (by rw [htl]; omega) (fun a ha => src.one a (List.mem_of_mem_take ha)) (fun a ha => hnv a (List.mem_of_mem_take ha))
      refine ⟨_, ?_, g2, g3⟩
      rw [hy]
      have hf := run_firstCells_some (P := P) w i.size (min m n) a m c' ((news.take (min m n * i.size)).map AV.val) (by simpa using htl) (fun j u hu => hrd a c' hy j u (by
        rw [List.map_take, List.getElem?_take] at hu
        split at hu
        · exact hu
        · cases hu))
      have hmm : Nat.min m n = min m n := rfl
      rw [List.map_take] at g1 hf
      simp [Builtin.copy_, run_underlying hty, sizeOf, typeInfo, hi, Builtin.lenOf, hmm, hf, g1]
theorem clear_ {b lo n c sz : Nat} {e t ty : TypeId} {z : Value} {cs news : List AV} {ad : Addr} (hH : HeapOk w σ Z) (ht : sliceA P t = some e) (hz : zeroA P e = some z) (hzs : z.cells.size = sz) (hsz : 0 < sz) (hb : σ.blk b = some (.own e cs))
    (hcap : (lo + n) * sz ≤ cs.length) (had : 0 < n → ad = ⟨b, lo * sz, none⟩) (hn : news.map AV.val = (Builtin.zeroCells z.cells n).toList) (h1 : ∀ a ∈ news, a.one = true) (hv : ∀ a ∈ news, Valid w (σ.free Z) a) :
    ∃ w', (Builtin.clear_ #[t] ty #[.slice (some ad) n c]).run P w = .ok (.tuple #[]) w' ∧ HeapOk w' (σ.set b (.own e (splice cs (lo * sz) news))) Z ∧ Grow w σ w' (σ.set b (.own e (splice cs (lo * sz) news))) := by
  have hty := run_slice' ht
  have hlen : news.length = n * sz := by
    have := congrArg List.length hn
    rw [List.length_map] at this
    rw [this]
    simp [size_zeroCells, hzs]
  by_cases h0 : n = 0
  · subst h0
    have hnn : news = [] := List.eq_nil_of_length_eq_zero (by simpa using hlen)
    subst hnn
    rw [splice_nil_, set_same_ hb]
    refine ⟨w, ?_, hH, Grow.refl _ _⟩
    simp [Builtin.clear_, run_underlying hty]
  · have had := had (by omega)
    subst had
    rw [Nat.add_mul] at hcap
    obtain ⟨g1, g2, g3⟩ := hH.storeAt (P := P) (off := lo * sz) (news := news) hb (by omega) h1 hv
    refine ⟨_, ?_, g2, g3⟩
    obtain ⟨m, rfl⟩ : ∃ m, n = m + 1 := ⟨n - 1, by omega⟩
    rw [hn] at g1
    have hzv := run_zeroValue' (P := P) (w := w) hz
    simp [Builtin.clear_, run_underlying hty, hzv, g1]
end
end Go.Proofs.YtlmmpfbdgiokmaaGreat
