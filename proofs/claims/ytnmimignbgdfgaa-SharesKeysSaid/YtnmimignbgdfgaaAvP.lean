/- append: to a list that is ours, or to none. -/
import Derived.Test.YtnmimignbgdfgaaAvR
import Derived.Laws.AppendOwn
namespace Go.Proofs.Ytnmimignbgdfgaa
open Go.RowKit
set_option maxRecDepth 100000
set_option linter.unusedVariables false
def bytesA (P : Program) (t : TypeId) : Option Nat := (P.info? t).map (·.bytes)
def AV.blk : AV → Option Nat
  | .lst (some ad) _ _ _ => some ad.block
  | _ => none
/-- The list v of n elements is ours: its cells are these, and there may be more room behind. -/
def Own (σ : St) (e sz : Nat) (v : AV) (n : Nat) (cells : List AV) : Prop := cells.length = n * sz ∧ ((v = .lst none 0 0 [] ∧ n = 0) ∨ ∃ g c, v = .lst (some ⟨g, 0, none⟩) n c cells ∧ n ≤ c ∧ c ≤ maxLen ∧ σ.blk g = some (.tail e (n * sz) (c * sz)) ∧ σ.used g)
structure App (σ : St) (v : AV) (τ : St) (v' : AV) : Prop where
  keep : ∀ b k, v.blk ≠ some b → σ.blk b = some k → τ.blk b = some k
  used : ∀ b, σ.used b → τ.used b
  new : v'.blk = v.blk ∨ ∃ g, v'.blk = some g ∧ σ.blk g = none ∧ ¬ σ.used g ∧ τ.used g
section
variable {P : Program} {w : World} {σ : St} {Z : Nat → Prop}
theorem HeapOk.drew_ (h : HeapOk w σ Z) : HeapOk w.drew σ Z := by
  have hv : ∀ {c : AV}, Valid w (σ.free Z) c → Valid w.drew (σ.free Z) c := fun hc => Valid.keep (w := w) (w' := w.drew) (B := σ.free Z) (B' := σ.free Z) (fun ad v h1 h2 => ⟨h1, h2⟩) _ hc
  refine ⟨h.used, h.z, fun b t cs hb => ?_, h.tail⟩
  obtain ⟨h1, h2, h3⟩ := h.own b t cs hb
  exact ⟨h1, h2, fun c hc => hv (h3 c hc)⟩
theorem Grow.drew_ (w : World) (σ : St) : Grow w σ w.drew σ := ⟨rfl, rfl, rfl, Nat.le_refl _, fun _ _ h => h, fun _ _ h => ⟨rfl, h⟩, fun b t k s _ h => ⟨fun _ _ _ h => h, .inr ⟨t, k, s, h, Nat.le_refl _⟩⟩, fun _ h => h⟩
/-- A new row whose first cells are these. -/
theorem valid_new_row' (h : HeapOk w σ Z) (t : TypeId) (cs zs : List AV) (k : Nat) (hv : ∀ c ∈ cs, Valid w (σ.free Z) c) (hk : cs.length ≤ k) (s : Nat) :
    ValidAt (w.alloc (.cells ((cs ++ zs).map AV.val).toArray t)) ((σ.put w.heap.size (.tail t k s)).free Z) ⟨w.heap.size, 0, none⟩ 0 cs := by
  have hg := Grow.alloc h (.cells ((cs ++ zs).map AV.val).toArray t) (.tail t k s)
  refine ValidAt.mk fun i d hd => ?_
  have hi : i < cs.length := (List.getElem?_eq_some_iff.1 hd).1
  rw [add_off_, Nat.zero_add]
  refine ⟨?_, ⟨fun hz => ?_, .inr rfl, ?_⟩, hg.valid (hv d (List.mem_of_getElem? hd))⟩
  · rw [Nat.zero_add, cellNew, List.getElem?_toArray, List.map_append, List.getElem?_append_left (by simpa using hi), List.getElem?_map, hd]
    rfl
  · exact absurd (h.z _ hz).1 (Nat.lt_irrefl _)
  · rw [put_same]
    show 0 + i < k
    omega
/-- More cells behind ours, in place. -/
theorem tail_more (hH : HeapOk w σ Z) {g : Nat} {e : TypeId} {k s : Nat} (hb : σ.blk g = some (.tail e k s)) {cur : Array Value} (hg : w.heap[g]? = some (.cells cur e (0, 0))) (hs : cur.size = s) (news : List AV) (hfit : k + news.length ≤ s) :
    HeapOk (w.setRow g (cur.toList.take k ++ news.map AV.val ++ cur.toList.drop (k + news.length)).toArray) (σ.set g (.tail e (k + news.length) s)) Z ∧
    Grow w σ (w.setRow g (cur.toList.take k ++ news.map AV.val ++ cur.toList.drop (k + news.length)).toArray) (σ.set g (.tail e (k + news.length) s)) := by
  have hsame : (σ.set g (.tail e (k + news.length) s)).blk g = some (.tail e (k + news.length) s) := by show (if g = g then _ else σ.blk g) = _; rw [if_pos rfl]
  have hoth : ∀ x, x ≠ g → (σ.set g (.tail e (k + news.length) s)).blk x = σ.blk x := fun x hx => by show (if x = g then _ else σ.blk x) = _; rw [if_neg hx]
  have hgl : g < w.heap.size := (Array.getElem?_eq_some_iff.1 hg).1
  have hsz : (cur.toList.take k ++ news.map AV.val ++ cur.toList.drop (k + news.length)).toArray.size = s := by simp; omega
  have hG : Grow w σ (w.setRow g (cur.toList.take k ++ news.map AV.val ++ cur.toList.drop (k + news.length)).toArray) (σ.set g (.tail e (k + news.length) s)) := by
    refine ⟨rfl, rfl, rfl, by simp, fun _ _ h => h, fun b hbl hn => ?_, fun b t' k' s' hbl ht => ?_, fun _ h => h⟩
    · have hne : b ≠ g := by rintro rfl; rw [hb] at hn; cases hn
      exact ⟨setRow_other _ _ _ _ hne, by rw [hoth b hne]; exact hn⟩
    · by_cases hne : b = g
      · subst hne
        rw [hb] at ht
        injection ht with ht
        injection ht with e1 e2 e3
        subst e1 e2 e3
        refine ⟨fun j v hj hv => ?_, .inr ⟨_, _, _, hsame, by omega⟩⟩
        have hh := setRow_heap w b cur (cur.toList.take k ++ news.map AV.val ++ cur.toList.drop (k + news.length)).toArray e (0, 0) hg
        simp only [World.cell?, hg] at hv
        simp only [World.cell?, hh]
        simp only [Option.isSome_none, Bool.false_eq_true, if_false] at hv ⊢
        rw [List.getElem?_toArray, List.append_assoc, List.getElem?_append_left (by simp; omega), List.getElem?_take, if_pos hj]
        simpa using hv
      · refine ⟨fun j v _ hv => ?_, .inr ⟨t', k', s', by rw [hoth b hne]; exact ht, Nat.le_refl _⟩⟩
        rw [World.cell?_of_block (w := w) (setRow_other _ _ _ _ hne)]; exact hv
  refine ⟨⟨fun b hu => by have := hH.used _ hu; simpa using this, fun b hz => ?_, fun b t' cs' hb' => ?_, fun b t' k' s' hb' => ?_⟩, hG⟩
  · obtain ⟨z1, z2⟩ := hH.z _ hz
    have hne : b ≠ g := by rintro rfl; rw [hb] at z2; cases z2
    exact ⟨by simpa using z1, by rw [hoth b hne]; exact z2⟩
  · by_cases hne : b = g
    · subst hne; rw [hsame] at hb'; cases hb'
    · rw [hoth b hne] at hb'
      obtain ⟨g1, g2, g3⟩ := hH.own _ _ _ hb'
      exact ⟨g1, (setRow_other _ _ _ _ hne).trans g2, fun c hc => hG.valid (g3 c hc)⟩
  · by_cases hne : b = g
    · subst hne
      rw [hsame] at hb'
      injection hb' with hb'
      injection hb' with e1 e2 e3
      subst e1 e2 e3
      obtain ⟨g1, _⟩ := hH.tail _ _ _ _ hb
      exact ⟨g1, _, setRow_heap w b cur _ e (0, 0) hg, hsz, by omega⟩
    · rw [hoth b hne] at hb'
      obtain ⟨g1, cs', g2, g3⟩ := hH.tail _ _ _ _ hb'
      exact ⟨g1, cs', (setRow_other _ _ _ _ hne).trans g2, g3⟩
theorem valid_cells {B : Nat → Nat → Prop} {ad : Addr} {cells : List AV} (h : ValidAt w B ad 0 cells) {j : Nat} {d : AV} (hd : cells[j]? = some d) : w.cell? (ad.add j) = some d.val ∧ B ad.block (ad.off + j) ∧ Valid w B d := by
  have := h.get hd
  rwa [Nat.zero_add] at this
theorem append_run {t e : TypeId} {sz bytes n m cb : Nat} {z : Value} {v : AV} {cells news : List AV} {B : Option Addr} {ty : TypeId} (hH : HeapOk w σ Z) (hv : Valid w (σ.free Z) v) (hx : Valid w (σ.free Z) (.lst B m cb news))
    (ht : sliceA P t = some e) (hs : sizeA P e = some sz) (hz : zeroA P e = some z) (hby : bytesA P e = some bytes) (hzs : z.cells.size = sz) (hsz : 0 < sz)
    (hown : Own σ e sz v n cells) (hl : m * sz ≤ news.length) (h1 : ∀ c ∈ news.take (m * sz), c.one = true) (h63 : n + m ≤ maxLen) (hb : (n + m) * bytes ≤ 140737488355328) :
    ∃ v' σ' w', (Builtin.append_ #[t, t] ty #[v.val, .slice B m cb]).run P w = .ok v'.val w' ∧ Own σ' e sz v' (n + m) (cells ++ news.take (m * sz)) ∧ App σ v σ' v' ∧ HeapOk w' σ' Z ∧ Valid w' (σ'.free Z) v' ∧ Grow w σ w' σ' := by
  have hty := run_slice' ht
  obtain ⟨i, hi, hsi⟩ : ∃ i, P.info? e = some i ∧ i.size = sz := by
    unfold sizeA at hs
    cases hi : P.info? e with
    | none => rw [hi] at hs; cases hs
    | some i => rw [hi] at hs; exact ⟨i, rfl, by simpa using hs⟩
  have hzi : i.zero = some z := by unfold zeroA at hz; rw [hi] at hz; simpa using hz
  have hbi : i.bytes = bytes := by unfold bytesA at hby; rw [hi] at hby; simpa using hby
  subst hsi hbi
  have hx' := hx
  unfold Valid at hx
  obtain ⟨hx1, hx2, hx3⟩ := hx
  have hcl := hown.1
  by_cases hm : m = 0
  · subst hm
    have hn0 : news.take (0 * i.size) = [] := by simp
    refine ⟨v, σ, w, ?_, by rw [hn0, List.append_nil]; exact hown, ⟨fun b k _ hk => hk, fun b h => h, .inl rfl⟩, hH, hv, Grow.refl _ _⟩
    rcases hown.2 with ⟨rfl, rfl⟩ | ⟨g, c, rfl, hnc, hcm, hg, hgu⟩
    · cases B <;> simp [Builtin.append_, run_underlying hty, sizeOf, typeInfo, hi, Builtin.lenOf, Builtin.firstCells, loadCells, loadCellsFrom]
    · cases B <;> simp [Builtin.append_, run_underlying hty, sizeOf, typeInfo, hi, Builtin.lenOf, Builtin.firstCells, loadCells, loadCellsFrom, hnc, storeCells]
  · rcases B with _ | ad
    · have := (hx2 rfl).1; omega
    have hxa := hx3 ad rfl
    have hnl : ((news.take (m * i.size)).map AV.val).length = m * i.size := by simp; omega
    have hnews : ∀ j u, ((news.take (m * i.size)).map AV.val)[j]? = some u → w.cell? (ad.add j) = some u := by
      intro j u hu
      rw [List.getElem?_map, List.getElem?_take] at hu
      split at hu
      · cases hd : news[j]? with
        | none => rw [hd] at hu; cases hu
        | some d =>
          rw [hd] at hu
          injection hu with hu
          subst hu
          exact (valid_cells hxa hd).1
      · cases hu
    have h1' : ∀ u ∈ (news.take (m * i.size)).map AV.val, u.oneCell' = true := by
      intro u hu
      simp only [List.mem_map] at hu
      obtain ⟨c, hc, rfl⟩ := hu
      exact AV.one_val (h1 c hc)
    have hnv : ∀ c ∈ news.take (m * i.size), Valid w (σ.free Z) c := fun c hc => by
      obtain ⟨j, hj⟩ := List.getElem?_of_mem (List.mem_of_mem_take hc)
      exact (valid_cells hxa hj).2.2
    -- a new row
    have grown : ∀ (old : Nat), (∀ c ∈ cells, Valid w (σ.free Z) c) →
        ∃ v' σ' , v'.val = .slice (some ⟨w.heap.size, 0, none⟩) (n + m) (grownCap w (n + m) old e) ∧
          Own σ' e i.size v' (n + m) (cells ++ news.take (m * i.size)) ∧ App σ v σ' v' ∧
          HeapOk (w.drew.alloc (.cells ((cells.map AV.val).toArray ++ ((news.take (m * i.size)).map AV.val).toArray ++ Builtin.zeroCells z.cells (grownCap w (n + m) old e - (n + m))) e)) σ' Z ∧
          Valid (w.drew.alloc (.cells ((cells.map AV.val).toArray ++ ((news.take (m * i.size)).map AV.val).toArray ++ Builtin.zeroCells z.cells (grownCap w (n + m) old e - (n + m))) e)) (σ'.free Z) v' ∧
          Grow w σ (w.drew.alloc (.cells ((cells.map AV.val).toArray ++ ((news.take (m * i.size)).map AV.val).toArray ++ Builtin.zeroCells z.cells (grownCap w (n + m) old e - (n + m))) e)) σ' := by
      intro old hcv
      have hge := grownCap_ge w (n + m) old e
      have hcm := grownCap_le_maxLen w (n + m) old e h63
      generalize grownCap w (n + m) old e = cap at *
      have harr : (cells.map AV.val).toArray ++ ((news.take (m * i.size)).map AV.val).toArray ++ Builtin.zeroCells z.cells (cap - (n + m)) = (((cells ++ news.take (m * i.size)) ++ (Builtin.zeroCells z.cells (cap - (n + m))).toList.map AV.raw).map AV.val).toArray := by
        apply Array.ext'
        simp [Function.comp_def]
      rw [harr]
      have hH2 := hH.drew_
      have hgd := Grow.drew_ w σ
      obtain ⟨f1, f2⟩ := hH2.fresh
      have hlen : ((cells ++ news.take (m * i.size)) ++ (Builtin.zeroCells z.cells (cap - (n + m))).toList.map AV.raw).length = cap * i.size := by
        simp only [List.length_append, List.length_map, Array.length_toList, size_zeroCells, hzs, hcl, List.length_take]
        have : min (m * i.size) news.length = m * i.size := by omega
        rw [this, ← Nat.add_mul, ← Nat.add_mul]
        congr 1
        omega
      have hkl : (cells ++ news.take (m * i.size)).length = (n + m) * i.size := by
        simp only [List.length_append, hcl, List.length_take]
        have : min (m * i.size) news.length = m * i.size := by omega
        rw [this, ← Nat.add_mul]
      have hcv2 : ∀ c ∈ cells ++ news.take (m * i.size), Valid w.drew (σ.free Z) c := fun c hc => by
        rcases List.mem_append.1 hc with hc | hc
        · exact hgd.valid (hcv c hc)
        · exact hgd.valid (hnv c hc)
      have hal := hH2.alloc_tail e ((cells ++ news.take (m * i.size)) ++ (Builtin.zeroCells z.cells (cap - (n + m))).toList.map AV.raw) ((n + m) * i.size) (by rw [hlen]; exact Nat.mul_le_mul_right _ hge)
      rw [hlen] at hal
      refine ⟨.lst (some ⟨w.heap.size, 0, none⟩) (n + m) cap (cells ++ news.take (m * i.size)), σ.put w.heap.size (.tail e ((n + m) * i.size) (cap * i.size)), by simp, ⟨hkl, .inr ⟨_, _, rfl, hge, hcm, put_same _ _ _, .inr rfl⟩⟩, ⟨fun b k _ hk => ?_, fun b hu => .inl hu, .inr ⟨_, rfl, f2, f1, .inr rfl⟩⟩, hal, ?_, hgd.trans (Grow.alloc hH2 _ _)⟩
      · rw [put_other _ _ (fun e => by rw [e] at hk; exact absurd (f2.symm.trans hk) (by simp))]
        exact hk
      · unfold Valid
        refine ⟨hge, (fun h => by cases h), fun ad' had => ?_⟩
        injection had with had
        subst had
        exact valid_new_row' hH2 e _ _ _ hcv2 (by rw [hkl]; exact Nat.le_refl _) _
    have h63' : n + m ≤ 9223372036854775807 := by simp only [maxLen] at h63; omega
    rcases hown.2 with ⟨rfl, rfl⟩ | ⟨g, c, rfl, hnc, hcm, hg, hgu⟩
    · have hce : cells = [] := List.eq_nil_of_length_eq_zero (by simpa using hcl)
      subst hce
      obtain ⟨v', σ', g1, g2, g3, g4, g5, g6⟩ := grown 0 (by simp)
      have hr := run_append_nil (P := P) w t ty e i z hty hi hzi ad m cb _ hnl hnews (by omega) (by omega) (by have hb := hb; simp only [Nat.zero_add] at hb; omega)
      simp only [Nat.zero_add, List.map_nil] at g1 g4 g5 g6
      have harr0 : (([] : List Value).toArray ++ ((news.take (m * i.size)).map AV.val).toArray ++ Builtin.zeroCells z.cells (grownCap w m 0 e - m)) = (((news.take (m * i.size)).map AV.val).toArray ++ Builtin.zeroCells z.cells (grownCap w m 0 e - m)) := by
        apply Array.ext'; simp
      rw [harr0] at g4 g5 g6
      exact ⟨v', σ', _, by rw [g1]; simpa using hr, g2, g3, g4, g5, g6⟩
    · have hv' := hv
      unfold Valid at hv
      have hva := hv.2.2 _ rfl
      have hcv : ∀ c ∈ cells, Valid w (σ.free Z) c := fun c hc => by
        obtain ⟨j, hj⟩ := List.getElem?_of_mem hc
        exact (valid_cells hva hj).2.2
      by_cases hroom : n + m ≤ c
      · obtain ⟨_, cur, hcur, hcs, hks⟩ := hH.tail _ _ _ _ hg
        have hfit : n * i.size + ((news.take (m * i.size)).map AV.val).length ≤ cur.size := by rw [hnl, hcs, ← Nat.add_mul]; exact Nat.mul_le_mul_right _ hroom
        have hr := run_append_room (P := P) w t ty e i hty hi g n c cur hcur ad m cb _ hnl hnews h1' hroom hfit
        have hnl2 : (news.take (m * i.size)).length = m * i.size := by simp; omega
        obtain ⟨g1, g2⟩ := tail_more hH hg hcur hcs (news.take (m * i.size)) (by rw [hnl2, ← Nat.add_mul]; exact Nat.mul_le_mul_right _ hroom)
        rw [List.length_map] at hr
        have hkl : (cells ++ news.take (m * i.size)).length = (n + m) * i.size := by rw [List.length_append, hcl, hnl2, ← Nat.add_mul]
        have hadd : n * i.size + (news.take (m * i.size)).length = (n + m) * i.size := by rw [hnl2, ← Nat.add_mul]
        rw [hadd] at g1 g2 hr
        have hset : (σ.set g (.tail e ((n + m) * i.size) (c * i.size))).blk g = some (.tail e ((n + m) * i.size) (c * i.size)) := by show (if g = g then _ else σ.blk g) = _; rw [if_pos rfl]
        refine ⟨.lst (some ⟨g, 0, none⟩) (n + m) c (cells ++ news.take (m * i.size)), σ.set g (.tail e ((n + m) * i.size) (c * i.size)), _, by simpa using hr, ⟨hkl, .inr ⟨g, c, rfl, hroom, hcm, hset, hgu⟩⟩, ⟨fun b k hbk hk => ?_, fun b h => h, .inl rfl⟩, g1, ?_, g2⟩
        · have hne : b ≠ g := fun e => hbk (by rw [e]; rfl)
          show (if b = g then _ else σ.blk b) = _
          rw [if_neg hne]; exact hk
        · unfold Valid
          refine ⟨hroom, (fun h => by cases h), fun ad' had => ?_⟩
          injection had with had
          subst had
          refine ValidAt.mk fun j d hd => ?_
          have hjl : j < (n + m) * i.size := by rw [← hkl]; exact (List.getElem?_eq_some_iff.1 hd).1
          have hzg : ¬ Z g := fun hz => by have := (hH.z _ hz).2; rw [hg] at this; cases this
          have hh := setRow_heap w g cur (cur.toList.take (n * i.size) ++ (news.take (m * i.size)).map AV.val ++ cur.toList.drop ((n + m) * i.size)).toArray e (0, 0) hcur
          rw [add_off_, Nat.zero_add, Nat.zero_add]
          refine ⟨?_, ⟨hzg, (hH.tail _ _ _ _ hg).1, by rw [hset]; exact hjl⟩, ?_⟩
          · by_cases hj : j < n * i.size
            · rw [List.getElem?_append_left (by rw [hcl]; exact hj)] at hd
              have hc0 := (valid_cells hva hd).1
              rw [add_off_, Nat.zero_add] at hc0
              exact (g2.tail g e (n * i.size) (c * i.size) (Array.getElem?_eq_some_iff.1 hcur).1 hg).1 j _ hj hc0
            · rw [List.getElem?_append_right (by rw [hcl]; omega), hcl] at hd
              simp only [World.cell?, hh, Option.isSome_none, Bool.false_eq_true, if_false]
              have hks' : (cur.toList.take (n * i.size)).length = n * i.size := by simp; omega
              rw [List.getElem?_toArray, List.append_assoc, List.getElem?_append_right (by rw [hks']; omega), hks', List.getElem?_append_left (by rw [List.length_map, hnl2]; have := hjl; rw [Nat.add_mul] at this; omega), List.getElem?_map, hd]
              rfl
          · rcases List.mem_append.1 (List.mem_of_getElem? hd) with hc | hc
            · exact g2.valid (hcv d hc)
            · exact g2.valid (hnv d hc)
      · have holds : ∀ j u, (cells.map AV.val)[j]? = some u → w.cell? ((⟨g, 0, none⟩ : Addr).add j) = some u := fun j u hu => by
          rw [List.getElem?_map] at hu
          cases hd : cells[j]? with
          | none => rw [hd] at hu; cases hu
          | some d =>
            rw [hd] at hu
            injection hu with hu
            subst hu
            exact (valid_cells hva hd).1
        have hr := run_append_grow (P := P) w t ty e i z hty hi hzi ⟨g, 0, none⟩ n c (cells.map AV.val) (by rw [List.length_map]; exact hcl) holds ad m cb _ hnl hnews (by omega) (by omega) (growslice_fits (by omega) hb)
        obtain ⟨v', σ', g1, g2, g3, g4, g5, g6⟩ := grown c hcv
        exact ⟨v', σ', _, by rw [g1]; simpa using hr, g2, g3, g4, g5, g6⟩
end
section
variable {P : Program} {ops : Array Oper} {env : Env} {σ : St} {K : Env → St → Prop} {d : Option Nat} {ty t e : TypeId} {pos : String} {af : Array Edge} {x y : Operand}
theorem s_append {v : AV} {n m cb sz bytes : Nat} {z : Value} {cells news : List AV} {B : Option Addr} (hx : ev env x = v) (hy : ev env y = .lst B m cb news) (ht : sliceA P t = some e) (hs : sizeA P e = some sz) (hz : zeroA P e = some z) (hby : bytesA P e = some bytes) (hzs : z.cells.size = sz) (hsz : 0 < sz)
    (hown : Own σ e sz v n cells) (hl : m * sz ≤ news.length) (h1 : ∀ c ∈ news.take (m * sz), c.one = true) (h63 : n + m ≤ maxLen) (hb : (n + m) * bytes ≤ 140737488355328)
    (h : ∀ v' τ, Own τ e sz v' (n + m) (cells ++ news.take (m * sz)) → App σ v τ v' → K (env.put d v') τ) : aOp P ops ⟨d, .call ⟨.builtin .append, #[x, y], #[t, t]⟩, ty, pos, af, none⟩ env σ K := by
  rw [aOp_none rfl]
  refine .inr ⟨rfl, fun ρ hρ w Z hH hV => ?_⟩
  have hvs : (Op.call ⟨.builtin .append, #[x, y], #[t, t]⟩).operands.toList.map (ev env) = [v, .lst B m cb news] := by simp [Op.operands, Call.operands, hx, hy]
  have hρ' : (Op.call ⟨.builtin .append, #[x, y], #[t, t]⟩).operands.toList.map ρ = ((Op.call ⟨.builtin .append, #[x, y], #[t, t]⟩).operands.toList.map (ev env)).map AV.val := hρ
  rw [hvs] at hρ'
  have hV' : ∀ c ∈ [v, AV.lst B m cb news], Valid w (σ.free Z) c := by rw [← hvs]; exact hV
  simp [Op.operands, Call.operands] at hρ'
  obtain ⟨v', σ', w', hr, h2, h3, h4, h5, h6⟩ := append_run (ty := ty) (B := B) (m := m) (cb := cb) (news := news) hH (hV' v (by simp)) (hV' (.lst B m cb news) (by simp)) ht hs hz hby hzs hsz hown hl h1 h63 hb
  refine ⟨v', σ', w', .inl ?_, h v' σ' h2 h3, h4, h5, h6⟩
  simp [execOp, resolve, invoke, builtin, hρ', hr]
theorem App.but {τ : St} {v v' : AV} (h : App σ v τ v') : But (fun b => v.blk = some b) σ τ := ⟨fun b k hb hk => h.keep b k hb hk, h.used⟩
end
end Go.Proofs.Ytnmimignbgdfgaa
