/- A call that writes one array of ours, as a law of the kit's shelf tells it. -/
import Derived.Test.YtmffcfjdacoigaaGreatX16
import Derived.Sort.Grow
namespace Go.Proofs.YtmffcfjdacoigaaGreat
open Go.RowKit
set_option linter.unusedSimpArgs false
set_option maxRecDepth 100000
set_option linter.unusedVariables false
variable {T : Nat → Type}
section
variable {C : Codec T} {P : Program} {w w' : World} {σ : St} {Z : Nat → Prop} {ρ : Nat → AV}
/-- One block of ours is written, others stay, and there may be more of them. -/
theorem HeapOk.rewrite (hH : HeapOk w σ Z) {b : Nat} {t : TypeId} {cs cs' : List AV} (hb : σ.blk b = some (.own t cs)) (h1 : w'.heap[b]? = some (.cells (cs'.map AV.val).toArray t (0, 0))) (h2 : ∀ b', b' ≠ b → b' < w.heap.size → w'.heap[b']? = w.heap[b']?)
    (h3 : w.heap.size ≤ w'.heap.size) (h4 : w'.os = w.os ∧ w'.tape = w.tape ∧ w'.output = w.output) (hv : ∀ c ∈ cs', Valid w (σ.free Z) c) : HeapOk w' (σ.set b (.own t cs')) Z ∧ Grow w σ w' (σ.set b (.own t cs')) := by
  obtain ⟨hu, hh, hvs⟩ := hH.own _ _ _ hb
  have hset : (σ.set b (.own t cs')).blk b = some (.own t cs') := by show (if b = b then _ else σ.blk b) = _; rw [if_pos rfl]
  have hoth : ∀ b', b' ≠ b → (σ.set b (.own t cs')).blk b' = σ.blk b' := fun b' hb' => by show (if b' = b then _ else σ.blk b') = _; rw [if_neg hb']
  have hg : Grow w σ w' (σ.set b (.own t cs')) := by
    refine ⟨h4.1, h4.2.1, h4.2.2, h3, fun _ _ h => h, fun b' hb' hn' => ?_, fun b' t' k s hb' ht' => ?_, fun _ h => h⟩
    · have hne : b' ≠ b := by rintro rfl; rw [hb] at hn'; cases hn'
      exact ⟨h2 b' hne hb', by rw [hoth b' hne]; exact hn'⟩
    · have hne : b' ≠ b := by rintro rfl; rw [hb] at ht'; cases ht'
      exact ⟨fun j v _ hv => by rw [World.cell?_of_block (w := w) (h2 b' hne hb')]; exact hv, .inr ⟨t', k, s, by rw [hoth b' hne]; exact ht', Nat.le_refl _⟩⟩
  refine ⟨⟨fun b' hu' => Nat.lt_of_lt_of_le (hH.used _ hu') h3, fun b' hz => ?_, fun b' t' cs2 hb' => ?_, fun b' t' k s hb' => ?_, fun b' es hb' => ?_⟩, hg⟩
  · obtain ⟨z1, z2⟩ := hH.z _ hz
    have hne : b' ≠ b := by rintro rfl; rw [hb] at z2; cases z2
    exact ⟨Nat.lt_of_lt_of_le z1 h3, by rw [hoth b' hne]; exact z2⟩
  · by_cases hne : b' = b
    · subst hne
      rw [hset] at hb'
      injection hb' with hb'
      injection hb' with e1 e2
      subst e1 e2
      exact ⟨hu, h1, fun c hc => hg.valid (hv c hc)⟩
    · rw [hoth b' hne] at hb'
      obtain ⟨g1, g2, g3⟩ := hH.own _ _ _ hb'
      exact ⟨g1, (h2 b' hne (hH.used _ g1)).trans g2, fun c hc => hg.valid (g3 c hc)⟩
  · by_cases hne : b' = b
    · subst hne
      rw [hset] at hb'
      injection hb' with hb'
      cases hb'
    · rw [hoth b' hne] at hb'
      obtain ⟨g1, cs2, g2, g3⟩ := hH.tail _ _ _ _ hb'
      exact ⟨g1, cs2, (h2 b' hne (hH.used _ g1)).trans g2, g3⟩
  · by_cases hne : b' = b
    · subst hne
      rw [hset] at hb'
      injection hb' with hb'
      cases hb'
    · rw [hoth b' hne] at hb'
      obtain ⟨g1, a', c', g2, g3⟩ := hH.map _ _ hb'
      exact ⟨g1, a', c', (h2 b' hne (hH.used _ g1)).trans g2, g3⟩
/-- A list, sorted in its place: all of an array's known elements, of one cell each. -/
theorem sortedA_tr {f : FuncId} {e : TypeId} {E : Nat} {α : Type} [Inhabited α] (enc : α → Value) (ds : List α) (xs xs' : List (T E)) (kp : Bool) (hsz : C.sz E = 1) (hlen : xs.length = ds.length)
    (hx : ∀ N (ρ : Nat → AV) cs, SVs C N ρ (xs.flatMap (C.enc E)) cs → cs.map AV.val = ds.map enc) (ds' : List α) (hl' : ds'.length = ds.length) (hx' : ∀ N (ρ : Nat → AV), SVs C N ρ (xs'.flatMap (C.enc E)) (ds'.map fun d => AV.raw (enc d)))
    (hf : callable P f = true) (hfu : C.full E = false) (hnil : ds = [] → xs' = [])
    (hcall : ∀ (blk cap : Nat) (w : World), Go.Sort.Holds enc w blk 0 ds.toArray → blk < w.heap.size → Calls P f #[.slice (some ⟨blk, 0, none⟩) ds.length cap] w fun e w' => e = .returned (.tuple #[]) ∧ ∃ n os, w' = Go.Sort.grow (Go.Sort.putRow enc (Go.Sort.ahead w n) blk 0 ds'.toArray) os)
    (hcall0 : ∀ (p : Option Addr) (cap : Nat) (w : World), Calls P f #[.slice p 0 cap] w fun e w' => e = .returned (.tuple #[]) ∧ w' = w) :
    Tr C P (fun _ => True) f [.as E 0 0 xs.length none] [.arr e E kp xs] (.tup []) [.arr e E kp xs'] := by
  intro ρ σ vs hs H
  obtain ⟨a, rfl, h3⟩ := svs1.1 hs
  refine fun w Z hH hV => .inl ⟨hf, ?_⟩
  by_cases h0 : ds = []
  · have hx0 : xs = [] := List.eq_nil_of_length_eq_zero (by rw [hlen, h0]; rfl)
    have hx0' := hnil h0
    subst hx0 hx0'
    have key : ∃ p cap, a.val = .slice p 0 cap := by
      rcases sv_as.1 h3 with ⟨ad, c, rfl, hA⟩ | ⟨rfl, _⟩
      · exact ⟨some ad, c, by simp⟩
      · exact ⟨none, 0, by simp⟩
    obtain ⟨p, cap, hp⟩ := key
    have : ([a].map AV.val).toArray = #[.slice p 0 cap] := by simp [hp]
    rw [this]
    refine Calls.mono (hcall0 p cap w) ?_
    rintro e' w' ⟨rfl, rfl⟩
    exact ⟨.tup [], σ, by simp, ⟨ρ, sv_tup.2 ⟨[], rfl, .none⟩, H, .refl _ _ _ _⟩, hH, by unfold Valid; exact Valids.iff.2 (by simp), Grow.refl _ _⟩
  · have hd0 : 0 < ds.length := List.length_pos_iff.2 h0
    rcases sv_as.1 h3 with ⟨ad, c, rfl, hA⟩ | ⟨rfl, hn, _⟩
    rotate_left
    · omega
    obtain ⟨b, q1, q2⟩ := hA.at_
    obtain ⟨pre, rest, hb2, hb3, hb4, hb5, hb6⟩ := H.arrAt (i := 0) rfl q1
    have hac := hA.le
    have had := q2 (by omega)
    rw [Nat.zero_mul] at had
    subst had
    have hpre := hx _ _ _ (hb4 0 ρ)
    have hpl : pre.length = ds.length := by have := congrArg List.length hpre; simpa using this
    obtain ⟨o1, o2, o3⟩ := hH.own _ _ _ hb2
    have hbl := hH.used _ o1
    have hholds : Go.Sort.Holds enc w b 0 ds.toArray := fun j hj => by
      have hj' : j < ds.length := by simpa using hj
      refine ⟨?_, ?_⟩
      · have hg : (pre ++ rest)[j]? = some pre[j] := by rw [List.getElem?_append_left (by omega), List.getElem?_eq_getElem (by omega)]
        have := own_cells hH hb2 0 j (by rw [Nat.zero_add]; exact hg)
        rw [add_off_] at this
        rw [this]
        have hv : pre[j].val = enc ds[j] := by
          have := congrArg (·[j]?) hpre
          simp only [List.getElem?_map] at this
          rw [List.getElem?_eq_getElem (by omega), List.getElem?_eq_getElem hj'] at this
          simpa using this
        rw [hv]
        simp [hj']
      · simp [World.frozen?, o2]
    have hval : ([AV.raw (.slice (some ⟨b, 0, none⟩) xs.length c)].map AV.val).toArray = #[.slice (some ⟨b, 0, none⟩) ds.length c] := by simp [hlen]
    rw [hval]
    refine Calls.mono (hcall b c w hholds hbl) ?_
    rintro e' w' ⟨rfl, n, os, rfl⟩
    have hcs : ((ds'.map fun d => AV.raw (enc d)) ++ rest).map AV.val = ds'.map enc ++ rest.map AV.val := by simp [Function.comp_def]
    have hheap : (Go.Sort.grow (Go.Sort.putRow enc (Go.Sort.ahead w n) b 0 ds'.toArray) os).heap[b]? = some (.cells ((((ds'.map fun d => AV.raw (enc d)) ++ rest).map AV.val).toArray) e (0, 0)) := by
      have hsz2 : (Go.Sort.putRow enc (Go.Sort.ahead w n) b 0 ds'.toArray).heap.size = w.heap.size := by simp
      have h1 : (Go.Sort.putRow enc (Go.Sort.ahead w n) b 0 ds'.toArray).heap[b]? = some (.cells (Go.Sort.putCells enc 0 ds'.toArray ((pre ++ rest).map AV.val).toArray) e (0, 0)) := by
        unfold Go.Sort.putRow Go.Sort.mapBlock
        show ((w.heap.modify b (Go.Sort.onCells (Go.Sort.putCells enc 0 ds'.toArray))))[b]? = _
        rw [Array.getElem?_modify, if_pos rfl, o2]
        rfl
      unfold Go.Sort.grow
      show ((Go.Sort.putRow enc (Go.Sort.ahead w n) b 0 ds'.toArray).heap ++ os)[b]? = _
      rw [Array.getElem?_append_left (by rw [hsz2]; exact hbl), h1, hcs]
      congr 2
      apply Array.ext'
      apply List.ext_getElem?
      intro k
      unfold Go.Sort.putCells
      rw [Array.getElem?_toList, Array.getElem?_mapIdx]
      simp only [List.map_append, List.getElem?_toArray, Nat.zero_le, true_and, Nat.zero_add, Nat.sub_zero, List.size_toArray]
      by_cases hk : k < ds'.length
      · rw [List.getElem?_append_left (by rw [List.length_map]; omega), List.getElem?_append_left (by rw [List.length_map]; omega), List.getElem?_map, List.getElem?_map, List.getElem?_eq_getElem (by omega), List.getElem?_eq_getElem hk]
        simp [hk]
      · rw [List.getElem?_append_right (by rw [List.length_map]; omega), List.getElem?_append_right (by rw [List.length_map]; omega)]
        simp only [List.length_map, hpl, hl']
        have hk' : ¬ k < ds.length := by omega
        simp [hk, hk', Function.comp_def]
    have hrest : ∀ b', b' ≠ b → b' < w.heap.size → (Go.Sort.grow (Go.Sort.putRow enc (Go.Sort.ahead w n) b 0 ds'.toArray) os).heap[b']? = w.heap[b']? := fun b' hne hlt => by
      have hsz2 : (Go.Sort.putRow enc (Go.Sort.ahead w n) b 0 ds'.toArray).heap.size = w.heap.size := by simp
      unfold Go.Sort.grow
      show ((Go.Sort.putRow enc (Go.Sort.ahead w n) b 0 ds'.toArray).heap ++ os)[b']? = _
      rw [Array.getElem?_append_left (by rw [hsz2]; exact hlt)]
      unfold Go.Sort.putRow Go.Sort.mapBlock
      show ((w.heap.modify b (Go.Sort.onCells (Go.Sort.putCells enc 0 ds'.toArray))))[b']? = _
      rw [Array.getElem?_modify, if_neg (Ne.symm hne)]
    obtain ⟨k1, k2⟩ := hH.rewrite (w' := Go.Sort.grow (Go.Sort.putRow enc (Go.Sort.ahead w n) b 0 ds'.toArray) os) hb2 hheap hrest (by simp) ⟨rfl, rfl, rfl⟩ (fun q hq => by
      rcases List.mem_append.1 hq with hq | hq
      · obtain ⟨d, _, rfl⟩ := List.mem_map.1 hq
        exact valid_raw _
      · exact o3 q (List.mem_append_right _ hq))
    obtain ⟨g1, g2⟩ := H.writeArr (U := fun _ => True) (i := 0) trivial (xs := xs) (xs' := xs') (by rfl) q1 (pre' := ds'.map fun d => AV.raw (enc d)) (rest' := rest) (fun N ρ => hx' N ρ) (by rw [← hb5]; simp [hpl, hl']) (fun hq => by rw [hfu] at hq; cases hq)
    exact ⟨.tup [], _, by simp, ⟨ρ, sv_tup.2 ⟨[], rfl, .none⟩, g1, g2⟩, k1, by unfold Valid; exact Valids.iff.2 (by simp), k2⟩
end
end Go.Proofs.YtmffcfjdacoigaaGreat
