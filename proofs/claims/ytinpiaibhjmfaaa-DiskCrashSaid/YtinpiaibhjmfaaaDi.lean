/- Ranges over maps, for walks by hand: the map is held with all that it bears, the iterator by what it has seen. -/
import Derived.Test.YtinpiaibhjmfaaaDl
import Derived.Laws.IdiomRangeMap
import Derived.Maps.RangeRun
namespace Go.Proofs.Ytinpiaibhjmfaaa
open Go.RowKit
open Go.ChangeMaps (setBlock)
set_option linter.unusedSimpArgs false
set_option maxRecDepth 100000
set_option linter.unusedVariables false
section
variable {w : World} {σ : St} {Z : Nat -> Prop}
def Zoo (w : World) (b : Nat) (o : Obj) : World := { w with heap := w.heap.setIfInBounds b o }
theorem Zp2 {b : Nat} {o o' : Obj} (hb : w.heap[b]? = some o) : (Zoo w b o').heap[b]? = some o' := by
 have hlt : b < w.heap.size := by
  rcases Nat.lt_or_ge b w.heap.size with h | h
  ·exact h
  ·simp [Array.getElem?_eq_none h] at hb
 simp [Zoo, Array.getElem?_setIfInBounds, hlt]
theorem Zes {b c : Nat} {o' : Obj} (hne : c ≠ b) : (Zoo w b o').heap[c]? = w.heap[c]? := by
 simp [Zoo, Array.getElem?_setIfInBounds, Ne.symm hne]
theorem ZsP {b : Nat} {o : Obj} (hb : w.heap[b]? = some o) : Zoo w b o = w := by
 unfold Zoo
 have : w.heap.setIfInBounds b o = w.heap := by
  apply Array.ext_getElem?
  intro i
  by_cases hi : i = b
  ·subst hi
   have hlt : i < w.heap.size := by
    rcases Nat.lt_or_ge i w.heap.size with h | h
    ·exact h
    ·simp [Array.getElem?_eq_none h] at hb
   rw [Array.getElem?_setIfInBounds, if_pos rfl, if_pos hlt, hb]
  ·simp [Array.getElem?_setIfInBounds, Ne.symm hi]
 rw [this]
theorem Zaj.write_obj (hH : Zaj w σ Z) {b : Nat} {es es' : List (Value × Value)} {o o' : Obj} (hb : σ.blk b = some (.map es)) (hh : w.heap[b]? = some o) (ho : ∀ c t f, o ≠ .cells c t f) (ho' : ∀ c t f, o' ≠ .cells c t f) (hi : Zjw o' es') :
 Zaj (Zoo w b o') (σ.set b (.map es')) Z /\ Grow w σ (Zoo w b o') (σ.set b (.map es')) := by
 obtain ⟨hu, _⟩ := hH.map _ _ hb
 have hg : Grow w σ (Zoo w b o') (σ.set b (.map es')) := by
  refine ⟨rfl, rfl, rfl, by simp [Zoo], fun _ _ h => h, fun b' hb' hn' => ?_, fun b' t' k s hb' ht' => ?_, fun _ h => h⟩
  ·have hne : b' ≠ b := by rintro rfl; rw [hb] at hn'; cases hn'
   exact ⟨Zes hne, by show (if b' = b then _ else σ.blk b') = _; rw [if_neg hne]; exact hn'⟩
  ·have hne : b' ≠ b := by rintro rfl; rw [hb] at ht'; cases ht'
   refine ⟨fun j v _ hv => ?_, .inr ⟨t', k, s, ?_, Nat.le_refl _⟩⟩
   ·rw [World.cell?_of_block (w := w) (Zes hne)]; exact hv
   ·show (if b' = b then _ else σ.blk b') = _
    rw [if_neg hne]; exact ht'
 refine ⟨⟨fun b' hu' => ?_, fun b' hz => ?_, fun b' t' cs2 hb' => ?_, fun b' t' k s hb' => ?_, fun b' es' hb' => ?_⟩, hg⟩
 ·have := hH.used _ hu'; simpa [Zoo] using this
 ·obtain ⟨z1, z2⟩ := hH.z _ hz
  have hne : b' ≠ b := by rintro rfl; rw [hb] at z2; cases z2
  refine ⟨by simpa [Zoo] using z1, ?_⟩
  show (if b' = b then _ else σ.blk b') = _
  rw [if_neg hne]; exact z2
 ·change (if b' = b then _ else σ.blk b') = _ at hb'
  split at hb'
  ·injection hb' with hb'; cases hb'
  ·rename_i hne
   obtain ⟨g1, g2, g3⟩ := hH.own _ _ _ hb'
   exact ⟨g1, (Zes hne).trans g2, fun c hc => hg.valid (g3 c hc)⟩
 ·change (if b' = b then _ else σ.blk b') = _ at hb'
  split at hb'
  ·injection hb' with hb'; cases hb'
  ·rename_i hne
   obtain ⟨g1, cs2, g2, g3⟩ := hH.tail _ _ _ _ hb'
   exact ⟨g1, cs2, (Zes hne).trans g2, g3⟩
 ·change (if b' = b then _ else σ.blk b') = _ at hb'
  split at hb'
  ·rename_i hbb
   injection hb' with hb'
   injection hb' with hb'
   subst hb' hbb
   exact ⟨hu, o', (), Zp2 hh, hi⟩
  ·rename_i hne
   obtain ⟨g1, a2, c2, g2, g3⟩ := hH.map _ _ hb'
   exact ⟨g1, a2, c2, (Zes hne).trans g2, g3⟩
theorem Zjw.ncells {o : Obj} {es : List (Value × Value)} (h : Zjw o es) : ∀ c t f, o ≠ .cells c t f := fun c t f e => by
 subst e
 exact h
theorem Zaj.retell (hH : Zaj w σ Z) {b : Nat} {es es' : List (Value × Value)} {o : Obj} (hb : σ.blk b = some (.map es)) (hh : w.heap[b]? = some o) (hi : Zjw o es') : Zaj w (σ.set b (.map es')) Z /\ Grow w σ w (σ.set b (.map es')) := by
 have := hH.write_obj hb hh hi.ncells hi.ncells hi
 rwa [ZsP hh] at this
theorem Zaj.alloc_obj (h : Zaj w σ Z) {o : Obj} {es : List (Value × Value)} (hi : Zjw o es) : Zaj (w.alloc o) (σ.put w.heap.size (.map es)) Z := by
 have hg := Grow.alloc h o (.map es)
 refine ⟨fun b hu => ?_, fun b hz => ?_, fun b t' cs' hb => ?_, fun b t' k s hb => ?_, fun b es' hb => ?_⟩
 ·simp only [World.size_alloc]
  rcases hu with hu | rfl
  ·have := h.used _ hu; omega
  ·omega
 ·obtain ⟨h1, h2⟩ := h.z _ hz
  refine ⟨by simp only [World.size_alloc]; omega, ?_⟩
  have hne : b ≠ w.heap.size := by omega
  show (if b = w.heap.size then _ else σ.blk b) = none
  rw [if_neg hne]; exact h2
 ·change (if b = w.heap.size then some (Bk.map es) else σ.blk b) = _ at hb
  split at hb
  ·injection hb with hb; cases hb
  ·obtain ⟨h1, h2, h3⟩ := h.own _ _ _ hb
   exact ⟨.inl h1, (Below.heap_alloc _ _ _ (h.used _ h1)).trans h2, fun c hc => hg.valid (h3 c hc)⟩
 ·change (if b = w.heap.size then some (Bk.map es) else σ.blk b) = _ at hb
  split at hb
  ·injection hb with hb; cases hb
  ·obtain ⟨h1, cs', h2, h3⟩ := h.tail _ _ _ _ hb
   exact ⟨.inl h1, cs', (Below.heap_alloc _ _ _ (h.used _ h1)).trans h2, h3⟩
 ·change (if b = w.heap.size then some (Bk.map es) else σ.blk b) = _ at hb
  split at hb
  ·rename_i hbb
   injection hb with hb
   injection hb with hb
   subst hb hbb
   exact ⟨.inr rfl, o, (), heap_alloc_new _ _, hi⟩
  ·obtain ⟨h1, a, c, h2, h3⟩ := h.map _ _ hb
   exact ⟨.inl h1, a, c, (Below.heap_alloc _ _ _ (h.used _ h1)).trans h2, h3⟩
end
section
variable {P : Program} {ops : Array Oper} {env : Env} {σ τ : St} {K : Env -> St -> Prop} {d : Option Nat} {ty t kt et : TypeId} {pos : String} {af : Array Edge} {x y : Operand} {b ib : Nat} {l : List Oper}
theorem ZsQ {es : List (Value × Value)} (hx : ev env x = Zbv b) (hb : σ.blk b = some (.map es)) (ht : Zht es = 0) (t1 : P.underlying t = some (.map kt et))
 (h : ∀ arr c ib, Zjv arr c es -> ¬ σ.used ib -> σ.blk ib = none -> ib ≠ b -> Zb8 P ops l (env.put d (ptr ib 0)) ((σ.set b (.map (Zgd arr c))).put ib (.map (Zku b c #[] c))) K) : Zb8 P ops (⟨d, .range t x, ty, pos, af, none⟩ :: l) env σ K := by
 refine .inr (.inr (.inr ⟨rfl, fun ρ hρ w Z hH hV => ?_⟩))
 obtain ⟨hu, arr, c, hh, hM⟩ := hH.mapAt hb ht
 obtain ⟨g1, g2⟩ := hH.retell hb hh (es' := Zgd arr c) (.inr rfl)
 have g3 := g1.alloc_obj (o := .mapIter (some b) c #[] c) (es := Zku b c #[] c) rfl
 obtain ⟨f1, f2⟩ := g1.fresh
 have hne : w.heap.size ≠ b := fun e => by have := hH.used _ hu; omega
 have f2' : σ.blk w.heap.size = none := by
  change (if w.heap.size = b then _ else σ.blk w.heap.size) = none at f2
  rwa [if_neg hne] at f2
 have hρ' := hρ
 simp [Op.operands, hx, Zbv] at hρ'
 refine ⟨ptr w.heap.size 0, _, _, .inl ?_, h arr c _ hM f1 f2' hne, g3, by unfold Zaf ptr; trivial, g2.trans (Grow.alloc g1 _ _)⟩
 simp [execOp, hρ', run_range_map w t kt et b arr c t1 hh, ptr]
theorem ZtV {arr : Array MapEntry} {c since last : Nat} {seen : Array Nat} {es : List (Value × Value)} (hx : ev env x = ptr ib 0) (hi : σ.blk ib = some (.map (Zku b since seen last))) (hb : σ.blk b = some (.map (Zgd arr c))) (hM : Zjv arr c es) (ht : Zht es = 0) (hs : ∀ e ∈ arr.toList, e.born < since) (hl : since <= last)
 (h0 : (leftOf arr seen).size = 0 -> Zb8 P ops l (env.put d (.tup [vT false])) (σ.set b (.map es)) K)
 (h1 : ∀ e ∈ (leftOf arr seen).toList, Zb8 P ops l (env.put d (.tup [vT true, .raw e.key, .raw e.val])) (σ.set ib (.map (Zku b since (seen.push e.born) c))) K) : Zb8 P ops (⟨d, .next x false, ty, pos, af, none⟩ :: l) env σ K := by
 refine .inr (.inr (.inr ⟨rfl, fun ρ hρ w Z hH hV => ?_⟩))
 obtain ⟨_, hh⟩ := hH.pinAt hb
 obtain ⟨_, hih⟩ := hH.itAt hi
 have hρ' := hρ
 simp [Op.operands, hx, ptr] at hρ'
 rcases run_next_at (P := P) w ty ib b since last seen arr c hih hh hs hl with ⟨q0, q1⟩ | ⟨e, he, w1, hw1, q1⟩
 ·obtain ⟨g1, g2⟩ := hH.retell hb hh (es' := es) (.inl ⟨ht, hM⟩)
  refine ⟨.tup [vT false], _, w, .inl ?_, h0 q0, g1, ?_, g2⟩
  ·simp [execOp, hρ', q1]
  ·unfold Zaf
   exact ZaG.iff.2 fun a ha => by rw [List.mem_singleton.1 ha]; exact Zak _
 ·have hH1 : Zaj w1 σ Z /\ Grow w σ w1 σ := by
   rcases hw1 with rfl | rfl
   ·exact ⟨hH, .refl _ _⟩
   ·have hG : Grow w σ w.drew σ := ⟨rfl, rfl, rfl, Nat.le_refl _, fun b hb hu => hu, fun b hb' hn => ⟨rfl, hn⟩, fun b t k s hb' ht => ⟨fun j v _ hv => hv, .inr ⟨t, k, s, ht, Nat.le_refl _⟩⟩, fun b hu => hu⟩
    exact ⟨⟨hH.used, hH.z, fun b t cs hb' => ⟨(hH.own b t cs hb').1, (hH.own b t cs hb').2.1, fun c hc => hG.valid ((hH.own b t cs hb').2.2 c hc)⟩, hH.tail, hH.map⟩, hG⟩
  have hih1 : w1.heap[ib]? = some (.mapIter (some b) since seen last) := by rcases hw1 with rfl | rfl <;> exact hih
  obtain ⟨g1, g2⟩ := hH1.1.write_obj (o' := .mapIter (some b) since (seen.push e.born) c) (es' := Zku b since (seen.push e.born) c) hi hih1 (fun _ _ _ q => by cases q) (fun _ _ _ q => by cases q) rfl
  refine ⟨.tup [vT true, .raw e.key, .raw e.val], _, _, .inl ?_, h1 e he, g1, ?_, hH1.2.trans g2⟩
  ·simp only [execOp, hρ']
   rw [Sem.run_bind, q1]
   have : setBlock w1 ib (.mapIter (some b) since (seen.push e.born) c) = Zoo w1 ib (.mapIter (some b) since (seen.push e.born) c) := rfl
   rw [this]
   rfl
  ·unfold Zaf
   exact ZaG.iff.2 fun a ha => by
    simp only [List.mem_cons, List.not_mem_nil, or_false] at ha
    rcases ha with rfl | rfl | rfl <;> exact Zak _
theorem Zmg {arr : Array MapEntry} {c since : Nat} {seen : Array Nat} {e : MapEntry} {kv vv : AV} (hx : ev env x = ptr ib 0) (hi : σ.blk ib = some (.map (Zku b since (seen.push e.born) c))) (hb : σ.blk b = some (.map (Zgd arr c))) (he : e ∈ arr.toList) (hn : (arr.toList.map (·.born)).Nodup) (hk : kv.val = e.key) (hv : vv.val = e.val) (hkv : ∀ w B, Zaf w B kv) (hvv : ∀ w B, Zaf w B vv)
 (h : Zb8 P ops l (env.put d (.tup [kv, vv])) σ K) : Zb8 P ops (⟨d, .entry x, ty, pos, af, none⟩ :: l) env σ K := by
 refine .inr (.inr (.inr ⟨rfl, fun ρ hρ w Z hH hV => ?_⟩))
 obtain ⟨_, hh⟩ := hH.pinAt hb
 obtain ⟨_, hih⟩ := hH.itAt hi
 have hρ' := hρ
 simp [Op.operands, hx, ptr] at hρ'
 refine ⟨.tup [kv, vv], σ, w, .inl ?_, h, hH, ?_, .refl _ _⟩
 ·simp only [execOp, hρ']
  rw [Sem.run_bind, run_entry_at w ib b since seen arr c e hih hh he hn]
  simp [hk, hv]
 ·unfold Zaf
  exact ZaG.iff.2 fun a ha => by
   simp only [List.mem_cons, List.not_mem_nil, or_false] at ha
   rcases ha with rfl | rfl
   ·exact hkv _ _
   ·exact hvv _ _
theorem Zki {es : List (Value × Value)} (hx : ev env x = Zbv b) (hb : σ.blk b = some (.map es)) (ht : Zht es = 0) (t1 : P.underlying t = some (.map kt et))
 (h : ∀ arr c ib τ, Zjv arr c es -> ¬ σ.used ib -> σ.blk ib = none -> ib ≠ b -> τ.blk b = some (.map (Zgd arr c)) -> τ.blk ib = some (.map (Zku b c #[] c)) -> τ.used ib -> But (fun x => x = b) σ τ -> Zb8 P ops l (env.put d (ptr ib 0)) τ K) : Zb8 P ops (⟨d, .range t x, ty, pos, af, none⟩ :: l) env σ K := by
 refine ZsQ hx hb ht t1 fun arr c ib hM h1 h2 h3 => h arr c ib _ hM h1 h2 h3 ?_ (ZaE _ _ _) (.inr rfl) ⟨fun g k hg hk => ?_, fun g hg => .inl hg⟩
 ·show (if b = ib then _ else if b = b then _ else σ.blk b) = _
  rw [if_neg (fun e => h3 e.symm), if_pos rfl]
 ·show (if g = ib then _ else if g = b then _ else σ.blk g) = _
  rw [if_neg (fun e => by rw [e, h2] at hk; cases hk), if_neg hg]
  exact hk
theorem Zmh {arr : Array MapEntry} {c since last : Nat} {seen : Array Nat} {es : List (Value × Value)} (hx : ev env x = ptr ib 0) (hi : σ.blk ib = some (.map (Zku b since seen last))) (hb : σ.blk b = some (.map (Zgd arr c))) (hM : Zjv arr c es) (ht : Zht es = 0) (hs : ∀ e ∈ arr.toList, e.born < since) (hl : since <= last)
 (h0 : (leftOf arr seen).size = 0 -> ∀ τ, τ.blk b = some (.map es) -> But (fun x => x = b) σ τ -> Zb8 P ops l (env.put d (.tup [vT false])) τ K)
 (h1 : ∀ e ∈ (leftOf arr seen).toList, ∀ τ, τ.blk ib = some (.map (Zku b since (seen.push e.born) c)) -> But (fun x => x = ib) σ τ -> Zb8 P ops l (env.put d (.tup [vT true, .raw e.key, .raw e.val])) τ K) : Zb8 P ops (⟨d, .next x false, ty, pos, af, none⟩ :: l) env σ K := by
 have hset : ∀ (g : Nat) (k : Bk), (σ.set g k).blk g = some k /\ But (fun x => x = g) σ (σ.set g k) := fun g k => by
  refine ⟨?_, fun u z hu hz => ?_, fun u hu => hu⟩
  ·show (if g = g then _ else σ.blk g) = _
   rw [if_pos rfl]
  ·show (if u = g then _ else σ.blk u) = _
   rw [if_neg hu]
   exact hz
 exact ZtV hx hi hb hM ht hs hl (fun q => h0 q _ (hset _ _).1 (hset _ _).2) fun e he => h1 e he _ (hset _ _).1 (hset _ _).2
end
theorem ZbZ {α β : Type} {f : α -> β} : ∀ {l : List α}, (l.map f).Nodup -> l.Nodup
 | [], _ => .nil
 | a :: l, h => by
  rw [List.map_cons, List.nodup_cons] at h
  exact List.nodup_cons.2 ⟨fun ha => h.1 (List.mem_map.2 ⟨a, ha, rfl⟩), ZbZ h.2⟩
structure Zrl (arr : Array MapEntry) (seen : Array Nat) (D : List MapEntry) : Prop where
 sub : ∀ e ∈ D, e ∈ arr.toList
 at_ : seen.toList = D.map (·.born)
 nd : (D.map (·.born)).Nodup
theorem Zrl.nil (arr : Array MapEntry) : Zrl arr #[] [] := ⟨(fun e he => by cases he), rfl, by simp⟩
theorem Zrl.push {arr : Array MapEntry} {seen : Array Nat} {D : List MapEntry} (h : Zrl arr seen D) {e : MapEntry} (he : e ∈ (leftOf arr seen).toList) : Zrl arr (seen.push e.born) (D ++ [e]) := by
 obtain ⟨m1, m2⟩ := mem_left he
 refine ⟨fun x hx => ?_, by rw [Array.toList_push, h.at_, List.map_append]; rfl, ?_⟩
 ·rcases List.mem_append.1 hx with hx | hx
  ·exact h.sub x hx
  ·rw [List.mem_singleton.1 hx]; exact m1
 ·rw [List.map_append, List.nodup_append]
  refine ⟨h.nd, by simp, fun a ha b hb e2 => ?_⟩
  simp at hb
  subst hb e2
  rw [<- h.at_] at ha
  have : seen.contains e.born = true := by
   rw [Array.contains_iff_mem]
   exact Array.mem_def.2 ha
  rw [this] at m2
  cases m2
theorem Zrl.perm {arr : Array MapEntry} {seen : Array Nat} {D : List MapEntry} (h : Zrl arr seen D) (hn : (arr.toList.map (·.born)).Nodup) (h0 : (leftOf arr seen).size = 0) : D.Perm arr.toList := by
 have n1 : D.Nodup := ZbZ h.nd
 have n2 : arr.toList.Nodup := ZbZ hn
 refine (List.perm_ext_iff_of_nodup n1 n2).2 fun e => ⟨h.sub e, fun he => ?_⟩
 have hc : seen.contains e.born = true := by
  cases hq : seen.contains e.born with
  | true => rfl
  | false =>
   exfalso
   have : e ∈ leftOf arr seen := by
    unfold leftOf
    rw [Array.mem_filter]
    exact ⟨Array.mem_toList_iff.1 he, by rw [hq]; rfl⟩
   have := Array.size_pos_of_mem this
   omega
 have hm : e.born ∈ D.map (·.born) := by
  rw [<- h.at_]
  rw [Array.contains_iff_mem] at hc
  exact Array.mem_def.1 hc
 obtain ⟨x, hx, hxe⟩ := List.mem_map.1 hm
 have : x = e := by
  have hx2 := h.sub x hx
  clear hm n1 n2 hc h h0 hx
  generalize arr.toList = L at hn he hx2
  induction L with
  | nil => cases he
  | cons a L ih =>
   rw [List.map_cons, List.nodup_cons] at hn
   rcases List.mem_cons.1 he with e1 | h1 <;> rcases List.mem_cons.1 hx2 with e2 | h2
   ·rw [e1, e2]
   ·exact absurd (List.mem_map.2 ⟨x, h2, by rw [hxe, e1]⟩) hn.1
   ·exact absurd (List.mem_map.2 ⟨e, h1, by rw [<- hxe, e2]⟩) hn.1
   ·exact ih hn.2 h1 h2
 rw [<- this]; exact hx
end Go.Proofs.Ytinpiaibhjmfaaa
