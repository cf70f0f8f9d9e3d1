/- XDi, XDj, XDt, XDtb, XDtc in one. -/
import Derived.Test.YtinpiaibhjmfaaaMe
import Derived.Laws.IdiomRangeMap
import Derived.Maps.RangeRun
import Derived.Test.YtinpiaibhjmfaaaMf
namespace Go.Proofs.Ytinpiaibhjmfaaa
open Go.RowKit
open Go.ChangeMaps (setBlock)
set_option linter.unusedSimpArgs false
set_option maxRecDepth 100000
set_option linter.unusedVariables false
section
variable {w : World} {σ : St} {Z : Nat -> Prop}
def ZkI (w : World) (b : Nat) (o : Obj) : World := { w with heap := w.heap.setIfInBounds b o }
theorem ZlW {b : Nat} {o o' : Obj} (hb : w.heap[b]? = some o) : (ZkI w b o').heap[b]? = some o' := by
 have hlt : b < w.heap.size := by
  rcases Nat.lt_or_ge b w.heap.size with h | h
  ·exact h
  ·simp [Array.getElem?_eq_none h] at hb
 simp [ZkI, Array.getElem?_setIfInBounds, hlt]
theorem Zef {b c : Nat} {o' : Obj} (hne : c ≠ b) : (ZkI w b o').heap[c]? = w.heap[c]? := by
 simp [ZkI, Array.getElem?_setIfInBounds, Ne.symm hne]
theorem Zot {b : Nat} {o : Obj} (hb : w.heap[b]? = some o) : ZkI w b o = w := by
 unfold ZkI
 have : w.heap.setIfInBounds b o = w.heap := by
  apply Array.ext_getElem?
  intro i
  by_cases hi : i = b
  ·subst hi
   have hlt : i < w.heap.size := by
    rcases Nat.lt_or_ge i w.heap.size with h | h
    ·exact h
    ·simp [Array.getElem?_eq_none h] at hb
   rw [Array.getElem?_setIfInBounds, if_pos rfl, if_pos hlt, hb]
  ·simp [Array.getElem?_setIfInBounds, Ne.symm hi]
 rw [this]
theorem Zau.write_obj (hH : Zau w σ Z) {b : Nat} {es es' : List (Value × Value)} {o o' : Obj} (hb : σ.blk b = some (.map es)) (hh : w.heap[b]? = some o) (ho : ∀ c t f, o ≠ .cells c t f) (ho' : ∀ c t f, o' ≠ .cells c t f) (hi : Zhn o' es') :
 Zau (ZkI w b o') (σ.set b (.map es')) Z /\ Grow w σ (ZkI w b o') (σ.set b (.map es')) := by
 obtain ⟨hu, _⟩ := hH.map _ _ hb
 have hg : Grow w σ (ZkI w b o') (σ.set b (.map es')) := by
  refine ⟨rfl, rfl, rfl, by simp [ZkI], fun _ _ h => h, fun b' hb' hn' => ?_, fun b' t' k s hb' ht' => ?_, fun _ h => h⟩
  ·have hne : b' ≠ b := by rintro rfl; rw [hb] at hn'; cases hn'
   exact ⟨Zef hne, by show (if b' = b then _ else σ.blk b') = _; rw [if_neg hne]; exact hn'⟩
  ·have hne : b' ≠ b := by rintro rfl; rw [hb] at ht'; cases ht'
   refine ⟨fun j v _ hv => ?_, .inr ⟨t', k, s, ?_, Nat.le_refl _⟩⟩
   ·rw [World.cell?_of_block (w := w) (Zef hne)]; exact hv
   ·show (if b' = b then _ else σ.blk b') = _
    rw [if_neg hne]; exact ht'
 refine ⟨⟨fun b' hu' => ?_, fun b' hz => ?_, fun b' t' cs2 hb' => ?_, fun b' t' k s hb' => ?_, fun b' es' hb' => ?_⟩, hg⟩
 ·have := hH.used _ hu'; simpa [ZkI] using this
 ·obtain ⟨z1, z2⟩ := hH.z _ hz
  have hne : b' ≠ b := by rintro rfl; rw [hb] at z2; cases z2
  refine ⟨by simpa [ZkI] using z1, ?_⟩
  show (if b' = b then _ else σ.blk b') = _
  rw [if_neg hne]; exact z2
 ·change (if b' = b then _ else σ.blk b') = _ at hb'
  split at hb'
  ·injection hb' with hb'; cases hb'
  ·rename_i hne
   obtain ⟨g1, g2, g3⟩ := hH.own _ _ _ hb'
   exact ⟨g1, (Zef hne).trans g2, fun c hc => hg.valid (g3 c hc)⟩
 ·change (if b' = b then _ else σ.blk b') = _ at hb'
  split at hb'
  ·injection hb' with hb'; cases hb'
  ·rename_i hne
   obtain ⟨g1, cs2, g2, g3⟩ := hH.tail _ _ _ _ hb'
   exact ⟨g1, cs2, (Zef hne).trans g2, g3⟩
 ·change (if b' = b then _ else σ.blk b') = _ at hb'
  split at hb'
  ·rename_i hbb
   injection hb' with hb'
   injection hb' with hb'
   subst hb' hbb
   exact ⟨hu, o', (), ZlW hh, hi⟩
  ·rename_i hne
   obtain ⟨g1, a2, c2, g2, g3⟩ := hH.map _ _ hb'
   exact ⟨g1, a2, c2, (Zef hne).trans g2, g3⟩
theorem Zhn.ncells {o : Obj} {es : List (Value × Value)} (h : Zhn o es) : ∀ c t f, o ≠ .cells c t f := fun c t f e => by
 subst e
 exact h
theorem Zau.retell (hH : Zau w σ Z) {b : Nat} {es es' : List (Value × Value)} {o : Obj} (hb : σ.blk b = some (.map es)) (hh : w.heap[b]? = some o) (hi : Zhn o es') : Zau w (σ.set b (.map es')) Z /\ Grow w σ w (σ.set b (.map es')) := by
 have := hH.write_obj hb hh hi.ncells hi.ncells hi
 rwa [Zot hh] at this
theorem Zau.alloc_obj (h : Zau w σ Z) {o : Obj} {es : List (Value × Value)} (hi : Zhn o es) : Zau (w.alloc o) (σ.put w.heap.size (.map es)) Z := by
 have hg := Grow.alloc h o (.map es)
 refine ⟨fun b hu => ?_, fun b hz => ?_, fun b t' cs' hb => ?_, fun b t' k s hb => ?_, fun b es' hb => ?_⟩
 ·simp only [World.size_alloc]
  rcases hu with hu | rfl
  ·have := h.used _ hu; omega
  ·omega
 ·obtain ⟨h1, h2⟩ := h.z _ hz
  refine ⟨by simp only [World.size_alloc]; omega, ?_⟩
  have hne : b ≠ w.heap.size := by omega
  show (if b = w.heap.size then _ else σ.blk b) = none
  rw [if_neg hne]; exact h2
 ·change (if b = w.heap.size then some (Bk.map es) else σ.blk b) = _ at hb
  split at hb
  ·injection hb with hb; cases hb
  ·obtain ⟨h1, h2, h3⟩ := h.own _ _ _ hb
   exact ⟨.inl h1, (Below.heap_alloc _ _ _ (h.used _ h1)).trans h2, fun c hc => hg.valid (h3 c hc)⟩
 ·change (if b = w.heap.size then some (Bk.map es) else σ.blk b) = _ at hb
  split at hb
  ·injection hb with hb; cases hb
  ·obtain ⟨h1, cs', h2, h3⟩ := h.tail _ _ _ _ hb
   exact ⟨.inl h1, cs', (Below.heap_alloc _ _ _ (h.used _ h1)).trans h2, h3⟩
 ·change (if b = w.heap.size then some (Bk.map es) else σ.blk b) = _ at hb
  split at hb
  ·rename_i hbb
   injection hb with hb
   injection hb with hb
   subst hb hbb
   exact ⟨.inr rfl, o, (), heap_alloc_new _ _, hi⟩
  ·obtain ⟨h1, a, c, h2, h3⟩ := h.map _ _ hb
   exact ⟨.inl h1, a, c, (Below.heap_alloc _ _ _ (h.used _ h1)).trans h2, h3⟩
end
section
variable {P : Program} {ops : Array Oper} {env : Env} {σ τ : St} {K : Env -> St -> Prop} {d : Option Nat} {ty t kt et : TypeId} {pos : String} {af : Array Edge} {x y : Operand} {b ib : Nat} {l : List Oper}
theorem Zou {es : List (Value × Value)} (hx : ev env x = Zc2 b) (hb : σ.blk b = some (.map es)) (ht : Zhm es = 0) (t1 : P.underlying t = some (.map kt et))
 (h : ∀ arr c ib, Zhl arr c es -> ¬ σ.used ib -> σ.blk ib = none -> ib ≠ b -> ZbV P ops l (env.put d (ptr ib 0)) ((σ.set b (.map (Zfd arr c))).put ib (.map (Zh5 b c #[] c))) K) : ZbV P ops (⟨d, .range t x, ty, pos, af, none⟩ :: l) env σ K := by
 refine .inr (.inr (.inr ⟨rfl, fun ρ hρ w Z hH hV => ?_⟩))
 obtain ⟨hu, arr, c, hh, hM⟩ := hH.mapAt hb ht
 obtain ⟨g1, g2⟩ := hH.retell hb hh (es' := Zfd arr c) (.inr rfl)
 have g3 := g1.alloc_obj (o := .mapIter (some b) c #[] c) (es := Zh5 b c #[] c) rfl
 obtain ⟨f1, f2⟩ := g1.fresh
 have hne : w.heap.size ≠ b := fun e => by have := hH.used _ hu; omega
 have f2' : σ.blk w.heap.size = none := by
  change (if w.heap.size = b then _ else σ.blk w.heap.size) = none at f2
  rwa [if_neg hne] at f2
 have hρ' := hρ
 simp [Op.operands, hx, Zc2] at hρ'
 refine ⟨ptr w.heap.size 0, _, _, .inl ?_, h arr c _ hM f1 f2' hne, g3, by unfold Zap ptr; trivial, g2.trans (Grow.alloc g1 _ _)⟩
 simp [execOp, hρ', run_range_map w t kt et b arr c t1 hh, ptr]
theorem ZpD {arr : Array MapEntry} {c since last : Nat} {seen : Array Nat} {es : List (Value × Value)} (hx : ev env x = ptr ib 0) (hi : σ.blk ib = some (.map (Zh5 b since seen last))) (hb : σ.blk b = some (.map (Zfd arr c))) (hM : Zhl arr c es) (ht : Zhm es = 0) (hs : ∀ e ∈ arr.toList, e.born < since) (hl : since <= last)
 (h0 : (leftOf arr seen).size = 0 -> ZbV P ops l (env.put d (.tup [vT false])) (σ.set b (.map es)) K)
 (h1 : ∀ e ∈ (leftOf arr seen).toList, ZbV P ops l (env.put d (.tup [vT true, .raw e.key, .raw e.val])) (σ.set ib (.map (Zh5 b since (seen.push e.born) c))) K) : ZbV P ops (⟨d, .next x false, ty, pos, af, none⟩ :: l) env σ K := by
 refine .inr (.inr (.inr ⟨rfl, fun ρ hρ w Z hH hV => ?_⟩))
 obtain ⟨_, hh⟩ := hH.pinAt hb
 obtain ⟨_, hih⟩ := hH.itAt hi
 have hρ' := hρ
 simp [Op.operands, hx, ptr] at hρ'
 rcases run_next_at (P := P) w ty ib b since last seen arr c hih hh hs hl with ⟨q0, q1⟩ | ⟨e, he, w1, hw1, q1⟩
 ·obtain ⟨g1, g2⟩ := hH.retell hb hh (es' := es) (.inl ⟨ht, hM⟩)
  refine ⟨.tup [vT false], _, w, .inl ?_, h0 q0, g1, ?_, g2⟩
  ·simp [execOp, hρ', q1]
  ·unfold Zap
   exact Za3.iff.2 fun a ha => by rw [List.mem_singleton.1 ha]; exact ZaY _
 ·have hH1 : Zau w1 σ Z /\ Grow w σ w1 σ := by
   rcases hw1 with rfl | rfl
   ·exact ⟨hH, .refl _ _⟩
   ·have hG : Grow w σ w.drew σ := ⟨rfl, rfl, rfl, Nat.le_refl _, fun b hb hu => hu, fun b hb' hn => ⟨rfl, hn⟩, fun b t k s hb' ht => ⟨fun j v _ hv => hv, .inr ⟨t, k, s, ht, Nat.le_refl _⟩⟩, fun b hu => hu⟩
    exact ⟨⟨hH.used, hH.z, fun b t cs hb' => ⟨(hH.own b t cs hb').1, (hH.own b t cs hb').2.1, fun c hc => hG.valid ((hH.own b t cs hb').2.2 c hc)⟩, hH.tail, hH.map⟩, hG⟩
  have hih1 : w1.heap[ib]? = some (.mapIter (some b) since seen last) := by rcases hw1 with rfl | rfl <;> exact hih
  obtain ⟨g1, g2⟩ := hH1.1.write_obj (o' := .mapIter (some b) since (seen.push e.born) c) (es' := Zh5 b since (seen.push e.born) c) hi hih1 (fun _ _ _ q => by cases q) (fun _ _ _ q => by cases q) rfl
  refine ⟨.tup [vT true, .raw e.key, .raw e.val], _, _, .inl ?_, h1 e he, g1, ?_, hH1.2.trans g2⟩
  ·simp only [execOp, hρ']
   rw [Sem.run_bind, q1]
   have : setBlock w1 ib (.mapIter (some b) since (seen.push e.born) c) = ZkI w1 ib (.mapIter (some b) since (seen.push e.born) c) := rfl
   rw [this]
   rfl
  ·unfold Zap
   exact Za3.iff.2 fun a ha => by
    simp only [List.mem_cons, List.not_mem_nil, or_false] at ha
    rcases ha with rfl | rfl | rfl <;> exact ZaY _
theorem Zov {arr : Array MapEntry} {c since : Nat} {seen : Array Nat} {e : MapEntry} {kv vv : AV} (hx : ev env x = ptr ib 0) (hi : σ.blk ib = some (.map (Zh5 b since (seen.push e.born) c))) (hb : σ.blk b = some (.map (Zfd arr c))) (he : e ∈ arr.toList) (hn : (arr.toList.map (·.born)).Nodup) (hk : kv.val = e.key) (hv : vv.val = e.val) (hkv : ∀ w B, Zap w B kv) (hvv : ∀ w B, Zap w B vv)
 (h : ZbV P ops l (env.put d (.tup [kv, vv])) σ K) : ZbV P ops (⟨d, .entry x, ty, pos, af, none⟩ :: l) env σ K := by
 refine .inr (.inr (.inr ⟨rfl, fun ρ hρ w Z hH hV => ?_⟩))
 obtain ⟨_, hh⟩ := hH.pinAt hb
 obtain ⟨_, hih⟩ := hH.itAt hi
 have hρ' := hρ
 simp [Op.operands, hx, ptr] at hρ'
 refine ⟨.tup [kv, vv], σ, w, .inl ?_, h, hH, ?_, .refl _ _⟩
 ·simp only [execOp, hρ']
  rw [Sem.run_bind, run_entry_at w ib b since seen arr c e hih hh he hn]
  simp [hk, hv]
 ·unfold Zap
  exact Za3.iff.2 fun a ha => by
   simp only [List.mem_cons, List.not_mem_nil, or_false] at ha
   rcases ha with rfl | rfl
   ·exact hkv _ _
   ·exact hvv _ _
theorem Znf {es : List (Value × Value)} (hx : ev env x = Zc2 b) (hb : σ.blk b = some (.map es)) (ht : Zhm es = 0) (t1 : P.underlying t = some (.map kt et))
 (h : ∀ arr c ib τ, Zhl arr c es -> ¬ σ.used ib -> σ.blk ib = none -> ib ≠ b -> τ.blk b = some (.map (Zfd arr c)) -> τ.blk ib = some (.map (Zh5 b c #[] c)) -> τ.used ib -> But (fun x => x = b) σ τ -> ZbV P ops l (env.put d (ptr ib 0)) τ K) : ZbV P ops (⟨d, .range t x, ty, pos, af, none⟩ :: l) env σ K := by
 refine Zou hx hb ht t1 fun arr c ib hM h1 h2 h3 => h arr c ib _ hM h1 h2 h3 ?_ (Za7 _ _ _) (.inr rfl) ⟨fun g k hg hk => ?_, fun g hg => .inl hg⟩
 ·show (if b = ib then _ else if b = b then _ else σ.blk b) = _
  rw [if_neg (fun e => h3 e.symm), if_pos rfl]
 ·show (if g = ib then _ else if g = b then _ else σ.blk g) = _
  rw [if_neg (fun e => by rw [e, h2] at hk; cases hk), if_neg hg]
  exact hk
theorem Zow {arr : Array MapEntry} {c since last : Nat} {seen : Array Nat} {es : List (Value × Value)} (hx : ev env x = ptr ib 0) (hi : σ.blk ib = some (.map (Zh5 b since seen last))) (hb : σ.blk b = some (.map (Zfd arr c))) (hM : Zhl arr c es) (ht : Zhm es = 0) (hs : ∀ e ∈ arr.toList, e.born < since) (hl : since <= last)
 (h0 : (leftOf arr seen).size = 0 -> ∀ τ, τ.blk b = some (.map es) -> But (fun x => x = b) σ τ -> ZbV P ops l (env.put d (.tup [vT false])) τ K)
 (h1 : ∀ e ∈ (leftOf arr seen).toList, ∀ τ, τ.blk ib = some (.map (Zh5 b since (seen.push e.born) c)) -> But (fun x => x = ib) σ τ -> ZbV P ops l (env.put d (.tup [vT true, .raw e.key, .raw e.val])) τ K) : ZbV P ops (⟨d, .next x false, ty, pos, af, none⟩ :: l) env σ K := by
 have hset : ∀ (g : Nat) (k : Bk), (σ.set g k).blk g = some k /\ But (fun x => x = g) σ (σ.set g k) := fun g k => by
  refine ⟨?_, fun u z hu hz => ?_, fun u hu => hu⟩
  ·show (if g = g then _ else σ.blk g) = _
   rw [if_pos rfl]
  ·show (if u = g then _ else σ.blk u) = _
   rw [if_neg hu]
   exact hz
 exact ZpD hx hi hb hM ht hs hl (fun q => h0 q _ (hset _ _).1 (hset _ _).2) fun e he => h1 e he _ (hset _ _).1 (hset _ _).2
end
theorem Zb8 {α β : Type} {f : α -> β} : ∀ {l : List α}, (l.map f).Nodup -> l.Nodup
 | [], _ => .nil
 | a :: l, h => by
  rw [List.map_cons, List.nodup_cons] at h
  exact List.nodup_cons.2 ⟨fun ha => h.1 (List.mem_map.2 ⟨a, ha, rfl⟩), Zb8 h.2⟩
structure Zng (arr : Array MapEntry) (seen : Array Nat) (D : List MapEntry) : Prop where
 sub : ∀ e ∈ D, e ∈ arr.toList
 at_ : seen.toList = D.map (·.born)
 nd : (D.map (·.born)).Nodup
theorem Zng.nil (arr : Array MapEntry) : Zng arr #[] [] := ⟨(fun e he => by cases he), rfl, by simp⟩
theorem Zng.push {arr : Array MapEntry} {seen : Array Nat} {D : List MapEntry} (h : Zng arr seen D) {e : MapEntry} (he : e ∈ (leftOf arr seen).toList) : Zng arr (seen.push e.born) (D ++ [e]) := by
 obtain ⟨m1, m2⟩ := mem_left he
 refine ⟨fun x hx => ?_, by rw [Array.toList_push, h.at_, List.map_append]; rfl, ?_⟩
 ·rcases List.mem_append.1 hx with hx | hx
  ·exact h.sub x hx
  ·rw [List.mem_singleton.1 hx]; exact m1
 ·rw [List.map_append, List.nodup_append]
  refine ⟨h.nd, by simp, fun a ha b hb e2 => ?_⟩
  simp at hb
  subst hb e2
  rw [<- h.at_] at ha
  have : seen.contains e.born = true := by
   rw [Array.contains_iff_mem]
   exact Array.mem_def.2 ha
  rw [this] at m2
  cases m2
theorem Zng.perm {arr : Array MapEntry} {seen : Array Nat} {D : List MapEntry} (h : Zng arr seen D) (hn : (arr.toList.map (·.born)).Nodup) (h0 : (leftOf arr seen).size = 0) : D.Perm arr.toList := by
 have n1 : D.Nodup := Zb8 h.nd
 have n2 : arr.toList.Nodup := Zb8 hn
 refine (List.perm_ext_iff_of_nodup n1 n2).2 fun e => ⟨h.sub e, fun he => ?_⟩
 have hc : seen.contains e.born = true := by
  cases hq : seen.contains e.born with
  | true => rfl
  | false =>
   exfalso
   have : e ∈ leftOf arr seen := by
    unfold leftOf
    rw [Array.mem_filter]
    exact ⟨Array.mem_toList_iff.1 he, by rw [hq]; rfl⟩
   have := Array.size_pos_of_mem this
   omega
 have hm : e.born ∈ D.map (·.born) := by
  rw [<- h.at_]
  rw [Array.contains_iff_mem] at hc
  exact Array.mem_def.1 hc
 obtain ⟨x, hx, hxe⟩ := List.mem_map.1 hm
 have : x = e := by
  have hx2 := h.sub x hx
  clear hm n1 n2 hc h h0 hx
  generalize arr.toList = L at hn he hx2
  induction L with
  | nil => cases he
  | cons a L ih =>
   rw [List.map_cons, List.nodup_cons] at hn
   rcases List.mem_cons.1 he with e1 | h1 <;> rcases List.mem_cons.1 hx2 with e2 | h2
   ·rw [e1, e2]
   ·exact absurd (List.mem_map.2 ⟨x, h2, by rw [hxe, e1]⟩) hn.1
   ·exact absurd (List.mem_map.2 ⟨e, h1, by rw [<- hxe, e2]⟩) hn.1
   ·exact ih hn.2 h1 h2
 rw [<- this]; exact hx
end Go.Proofs.Ytinpiaibhjmfaaa
namespace Go.Proofs.Ytinpiaibhjmfaaa
open Go.RowKit
set_option linter.unusedSimpArgs false
set_option maxRecDepth 100000
set_option linter.unusedVariables false
def ZeD (es : List (Nat × Nat)) : List (Value × Value) := es.map fun p => (pV p.1, pV p.2)
theorem ZgG : ∀ es, Zhm (ZeD es) = 0
 | [] => rfl
 | _ :: _ => rfl
def ZfU : List (Nat × Nat) -> Nat -> Option Nat
 | [], _ => none
 | p :: es, k => if k = p.1 then some p.2 else ZfU es k
def ZmH (k : Nat) : List (Nat × Nat) -> Nat -> Option (Nat × Value)
 | [], _ => none
 | p :: es, i => if k = p.1 then some (i, pV p.2) else ZmH k es (i + 1)
theorem ZhH (k : Nat) : ∀ es i, (ZmH k es i).map (·.2) = (ZfU es k).map pV
 | [], i => rfl
 | p :: es, i => by
  unfold ZmH ZfU
  by_cases h : k = p.1
  ·rw [if_pos h, if_pos h]; rfl
  ·rw [if_neg h, if_neg h]; exact ZhH k es (i + 1)
theorem ZiH {k : Nat} : ∀ {es : List (Nat × Nat)}, ZfU es k = none ↔ ∀ p ∈ es, p.1 ≠ k
 | [] => by simp [ZfU]
 | p :: es => by
  unfold ZfU
  by_cases h : k = p.1
  ·rw [if_pos h]
   simp [h]
  ·rw [if_neg h, ZiH (es := es)]
   simp only [List.mem_cons, forall_eq_or_imp]
   exact ⟨fun q => ⟨fun e => h e.symm, q⟩, fun q => q.2⟩
theorem ZhI {k n : Nat} : ∀ {es : List (Nat × Nat)}, (es.map (·.1)).Nodup -> (k, n) ∈ es -> ZfU es k = some n
 | p :: es, hn, h => by
  rw [List.map_cons, List.nodup_cons] at hn
  unfold ZfU
  rcases List.mem_cons.1 h with rfl | h
  ·rw [if_pos rfl]
  ·rw [if_neg (fun e => hn.1 (List.mem_map.2 ⟨_, h, e⟩))]
   exact ZhI hn.2 h
section
variable {P : Program}
theorem ZlX {kt : TypeId} {k m : Nat} {w : World} (ht : P.underlying kt = some (.pointer (P.pointee kt))) (hs : ZaO P (P.pointee kt) = some (m + 1)) {ck : Array Value} {tk : TypeId} (hk : w.heap[k]? = some (.cells ck tk (0, 0))) :
 ∀ (es : List (Nat × Nat)) (l : List MapEntry) (i : Nat), l.map (fun e : MapEntry => (e.key, e.val)) = ZeD es -> (∀ p ∈ es, ∃ c t, w.heap[p.1]? = some (.cells c t (0, 0))) -> (Instr.findAsking kt (pV k) l i).run P w = .ok (ZmH k es i) w
 | [], [], i, _, _ => rfl
 | [], e :: l, i, h, _ => by simp [ZeD] at h
 | p :: es, [], i, h, _ => by simp [ZeD] at h
 | p :: es, e :: l, i, h, ho => by
  unfold ZeD at h
  simp only [List.map_cons, List.cons.injEq] at h
  obtain ⟨h1, h2⟩ := h
  injection h1 with h1 h3
  obtain ⟨c, t, hp⟩ := ho p List.mem_cons_self
  unfold Instr.findAsking ZmH
  rw [Sem.run_bind, h1, Zit ht hs w hk hp]
  dsimp only [Result.andThen]
  by_cases hkp : k = p.1
  ·rw [decide_eq_true hkp, if_pos hkp, h3]
   rfl
  ·rw [decide_eq_false hkp, if_neg hkp]
   exact ZlX ht hs hk es l (i + 1) h2 fun q hq => ho q (List.mem_cons_of_mem _ hq)
theorem Zj2 {kt : TypeId} {k m : Nat} {w : World} (ht : P.underlying kt = some (.pointer (P.pointee kt))) (hs : ZaO P (P.pointee kt) = some (m + 1)) {ck : Array Value} {tk : TypeId} (hk : w.heap[k]? = some (.cells ck tk (0, 0))) {es : List (Nat × Nat)} {l : List MapEntry} (h : l.map (fun e : MapEntry => (e.key, e.val)) = ZeD es) (ho : ∀ p ∈ es, ∃ c t, w.heap[p.1]? = some (.cells c t (0, 0))) : (Instr.findKey kt (pV k) l).run P w = .ok (ZmH k es 0) w := by
 have ha := ZlX ht hs hk es l 0 h ho
 unfold Instr.findKey
 rw [Sem.run_bind, run_underlying ht]
 dsimp only [Result.andThen]
 cases l with
 | nil =>
  cases es with
  | nil => rfl
  | cons p es => simp [ZeD] at h
 | cons e l =>
  cases es with
  | nil => simp [ZeD] at h
  | cons p es =>
   have hn : Instr.findNow (.pointer (P.pointee kt)) (pV k) (e :: l) 0 = none := by
    unfold Instr.findNow Instr.sameNow
    rfl
   rw [hn]
   exact ha
theorem ZiI {kt : TypeId} {w : World} {k : Nat} (ht : P.underlying kt = some (.pointer (P.pointee kt))) (e : Bool) : (Instr.checkKey e 10000 kt (pV k)).run P w = .ok () w := by
 rw [show (10000 : Nat) = 9999 + 1 from rfl]
 unfold Instr.checkKey
 rw [Sem.run_bind, run_underlying ht]
 rfl
variable {ops : Array Oper} {env : Env} {σ τ : St} {K : Env -> St -> Prop} {d : Option Nat} {ty ty' t kt et : TypeId} {pos : String} {af : Array Edge} {x y z : Operand} {b k n m : Nat} {es : List (Nat × Nat)}
theorem ZiJ {cs : List AV} {tk : TypeId} (hx : ev env x = Zc2 b) (hy : ev env y = ptr k 0) (hb : σ.blk b = some (.map (ZeD es))) (t1 : P.underlying t = some (.map kt et)) (ht : P.underlying kt = some (.pointer (P.pointee kt))) (hs : ZaO P (P.pointee kt) = some (m + 1)) (hk : σ.blk k = some (.own tk cs)) (ho : ∀ p ∈ es, ∃ t c, σ.blk p.1 = some (.own t c)) (hg : ZfU es k = some n)
 (h : K (env.put d (ptr n 0)) σ) : aOp P ops ⟨d, .lookup t x y false, ty, pos, af, none⟩ env σ K := by
 rw [ZaQ rfl]
 have hvs : ((.lookup t x y false : Op).operands.toList.map (ev env)) = [Zc2 b, ptr k 0] := by simp [Op.operands, hx, hy]
 show Zc8 P _ (Op.operands _ |>.toList.map (ev env)) σ _
 rw [hvs]
 refine .inr ⟨rfl, fun ρv hρ w Z hH hV => ?_⟩
 obtain ⟨_, arr, c, hh, harr, _⟩ := hH.mapAt hb (ZgG _)
 have hρ' := hρ
 simp [Op.operands, Zc2, ptr] at hρ'
 refine ⟨ptr n 0, σ, w, .inl ?_, h, hH, by unfold Zap ptr; trivial, .refl _ _⟩
 have hf := Zj2 (P := P) (w := w) ht hs (hH.own _ _ _ hk).2.1 harr fun p hp => by
  obtain ⟨t, c, q⟩ := ho p hp
  exact ⟨_, _, (hH.own _ _ _ q).2.1⟩
 have hpf : ∃ i, ZmH k es 0 = some (i, pV n) := by
  have := ZhH k es 0
  rw [hg] at this
  cases hq : ZmH k es 0 with
  | none => rw [hq] at this; cases this
  | some r =>
   rw [hq] at this
   obtain ⟨i, v⟩ := r
   injection this with this
   have this : v = pV n := this
   exact ⟨i, by rw [this]⟩
 obtain ⟨i, hpf⟩ := hpf
 rw [hpf] at hf
 simp only [execOp, hρ'.1, hρ'.2]
 rw [Sem.run_bind]
 have hl : (Instr.lookup t (.map (some b)) (pV k) false).run P w = .ok (pV n) w := by
  unfold Instr.lookup
  rw [Sem.run_bind, run_underlying t1]
  dsimp only [Result.andThen]
  rw [Sem.run_bind, Zim hh]
  dsimp only [Result.andThen]
  rw [Sem.run_bind, Sem.run_pure]
  dsimp only [Result.andThen]
  rw [Sem.run_bind, ZiI ht]
  dsimp only [Result.andThen]
  rw [Sem.run_bind, hf]
  rfl
 rw [hl]
 rfl
theorem ZlY {cs : List AV} {tk : TypeId} (hx : ev env x = Zc2 b) (hy : ev env y = ptr k 0) (hz : ev env z = ptr n 0) (hb : σ.blk b = some (.map (ZeD es))) (t1 : P.underlying t = some (.map kt et)) (ht : P.underlying kt = some (.pointer (P.pointee kt))) (hs : ZaO P (P.pointee kt) = some (m + 1)) (hk : σ.blk k = some (.own tk cs)) (ho : ∀ p ∈ es, ∃ t c, σ.blk p.1 = some (.own t c)) (hg : ∀ p ∈ es, p.1 ≠ k)
 (h : ∀ τ, τ.blk b = some (.map (ZeD (es ++ [(k, n)]))) -> But (fun c => c = b) σ τ -> K (env.put d (.raw undef)) τ) : aOp P ops ⟨d, .mapUpdate t x y z, ty, pos, af, none⟩ env σ K := by
 rw [ZaQ rfl]
 have hvs : ((.mapUpdate t x y z : Op).operands.toList.map (ev env)) = [Zc2 b, ptr k 0, ptr n 0] := by simp [Op.operands, hx, hy, hz]
 show Zc8 P _ (Op.operands _ |>.toList.map (ev env)) σ _
 rw [hvs]
 refine .inr ⟨rfl, fun ρv hρ w Z hH hV => ?_⟩
 obtain ⟨_, arr, c, hh, harr, hfr1, hfr2⟩ := hH.mapAt hb (ZgG _)
 have hρ' := hρ
 simp [Op.operands, Zc2, ptr] at hρ'
 obtain ⟨r1, r2, r3⟩ := hρ'
 have hf := Zj2 (P := P) (w := w) ht hs (hH.own _ _ _ hk).2.1 harr fun p hp => by
  obtain ⟨t, c, q⟩ := ho p hp
  exact ⟨_, _, (hH.own _ _ _ q).2.1⟩
 have hpf : ZmH k es 0 = none := by
  have := ZhH k es 0
  rw [ZiH.2 hg] at this
  cases hq : ZmH k es 0 with
  | none => rfl
  | some r => rw [hq] at this; cases this
 rw [hpf] at hf
 have harr2 : (arr.push { key := pV k, val := pV n, born := c }).toList.map (fun e : MapEntry => (e.key, e.val)) = ZeD (es ++ [(k, n)]) := by
  rw [Array.toList_push, List.map_append, harr]
  simp [ZeD]
 obtain ⟨q1, q2⟩ := hH.write_map (a' := arr.push { key := pV k, val := pV n, born := c }) (c' := c + 1) hb hh (Zik hfr1 hfr2) (by rw [harr2]; exact ZgG _)
 rw [harr2] at q1 q2
 refine ⟨.raw undef, _, Zc4 w b (arr.push { key := pV k, val := pV n, born := c }) (c + 1), .inr ⟨?_, rfl⟩, h _ ?_ ?_, q1, ZaY _, q2⟩
 ·have hl : (Instr.mapUpdate t (.map (some b)) (pV k) (pV n)).run P w = .ok () (Zc4 w b (arr.push { key := pV k, val := pV n, born := c }) (c + 1)) := by
   unfold Instr.mapUpdate
   rw [Sem.run_bind, run_underlying t1]
   dsimp only [Result.andThen]
   rw [Sem.run_bind, Zim hh]
   dsimp only [Result.andThen]
   rw [Sem.run_bind, ZiI ht]
   dsimp only [Result.andThen]
   rw [Sem.run_bind, hf]
   dsimp only [Result.andThen]
   exact Zin hh
  simp [execOp, r1, r2, r3, hl]
 ·show (if b = b then _ else σ.blk b) = _
  rw [if_pos rfl]
 ·exact ⟨fun c' k' hc hk => by
   show (if c' = b then _ else σ.blk c') = _
   rw [if_neg hc]; exact hk, fun c' hc => hc⟩
theorem ZkJ {l : List MapEntry} {j c : Nat} (h1 : ∀ n ∈ l.map fun e : MapEntry => e.born, n < c) (h2 : (l.map fun e : MapEntry => e.born).Nodup) : (∀ n ∈ (l.eraseIdx j).map fun e : MapEntry => e.born, n < c) /\ ((l.eraseIdx j).map fun e : MapEntry => e.born).Nodup := by
 have hs : ((l.eraseIdx j).map fun e : MapEntry => e.born).Sublist (l.map fun e : MapEntry => e.born) := (List.eraseIdx_sublist l j).map _
 exact ⟨fun n hn => h1 n (hs.subset hn), hs.nodup h2⟩
theorem ZiK {b : Nat} {es : Dir} {k : List UInt8} (hx : ev env x = Zc2 b) (hy : ev env y = .raw (sV k)) (hb : σ.blk b = some (.map (Zea es))) (t1 : P.underlying t = some (.map kt et)) (t2 : P.underlying kt = some .string)
 (h : ∀ τ, τ.blk b = some (.map (Zea (Zls es k))) -> But (fun c => c = b) σ τ -> K (env.put d (.raw (.tuple #[]))) τ) : aOp P ops ⟨d, .call ⟨.builtin .delete, #[x, y], #[t, ty']⟩, ty, pos, af, none⟩ env σ K := by
 rw [ZaQ rfl]
 have hvs : ((.call ⟨.builtin .delete, #[x, y], #[t, ty']⟩ : Op).operands.toList.map (ev env)) = [Zc2 b, .raw (sV k)] := by simp [Op.operands, Call.operands, hx, hy]
 show Zc8 P _ (Op.operands _ |>.toList.map (ev env)) σ _
 rw [hvs]
 refine .inr ⟨rfl, fun ρv hρ w Z hH hV => ?_⟩
 obtain ⟨_, arr, c, hh, harr, hfr1, hfr2⟩ := hH.mapAt hb (Zds _)
 have hρ' := hρ
 simp [Op.operands, Call.operands, Zc2] at hρ'
 have fin : ∀ (arr' : Array MapEntry), ((∀ n ∈ arr'.toList.map fun e : MapEntry => e.born, n < c) /\ (arr'.toList.map fun e : MapEntry => e.born).Nodup) -> arr'.toList.map (fun e : MapEntry => (e.key, e.val)) = Zea (Zls es k) -> (Builtin.delete_ #[t, ty'] ty #[.map (some b), sV k]).run P w = .ok (.tuple #[]) (Zc4 w b arr' c) ->
  ∃ r σ' w', ((execOp ρv ⟨d, .call ⟨.builtin .delete, #[x, y], #[t, ty']⟩, ty, pos, af, none⟩).run P w = .ok (.value r.val) w' \/ (execOp ρv ⟨d, .call ⟨.builtin .delete, #[x, y], #[t, ty']⟩, ty, pos, af, none⟩).run P w = .ok .skip w' /\ r = .raw undef) /\ K (env.put d r) σ' /\ Zau w' σ' Z /\ Zap w' (σ'.free Z) r /\ Grow w σ w' σ' := by
  intro arr' h0 h1 h2
  obtain ⟨q1, q2⟩ := hH.write_map (a' := arr') (c' := c) hb hh h0 (by rw [h1]; exact Zds _)
  rw [h1] at q1 q2
  refine ⟨.raw (.tuple #[]), _, Zc4 w b arr' c, .inl ?_, h _ ?_ ?_, q1, ZaY _, q2⟩
  ·simp [execOp, resolve, invoke, builtin, hρ', h2]
  ·show (if b = b then _ else σ.blk b) = _
   rw [if_pos rfl]
  ·exact ⟨fun c' k' hc hk => by
    show (if c' = b then _ else σ.blk c') = _
    rw [if_neg hc]; exact hk, fun c' hc => hc⟩
 have pre : ∀ r, ZmF k es 0 = r -> (Builtin.delete_ #[t, ty'] ty #[.map (some b), sV k]).run P w = (match r with
  | some (j, _) => (do setObj b (.map (arr.eraseIdxIfInBounds j) c); pure (.tuple #[]) : Sem Value)
  | none => (do setObj b (.map arr c); pure (.tuple #[]) : Sem Value)).run P w := by
  intro r hr
  unfold Builtin.delete_
  simp only [List.getElem?_toArray, List.getElem?_cons_zero, List.getElem?_cons_succ]
  rw [Sem.run_bind, run_underlying t1]
  dsimp only [Result.andThen]
  rw [Sem.run_bind, Zim hh]
  dsimp only [Result.andThen]
  rw [Sem.run_bind, Zgy t2]
  dsimp only [Result.andThen]
  rw [Sem.run_bind, Zjl t2 harr, hr]
  dsimp only [Result.andThen]
  cases r <;> rfl
 rcases Zfl (k := k) 0 harr with ⟨m1, m2, _, m4⟩ | ⟨j, n, m1, m2, _, _, m5⟩
 ·refine fin arr ⟨hfr1, hfr2⟩ (by rw [harr, m4]) ?_
  rw [pre _ m2, Sem.run_bind, Zin hh]
  rfl
 ·rw [Nat.zero_add] at m2
  refine fin (arr.eraseIdxIfInBounds j) ?_ ?_ ?_
  ·rw [Array.toList_eraseIdxIfInBounds]
   exact ZkJ hfr1 hfr2
  ·rw [Array.toList_eraseIdxIfInBounds]
   exact m5
  ·rw [pre _ m2, Sem.run_bind, Zin hh]
   rfl
end
end Go.Proofs.Ytinpiaibhjmfaaa
namespace Go.Proofs.Ytinpiaibhjmfaaa
open Go.RowKit
set_option maxRecDepth 100000
set_option linter.unusedVariables false
set_option linter.unusedSimpArgs false
theorem Zox : Zek Try.prog 33 = some false := by kernel_rfl
theorem ZhJ : ZaO Try.prog 33 = some 1 := by kernel_rfl
theorem ZlZ : ZbL Try.prog 33 = some (.int .i64 0) := by kernel_rfl
theorem ZhK : ZbL Try.prog 9 = some (.string ⟨#[]⟩) := by kernel_rfl
abbrev Zdt (k : List UInt8) (fs : List Fl) : List Fl := fs.filter fun f => !decide (f.nm = k)
theorem ZiL {k : List UInt8} {fs : List Fl} (h : ∀ f ∈ fs, f.nm ≠ k) : Zdt k fs = fs := List.filter_eq_self.2 fun f hf => by simp [h f hf]
theorem Zbx {k : List UInt8} {fs : List Fl} {f : Fl} : f ∈ Zdt k fs ↔ f ∈ fs /\ f.nm ≠ k := by simp [Zdt]
theorem ZhL {k : List UInt8} : ∀ {fs : List Fl}, (fs.map (·.nm)).Nodup -> Zls (Zbc fs) k = Zbc (Zdt k fs)
 | [], _ => rfl
 | f :: fs, h => by
  rw [List.map_cons, List.nodup_cons] at h
  show (if k = f.nm then Zbc fs else (f.nm, f.b) :: Zls (Zbc fs) k) = _
  by_cases hk : k = f.nm
  ·rw [if_pos hk]
   have : Zdt k (f :: fs) = Zdt k fs := by simp [Zdt, hk]
   rw [this, ZiL fun g hg e => h.1 (List.mem_map.2 ⟨g, hg, by rw [e, hk]⟩)]
  ·rw [if_neg hk, ZhL h.2]
   have : Zdt k (f :: fs) = f :: Zdt k fs := by simp [Zdt, Ne.symm hk]
   rw [this]
   rfl
section
variable {σ τ : St} {bb mb : Nat} {S : Nat -> Prop} {fs : List Fl} {pcs : List (Nat × Nat)} {size : Int} {pv : AV}
theorem Zde {α β : Type} {f : α -> β} {l m : List α} (h : (l.map f).Nodup) (hs : m.Sublist l) : (m.map f).Nodup := (hs.map f).nodup h
theorem DAt.delF (h : DAt σ bb S fs pcs size mb pv) {k : List UInt8} (hp : ∀ p ∈ pcs, ∃ f ∈ Zdt k fs, f.b = p.1) (k4 : But (fun c => c = mb) σ τ) (hm : τ.blk mb = some (.map (Zea (Zls (Zbc fs) k)))) : DAt τ bb S (Zdt k fs) pcs size mb pv := by
 obtain ⟨o1, o2, o3, o4⟩ := h.own
 have hH : ∀ {e sz n : Nat} {u : AV} {cs : List AV}, Hd σ e sz u n cs -> Hd τ e sz u n cs := fun {e sz n u cs} hu => hu.but k4 fun c hc hq => by
  obtain ⟨all, hall⟩ := hu.blk hc
  exact Zcq hall h.map hq
 have hsub : (Zdt k fs).Sublist fs := List.filter_sublist
 refine ⟨k4.keep _ _ (fun q => Zcq h.obj h.map q) h.obj, k4.used _ h.used, by rw [hm, ZhL h.nn], k4.used _ h.umap, fun f hf => ?_, Zde h.nd hsub, Zde h.nn hsub, fun f hf g hg => h.far f (hsub.subset hf) g (hsub.subset hg), hH h.pc, ⟨o1, o2, fun f hf => o3 f (hsub.subset hf), o4⟩, hp⟩
 obtain ⟨q1, q2, q3⟩ := h.file f (hsub.subset hf)
 exact ⟨k4.keep _ _ (fun q => Zcq q1 h.map q) q1, k4.used _ q2, hH q3⟩
theorem DAt.uniqN (h : DAt σ bb S fs pcs size mb pv) {f g : Fl} (hf : f ∈ fs) (hg : g ∈ fs) (e : f.nm = g.nm) : f = g := by
 have hnd := h.nn
 clear h
 induction fs with
 | nil => cases hf
 | cons a l ih =>
  rw [List.map_cons, List.nodup_cons] at hnd
  rcases List.mem_cons.1 hf with e1 | h1 <;> rcases List.mem_cons.1 hg with e2 | h2
  ·rw [e1, e2]
  ·exact absurd (List.mem_map.2 ⟨g, h2, by rw [<- e, e1]⟩) hnd.1
  ·exact absurd (List.mem_map.2 ⟨f, h1, by rw [e, e2]⟩) hnd.1
  ·exact ih h1 h2 hnd.2
theorem DAt.movF (h : DAt σ bb S fs pcs size mb pv) {f0 : Fl} (hf0 : f0 ∈ fs) {to : List UInt8} (hto : ∀ f ∈ fs, f.nm ≠ to) (k4 : But (fun c => c = mb) σ τ) (hm : τ.blk mb = some (.map (Zea (ZmU (Zls (Zbc fs) f0.nm) to f0.b)))) : DAt τ bb S (Zdt f0.nm fs ++ [⟨to, f0.b, f0.v, f0.d⟩]) pcs size mb pv := by
 obtain ⟨o1, o2, o3, o4⟩ := h.own
 have hH : ∀ {e sz n : Nat} {u : AV} {cs : List AV}, Hd σ e sz u n cs -> Hd τ e sz u n cs := fun {e sz n u cs} hu => hu.but k4 fun c hc hq => by
  obtain ⟨all, hall⟩ := hu.blk hc
  exact Zcq hall h.map hq
 have hsub : (Zdt f0.nm fs).Sublist fs := List.filter_sublist
 have hnb : ∀ f ∈ Zdt f0.nm fs, f.b ≠ f0.b := fun f hf e => (Zbx.1 hf).2 (by rw [h.uniq (Zbx.1 hf).1 hf0 e])
 have hfile : ∀ f ∈ fs, τ.blk f.b = some (.own 78 [f.v]) /\ τ.used f.b /\ Hd τ 5 1 f.v f.d.length (bys f.d) := fun f hf => by
  obtain ⟨q1, q2, q3⟩ := h.file f hf
  exact ⟨k4.keep _ _ (fun q => Zcq q1 h.map q) q1, k4.used _ q2, hH q3⟩
 refine ⟨k4.keep _ _ (fun q => Zcq h.obj h.map q) h.obj, k4.used _ h.used, ?_, k4.used _ h.umap, fun f hf => ?_, ?_, ?_, fun f hf g hg x hx hy => ?_, hH h.pc, ⟨o1, o2, fun f hf => ?_, o4⟩, fun p hp => ?_⟩
 ·rw [hm, ZhL h.nn, Zhu _ fun f hf => hto f (hsub.subset hf)]
  unfold Zbc
  rw [List.map_append]
  rfl
 ·rcases List.mem_append.1 hf with hf | hf
  ·exact hfile f (hsub.subset hf)
  ·rw [List.mem_singleton.1 hf]
   exact hfile f0 hf0
 ·rw [List.map_append, List.nodup_append]
  refine ⟨Zde h.nd hsub, by simp, fun a ha b hb e => ?_⟩
  obtain ⟨f, hf, rfl⟩ := List.mem_map.1 ha
  simp at hb
  exact hnb f hf (e.trans hb)
 ·rw [List.map_append, List.nodup_append]
  refine ⟨Zde h.nn hsub, by simp, fun a ha b hb e => ?_⟩
  obtain ⟨f, hf, rfl⟩ := List.mem_map.1 ha
  simp at hb
  exact hto f (hsub.subset hf) (e.trans hb)
 ·rcases List.mem_append.1 hf with hf | hf <;> rcases List.mem_append.1 hg with hg | hg
  ·exact h.far f (hsub.subset hf) g (hsub.subset hg) x hx hy
  ·rw [List.mem_singleton.1 hg] at hy ⊢
   exact h.far f (hsub.subset hf) f0 hf0 x hx hy
  ·rw [List.mem_singleton.1 hf] at hx ⊢
   exact h.far f0 hf0 g (hsub.subset hg) x hx hy
  ·rw [List.mem_singleton.1 hf, List.mem_singleton.1 hg]
 ·rcases List.mem_append.1 hf with hf | hf
  ·exact o3 f (hsub.subset hf)
  ·rw [List.mem_singleton.1 hf]
   exact o3 f0 hf0
 ·obtain ⟨f, hf, e⟩ := h.inn p hp
  by_cases hn : f.nm = f0.nm
  ·have : f = f0 := h.uniqN hf hf0 hn
   exact ⟨_, List.mem_append_right _ List.mem_cons_self, by rw [<- e, this]⟩
  ·exact ⟨f, List.mem_append_left _ (Zbx.2 ⟨hf, hn⟩), e⟩
end
section
variable {σ : St} {bb mb : Nat} {S : Nat -> Prop} {fs : List Fl} {pcs : List (Nat × Nat)} {size : Int} {pv : AV} {K : AV -> St -> Prop}
theorem Zl0 (h : DAt σ bb S fs pcs size mb pv) (hl : pcs.length <= 1000000000) {f0 : Fl} (hf0 : f0 ∈ fs) (hK : ∀ τ pv', DAt τ bb S (Zdt f0.nm fs) (pcs.filter fun p => !decide (p.1 = f0.b)) size mb pv' -> But S σ τ -> K (.tup []) τ) : Zat Try.prog 63 [ptr bb 0, .raw (sV f0.nm), ptr f0.b 0] σ K := by
 refine Zam Zas Try.func63 rfl rfl rfl (Nat.le_of_ble_eq_true rfl) ?_
 refine ZaL 0 1 2 (v0 := ptr bb 0) (v1 := .raw (sV f0.nm)) (v2 := ptr f0.b 0) rfl rfl rfl ?_
 intro e he
 repeat refine Zac ?_
 first|refine Zaa ?_|refine Zad ?_
 refine Zab (Zae rfl he.1 ?_)
 refine Zab ?_
 refine Zak (v := ptr bb 0) rfl rfl ?_
 refine Zab ?_
 refine Zag (b := bb) (o := 0) rfl Zbn rfl ?_
 refine Zab (Zae rfl he.2.2 ?_)
 refine Zab ?_
 refine Zao (vs := [ptr bb 0, ptr f0.b 0]) (by simp only [List.map_cons, List.map_nil, EV,Nat.reduceEqDiff,↓reduceIte,he];try rfl) ?_
 refine ZlR h hl hf0 fun τ pv' h1 hB1 => ?_
 refine Zaf ?_
 apply ZaK 0 1
 iterate 2 ·simp only [EV,Nat.reduceEqDiff,↓reduceIte,he];try rfl
 clear he e
 intro e he
 refine Zad ?_
 refine Zab (Zae rfl he.1 ?_)
 refine Zab ?_
 refine Zak (v := ptr bb 0) rfl rfl ?_
 refine Zab ?_
 refine Zag (b := bb) (o := 0) rfl Zbn rfl ?_
 refine Zab ?_
 refine Zar (b := bb) (o := 0 + 1) (r := Zc2 mb) rfl h1.obj ZcH ZcG rfl ?_
 refine Zab (Zae rfl he.2 ?_)
 refine Zab ?_
 refine ZiK (k := f0.nm) (es := Zbc fs) (b := mb) rfl rfl h1.map ZdF ZcW fun τ2 hm2 k2 => ?_
 refine Zaf ?_
 refine ⟨_, Zce rfl, hK τ2 pv' (h1.delF (fun p hp => ?_) k2 hm2) (hB1.trans (k2.sub fun c hc => by rw [hc]; exact h.own.2.1))⟩
 obtain ⟨f, hf, e⟩ := h1.inn p hp
 refine ⟨f, Zbx.2 ⟨hf, fun q => ?_⟩, e⟩
 have hp2 := (List.mem_filter.1 hp).2
 rw [h.uniqN hf hf0 q] at e
 simp [e] at hp2
theorem Zoy {k : List UInt8} {b5 b7 b3 : Nat} {n : Int} (h : DAt σ bb S fs pcs size mb pv) (hl : pcs.length <= 1000000000) (hs : ∀ p ∈ pcs, p.2 <= 1000000000) {f0 : Fl} (hf0 : f0 ∈ fs) (hd : f0.d.length <= 1000000000) (hb5 : σ.blk b5 = some (.own 3 [.raw (.int .i64 n)])) (hb7 : σ.blk b7 = some (.own 33 [vI 0])) (hb3 : σ.blk b3 = some (.own 30 [ptr bb 0]))
 (hK2 : n < 0 \/ (f0.d.length : Int) < n -> ∀ τ, τ.blk b7 = some (.own 33 [vI 2]) -> But (fun c => c = b7) σ τ -> K (.tup []) τ)
 (hK0 : 0 <= n -> n <= (f0.d.length : Int) -> ∀ τ v' pv', DAt τ bb S (fs.map (Zci f0.b v' (f0.d.take n.toNat))) ((shr f0.b (f0.d.length - n.toNat) pcs).filter fun p => !decide (p.2 = 0)) size mb pv' -> But S σ τ -> K (.tup []) τ) : Zat Try.prog 61 [.raw (sV k), ptr f0.b 0, ptr b5 0, ptr b7 0, ptr b3 0] σ K := by
 obtain ⟨p1, p2, p3⟩ := h.file f0 hf0
 refine Zam Zas Try.func61 rfl rfl rfl (Nat.le_of_ble_eq_true rfl) ?_
 refine ZaP 1 2 3 4 (v0 := ptr f0.b 0) (v1 := ptr b5 0) (v2 := ptr b7 0) (v3 := ptr b3 0) rfl rfl rfl rfl ?_
 intro e he
 refine Zac ?_
 refine ZaZ (fun env υ => (env 1 = ptr f0.b 0 /\ env 2 = ptr b5 0 /\ env 3 = ptr b7 0 /\ env 4 = ptr b3 0 /\ env 17 = vT (decide (n < 0 \/ (f0.d.length : Int) < n))) /\ υ = σ) ?_ ?_
 ·refine ZcS ?_
  refine ⟨[0, 1, 2, 4, 5, 6, 3, 7, 8, 9, 10], [[], [0], [0, 1], [0, 1, 2], [0, 1, 2], [0, 1, 2, 4], [0, 1, 2, 4, 5], [0, 1, 2, 4, 5, 6], [0, 1, 2, 4, 5, 6, 7], [0, 1, 2, 3, 4, 5, 6, 7, 8], [0, 1, 2, 3, 4, 5, 6, 7, 8, 9]], fun _ => True, [], [], [], by kernel_rfl, ?_⟩
  apply Zai
  case hi => simp only [HIX]; try rfl
  case hw => rfl
  case how => rfl
  refine Zar (b := b5) (o := 0) (r := .raw (.int .i64 n)) he.2.1 hb5 Zck Zcc rfl ?_
  refine Zaq ?_
  apply Zai
  case hi => simp only [HIX]; try rfl
  case hw => rfl
  case how => rfl
  refine ZeH (k := .i64) (a := n) (b := 0) rfl rfl ?_
  refine Zaq ?_
  by_cases hn : n < 0
  ·rw [decide_eq_true hn]
   apply Zai
   case hi => simp only [HIX]; try rfl
   case hw => rfl
   case how => rfl
   refine Zae rfl rfl ?_
   refine Zaq ?_
   apply Zbl
   case hi => simp only [HIX]; try rfl
   case hg => rfl
   case how => rfl
   apply Zbl
   case hi => simp only [HIX]; try rfl
   case hg => rfl
   case how => rfl
   apply Zbl
   case hi => simp only [HIX]; try rfl
   case hg => rfl
   case how => rfl
   apply Zbl
   case hi => simp only [HIX]; try rfl
   case hg => rfl
   case how => rfl
   apply Zbl
   case hi => simp only [HIX]; try rfl
   case hg => rfl
   case how => rfl
   apply Zbl
   case hi => simp only [HIX]; try rfl
   case hg => rfl
   case how => rfl
   apply Zbl
   case hi => simp only [HIX]; try rfl
   case hg => rfl
   case how => rfl
   apply Zai
   case hi => simp only [HIX]; try rfl
   case hw => rfl
   case how => rfl
   refine ZaG (v := vT true) rfl rfl ?_
   refine Zaq ?_
   refine Zcg ?_
   refine ⟨rfl, ⟨by simp only [EV,Nat.reduceEqDiff,↓reduceIte,he];try rfl, by simp only [EV,Nat.reduceEqDiff,↓reduceIte,he];try rfl, by simp only [EV,Nat.reduceEqDiff,↓reduceIte,he];try rfl, by simp only [EV,Nat.reduceEqDiff,↓reduceIte,he];try rfl, ?_⟩, rfl⟩
   rw [decide_eq_true (.inl hn)]
   simp only [EV,Nat.reduceEqDiff,↓reduceIte,he];try rfl
  ·rw [decide_eq_false hn]
   apply Zai
   case hi => simp only [HIX]; try rfl
   case hw => rfl
   case how => rfl
   refine Zae rfl rfl ?_
   refine Zaq ?_
   apply Zai
   case hi => simp only [HIX]; try rfl
   case hw => rfl
   case how => rfl
   refine Zae rfl (v := ptr f0.b 0) he.1 ?_
   refine Zaq ?_
   apply Zai
   case hi => simp only [HIX]; try rfl
   case hw => rfl
   case how => rfl
   refine Zak (v := ptr f0.b 0) rfl rfl ?_
   refine Zaq ?_
   apply Zai
   case hi => simp only [HIX]; try rfl
   case hw => rfl
   case how => rfl
   refine Zag (b := f0.b) (o := 0) rfl Zes rfl ?_
   refine Zaq ?_
   apply Zai
   case hi => simp only [HIX]; try rfl
   case hw => rfl
   case how => rfl
   refine Zar (b := b5) (o := 0) (r := .raw (.int .i64 n)) he.2.1 hb5 Zck Zcc rfl ?_
   refine Zaq ?_
   apply Zai
   case hi => simp only [HIX]; try rfl
   case hw => rfl
   case how => rfl
   refine Zar (b := f0.b) (o := 0 + 0) (r := f0.v) rfl p1 ZbO ZaJ rfl ?_
   refine Zaq ?_
   apply Zai
   case hi => simp only [HIX]; try rfl
   case hw => rfl
   case how => rfl
   refine ZbS rfl p3 rfl Zaw ?_
   refine Zaq ?_
   apply Zai
   case hi => simp only [HIX]; try rfl
   case hw => rfl
   case how => rfl
   refine ZfX (k := .i64) (a := n) (b := (f0.d.length : Int)) rfl rfl ?_
   refine Zaq ?_
   apply Zai
   case hi => simp only [HIX]; try rfl
   case hw => rfl
   case how => rfl
   refine Za2 (v := vT (decide ((f0.d.length : Int) < n))) rfl rfl ?_
   refine Zaq ?_
   refine Zcg ?_
   refine ⟨rfl, ⟨by simp only [EV,Nat.reduceEqDiff,↓reduceIte,he];try rfl, by simp only [EV,Nat.reduceEqDiff,↓reduceIte,he];try rfl, by simp only [EV,Nat.reduceEqDiff,↓reduceIte,he];try rfl, by simp only [EV,Nat.reduceEqDiff,↓reduceIte,he];try rfl, ?_⟩, rfl⟩
   rw [show decide (n < 0 \/ (f0.d.length : Int) < n) = decide ((f0.d.length : Int) < n) by congr 1; exact propext ⟨fun q => q.elim (fun q => absurd q hn) id, .inr⟩]
   simp only [EV,Nat.reduceEqDiff,↓reduceIte,he];try rfl
 clear he e
 rintro e _ ⟨he, rfl⟩
 refine Zav (t := decide (n < 0 \/ (f0.d.length : Int) < n)) he.2.2.2.2 (fun hb => ?_) (fun hb => ?_)
 ·repeat refine Zac ?_
  first|refine Zaa ?_|refine Zad ?_
  refine Zab ?_
  refine ZbQ (b := b7) (o := 0) (v := vI 2) he.2.2.1 rfl hb7 ZhJ ⟨rfl, rfl, rfl⟩ (Nat.zero_lt_succ _) fun τ hbτ kτ => ?_
  refine Zaf ?_
  refine Zcw ?_
  exact ⟨_, Zce rfl, hK2 (of_decide_eq_true hb) τ hbτ kτ⟩
 ·have hb := of_decide_eq_false hb
  have h0 : 0 <= n := by omega
  have h1 : n <= (f0.d.length : Int) := by omega
  obtain ⟨m, rfl⟩ : ∃ m : Nat, n = m := ⟨n.toNat, by omega⟩
  rw [Int.toNat_natCast] at hK0
  refine Zaz ?_
  refine ZcS ?_
  refine ⟨[3, 4, 5, 6, 0, 1, 2, 7, 8, 9, 10, 11], [[], [0], [0, 1], [], [], [4], [4, 5], [4, 5, 6], [4, 5, 6, 7], [], [4, 5, 6, 7, 8, 9], [0, 1, 2, 3, 4, 5, 6, 7, 8, 9, 10]], fun _ => True, [], [], [], by kernel_rfl, ?_⟩
  apply Zai
  case hi => simp only [HIX]; try rfl
  case hw => rfl
  case how => rfl
  refine Zae rfl he.1 ?_
  refine Zaq ?_
  apply Zai
  case hi => simp only [HIX]; try rfl
  case hw => rfl
  case how => rfl
  refine Zae rfl he.1 ?_
  refine Zaq ?_
  apply Zai
  case hi => simp only [HIX]; try rfl
  case hw => rfl
  case how => rfl
  refine Zak (v := ptr f0.b 0) rfl rfl ?_
  refine Zaq ?_
  apply Zai
  case hi => simp only [HIX]; try rfl
  case hw => rfl
  case how => rfl
  refine Zag (b := f0.b) (o := 0) rfl Zes rfl ?_
  refine Zaq ?_
  apply Zai
  case hi => simp only [HIX]; try rfl
  case hw => rfl
  case how => rfl
  refine Zar (b := b3) (o := 0) (r := ptr bb 0) he.2.2.2.1 hb3 ZcJ ZcK rfl ?_
  refine Zaq ?_
  apply Zai
  case hi => simp only [HIX]; try rfl
  case hw => rfl
  case how => rfl
  refine Zak (v := ptr bb 0) rfl rfl ?_
  refine Zaq ?_
  apply Zai
  case hi => simp only [HIX]; try rfl
  case hw => rfl
  case how => rfl
  refine Zag (b := bb) (o := 0) rfl Zbn rfl ?_
  refine Zaq ?_
  apply Zai
  case hi => simp only [HIX]; try rfl
  case hw => rfl
  case how => rfl
  refine Zar (b := f0.b) (o := 0 + 0) (r := f0.v) rfl p1 ZbO ZaJ rfl ?_
  refine Zaq ?_
  apply Zai
  case hi => simp only [HIX]; try rfl
  case hw => rfl
  case how => rfl
  refine ZbS rfl p3 rfl Zaw ?_
  refine Zaq ?_
  apply Zai
  case hi => simp only [HIX]; try rfl
  case hw => rfl
  case how => rfl
  refine Zar (b := b5) (o := 0) (r := .raw (.int .i64 (m : Int))) he.2.1 hb5 Zck Zcc rfl ?_
  refine Zaq ?_
  apply Zai
  case hi => simp only [HIX]; try rfl
  case hw => rfl
  case how => rfl
  refine ZcZ (f0.d.length : Int) (m : Int) rfl rfl (by omega) (by omega) ?_
  refine Zaq ?_
  rw [show ((f0.d.length : Int) - (m : Int)) = ((f0.d.length - m : Nat) : Int) by omega]
  apply Zai
  case hi => simp only [HIX]; try rfl
  case hw => rfl
  case how => rfl
  refine Zao (vs := [ptr bb 0, ptr f0.b 0, vI (f0.d.length - m : Nat)]) (by simp only [List.map_cons, List.map_nil, EV,Nat.reduceEqDiff,↓reduceIte,he];try rfl) ?_
  refine Zhc h hl hs hf0 (m := f0.d.length - m) (Nat.sub_le _ _) hd fun τ v' pv' d1 d2 => ?_
  refine ⟨(fun hf => by cases hf), ?_⟩
  refine Zcg ?_
  rw [show f0.d.length - (f0.d.length - m) = m by omega] at d1
  exact ⟨_, Zce rfl, hK0 h0 h1 τ v' pv' d1 d2⟩
end
end Go.Proofs.Ytinpiaibhjmfaaa
namespace Go.Proofs.Ytinpiaibhjmfaaa
open Go.RowKit
set_option maxRecDepth 100000
set_option linter.unusedVariables false
set_option linter.unusedSimpArgs false
def ZgH : List (List UInt8) -> List Fl -> List (Nat × Nat) -> List Fl × List (Nat × Nat) × Nat
 | [], fs, pcs => (fs, pcs, 0)
 | n :: ns, fs, pcs => match Zfa (Zbc fs) n with
  | none => (fs, pcs, 6)
  | some fb => ZgH ns (Zdt n fs) (pcs.filter fun p => !decide (p.1 = fb))
theorem ZgI {fs : List Fl} {n : List UInt8} {ns : List (List UInt8)} {pcs : List (Nat × Nat)} (h : Zfa (Zbc fs) n = none) : ZgH (n :: ns) fs pcs = (fs, pcs, 6) := by
 unfold ZgH
 rw [h]
theorem ZgJ {fs : List Fl} {n : List UInt8} {ns : List (List UInt8)} {pcs : List (Nat × Nat)} {fb : Nat} (h : Zfa (Zbc fs) n = some fb) : ZgH (n :: ns) fs pcs = ZgH ns (Zdt n fs) (pcs.filter fun p => !decide (p.1 = fb)) := by
 conv => lhs; unfold ZgH
 rw [h]
theorem Znh {fs : List Fl} {pcs : List (Nat × Nat)} : ZgH [] fs pcs = (fs, pcs, 0) := rfl
def rnP (fs : List Fl) (pcs : List (Nat × Nat)) (to : List UInt8) : List (Nat × Nat) := match Zfa (Zbc fs) to with
 | none => pcs
 | some ob => pcs.filter fun p => !decide (p.1 = ob)
def rnF (fs : List Fl) (f0 : Fl) (to : List UInt8) : List Fl := Zdt f0.nm (Zdt to fs) ++ [⟨to, f0.b, f0.v, f0.d⟩]
section
variable {σ : St} {bb mb : Nat} {S : Nat -> Prop} {fs : List Fl} {pcs : List (Nat × Nat)} {size : Int} {pv : AV} {K : AV -> St -> Prop}
theorem ZpE (h : DAt σ bb S fs pcs size mb pv) (hl : pcs.length <= 1000000000) {v : AV} {ns : List (List UInt8)} (hN : Zc6 σ v ns) (hNS : ∀ c, hbk v = some c -> ¬ S c) (hnl : ns.length <= 1000000000)
 (hK : ∀ τ pv', DAt τ bb S (ZgH ns fs pcs).1 (ZgH ns fs pcs).2.1 size mb pv' -> But S σ τ -> K (vI (ZgH ns fs pcs).2.2) τ) : Zat Try.prog 31 [ptr bb 0, v] σ K := by
 refine Zam Zas Try.func31 rfl rfl rfl (Nat.le_of_ble_eq_true rfl) ?_
 refine ZaK 0 1 (v0 := ptr bb 0) (v1 := v) rfl rfl ?_
 intro e he
 repeat refine Zac ?_
 first|refine Zaa ?_|refine Zad ?_
 refine Zab (Zae rfl (by simp only [EV,Nat.reduceEqDiff,↓reduceIte,he];try rfl) ?_)
 refine Zaf ?_
 apply ZaK 0 1
 iterate 2 ·simp only [EV,Nat.reduceEqDiff,↓reduceIte,he];try rfl
 clear he e
 intro e he
 repeat refine Zac ?_
 first|refine Zaa ?_|refine Zad ?_
 refine Zab (Zae rfl he.1 ?_)
 refine Zab (Zae rfl he.1 ?_)
 refine Zab ?_
 refine Ziu (us := [ptr bb 0]) (vs := []) (by simp only [List.map_cons, List.map_nil, EV,Nat.reduceEqDiff,↓reduceIte,he];try rfl) rfl ?_
 refine Zab (Zae rfl he.2 ?_)
 refine Zab ?_
 refine Zao (vs := [ptr bb 0, fnG 63 #[.pointer (some ⟨bb, 0, none⟩)] #[], v]) (by simp only [List.map_cons, List.map_nil, EV,Nat.reduceEqDiff,↓reduceIte,he];try rfl) ?_
 have hfin : ∀ (a : Nat) (τ : St), (∃ pv', DAt τ bb S (ZgH ns fs pcs).1 (ZgH ns fs pcs).2.1 size mb pv') -> But S σ τ -> a = (ZgH ns fs pcs).2.2 -> K (vI a) τ := fun a τ ⟨pv', q1⟩ q2 q3 => by
  rw [q3]; exact hK τ pv' q1 q2
 refine ZhE (fun i υ => ∃ fs' pcs' pv', DAt υ bb S fs' pcs' size mb pv' /\ pcs'.length <= 1000000000 /\ ZgH (ns.drop i) fs' pcs' = ZgH ns fs pcs /\ But S σ υ /\ Zc6 υ v ns) h hN hnl ⟨fs, pcs, pv, h, hl, rfl, .refl _ _, hN⟩ (fun i hi υ => ?_) (fun υ => ?_)
 ·rintro ⟨fs', pcs', pv', g1, g2, g3, g4, g6⟩
  rw [List.drop_eq_getElem_cons hi] at g3
  refine ⟨S, fs', pcs', size, mb, pv', g1, g6, fun hg => ?_, fun fb hg => ?_⟩
  ·rw [ZgI hg] at g3
   refine Zab (Zae rfl (by simp only [EV,Nat.reduceEqDiff,↓reduceIte,he];try rfl) ?_)
   refine Zaf ?_
   refine Zax ?_
   refine ⟨_, Zal rfl rfl, hfin 6 υ ⟨pv', ?_⟩ g4 ?_⟩
   ·rw [<- g3]; exact g1
   ·rw [<- g3]
  ·rw [ZgJ hg] at g3
   obtain ⟨f0, hf0, hnm, rfl⟩ := ZcE hg
   show Zat Try.prog 63 [ptr bb 0, .raw (sV ns[i]), ptr f0.b 0] υ _
   rw [<- hnm] at g3 ⊢
   refine Zl0 g1 g2 hf0 fun τ pv2 k1 k2 => ⟨_, _, pv2, k1, Nat.le_trans (List.length_filter_le _ _) g2, g3, g4.trans k2, g6.but k2 hNS⟩
 ·rintro ⟨fs', pcs', pv', g1, g2, g3, g4, g6⟩
  rw [List.drop_eq_nil_of_le (Nat.le_refl _), Znh] at g3
  refine Zab (Zae rfl (by simp only [EV,Nat.reduceEqDiff,↓reduceIte,he];try rfl) ?_)
  refine Zaf ?_
  refine Zax ?_
  refine ⟨_, Zal rfl rfl, hfin 0 υ ⟨pv', ?_⟩ g4 ?_⟩
  ·rw [<- g3]; exact g1
  ·rw [<- g3]
theorem ZpF (h : DAt σ bb S fs pcs size mb pv) (hS : ∀ c, S c -> σ.used c) (hl : pcs.length <= 1000000000) (hs : ∀ p ∈ pcs, p.2 <= 1000000000) (hfl : ∀ f ∈ fs, f.d.length <= 1000000000) {k : List UInt8} {n : Int}
 (hK6 : (∀ f ∈ fs, f.nm ≠ k) -> ∀ τ, Ext σ τ -> K (vI 6) τ)
 (hK2 : ∀ f0 ∈ fs, f0.nm = k -> (n < 0 \/ (f0.d.length : Int) < n) -> ∀ τ, Ext σ τ -> K (vI 2) τ)
 (hK0 : ∀ f0 ∈ fs, f0.nm = k -> 0 <= n -> n <= (f0.d.length : Int) -> ∀ τ v' pv', DAt τ bb S (fs.map (Zci f0.b v' (f0.d.take n.toNat))) ((shr f0.b (f0.d.length - n.toNat) pcs).filter fun p => !decide (p.2 = 0)) size mb pv' -> But S σ τ -> K (vI 0) τ) : Zat Try.prog 29 [ptr bb 0, .raw (sV k), .raw (.int .i64 n)] σ K := by
 refine Zam Zas Try.func29 rfl rfl rfl (Nat.le_of_ble_eq_true rfl) ?_
 refine ZaL 0 1 2 (v0 := ptr bb 0) (v1 := .raw (sV k)) (v2 := .raw (.int .i64 n)) rfl rfl rfl ?_
 intro e he
 repeat refine Zac ?_
 first|refine Zaa ?_|refine Zad ?_
 refine Zab ?_
 refine Zdq (cs := [ptr bb 0]) (v := ptr bb 0) he.1 rfl fun b3 σ1 hn3 hu3 hb3 hub3 hX1 => ?_
 refine Zab ?_
 refine Zdq (cs := [.raw (.int .i64 n)]) (v := .raw (.int .i64 n)) he.2.2 rfl fun b5 σ2 hn5 hu5 hb5 hub5 hX2 => ?_
 refine Zab (Zae rfl (by simp only [EV,Nat.reduceEqDiff,↓reduceIte,he];try rfl) ?_)
 refine Zaf ?_
 apply ZaL 1 3 5
 iterate 3 ·simp only [EV,Nat.reduceEqDiff,↓reduceIte,he];try rfl
 clear he e
 intro e he
 repeat refine Zac ?_
 first|refine Zaa ?_|refine Zad ?_
 refine Zab ?_
 refine Zd0 ZlZ rfl fun b7 σ3 hn7 hu7 hb7 hub7 hX3 => ?_
 refine Zab ?_
 refine ZbQ (b := b7) (o := 0) (v := vI 0) rfl rfl hb7 ZhJ ⟨rfl, rfl, rfl⟩ (Nat.zero_lt_succ _) fun σ4 hb74 k4 => ?_
 refine Zaf ?_
 have hX4 : Ext σ2 σ4 := But.ext hX3 (fun g hg => by rw [hg]; exact hn7) k4
 have hE4 : Ext σ σ4 := (hX1.trans hX2).trans hX4
 have h3S : ¬ S b3 := fun q => hu3 (hS _ q)
 have h5S : ¬ S b5 := fun q => hu5 (hX1.used _ (hS _ q))
 have h7S : ¬ S b7 := fun q => hu7 (hX2.used _ (hX1.used _ (hS _ q)))
 apply ZaP 1 3 5 7
 iterate 4 ·simp only [EV,Nat.reduceEqDiff,↓reduceIte,he];try rfl
 clear he e
 intro e he
 refine ZaZ (fun env υ => ∃ r : Nat, (env 7 = ptr b7 0 /\ env 8 = vI r) /\ (r ≠ 0 -> K (vI r) υ) /\ (r = 0 -> ∃ x : Nat, υ.blk b7 = some (.own 33 [vI x]) /\ K (vI x) υ)) ?_ ?_
 ·repeat refine Zac ?_
  first|refine Zaa ?_|refine Zad ?_
  refine Zab ?_
  refine Zar (b := b3) (o := 0) (r := ptr bb 0) he.2.1 (hX4.keep _ _ (hX2.keep _ _ hb3)) ZcJ ZcK rfl ?_
  refine Zab ?_
  refine ZdS (vs := [ptr b5 0, ptr b7 0, ptr b3 0]) (by simp only [List.map_cons, List.map_nil, EV,Nat.reduceEqDiff,↓reduceIte,he];try rfl) ?_
  refine Zab (Zae rfl he.1 ?_)
  refine Zab ?_
  refine Zdr (vs := [.raw (sV k)]) (cells := [.raw (sV k)]) (by simp only [List.map_cons, List.map_nil, EV,Nat.reduceEqDiff,↓reduceIte,he];try rfl) ZaE ZbJ ZhK rfl (by omega) rfl rfl fun b12 σ5 hN5 hX5 => ?_
  have hE5 := hE4.trans hX5
  have h5 := h.ext hE5
  have hb35 := hX5.keep _ _ (hX4.keep _ _ (hX2.keep _ _ hb3))
  have hb55 := hX5.keep _ _ (hX4.keep _ _ hb5)
  have hb75 := hX5.keep _ _ hb74
  have hNm : ∀ υ, Zc6 υ (.lst (some ⟨b12, 0, none⟩) 1 1 [.raw (sV k)]) [k] := fun υ => .inl ⟨some ⟨b12, 0, none⟩, 1, [], rfl, fun q => (by cases q)⟩
  refine Zab ?_
  refine Zao (vs := [ptr bb 0, fnG 61 #[] #[.pointer (some ⟨b5, 0, none⟩), .pointer (some ⟨b7, 0, none⟩), .pointer (some ⟨b3, 0, none⟩)], .lst (some ⟨b12, 0, none⟩) 1 1 [.raw (sV k)]]) (by simp only [List.map_cons, List.map_nil, EV,Nat.reduceEqDiff,↓reduceIte,he];try rfl) ?_
  refine ZhE (ns := [k]) (fun i υ => match i with
   | 0 => υ = σ5
   | _ => (∃ f0 ∈ fs, f0.nm = k /\ (n < 0 \/ (f0.d.length : Int) < n) /\ Ext σ υ /\ υ.blk b7 = some (.own 33 [vI 2])) \/ ∃ f0 ∈ fs, f0.nm = k /\ 0 <= n /\ n <= (f0.d.length : Int) /\ υ.blk b7 = some (.own 33 [vI 0]) /\ But S σ υ /\ ∃ v' pv', DAt υ bb S (fs.map (Zci f0.b v' (f0.d.take n.toNat))) ((shr f0.b (f0.d.length - n.toNat) pcs).filter fun p => !decide (p.2 = 0)) size mb pv') h5 (hNm _) (by simp) rfl (fun i hi υ hI => ?_) (fun υ hI => ?_)
  ·obtain rfl : i = 0 := by simp at hi; exact hi
   have hI : υ = σ5 := hI
   subst hI
   refine ⟨S, fs, pcs, size, mb, pv, h5, hNm _, fun hg => ?_, fun fb hg => ?_⟩
   ·refine Zab (Zae rfl (by simp only [EV,Nat.reduceEqDiff,↓reduceIte,he];try rfl) ?_)
    refine Zaf ?_
    refine ⟨rfl, 6, ⟨by simp only [EV,Nat.reduceEqDiff,↓reduceIte,he];try rfl, by simp only [EV,Nat.reduceEqDiff,↓reduceIte,he];try rfl⟩, fun _ => hK6 (ZcA.1 hg) _ hE5, fun q => absurd q (by decide)⟩
   ·obtain ⟨f0, hf0, hnm, rfl⟩ := ZcE hg
    refine Zoy (n := n) h5 hl hs hf0 (hfl f0 hf0) hb55 hb75 hb35 (fun hbad τ hτ kτ => ?_) fun q0 q1 τ v' pv' d1 d2 => ?_
    ·exact .inl ⟨f0, hf0, hnm, hbad, But.ext hE5 (fun c hc => by rw [hc]; exact Za0.of ⟨hn7, hu7⟩ (hX1.trans hX2) |>.1) kτ, hτ⟩
    ·exact .inr ⟨f0, hf0, hnm, q0, q1, d2.keep _ _ h7S hb75, hE5.but.trans d2, v', pv', d1⟩
  ·refine Zab (Zae rfl (by simp only [EV,Nat.reduceEqDiff,↓reduceIte,he];try rfl) ?_)
   refine Zaf ?_
   refine ⟨rfl, 0, ⟨by simp only [EV,Nat.reduceEqDiff,↓reduceIte,he];try rfl, by simp only [EV,Nat.reduceEqDiff,↓reduceIte,he];try rfl⟩, fun q => absurd rfl q, fun _ => ?_⟩
   rcases hI with ⟨f0, hf0, hnm, hbad, hX, h7⟩ | ⟨f0, hf0, hnm, q0, q1, h7, hB, v', pv', hd⟩
   ·exact ⟨2, h7, hK2 f0 hf0 hnm hbad υ hX⟩
   ·exact ⟨0, h7, hK0 f0 hf0 hnm q0 q1 υ v' pv' hd hB⟩
 clear he e
 rintro e υ ⟨r, he, g1, g2⟩
 repeat refine Zac ?_
 first|refine Zaa ?_|refine Zad ?_
 refine Zab (Zae rfl he.2 ?_)
 refine Zab ?_
 refine Zgu (k := .i64) (a := (r : Int)) (b := 0) rfl rfl ?_
 refine Zaf ?_
 apply ZaL 7 8 15
 iterate 3 ·simp only [EV,Nat.reduceEqDiff,↓reduceIte,he];try rfl
 clear he e
 intro e he
 refine Zav (t := decide ((r : Int) ≠ 0)) he.2.2 (fun hr => ?_) (fun hr => ?_)
 ·have hr := of_decide_eq_true hr
  repeat refine Zac ?_
  first|refine Zaa ?_|refine Zad ?_
  refine Zab (Zae rfl he.2.1 ?_)
  refine Zab (Zae rfl (by simp only [EV,Nat.reduceEqDiff,↓reduceIte,he];try rfl) ?_)
  refine Zaf ?_
  refine Zcw ?_
  show ∃ r, Zaj _ _ _ _ r /\ _
  exact ⟨_, Zal rfl rfl, g1 (by omega)⟩
 ·have hr := of_decide_eq_false hr
  obtain ⟨x, h7, hKx⟩ := g2 (by omega)
  refine Zaz ?_
  repeat refine Zac ?_
  first|refine Zaa ?_|refine Zad ?_
  refine Zab ?_
  refine Zar (b := b7) (o := 0) (r := vI x) he.1 h7 Zox ZhJ rfl ?_
  refine Zab (Zae rfl (by simp only [EV,Nat.reduceEqDiff,↓reduceIte,he];try rfl) ?_)
  refine Zaf ?_
  refine Zax ?_
  show ∃ r, Zaj _ _ _ _ r /\ _
  exact ⟨_, Zal rfl rfl, hKx⟩
theorem Zoz {k to : List UInt8} {b2 b3 b4 : Nat} (h : DAt σ bb S fs pcs size mb pv) (hl : pcs.length <= 1000000000) {f0 : Fl} (hf0 : f0 ∈ fs) (hb2 : σ.blk b2 = some (.own 9 [.raw (sV f0.nm)])) (hb3 : σ.blk b3 = some (.own 9 [.raw (sV to)])) (hb4 : σ.blk b4 = some (.own 30 [ptr bb 0])) (hn2 : ¬ S b2) (hn3 : ¬ S b3) (hn4 : ¬ S b4)
 (hK1 : f0.nm = to -> K (.tup []) σ) (hK2 : f0.nm ≠ to -> ∀ τ pv', DAt τ bb S (rnF fs f0 to) (rnP fs pcs to) size mb pv' -> But S σ τ -> K (.tup []) τ) : Zat Try.prog 62 [.raw (sV k), ptr f0.b 0, ptr b2 0, ptr b3 0, ptr b4 0] σ K := by
 refine Zam Zas Try.func62 rfl rfl rfl (Nat.le_of_ble_eq_true rfl) ?_
 refine ZaP 1 2 3 4 (v0 := ptr f0.b 0) (v1 := ptr b2 0) (v2 := ptr b3 0) (v3 := ptr b4 0) rfl rfl rfl rfl ?_
 intro e he
 repeat refine Zac ?_
 first|refine Zaa ?_|refine Zad ?_
 refine Zab ?_
 refine Zar (b := b2) (o := 0) (r := .raw (sV f0.nm)) he.2.1 hb2 Zb7 ZbJ rfl ?_
 refine Zab ?_
 refine Zar (b := b3) (o := 0) (r := .raw (sV to)) he.2.2.1 hb3 Zb7 ZbJ rfl ?_
 refine Zab ?_
 refine Zeu (a := f0.nm) (c := to) ZcW rfl rfl ?_
 refine Zaf ?_
 apply Zb6 1 2 3 4 10
 iterate 5 ·simp only [EV,Nat.reduceEqDiff,↓reduceIte,he];try rfl
 clear he e
 intro e he
 refine Zav (t := decide (f0.nm = to)) he.2.2.2.2 (fun hq => ?_) (fun hq => ?_)
 ·refine Zcw ?_
  exact ⟨_, Zce rfl, hK1 (of_decide_eq_true hq)⟩
 have hq := of_decide_eq_false hq
 refine Zaz ?_
 refine ZaZ (fun env υ => (env 1 = ptr f0.b 0 /\ env 2 = ptr b2 0 /\ env 3 = ptr b3 0 /\ env 4 = ptr b4 0) /\ But S σ υ /\ ∃ pv', DAt υ bb S (Zdt to fs) (rnP fs pcs to) size mb pv') ?_ ?_
 ·refine Zb5 ?_
  refine ⟨[0, 1, 2, 3, 4, 5, 6], [[], [0], [0, 1], [0, 1, 2], [], [0, 1, 2, 3, 4], [0, 1, 2, 3, 4, 5]], fun _ => True, [], [], [], by kernel_rfl, ?_⟩
  apply Zai
  case hi => simp only [HIX]; try rfl
  case hw => rfl
  case how => rfl
  refine Zar (b := b4) (o := 0) (r := ptr bb 0) he.2.2.2.1 hb4 ZcJ ZcK rfl ?_
  refine Zaq ?_
  apply Zai
  case hi => simp only [HIX]; try rfl
  case hw => rfl
  case how => rfl
  refine Zak (v := ptr bb 0) rfl rfl ?_
  refine Zaq ?_
  apply Zai
  case hi => simp only [HIX]; try rfl
  case hw => rfl
  case how => rfl
  refine Zag (b := bb) (o := 0) rfl Zbn rfl ?_
  refine Zaq ?_
  apply Zai
  case hi => simp only [HIX]; try rfl
  case hw => rfl
  case how => rfl
  refine Zar (b := bb) (o := 0 + 1) (r := Zc2 mb) rfl h.obj ZcH ZcG rfl ?_
  refine Zaq ?_
  apply Zai
  case hi => simp only [HIX]; try rfl
  case hw => rfl
  case how => rfl
  refine Zar (b := b3) (o := 0) (r := .raw (sV to)) he.2.2.1 hb3 Zb7 ZbJ rfl ?_
  refine Zaq ?_
  apply Zai
  case hi => simp only [HIX]; try rfl
  case hw => rfl
  case how => rfl
  refine Zeb (k := to) (es := Zbc fs) (b := mb) rfl rfl h.map ZdF ZcW ZfD ?_
  refine Zaq ?_
  apply Zai
  case hi => simp only [HIX]; try rfl
  case hw => rfl
  case how => rfl
  refine Zae rfl rfl ?_
  refine Zaq ?_
  refine Zcg ?_
  apply Zb6 1 2 3 4 7
  iterate 5 ·simp only [EV,Nat.reduceEqDiff,↓reduceIte,he];try rfl
  clear he e
  intro e he
  repeat refine Zac ?_
  first|refine Zaa ?_|refine Zad ?_
  refine Zab (Zae rfl he.2.2.2.2 ?_)
  cases hg : Zfa (Zbc fs) to with
  | none =>
   rw [hg] at he
   refine Zab ?_
   refine Zer (p := none) ZdG rfl rfl rfl ?_
   refine Zaf ?_
   refine ZaS (t := false) rfl (fun hf => by cases hf) (fun _ => ?_)
   refine Zbq ?_
   refine ⟨rfl, ⟨by simp only [EV,Nat.reduceEqDiff,↓reduceIte,he];try rfl, by simp only [EV,Nat.reduceEqDiff,↓reduceIte,he];try rfl, by simp only [EV,Nat.reduceEqDiff,↓reduceIte,he];try rfl, by simp only [EV,Nat.reduceEqDiff,↓reduceIte,he];try rfl⟩, .refl _ _, pv, ?_⟩
   have e1 : rnP fs pcs to = pcs := by unfold rnP; rw [hg]
   rw [e1, ZiL (ZcA.1 hg)]
   exact h
  | some ob =>
   rw [hg] at he
   obtain ⟨g0, hg0, hgn, rfl⟩ := ZcE hg
   refine Zab ?_
   refine Zer (p := some ⟨g0.b, 0, none⟩) ZdG rfl rfl rfl ?_
   refine Zaf ?_
   apply ZdN 1 2 3 4 7 18
   iterate 6 ·simp only [EV,Nat.reduceEqDiff,↓reduceIte,he];try rfl
   clear he e
   intro e he
   refine ZaS (t := true) he.2.2.2.2.2 (fun _ => ?_) (fun hf => by cases hf)
   repeat refine Zac ?_
   first|refine Zaa ?_|refine Zad ?_
   refine Zab ?_
   refine Zar (b := b4) (o := 0) (r := ptr bb 0) he.2.2.2.1 hb4 ZcJ ZcK rfl ?_
   refine Zab ?_
   refine Zar (b := b3) (o := 0) (r := .raw (sV to)) he.2.2.1 hb3 Zb7 ZbJ rfl ?_
   refine Zab (Zae rfl he.2.2.2.2.1 ?_)
   refine Zab ?_
   refine Zao (vs := [ptr bb 0, .raw (sV to), ptr g0.b 0]) (by simp only [List.map_cons, List.map_nil, EV,Nat.reduceEqDiff,↓reduceIte,he];try rfl) ?_
   rw [<- hgn]
   refine Zl0 h hl hg0 fun τ pv' d1 d2 => ?_
   refine Zaf ?_
   refine ⟨rfl, ⟨by simp only [EV,Nat.reduceEqDiff,↓reduceIte,he];try rfl, by simp only [EV,Nat.reduceEqDiff,↓reduceIte,he];try rfl, by simp only [EV,Nat.reduceEqDiff,↓reduceIte,he];try rfl, by simp only [EV,Nat.reduceEqDiff,↓reduceIte,he];try rfl⟩, d2, pv', ?_⟩
   have e1 : rnP fs pcs g0.nm = pcs.filter fun p => !decide (p.1 = g0.b) := by
    unfold rnP
    rw [hgn, hg]
   rw [e1]
   exact d1
 clear he e
 rintro e υ ⟨he, hB, pv', hd⟩
 have hb2' := hB.keep _ _ hn2 hb2
 have hb3' := hB.keep _ _ hn3 hb3
 have hb4' := hB.keep _ _ hn4 hb4
 refine Zb5 ?_
 refine ⟨[0, 1, 2, 3, 4, 5], [[], [0], [0, 1], [0, 1, 2], [], [0, 1, 2, 3, 4]], fun _ => True, [], [], [], by kernel_rfl, ?_⟩
 apply Zai
 case hi => simp only [HIX]; try rfl
 case hw => rfl
 case how => rfl
 refine Zar (b := b4) (o := 0) (r := ptr bb 0) he.2.2.2 hb4' ZcJ ZcK rfl ?_
 refine Zaq ?_
 apply Zai
 case hi => simp only [HIX]; try rfl
 case hw => rfl
 case how => rfl
 refine Zak (v := ptr bb 0) rfl rfl ?_
 refine Zaq ?_
 apply Zai
 case hi => simp only [HIX]; try rfl
 case hw => rfl
 case how => rfl
 refine Zag (b := bb) (o := 0) rfl Zbn rfl ?_
 refine Zaq ?_
 apply Zai
 case hi => simp only [HIX]; try rfl
 case hw => rfl
 case how => rfl
 refine Zar (b := bb) (o := 0 + 1) (r := Zc2 mb) rfl hd.obj ZcH ZcG rfl ?_
 refine Zaq ?_
 apply Zai
 case hi => simp only [HIX]; try rfl
 case hw => rfl
 case how => rfl
 refine Zar (b := b2) (o := 0) (r := .raw (sV f0.nm)) he.2.1 hb2' Zb7 ZbJ rfl ?_
 refine Zaq ?_
 apply Zai
 case hi => simp only [HIX]; try rfl
 case hw => rfl
 case how => rfl
 refine ZiK (k := f0.nm) (es := Zbc (Zdt to fs)) (b := mb) rfl rfl hd.map ZdF ZcW fun υ2 hm2 k2 => ?_
 refine ⟨(fun hf => by cases hf), ?_⟩
 refine Zcg ?_
 have hne : ∀ c t cs, υ.blk c = some (.own t cs) -> υ2.blk c = some (.own t cs) := fun c t cs hc => k2.keep _ _ (fun q => Zcq hc hd.map q) hc
 apply ZaP 1 2 3 4
 iterate 4 ·simp only [EV,Nat.reduceEqDiff,↓reduceIte,he];try rfl
 clear he e
 intro e he
 refine ZcS ?_
 refine ⟨[5, 0, 1, 2, 3, 4, 6], [[], [0], [0, 1], [0, 1, 2], [], [], [0, 1, 2, 3, 4, 5]], fun _ => True, [], [], [], by kernel_rfl, ?_⟩
 apply Zai
 case hi => simp only [HIX]; try rfl
 case hw => rfl
 case how => rfl
 refine Zae rfl he.1 ?_
 refine Zaq ?_
 apply Zai
 case hi => simp only [HIX]; try rfl
 case hw => rfl
 case how => rfl
 refine Zar (b := b4) (o := 0) (r := ptr bb 0) he.2.2.2 (hne _ _ _ hb4') ZcJ ZcK rfl ?_
 refine Zaq ?_
 apply Zai
 case hi => simp only [HIX]; try rfl
 case hw => rfl
 case how => rfl
 refine Zak (v := ptr bb 0) rfl rfl ?_
 refine Zaq ?_
 apply Zai
 case hi => simp only [HIX]; try rfl
 case hw => rfl
 case how => rfl
 refine Zag (b := bb) (o := 0) rfl Zbn rfl ?_
 refine Zaq ?_
 apply Zai
 case hi => simp only [HIX]; try rfl
 case hw => rfl
 case how => rfl
 refine Zar (b := bb) (o := 0 + 1) (r := Zc2 mb) rfl (hne _ _ _ hd.obj) ZcH ZcG rfl ?_
 refine Zaq ?_
 apply Zai
 case hi => simp only [HIX]; try rfl
 case hw => rfl
 case how => rfl
 refine Zar (b := b3) (o := 0) (r := .raw (sV to)) he.2.2.1 (hne _ _ _ hb3') Zb7 ZbJ rfl ?_
 refine Zaq ?_
 apply Zai
 case hi => simp only [HIX]; try rfl
 case hw => rfl
 case how => rfl
 refine Zgz (k := to) (n := f0.b) (es := Zls (Zbc (Zdt to fs)) f0.nm) (b := mb) rfl rfl rfl hm2 ZdF ZcW fun υ3 hm3 k3 => ?_
 refine ⟨(fun hf => by cases hf), ?_⟩
 refine Zcg ?_
 have hf0' : f0 ∈ Zdt to fs := Zbx.2 ⟨hf0, hq⟩
 exact ⟨_, Zce rfl, hK2 hq υ3 pv' (hd.movF hf0' (fun f hf => (Zbx.1 hf).2) (k2.trans k3) hm3) (hB.trans ((k2.trans k3).sub fun c hc => by rw [hc]; exact h.own.2.1))⟩
end
end Go.Proofs.Ytinpiaibhjmfaaa
namespace Go.Proofs.Ytinpiaibhjmfaaa
open Go.RowKit
set_option maxRecDepth 100000
set_option linter.unusedVariables false
set_option linter.unusedSimpArgs false
section
variable {σ : St} {bb mb : Nat} {S : Nat -> Prop} {fs : List Fl} {pcs : List (Nat × Nat)} {size : Int} {pv : AV} {K : AV -> St -> Prop}
theorem ZpG {fr to : List UInt8} (h : DAt σ bb S fs pcs size mb pv) (hS : ∀ c, S c -> σ.used c) (hl : pcs.length <= 1000000000)
 (hK2 : (∃ f ∈ fs, f.nm = fr) -> ¬ (to ≠ [] /\ to.length <= 40) -> ∀ τ, Ext σ τ -> K (vI 2) τ)
 (hK6 : (∀ f ∈ fs, f.nm ≠ fr) -> ∀ τ, Ext σ τ -> K (vI 6) τ)
 (hKs : ∀ f0 ∈ fs, f0.nm = fr -> fr = to -> (to ≠ [] /\ to.length <= 40) -> ∀ τ, Ext σ τ -> K (vI 0) τ)
 (hK0 : ∀ f0 ∈ fs, f0.nm = fr -> fr ≠ to -> (to ≠ [] /\ to.length <= 40) -> ∀ τ pv', DAt τ bb S (rnF fs f0 to) (rnP fs pcs to) size mb pv' -> But S σ τ -> K (vI 0) τ) : Zat Try.prog 30 [ptr bb 0, .raw (sV fr), .raw (sV to)] σ K := by
 refine Zam Zas Try.func30 rfl rfl rfl (Nat.le_of_ble_eq_true rfl) ?_
 refine ZaL 0 1 2 (v0 := ptr bb 0) (v1 := .raw (sV fr)) (v2 := .raw (sV to)) rfl rfl rfl ?_
 intro e he
 repeat refine Zac ?_
 first|refine Zaa ?_|refine Zad ?_
 refine Zab ?_
 refine Zdq (cs := [ptr bb 0]) (v := ptr bb 0) he.1 rfl fun b3 σ1 hn3 hu3 hb3 hub3 hX1 => ?_
 refine Zab ?_
 refine Zdq (cs := [.raw (sV fr)]) (v := .raw (sV fr)) he.2.1 rfl fun b4 σ2 hn4 hu4 hb4 hub4 hX2 => ?_
 refine Zab ?_
 refine Zdq (cs := [.raw (sV to)]) (v := .raw (sV to)) he.2.2 rfl fun b5 σ3 hn5 hu5 hb5 hub5 hX3 => ?_
 refine Zab (Zae rfl (by simp only [EV,Nat.reduceEqDiff,↓reduceIte,he];try rfl) ?_)
 refine Zaf ?_
 have hE3 := (hX1.trans hX2).trans hX3
 have h3 := h.ext hE3
 have h3S : ¬ S b3 := fun q => hu3 (hS _ q)
 have h4S : ¬ S b4 := fun q => hu4 (hX1.used _ (hS _ q))
 have h5S : ¬ S b5 := fun q => hu5 (hX2.used _ (hX1.used _ (hS _ q)))
 have hb33 := hX3.keep _ _ (hX2.keep _ _ hb3)
 have hb43 := hX3.keep _ _ hb4
 apply ZaL 3 4 5
 iterate 3 ·simp only [EV,Nat.reduceEqDiff,↓reduceIte,he];try rfl
 clear he e
 intro e he
 refine Zac ?_
 refine ZaZ (fun env υ => ∃ b : Bool, (env 3 = ptr b3 0 /\ env 4 = ptr b4 0 /\ env 5 = ptr b5 0 /\ env 22 = vT b) /\ Ext σ3 υ /\ (b = true -> (∃ f ∈ fs, f.nm = fr) /\ ¬ (to ≠ [] /\ to.length <= 40)) /\ (b = false -> (∃ f ∈ fs, f.nm = fr) -> (to ≠ [] /\ to.length <= 40))) ?_ ?_
 ·refine ZcS ?_
  refine ⟨[0, 1, 2, 3, 4, 5, 6, 7, 8, 9, 10, 11, 12, 13, 14, 15], [[], [0], [0, 1], [0, 1, 2], [0, 1, 2, 3], [0, 1, 2, 3, 4], [0, 1, 2, 3, 4, 5], [0, 1, 2], [0, 1, 2, 3, 4, 5, 6, 7], [0, 1, 2, 3, 4, 5, 6, 7, 8], [0, 1, 2, 3, 4, 5, 6, 7, 8, 9], [0, 1, 2, 3, 4, 5, 6, 7, 8, 9, 10], [0, 1, 2, 3, 4, 5, 6, 7, 8, 9, 10, 11], [0, 1, 2, 3, 4, 5, 6, 7, 8, 9, 10, 11, 12], [0, 1, 2, 3, 4, 5, 6, 7, 8, 9, 10, 11, 12, 13], [0, 1, 2, 3, 4, 5, 6, 7, 8, 9, 10, 11, 12, 13, 14]], fun _ => True, [], [], [], by kernel_rfl, ?_⟩
  apply Zai
  case hi => simp only [HIX]; try rfl
  case hw => rfl
  case how => rfl
  refine Zar (b := b3) (o := 0) (r := ptr bb 0) he.1 hb33 ZcJ ZcK rfl ?_
  refine Zaq ?_
  apply Zai
  case hi => simp only [HIX]; try rfl
  case hw => rfl
  case how => rfl
  refine Zao (vs := [ptr bb 0]) (by simp only [List.map_cons, List.map_nil, EV,Nat.reduceEqDiff,↓reduceIte,he];try rfl) ?_
  refine ZdU h3 ?_
  refine Zaq ?_
  apply Zai
  case hi => simp only [HIX]; try rfl
  case hw => rfl
  case how => rfl
  refine Zae rfl rfl ?_
  refine Zaq ?_
  apply Zai
  case hi => simp only [HIX]; try rfl
  case hw => rfl
  case how => rfl
  refine Zar (b := b3) (o := 0) (r := ptr bb 0) he.1 hb33 ZcJ ZcK rfl ?_
  refine Zaq ?_
  apply Zai
  case hi => simp only [HIX]; try rfl
  case hw => rfl
  case how => rfl
  refine Zak (v := ptr bb 0) rfl rfl ?_
  refine Zaq ?_
  apply Zai
  case hi => simp only [HIX]; try rfl
  case hw => rfl
  case how => rfl
  refine Zag (b := bb) (o := 0) rfl Zbn rfl ?_
  refine Zaq ?_
  apply Zai
  case hi => simp only [HIX]; try rfl
  case hw => rfl
  case how => rfl
  refine Zar (b := bb) (o := 0 + 1) (r := Zc2 mb) rfl h3.obj ZcH ZcG rfl ?_
  refine Zaq ?_
  apply Zai
  case hi => simp only [HIX]; try rfl
  case hw => rfl
  case how => rfl
  refine Zar (b := b4) (o := 0) (r := .raw (sV fr)) he.2.1 hb43 Zb7 ZbJ rfl ?_
  refine Zaq ?_
  apply Zai
  case hi => simp only [HIX]; try rfl
  case hw => rfl
  case how => rfl
  refine Zeb (k := fr) (es := Zbc fs) (b := mb) rfl rfl h3.map ZdF ZcW ZfD ?_
  refine Zaq ?_
  cases hg : Zfa (Zbc fs) fr with
  | none =>
   apply Zai
   case hi => simp only [HIX]; try rfl
   case hw => rfl
   case how => rfl
   refine Zer (p := none) ZdG rfl rfl rfl ?_
   refine Zaq ?_
   apply Zai
   case hi => simp only [HIX]; try rfl
   case hw => rfl
   case how => rfl
   refine ZaG (v := vT false) rfl rfl ?_
   refine Zaq ?_
   apply Zai
   case hi => simp only [HIX]; try rfl
   case hw => rfl
   case how => rfl
   refine Zae rfl rfl ?_
   refine Zaq ?_
   apply Zbl
   case hi => simp only [HIX]; try rfl
   case hg => rfl
   case how => rfl
   apply Zbl
   case hi => simp only [HIX]; try rfl
   case hg => rfl
   case how => rfl
   apply Zbl
   case hi => simp only [HIX]; try rfl
   case hg => rfl
   case how => rfl
   apply Zai
   case hi => simp only [HIX]; try rfl
   case hw => rfl
   case how => rfl
   refine Za2 (v := vT false) rfl rfl ?_
   refine Zaq ?_
   refine Zcg ?_
   refine ⟨rfl, false, ⟨by simp only [EV,Nat.reduceEqDiff,↓reduceIte,he];try rfl, by simp only [EV,Nat.reduceEqDiff,↓reduceIte,he];try rfl, by simp only [EV,Nat.reduceEqDiff,↓reduceIte,he];try rfl, by simp only [EV,Nat.reduceEqDiff,↓reduceIte,he];try rfl⟩, .refl _, (fun q => by cases q), fun _ ⟨f, hf, hn⟩ => absurd hn (ZcA.1 hg f hf)⟩
  | some fb =>
   obtain ⟨f0, hf0, hnm, rfl⟩ := ZcE hg
   apply Zai
   case hi => simp only [HIX]; try rfl
   case hw => rfl
   case how => rfl
   refine Zer (p := some ⟨f0.b, 0, none⟩) ZdG rfl rfl rfl ?_
   refine Zaq ?_
   apply Zai
   case hi => simp only [HIX]; try rfl
   case hw => rfl
   case how => rfl
   refine ZaG (v := vT true) rfl rfl ?_
   refine Zaq ?_
   apply Zai
   case hi => simp only [HIX]; try rfl
   case hw => rfl
   case how => rfl
   refine Zae rfl rfl ?_
   refine Zaq ?_
   apply Zai
   case hi => simp only [HIX]; try rfl
   case hw => rfl
   case how => rfl
   refine Zar (b := b5) (o := 0) (r := .raw (sV to)) he.2.2 hb5 Zb7 ZbJ rfl ?_
   refine Zaq ?_
   apply Zai
   case hi => simp only [HIX]; try rfl
   case hw => rfl
   case how => rfl
   refine Zao (vs := [.raw (sV to)]) (by simp only [List.map_cons, List.map_nil, EV,Nat.reduceEqDiff,↓reduceIte,he];try rfl) ?_
   refine ZjX _ fun υ hX => ?_
   refine ⟨(fun hf => by cases hf), ?_⟩
   apply Zai
   case hi => simp only [HIX]; try rfl
   case hw => rfl
   case how => rfl
   refine ZbB rfl ?_
   refine Zaq ?_
   apply Zai
   case hi => simp only [HIX]; try rfl
   case hw => rfl
   case how => rfl
   refine ZaG (v := vT (!decide (to ≠ [] /\ to.length <= 40))) rfl rfl ?_
   refine Zaq ?_
   refine Zcg ?_
   refine ⟨rfl, !decide (to ≠ [] /\ to.length <= 40), ⟨by simp only [EV,Nat.reduceEqDiff,↓reduceIte,he];try rfl, by simp only [EV,Nat.reduceEqDiff,↓reduceIte,he];try rfl, by simp only [EV,Nat.reduceEqDiff,↓reduceIte,he];try rfl, by simp only [EV,Nat.reduceEqDiff,↓reduceIte,he];try rfl⟩, hX, fun q => ⟨⟨f0, hf0, hnm⟩, ?_⟩, fun q _ => ?_⟩
   ·rw [Bool.not_eq_true'] at q
    exact of_decide_eq_false q
   ·rw [Bool.not_eq_false'] at q
    exact of_decide_eq_true q
 clear he e
 rintro e υ ⟨b, he, hX, g1, g2⟩
 refine Zav (t := b) he.2.2.2 (fun hb => ?_) (fun hb => ?_)
 ·repeat refine Zac ?_
  first|refine Zaa ?_|refine Zad ?_
  refine Zab (Zae rfl (by simp only [EV,Nat.reduceEqDiff,↓reduceIte,he];try rfl) ?_)
  refine Zaf ?_
  refine Zcw ?_
  obtain ⟨q1, q2⟩ := g1 hb
  show ∃ r, Zaj _ _ _ _ r /\ _
  exact ⟨_, Zal rfl rfl, hK2 q1 q2 υ (hE3.trans hX)⟩
 have g2 := g2 hb
 refine Zaz ?_
 have hE := hE3.trans hX
 have hb3' := hX.keep _ _ hb33
 have hb4' := hX.keep _ _ hb43
 have hb5' := hX.keep _ _ hb5
 repeat refine Zac ?_
 first|refine Zaa ?_|refine Zad ?_
 refine Zab ?_
 refine Zar (b := b3) (o := 0) (r := ptr bb 0) he.1 hb3' ZcJ ZcK rfl ?_
 refine Zab ?_
 refine ZdS (vs := [ptr b4 0, ptr b5 0, ptr b3 0]) (by simp only [List.map_cons, List.map_nil, EV,Nat.reduceEqDiff,↓reduceIte,he];try rfl) ?_
 refine Zab ?_
 refine Zar (b := b4) (o := 0) (r := .raw (sV fr)) he.2.1 hb4' Zb7 ZbJ rfl ?_
 refine Zab ?_
 refine Zdr (vs := [.raw (sV fr)]) (cells := [.raw (sV fr)]) (by simp only [List.map_cons, List.map_nil, EV,Nat.reduceEqDiff,↓reduceIte,he];try rfl) ZaE ZbJ ZhK rfl (by omega) rfl rfl fun b26 υ5 hN5 hX5 => ?_
 have hE5 := hE.trans hX5
 have h5 := h.ext hE5
 have hNm : ∀ υ, Zc6 υ (.lst (some ⟨b26, 0, none⟩) 1 1 [.raw (sV fr)]) [fr] := fun υ => .inl ⟨some ⟨b26, 0, none⟩, 1, [], rfl, fun q => (by cases q)⟩
 refine Zab ?_
 refine Zao (vs := [ptr bb 0, fnG 62 #[] #[.pointer (some ⟨b4, 0, none⟩), .pointer (some ⟨b5, 0, none⟩), .pointer (some ⟨b3, 0, none⟩)], .lst (some ⟨b26, 0, none⟩) 1 1 [.raw (sV fr)]]) (by simp only [List.map_cons, List.map_nil, EV,Nat.reduceEqDiff,↓reduceIte,he];try rfl) ?_
 refine ZhE (ns := [fr]) (fun i τ => match i with
  | 0 => τ = υ5
  | _ => K (vI 0) τ) h5 (hNm _) (by simp) rfl (fun i hi τ hI => ?_) (fun τ hI => ?_)
 ·obtain rfl : i = 0 := by simp at hi; exact hi
  have hI : τ = υ5 := hI
  subst hI
  refine ⟨S, fs, pcs, size, mb, pv, h5, hNm _, fun hg => ?_, fun fb hg => ?_⟩
  ·refine Zab (Zae rfl (by simp only [EV,Nat.reduceEqDiff,↓reduceIte,he];try rfl) ?_)
   refine Zaf ?_
   refine Zax ?_
   show ∃ r, Zaj _ _ _ _ r /\ _
   exact ⟨_, Zal rfl rfl, hK6 (ZcA.1 hg) _ hE5⟩
  ·obtain ⟨f0, hf0, hnm, rfl⟩ := ZcE hg
   have hnm : f0.nm = fr := hnm
   refine Zoz (to := to) h5 hl hf0 (by rw [hnm]; exact hX5.keep _ _ hb4') (hX5.keep _ _ hb5') (hX5.keep _ _ hb3') h4S h5S h3S (fun q => ?_) fun q τ2 pv' d1 d2 => ?_
   ·exact hKs f0 hf0 hnm (hnm ▸ q) (g2 ⟨f0, hf0, hnm⟩) _ hE5
   ·exact hK0 f0 hf0 hnm (hnm ▸ q) (g2 ⟨f0, hf0, hnm⟩) τ2 pv' d1 (hE5.but.trans d2)
 ·refine Zab (Zae rfl (by simp only [EV,Nat.reduceEqDiff,↓reduceIte,he];try rfl) ?_)
  refine Zaf ?_
  refine Zax ?_
  show ∃ r, Zaj _ _ _ _ r /\ _
  exact ⟨_, Zal rfl rfl, hI⟩
end
end Go.Proofs.Ytinpiaibhjmfaaa
