/- XDi, XDj, XDt, XDtb, XDtc, XIw, XIv, XIa, XIl, XIk in one. -/
import Derived.Test.YteempnebenjkmaaDoorMe
import Derived.Laws.IdiomRangeMap
import Derived.Maps.RangeRun
import Derived.Test.YteempnebenjkmaaDoorMf
import Derived.Test.YteempnebenjkmaaDoorSl
import Derived.Test.YteempnebenjkmaaDoorBy
import Derived.Test.YteempnebenjkmaaDoorG1
import Derived.Test.YteempnebenjkmaaDoorHx
import Derived.Test.YteempnebenjkmaaDoorLy
import Derived.Lib.ItoaLen
namespace Go.Proofs.YteempnebenjkmaaDoor
open Go.RowKit
open Go.ChangeMaps (setBlock)
set_option linter.unusedSimpArgs false
set_option maxRecDepth 100000
set_option linter.unusedVariables false
section
variable {w : World} {σ : St} {Z : Nat -> Prop}
end
section
variable {P : Program} {ops : Array Oper} {env : Env} {σ τ : St} {K : Env -> St -> Prop} {d : Option Nat} {ty t kt et : TypeId} {pos : String} {af : Array Edge} {x y : Operand} {b ib : Nat} {l : List Oper}
end
structure Zz9 (arr : Array MapEntry) (seen : Array Nat) (D : List MapEntry) : Prop where
 sub : ∀ e ∈ D, e ∈ arr.toList
 at_ : seen.toList = D.map (·.born)
 nd : (D.map (·.born)).Nodup
theorem Zz9.nil (arr : Array MapEntry) : Zz9 arr #[] [] := ⟨(fun e he => by cases he), rfl, by simp⟩
theorem Zz9.push {arr : Array MapEntry} {seen : Array Nat} {D : List MapEntry} (h : Zz9 arr seen D) {e : MapEntry} (he : e ∈ (leftOf arr seen).toList) : Zz9 arr (seen.push e.born) (D ++ [e]) := by
 obtain ⟨m1, m2⟩ := mem_left he
 refine ⟨fun x hx => ?_, by rw [Array.toList_push, h.at_, List.map_append]; rfl, ?_⟩
 ·rcases List.mem_append.1 hx with hx | hx
  ·exact h.sub x hx
  ·rw [List.mem_singleton.1 hx]; exact m1
 ·rw [List.map_append, List.nodup_append]
  refine ⟨h.nd, by simp, fun a ha b hb e2 => ?_⟩
  simp at hb
  subst hb e2
  rw [<- h.at_] at ha
  have : seen.contains e.born = true := by
   rw [Array.contains_iff_mem]
   exact Array.mem_def.2 ha
  rw [this] at m2
  cases m2
end Go.Proofs.YteempnebenjkmaaDoor
namespace Go.Proofs.YteempnebenjkmaaDoor
open Go.RowKit
set_option linter.unusedSimpArgs false
set_option maxRecDepth 100000
set_option linter.unusedVariables false
section
variable {P : Program}
variable {ops : Array Oper} {env : Env} {σ τ : St} {K : Env -> St -> Prop} {d : Option Nat} {ty ty' t kt et : TypeId} {pos : String} {af : Array Edge} {x y z : Operand} {b k n m : Nat} {es : List (Nat × Nat)}
theorem Zs2 {l : List MapEntry} {j c : Nat} (h1 : ∀ n ∈ l.map fun e : MapEntry => e.born, n < c) (h2 : (l.map fun e : MapEntry => e.born).Nodup) : (∀ n ∈ (l.eraseIdx j).map fun e : MapEntry => e.born, n < c) /\ ((l.eraseIdx j).map fun e : MapEntry => e.born).Nodup := by
 have hs : ((l.eraseIdx j).map fun e : MapEntry => e.born).Sublist (l.map fun e : MapEntry => e.born) := (List.eraseIdx_sublist l j).map _
 exact ⟨fun n hn => h1 n (hs.subset hn), hs.nodup h2⟩
theorem ZpY {b : Nat} {es : Dir} {k : List UInt8} (hx : ev env x = ZdZ b) (hy : ev env y = .raw (sV k)) (hb : σ.blk b = some (.map (Zjv es))) (t1 : P.underlying t = some (.map kt et)) (t2 : P.underlying kt = some .string)
 (h : ∀ τ, τ.blk b = some (.map (Zjv (ZuH es k))) -> But (fun c => c = b) σ τ -> K (env.put d (.raw (.tuple #[]))) τ) : aOp P ops ⟨d, .call ⟨.builtin .delete, #[x, y], #[t, ty']⟩, ty, pos, af, none⟩ env σ K := by
 rw [ZaW rfl]
 have hvs : ((.call ⟨.builtin .delete, #[x, y], #[t, ty']⟩ : Op).operands.toList.map (ev env)) = [ZdZ b, .raw (sV k)] := by simp [Op.operands, Call.operands, hx, hy]
 show ZdP P _ (Op.operands _ |>.toList.map (ev env)) σ _
 rw [hvs]
 refine .inr ⟨rfl, fun ρv hρ w Z hH hV => ?_⟩
 obtain ⟨_, arr, c, hh, harr, hfr1, hfr2⟩ := hH.mapAt hb (ZhV _)
 have hρ' := hρ
 simp [Op.operands, Call.operands, ZdZ] at hρ'
 have fin : ∀ (arr' : Array MapEntry), ((∀ n ∈ arr'.toList.map fun e : MapEntry => e.born, n < c) /\ (arr'.toList.map fun e : MapEntry => e.born).Nodup) -> arr'.toList.map (fun e : MapEntry => (e.key, e.val)) = Zjv (ZuH es k) -> (Builtin.delete_ #[t, ty'] ty #[.map (some b), sV k]).run P w = .ok (.tuple #[]) (ZdK w b arr' c) ->
  ∃ r σ' w', ((execOp ρv ⟨d, .call ⟨.builtin .delete, #[x, y], #[t, ty']⟩, ty, pos, af, none⟩).run P w = .ok (.value r.val) w' \/ (execOp ρv ⟨d, .call ⟨.builtin .delete, #[x, y], #[t, ty']⟩, ty, pos, af, none⟩).run P w = .ok .skip w' /\ r = .raw undef) /\ K (env.put d r) σ' /\ Zam w' σ' Z /\ Zae w' (σ'.free Z) r /\ Grow w σ w' σ' := by
  intro arr' h0 h1 h2
  obtain ⟨q1, q2⟩ := hH.write_map (a' := arr') (c' := c) hb hh h0 (by rw [h1]; exact ZhV _)
  rw [h1] at q1 q2
  refine ⟨.raw (.tuple #[]), _, ZdK w b arr' c, .inl ?_, h _ ?_ ?_, q1, ZaA _, q2⟩
  ·simp [execOp, resolve, invoke, builtin, hρ', h2]
  ·show (if b = b then _ else σ.blk b) = _
   rw [if_pos rfl]
  ·exact ⟨fun c' k' hc hk => by
    show (if c' = b then _ else σ.blk c') = _
    rw [if_neg hc]; exact hk, fun c' hc => hc⟩
 have pre : ∀ r, Zvj k es 0 = r -> (Builtin.delete_ #[t, ty'] ty #[.map (some b), sV k]).run P w = (match r with
  | some (j, _) => (do setObj b (.map (arr.eraseIdxIfInBounds j) c); pure (.tuple #[]) : Sem Value)
  | none => (do setObj b (.map arr c); pure (.tuple #[]) : Sem Value)).run P w := by
  intro r hr
  unfold Builtin.delete_
  simp only [List.getElem?_toArray, List.getElem?_cons_zero, List.getElem?_cons_succ]
  rw [Sem.run_bind, run_underlying t1]
  dsimp only [Result.andThen]
  rw [Sem.run_bind, Zni hh]
  dsimp only [Result.andThen]
  rw [Sem.run_bind, Zmw t2]
  dsimp only [Result.andThen]
  rw [Sem.run_bind, ZqV t2 harr, hr]
  dsimp only [Result.andThen]
  cases r <;> rfl
 rcases Zjw (k := k) 0 harr with ⟨m1, m2, _, m4⟩ | ⟨j, n, m1, m2, _, _, m5⟩
 ·refine fin arr ⟨hfr1, hfr2⟩ (by rw [harr, m4]) ?_
  rw [pre _ m2, Sem.run_bind, Znj hh]
  rfl
 ·rw [Nat.zero_add] at m2
  refine fin (arr.eraseIdxIfInBounds j) ?_ ?_ ?_
  ·rw [Array.toList_eraseIdxIfInBounds]
   exact Zs2 hfr1 hfr2
  ·rw [Array.toList_eraseIdxIfInBounds]
   exact m5
  ·rw [pre _ m2, Sem.run_bind, Znj hh]
   rfl
end
end Go.Proofs.YteempnebenjkmaaDoor
namespace Go.Proofs.YteempnebenjkmaaDoor
open Go.RowKit
set_option maxRecDepth 100000
set_option linter.unusedVariables false
set_option linter.unusedSimpArgs false
theorem Zoz : ZaR Tryd.prog 9 = some (.string ⟨#[]⟩) := by kernel_rfl
abbrev ZkZ (k : List UInt8) (fs : List Fl) : List Fl := fs.filter fun f => !decide (f.nm = k)
theorem ZpZ {k : List UInt8} {fs : List Fl} (h : ∀ f ∈ fs, f.nm ≠ k) : ZkZ k fs = fs := List.filter_eq_self.2 fun f hf => by simp [h f hf]
theorem ZhY {k : List UInt8} {fs : List Fl} {f : Fl} : f ∈ ZkZ k fs ↔ f ∈ fs /\ f.nm ≠ k := by simp [ZkZ]
theorem ZoA {k : List UInt8} : ∀ {fs : List Fl}, (fs.map (·.nm)).Nodup -> ZuH (ZbC fs) k = ZbC (ZkZ k fs)
 | [], _ => rfl
 | f :: fs, h => by
  rw [List.map_cons, List.nodup_cons] at h
  show (if k = f.nm then ZbC fs else (f.nm, f.b) :: ZuH (ZbC fs) k) = _
  by_cases hk : k = f.nm
  ·rw [if_pos hk]
   have : ZkZ k (f :: fs) = ZkZ k fs := by simp [ZkZ, hk]
   rw [this, ZpZ fun g hg e => h.1 (List.mem_map.2 ⟨g, hg, by rw [e, hk]⟩)]
  ·rw [if_neg hk, ZoA h.2]
   have : ZkZ k (f :: fs) = f :: ZkZ k fs := by simp [ZkZ, Ne.symm hk]
   rw [this]
   rfl
section
variable {σ τ : St} {bb mb : Nat} {S : Nat -> Prop} {fs : List Fl} {pcs : List (Nat × Nat)} {size : Int} {pv : AV}
theorem ZjC {α β : Type} {f : α -> β} {l m : List α} (h : (l.map f).Nodup) (hs : m.Sublist l) : (m.map f).Nodup := (hs.map f).nodup h
theorem DAt.delF (h : DAt σ bb S fs pcs size mb pv) {k : List UInt8} (hp : ∀ p ∈ pcs, ∃ f ∈ ZkZ k fs, f.b = p.1) (k4 : But (fun c => c = mb) σ τ) (hm : τ.blk mb = some (.map (Zjv (ZuH (ZbC fs) k)))) : DAt τ bb S (ZkZ k fs) pcs size mb pv := by
 obtain ⟨o1, o2, o3, o4⟩ := h.own
 have hH : ∀ {e sz n : Nat} {u : AV} {cs : List AV}, Hd σ e sz u n cs -> Hd τ e sz u n cs := fun {e sz n u cs} hu => hu.but k4 fun c hc hq => by
  obtain ⟨all, hall⟩ := hu.blk hc
  exact ZfE hall h.map hq
 have hsub : (ZkZ k fs).Sublist fs := List.filter_sublist
 refine ⟨k4.keep _ _ (fun q => ZfE h.obj h.map q) h.obj, k4.used _ h.used, by rw [hm, ZoA h.nn], k4.used _ h.umap, fun f hf => ?_, ZjC h.nd hsub, ZjC h.nn hsub, fun f hf g hg => h.far f (hsub.subset hf) g (hsub.subset hg), hH h.pc, ⟨o1, o2, fun f hf => o3 f (hsub.subset hf), o4⟩, hp⟩
 obtain ⟨q1, q2, q3⟩ := h.file f (hsub.subset hf)
 exact ⟨k4.keep _ _ (fun q => ZfE q1 h.map q) q1, k4.used _ q2, hH q3⟩
theorem DAt.uniqN (h : DAt σ bb S fs pcs size mb pv) {f g : Fl} (hf : f ∈ fs) (hg : g ∈ fs) (e : f.nm = g.nm) : f = g := by
 have hnd := h.nn
 clear h
 induction fs with
 | nil => cases hf
 | cons a l ih =>
  rw [List.map_cons, List.nodup_cons] at hnd
  rcases List.mem_cons.1 hf with e1 | h1 <;> rcases List.mem_cons.1 hg with e2 | h2
  ·rw [e1, e2]
  ·exact absurd (List.mem_map.2 ⟨g, h2, by rw [<- e, e1]⟩) hnd.1
  ·exact absurd (List.mem_map.2 ⟨f, h1, by rw [e, e2]⟩) hnd.1
  ·exact ih h1 h2 hnd.2
theorem DAt.movF (h : DAt σ bb S fs pcs size mb pv) {f0 : Fl} (hf0 : f0 ∈ fs) {to : List UInt8} (hto : ∀ f ∈ fs, f.nm ≠ to) (k4 : But (fun c => c = mb) σ τ) (hm : τ.blk mb = some (.map (Zjv (Zwl (ZuH (ZbC fs) f0.nm) to f0.b)))) : DAt τ bb S (ZkZ f0.nm fs ++ [⟨to, f0.b, f0.v, f0.d⟩]) pcs size mb pv := by
 obtain ⟨o1, o2, o3, o4⟩ := h.own
 have hH : ∀ {e sz n : Nat} {u : AV} {cs : List AV}, Hd σ e sz u n cs -> Hd τ e sz u n cs := fun {e sz n u cs} hu => hu.but k4 fun c hc hq => by
  obtain ⟨all, hall⟩ := hu.blk hc
  exact ZfE hall h.map hq
 have hsub : (ZkZ f0.nm fs).Sublist fs := List.filter_sublist
 have hnb : ∀ f ∈ ZkZ f0.nm fs, f.b ≠ f0.b := fun f hf e => (ZhY.1 hf).2 (by rw [h.uniq (ZhY.1 hf).1 hf0 e])
 have hfile : ∀ f ∈ fs, τ.blk f.b = some (.own 105 [f.v]) /\ τ.used f.b /\ Hd τ 5 1 f.v f.d.length (bys f.d) := fun f hf => by
  obtain ⟨q1, q2, q3⟩ := h.file f hf
  exact ⟨k4.keep _ _ (fun q => ZfE q1 h.map q) q1, k4.used _ q2, hH q3⟩
 refine ⟨k4.keep _ _ (fun q => ZfE h.obj h.map q) h.obj, k4.used _ h.used, ?_, k4.used _ h.umap, fun f hf => ?_, ?_, ?_, fun f hf g hg x hx hy => ?_, hH h.pc, ⟨o1, o2, fun f hf => ?_, o4⟩, fun p hp => ?_⟩
 ·rw [hm, ZoA h.nn, ZrS _ fun f hf => hto f (hsub.subset hf)]
  unfold ZbC
  rw [List.map_append]
  rfl
 ·rcases List.mem_append.1 hf with hf | hf
  ·exact hfile f (hsub.subset hf)
  ·rw [List.mem_singleton.1 hf]
   exact hfile f0 hf0
 ·rw [List.map_append, List.nodup_append]
  refine ⟨ZjC h.nd hsub, by simp, fun a ha b hb e => ?_⟩
  obtain ⟨f, hf, rfl⟩ := List.mem_map.1 ha
  simp at hb
  exact hnb f hf (e.trans hb)
 ·rw [List.map_append, List.nodup_append]
  refine ⟨ZjC h.nn hsub, by simp, fun a ha b hb e => ?_⟩
  obtain ⟨f, hf, rfl⟩ := List.mem_map.1 ha
  simp at hb
  exact hto f (hsub.subset hf) (e.trans hb)
 ·rcases List.mem_append.1 hf with hf | hf <;> rcases List.mem_append.1 hg with hg | hg
  ·exact h.far f (hsub.subset hf) g (hsub.subset hg) x hx hy
  ·rw [List.mem_singleton.1 hg] at hy ⊢
   exact h.far f (hsub.subset hf) f0 hf0 x hx hy
  ·rw [List.mem_singleton.1 hf] at hx ⊢
   exact h.far f0 hf0 g (hsub.subset hg) x hx hy
  ·rw [List.mem_singleton.1 hf, List.mem_singleton.1 hg]
 ·rcases List.mem_append.1 hf with hf | hf
  ·exact o3 f (hsub.subset hf)
  ·rw [List.mem_singleton.1 hf]
   exact o3 f0 hf0
 ·obtain ⟨f, hf, e⟩ := h.inn p hp
  by_cases hn : f.nm = f0.nm
  ·have : f = f0 := h.uniqN hf hf0 hn
   exact ⟨_, List.mem_append_right _ List.mem_cons_self, by rw [<- e, this]⟩
  ·exact ⟨f, List.mem_append_left _ (ZhY.2 ⟨hf, hn⟩), e⟩
end
section
variable {σ : St} {bb mb : Nat} {S : Nat -> Prop} {fs : List Fl} {pcs : List (Nat × Nat)} {size : Int} {pv : AV} {K : AV -> St -> Prop}
theorem Zu3 (h : DAt σ bb S fs pcs size mb pv) (hl : pcs.length <= 1000000000) {f0 : Fl} (hf0 : f0 ∈ fs) (hK : ∀ τ pv', DAt τ bb S (ZkZ f0.nm fs) (pcs.filter fun p => !decide (p.1 = f0.b)) size mb pv' -> But S σ τ -> K (.tup []) τ) : Zay Tryd.prog 76 [ptr bb 0, .raw (sV f0.nm), ptr f0.b 0] σ K := by
 refine ZaG ZaN Tryd.func76 rfl rfl rfl (Nat.le_of_ble_eq_true rfl) ?_
 refine Zb5 0 1 2 (v0 := ptr bb 0) (v1 := .raw (sV f0.nm)) (v2 := ptr f0.b 0) rfl rfl rfl ?_
 intro e he
 first | refine Zaa ?_ | refine Zad ?_ | (refine Zac ?_; refine Zaa ?_) | (refine Zac ?_; refine Zac ?_; refine Zaa ?_)
 refine Zab (Zak rfl (by simp only [EV, Nat.reduceEqDiff, ↓reduceIte, he] <;> try rfl) ?_)
 refine Zab ?_
 refine Zau (v := ptr bb 0) (by simp only [EV, Nat.reduceEqDiff, ↓reduceIte, he] <;> try rfl) rfl ?_
 refine Zab ?_
 refine Zaf (b := bb) (o := 0) (by simp only [EV, Nat.reduceEqDiff, ↓reduceIte, he] <;> try rfl) Zcg rfl ?_
 refine Zab (Zak rfl (by simp only [EV, Nat.reduceEqDiff, ↓reduceIte, he] <;> try rfl) ?_)
 refine Zab ?_
 refine Za9 (vs := [ptr bb 0, ptr f0.b 0]) (by simp only [List.map_cons, List.map_nil, EV, Nat.reduceEqDiff, ↓reduceIte, he] <;> try rfl) ?_
 refine ZuY h hl hf0 fun τ pv' h1 hB1 => ?_
 refine Zah ?_
 apply ZcT 0 1
 ·simp only [EV, Nat.reduceEqDiff, ↓reduceIte, he] <;> try rfl
 ·simp only [EV, Nat.reduceEqDiff, ↓reduceIte, he] <;> try rfl
 clear he e
 intro e he
 refine Zad ?_
 refine Zab (Zak rfl (by simp only [EV, Nat.reduceEqDiff, ↓reduceIte, he] <;> try rfl) ?_)
 refine Zab ?_
 refine Zau (v := ptr bb 0) (by simp only [EV, Nat.reduceEqDiff, ↓reduceIte, he] <;> try rfl) rfl ?_
 refine Zab ?_
 refine Zaf (b := bb) (o := 0) (by simp only [EV, Nat.reduceEqDiff, ↓reduceIte, he] <;> try rfl) Zcg rfl ?_
 refine Zab ?_
 refine ZaD (b := bb) (o := 0 + 1) (r := ZdZ mb) (by simp only [EV, Nat.reduceEqDiff, ↓reduceIte, he] <;> try rfl) h1.obj Ze6 Ze5 rfl ?_
 refine Zab (Zak rfl (by simp only [EV, Nat.reduceEqDiff, ↓reduceIte, he] <;> try rfl) ?_)
 refine Zab ?_
 refine ZpY (k := f0.nm) (es := ZbC fs) (b := mb) (by simp only [EV, Nat.reduceEqDiff, ↓reduceIte, he] <;> try rfl) (by simp only [EV, Nat.reduceEqDiff, ↓reduceIte, he] <;> try rfl) h1.map Zg3 Zkv fun τ2 hm2 k2 => ?_
 refine Zah ?_
 refine ⟨_, ZgA rfl, hK τ2 pv' (h1.delF (fun p hp => ?_) k2 hm2) (hB1.trans (k2.sub fun c hc => by rw [hc]; exact h.own.2.1))⟩
 obtain ⟨f, hf, e⟩ := h1.inn p hp
 refine ⟨f, ZhY.2 ⟨hf, fun q => ?_⟩, e⟩
 have hp2 := (List.mem_filter.1 hp).2
 rw [h.uniqN hf hf0 q] at e
 simp [e] at hp2
end
end Go.Proofs.YteempnebenjkmaaDoor
namespace Go.Proofs.YteempnebenjkmaaDoor
open Go.RowKit
set_option maxRecDepth 100000
set_option linter.unusedVariables false
set_option linter.unusedSimpArgs false
def Ziq : List (List UInt8) -> List Fl -> List (Nat × Nat) -> List Fl × List (Nat × Nat) × Nat
 | [], fs, pcs => (fs, pcs, 0)
 | n :: ns, fs, pcs => match ZjF (ZbC fs) n with
  | none => (fs, pcs, 6)
  | some fb => Ziq ns (ZkZ n fs) (pcs.filter fun p => !decide (p.1 = fb))
theorem Zu4 {fs : List Fl} {n : List UInt8} {ns : List (List UInt8)} {pcs : List (Nat × Nat)} (h : ZjF (ZbC fs) n = none) : Ziq (n :: ns) fs pcs = (fs, pcs, 6) := by
 unfold Ziq
 rw [h]
theorem Zu5 {fs : List Fl} {n : List UInt8} {ns : List (List UInt8)} {pcs : List (Nat × Nat)} {fb : Nat} (h : ZjF (ZbC fs) n = some fb) : Ziq (n :: ns) fs pcs = Ziq ns (ZkZ n fs) (pcs.filter fun p => !decide (p.1 = fb)) := by
 conv => lhs; unfold Ziq
 rw [h]
theorem ZwH {fs : List Fl} {pcs : List (Nat × Nat)} : Ziq [] fs pcs = (fs, pcs, 0) := rfl
def rnP (fs : List Fl) (pcs : List (Nat × Nat)) (to : List UInt8) : List (Nat × Nat) := match ZjF (ZbC fs) to with
 | none => pcs
 | some ob => pcs.filter fun p => !decide (p.1 = ob)
def rnF (fs : List Fl) (f0 : Fl) (to : List UInt8) : List Fl := ZkZ f0.nm (ZkZ to fs) ++ [⟨to, f0.b, f0.v, f0.d⟩]
section
variable {σ : St} {bb mb : Nat} {S : Nat -> Prop} {fs : List Fl} {pcs : List (Nat × Nat)} {size : Int} {pv : AV} {K : AV -> St -> Prop}
theorem ZAa (h : DAt σ bb S fs pcs size mb pv) (hl : pcs.length <= 1000000000) {v : AV} {ns : List (List UInt8)} (hN : Zjz σ v ns) (hNS : ∀ c, hbk v = some c -> ¬ S c) (hnl : ns.length <= 1000000000)
 (hK : ∀ τ pv', DAt τ bb S (Ziq ns fs pcs).1 (Ziq ns fs pcs).2.1 size mb pv' -> But S σ τ -> K (vI (Ziq ns fs pcs).2.2) τ) : Zay Tryd.prog 56 [ptr bb 0, v] σ K := by
 refine ZaG ZaN Tryd.func56 rfl rfl rfl (Nat.le_of_ble_eq_true rfl) ?_
 refine ZcT 0 1 (v0 := ptr bb 0) (v1 := v) rfl rfl ?_
 intro e he
 first | refine Zaa ?_ | refine Zad ?_ | (refine Zac ?_; refine Zaa ?_) | (refine Zac ?_; refine Zac ?_; refine Zaa ?_)
 refine Zab (Zak rfl (by simp only [EV, Nat.reduceEqDiff, ↓reduceIte, he] <;> try rfl) ?_)
 refine Zah ?_
 apply ZcT 0 1
 ·simp only [EV, Nat.reduceEqDiff, ↓reduceIte, he] <;> try rfl
 ·simp only [EV, Nat.reduceEqDiff, ↓reduceIte, he] <;> try rfl
 clear he e
 intro e he
 first | refine Zaa ?_ | refine Zad ?_ | (refine Zac ?_; refine Zaa ?_) | (refine Zac ?_; refine Zac ?_; refine Zaa ?_)
 refine Zab (Zak rfl (by simp only [EV, Nat.reduceEqDiff, ↓reduceIte, he] <;> try rfl) ?_)
 refine Zab (Zak rfl (by simp only [EV, Nat.reduceEqDiff, ↓reduceIte, he] <;> try rfl) ?_)
 refine Zab ?_
 refine ZuN (us := [ptr bb 0]) (vs := []) (by simp only [List.map_cons, List.map_nil, EV, Nat.reduceEqDiff, ↓reduceIte, he] <;> try rfl) rfl ?_
 refine Zab (Zak rfl (by simp only [EV, Nat.reduceEqDiff, ↓reduceIte, he] <;> try rfl) ?_)
 refine Zab ?_
 refine Za9 (vs := [ptr bb 0, fnG 76 #[.pointer (some ⟨bb, 0, none⟩)] #[], v]) (by simp only [List.map_cons, List.map_nil, EV, Nat.reduceEqDiff, ↓reduceIte, he] <;> try rfl) ?_
 have hfin : ∀ (a : Nat) (τ : St), (∃ pv', DAt τ bb S (Ziq ns fs pcs).1 (Ziq ns fs pcs).2.1 size mb pv') -> But S σ τ -> a = (Ziq ns fs pcs).2.2 -> K (vI a) τ := fun a τ ⟨pv', q1⟩ q2 q3 => by
  rw [q3]; exact hK τ pv' q1 q2
 refine Zq0 (fun i υ => ∃ fs' pcs' pv', DAt υ bb S fs' pcs' size mb pv' /\ pcs'.length <= 1000000000 /\ Ziq (ns.drop i) fs' pcs' = Ziq ns fs pcs /\ But S σ υ /\ Zjz υ v ns) h hN hnl ⟨fs, pcs, pv, h, hl, rfl, .refl _ _, hN⟩ (fun i hi υ => ?_) (fun υ => ?_)
 ·rintro ⟨fs', pcs', pv', g1, g2, g3, g4, g6⟩
  rw [List.drop_eq_getElem_cons hi] at g3
  refine ⟨S, fs', pcs', size, mb, pv', g1, g6, fun hg => ?_, fun fb hg => ?_⟩
  ·rw [Zu4 hg] at g3
   refine Zab (Zak rfl (by simp only [EV, Nat.reduceEqDiff, ↓reduceIte, he] <;> try rfl) ?_)
   refine Zah ?_
   refine Zbm ?_
   refine ⟨_, ZaZ rfl (by simp only [EV, Nat.reduceEqDiff, ↓reduceIte, he] <;> try rfl), hfin 6 υ ⟨pv', ?_⟩ g4 ?_⟩
   ·rw [<- g3]; exact g1
   ·rw [<- g3]
  ·rw [Zu5 hg] at g3
   obtain ⟨f0, hf0, hnm, rfl⟩ := ZfD hg
   show Zay Tryd.prog 76 [ptr bb 0, .raw (sV ns[i]), ptr f0.b 0] υ _
   rw [<- hnm] at g3 ⊢
   refine Zu3 g1 g2 hf0 fun τ pv2 k1 k2 => ⟨_, _, pv2, k1, Nat.le_trans (List.length_filter_le _ _) g2, g3, g4.trans k2, g6.but k2 hNS⟩
 ·rintro ⟨fs', pcs', pv', g1, g2, g3, g4, g6⟩
  rw [List.drop_eq_nil_of_le (Nat.le_refl _), ZwH] at g3
  refine Zab (Zak rfl (by simp only [EV, Nat.reduceEqDiff, ↓reduceIte, he] <;> try rfl) ?_)
  refine Zah ?_
  refine Zbm ?_
  refine ⟨_, ZaZ rfl (by simp only [EV, Nat.reduceEqDiff, ↓reduceIte, he] <;> try rfl), hfin 0 υ ⟨pv', ?_⟩ g4 ?_⟩
  ·rw [<- g3]; exact g1
  ·rw [<- g3]
theorem ZyE {k to : List UInt8} {b2 b3 b4 : Nat} (h : DAt σ bb S fs pcs size mb pv) (hl : pcs.length <= 1000000000) {f0 : Fl} (hf0 : f0 ∈ fs) (hb2 : σ.blk b2 = some (.own 9 [.raw (sV f0.nm)])) (hb3 : σ.blk b3 = some (.own 9 [.raw (sV to)])) (hb4 : σ.blk b4 = some (.own 40 [ptr bb 0])) (hn2 : ¬ S b2) (hn3 : ¬ S b3) (hn4 : ¬ S b4)
 (hK1 : f0.nm = to -> K (.tup []) σ) (hK2 : f0.nm ≠ to -> ∀ τ pv', DAt τ bb S (rnF fs f0 to) (rnP fs pcs to) size mb pv' -> But S σ τ -> K (.tup []) τ) : Zay Tryd.prog 81 [.raw (sV k), ptr f0.b 0, ptr b2 0, ptr b3 0, ptr b4 0] σ K := by
 refine ZaG ZaN Tryd.func81 rfl rfl rfl (Nat.le_of_ble_eq_true rfl) ?_
 refine ZcU 1 2 3 4 (v0 := ptr f0.b 0) (v1 := ptr b2 0) (v2 := ptr b3 0) (v3 := ptr b4 0) rfl rfl rfl rfl ?_
 intro e he
 first | refine Zaa ?_ | refine Zad ?_ | (refine Zac ?_; refine Zaa ?_) | (refine Zac ?_; refine Zac ?_; refine Zaa ?_)
 refine Zab ?_
 refine ZaD (b := b2) (o := 0) (r := .raw (sV f0.nm)) (by simp only [EV, Nat.reduceEqDiff, ↓reduceIte, he] <;> try rfl) hb2 ZdH Zcp rfl ?_
 refine Zab ?_
 refine ZaD (b := b3) (o := 0) (r := .raw (sV to)) (by simp only [EV, Nat.reduceEqDiff, ↓reduceIte, he] <;> try rfl) hb3 ZdH Zcp rfl ?_
 refine Zab ?_
 refine Zwr (a := f0.nm) (c := to) Zkv (by simp only [EV, Nat.reduceEqDiff, ↓reduceIte, he] <;> try rfl) (by simp only [EV, Nat.reduceEqDiff, ↓reduceIte, he] <;> try rfl) ?_
 refine Zah ?_
 apply Zg6 1 2 3 4 10
 ·simp only [EV, Nat.reduceEqDiff, ↓reduceIte, he] <;> try rfl
 ·simp only [EV, Nat.reduceEqDiff, ↓reduceIte, he] <;> try rfl
 ·simp only [EV, Nat.reduceEqDiff, ↓reduceIte, he] <;> try rfl
 ·simp only [EV, Nat.reduceEqDiff, ↓reduceIte, he] <;> try rfl
 ·simp only [EV, Nat.reduceEqDiff, ↓reduceIte, he] <;> try rfl
 clear he e
 intro e he
 refine Zbu (t := decide (f0.nm = to)) (by simp only [EV, Nat.reduceEqDiff, ↓reduceIte, he] <;> try rfl) (fun hq => ?_) (fun hq => ?_)
 ·refine ZmK ?_
  exact ⟨_, ZgA rfl, hK1 (of_decide_eq_true hq)⟩
 have hq := of_decide_eq_false hq
 refine Zb2 ?_
 refine Zhy (fun env υ => (env 1 = ptr f0.b 0 /\ env 2 = ptr b2 0 /\ env 3 = ptr b3 0 /\ env 4 = ptr b4 0) /\ But S σ υ /\ ∃ pv', DAt υ bb S (ZkZ to fs) (rnP fs pcs to) size mb pv') ?_ ?_
 ·refine ZjM ?_
  refine ⟨[0, 1, 2, 3, 4, 5, 6], [[], [0], [0, 1], [0, 1, 2], [], [0, 1, 2, 3, 4], [0, 1, 2, 3, 4, 5]], fun _ => True, [], [], [], by kernel_rfl, ?_⟩
  apply ZaJ
  case hi => simp only [HIX]; try rfl
  case hw => rfl
  case how => rfl
  refine ZaD (b := b4) (o := 0) (r := ptr bb 0) (by simp only [EV, Nat.reduceEqDiff, ↓reduceIte, he] <;> try rfl) hb4 ZgR ZgS rfl ?_
  refine ZbL ?_
  apply ZaJ
  case hi => simp only [HIX]; try rfl
  case hw => rfl
  case how => rfl
  refine Zau (v := ptr bb 0) (by simp only [EV, Nat.reduceEqDiff, ↓reduceIte, he] <;> try rfl) rfl ?_
  refine ZbL ?_
  apply ZaJ
  case hi => simp only [HIX]; try rfl
  case hw => rfl
  case how => rfl
  refine Zaf (b := bb) (o := 0) (by simp only [EV, Nat.reduceEqDiff, ↓reduceIte, he] <;> try rfl) Zcg rfl ?_
  refine ZbL ?_
  apply ZaJ
  case hi => simp only [HIX]; try rfl
  case hw => rfl
  case how => rfl
  refine ZaD (b := bb) (o := 0 + 1) (r := ZdZ mb) (by simp only [EV, Nat.reduceEqDiff, ↓reduceIte, he] <;> try rfl) h.obj Ze6 Ze5 rfl ?_
  refine ZbL ?_
  apply ZaJ
  case hi => simp only [HIX]; try rfl
  case hw => rfl
  case how => rfl
  refine ZaD (b := b3) (o := 0) (r := .raw (sV to)) (by simp only [EV, Nat.reduceEqDiff, ↓reduceIte, he] <;> try rfl) hb3 ZdH Zcp rfl ?_
  refine ZbL ?_
  apply ZaJ
  case hi => simp only [HIX]; try rfl
  case hw => rfl
  case how => rfl
  refine Zgp (k := to) (es := ZbC fs) (b := mb) (by simp only [EV, Nat.reduceEqDiff, ↓reduceIte, he] <;> try rfl) (by simp only [EV, Nat.reduceEqDiff, ↓reduceIte, he] <;> try rfl) h.map Zg3 Zkv Zku ?_
  refine ZbL ?_
  apply ZaJ
  case hi => simp only [HIX]; try rfl
  case hw => rfl
  case how => rfl
  refine Zak rfl (by simp only [EV, Nat.reduceEqDiff, ↓reduceIte, he] <;> try rfl) ?_
  refine ZbL ?_
  refine Zor ?_
  apply Zg6 1 2 3 4 7
  ·simp only [EV, Nat.reduceEqDiff, ↓reduceIte, he] <;> try rfl
  ·simp only [EV, Nat.reduceEqDiff, ↓reduceIte, he] <;> try rfl
  ·simp only [EV, Nat.reduceEqDiff, ↓reduceIte, he] <;> try rfl
  ·simp only [EV, Nat.reduceEqDiff, ↓reduceIte, he] <;> try rfl
  ·simp only [EV, Nat.reduceEqDiff, ↓reduceIte, he] <;> try rfl
  clear he e
  intro e he
  first | refine Zaa ?_ | refine Zad ?_ | (refine Zac ?_; refine Zaa ?_) | (refine Zac ?_; refine Zac ?_; refine Zaa ?_)
  refine Zab (Zak rfl (by simp only [EV, Nat.reduceEqDiff, ↓reduceIte, he] <;> try rfl) ?_)
  cases hg : ZjF (ZbC fs) to with
  | none =>
   rw [hg] at he
   refine Zab ?_
   refine ZiZ (p := none) Zg4 (by simp only [EV, Nat.reduceEqDiff, ↓reduceIte, he] <;> try rfl) rfl (by simp only [EV, Nat.reduceEqDiff, ↓reduceIte, he] <;> try rfl) ?_
   refine Zah ?_
   refine Zdw (t := false) (by simp only [EV, Nat.reduceEqDiff, ↓reduceIte, he] <;> try rfl) (fun hf => by cases hf) (fun _ => ?_)
   refine Zgy ?_
   refine ⟨rfl, ⟨by simp only [EV, Nat.reduceEqDiff, ↓reduceIte, he] <;> try rfl, by simp only [EV, Nat.reduceEqDiff, ↓reduceIte, he] <;> try rfl, by simp only [EV, Nat.reduceEqDiff, ↓reduceIte, he] <;> try rfl, by simp only [EV, Nat.reduceEqDiff, ↓reduceIte, he] <;> try rfl⟩, .refl _ _, pv, ?_⟩
   have e1 : rnP fs pcs to = pcs := by unfold rnP; rw [hg]
   rw [e1, ZpZ (Ze7.1 hg)]
   exact h
  | some ob =>
   rw [hg] at he
   obtain ⟨g0, hg0, hgn, rfl⟩ := ZfD hg
   refine Zab ?_
   refine ZiZ (p := some ⟨g0.b, 0, none⟩) Zg4 (by simp only [EV, Nat.reduceEqDiff, ↓reduceIte, he] <;> try rfl) rfl (by simp only [EV, Nat.reduceEqDiff, ↓reduceIte, he] <;> try rfl) ?_
   refine Zah ?_
   apply ZoS 1 2 3 4 7 18
   ·simp only [EV, Nat.reduceEqDiff, ↓reduceIte, he] <;> try rfl
   ·simp only [EV, Nat.reduceEqDiff, ↓reduceIte, he] <;> try rfl
   ·simp only [EV, Nat.reduceEqDiff, ↓reduceIte, he] <;> try rfl
   ·simp only [EV, Nat.reduceEqDiff, ↓reduceIte, he] <;> try rfl
   ·simp only [EV, Nat.reduceEqDiff, ↓reduceIte, he] <;> try rfl
   ·simp only [EV, Nat.reduceEqDiff, ↓reduceIte, he] <;> try rfl
   clear he e
   intro e he
   refine Zdw (t := true) (by simp only [EV, Nat.reduceEqDiff, ↓reduceIte, he] <;> try rfl) (fun _ => ?_) (fun hf => by cases hf)
   first | refine Zaa ?_ | refine Zad ?_ | (refine Zac ?_; refine Zaa ?_) | (refine Zac ?_; refine Zac ?_; refine Zaa ?_)
   refine Zab ?_
   refine ZaD (b := b4) (o := 0) (r := ptr bb 0) (by simp only [EV, Nat.reduceEqDiff, ↓reduceIte, he] <;> try rfl) hb4 ZgR ZgS rfl ?_
   refine Zab ?_
   refine ZaD (b := b3) (o := 0) (r := .raw (sV to)) (by simp only [EV, Nat.reduceEqDiff, ↓reduceIte, he] <;> try rfl) hb3 ZdH Zcp rfl ?_
   refine Zab (Zak rfl (by simp only [EV, Nat.reduceEqDiff, ↓reduceIte, he] <;> try rfl) ?_)
   refine Zab ?_
   refine Za9 (vs := [ptr bb 0, .raw (sV to), ptr g0.b 0]) (by simp only [List.map_cons, List.map_nil, EV, Nat.reduceEqDiff, ↓reduceIte, he] <;> try rfl) ?_
   rw [<- hgn]
   refine Zu3 h hl hg0 fun τ pv' d1 d2 => ?_
   refine Zah ?_
   refine ⟨rfl, ⟨by simp only [EV, Nat.reduceEqDiff, ↓reduceIte, he] <;> try rfl, by simp only [EV, Nat.reduceEqDiff, ↓reduceIte, he] <;> try rfl, by simp only [EV, Nat.reduceEqDiff, ↓reduceIte, he] <;> try rfl, by simp only [EV, Nat.reduceEqDiff, ↓reduceIte, he] <;> try rfl⟩, d2, pv', ?_⟩
   have e1 : rnP fs pcs g0.nm = pcs.filter fun p => !decide (p.1 = g0.b) := by
    unfold rnP
    rw [hgn, hg]
   rw [e1]
   exact d1
 clear he e
 rintro e υ ⟨he, hB, pv', hd⟩
 have hb2' := hB.keep _ _ hn2 hb2
 have hb3' := hB.keep _ _ hn3 hb3
 have hb4' := hB.keep _ _ hn4 hb4
 refine ZjM ?_
 refine ⟨[0, 1, 2, 3, 4, 5], [[], [0], [0, 1], [0, 1, 2], [], [0, 1, 2, 3, 4]], fun _ => True, [], [], [], by kernel_rfl, ?_⟩
 apply ZaJ
 case hi => simp only [HIX]; try rfl
 case hw => rfl
 case how => rfl
 refine ZaD (b := b4) (o := 0) (r := ptr bb 0) (by simp only [EV, Nat.reduceEqDiff, ↓reduceIte, he] <;> try rfl) hb4' ZgR ZgS rfl ?_
 refine ZbL ?_
 apply ZaJ
 case hi => simp only [HIX]; try rfl
 case hw => rfl
 case how => rfl
 refine Zau (v := ptr bb 0) (by simp only [EV, Nat.reduceEqDiff, ↓reduceIte, he] <;> try rfl) rfl ?_
 refine ZbL ?_
 apply ZaJ
 case hi => simp only [HIX]; try rfl
 case hw => rfl
 case how => rfl
 refine Zaf (b := bb) (o := 0) (by simp only [EV, Nat.reduceEqDiff, ↓reduceIte, he] <;> try rfl) Zcg rfl ?_
 refine ZbL ?_
 apply ZaJ
 case hi => simp only [HIX]; try rfl
 case hw => rfl
 case how => rfl
 refine ZaD (b := bb) (o := 0 + 1) (r := ZdZ mb) (by simp only [EV, Nat.reduceEqDiff, ↓reduceIte, he] <;> try rfl) hd.obj Ze6 Ze5 rfl ?_
 refine ZbL ?_
 apply ZaJ
 case hi => simp only [HIX]; try rfl
 case hw => rfl
 case how => rfl
 refine ZaD (b := b2) (o := 0) (r := .raw (sV f0.nm)) (by simp only [EV, Nat.reduceEqDiff, ↓reduceIte, he] <;> try rfl) hb2' ZdH Zcp rfl ?_
 refine ZbL ?_
 apply ZaJ
 case hi => simp only [HIX]; try rfl
 case hw => rfl
 case how => rfl
 refine ZpY (k := f0.nm) (es := ZbC (ZkZ to fs)) (b := mb) (by simp only [EV, Nat.reduceEqDiff, ↓reduceIte, he] <;> try rfl) (by simp only [EV, Nat.reduceEqDiff, ↓reduceIte, he] <;> try rfl) hd.map Zg3 Zkv fun υ2 hm2 k2 => ?_
 refine ⟨(fun hf => by cases hf), ?_⟩
 refine Zor ?_
 have hne : ∀ c t cs, υ.blk c = some (.own t cs) -> υ2.blk c = some (.own t cs) := fun c t cs hc => k2.keep _ _ (fun q => ZfE hc hd.map q) hc
 apply ZcU 1 2 3 4
 ·simp only [EV, Nat.reduceEqDiff, ↓reduceIte, he] <;> try rfl
 ·simp only [EV, Nat.reduceEqDiff, ↓reduceIte, he] <;> try rfl
 ·simp only [EV, Nat.reduceEqDiff, ↓reduceIte, he] <;> try rfl
 ·simp only [EV, Nat.reduceEqDiff, ↓reduceIte, he] <;> try rfl
 clear he e
 intro e he
 refine Zra ?_
 refine ⟨[5, 0, 1, 2, 3, 4, 6], [[], [0], [0, 1], [0, 1, 2], [], [], [0, 1, 2, 3, 4, 5]], fun _ => True, [], [], [], by kernel_rfl, ?_⟩
 apply ZaJ
 case hi => simp only [HIX]; try rfl
 case hw => rfl
 case how => rfl
 refine Zak rfl (by simp only [EV, Nat.reduceEqDiff, ↓reduceIte, he] <;> try rfl) ?_
 refine ZbL ?_
 apply ZaJ
 case hi => simp only [HIX]; try rfl
 case hw => rfl
 case how => rfl
 refine ZaD (b := b4) (o := 0) (r := ptr bb 0) (by simp only [EV, Nat.reduceEqDiff, ↓reduceIte, he] <;> try rfl) (hne _ _ _ hb4') ZgR ZgS rfl ?_
 refine ZbL ?_
 apply ZaJ
 case hi => simp only [HIX]; try rfl
 case hw => rfl
 case how => rfl
 refine Zau (v := ptr bb 0) (by simp only [EV, Nat.reduceEqDiff, ↓reduceIte, he] <;> try rfl) rfl ?_
 refine ZbL ?_
 apply ZaJ
 case hi => simp only [HIX]; try rfl
 case hw => rfl
 case how => rfl
 refine Zaf (b := bb) (o := 0) (by simp only [EV, Nat.reduceEqDiff, ↓reduceIte, he] <;> try rfl) Zcg rfl ?_
 refine ZbL ?_
 apply ZaJ
 case hi => simp only [HIX]; try rfl
 case hw => rfl
 case how => rfl
 refine ZaD (b := bb) (o := 0 + 1) (r := ZdZ mb) (by simp only [EV, Nat.reduceEqDiff, ↓reduceIte, he] <;> try rfl) (hne _ _ _ hd.obj) Ze6 Ze5 rfl ?_
 refine ZbL ?_
 apply ZaJ
 case hi => simp only [HIX]; try rfl
 case hw => rfl
 case how => rfl
 refine ZaD (b := b3) (o := 0) (r := .raw (sV to)) (by simp only [EV, Nat.reduceEqDiff, ↓reduceIte, he] <;> try rfl) (hne _ _ _ hb3') ZdH Zcp rfl ?_
 refine ZbL ?_
 apply ZaJ
 case hi => simp only [HIX]; try rfl
 case hw => rfl
 case how => rfl
 refine ZpO (k := to) (n := f0.b) (es := ZuH (ZbC (ZkZ to fs)) f0.nm) (b := mb) (by simp only [EV, Nat.reduceEqDiff, ↓reduceIte, he] <;> try rfl) (by simp only [EV, Nat.reduceEqDiff, ↓reduceIte, he] <;> try rfl) (by simp only [EV, Nat.reduceEqDiff, ↓reduceIte, he] <;> try rfl) hm2 Zg3 Zkv fun υ3 hm3 k3 => ?_
 refine ⟨(fun hf => by cases hf), ?_⟩
 refine Zor ?_
 have hf0' : f0 ∈ ZkZ to fs := ZhY.2 ⟨hf0, hq⟩
 exact ⟨_, ZgA rfl, hK2 hq υ3 pv' (hd.movF hf0' (fun f hf => (ZhY.1 hf).2) (k2.trans k3) hm3) (hB.trans ((k2.trans k3).sub fun c hc => by rw [hc]; exact h.own.2.1))⟩
end
end Go.Proofs.YteempnebenjkmaaDoor
namespace Go.Proofs.YteempnebenjkmaaDoor
open Go.RowKit
set_option maxRecDepth 100000
set_option linter.unusedVariables false
set_option linter.unusedSimpArgs false
section
variable {σ : St} {bb mb : Nat} {S : Nat -> Prop} {fs : List Fl} {pcs : List (Nat × Nat)} {size : Int} {pv : AV} {K : AV -> St -> Prop}
theorem ZAb {fr to : List UInt8} (h : DAt σ bb S fs pcs size mb pv) (hS : ∀ c, S c -> σ.used c) (hl : pcs.length <= 1000000000)
 (hK2 : (∃ f ∈ fs, f.nm = fr) -> ¬ (to ≠ [] /\ to.length <= 40) -> ∀ τ, Ext σ τ -> K (vI 2) τ)
 (hK6 : (∀ f ∈ fs, f.nm ≠ fr) -> ∀ τ, Ext σ τ -> K (vI 6) τ)
 (hKs : ∀ f0 ∈ fs, f0.nm = fr -> fr = to -> (to ≠ [] /\ to.length <= 40) -> ∀ τ, Ext σ τ -> K (vI 0) τ)
 (hK0 : ∀ f0 ∈ fs, f0.nm = fr -> fr ≠ to -> (to ≠ [] /\ to.length <= 40) -> ∀ τ pv', DAt τ bb S (rnF fs f0 to) (rnP fs pcs to) size mb pv' -> But S σ τ -> K (vI 0) τ) : Zay Tryd.prog 63 [ptr bb 0, .raw (sV fr), .raw (sV to)] σ K := by
 refine ZaG ZaN Tryd.func63 rfl rfl rfl (Nat.le_of_ble_eq_true rfl) ?_
 refine Zb5 0 1 2 (v0 := ptr bb 0) (v1 := .raw (sV fr)) (v2 := .raw (sV to)) rfl rfl rfl ?_
 intro e he
 first | refine Zaa ?_ | refine Zad ?_ | (refine Zac ?_; refine Zaa ?_) | (refine Zac ?_; refine Zac ?_; refine Zaa ?_)
 refine Zab ?_
 refine Zk0 (cs := [ptr bb 0]) (v := ptr bb 0) (by simp only [EV, Nat.reduceEqDiff, ↓reduceIte, he] <;> try rfl) rfl fun b3 σ1 hn3 hu3 hb3 hub3 hX1 => ?_
 refine Zab ?_
 refine Zk0 (cs := [.raw (sV fr)]) (v := .raw (sV fr)) (by simp only [EV, Nat.reduceEqDiff, ↓reduceIte, he] <;> try rfl) rfl fun b4 σ2 hn4 hu4 hb4 hub4 hX2 => ?_
 refine Zab ?_
 refine Zk0 (cs := [.raw (sV to)]) (v := .raw (sV to)) (by simp only [EV, Nat.reduceEqDiff, ↓reduceIte, he] <;> try rfl) rfl fun b5 σ3 hn5 hu5 hb5 hub5 hX3 => ?_
 refine Zab (Zak rfl (by simp only [EV, Nat.reduceEqDiff, ↓reduceIte, he] <;> try rfl) ?_)
 refine Zah ?_
 have hE3 := (hX1.trans hX2).trans hX3
 have h3 := h.ext hE3
 have h3S : ¬ S b3 := fun q => hu3 (hS _ q)
 have h4S : ¬ S b4 := fun q => hu4 (hX1.used _ (hS _ q))
 have h5S : ¬ S b5 := fun q => hu5 (hX2.used _ (hX1.used _ (hS _ q)))
 have hb33 := hX3.keep _ _ (hX2.keep _ _ hb3)
 have hb43 := hX3.keep _ _ hb4
 apply Zb5 3 4 5
 ·simp only [EV, Nat.reduceEqDiff, ↓reduceIte, he] <;> try rfl
 ·simp only [EV, Nat.reduceEqDiff, ↓reduceIte, he] <;> try rfl
 ·simp only [EV, Nat.reduceEqDiff, ↓reduceIte, he] <;> try rfl
 clear he e
 intro e he
 refine Zac ?_
 refine Zhy (fun env υ => ∃ b : Bool, (env 3 = ptr b3 0 /\ env 4 = ptr b4 0 /\ env 5 = ptr b5 0 /\ env 22 = vT b) /\ Ext σ3 υ /\ (b = true -> (∃ f ∈ fs, f.nm = fr) /\ ¬ (to ≠ [] /\ to.length <= 40)) /\ (b = false -> (∃ f ∈ fs, f.nm = fr) -> (to ≠ [] /\ to.length <= 40))) ?_ ?_
 ·refine Zra ?_
  refine ⟨[0, 1, 2, 3, 4, 5, 6, 7, 8, 9, 10, 11, 12, 13, 14, 15], [[], [0], [0, 1], [0, 1, 2], [0, 1, 2, 3], [0, 1, 2, 3, 4], [0, 1, 2, 3, 4, 5], [0, 1, 2], [0, 1, 2, 3, 4, 5, 6, 7], [0, 1, 2, 3, 4, 5, 6, 7, 8], [0, 1, 2, 3, 4, 5, 6, 7, 8, 9], [0, 1, 2, 3, 4, 5, 6, 7, 8, 9, 10], [0, 1, 2, 3, 4, 5, 6, 7, 8, 9, 10, 11], [0, 1, 2, 3, 4, 5, 6, 7, 8, 9, 10, 11, 12], [0, 1, 2, 3, 4, 5, 6, 7, 8, 9, 10, 11, 12, 13], [0, 1, 2, 3, 4, 5, 6, 7, 8, 9, 10, 11, 12, 13, 14]], fun _ => True, [], [], [], by kernel_rfl, ?_⟩
  apply ZaJ
  case hi => simp only [HIX]; try rfl
  case hw => rfl
  case how => rfl
  refine ZaD (b := b3) (o := 0) (r := ptr bb 0) (by simp only [EV, Nat.reduceEqDiff, ↓reduceIte, he] <;> try rfl) hb33 ZgR ZgS rfl ?_
  refine ZbL ?_
  apply ZaJ
  case hi => simp only [HIX]; try rfl
  case hw => rfl
  case how => rfl
  refine Za9 (vs := [ptr bb 0]) (by simp only [List.map_cons, List.map_nil, EV, Nat.reduceEqDiff, ↓reduceIte, he] <;> try rfl) ?_
  refine Zjx h3 ?_
  refine ZbL ?_
  apply ZaJ
  case hi => simp only [HIX]; try rfl
  case hw => rfl
  case how => rfl
  refine Zak rfl (by simp only [EV, Nat.reduceEqDiff, ↓reduceIte, he] <;> try rfl) ?_
  refine ZbL ?_
  apply ZaJ
  case hi => simp only [HIX]; try rfl
  case hw => rfl
  case how => rfl
  refine ZaD (b := b3) (o := 0) (r := ptr bb 0) (by simp only [EV, Nat.reduceEqDiff, ↓reduceIte, he] <;> try rfl) hb33 ZgR ZgS rfl ?_
  refine ZbL ?_
  apply ZaJ
  case hi => simp only [HIX]; try rfl
  case hw => rfl
  case how => rfl
  refine Zau (v := ptr bb 0) (by simp only [EV, Nat.reduceEqDiff, ↓reduceIte, he] <;> try rfl) rfl ?_
  refine ZbL ?_
  apply ZaJ
  case hi => simp only [HIX]; try rfl
  case hw => rfl
  case how => rfl
  refine Zaf (b := bb) (o := 0) (by simp only [EV, Nat.reduceEqDiff, ↓reduceIte, he] <;> try rfl) Zcg rfl ?_
  refine ZbL ?_
  apply ZaJ
  case hi => simp only [HIX]; try rfl
  case hw => rfl
  case how => rfl
  refine ZaD (b := bb) (o := 0 + 1) (r := ZdZ mb) (by simp only [EV, Nat.reduceEqDiff, ↓reduceIte, he] <;> try rfl) h3.obj Ze6 Ze5 rfl ?_
  refine ZbL ?_
  apply ZaJ
  case hi => simp only [HIX]; try rfl
  case hw => rfl
  case how => rfl
  refine ZaD (b := b4) (o := 0) (r := .raw (sV fr)) (by simp only [EV, Nat.reduceEqDiff, ↓reduceIte, he] <;> try rfl) hb43 ZdH Zcp rfl ?_
  refine ZbL ?_
  apply ZaJ
  case hi => simp only [HIX]; try rfl
  case hw => rfl
  case how => rfl
  refine Zgp (k := fr) (es := ZbC fs) (b := mb) (by simp only [EV, Nat.reduceEqDiff, ↓reduceIte, he] <;> try rfl) (by simp only [EV, Nat.reduceEqDiff, ↓reduceIte, he] <;> try rfl) h3.map Zg3 Zkv Zku ?_
  refine ZbL ?_
  cases hg : ZjF (ZbC fs) fr with
  | none =>
   apply ZaJ
   case hi => simp only [HIX]; try rfl
   case hw => rfl
   case how => rfl
   refine ZiZ (p := none) Zg4 (by simp only [EV, Nat.reduceEqDiff, ↓reduceIte, he] <;> try rfl) rfl (by simp only [EV, Nat.reduceEqDiff, ↓reduceIte, he] <;> try rfl) ?_
   refine ZbL ?_
   apply ZaJ
   case hi => simp only [HIX]; try rfl
   case hw => rfl
   case how => rfl
   refine Zc8 (v := vT false) (by simp only [EV, Nat.reduceEqDiff, ↓reduceIte, he] <;> try rfl) (by simp only [EV, Nat.reduceEqDiff, ↓reduceIte, he] <;> try rfl) ?_
   refine ZbL ?_
   apply ZaJ
   case hi => simp only [HIX]; try rfl
   case hw => rfl
   case how => rfl
   refine Zak rfl (by simp only [EV, Nat.reduceEqDiff, ↓reduceIte, he] <;> try rfl) ?_
   refine ZbL ?_
   apply Zym
   case hi => simp only [HIX]; try rfl
   case hg => rfl
   case how => rfl
   apply Zym
   case hi => simp only [HIX]; try rfl
   case hg => rfl
   case how => rfl
   apply Zym
   case hi => simp only [HIX]; try rfl
   case hg => rfl
   case how => rfl
   apply ZaJ
   case hi => simp only [HIX]; try rfl
   case hw => rfl
   case how => rfl
   refine Zfk (v := vT false) (by simp only [EV, Nat.reduceEqDiff, ↓reduceIte, he] <;> try rfl) (by simp only [EV, Nat.reduceEqDiff, ↓reduceIte, he] <;> try rfl) ?_
   refine ZbL ?_
   refine Zor ?_
   refine ⟨rfl, false, ⟨by simp only [EV, Nat.reduceEqDiff, ↓reduceIte, he] <;> try rfl, by simp only [EV, Nat.reduceEqDiff, ↓reduceIte, he] <;> try rfl, by simp only [EV, Nat.reduceEqDiff, ↓reduceIte, he] <;> try rfl, by simp only [EV, Nat.reduceEqDiff, ↓reduceIte, he] <;> try rfl⟩, .refl _, (fun q => by cases q), fun _ ⟨f, hf, hn⟩ => absurd hn (Ze7.1 hg f hf)⟩
  | some fb =>
   obtain ⟨f0, hf0, hnm, rfl⟩ := ZfD hg
   apply ZaJ
   case hi => simp only [HIX]; try rfl
   case hw => rfl
   case how => rfl
   refine ZiZ (p := some ⟨f0.b, 0, none⟩) Zg4 (by simp only [EV, Nat.reduceEqDiff, ↓reduceIte, he] <;> try rfl) rfl (by simp only [EV, Nat.reduceEqDiff, ↓reduceIte, he] <;> try rfl) ?_
   refine ZbL ?_
   apply ZaJ
   case hi => simp only [HIX]; try rfl
   case hw => rfl
   case how => rfl
   refine Zc8 (v := vT true) (by simp only [EV, Nat.reduceEqDiff, ↓reduceIte, he] <;> try rfl) (by simp only [EV, Nat.reduceEqDiff, ↓reduceIte, he] <;> try rfl) ?_
   refine ZbL ?_
   apply ZaJ
   case hi => simp only [HIX]; try rfl
   case hw => rfl
   case how => rfl
   refine Zak rfl (by simp only [EV, Nat.reduceEqDiff, ↓reduceIte, he] <;> try rfl) ?_
   refine ZbL ?_
   apply ZaJ
   case hi => simp only [HIX]; try rfl
   case hw => rfl
   case how => rfl
   refine ZaD (b := b5) (o := 0) (r := .raw (sV to)) (by simp only [EV, Nat.reduceEqDiff, ↓reduceIte, he] <;> try rfl) hb5 ZdH Zcp rfl ?_
   refine ZbL ?_
   apply ZaJ
   case hi => simp only [HIX]; try rfl
   case hw => rfl
   case how => rfl
   refine Za9 (vs := [.raw (sV to)]) (by simp only [List.map_cons, List.map_nil, EV, Nat.reduceEqDiff, ↓reduceIte, he] <;> try rfl) ?_
   refine ZrT _ fun υ hX => ?_
   refine ⟨(fun hf => by cases hf), ?_⟩
   apply ZaJ
   case hi => simp only [HIX]; try rfl
   case hw => rfl
   case how => rfl
   refine Zg2 (by simp only [EV, Nat.reduceEqDiff, ↓reduceIte, he] <;> try rfl) ?_
   refine ZbL ?_
   apply ZaJ
   case hi => simp only [HIX]; try rfl
   case hw => rfl
   case how => rfl
   refine Zc8 (v := vT (!decide (to ≠ [] /\ to.length <= 40))) (by simp only [EV, Nat.reduceEqDiff, ↓reduceIte, he] <;> try rfl) (by simp only [EV, Nat.reduceEqDiff, ↓reduceIte, he] <;> try rfl) ?_
   refine ZbL ?_
   refine Zor ?_
   refine ⟨rfl, !decide (to ≠ [] /\ to.length <= 40), ⟨by simp only [EV, Nat.reduceEqDiff, ↓reduceIte, he] <;> try rfl, by simp only [EV, Nat.reduceEqDiff, ↓reduceIte, he] <;> try rfl, by simp only [EV, Nat.reduceEqDiff, ↓reduceIte, he] <;> try rfl, by simp only [EV, Nat.reduceEqDiff, ↓reduceIte, he] <;> try rfl⟩, hX, fun q => ⟨⟨f0, hf0, hnm⟩, ?_⟩, fun q _ => ?_⟩
   ·rw [Bool.not_eq_true'] at q
    exact of_decide_eq_false q
   ·rw [Bool.not_eq_false'] at q
    exact of_decide_eq_true q
 clear he e
 rintro e υ ⟨b, he, hX, g1, g2⟩
 refine Zbu (t := b) (by simp only [EV, Nat.reduceEqDiff, ↓reduceIte, he] <;> try rfl) (fun hb => ?_) (fun hb => ?_)
 ·first | refine Zaa ?_ | refine Zad ?_ | (refine Zac ?_; refine Zaa ?_) | (refine Zac ?_; refine Zac ?_; refine Zaa ?_)
  refine Zab (Zak rfl (by simp only [EV, Nat.reduceEqDiff, ↓reduceIte, he] <;> try rfl) ?_)
  refine Zah ?_
  refine ZmK ?_
  obtain ⟨q1, q2⟩ := g1 hb
  show ∃ r, Zaq _ _ _ _ r /\ _
  exact ⟨_, ZaZ rfl (by simp only [EV, Nat.reduceEqDiff, ↓reduceIte, he] <;> try rfl), hK2 q1 q2 υ (hE3.trans hX)⟩
 have g2 := g2 hb
 refine Zb2 ?_
 have hE := hE3.trans hX
 have hb3' := hX.keep _ _ hb33
 have hb4' := hX.keep _ _ hb43
 have hb5' := hX.keep _ _ hb5
 first | refine Zaa ?_ | refine Zad ?_ | (refine Zac ?_; refine Zaa ?_) | (refine Zac ?_; refine Zac ?_; refine Zaa ?_)
 refine Zab ?_
 refine ZaD (b := b3) (o := 0) (r := ptr bb 0) (by simp only [EV, Nat.reduceEqDiff, ↓reduceIte, he] <;> try rfl) hb3' ZgR ZgS rfl ?_
 refine Zab ?_
 refine ZhW (vs := [ptr b4 0, ptr b5 0, ptr b3 0]) (by simp only [List.map_cons, List.map_nil, EV, Nat.reduceEqDiff, ↓reduceIte, he] <;> try rfl) ?_
 refine Zab ?_
 refine ZaD (b := b4) (o := 0) (r := .raw (sV fr)) (by simp only [EV, Nat.reduceEqDiff, ↓reduceIte, he] <;> try rfl) hb4' ZdH Zcp rfl ?_
 refine Zab ?_
 refine ZnL (vs := [.raw (sV fr)]) (cells := [.raw (sV fr)]) (by simp only [List.map_cons, List.map_nil, EV, Nat.reduceEqDiff, ↓reduceIte, he] <;> try rfl) Zkr Zcp Zoz rfl (by omega) rfl rfl fun b26 υ5 hN5 hX5 => ?_
 have hE5 := hE.trans hX5
 have h5 := h.ext hE5
 have hNm : ∀ υ, Zjz υ (.lst (some ⟨b26, 0, none⟩) 1 1 [.raw (sV fr)]) [fr] := fun υ => .inl ⟨some ⟨b26, 0, none⟩, 1, [], rfl, fun q => (by cases q)⟩
 refine Zab ?_
 refine Za9 (vs := [ptr bb 0, fnG 81 #[] #[.pointer (some ⟨b4, 0, none⟩), .pointer (some ⟨b5, 0, none⟩), .pointer (some ⟨b3, 0, none⟩)], .lst (some ⟨b26, 0, none⟩) 1 1 [.raw (sV fr)]]) (by simp only [List.map_cons, List.map_nil, EV, Nat.reduceEqDiff, ↓reduceIte, he] <;> try rfl) ?_
 refine Zq0 (ns := [fr]) (fun i τ => match i with
  | 0 => τ = υ5
  | _ => K (vI 0) τ) h5 (hNm _) (by simp) rfl (fun i hi τ hI => ?_) (fun τ hI => ?_)
 ·obtain rfl : i = 0 := by simp at hi; exact hi
  have hI : τ = υ5 := hI
  subst hI
  refine ⟨S, fs, pcs, size, mb, pv, h5, hNm _, fun hg => ?_, fun fb hg => ?_⟩
  ·refine Zab (Zak rfl (by simp only [EV, Nat.reduceEqDiff, ↓reduceIte, he] <;> try rfl) ?_)
   refine Zah ?_
   refine Zbm ?_
   show ∃ r, Zaq _ _ _ _ r /\ _
   exact ⟨_, ZaZ rfl (by simp only [EV, Nat.reduceEqDiff, ↓reduceIte, he] <;> try rfl), hK6 (Ze7.1 hg) _ hE5⟩
  ·obtain ⟨f0, hf0, hnm, rfl⟩ := ZfD hg
   have hnm : f0.nm = fr := hnm
   refine ZyE (to := to) h5 hl hf0 (by rw [hnm]; exact hX5.keep _ _ hb4') (hX5.keep _ _ hb5') (hX5.keep _ _ hb3') h4S h5S h3S (fun q => ?_) fun q τ2 pv' d1 d2 => ?_
   ·exact hKs f0 hf0 hnm (hnm ▸ q) (g2 ⟨f0, hf0, hnm⟩) _ hE5
   ·exact hK0 f0 hf0 hnm (hnm ▸ q) (g2 ⟨f0, hf0, hnm⟩) τ2 pv' d1 (hE5.but.trans d2)
 ·refine Zab (Zak rfl (by simp only [EV, Nat.reduceEqDiff, ↓reduceIte, he] <;> try rfl) ?_)
  refine Zah ?_
  refine Zbm ?_
  show ∃ r, Zaq _ _ _ _ r /\ _
  exact ⟨_, ZaZ rfl (by simp only [EV, Nat.reduceEqDiff, ↓reduceIte, he] <;> try rfl), hI⟩
end
end Go.Proofs.YteempnebenjkmaaDoor
namespace Go.Proofs.YteempnebenjkmaaDoor
open Go.RowKit
set_option maxRecDepth 100000
set_option linter.unusedVariables false
set_option linter.unusedSimpArgs false
section
variable {P : Program} {ops : Array Oper} {d : Option Nat} {ty ty' : TypeId} {pos : String} {af : Array Edge} {env : Env} {σ : St} {K : Env -> St -> Prop} {x y : Operand} {t : TypeId}
theorem Zr0 {a c : List UInt8} (hl : a.length + c.length <= 1000000000) (hx : ev env x = .raw (sV a)) (hy : ev env y = .raw (sV c)) (h : K (env.put d (.raw (sV (a ++ c)))) σ) : aOp P ops ⟨d, .binOp .add t x y ty', ty, pos, af, none⟩ env σ K :=
 ZhZ hx hy (fun w _ _ => by
  rw [AV.val_raw, AV.val_raw]
  have hs : (ByteArray.mk a.toArray).size + (ByteArray.mk c.toArray).size <= 9223372036854775807 := by
   show a.toArray.size + c.toArray.size <= (9223372036854775807 : Nat)
   simp only [List.size_toArray]
   omega
  rw [eqGuard_at_string, pure_bind, binOp_string_add, run_string_add_sum w _ _ hs, ByteArray.mk_append_mk]) h
end
theorem ZAc : Program.underlying Tryd.prog 40 = some (.pointer (Program.pointee Tryd.prog 40)) := by kernel_rfl
theorem ZmC : ZaR Tryd.prog 70 = some (.agg #[.pointer none, .string ⟨#[]⟩]) := by kernel_rfl
theorem ZyF : ZcR Tryd.prog 70 = some [(0, 1), (1, 1)] := by kernel_rfl
theorem Zkx : Zax Tryd.prog 70 = some 2 := by kernel_rfl
theorem Zu6 : Zds Tryd.prog 70 = some true := by kernel_rfl
theorem ZfV : Zbx Tryd.prog 70 = some [(0, some 1, some false), (1, some 1, some false)] := by kernel_rfl
theorem Zky : Zds Tryd.prog 40 = some false := by kernel_rfl
theorem Zkz : Zax Tryd.prog 40 = some 1 := by kernel_rfl
def ZdX (g : Nat) : List UInt8 := [105, 109, 97, 103, 101, 46] ++ Go.Lib.decDigits g
section
variable {σ τ : St} {bb mb : Nat} {S : Nat -> Prop} {fs : List Fl} {pcs : List (Nat × Nat)} {size : Int} {pv : AV} {K : AV -> St -> Prop}
theorem ZyG {i : Nat} (hi : i < 100) (hK : K (.raw (sV (Go.Lib.decDigits i))) σ) : Zay Tryd.prog 50 [vI i] σ K := by
 intro w Z hH hV
 refine .inl ⟨by kernel_rfl, ?_⟩
 refine Calls.mono (Tryd.strconv_Itoa_small i hi w) ?_
 rintro e w' ⟨rfl, rfl⟩
 exact ⟨.raw (sV _), σ, rfl, hK, hH, ZaA _, Grow.refl _ _⟩
set_option maxHeartbeats 1000000 in
theorem ZyH {bb g : Nat} (hg : g <= 4) (hd : (Go.Lib.decDigits g).length <= 100) (hK : ∀ τ, Ext σ τ -> K (.tup [.agg [ptr bb 0, .raw (sV (ZdX g))], vI 0]) τ) : Zay Tryd.prog 29 [ptr bb 0, vI g] σ K := by
 refine ZaG ZaN Tryd.func29 rfl rfl rfl (Nat.le_of_ble_eq_true rfl) ?_
 refine ZcT 0 1 (v0 := ptr bb 0) (v1 := vI g) rfl rfl ?_
 have h4 : decide ((4 : Int) < (g : Int)) = false := decide_eq_false (by omega)
 have h0 : decide ((g : Int) < 0) = false := decide_eq_false (by omega)
 intro e he
 first | refine Zaa ?_ | refine Zad ?_ | (refine Zac ?_; refine Zaa ?_) | (refine Zac ?_; refine Zac ?_; refine Zaa ?_)
 refine Zab ?_
 refine ZdQ ZmC rfl fun b υ hn hu hb hub hX => ?_
 refine Zab (Zak rfl (by simp only [EV, Nat.reduceEqDiff, ↓reduceIte, he] <;> try rfl) ?_)
 refine Zah ?_
 apply Zb5 0 1 4
 ·simp only [EV, Nat.reduceEqDiff, ↓reduceIte, he] <;> try rfl
 ·simp only [EV, Nat.reduceEqDiff, ↓reduceIte, he] <;> try rfl
 ·simp only [EV, Nat.reduceEqDiff, ↓reduceIte, he] <;> try rfl
 clear he e
 intro e he
 refine Zej ?_ -- block 0
 first | refine Zaa ?_ | refine Zad ?_ | (refine Zac ?_; refine Zaa ?_) | (refine Zac ?_; refine Zac ?_; refine Zaa ?_)
 refine Zab (Zak rfl (by simp only [EV, Nat.reduceEqDiff, ↓reduceIte, he] <;> try rfl) ?_)
 refine Zab ?_
 refine ZgB (p := some ⟨bb, 0, none⟩) ZAc (by simp only [EV, Nat.reduceEqDiff, ↓reduceIte, he] <;> try rfl) rfl (by simp only [EV, Nat.reduceEqDiff, ↓reduceIte, he] <;> try rfl) ?_
 refine Zab (Zak rfl (by simp only [EV, Nat.reduceEqDiff, ↓reduceIte, he] <;> try rfl) ?_)
 refine Zah ?_
 apply ZcU 0 1 4 6
 ·simp only [EV, Nat.reduceEqDiff, ↓reduceIte, he] <;> try rfl
 ·simp only [EV, Nat.reduceEqDiff, ↓reduceIte, he] <;> try rfl
 ·simp only [EV, Nat.reduceEqDiff, ↓reduceIte, he] <;> try rfl
 ·simp only [EV, Nat.reduceEqDiff, ↓reduceIte, he] <;> try rfl
 clear he e
 intro e he
 refine Zdw (t := false) (by simp only [EV, Nat.reduceEqDiff, ↓reduceIte, he] <;> try rfl) (fun ht => by cases ht) (fun ht => ?_)
 first | refine Zaa ?_ | refine Zad ?_ | (refine Zac ?_; refine Zaa ?_) | (refine Zac ?_; refine Zac ?_; refine Zaa ?_)
 refine Zab (Zak rfl (by simp only [EV, Nat.reduceEqDiff, ↓reduceIte, he] <;> try rfl) ?_)
 refine Zab ?_
 refine Zxu (k := .i64) (a := (g : Int)) (b := 0) (by simp only [EV, Nat.reduceEqDiff, ↓reduceIte, he] <;> try rfl) (by simp only [EV, Nat.reduceEqDiff, ↓reduceIte, he] <;> try rfl) ?_
 refine Zab (Zak rfl (by simp only [EV, Nat.reduceEqDiff, ↓reduceIte, he] <;> try rfl) ?_)
 refine Zab (ZaE (Zg8 rfl (by simp only [EV, Nat.reduceEqDiff, ↓reduceIte, he] <;> try rfl)) ?_)
 refine Zak rfl (by simp only [EV, Nat.reduceEqDiff, ↓reduceIte, he] <;> try rfl) ?_
 refine Zab (ZaE (Zg8 rfl (by simp only [EV, Nat.reduceEqDiff, ↓reduceIte, he] <;> try rfl)) ?_)
 refine Ztl (k := .i64) (a := (g : Int)) (b := 4) (by simp only [EV, Nat.reduceEqDiff, ↓reduceIte, he] <;> try rfl) (by simp only [EV, Nat.reduceEqDiff, ↓reduceIte, he] <;> try rfl) ?_
 refine Zab ?_
 refine Zfk (v := vT false) (by simp only [EV, Nat.reduceEqDiff, ↓reduceIte, he] <;> try rfl) (by simp only [EV, Nat.reduceEqDiff, ↓reduceIte, he, h4]; rfl) ?_
 refine Zab (Zak rfl (by simp only [EV, Nat.reduceEqDiff, ↓reduceIte, he] <;> try rfl) ?_)
 refine Zah ?_
 apply ZcU 0 1 4 10
 ·simp only [EV, Nat.reduceEqDiff, ↓reduceIte, he] <;> try rfl
 ·simp only [EV, Nat.reduceEqDiff, ↓reduceIte, he] <;> try rfl
 ·simp only [EV, Nat.reduceEqDiff, ↓reduceIte, he] <;> try rfl
 ·simp only [EV, Nat.reduceEqDiff, ↓reduceIte, he] <;> try rfl
 clear he e
 intro e he
 refine Zdw (t := false) (by simp only [EV, Nat.reduceEqDiff, ↓reduceIte, he] <;> try rfl) (fun ht => by cases ht) (fun ht => ?_)
 refine Zb2 ?_
 first | refine Zaa ?_ | refine Zad ?_ | (refine Zac ?_; refine Zaa ?_) | (refine Zac ?_; refine Zac ?_; refine Zaa ?_)
 refine Zab (Zak rfl (by simp only [EV, Nat.reduceEqDiff, ↓reduceIte, he] <;> try rfl) ?_)
 refine Zab (Zak rfl (by simp only [EV, Nat.reduceEqDiff, ↓reduceIte, he] <;> try rfl) ?_)
 refine Zab ?_
 refine Za9 (vs := [vI g]) (by simp only [List.map_cons, List.map_nil, EV, Nat.reduceEqDiff, ↓reduceIte, he] <;> try rfl) ?_
 refine ZyG (by omega) ?_
 refine Zab ?_
 refine Zr0 (a := [105, 109, 97, 103, 101, 46]) (c := Go.Lib.decDigits g) (by simp; omega) (by simp only [EV, Nat.reduceEqDiff, ↓reduceIte, he] <;> try rfl) (by simp only [EV, Nat.reduceEqDiff, ↓reduceIte, he] <;> try rfl) ?_
 refine Zab ?_
 refine Zhc (vs := [ptr bb 0, .raw (sV (ZdX g))]) (cells := [ptr bb 0, .raw (sV (ZdX g))]) (by simp only [List.map_cons, List.map_nil, EV, Nat.reduceEqDiff, ↓reduceIte, he]; try rfl) ZmC ZyF rfl ?_
 refine Zab ?_
 refine ZcS (b := b) (o := 0) (u := .agg [ptr bb 0, .raw (sV (ZdX g))]) (by simp only [EV, Nat.reduceEqDiff, ↓reduceIte, he] <;> try rfl) (by simp only [EV, Nat.reduceEqDiff, ↓reduceIte, he] <;> try rfl) hb Zkx rfl rfl fun υ2 hb2 k2 => ?_
 refine Zab (Zak rfl (by simp only [EV, Nat.reduceEqDiff, ↓reduceIte, he] <;> try rfl) ?_)
 refine Zah ?_
 apply ZcT 4 5
 ·simp only [EV, Nat.reduceEqDiff, ↓reduceIte, he] <;> try rfl
 ·simp only [EV, Nat.reduceEqDiff, ↓reduceIte, he] <;> try rfl
 clear he e
 intro e he
 refine Zbm ?_
 exact ZnK rfl (Zfm (by simp only [EV, Nat.reduceEqDiff, ↓reduceIte, he] <;> try rfl) hb2 Zu6 Zkx rfl) (Zdx (by simp only [EV, Nat.reduceEqDiff, ↓reduceIte, he] <;> try rfl)) (hK υ2 (But.ext hX (fun g hg => by rw [hg]; exact hn) k2))
theorem ZwI {k nm : List UInt8} {b0 b1 : Nat} (h : DAt σ bb S fs pcs size mb pv) (hS : ∀ c, S c -> σ.used c) (hl : pcs.length <= 1000000000) (hb0 : σ.blk b0 = some (.own 70 [ptr bb 0, .raw (sV nm)])) (hb1 : σ.blk b1 = some (.own 9 [.raw (sV k)]))
 (hnm : nm ≠ [] /\ nm.length <= 40) (hne : k ≠ nm) {f0 : Fl} (hf0 : f0 ∈ fs) (hk : f0.nm = k) (hK : ∀ τ pv', DAt τ bb S (rnF fs f0 nm) (rnP fs pcs nm) size mb pv' -> But S σ τ -> K (vI 0) τ) : Zay Tryd.prog 62 [ptr b0 0, ptr b1 0] σ K := by
 refine ZaG ZaN Tryd.func62 rfl rfl rfl (Nat.le_of_ble_eq_true rfl) ?_
 refine ZcT 0 1 (v0 := ptr b0 0) (v1 := ptr b1 0) rfl rfl ?_
 intro e he
 first | refine Zaa ?_ | refine Zad ?_ | (refine Zac ?_; refine Zaa ?_) | (refine Zac ?_; refine Zac ?_; refine Zaa ?_)
 refine Zab (Zak rfl (by simp only [EV, Nat.reduceEqDiff, ↓reduceIte, he] <;> try rfl) ?_)
 refine Zah ?_
 apply ZcT 0 1
 ·simp only [EV, Nat.reduceEqDiff, ↓reduceIte, he] <;> try rfl
 ·simp only [EV, Nat.reduceEqDiff, ↓reduceIte, he] <;> try rfl
 clear he e
 intro e he
 first | refine Zaa ?_ | refine Zad ?_ | (refine Zac ?_; refine Zaa ?_) | (refine Zac ?_; refine Zac ?_; refine Zaa ?_)
 refine Zab ?_
 refine Zaf (b := b0) (o := 0) (by simp only [EV, Nat.reduceEqDiff, ↓reduceIte, he] <;> try rfl) ZfV rfl ?_
 refine Zab ?_
 refine ZaD (b := b0) (o := 0) (r := ptr bb 0) (by simp only [EV, Nat.reduceEqDiff, ↓reduceIte, he] <;> try rfl) hb0 Zky Zkz rfl ?_
 refine Zab ?_
 refine ZaD (b := b1) (o := 0) (r := .raw (sV k)) (by simp only [EV, Nat.reduceEqDiff, ↓reduceIte, he] <;> try rfl) hb1 ZdH Zcp rfl ?_
 refine Zab ?_
 refine Zaf (b := b0) (o := 0) (by simp only [EV, Nat.reduceEqDiff, ↓reduceIte, he] <;> try rfl) ZfV rfl ?_
 refine Zab ?_
 refine ZaD (b := b0) (o := 0 + 1) (r := .raw (sV nm)) (by simp only [EV, Nat.reduceEqDiff, ↓reduceIte, he] <;> try rfl) hb0 ZdH Zcp rfl ?_
 refine Zab ?_
 refine Za9 (vs := [ptr bb 0, .raw (sV k), .raw (sV nm)]) (by simp only [List.map_cons, List.map_nil, EV, Nat.reduceEqDiff, ↓reduceIte, he] <;> try rfl) ?_
 refine ZAb h hS hl (fun _ hx => absurd hnm hx) (fun hx => absurd hk (hx f0 hf0)) (fun f hf e1 e2 => absurd e2 hne) fun f hf e1 _ _ υ pv' h2 k2 => ?_
 obtain rfl : f = f0 := h.uniqN hf hf0 (e1.trans hk.symm)
 refine Zab (Zak rfl (by simp only [EV, Nat.reduceEqDiff, ↓reduceIte, he] <;> try rfl) ?_)
 refine Zah ?_
 apply ZdI 2
 ·simp only [EV, Nat.reduceEqDiff, ↓reduceIte, he] <;> try rfl
 clear he e
 intro e he
 refine Zbm ?_
 show ∃ r, Zaq _ _ _ _ r /\ _
 exact ⟨_, ZaZ rfl (by simp only [EV, Nat.reduceEqDiff, ↓reduceIte, he] <;> try rfl), hK υ pv' h2 k2⟩
theorem Zxj {σ : St} {b : Nat} {k : List UInt8} : Zjz σ (.lst (some ⟨b, 0, none⟩) 1 1 [.raw (sV k)]) [k] := .inl ⟨some ⟨b, 0, none⟩, 1, [], rfl, fun q => (by cases q)⟩
theorem ZwJ {k nm : List UInt8} {b0 b1 : Nat} (h : DAt σ bb S fs pcs size mb pv) (hS : ∀ c, S c -> σ.used c) (hl : pcs.length <= 1000000000) (hb0 : σ.blk b0 = some (.own 70 [ptr bb 0, .raw (sV nm)])) (hb1 : σ.blk b1 = some (.own 9 [.raw (sV k)]))
 (hK : ∀ τ pv', DAt τ bb S fs (ZfU fs [k] pcs).1 size mb pv' -> But S σ τ -> K (vI (ZfU fs [k] pcs).2) τ) : Zay Tryd.prog 60 [ptr b0 0, ptr b1 0] σ K := by
 refine ZaG ZaN Tryd.func60 rfl rfl rfl (Nat.le_of_ble_eq_true rfl) ?_
 refine ZcT 0 1 (v0 := ptr b0 0) (v1 := ptr b1 0) rfl rfl ?_
 intro e he
 first | refine Zaa ?_ | refine Zad ?_ | (refine Zac ?_; refine Zaa ?_) | (refine Zac ?_; refine Zac ?_; refine Zaa ?_)
 refine Zab (Zak rfl (by simp only [EV, Nat.reduceEqDiff, ↓reduceIte, he] <;> try rfl) ?_)
 refine Zah ?_
 apply ZcT 0 1
 ·simp only [EV, Nat.reduceEqDiff, ↓reduceIte, he] <;> try rfl
 ·simp only [EV, Nat.reduceEqDiff, ↓reduceIte, he] <;> try rfl
 clear he e
 intro e he
 first | refine Zaa ?_ | refine Zad ?_ | (refine Zac ?_; refine Zaa ?_) | (refine Zac ?_; refine Zac ?_; refine Zaa ?_)
 refine Zab ?_
 refine Zaf (b := b0) (o := 0) (by simp only [EV, Nat.reduceEqDiff, ↓reduceIte, he] <;> try rfl) ZfV rfl ?_
 refine Zab ?_
 refine ZaD (b := b0) (o := 0) (r := ptr bb 0) (by simp only [EV, Nat.reduceEqDiff, ↓reduceIte, he] <;> try rfl) hb0 Zky Zkz rfl ?_
 refine Zab ?_
 refine ZaD (b := b1) (o := 0) (r := .raw (sV k)) (by simp only [EV, Nat.reduceEqDiff, ↓reduceIte, he] <;> try rfl) hb1 ZdH Zcp rfl ?_
 refine Zab ?_
 refine ZnL (vs := [.raw (sV k)]) (cells := [.raw (sV k)]) (by simp only [List.map_cons, List.map_nil, EV, Nat.reduceEqDiff, ↓reduceIte, he]; try rfl) Zkr Zcp Zoz rfl (by omega) rfl rfl fun rb σ2 hN2 hX2 => ?_
 refine Zab ?_
 refine Za9 (vs := [ptr bb 0, .lst (some ⟨rb, 0, none⟩) 1 1 [.raw (sV k)]]) (by simp only [List.map_cons, List.map_nil, EV, Nat.reduceEqDiff, ↓reduceIte, he] <;> try rfl) ?_
 have h2 := h.but (U := fun _ => False) hX2.but fun b hb hf => hf
 refine ZyC h2 (fun c hc => hX2.used _ (hS c hc)) hl Zxj (fun c hc => by cases hc) (by simp) fun υ pv' h3 k3 => ?_
 refine Zab (Zak rfl (by simp only [EV, Nat.reduceEqDiff, ↓reduceIte, he] <;> try rfl) ?_)
 refine Zah ?_
 apply ZdI 2
 ·simp only [EV, Nat.reduceEqDiff, ↓reduceIte, he] <;> try rfl
 clear he e
 intro e he
 refine Zbm ?_
 show ∃ r, Zaq _ _ _ _ r /\ _
 exact ⟨_, ZaZ rfl (by simp only [EV, Nat.reduceEqDiff, ↓reduceIte, he] <;> try rfl), hK υ pv' h3 ⟨fun c k hc hk => k3.keep _ _ hc (hX2.keep _ _ hk), fun c hc => k3.used _ (hX2.used _ hc)⟩⟩
theorem ZoB : Zar Tryd.prog 139 = some 60 := by kernel_rfl
theorem Zq1 : Zax Tryd.prog 60 = some 1 := by kernel_rfl
theorem ZyI : Zds Tryd.prog 60 = some false := by kernel_rfl
def fnL (l : List (FuncId × Array Value)) : List AV := l.map fun p => .raw (.func (.func p.1) #[] p.2)
set_option maxHeartbeats 1000000 in
theorem ZAd {l : List (FuncId × Array Value)} {A : Option Addr} {c : Nat} (I : Nat -> St -> Prop) (hA : A = none -> l.length = 0) (hl : l.length <= 1000) (h0 : I 0 σ)
 (hstep : ∀ i (hi : i < l.length) υ, I i υ -> Zay Tryd.prog (l[i]).1 ((l[i]).2.toList.map .raw) υ fun r τ => ∃ n : Int, r = vI n /\ (n = 0 -> I (i + 1) τ) /\ (n ≠ 0 -> K (vI n) τ))
 (hend : ∀ υ, I l.length υ -> K (vI 0) υ) : Zay Tryd.prog 57 [.lst A l.length c (fnL l)] σ K := by
 refine ZaG ZaN Tryd.func57 rfl rfl rfl (Nat.le_of_ble_eq_true rfl) ?_
 refine ZdI 0 (v0 := .lst A l.length c (fnL l)) rfl ?_
 intro e he
 first | refine Zaa ?_ | refine Zad ?_ | (refine Zac ?_; refine Zaa ?_) | (refine Zac ?_; refine Zac ?_; refine Zaa ?_)
 refine Zab (Zak rfl (by simp only [EV, Nat.reduceEqDiff, ↓reduceIte, he] <;> try rfl) ?_)
 refine Zah ?_
 apply ZdI 0
 ·simp only [EV, Nat.reduceEqDiff, ↓reduceIte, he] <;> try rfl
 clear he e
 intro e he
 first | refine Zaa ?_ | refine Zad ?_ | (refine Zac ?_; refine Zaa ?_) | (refine Zac ?_; refine Zac ?_; refine Zaa ?_)
 refine Zab (Zak rfl (by simp only [EV, Nat.reduceEqDiff, ↓reduceIte, he] <;> try rfl) ?_)
 refine Zab ?_
 refine ZrO (A := A) (n := l.length) (c := c) (by simp only [EV, Nat.reduceEqDiff, ↓reduceIte, he] <;> try rfl) rfl rfl ZoB ?_
 refine Zab (Zak rfl (by simp only [EV, Nat.reduceEqDiff, ↓reduceIte, he] <;> try rfl) ?_)
 refine Zah ?_
 apply Zb5 6 7 8
 ·simp only [EV, Nat.reduceEqDiff, ↓reduceIte, he] <;> try rfl
 ·simp only [EV, Nat.reduceEqDiff, ↓reduceIte, he] <;> try rfl
 ·simp only [EV, Nat.reduceEqDiff, ↓reduceIte, he] <;> try rfl
 clear he e
 intro e he
 refine Zej ?_
 refine Zgz (fun μ env υ => ∃ i : Nat, μ = l.length - i /\ i <= l.length /\ (env 6 = .lst A l.length c (fnL l) /\ env 7 = vI l.length /\ env 8 = vI i) /\ I i υ) ⟨_, 0, rfl, Nat.zero_le _, he, h0⟩ ?_
 clear he e
 rintro _ e υ ⟨i, rfl, hi, he, hI⟩
 first | refine Zaa ?_ | refine Zad ?_ | (refine Zac ?_; refine Zaa ?_) | (refine Zac ?_; refine Zac ?_; refine Zaa ?_)
 refine Zab ?_
 refine Zmv i l.length (by simp only [EV, Nat.reduceEqDiff, ↓reduceIte, he] <;> try rfl) (by simp only [EV, Nat.reduceEqDiff, ↓reduceIte, he] <;> try rfl) ?_
 refine Zah ?_
 apply ZcU 6 7 8 9
 ·simp only [EV, Nat.reduceEqDiff, ↓reduceIte, he] <;> try rfl
 ·simp only [EV, Nat.reduceEqDiff, ↓reduceIte, he] <;> try rfl
 ·simp only [EV, Nat.reduceEqDiff, ↓reduceIte, he] <;> try rfl
 ·simp only [EV, Nat.reduceEqDiff, ↓reduceIte, he] <;> try rfl
 clear he e
 intro e he
 refine Zbu (t := decide (i < l.length)) (by simp only [EV, Nat.reduceEqDiff, ↓reduceIte, he] <;> try rfl) (fun ht => ?_) (fun ht => ?_)
 ·have hlt : i < l.length := of_decide_eq_true ht
  refine Zb2 ?_
  refine Zej ?_
  first | refine Zaa ?_ | refine Zad ?_ | (refine Zac ?_; refine Zaa ?_) | (refine Zac ?_; refine Zac ?_; refine Zaa ?_)
  refine Zab ?_
  refine ZiY (k := .i64) (j := i) (by simp only [EV, Nat.reduceEqDiff, ↓reduceIte, he] <;> try rfl) (by simp only [EV, Nat.reduceEqDiff, ↓reduceIte, he] <;> try rfl) ZoB Zq1 hlt hA rfl fun ad => ?_
  refine Zab ?_
  refine Zlc (r := .raw (.func (.func (l[i]).1) #[] (l[i]).2)) (by simp only [EV, Nat.reduceEqDiff, ↓reduceIte, he] <;> try rfl) ZyI Zq1 (by
   show ((fnL l).drop (i * 1))[0]? = _
   rw [List.getElem?_drop, Nat.mul_one, Nat.add_zero]
   simp [fnL, hlt]) ?_
  refine Zab (Zak rfl (by simp only [EV, Nat.reduceEqDiff, ↓reduceIte, he] <;> try rfl) ?_)
  refine Zah ?_
  apply ZcU 4 6 7 8
  ·simp only [EV, Nat.reduceEqDiff, ↓reduceIte, he] <;> try rfl
  ·simp only [EV, Nat.reduceEqDiff, ↓reduceIte, he] <;> try rfl
  ·simp only [EV, Nat.reduceEqDiff, ↓reduceIte, he] <;> try rfl
  ·simp only [EV, Nat.reduceEqDiff, ↓reduceIte, he] <;> try rfl
  clear he e
  intro e he
  first | refine Zaa ?_ | refine Zad ?_ | (refine Zac ?_; refine Zaa ?_) | (refine Zac ?_; refine Zac ?_; refine Zaa ?_)
  refine Zab (Zak rfl (by simp only [EV, Nat.reduceEqDiff, ↓reduceIte, he] <;> try rfl) ?_)
  refine Zab ?_
  refine ZqX (g := (l[i]).1) (caps := (l[i]).2) (vs := []) (by simp only [EV, Nat.reduceEqDiff, ↓reduceIte, he] <;> try rfl) rfl ?_
  refine (hstep i hlt υ hI).mono fun a τ hn => ?_
  obtain ⟨n, rfl, hz, hk⟩ := hn
  refine Zab (Zak rfl (by simp only [EV, Nat.reduceEqDiff, ↓reduceIte, he] <;> try rfl) ?_)
  refine Zah ?_
  apply ZcU 5 6 7 8
  ·simp only [EV, Nat.reduceEqDiff, ↓reduceIte, he] <;> try rfl
  ·simp only [EV, Nat.reduceEqDiff, ↓reduceIte, he] <;> try rfl
  ·simp only [EV, Nat.reduceEqDiff, ↓reduceIte, he] <;> try rfl
  ·simp only [EV, Nat.reduceEqDiff, ↓reduceIte, he] <;> try rfl
  clear he e
  intro e he
  first | refine Zaa ?_ | refine Zad ?_ | (refine Zac ?_; refine Zaa ?_) | (refine Zac ?_; refine Zac ?_; refine Zaa ?_)
  refine Zab (Zak rfl (by simp only [EV, Nat.reduceEqDiff, ↓reduceIte, he] <;> try rfl) ?_)
  refine Zab ?_
  refine ZnI (k := .i64) (a := n) (b := 0) (by simp only [EV, Nat.reduceEqDiff, ↓reduceIte, he] <;> try rfl) (by simp only [EV, Nat.reduceEqDiff, ↓reduceIte, he] <;> try rfl) ?_
  refine Zah ?_
  apply Zg6 5 6 7 8 15
  ·simp only [EV, Nat.reduceEqDiff, ↓reduceIte, he] <;> try rfl
  ·simp only [EV, Nat.reduceEqDiff, ↓reduceIte, he] <;> try rfl
  ·simp only [EV, Nat.reduceEqDiff, ↓reduceIte, he] <;> try rfl
  ·simp only [EV, Nat.reduceEqDiff, ↓reduceIte, he] <;> try rfl
  ·simp only [EV, Nat.reduceEqDiff, ↓reduceIte, he] <;> try rfl
  clear he e
  intro e he
  refine Zdw (t := decide (n ≠ 0)) (by simp only [EV, Nat.reduceEqDiff, ↓reduceIte, he] <;> try rfl) (fun ht => ?_) (fun ht => ?_)
  ·first | refine Zaa ?_ | refine Zad ?_ | (refine Zac ?_; refine Zaa ?_) | (refine Zac ?_; refine Zac ?_; refine Zaa ?_)
   refine Zab (Zak rfl (by simp only [EV, Nat.reduceEqDiff, ↓reduceIte, he] <;> try rfl) ?_)
   refine Zab (Zak rfl (by simp only [EV, Nat.reduceEqDiff, ↓reduceIte, he] <;> try rfl) ?_)
   refine Zah ?_
   apply ZdI 2
   ·simp only [EV, Nat.reduceEqDiff, ↓reduceIte, he] <;> try rfl
   clear he e
   intro e he
   refine ZmK ?_
   show ∃ r, Zaq _ _ _ _ r /\ _
   exact ⟨_, ZaZ rfl (by simp only [EV, Nat.reduceEqDiff, ↓reduceIte, he] <;> try rfl), hk (of_decide_eq_true ht)⟩
  ·refine Zgy ?_
   show ZaP _ _ _ _ _ _
   refine Zad ?_
   refine Zab ?_
   refine Zhz i 1 (by simp only [EV, Nat.reduceEqDiff, ↓reduceIte, he] <;> try rfl) (by simp only [EV, Nat.reduceEqDiff, ↓reduceIte, he] <;> try rfl) (by omega) ?_
   refine Zab (Zak rfl (by simp only [EV, Nat.reduceEqDiff, ↓reduceIte, he] <;> try rfl) ?_)
   refine Zah ?_
   show ∃ n', n' < _ /\ _
   exact ⟨_, (by omega : l.length - (i + 1) < l.length - i), i + 1, rfl, hlt, ⟨by simp only [EV, Nat.reduceEqDiff, ↓reduceIte, he] <;> try rfl, by simp only [EV, Nat.reduceEqDiff, ↓reduceIte, he] <;> try rfl, by simp only [EV, Nat.reduceEqDiff, ↓reduceIte, he] <;> try rfl⟩, hz (Decidable.byContradiction fun hne => by simp [hne] at ht)⟩
 ·have hke : i = l.length := by have := of_decide_eq_false ht; omega
  subst hke
  refine Zia ?_
  show ZaP _ _ _ _ _ _
  first | refine Zaa ?_ | refine Zad ?_ | (refine Zac ?_; refine Zaa ?_) | (refine Zac ?_; refine Zac ?_; refine Zaa ?_)
  refine Zab (Zak rfl (by simp only [EV, Nat.reduceEqDiff, ↓reduceIte, he] <;> try rfl) ?_)
  refine Zah ?_
  apply ZdI 2
  ·simp only [EV, Nat.reduceEqDiff, ↓reduceIte, he] <;> try rfl
  clear he e
  intro e he
  refine Zbm ?_
  show ∃ r, Zaq _ _ _ _ r /\ _
  exact ⟨_, ZaZ rfl (by simp only [EV, Nat.reduceEqDiff, ↓reduceIte, he] <;> try rfl), hend υ hI⟩
theorem ZyJ : ZaR Tryd.prog 60 = some .nilFunc := by kernel_rfl
theorem ZyK : ZaR Tryd.prog 27 = some (.slice none 0 0) := by kernel_rfl
theorem Zu7 : Zds Tryd.prog 27 = some false := by kernel_rfl
theorem Zq2 : Zax Tryd.prog 27 = some 1 := by kernel_rfl
theorem ZyL : Zar Tryd.prog 93 = some 27 := by kernel_rfl
set_option maxHeartbeats 1000000 in
theorem ZwK {k nm d : List UInt8} {v : AV} {b0 b1 b2 : Nat} (h : DAt σ bb S fs pcs size mb pv) (hS : ∀ c, S c -> σ.used c) (hb0 : σ.blk b0 = some (.own 70 [ptr bb 0, .raw (sV nm)])) (hb1 : σ.blk b1 = some (.own 9 [.raw (sV k)])) (hb2 : σ.blk b2 = some (.own 27 [v]))
 (hv : SV CT 0 Zdk (.sl 1 d none) v) (hk : k ≠ [] /\ k.length <= 40) (hlen : d.length + ZjG fs <= 100000000) (hp : pcs.length <= 100000000)
 (hK8 : ¬ (size < 1 \/ ((d.length + ZjG fs : Nat) : Int) <= size) -> ∀ τ, Ext σ τ -> K (vI 8) τ)
 (hK0 : (size < 1 \/ ((d.length + ZjG fs : Nat) : Int) <= size) -> ∀ τ S' fs' pcs' pv', DAt τ bb S' fs' pcs' size mb pv' -> But S σ τ -> (∀ c, S c -> S' c) -> (∀ c, S' c -> S c \/ Zgq σ c) -> (∀ c, S' c -> τ.used c) -> ZyA fs pcs k d fs' pcs' -> K (vI 0) τ) : Zay Tryd.prog 58 [ptr b0 0, ptr b1 0, ptr b2 0] σ K := by
 refine ZaG ZaN Tryd.func58 rfl rfl rfl (Nat.le_of_ble_eq_true rfl) ?_
 refine Zb5 0 1 2 (v0 := ptr b0 0) (v1 := ptr b1 0) (v2 := ptr b2 0) rfl rfl rfl ?_
 intro e he
 obtain ⟨A, c, rest, rfl, hA⟩ := ZhX hv
 first | refine Zaa ?_ | refine Zad ?_ | (refine Zac ?_; refine Zaa ?_) | (refine Zac ?_; refine Zac ?_; refine Zaa ?_)
 refine Zab (Zak rfl (by simp only [EV, Nat.reduceEqDiff, ↓reduceIte, he] <;> try rfl) ?_)
 refine Zah ?_
 apply Zb5 0 1 2
 ·simp only [EV, Nat.reduceEqDiff, ↓reduceIte, he] <;> try rfl
 ·simp only [EV, Nat.reduceEqDiff, ↓reduceIte, he] <;> try rfl
 ·simp only [EV, Nat.reduceEqDiff, ↓reduceIte, he] <;> try rfl
 clear he e
 intro e he
 first | refine Zaa ?_ | refine Zad ?_ | (refine Zac ?_; refine Zaa ?_) | (refine Zac ?_; refine Zac ?_; refine Zaa ?_)
 refine Zab ?_
 refine Zaf (b := b0) (o := 0) (by simp only [EV, Nat.reduceEqDiff, ↓reduceIte, he] <;> try rfl) ZfV rfl ?_
 refine Zab ?_
 refine ZaD (b := b0) (o := 0) (r := ptr bb 0) (by simp only [EV, Nat.reduceEqDiff, ↓reduceIte, he] <;> try rfl) hb0 Zky Zkz rfl ?_
 refine Zab ?_
 refine ZaD (b := b1) (o := 0) (r := .raw (sV k)) (by simp only [EV, Nat.reduceEqDiff, ↓reduceIte, he] <;> try rfl) hb1 ZdH Zcp rfl ?_
 refine Zab ?_
 refine ZaD (b := b2) (o := 0) (r := .lst A d.length c (bys d ++ rest)) (by simp only [EV, Nat.reduceEqDiff, ↓reduceIte, he] <;> try rfl) hb2 Zu7 Zq2 rfl ?_
 refine Zab ?_
 refine ZnL (vs := [.lst A d.length c (bys d ++ rest)]) (cells := [.lst A d.length c (bys d ++ rest)]) (by simp only [List.map_cons, List.map_nil, EV, Nat.reduceEqDiff, ↓reduceIte, he]; try rfl) ZyL Zq2 ZyK rfl (by omega) rfl rfl fun rb σ2 hN2 hX2 => ?_
 refine Zab ?_
 refine Za9 (vs := [ptr bb 0, .raw (sV k), .lst (some ⟨rb, 0, none⟩) 1 1 [.lst A d.length c (bys d ++ rest)]]) (by simp only [List.map_cons, List.map_nil, EV, Nat.reduceEqDiff, ↓reduceIte, he] <;> try rfl) ?_
 have h2 := h.but (U := fun _ => False) hX2.but fun b hb hf => hf
 refine ZuZ (d := d) h2 (fun c hc => hX2.used _ (hS c hc)) (fun τ0 hX0 K' hK' => ZuT (ps := [d]) (ZcG.2 ⟨some ⟨rb, 0, none⟩, 1, [.lst A d.length c (bys d ++ rest)], [], rfl, Nat.le_refl _, by decide, by simp, fun q => (by cases q), ?_⟩) (by simp) (by simp; omega) K' ?_) hlen hp (fun hn => absurd hk hn) (fun _ hn υ hX => ?_) (fun _ hf υ S' fs' pcs' pv' g1 g2 g3 g4 g5 g6 => ?_)
 ·exact .cons hv .none
 ·intro v τ q1 q2 q3
  simp only [List.flatten_cons, List.flatten_nil, List.append_nil] at q1
  exact hK' v τ q1 q2 q3
 ·refine Zab (Zak rfl (by simp only [EV, Nat.reduceEqDiff, ↓reduceIte, he] <;> try rfl) ?_)
  refine Zah ?_
  apply ZdI 3
  ·simp only [EV, Nat.reduceEqDiff, ↓reduceIte, he] <;> try rfl
  clear he e
  intro e he
  refine Zbm ?_
  show ∃ r, Zaq _ _ _ _ r /\ _
  exact ⟨_, ZaZ rfl (by simp only [EV, Nat.reduceEqDiff, ↓reduceIte, he] <;> try rfl), hK8 hn υ (hX2.trans hX)⟩
 ·refine Zab (Zak rfl (by simp only [EV, Nat.reduceEqDiff, ↓reduceIte, he] <;> try rfl) ?_)
  refine Zah ?_
  apply ZdI 3
  ·simp only [EV, Nat.reduceEqDiff, ↓reduceIte, he] <;> try rfl
  clear he e
  intro e he
  refine Zbm ?_
  show ∃ r, Zaq _ _ _ _ r /\ _
  exact ⟨_, ZaZ rfl (by simp only [EV, Nat.reduceEqDiff, ↓reduceIte, he] <;> try rfl), hK0 hf υ S' fs' pcs' pv' g1 ⟨fun c k hc hk => g2.keep _ _ hc (hX2.keep _ _ hk), fun c hc => g2.used _ (hX2.used _ hc)⟩ g3 (fun c hc => (g4 c hc).imp id fun q => q.of hX2) g5 g6⟩
theorem Zlr {S S' : Nat -> Prop} {σ υ τ : St} (h : But S σ υ) (k : But S' υ τ) (hS : ∀ c, S' c -> S c \/ Zgq σ c) : But S σ τ :=
 ⟨fun c x hc hx => k.keep _ _ (fun hq => (hS c hq).elim hc fun hn => by rw [hn.1] at hx; cases hx) (h.keep _ _ hc hx), fun c hc => k.used _ (h.used _ hc)⟩
structure ZwL (fs : List Fl) (pcs : List (Nat × Nat)) (k nm d : List UInt8) (fs3 : List Fl) (pcs3 : List (Nat × Nat)) : Prop where
 ex : ∃ fs2 pcs2 f0, ZyA fs pcs k d fs2 pcs2 /\ f0 ∈ fs2 /\ f0.nm = k /\ fs3 = rnF fs2 f0 nm /\ pcs3 = rnP fs2 (ZfU fs2 [k] pcs2).1 nm
theorem Zr1 {fs fs' : List Fl} {pcs pcs' : List (Nat × Nat)} {k d : List UInt8} (h : ZyA fs pcs k d fs' pcs') : ∃ f0 ∈ fs', f0.nm = k := by
 obtain ⟨fs1, f0, v', _, h2, h3, rfl, _⟩ := h
 refine ⟨Zeg f0.b v' (f0.d ++ d) f0, List.mem_map.2 ⟨f0, h2, rfl⟩, ?_⟩
 unfold Zeg
 split <;> exact h3
theorem Zr2 {fs fs' : List Fl} {pcs pcs' : List (Nat × Nat)} {k d : List UInt8} (h : ZyA fs pcs k d fs' pcs') : pcs'.length <= pcs.length + 1 := by
 obtain ⟨fs1, f0, v', _, h2, h3, rfl, rfl⟩ := h
 rw [List.length_append]
 split <;> simp
theorem Zp0 (fs : List Fl) : ∀ ns (pcs : List (Nat × Nat)), (ZfU fs ns pcs).1.length <= pcs.length
 | [], pcs => Nat.le_refl _
 | n :: ns, pcs => by
  unfold ZfU
  split
  ·exact Nat.le_refl _
  ·exact Nat.le_trans (Zp0 fs ns _) (List.length_filter_le _ _)
theorem Zs3 {fs : List Fl} {pcs : List (Nat × Nat)} {k : List UInt8} {f0 : Fl} (h : f0 ∈ fs) (hk : f0.nm = k) : (ZfU fs [k] pcs).2 = 0 := by
 cases hg : ZjF (ZbC fs) k with
 | none => exact absurd hk (Ze7.1 hg f0 h)
 | some fb => rw [Zkw hg]; rfl
set_option maxHeartbeats 2000000 in
theorem ZyM {nm d : List UInt8} {v : AV} (h : DAt σ bb S fs pcs size mb pv) (hS : ∀ c, S c -> σ.used c) (hv : SV CT 0 Zdk (.sl 1 d none) v) (hnm : nm ≠ [] /\ nm.length <= 36) (hlen : d.length + ZjG (Ziq [nm ++ [46, 110, 101, 119]] fs pcs).1 <= 100000000) (hl : pcs.length <= 100000000) (hl2 : (Ziq [nm ++ [46, 110, 101, 119]] fs pcs).2.1.length <= 99999999)
 (hK8 : ¬ (size < 1 \/ ((d.length + ZjG (Ziq [nm ++ [46, 110, 101, 119]] fs pcs).1 : Nat) : Int) <= size) -> ∀ τ pv', DAt τ bb S (Ziq [nm ++ [46, 110, 101, 119]] fs pcs).1 (Ziq [nm ++ [46, 110, 101, 119]] fs pcs).2.1 size mb pv' -> But S σ τ -> K (vI 8) τ)
 (hK0 : (size < 1 \/ ((d.length + ZjG (Ziq [nm ++ [46, 110, 101, 119]] fs pcs).1 : Nat) : Int) <= size) -> ∀ τ S' fs' pcs' pv', DAt τ bb S' fs' pcs' size mb pv' -> But S σ τ -> (∀ c, S c -> S' c) -> (∀ c, S' c -> S c \/ Zgq σ c) -> (∀ c, S' c -> τ.used c) -> ZwL (Ziq [nm ++ [46, 110, 101, 119]] fs pcs).1 (Ziq [nm ++ [46, 110, 101, 119]] fs pcs).2.1 (nm ++ [46, 110, 101, 119]) nm d fs' pcs' -> K (vI 0) τ) :
 Zay Tryd.prog 33 [.agg [ptr bb 0, .raw (sV nm)], v] σ K := by
 refine ZaG ZaN Tryd.func33 rfl rfl rfl (Nat.le_of_ble_eq_true rfl) ?_
 refine ZcT 0 1 (v0 := .agg [ptr bb 0, .raw (sV nm)]) (v1 := v) rfl rfl ?_
 intro e he
 obtain ⟨A, c, rest, rfl, hA⟩ := ZhX hv
 generalize hkd : nm ++ [46, 110, 101, 119] = k at *
 have hkl : k.length = nm.length + 4 := by rw [<- hkd]; simp
 have hkr : k ≠ [] /\ k.length <= 40 := ⟨fun q => by rw [q] at hkl; simp at hkl, by omega⟩
 have hkn : k ≠ nm := fun q => by rw [q] at hkl; omega
 generalize hr : Ziq [k] fs pcs = rr at *
 obtain ⟨fs1, pcs1, er⟩ := rr
 dsimp only at hlen hl2 hK8 hK0
 first | refine Zaa ?_ | refine Zad ?_ | (refine Zac ?_; refine Zaa ?_) | (refine Zac ?_; refine Zac ?_; refine Zaa ?_)
 refine Zab ?_
 refine Zk0 (cs := [ptr bb 0, .raw (sV nm)]) (by simp only [EV, Nat.reduceEqDiff, ↓reduceIte, he] <;> try rfl) rfl fun b0 σ1 hn1 hu1 hb1 hub1 hX1 => ?_
 refine Zab ?_
 refine Zk0 (cs := [.lst A d.length c (bys d ++ rest)]) (by simp only [EV, Nat.reduceEqDiff, ↓reduceIte, he] <;> try rfl) rfl fun b1 σ2 hn2 hu2 hb2 hub2 hX2 => ?_
 refine Zab (Zak rfl (by simp only [EV, Nat.reduceEqDiff, ↓reduceIte, he] <;> try rfl) ?_)
 refine Zah ?_
 apply ZcT 2 3
 ·simp only [EV, Nat.reduceEqDiff, ↓reduceIte, he] <;> try rfl
 ·simp only [EV, Nat.reduceEqDiff, ↓reduceIte, he] <;> try rfl
 clear he e
 intro e he
 first | refine Zaa ?_ | refine Zad ?_ | (refine Zac ?_; refine Zaa ?_) | (refine Zac ?_; refine Zac ?_; refine Zaa ?_)
 refine Zab ?_
 have hb1' := hX2.keep _ _ hb1
 refine Zaf (b := b0) (o := 0) (by simp only [EV, Nat.reduceEqDiff, ↓reduceIte, he] <;> try rfl) ZfV rfl ?_
 refine Zab ?_
 refine ZaD (b := b0) (o := 0 + 1) (r := .raw (sV nm)) (by simp only [EV, Nat.reduceEqDiff, ↓reduceIte, he] <;> try rfl) hb1' ZdH Zcp rfl ?_
 refine Zab ?_
 refine Zr0 (a := nm) (c := [46, 110, 101, 119]) (by simp; omega) (by simp only [EV, Nat.reduceEqDiff, ↓reduceIte, he] <;> try rfl) (by simp only [EV, Nat.reduceEqDiff, ↓reduceIte, he] <;> try rfl) ?_
 rw [hkd]
 refine Zab ?_
 refine ZdQ Zoz rfl fun b2 σ3 hn3 hu3 hb3 hub3 hX3 => ?_
 refine Zab ?_
 refine ZgQ (b := b2) (o := 0) (v := .raw (sV k)) (by simp only [EV, Nat.reduceEqDiff, ↓reduceIte, he] <;> try rfl) (by simp only [EV, Nat.reduceEqDiff, ↓reduceIte, he] <;> try rfl) hb3 Zcp ⟨rfl, rfl, rfl⟩ (Nat.zero_lt_succ _) fun σ4 hb4 k4 => ?_
 refine Zah ?_
 apply Zb5 2 3 5
 ·simp only [EV, Nat.reduceEqDiff, ↓reduceIte, he] <;> try rfl
 ·simp only [EV, Nat.reduceEqDiff, ↓reduceIte, he] <;> try rfl
 ·simp only [EV, Nat.reduceEqDiff, ↓reduceIte, he] <;> try rfl
 clear he e
 intro e he
 have hX4 : Ext σ σ4 := But.ext ((hX1.trans hX2).trans hX3) (fun g hg => by rw [hg]; exact ((hX1.trans hX2).noneOf hn3)) k4
 have e0 : σ4.blk b0 = some (.own 70 [ptr bb 0, .raw (sV nm)]) := k4.keep _ _ (fun q => by rw [q] at hb1'; rw [hn3] at hb1'; cases hb1') (hX3.keep _ _ hb1')
 have e1 : σ4.blk b1 = some (.own 27 [.lst A d.length c (bys d ++ rest)]) := k4.keep _ _ (fun q => by rw [q] at hb2; rw [hn3] at hb2; cases hb2) (hX3.keep _ _ hb2)
 have n0 : Zgq σ b0 := ⟨hn1, hu1⟩
 have n1 : Zgq σ b1 := Zgq.of ⟨hn2, hu2⟩ hX1
 have n2 : Zgq σ b2 := Zgq.of ⟨hn3, hu3⟩ (hX1.trans hX2)
 have hnS : ∀ c, Zgq σ c -> ¬ S c := fun c hc q => hc.2 (hS c q)
 first | refine Zaa ?_ | refine Zad ?_ | (refine Zac ?_; refine Zaa ?_) | (refine Zac ?_; refine Zac ?_; refine Zaa ?_)
 refine Zab ?_
 refine Zaf (b := b0) (o := 0) (by simp only [EV, Nat.reduceEqDiff, ↓reduceIte, he] <;> try rfl) ZfV rfl ?_
 refine Zab ?_
 refine ZaD (b := b0) (o := 0) (r := ptr bb 0) (by simp only [EV, Nat.reduceEqDiff, ↓reduceIte, he] <;> try rfl) e0 Zky Zkz rfl ?_
 refine Zab ?_
 refine ZaD (b := b2) (o := 0) (r := .raw (sV k)) (by simp only [EV, Nat.reduceEqDiff, ↓reduceIte, he] <;> try rfl) hb4 ZdH Zcp rfl ?_
 refine Zab ?_
 refine ZnL (vs := [.raw (sV k)]) (cells := [.raw (sV k)]) (by simp only [List.map_cons, List.map_nil, EV, Nat.reduceEqDiff, ↓reduceIte, he]; try rfl) Zkr Zcp Zoz rfl (by omega) rfl rfl fun rb σ5 hN5 hX5 => ?_
 refine Zab ?_
 refine Za9 (vs := [ptr bb 0, .lst (some ⟨rb, 0, none⟩) 1 1 [.raw (sV k)]]) (by simp only [List.map_cons, List.map_nil, EV, Nat.reduceEqDiff, ↓reduceIte, he] <;> try rfl) ?_
 have h5 : DAt σ5 bb S fs pcs size mb pv := h.but (U := fun _ => False) (hX4.trans hX5).but fun b hb hf => hf
 refine ZAa h5 (by omega) (v := .lst (some ⟨rb, 0, none⟩) 1 1 [.raw (sV k)]) (ns := [k]) Zxj (fun c hc => by cases hc) (by simp) fun σ6 pv6 h6 k6 => ?_
 rw [hr] at h6
 dsimp only at h6
 refine Zah ?_
 apply Zb5 2 3 5
 ·simp only [EV, Nat.reduceEqDiff, ↓reduceIte, he] <;> try rfl
 ·simp only [EV, Nat.reduceEqDiff, ↓reduceIte, he] <;> try rfl
 ·simp only [EV, Nat.reduceEqDiff, ↓reduceIte, he] <;> try rfl
 clear he e
 intro e he
 have B6 : But S σ σ6 := ⟨fun c x hc hx => k6.keep _ _ hc ((hX4.trans hX5).keep _ _ hx), fun c hc => k6.used _ ((hX4.trans hX5).used _ hc)⟩
 have f0 := k6.keep _ _ (hnS b0 n0) (hX5.keep _ _ e0)
 have f1 := k6.keep _ _ (hnS b1 n1) (hX5.keep _ _ e1)
 have f2 := k6.keep _ _ (hnS b2 n2) (hX5.keep _ _ hb4)
 first | refine Zaa ?_ | refine Zad ?_ | (refine Zac ?_; refine Zaa ?_) | (refine Zac ?_; refine Zac ?_; refine Zaa ?_)
 refine Zab ?_
 refine ZhW (vs := [ptr b0 0, ptr b2 0, ptr b1 0]) (by simp only [List.map_cons, List.map_nil, EV, Nat.reduceEqDiff, ↓reduceIte, he]; try rfl) ?_
 refine Zab ?_
 refine ZhW (vs := [ptr b0 0, ptr b2 0]) (by simp only [List.map_cons, List.map_nil, EV, Nat.reduceEqDiff, ↓reduceIte, he]; try rfl) ?_
 refine Zab ?_
 refine ZhW (vs := [ptr b0 0, ptr b2 0]) (by simp only [List.map_cons, List.map_nil, EV, Nat.reduceEqDiff, ↓reduceIte, he]; try rfl) ?_
 refine Zab ?_
 refine ZnL (vs := fnL [(58, #[(ptr b0 0).val, (ptr b2 0).val, (ptr b1 0).val]), (60, #[(ptr b0 0).val, (ptr b2 0).val]), (62, #[(ptr b0 0).val, (ptr b2 0).val])]) (cells := fnL [(58, #[(ptr b0 0).val, (ptr b2 0).val, (ptr b1 0).val]), (60, #[(ptr b0 0).val, (ptr b2 0).val]), (62, #[(ptr b0 0).val, (ptr b2 0).val])]) (by simp only [List.map_cons, List.map_nil, EV, Nat.reduceEqDiff, ↓reduceIte, he]; try rfl) ZoB Zq1 ZyJ rfl (by omega) rfl rfl fun rb2 σ7 hN7 hX7 => ?_
 refine Zab ?_
 refine Za9 (vs := [.lst (some ⟨rb2, 0, none⟩) 3 3 (fnL [(58, #[(ptr b0 0).val, (ptr b2 0).val, (ptr b1 0).val]), (60, #[(ptr b0 0).val, (ptr b2 0).val]), (62, #[(ptr b0 0).val, (ptr b2 0).val])])]) (by simp only [List.map_cons, List.map_nil, EV, Nat.reduceEqDiff, ↓reduceIte, he] <;> try rfl) ?_
 have B7 : But S σ σ7 := ⟨fun c x hc hx => hX7.keep _ _ (B6.keep _ _ hc hx), fun c hc => hX7.used _ (B6.used _ hc)⟩
 have g0 := hX7.keep _ _ f0
 have g1 := hX7.keep _ _ f1
 have g2 := hX7.keep _ _ f2
 have h7 : DAt σ7 bb S fs1 pcs1 size mb pv6 := h6.but (U := fun _ => False) hX7.but fun b hb hf => hf
 have hback : ∀ c, Zgq σ7 c -> Zgq σ c := fun c hc => (Zjy B7 hc).elim (fun q => absurd (B7.used _ (hS c q)) hc.2) id
 refine ZAd (l := [(58, #[(ptr b0 0).val, (ptr b2 0).val, (ptr b1 0).val]), (60, #[(ptr b0 0).val, (ptr b2 0).val]), (62, #[(ptr b0 0).val, (ptr b2 0).val])])
  (fun i υ => ∃ S' fs' pcs' pv', DAt υ bb S' fs' pcs' size mb pv' /\ But S σ7 υ /\ (∀ c, S c -> S' c) /\ (∀ c, S' c -> S c \/ Zgq σ7 c) /\ (∀ c, S' c -> υ.used c) /\ match i with
   | 0 => fs' = fs1 /\ pcs' = pcs1 /\ S' = S
   | 1 => (size < 1 \/ ((d.length + ZjG fs1 : Nat) : Int) <= size) /\ ZyA fs1 pcs1 k d fs' pcs'
   | 2 => (size < 1 \/ ((d.length + ZjG fs1 : Nat) : Int) <= size) /\ ∃ pcs2, ZyA fs1 pcs1 k d fs' pcs2 /\ pcs' = (ZfU fs' [k] pcs2).1
   | _ => (size < 1 \/ ((d.length + ZjG fs1 : Nat) : Int) <= size) /\ ZwL fs1 pcs1 k nm d fs' pcs') (fun q => by cases q) (by simp) ⟨S, fs1, pcs1, pv6, h7, .refl _ _, fun _ q => q, fun _ q => .inl q, fun c q => B7.used _ (hS c q), rfl, rfl, rfl⟩ ?_ ?_
 ·intro i hi υ hI
  obtain ⟨S', fs', pcs', pv', i1, i2, i3, i4, i5, i0⟩ := hI
  have hnS' : ∀ b x, σ7.blk b = some x -> ¬ S b -> ¬ S' b := fun b x hb hs q => (i4 b q).elim hs fun hn => by rw [hn.1] at hb; cases hb
  have j0 := i2.keep _ _ (hnS b0 n0) g0
  have j1 := i2.keep _ _ (hnS b1 n1) g1
  have j2 := i2.keep _ _ (hnS b2 n2) g2
  match i, hi, i0 with
  | 0, _, i7 =>
   obtain ⟨rfl, rfl, rfl⟩ := i7
   refine ZwK i1 i5 j0 j2 j1 hv hkr hlen (by omega) (fun hn τ hX => ⟨8, rfl, (fun q => absurd q (by decide)), fun _ => ?_⟩) fun hf τ S'' fs'' pcs'' pv'' q1 q2 q3 q4 q5 q6 => ⟨0, rfl, fun _ => ?_, fun q => absurd rfl q⟩
   ·refine Zab (Zak rfl (by simp only [EV, Nat.reduceEqDiff, ↓reduceIte, he] <;> try rfl) ?_)
    refine Zah ?_
    apply ZdI 4
    ·simp only [EV, Nat.reduceEqDiff, ↓reduceIte, he] <;> try rfl
    clear he e
    intro e he
    refine Zbm ?_
    show ∃ r, Zaq _ _ _ _ r /\ _
    exact ⟨_, ZaZ rfl (by simp only [EV, Nat.reduceEqDiff, ↓reduceIte, he] <;> try rfl), hK8 hn τ pv' (i1.but (U := fun _ => False) hX.but fun b hb hf => hf) ⟨fun c x hc hx => hX.keep _ _ (i2.keep _ _ hc (B7.keep _ _ hc hx)), fun c hc => hX.used _ (i2.used _ (B7.used _ hc))⟩⟩
   ·exact ⟨S'', fs'', pcs'', pv'', q1, Zlr i2 q2 fun c hc => .inl hc, q3, fun c hc => (q4 c hc).elim .inl fun hn => Zjy i2 hn, q5, hf, q6⟩
  | 1, _, i7 =>
   obtain ⟨hf, i6⟩ := i7
   obtain ⟨f0, hf0, hfk⟩ := Zr1 i6
   refine ZwJ i1 i5 (by have := Zr2 i6; omega) j0 j2 fun τ pv'' q1 q2 => ⟨0, by rw [Zs3 hf0 hfk]; rfl, fun _ => ?_, fun q => absurd rfl q⟩
   exact ⟨S', fs', _, pv'', q1, Zlr i2 q2 i4, i3, i4, fun c hc => q2.used _ (i5 c hc), hf, pcs', i6, rfl⟩
  | 2, _, i7 =>
   obtain ⟨hf, pcs2, i6, rfl⟩ := i7
   obtain ⟨f0, hf0, hfk⟩ := Zr1 i6
   refine ZwI i1 i5 (by have := Zr2 i6; have := Zp0 fs' [k] pcs2; omega) j0 j2 ⟨hnm.1, by omega⟩ hkn hf0 hfk fun τ pv'' q1 q2 => ⟨0, rfl, fun _ => ?_, fun q => absurd rfl q⟩
   exact ⟨S', _, _, pv'', q1, Zlr i2 q2 i4, i3, i4, fun c hc => q2.used _ (i5 c hc), hf, ⟨_, _, f0, i6, hf0, hfk, rfl, rfl⟩⟩
 ·intro υ hI
  obtain ⟨S', fs', pcs', pv', i1, i2, i3, i4, i5, hf, i6⟩ := hI
  refine Zab (Zak rfl (by simp only [EV, Nat.reduceEqDiff, ↓reduceIte, he] <;> try rfl) ?_)
  refine Zah ?_
  apply ZdI 4
  ·simp only [EV, Nat.reduceEqDiff, ↓reduceIte, he] <;> try rfl
  clear he e
  intro e he
  refine Zbm ?_
  show ∃ r, Zaq _ _ _ _ r /\ _
  exact ⟨_, ZaZ rfl (by simp only [EV, Nat.reduceEqDiff, ↓reduceIte, he] <;> try rfl), hK0 hf υ S' fs' pcs' pv' i1 (Zlr B7 i2 fun c hc => .inl hc) i3 (fun c hc => (i4 c hc).imp id (hback c)) i5 i6⟩
end
end Go.Proofs.YteempnebenjkmaaDoor
namespace Go.Proofs.YteempnebenjkmaaDoor
open Go.RowKit
set_option maxRecDepth 100000
set_option linter.unusedVariables false
set_option linter.unusedSimpArgs false
section
variable {σ τ : St} {bb mb : Nat} {S : Nat -> Prop} {fs : List Fl} {pcs : List (Nat × Nat)} {size : Int} {pv : AV} {K : AV -> St -> Prop}
theorem Zs4 {x : Zcd} {bs : List UInt8} {e : Int} {as_ : List AV} (hB : Zdi x = some ((bs, e, ()), ((), ()))) (hx : SVs CT 0 Zdk (CT.enc 10 x) as_) (hK : ∀ v τ, SV CT 0 Zdk (.sl 1 bs none) v -> Ext σ τ -> K (.tup [v, vI e]) τ) : Zay Tryd.prog 6 [.agg as_] σ K := by
 refine Zkp (Zim.ok (x, ()) () ((bs, e, ()), ((), ())) hB) (.cons (Zcm.2 ⟨_, rfl, hx⟩) .none) K fun v τ ρ' q1 _ q3 _ => ?_
 obtain ⟨ls, rfl, h1⟩ := Zfn.1 q1
 obtain ⟨v0, v1, rfl, g0, g1⟩ := Zf0.1 h1
 obtain rfl := Zan.1 g1
 exact hK v0 τ (SVs.shut ((Wk.drop _ _ _).sv g0) (by intro x hx; rw [List.mem_singleton.1 hx]; rfl)) q3
theorem ZwM {l : List Zb4} {bs : List UInt8} {e : Int} {a : AV} (hB : Zeb l = some ((bs, e, ()), ((), ()))) (ha : SV CT 0 Zdk (.sl 6 l none) a) (hK : ∀ v τ, SV CT 0 Zdk (.sl 1 bs none) v -> Ext σ τ -> K (.tup [v, vI e]) τ) : Zay Tryd.prog 32 [a] σ K := by
 refine Zkp (Zpn.ok (l, ()) () ((bs, e, ()), ((), ())) hB) (.cons ha .none) K fun v τ ρ' q1 _ q3 _ => ?_
 obtain ⟨ls, rfl, h1⟩ := Zfn.1 q1
 obtain ⟨v0, v1, rfl, g0, g1⟩ := Zf0.1 h1
 obtain rfl := Zan.1 g1
 exact hK v0 τ (SVs.shut ((Wk.drop _ _ _).sv g0) (by intro x hx; rw [List.mem_singleton.1 hx]; rfl)) q3
theorem ZwN {b : List UInt8} {l : List Zb4} {n : Int} {a : AV} (hB : ZeV b = some ((l, n, ()), ((), ()))) (ha : SV CT 0 Zdk (.sl 1 b none) a) (hK : ∀ v τ, SV CT 0 Zdk (.sl 6 l none) v -> Ext σ τ -> K (.tup [v, vI n]) τ) : Zay Tryd.prog 31 [a] σ K := by
 refine Zkp (Zpo.ok (b, ()) () ((l, n, ()), ((), ())) hB) (.cons ha .none) K fun v τ ρ' q1 _ q3 _ => ?_
 obtain ⟨ls, rfl, h1⟩ := Zfn.1 q1
 obtain ⟨v0, v1, rfl, g0, g1⟩ := Zf0.1 h1
 obtain rfl := Zan.1 g1
 exact hK v0 τ (SVs.shut ((Wk.drop _ _ _).sv g0) (by intro x hx; rw [List.mem_singleton.1 hx]; rfl)) q3
theorem ZiQ : Zds Tryd.prog 29 = some true := by kernel_rfl
theorem ZdY : Zax Tryd.prog 29 = some 7 := by kernel_rfl
theorem Zu8 : ZaR Tryd.prog 79 = some (.agg #[.int .i64 0, .slice none 0 0]) := by kernel_rfl
theorem ZyN : ZcR Tryd.prog 79 = some [(0, 1), (1, 1)] := by kernel_rfl
theorem Zq3 : Zax Tryd.prog 79 = some 2 := by kernel_rfl
theorem ZoC : Zar Tryd.prog 75 = some 79 := by kernel_rfl
def ZmD (g : Nat) : List UInt8 := ZdX g ++ [46, 110, 101, 119]
theorem ZmE {as_ : List AV} (h : as_.length = 7) : ZbN (some true) (some 7) as_ 0 = some (.agg as_) := by
 match as_, h with
 | [a, b, c, d, e, f, g], _ => rfl
set_option maxHeartbeats 2000000 in
theorem ZyO {x : Zcd} {as_ : List AV} {g : Nat} {bs d : List UInt8} (h : DAt σ bb S fs pcs size mb pv) (hS : ∀ c, S c -> σ.used c) (hg : g <= 4) (hd : (Go.Lib.decDigits g).length <= 21) (hx : SVs CT 0 Zdk (CT.enc 10 x) as_)
 (hB : Zdi x = some ((bs, 0, ()), ((), ()))) (hP : Zeb [⟨4, bs⟩] = some ((d, 0, ()), ((), ())))
 (hlen : d.length + ZjG (Ziq [ZmD g] fs pcs).1 <= 100000000) (hl : pcs.length <= 100000000) (hl2 : (Ziq [ZmD g] fs pcs).2.1.length <= 99999999)
 (hK8 : ¬ (size < 1 \/ ((d.length + ZjG (Ziq [ZmD g] fs pcs).1 : Nat) : Int) <= size) -> ∀ τ pv', DAt τ bb S (Ziq [ZmD g] fs pcs).1 (Ziq [ZmD g] fs pcs).2.1 size mb pv' -> But S σ τ -> K (vI 8) τ)
 (hK0 : (size < 1 \/ ((d.length + ZjG (Ziq [ZmD g] fs pcs).1 : Nat) : Int) <= size) -> ∀ τ S' fs' pcs' pv', DAt τ bb S' fs' pcs' size mb pv' -> But S σ τ -> (∀ c, S c -> S' c) -> (∀ c, S' c -> S c \/ Zgq σ c) -> (∀ c, S' c -> τ.used c) -> ZwL (Ziq [ZmD g] fs pcs).1 (Ziq [ZmD g] fs pcs).2.1 (ZmD g) (ZdX g) d fs' pcs' -> K (vI 0) τ) :
 Zay Tryd.prog 13 [ptr bb 0, vI g, .agg as_] σ K := by
 have ha7 : as_.length = 7 := hx.len
 refine ZaG ZaN Tryd.func13 rfl rfl rfl (Nat.le_of_ble_eq_true rfl) ?_
 refine Zb5 0 1 2 (v0 := ptr bb 0) (v1 := vI g) (v2 := .agg as_) rfl rfl rfl ?_
 intro e he
 first | refine Zaa ?_ | refine Zad ?_ | (refine Zac ?_; refine Zaa ?_) | (refine Zac ?_; refine Zac ?_; refine Zaa ?_)
 refine Zab ?_
 refine Zk0 (cs := as_) (by simp only [EV, Nat.reduceEqDiff, ↓reduceIte, he] <;> try rfl) rfl fun b5 σ1 hn1 hu1 hb1 hub1 hX1 => ?_
 refine Zab (Zak rfl (by simp only [EV, Nat.reduceEqDiff, ↓reduceIte, he] <;> try rfl) ?_)
 refine Zah ?_
 apply Zb5 0 1 5
 ·simp only [EV, Nat.reduceEqDiff, ↓reduceIte, he] <;> try rfl
 ·simp only [EV, Nat.reduceEqDiff, ↓reduceIte, he] <;> try rfl
 ·simp only [EV, Nat.reduceEqDiff, ↓reduceIte, he] <;> try rfl
 clear he e
 intro e he
 first | refine Zaa ?_ | refine Zad ?_ | (refine Zac ?_; refine Zaa ?_) | (refine Zac ?_; refine Zac ?_; refine Zaa ?_)
 refine Zab (Zak rfl (by simp only [EV, Nat.reduceEqDiff, ↓reduceIte, he] <;> try rfl) ?_)
 refine Zab (Zak rfl (by simp only [EV, Nat.reduceEqDiff, ↓reduceIte, he] <;> try rfl) ?_)
 refine Zab ?_
 refine Za9 (vs := [ptr bb 0, vI g]) (by simp only [List.map_cons, List.map_nil, EV, Nat.reduceEqDiff, ↓reduceIte, he] <;> try rfl) ?_
 refine ZyH hg (by omega) fun σ2 hX2 => ?_
 refine Zab (Zak rfl (by simp only [EV, Nat.reduceEqDiff, ↓reduceIte, he] <;> try rfl) ?_)
 refine Zab ?_
 refine Za1 (l := [.agg [ptr bb 0, .raw (sV (ZdX g))], vI 0]) (by simp only [EV, Nat.reduceEqDiff, ↓reduceIte, he] <;> try rfl) rfl ?_
 refine Zab ?_
 refine Za1 (l := [.agg [ptr bb 0, .raw (sV (ZdX g))], vI 0]) (by simp only [EV, Nat.reduceEqDiff, ↓reduceIte, he] <;> try rfl) rfl ?_
 refine Zab ?_
 refine ZdQ ZmC rfl fun b7 σ3 hn3 hu3 hb3 hub3 hX3 => ?_
 refine Zab ?_
 refine ZcS (b := b7) (o := 0) (u := .agg [ptr bb 0, .raw (sV (ZdX g))]) (by simp only [EV, Nat.reduceEqDiff, ↓reduceIte, he] <;> try rfl) (by simp only [EV, Nat.reduceEqDiff, ↓reduceIte, he] <;> try rfl) hb3 Zkx rfl rfl fun σ4 hb4 k4 => ?_
 refine Zab (Zak rfl (by simp only [EV, Nat.reduceEqDiff, ↓reduceIte, he] <;> try rfl) ?_)
 refine Zah ?_
 apply Zb5 5 7 8
 ·simp only [EV, Nat.reduceEqDiff, ↓reduceIte, he] <;> try rfl
 ·simp only [EV, Nat.reduceEqDiff, ↓reduceIte, he] <;> try rfl
 ·simp only [EV, Nat.reduceEqDiff, ↓reduceIte, he] <;> try rfl
 clear he e
 intro e he
 have hX13 : Ext σ σ3 := (hX1.trans hX2).trans hX3
 have hX4 : Ext σ σ4 := But.ext hX13 (fun g hg => by rw [hg]; exact (hX1.trans hX2).noneOf hn3) k4
 have hb5 : σ4.blk b5 = some (.own 29 as_) := k4.keep _ _ (fun q => by rw [q] at hb1; have := hX2.keep _ _ hb1; rw [hn3] at this; cases this) ((hX2.trans hX3).keep _ _ hb1)
 first | refine Zaa ?_ | refine Zad ?_ | (refine Zac ?_; refine Zaa ?_) | (refine Zac ?_; refine Zac ?_; refine Zaa ?_)
 refine Zab (Zak rfl (by simp only [EV, Nat.reduceEqDiff, ↓reduceIte, he] <;> try rfl) ?_)
 refine Zab ?_
 refine ZnI (k := .i64) (a := 0) (b := 0) (by simp only [EV, Nat.reduceEqDiff, ↓reduceIte, he] <;> try rfl) (by simp only [EV, Nat.reduceEqDiff, ↓reduceIte, he] <;> try rfl) ?_
 refine Zah ?_
 apply ZcU 5 7 8 18
 ·simp only [EV, Nat.reduceEqDiff, ↓reduceIte, he] <;> try rfl
 ·simp only [EV, Nat.reduceEqDiff, ↓reduceIte, he] <;> try rfl
 ·simp only [EV, Nat.reduceEqDiff, ↓reduceIte, he] <;> try rfl
 ·simp only [EV, Nat.reduceEqDiff, ↓reduceIte, he] <;> try rfl
 clear he e
 intro e he
 refine Zbu (t := false) (by simp only [EV, Nat.reduceEqDiff, ↓reduceIte, he] <;> try rfl) (fun ht => by cases ht) (fun ht => ?_)
 refine Zb2 ?_
 first | refine Zaa ?_ | refine Zad ?_ | (refine Zac ?_; refine Zaa ?_) | (refine Zac ?_; refine Zac ?_; refine Zaa ?_)
 refine Zab ?_
 refine ZaD (b := b5) (o := 0) (r := .agg as_) (by simp only [EV, Nat.reduceEqDiff, ↓reduceIte, he] <;> try rfl) hb5 ZiQ ZdY (ZmE ha7) ?_
 refine Zab ?_
 refine Za9 (vs := [.agg as_]) (by simp only [List.map_cons, List.map_nil, EV, Nat.reduceEqDiff, ↓reduceIte, he] <;> try rfl) ?_
 refine Zs4 hB hx fun v σ5 hv hX5 => ?_
 refine Zab (Zak rfl (by simp only [EV, Nat.reduceEqDiff, ↓reduceIte, he] <;> try rfl) ?_)
 refine Zab ?_
 refine Za1 (l := [v, vI 0]) (by simp only [EV, Nat.reduceEqDiff, ↓reduceIte, he] <;> try rfl) rfl ?_
 refine Zab ?_
 refine Za1 (l := [v, vI 0]) (by simp only [EV, Nat.reduceEqDiff, ↓reduceIte, he] <;> try rfl) rfl ?_
 refine Zab (Zak rfl (by simp only [EV, Nat.reduceEqDiff, ↓reduceIte, he] <;> try rfl) ?_)
 refine Zab (Zak rfl (by simp only [EV, Nat.reduceEqDiff, ↓reduceIte, he] <;> try rfl) ?_)
 refine Zah ?_
 apply Zb5 7 8 9
 ·simp only [EV, Nat.reduceEqDiff, ↓reduceIte, he] <;> try rfl
 ·simp only [EV, Nat.reduceEqDiff, ↓reduceIte, he] <;> try rfl
 ·simp only [EV, Nat.reduceEqDiff, ↓reduceIte, he] <;> try rfl
 clear he e
 intro e he
 first | refine Zaa ?_ | refine Zad ?_ | (refine Zac ?_; refine Zaa ?_) | (refine Zac ?_; refine Zac ?_; refine Zaa ?_)
 refine Zab (Zak rfl (by simp only [EV, Nat.reduceEqDiff, ↓reduceIte, he] <;> try rfl) ?_)
 refine Zab ?_
 refine ZnI (k := .i64) (a := 0) (b := 0) (by simp only [EV, Nat.reduceEqDiff, ↓reduceIte, he] <;> try rfl) (by simp only [EV, Nat.reduceEqDiff, ↓reduceIte, he] <;> try rfl) ?_
 refine Zah ?_
 apply ZcU 7 8 9 26
 ·simp only [EV, Nat.reduceEqDiff, ↓reduceIte, he] <;> try rfl
 ·simp only [EV, Nat.reduceEqDiff, ↓reduceIte, he] <;> try rfl
 ·simp only [EV, Nat.reduceEqDiff, ↓reduceIte, he] <;> try rfl
 ·simp only [EV, Nat.reduceEqDiff, ↓reduceIte, he] <;> try rfl
 clear he e
 intro e he
 refine Zbu (t := false) (by simp only [EV, Nat.reduceEqDiff, ↓reduceIte, he] <;> try rfl) (fun ht => by cases ht) (fun ht => ?_)
 refine Zb2 ?_
 obtain ⟨A, c, rest, rfl, hA⟩ := ZhX hv
 first | refine Zaa ?_ | refine Zad ?_ | (refine Zac ?_; refine Zaa ?_) | (refine Zac ?_; refine Zac ?_; refine Zaa ?_)
 refine Zab (Zak rfl (by simp only [EV, Nat.reduceEqDiff, ↓reduceIte, he] <;> try rfl) ?_)
 refine Zab ?_
 refine Zhc (vs := [.raw (.int .i64 4), .lst A bs.length c (bys bs ++ rest)]) (cells := [.raw (.int .i64 4), .lst A bs.length c (bys bs ++ rest)]) (by simp only [List.map_cons, List.map_nil, EV, Nat.reduceEqDiff, ↓reduceIte, he]; try rfl) Zu8 ZyN rfl ?_
 refine Zab ?_
 refine ZnL (vs := [.agg [.raw (.int .i64 4), .lst A bs.length c (bys bs ++ rest)]]) (cells := [.raw (.int .i64 4), .lst A bs.length c (bys bs ++ rest)]) (by simp only [List.map_cons, List.map_nil, EV, Nat.reduceEqDiff, ↓reduceIte, he]; try rfl) ZoC Zq3 Zu8 rfl (by omega) rfl rfl fun rb σ6 hN6 hX6 => ?_
 refine Zab ?_
 refine Za9 (vs := [.lst (some ⟨rb, 0, none⟩) 1 1 [.raw (.int .i64 4), .lst A bs.length c (bys bs ++ rest)]]) (by simp only [List.map_cons, List.map_nil, EV, Nat.reduceEqDiff, ↓reduceIte, he] <;> try rfl) ?_
 refine ZwM hP (ZcG.2 ⟨some ⟨rb, 0, none⟩, 1, [.raw (.int .i64 4), .lst A bs.length c (bys bs ++ rest)], [], rfl, Nat.le_refl _, by decide, by simp, fun q => (by cases q), ?_⟩) fun w σ7 hw hX7 => ?_
 ·exact .cons (Zan.2 rfl) (.cons hv .none)
 refine Zab (Zak rfl (by simp only [EV, Nat.reduceEqDiff, ↓reduceIte, he] <;> try rfl) ?_)
 refine Zab ?_
 refine Za1 (l := [w, vI 0]) (by simp only [EV, Nat.reduceEqDiff, ↓reduceIte, he] <;> try rfl) rfl ?_
 refine Zab ?_
 refine Za1 (l := [w, vI 0]) (by simp only [EV, Nat.reduceEqDiff, ↓reduceIte, he] <;> try rfl) rfl ?_
 refine Zab (Zak rfl (by simp only [EV, Nat.reduceEqDiff, ↓reduceIte, he] <;> try rfl) ?_)
 refine Zab (Zak rfl (by simp only [EV, Nat.reduceEqDiff, ↓reduceIte, he] <;> try rfl) ?_)
 refine Zah ?_
 apply Zb5 7 8 10
 ·simp only [EV, Nat.reduceEqDiff, ↓reduceIte, he] <;> try rfl
 ·simp only [EV, Nat.reduceEqDiff, ↓reduceIte, he] <;> try rfl
 ·simp only [EV, Nat.reduceEqDiff, ↓reduceIte, he] <;> try rfl
 clear he e
 intro e he
 first | refine Zaa ?_ | refine Zad ?_ | (refine Zac ?_; refine Zaa ?_) | (refine Zac ?_; refine Zac ?_; refine Zaa ?_)
 refine Zab (Zak rfl (by simp only [EV, Nat.reduceEqDiff, ↓reduceIte, he] <;> try rfl) ?_)
 refine Zab ?_
 refine ZnI (k := .i64) (a := 0) (b := 0) (by simp only [EV, Nat.reduceEqDiff, ↓reduceIte, he] <;> try rfl) (by simp only [EV, Nat.reduceEqDiff, ↓reduceIte, he] <;> try rfl) ?_
 refine Zah ?_
 apply ZcU 7 8 10 36
 ·simp only [EV, Nat.reduceEqDiff, ↓reduceIte, he] <;> try rfl
 ·simp only [EV, Nat.reduceEqDiff, ↓reduceIte, he] <;> try rfl
 ·simp only [EV, Nat.reduceEqDiff, ↓reduceIte, he] <;> try rfl
 ·simp only [EV, Nat.reduceEqDiff, ↓reduceIte, he] <;> try rfl
 clear he e
 intro e he
 refine Zbu (t := false) (by simp only [EV, Nat.reduceEqDiff, ↓reduceIte, he] <;> try rfl) (fun ht => by cases ht) (fun ht => ?_)
 refine Zb2 ?_
 have hX47 : Ext σ4 σ7 := (hX5.trans hX6).trans hX7
 have hX : Ext σ σ7 := hX4.trans hX47
 first | refine Zaa ?_ | refine Zad ?_ | (refine Zac ?_; refine Zaa ?_) | (refine Zac ?_; refine Zac ?_; refine Zaa ?_)
 refine Zab ?_
 refine ZaD (b := b7) (o := 0) (r := .agg [ptr bb 0, .raw (sV (ZdX g))]) (by simp only [EV, Nat.reduceEqDiff, ↓reduceIte, he] <;> try rfl) (hX47.keep _ _ hb4) Zu6 Zkx rfl ?_
 refine Zab (Zak rfl (by simp only [EV, Nat.reduceEqDiff, ↓reduceIte, he] <;> try rfl) ?_)
 refine Zab ?_
 refine Za9 (vs := [.agg [ptr bb 0, .raw (sV (ZdX g))], w]) (by simp only [List.map_cons, List.map_nil, EV, Nat.reduceEqDiff, ↓reduceIte, he] <;> try rfl) ?_
 refine ZyM (h.but (U := fun _ => False) hX.but fun b hb hf => hf) (fun c hc => hX.used _ (hS c hc)) hw ⟨by simp [ZdX], by simp [ZdX]; omega⟩ hlen hl hl2 (fun hn υ pv' q1 q2 => ?_) (fun hf υ S' fs' pcs' pv' q1 q2 q3 q4 q5 q6 => ?_)
 ·refine Zab (Zak rfl (by simp only [EV, Nat.reduceEqDiff, ↓reduceIte, he] <;> try rfl) ?_)
  refine Zah ?_
  apply ZdI 6
  ·simp only [EV, Nat.reduceEqDiff, ↓reduceIte, he] <;> try rfl
  clear he e
  intro e he
  refine Zbm ?_
  show ∃ r, Zaq _ _ _ _ r /\ _
  exact ⟨_, ZaZ rfl (by simp only [EV, Nat.reduceEqDiff, ↓reduceIte, he] <;> try rfl), hK8 hn υ pv' q1 ⟨fun c x hc hx => q2.keep _ _ hc (hX.keep _ _ hx), fun c hc => q2.used _ (hX.used _ hc)⟩⟩
 ·refine Zab (Zak rfl (by simp only [EV, Nat.reduceEqDiff, ↓reduceIte, he] <;> try rfl) ?_)
  refine Zah ?_
  apply ZdI 6
  ·simp only [EV, Nat.reduceEqDiff, ↓reduceIte, he] <;> try rfl
  clear he e
  intro e he
  refine Zbm ?_
  show ∃ r, Zaq _ _ _ _ r /\ _
  exact ⟨_, ZaZ rfl (by simp only [EV, Nat.reduceEqDiff, ↓reduceIte, he] <;> try rfl), hK0 hf υ S' fs' pcs' pv' q1 ⟨fun c x hc hx => q2.keep _ _ hc (hX.keep _ _ hx), fun c hc => q2.used _ (hX.used _ hc)⟩ q3 (fun c hc => (q4 c hc).imp id fun q => q.of hX) q5 q6⟩
end
end Go.Proofs.YteempnebenjkmaaDoor
namespace Go.Proofs.YteempnebenjkmaaDoor
open Go.RowKit
set_option linter.unusedSimpArgs false
set_option maxRecDepth 100000
set_option linter.unusedVariables false
section
variable {P : Program} {σ τ : St}
theorem Zu9 {w w' : World} {G : Nat -> Prop} (h : Grow w σ w' τ) : Grow w σ w' (Zmt G τ) := by
 refine ⟨h.os, h.tape, h.output, h.size, h.used, fun b hb hn => ?_, fun b t k s hb ht => ?_, h.more⟩
 ·obtain ⟨g1, g2⟩ := h.rest b hb hn
  refine ⟨g1, ?_⟩
  by_cases hg : G b
  ·exact ZfC hg
  ·rw [ZdD hg]; exact g2
 ·obtain ⟨g1, g2⟩ := h.tail b t k s hb ht
  refine ⟨g1, ?_⟩
  by_cases hg : G b
  ·exact .inl (ZfC hg)
  ·rw [ZdD hg]; exact g2
end
end Go.Proofs.YteempnebenjkmaaDoor
namespace Go.Proofs.YteempnebenjkmaaDoor
open Go.RowKit
set_option maxRecDepth 100000
set_option linter.unusedVariables false
set_option linter.unusedSimpArgs false
section
variable {P : Program} {G : Nat -> Prop} {σ τ : St}
theorem Zjt.agg {l m : List AV} (h : ZeA G σ l m) : Zjt G σ (.agg l) (.agg m) := ⟨by simp only [AV.val_agg, h.vals], fun w Z hH hV => by
 unfold Zae at hV ⊢
 exact ZaL.iff.2 (h.valid hH (ZaL.iff.1 hV))⟩
theorem Zjt.tup {l m : List AV} (h : ZeA G σ l m) : Zjt G σ (.tup l) (.tup m) := ⟨by simp only [AV.val_tup, h.vals], fun w Z hH hV => by
 unfold Zae at hV ⊢
 exact ZaL.iff.2 (h.valid hH (ZaL.iff.1 hV))⟩
theorem Zay.tell {f : FuncId} {args : List AV} {K : AV -> St -> Prop} (h : Zay P f args σ fun r τ => ∃ G r', Zjt G τ r r' /\ K r' (Zmt G τ)) : Zay P f args σ K := by
 intro w Z hH hV
 refine (h w Z hH hV).mono ?_
 rintro y w' ⟨r, τ, rfl, ⟨G, r', hl, hK⟩, hH', hV', hG⟩
 exact ⟨r', _, by rw [hl.1], hK, Zwh hH', hl.2 w' Z hH' hV', Zu9 hG⟩
end
section
variable {σ τ : St} {bb mb : Nat} {S : Nat -> Prop} {fs : List Fl} {pcs : List (Nat × Nat)} {size : Int} {pv : AV} {K : AV -> St -> Prop}
set_option maxHeartbeats 1000000 in
theorem Zva {b : List UInt8} {idx term : Int} {n1 n2 n3 n4 : Nat} {l1 l2 l3 l4 : List Int} {by_ : List UInt8} {ok : Bool} {a : AV} (hB : Za6 b = some (((idx, term, n1, n2, n3, n4, by_, ()), ok, ()), (l1, l2, l3, l4, ()))) (h1 : n1 <= l1.length) (h2 : n2 <= l2.length) (h3 : n3 <= l3.length) (h4 : n4 <= l4.length) (hsm : l1.length <= 1000000 /\ l2.length <= 1000000 /\ l3.length <= 1000000 /\ l4.length <= 1000000) (ha : SV CT 0 Zdk (.sl 1 b none) a)
 (hK : ∀ as_ τ, SVs CT 0 Zdk (CT.enc 10 (⟨⟨idx, term, ⟨l1.take n1, l2.take n2, l3.take n3, l4.take n4⟩⟩, by_⟩ : Zcd)) as_ -> Ext σ τ -> K (.tup [.agg as_, vT ok]) τ) : Zay Tryd.prog 8 [a] σ K := by
 refine Zay.tell (Zkp (ZkW.ok (b, ()) () (((idx, term, n1, n2, n3, n4, by_, ()), ok, ()), (l1, l2, l3, l4, ())) hB) (.cons ha .none) _ fun r τ ρ' q1 q2 q3 q4 => ?_)
 obtain ⟨ls, rfl, g⟩ := Zfn.1 q1
 obtain ⟨v0, v1, rfl, g0, g1⟩ := Zf0.1 g
 obtain rfl := ZaU.1 g1
 obtain ⟨as_, rfl, g2⟩ := Zcm.1 g0
 obtain ⟨a1, _, rfl, e1, g2⟩ := g2.to
 obtain ⟨a2, _, rfl, e2, g2⟩ := g2.to
 obtain ⟨a3, _, rfl, e3, g2⟩ := g2.to
 obtain ⟨a4, _, rfl, e4, g2⟩ := g2.to
 obtain ⟨a5, _, rfl, e5, g2⟩ := g2.to
 obtain ⟨a6, _, rfl, e6, g2⟩ := g2.to
 obtain ⟨a7, rfl, e7⟩ := ZeQ.1 g2
 obtain rfl := Zan.1 e1
 obtain rfl := Zan.1 e2
 obtain ⟨c1, d1, o1, s1⟩ := ZhA e3 q2 (i := 0) rfl h1
 obtain ⟨c2, d2, o2, s2⟩ := ZhA e4 q2 (i := 1) rfl h2
 obtain ⟨c3, d3, o3, s3⟩ := ZhA e5 q2 (i := 2) rfl h3
 obtain ⟨c4, d4, o4, s4⟩ := ZhA e6 q2 (i := 3) rfl h4
 let G : Nat -> Prop := fun b => hbk a3 = some b \/ hbk a4 = some b \/ hbk a5 = some b \/ hbk a6 = some b
 obtain ⟨A1, k1, m1, u1, w1, z1⟩ := d1.lends (G := G) (fun b hb => .inl hb) (.refl c1)
 obtain ⟨A2, k2, m2, u2, w2, z2⟩ := d2.lends (G := G) (fun b hb => .inr (.inl hb)) (.refl c2)
 obtain ⟨A3, k3, m3, u3, w3, z3⟩ := d3.lends (G := G) (fun b hb => .inr (.inr (.inl hb))) (.refl c3)
 obtain ⟨A4, k4, m4, u4, w4, z4⟩ := d4.lends (G := G) (fun b hb => .inr (.inr (.inr hb))) (.refl c4)
 have e7' := SVs.shut (N' := 0) (ρ' := Zdk) (.cons e7 .none) (by intro x hx; rw [List.mem_singleton.1 hx]; rfl)
 have sl : ∀ {E n k : Nat} {A : Option Addr} {xs : List (Ty E)} {cs : List AV} (hn : xs.length = n), n <= 1000000 -> n <= k -> k <= maxLen -> (A = none -> n = 0 /\ k = 0) -> SVs CT 0 Zdk (xs.flatMap (CT.enc E)) cs -> SV CT 0 Zdk (.sl E xs none) (.lst A n k cs) := fun {E n k A xs cs} hn p0 p1 p2 p3 p4 => by
  subst hn
  exact ZcG.2 ⟨A, k, cs, [], by rw [List.append_nil], p1, p2, by omega, fun q => p3 q, p4⟩
 refine ⟨G, .tup [.agg [_, _, .lst A1 n1 k1 c1, .lst A2 n2 k2 c2, .lst A3 n3 k3 c3, .lst A4 n4 k4 c4, a7], _], Zjt.tup ⟨Zjt.agg ⟨.refl _, .refl _, m1, m2, m3, m4, .refl _, trivial⟩, .refl _, trivial⟩, hK _ _ ?_ ⟨fun c k hk => ?_, fun c hc => q3.used _ hc⟩⟩
 ·exact .cons (Zan.2 rfl) (.cons (Zan.2 rfl) (.cons (sl (E := 0) (by rw [List.length_take]; omega) (by omega) u1 w1 z1 (s1 0 Zdk)) (.cons (sl (E := 0) (by rw [List.length_take]; omega) (by omega) u2 w2 z2 (s2 0 Zdk)) (.cons (sl (E := 0) (by rw [List.length_take]; omega) (by omega) u3 w3 z3 (s3 0 Zdk)) (.cons (sl (E := 0) (by rw [List.length_take]; omega) (by omega) u4 w4 z4 (s4 0 Zdk)) e7')))))
 ·have hG : ¬ G c := by
   have no : ∀ i x, (ρ' i).owns c -> ([.arr 3 0 false l1, .arr 3 0 false l2, .arr 3 0 false l3, .arr 3 0 false l4] : List (HI Ty))[i]? = some x -> x.alive = true -> False := fun i x p1 p2 p3 => by
    have := (q4 i x c p2 p3 p1).1
    rw [hk] at this
    cases this
   rintro (q | q | q | q)
   ·exact no 0 _ (o1 c q) rfl rfl
   ·exact no 1 _ (o2 c q) rfl rfl
   ·exact no 2 _ (o3 c q) rfl rfl
   ·exact no 3 _ (o4 c q) rfl rfl
  rw [ZdD hG]
  exact q3.keep _ _ hk
theorem Zr3 {G : Nat -> Prop} (h : Ext σ τ) (hG : ∀ c, G c -> Zgq σ c) : Ext σ (Zmt G τ) := ⟨fun c k hk => by
 rw [ZdD (fun q => by have := (hG c q).1; rw [hk] at this; cases this)]
 exact h.keep _ _ hk, fun c hc => h.used _ hc⟩
theorem Zp1 (h : DAt σ bb S fs pcs size mb pv) {k : List UInt8} (hfl : ∀ f ∈ fs, f.d.length <= 1000000000)
 (hK1 : (∀ f ∈ fs, f.nm ≠ k) -> ∀ τ, Ext σ τ -> K (.tup [.lst none 0 0 [], vT false]) τ)
 (hK2 : ∀ f0 ∈ fs, f0.nm = k -> ∀ v τ, SV CT 0 Zdk (.sl 1 f0.d none) v -> Ext σ τ -> K (.tup [v, vT true]) τ) : Zay Tryd.prog 30 [ptr bb 0, .raw (sV k)] σ K := by
 refine Zay.tell (ZyD h hfl (fun hn => ⟨fun _ => False, _, Zjt.refl _, hK1 hn _ (Zr3 (.refl _) fun _ q => q.elim)⟩) fun f0 hf0 hk τ v q1 q2 q3 => ?_)
 obtain ⟨A, c, m, u, w, z⟩ := q1.lends (G := fun b => hbk v = some b) (fun b hb => hb) (.refl _)
 refine ⟨fun b => hbk v = some b, .tup [.lst A f0.d.length c (bys f0.d), vT true], Zjt.tup ⟨m, .refl _, trivial⟩, hK2 f0 hf0 hk _ _ ?_ (Zr3 q2 q3)⟩
 have := hfl f0 hf0
 exact ZcG.2 ⟨A, c, bys f0.d, [], by rw [List.append_nil], u, w, by omega, fun q => z q, Zxd _⟩
theorem ZkA : ZaR Tryd.prog 29 = some (.agg #[.int .i64 0, .int .i64 0, .slice none 0 0, .slice none 0 0, .slice none 0 0, .slice none 0 0, .slice none 0 0]) := by kernel_rfl
theorem Zvb : Zbx Tryd.prog 79 = some [(0, some 1, some false), (1, some 1, some false)] := by kernel_rfl
theorem ZAe : Zds Tryd.prog 3 = some false := by kernel_rfl
theorem Zxk : Zax Tryd.prog 3 = some 1 := by kernel_rfl
theorem Zvc : Zar Tryd.prog 27 = some 5 := by kernel_rfl
def ZoE : List AV := [.raw (.int .i64 0), .raw (.int .i64 0), .lst none 0 0 [], .lst none 0 0 [], .lst none 0 0 [], .lst none 0 0 [], .lst none 0 0 []]
set_option maxHeartbeats 2000000 in
theorem Zvd {g : Nat} (h : DAt σ bb S fs pcs size mb pv) (hfl : ∀ f ∈ fs, f.d.length <= 1000000000) (hg : g <= 4) (hd : (Go.Lib.decDigits g).length <= 21) (hn : ∀ f ∈ fs, f.nm ≠ ZdX g)
 (hK : ∀ τ, Ext σ τ -> K (.tup [.agg ZoE, vT false, vI 0]) τ) : Zay Tryd.prog 12 [ptr bb 0, vI g] σ K := by
 refine ZaG ZaN Tryd.func12 rfl rfl rfl (Nat.le_of_ble_eq_true rfl) ?_
 refine ZcT 0 1 (v0 := ptr bb 0) (v1 := vI g) rfl rfl ?_
 intro e he
 first | refine Zaa ?_ | refine Zad ?_ | (refine Zac ?_; refine Zaa ?_) | (refine Zac ?_; refine Zac ?_; refine Zaa ?_)
 refine Zab ?_
 refine ZdQ (cs := ZoE) ZkA rfl fun b4 σ1 hn1 hu1 hb1 hub1 hX1 => ?_
 refine Zab (Zak rfl (by simp only [EV, Nat.reduceEqDiff, ↓reduceIte, he] <;> try rfl) ?_)
 refine Zab (Zak rfl (by simp only [EV, Nat.reduceEqDiff, ↓reduceIte, he] <;> try rfl) ?_)
 refine Zah ?_
 apply Zb5 0 1 4
 ·simp only [EV, Nat.reduceEqDiff, ↓reduceIte, he] <;> try rfl
 ·simp only [EV, Nat.reduceEqDiff, ↓reduceIte, he] <;> try rfl
 ·simp only [EV, Nat.reduceEqDiff, ↓reduceIte, he] <;> try rfl
 clear he e
 intro e he
 first | refine Zaa ?_ | refine Zad ?_ | (refine Zac ?_; refine Zaa ?_) | (refine Zac ?_; refine Zac ?_; refine Zaa ?_)
 refine Zab (Zak rfl (by simp only [EV, Nat.reduceEqDiff, ↓reduceIte, he] <;> try rfl) ?_)
 refine Zab (Zak rfl (by simp only [EV, Nat.reduceEqDiff, ↓reduceIte, he] <;> try rfl) ?_)
 refine Zab ?_
 refine Za9 (vs := [ptr bb 0, vI g]) (by simp only [List.map_cons, List.map_nil, EV, Nat.reduceEqDiff, ↓reduceIte, he] <;> try rfl) ?_
 refine ZyH hg (by omega) fun σ2 hX2 => ?_
 refine Zab (Zak rfl (by simp only [EV, Nat.reduceEqDiff, ↓reduceIte, he] <;> try rfl) ?_)
 refine Zab ?_
 refine Za1 (l := [.agg [ptr bb 0, .raw (sV (ZdX g))], vI 0]) (by simp only [EV, Nat.reduceEqDiff, ↓reduceIte, he] <;> try rfl) rfl ?_
 refine Zab ?_
 refine Za1 (l := [.agg [ptr bb 0, .raw (sV (ZdX g))], vI 0]) (by simp only [EV, Nat.reduceEqDiff, ↓reduceIte, he] <;> try rfl) rfl ?_
 refine Zab ?_
 refine ZdQ ZmC rfl fun b7 σ3 hn3 hu3 hb3 hub3 hX3 => ?_
 refine Zab ?_
 refine ZcS (b := b7) (o := 0) (u := .agg [ptr bb 0, .raw (sV (ZdX g))]) (by simp only [EV, Nat.reduceEqDiff, ↓reduceIte, he] <;> try rfl) (by simp only [EV, Nat.reduceEqDiff, ↓reduceIte, he] <;> try rfl) hb3 Zkx rfl rfl fun σ4 hb4 k4 => ?_
 refine Zab (Zak rfl (by simp only [EV, Nat.reduceEqDiff, ↓reduceIte, he] <;> try rfl) ?_)
 refine Zah ?_
 apply Zb5 4 6 7
 ·simp only [EV, Nat.reduceEqDiff, ↓reduceIte, he] <;> try rfl
 ·simp only [EV, Nat.reduceEqDiff, ↓reduceIte, he] <;> try rfl
 ·simp only [EV, Nat.reduceEqDiff, ↓reduceIte, he] <;> try rfl
 clear he e
 intro e he
 have hX4 : Ext σ σ4 := But.ext ((hX1.trans hX2).trans hX3) (fun g hg => by rw [hg]; exact (hX1.trans hX2).noneOf hn3) k4
 have hb14 : σ4.blk b4 = some (.own 29 ZoE) := k4.keep _ _ (fun q => by rw [q] at hb1; have := hX2.keep _ _ hb1; rw [hn3] at this; cases this) ((hX2.trans hX3).keep _ _ hb1)
 first | refine Zaa ?_ | refine Zad ?_ | (refine Zac ?_; refine Zaa ?_) | (refine Zac ?_; refine Zac ?_; refine Zaa ?_)
 refine Zab (Zak rfl (by simp only [EV, Nat.reduceEqDiff, ↓reduceIte, he] <;> try rfl) ?_)
 refine Zab ?_
 refine ZnI (k := .i64) (a := 0) (b := 0) (by simp only [EV, Nat.reduceEqDiff, ↓reduceIte, he] <;> try rfl) (by simp only [EV, Nat.reduceEqDiff, ↓reduceIte, he] <;> try rfl) ?_
 refine Zah ?_
 apply ZcU 4 6 7 19
 ·simp only [EV, Nat.reduceEqDiff, ↓reduceIte, he] <;> try rfl
 ·simp only [EV, Nat.reduceEqDiff, ↓reduceIte, he] <;> try rfl
 ·simp only [EV, Nat.reduceEqDiff, ↓reduceIte, he] <;> try rfl
 ·simp only [EV, Nat.reduceEqDiff, ↓reduceIte, he] <;> try rfl
 clear he e
 intro e he
 refine Zbu (t := false) (by simp only [EV, Nat.reduceEqDiff, ↓reduceIte, he] <;> try rfl) (fun ht => by cases ht) (fun ht => ?_)
 refine Zb2 ?_
 first | refine Zaa ?_ | refine Zad ?_ | (refine Zac ?_; refine Zaa ?_) | (refine Zac ?_; refine Zac ?_; refine Zaa ?_)
 refine Zab ?_
 refine Zaf (b := b7) (o := 0) (by simp only [EV, Nat.reduceEqDiff, ↓reduceIte, he] <;> try rfl) ZfV rfl ?_
 refine Zab ?_
 refine ZaD (b := b7) (o := 0) (r := ptr bb 0) (by simp only [EV, Nat.reduceEqDiff, ↓reduceIte, he] <;> try rfl) hb4 Zky Zkz rfl ?_
 refine Zab ?_
 refine Zaf (b := b7) (o := 0) (by simp only [EV, Nat.reduceEqDiff, ↓reduceIte, he] <;> try rfl) ZfV rfl ?_
 refine Zab ?_
 refine ZaD (b := b7) (o := 0 + 1) (r := .raw (sV (ZdX g))) (by simp only [EV, Nat.reduceEqDiff, ↓reduceIte, he] <;> try rfl) hb4 ZdH Zcp rfl ?_
 refine Zab ?_
 refine Za9 (vs := [ptr bb 0, .raw (sV (ZdX g))]) (by simp only [List.map_cons, List.map_nil, EV, Nat.reduceEqDiff, ↓reduceIte, he] <;> try rfl) ?_
 refine Zp1 (h.but (U := fun _ => False) hX4.but fun b hb hf => hf) hfl (fun _ σ5 hX5 => ?_) fun f0 hf0 hk => absurd hk (hn f0 hf0)
 refine Zab (Zak rfl (by simp only [EV, Nat.reduceEqDiff, ↓reduceIte, he] <;> try rfl) ?_)
 refine Zab ?_
 refine Za1 (l := [.lst none 0 0 [], vT false]) (by simp only [EV, Nat.reduceEqDiff, ↓reduceIte, he] <;> try rfl) rfl ?_
 refine Zab ?_
 refine Za1 (l := [.lst none 0 0 [], vT false]) (by simp only [EV, Nat.reduceEqDiff, ↓reduceIte, he] <;> try rfl) rfl ?_
 refine Zab (Zak rfl (by simp only [EV, Nat.reduceEqDiff, ↓reduceIte, he] <;> try rfl) ?_)
 refine Zab (Zak rfl (by simp only [EV, Nat.reduceEqDiff, ↓reduceIte, he] <;> try rfl) ?_)
 refine Zah ?_
 apply Zb5 4 8 9
 ·simp only [EV, Nat.reduceEqDiff, ↓reduceIte, he] <;> try rfl
 ·simp only [EV, Nat.reduceEqDiff, ↓reduceIte, he] <;> try rfl
 ·simp only [EV, Nat.reduceEqDiff, ↓reduceIte, he] <;> try rfl
 clear he e
 intro e he
 first | refine Zaa ?_ | refine Zad ?_ | (refine Zac ?_; refine Zaa ?_) | (refine Zac ?_; refine Zac ?_; refine Zaa ?_)
 refine Zab (Zak rfl (by simp only [EV, Nat.reduceEqDiff, ↓reduceIte, he] <;> try rfl) ?_)
 refine Zab ?_
 with_reducible apply Zg2
 case hx => simp only [EV, Nat.reduceEqDiff, ↓reduceIte, he] <;> try rfl
 refine Zah ?_
 apply Zb5 4 8 31
 ·simp only [EV, Nat.reduceEqDiff, ↓reduceIte, he] <;> try rfl
 ·simp only [EV, Nat.reduceEqDiff, ↓reduceIte, he] <;> try rfl
 ·simp only [EV, Nat.reduceEqDiff, ↓reduceIte, he] <;> try rfl
 clear he e
 intro e he
 refine Zbu (t := true) (by simp only [EV, Nat.reduceEqDiff, ↓reduceIte, he] <;> try rfl) (fun ht => ?_) (fun ht => by cases ht)
 first | refine Zaa ?_ | refine Zad ?_ | (refine Zac ?_; refine Zaa ?_) | (refine Zac ?_; refine Zac ?_; refine Zaa ?_)
 refine Zab ?_
 refine ZaD (b := b4) (o := 0) (r := .agg ZoE) (by simp only [EV, Nat.reduceEqDiff, ↓reduceIte, he] <;> try rfl) (hX5.keep _ _ hb14) ZiQ ZdY (ZmE rfl) ?_
 refine Zab ?_
 refine ZcS (b := b4) (o := 0) (u := .agg ZoE) (by simp only [EV, Nat.reduceEqDiff, ↓reduceIte, he] <;> try rfl) (by simp only [EV, Nat.reduceEqDiff, ↓reduceIte, he] <;> try rfl) (hX5.keep _ _ hb14) ZdY rfl rfl fun σ6 hb6 k6 => ?_
 refine Zab (Zak rfl (by simp only [EV, Nat.reduceEqDiff, ↓reduceIte, he] <;> try rfl) ?_)
 refine Zab (Zak rfl (by simp only [EV, Nat.reduceEqDiff, ↓reduceIte, he] <;> try rfl) ?_)
 refine Zah ?_
 apply Zb5 4 5 6
 ·simp only [EV, Nat.reduceEqDiff, ↓reduceIte, he] <;> try rfl
 ·simp only [EV, Nat.reduceEqDiff, ↓reduceIte, he] <;> try rfl
 ·simp only [EV, Nat.reduceEqDiff, ↓reduceIte, he] <;> try rfl
 clear he e
 intro e he
 refine ZmK ?_
 exact Zm9 rfl (Zfm (by simp only [EV, Nat.reduceEqDiff, ↓reduceIte, he] <;> try rfl) hb6 ZiQ ZdY (ZmE rfl)) (Zdx (by simp only [EV, Nat.reduceEqDiff, ↓reduceIte, he] <;> try rfl)) (Zdx (by simp only [EV, Nat.reduceEqDiff, ↓reduceIte, he] <;> try rfl)) (hK σ6 (But.ext (hX4.trans hX5) (fun g hg => by rw [hg]; exact hn1) k6))
set_option maxHeartbeats 2000000 in
theorem Zve {g : Nat} {f0 : Fl} {bs : List UInt8} {idx term : Int} {n1 n2 n3 n4 : Nat} {l1 l2 l3 l4 : List Int} {by_ : List UInt8} (h : DAt σ bb S fs pcs size mb pv) (hfl : ∀ f ∈ fs, f.d.length <= 1000000000) (hg : g <= 4) (hd : (Go.Lib.decDigits g).length <= 21) (hf0 : f0 ∈ fs) (hnm : f0.nm = ZdX g)
 (hG : ZeV f0.d = some (([⟨4, bs⟩], (f0.d.length : Int), ()), ((), ()))) (hB : Za6 bs = some (((idx, term, n1, n2, n3, n4, by_, ()), true, ()), (l1, l2, l3, l4, ()))) (h1 : n1 <= l1.length) (h2 : n2 <= l2.length) (h3 : n3 <= l3.length) (h4 : n4 <= l4.length) (hsm : l1.length <= 1000000 /\ l2.length <= 1000000 /\ l3.length <= 1000000 /\ l4.length <= 1000000)
 (hK : ∀ as_ τ, SVs CT 0 Zdk (CT.enc 10 (⟨⟨idx, term, ⟨l1.take n1, l2.take n2, l3.take n3, l4.take n4⟩⟩, by_⟩ : Zcd)) as_ -> Ext σ τ -> K (.tup [.agg as_, vT true, vI 0]) τ) : Zay Tryd.prog 12 [ptr bb 0, vI g] σ K := by
 refine ZaG ZaN Tryd.func12 rfl rfl rfl (Nat.le_of_ble_eq_true rfl) ?_
 refine ZcT 0 1 (v0 := ptr bb 0) (v1 := vI g) rfl rfl ?_
 intro e he
 first | refine Zaa ?_ | refine Zad ?_ | (refine Zac ?_; refine Zaa ?_) | (refine Zac ?_; refine Zac ?_; refine Zaa ?_)
 refine Zab ?_
 refine ZdQ (cs := ZoE) ZkA rfl fun b4 σ1 hn1 hu1 hb1 hub1 hX1 => ?_
 refine Zab (Zak rfl (by simp only [EV, Nat.reduceEqDiff, ↓reduceIte, he] <;> try rfl) ?_)
 refine Zab (Zak rfl (by simp only [EV, Nat.reduceEqDiff, ↓reduceIte, he] <;> try rfl) ?_)
 refine Zah ?_
 apply Zb5 0 1 4
 ·simp only [EV, Nat.reduceEqDiff, ↓reduceIte, he] <;> try rfl
 ·simp only [EV, Nat.reduceEqDiff, ↓reduceIte, he] <;> try rfl
 ·simp only [EV, Nat.reduceEqDiff, ↓reduceIte, he] <;> try rfl
 clear he e
 intro e he
 first | refine Zaa ?_ | refine Zad ?_ | (refine Zac ?_; refine Zaa ?_) | (refine Zac ?_; refine Zac ?_; refine Zaa ?_)
 refine Zab (Zak rfl (by simp only [EV, Nat.reduceEqDiff, ↓reduceIte, he] <;> try rfl) ?_)
 refine Zab (Zak rfl (by simp only [EV, Nat.reduceEqDiff, ↓reduceIte, he] <;> try rfl) ?_)
 refine Zab ?_
 refine Za9 (vs := [ptr bb 0, vI g]) (by simp only [List.map_cons, List.map_nil, EV, Nat.reduceEqDiff, ↓reduceIte, he] <;> try rfl) ?_
 refine ZyH hg (by omega) fun σ2 hX2 => ?_
 refine Zab (Zak rfl (by simp only [EV, Nat.reduceEqDiff, ↓reduceIte, he] <;> try rfl) ?_)
 refine Zab ?_
 refine Za1 (l := [.agg [ptr bb 0, .raw (sV (ZdX g))], vI 0]) (by simp only [EV, Nat.reduceEqDiff, ↓reduceIte, he] <;> try rfl) rfl ?_
 refine Zab ?_
 refine Za1 (l := [.agg [ptr bb 0, .raw (sV (ZdX g))], vI 0]) (by simp only [EV, Nat.reduceEqDiff, ↓reduceIte, he] <;> try rfl) rfl ?_
 refine Zab ?_
 refine ZdQ ZmC rfl fun b7 σ3 hn3 hu3 hb3 hub3 hX3 => ?_
 refine Zab ?_
 refine ZcS (b := b7) (o := 0) (u := .agg [ptr bb 0, .raw (sV (ZdX g))]) (by simp only [EV, Nat.reduceEqDiff, ↓reduceIte, he] <;> try rfl) (by simp only [EV, Nat.reduceEqDiff, ↓reduceIte, he] <;> try rfl) hb3 Zkx rfl rfl fun σ4 hb4 k4 => ?_
 refine Zab (Zak rfl (by simp only [EV, Nat.reduceEqDiff, ↓reduceIte, he] <;> try rfl) ?_)
 refine Zah ?_
 apply Zb5 4 6 7
 ·simp only [EV, Nat.reduceEqDiff, ↓reduceIte, he] <;> try rfl
 ·simp only [EV, Nat.reduceEqDiff, ↓reduceIte, he] <;> try rfl
 ·simp only [EV, Nat.reduceEqDiff, ↓reduceIte, he] <;> try rfl
 clear he e
 intro e he
 have hX4 : Ext σ σ4 := But.ext ((hX1.trans hX2).trans hX3) (fun g hg => by rw [hg]; exact (hX1.trans hX2).noneOf hn3) k4
 have hb14 : σ4.blk b4 = some (.own 29 ZoE) := k4.keep _ _ (fun q => by rw [q] at hb1; have := hX2.keep _ _ hb1; rw [hn3] at this; cases this) ((hX2.trans hX3).keep _ _ hb1)
 first | refine Zaa ?_ | refine Zad ?_ | (refine Zac ?_; refine Zaa ?_) | (refine Zac ?_; refine Zac ?_; refine Zaa ?_)
 refine Zab (Zak rfl (by simp only [EV, Nat.reduceEqDiff, ↓reduceIte, he] <;> try rfl) ?_)
 refine Zab ?_
 refine ZnI (k := .i64) (a := 0) (b := 0) (by simp only [EV, Nat.reduceEqDiff, ↓reduceIte, he] <;> try rfl) (by simp only [EV, Nat.reduceEqDiff, ↓reduceIte, he] <;> try rfl) ?_
 refine Zah ?_
 apply ZcU 4 6 7 19
 ·simp only [EV, Nat.reduceEqDiff, ↓reduceIte, he] <;> try rfl
 ·simp only [EV, Nat.reduceEqDiff, ↓reduceIte, he] <;> try rfl
 ·simp only [EV, Nat.reduceEqDiff, ↓reduceIte, he] <;> try rfl
 ·simp only [EV, Nat.reduceEqDiff, ↓reduceIte, he] <;> try rfl
 clear he e
 intro e he
 refine Zbu (t := false) (by simp only [EV, Nat.reduceEqDiff, ↓reduceIte, he] <;> try rfl) (fun ht => by cases ht) (fun ht => ?_)
 refine Zb2 ?_
 first | refine Zaa ?_ | refine Zad ?_ | (refine Zac ?_; refine Zaa ?_) | (refine Zac ?_; refine Zac ?_; refine Zaa ?_)
 refine Zab ?_
 refine Zaf (b := b7) (o := 0) (by simp only [EV, Nat.reduceEqDiff, ↓reduceIte, he] <;> try rfl) ZfV rfl ?_
 refine Zab ?_
 refine ZaD (b := b7) (o := 0) (r := ptr bb 0) (by simp only [EV, Nat.reduceEqDiff, ↓reduceIte, he] <;> try rfl) hb4 Zky Zkz rfl ?_
 refine Zab ?_
 refine Zaf (b := b7) (o := 0) (by simp only [EV, Nat.reduceEqDiff, ↓reduceIte, he] <;> try rfl) ZfV rfl ?_
 refine Zab ?_
 refine ZaD (b := b7) (o := 0 + 1) (r := .raw (sV (ZdX g))) (by simp only [EV, Nat.reduceEqDiff, ↓reduceIte, he] <;> try rfl) hb4 ZdH Zcp rfl ?_
 refine Zab ?_
 refine Za9 (vs := [ptr bb 0, .raw (sV (ZdX g))]) (by simp only [List.map_cons, List.map_nil, EV, Nat.reduceEqDiff, ↓reduceIte, he] <;> try rfl) ?_
 refine Zp1 (h.but (U := fun _ => False) hX4.but fun b hb hf => hf) hfl (fun hn => absurd hnm (hn f0 hf0)) fun f hf hk v σ5 hv hX5 => ?_
 obtain rfl : f = f0 := h.uniqN hf hf0 (hk.trans hnm.symm)
 obtain ⟨A, c, rest, rfl, hA⟩ := ZhX hv
 refine Zab (Zak rfl (by simp only [EV, Nat.reduceEqDiff, ↓reduceIte, he] <;> try rfl) ?_)
 refine Zab ?_
 refine Za1 (l := [.lst A f.d.length c (bys f.d ++ rest), vT true]) (by simp only [EV, Nat.reduceEqDiff, ↓reduceIte, he] <;> try rfl) rfl ?_
 refine Zab ?_
 refine Za1 (l := [.lst A f.d.length c (bys f.d ++ rest), vT true]) (by simp only [EV, Nat.reduceEqDiff, ↓reduceIte, he] <;> try rfl) rfl ?_
 refine Zab (Zak rfl (by simp only [EV, Nat.reduceEqDiff, ↓reduceIte, he] <;> try rfl) ?_)
 refine Zab (Zak rfl (by simp only [EV, Nat.reduceEqDiff, ↓reduceIte, he] <;> try rfl) ?_)
 refine Zah ?_
 apply Zb5 4 8 9
 ·simp only [EV, Nat.reduceEqDiff, ↓reduceIte, he] <;> try rfl
 ·simp only [EV, Nat.reduceEqDiff, ↓reduceIte, he] <;> try rfl
 ·simp only [EV, Nat.reduceEqDiff, ↓reduceIte, he] <;> try rfl
 clear he e
 intro e he
 first | refine Zaa ?_ | refine Zad ?_ | (refine Zac ?_; refine Zaa ?_) | (refine Zac ?_; refine Zac ?_; refine Zaa ?_)
 refine Zab (Zak rfl (by simp only [EV, Nat.reduceEqDiff, ↓reduceIte, he] <;> try rfl) ?_)
 refine Zab ?_
 with_reducible apply Zg2
 case hx => simp only [EV, Nat.reduceEqDiff, ↓reduceIte, he] <;> try rfl
 refine Zah ?_
 apply Zb5 4 8 31
 ·simp only [EV, Nat.reduceEqDiff, ↓reduceIte, he] <;> try rfl
 ·simp only [EV, Nat.reduceEqDiff, ↓reduceIte, he] <;> try rfl
 ·simp only [EV, Nat.reduceEqDiff, ↓reduceIte, he] <;> try rfl
 clear he e
 intro e he
 refine Zbu (t := false) (by simp only [EV, Nat.reduceEqDiff, ↓reduceIte, he] <;> try rfl) (fun ht => by cases ht) (fun ht => ?_)
 refine Zb2 ?_
 first | refine Zaa ?_ | refine Zad ?_ | (refine Zac ?_; refine Zaa ?_) | (refine Zac ?_; refine Zac ?_; refine Zaa ?_)
 refine Zab (Zak rfl (by simp only [EV, Nat.reduceEqDiff, ↓reduceIte, he] <;> try rfl) ?_)
 refine Zab ?_
 refine Za9 (vs := [.lst A f.d.length c (bys f.d ++ rest)]) (by simp only [List.map_cons, List.map_nil, EV, Nat.reduceEqDiff, ↓reduceIte, he] <;> try rfl) ?_
 refine ZwN hG hv fun l σ6 hl hX6 => ?_
 obtain ⟨A2, c2, cs, rest2, rfl, y1, y2, y3, y4, y5⟩ := ZcG.1 hl
 obtain ⟨q1, _, rfl, z1, z2⟩ := (show SVs CT 0 Zdk [XV.int .i64 4, XV.sl 1 bs none] cs from y5).to
 obtain ⟨q2, rfl, z3⟩ := ZeQ.1 z2
 obtain rfl := Zan.1 z1
 have hA2 : A2 = none -> 1 = 0 := fun q => (y4 q).1
 refine Zab (Zak rfl (by simp only [EV, Nat.reduceEqDiff, ↓reduceIte, he] <;> try rfl) ?_)
 refine Zab ?_
 refine Za1 (l := [.lst A2 1 c2 ([.raw (.int .i64 4), q2] ++ rest2), vI f.d.length]) (by simp only [EV, Nat.reduceEqDiff, ↓reduceIte, he] <;> try rfl) rfl ?_
 refine Zab ?_
 refine Za1 (l := [.lst A2 1 c2 ([.raw (.int .i64 4), q2] ++ rest2), vI f.d.length]) (by simp only [EV, Nat.reduceEqDiff, ↓reduceIte, he] <;> try rfl) rfl ?_
 refine Zab (Zak rfl (by simp only [EV, Nat.reduceEqDiff, ↓reduceIte, he] <;> try rfl) ?_)
 refine Zab (Zak rfl (by simp only [EV, Nat.reduceEqDiff, ↓reduceIte, he] <;> try rfl) ?_)
 refine Zah ?_
 apply ZcU 4 8 10 11
 ·simp only [EV, Nat.reduceEqDiff, ↓reduceIte, he] <;> try rfl
 ·simp only [EV, Nat.reduceEqDiff, ↓reduceIte, he] <;> try rfl
 ·simp only [EV, Nat.reduceEqDiff, ↓reduceIte, he] <;> try rfl
 ·simp only [EV, Nat.reduceEqDiff, ↓reduceIte, he] <;> try rfl
 clear he e
 intro e he
 first | refine Zaa ?_ | refine Zad ?_ | (refine Zac ?_; refine Zaa ?_) | (refine Zac ?_; refine Zac ?_; refine Zaa ?_)
 refine Zab (Zak rfl (by simp only [EV, Nat.reduceEqDiff, ↓reduceIte, he] <;> try rfl) ?_)
 refine Zab ?_
 refine ZrO (A := A2) (n := 1) (c := c2) (by simp only [EV, Nat.reduceEqDiff, ↓reduceIte, he] <;> try rfl) rfl rfl ZoC ?_
 refine Zab ?_
 refine ZnI (k := .i64) (a := 1) (b := 1) (by simp only [EV, Nat.reduceEqDiff, ↓reduceIte, he] <;> try rfl) (by simp only [EV, Nat.reduceEqDiff, ↓reduceIte, he] <;> try rfl) ?_
 refine Zab (Zak rfl (by simp only [EV, Nat.reduceEqDiff, ↓reduceIte, he] <;> try rfl) ?_)
 refine Zab (ZaE (Zg8 rfl (by simp only [EV, Nat.reduceEqDiff, ↓reduceIte, he] <;> try rfl)) ?_)
 refine Zak rfl (by simp only [EV, Nat.reduceEqDiff, ↓reduceIte, he] <;> try rfl) ?_
 refine Zab (ZaE (Zg8 rfl (by simp only [EV, Nat.reduceEqDiff, ↓reduceIte, he] <;> try rfl)) ?_)
 refine Zak rfl (by simp only [EV, Nat.reduceEqDiff, ↓reduceIte, he] <;> try rfl) ?_
 refine Zab (ZaE (Zg8 rfl (by simp only [EV, Nat.reduceEqDiff, ↓reduceIte, he] <;> try rfl)) ?_)
 refine ZrO (A := A) (n := f.d.length) (c := c) (by simp only [EV, Nat.reduceEqDiff, ↓reduceIte, he] <;> try rfl) rfl rfl Zvc ?_
 refine Zab (ZaE (Zg8 rfl (by simp only [EV, Nat.reduceEqDiff, ↓reduceIte, he] <;> try rfl)) ?_)
 refine ZnI (k := .i64) (a := (f.d.length : Int)) (b := (f.d.length : Int)) (by simp only [EV, Nat.reduceEqDiff, ↓reduceIte, he] <;> try rfl) (by simp only [EV, Nat.reduceEqDiff, ↓reduceIte, he] <;> try rfl) ?_
 refine Zab ?_
 refine Zfk (v := vT false) (by simp only [EV, Nat.reduceEqDiff, ↓reduceIte, he] <;> try rfl) (by simp only [EV, Nat.reduceEqDiff, ↓reduceIte, he, ne_eq, not_true_eq_false, decide_false]; try rfl) ?_
 refine Zab (Zak rfl (by simp only [EV, Nat.reduceEqDiff, ↓reduceIte, he] <;> try rfl) ?_)
 refine Zab (ZaE (Zg8 rfl (by simp only [EV, Nat.reduceEqDiff, ↓reduceIte, he] <;> try rfl)) ?_)
 refine Zak rfl (by simp only [EV, Nat.reduceEqDiff, ↓reduceIte, he] <;> try rfl) ?_
 refine Zab (ZaE (Zg8 rfl (by simp only [EV, Nat.reduceEqDiff, ↓reduceIte, he] <;> try rfl)) ?_)
 refine ZiY (k := .i64) (j := 0) (cs := [.raw (.int .i64 4), q2] ++ rest2) (by simp only [EV, Nat.reduceEqDiff, ↓reduceIte, he] <;> try rfl) (by simp only [EV, Nat.reduceEqDiff, ↓reduceIte, he] <;> try rfl) ZoC Zq3 (by omega) hA2 rfl fun ad => ?_
 refine Zab (ZaE (Zg8 rfl (by simp only [EV, Nat.reduceEqDiff, ↓reduceIte, he] <;> try rfl)) ?_)
 refine ZiX (cells := [.raw (.int .i64 4), q2] ++ rest2) (by simp only [EV, Nat.reduceEqDiff, ↓reduceIte, he] <;> try rfl) Zvb rfl ?_
 refine Zab (ZaE (Zg8 rfl (by simp only [EV, Nat.reduceEqDiff, ↓reduceIte, he] <;> try rfl)) ?_)
 refine Zlc (r := .raw (.int .i64 4)) (by simp only [EV, Nat.reduceEqDiff, ↓reduceIte, he] <;> try rfl) ZAe Zxk rfl ?_
 refine Zab (ZaE (Zg8 rfl (by simp only [EV, Nat.reduceEqDiff, ↓reduceIte, he] <;> try rfl)) ?_)
 refine ZnI (k := .i64) (a := 4) (b := 4) (by simp only [EV, Nat.reduceEqDiff, ↓reduceIte, he] <;> try rfl) (by simp only [EV, Nat.reduceEqDiff, ↓reduceIte, he] <;> try rfl) ?_
 refine Zab ?_
 refine Zfk (v := vT false) (by simp only [EV, Nat.reduceEqDiff, ↓reduceIte, he] <;> try rfl) (by simp only [EV, Nat.reduceEqDiff, ↓reduceIte, he] <;> try rfl) ?_
 refine Zah ?_
 apply Zb5 4 10 53
 ·simp only [EV, Nat.reduceEqDiff, ↓reduceIte, he] <;> try rfl
 ·simp only [EV, Nat.reduceEqDiff, ↓reduceIte, he] <;> try rfl
 ·simp only [EV, Nat.reduceEqDiff, ↓reduceIte, he] <;> try rfl
 clear he e
 intro e he
 refine Zbu (t := false) (by simp only [EV, Nat.reduceEqDiff, ↓reduceIte, he] <;> try rfl) (fun ht => by cases ht) (fun ht => ?_)
 refine Zb2 ?_
 first | refine Zaa ?_ | refine Zad ?_ | (refine Zac ?_; refine Zaa ?_) | (refine Zac ?_; refine Zac ?_; refine Zaa ?_)
 refine Zab (Zak rfl (by simp only [EV, Nat.reduceEqDiff, ↓reduceIte, he] <;> try rfl) ?_)
 refine Zab ?_
 refine ZiY (k := .i64) (j := 0) (cs := [.raw (.int .i64 4), q2] ++ rest2) (by simp only [EV, Nat.reduceEqDiff, ↓reduceIte, he] <;> try rfl) (by simp only [EV, Nat.reduceEqDiff, ↓reduceIte, he] <;> try rfl) ZoC Zq3 (by omega) hA2 rfl fun ad => ?_
 refine Zab ?_
 refine ZiX (cells := [.raw (.int .i64 4), q2] ++ rest2) (by simp only [EV, Nat.reduceEqDiff, ↓reduceIte, he] <;> try rfl) Zvb rfl ?_
 refine Zab ?_
 refine Zlc (r := q2) (by simp only [EV, Nat.reduceEqDiff, ↓reduceIte, he] <;> try rfl) Zu7 Zq2 rfl ?_
 refine Zab ?_
 refine Za9 (vs := [q2]) (by simp only [List.map_cons, List.map_nil, EV, Nat.reduceEqDiff, ↓reduceIte, he] <;> try rfl) ?_
 refine Zva hB h1 h2 h3 h4 hsm z3 fun as_ σ7 hs hX7 => ?_
 have ha7 : as_.length = 7 := hs.len
 have hX57 : Ext σ4 σ7 := (hX5.trans hX6).trans hX7
 refine Zab (Zak rfl (by simp only [EV, Nat.reduceEqDiff, ↓reduceIte, he] <;> try rfl) ?_)
 refine Zab ?_
 refine Za1 (l := [.agg as_, vT true]) (by simp only [EV, Nat.reduceEqDiff, ↓reduceIte, he] <;> try rfl) rfl ?_
 refine Zab ?_
 refine Za1 (l := [.agg as_, vT true]) (by simp only [EV, Nat.reduceEqDiff, ↓reduceIte, he] <;> try rfl) rfl ?_
 have hone : as_.all AV.one = true := List.all_eq_true.2 (hs.ones (List.all_eq_true.1 (show (CT.enc 10 (⟨⟨idx, term, ⟨l1.take n1, l2.take n2, l3.take n3, l4.take n4⟩⟩, by_⟩ : Zcd)).all XV.one = true from rfl)))
 refine Zab ?_
 refine ZcS (b := b4) (o := 0) (u := .agg as_) (cs' := as_) (by simp only [EV, Nat.reduceEqDiff, ↓reduceIte, he] <;> try rfl) (by simp only [EV, Nat.reduceEqDiff, ↓reduceIte, he] <;> try rfl) (hX57.keep _ _ hb14) ZdY (by simp [Zdt, ha7, hone, ZoE]) (by simp [ZaF, ha7, ZoE]) fun σ8 hb8 k8 => ?_
 refine Zab (Zak rfl (by simp only [EV, Nat.reduceEqDiff, ↓reduceIte, he] <;> try rfl) ?_)
 refine Zah ?_
 apply ZcT 4 5
 ·simp only [EV, Nat.reduceEqDiff, ↓reduceIte, he] <;> try rfl
 ·simp only [EV, Nat.reduceEqDiff, ↓reduceIte, he] <;> try rfl
 clear he e
 intro e he
 first | refine Zaa ?_ | refine Zad ?_ | (refine Zac ?_; refine Zaa ?_) | (refine Zac ?_; refine Zac ?_; refine Zaa ?_)
 refine Zab (Zak rfl (by simp only [EV, Nat.reduceEqDiff, ↓reduceIte, he] <;> try rfl) ?_)
 refine Zab ?_
 with_reducible apply Zg2
 case hx => simp only [EV, Nat.reduceEqDiff, ↓reduceIte, he] <;> try rfl
 refine Zah ?_
 apply ZcT 4 64
 ·simp only [EV, Nat.reduceEqDiff, ↓reduceIte, he] <;> try rfl
 ·simp only [EV, Nat.reduceEqDiff, ↓reduceIte, he] <;> try rfl
 clear he e
 intro e he
 refine Zbu (t := false) (by simp only [EV, Nat.reduceEqDiff, ↓reduceIte, he] <;> try rfl) (fun ht => by cases ht) (fun ht => ?_)
 refine Zb2 ?_
 first | refine Zaa ?_ | refine Zad ?_ | (refine Zac ?_; refine Zaa ?_) | (refine Zac ?_; refine Zac ?_; refine Zaa ?_)
 refine Zab ?_
 refine ZaD (b := b4) (o := 0) (r := .agg as_) (by simp only [EV, Nat.reduceEqDiff, ↓reduceIte, he] <;> try rfl) hb8 ZiQ ZdY (ZmE ha7) ?_
 refine Zab ?_
 refine ZcS (b := b4) (o := 0) (u := .agg as_) (cs' := as_) (by simp only [EV, Nat.reduceEqDiff, ↓reduceIte, he] <;> try rfl) (by simp only [EV, Nat.reduceEqDiff, ↓reduceIte, he] <;> try rfl) hb8 ZdY (by simp [Zdt, ha7, hone]) (by simp [ZaF, ha7]) fun σ9 hb9 k9 => ?_
 refine Zab (Zak rfl (by simp only [EV, Nat.reduceEqDiff, ↓reduceIte, he] <;> try rfl) ?_)
 refine Zab (Zak rfl (by simp only [EV, Nat.reduceEqDiff, ↓reduceIte, he] <;> try rfl) ?_)
 refine Zah ?_
 apply Zb5 4 5 6
 ·simp only [EV, Nat.reduceEqDiff, ↓reduceIte, he] <;> try rfl
 ·simp only [EV, Nat.reduceEqDiff, ↓reduceIte, he] <;> try rfl
 ·simp only [EV, Nat.reduceEqDiff, ↓reduceIte, he] <;> try rfl
 clear he e
 intro e he
 refine Zbm ?_
 have hX8 : Ext σ σ8 := But.ext (hX4.trans hX57) (fun g hg => by rw [hg]; exact hn1) k8
 exact Zm9 rfl (Zfm (by simp only [EV, Nat.reduceEqDiff, ↓reduceIte, he] <;> try rfl) hb9 ZiQ ZdY (ZmE ha7)) (Zdx (by simp only [EV, Nat.reduceEqDiff, ↓reduceIte, he] <;> try rfl)) (Zdx (by simp only [EV, Nat.reduceEqDiff, ↓reduceIte, he] <;> try rfl)) (hK as_ σ9 hs (But.ext hX8 (fun g hg => by rw [hg]; exact hn1) k9))
end
end Go.Proofs.YteempnebenjkmaaDoor
namespace Go.Proofs.YteempnebenjkmaaDoor
open Go.RowKit
set_option maxRecDepth 100000
set_option linter.unusedVariables false
set_option linter.unusedSimpArgs false
theorem ZyP : Zar Tryd.prog 22 = some 3 := by kernel_rfl
theorem ZAf : ZaR Tryd.prog 3 = some (.int .i64 0) := by kernel_rfl
theorem ZAg : ZaR Tryd.prog 5 = some (.int .u8 0) := by kernel_rfl
theorem ZAh : Zax Tryd.prog 5 = some 1 := by kernel_rfl
theorem ZyQ : ZaR Tryd.prog 24 = some (.agg #[.slice none 0 0, .slice none 0 0, .slice none 0 0, .slice none 0 0]) := by kernel_rfl
theorem ZyR : ZcR Tryd.prog 24 = some [(0, 1), (1, 1), (2, 1), (3, 1)] := by kernel_rfl
theorem ZyS : ZaR Tryd.prog 26 = some (.agg #[.int .i64 0, .int .i64 0, .slice none 0 0, .slice none 0 0, .slice none 0 0, .slice none 0 0]) := by kernel_rfl
theorem ZyT : ZcR Tryd.prog 26 = some [(0, 1), (1, 1), (2, 4)] := by kernel_rfl
theorem ZyU : ZcR Tryd.prog 29 = some [(0, 6), (6, 1)] := by kernel_rfl
theorem Zq4 (E : Nat) : SV CT 0 Zdk (.sl E [] none) (.lst none 0 0 []) := ZcG.2 ⟨none, 0, [], [], rfl, Nat.le_refl _, by decide, by simp, (fun _ => ⟨rfl, rfl⟩), .none⟩
abbrev smallD : Zcd := ⟨⟨3, 2, ⟨[1, 2], [], [], []⟩⟩, [5, 0, 7]⟩
section
variable {σ τ : St} {bb mb : Nat} {S : Nat -> Prop} {fs : List Fl} {pcs : List (Nat × Nat)} {size : Int} {pv : AV} {K : AV -> St -> Prop}
set_option maxHeartbeats 1000000 in
theorem Zr4 (hK : ∀ as_ τ, SVs CT 0 Zdk (CT.enc 10 smallD) as_ -> Ext σ τ -> K (.agg as_) τ) : Zay Tryd.prog 14 [] σ K := by
 refine ZaG ZaN Tryd.func14 rfl rfl rfl (Nat.le_of_ble_eq_true rfl) ?_
 refine Zxb (fun _ => True) trivial ?_
 intro e he
 first | refine Zaa ?_ | refine Zad ?_ | (refine Zac ?_; refine Zaa ?_) | (refine Zac ?_; refine Zac ?_; refine Zaa ?_)
 refine Zab ?_
 refine ZdQ (cs := ZoE) ZkA rfl fun b0 σ1 hn1 hu1 hb1 hub1 hX1 => ?_
 refine Zah ?_
 apply ZdI 0
 ·simp only [EV, Nat.reduceEqDiff, ↓reduceIte, he] <;> try rfl
 clear he e
 intro e he
 first | refine Zaa ?_ | refine Zad ?_ | (refine Zac ?_; refine Zaa ?_) | (refine Zac ?_; refine Zac ?_; refine Zaa ?_)
 refine Zab ?_
 refine ZnL (vs := [vI 1, vI 2]) (cells := [vI 1, vI 2]) (by simp only [List.map_cons, List.map_nil, EV, Nat.reduceEqDiff, ↓reduceIte, he]; try rfl) ZyP Zxk ZAf rfl (by omega) rfl rfl fun rb σ2 hN2 hX2 => ?_
 refine Zab ?_
 refine Zhc (vs := [.lst (some ⟨rb, 0, none⟩) 2 2 [vI 1, vI 2]]) (cells := [.lst (some ⟨rb, 0, none⟩) 2 2 [vI 1, vI 2], .lst none 0 0 [], .lst none 0 0 [], .lst none 0 0 []]) (by simp only [List.map_cons, List.map_nil, EV, Nat.reduceEqDiff, ↓reduceIte, he]; try rfl) ZyQ ZyR rfl ?_
 refine Zab ?_
 refine Zhc (vs := [vI 3, vI 2, .agg [.lst (some ⟨rb, 0, none⟩) 2 2 [vI 1, vI 2], .lst none 0 0 [], .lst none 0 0 [], .lst none 0 0 []]]) (cells := [vI 3, vI 2, .lst (some ⟨rb, 0, none⟩) 2 2 [vI 1, vI 2], .lst none 0 0 [], .lst none 0 0 [], .lst none 0 0 []]) (by simp only [List.map_cons, List.map_nil, EV, Nat.reduceEqDiff, ↓reduceIte, he]; try rfl) ZyS ZyT rfl ?_
 refine Zab ?_
 refine ZnL (vs := [.raw (.int .u8 5), .raw (.int .u8 0), .raw (.int .u8 7)]) (cells := [.raw (.int .u8 5), .raw (.int .u8 0), .raw (.int .u8 7)]) (by simp only [List.map_cons, List.map_nil, EV, Nat.reduceEqDiff, ↓reduceIte, he]; try rfl) Zvc ZAh ZAg rfl (by omega) rfl rfl fun rb2 σ3 hN3 hX3 => ?_
 refine Zab ?_
 refine Zhc (vs := [.agg [vI 3, vI 2, .lst (some ⟨rb, 0, none⟩) 2 2 [vI 1, vI 2], .lst none 0 0 [], .lst none 0 0 [], .lst none 0 0 []], .lst (some ⟨rb2, 0, none⟩) 3 3 [.raw (.int .u8 5), .raw (.int .u8 0), .raw (.int .u8 7)]]) (cells := [vI 3, vI 2, .lst (some ⟨rb, 0, none⟩) 2 2 [vI 1, vI 2], .lst none 0 0 [], .lst none 0 0 [], .lst none 0 0 [], .lst (some ⟨rb2, 0, none⟩) 3 3 [.raw (.int .u8 5), .raw (.int .u8 0), .raw (.int .u8 7)]]) (by simp only [List.map_cons, List.map_nil, EV, Nat.reduceEqDiff, ↓reduceIte, he]; try rfl) ZkA ZyU rfl ?_
 refine Zab ?_
 refine ZcS (b := b0) (o := 0) (u := .agg [vI 3, vI 2, .lst (some ⟨rb, 0, none⟩) 2 2 [vI 1, vI 2], .lst none 0 0 [], .lst none 0 0 [], .lst none 0 0 [], .lst (some ⟨rb2, 0, none⟩) 3 3 [.raw (.int .u8 5), .raw (.int .u8 0), .raw (.int .u8 7)]]) (by simp only [EV, Nat.reduceEqDiff, ↓reduceIte, he] <;> try rfl) (by simp only [EV, Nat.reduceEqDiff, ↓reduceIte, he] <;> try rfl) ((hX2.trans hX3).keep _ _ hb1) ZdY rfl rfl fun σ4 hb4 k4 => ?_
 refine Zah ?_
 refine Zbm ?_
 refine ZnJ rfl (Zfm (by simp only [EV, Nat.reduceEqDiff, ↓reduceIte, he] <;> try rfl) hb4 ZiQ ZdY (ZmE rfl)) (hK _ σ4 ?_ (But.ext ((hX1.trans hX2).trans hX3) (fun g hg => by rw [hg]; exact hn1) k4))
 exact .cons (Zan.2 rfl) (.cons (Zan.2 rfl) (.cons (ZcG.2 ⟨some ⟨rb, 0, none⟩, 2, [vI 1, vI 2], [], rfl, Nat.le_refl _, by decide, by simp, (fun q => by cases q), .cons (Zan.2 rfl) (.cons (Zan.2 rfl) .none)⟩) (.cons (Zq4 0) (.cons (Zq4 0) (.cons (Zq4 0) (.cons (ZuP (d := [5, 0, 7]) (Zyw rb2 (by decide))) .none))))))
theorem ZwO {k nm d : List UInt8} {fs' : List Fl} {pcs' : List (Nat × Nat)} (h : ZwL [] [] k nm d fs' pcs') (hk : k ≠ nm) : ∃ b v, fs' = [⟨nm, b, v, d⟩] /\ pcs' = [] := by
 obtain ⟨fs2, pcs2, f, ⟨fs1, f0, v', h1, h2, h3, rfl, rfl⟩, hf, hfk, rfl, rfl⟩ := h.ex
 rcases h1 with rfl | ⟨_, rfl, hd⟩
 ·cases h2
 ·have hset : ([] ++ [f0] : List Fl).map (Zeg f0.b v' (f0.d ++ d)) = [⟨k, f0.b, v', d⟩] := by
   simp [Zeg, h3, hd]
  rw [hset] at hf ⊢
  obtain rfl := List.mem_singleton.1 hf
  refine ⟨f0.b, v', ?_, ?_⟩
  ·simp [rnF, ZkZ, hk]
  ·have hs : (ZfU [⟨k, f0.b, v', d⟩] [k] ([] ++ if d = [] then [] else [(f0.b, d.length)])).1 = [] := by
    rw [Zkw (fb := f0.b) (by simp [ZbC, ZjF]), ZpX]
    split <;> simp
   rw [hs]
   unfold rnP
   split <;> rfl
theorem ZBv : (Go.Lib.decDigits 1).length <= 21 := by rw [<- Go.Lib.itoa_nonneg 1]; exact Go.Lib.itoa_length_le _ (by omega) (by omega)
theorem ZyV (g : Nat) : ZmD g ≠ ZdX g := fun q => by
 have := congrArg List.length q
 simp [ZmD] at this
theorem Zvf {x y : Zcd} {r : Bool} {as_ bs_ : List AV} (hx : SVs CT 0 Zdk (CT.enc 10 x) as_) (hy : SVs CT 0 Zdk (CT.enc 10 y) bs_) (hS : Zbj x y = some (r, ())) (hK : ∀ τ, Ext σ τ -> K (vT r) τ) : Zay Tryd.prog 10 [.agg as_, .agg bs_] σ K :=
 ZuG (ZfN.ok (x, y, ()) () (r, ()) hS) (.cons (Zcm.2 ⟨_, rfl, hx⟩) (.cons (Zcm.2 ⟨_, rfl, hy⟩) .none)) (fun N ρ a h => ZaU.1 h) K hK
set_option maxHeartbeats 4000000 in
theorem ZwP {bs d : List UInt8} {idx term : Int} {n1 n2 n3 n4 : Nat} {l1 l2 l3 l4 : List Int} {by_ : List UInt8}
 (hB : Zdi smallD = some ((bs, 0, ()), ((), ()))) (hP : Zeb [⟨4, bs⟩] = some ((d, 0, ()), ((), ()))) (hdl : d.length <= 1000)
 (hG : ZeV d = some (([⟨4, bs⟩], (d.length : Int), ()), ((), ()))) (hI : Za6 bs = some (((idx, term, n1, n2, n3, n4, by_, ()), true, ()), (l1, l2, l3, l4, ()))) (g1 : n1 <= l1.length) (g2 : n2 <= l2.length) (g3 : n3 <= l3.length) (g4 : n4 <= l4.length) (hsm : l1.length <= 1000000 /\ l2.length <= 1000000 /\ l3.length <= 1000000 /\ l4.length <= 1000000)
 (hy : (⟨⟨idx, term, ⟨l1.take n1, l2.take n2, l3.take n3, l4.take n4⟩⟩, by_⟩ : Zcd) = smallD) (hS : Zbj smallD smallD = some (true, ())) (hK : ∀ τ, Ext σ τ -> K (vT true) τ) : Zay Tryd.prog 4 [] σ K := by
 refine ZaG ZaN Tryd.func4 rfl rfl rfl (Nat.le_of_ble_eq_true rfl) ?_
 refine Zxb (fun _ => True) trivial ?_
 intro e he
 first | refine Zaa ?_ | refine Zad ?_ | (refine Zac ?_; refine Zaa ?_) | (refine Zac ?_; refine Zac ?_; refine Zaa ?_)
 refine Zab (Zak rfl (by simp only [EV, Nat.reduceEqDiff, ↓reduceIte, he] <;> try rfl) ?_)
 refine Zah ?_
 first | refine Zaa ?_ | refine Zad ?_ | (refine Zac ?_; refine Zaa ?_) | (refine Zac ?_; refine Zac ?_; refine Zaa ?_)
 refine Zab ?_
 refine Za9 (vs := [vI 0]) (by simp only [List.map_cons, List.map_nil, EV, Nat.reduceEqDiff, ↓reduceIte, he] <;> try rfl) ?_
 refine Zz6 fun bb mb σ1 h1 hX1 hnb hnm => ?_
 refine Zab (Zak rfl (by simp only [EV, Nat.reduceEqDiff, ↓reduceIte, he] <;> try rfl) ?_)
 refine Zah ?_
 apply ZdI 1
 ·simp only [EV, Nat.reduceEqDiff, ↓reduceIte, he] <;> try rfl
 clear he e
 intro e he
 first | refine Zaa ?_ | refine Zad ?_ | (refine Zac ?_; refine Zaa ?_) | (refine Zac ?_; refine Zac ?_; refine Zaa ?_)
 refine Zab (Zak rfl (by simp only [EV, Nat.reduceEqDiff, ↓reduceIte, he] <;> try rfl) ?_)
 refine Zab ?_
 refine Za9 (vs := [ptr bb 0, vI 1]) (by simp only [List.map_cons, List.map_nil, EV, Nat.reduceEqDiff, ↓reduceIte, he] <;> try rfl) ?_
 refine Zvd (g := 1) h1 (by simp) (by omega) ZBv (by simp) fun σ2 hX2 => ?_
 refine Zab (Zak rfl (by simp only [EV, Nat.reduceEqDiff, ↓reduceIte, he] <;> try rfl) ?_)
 refine Zab ?_
 refine Za1 (l := [.agg ZoE, vT false, vI 0]) (by simp only [EV, Nat.reduceEqDiff, ↓reduceIte, he] <;> try rfl) rfl ?_
 refine Zab ?_
 refine Za1 (l := [.agg ZoE, vT false, vI 0]) (by simp only [EV, Nat.reduceEqDiff, ↓reduceIte, he] <;> try rfl) rfl ?_
 refine Zab ?_
 refine Za1 (l := [.agg ZoE, vT false, vI 0]) (by simp only [EV, Nat.reduceEqDiff, ↓reduceIte, he] <;> try rfl) rfl ?_
 refine Zab ?_
 refine ZdQ (cs := ZoE) ZkA rfl fun b2 σ3 hn3 hu3 hb3 hub3 hX3 => ?_
 refine Zab ?_
 refine ZcS (b := b2) (o := 0) (u := .agg ZoE) (by simp only [EV, Nat.reduceEqDiff, ↓reduceIte, he] <;> try rfl) (by simp only [EV, Nat.reduceEqDiff, ↓reduceIte, he] <;> try rfl) hb3 ZdY rfl rfl fun σ4 hb4 k4 => ?_
 refine Zab (Zak rfl (by simp only [EV, Nat.reduceEqDiff, ↓reduceIte, he] <;> try rfl) ?_)
 refine Zab (Zak rfl (by simp only [EV, Nat.reduceEqDiff, ↓reduceIte, he] <;> try rfl) ?_)
 refine Zah ?_
 apply Zb5 1 3 4
 ·simp only [EV, Nat.reduceEqDiff, ↓reduceIte, he] <;> try rfl
 ·simp only [EV, Nat.reduceEqDiff, ↓reduceIte, he] <;> try rfl
 ·simp only [EV, Nat.reduceEqDiff, ↓reduceIte, he] <;> try rfl
 clear he e
 intro e he
 have hX14 : Ext σ1 σ4 := But.ext (hX2.trans hX3) (fun g hg => by rw [hg]; exact hX2.noneOf hn3) k4
 first | refine Zaa ?_ | refine Zad ?_ | (refine Zac ?_; refine Zaa ?_) | (refine Zac ?_; refine Zac ?_; refine Zaa ?_)
 refine Zab (Zak rfl (by simp only [EV, Nat.reduceEqDiff, ↓reduceIte, he] <;> try rfl) ?_)
 refine Zab ?_
 refine Za9 (vs := []) (by simp only [List.map_cons, List.map_nil, EV, Nat.reduceEqDiff, ↓reduceIte, he] <;> try rfl) ?_
 refine Zr4 fun as_ σ5 hs5 hX5 => ?_
 have hX15 : Ext σ1 σ5 := hX14.trans hX5
 have h5 := h1.but (U := fun _ => False) hX15.but fun b hb hf => hf
 refine Zab ?_
 refine Za9 (vs := [ptr bb 0, vI 1, .agg as_]) (by simp only [List.map_cons, List.map_nil, EV, Nat.reduceEqDiff, ↓reduceIte, he] <;> try rfl) ?_
 refine ZyO (g := 1) (bs := bs) (d := d) h5 (fun c hc => hc.elim (fun q => q ▸ h5.used) (fun q => q ▸ h5.umap)) (by omega) ZBv hs5 hB hP (by show d.length + 0 <= _; omega) (by simp) (by show 0 <= _; omega) (fun hn => absurd (.inl (by omega)) hn) fun _ σ6 S' fs' pcs' pv' h6 k6 _ q6 u6 hA => ?_
 obtain ⟨fb, fv, rfl, rfl⟩ := ZwO hA (ZyV 1)
 refine Zab (Zak rfl (by simp only [EV, Nat.reduceEqDiff, ↓reduceIte, he] <;> try rfl) ?_)
 refine Zah ?_
 apply ZcU 1 3 4 5
 ·simp only [EV, Nat.reduceEqDiff, ↓reduceIte, he] <;> try rfl
 ·simp only [EV, Nat.reduceEqDiff, ↓reduceIte, he] <;> try rfl
 ·simp only [EV, Nat.reduceEqDiff, ↓reduceIte, he] <;> try rfl
 ·simp only [EV, Nat.reduceEqDiff, ↓reduceIte, he] <;> try rfl
 clear he e
 intro e he
 first | refine Zaa ?_ | refine Zad ?_ | (refine Zac ?_; refine Zaa ?_) | (refine Zac ?_; refine Zac ?_; refine Zaa ?_)
 refine Zab (Zak rfl (by simp only [EV, Nat.reduceEqDiff, ↓reduceIte, he] <;> try rfl) ?_)
 refine Zab ?_
 refine Za9 (vs := [ptr bb 0, vI 0]) (by simp only [List.map_cons, List.map_nil, EV, Nat.reduceEqDiff, ↓reduceIte, he] <;> try rfl) ?_
 refine ZwG (keep := 0) h6 (by simp) ⟨by simp, fun f hf => by rw [ZmB]; exact Nat.zero_le _⟩ (by rw [ZrY]; omega) (fun f hf => by rw [List.mem_singleton.1 hf]; show d.length <= _; omega) ⟨by omega, by omega⟩ fun σ7 fs7 h7 hdat k7 => ?_
 obtain ⟨f0, rfl, hf1, hf2⟩ : ∃ f0 : Fl, fs7 = [f0] /\ f0.nm = ZdX 1 /\ f0.d = d := by
  rw [show ((Zgr ([] : List (Nat × Nat)) : Int) - max 0 0).toNat = 0 from rfl, Ze8] at hdat
  match fs7, hdat with
  | [f], hq =>
   simp only [dat, List.map_cons, List.map_nil, List.cons.injEq, Prod.mk.injEq, and_true] at hq
   exact ⟨f, rfl, hq.1, hq.2.2⟩
  | [], hq => simp [dat] at hq
  | _ :: _ :: _, hq => simp [dat] at hq
 refine Zah ?_
 apply ZcU 1 3 4 5
 ·simp only [EV, Nat.reduceEqDiff, ↓reduceIte, he] <;> try rfl
 ·simp only [EV, Nat.reduceEqDiff, ↓reduceIte, he] <;> try rfl
 ·simp only [EV, Nat.reduceEqDiff, ↓reduceIte, he] <;> try rfl
 ·simp only [EV, Nat.reduceEqDiff, ↓reduceIte, he] <;> try rfl
 clear he e
 intro e he
 first | refine Zaa ?_ | refine Zad ?_ | (refine Zac ?_; refine Zaa ?_) | (refine Zac ?_; refine Zac ?_; refine Zaa ?_)
 refine Zab (Zak rfl (by simp only [EV, Nat.reduceEqDiff, ↓reduceIte, he] <;> try rfl) ?_)
 refine Zab ?_
 refine Za9 (vs := [ptr bb 0, vI 1]) (by simp only [List.map_cons, List.map_nil, EV, Nat.reduceEqDiff, ↓reduceIte, he] <;> try rfl) ?_
 refine Zve (g := 1) (f0 := f0) h7 (fun f hf => by rw [List.mem_singleton.1 hf, hf2]; omega) (by omega) ZBv (List.mem_singleton.2 rfl) hf1 (by rw [hf2]; exact hG) hI g1 g2 g3 g4 hsm fun bs_ σ8 hs8 hX8 => ?_
 rw [hy] at hs8
 have hb7 : bs_.length = 7 := hs8.len
 have hone : bs_.all AV.one = true := List.all_eq_true.2 (hs8.ones (List.all_eq_true.1 (show (CT.enc 10 smallD).all XV.one = true from rfl)))
 refine Zab (Zak rfl (by simp only [EV, Nat.reduceEqDiff, ↓reduceIte, he] <;> try rfl) ?_)
 refine Zab ?_
 refine Za1 (l := [.agg bs_, vT true, vI 0]) (by simp only [EV, Nat.reduceEqDiff, ↓reduceIte, he] <;> try rfl) rfl ?_
 refine Zab ?_
 refine Za1 (l := [.agg bs_, vT true, vI 0]) (by simp only [EV, Nat.reduceEqDiff, ↓reduceIte, he] <;> try rfl) rfl ?_
 refine Zab ?_
 refine Za1 (l := [.agg bs_, vT true, vI 0]) (by simp only [EV, Nat.reduceEqDiff, ↓reduceIte, he] <;> try rfl) rfl ?_
 refine Zab ?_
 refine ZdQ (cs := ZoE) ZkA rfl fun b6 σ9 hn9 hu9 hb9 hub9 hX9 => ?_
 refine Zab ?_
 refine ZcS (b := b6) (o := 0) (u := .agg bs_) (cs' := bs_) (by simp only [EV, Nat.reduceEqDiff, ↓reduceIte, he] <;> try rfl) (by simp only [EV, Nat.reduceEqDiff, ↓reduceIte, he] <;> try rfl) hb9 ZdY (by simp [Zdt, hb7, hone, ZoE]) (by simp [ZaF, hb7, ZoE]) fun σ10 hb10 k10 => ?_
 refine Zab (Zak rfl (by simp only [EV, Nat.reduceEqDiff, ↓reduceIte, he] <;> try rfl) ?_)
 refine Zab (Zak rfl (by simp only [EV, Nat.reduceEqDiff, ↓reduceIte, he] <;> try rfl) ?_)
 refine Zah ?_
 apply ZoS 3 4 5 6 7 8
 ·simp only [EV, Nat.reduceEqDiff, ↓reduceIte, he] <;> try rfl
 ·simp only [EV, Nat.reduceEqDiff, ↓reduceIte, he] <;> try rfl
 ·simp only [EV, Nat.reduceEqDiff, ↓reduceIte, he] <;> try rfl
 ·simp only [EV, Nat.reduceEqDiff, ↓reduceIte, he] <;> try rfl
 ·simp only [EV, Nat.reduceEqDiff, ↓reduceIte, he] <;> try rfl
 ·simp only [EV, Nat.reduceEqDiff, ↓reduceIte, he] <;> try rfl
 clear he e
 intro e he
 refine ZjM ?_
 refine ⟨[0, 1, 2, 3, 4, 5, 6, 7, 8, 9, 10, 11, 12, 13, 14, 15, 16, 17, 18, 19, 20, 21, 22], [[], [0], [0, 1], [0, 1, 2], [0, 1, 2, 3], [0, 1, 2, 3, 4], [0, 1, 2, 3, 4, 5], [0, 1, 2, 3, 4, 5, 6], [0, 1, 2, 3, 4, 5, 6, 7], [0, 1, 2, 3, 4, 5, 6, 7, 8], [0, 1, 2, 3, 4, 5, 6, 7, 8, 9], [0, 1, 2, 3, 4, 5, 6, 7, 8, 9, 10], [0, 1, 2, 3, 4, 5, 6, 7, 8, 9, 10, 11], [0, 1, 2, 3, 4, 5, 6, 7, 8, 9, 10, 11, 12], [0, 1, 2, 3, 4, 5, 6, 7, 8, 9, 10, 11, 12, 13], [0, 1, 2, 3, 4, 5, 6, 7, 8, 9, 10, 11, 12, 13, 14], [0, 1, 2, 3, 4, 5, 6, 7, 8, 9, 10, 11, 12, 13, 14, 15], [0, 1, 2, 3, 4, 5, 6, 7, 8, 9, 10, 11, 12, 13, 14, 15, 16], [0, 1, 2, 3, 4, 5, 6, 7, 8, 9, 10, 11, 12, 13, 14, 15, 16, 17], [0, 1, 2, 3, 4, 5, 6, 7, 8, 9, 10, 11, 12, 13, 14, 15, 16, 17], [0, 1, 2, 3, 4, 5, 6, 7, 8, 9, 10, 11, 12, 13, 14, 15, 16, 17, 18, 19], [0, 1, 2, 3, 4, 5, 6, 7, 8, 9, 10, 11, 12, 13, 14, 15, 16, 17, 18, 19, 20], [0, 1, 2, 3, 4, 5, 6, 7, 8, 9, 10, 11, 12, 13, 14, 15, 16, 17, 18, 19, 20, 21]], fun _ => True, [18], [19], [], by kernel_rfl, ?_⟩
 apply ZaJ
 case hi => simp only [HIX]; try rfl
 case hw => rfl
 case how => rfl
 refine Zak rfl (by simp only [EV, Nat.reduceEqDiff, ↓reduceIte, he] <;> try rfl) ?_
 refine ZbL ?_
 apply ZaJ
 case hi => simp only [HIX]; try rfl
 case hw => rfl
 case how => rfl
 with_reducible apply Zg2
 case hx => simp only [EV, Nat.reduceEqDiff, ↓reduceIte, he] <;> try rfl
 refine ZbL ?_
 apply ZaJ
 case hi => simp only [HIX]; try rfl
 case hw => rfl
 case how => rfl
 refine Zak rfl (by simp only [EV, Nat.reduceEqDiff, ↓reduceIte, he] <;> try rfl) ?_
 refine ZbL ?_
 apply ZaJ
 case hi => simp only [HIX]; try rfl
 case hw => rfl
 case how => rfl
 refine Zak rfl (by simp only [EV, Nat.reduceEqDiff, ↓reduceIte, he] <;> try rfl) ?_
 refine ZbL ?_
 apply ZaJ
 case hi => simp only [HIX]; try rfl
 case hw => rfl
 case how => rfl
 refine Zse (k := .i64) (a := 0) (b := 0) (by simp only [EV, Nat.reduceEqDiff, ↓reduceIte, he] <;> try rfl) (by simp only [EV, Nat.reduceEqDiff, ↓reduceIte, he] <;> try rfl) ?_
 refine ZbL ?_
 apply ZaJ
 case hi => simp only [HIX]; try rfl
 case hw => rfl
 case how => rfl
 refine Zc8 (v := vT true) (by simp only [EV, Nat.reduceEqDiff, ↓reduceIte, he] <;> try rfl) (by simp only [EV, Nat.reduceEqDiff, ↓reduceIte, he] <;> try rfl) ?_
 refine ZbL ?_
 apply ZaJ
 case hi => simp only [HIX]; try rfl
 case hw => rfl
 case how => rfl
 refine Zak rfl (by simp only [EV, Nat.reduceEqDiff, ↓reduceIte, he] <;> try rfl) ?_
 refine ZbL ?_
 apply ZaJ
 case hi => simp only [HIX]; try rfl
 case hw => rfl
 case how => rfl
 refine Zak rfl (by simp only [EV, Nat.reduceEqDiff, ↓reduceIte, he] <;> try rfl) ?_
 refine ZbL ?_
 apply ZaJ
 case hi => simp only [HIX]; try rfl
 case hw => rfl
 case how => rfl
 refine Zse (k := .i64) (a := 0) (b := 0) (by simp only [EV, Nat.reduceEqDiff, ↓reduceIte, he] <;> try rfl) (by simp only [EV, Nat.reduceEqDiff, ↓reduceIte, he] <;> try rfl) ?_
 refine ZbL ?_
 apply ZaJ
 case hi => simp only [HIX]; try rfl
 case hw => rfl
 case how => rfl
 refine Zc8 (v := vT true) (by simp only [EV, Nat.reduceEqDiff, ↓reduceIte, he] <;> try rfl) (by simp only [EV, Nat.reduceEqDiff, ↓reduceIte, he] <;> try rfl) ?_
 refine ZbL ?_
 apply ZaJ
 case hi => simp only [HIX]; try rfl
 case hw => rfl
 case how => rfl
 refine Zak rfl (by simp only [EV, Nat.reduceEqDiff, ↓reduceIte, he] <;> try rfl) ?_
 refine ZbL ?_
 apply ZaJ
 case hi => simp only [HIX]; try rfl
 case hw => rfl
 case how => rfl
 refine Zak rfl (by simp only [EV, Nat.reduceEqDiff, ↓reduceIte, he] <;> try rfl) ?_
 refine ZbL ?_
 apply ZaJ
 case hi => simp only [HIX]; try rfl
 case hw => rfl
 case how => rfl
 refine Zc8 (v := vT true) (by simp only [EV, Nat.reduceEqDiff, ↓reduceIte, he] <;> try rfl) (by simp only [EV, Nat.reduceEqDiff, ↓reduceIte, he] <;> try rfl) ?_
 refine ZbL ?_
 apply ZaJ
 case hi => simp only [HIX]; try rfl
 case hw => rfl
 case how => rfl
 refine Zak rfl (by simp only [EV, Nat.reduceEqDiff, ↓reduceIte, he] <;> try rfl) ?_
 refine ZbL ?_
 apply ZaJ
 case hi => simp only [HIX]; try rfl
 case hw => rfl
 case how => rfl
 refine Zak rfl (by simp only [EV, Nat.reduceEqDiff, ↓reduceIte, he] <;> try rfl) ?_
 refine ZbL ?_
 apply ZaJ
 case hi => simp only [HIX]; try rfl
 case hw => rfl
 case how => rfl
 refine Zse (k := .i64) (a := 0) (b := 0) (by simp only [EV, Nat.reduceEqDiff, ↓reduceIte, he] <;> try rfl) (by simp only [EV, Nat.reduceEqDiff, ↓reduceIte, he] <;> try rfl) ?_
 refine ZbL ?_
 apply ZaJ
 case hi => simp only [HIX]; try rfl
 case hw => rfl
 case how => rfl
 refine Zc8 (v := vT true) (by simp only [EV, Nat.reduceEqDiff, ↓reduceIte, he] <;> try rfl) (by simp only [EV, Nat.reduceEqDiff, ↓reduceIte, he] <;> try rfl) ?_
 refine ZbL ?_
 apply ZaJ
 case hi => simp only [HIX]; try rfl
 case hw => rfl
 case how => rfl
 refine Zak rfl (by simp only [EV, Nat.reduceEqDiff, ↓reduceIte, he] <;> try rfl) ?_
 refine ZbL ?_
 apply ZaJ
 case hi => simp only [HIX]; try rfl
 case hw => rfl
 case how => rfl
 refine ZaD (b := b6) (o := 0) (r := .agg bs_) (by simp only [EV, Nat.reduceEqDiff, ↓reduceIte, he] <;> try rfl) hb10 ZiQ ZdY (ZmE hb7) ?_
 refine ZbL ?_
 apply ZaJ
 case hi => simp only [HIX]; try rfl
 case hw => rfl
 case how => rfl
 refine Za9 (vs := []) (by simp only [List.map_cons, List.map_nil, EV, Nat.reduceEqDiff, ↓reduceIte, he] <;> try rfl) ?_
 refine Zr4 fun cs_ σ11 hs11 hX11 => ⟨fun _ => hX11, ?_⟩
 apply ZaJ
 case hi => simp only [HIX]; try rfl
 case hw => rfl
 case how => rfl
 refine Za9 (vs := [.agg bs_, .agg cs_]) (by simp only [List.map_cons, List.map_nil, EV, Nat.reduceEqDiff, ↓reduceIte, he] <;> try rfl) ?_
 refine Zvf hs8 hs11 hS fun σ12 hX12 => ⟨fun _ => hX12, ?_⟩
 apply ZaJ
 case hi => simp only [HIX]; try rfl
 case hw => rfl
 case how => rfl
 refine Zc8 (v := vT true) (by simp only [EV, Nat.reduceEqDiff, ↓reduceIte, he] <;> try rfl) (by simp only [EV, Nat.reduceEqDiff, ↓reduceIte, he] <;> try rfl) ?_
 refine ZbL ?_
 apply ZaJ
 case hi => simp only [HIX]; try rfl
 case hw => rfl
 case how => rfl
 refine Zak rfl (by simp only [EV, Nat.reduceEqDiff, ↓reduceIte, he] <;> try rfl) ?_
 refine ZbL ?_
 refine Zor ?_
 apply ZdI 0
 ·simp only [EV, Nat.reduceEqDiff, ↓reduceIte, he] <;> try rfl
 clear he e
 intro e he
 refine Zbm ?_
 have hE5 : Ext σ σ5 := hX1.trans hX15
 have hS0 : ∀ b, (b = bb \/ b = mb) -> σ.blk b = none := fun b hb => hb.elim (fun q => q ▸ hnb.1) (fun q => q ▸ hnm.1)
 have hE7 : Ext σ σ7 := But.ext (But.ext hE5 hS0 k6) (fun b hb => (q6 b hb).elim (hS0 b) (fun hn => (hn.of hE5).1)) k7
 have hE8 : Ext σ σ8 := hE7.trans hX8
 show ∃ r, Zaq _ _ _ _ r /\ _
 exact ⟨_, ZaZ rfl (by simp only [EV, Nat.reduceEqDiff, ↓reduceIte, he] <;> try rfl), hK σ12 ((But.ext (hE8.trans hX9) (fun g hg => by rw [hg]; exact hE8.noneOf hn9) k10).trans (hX11.trans hX12))⟩
end
end Go.Proofs.YteempnebenjkmaaDoor
