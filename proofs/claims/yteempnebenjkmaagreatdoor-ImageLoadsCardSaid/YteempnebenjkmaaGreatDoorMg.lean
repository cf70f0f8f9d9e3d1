/- XDi, XDj, XDt, XDtb, XDtc, XIw, XIv, XIa, XIl in one. -/
import Derived.Test.YteempnebenjkmaaGreatDoorMe
import Derived.Laws.IdiomRangeMap
import Derived.Maps.RangeRun
import Derived.Test.YteempnebenjkmaaGreatDoorMf
import Derived.Test.YteempnebenjkmaaGreatDoorSl
import Derived.Test.YteempnebenjkmaaGreatDoorBy
import Derived.Test.YteempnebenjkmaaGreatDoorG1
import Derived.Test.YteempnebenjkmaaGreatDoorHx
import Derived.Test.YteempnebenjkmaaGreatDoorLy
namespace Go.Proofs.YteempnebenjkmaaGreatDoor
open Go.RowKit
open Go.ChangeMaps (setBlock)
set_option linter.unusedSimpArgs false
set_option maxRecDepth 100000
set_option linter.unusedVariables false
section
variable {w : World} {σ : St} {Z : Nat -> Prop}
end
section
variable {P : Program} {ops : Array Oper} {env : Env} {σ τ : St} {K : Env -> St -> Prop} {d : Option Nat} {ty t kt et : TypeId} {pos : String} {af : Array Edge} {x y : Operand} {b ib : Nat} {l : List Oper}
end
structure ZAH (arr : Array MapEntry) (seen : Array Nat) (D : List MapEntry) : Prop where
 sub : ∀ e ∈ D, e ∈ arr.toList
 at_ : seen.toList = D.map (·.born)
 nd : (D.map (·.born)).Nodup
theorem ZAH.nil (arr : Array MapEntry) : ZAH arr #[] [] := ⟨(fun e he => by cases he), rfl, by simp⟩
theorem ZAH.push {arr : Array MapEntry} {seen : Array Nat} {D : List MapEntry} (h : ZAH arr seen D) {e : MapEntry} (he : e ∈ (leftOf arr seen).toList) : ZAH arr (seen.push e.born) (D ++ [e]) := by
 obtain ⟨m1, m2⟩ := mem_left he
 refine ⟨fun x hx => ?_, by rw [Array.toList_push, h.at_, List.map_append]; rfl, ?_⟩
 ·rcases List.mem_append.1 hx with hx | hx
  ·exact h.sub x hx
  ·rw [List.mem_singleton.1 hx]; exact m1
 ·rw [List.map_append, List.nodup_append]
  refine ⟨h.nd, by simp, fun a ha b hb e2 => ?_⟩
  simp at hb
  subst hb e2
  rw [<- h.at_] at ha
  have : seen.contains e.born = true := by
   rw [Array.contains_iff_mem]
   exact Array.mem_def.2 ha
  rw [this] at m2
  cases m2
def ZC9 (es : List (Nat × Nat)) : List (Value × Value) := es.map fun p => (pV p.1, pV p.2)
def ZvE : List (Nat × Nat) -> Nat -> Option Nat
 | [], _ => none
 | p :: es, k => if k = p.1 then some p.2 else ZvE es k
section
variable {P : Program}
variable {ops : Array Oper} {env : Env} {σ τ : St} {K : Env -> St -> Prop} {d : Option Nat} {ty ty' t kt et : TypeId} {pos : String} {af : Array Edge} {x y z : Operand} {b k n m : Nat} {es : List (Nat × Nat)}
theorem Ztu {l : List MapEntry} {j c : Nat} (h1 : ∀ n ∈ l.map fun e : MapEntry => e.born, n < c) (h2 : (l.map fun e : MapEntry => e.born).Nodup) : (∀ n ∈ (l.eraseIdx j).map fun e : MapEntry => e.born, n < c) /\ ((l.eraseIdx j).map fun e : MapEntry => e.born).Nodup := by
 have hs : ((l.eraseIdx j).map fun e : MapEntry => e.born).Sublist (l.map fun e : MapEntry => e.born) := (List.eraseIdx_sublist l j).map _
 exact ⟨fun n hn => h1 n (hs.subset hn), hs.nodup h2⟩
theorem ZpU {b : Nat} {es : Dir} {k : List UInt8} (hx : ev env x = ZgG b) (hy : ev env y = .raw (sV k)) (hb : σ.blk b = some (.map (ZiL es))) (t1 : P.underlying t = some (.map kt et)) (t2 : P.underlying kt = some .string)
 (h : ∀ τ, τ.blk b = some (.map (ZiL (ZuW es k))) -> But (fun c => c = b) σ τ -> K (env.put d (.raw (.tuple #[]))) τ) : aOp P ops ⟨d, .call ⟨.builtin .delete, #[x, y], #[t, ty']⟩, ty, pos, af, none⟩ env σ K := by
 rw [ZaN rfl]
 have hvs : ((.call ⟨.builtin .delete, #[x, y], #[t, ty']⟩ : Op).operands.toList.map (ev env)) = [ZgG b, .raw (sV k)] := by simp [Op.operands, Call.operands, hx, hy]
 show ZdL P _ (Op.operands _ |>.toList.map (ev env)) σ _
 rw [hvs]
 refine .inr ⟨rfl, fun ρv hρ w Z hH hV => ?_⟩
 obtain ⟨_, arr, c, hh, harr, hfr1, hfr2⟩ := hH.mapAt hb (Zhq _)
 have hρ' := hρ
 simp [Op.operands, Call.operands, ZgG] at hρ'
 have fin : ∀ (arr' : Array MapEntry), ((∀ n ∈ arr'.toList.map fun e : MapEntry => e.born, n < c) /\ (arr'.toList.map fun e : MapEntry => e.born).Nodup) -> arr'.toList.map (fun e : MapEntry => (e.key, e.val)) = ZiL (ZuW es k) -> (Builtin.delete_ #[t, ty'] ty #[.map (some b), sV k]).run P w = .ok (.tuple #[]) (Zel w b arr' c) ->
  ∃ r σ' w', ((execOp ρv ⟨d, .call ⟨.builtin .delete, #[x, y], #[t, ty']⟩, ty, pos, af, none⟩).run P w = .ok (.value r.val) w' \/ (execOp ρv ⟨d, .call ⟨.builtin .delete, #[x, y], #[t, ty']⟩, ty, pos, af, none⟩).run P w = .ok .skip w' /\ r = .raw undef) /\ K (env.put d r) σ' /\ Zan w' σ' Z /\ Zag w' (σ'.free Z) r /\ Grow w σ w' σ' := by
  intro arr' h0 h1 h2
  obtain ⟨q1, q2⟩ := hH.write_map (a' := arr') (c' := c) hb hh h0 (by rw [h1]; exact Zhq _)
  rw [h1] at q1 q2
  refine ⟨.raw (.tuple #[]), _, Zel w b arr' c, .inl ?_, h _ ?_ ?_, q1, ZaL _, q2⟩
  ·simp [execOp, resolve, invoke, builtin, hρ', h2]
  ·show (if b = b then _ else σ.blk b) = _
   rw [if_pos rfl]
  ·exact ⟨fun c' k' hc hk => by
    show (if c' = b then _ else σ.blk c') = _
    rw [if_neg hc]; exact hk, fun c' hc => hc⟩
 have pre : ∀ r, ZwC k es 0 = r -> (Builtin.delete_ #[t, ty'] ty #[.map (some b), sV k]).run P w = (match r with
  | some (j, _) => (do setObj b (.map (arr.eraseIdxIfInBounds j) c); pure (.tuple #[]) : Sem Value)
  | none => (do setObj b (.map arr c); pure (.tuple #[]) : Sem Value)).run P w := by
  intro r hr
  unfold Builtin.delete_
  simp only [List.getElem?_toArray, List.getElem?_cons_zero, List.getElem?_cons_succ]
  rw [Sem.run_bind, run_underlying t1]
  dsimp only [Result.andThen]
  rw [Sem.run_bind, Zuv hh]
  dsimp only [Result.andThen]
  rw [Sem.run_bind, ZlO t2]
  dsimp only [Result.andThen]
  rw [Sem.run_bind, ZqT t2 harr, hr]
  dsimp only [Result.andThen]
  cases r <;> rfl
 rcases ZiM (k := k) 0 harr with ⟨m1, m2, _, m4⟩ | ⟨j, n, m1, m2, _, _, m5⟩
 ·refine fin arr ⟨hfr1, hfr2⟩ (by rw [harr, m4]) ?_
  rw [pre _ m2, Sem.run_bind, ZrE hh]
  rfl
 ·rw [Nat.zero_add] at m2
  refine fin (arr.eraseIdxIfInBounds j) ?_ ?_ ?_
  ·rw [Array.toList_eraseIdxIfInBounds]
   exact Ztu hfr1 hfr2
  ·rw [Array.toList_eraseIdxIfInBounds]
   exact m5
  ·rw [pre _ m2, Sem.run_bind, ZrE hh]
   rfl
end
theorem Zoj : ZaS Tryz.prog 9 = some (.string ⟨#[]⟩) := by kernel_rfl
abbrev ZkA (k : List UInt8) (fs : List Fl) : List Fl := fs.filter fun f => !decide (f.nm = k)
theorem ZpV {k : List UInt8} {fs : List Fl} (h : ∀ f ∈ fs, f.nm ≠ k) : ZkA k fs = fs := List.filter_eq_self.2 fun f hf => by simp [h f hf]
theorem Zhy {k : List UInt8} {fs : List Fl} {f : Fl} : f ∈ ZkA k fs ↔ f ∈ fs /\ f.nm ≠ k := by simp [ZkA]
theorem Zok {k : List UInt8} : ∀ {fs : List Fl}, (fs.map (·.nm)).Nodup -> ZuW (Zbs fs) k = Zbs (ZkA k fs)
 | [], _ => rfl
 | f :: fs, h => by
  rw [List.map_cons, List.nodup_cons] at h
  show (if k = f.nm then Zbs fs else (f.nm, f.b) :: ZuW (Zbs fs) k) = _
  by_cases hk : k = f.nm
  ·rw [if_pos hk]
   have : ZkA k (f :: fs) = ZkA k fs := by simp [ZkA, hk]
   rw [this, ZpV fun g hg e => h.1 (List.mem_map.2 ⟨g, hg, by rw [e, hk]⟩)]
  ·rw [if_neg hk, Zok h.2]
   have : ZkA k (f :: fs) = f :: ZkA k fs := by simp [ZkA, Ne.symm hk]
   rw [this]
   rfl
section
variable {σ τ : St} {bb mb : Nat} {S : Nat -> Prop} {fs : List Fl} {pcs : List (Nat × Nat)} {size : Int} {pv : AV}
theorem Zi5 {α β : Type} {f : α -> β} {l m : List α} (h : (l.map f).Nodup) (hs : m.Sublist l) : (m.map f).Nodup := (hs.map f).nodup h
theorem DAt.delF (h : DAt σ bb S fs pcs size mb pv) {k : List UInt8} (hp : ∀ p ∈ pcs, ∃ f ∈ ZkA k fs, f.b = p.1) (k4 : But (fun c => c = mb) σ τ) (hm : τ.blk mb = some (.map (ZiL (ZuW (Zbs fs) k)))) : DAt τ bb S (ZkA k fs) pcs size mb pv := by
 obtain ⟨o1, o2, o3, o4⟩ := h.own
 have hH : ∀ {e sz n : Nat} {u : AV} {cs : List AV}, Hd σ e sz u n cs -> Hd τ e sz u n cs := fun {e sz n u cs} hu => hu.but k4 fun c hc hq => by
  obtain ⟨all, hall⟩ := hu.blk hc
  exact ZeN hall h.map hq
 have hsub : (ZkA k fs).Sublist fs := List.filter_sublist
 refine ⟨k4.keep _ _ (fun q => ZeN h.obj h.map q) h.obj, k4.used _ h.used, by rw [hm, Zok h.nn], k4.used _ h.umap, fun f hf => ?_, Zi5 h.nd hsub, Zi5 h.nn hsub, fun f hf g hg => h.far f (hsub.subset hf) g (hsub.subset hg), hH h.pc, ⟨o1, o2, fun f hf => o3 f (hsub.subset hf), o4⟩, hp⟩
 obtain ⟨q1, q2, q3⟩ := h.file f (hsub.subset hf)
 exact ⟨k4.keep _ _ (fun q => ZeN q1 h.map q) q1, k4.used _ q2, hH q3⟩
theorem DAt.uniqN (h : DAt σ bb S fs pcs size mb pv) {f g : Fl} (hf : f ∈ fs) (hg : g ∈ fs) (e : f.nm = g.nm) : f = g := by
 have hnd := h.nn
 clear h
 induction fs with
 | nil => cases hf
 | cons a l ih =>
  rw [List.map_cons, List.nodup_cons] at hnd
  rcases List.mem_cons.1 hf with e1 | h1 <;> rcases List.mem_cons.1 hg with e2 | h2
  ·rw [e1, e2]
  ·exact absurd (List.mem_map.2 ⟨g, h2, by rw [<- e, e1]⟩) hnd.1
  ·exact absurd (List.mem_map.2 ⟨f, h1, by rw [e, e2]⟩) hnd.1
  ·exact ih h1 h2 hnd.2
theorem DAt.movF (h : DAt σ bb S fs pcs size mb pv) {f0 : Fl} (hf0 : f0 ∈ fs) {to : List UInt8} (hto : ∀ f ∈ fs, f.nm ≠ to) (k4 : But (fun c => c = mb) σ τ) (hm : τ.blk mb = some (.map (ZiL (Zxa (ZuW (Zbs fs) f0.nm) to f0.b)))) : DAt τ bb S (ZkA f0.nm fs ++ [⟨to, f0.b, f0.v, f0.d⟩]) pcs size mb pv := by
 obtain ⟨o1, o2, o3, o4⟩ := h.own
 have hH : ∀ {e sz n : Nat} {u : AV} {cs : List AV}, Hd σ e sz u n cs -> Hd τ e sz u n cs := fun {e sz n u cs} hu => hu.but k4 fun c hc hq => by
  obtain ⟨all, hall⟩ := hu.blk hc
  exact ZeN hall h.map hq
 have hsub : (ZkA f0.nm fs).Sublist fs := List.filter_sublist
 have hnb : ∀ f ∈ ZkA f0.nm fs, f.b ≠ f0.b := fun f hf e => (Zhy.1 hf).2 (by rw [h.uniq (Zhy.1 hf).1 hf0 e])
 have hfile : ∀ f ∈ fs, τ.blk f.b = some (.own 87 [f.v]) /\ τ.used f.b /\ Hd τ 5 1 f.v f.d.length (bys f.d) := fun f hf => by
  obtain ⟨q1, q2, q3⟩ := h.file f hf
  exact ⟨k4.keep _ _ (fun q => ZeN q1 h.map q) q1, k4.used _ q2, hH q3⟩
 refine ⟨k4.keep _ _ (fun q => ZeN h.obj h.map q) h.obj, k4.used _ h.used, ?_, k4.used _ h.umap, fun f hf => ?_, ?_, ?_, fun f hf g hg x hx hy => ?_, hH h.pc, ⟨o1, o2, fun f hf => ?_, o4⟩, fun p hp => ?_⟩
 ·rw [hm, Zok h.nn, Zr0 _ fun f hf => hto f (hsub.subset hf)]
  unfold Zbs
  rw [List.map_append]
  rfl
 ·rcases List.mem_append.1 hf with hf | hf
  ·exact hfile f (hsub.subset hf)
  ·rw [List.mem_singleton.1 hf]
   exact hfile f0 hf0
 ·rw [List.map_append, List.nodup_append]
  refine ⟨Zi5 h.nd hsub, by simp, fun a ha b hb e => ?_⟩
  obtain ⟨f, hf, rfl⟩ := List.mem_map.1 ha
  simp at hb
  exact hnb f hf (e.trans hb)
 ·rw [List.map_append, List.nodup_append]
  refine ⟨Zi5 h.nn hsub, by simp, fun a ha b hb e => ?_⟩
  obtain ⟨f, hf, rfl⟩ := List.mem_map.1 ha
  simp at hb
  exact hto f (hsub.subset hf) (e.trans hb)
 ·rcases List.mem_append.1 hf with hf | hf <;> rcases List.mem_append.1 hg with hg | hg
  ·exact h.far f (hsub.subset hf) g (hsub.subset hg) x hx hy
  ·rw [List.mem_singleton.1 hg] at hy ⊢
   exact h.far f (hsub.subset hf) f0 hf0 x hx hy
  ·rw [List.mem_singleton.1 hf] at hx ⊢
   exact h.far f0 hf0 g (hsub.subset hg) x hx hy
  ·rw [List.mem_singleton.1 hf, List.mem_singleton.1 hg]
 ·rcases List.mem_append.1 hf with hf | hf
  ·exact o3 f (hsub.subset hf)
  ·rw [List.mem_singleton.1 hf]
   exact o3 f0 hf0
 ·obtain ⟨f, hf, e⟩ := h.inn p hp
  by_cases hn : f.nm = f0.nm
  ·have : f = f0 := h.uniqN hf hf0 hn
   exact ⟨_, List.mem_append_right _ List.mem_cons_self, by rw [<- e, this]⟩
  ·exact ⟨f, List.mem_append_left _ (Zhy.2 ⟨hf, hn⟩), e⟩
end
section
variable {σ : St} {bb mb : Nat} {S : Nat -> Prop} {fs : List Fl} {pcs : List (Nat × Nat)} {size : Int} {pv : AV} {K : AV -> St -> Prop}
theorem ZvF (h : DAt σ bb S fs pcs size mb pv) (hl : pcs.length <= 1000000000) {f0 : Fl} (hf0 : f0 ∈ fs) (hK : ∀ τ pv', DAt τ bb S (ZkA f0.nm fs) (pcs.filter fun p => !decide (p.1 = f0.b)) size mb pv' -> But S σ τ -> K (.tup []) τ) : Zal Tryz.prog 164 [ptr bb 0, .raw (sV f0.nm), ptr f0.b 0] σ K := by
 refine Zas ZaH Tryz.func164 rfl rfl rfl (Nat.le_of_ble_eq_true rfl) ?_
 refine Zqw 0 1 2 (v0 := ptr bb 0) (v1 := .raw (sV f0.nm)) (v2 := ptr f0.b 0) rfl rfl rfl ?_
 intro e he
 repeat refine Zab ?_
 first|refine Zaa ?_|refine Zac ?_
 refine Zah ?_
 refine Zad ?_
 refine ZaF (v := ptr bb 0) rfl rfl ?_
 refine Zad ?_
 refine Zai (b := bb) (o := 0) rfl Zcu rfl ?_
 refine Zah ?_
 refine ZaK [ptr bb 0, ptr f0.b 0] ?_
 refine Zvq h hl hf0 fun τ pv' h1 hB1 => ?_
 refine Zae ?_
 refine kp2 0 1 ?_
 clear he e
 intro e he
 refine Zac ?_
 refine Zah ?_
 refine Zad ?_
 refine ZaF (v := ptr bb 0) rfl rfl ?_
 refine Zad ?_
 refine Zai (b := bb) (o := 0) rfl Zcu rfl ?_
 refine Zad ?_
 refine ZaC (b := bb) (o := 0 + 1) (r := ZgG mb) rfl h1.obj ZeK ZeJ rfl ?_
 refine Zah ?_
 refine Zad ?_
 refine ZpU (k := f0.nm) (es := Zbs fs) (b := mb) rfl rfl h1.map Zgv ZgS fun τ2 hm2 k2 => ?_
 refine Zae ?_
 refine ⟨_, Zhl rfl, hK τ2 pv' (h1.delF (fun p hp => ?_) k2 hm2) (hB1.trans (k2.sub fun c hc => by rw [hc]; exact h.own.2.1))⟩
 obtain ⟨f, hf, e⟩ := h1.inn p hp
 refine ⟨f, Zhy.2 ⟨hf, fun q => ?_⟩, e⟩
 have hp2 := (List.mem_filter.1 hp).2
 rw [h.uniqN hf hf0 q] at e
 simp [e] at hp2
end
def ZfA : List (List UInt8) -> List Fl -> List (Nat × Nat) -> List Fl × List (Nat × Nat) × Nat
 | [], fs, pcs => (fs, pcs, 0)
 | n :: ns, fs, pcs => match Zjk (Zbs fs) n with
  | none => (fs, pcs, 6)
  | some fb => ZfA ns (ZkA n fs) (pcs.filter fun p => !decide (p.1 = fb))
theorem ZvG {fs : List Fl} {n : List UInt8} {ns : List (List UInt8)} {pcs : List (Nat × Nat)} (h : Zjk (Zbs fs) n = none) : ZfA (n :: ns) fs pcs = (fs, pcs, 6) := by
 unfold ZfA
 rw [h]
theorem ZvH {fs : List Fl} {n : List UInt8} {ns : List (List UInt8)} {pcs : List (Nat × Nat)} {fb : Nat} (h : Zjk (Zbs fs) n = some fb) : ZfA (n :: ns) fs pcs = ZfA ns (ZkA n fs) (pcs.filter fun p => !decide (p.1 = fb)) := by
 conv => lhs; unfold ZfA
 rw [h]
theorem Zxz {fs : List Fl} {pcs : List (Nat × Nat)} : ZfA [] fs pcs = (fs, pcs, 0) := rfl
def rnP (fs : List Fl) (pcs : List (Nat × Nat)) (to : List UInt8) : List (Nat × Nat) := match Zjk (Zbs fs) to with
 | none => pcs
 | some ob => pcs.filter fun p => !decide (p.1 = ob)
def rnF (fs : List Fl) (f0 : Fl) (to : List UInt8) : List Fl := ZkA f0.nm (ZkA to fs) ++ [⟨to, f0.b, f0.v, f0.d⟩]
section
variable {σ : St} {bb mb : Nat} {S : Nat -> Prop} {fs : List Fl} {pcs : List (Nat × Nat)} {size : Int} {pv : AV} {K : AV -> St -> Prop}
theorem ZBD (h : DAt σ bb S fs pcs size mb pv) (hl : pcs.length <= 1000000000) {v : AV} {ns : List (List UInt8)} (hN : ZiS σ v ns) (hNS : ∀ c, hbk v = some c -> ¬ S c) (hnl : ns.length <= 1000000000)
 (hK : ∀ τ pv', DAt τ bb S (ZfA ns fs pcs).1 (ZfA ns fs pcs).2.1 size mb pv' -> But S σ τ -> K (vI (ZfA ns fs pcs).2.2) τ) : Zal Tryz.prog 104 [ptr bb 0, v] σ K := by
 refine Zas ZaH Tryz.func104 rfl rfl rfl (Nat.le_of_ble_eq_true rfl) ?_
 refine ZfJ 0 1 (v0 := ptr bb 0) (v1 := v) rfl rfl ?_
 intro e he
 repeat refine Zab ?_
 first|refine Zaa ?_|refine Zac ?_
 refine Zah ?_
 refine Zae ?_
 refine kp2 0 1 ?_
 clear he e
 intro e he
 repeat refine Zab ?_
 first|refine Zaa ?_|refine Zac ?_
 refine Zah ?_
 refine Zah ?_
 refine Zad ?_
 refine Zu8 (us := [ptr bb 0]) (vs := []) (by simp only [List.map_cons, List.map_nil, EV,Nat.reduceEqDiff,↓reduceIte,he];try rfl) rfl ?_
 refine Zah ?_
 refine ZaK [ptr bb 0, fnG 164 #[.pointer (some ⟨bb, 0, none⟩)] #[], v] ?_
 have hfin : ∀ (a : Nat) (τ : St), (∃ pv', DAt τ bb S (ZfA ns fs pcs).1 (ZfA ns fs pcs).2.1 size mb pv') -> But S σ τ -> a = (ZfA ns fs pcs).2.2 -> K (vI a) τ := fun a τ ⟨pv', q1⟩ q2 q3 => by
  rw [q3]; exact hK τ pv' q1 q2
 refine ZqY (fun i υ => ∃ fs' pcs' pv', DAt υ bb S fs' pcs' size mb pv' /\ pcs'.length <= 1000000000 /\ ZfA (ns.drop i) fs' pcs' = ZfA ns fs pcs /\ But S σ υ /\ ZiS υ v ns) h hN hnl ⟨fs, pcs, pv, h, hl, rfl, .refl _ _, hN⟩ (fun i hi υ => ?_) (fun υ => ?_)
 ·rintro ⟨fs', pcs', pv', g1, g2, g3, g4, g6⟩
  rw [List.drop_eq_getElem_cons hi] at g3
  refine ⟨S, fs', pcs', size, mb, pv', g1, g6, fun hg => ?_, fun fb hg => ?_⟩
  ·rw [ZvG hg] at g3
   refine Zah ?_
   refine Zae ?_
   refine ZaZ ?_
   refine ⟨_, ZeE rfl rfl, hfin 6 υ ⟨pv', ?_⟩ g4 ?_⟩
   ·rw [<- g3]; exact g1
   ·rw [<- g3]
  ·rw [ZvH hg] at g3
   obtain ⟨f0, hf0, hnm, rfl⟩ := Zfb hg
   show Zal Tryz.prog 164 [ptr bb 0, .raw (sV ns[i]), ptr f0.b 0] υ _
   rw [<- hnm] at g3 ⊢
   refine ZvF g1 g2 hf0 fun τ pv2 k1 k2 => ⟨_, _, pv2, k1, Nat.le_trans (List.length_filter_le _ _) g2, g3, g4.trans k2, g6.but k2 hNS⟩
 ·rintro ⟨fs', pcs', pv', g1, g2, g3, g4, g6⟩
  rw [List.drop_eq_nil_of_le (Nat.le_refl _), Zxz] at g3
  refine Zah ?_
  refine Zae ?_
  refine ZaZ ?_
  refine ⟨_, ZeE rfl rfl, hfin 0 υ ⟨pv', ?_⟩ g4 ?_⟩
  ·rw [<- g3]; exact g1
  ·rw [<- g3]
theorem ZzI {k to : List UInt8} {b2 b3 b4 : Nat} (h : DAt σ bb S fs pcs size mb pv) (hl : pcs.length <= 1000000000) {f0 : Fl} (hf0 : f0 ∈ fs) (hb2 : σ.blk b2 = some (.own 9 [.raw (sV f0.nm)])) (hb3 : σ.blk b3 = some (.own 9 [.raw (sV to)])) (hb4 : σ.blk b4 = some (.own 28 [ptr bb 0])) (hn2 : ¬ S b2) (hn3 : ¬ S b3) (hn4 : ¬ S b4)
 (hK1 : f0.nm = to -> K (.tup []) σ) (hK2 : f0.nm ≠ to -> ∀ τ pv', DAt τ bb S (rnF fs f0 to) (rnP fs pcs to) size mb pv' -> But S σ τ -> K (.tup []) τ) : Zal Tryz.prog 167 [.raw (sV k), ptr f0.b 0, ptr b2 0, ptr b3 0, ptr b4 0] σ K := by
 refine Zas ZaH Tryz.func167 rfl rfl rfl (Nat.le_of_ble_eq_true rfl) ?_
 refine ZA1 1 2 3 4 (v0 := ptr f0.b 0) (v1 := ptr b2 0) (v2 := ptr b3 0) (v3 := ptr b4 0) rfl rfl rfl rfl ?_
 intro e he
 repeat refine Zab ?_
 first|refine Zaa ?_|refine Zac ?_
 refine Zad ?_
 refine ZaC (b := b2) (o := 0) (r := .raw (sV f0.nm)) he.2.1 hb2 ZcQ ZbX rfl ?_
 refine Zad ?_
 refine ZaC (b := b3) (o := 0) (r := .raw (sV to)) he.2.2.1 hb3 ZcQ ZbX rfl ?_
 refine Zad ?_
 refine Zr1 (a := f0.nm) (c := to) ZgS rfl rfl ?_
 refine Zae ?_
 refine kp5 1 2 3 4 10 ?_
 clear he e
 intro e he
 refine ZaT (t := decide (f0.nm = to)) he.2.2.2.2 (fun hq => ?_) (fun hq => ?_)
 ·refine Zfo ?_
  exact ⟨_, Zhl rfl, hK1 (of_decide_eq_true hq)⟩
 have hq := of_decide_eq_false hq
 refine Za6 ?_
 refine Zds (fun env υ => (env 1 = ptr f0.b 0 /\ env 2 = ptr b2 0 /\ env 3 = ptr b3 0 /\ env 4 = ptr b4 0) /\ But S σ υ /\ ∃ pv', DAt υ bb S (ZkA to fs) (rnP fs pcs to) size mb pv') ?_ ?_
 ·refine Zjr ?_
  refine ⟨[0, 1, 2, 3, 4, 5, 6], [[], [0], [0, 1], [0, 1, 2], [], [0, 1, 2, 3, 4], [0, 1, 2, 3, 4, 5]], fun _ => True, [], [], [], by kernel_rfl, ?_⟩
  refine ZdI ?_
  refine ZaC (b := b4) (o := 0) (r := ptr bb 0) he.2.2.2.1 hb4 Zgh Zgi rfl ?_
  refine Zem ?_
  refine ZdI ?_
  refine ZaF (v := ptr bb 0) rfl rfl ?_
  refine Zem ?_
  refine ZdI ?_
  refine Zai (b := bb) (o := 0) rfl Zcu rfl ?_
  refine Zem ?_
  refine ZdI ?_
  refine ZaC (b := bb) (o := 0 + 1) (r := ZgG mb) rfl h.obj ZeK ZeJ rfl ?_
  refine Zem ?_
  refine ZdI ?_
  refine ZaC (b := b3) (o := 0) (r := .raw (sV to)) he.2.2.1 hb3 ZcQ ZbX rfl ?_
  refine Zem ?_
  refine ZdI ?_
  refine ZfL (k := to) (es := Zbs fs) (b := mb) rfl rfl h.map Zgv ZgS ZjK ?_
  refine Zem ?_
  refine ZgR ?_
  refine ZqR ?_
  refine kp5 1 2 3 4 7 ?_
  clear he e
  intro e he
  repeat refine Zab ?_
  first|refine Zaa ?_|refine Zac ?_
  refine Zah ?_
  cases hg : Zjk (Zbs fs) to with
  | none =>
   rw [hg] at he
   refine Zad ?_
   refine Ziy (p := none) ZgT rfl rfl rfl ?_
   refine Zae ?_
   refine ZcJ (t := false) rfl (fun hf => by cases hf) (fun _ => ?_)
   refine ZeD ?_
   refine ⟨rfl, ⟨by simp only [EV,Nat.reduceEqDiff,↓reduceIte,he];try rfl, by simp only [EV,Nat.reduceEqDiff,↓reduceIte,he];try rfl, by simp only [EV,Nat.reduceEqDiff,↓reduceIte,he];try rfl, by simp only [EV,Nat.reduceEqDiff,↓reduceIte,he];try rfl⟩, .refl _ _, pv, ?_⟩
   have e1 : rnP fs pcs to = pcs := by unfold rnP; rw [hg]
   rw [e1, ZpV (ZeL.1 hg)]
   exact h
  | some ob =>
   rw [hg] at he
   obtain ⟨g0, hg0, hgn, rfl⟩ := Zfb hg
   refine Zad ?_
   refine Ziy (p := some ⟨g0.b, 0, none⟩) ZgT rfl rfl rfl ?_
   refine Zae ?_
   refine kp6 1 2 3 4 7 18 ?_
   clear he e
   intro e he
   refine ZcJ (t := true) he.2.2.2.2.2 (fun _ => ?_) (fun hf => by cases hf)
   repeat refine Zab ?_
   first|refine Zaa ?_|refine Zac ?_
   refine Zad ?_
   refine ZaC (b := b4) (o := 0) (r := ptr bb 0) he.2.2.2.1 hb4 Zgh Zgi rfl ?_
   refine Zad ?_
   refine ZaC (b := b3) (o := 0) (r := .raw (sV to)) he.2.2.1 hb3 ZcQ ZbX rfl ?_
   refine Zah ?_
   refine ZaK [ptr bb 0, .raw (sV to), ptr g0.b 0] ?_
   rw [<- hgn]
   refine ZvF h hl hg0 fun τ pv' d1 d2 => ?_
   refine Zae ?_
   refine ⟨rfl, ⟨by simp only [EV,Nat.reduceEqDiff,↓reduceIte,he];try rfl, by simp only [EV,Nat.reduceEqDiff,↓reduceIte,he];try rfl, by simp only [EV,Nat.reduceEqDiff,↓reduceIte,he];try rfl, by simp only [EV,Nat.reduceEqDiff,↓reduceIte,he];try rfl⟩, d2, pv', ?_⟩
   have e1 : rnP fs pcs g0.nm = pcs.filter fun p => !decide (p.1 = g0.b) := by
    unfold rnP
    rw [hgn, hg]
   rw [e1]
   exact d1
 clear he e
 rintro e υ ⟨he, hB, pv', hd⟩
 have hb2' := hB.keep _ _ hn2 hb2
 have hb3' := hB.keep _ _ hn3 hb3
 have hb4' := hB.keep _ _ hn4 hb4
 refine Zjr ?_
 refine ⟨[0, 1, 2, 3, 4, 5], [[], [0], [0, 1], [0, 1, 2], [], [0, 1, 2, 3, 4]], fun _ => True, [], [], [], by kernel_rfl, ?_⟩
 refine ZdI ?_
 refine ZaC (b := b4) (o := 0) (r := ptr bb 0) he.2.2.2 hb4' Zgh Zgi rfl ?_
 refine Zem ?_
 refine ZdI ?_
 refine ZaF (v := ptr bb 0) rfl rfl ?_
 refine Zem ?_
 refine ZdI ?_
 refine Zai (b := bb) (o := 0) rfl Zcu rfl ?_
 refine Zem ?_
 refine ZdI ?_
 refine ZaC (b := bb) (o := 0 + 1) (r := ZgG mb) rfl hd.obj ZeK ZeJ rfl ?_
 refine Zem ?_
 refine ZdI ?_
 refine ZaC (b := b2) (o := 0) (r := .raw (sV f0.nm)) he.2.1 hb2' ZcQ ZbX rfl ?_
 refine Zem ?_
 refine ZdI ?_
 refine ZpU (k := f0.nm) (es := Zbs (ZkA to fs)) (b := mb) rfl rfl hd.map Zgv ZgS fun υ2 hm2 k2 => ?_
 refine ⟨(fun hf => by cases hf), ?_⟩
 refine ZqR ?_
 have hne : ∀ c t cs, υ.blk c = some (.own t cs) -> υ2.blk c = some (.own t cs) := fun c t cs hc => k2.keep _ _ (fun q => ZeN hc hd.map q) hc
 refine kp4 1 2 3 4 ?_
 clear he e
 intro e he
 refine Zrx ?_
 refine ⟨[5, 0, 1, 2, 3, 4, 6], [[], [0], [0, 1], [0, 1, 2], [], [], [0, 1, 2, 3, 4, 5]], fun _ => True, [], [], [], by kernel_rfl, ?_⟩
 refine ZgR ?_
 refine ZdI ?_
 refine ZaC (b := b4) (o := 0) (r := ptr bb 0) he.2.2.2 (hne _ _ _ hb4') Zgh Zgi rfl ?_
 refine Zem ?_
 refine ZdI ?_
 refine ZaF (v := ptr bb 0) rfl rfl ?_
 refine Zem ?_
 refine ZdI ?_
 refine Zai (b := bb) (o := 0) rfl Zcu rfl ?_
 refine Zem ?_
 refine ZdI ?_
 refine ZaC (b := bb) (o := 0 + 1) (r := ZgG mb) rfl (hne _ _ _ hd.obj) ZeK ZeJ rfl ?_
 refine Zem ?_
 refine ZdI ?_
 refine ZaC (b := b3) (o := 0) (r := .raw (sV to)) he.2.2.1 (hne _ _ _ hb3') ZcQ ZbX rfl ?_
 refine Zem ?_
 refine ZdI ?_
 refine Zps (k := to) (n := f0.b) (es := ZuW (Zbs (ZkA to fs)) f0.nm) (b := mb) rfl rfl rfl hm2 Zgv ZgS fun υ3 hm3 k3 => ?_
 refine ⟨(fun hf => by cases hf), ?_⟩
 refine ZqR ?_
 have hf0' : f0 ∈ ZkA to fs := Zhy.2 ⟨hf0, hq⟩
 exact ⟨_, Zhl rfl, hK2 hq υ3 pv' (hd.movF hf0' (fun f hf => (Zhy.1 hf).2) (k2.trans k3) hm3) (hB.trans ((k2.trans k3).sub fun c hc => by rw [hc]; exact h.own.2.1))⟩
end
section
variable {σ : St} {bb mb : Nat} {S : Nat -> Prop} {fs : List Fl} {pcs : List (Nat × Nat)} {size : Int} {pv : AV} {K : AV -> St -> Prop}
theorem ZBE {fr to : List UInt8} (h : DAt σ bb S fs pcs size mb pv) (hS : ∀ c, S c -> σ.used c) (hl : pcs.length <= 1000000000)
 (hK2 : (∃ f ∈ fs, f.nm = fr) -> ¬ (to ≠ [] /\ to.length <= 40) -> ∀ τ, Ext σ τ -> K (vI 2) τ)
 (hK6 : (∀ f ∈ fs, f.nm ≠ fr) -> ∀ τ, Ext σ τ -> K (vI 6) τ)
 (hKs : ∀ f0 ∈ fs, f0.nm = fr -> fr = to -> (to ≠ [] /\ to.length <= 40) -> ∀ τ, Ext σ τ -> K (vI 0) τ)
 (hK0 : ∀ f0 ∈ fs, f0.nm = fr -> fr ≠ to -> (to ≠ [] /\ to.length <= 40) -> ∀ τ pv', DAt τ bb S (rnF fs f0 to) (rnP fs pcs to) size mb pv' -> But S σ τ -> K (vI 0) τ) : Zal Tryz.prog 110 [ptr bb 0, .raw (sV fr), .raw (sV to)] σ K := by
 refine Zas ZaH Tryz.func110 rfl rfl rfl (Nat.le_of_ble_eq_true rfl) ?_
 refine Zqw 0 1 2 (v0 := ptr bb 0) (v1 := .raw (sV fr)) (v2 := .raw (sV to)) rfl rfl rfl ?_
 intro e he
 repeat refine Zab ?_
 first|refine Zaa ?_|refine Zac ?_
 refine Zad ?_
 refine Zjs (cs := [ptr bb 0]) (v := ptr bb 0) he.1 rfl fun b3 σ1 hn3 hu3 hb3 hub3 hX1 => ?_
 refine Zad ?_
 refine Zjs (cs := [.raw (sV fr)]) (v := .raw (sV fr)) he.2.1 rfl fun b4 σ2 hn4 hu4 hb4 hub4 hX2 => ?_
 refine Zad ?_
 refine Zjs (cs := [.raw (sV to)]) (v := .raw (sV to)) he.2.2 rfl fun b5 σ3 hn5 hu5 hb5 hub5 hX3 => ?_
 refine Zah ?_
 refine Zae ?_
 have hE3 := (hX1.trans hX2).trans hX3
 have h3 := h.ext hE3
 have h3S : ¬ S b3 := fun q => hu3 (hS _ q)
 have h4S : ¬ S b4 := fun q => hu4 (hX1.used _ (hS _ q))
 have h5S : ¬ S b5 := fun q => hu5 (hX2.used _ (hX1.used _ (hS _ q)))
 have hb33 := hX3.keep _ _ (hX2.keep _ _ hb3)
 have hb43 := hX3.keep _ _ hb4
 refine kp3 3 4 5 ?_
 clear he e
 intro e he
 refine Zab ?_
 refine Zds (fun env υ => ∃ b : Bool, (env 3 = ptr b3 0 /\ env 4 = ptr b4 0 /\ env 5 = ptr b5 0 /\ env 22 = vT b) /\ Ext σ3 υ /\ (b = true -> (∃ f ∈ fs, f.nm = fr) /\ ¬ (to ≠ [] /\ to.length <= 40)) /\ (b = false -> (∃ f ∈ fs, f.nm = fr) -> (to ≠ [] /\ to.length <= 40))) ?_ ?_
 ·refine Zrx ?_
  refine ⟨[0, 1, 2, 3, 4, 5, 6, 7, 8, 9, 10, 11, 12, 13, 14, 15], [[], [0], [0, 1], [0, 1, 2], [0, 1, 2, 3], [0, 1, 2, 3, 4], [0, 1, 2, 3, 4, 5], [0, 1, 2], [0, 1, 2, 3, 4, 5, 6, 7], [0, 1, 2, 3, 4, 5, 6, 7, 8], [0, 1, 2, 3, 4, 5, 6, 7, 8, 9], [0, 1, 2, 3, 4, 5, 6, 7, 8, 9, 10], [0, 1, 2, 3, 4, 5, 6, 7, 8, 9, 10, 11], [0, 1, 2, 3, 4, 5, 6, 7, 8, 9, 10, 11, 12], [0, 1, 2, 3, 4, 5, 6, 7, 8, 9, 10, 11, 12, 13], [0, 1, 2, 3, 4, 5, 6, 7, 8, 9, 10, 11, 12, 13, 14]], fun _ => True, [], [], [], by kernel_rfl, ?_⟩
  refine ZdI ?_
  refine ZaC (b := b3) (o := 0) (r := ptr bb 0) he.1 hb33 Zgh Zgi rfl ?_
  refine Zem ?_
  refine ZdI ?_
  refine Zgt (vs := [ptr bb 0]) (by simp only [List.map_cons, List.map_nil, EV,Nat.reduceEqDiff,↓reduceIte,he];try rfl) ?_
  refine ZiR h3 ?_
  refine Zem ?_
  refine ZgR ?_
  refine ZdI ?_
  refine ZaC (b := b3) (o := 0) (r := ptr bb 0) he.1 hb33 Zgh Zgi rfl ?_
  refine Zem ?_
  refine ZdI ?_
  refine ZaF (v := ptr bb 0) rfl rfl ?_
  refine Zem ?_
  refine ZdI ?_
  refine Zai (b := bb) (o := 0) rfl Zcu rfl ?_
  refine Zem ?_
  refine ZdI ?_
  refine ZaC (b := bb) (o := 0 + 1) (r := ZgG mb) rfl h3.obj ZeK ZeJ rfl ?_
  refine Zem ?_
  refine ZdI ?_
  refine ZaC (b := b4) (o := 0) (r := .raw (sV fr)) he.2.1 hb43 ZcQ ZbX rfl ?_
  refine Zem ?_
  refine ZdI ?_
  refine ZfL (k := fr) (es := Zbs fs) (b := mb) rfl rfl h3.map Zgv ZgS ZjK ?_
  refine Zem ?_
  cases hg : Zjk (Zbs fs) fr with
  | none =>
   refine ZdI ?_
   refine Ziy (p := none) ZgT rfl rfl rfl ?_
   refine Zem ?_
   refine ZdI ?_
   refine Zbb (v := vT false) rfl rfl ?_
   refine Zem ?_
   refine ZgR ?_
   refine ZuZ ?_
   refine ZuZ ?_
   refine ZuZ ?_
   refine ZdI ?_
   refine ZbR (v := vT false) rfl rfl ?_
   refine Zem ?_
   refine ZqR ?_
   refine ⟨rfl, false, ⟨by simp only [EV,Nat.reduceEqDiff,↓reduceIte,he];try rfl, by simp only [EV,Nat.reduceEqDiff,↓reduceIte,he];try rfl, by simp only [EV,Nat.reduceEqDiff,↓reduceIte,he];try rfl, by simp only [EV,Nat.reduceEqDiff,↓reduceIte,he];try rfl⟩, .refl _, (fun q => by cases q), fun _ ⟨f, hf, hn⟩ => absurd hn (ZeL.1 hg f hf)⟩
  | some fb =>
   obtain ⟨f0, hf0, hnm, rfl⟩ := Zfb hg
   refine ZdI ?_
   refine Ziy (p := some ⟨f0.b, 0, none⟩) ZgT rfl rfl rfl ?_
   refine Zem ?_
   refine ZdI ?_
   refine Zbb (v := vT true) rfl rfl ?_
   refine Zem ?_
   refine ZgR ?_
   refine ZdI ?_
   refine ZaC (b := b5) (o := 0) (r := .raw (sV to)) he.2.2 hb5 ZcQ ZbX rfl ?_
   refine Zem ?_
   refine ZdI ?_
   refine Zgt (vs := [.raw (sV to)]) (by simp only [List.map_cons, List.map_nil, EV,Nat.reduceEqDiff,↓reduceIte,he];try rfl) ?_
   refine Zr8 _ fun υ hX => ?_
   refine ⟨(fun hf => by cases hf), ?_⟩
   refine ZdI ?_
   refine ZrX rfl ?_
   refine Zem ?_
   refine ZdI ?_
   refine Zbb (v := vT (!decide (to ≠ [] /\ to.length <= 40))) rfl rfl ?_
   refine Zem ?_
   refine ZqR ?_
   refine ⟨rfl, !decide (to ≠ [] /\ to.length <= 40), ⟨by simp only [EV,Nat.reduceEqDiff,↓reduceIte,he];try rfl, by simp only [EV,Nat.reduceEqDiff,↓reduceIte,he];try rfl, by simp only [EV,Nat.reduceEqDiff,↓reduceIte,he];try rfl, by simp only [EV,Nat.reduceEqDiff,↓reduceIte,he];try rfl⟩, hX, fun q => ⟨⟨f0, hf0, hnm⟩, ?_⟩, fun q _ => ?_⟩
   ·rw [Bool.not_eq_true'] at q
    exact of_decide_eq_false q
   ·rw [Bool.not_eq_false'] at q
    exact of_decide_eq_true q
 clear he e
 rintro e υ ⟨b, he, hX, g1, g2⟩
 refine ZaT (t := b) he.2.2.2 (fun hb => ?_) (fun hb => ?_)
 ·repeat refine Zab ?_
  first|refine Zaa ?_|refine Zac ?_
  refine Zah ?_
  refine Zae ?_
  refine Zfo ?_
  obtain ⟨q1, q2⟩ := g1 hb
  exact ZbW (hK2 q1 q2 υ (hE3.trans hX))
 have g2 := g2 hb
 refine Za6 ?_
 have hE := hE3.trans hX
 have hb3' := hX.keep _ _ hb33
 have hb4' := hX.keep _ _ hb43
 have hb5' := hX.keep _ _ hb5
 repeat refine Zab ?_
 first|refine Zaa ?_|refine Zac ?_
 refine Zad ?_
 refine ZaC (b := b3) (o := 0) (r := ptr bb 0) he.1 hb3' Zgh Zgi rfl ?_
 refine Zad ?_
 refine Zhs (vs := [ptr b4 0, ptr b5 0, ptr b3 0]) (by simp only [List.map_cons, List.map_nil, EV,Nat.reduceEqDiff,↓reduceIte,he];try rfl) ?_
 refine Zad ?_
 refine ZaC (b := b4) (o := 0) (r := .raw (sV fr)) he.2.1 hb4' ZcQ ZbX rfl ?_
 refine Zad ?_
 refine Zif (vs := [.raw (sV fr)]) (cells := [.raw (sV fr)]) (by simp only [List.map_cons, List.map_nil, EV,Nat.reduceEqDiff,↓reduceIte,he];try rfl) ZjI ZbX Zoj rfl (by omega) rfl rfl fun b26 υ5 hN5 hX5 => ?_
 have hE5 := hE.trans hX5
 have h5 := h.ext hE5
 have hNm : ∀ υ, ZiS υ (.lst (some ⟨b26, 0, none⟩) 1 1 [.raw (sV fr)]) [fr] := fun υ => .inl ⟨some ⟨b26, 0, none⟩, 1, [], rfl, fun q => (by cases q)⟩
 refine ZaK [ptr bb 0, fnG 167 #[] #[.pointer (some ⟨b4, 0, none⟩), .pointer (some ⟨b5, 0, none⟩), .pointer (some ⟨b3, 0, none⟩)], .lst (some ⟨b26, 0, none⟩) 1 1 [.raw (sV fr)]] ?_
 refine ZqY (ns := [fr]) (fun i τ => match i with
  | 0 => τ = υ5
  | _ => K (vI 0) τ) h5 (hNm _) (by simp) rfl (fun i hi τ hI => ?_) (fun τ hI => ?_)
 ·obtain rfl : i = 0 := by simp at hi; exact hi
  have hI : τ = υ5 := hI
  subst hI
  refine ⟨S, fs, pcs, size, mb, pv, h5, hNm _, fun hg => ?_, fun fb hg => ?_⟩
  ·refine Zah ?_
   refine Zae ?_
   refine ZaZ ?_
   exact ZbW (hK6 (ZeL.1 hg) _ hE5)
  ·obtain ⟨f0, hf0, hnm, rfl⟩ := Zfb hg
   have hnm : f0.nm = fr := hnm
   refine ZzI (to := to) h5 hl hf0 (by rw [hnm]; exact hX5.keep _ _ hb4') (hX5.keep _ _ hb5') (hX5.keep _ _ hb3') h4S h5S h3S (fun q => ?_) fun q τ2 pv' d1 d2 => ?_
   ·exact hKs f0 hf0 hnm (hnm ▸ q) (g2 ⟨f0, hf0, hnm⟩) _ hE5
   ·exact hK0 f0 hf0 hnm (hnm ▸ q) (g2 ⟨f0, hf0, hnm⟩) τ2 pv' d1 (hE5.but.trans d2)
 ·refine Zah ?_
  refine Zae ?_
  refine ZaZ ?_
  exact ZbW (hI)
end
section
variable {P : Program} {ops : Array Oper} {d : Option Nat} {ty ty' : TypeId} {pos : String} {af : Array Edge} {env : Env} {σ : St} {K : Env -> St -> Prop} {x y : Operand} {t : TypeId}
theorem Zol {a c : List UInt8} (hl : a.length + c.length <= 1000000000) (hx : ev env x = .raw (sV a)) (hy : ev env y = .raw (sV c)) (h : K (env.put d (.raw (sV (a ++ c)))) σ) : aOp P ops ⟨d, .binOp .add t x y ty', ty, pos, af, none⟩ env σ K :=
 Zf9 hx hy (fun w _ _ => by
  rw [AV.val_raw, AV.val_raw]
  have hs : (ByteArray.mk a.toArray).size + (ByteArray.mk c.toArray).size <= 9223372036854775807 := by
   show a.toArray.size + c.toArray.size <= (9223372036854775807 : Nat)
   simp only [List.size_toArray]
   omega
  rw [eqGuard_at_string, pure_bind, binOp_string_add, run_string_add_sum w _ _ hs, ByteArray.mk_append_mk]) h
end
theorem ZBF : Program.underlying Tryz.prog 28 = some (.pointer (Program.pointee Tryz.prog 28)) := by kernel_rfl
theorem Zmf : ZaS Tryz.prog 96 = some (.agg #[.pointer none, .string ⟨#[]⟩]) := by kernel_rfl
theorem ZzJ : ZbS Tryz.prog 96 = some [(0, 1), (1, 1)] := by kernel_rfl
theorem Zj2 : Zav Tryz.prog 96 = some 2 := by kernel_rfl
theorem ZvI : Ze0 Tryz.prog 96 = some true := by kernel_rfl
theorem ZfB : Zba Tryz.prog 96 = some [(0, some 1, some false), (1, some 1, some false)] := by kernel_rfl
theorem Zj3 : Ze0 Tryz.prog 28 = some false := by kernel_rfl
theorem Zj4 : Zav Tryz.prog 28 = some 1 := by kernel_rfl
def ZcV (g : Nat) : List UInt8 := [105, 109, 97, 103, 101, 46] ++ Go.Lib.decDigits g
section
variable {σ τ : St} {bb mb : Nat} {S : Nat -> Prop} {fs : List Fl} {pcs : List (Nat × Nat)} {size : Int} {pv : AV} {K : AV -> St -> Prop}
theorem ZvJ {i : Nat} (hi : i < 100) (hK : K (.raw (sV (Go.Lib.decDigits i))) σ) : Zal Tryz.prog 86 [vI i] σ K := by
 intro w Z hH hV
 refine .inl ⟨by kernel_rfl, ?_⟩
 refine Calls.mono (Tryz.strconv_Itoa_small i hi w) ?_
 rintro e w' ⟨rfl, rfl⟩
 exact ⟨.raw (sV _), σ, rfl, hK, hH, ZaL _, Grow.refl _ _⟩
set_option maxHeartbeats 1000000 in
theorem ZzK {bb g : Nat} (hg : g <= 4) (hd : (Go.Lib.decDigits g).length <= 100) (hK : ∀ τ, Ext σ τ -> K (.tup [.agg [ptr bb 0, .raw (sV (ZcV g))], vI 0]) τ) : Zal Tryz.prog 43 [ptr bb 0, vI g] σ K := by
 refine Zas ZaH Tryz.func43 rfl rfl rfl (Nat.le_of_ble_eq_true rfl) ?_
 refine ZfJ 0 1 (v0 := ptr bb 0) (v1 := vI g) rfl rfl ?_
 have h4 : decide ((4 : Int) < (g : Int)) = false := decide_eq_false (by omega)
 have h0 : decide ((g : Int) < 0) = false := decide_eq_false (by omega)
 intro e he
 repeat refine Zab ?_
 first|refine Zaa ?_|refine Zac ?_
 refine Zad ?_
 refine Zck Zmf rfl fun b υ hn hu hb hub hX => ?_
 refine Zah ?_
 refine Zae ?_
 refine kp3 0 1 4 ?_
 clear he e
 intro e he
 refine Zb7 ?_ -- block 0
 repeat refine Zab ?_
 first|refine Zaa ?_|refine Zac ?_
 refine Zah ?_
 refine Zad ?_
 refine Zga (p := some ⟨bb, 0, none⟩) ZBF rfl rfl rfl ?_
 refine Zah ?_
 refine Zae ?_
 refine kp4 0 1 4 6 ?_
 clear he e
 intro e he
 refine ZcJ (t := false) he.2.2.2 (fun ht => by cases ht) (fun ht => ?_)
 repeat refine Zab ?_
 first|refine Zaa ?_|refine Zac ?_
 refine Zah ?_
 refine Zad ?_
 refine ZsS (k := .i64) (a := (g : Int)) (b := 0) rfl rfl ?_
 refine Zah ?_
 refine Zcn ?_
 refine ZjE rfl he.2.1 ?_
 refine Zcn ?_
 refine ZnH (k := .i64) (a := (g : Int)) (b := 4) rfl rfl ?_
 refine Zad ?_
 refine ZbR (v := vT false) rfl (by simp only [EV,Nat.reduceEqDiff,↓reduceIte,he, h4]; rfl) ?_
 refine Zah ?_
 refine Zae ?_
 refine kp4 0 1 4 10 ?_
 clear he e
 intro e he
 refine ZcJ (t := false) he.2.2.2 (fun ht => by cases ht) (fun ht => ?_)
 refine Za6 ?_
 repeat refine Zab ?_
 first|refine Zaa ?_|refine Zac ?_
 refine Zah ?_
 refine Zah ?_
 refine ZaK [vI g] ?_
 refine ZvJ (by omega) ?_
 refine Zad ?_
 refine Zol (a := [105, 109, 97, 103, 101, 46]) (c := Go.Lib.decDigits g) (by simp; omega) rfl rfl ?_
 refine Zad ?_
 refine ZcI (vs := [ptr bb 0, .raw (sV (ZcV g))]) (cells := [ptr bb 0, .raw (sV (ZcV g))]) (by simp only [List.map_cons, List.map_nil, EV,Nat.reduceEqDiff,↓reduceIte,he]; try rfl) Zmf ZzJ rfl ?_
 refine Zad ?_
 refine Zbn (b := b) (o := 0) (u := .agg [ptr bb 0, .raw (sV (ZcV g))]) he.2.2.1 rfl hb Zj2 rfl rfl fun υ2 hb2 k2 => ?_
 refine Zah ?_
 refine Zae ?_
 refine kp2 4 5 ?_
 clear he e
 intro e he
 refine ZaZ ?_
 exact Zix rfl (ZbF he.1 hb2 ZvI Zj2 rfl) (Za4 he.2) (hK υ2 (But.ext hX (fun g hg => by rw [hg]; exact hn) k2))
theorem ZxA {k nm : List UInt8} {b0 b1 : Nat} (h : DAt σ bb S fs pcs size mb pv) (hS : ∀ c, S c -> σ.used c) (hl : pcs.length <= 1000000000) (hb0 : σ.blk b0 = some (.own 96 [ptr bb 0, .raw (sV nm)])) (hb1 : σ.blk b1 = some (.own 9 [.raw (sV k)]))
 (hnm : nm ≠ [] /\ nm.length <= 40) (hne : k ≠ nm) {f0 : Fl} (hf0 : f0 ∈ fs) (hk : f0.nm = k) (hK : ∀ τ pv', DAt τ bb S (rnF fs f0 nm) (rnP fs pcs nm) size mb pv' -> But S σ τ -> K (vI 0) τ) : Zal Tryz.prog 109 [ptr b0 0, ptr b1 0] σ K := by
 refine Zas ZaH Tryz.func109 rfl rfl rfl (Nat.le_of_ble_eq_true rfl) ?_
 refine ZfJ 0 1 (v0 := ptr b0 0) (v1 := ptr b1 0) rfl rfl ?_
 intro e he
 repeat refine Zab ?_
 first|refine Zaa ?_|refine Zac ?_
 refine Zah ?_
 refine Zae ?_
 refine kp2 0 1 ?_
 clear he e
 intro e he
 repeat refine Zab ?_
 first|refine Zaa ?_|refine Zac ?_
 refine Zad ?_
 refine Zai (b := b0) (o := 0) he.1 ZfB rfl ?_
 refine Zad ?_
 refine ZaC (b := b0) (o := 0) (r := ptr bb 0) rfl hb0 Zj3 Zj4 rfl ?_
 refine Zad ?_
 refine ZaC (b := b1) (o := 0) (r := .raw (sV k)) he.2 hb1 ZcQ ZbX rfl ?_
 refine Zad ?_
 refine Zai (b := b0) (o := 0) he.1 ZfB rfl ?_
 refine Zad ?_
 refine ZaC (b := b0) (o := 0 + 1) (r := .raw (sV nm)) rfl hb0 ZcQ ZbX rfl ?_
 refine ZaK [ptr bb 0, .raw (sV k), .raw (sV nm)] ?_
 refine ZBE h hS hl (fun _ hx => absurd hnm hx) (fun hx => absurd hk (hx f0 hf0)) (fun f hf e1 e2 => absurd e2 hne) fun f hf e1 _ _ υ pv' h2 k2 => ?_
 obtain rfl : f = f0 := h.uniqN hf hf0 (e1.trans hk.symm)
 refine Zah ?_
 refine Zae ?_
 refine kp1 2 ?_
 clear he e
 intro e he
 refine ZaZ ?_
 exact ZbW (hK υ pv' h2 k2)
theorem ZyD {σ : St} {b : Nat} {k : List UInt8} : ZiS σ (.lst (some ⟨b, 0, none⟩) 1 1 [.raw (sV k)]) [k] := .inl ⟨some ⟨b, 0, none⟩, 1, [], rfl, fun q => (by cases q)⟩
theorem ZxB {k nm : List UInt8} {b0 b1 : Nat} (h : DAt σ bb S fs pcs size mb pv) (hS : ∀ c, S c -> σ.used c) (hl : pcs.length <= 1000000000) (hb0 : σ.blk b0 = some (.own 96 [ptr bb 0, .raw (sV nm)])) (hb1 : σ.blk b1 = some (.own 9 [.raw (sV k)]))
 (hK : ∀ τ pv', DAt τ bb S fs (ZeP fs [k] pcs).1 size mb pv' -> But S σ τ -> K (vI (ZeP fs [k] pcs).2) τ) : Zal Tryz.prog 107 [ptr b0 0, ptr b1 0] σ K := by
 refine Zas ZaH Tryz.func107 rfl rfl rfl (Nat.le_of_ble_eq_true rfl) ?_
 refine ZfJ 0 1 (v0 := ptr b0 0) (v1 := ptr b1 0) rfl rfl ?_
 intro e he
 repeat refine Zab ?_
 first|refine Zaa ?_|refine Zac ?_
 refine Zah ?_
 refine Zae ?_
 refine kp2 0 1 ?_
 clear he e
 intro e he
 repeat refine Zab ?_
 first|refine Zaa ?_|refine Zac ?_
 refine Zad ?_
 refine Zai (b := b0) (o := 0) he.1 ZfB rfl ?_
 refine Zad ?_
 refine ZaC (b := b0) (o := 0) (r := ptr bb 0) rfl hb0 Zj3 Zj4 rfl ?_
 refine Zad ?_
 refine ZaC (b := b1) (o := 0) (r := .raw (sV k)) he.2 hb1 ZcQ ZbX rfl ?_
 refine Zad ?_
 refine Zif (vs := [.raw (sV k)]) (cells := [.raw (sV k)]) (by simp only [List.map_cons, List.map_nil, EV,Nat.reduceEqDiff,↓reduceIte,he]; try rfl) ZjI ZbX Zoj rfl (by omega) rfl rfl fun rb σ2 hN2 hX2 => ?_
 refine ZaK [ptr bb 0, .lst (some ⟨rb, 0, none⟩) 1 1 [.raw (sV k)]] ?_
 have h2 := h.but (U := fun _ => False) hX2.but fun b hb hf => hf
 refine ZzC h2 (fun c hc => hX2.used _ (hS c hc)) hl ZyD (fun c hc => by cases hc) (by simp) fun υ pv' h3 k3 => ?_
 refine Zah ?_
 refine Zae ?_
 refine kp1 2 ?_
 clear he e
 intro e he
 refine ZaZ ?_
 exact ZbW (hK υ pv' h3 ⟨fun c k hc hk => k3.keep _ _ hc (hX2.keep _ _ hk), fun c hc => k3.used _ (hX2.used _ hc)⟩)
theorem Zom : Zar Tryz.prog 240 = some 114 := by kernel_rfl
theorem Zq4 : Zav Tryz.prog 114 = some 1 := by kernel_rfl
theorem ZzL : Ze0 Tryz.prog 114 = some false := by kernel_rfl
def fnL (l : List (FuncId × Array Value)) : List AV := l.map fun p => .raw (.func (.func p.1) #[] p.2)
set_option maxHeartbeats 1000000 in
theorem ZBG {l : List (FuncId × Array Value)} {A : Option Addr} {c : Nat} (I : Nat -> St -> Prop) (hA : A = none -> l.length = 0) (hl : l.length <= 1000) (h0 : I 0 σ)
 (hstep : ∀ i (hi : i < l.length) υ, I i υ -> Zal Tryz.prog (l[i]).1 ((l[i]).2.toList.map .raw) υ fun r τ => ∃ n : Int, r = vI n /\ (n = 0 -> I (i + 1) τ) /\ (n ≠ 0 -> K (vI n) τ))
 (hend : ∀ υ, I l.length υ -> K (vI 0) υ) : Zal Tryz.prog 105 [.lst A l.length c (fnL l)] σ K := by
 refine Zas ZaH Tryz.func105 rfl rfl rfl (Nat.le_of_ble_eq_true rfl) ?_
 refine ZmD 0 (v0 := .lst A l.length c (fnL l)) rfl ?_
 intro e he
 repeat refine Zab ?_
 first|refine Zaa ?_|refine Zac ?_
 refine Zah ?_
 refine Zae ?_
 refine kp1 0 ?_
 clear he e
 intro e he
 repeat refine Zab ?_
 first|refine Zaa ?_|refine Zac ?_
 refine Zah ?_
 refine Zad ?_
 refine Zfa (A := A) (n := l.length) (c := c) rfl rfl rfl Zom ?_
 refine Zah ?_
 refine Zae ?_
 refine kp3 6 7 8 ?_
 clear he e
 intro e he
 refine Zb7 ?_
 refine Zdn (fun μ env υ => ∃ i : Nat, μ = l.length - i /\ i <= l.length /\ (env 6 = .lst A l.length c (fnL l) /\ env 7 = vI l.length /\ env 8 = vI i) /\ I i υ) ⟨_, 0, rfl, Nat.zero_le _, he, h0⟩ ?_
 clear he e
 rintro _ e υ ⟨i, rfl, hi, he, hI⟩
 repeat refine Zab ?_
 first|refine Zaa ?_|refine Zac ?_
 refine ZjG i l.length ?_
 refine Zae ?_
 refine kp4 6 7 8 9 ?_
 clear he e
 intro e he
 refine ZaT (t := decide (i < l.length)) he.2.2.2 (fun ht => ?_) (fun ht => ?_)
 ·have hlt : i < l.length := of_decide_eq_true ht
  refine Za6 ?_
  refine Zb7 ?_
  repeat refine Zab ?_
  first|refine Zaa ?_|refine Zac ?_
  refine Zad ?_
  refine Zc1 (k := .i64) (j := i) he.1 he.2.2.1 Zom Zq4 hlt hA rfl fun ad => ?_
  refine Zad ?_
  refine Zdo (r := .raw (.func (.func (l[i]).1) #[] (l[i]).2)) rfl ZzL Zq4 (by
   show ((fnL l).drop (i * 1))[0]? = _
   rw [List.getElem?_drop, Nat.mul_one, Nat.add_zero]
   simp [fnL, hlt]) ?_
  refine Zah ?_
  refine Zae ?_
  refine kp4 4 6 7 8 ?_
  clear he e
  intro e he
  repeat refine Zab ?_
  first|refine Zaa ?_|refine Zac ?_
  refine Zah ?_
  refine Zad ?_
  refine ZqX (g := (l[i]).1) (caps := (l[i]).2) (vs := []) rfl rfl ?_
  refine (hstep i hlt υ hI).mono fun a τ hn => ?_
  obtain ⟨n, rfl, hz, hk⟩ := hn
  refine Zah ?_
  refine Zae ?_
  refine kp4 5 6 7 8 ?_
  clear he e
  intro e he
  repeat refine Zab ?_
  first|refine Zaa ?_|refine Zac ?_
  refine Zah ?_
  refine Zad ?_
  refine Zjq (k := .i64) (a := n) (b := 0) rfl rfl ?_
  refine Zae ?_
  refine kp5 5 6 7 8 15 ?_
  clear he e
  intro e he
  refine ZcJ (t := decide (n ≠ 0)) he.2.2.2.2 (fun ht => ?_) (fun ht => ?_)
  ·repeat refine Zab ?_
   first|refine Zaa ?_|refine Zac ?_
   refine Zah ?_
   refine Zah ?_
   refine Zae ?_
   refine kp1 2 ?_
   clear he e
   intro e he
   refine Zfo ?_
   exact ZbW (hk (of_decide_eq_true ht))
  ·refine ZeD ?_
   show ZaJ _ _ _ _ _ _
   refine Zac ?_
   refine ZfM i 1 ?_
   refine Zah ?_
   refine Zae ?_
   show ∃ n', n' < _ /\ _
   exact ⟨_, (by omega : l.length - (i + 1) < l.length - i), i + 1, rfl, hlt, ⟨by simp only [EV,Nat.reduceEqDiff,↓reduceIte,he];try rfl, by simp only [EV,Nat.reduceEqDiff,↓reduceIte,he];try rfl, by simp only [EV,Nat.reduceEqDiff,↓reduceIte,he];try rfl⟩, hz (Decidable.byContradiction fun hne => by simp [hne] at ht)⟩
 ·have hke : i = l.length := by have := of_decide_eq_false ht; omega
  subst hke
  refine Ze5 ?_
  show ZaJ _ _ _ _ _ _
  repeat refine Zab ?_
  first|refine Zaa ?_|refine Zac ?_
  refine Zah ?_
  refine Zae ?_
  refine kp1 2 ?_
  clear he e
  intro e he
  refine ZaZ ?_
  exact ZbW (hend υ hI)
theorem ZzM : ZaS Tryz.prog 114 = some .nilFunc := by kernel_rfl
theorem Zmg : ZaS Tryz.prog 22 = some (.slice none 0 0) := by kernel_rfl
theorem Zg3 : Ze0 Tryz.prog 22 = some false := by kernel_rfl
theorem Zdd : Zav Tryz.prog 22 = some 1 := by kernel_rfl
theorem Zg4 : Zar Tryz.prog 27 = some 22 := by kernel_rfl
set_option maxHeartbeats 1000000 in
theorem ZxC {k nm d : List UInt8} {v : AV} {b0 b1 b2 : Nat} (h : DAt σ bb S fs pcs size mb pv) (hS : ∀ c, S c -> σ.used c) (hb0 : σ.blk b0 = some (.own 96 [ptr bb 0, .raw (sV nm)])) (hb1 : σ.blk b1 = some (.own 9 [.raw (sV k)])) (hb2 : σ.blk b2 = some (.own 22 [v]))
 (hv : SV CT 0 ZaV (.sl 1 d none) v) (hk : k ≠ [] /\ k.length <= 40) (hlen : d.length + Zef fs <= 100000000) (hp : pcs.length <= 100000000)
 (hK8 : ¬ (size < 1 \/ ((d.length + Zef fs : Nat) : Int) <= size) -> ∀ τ, Ext σ τ -> K (vI 8) τ)
 (hK0 : (size < 1 \/ ((d.length + Zef fs : Nat) : Int) <= size) -> ∀ τ S' fs' pcs' pv', DAt τ bb S' fs' pcs' size mb pv' -> But S σ τ -> (∀ c, S c -> S' c) -> (∀ c, S' c -> S c \/ Zc2 σ c) -> (∀ c, S' c -> τ.used c) -> Zth fs pcs k d fs' pcs' -> K (vI 0) τ) : Zal Tryz.prog 106 [ptr b0 0, ptr b1 0, ptr b2 0] σ K := by
 refine Zas ZaH Tryz.func106 rfl rfl rfl (Nat.le_of_ble_eq_true rfl) ?_
 refine Zqw 0 1 2 (v0 := ptr b0 0) (v1 := ptr b1 0) (v2 := ptr b2 0) rfl rfl rfl ?_
 intro e he
 obtain ⟨A, c, rest, rfl, hA⟩ := Zcc hv
 repeat refine Zab ?_
 first|refine Zaa ?_|refine Zac ?_
 refine Zah ?_
 refine Zae ?_
 refine kp3 0 1 2 ?_
 clear he e
 intro e he
 repeat refine Zab ?_
 first|refine Zaa ?_|refine Zac ?_
 refine Zad ?_
 refine Zai (b := b0) (o := 0) he.1 ZfB rfl ?_
 refine Zad ?_
 refine ZaC (b := b0) (o := 0) (r := ptr bb 0) rfl hb0 Zj3 Zj4 rfl ?_
 refine Zad ?_
 refine ZaC (b := b1) (o := 0) (r := .raw (sV k)) he.2.1 hb1 ZcQ ZbX rfl ?_
 refine Zad ?_
 refine ZaC (b := b2) (o := 0) (r := .lst A d.length c (bys d ++ rest)) he.2.2 hb2 Zg3 Zdd rfl ?_
 refine Zad ?_
 refine Zif (vs := [.lst A d.length c (bys d ++ rest)]) (cells := [.lst A d.length c (bys d ++ rest)]) (by simp only [List.map_cons, List.map_nil, EV,Nat.reduceEqDiff,↓reduceIte,he]; try rfl) Zg4 Zdd Zmg rfl (by omega) rfl rfl fun rb σ2 hN2 hX2 => ?_
 refine ZaK [ptr bb 0, .raw (sV k), .lst (some ⟨rb, 0, none⟩) 1 1 [.lst A d.length c (bys d ++ rest)]] ?_
 have h2 := h.but (U := fun _ => False) hX2.but fun b hb hf => hf
 refine ZpA (d := d) h2 (fun c hc => hX2.used _ (hS c hc)) (fun τ0 hX0 K' hK' => Zpz (ps := [d]) (Zb8.2 ⟨some ⟨rb, 0, none⟩, 1, [.lst A d.length c (bys d ++ rest)], [], rfl, Nat.le_refl _, by decide, by simp, fun q => (by cases q), ?_⟩) (by simp) (by simp; omega) K' ?_) hlen hp (fun hn => absurd hk hn) (fun _ hn υ hX => ?_) (fun _ hf υ S' fs' pcs' pv' g1 g2 g3 g4 g5 g6 => ?_)
 ·exact .cons hv .none
 ·intro v τ q1 q2 q3
  simp only [List.flatten_cons, List.flatten_nil, List.append_nil] at q1
  exact hK' v τ q1 q2 q3
 ·refine Zah ?_
  refine Zae ?_
  refine kp1 3 ?_
  clear he e
  intro e he
  refine ZaZ ?_
  exact ZbW (hK8 hn υ (hX2.trans hX))
 ·refine Zah ?_
  refine Zae ?_
  refine kp1 3 ?_
  clear he e
  intro e he
  refine ZaZ ?_
  exact ZbW (hK0 hf υ S' fs' pcs' pv' g1 ⟨fun c k hc hk => g2.keep _ _ hc (hX2.keep _ _ hk), fun c hc => g2.used _ (hX2.used _ hc)⟩ g3 (fun c hc => (g4 c hc).imp id fun q => q.of hX2) g5 g6)
theorem Zk4 {S S' : Nat -> Prop} {σ υ τ : St} (h : But S σ υ) (k : But S' υ τ) (hS : ∀ c, S' c -> S c \/ Zc2 σ c) : But S σ τ :=
 ⟨fun c x hc hx => k.keep _ _ (fun hq => (hS c hq).elim hc fun hn => by rw [hn.1] at hx; cases hx) (h.keep _ _ hc hx), fun c hc => k.used _ (h.used _ hc)⟩
structure ZvK (fs : List Fl) (pcs : List (Nat × Nat)) (k nm d : List UInt8) (fs3 : List Fl) (pcs3 : List (Nat × Nat)) : Prop where
 ex : ∃ fs2 pcs2 f0, Zth fs pcs k d fs2 pcs2 /\ (fs2.map (·.b)).Nodup /\ f0 ∈ fs2 /\ f0.nm = k /\ fs3 = rnF fs2 f0 nm /\ pcs3 = rnP fs2 (ZeP fs2 [k] pcs2).1 nm
theorem Zsf {fs fs' : List Fl} {pcs pcs' : List (Nat × Nat)} {k d : List UInt8} (h : Zth fs pcs k d fs' pcs') : ∃ f0 ∈ fs', f0.nm = k := by
 obtain ⟨fs1, f0, v', _, h2, h3, rfl, _⟩ := h
 refine ⟨ZdG f0.b v' (f0.d ++ d) f0, List.mem_map.2 ⟨f0, h2, rfl⟩, ?_⟩
 unfold ZdG
 split <;> exact h3
theorem Zsg {fs fs' : List Fl} {pcs pcs' : List (Nat × Nat)} {k d : List UInt8} (h : Zth fs pcs k d fs' pcs') : pcs'.length <= pcs.length + 1 := by
 obtain ⟨fs1, f0, v', _, h2, h3, rfl, rfl⟩ := h
 rw [List.length_append]
 split <;> simp
theorem ZpW (fs : List Fl) : ∀ ns (pcs : List (Nat × Nat)), (ZeP fs ns pcs).1.length <= pcs.length
 | [], pcs => Nat.le_refl _
 | n :: ns, pcs => by
  unfold ZeP
  split
  ·exact Nat.le_refl _
  ·exact Nat.le_trans (ZpW fs ns _) (List.length_filter_le _ _)
theorem Ztv {fs : List Fl} {pcs : List (Nat × Nat)} {k : List UInt8} {f0 : Fl} (h : f0 ∈ fs) (hk : f0.nm = k) : (ZeP fs [k] pcs).2 = 0 := by
 cases hg : Zjk (Zbs fs) k with
 | none => exact absurd hk (ZeL.1 hg f0 h)
 | some fb => rw [ZjN hg]; rfl
set_option maxHeartbeats 2000000 in
theorem ZzN {nm d : List UInt8} {v : AV} (h : DAt σ bb S fs pcs size mb pv) (hS : ∀ c, S c -> σ.used c) (hv : SV CT 0 ZaV (.sl 1 d none) v) (hnm : nm ≠ [] /\ nm.length <= 36) (hlen : d.length + Zef (ZfA [nm ++ [46, 110, 101, 119]] fs pcs).1 <= 100000000) (hl : pcs.length <= 100000000) (hl2 : (ZfA [nm ++ [46, 110, 101, 119]] fs pcs).2.1.length <= 99999999)
 (hK8 : ¬ (size < 1 \/ ((d.length + Zef (ZfA [nm ++ [46, 110, 101, 119]] fs pcs).1 : Nat) : Int) <= size) -> ∀ τ pv', DAt τ bb S (ZfA [nm ++ [46, 110, 101, 119]] fs pcs).1 (ZfA [nm ++ [46, 110, 101, 119]] fs pcs).2.1 size mb pv' -> But S σ τ -> K (vI 8) τ)
 (hK0 : (size < 1 \/ ((d.length + Zef (ZfA [nm ++ [46, 110, 101, 119]] fs pcs).1 : Nat) : Int) <= size) -> ∀ τ S' fs' pcs' pv', DAt τ bb S' fs' pcs' size mb pv' -> But S σ τ -> (∀ c, S c -> S' c) -> (∀ c, S' c -> S c \/ Zc2 σ c) -> (∀ c, S' c -> τ.used c) -> ZvK (ZfA [nm ++ [46, 110, 101, 119]] fs pcs).1 (ZfA [nm ++ [46, 110, 101, 119]] fs pcs).2.1 (nm ++ [46, 110, 101, 119]) nm d fs' pcs' -> K (vI 0) τ) :
 Zal Tryz.prog 60 [.agg [ptr bb 0, .raw (sV nm)], v] σ K := by
 refine Zas ZaH Tryz.func60 rfl rfl rfl (Nat.le_of_ble_eq_true rfl) ?_
 refine ZfJ 0 1 (v0 := .agg [ptr bb 0, .raw (sV nm)]) (v1 := v) rfl rfl ?_
 intro e he
 obtain ⟨A, c, rest, rfl, hA⟩ := Zcc hv
 generalize hkd : nm ++ [46, 110, 101, 119] = k at *
 have hkl : k.length = nm.length + 4 := by rw [<- hkd]; simp
 have hkr : k ≠ [] /\ k.length <= 40 := ⟨fun q => by rw [q] at hkl; simp at hkl, by omega⟩
 have hkn : k ≠ nm := fun q => by rw [q] at hkl; omega
 generalize hr : ZfA [k] fs pcs = rr at *
 obtain ⟨fs1, Zqe, er⟩ := rr
 dsimp only at hlen hl2 hK8 hK0
 repeat refine Zab ?_
 first|refine Zaa ?_|refine Zac ?_
 refine Zad ?_
 refine Zjs (cs := [ptr bb 0, .raw (sV nm)]) he.1 rfl fun b0 σ1 hn1 hu1 hb1 hub1 hX1 => ?_
 refine Zad ?_
 refine Zjs (cs := [.lst A d.length c (bys d ++ rest)]) he.2 rfl fun b1 σ2 hn2 hu2 hb2 hub2 hX2 => ?_
 refine Zah ?_
 refine Zae ?_
 refine kp2 2 3 ?_
 clear he e
 intro e he
 repeat refine Zab ?_
 first|refine Zaa ?_|refine Zac ?_
 refine Zad ?_
 have hb1' := hX2.keep _ _ hb1
 refine Zai (b := b0) (o := 0) he.1 ZfB rfl ?_
 refine Zad ?_
 refine ZaC (b := b0) (o := 0 + 1) (r := .raw (sV nm)) rfl hb1' ZcQ ZbX rfl ?_
 refine Zad ?_
 refine Zol (a := nm) (c := [46, 110, 101, 119]) (by simp; omega) rfl rfl ?_
 rw [hkd]
 refine Zad ?_
 refine Zck Zoj rfl fun b2 σ3 hn3 hu3 hb3 hub3 hX3 => ?_
 refine Zad ?_
 refine Zgg (b := b2) (o := 0) (v := .raw (sV k)) rfl rfl hb3 ZbX ⟨rfl, rfl, rfl⟩ (Nat.zero_lt_succ _) fun σ4 hb4 k4 => ?_
 refine Zae ?_
 refine kp3 2 3 5 ?_
 clear he e
 intro e he
 have hX4 : Ext σ σ4 := But.ext ((hX1.trans hX2).trans hX3) (fun g hg => by rw [hg]; exact ((hX1.trans hX2).noneOf hn3)) k4
 have e0 : σ4.blk b0 = some (.own 96 [ptr bb 0, .raw (sV nm)]) := k4.keep _ _ (fun q => by rw [q] at hb1'; rw [hn3] at hb1'; cases hb1') (hX3.keep _ _ hb1')
 have e1 : σ4.blk b1 = some (.own 22 [.lst A d.length c (bys d ++ rest)]) := k4.keep _ _ (fun q => by rw [q] at hb2; rw [hn3] at hb2; cases hb2) (hX3.keep _ _ hb2)
 have n0 : Zc2 σ b0 := ⟨hn1, hu1⟩
 have n1 : Zc2 σ b1 := Zc2.of ⟨hn2, hu2⟩ hX1
 have n2 : Zc2 σ b2 := Zc2.of ⟨hn3, hu3⟩ (hX1.trans hX2)
 have hnS : ∀ c, Zc2 σ c -> ¬ S c := fun c hc q => hc.2 (hS c q)
 repeat refine Zab ?_
 first|refine Zaa ?_|refine Zac ?_
 refine Zad ?_
 refine Zai (b := b0) (o := 0) he.1 ZfB rfl ?_
 refine Zad ?_
 refine ZaC (b := b0) (o := 0) (r := ptr bb 0) rfl e0 Zj3 Zj4 rfl ?_
 refine Zad ?_
 refine ZaC (b := b2) (o := 0) (r := .raw (sV k)) he.2.2 hb4 ZcQ ZbX rfl ?_
 refine Zad ?_
 refine Zif (vs := [.raw (sV k)]) (cells := [.raw (sV k)]) (by simp only [List.map_cons, List.map_nil, EV,Nat.reduceEqDiff,↓reduceIte,he]; try rfl) ZjI ZbX Zoj rfl (by omega) rfl rfl fun rb σ5 hN5 hX5 => ?_
 refine ZaK [ptr bb 0, .lst (some ⟨rb, 0, none⟩) 1 1 [.raw (sV k)]] ?_
 have h5 : DAt σ5 bb S fs pcs size mb pv := h.but (U := fun _ => False) (hX4.trans hX5).but fun b hb hf => hf
 refine ZBD h5 (by omega) (v := .lst (some ⟨rb, 0, none⟩) 1 1 [.raw (sV k)]) (ns := [k]) ZyD (fun c hc => by cases hc) (by simp) fun σ6 pv6 h6 k6 => ?_
 rw [hr] at h6
 dsimp only at h6
 refine Zae ?_
 refine kp3 2 3 5 ?_
 clear he e
 intro e he
 have B6 : But S σ σ6 := ⟨fun c x hc hx => k6.keep _ _ hc ((hX4.trans hX5).keep _ _ hx), fun c hc => k6.used _ ((hX4.trans hX5).used _ hc)⟩
 have f0 := k6.keep _ _ (hnS b0 n0) (hX5.keep _ _ e0)
 have f1 := k6.keep _ _ (hnS b1 n1) (hX5.keep _ _ e1)
 have f2 := k6.keep _ _ (hnS b2 n2) (hX5.keep _ _ hb4)
 repeat refine Zab ?_
 first|refine Zaa ?_|refine Zac ?_
 refine Zad ?_
 refine Zhs (vs := [ptr b0 0, ptr b2 0, ptr b1 0]) (by simp only [List.map_cons, List.map_nil, EV,Nat.reduceEqDiff,↓reduceIte,he]; try rfl) ?_
 refine Zad ?_
 refine Zhs (vs := [ptr b0 0, ptr b2 0]) (by simp only [List.map_cons, List.map_nil, EV,Nat.reduceEqDiff,↓reduceIte,he]; try rfl) ?_
 refine Zad ?_
 refine Zhs (vs := [ptr b0 0, ptr b2 0]) (by simp only [List.map_cons, List.map_nil, EV,Nat.reduceEqDiff,↓reduceIte,he]; try rfl) ?_
 refine Zad ?_
 refine Zif (vs := fnL [(106, #[(ptr b0 0).val, (ptr b2 0).val, (ptr b1 0).val]), (107, #[(ptr b0 0).val, (ptr b2 0).val]), (109, #[(ptr b0 0).val, (ptr b2 0).val])]) (cells := fnL [(106, #[(ptr b0 0).val, (ptr b2 0).val, (ptr b1 0).val]), (107, #[(ptr b0 0).val, (ptr b2 0).val]), (109, #[(ptr b0 0).val, (ptr b2 0).val])]) (by simp only [List.map_cons, List.map_nil, EV,Nat.reduceEqDiff,↓reduceIte,he]; try rfl) Zom Zq4 ZzM rfl (by omega) rfl rfl fun rb2 σ7 hN7 hX7 => ?_
 refine ZaK [.lst (some ⟨rb2, 0, none⟩) 3 3 (fnL [(106, #[(ptr b0 0).val, (ptr b2 0).val, (ptr b1 0).val]), (107, #[(ptr b0 0).val, (ptr b2 0).val]), (109, #[(ptr b0 0).val, (ptr b2 0).val])])] ?_
 have B7 : But S σ σ7 := ⟨fun c x hc hx => hX7.keep _ _ (B6.keep _ _ hc hx), fun c hc => hX7.used _ (B6.used _ hc)⟩
 have g0 := hX7.keep _ _ f0
 have g1 := hX7.keep _ _ f1
 have g2 := hX7.keep _ _ f2
 have h7 : DAt σ7 bb S fs1 Zqe size mb pv6 := h6.but (U := fun _ => False) hX7.but fun b hb hf => hf
 have hback : ∀ c, Zc2 σ7 c -> Zc2 σ c := fun c hc => (Zd6 B7 hc).elim (fun q => absurd (B7.used _ (hS c q)) hc.2) id
 refine ZBG (l := [(106, #[(ptr b0 0).val, (ptr b2 0).val, (ptr b1 0).val]), (107, #[(ptr b0 0).val, (ptr b2 0).val]), (109, #[(ptr b0 0).val, (ptr b2 0).val])])
  (fun i υ => ∃ S' fs' pcs' pv', DAt υ bb S' fs' pcs' size mb pv' /\ But S σ7 υ /\ (∀ c, S c -> S' c) /\ (∀ c, S' c -> S c \/ Zc2 σ7 c) /\ (∀ c, S' c -> υ.used c) /\ match i with
   | 0 => fs' = fs1 /\ pcs' = Zqe /\ S' = S
   | 1 => (size < 1 \/ ((d.length + Zef fs1 : Nat) : Int) <= size) /\ Zth fs1 Zqe k d fs' pcs'
   | 2 => (size < 1 \/ ((d.length + Zef fs1 : Nat) : Int) <= size) /\ ∃ pcs2, Zth fs1 Zqe k d fs' pcs2 /\ pcs' = (ZeP fs' [k] pcs2).1
   | _ => (size < 1 \/ ((d.length + Zef fs1 : Nat) : Int) <= size) /\ ZvK fs1 Zqe k nm d fs' pcs') (fun q => by cases q) (by simp) ⟨S, fs1, Zqe, pv6, h7, .refl _ _, fun _ q => q, fun _ q => .inl q, fun c q => B7.used _ (hS c q), rfl, rfl, rfl⟩ ?_ ?_
 ·intro i hi υ hI
  obtain ⟨S', fs', pcs', pv', i1, i2, i3, i4, i5, i0⟩ := hI
  have hnS' : ∀ b x, σ7.blk b = some x -> ¬ S b -> ¬ S' b := fun b x hb hs q => (i4 b q).elim hs fun hn => by rw [hn.1] at hb; cases hb
  have j0 := i2.keep _ _ (hnS b0 n0) g0
  have j1 := i2.keep _ _ (hnS b1 n1) g1
  have j2 := i2.keep _ _ (hnS b2 n2) g2
  match i, hi, i0 with
  | 0, _, i7 =>
   obtain ⟨rfl, rfl, rfl⟩ := i7
   refine ZxC i1 i5 j0 j2 j1 hv hkr hlen (by omega) (fun hn τ hX => ⟨8, rfl, (fun q => absurd q (by decide)), fun _ => ?_⟩) fun hf τ S'' fs'' pcs'' pv'' q1 q2 q3 q4 q5 q6 => ⟨0, rfl, fun _ => ?_, fun q => absurd rfl q⟩
   ·refine Zah ?_
    refine Zae ?_
    refine kp1 4 ?_
    clear he e
    intro e he
    refine ZaZ ?_
    exact ZbW (hK8 hn τ pv' (i1.but (U := fun _ => False) hX.but fun b hb hf => hf) ⟨fun c x hc hx => hX.keep _ _ (i2.keep _ _ hc (B7.keep _ _ hc hx)), fun c hc => hX.used _ (i2.used _ (B7.used _ hc))⟩)
   ·exact ⟨S'', fs'', pcs'', pv'', q1, Zk4 i2 q2 fun c hc => .inl hc, q3, fun c hc => (q4 c hc).elim .inl fun hn => Zd6 i2 hn, q5, hf, q6⟩
  | 1, _, i7 =>
   obtain ⟨hf, i6⟩ := i7
   obtain ⟨f0, hf0, hfk⟩ := Zsf i6
   refine ZxB i1 i5 (by have := Zsg i6; omega) j0 j2 fun τ pv'' q1 q2 => ⟨0, by rw [Ztv hf0 hfk]; rfl, fun _ => ?_, fun q => absurd rfl q⟩
   exact ⟨S', fs', _, pv'', q1, Zk4 i2 q2 i4, i3, i4, fun c hc => q2.used _ (i5 c hc), hf, pcs', i6, rfl⟩
  | 2, _, i7 =>
   obtain ⟨hf, pcs2, i6, rfl⟩ := i7
   obtain ⟨f0, hf0, hfk⟩ := Zsf i6
   refine ZxA i1 i5 (by have := Zsg i6; have := ZpW fs' [k] pcs2; omega) j0 j2 ⟨hnm.1, by omega⟩ hkn hf0 hfk fun τ pv'' q1 q2 => ⟨0, rfl, fun _ => ?_, fun q => absurd rfl q⟩
   exact ⟨S', _, _, pv'', q1, Zk4 i2 q2 i4, i3, i4, fun c hc => q2.used _ (i5 c hc), hf, ⟨_, _, f0, i6, i1.nd, hf0, hfk, rfl, rfl⟩⟩
 ·intro υ hI
  obtain ⟨S', fs', pcs', pv', i1, i2, i3, i4, i5, hf, i6⟩ := hI
  refine Zah ?_
  refine Zae ?_
  refine kp1 4 ?_
  clear he e
  intro e he
  refine ZaZ ?_
  exact ZbW (hK0 hf υ S' fs' pcs' pv' i1 (Zk4 B7 i2 fun c hc => .inl hc) i3 (fun c hc => (i4 c hc).imp id (hback c)) i5 i6)
end
section
variable {σ τ : St} {bb mb : Nat} {S : Nat -> Prop} {fs : List Fl} {pcs : List (Nat × Nat)} {size : Int} {pv : AV} {K : AV -> St -> Prop}
theorem Ztw {x : Zb6} {bs : List UInt8} {e : Int} {as_ : List AV} (hB : Zdb x = some ((bs, e, ()), ((), ()))) (hx : SVs CT 0 ZaV (CT.enc 10 x) as_) (hK : ∀ v τ, SV CT 0 ZaV (.sl 1 bs none) v -> Ext σ τ -> K (.tup [v, vI e]) τ) : Zal Tryz.prog 26 [.agg as_] σ K := by
 refine Zgd (ZmU.ok (x, ()) () ((bs, e, ()), ((), ())) hB) (.cons (ZcE.2 ⟨_, rfl, hx⟩) .none) K fun v τ ρ' q1 _ q3 _ => ?_
 obtain ⟨ls, rfl, h1⟩ := Ze7.1 q1
 obtain ⟨v0, v1, rfl, g0, g1⟩ := Zig.1 h1
 obtain rfl := Zaw.1 g1
 exact hK v0 τ (SVs.shut ((Wk.drop _ _ _).sv g0) (by intro x hx; rw [List.mem_singleton.1 hx]; rfl)) q3
theorem ZxD {l : List ZbH} {bs : List UInt8} {e : Int} {a : AV} (hB : Zdt l = some ((bs, e, ()), ((), ()))) (ha : SV CT 0 ZaV (.sl 6 l none) a) (hK : ∀ v τ, SV CT 0 ZaV (.sl 1 bs none) v -> Ext σ τ -> K (.tup [v, vI e]) τ) : Zal Tryz.prog 59 [a] σ K := by
 refine Zgd (ZpJ.ok (l, ()) () ((bs, e, ()), ((), ())) hB) (.cons ha .none) K fun v τ ρ' q1 _ q3 _ => ?_
 obtain ⟨ls, rfl, h1⟩ := Ze7.1 q1
 obtain ⟨v0, v1, rfl, g0, g1⟩ := Zig.1 h1
 obtain rfl := Zaw.1 g1
 exact hK v0 τ (SVs.shut ((Wk.drop _ _ _).sv g0) (by intro x hx; rw [List.mem_singleton.1 hx]; rfl)) q3
theorem ZxE {b : List UInt8} {l : List ZbH} {n : Int} {a : AV} (hB : ZiX b = some ((l, n, ()), ((), ()))) (ha : SV CT 0 ZaV (.sl 1 b none) a) (hK : ∀ v τ, SV CT 0 ZaV (.sl 6 l none) v -> Ext σ τ -> K (.tup [v, vI n]) τ) : Zal Tryz.prog 44 [a] σ K := by
 refine Zgd (ZpK.ok (b, ()) () ((l, n, ()), ((), ())) hB) (.cons ha .none) K fun v τ ρ' q1 _ q3 _ => ?_
 obtain ⟨ls, rfl, h1⟩ := Ze7.1 q1
 obtain ⟨v0, v1, rfl, g0, g1⟩ := Zig.1 h1
 obtain rfl := Zaw.1 g1
 exact hK v0 τ (SVs.shut ((Wk.drop _ _ _).sv g0) (by intro x hx; rw [List.mem_singleton.1 hx]; rfl)) q3
theorem Zcd : Ze0 Tryz.prog 44 = some true := by kernel_rfl
theorem ZaY : Zav Tryz.prog 44 = some 7 := by kernel_rfl
theorem ZvL : ZaS Tryz.prog 102 = some (.agg #[.int .i64 0, .slice none 0 0]) := by kernel_rfl
theorem ZzO : ZbS Tryz.prog 102 = some [(0, 1), (1, 1)] := by kernel_rfl
theorem Zq5 : Zav Tryz.prog 102 = some 2 := by kernel_rfl
theorem Zon : Zar Tryz.prog 99 = some 102 := by kernel_rfl
def ZfY (g : Nat) : List UInt8 := ZcV g ++ [46, 110, 101, 119]
theorem Zdx {as_ : List AV} (h : as_.length = 7) : Zbw (some true) (some 7) as_ 0 = some (.agg as_) := by
 match as_, h with
 | [a, b, c, d, e, f, g], _ => rfl
set_option maxHeartbeats 2000000 in
theorem ZxF {x : Zb6} {as_ : List AV} {g : Nat} {bs d : List UInt8} {er : Int} (h : DAt σ bb S fs pcs size mb pv) (hS : ∀ c, S c -> σ.used c) (hg : g <= 4) (hd : (Go.Lib.decDigits g).length <= 21) (hx : SVs CT 0 ZaV (CT.enc 10 x) as_)
 (hB : Zdb x = some ((bs, er, ()), ((), ()))) (hP : er = 0 -> Zdt [⟨4, bs⟩] = some ((d, 0, ()), ((), ())))
 (hKe : er ≠ 0 -> ∀ τ, Ext σ τ -> K (vI er) τ)
 (hlen : d.length + Zef (ZfA [ZfY g] fs pcs).1 <= 100000000) (hl : pcs.length <= 100000000) (hl2 : (ZfA [ZfY g] fs pcs).2.1.length <= 99999999)
 (hK8 : er = 0 -> ¬ (size < 1 \/ ((d.length + Zef (ZfA [ZfY g] fs pcs).1 : Nat) : Int) <= size) -> ∀ τ pv', DAt τ bb S (ZfA [ZfY g] fs pcs).1 (ZfA [ZfY g] fs pcs).2.1 size mb pv' -> But S σ τ -> K (vI 8) τ)
 (hK0 : er = 0 -> (size < 1 \/ ((d.length + Zef (ZfA [ZfY g] fs pcs).1 : Nat) : Int) <= size) -> ∀ τ S' fs' pcs' pv', DAt τ bb S' fs' pcs' size mb pv' -> But S σ τ -> (∀ c, S c -> S' c) -> (∀ c, S' c -> S c \/ Zc2 σ c) -> (∀ c, S' c -> τ.used c) -> ZvK (ZfA [ZfY g] fs pcs).1 (ZfA [ZfY g] fs pcs).2.1 (ZfY g) (ZcV g) d fs' pcs' -> K (vI 0) τ) :
 Zal Tryz.prog 21 [ptr bb 0, vI g, .agg as_] σ K := by
 have ha7 : as_.length = 7 := hx.len
 refine Zas ZaH Tryz.func21 rfl rfl rfl (Nat.le_of_ble_eq_true rfl) ?_
 refine Zqw 0 1 2 (v0 := ptr bb 0) (v1 := vI g) (v2 := .agg as_) rfl rfl rfl ?_
 intro e he
 repeat refine Zab ?_
 first|refine Zaa ?_|refine Zac ?_
 refine Zad ?_
 refine Zjs (cs := as_) he.2.2 rfl fun b5 σ1 hn1 hu1 hb1 hub1 hX1 => ?_
 refine Zah ?_
 refine Zae ?_
 refine kp3 0 1 5 ?_
 clear he e
 intro e he
 repeat refine Zab ?_
 first|refine Zaa ?_|refine Zac ?_
 refine Zah ?_
 refine Zah ?_
 refine ZaK [ptr bb 0, vI g] ?_
 refine ZzK hg (by omega) fun σ2 hX2 => ?_
 refine Zah ?_
 refine Zad ?_
 refine Zax (l := [.agg [ptr bb 0, .raw (sV (ZcV g))], vI 0]) rfl rfl ?_
 refine Zad ?_
 refine Zax (l := [.agg [ptr bb 0, .raw (sV (ZcV g))], vI 0]) rfl rfl ?_
 refine Zad ?_
 refine Zck Zmf rfl fun b7 σ3 hn3 hu3 hb3 hub3 hX3 => ?_
 refine Zad ?_
 refine Zbn (b := b7) (o := 0) (u := .agg [ptr bb 0, .raw (sV (ZcV g))]) rfl rfl hb3 Zj2 rfl rfl fun σ4 hb4 k4 => ?_
 refine Zah ?_
 refine Zae ?_
 refine kp3 5 7 8 ?_
 clear he e
 intro e he
 have hX13 : Ext σ σ3 := (hX1.trans hX2).trans hX3
 have hX4 : Ext σ σ4 := But.ext hX13 (fun g hg => by rw [hg]; exact (hX1.trans hX2).noneOf hn3) k4
 have hb5 : σ4.blk b5 = some (.own 44 as_) := k4.keep _ _ (fun q => by rw [q] at hb1; have := hX2.keep _ _ hb1; rw [hn3] at this; cases this) ((hX2.trans hX3).keep _ _ hb1)
 repeat refine Zab ?_
 first|refine Zaa ?_|refine Zac ?_
 refine Zah ?_
 refine Zad ?_
 refine Zjq (k := .i64) (a := 0) (b := 0) rfl rfl ?_
 refine Zae ?_
 refine kp4 5 7 8 18 ?_
 clear he e
 intro e he
 refine ZaT (t := false) he.2.2.2 (fun ht => by cases ht) (fun ht => ?_)
 refine Za6 ?_
 repeat refine Zab ?_
 first|refine Zaa ?_|refine Zac ?_
 refine Zad ?_
 refine ZaC (b := b5) (o := 0) (r := .agg as_) he.1 hb5 Zcd ZaY (Zdx ha7) ?_
 refine ZaK [.agg as_] ?_
 refine Ztw hB hx fun v σ5 hv hX5 => ?_
 refine Zah ?_
 refine Zad ?_
 refine Zax (l := [v, vI er]) rfl rfl ?_
 refine Zad ?_
 refine Zax (l := [v, vI er]) rfl rfl ?_
 refine Zah ?_
 refine Zah ?_
 refine Zae ?_
 refine kp3 7 8 9 ?_
 clear he e
 intro e he
 repeat refine Zab ?_
 first|refine Zaa ?_|refine Zac ?_
 refine Zah ?_
 refine Zad ?_
 refine Zjq (k := .i64) (a := er) (b := 0) rfl rfl ?_
 refine Zae ?_
 refine kp4 7 8 9 26 ?_
 clear he e
 intro e he
 refine ZaT (t := decide (er ≠ 0)) he.2.2.2 (fun ht => ?_) (fun ht => ?_)
 ·repeat refine Zab ?_
  first|refine Zaa ?_|refine Zac ?_
  refine Zah ?_
  refine Zah ?_
  refine Zae ?_
  refine kp1 6 ?_
  clear he e
  intro e he
  refine Zfo ?_
  exact ZbW (hKe (of_decide_eq_true ht) σ5 (hX4.trans hX5))
 refine Za6 ?_
 obtain rfl : er = 0 := Decidable.byContradiction fun hq => by simp [hq] at ht
 obtain ⟨A, c, rest, rfl, hA⟩ := Zcc hv
 repeat refine Zab ?_
 first|refine Zaa ?_|refine Zac ?_
 refine Zah ?_
 refine Zad ?_
 refine ZcI (vs := [.raw (.int .i64 4), .lst A bs.length c (bys bs ++ rest)]) (cells := [.raw (.int .i64 4), .lst A bs.length c (bys bs ++ rest)]) (by simp only [List.map_cons, List.map_nil, EV,Nat.reduceEqDiff,↓reduceIte,he]; try rfl) ZvL ZzO rfl ?_
 refine Zad ?_
 refine Zif (vs := [.agg [.raw (.int .i64 4), .lst A bs.length c (bys bs ++ rest)]]) (cells := [.raw (.int .i64 4), .lst A bs.length c (bys bs ++ rest)]) (by simp only [List.map_cons, List.map_nil, EV,Nat.reduceEqDiff,↓reduceIte,he]; try rfl) Zon Zq5 ZvL rfl (by omega) rfl rfl fun rb σ6 hN6 hX6 => ?_
 refine ZaK [.lst (some ⟨rb, 0, none⟩) 1 1 [.raw (.int .i64 4), .lst A bs.length c (bys bs ++ rest)]] ?_
 refine ZxD (hP rfl) (Zb8.2 ⟨some ⟨rb, 0, none⟩, 1, [.raw (.int .i64 4), .lst A bs.length c (bys bs ++ rest)], [], rfl, Nat.le_refl _, by decide, by simp, fun q => (by cases q), ?_⟩) fun w σ7 hw hX7 => ?_
 ·exact .cons (Zaw.2 rfl) (.cons hv .none)
 refine Zah ?_
 refine Zad ?_
 refine Zax (l := [w, vI 0]) rfl rfl ?_
 refine Zad ?_
 refine Zax (l := [w, vI 0]) rfl rfl ?_
 refine Zah ?_
 refine Zah ?_
 refine Zae ?_
 refine kp3 7 8 10 ?_
 clear he e
 intro e he
 repeat refine Zab ?_
 first|refine Zaa ?_|refine Zac ?_
 refine Zah ?_
 refine Zad ?_
 refine Zjq (k := .i64) (a := 0) (b := 0) rfl rfl ?_
 refine Zae ?_
 refine kp4 7 8 10 36 ?_
 clear he e
 intro e he
 refine ZaT (t := false) he.2.2.2 (fun ht => by cases ht) (fun ht => ?_)
 refine Za6 ?_
 have hX47 : Ext σ4 σ7 := (hX5.trans hX6).trans hX7
 have hX : Ext σ σ7 := hX4.trans hX47
 repeat refine Zab ?_
 first|refine Zaa ?_|refine Zac ?_
 refine Zad ?_
 refine ZaC (b := b7) (o := 0) (r := .agg [ptr bb 0, .raw (sV (ZcV g))]) he.1 (hX47.keep _ _ hb4) ZvI Zj2 rfl ?_
 refine Zah ?_
 refine ZaK [.agg [ptr bb 0, .raw (sV (ZcV g))], w] ?_
 refine ZzN (h.but (U := fun _ => False) hX.but fun b hb hf => hf) (fun c hc => hX.used _ (hS c hc)) hw ⟨by simp [ZcV], by simp [ZcV]; omega⟩ hlen hl hl2 (fun hn υ pv' q1 q2 => ?_) (fun hf υ S' fs' pcs' pv' q1 q2 q3 q4 q5 q6 => ?_)
 ·refine Zah ?_
  refine Zae ?_
  refine kp1 6 ?_
  clear he e
  intro e he
  refine ZaZ ?_
  exact ZbW (hK8 rfl hn υ pv' q1 ⟨fun c x hc hx => q2.keep _ _ hc (hX.keep _ _ hx), fun c hc => q2.used _ (hX.used _ hc)⟩)
 ·refine Zah ?_
  refine Zae ?_
  refine kp1 6 ?_
  clear he e
  intro e he
  refine ZaZ ?_
  exact ZbW (hK0 rfl hf υ S' fs' pcs' pv' q1 ⟨fun c x hc hx => q2.keep _ _ hc (hX.keep _ _ hx), fun c hc => q2.used _ (hX.used _ hc)⟩ q3 (fun c hc => (q4 c hc).imp id fun q => q.of hX) q5 q6)
theorem ZzP {x : Zb6} {as_ : List AV} {g : Nat} {bs d : List UInt8} (h : DAt σ bb S fs pcs size mb pv) (hS : ∀ c, S c -> σ.used c) (hg : g <= 4) (hd : (Go.Lib.decDigits g).length <= 21) (hx : SVs CT 0 ZaV (CT.enc 10 x) as_)
 (hB : Zdb x = some ((bs, 0, ()), ((), ()))) (hP : Zdt [⟨4, bs⟩] = some ((d, 0, ()), ((), ())))
 (hlen : d.length + Zef (ZfA [ZfY g] fs pcs).1 <= 100000000) (hl : pcs.length <= 100000000) (hl2 : (ZfA [ZfY g] fs pcs).2.1.length <= 99999999)
 (hK8 : ¬ (size < 1 \/ ((d.length + Zef (ZfA [ZfY g] fs pcs).1 : Nat) : Int) <= size) -> ∀ τ pv', DAt τ bb S (ZfA [ZfY g] fs pcs).1 (ZfA [ZfY g] fs pcs).2.1 size mb pv' -> But S σ τ -> K (vI 8) τ)
 (hK0 : (size < 1 \/ ((d.length + Zef (ZfA [ZfY g] fs pcs).1 : Nat) : Int) <= size) -> ∀ τ S' fs' pcs' pv', DAt τ bb S' fs' pcs' size mb pv' -> But S σ τ -> (∀ c, S c -> S' c) -> (∀ c, S' c -> S c \/ Zc2 σ c) -> (∀ c, S' c -> τ.used c) -> ZvK (ZfA [ZfY g] fs pcs).1 (ZfA [ZfY g] fs pcs).2.1 (ZfY g) (ZcV g) d fs' pcs' -> K (vI 0) τ) :
 Zal Tryz.prog 21 [ptr bb 0, vI g, .agg as_] σ K :=
 ZxF h hS hg hd hx hB (fun _ => hP) (fun q => absurd rfl q) hlen hl hl2 (fun _ => hK8) fun _ => hK0
end
section
variable {P : Program} {σ τ : St}
theorem Zi6 {w w' : World} {G : Nat -> Prop} (h : Grow w σ w' τ) : Grow w σ w' (Zfq G τ) := by
 refine ⟨h.os, h.tape, h.output, h.size, h.used, fun b hb hn => ?_, fun b t k s hb ht => ?_, h.more⟩
 ·obtain ⟨g1, g2⟩ := h.rest b hb hn
  refine ⟨g1, ?_⟩
  by_cases hg : G b
  ·exact Zdr hg
  ·rw [Zcg hg]; exact g2
 ·obtain ⟨g1, g2⟩ := h.tail b t k s hb ht
  refine ⟨g1, ?_⟩
  by_cases hg : G b
  ·exact .inl (Zdr hg)
  ·rw [Zcg hg]; exact g2
theorem Zal.toldL {f : FuncId} {args : List AV} {K : AV -> St -> Prop} (h : Zal P f args σ fun r τ => ∃ e sz n cells, Hd τ e sz r n cells /\ ∀ A c, n <= c -> c <= maxLen -> (A = none -> n = 0 /\ c = 0) -> K (.lst A n c cells) (Zfq (fun b => hbk r = some b) τ)) : Zal P f args σ K := by
 intro w Z hH hV
 refine (h w Z hH hV).mono ?_
 rintro y w' ⟨r, τ, rfl, ⟨e, sz, n, cells, hd, hK⟩, hH', hV', hG⟩
 obtain ⟨A, c, hl, h1, h2, h3⟩ := hd.lends (G := fun b => hbk r = some b) (fun b hb => hb) (.refl cells)
 exact ⟨.lst A n c cells, _, by rw [hl.1], hK A c h1 h2 h3, Zhp hH', hl.2 w' Z hH' hV', Zi6 hG⟩
end
section
variable {P : Program} {G : Nat -> Prop} {σ τ : St}
theorem ZgP.agg {l m : List AV} (h : ZdF G σ l m) : ZgP G σ (.agg l) (.agg m) := ⟨by simp only [AV.val_agg, h.vals], fun w Z hH hV => by
 unfold Zag at hV ⊢
 exact ZaM.iff.2 (h.valid hH (ZaM.iff.1 hV))⟩
theorem ZgP.tup {l m : List AV} (h : ZdF G σ l m) : ZgP G σ (.tup l) (.tup m) := ⟨by simp only [AV.val_tup, h.vals], fun w Z hH hV => by
 unfold Zag at hV ⊢
 exact ZaM.iff.2 (h.valid hH (ZaM.iff.1 hV))⟩
theorem Zal.tell {f : FuncId} {args : List AV} {K : AV -> St -> Prop} (h : Zal P f args σ fun r τ => ∃ G r', ZgP G τ r r' /\ K r' (Zfq G τ)) : Zal P f args σ K := by
 intro w Z hH hV
 refine (h w Z hH hV).mono ?_
 rintro y w' ⟨r, τ, rfl, ⟨G, r', hl, hK⟩, hH', hV', hG⟩
 exact ⟨r', _, by rw [hl.1], hK, Zhp hH', hl.2 w' Z hH' hV', Zi6 hG⟩
end
section
variable {σ τ : St} {bb mb : Nat} {S : Nat -> Prop} {fs : List Fl} {pcs : List (Nat × Nat)} {size : Int} {pv : AV} {K : AV -> St -> Prop}
set_option maxHeartbeats 1000000 in
theorem ZpX {b : List UInt8} {idx term : Int} {n1 n2 n3 n4 : Nat} {l1 l2 l3 l4 : List Int} {by_ : List UInt8} {ok : Bool} {a : AV} (hB : ZfX b = some (((idx, term, n1, n2, n3, n4, by_, ()), ok, ()), (l1, l2, l3, l4, ()))) (h1 : n1 <= l1.length) (h2 : n2 <= l2.length) (h3 : n3 <= l3.length) (h4 : n4 <= l4.length) (hsm : l1.length <= 1000000 /\ l2.length <= 1000000 /\ l3.length <= 1000000 /\ l4.length <= 1000000) (ha : SV CT 0 ZaV (.sl 1 b none) a)
 (hK : ∀ as_ τ, SVs CT 0 ZaV (CT.enc 10 (⟨⟨idx, term, ⟨l1.take n1, l2.take n2, l3.take n3, l4.take n4⟩⟩, by_⟩ : Zb6)) as_ -> Ext σ τ -> K (.tup [.agg as_, vT ok]) τ) : Zal Tryz.prog 16 [a] σ K := by
 refine Zal.tell (Zgd (ZpT.ok (b, ()) () (((idx, term, n1, n2, n3, n4, by_, ()), ok, ()), (l1, l2, l3, l4, ())) hB) (.cons ha .none) _ fun r τ ρ' q1 q2 q3 q4 => ?_)
 obtain ⟨ls, rfl, g⟩ := Ze7.1 q1
 obtain ⟨v0, v1, rfl, g0, g1⟩ := Zig.1 g
 obtain rfl := Za7.1 g1
 obtain ⟨as_, rfl, g2⟩ := ZcE.1 g0
 obtain ⟨a1, _, rfl, e1, g2⟩ := g2.to
 obtain ⟨a2, _, rfl, e2, g2⟩ := g2.to
 obtain ⟨a3, _, rfl, e3, g2⟩ := g2.to
 obtain ⟨a4, _, rfl, e4, g2⟩ := g2.to
 obtain ⟨a5, _, rfl, e5, g2⟩ := g2.to
 obtain ⟨a6, _, rfl, e6, g2⟩ := g2.to
 obtain ⟨a7, rfl, e7⟩ := ZeG.1 g2
 obtain rfl := Zaw.1 e1
 obtain rfl := Zaw.1 e2
 obtain ⟨c1, d1, o1, s1⟩ := ZgQ e3 q2 (i := 0) rfl h1
 obtain ⟨c2, d2, o2, s2⟩ := ZgQ e4 q2 (i := 1) rfl h2
 obtain ⟨c3, d3, o3, s3⟩ := ZgQ e5 q2 (i := 2) rfl h3
 obtain ⟨c4, d4, o4, s4⟩ := ZgQ e6 q2 (i := 3) rfl h4
 let G : Nat -> Prop := fun b => hbk a3 = some b \/ hbk a4 = some b \/ hbk a5 = some b \/ hbk a6 = some b
 obtain ⟨A1, k1, m1, u1, w1, z1⟩ := d1.lends (G := G) (fun b hb => .inl hb) (.refl c1)
 obtain ⟨A2, k2, m2, u2, w2, z2⟩ := d2.lends (G := G) (fun b hb => .inr (.inl hb)) (.refl c2)
 obtain ⟨A3, k3, m3, u3, w3, z3⟩ := d3.lends (G := G) (fun b hb => .inr (.inr (.inl hb))) (.refl c3)
 obtain ⟨A4, k4, m4, u4, w4, z4⟩ := d4.lends (G := G) (fun b hb => .inr (.inr (.inr hb))) (.refl c4)
 have e7' := SVs.shut (N' := 0) (ρ' := ZaV) (.cons e7 .none) (by intro x hx; rw [List.mem_singleton.1 hx]; rfl)
 have sl : ∀ {E n k : Nat} {A : Option Addr} {xs : List (Ty E)} {cs : List AV} (hn : xs.length = n), n <= 1000000 -> n <= k -> k <= maxLen -> (A = none -> n = 0 /\ k = 0) -> SVs CT 0 ZaV (xs.flatMap (CT.enc E)) cs -> SV CT 0 ZaV (.sl E xs none) (.lst A n k cs) := fun {E n k A xs cs} hn p0 p1 p2 p3 p4 => by
  subst hn
  exact Zb8.2 ⟨A, k, cs, [], by rw [List.append_nil], p1, p2, by omega, fun q => p3 q, p4⟩
 refine ⟨G, .tup [.agg [_, _, .lst A1 n1 k1 c1, .lst A2 n2 k2 c2, .lst A3 n3 k3 c3, .lst A4 n4 k4 c4, a7], _], ZgP.tup ⟨ZgP.agg ⟨.refl _, .refl _, m1, m2, m3, m4, .refl _, trivial⟩, .refl _, trivial⟩, hK _ _ ?_ ⟨fun c k hk => ?_, fun c hc => q3.used _ hc⟩⟩
 ·exact .cons (Zaw.2 rfl) (.cons (Zaw.2 rfl) (.cons (sl (E := 0) (by rw [List.length_take]; omega) (by omega) u1 w1 z1 (s1 0 ZaV)) (.cons (sl (E := 0) (by rw [List.length_take]; omega) (by omega) u2 w2 z2 (s2 0 ZaV)) (.cons (sl (E := 0) (by rw [List.length_take]; omega) (by omega) u3 w3 z3 (s3 0 ZaV)) (.cons (sl (E := 0) (by rw [List.length_take]; omega) (by omega) u4 w4 z4 (s4 0 ZaV)) e7')))))
 ·have hG : ¬ G c := by
   have no : ∀ i x, (ρ' i).owns c -> ([.arr 3 0 false l1, .arr 3 0 false l2, .arr 3 0 false l3, .arr 3 0 false l4] : List (HI Ty))[i]? = some x -> x.alive = true -> False := fun i x p1 p2 p3 => by
    have := (q4 i x c p2 p3 p1).1
    rw [hk] at this
    cases this
   rintro (q | q | q | q)
   ·exact no 0 _ (o1 c q) rfl rfl
   ·exact no 1 _ (o2 c q) rfl rfl
   ·exact no 2 _ (o3 c q) rfl rfl
   ·exact no 3 _ (o4 c q) rfl rfl
  rw [Zcg hG]
  exact q3.keep _ _ hk
theorem Zhz {G : Nat -> Prop} (h : Ext σ τ) (hG : ∀ c, G c -> Zc2 σ c) : Ext σ (Zfq G τ) := ⟨fun c k hk => by
 rw [Zcg (fun q => by have := (hG c q).1; rw [hk] at this; cases this)]
 exact h.keep _ _ hk, fun c hc => h.used _ hc⟩
theorem ZpY (h : DAt σ bb S fs pcs size mb pv) {k : List UInt8} (hfl : ∀ f ∈ fs, f.d.length <= 1000000000)
 (hK1 : (∀ f ∈ fs, f.nm ≠ k) -> ∀ τ, Ext σ τ -> K (.tup [.lst none 0 0 [], vT false]) τ)
 (hK2 : ∀ f0 ∈ fs, f0.nm = k -> ∀ v τ, SV CT 0 ZaV (.sl 1 f0.d none) v -> Ext σ τ -> K (.tup [v, vT true]) τ) : Zal Tryz.prog 32 [ptr bb 0, .raw (sV k)] σ K := by
 refine Zal.tell (ZzD h hfl (fun hn => ⟨fun _ => False, _, ZgP.refl _, hK1 hn _ (Zhz (.refl _) fun _ q => q.elim)⟩) fun f0 hf0 hk τ v q1 q2 q3 => ?_)
 obtain ⟨A, c, m, u, w, z⟩ := q1.lends (G := fun b => hbk v = some b) (fun b hb => hb) (.refl _)
 refine ⟨fun b => hbk v = some b, .tup [.lst A f0.d.length c (bys f0.d), vT true], ZgP.tup ⟨m, .refl _, trivial⟩, hK2 f0 hf0 hk _ _ ?_ (Zhz q2 q3)⟩
 have := hfl f0 hf0
 exact Zb8.2 ⟨A, c, bys f0.d, [], by rw [List.append_nil], u, w, by omega, fun q => z q, Zr7 _⟩
theorem Znn : ZaS Tryz.prog 5 = some (.int .u8 0) := by kernel_rfl
theorem Zno : Zav Tryz.prog 5 = some 1 := by kernel_rfl
theorem Zdy : ZaS Tryz.prog 44 = some (.agg #[.int .i64 0, .int .i64 0, .slice none 0 0, .slice none 0 0, .slice none 0 0, .slice none 0 0, .slice none 0 0]) := by kernel_rfl
theorem ZvM : Zba Tryz.prog 102 = some [(0, some 1, some false), (1, some 1, some false)] := by kernel_rfl
theorem ZyE : Ze0 Tryz.prog 3 = some false := by kernel_rfl
theorem ZvN : Zav Tryz.prog 3 = some 1 := by kernel_rfl
theorem ZeR : Zar Tryz.prog 22 = some 5 := by kernel_rfl
theorem Zg5 (E : Nat) : SV CT 0 ZaV (.sl E [] none) (.lst none 0 0 []) := Zb8.2 ⟨none, 0, [], [], rfl, Nat.le_refl _, by decide, by simp, (fun _ => ⟨rfl, rfl⟩), .none⟩
def ZfC : List AV := [.raw (.int .i64 0), .raw (.int .i64 0), .lst none 0 0 [], .lst none 0 0 [], .lst none 0 0 [], .lst none 0 0 [], .lst none 0 0 []]
set_option maxHeartbeats 2000000 in
theorem ZvO {g : Nat} (h : DAt σ bb S fs pcs size mb pv) (hfl : ∀ f ∈ fs, f.d.length <= 1000000000) (hg : g <= 4) (hd : (Go.Lib.decDigits g).length <= 21) (hn : ∀ f ∈ fs, f.nm ≠ ZcV g)
 (hK : ∀ τ, Ext σ τ -> K (.tup [.agg ZfC, vT false, vI 0]) τ) : Zal Tryz.prog 12 [ptr bb 0, vI g] σ K := by
 refine Zas ZaH Tryz.func12 rfl rfl rfl (Nat.le_of_ble_eq_true rfl) ?_
 refine ZfJ 0 1 (v0 := ptr bb 0) (v1 := vI g) rfl rfl ?_
 intro e he
 repeat refine Zab ?_
 first|refine Zaa ?_|refine Zac ?_
 refine Zad ?_
 refine Zck (cs := ZfC) Zdy rfl fun b4 σ1 hn1 hu1 hb1 hub1 hX1 => ?_
 refine Zah ?_
 refine Zah ?_
 refine Zae ?_
 refine kp3 0 1 4 ?_
 clear he e
 intro e he
 repeat refine Zab ?_
 first|refine Zaa ?_|refine Zac ?_
 refine Zah ?_
 refine Zah ?_
 refine ZaK [ptr bb 0, vI g] ?_
 refine ZzK hg (by omega) fun σ2 hX2 => ?_
 refine Zah ?_
 refine Zad ?_
 refine Zax (l := [.agg [ptr bb 0, .raw (sV (ZcV g))], vI 0]) rfl rfl ?_
 refine Zad ?_
 refine Zax (l := [.agg [ptr bb 0, .raw (sV (ZcV g))], vI 0]) rfl rfl ?_
 refine Zad ?_
 refine Zck Zmf rfl fun b7 σ3 hn3 hu3 hb3 hub3 hX3 => ?_
 refine Zad ?_
 refine Zbn (b := b7) (o := 0) (u := .agg [ptr bb 0, .raw (sV (ZcV g))]) rfl rfl hb3 Zj2 rfl rfl fun σ4 hb4 k4 => ?_
 refine Zah ?_
 refine Zae ?_
 refine kp3 4 6 7 ?_
 clear he e
 intro e he
 have hX4 : Ext σ σ4 := But.ext ((hX1.trans hX2).trans hX3) (fun g hg => by rw [hg]; exact (hX1.trans hX2).noneOf hn3) k4
 have hb14 : σ4.blk b4 = some (.own 44 ZfC) := k4.keep _ _ (fun q => by rw [q] at hb1; have := hX2.keep _ _ hb1; rw [hn3] at this; cases this) ((hX2.trans hX3).keep _ _ hb1)
 repeat refine Zab ?_
 first|refine Zaa ?_|refine Zac ?_
 refine Zah ?_
 refine Zad ?_
 refine Zjq (k := .i64) (a := 0) (b := 0) rfl rfl ?_
 refine Zae ?_
 refine kp4 4 6 7 19 ?_
 clear he e
 intro e he
 refine ZaT (t := false) he.2.2.2 (fun ht => by cases ht) (fun ht => ?_)
 refine Za6 ?_
 repeat refine Zab ?_
 first|refine Zaa ?_|refine Zac ?_
 refine Zad ?_
 refine Zai (b := b7) (o := 0) he.2.2.1 ZfB rfl ?_
 refine Zad ?_
 refine ZaC (b := b7) (o := 0) (r := ptr bb 0) rfl hb4 Zj3 Zj4 rfl ?_
 refine Zad ?_
 refine Zai (b := b7) (o := 0) he.2.2.1 ZfB rfl ?_
 refine Zad ?_
 refine ZaC (b := b7) (o := 0 + 1) (r := .raw (sV (ZcV g))) rfl hb4 ZcQ ZbX rfl ?_
 refine ZaK [ptr bb 0, .raw (sV (ZcV g))] ?_
 refine ZpY (h.but (U := fun _ => False) hX4.but fun b hb hf => hf) hfl (fun _ σ5 hX5 => ?_) fun f0 hf0 hk => absurd hk (hn f0 hf0)
 refine Zah ?_
 refine Zad ?_
 refine Zax (l := [.lst none 0 0 [], vT false]) rfl rfl ?_
 refine Zad ?_
 refine Zax (l := [.lst none 0 0 [], vT false]) rfl rfl ?_
 refine Zah ?_
 refine Zah ?_
 refine Zae ?_
 refine kp3 4 8 9 ?_
 clear he e
 intro e he
 repeat refine Zab ?_
 first|refine Zaa ?_|refine Zac ?_
 refine Zah ?_
 refine ZjF ?_
 refine Zae ?_
 refine kp3 4 8 31 ?_
 clear he e
 intro e he
 refine ZaT (t := true) he.2.2 (fun ht => ?_) (fun ht => by cases ht)
 repeat refine Zab ?_
 first|refine Zaa ?_|refine Zac ?_
 refine Zad ?_
 refine ZaC (b := b4) (o := 0) (r := .agg ZfC) he.1 (hX5.keep _ _ hb14) Zcd ZaY (Zdx rfl) ?_
 refine Zad ?_
 refine Zbn (b := b4) (o := 0) (u := .agg ZfC) he.1 rfl (hX5.keep _ _ hb14) ZaY rfl rfl fun σ6 hb6 k6 => ?_
 refine Zah ?_
 refine Zah ?_
 refine Zae ?_
 refine kp3 4 5 6 ?_
 clear he e
 intro e he
 refine Zfo ?_
 exact ZdM rfl (ZbF he.1 hb6 Zcd ZaY (Zdx rfl)) (Za4 he.2.1) (Za4 he.2.2) (hK σ6 (But.ext (hX4.trans hX5) (fun g hg => by rw [hg]; exact hn1) k6))
set_option maxHeartbeats 2000000 in
end
end Go.Proofs.YteempnebenjkmaaGreatDoor
