/- XDi, XDj, XDt, XDtb, XDtc, XIw, XIv, XIa, XIl, XIk in one. -/
import Derived.Test.YteempnebenjkmaaGreatDoorMe
import Derived.Laws.IdiomRangeMap
import Derived.Maps.RangeRun
import Derived.Test.YteempnebenjkmaaGreatDoorMf
import Derived.Test.YteempnebenjkmaaGreatDoorSl
import Derived.Test.YteempnebenjkmaaGreatDoorBy
import Derived.Test.YteempnebenjkmaaGreatDoorG1
import Derived.Test.YteempnebenjkmaaGreatDoorHx
import Derived.Test.YteempnebenjkmaaGreatDoorLy
import Derived.Lib.ItoaLen
namespace Go.Proofs.YteempnebenjkmaaGreatDoor
open Go.RowKit
open Go.ChangeMaps (setBlock)
set_option linter.unusedSimpArgs false
set_option maxRecDepth 100000
set_option linter.unusedVariables false
section
variable {w : World} {σ : St} {Z : Nat -> Prop}
end
section
variable {P : Program} {ops : Array Oper} {env : Env} {σ τ : St} {K : Env -> St -> Prop} {d : Option Nat} {ty t kt et : TypeId} {pos : String} {af : Array Edge} {x y : Operand} {b ib : Nat} {l : List Oper}
end
structure Zzw (arr : Array MapEntry) (seen : Array Nat) (D : List MapEntry) : Prop where
 sub : ∀ e ∈ D, e ∈ arr.toList
 at_ : seen.toList = D.map (·.born)
 nd : (D.map (·.born)).Nodup
theorem Zzw.nil (arr : Array MapEntry) : Zzw arr #[] [] := ⟨(fun e he => by cases he), rfl, by simp⟩
theorem Zzw.push {arr : Array MapEntry} {seen : Array Nat} {D : List MapEntry} (h : Zzw arr seen D) {e : MapEntry} (he : e ∈ (leftOf arr seen).toList) : Zzw arr (seen.push e.born) (D ++ [e]) := by
 obtain ⟨m1, m2⟩ := mem_left he
 refine ⟨fun x hx => ?_, by rw [Array.toList_push, h.at_, List.map_append]; rfl, ?_⟩
 ·rcases List.mem_append.1 hx with hx | hx
  ·exact h.sub x hx
  ·rw [List.mem_singleton.1 hx]; exact m1
 ·rw [List.map_append, List.nodup_append]
  refine ⟨h.nd, by simp, fun a ha b hb e2 => ?_⟩
  simp at hb
  subst hb e2
  rw [<- h.at_] at ha
  have : seen.contains e.born = true := by
   rw [Array.contains_iff_mem]
   exact Array.mem_def.2 ha
  rw [this] at m2
  cases m2
end Go.Proofs.YteempnebenjkmaaGreatDoor
namespace Go.Proofs.YteempnebenjkmaaGreatDoor
open Go.RowKit
set_option linter.unusedSimpArgs false
set_option maxRecDepth 100000
set_option linter.unusedVariables false
def ZBR (es : List (Nat × Nat)) : List (Value × Value) := es.map fun p => (pV p.1, pV p.2)
def Zu2 : List (Nat × Nat) -> Nat -> Option Nat
 | [], _ => none
 | p :: es, k => if k = p.1 then some p.2 else Zu2 es k
section
variable {P : Program}
variable {ops : Array Oper} {env : Env} {σ τ : St} {K : Env -> St -> Prop} {d : Option Nat} {ty ty' t kt et : TypeId} {pos : String} {af : Array Edge} {x y z : Operand} {b k n m : Nat} {es : List (Nat × Nat)}
theorem Zs8 {l : List MapEntry} {j c : Nat} (h1 : ∀ n ∈ l.map fun e : MapEntry => e.born, n < c) (h2 : (l.map fun e : MapEntry => e.born).Nodup) : (∀ n ∈ (l.eraseIdx j).map fun e : MapEntry => e.born, n < c) /\ ((l.eraseIdx j).map fun e : MapEntry => e.born).Nodup := by
 have hs : ((l.eraseIdx j).map fun e : MapEntry => e.born).Sublist (l.map fun e : MapEntry => e.born) := (List.eraseIdx_sublist l j).map _
 exact ⟨fun n hn => h1 n (hs.subset hn), hs.nodup h2⟩
theorem Zpu {b : Nat} {es : Dir} {k : List UInt8} (hx : ev env x = Zc9 b) (hy : ev env y = .raw (sV k)) (hb : σ.blk b = some (.map (ZgK es))) (t1 : P.underlying t = some (.map kt et)) (t2 : P.underlying kt = some .string)
 (h : ∀ τ, τ.blk b = some (.map (ZgK (Zup es k))) -> But (fun c => c = b) σ τ -> K (env.put d (.raw (.tuple #[]))) τ) : aOp P ops ⟨d, .call ⟨.builtin .delete, #[x, y], #[t, ty']⟩, ty, pos, af, none⟩ env σ K := by
 rw [ZaS rfl]
 have hvs : ((.call ⟨.builtin .delete, #[x, y], #[t, ty']⟩ : Op).operands.toList.map (ev env)) = [Zc9 b, .raw (sV k)] := by simp [Op.operands, Call.operands, hx, hy]
 show ZdH P _ (Op.operands _ |>.toList.map (ev env)) σ _
 rw [hvs]
 refine .inr ⟨rfl, fun ρv hρ w Z hH hV => ?_⟩
 obtain ⟨_, arr, c, hh, harr, hfr1, hfr2⟩ := hH.mapAt hb (Zgd _)
 have hρ' := hρ
 simp [Op.operands, Call.operands, Zc9] at hρ'
 have fin : ∀ (arr' : Array MapEntry), ((∀ n ∈ arr'.toList.map fun e : MapEntry => e.born, n < c) /\ (arr'.toList.map fun e : MapEntry => e.born).Nodup) -> arr'.toList.map (fun e : MapEntry => (e.key, e.val)) = ZgK (Zup es k) -> (Builtin.delete_ #[t, ty'] ty #[.map (some b), sV k]).run P w = .ok (.tuple #[]) (ZdC w b arr' c) ->
  ∃ r σ' w', ((execOp ρv ⟨d, .call ⟨.builtin .delete, #[x, y], #[t, ty']⟩, ty, pos, af, none⟩).run P w = .ok (.value r.val) w' \/ (execOp ρv ⟨d, .call ⟨.builtin .delete, #[x, y], #[t, ty']⟩, ty, pos, af, none⟩).run P w = .ok .skip w' /\ r = .raw undef) /\ K (env.put d r) σ' /\ Zaj w' σ' Z /\ Zae w' (σ'.free Z) r /\ Grow w σ w' σ' := by
  intro arr' h0 h1 h2
  obtain ⟨q1, q2⟩ := hH.write_map (a' := arr') (c' := c) hb hh h0 (by rw [h1]; exact Zgd _)
  rw [h1] at q1 q2
  refine ⟨.raw (.tuple #[]), _, ZdC w b arr' c, .inl ?_, h _ ?_ ?_, q1, Zaz _, q2⟩
  ·simp [execOp, resolve, invoke, builtin, hρ', h2]
  ·show (if b = b then _ else σ.blk b) = _
   rw [if_pos rfl]
  ·exact ⟨fun c' k' hc hk => by
    show (if c' = b then _ else σ.blk c') = _
    rw [if_neg hc]; exact hk, fun c' hc => hc⟩
 have pre : ∀ r, ZvK k es 0 = r -> (Builtin.delete_ #[t, ty'] ty #[.map (some b), sV k]).run P w = (match r with
  | some (j, _) => (do setObj b (.map (arr.eraseIdxIfInBounds j) c); pure (.tuple #[]) : Sem Value)
  | none => (do setObj b (.map arr c); pure (.tuple #[]) : Sem Value)).run P w := by
  intro r hr
  unfold Builtin.delete_
  simp only [List.getElem?_toArray, List.getElem?_cons_zero, List.getElem?_cons_succ]
  rw [Sem.run_bind, run_underlying t1]
  dsimp only [Result.andThen]
  rw [Sem.run_bind, ZmP hh]
  dsimp only [Result.andThen]
  rw [Sem.run_bind, ZlD t2]
  dsimp only [Result.andThen]
  rw [Sem.run_bind, Zqx t2 harr, hr]
  dsimp only [Result.andThen]
  cases r <;> rfl
 rcases ZiI (k := k) 0 harr with ⟨m1, m2, _, m4⟩ | ⟨j, n, m1, m2, _, _, m5⟩
 ·refine fin arr ⟨hfr1, hfr2⟩ (by rw [harr, m4]) ?_
  rw [pre _ m2, Sem.run_bind, ZmQ hh]
  rfl
 ·rw [Nat.zero_add] at m2
  refine fin (arr.eraseIdxIfInBounds j) ?_ ?_ ?_
  ·rw [Array.toList_eraseIdxIfInBounds]
   exact Zs8 hfr1 hfr2
  ·rw [Array.toList_eraseIdxIfInBounds]
   exact m5
  ·rw [pre _ m2, Sem.run_bind, ZmQ hh]
   rfl
end
end Go.Proofs.YteempnebenjkmaaGreatDoor
namespace Go.Proofs.YteempnebenjkmaaGreatDoor
open Go.RowKit
set_option maxRecDepth 100000
set_option linter.unusedVariables false
set_option linter.unusedSimpArgs false
theorem Zn2 : ZaR Tryz.prog 9 = some (.string ⟨#[]⟩) := by kernel_rfl
abbrev ZhD (k : List UInt8) (fs : List Fl) : List Fl := fs.filter fun f => !decide (f.nm = k)
theorem Zi0 {k : List UInt8} {fs : List Fl} (h : ∀ f ∈ fs, f.nm ≠ k) : ZhD k fs = fs := List.filter_eq_self.2 fun f hf => by simp [h f hf]
theorem Zgt {k : List UInt8} {fs : List Fl} {f : Fl} : f ∈ ZhD k fs ↔ f ∈ fs /\ f.nm ≠ k := by simp [ZhD]
theorem Zn3 {k : List UInt8} : ∀ {fs : List Fl}, (fs.map (·.nm)).Nodup -> Zup (Za3 fs) k = Za3 (ZhD k fs)
 | [], _ => rfl
 | f :: fs, h => by
  rw [List.map_cons, List.nodup_cons] at h
  show (if k = f.nm then Za3 fs else (f.nm, f.b) :: Zup (Za3 fs) k) = _
  by_cases hk : k = f.nm
  ·rw [if_pos hk]
   have : ZhD k (f :: fs) = ZhD k fs := by simp [ZhD, hk]
   rw [this, Zi0 fun g hg e => h.1 (List.mem_map.2 ⟨g, hg, by rw [e, hk]⟩)]
  ·rw [if_neg hk, Zn3 h.2]
   have : ZhD k (f :: fs) = f :: ZhD k fs := by simp [ZhD, Ne.symm hk]
   rw [this]
   rfl
section
variable {σ τ : St} {bb mb : Nat} {S : Nat -> Prop} {fs : List Fl} {pcs : List (Nat × Nat)} {size : Int} {pv : AV}
theorem Zi1 {α β : Type} {f : α -> β} {l m : List α} (h : (l.map f).Nodup) (hs : m.Sublist l) : (m.map f).Nodup := (hs.map f).nodup h
theorem DAt.delF (h : DAt σ bb S fs pcs size mb pv) {k : List UInt8} (hp : ∀ p ∈ pcs, ∃ f ∈ ZhD k fs, f.b = p.1) (k4 : But (fun c => c = mb) σ τ) (hm : τ.blk mb = some (.map (ZgK (Zup (Za3 fs) k)))) : DAt τ bb S (ZhD k fs) pcs size mb pv := by
 obtain ⟨o1, o2, o3, o4⟩ := h.own
 have hH : ∀ {e sz n : Nat} {u : AV} {cs : List AV}, Hd σ e sz u n cs -> Hd τ e sz u n cs := fun {e sz n u cs} hu => hu.but k4 fun c hc hq => by
  obtain ⟨all, hall⟩ := hu.blk hc
  exact ZeZ hall h.map hq
 have hsub : (ZhD k fs).Sublist fs := List.filter_sublist
 refine ⟨k4.keep _ _ (fun q => ZeZ h.obj h.map q) h.obj, k4.used _ h.used, by rw [hm, Zn3 h.nn], k4.used _ h.umap, fun f hf => ?_, Zi1 h.nd hsub, Zi1 h.nn hsub, fun f hf g hg => h.far f (hsub.subset hf) g (hsub.subset hg), hH h.pc, ⟨o1, o2, fun f hf => o3 f (hsub.subset hf), o4⟩, hp⟩
 obtain ⟨q1, q2, q3⟩ := h.file f (hsub.subset hf)
 exact ⟨k4.keep _ _ (fun q => ZeZ q1 h.map q) q1, k4.used _ q2, hH q3⟩
theorem DAt.uniqN (h : DAt σ bb S fs pcs size mb pv) {f g : Fl} (hf : f ∈ fs) (hg : g ∈ fs) (e : f.nm = g.nm) : f = g := by
 have hnd := h.nn
 clear h
 induction fs with
 | nil => cases hf
 | cons a l ih =>
  rw [List.map_cons, List.nodup_cons] at hnd
  rcases List.mem_cons.1 hf with e1 | h1 <;> rcases List.mem_cons.1 hg with e2 | h2
  ·rw [e1, e2]
  ·exact absurd (List.mem_map.2 ⟨g, h2, by rw [<- e, e1]⟩) hnd.1
  ·exact absurd (List.mem_map.2 ⟨f, h1, by rw [e, e2]⟩) hnd.1
  ·exact ih h1 h2 hnd.2
theorem DAt.movF (h : DAt σ bb S fs pcs size mb pv) {f0 : Fl} (hf0 : f0 ∈ fs) {to : List UInt8} (hto : ∀ f ∈ fs, f.nm ≠ to) (k4 : But (fun c => c = mb) σ τ) (hm : τ.blk mb = some (.map (ZgK (Zwm (Zup (Za3 fs) f0.nm) to f0.b)))) : DAt τ bb S (ZhD f0.nm fs ++ [⟨to, f0.b, f0.v, f0.d⟩]) pcs size mb pv := by
 obtain ⟨o1, o2, o3, o4⟩ := h.own
 have hH : ∀ {e sz n : Nat} {u : AV} {cs : List AV}, Hd σ e sz u n cs -> Hd τ e sz u n cs := fun {e sz n u cs} hu => hu.but k4 fun c hc hq => by
  obtain ⟨all, hall⟩ := hu.blk hc
  exact ZeZ hall h.map hq
 have hsub : (ZhD f0.nm fs).Sublist fs := List.filter_sublist
 have hnb : ∀ f ∈ ZhD f0.nm fs, f.b ≠ f0.b := fun f hf e => (Zgt.1 hf).2 (by rw [h.uniq (Zgt.1 hf).1 hf0 e])
 have hfile : ∀ f ∈ fs, τ.blk f.b = some (.own 87 [f.v]) /\ τ.used f.b /\ Hd τ 5 1 f.v f.d.length (bys f.d) := fun f hf => by
  obtain ⟨q1, q2, q3⟩ := h.file f hf
  exact ⟨k4.keep _ _ (fun q => ZeZ q1 h.map q) q1, k4.used _ q2, hH q3⟩
 refine ⟨k4.keep _ _ (fun q => ZeZ h.obj h.map q) h.obj, k4.used _ h.used, ?_, k4.used _ h.umap, fun f hf => ?_, ?_, ?_, fun f hf g hg x hx hy => ?_, hH h.pc, ⟨o1, o2, fun f hf => ?_, o4⟩, fun p hp => ?_⟩
 ·rw [hm, Zn3 h.nn, ZrE _ fun f hf => hto f (hsub.subset hf)]
  unfold Za3
  rw [List.map_append]
  rfl
 ·rcases List.mem_append.1 hf with hf | hf
  ·exact hfile f (hsub.subset hf)
  ·rw [List.mem_singleton.1 hf]
   exact hfile f0 hf0
 ·rw [List.map_append, List.nodup_append]
  refine ⟨Zi1 h.nd hsub, by simp, fun a ha b hb e => ?_⟩
  obtain ⟨f, hf, rfl⟩ := List.mem_map.1 ha
  simp at hb
  exact hnb f hf (e.trans hb)
 ·rw [List.map_append, List.nodup_append]
  refine ⟨Zi1 h.nn hsub, by simp, fun a ha b hb e => ?_⟩
  obtain ⟨f, hf, rfl⟩ := List.mem_map.1 ha
  simp at hb
  exact hto f (hsub.subset hf) (e.trans hb)
 ·rcases List.mem_append.1 hf with hf | hf <;> rcases List.mem_append.1 hg with hg | hg
  ·exact h.far f (hsub.subset hf) g (hsub.subset hg) x hx hy
  ·rw [List.mem_singleton.1 hg] at hy ⊢
   exact h.far f (hsub.subset hf) f0 hf0 x hx hy
  ·rw [List.mem_singleton.1 hf] at hx ⊢
   exact h.far f0 hf0 g (hsub.subset hg) x hx hy
  ·rw [List.mem_singleton.1 hf, List.mem_singleton.1 hg]
 ·rcases List.mem_append.1 hf with hf | hf
  ·exact o3 f (hsub.subset hf)
  ·rw [List.mem_singleton.1 hf]
   exact o3 f0 hf0
 ·obtain ⟨f, hf, e⟩ := h.inn p hp
  by_cases hn : f.nm = f0.nm
  ·have : f = f0 := h.uniqN hf hf0 hn
   exact ⟨_, List.mem_append_right _ List.mem_cons_self, by rw [<- e, this]⟩
  ·exact ⟨f, List.mem_append_left _ (Zgt.2 ⟨hf, hn⟩), e⟩
end
section
variable {σ : St} {bb mb : Nat} {S : Nat -> Prop} {fs : List Fl} {pcs : List (Nat × Nat)} {size : Int} {pv : AV} {K : AV -> St -> Prop}
theorem Zu3 (h : DAt σ bb S fs pcs size mb pv) (hl : pcs.length <= 1000000000) {f0 : Fl} (hf0 : f0 ∈ fs) (hK : ∀ τ pv', DAt τ bb S (ZhD f0.nm fs) (pcs.filter fun p => !decide (p.1 = f0.b)) size mb pv' -> But S σ τ -> K (.tup []) τ) : Zan Tryz.prog 164 [ptr bb 0, .raw (sV f0.nm), ptr f0.b 0] σ K := by
 refine Zay ZaF Tryz.func164 rfl rfl rfl (Nat.le_of_ble_eq_true rfl) ?_
 refine Zp8 0 1 2 (v0 := ptr bb 0) (v1 := .raw (sV f0.nm)) (v2 := ptr f0.b 0) rfl rfl rfl ?_
 intro e he
 repeat refine Zab ?_
 first|refine Zaa ?_|refine Zac ?_
 refine Zah ?_
 refine Zad ?_
 refine Zar (v := ptr bb 0) rfl rfl ?_
 refine Zad ?_
 refine Zaf (b := bb) (o := 0) rfl ZbI rfl ?_
 refine Zah ?_
 refine ZaN [ptr bb 0, ptr f0.b 0] ?_
 refine ZuN h hl hf0 fun τ pv' h1 hB1 => ?_
 refine Zag ?_
 refine kp2 0 1 ?_
 clear he e
 intro e he
 refine Zac ?_
 refine Zah ?_
 refine Zad ?_
 refine Zar (v := ptr bb 0) rfl rfl ?_
 refine Zad ?_
 refine Zaf (b := bb) (o := 0) rfl ZbI rfl ?_
 refine Zad ?_
 refine Zau (b := bb) (o := 0 + 1) (r := Zc9 mb) rfl h1.obj Zd6 Zd5 rfl ?_
 refine Zah ?_
 refine Zad ?_
 refine Zpu (k := f0.nm) (es := Za3 fs) (b := mb) rfl rfl h1.map ZgA ZiK fun τ2 hm2 k2 => ?_
 refine Zag ?_
 refine ⟨_, Zf6 rfl, hK τ2 pv' (h1.delF (fun p hp => ?_) k2 hm2) (hB1.trans (k2.sub fun c hc => by rw [hc]; exact h.own.2.1))⟩
 obtain ⟨f, hf, e⟩ := h1.inn p hp
 refine ⟨f, Zgt.2 ⟨hf, fun q => ?_⟩, e⟩
 have hp2 := (List.mem_filter.1 hp).2
 rw [h.uniqN hf hf0 q] at e
 simp [e] at hp2
end
end Go.Proofs.YteempnebenjkmaaGreatDoor
namespace Go.Proofs.YteempnebenjkmaaGreatDoor
open Go.RowKit
set_option maxRecDepth 100000
set_option linter.unusedVariables false
set_option linter.unusedSimpArgs false
def ZfS : List (List UInt8) -> List Fl -> List (Nat × Nat) -> List Fl × List (Nat × Nat) × Nat
 | [], fs, pcs => (fs, pcs, 0)
 | n :: ns, fs, pcs => match ZgL (Za3 fs) n with
  | none => (fs, pcs, 6)
  | some fb => ZfS ns (ZhD n fs) (pcs.filter fun p => !decide (p.1 = fb))
theorem Zpv {fs : List Fl} {n : List UInt8} {ns : List (List UInt8)} {pcs : List (Nat × Nat)} (h : ZgL (Za3 fs) n = none) : ZfS (n :: ns) fs pcs = (fs, pcs, 6) := by
 unfold ZfS
 rw [h]
theorem Zu4 {fs : List Fl} {n : List UInt8} {ns : List (List UInt8)} {pcs : List (Nat × Nat)} {fb : Nat} (h : ZgL (Za3 fs) n = some fb) : ZfS (n :: ns) fs pcs = ZfS ns (ZhD n fs) (pcs.filter fun p => !decide (p.1 = fb)) := by
 conv => lhs; unfold ZfS
 rw [h]
theorem ZwL {fs : List Fl} {pcs : List (Nat × Nat)} : ZfS [] fs pcs = (fs, pcs, 0) := rfl
def rnP (fs : List Fl) (pcs : List (Nat × Nat)) (to : List UInt8) : List (Nat × Nat) := match ZgL (Za3 fs) to with
 | none => pcs
 | some ob => pcs.filter fun p => !decide (p.1 = ob)
def rnF (fs : List Fl) (f0 : Fl) (to : List UInt8) : List Fl := ZhD f0.nm (ZhD to fs) ++ [⟨to, f0.b, f0.v, f0.d⟩]
section
variable {σ : St} {bb mb : Nat} {S : Nat -> Prop} {fs : List Fl} {pcs : List (Nat × Nat)} {size : Int} {pv : AV} {K : AV -> St -> Prop}
theorem ZAs (h : DAt σ bb S fs pcs size mb pv) (hl : pcs.length <= 1000000000) {v : AV} {ns : List (List UInt8)} (hN : ZiN σ v ns) (hNS : ∀ c, hbk v = some c -> ¬ S c) (hnl : ns.length <= 1000000000)
 (hK : ∀ τ pv', DAt τ bb S (ZfS ns fs pcs).1 (ZfS ns fs pcs).2.1 size mb pv' -> But S σ τ -> K (vI (ZfS ns fs pcs).2.2) τ) : Zan Tryz.prog 104 [ptr bb 0, v] σ K := by
 refine Zay ZaF Tryz.func104 rfl rfl rfl (Nat.le_of_ble_eq_true rfl) ?_
 refine Zhx 0 1 (v0 := ptr bb 0) (v1 := v) rfl rfl ?_
 intro e he
 repeat refine Zab ?_
 first|refine Zaa ?_|refine Zac ?_
 refine Zah ?_
 refine Zag ?_
 refine kp2 0 1 ?_
 clear he e
 intro e he
 repeat refine Zab ?_
 first|refine Zaa ?_|refine Zac ?_
 refine Zah ?_
 refine Zah ?_
 refine Zad ?_
 refine Zuw (us := [ptr bb 0]) (vs := []) (by simp only [List.map_cons, List.map_nil, EV,Nat.reduceEqDiff,↓reduceIte,he];try rfl) rfl ?_
 refine Zah ?_
 refine ZaN [ptr bb 0, fnG 164 #[.pointer (some ⟨bb, 0, none⟩)] #[], v] ?_
 have hfin : ∀ (a : Nat) (τ : St), (∃ pv', DAt τ bb S (ZfS ns fs pcs).1 (ZfS ns fs pcs).2.1 size mb pv') -> But S σ τ -> a = (ZfS ns fs pcs).2.2 -> K (vI a) τ := fun a τ ⟨pv', q1⟩ q2 q3 => by
  rw [q3]; exact hK τ pv' q1 q2
 refine ZqE (fun i υ => ∃ fs' pcs' pv', DAt υ bb S fs' pcs' size mb pv' /\ pcs'.length <= 1000000000 /\ ZfS (ns.drop i) fs' pcs' = ZfS ns fs pcs /\ But S σ υ /\ ZiN υ v ns) h hN hnl ⟨fs, pcs, pv, h, hl, rfl, .refl _ _, hN⟩ (fun i hi υ => ?_) (fun υ => ?_)
 ·rintro ⟨fs', pcs', pv', g1, g2, g3, g4, g6⟩
  rw [List.drop_eq_getElem_cons hi] at g3
  refine ⟨S, fs', pcs', size, mb, pv', g1, g6, fun hg => ?_, fun fb hg => ?_⟩
  ·rw [Zpv hg] at g3
   refine Zah ?_
   refine Zag ?_
   refine Za5 ?_
   refine ⟨_, Zf5 rfl rfl, hfin 6 υ ⟨pv', ?_⟩ g4 ?_⟩
   ·rw [<- g3]; exact g1
   ·rw [<- g3]
  ·rw [Zu4 hg] at g3
   obtain ⟨f0, hf0, hnm, rfl⟩ := ZdO hg
   show Zan Tryz.prog 164 [ptr bb 0, .raw (sV ns[i]), ptr f0.b 0] υ _
   rw [<- hnm] at g3 ⊢
   refine Zu3 g1 g2 hf0 fun τ pv2 k1 k2 => ⟨_, _, pv2, k1, Nat.le_trans (List.length_filter_le _ _) g2, g3, g4.trans k2, g6.but k2 hNS⟩
 ·rintro ⟨fs', pcs', pv', g1, g2, g3, g4, g6⟩
  rw [List.drop_eq_nil_of_le (Nat.le_refl _), ZwL] at g3
  refine Zah ?_
  refine Zag ?_
  refine Za5 ?_
  refine ⟨_, Zf5 rfl rfl, hfin 0 υ ⟨pv', ?_⟩ g4 ?_⟩
  ·rw [<- g3]; exact g1
  ·rw [<- g3]
theorem ZyU {k to : List UInt8} {b2 b3 b4 : Nat} (h : DAt σ bb S fs pcs size mb pv) (hl : pcs.length <= 1000000000) {f0 : Fl} (hf0 : f0 ∈ fs) (hb2 : σ.blk b2 = some (.own 9 [.raw (sV f0.nm)])) (hb3 : σ.blk b3 = some (.own 9 [.raw (sV to)])) (hb4 : σ.blk b4 = some (.own 28 [ptr bb 0])) (hn2 : ¬ S b2) (hn3 : ¬ S b3) (hn4 : ¬ S b4)
 (hK1 : f0.nm = to -> K (.tup []) σ) (hK2 : f0.nm ≠ to -> ∀ τ pv', DAt τ bb S (rnF fs f0 to) (rnP fs pcs to) size mb pv' -> But S σ τ -> K (.tup []) τ) : Zan Tryz.prog 167 [.raw (sV k), ptr f0.b 0, ptr b2 0, ptr b3 0, ptr b4 0] σ K := by
 refine Zay ZaF Tryz.func167 rfl rfl rfl (Nat.le_of_ble_eq_true rfl) ?_
 refine ZzO 1 2 3 4 (v0 := ptr f0.b 0) (v1 := ptr b2 0) (v2 := ptr b3 0) (v3 := ptr b4 0) rfl rfl rfl rfl ?_
 intro e he
 repeat refine Zab ?_
 first|refine Zaa ?_|refine Zac ?_
 refine Zad ?_
 refine Zau (b := b2) (o := 0) (r := .raw (sV f0.nm)) he.2.1 hb2 Zdt Zcf rfl ?_
 refine Zad ?_
 refine Zau (b := b3) (o := 0) (r := .raw (sV to)) he.2.2.1 hb3 Zdt Zcf rfl ?_
 refine Zad ?_
 refine Zws (a := f0.nm) (c := to) ZiK rfl rfl ?_
 refine Zag ?_
 refine kp5 1 2 3 4 10 ?_
 clear he e
 intro e he
 refine Za0 (t := decide (f0.nm = to)) he.2.2.2.2 (fun hq => ?_) (fun hq => ?_)
 ·refine ZgI ?_
  exact ⟨_, Zf6 rfl, hK1 (of_decide_eq_true hq)⟩
 have hq := of_decide_eq_false hq
 refine Zbh ?_
 refine ZgZ (fun env υ => (env 1 = ptr f0.b 0 /\ env 2 = ptr b2 0 /\ env 3 = ptr b3 0 /\ env 4 = ptr b4 0) /\ But S σ υ /\ ∃ pv', DAt υ bb S (ZhD to fs) (rnP fs pcs to) size mb pv') ?_ ?_
 ·refine Zji ?_
  refine ⟨[0, 1, 2, 3, 4, 5, 6], [[], [0], [0, 1], [0, 1, 2], [], [0, 1, 2, 3, 4], [0, 1, 2, 3, 4, 5]], fun _ => True, [], [], [], by kernel_rfl, ?_⟩
  refine Zcc ?_
  refine Zau (b := b4) (o := 0) (r := ptr bb 0) he.2.2.2.1 hb4 Zgj Zgk rfl ?_
  refine ZcA ?_
  refine Zcc ?_
  refine Zar (v := ptr bb 0) rfl rfl ?_
  refine ZcA ?_
  refine Zcc ?_
  refine Zaf (b := bb) (o := 0) rfl ZbI rfl ?_
  refine ZcA ?_
  refine Zcc ?_
  refine Zau (b := bb) (o := 0 + 1) (r := Zc9 mb) rfl h.obj Zd6 Zd5 rfl ?_
  refine ZcA ?_
  refine Zcc ?_
  refine Zau (b := b3) (o := 0) (r := .raw (sV to)) he.2.2.1 hb3 Zdt Zcf rfl ?_
  refine ZcA ?_
  refine Zcc ?_
  refine Zfs (k := to) (es := Za3 fs) (b := mb) rfl rfl h.map ZgA ZiK Zjy ?_
  refine ZcA ?_
  refine Zej ?_
  refine ZnA ?_
  refine kp5 1 2 3 4 7 ?_
  clear he e
  intro e he
  repeat refine Zab ?_
  first|refine Zaa ?_|refine Zac ?_
  refine Zah ?_
  cases hg : ZgL (Za3 fs) to with
  | none =>
   rw [hg] at he
   refine Zad ?_
   refine Ziv (p := none) ZgB rfl rfl rfl ?_
   refine Zag ?_
   refine ZcM (t := false) rfl (fun hf => by cases hf) (fun _ => ?_)
   refine Ze7 ?_
   refine ⟨rfl, ⟨by simp only [EV,Nat.reduceEqDiff,↓reduceIte,he];try rfl, by simp only [EV,Nat.reduceEqDiff,↓reduceIte,he];try rfl, by simp only [EV,Nat.reduceEqDiff,↓reduceIte,he];try rfl, by simp only [EV,Nat.reduceEqDiff,↓reduceIte,he];try rfl⟩, .refl _ _, pv, ?_⟩
   have e1 : rnP fs pcs to = pcs := by unfold rnP; rw [hg]
   rw [e1, Zi0 (Zcv.1 hg)]
   exact h
  | some ob =>
   rw [hg] at he
   obtain ⟨g0, hg0, hgn, rfl⟩ := ZdO hg
   refine Zad ?_
   refine Ziv (p := some ⟨g0.b, 0, none⟩) ZgB rfl rfl rfl ?_
   refine Zag ?_
   refine kp6 1 2 3 4 7 18 ?_
   clear he e
   intro e he
   refine ZcM (t := true) he.2.2.2.2.2 (fun _ => ?_) (fun hf => by cases hf)
   repeat refine Zab ?_
   first|refine Zaa ?_|refine Zac ?_
   refine Zad ?_
   refine Zau (b := b4) (o := 0) (r := ptr bb 0) he.2.2.2.1 hb4 Zgj Zgk rfl ?_
   refine Zad ?_
   refine Zau (b := b3) (o := 0) (r := .raw (sV to)) he.2.2.1 hb3 Zdt Zcf rfl ?_
   refine Zah ?_
   refine ZaN [ptr bb 0, .raw (sV to), ptr g0.b 0] ?_
   rw [<- hgn]
   refine Zu3 h hl hg0 fun τ pv' d1 d2 => ?_
   refine Zag ?_
   refine ⟨rfl, ⟨by simp only [EV,Nat.reduceEqDiff,↓reduceIte,he];try rfl, by simp only [EV,Nat.reduceEqDiff,↓reduceIte,he];try rfl, by simp only [EV,Nat.reduceEqDiff,↓reduceIte,he];try rfl, by simp only [EV,Nat.reduceEqDiff,↓reduceIte,he];try rfl⟩, d2, pv', ?_⟩
   have e1 : rnP fs pcs g0.nm = pcs.filter fun p => !decide (p.1 = g0.b) := by
    unfold rnP
    rw [hgn, hg]
   rw [e1]
   exact d1
 clear he e
 rintro e υ ⟨he, hB, pv', hd⟩
 have hb2' := hB.keep _ _ hn2 hb2
 have hb3' := hB.keep _ _ hn3 hb3
 have hb4' := hB.keep _ _ hn4 hb4
 refine Zji ?_
 refine ⟨[0, 1, 2, 3, 4, 5], [[], [0], [0, 1], [0, 1, 2], [], [0, 1, 2, 3, 4]], fun _ => True, [], [], [], by kernel_rfl, ?_⟩
 refine Zcc ?_
 refine Zau (b := b4) (o := 0) (r := ptr bb 0) he.2.2.2 hb4' Zgj Zgk rfl ?_
 refine ZcA ?_
 refine Zcc ?_
 refine Zar (v := ptr bb 0) rfl rfl ?_
 refine ZcA ?_
 refine Zcc ?_
 refine Zaf (b := bb) (o := 0) rfl ZbI rfl ?_
 refine ZcA ?_
 refine Zcc ?_
 refine Zau (b := bb) (o := 0 + 1) (r := Zc9 mb) rfl hd.obj Zd6 Zd5 rfl ?_
 refine ZcA ?_
 refine Zcc ?_
 refine Zau (b := b2) (o := 0) (r := .raw (sV f0.nm)) he.2.1 hb2' Zdt Zcf rfl ?_
 refine ZcA ?_
 refine Zcc ?_
 refine Zpu (k := f0.nm) (es := Za3 (ZhD to fs)) (b := mb) rfl rfl hd.map ZgA ZiK fun υ2 hm2 k2 => ?_
 refine ⟨(fun hf => by cases hf), ?_⟩
 refine ZnA ?_
 have hne : ∀ c t cs, υ.blk c = some (.own t cs) -> υ2.blk c = some (.own t cs) := fun c t cs hc => k2.keep _ _ (fun q => ZeZ hc hd.map q) hc
 refine kp4 1 2 3 4 ?_
 clear he e
 intro e he
 refine Zq5 ?_
 refine ⟨[5, 0, 1, 2, 3, 4, 6], [[], [0], [0, 1], [0, 1, 2], [], [], [0, 1, 2, 3, 4, 5]], fun _ => True, [], [], [], by kernel_rfl, ?_⟩
 refine Zej ?_
 refine Zcc ?_
 refine Zau (b := b4) (o := 0) (r := ptr bb 0) he.2.2.2 (hne _ _ _ hb4') Zgj Zgk rfl ?_
 refine ZcA ?_
 refine Zcc ?_
 refine Zar (v := ptr bb 0) rfl rfl ?_
 refine ZcA ?_
 refine Zcc ?_
 refine Zaf (b := bb) (o := 0) rfl ZbI rfl ?_
 refine ZcA ?_
 refine Zcc ?_
 refine Zau (b := bb) (o := 0 + 1) (r := Zc9 mb) rfl (hne _ _ _ hd.obj) Zd6 Zd5 rfl ?_
 refine ZcA ?_
 refine Zcc ?_
 refine Zau (b := b3) (o := 0) (r := .raw (sV to)) he.2.2.1 (hne _ _ _ hb3') Zdt Zcf rfl ?_
 refine ZcA ?_
 refine Zcc ?_
 refine ZoU (k := to) (n := f0.b) (es := Zup (Za3 (ZhD to fs)) f0.nm) (b := mb) rfl rfl rfl hm2 ZgA ZiK fun υ3 hm3 k3 => ?_
 refine ⟨(fun hf => by cases hf), ?_⟩
 refine ZnA ?_
 have hf0' : f0 ∈ ZhD to fs := Zgt.2 ⟨hf0, hq⟩
 exact ⟨_, Zf6 rfl, hK2 hq υ3 pv' (hd.movF hf0' (fun f hf => (Zgt.1 hf).2) (k2.trans k3) hm3) (hB.trans ((k2.trans k3).sub fun c hc => by rw [hc]; exact h.own.2.1))⟩
end
end Go.Proofs.YteempnebenjkmaaGreatDoor
namespace Go.Proofs.YteempnebenjkmaaGreatDoor
open Go.RowKit
set_option maxRecDepth 100000
set_option linter.unusedVariables false
set_option linter.unusedSimpArgs false
section
variable {σ : St} {bb mb : Nat} {S : Nat -> Prop} {fs : List Fl} {pcs : List (Nat × Nat)} {size : Int} {pv : AV} {K : AV -> St -> Prop}
theorem ZAt {fr to : List UInt8} (h : DAt σ bb S fs pcs size mb pv) (hS : ∀ c, S c -> σ.used c) (hl : pcs.length <= 1000000000)
 (hK2 : (∃ f ∈ fs, f.nm = fr) -> ¬ (to ≠ [] /\ to.length <= 40) -> ∀ τ, Ext σ τ -> K (vI 2) τ)
 (hK6 : (∀ f ∈ fs, f.nm ≠ fr) -> ∀ τ, Ext σ τ -> K (vI 6) τ)
 (hKs : ∀ f0 ∈ fs, f0.nm = fr -> fr = to -> (to ≠ [] /\ to.length <= 40) -> ∀ τ, Ext σ τ -> K (vI 0) τ)
 (hK0 : ∀ f0 ∈ fs, f0.nm = fr -> fr ≠ to -> (to ≠ [] /\ to.length <= 40) -> ∀ τ pv', DAt τ bb S (rnF fs f0 to) (rnP fs pcs to) size mb pv' -> But S σ τ -> K (vI 0) τ) : Zan Tryz.prog 110 [ptr bb 0, .raw (sV fr), .raw (sV to)] σ K := by
 refine Zay ZaF Tryz.func110 rfl rfl rfl (Nat.le_of_ble_eq_true rfl) ?_
 refine Zp8 0 1 2 (v0 := ptr bb 0) (v1 := .raw (sV fr)) (v2 := .raw (sV to)) rfl rfl rfl ?_
 intro e he
 repeat refine Zab ?_
 first|refine Zaa ?_|refine Zac ?_
 refine Zad ?_
 refine Zh3 (cs := [ptr bb 0]) (v := ptr bb 0) he.1 rfl fun b3 σ1 hn3 hu3 hb3 hub3 hX1 => ?_
 refine Zad ?_
 refine Zh3 (cs := [.raw (sV fr)]) (v := .raw (sV fr)) he.2.1 rfl fun b4 σ2 hn4 hu4 hb4 hub4 hX2 => ?_
 refine Zad ?_
 refine Zh3 (cs := [.raw (sV to)]) (v := .raw (sV to)) he.2.2 rfl fun b5 σ3 hn5 hu5 hb5 hub5 hX3 => ?_
 refine Zah ?_
 refine Zag ?_
 have hE3 := (hX1.trans hX2).trans hX3
 have h3 := h.ext hE3
 have h3S : ¬ S b3 := fun q => hu3 (hS _ q)
 have h4S : ¬ S b4 := fun q => hu4 (hX1.used _ (hS _ q))
 have h5S : ¬ S b5 := fun q => hu5 (hX2.used _ (hX1.used _ (hS _ q)))
 have hb33 := hX3.keep _ _ (hX2.keep _ _ hb3)
 have hb43 := hX3.keep _ _ hb4
 refine kp3 3 4 5 ?_
 clear he e
 intro e he
 refine Zab ?_
 refine ZgZ (fun env υ => ∃ b : Bool, (env 3 = ptr b3 0 /\ env 4 = ptr b4 0 /\ env 5 = ptr b5 0 /\ env 22 = vT b) /\ Ext σ3 υ /\ (b = true -> (∃ f ∈ fs, f.nm = fr) /\ ¬ (to ≠ [] /\ to.length <= 40)) /\ (b = false -> (∃ f ∈ fs, f.nm = fr) -> (to ≠ [] /\ to.length <= 40))) ?_ ?_
 ·refine Zq5 ?_
  refine ⟨[0, 1, 2, 3, 4, 5, 6, 7, 8, 9, 10, 11, 12, 13, 14, 15], [[], [0], [0, 1], [0, 1, 2], [0, 1, 2, 3], [0, 1, 2, 3, 4], [0, 1, 2, 3, 4, 5], [0, 1, 2], [0, 1, 2, 3, 4, 5, 6, 7], [0, 1, 2, 3, 4, 5, 6, 7, 8], [0, 1, 2, 3, 4, 5, 6, 7, 8, 9], [0, 1, 2, 3, 4, 5, 6, 7, 8, 9, 10], [0, 1, 2, 3, 4, 5, 6, 7, 8, 9, 10, 11], [0, 1, 2, 3, 4, 5, 6, 7, 8, 9, 10, 11, 12], [0, 1, 2, 3, 4, 5, 6, 7, 8, 9, 10, 11, 12, 13], [0, 1, 2, 3, 4, 5, 6, 7, 8, 9, 10, 11, 12, 13, 14]], fun _ => True, [], [], [], by kernel_rfl, ?_⟩
  refine Zcc ?_
  refine Zau (b := b3) (o := 0) (r := ptr bb 0) he.1 hb33 Zgj Zgk rfl ?_
  refine ZcA ?_
  refine Zcc ?_
  refine ZeR (vs := [ptr bb 0]) (by simp only [List.map_cons, List.map_nil, EV,Nat.reduceEqDiff,↓reduceIte,he];try rfl) ?_
  refine Zgh h3 ?_
  refine ZcA ?_
  refine Zej ?_
  refine Zcc ?_
  refine Zau (b := b3) (o := 0) (r := ptr bb 0) he.1 hb33 Zgj Zgk rfl ?_
  refine ZcA ?_
  refine Zcc ?_
  refine Zar (v := ptr bb 0) rfl rfl ?_
  refine ZcA ?_
  refine Zcc ?_
  refine Zaf (b := bb) (o := 0) rfl ZbI rfl ?_
  refine ZcA ?_
  refine Zcc ?_
  refine Zau (b := bb) (o := 0 + 1) (r := Zc9 mb) rfl h3.obj Zd6 Zd5 rfl ?_
  refine ZcA ?_
  refine Zcc ?_
  refine Zau (b := b4) (o := 0) (r := .raw (sV fr)) he.2.1 hb43 Zdt Zcf rfl ?_
  refine ZcA ?_
  refine Zcc ?_
  refine Zfs (k := fr) (es := Za3 fs) (b := mb) rfl rfl h3.map ZgA ZiK Zjy ?_
  refine ZcA ?_
  cases hg : ZgL (Za3 fs) fr with
  | none =>
   refine Zcc ?_
   refine Ziv (p := none) ZgB rfl rfl rfl ?_
   refine ZcA ?_
   refine Zcc ?_
   refine Zbt (v := vT false) rfl rfl ?_
   refine ZcA ?_
   refine Zej ?_
   refine Zus ?_
   refine Zus ?_
   refine Zus ?_
   refine Zcc ?_
   refine Zb8 (v := vT false) rfl rfl ?_
   refine ZcA ?_
   refine ZnA ?_
   refine ⟨rfl, false, ⟨by simp only [EV,Nat.reduceEqDiff,↓reduceIte,he];try rfl, by simp only [EV,Nat.reduceEqDiff,↓reduceIte,he];try rfl, by simp only [EV,Nat.reduceEqDiff,↓reduceIte,he];try rfl, by simp only [EV,Nat.reduceEqDiff,↓reduceIte,he];try rfl⟩, .refl _, (fun q => by cases q), fun _ ⟨f, hf, hn⟩ => absurd hn (Zcv.1 hg f hf)⟩
  | some fb =>
   obtain ⟨f0, hf0, hnm, rfl⟩ := ZdO hg
   refine Zcc ?_
   refine Ziv (p := some ⟨f0.b, 0, none⟩) ZgB rfl rfl rfl ?_
   refine ZcA ?_
   refine Zcc ?_
   refine Zbt (v := vT true) rfl rfl ?_
   refine ZcA ?_
   refine Zej ?_
   refine Zcc ?_
   refine Zau (b := b5) (o := 0) (r := .raw (sV to)) he.2.2 hb5 Zdt Zcf rfl ?_
   refine ZcA ?_
   refine Zcc ?_
   refine ZeR (vs := [.raw (sV to)]) (by simp only [List.map_cons, List.map_nil, EV,Nat.reduceEqDiff,↓reduceIte,he];try rfl) ?_
   refine ZrK _ fun υ hX => ?_
   refine ⟨(fun hf => by cases hf), ?_⟩
   refine Zcc ?_
   refine ZrA rfl ?_
   refine ZcA ?_
   refine Zcc ?_
   refine Zbt (v := vT (!decide (to ≠ [] /\ to.length <= 40))) rfl rfl ?_
   refine ZcA ?_
   refine ZnA ?_
   refine ⟨rfl, !decide (to ≠ [] /\ to.length <= 40), ⟨by simp only [EV,Nat.reduceEqDiff,↓reduceIte,he];try rfl, by simp only [EV,Nat.reduceEqDiff,↓reduceIte,he];try rfl, by simp only [EV,Nat.reduceEqDiff,↓reduceIte,he];try rfl, by simp only [EV,Nat.reduceEqDiff,↓reduceIte,he];try rfl⟩, hX, fun q => ⟨⟨f0, hf0, hnm⟩, ?_⟩, fun q _ => ?_⟩
   ·rw [Bool.not_eq_true'] at q
    exact of_decide_eq_false q
   ·rw [Bool.not_eq_false'] at q
    exact of_decide_eq_true q
 clear he e
 rintro e υ ⟨b, he, hX, g1, g2⟩
 refine Za0 (t := b) he.2.2.2 (fun hb => ?_) (fun hb => ?_)
 ·repeat refine Zab ?_
  first|refine Zaa ?_|refine Zac ?_
  refine Zah ?_
  refine Zag ?_
  refine ZgI ?_
  obtain ⟨q1, q2⟩ := g1 hb
  exact ZbX (hK2 q1 q2 υ (hE3.trans hX))
 have g2 := g2 hb
 refine Zbh ?_
 have hE := hE3.trans hX
 have hb3' := hX.keep _ _ hb33
 have hb4' := hX.keep _ _ hb43
 have hb5' := hX.keep _ _ hb5
 repeat refine Zab ?_
 first|refine Zaa ?_|refine Zac ?_
 refine Zad ?_
 refine Zau (b := b3) (o := 0) (r := ptr bb 0) he.1 hb3' Zgj Zgk rfl ?_
 refine Zad ?_
 refine Zgf (vs := [ptr b4 0, ptr b5 0, ptr b3 0]) (by simp only [List.map_cons, List.map_nil, EV,Nat.reduceEqDiff,↓reduceIte,he];try rfl) ?_
 refine Zad ?_
 refine Zau (b := b4) (o := 0) (r := .raw (sV fr)) he.2.1 hb4' Zdt Zcf rfl ?_
 refine Zad ?_
 refine Zkx (vs := [.raw (sV fr)]) (cells := [.raw (sV fr)]) (by simp only [List.map_cons, List.map_nil, EV,Nat.reduceEqDiff,↓reduceIte,he];try rfl) Zjv Zcf Zn2 rfl (by omega) rfl rfl fun b26 υ5 hN5 hX5 => ?_
 have hE5 := hE.trans hX5
 have h5 := h.ext hE5
 have hNm : ∀ υ, ZiN υ (.lst (some ⟨b26, 0, none⟩) 1 1 [.raw (sV fr)]) [fr] := fun υ => .inl ⟨some ⟨b26, 0, none⟩, 1, [], rfl, fun q => (by cases q)⟩
 refine ZaN [ptr bb 0, fnG 167 #[] #[.pointer (some ⟨b4, 0, none⟩), .pointer (some ⟨b5, 0, none⟩), .pointer (some ⟨b3, 0, none⟩)], .lst (some ⟨b26, 0, none⟩) 1 1 [.raw (sV fr)]] ?_
 refine ZqE (ns := [fr]) (fun i τ => match i with
  | 0 => τ = υ5
  | _ => K (vI 0) τ) h5 (hNm _) (by simp) rfl (fun i hi τ hI => ?_) (fun τ hI => ?_)
 ·obtain rfl : i = 0 := by simp at hi; exact hi
  have hI : τ = υ5 := hI
  subst hI
  refine ⟨S, fs, pcs, size, mb, pv, h5, hNm _, fun hg => ?_, fun fb hg => ?_⟩
  ·refine Zah ?_
   refine Zag ?_
   refine Za5 ?_
   exact ZbX (hK6 (Zcv.1 hg) _ hE5)
  ·obtain ⟨f0, hf0, hnm, rfl⟩ := ZdO hg
   have hnm : f0.nm = fr := hnm
   refine ZyU (to := to) h5 hl hf0 (by rw [hnm]; exact hX5.keep _ _ hb4') (hX5.keep _ _ hb5') (hX5.keep _ _ hb3') h4S h5S h3S (fun q => ?_) fun q τ2 pv' d1 d2 => ?_
   ·exact hKs f0 hf0 hnm (hnm ▸ q) (g2 ⟨f0, hf0, hnm⟩) _ hE5
   ·exact hK0 f0 hf0 hnm (hnm ▸ q) (g2 ⟨f0, hf0, hnm⟩) τ2 pv' d1 (hE5.but.trans d2)
 ·refine Zah ?_
  refine Zag ?_
  refine Za5 ?_
  exact ZbX (hI)
end
end Go.Proofs.YteempnebenjkmaaGreatDoor
namespace Go.Proofs.YteempnebenjkmaaGreatDoor
open Go.RowKit
set_option maxRecDepth 100000
set_option linter.unusedVariables false
set_option linter.unusedSimpArgs false
section
variable {P : Program} {ops : Array Oper} {d : Option Nat} {ty ty' : TypeId} {pos : String} {af : Array Edge} {env : Env} {σ : St} {K : Env -> St -> Prop} {x y : Operand} {t : TypeId}
theorem ZrT {a c : List UInt8} (hl : a.length + c.length <= 1000000000) (hx : ev env x = .raw (sV a)) (hy : ev env y = .raw (sV c)) (h : K (env.put d (.raw (sV (a ++ c)))) σ) : aOp P ops ⟨d, .binOp .add t x y ty', ty, pos, af, none⟩ env σ K :=
 ZgP hx hy (fun w _ _ => by
  rw [AV.val_raw, AV.val_raw]
  have hs : (ByteArray.mk a.toArray).size + (ByteArray.mk c.toArray).size <= 9223372036854775807 := by
   show a.toArray.size + c.toArray.size <= (9223372036854775807 : Nat)
   simp only [List.size_toArray]
   omega
  rw [eqGuard_at_string, pure_bind, binOp_string_add, run_string_add_sum w _ _ hs, ByteArray.mk_append_mk]) h
end
theorem ZAu : Program.underlying Tryz.prog 28 = some (.pointer (Program.pointee Tryz.prog 28)) := by kernel_rfl
theorem Zl0 : ZaR Tryz.prog 96 = some (.agg #[.pointer none, .string ⟨#[]⟩]) := by kernel_rfl
theorem ZyV : ZcL Tryz.prog 96 = some [(0, 1), (1, 1)] := by kernel_rfl
theorem ZjZ : Zax Tryz.prog 96 = some 2 := by kernel_rfl
theorem Zu5 : Zdk Tryz.prog 96 = some true := by kernel_rfl
theorem Zfj : Zbp Tryz.prog 96 = some [(0, some 1, some false), (1, some 1, some false)] := by kernel_rfl
theorem Zj0 : Zdk Tryz.prog 28 = some false := by kernel_rfl
theorem Zj1 : Zax Tryz.prog 28 = some 1 := by kernel_rfl
def Zch (g : Nat) : List UInt8 := [105, 109, 97, 103, 101, 46] ++ Go.Lib.decDigits g
section
variable {σ τ : St} {bb mb : Nat} {S : Nat -> Prop} {fs : List Fl} {pcs : List (Nat × Nat)} {size : Int} {pv : AV} {K : AV -> St -> Prop}
theorem ZyW {i : Nat} (hi : i < 100) (hK : K (.raw (sV (Go.Lib.decDigits i))) σ) : Zan Tryz.prog 86 [vI i] σ K := by
 intro w Z hH hV
 refine .inl ⟨by kernel_rfl, ?_⟩
 refine Calls.mono (Tryz.strconv_Itoa_small i hi w) ?_
 rintro e w' ⟨rfl, rfl⟩
 exact ⟨.raw (sV _), σ, rfl, hK, hH, Zaz _, Grow.refl _ _⟩
set_option maxHeartbeats 1000000 in
theorem ZyX {bb g : Nat} (hg : g <= 4) (hd : (Go.Lib.decDigits g).length <= 100) (hK : ∀ τ, Ext σ τ -> K (.tup [.agg [ptr bb 0, .raw (sV (Zch g))], vI 0]) τ) : Zan Tryz.prog 43 [ptr bb 0, vI g] σ K := by
 refine Zay ZaF Tryz.func43 rfl rfl rfl (Nat.le_of_ble_eq_true rfl) ?_
 refine Zhx 0 1 (v0 := ptr bb 0) (v1 := vI g) rfl rfl ?_
 have h4 : decide ((4 : Int) < (g : Int)) = false := decide_eq_false (by omega)
 have h0 : decide ((g : Int) < 0) = false := decide_eq_false (by omega)
 intro e he
 repeat refine Zab ?_
 first|refine Zaa ?_|refine Zac ?_
 refine Zad ?_
 refine Zdn Zl0 rfl fun b υ hn hu hb hub hX => ?_
 refine Zah ?_
 refine Zag ?_
 refine kp3 0 1 4 ?_
 clear he e
 intro e he
 refine ZdI ?_ -- block 0
 repeat refine Zab ?_
 first|refine Zaa ?_|refine Zac ?_
 refine Zah ?_
 refine Zad ?_
 refine Zf7 (p := some ⟨bb, 0, none⟩) ZAu rfl rfl rfl ?_
 refine Zah ?_
 refine Zag ?_
 refine kp4 0 1 4 6 ?_
 clear he e
 intro e he
 refine ZcM (t := false) he.2.2.2 (fun ht => by cases ht) (fun ht => ?_)
 repeat refine Zab ?_
 first|refine Zaa ?_|refine Zac ?_
 refine Zah ?_
 refine Zad ?_
 refine Zx1 (k := .i64) (a := (g : Int)) (b := 0) rfl rfl ?_
 refine Zah ?_
 refine Zcp ?_
 refine ZkQ rfl he.2.1 ?_
 refine Zcp ?_
 refine Zp5 (k := .i64) (a := (g : Int)) (b := 4) rfl rfl ?_
 refine Zad ?_
 refine Zb8 (v := vT false) rfl (by simp only [EV,Nat.reduceEqDiff,↓reduceIte,he, h4]; rfl) ?_
 refine Zah ?_
 refine Zag ?_
 refine kp4 0 1 4 10 ?_
 clear he e
 intro e he
 refine ZcM (t := false) he.2.2.2 (fun ht => by cases ht) (fun ht => ?_)
 refine Zbh ?_
 repeat refine Zab ?_
 first|refine Zaa ?_|refine Zac ?_
 refine Zah ?_
 refine Zah ?_
 refine ZaN [vI g] ?_
 refine ZyW (by omega) ?_
 refine Zad ?_
 refine ZrT (a := [105, 109, 97, 103, 101, 46]) (c := Go.Lib.decDigits g) (by simp; omega) rfl rfl ?_
 refine Zad ?_
 refine Zf3 (vs := [ptr bb 0, .raw (sV (Zch g))]) (cells := [ptr bb 0, .raw (sV (Zch g))]) (by simp only [List.map_cons, List.map_nil, EV,Nat.reduceEqDiff,↓reduceIte,he]; try rfl) Zl0 ZyV rfl ?_
 refine Zad ?_
 refine Zcs (b := b) (o := 0) (u := .agg [ptr bb 0, .raw (sV (Zch g))]) he.2.2.1 rfl hb ZjZ rfl rfl fun υ2 hb2 k2 => ?_
 refine Zah ?_
 refine Zag ?_
 refine kp2 4 5 ?_
 clear he e
 intro e he
 refine Za5 ?_
 exact Zni rfl (ZeT he.1 hb2 Zu5 ZjZ rfl) (Zdo he.2) (hK υ2 (But.ext hX (fun g hg => by rw [hg]; exact hn) k2))
theorem ZwM {k nm : List UInt8} {b0 b1 : Nat} (h : DAt σ bb S fs pcs size mb pv) (hS : ∀ c, S c -> σ.used c) (hl : pcs.length <= 1000000000) (hb0 : σ.blk b0 = some (.own 96 [ptr bb 0, .raw (sV nm)])) (hb1 : σ.blk b1 = some (.own 9 [.raw (sV k)]))
 (hnm : nm ≠ [] /\ nm.length <= 40) (hne : k ≠ nm) {f0 : Fl} (hf0 : f0 ∈ fs) (hk : f0.nm = k) (hK : ∀ τ pv', DAt τ bb S (rnF fs f0 nm) (rnP fs pcs nm) size mb pv' -> But S σ τ -> K (vI 0) τ) : Zan Tryz.prog 109 [ptr b0 0, ptr b1 0] σ K := by
 refine Zay ZaF Tryz.func109 rfl rfl rfl (Nat.le_of_ble_eq_true rfl) ?_
 refine Zhx 0 1 (v0 := ptr b0 0) (v1 := ptr b1 0) rfl rfl ?_
 intro e he
 repeat refine Zab ?_
 first|refine Zaa ?_|refine Zac ?_
 refine Zah ?_
 refine Zag ?_
 refine kp2 0 1 ?_
 clear he e
 intro e he
 repeat refine Zab ?_
 first|refine Zaa ?_|refine Zac ?_
 refine Zad ?_
 refine Zaf (b := b0) (o := 0) he.1 Zfj rfl ?_
 refine Zad ?_
 refine Zau (b := b0) (o := 0) (r := ptr bb 0) rfl hb0 Zj0 Zj1 rfl ?_
 refine Zad ?_
 refine Zau (b := b1) (o := 0) (r := .raw (sV k)) he.2 hb1 Zdt Zcf rfl ?_
 refine Zad ?_
 refine Zaf (b := b0) (o := 0) he.1 Zfj rfl ?_
 refine Zad ?_
 refine Zau (b := b0) (o := 0 + 1) (r := .raw (sV nm)) rfl hb0 Zdt Zcf rfl ?_
 refine ZaN [ptr bb 0, .raw (sV k), .raw (sV nm)] ?_
 refine ZAt h hS hl (fun _ hx => absurd hnm hx) (fun hx => absurd hk (hx f0 hf0)) (fun f hf e1 e2 => absurd e2 hne) fun f hf e1 _ _ υ pv' h2 k2 => ?_
 obtain rfl : f = f0 := h.uniqN hf hf0 (e1.trans hk.symm)
 refine Zah ?_
 refine Zag ?_
 refine kp1 2 ?_
 clear he e
 intro e he
 refine Za5 ?_
 exact ZbX (hK υ pv' h2 k2)
theorem ZxK {σ : St} {b : Nat} {k : List UInt8} : ZiN σ (.lst (some ⟨b, 0, none⟩) 1 1 [.raw (sV k)]) [k] := .inl ⟨some ⟨b, 0, none⟩, 1, [], rfl, fun q => (by cases q)⟩
theorem ZwN {k nm : List UInt8} {b0 b1 : Nat} (h : DAt σ bb S fs pcs size mb pv) (hS : ∀ c, S c -> σ.used c) (hl : pcs.length <= 1000000000) (hb0 : σ.blk b0 = some (.own 96 [ptr bb 0, .raw (sV nm)])) (hb1 : σ.blk b1 = some (.own 9 [.raw (sV k)]))
 (hK : ∀ τ pv', DAt τ bb S fs (ZeL fs [k] pcs).1 size mb pv' -> But S σ τ -> K (vI (ZeL fs [k] pcs).2) τ) : Zan Tryz.prog 107 [ptr b0 0, ptr b1 0] σ K := by
 refine Zay ZaF Tryz.func107 rfl rfl rfl (Nat.le_of_ble_eq_true rfl) ?_
 refine Zhx 0 1 (v0 := ptr b0 0) (v1 := ptr b1 0) rfl rfl ?_
 intro e he
 repeat refine Zab ?_
 first|refine Zaa ?_|refine Zac ?_
 refine Zah ?_
 refine Zag ?_
 refine kp2 0 1 ?_
 clear he e
 intro e he
 repeat refine Zab ?_
 first|refine Zaa ?_|refine Zac ?_
 refine Zad ?_
 refine Zaf (b := b0) (o := 0) he.1 Zfj rfl ?_
 refine Zad ?_
 refine Zau (b := b0) (o := 0) (r := ptr bb 0) rfl hb0 Zj0 Zj1 rfl ?_
 refine Zad ?_
 refine Zau (b := b1) (o := 0) (r := .raw (sV k)) he.2 hb1 Zdt Zcf rfl ?_
 refine Zad ?_
 refine Zkx (vs := [.raw (sV k)]) (cells := [.raw (sV k)]) (by simp only [List.map_cons, List.map_nil, EV,Nat.reduceEqDiff,↓reduceIte,he]; try rfl) Zjv Zcf Zn2 rfl (by omega) rfl rfl fun rb σ2 hN2 hX2 => ?_
 refine ZaN [ptr bb 0, .lst (some ⟨rb, 0, none⟩) 1 1 [.raw (sV k)]] ?_
 have h2 := h.but (U := fun _ => False) hX2.but fun b hb hf => hf
 refine ZyQ h2 (fun c hc => hX2.used _ (hS c hc)) hl ZxK (fun c hc => by cases hc) (by simp) fun υ pv' h3 k3 => ?_
 refine Zah ?_
 refine Zag ?_
 refine kp1 2 ?_
 clear he e
 intro e he
 refine Za5 ?_
 exact ZbX (hK υ pv' h3 ⟨fun c k hc hk => k3.keep _ _ hc (hX2.keep _ _ hk), fun c hc => k3.used _ (hX2.used _ hc)⟩)
theorem Zn4 : Zaq Tryz.prog 240 = some 114 := by kernel_rfl
theorem ZqR : Zax Tryz.prog 114 = some 1 := by kernel_rfl
theorem ZyY : Zdk Tryz.prog 114 = some false := by kernel_rfl
def fnL (l : List (FuncId × Array Value)) : List AV := l.map fun p => .raw (.func (.func p.1) #[] p.2)
set_option maxHeartbeats 1000000 in
theorem ZAv {l : List (FuncId × Array Value)} {A : Option Addr} {c : Nat} (I : Nat -> St -> Prop) (hA : A = none -> l.length = 0) (hl : l.length <= 1000) (h0 : I 0 σ)
 (hstep : ∀ i (hi : i < l.length) υ, I i υ -> Zan Tryz.prog (l[i]).1 ((l[i]).2.toList.map .raw) υ fun r τ => ∃ n : Int, r = vI n /\ (n = 0 -> I (i + 1) τ) /\ (n ≠ 0 -> K (vI n) τ))
 (hend : ∀ υ, I l.length υ -> K (vI 0) υ) : Zan Tryz.prog 105 [.lst A l.length c (fnL l)] σ K := by
 refine Zay ZaF Tryz.func105 rfl rfl rfl (Nat.le_of_ble_eq_true rfl) ?_
 refine Zla 0 (v0 := .lst A l.length c (fnL l)) rfl ?_
 intro e he
 repeat refine Zab ?_
 first|refine Zaa ?_|refine Zac ?_
 refine Zah ?_
 refine Zag ?_
 refine kp1 0 ?_
 clear he e
 intro e he
 repeat refine Zab ?_
 first|refine Zaa ?_|refine Zac ?_
 refine Zah ?_
 refine Zad ?_
 refine ZhO (A := A) (n := l.length) (c := c) rfl rfl rfl Zn4 ?_
 refine Zah ?_
 refine Zag ?_
 refine kp3 6 7 8 ?_
 clear he e
 intro e he
 refine ZdI ?_
 refine Zf4 (fun μ env υ => ∃ i : Nat, μ = l.length - i /\ i <= l.length /\ (env 6 = .lst A l.length c (fnL l) /\ env 7 = vI l.length /\ env 8 = vI i) /\ I i υ) ⟨_, 0, rfl, Nat.zero_le _, he, h0⟩ ?_
 clear he e
 rintro _ e υ ⟨i, rfl, hi, he, hI⟩
 repeat refine Zab ?_
 first|refine Zaa ?_|refine Zac ?_
 refine Zqy i l.length ?_
 refine Zag ?_
 refine kp4 6 7 8 9 ?_
 clear he e
 intro e he
 refine Za0 (t := decide (i < l.length)) he.2.2.2 (fun ht => ?_) (fun ht => ?_)
 ·have hlt : i < l.length := of_decide_eq_true ht
  refine Zbh ?_
  refine ZdI ?_
  repeat refine Zab ?_
  first|refine Zaa ?_|refine Zac ?_
  refine Zad ?_
  refine Ziu (k := .i64) (j := i) he.1 he.2.2.1 Zn4 ZqR hlt hA rfl fun ad => ?_
  refine Zad ?_
  refine ZkK (r := .raw (.func (.func (l[i]).1) #[] (l[i]).2)) rfl ZyY ZqR (by
   show ((fnL l).drop (i * 1))[0]? = _
   rw [List.getElem?_drop, Nat.mul_one, Nat.add_zero]
   simp [fnL, hlt]) ?_
  refine Zah ?_
  refine Zag ?_
  refine kp4 4 6 7 8 ?_
  clear he e
  intro e he
  repeat refine Zab ?_
  first|refine Zaa ?_|refine Zac ?_
  refine Zah ?_
  refine Zad ?_
  refine ZqA (g := (l[i]).1) (caps := (l[i]).2) (vs := []) rfl rfl ?_
  refine (hstep i hlt υ hI).mono fun a τ hn => ?_
  obtain ⟨n, rfl, hz, hk⟩ := hn
  refine Zah ?_
  refine Zag ?_
  refine kp4 5 6 7 8 ?_
  clear he e
  intro e he
  repeat refine Zab ?_
  first|refine Zaa ?_|refine Zac ?_
  refine Zah ?_
  refine Zad ?_
  refine Zit (k := .i64) (a := n) (b := 0) rfl rfl ?_
  refine Zag ?_
  refine kp5 5 6 7 8 15 ?_
  clear he e
  intro e he
  refine ZcM (t := decide (n ≠ 0)) he.2.2.2.2 (fun ht => ?_) (fun ht => ?_)
  ·repeat refine Zab ?_
   first|refine Zaa ?_|refine Zac ?_
   refine Zah ?_
   refine Zah ?_
   refine Zag ?_
   refine kp1 2 ?_
   clear he e
   intro e he
   refine ZgI ?_
   exact ZbX (hk (of_decide_eq_true ht))
  ·refine Ze7 ?_
   show ZaG _ _ _ _ _ _
   refine Zac ?_
   refine ZlE i 1 ?_
   refine Zah ?_
   refine Zag ?_
   show ∃ n', n' < _ /\ _
   exact ⟨_, (by omega : l.length - (i + 1) < l.length - i), i + 1, rfl, hlt, ⟨by simp only [EV,Nat.reduceEqDiff,↓reduceIte,he];try rfl, by simp only [EV,Nat.reduceEqDiff,↓reduceIte,he];try rfl, by simp only [EV,Nat.reduceEqDiff,↓reduceIte,he];try rfl⟩, hz (Decidable.byContradiction fun hne => by simp [hne] at ht)⟩
 ·have hke : i = l.length := by have := of_decide_eq_false ht; omega
  subst hke
  refine ZhK ?_
  show ZaG _ _ _ _ _ _
  repeat refine Zab ?_
  first|refine Zaa ?_|refine Zac ?_
  refine Zah ?_
  refine Zag ?_
  refine kp1 2 ?_
  clear he e
  intro e he
  refine Za5 ?_
  exact ZbX (hend υ hI)
theorem ZyZ : ZaR Tryz.prog 114 = some .nilFunc := by kernel_rfl
theorem Zn5 : ZaR Tryz.prog 22 = some (.slice none 0 0) := by kernel_rfl
theorem Zu6 : Zdk Tryz.prog 22 = some false := by kernel_rfl
theorem Zj2 : Zax Tryz.prog 22 = some 1 := by kernel_rfl
theorem Zn6 : Zaq Tryz.prog 27 = some 22 := by kernel_rfl
set_option maxHeartbeats 1000000 in
theorem ZwO {k nm d : List UInt8} {v : AV} {b0 b1 b2 : Nat} (h : DAt σ bb S fs pcs size mb pv) (hS : ∀ c, S c -> σ.used c) (hb0 : σ.blk b0 = some (.own 96 [ptr bb 0, .raw (sV nm)])) (hb1 : σ.blk b1 = some (.own 9 [.raw (sV k)])) (hb2 : σ.blk b2 = some (.own 22 [v]))
 (hv : SV CT 0 ZbF (.sl 1 d none) v) (hk : k ≠ [] /\ k.length <= 40) (hlen : d.length + Zde fs <= 100000000) (hp : pcs.length <= 100000000)
 (hK8 : ¬ (size < 1 \/ ((d.length + Zde fs : Nat) : Int) <= size) -> ∀ τ, Ext σ τ -> K (vI 8) τ)
 (hK0 : (size < 1 \/ ((d.length + Zde fs : Nat) : Int) <= size) -> ∀ τ S' fs' pcs' pv', DAt τ bb S' fs' pcs' size mb pv' -> But S σ τ -> (∀ c, S c -> S' c) -> (∀ c, S' c -> S c \/ Zei σ c) -> (∀ c, S' c -> τ.used c) -> ZsT fs pcs k d fs' pcs' -> K (vI 0) τ) : Zan Tryz.prog 106 [ptr b0 0, ptr b1 0, ptr b2 0] σ K := by
 refine Zay ZaF Tryz.func106 rfl rfl rfl (Nat.le_of_ble_eq_true rfl) ?_
 refine Zp8 0 1 2 (v0 := ptr b0 0) (v1 := ptr b1 0) (v2 := ptr b2 0) rfl rfl rfl ?_
 intro e he
 obtain ⟨A, c, rest, rfl, hA⟩ := ZeY hv
 repeat refine Zab ?_
 first|refine Zaa ?_|refine Zac ?_
 refine Zah ?_
 refine Zag ?_
 refine kp3 0 1 2 ?_
 clear he e
 intro e he
 repeat refine Zab ?_
 first|refine Zaa ?_|refine Zac ?_
 refine Zad ?_
 refine Zaf (b := b0) (o := 0) he.1 Zfj rfl ?_
 refine Zad ?_
 refine Zau (b := b0) (o := 0) (r := ptr bb 0) rfl hb0 Zj0 Zj1 rfl ?_
 refine Zad ?_
 refine Zau (b := b1) (o := 0) (r := .raw (sV k)) he.2.1 hb1 Zdt Zcf rfl ?_
 refine Zad ?_
 refine Zau (b := b2) (o := 0) (r := .lst A d.length c (bys d ++ rest)) he.2.2 hb2 Zu6 Zj2 rfl ?_
 refine Zad ?_
 refine Zkx (vs := [.lst A d.length c (bys d ++ rest)]) (cells := [.lst A d.length c (bys d ++ rest)]) (by simp only [List.map_cons, List.map_nil, EV,Nat.reduceEqDiff,↓reduceIte,he]; try rfl) Zn6 Zj2 Zn5 rfl (by omega) rfl rfl fun rb σ2 hN2 hX2 => ?_
 refine ZaN [ptr bb 0, .raw (sV k), .lst (some ⟨rb, 0, none⟩) 1 1 [.lst A d.length c (bys d ++ rest)]] ?_
 have h2 := h.but (U := fun _ => False) hX2.but fun b hb hf => hf
 refine Zo7 (d := d) h2 (fun c hc => hX2.used _ (hS c hc)) (fun τ0 hX0 K' hK' => Zo4 (ps := [d]) (Zcu.2 ⟨some ⟨rb, 0, none⟩, 1, [.lst A d.length c (bys d ++ rest)], [], rfl, Nat.le_refl _, by decide, by simp, fun q => (by cases q), ?_⟩) (by simp) (by simp; omega) K' ?_) hlen hp (fun hn => absurd hk hn) (fun _ hn υ hX => ?_) (fun _ hf υ S' fs' pcs' pv' g1 g2 g3 g4 g5 g6 => ?_)
 ·exact .cons hv .none
 ·intro v τ q1 q2 q3
  simp only [List.flatten_cons, List.flatten_nil, List.append_nil] at q1
  exact hK' v τ q1 q2 q3
 ·refine Zah ?_
  refine Zag ?_
  refine kp1 3 ?_
  clear he e
  intro e he
  refine Za5 ?_
  exact ZbX (hK8 hn υ (hX2.trans hX))
 ·refine Zah ?_
  refine Zag ?_
  refine kp1 3 ?_
  clear he e
  intro e he
  refine Za5 ?_
  exact ZbX (hK0 hf υ S' fs' pcs' pv' g1 ⟨fun c k hc hk => g2.keep _ _ hc (hX2.keep _ _ hk), fun c hc => g2.used _ (hX2.used _ hc)⟩ g3 (fun c hc => (g4 c hc).imp id fun q => q.of hX2) g5 g6)
theorem ZkW {S S' : Nat -> Prop} {σ υ τ : St} (h : But S σ υ) (k : But S' υ τ) (hS : ∀ c, S' c -> S c \/ Zei σ c) : But S σ τ :=
 ⟨fun c x hc hx => k.keep _ _ (fun hq => (hS c hq).elim hc fun hn => by rw [hn.1] at hx; cases hx) (h.keep _ _ hc hx), fun c hc => k.used _ (h.used _ hc)⟩
structure Zs9 (fs : List Fl) (pcs : List (Nat × Nat)) (k nm d : List UInt8) (fs3 : List Fl) (pcs3 : List (Nat × Nat)) : Prop where
 ex : ∃ fs2 pcs2 f0, ZsT fs pcs k d fs2 pcs2 /\ (fs2.map (·.b)).Nodup /\ f0 ∈ fs2 /\ f0.nm = k /\ fs3 = rnF fs2 f0 nm /\ pcs3 = rnP fs2 (ZeL fs2 [k] pcs2).1 nm
theorem ZrU {fs fs' : List Fl} {pcs pcs' : List (Nat × Nat)} {k d : List UInt8} (h : ZsT fs pcs k d fs' pcs') : ∃ f0 ∈ fs', f0.nm = k := by
 obtain ⟨fs1, f0, v', _, h2, h3, rfl, _⟩ := h
 refine ⟨Zco f0.b v' (f0.d ++ d) f0, List.mem_map.2 ⟨f0, h2, rfl⟩, ?_⟩
 unfold Zco
 split <;> exact h3
theorem ZrV {fs fs' : List Fl} {pcs pcs' : List (Nat × Nat)} {k d : List UInt8} (h : ZsT fs pcs k d fs' pcs') : pcs'.length <= pcs.length + 1 := by
 obtain ⟨fs1, f0, v', _, h2, h3, rfl, rfl⟩ := h
 rw [List.length_append]
 split <;> simp
theorem Zpw (fs : List Fl) : ∀ ns (pcs : List (Nat × Nat)), (ZeL fs ns pcs).1.length <= pcs.length
 | [], pcs => Nat.le_refl _
 | n :: ns, pcs => by
  unfold ZeL
  split
  ·exact Nat.le_refl _
  ·exact Nat.le_trans (Zpw fs ns _) (List.length_filter_le _ _)
theorem Zta {fs : List Fl} {pcs : List (Nat × Nat)} {k : List UInt8} {f0 : Fl} (h : f0 ∈ fs) (hk : f0.nm = k) : (ZeL fs [k] pcs).2 = 0 := by
 cases hg : ZgL (Za3 fs) k with
 | none => exact absurd hk (Zcv.1 hg f0 h)
 | some fb => rw [Zhj hg]; rfl
set_option maxHeartbeats 2000000 in
theorem Zy0 {nm d : List UInt8} {v : AV} (h : DAt σ bb S fs pcs size mb pv) (hS : ∀ c, S c -> σ.used c) (hv : SV CT 0 ZbF (.sl 1 d none) v) (hnm : nm ≠ [] /\ nm.length <= 36) (hlen : d.length + Zde (ZfS [nm ++ [46, 110, 101, 119]] fs pcs).1 <= 100000000) (hl : pcs.length <= 100000000) (hl2 : (ZfS [nm ++ [46, 110, 101, 119]] fs pcs).2.1.length <= 99999999)
 (hK8 : ¬ (size < 1 \/ ((d.length + Zde (ZfS [nm ++ [46, 110, 101, 119]] fs pcs).1 : Nat) : Int) <= size) -> ∀ τ pv', DAt τ bb S (ZfS [nm ++ [46, 110, 101, 119]] fs pcs).1 (ZfS [nm ++ [46, 110, 101, 119]] fs pcs).2.1 size mb pv' -> But S σ τ -> K (vI 8) τ)
 (hK0 : (size < 1 \/ ((d.length + Zde (ZfS [nm ++ [46, 110, 101, 119]] fs pcs).1 : Nat) : Int) <= size) -> ∀ τ S' fs' pcs' pv', DAt τ bb S' fs' pcs' size mb pv' -> But S σ τ -> (∀ c, S c -> S' c) -> (∀ c, S' c -> S c \/ Zei σ c) -> (∀ c, S' c -> τ.used c) -> Zs9 (ZfS [nm ++ [46, 110, 101, 119]] fs pcs).1 (ZfS [nm ++ [46, 110, 101, 119]] fs pcs).2.1 (nm ++ [46, 110, 101, 119]) nm d fs' pcs' -> K (vI 0) τ) :
 Zan Tryz.prog 60 [.agg [ptr bb 0, .raw (sV nm)], v] σ K := by
 refine Zay ZaF Tryz.func60 rfl rfl rfl (Nat.le_of_ble_eq_true rfl) ?_
 refine Zhx 0 1 (v0 := .agg [ptr bb 0, .raw (sV nm)]) (v1 := v) rfl rfl ?_
 intro e he
 obtain ⟨A, c, rest, rfl, hA⟩ := ZeY hv
 generalize hkd : nm ++ [46, 110, 101, 119] = k at *
 have hkl : k.length = nm.length + 4 := by rw [<- hkd]; simp
 have hkr : k ≠ [] /\ k.length <= 40 := ⟨fun q => by rw [q] at hkl; simp at hkl, by omega⟩
 have hkn : k ≠ nm := fun q => by rw [q] at hkl; omega
 generalize hr : ZfS [k] fs pcs = rr at *
 obtain ⟨fs1, ZpM, er⟩ := rr
 dsimp only at hlen hl2 hK8 hK0
 repeat refine Zab ?_
 first|refine Zaa ?_|refine Zac ?_
 refine Zad ?_
 refine Zh3 (cs := [ptr bb 0, .raw (sV nm)]) he.1 rfl fun b0 σ1 hn1 hu1 hb1 hub1 hX1 => ?_
 refine Zad ?_
 refine Zh3 (cs := [.lst A d.length c (bys d ++ rest)]) he.2 rfl fun b1 σ2 hn2 hu2 hb2 hub2 hX2 => ?_
 refine Zah ?_
 refine Zag ?_
 refine kp2 2 3 ?_
 clear he e
 intro e he
 repeat refine Zab ?_
 first|refine Zaa ?_|refine Zac ?_
 refine Zad ?_
 have hb1' := hX2.keep _ _ hb1
 refine Zaf (b := b0) (o := 0) he.1 Zfj rfl ?_
 refine Zad ?_
 refine Zau (b := b0) (o := 0 + 1) (r := .raw (sV nm)) rfl hb1' Zdt Zcf rfl ?_
 refine Zad ?_
 refine ZrT (a := nm) (c := [46, 110, 101, 119]) (by simp; omega) rfl rfl ?_
 rw [hkd]
 refine Zad ?_
 refine Zdn Zn2 rfl fun b2 σ3 hn3 hu3 hb3 hub3 hX3 => ?_
 refine Zad ?_
 refine Zgi (b := b2) (o := 0) (v := .raw (sV k)) rfl rfl hb3 Zcf ⟨rfl, rfl, rfl⟩ (Nat.zero_lt_succ _) fun σ4 hb4 k4 => ?_
 refine Zag ?_
 refine kp3 2 3 5 ?_
 clear he e
 intro e he
 have hX4 : Ext σ σ4 := But.ext ((hX1.trans hX2).trans hX3) (fun g hg => by rw [hg]; exact ((hX1.trans hX2).noneOf hn3)) k4
 have e0 : σ4.blk b0 = some (.own 96 [ptr bb 0, .raw (sV nm)]) := k4.keep _ _ (fun q => by rw [q] at hb1'; rw [hn3] at hb1'; cases hb1') (hX3.keep _ _ hb1')
 have e1 : σ4.blk b1 = some (.own 22 [.lst A d.length c (bys d ++ rest)]) := k4.keep _ _ (fun q => by rw [q] at hb2; rw [hn3] at hb2; cases hb2) (hX3.keep _ _ hb2)
 have n0 : Zei σ b0 := ⟨hn1, hu1⟩
 have n1 : Zei σ b1 := Zei.of ⟨hn2, hu2⟩ hX1
 have n2 : Zei σ b2 := Zei.of ⟨hn3, hu3⟩ (hX1.trans hX2)
 have hnS : ∀ c, Zei σ c -> ¬ S c := fun c hc q => hc.2 (hS c q)
 repeat refine Zab ?_
 first|refine Zaa ?_|refine Zac ?_
 refine Zad ?_
 refine Zaf (b := b0) (o := 0) he.1 Zfj rfl ?_
 refine Zad ?_
 refine Zau (b := b0) (o := 0) (r := ptr bb 0) rfl e0 Zj0 Zj1 rfl ?_
 refine Zad ?_
 refine Zau (b := b2) (o := 0) (r := .raw (sV k)) he.2.2 hb4 Zdt Zcf rfl ?_
 refine Zad ?_
 refine Zkx (vs := [.raw (sV k)]) (cells := [.raw (sV k)]) (by simp only [List.map_cons, List.map_nil, EV,Nat.reduceEqDiff,↓reduceIte,he]; try rfl) Zjv Zcf Zn2 rfl (by omega) rfl rfl fun rb σ5 hN5 hX5 => ?_
 refine ZaN [ptr bb 0, .lst (some ⟨rb, 0, none⟩) 1 1 [.raw (sV k)]] ?_
 have h5 : DAt σ5 bb S fs pcs size mb pv := h.but (U := fun _ => False) (hX4.trans hX5).but fun b hb hf => hf
 refine ZAs h5 (by omega) (v := .lst (some ⟨rb, 0, none⟩) 1 1 [.raw (sV k)]) (ns := [k]) ZxK (fun c hc => by cases hc) (by simp) fun σ6 pv6 h6 k6 => ?_
 rw [hr] at h6
 dsimp only at h6
 refine Zag ?_
 refine kp3 2 3 5 ?_
 clear he e
 intro e he
 have B6 : But S σ σ6 := ⟨fun c x hc hx => k6.keep _ _ hc ((hX4.trans hX5).keep _ _ hx), fun c hc => k6.used _ ((hX4.trans hX5).used _ hc)⟩
 have f0 := k6.keep _ _ (hnS b0 n0) (hX5.keep _ _ e0)
 have f1 := k6.keep _ _ (hnS b1 n1) (hX5.keep _ _ e1)
 have f2 := k6.keep _ _ (hnS b2 n2) (hX5.keep _ _ hb4)
 repeat refine Zab ?_
 first|refine Zaa ?_|refine Zac ?_
 refine Zad ?_
 refine Zgf (vs := [ptr b0 0, ptr b2 0, ptr b1 0]) (by simp only [List.map_cons, List.map_nil, EV,Nat.reduceEqDiff,↓reduceIte,he]; try rfl) ?_
 refine Zad ?_
 refine Zgf (vs := [ptr b0 0, ptr b2 0]) (by simp only [List.map_cons, List.map_nil, EV,Nat.reduceEqDiff,↓reduceIte,he]; try rfl) ?_
 refine Zad ?_
 refine Zgf (vs := [ptr b0 0, ptr b2 0]) (by simp only [List.map_cons, List.map_nil, EV,Nat.reduceEqDiff,↓reduceIte,he]; try rfl) ?_
 refine Zad ?_
 refine Zkx (vs := fnL [(106, #[(ptr b0 0).val, (ptr b2 0).val, (ptr b1 0).val]), (107, #[(ptr b0 0).val, (ptr b2 0).val]), (109, #[(ptr b0 0).val, (ptr b2 0).val])]) (cells := fnL [(106, #[(ptr b0 0).val, (ptr b2 0).val, (ptr b1 0).val]), (107, #[(ptr b0 0).val, (ptr b2 0).val]), (109, #[(ptr b0 0).val, (ptr b2 0).val])]) (by simp only [List.map_cons, List.map_nil, EV,Nat.reduceEqDiff,↓reduceIte,he]; try rfl) Zn4 ZqR ZyZ rfl (by omega) rfl rfl fun rb2 σ7 hN7 hX7 => ?_
 refine ZaN [.lst (some ⟨rb2, 0, none⟩) 3 3 (fnL [(106, #[(ptr b0 0).val, (ptr b2 0).val, (ptr b1 0).val]), (107, #[(ptr b0 0).val, (ptr b2 0).val]), (109, #[(ptr b0 0).val, (ptr b2 0).val])])] ?_
 have B7 : But S σ σ7 := ⟨fun c x hc hx => hX7.keep _ _ (B6.keep _ _ hc hx), fun c hc => hX7.used _ (B6.used _ hc)⟩
 have g0 := hX7.keep _ _ f0
 have g1 := hX7.keep _ _ f1
 have g2 := hX7.keep _ _ f2
 have h7 : DAt σ7 bb S fs1 ZpM size mb pv6 := h6.but (U := fun _ => False) hX7.but fun b hb hf => hf
 have hback : ∀ c, Zei σ7 c -> Zei σ c := fun c hc => (ZiM B7 hc).elim (fun q => absurd (B7.used _ (hS c q)) hc.2) id
 refine ZAv (l := [(106, #[(ptr b0 0).val, (ptr b2 0).val, (ptr b1 0).val]), (107, #[(ptr b0 0).val, (ptr b2 0).val]), (109, #[(ptr b0 0).val, (ptr b2 0).val])])
  (fun i υ => ∃ S' fs' pcs' pv', DAt υ bb S' fs' pcs' size mb pv' /\ But S σ7 υ /\ (∀ c, S c -> S' c) /\ (∀ c, S' c -> S c \/ Zei σ7 c) /\ (∀ c, S' c -> υ.used c) /\ match i with
   | 0 => fs' = fs1 /\ pcs' = ZpM /\ S' = S
   | 1 => (size < 1 \/ ((d.length + Zde fs1 : Nat) : Int) <= size) /\ ZsT fs1 ZpM k d fs' pcs'
   | 2 => (size < 1 \/ ((d.length + Zde fs1 : Nat) : Int) <= size) /\ ∃ pcs2, ZsT fs1 ZpM k d fs' pcs2 /\ pcs' = (ZeL fs' [k] pcs2).1
   | _ => (size < 1 \/ ((d.length + Zde fs1 : Nat) : Int) <= size) /\ Zs9 fs1 ZpM k nm d fs' pcs') (fun q => by cases q) (by simp) ⟨S, fs1, ZpM, pv6, h7, .refl _ _, fun _ q => q, fun _ q => .inl q, fun c q => B7.used _ (hS c q), rfl, rfl, rfl⟩ ?_ ?_
 ·intro i hi υ hI
  obtain ⟨S', fs', pcs', pv', i1, i2, i3, i4, i5, i0⟩ := hI
  have hnS' : ∀ b x, σ7.blk b = some x -> ¬ S b -> ¬ S' b := fun b x hb hs q => (i4 b q).elim hs fun hn => by rw [hn.1] at hb; cases hb
  have j0 := i2.keep _ _ (hnS b0 n0) g0
  have j1 := i2.keep _ _ (hnS b1 n1) g1
  have j2 := i2.keep _ _ (hnS b2 n2) g2
  match i, hi, i0 with
  | 0, _, i7 =>
   obtain ⟨rfl, rfl, rfl⟩ := i7
   refine ZwO i1 i5 j0 j2 j1 hv hkr hlen (by omega) (fun hn τ hX => ⟨8, rfl, (fun q => absurd q (by decide)), fun _ => ?_⟩) fun hf τ S'' fs'' pcs'' pv'' q1 q2 q3 q4 q5 q6 => ⟨0, rfl, fun _ => ?_, fun q => absurd rfl q⟩
   ·refine Zah ?_
    refine Zag ?_
    refine kp1 4 ?_
    clear he e
    intro e he
    refine Za5 ?_
    exact ZbX (hK8 hn τ pv' (i1.but (U := fun _ => False) hX.but fun b hb hf => hf) ⟨fun c x hc hx => hX.keep _ _ (i2.keep _ _ hc (B7.keep _ _ hc hx)), fun c hc => hX.used _ (i2.used _ (B7.used _ hc))⟩)
   ·exact ⟨S'', fs'', pcs'', pv'', q1, ZkW i2 q2 fun c hc => .inl hc, q3, fun c hc => (q4 c hc).elim .inl fun hn => ZiM i2 hn, q5, hf, q6⟩
  | 1, _, i7 =>
   obtain ⟨hf, i6⟩ := i7
   obtain ⟨f0, hf0, hfk⟩ := ZrU i6
   refine ZwN i1 i5 (by have := ZrV i6; omega) j0 j2 fun τ pv'' q1 q2 => ⟨0, by rw [Zta hf0 hfk]; rfl, fun _ => ?_, fun q => absurd rfl q⟩
   exact ⟨S', fs', _, pv'', q1, ZkW i2 q2 i4, i3, i4, fun c hc => q2.used _ (i5 c hc), hf, pcs', i6, rfl⟩
  | 2, _, i7 =>
   obtain ⟨hf, pcs2, i6, rfl⟩ := i7
   obtain ⟨f0, hf0, hfk⟩ := ZrU i6
   refine ZwM i1 i5 (by have := ZrV i6; have := Zpw fs' [k] pcs2; omega) j0 j2 ⟨hnm.1, by omega⟩ hkn hf0 hfk fun τ pv'' q1 q2 => ⟨0, rfl, fun _ => ?_, fun q => absurd rfl q⟩
   exact ⟨S', _, _, pv'', q1, ZkW i2 q2 i4, i3, i4, fun c hc => q2.used _ (i5 c hc), hf, ⟨_, _, f0, i6, i1.nd, hf0, hfk, rfl, rfl⟩⟩
 ·intro υ hI
  obtain ⟨S', fs', pcs', pv', i1, i2, i3, i4, i5, hf, i6⟩ := hI
  refine Zah ?_
  refine Zag ?_
  refine kp1 4 ?_
  clear he e
  intro e he
  refine Za5 ?_
  exact ZbX (hK0 hf υ S' fs' pcs' pv' i1 (ZkW B7 i2 fun c hc => .inl hc) i3 (fun c hc => (i4 c hc).imp id (hback c)) i5 i6)
end
end Go.Proofs.YteempnebenjkmaaGreatDoor
namespace Go.Proofs.YteempnebenjkmaaGreatDoor
open Go.RowKit
set_option maxRecDepth 100000
set_option linter.unusedVariables false
set_option linter.unusedSimpArgs false
section
variable {σ τ : St} {bb mb : Nat} {S : Nat -> Prop} {fs : List Fl} {pcs : List (Nat × Nat)} {size : Int} {pv : AV} {K : AV -> St -> Prop}
theorem Ztb {x : Zbe} {bs : List UInt8} {e : Int} {as_ : List AV} (hB : Zda x = some ((bs, e, ()), ((), ()))) (hx : SVs CT 0 ZbF (CT.enc 10 x) as_) (hK : ∀ v τ, SV CT 0 ZbF (.sl 1 bs none) v -> Ext σ τ -> K (.tup [v, vI e]) τ) : Zan Tryz.prog 26 [.agg as_] σ K := by
 refine Zjt (ZmC.ok (x, ()) () ((bs, e, ()), ((), ())) hB) (.cons (ZbV.2 ⟨_, rfl, hx⟩) .none) K fun v τ ρ' q1 _ q3 _ => ?_
 obtain ⟨ls, rfl, h1⟩ := ZeU.1 q1
 obtain ⟨v0, v1, rfl, g0, g1⟩ := Zfp.1 h1
 obtain rfl := Zam.1 g1
 exact hK v0 τ (SVs.shut ((Wk.drop _ _ _).sv g0) (by intro x hx; rw [List.mem_singleton.1 hx]; rfl)) q3
theorem ZwP {l : List ZbW} {bs : List UInt8} {e : Int} {a : AV} (hB : Zdv l = some ((bs, e, ()), ((), ()))) (ha : SV CT 0 ZbF (.sl 6 l none) a) (hK : ∀ v τ, SV CT 0 ZbF (.sl 1 bs none) v -> Ext σ τ -> K (.tup [v, vI e]) τ) : Zan Tryz.prog 59 [a] σ K := by
 refine Zjt (Zpc.ok (l, ()) () ((bs, e, ()), ((), ())) hB) (.cons ha .none) K fun v τ ρ' q1 _ q3 _ => ?_
 obtain ⟨ls, rfl, h1⟩ := ZeU.1 q1
 obtain ⟨v0, v1, rfl, g0, g1⟩ := Zfp.1 h1
 obtain rfl := Zam.1 g1
 exact hK v0 τ (SVs.shut ((Wk.drop _ _ _).sv g0) (by intro x hx; rw [List.mem_singleton.1 hx]; rfl)) q3
theorem ZwQ {b : List UInt8} {l : List ZbW} {n : Int} {a : AV} (hB : ZeF b = some ((l, n, ()), ((), ()))) (ha : SV CT 0 ZbF (.sl 1 b none) a) (hK : ∀ v τ, SV CT 0 ZbF (.sl 6 l none) v -> Ext σ τ -> K (.tup [v, vI n]) τ) : Zan Tryz.prog 44 [a] σ K := by
 refine Zjt (Zpd.ok (b, ()) () ((l, n, ()), ((), ())) hB) (.cons ha .none) K fun v τ ρ' q1 _ q3 _ => ?_
 obtain ⟨ls, rfl, h1⟩ := ZeU.1 q1
 obtain ⟨v0, v1, rfl, g0, g1⟩ := Zfp.1 h1
 obtain rfl := Zam.1 g1
 exact hK v0 τ (SVs.shut ((Wk.drop _ _ _).sv g0) (by intro x hx; rw [List.mem_singleton.1 hx]; rfl)) q3
theorem ZcN : Zdk Tryz.prog 44 = some true := by kernel_rfl
theorem ZbC : Zax Tryz.prog 44 = some 7 := by kernel_rfl
theorem Zu7 : ZaR Tryz.prog 102 = some (.agg #[.int .i64 0, .slice none 0 0]) := by kernel_rfl
theorem Zy1 : ZcL Tryz.prog 102 = some [(0, 1), (1, 1)] := by kernel_rfl
theorem ZqS : Zax Tryz.prog 102 = some 2 := by kernel_rfl
theorem Zn7 : Zaq Tryz.prog 99 = some 102 := by kernel_rfl
def Zem (g : Nat) : List UInt8 := Zch g ++ [46, 110, 101, 119]
theorem Zed {as_ : List AV} (h : as_.length = 7) : ZbH (some true) (some 7) as_ 0 = some (.agg as_) := by
 match as_, h with
 | [a, b, c, d, e, f, g], _ => rfl
set_option maxHeartbeats 2000000 in
theorem Zn8 {x : Zbe} {as_ : List AV} {g : Nat} {bs d : List UInt8} {er : Int} (h : DAt σ bb S fs pcs size mb pv) (hS : ∀ c, S c -> σ.used c) (hg : g <= 4) (hd : (Go.Lib.decDigits g).length <= 21) (hx : SVs CT 0 ZbF (CT.enc 10 x) as_)
 (hB : Zda x = some ((bs, er, ()), ((), ()))) (hP : er = 0 -> Zdv [⟨4, bs⟩] = some ((d, 0, ()), ((), ())))
 (hKe : er ≠ 0 -> ∀ τ, Ext σ τ -> K (vI er) τ)
 (hlen : d.length + Zde (ZfS [Zem g] fs pcs).1 <= 100000000) (hl : pcs.length <= 100000000) (hl2 : (ZfS [Zem g] fs pcs).2.1.length <= 99999999)
 (hK8 : er = 0 -> ¬ (size < 1 \/ ((d.length + Zde (ZfS [Zem g] fs pcs).1 : Nat) : Int) <= size) -> ∀ τ pv', DAt τ bb S (ZfS [Zem g] fs pcs).1 (ZfS [Zem g] fs pcs).2.1 size mb pv' -> But S σ τ -> K (vI 8) τ)
 (hK0 : er = 0 -> (size < 1 \/ ((d.length + Zde (ZfS [Zem g] fs pcs).1 : Nat) : Int) <= size) -> ∀ τ S' fs' pcs' pv', DAt τ bb S' fs' pcs' size mb pv' -> But S σ τ -> (∀ c, S c -> S' c) -> (∀ c, S' c -> S c \/ Zei σ c) -> (∀ c, S' c -> τ.used c) -> Zs9 (ZfS [Zem g] fs pcs).1 (ZfS [Zem g] fs pcs).2.1 (Zem g) (Zch g) d fs' pcs' -> K (vI 0) τ) :
 Zan Tryz.prog 21 [ptr bb 0, vI g, .agg as_] σ K := by
 have ha7 : as_.length = 7 := hx.len
 refine Zay ZaF Tryz.func21 rfl rfl rfl (Nat.le_of_ble_eq_true rfl) ?_
 refine Zp8 0 1 2 (v0 := ptr bb 0) (v1 := vI g) (v2 := .agg as_) rfl rfl rfl ?_
 intro e he
 repeat refine Zab ?_
 first|refine Zaa ?_|refine Zac ?_
 refine Zad ?_
 refine Zh3 (cs := as_) he.2.2 rfl fun b5 σ1 hn1 hu1 hb1 hub1 hX1 => ?_
 refine Zah ?_
 refine Zag ?_
 refine kp3 0 1 5 ?_
 clear he e
 intro e he
 repeat refine Zab ?_
 first|refine Zaa ?_|refine Zac ?_
 refine Zah ?_
 refine Zah ?_
 refine ZaN [ptr bb 0, vI g] ?_
 refine ZyX hg (by omega) fun σ2 hX2 => ?_
 refine Zah ?_
 refine Zad ?_
 refine ZaK (l := [.agg [ptr bb 0, .raw (sV (Zch g))], vI 0]) rfl rfl ?_
 refine Zad ?_
 refine ZaK (l := [.agg [ptr bb 0, .raw (sV (Zch g))], vI 0]) rfl rfl ?_
 refine Zad ?_
 refine Zdn Zl0 rfl fun b7 σ3 hn3 hu3 hb3 hub3 hX3 => ?_
 refine Zad ?_
 refine Zcs (b := b7) (o := 0) (u := .agg [ptr bb 0, .raw (sV (Zch g))]) rfl rfl hb3 ZjZ rfl rfl fun σ4 hb4 k4 => ?_
 refine Zah ?_
 refine Zag ?_
 refine kp3 5 7 8 ?_
 clear he e
 intro e he
 have hX13 : Ext σ σ3 := (hX1.trans hX2).trans hX3
 have hX4 : Ext σ σ4 := But.ext hX13 (fun g hg => by rw [hg]; exact (hX1.trans hX2).noneOf hn3) k4
 have hb5 : σ4.blk b5 = some (.own 44 as_) := k4.keep _ _ (fun q => by rw [q] at hb1; have := hX2.keep _ _ hb1; rw [hn3] at this; cases this) ((hX2.trans hX3).keep _ _ hb1)
 repeat refine Zab ?_
 first|refine Zaa ?_|refine Zac ?_
 refine Zah ?_
 refine Zad ?_
 refine Zit (k := .i64) (a := 0) (b := 0) rfl rfl ?_
 refine Zag ?_
 refine kp4 5 7 8 18 ?_
 clear he e
 intro e he
 refine Za0 (t := false) he.2.2.2 (fun ht => by cases ht) (fun ht => ?_)
 refine Zbh ?_
 repeat refine Zab ?_
 first|refine Zaa ?_|refine Zac ?_
 refine Zad ?_
 refine Zau (b := b5) (o := 0) (r := .agg as_) he.1 hb5 ZcN ZbC (Zed ha7) ?_
 refine ZaN [.agg as_] ?_
 refine Ztb hB hx fun v σ5 hv hX5 => ?_
 refine Zah ?_
 refine Zad ?_
 refine ZaK (l := [v, vI er]) rfl rfl ?_
 refine Zad ?_
 refine ZaK (l := [v, vI er]) rfl rfl ?_
 refine Zah ?_
 refine Zah ?_
 refine Zag ?_
 refine kp3 7 8 9 ?_
 clear he e
 intro e he
 repeat refine Zab ?_
 first|refine Zaa ?_|refine Zac ?_
 refine Zah ?_
 refine Zad ?_
 refine Zit (k := .i64) (a := er) (b := 0) rfl rfl ?_
 refine Zag ?_
 refine kp4 7 8 9 26 ?_
 clear he e
 intro e he
 refine Za0 (t := decide (er ≠ 0)) he.2.2.2 (fun ht => ?_) (fun ht => ?_)
 ·repeat refine Zab ?_
  first|refine Zaa ?_|refine Zac ?_
  refine Zah ?_
  refine Zah ?_
  refine Zag ?_
  refine kp1 6 ?_
  clear he e
  intro e he
  refine ZgI ?_
  exact ZbX (hKe (of_decide_eq_true ht) σ5 (hX4.trans hX5))
 refine Zbh ?_
 obtain rfl : er = 0 := Decidable.byContradiction fun hq => by simp [hq] at ht
 obtain ⟨A, c, rest, rfl, hA⟩ := ZeY hv
 repeat refine Zab ?_
 first|refine Zaa ?_|refine Zac ?_
 refine Zah ?_
 refine Zad ?_
 refine Zf3 (vs := [.raw (.int .i64 4), .lst A bs.length c (bys bs ++ rest)]) (cells := [.raw (.int .i64 4), .lst A bs.length c (bys bs ++ rest)]) (by simp only [List.map_cons, List.map_nil, EV,Nat.reduceEqDiff,↓reduceIte,he]; try rfl) Zu7 Zy1 rfl ?_
 refine Zad ?_
 refine Zkx (vs := [.agg [.raw (.int .i64 4), .lst A bs.length c (bys bs ++ rest)]]) (cells := [.raw (.int .i64 4), .lst A bs.length c (bys bs ++ rest)]) (by simp only [List.map_cons, List.map_nil, EV,Nat.reduceEqDiff,↓reduceIte,he]; try rfl) Zn7 ZqS Zu7 rfl (by omega) rfl rfl fun rb σ6 hN6 hX6 => ?_
 refine ZaN [.lst (some ⟨rb, 0, none⟩) 1 1 [.raw (.int .i64 4), .lst A bs.length c (bys bs ++ rest)]] ?_
 refine ZwP (hP rfl) (Zcu.2 ⟨some ⟨rb, 0, none⟩, 1, [.raw (.int .i64 4), .lst A bs.length c (bys bs ++ rest)], [], rfl, Nat.le_refl _, by decide, by simp, fun q => (by cases q), ?_⟩) fun w σ7 hw hX7 => ?_
 ·exact .cons (Zam.2 rfl) (.cons hv .none)
 refine Zah ?_
 refine Zad ?_
 refine ZaK (l := [w, vI 0]) rfl rfl ?_
 refine Zad ?_
 refine ZaK (l := [w, vI 0]) rfl rfl ?_
 refine Zah ?_
 refine Zah ?_
 refine Zag ?_
 refine kp3 7 8 10 ?_
 clear he e
 intro e he
 repeat refine Zab ?_
 first|refine Zaa ?_|refine Zac ?_
 refine Zah ?_
 refine Zad ?_
 refine Zit (k := .i64) (a := 0) (b := 0) rfl rfl ?_
 refine Zag ?_
 refine kp4 7 8 10 36 ?_
 clear he e
 intro e he
 refine Za0 (t := false) he.2.2.2 (fun ht => by cases ht) (fun ht => ?_)
 refine Zbh ?_
 have hX47 : Ext σ4 σ7 := (hX5.trans hX6).trans hX7
 have hX : Ext σ σ7 := hX4.trans hX47
 repeat refine Zab ?_
 first|refine Zaa ?_|refine Zac ?_
 refine Zad ?_
 refine Zau (b := b7) (o := 0) (r := .agg [ptr bb 0, .raw (sV (Zch g))]) he.1 (hX47.keep _ _ hb4) Zu5 ZjZ rfl ?_
 refine Zah ?_
 refine ZaN [.agg [ptr bb 0, .raw (sV (Zch g))], w] ?_
 refine Zy0 (h.but (U := fun _ => False) hX.but fun b hb hf => hf) (fun c hc => hX.used _ (hS c hc)) hw ⟨by simp [Zch], by simp [Zch]; omega⟩ hlen hl hl2 (fun hn υ pv' q1 q2 => ?_) (fun hf υ S' fs' pcs' pv' q1 q2 q3 q4 q5 q6 => ?_)
 ·refine Zah ?_
  refine Zag ?_
  refine kp1 6 ?_
  clear he e
  intro e he
  refine Za5 ?_
  exact ZbX (hK8 rfl hn υ pv' q1 ⟨fun c x hc hx => q2.keep _ _ hc (hX.keep _ _ hx), fun c hc => q2.used _ (hX.used _ hc)⟩)
 ·refine Zah ?_
  refine Zag ?_
  refine kp1 6 ?_
  clear he e
  intro e he
  refine Za5 ?_
  exact ZbX (hK0 rfl hf υ S' fs' pcs' pv' q1 ⟨fun c x hc hx => q2.keep _ _ hc (hX.keep _ _ hx), fun c hc => q2.used _ (hX.used _ hc)⟩ q3 (fun c hc => (q4 c hc).imp id fun q => q.of hX) q5 q6)
theorem Zy2 {x : Zbe} {as_ : List AV} {g : Nat} {bs d : List UInt8} (h : DAt σ bb S fs pcs size mb pv) (hS : ∀ c, S c -> σ.used c) (hg : g <= 4) (hd : (Go.Lib.decDigits g).length <= 21) (hx : SVs CT 0 ZbF (CT.enc 10 x) as_)
 (hB : Zda x = some ((bs, 0, ()), ((), ()))) (hP : Zdv [⟨4, bs⟩] = some ((d, 0, ()), ((), ())))
 (hlen : d.length + Zde (ZfS [Zem g] fs pcs).1 <= 100000000) (hl : pcs.length <= 100000000) (hl2 : (ZfS [Zem g] fs pcs).2.1.length <= 99999999)
 (hK8 : ¬ (size < 1 \/ ((d.length + Zde (ZfS [Zem g] fs pcs).1 : Nat) : Int) <= size) -> ∀ τ pv', DAt τ bb S (ZfS [Zem g] fs pcs).1 (ZfS [Zem g] fs pcs).2.1 size mb pv' -> But S σ τ -> K (vI 8) τ)
 (hK0 : (size < 1 \/ ((d.length + Zde (ZfS [Zem g] fs pcs).1 : Nat) : Int) <= size) -> ∀ τ S' fs' pcs' pv', DAt τ bb S' fs' pcs' size mb pv' -> But S σ τ -> (∀ c, S c -> S' c) -> (∀ c, S' c -> S c \/ Zei σ c) -> (∀ c, S' c -> τ.used c) -> Zs9 (ZfS [Zem g] fs pcs).1 (ZfS [Zem g] fs pcs).2.1 (Zem g) (Zch g) d fs' pcs' -> K (vI 0) τ) :
 Zan Tryz.prog 21 [ptr bb 0, vI g, .agg as_] σ K :=
 Zn8 h hS hg hd hx hB (fun _ => hP) (fun q => absurd rfl q) hlen hl hl2 (fun _ => hK8) fun _ => hK0
end
end Go.Proofs.YteempnebenjkmaaGreatDoor
namespace Go.Proofs.YteempnebenjkmaaGreatDoor
open Go.RowKit
set_option linter.unusedSimpArgs false
set_option maxRecDepth 100000
set_option linter.unusedVariables false
section
variable {P : Program} {σ τ : St}
theorem Zu8 {w w' : World} {G : Nat -> Prop} (h : Grow w σ w' τ) : Grow w σ w' (Zjs G τ) := by
 refine ⟨h.os, h.tape, h.output, h.size, h.used, fun b hb hn => ?_, fun b t k s hb ht => ?_, h.more⟩
 ·obtain ⟨g1, g2⟩ := h.rest b hb hn
  refine ⟨g1, ?_⟩
  by_cases hg : G b
  ·exact Zeh hg
  ·rw [Zdp hg]; exact g2
 ·obtain ⟨g1, g2⟩ := h.tail b t k s hb ht
  refine ⟨g1, ?_⟩
  by_cases hg : G b
  ·exact .inl (Zeh hg)
  ·rw [Zdp hg]; exact g2
end
end Go.Proofs.YteempnebenjkmaaGreatDoor
namespace Go.Proofs.YteempnebenjkmaaGreatDoor
open Go.RowKit
set_option maxRecDepth 100000
set_option linter.unusedVariables false
set_option linter.unusedSimpArgs false
section
variable {P : Program} {G : Nat -> Prop} {σ τ : St}
theorem ZiG.agg {l m : List AV} (h : Zd4 G σ l m) : ZiG G σ (.agg l) (.agg m) := ⟨by simp only [AV.val_agg, h.vals], fun w Z hH hV => by
 unfold Zae at hV ⊢
 exact ZaI.iff.2 (h.valid hH (ZaI.iff.1 hV))⟩
theorem ZiG.tup {l m : List AV} (h : Zd4 G σ l m) : ZiG G σ (.tup l) (.tup m) := ⟨by simp only [AV.val_tup, h.vals], fun w Z hH hV => by
 unfold Zae at hV ⊢
 exact ZaI.iff.2 (h.valid hH (ZaI.iff.1 hV))⟩
theorem Zan.tell {f : FuncId} {args : List AV} {K : AV -> St -> Prop} (h : Zan P f args σ fun r τ => ∃ G r', ZiG G τ r r' /\ K r' (Zjs G τ)) : Zan P f args σ K := by
 intro w Z hH hV
 refine (h w Z hH hV).mono ?_
 rintro y w' ⟨r, τ, rfl, ⟨G, r', hl, hK⟩, hH', hV', hG⟩
 exact ⟨r', _, by rw [hl.1], hK, Zrz hH', hl.2 w' Z hH' hV', Zu8 hG⟩
end
section
variable {σ τ : St} {bb mb : Nat} {S : Nat -> Prop} {fs : List Fl} {pcs : List (Nat × Nat)} {size : Int} {pv : AV} {K : AV -> St -> Prop}
set_option maxHeartbeats 1000000 in
theorem Zu9 {b : List UInt8} {idx term : Int} {n1 n2 n3 n4 : Nat} {l1 l2 l3 l4 : List Int} {by_ : List UInt8} {ok : Bool} {a : AV} (hB : ZfI b = some (((idx, term, n1, n2, n3, n4, by_, ()), ok, ()), (l1, l2, l3, l4, ()))) (h1 : n1 <= l1.length) (h2 : n2 <= l2.length) (h3 : n3 <= l3.length) (h4 : n4 <= l4.length) (hsm : l1.length <= 1000000 /\ l2.length <= 1000000 /\ l3.length <= 1000000 /\ l4.length <= 1000000) (ha : SV CT 0 ZbF (.sl 1 b none) a)
 (hK : ∀ as_ τ, SVs CT 0 ZbF (CT.enc 10 (⟨⟨idx, term, ⟨l1.take n1, l2.take n2, l3.take n3, l4.take n4⟩⟩, by_⟩ : Zbe)) as_ -> Ext σ τ -> K (.tup [.agg as_, vT ok]) τ) : Zan Tryz.prog 16 [a] σ K := by
 refine Zan.tell (Zjt (Zpt.ok (b, ()) () (((idx, term, n1, n2, n3, n4, by_, ()), ok, ()), (l1, l2, l3, l4, ())) hB) (.cons ha .none) _ fun r τ ρ' q1 q2 q3 q4 => ?_)
 obtain ⟨ls, rfl, g⟩ := ZeU.1 q1
 obtain ⟨v0, v1, rfl, g0, g1⟩ := Zfp.1 g
 obtain rfl := ZaO.1 g1
 obtain ⟨as_, rfl, g2⟩ := ZbV.1 g0
 obtain ⟨a1, _, rfl, e1, g2⟩ := g2.to
 obtain ⟨a2, _, rfl, e2, g2⟩ := g2.to
 obtain ⟨a3, _, rfl, e3, g2⟩ := g2.to
 obtain ⟨a4, _, rfl, e4, g2⟩ := g2.to
 obtain ⟨a5, _, rfl, e5, g2⟩ := g2.to
 obtain ⟨a6, _, rfl, e6, g2⟩ := g2.to
 obtain ⟨a7, rfl, e7⟩ := Zef.1 g2
 obtain rfl := Zam.1 e1
 obtain rfl := Zam.1 e2
 obtain ⟨c1, d1, o1, s1⟩ := Zg0 e3 q2 (i := 0) rfl h1
 obtain ⟨c2, d2, o2, s2⟩ := Zg0 e4 q2 (i := 1) rfl h2
 obtain ⟨c3, d3, o3, s3⟩ := Zg0 e5 q2 (i := 2) rfl h3
 obtain ⟨c4, d4, o4, s4⟩ := Zg0 e6 q2 (i := 3) rfl h4
 let G : Nat -> Prop := fun b => hbk a3 = some b \/ hbk a4 = some b \/ hbk a5 = some b \/ hbk a6 = some b
 obtain ⟨A1, k1, m1, u1, w1, z1⟩ := d1.lends (G := G) (fun b hb => .inl hb) (.refl c1)
 obtain ⟨A2, k2, m2, u2, w2, z2⟩ := d2.lends (G := G) (fun b hb => .inr (.inl hb)) (.refl c2)
 obtain ⟨A3, k3, m3, u3, w3, z3⟩ := d3.lends (G := G) (fun b hb => .inr (.inr (.inl hb))) (.refl c3)
 obtain ⟨A4, k4, m4, u4, w4, z4⟩ := d4.lends (G := G) (fun b hb => .inr (.inr (.inr hb))) (.refl c4)
 have e7' := SVs.shut (N' := 0) (ρ' := ZbF) (.cons e7 .none) (by intro x hx; rw [List.mem_singleton.1 hx]; rfl)
 have sl : ∀ {E n k : Nat} {A : Option Addr} {xs : List (Ty E)} {cs : List AV} (hn : xs.length = n), n <= 1000000 -> n <= k -> k <= maxLen -> (A = none -> n = 0 /\ k = 0) -> SVs CT 0 ZbF (xs.flatMap (CT.enc E)) cs -> SV CT 0 ZbF (.sl E xs none) (.lst A n k cs) := fun {E n k A xs cs} hn p0 p1 p2 p3 p4 => by
  subst hn
  exact Zcu.2 ⟨A, k, cs, [], by rw [List.append_nil], p1, p2, by omega, fun q => p3 q, p4⟩
 refine ⟨G, .tup [.agg [_, _, .lst A1 n1 k1 c1, .lst A2 n2 k2 c2, .lst A3 n3 k3 c3, .lst A4 n4 k4 c4, a7], _], ZiG.tup ⟨ZiG.agg ⟨.refl _, .refl _, m1, m2, m3, m4, .refl _, trivial⟩, .refl _, trivial⟩, hK _ _ ?_ ⟨fun c k hk => ?_, fun c hc => q3.used _ hc⟩⟩
 ·exact .cons (Zam.2 rfl) (.cons (Zam.2 rfl) (.cons (sl (E := 0) (by rw [List.length_take]; omega) (by omega) u1 w1 z1 (s1 0 ZbF)) (.cons (sl (E := 0) (by rw [List.length_take]; omega) (by omega) u2 w2 z2 (s2 0 ZbF)) (.cons (sl (E := 0) (by rw [List.length_take]; omega) (by omega) u3 w3 z3 (s3 0 ZbF)) (.cons (sl (E := 0) (by rw [List.length_take]; omega) (by omega) u4 w4 z4 (s4 0 ZbF)) e7')))))
 ·have hG : ¬ G c := by
   have no : ∀ i x, (ρ' i).owns c -> ([.arr 3 0 false l1, .arr 3 0 false l2, .arr 3 0 false l3, .arr 3 0 false l4] : List (HI Ty))[i]? = some x -> x.alive = true -> False := fun i x p1 p2 p3 => by
    have := (q4 i x c p2 p3 p1).1
    rw [hk] at this
    cases this
   rintro (q | q | q | q)
   ·exact no 0 _ (o1 c q) rfl rfl
   ·exact no 1 _ (o2 c q) rfl rfl
   ·exact no 2 _ (o3 c q) rfl rfl
   ·exact no 3 _ (o4 c q) rfl rfl
  rw [Zdp hG]
  exact q3.keep _ _ hk
theorem ZrW {G : Nat -> Prop} (h : Ext σ τ) (hG : ∀ c, G c -> Zei σ c) : Ext σ (Zjs G τ) := ⟨fun c k hk => by
 rw [Zdp (fun q => by have := (hG c q).1; rw [hk] at this; cases this)]
 exact h.keep _ _ hk, fun c hc => h.used _ hc⟩
theorem Zl1 (h : DAt σ bb S fs pcs size mb pv) {k : List UInt8} (hfl : ∀ f ∈ fs, f.d.length <= 1000000000)
 (hK1 : (∀ f ∈ fs, f.nm ≠ k) -> ∀ τ, Ext σ τ -> K (.tup [.lst none 0 0 [], vT false]) τ)
 (hK2 : ∀ f0 ∈ fs, f0.nm = k -> ∀ v τ, SV CT 0 ZbF (.sl 1 f0.d none) v -> Ext σ τ -> K (.tup [v, vT true]) τ) : Zan Tryz.prog 32 [ptr bb 0, .raw (sV k)] σ K := by
 refine Zan.tell (ZyR h hfl (fun hn => ⟨fun _ => False, _, ZiG.refl _, hK1 hn _ (ZrW (.refl _) fun _ q => q.elim)⟩) fun f0 hf0 hk τ v q1 q2 q3 => ?_)
 obtain ⟨A, c, m, u, w, z⟩ := q1.lends (G := fun b => hbk v = some b) (fun b hb => hb) (.refl _)
 refine ⟨fun b => hbk v = some b, .tup [.lst A f0.d.length c (bys f0.d), vT true], ZiG.tup ⟨m, .refl _, trivial⟩, hK2 f0 hf0 hk _ _ ?_ (ZrW q2 q3)⟩
 have := hfl f0 hf0
 exact Zcu.2 ⟨A, c, bys f0.d, [], by rw [List.append_nil], u, w, by omega, fun q => z q, ZxE _⟩
theorem Zha : ZaR Tryz.prog 44 = some (.agg #[.int .i64 0, .int .i64 0, .slice none 0 0, .slice none 0 0, .slice none 0 0, .slice none 0 0, .slice none 0 0]) := by kernel_rfl
theorem Zva : Zbp Tryz.prog 102 = some [(0, some 1, some false), (1, some 1, some false)] := by kernel_rfl
theorem ZAw : Zdk Tryz.prog 3 = some false := by kernel_rfl
theorem ZxL : Zax Tryz.prog 3 = some 1 := by kernel_rfl
theorem Zgu : Zaq Tryz.prog 22 = some 5 := by kernel_rfl
def ZkD : List AV := [.raw (.int .i64 0), .raw (.int .i64 0), .lst none 0 0 [], .lst none 0 0 [], .lst none 0 0 [], .lst none 0 0 [], .lst none 0 0 []]
set_option maxHeartbeats 2000000 in
theorem Zpx {g : Nat} (h : DAt σ bb S fs pcs size mb pv) (hfl : ∀ f ∈ fs, f.d.length <= 1000000000) (hg : g <= 4) (hd : (Go.Lib.decDigits g).length <= 21) (hn : ∀ f ∈ fs, f.nm ≠ Zch g)
 (hK : ∀ τ, Ext σ τ -> K (.tup [.agg ZkD, vT false, vI 0]) τ) : Zan Tryz.prog 12 [ptr bb 0, vI g] σ K := by
 refine Zay ZaF Tryz.func12 rfl rfl rfl (Nat.le_of_ble_eq_true rfl) ?_
 refine Zhx 0 1 (v0 := ptr bb 0) (v1 := vI g) rfl rfl ?_
 intro e he
 repeat refine Zab ?_
 first|refine Zaa ?_|refine Zac ?_
 refine Zad ?_
 refine Zdn (cs := ZkD) Zha rfl fun b4 σ1 hn1 hu1 hb1 hub1 hX1 => ?_
 refine Zah ?_
 refine Zah ?_
 refine Zag ?_
 refine kp3 0 1 4 ?_
 clear he e
 intro e he
 repeat refine Zab ?_
 first|refine Zaa ?_|refine Zac ?_
 refine Zah ?_
 refine Zah ?_
 refine ZaN [ptr bb 0, vI g] ?_
 refine ZyX hg (by omega) fun σ2 hX2 => ?_
 refine Zah ?_
 refine Zad ?_
 refine ZaK (l := [.agg [ptr bb 0, .raw (sV (Zch g))], vI 0]) rfl rfl ?_
 refine Zad ?_
 refine ZaK (l := [.agg [ptr bb 0, .raw (sV (Zch g))], vI 0]) rfl rfl ?_
 refine Zad ?_
 refine Zdn Zl0 rfl fun b7 σ3 hn3 hu3 hb3 hub3 hX3 => ?_
 refine Zad ?_
 refine Zcs (b := b7) (o := 0) (u := .agg [ptr bb 0, .raw (sV (Zch g))]) rfl rfl hb3 ZjZ rfl rfl fun σ4 hb4 k4 => ?_
 refine Zah ?_
 refine Zag ?_
 refine kp3 4 6 7 ?_
 clear he e
 intro e he
 have hX4 : Ext σ σ4 := But.ext ((hX1.trans hX2).trans hX3) (fun g hg => by rw [hg]; exact (hX1.trans hX2).noneOf hn3) k4
 have hb14 : σ4.blk b4 = some (.own 44 ZkD) := k4.keep _ _ (fun q => by rw [q] at hb1; have := hX2.keep _ _ hb1; rw [hn3] at this; cases this) ((hX2.trans hX3).keep _ _ hb1)
 repeat refine Zab ?_
 first|refine Zaa ?_|refine Zac ?_
 refine Zah ?_
 refine Zad ?_
 refine Zit (k := .i64) (a := 0) (b := 0) rfl rfl ?_
 refine Zag ?_
 refine kp4 4 6 7 19 ?_
 clear he e
 intro e he
 refine Za0 (t := false) he.2.2.2 (fun ht => by cases ht) (fun ht => ?_)
 refine Zbh ?_
 repeat refine Zab ?_
 first|refine Zaa ?_|refine Zac ?_
 refine Zad ?_
 refine Zaf (b := b7) (o := 0) he.2.2.1 Zfj rfl ?_
 refine Zad ?_
 refine Zau (b := b7) (o := 0) (r := ptr bb 0) rfl hb4 Zj0 Zj1 rfl ?_
 refine Zad ?_
 refine Zaf (b := b7) (o := 0) he.2.2.1 Zfj rfl ?_
 refine Zad ?_
 refine Zau (b := b7) (o := 0 + 1) (r := .raw (sV (Zch g))) rfl hb4 Zdt Zcf rfl ?_
 refine ZaN [ptr bb 0, .raw (sV (Zch g))] ?_
 refine Zl1 (h.but (U := fun _ => False) hX4.but fun b hb hf => hf) hfl (fun _ σ5 hX5 => ?_) fun f0 hf0 hk => absurd hk (hn f0 hf0)
 refine Zah ?_
 refine Zad ?_
 refine ZaK (l := [.lst none 0 0 [], vT false]) rfl rfl ?_
 refine Zad ?_
 refine ZaK (l := [.lst none 0 0 [], vT false]) rfl rfl ?_
 refine Zah ?_
 refine Zah ?_
 refine Zag ?_
 refine kp3 4 8 9 ?_
 clear he e
 intro e he
 repeat refine Zab ?_
 first|refine Zaa ?_|refine Zac ?_
 refine Zah ?_
 refine ZiJ ?_
 refine Zag ?_
 refine kp3 4 8 31 ?_
 clear he e
 intro e he
 refine Za0 (t := true) he.2.2 (fun ht => ?_) (fun ht => by cases ht)
 repeat refine Zab ?_
 first|refine Zaa ?_|refine Zac ?_
 refine Zad ?_
 refine Zau (b := b4) (o := 0) (r := .agg ZkD) he.1 (hX5.keep _ _ hb14) ZcN ZbC (Zed rfl) ?_
 refine Zad ?_
 refine Zcs (b := b4) (o := 0) (u := .agg ZkD) he.1 rfl (hX5.keep _ _ hb14) ZbC rfl rfl fun σ6 hb6 k6 => ?_
 refine Zah ?_
 refine Zah ?_
 refine Zag ?_
 refine kp3 4 5 6 ?_
 clear he e
 intro e he
 refine ZgI ?_
 exact ZmG rfl (ZeT he.1 hb6 ZcN ZbC (Zed rfl)) (Zdo he.2.1) (Zdo he.2.2) (hK σ6 (But.ext (hX4.trans hX5) (fun g hg => by rw [hg]; exact hn1) k6))
set_option maxHeartbeats 2000000 in
theorem Zpy {g : Nat} {f0 : Fl} {bs : List UInt8} {idx term : Int} {n1 n2 n3 n4 : Nat} {l1 l2 l3 l4 : List Int} {by_ : List UInt8} (h : DAt σ bb S fs pcs size mb pv) (hfl : ∀ f ∈ fs, f.d.length <= 1000000000) (hg : g <= 4) (hd : (Go.Lib.decDigits g).length <= 21) (hf0 : f0 ∈ fs) (hnm : f0.nm = Zch g)
 (hG : ZeF f0.d = some (([⟨4, bs⟩], (f0.d.length : Int), ()), ((), ()))) (hB : ZfI bs = some (((idx, term, n1, n2, n3, n4, by_, ()), true, ()), (l1, l2, l3, l4, ()))) (h1 : n1 <= l1.length) (h2 : n2 <= l2.length) (h3 : n3 <= l3.length) (h4 : n4 <= l4.length) (hsm : l1.length <= 1000000 /\ l2.length <= 1000000 /\ l3.length <= 1000000 /\ l4.length <= 1000000)
 (hK : ∀ as_ τ, SVs CT 0 ZbF (CT.enc 10 (⟨⟨idx, term, ⟨l1.take n1, l2.take n2, l3.take n3, l4.take n4⟩⟩, by_⟩ : Zbe)) as_ -> Ext σ τ -> K (.tup [.agg as_, vT true, vI 0]) τ) : Zan Tryz.prog 12 [ptr bb 0, vI g] σ K := by
 refine Zay ZaF Tryz.func12 rfl rfl rfl (Nat.le_of_ble_eq_true rfl) ?_
 refine Zhx 0 1 (v0 := ptr bb 0) (v1 := vI g) rfl rfl ?_
 intro e he
 repeat refine Zab ?_
 first|refine Zaa ?_|refine Zac ?_
 refine Zad ?_
 refine Zdn (cs := ZkD) Zha rfl fun b4 σ1 hn1 hu1 hb1 hub1 hX1 => ?_
 refine Zah ?_
 refine Zah ?_
 refine Zag ?_
 refine kp3 0 1 4 ?_
 clear he e
 intro e he
 repeat refine Zab ?_
 first|refine Zaa ?_|refine Zac ?_
 refine Zah ?_
 refine Zah ?_
 refine ZaN [ptr bb 0, vI g] ?_
 refine ZyX hg (by omega) fun σ2 hX2 => ?_
 refine Zah ?_
 refine Zad ?_
 refine ZaK (l := [.agg [ptr bb 0, .raw (sV (Zch g))], vI 0]) rfl rfl ?_
 refine Zad ?_
 refine ZaK (l := [.agg [ptr bb 0, .raw (sV (Zch g))], vI 0]) rfl rfl ?_
 refine Zad ?_
 refine Zdn Zl0 rfl fun b7 σ3 hn3 hu3 hb3 hub3 hX3 => ?_
 refine Zad ?_
 refine Zcs (b := b7) (o := 0) (u := .agg [ptr bb 0, .raw (sV (Zch g))]) rfl rfl hb3 ZjZ rfl rfl fun σ4 hb4 k4 => ?_
 refine Zah ?_
 refine Zag ?_
 refine kp3 4 6 7 ?_
 clear he e
 intro e he
 have hX4 : Ext σ σ4 := But.ext ((hX1.trans hX2).trans hX3) (fun g hg => by rw [hg]; exact (hX1.trans hX2).noneOf hn3) k4
 have hb14 : σ4.blk b4 = some (.own 44 ZkD) := k4.keep _ _ (fun q => by rw [q] at hb1; have := hX2.keep _ _ hb1; rw [hn3] at this; cases this) ((hX2.trans hX3).keep _ _ hb1)
 repeat refine Zab ?_
 first|refine Zaa ?_|refine Zac ?_
 refine Zah ?_
 refine Zad ?_
 refine Zit (k := .i64) (a := 0) (b := 0) rfl rfl ?_
 refine Zag ?_
 refine kp4 4 6 7 19 ?_
 clear he e
 intro e he
 refine Za0 (t := false) he.2.2.2 (fun ht => by cases ht) (fun ht => ?_)
 refine Zbh ?_
 repeat refine Zab ?_
 first|refine Zaa ?_|refine Zac ?_
 refine Zad ?_
 refine Zaf (b := b7) (o := 0) he.2.2.1 Zfj rfl ?_
 refine Zad ?_
 refine Zau (b := b7) (o := 0) (r := ptr bb 0) rfl hb4 Zj0 Zj1 rfl ?_
 refine Zad ?_
 refine Zaf (b := b7) (o := 0) he.2.2.1 Zfj rfl ?_
 refine Zad ?_
 refine Zau (b := b7) (o := 0 + 1) (r := .raw (sV (Zch g))) rfl hb4 Zdt Zcf rfl ?_
 refine ZaN [ptr bb 0, .raw (sV (Zch g))] ?_
 refine Zl1 (h.but (U := fun _ => False) hX4.but fun b hb hf => hf) hfl (fun hn => absurd hnm (hn f0 hf0)) fun f hf hk v σ5 hv hX5 => ?_
 obtain rfl : f = f0 := h.uniqN hf hf0 (hk.trans hnm.symm)
 obtain ⟨A, c, rest, rfl, hA⟩ := ZeY hv
 refine Zah ?_
 refine Zad ?_
 refine ZaK (l := [.lst A f.d.length c (bys f.d ++ rest), vT true]) rfl rfl ?_
 refine Zad ?_
 refine ZaK (l := [.lst A f.d.length c (bys f.d ++ rest), vT true]) rfl rfl ?_
 refine Zah ?_
 refine Zah ?_
 refine Zag ?_
 refine kp3 4 8 9 ?_
 clear he e
 intro e he
 repeat refine Zab ?_
 first|refine Zaa ?_|refine Zac ?_
 refine Zah ?_
 refine ZiJ ?_
 refine Zag ?_
 refine kp3 4 8 31 ?_
 clear he e
 intro e he
 refine Za0 (t := false) he.2.2 (fun ht => by cases ht) (fun ht => ?_)
 refine Zbh ?_
 repeat refine Zab ?_
 first|refine Zaa ?_|refine Zac ?_
 refine Zah ?_
 refine ZaN [.lst A f.d.length c (bys f.d ++ rest)] ?_
 refine ZwQ hG hv fun l σ6 hl hX6 => ?_
 obtain ⟨A2, c2, cs, rest2, rfl, y1, y2, y3, y4, y5⟩ := Zcu.1 hl
 obtain ⟨q1, _, rfl, z1, z2⟩ := (show SVs CT 0 ZbF [XV.int .i64 4, XV.sl 1 bs none] cs from y5).to
 obtain ⟨q2, rfl, z3⟩ := Zef.1 z2
 obtain rfl := Zam.1 z1
 have hA2 : A2 = none -> 1 = 0 := fun q => (y4 q).1
 refine Zah ?_
 refine Zad ?_
 refine ZaK (l := [.lst A2 1 c2 ([.raw (.int .i64 4), q2] ++ rest2), vI f.d.length]) rfl rfl ?_
 refine Zad ?_
 refine ZaK (l := [.lst A2 1 c2 ([.raw (.int .i64 4), q2] ++ rest2), vI f.d.length]) rfl rfl ?_
 refine Zah ?_
 refine Zah ?_
 refine Zag ?_
 refine kp4 4 8 10 11 ?_
 clear he e
 intro e he
 repeat refine Zab ?_
 first|refine Zaa ?_|refine Zac ?_
 refine Zah ?_
 refine Zad ?_
 refine ZhO (A := A2) (n := 1) (c := c2) rfl rfl rfl Zn7 ?_
 refine Zad ?_
 refine Zit (k := .i64) (a := 1) (b := 1) rfl rfl ?_
 refine Zah ?_
 refine Zcp ?_
 refine ZkQ rfl he.2.2.2 ?_
 refine Zcp ?_
 refine ZkQ rfl he.2.1 ?_
 refine Zcp ?_
 refine ZhO (A := A) (n := f.d.length) (c := c) rfl rfl rfl Zgu ?_
 refine Zcp ?_
 refine Zit (k := .i64) (a := (f.d.length : Int)) (b := (f.d.length : Int)) rfl rfl ?_
 refine Zad ?_
 refine Zb8 (v := vT false) rfl (by simp only [EV,Nat.reduceEqDiff,↓reduceIte,he, ne_eq, not_true_eq_false, decide_false]; try rfl) ?_
 refine Zah ?_
 refine Zcp ?_
 refine ZkQ rfl he.2.2.1 ?_
 refine Zcp ?_
 refine Ziu (k := .i64) (j := 0) (cs := [.raw (.int .i64 4), q2] ++ rest2) rfl rfl Zn7 ZqS (by omega) hA2 rfl fun ad => ?_
 refine Zcp ?_
 refine Zis (cells := [.raw (.int .i64 4), q2] ++ rest2) rfl Zva rfl ?_
 refine Zcp ?_
 refine ZkK (r := .raw (.int .i64 4)) rfl ZAw ZxL rfl ?_
 refine Zcp ?_
 refine Zit (k := .i64) (a := 4) (b := 4) rfl rfl ?_
 refine Zad ?_
 refine Zb8 (v := vT false) rfl rfl ?_
 refine Zag ?_
 refine kp3 4 10 53 ?_
 clear he e
 intro e he
 refine Za0 (t := false) he.2.2 (fun ht => by cases ht) (fun ht => ?_)
 refine Zbh ?_
 repeat refine Zab ?_
 first|refine Zaa ?_|refine Zac ?_
 refine Zah ?_
 refine Zad ?_
 refine Ziu (k := .i64) (j := 0) (cs := [.raw (.int .i64 4), q2] ++ rest2) rfl rfl Zn7 ZqS (by omega) hA2 rfl fun ad => ?_
 refine Zad ?_
 refine Zis (cells := [.raw (.int .i64 4), q2] ++ rest2) rfl Zva rfl ?_
 refine Zad ?_
 refine ZkK (r := q2) rfl Zu6 Zj2 rfl ?_
 refine ZaN [q2] ?_
 refine Zu9 hB h1 h2 h3 h4 hsm z3 fun as_ σ7 hs hX7 => ?_
 have ha7 : as_.length = 7 := hs.len
 have hX57 : Ext σ4 σ7 := (hX5.trans hX6).trans hX7
 refine Zah ?_
 refine Zad ?_
 refine ZaK (l := [.agg as_, vT true]) rfl rfl ?_
 refine Zad ?_
 refine ZaK (l := [.agg as_, vT true]) rfl rfl ?_
 have hone : as_.all AV.one = true := List.all_eq_true.2 (hs.ones (List.all_eq_true.1 (show (CT.enc 10 (⟨⟨idx, term, ⟨l1.take n1, l2.take n2, l3.take n3, l4.take n4⟩⟩, by_⟩ : Zbe)).all XV.one = true from rfl)))
 refine Zad ?_
 refine Zcs (b := b4) (o := 0) (u := .agg as_) (cs' := as_) he.1 rfl (hX57.keep _ _ hb14) ZbC (by simp [Zdc, ha7, hone, ZkD]) (by simp [ZaC, ha7, ZkD]) fun σ8 hb8 k8 => ?_
 refine Zah ?_
 refine Zag ?_
 refine kp2 4 5 ?_
 clear he e
 intro e he
 repeat refine Zab ?_
 first|refine Zaa ?_|refine Zac ?_
 refine Zah ?_
 refine ZiJ ?_
 refine Zag ?_
 refine kp2 4 64 ?_
 clear he e
 intro e he
 refine Za0 (t := false) he.2 (fun ht => by cases ht) (fun ht => ?_)
 refine Zbh ?_
 repeat refine Zab ?_
 first|refine Zaa ?_|refine Zac ?_
 refine Zad ?_
 refine Zau (b := b4) (o := 0) (r := .agg as_) he.1 hb8 ZcN ZbC (Zed ha7) ?_
 refine Zad ?_
 refine Zcs (b := b4) (o := 0) (u := .agg as_) (cs' := as_) he.1 rfl hb8 ZbC (by simp [Zdc, ha7, hone]) (by simp [ZaC, ha7]) fun σ9 hb9 k9 => ?_
 refine Zah ?_
 refine Zah ?_
 refine Zag ?_
 refine kp3 4 5 6 ?_
 clear he e
 intro e he
 refine Za5 ?_
 have hX8 : Ext σ σ8 := But.ext (hX4.trans hX57) (fun g hg => by rw [hg]; exact hn1) k8
 exact ZmG rfl (ZeT he.1 hb9 ZcN ZbC (Zed ha7)) (Zdo he.2.1) (Zdo he.2.2) (hK as_ σ9 hs (But.ext hX8 (fun g hg => by rw [hg]; exact hn1) k9))
end
end Go.Proofs.YteempnebenjkmaaGreatDoor
namespace Go.Proofs.YteempnebenjkmaaGreatDoor
open Go.RowKit
set_option maxRecDepth 100000
set_option linter.unusedVariables false
set_option linter.unusedSimpArgs false
theorem Zy3 : Zaq Tryz.prog 38 = some 3 := by kernel_rfl
theorem ZAx : ZaR Tryz.prog 3 = some (.int .i64 0) := by kernel_rfl
theorem ZAy : ZaR Tryz.prog 5 = some (.int .u8 0) := by kernel_rfl
theorem ZAz : Zax Tryz.prog 5 = some 1 := by kernel_rfl
theorem Zy4 : ZaR Tryz.prog 40 = some (.agg #[.slice none 0 0, .slice none 0 0, .slice none 0 0, .slice none 0 0]) := by kernel_rfl
theorem Zy5 : ZcL Tryz.prog 40 = some [(0, 1), (1, 1), (2, 1), (3, 1)] := by kernel_rfl
theorem Zy6 : ZaR Tryz.prog 42 = some (.agg #[.int .i64 0, .int .i64 0, .slice none 0 0, .slice none 0 0, .slice none 0 0, .slice none 0 0]) := by kernel_rfl
theorem Zy7 : ZcL Tryz.prog 42 = some [(0, 1), (1, 1), (2, 4)] := by kernel_rfl
theorem Zvb : ZcL Tryz.prog 44 = some [(0, 6), (6, 1)] := by kernel_rfl
theorem Zhb (E : Nat) : SV CT 0 ZbF (.sl E [] none) (.lst none 0 0 []) := Zcu.2 ⟨none, 0, [], [], rfl, Nat.le_refl _, by decide, by simp, (fun _ => ⟨rfl, rfl⟩), .none⟩
abbrev smallD : Zbe := ⟨⟨3, 2, ⟨[1, 2], [], [], []⟩⟩, [5, 0, 7]⟩
section
variable {σ τ : St} {bb mb : Nat} {S : Nat -> Prop} {fs : List Fl} {pcs : List (Nat × Nat)} {size : Int} {pv : AV} {K : AV -> St -> Prop}
set_option maxHeartbeats 1000000 in
theorem ZrX (hK : ∀ as_ τ, SVs CT 0 ZbF (CT.enc 10 smallD) as_ -> Ext σ τ -> K (.agg as_) τ) : Zan Tryz.prog 29 [] σ K := by
 refine Zay ZaF Tryz.func29 rfl rfl rfl (Nat.le_of_ble_eq_true rfl) ?_
 refine ZxB (fun _ => True) trivial ?_
 intro e he
 repeat refine Zab ?_
 first|refine Zaa ?_|refine Zac ?_
 refine Zad ?_
 refine Zdn (cs := ZkD) Zha rfl fun b0 σ1 hn1 hu1 hb1 hub1 hX1 => ?_
 refine Zag ?_
 refine kp1 0 ?_
 clear he e
 intro e he
 repeat refine Zab ?_
 first|refine Zaa ?_|refine Zac ?_
 refine Zad ?_
 refine Zkx (vs := [vI 1, vI 2]) (cells := [vI 1, vI 2]) (by simp only [List.map_cons, List.map_nil, EV,Nat.reduceEqDiff,↓reduceIte,he]; try rfl) Zy3 ZxL ZAx rfl (by omega) rfl rfl fun rb σ2 hN2 hX2 => ?_
 refine Zad ?_
 refine Zf3 (vs := [.lst (some ⟨rb, 0, none⟩) 2 2 [vI 1, vI 2]]) (cells := [.lst (some ⟨rb, 0, none⟩) 2 2 [vI 1, vI 2], .lst none 0 0 [], .lst none 0 0 [], .lst none 0 0 []]) (by simp only [List.map_cons, List.map_nil, EV,Nat.reduceEqDiff,↓reduceIte,he]; try rfl) Zy4 Zy5 rfl ?_
 refine Zad ?_
 refine Zf3 (vs := [vI 3, vI 2, .agg [.lst (some ⟨rb, 0, none⟩) 2 2 [vI 1, vI 2], .lst none 0 0 [], .lst none 0 0 [], .lst none 0 0 []]]) (cells := [vI 3, vI 2, .lst (some ⟨rb, 0, none⟩) 2 2 [vI 1, vI 2], .lst none 0 0 [], .lst none 0 0 [], .lst none 0 0 []]) (by simp only [List.map_cons, List.map_nil, EV,Nat.reduceEqDiff,↓reduceIte,he]; try rfl) Zy6 Zy7 rfl ?_
 refine Zad ?_
 refine Zkx (vs := [.raw (.int .u8 5), .raw (.int .u8 0), .raw (.int .u8 7)]) (cells := [.raw (.int .u8 5), .raw (.int .u8 0), .raw (.int .u8 7)]) (by simp only [List.map_cons, List.map_nil, EV,Nat.reduceEqDiff,↓reduceIte,he]; try rfl) Zgu ZAz ZAy rfl (by omega) rfl rfl fun rb2 σ3 hN3 hX3 => ?_
 refine Zad ?_
 refine Zf3 (vs := [.agg [vI 3, vI 2, .lst (some ⟨rb, 0, none⟩) 2 2 [vI 1, vI 2], .lst none 0 0 [], .lst none 0 0 [], .lst none 0 0 []], .lst (some ⟨rb2, 0, none⟩) 3 3 [.raw (.int .u8 5), .raw (.int .u8 0), .raw (.int .u8 7)]]) (cells := [vI 3, vI 2, .lst (some ⟨rb, 0, none⟩) 2 2 [vI 1, vI 2], .lst none 0 0 [], .lst none 0 0 [], .lst none 0 0 [], .lst (some ⟨rb2, 0, none⟩) 3 3 [.raw (.int .u8 5), .raw (.int .u8 0), .raw (.int .u8 7)]]) (by simp only [List.map_cons, List.map_nil, EV,Nat.reduceEqDiff,↓reduceIte,he]; try rfl) Zha Zvb rfl ?_
 refine Zad ?_
 refine Zcs (b := b0) (o := 0) (u := .agg [vI 3, vI 2, .lst (some ⟨rb, 0, none⟩) 2 2 [vI 1, vI 2], .lst none 0 0 [], .lst none 0 0 [], .lst none 0 0 [], .lst (some ⟨rb2, 0, none⟩) 3 3 [.raw (.int .u8 5), .raw (.int .u8 0), .raw (.int .u8 7)]]) he rfl ((hX2.trans hX3).keep _ _ hb1) ZbC rfl rfl fun σ4 hb4 k4 => ?_
 refine Zag ?_
 refine Za5 ?_
 refine Znh rfl (ZeT he hb4 ZcN ZbC (Zed rfl)) (hK _ σ4 ?_ (But.ext ((hX1.trans hX2).trans hX3) (fun g hg => by rw [hg]; exact hn1) k4))
 exact .cons (Zam.2 rfl) (.cons (Zam.2 rfl) (.cons (Zcu.2 ⟨some ⟨rb, 0, none⟩, 2, [vI 1, vI 2], [], rfl, Nat.le_refl _, by decide, by simp, (fun q => by cases q), .cons (Zam.2 rfl) (.cons (Zam.2 rfl) .none)⟩) (.cons (Zhb 0) (.cons (Zhb 0) (.cons (Zhb 0) (.cons (ZuG (d := [5, 0, 7]) (ZyM rb2 (by decide))) .none))))))
theorem ZwR {k nm d : List UInt8} {fs' : List Fl} {pcs' : List (Nat × Nat)} (h : Zs9 [] [] k nm d fs' pcs') (hk : k ≠ nm) : ∃ b v, fs' = [⟨nm, b, v, d⟩] /\ pcs' = [] := by
 obtain ⟨fs2, pcs2, f, ⟨fs1, f0, v', h1, h2, h3, rfl, rfl⟩, _, hf, hfk, rfl, rfl⟩ := h.ex
 rcases h1 with rfl | ⟨_, rfl, hd⟩
 ·cases h2
 ·have hset : ([] ++ [f0] : List Fl).map (Zco f0.b v' (f0.d ++ d)) = [⟨k, f0.b, v', d⟩] := by
   simp [Zco, h3, hd]
  rw [hset] at hf ⊢
  obtain rfl := List.mem_singleton.1 hf
  refine ⟨f0.b, v', ?_, ?_⟩
  ·simp [rnF, ZhD, hk]
  ·have hs : (ZeL [⟨k, f0.b, v', d⟩] [k] ([] ++ if d = [] then [] else [(f0.b, d.length)])).1 = [] := by
    rw [Zhj (fb := f0.b) (by simp [Za3, ZgL]), ZlL]
    split <;> simp
   rw [hs]
   unfold rnP
   split <;> rfl
theorem ZBS : (Go.Lib.decDigits 1).length <= 21 := by rw [<- Go.Lib.itoa_nonneg 1]; exact Go.Lib.itoa_length_le _ (by omega) (by omega)
theorem Zvc (g : Nat) : Zem g ≠ Zch g := fun q => by
 have := congrArg List.length q
 simp [Zem] at this
theorem Zi2 {x y : Zbe} {r : Bool} {as_ bs_ : List AV} (hx : SVs CT 0 ZbF (CT.enc 10 x) as_) (hy : SVs CT 0 ZbF (CT.enc 10 y) bs_) (hS : Zbf x y = some (r, ())) (hK : ∀ τ, Ext σ τ -> K (vT r) τ) : Zan Tryz.prog 14 [.agg as_, .agg bs_] σ K :=
 ZlC (Zfi.ok (x, y, ()) () (r, ()) hS) (.cons (ZbV.2 ⟨_, rfl, hx⟩) (.cons (ZbV.2 ⟨_, rfl, hy⟩) .none)) (fun N ρ a h => ZaO.1 h) K hK
set_option maxHeartbeats 4000000 in
theorem ZwS {bs d : List UInt8} {idx term : Int} {n1 n2 n3 n4 : Nat} {l1 l2 l3 l4 : List Int} {by_ : List UInt8}
 (hB : Zda smallD = some ((bs, 0, ()), ((), ()))) (hP : Zdv [⟨4, bs⟩] = some ((d, 0, ()), ((), ()))) (hdl : d.length <= 1000)
 (hG : ZeF d = some (([⟨4, bs⟩], (d.length : Int), ()), ((), ()))) (hI : ZfI bs = some (((idx, term, n1, n2, n3, n4, by_, ()), true, ()), (l1, l2, l3, l4, ()))) (g1 : n1 <= l1.length) (g2 : n2 <= l2.length) (g3 : n3 <= l3.length) (g4 : n4 <= l4.length) (hsm : l1.length <= 1000000 /\ l2.length <= 1000000 /\ l3.length <= 1000000 /\ l4.length <= 1000000)
 (hy : (⟨⟨idx, term, ⟨l1.take n1, l2.take n2, l3.take n3, l4.take n4⟩⟩, by_⟩ : Zbe) = smallD) (hS : Zbf smallD smallD = some (true, ())) (hK : ∀ τ, Ext σ τ -> K (vT true) τ) : Zan Tryz.prog 7 [] σ K := by
 refine Zay ZaF Tryz.func7 rfl rfl rfl (Nat.le_of_ble_eq_true rfl) ?_
 refine ZxB (fun _ => True) trivial ?_
 intro e he
 repeat refine Zab ?_
 first|refine Zaa ?_|refine Zac ?_
 refine Zah ?_
 refine Zag ?_
 repeat refine Zab ?_
 first|refine Zaa ?_|refine Zac ?_
 refine ZaN [vI 0] ?_
 refine ZxH fun bb mb σ1 h1 hX1 hnb hnm => ?_
 refine Zah ?_
 refine Zag ?_
 refine kp1 1 ?_
 clear he e
 intro e he
 repeat refine Zab ?_
 first|refine Zaa ?_|refine Zac ?_
 refine Zah ?_
 refine ZaN [ptr bb 0, vI 1] ?_
 refine Zpx (g := 1) h1 (by simp) (by omega) ZBS (by simp) fun σ2 hX2 => ?_
 refine Zah ?_
 refine Zad ?_
 refine ZaK (l := [.agg ZkD, vT false, vI 0]) rfl rfl ?_
 refine Zad ?_
 refine ZaK (l := [.agg ZkD, vT false, vI 0]) rfl rfl ?_
 refine Zad ?_
 refine ZaK (l := [.agg ZkD, vT false, vI 0]) rfl rfl ?_
 refine Zad ?_
 refine Zdn (cs := ZkD) Zha rfl fun b2 σ3 hn3 hu3 hb3 hub3 hX3 => ?_
 refine Zad ?_
 refine Zcs (b := b2) (o := 0) (u := .agg ZkD) rfl rfl hb3 ZbC rfl rfl fun σ4 hb4 k4 => ?_
 refine Zah ?_
 refine Zah ?_
 refine Zag ?_
 refine kp3 1 3 4 ?_
 clear he e
 intro e he
 have hX14 : Ext σ1 σ4 := But.ext (hX2.trans hX3) (fun g hg => by rw [hg]; exact hX2.noneOf hn3) k4
 repeat refine Zab ?_
 first|refine Zaa ?_|refine Zac ?_
 refine Zah ?_
 refine ZaN [] ?_
 refine ZrX fun as_ σ5 hs5 hX5 => ?_
 have hX15 : Ext σ1 σ5 := hX14.trans hX5
 have h5 := h1.but (U := fun _ => False) hX15.but fun b hb hf => hf
 refine ZaN [ptr bb 0, vI 1, .agg as_] ?_
 refine Zy2 (g := 1) (bs := bs) (d := d) h5 (fun c hc => hc.elim (fun q => q ▸ h5.used) (fun q => q ▸ h5.umap)) (by omega) ZBS hs5 hB hP (by show d.length + 0 <= _; omega) (by simp) (by show 0 <= _; omega) (fun hn => absurd (.inl (by omega)) hn) fun _ σ6 S' fs' pcs' pv' h6 k6 _ q6 u6 hA => ?_
 obtain ⟨fb, fv, rfl, rfl⟩ := ZwR hA (Zvc 1)
 refine Zah ?_
 refine Zag ?_
 refine kp4 1 3 4 5 ?_
 clear he e
 intro e he
 repeat refine Zab ?_
 first|refine Zaa ?_|refine Zac ?_
 refine Zah ?_
 refine ZaN [ptr bb 0, vI 0] ?_
 refine ZrR (keep := 0) h6 (by simp) ⟨by simp, fun f hf => by rw [ZiO]; exact Nat.zero_le _⟩ (by rw [ZrQ]; omega) (fun f hf => by rw [List.mem_singleton.1 hf]; show d.length <= _; omega) ⟨by omega, by omega⟩ fun σ7 fs7 h7 hdat k7 => ?_
 obtain ⟨f0, rfl, hf1, hf2⟩ : ∃ f0 : Fl, fs7 = [f0] /\ f0.nm = Zch 1 /\ f0.d = d := by
  rw [show ((ZcB ([] : List (Nat × Nat)) : Int) - max 0 0).toNat = 0 from rfl, ZeD] at hdat
  match fs7, hdat with
  | [f], hq =>
   simp only [dat, List.map_cons, List.map_nil, List.cons.injEq, Prod.mk.injEq, and_true] at hq
   exact ⟨f, rfl, hq.1, hq.2.2⟩
  | [], hq => simp [dat] at hq
  | _ :: _ :: _, hq => simp [dat] at hq
 refine Zag ?_
 refine kp4 1 3 4 5 ?_
 clear he e
 intro e he
 repeat refine Zab ?_
 first|refine Zaa ?_|refine Zac ?_
 refine Zah ?_
 refine ZaN [ptr bb 0, vI 1] ?_
 refine Zpy (g := 1) (f0 := f0) h7 (fun f hf => by rw [List.mem_singleton.1 hf, hf2]; omega) (by omega) ZBS (List.mem_singleton.2 rfl) hf1 (by rw [hf2]; exact hG) hI g1 g2 g3 g4 hsm fun bs_ σ8 hs8 hX8 => ?_
 rw [hy] at hs8
 have hb7 : bs_.length = 7 := hs8.len
 have hone : bs_.all AV.one = true := List.all_eq_true.2 (hs8.ones (List.all_eq_true.1 (show (CT.enc 10 smallD).all XV.one = true from rfl)))
 refine Zah ?_
 refine Zad ?_
 refine ZaK (l := [.agg bs_, vT true, vI 0]) rfl rfl ?_
 refine Zad ?_
 refine ZaK (l := [.agg bs_, vT true, vI 0]) rfl rfl ?_
 refine Zad ?_
 refine ZaK (l := [.agg bs_, vT true, vI 0]) rfl rfl ?_
 refine Zad ?_
 refine Zdn (cs := ZkD) Zha rfl fun b6 σ9 hn9 hu9 hb9 hub9 hX9 => ?_
 refine Zad ?_
 refine Zcs (b := b6) (o := 0) (u := .agg bs_) (cs' := bs_) rfl rfl hb9 ZbC (by simp [Zdc, hb7, hone, ZkD]) (by simp [ZaC, hb7, ZkD]) fun σ10 hb10 k10 => ?_
 refine Zah ?_
 refine Zah ?_
 refine Zag ?_
 refine kp6 3 4 5 6 7 8 ?_
 clear he e
 intro e he
 refine Zji ?_
 refine ⟨[0, 1, 2, 3, 4, 5, 6, 7, 8, 9, 10, 11, 12, 13, 14, 15, 16, 17, 18, 19, 20, 21, 22], [[], [0], [0, 1], [0, 1, 2], [0, 1, 2, 3], [0, 1, 2, 3, 4], [0, 1, 2, 3, 4, 5], [0, 1, 2, 3, 4, 5, 6], [0, 1, 2, 3, 4, 5, 6, 7], [0, 1, 2, 3, 4, 5, 6, 7, 8], [0, 1, 2, 3, 4, 5, 6, 7, 8, 9], [0, 1, 2, 3, 4, 5, 6, 7, 8, 9, 10], [0, 1, 2, 3, 4, 5, 6, 7, 8, 9, 10, 11], [0, 1, 2, 3, 4, 5, 6, 7, 8, 9, 10, 11, 12], [0, 1, 2, 3, 4, 5, 6, 7, 8, 9, 10, 11, 12, 13], [0, 1, 2, 3, 4, 5, 6, 7, 8, 9, 10, 11, 12, 13, 14], [0, 1, 2, 3, 4, 5, 6, 7, 8, 9, 10, 11, 12, 13, 14, 15], [0, 1, 2, 3, 4, 5, 6, 7, 8, 9, 10, 11, 12, 13, 14, 15, 16], [0, 1, 2, 3, 4, 5, 6, 7, 8, 9, 10, 11, 12, 13, 14, 15, 16, 17], [0, 1, 2, 3, 4, 5, 6, 7, 8, 9, 10, 11, 12, 13, 14, 15, 16, 17], [0, 1, 2, 3, 4, 5, 6, 7, 8, 9, 10, 11, 12, 13, 14, 15, 16, 17, 18, 19], [0, 1, 2, 3, 4, 5, 6, 7, 8, 9, 10, 11, 12, 13, 14, 15, 16, 17, 18, 19, 20], [0, 1, 2, 3, 4, 5, 6, 7, 8, 9, 10, 11, 12, 13, 14, 15, 16, 17, 18, 19, 20, 21]], fun _ => True, [18], [19], [], by kernel_rfl, ?_⟩
 refine Zej ?_
 refine Zcc ?_
 with_reducible apply ZrA
 case hx => simp only [EV,Nat.reduceEqDiff,↓reduceIte,he];try rfl
 refine ZcA ?_
 refine Zej ?_
 refine Zej ?_
 refine Zcc ?_
 refine Zmi (k := .i64) (a := 0) (b := 0) rfl rfl ?_
 refine ZcA ?_
 refine Zcc ?_
 refine Zbt (v := vT true) rfl rfl ?_
 refine ZcA ?_
 refine Zej ?_
 refine Zej ?_
 refine Zcc ?_
 refine Zmi (k := .i64) (a := 0) (b := 0) rfl rfl ?_
 refine ZcA ?_
 refine Zcc ?_
 refine Zbt (v := vT true) rfl rfl ?_
 refine ZcA ?_
 refine Zej ?_
 refine Zej ?_
 refine Zcc ?_
 refine Zbt (v := vT true) rfl rfl ?_
 refine ZcA ?_
 refine Zej ?_
 refine Zej ?_
 refine Zcc ?_
 refine Zmi (k := .i64) (a := 0) (b := 0) rfl rfl ?_
 refine ZcA ?_
 refine Zcc ?_
 refine Zbt (v := vT true) rfl rfl ?_
 refine ZcA ?_
 refine Zej ?_
 refine Zcc ?_
 refine Zau (b := b6) (o := 0) (r := .agg bs_) he.2.2.2.1 hb10 ZcN ZbC (Zed hb7) ?_
 refine ZcA ?_
 refine Zcc ?_
 refine ZeR (vs := []) (by simp only [List.map_cons, List.map_nil, EV,Nat.reduceEqDiff,↓reduceIte,he];try rfl) ?_
 refine ZrX fun cs_ σ11 hs11 hX11 => ⟨fun _ => hX11, ?_⟩
 refine Zcc ?_
 refine ZeR (vs := [.agg bs_, .agg cs_]) (by simp only [List.map_cons, List.map_nil, EV,Nat.reduceEqDiff,↓reduceIte,he];try rfl) ?_
 refine Zi2 hs8 hs11 hS fun σ12 hX12 => ⟨fun _ => hX12, ?_⟩
 refine Zcc ?_
 refine Zbt (v := vT true) rfl rfl ?_
 refine ZcA ?_
 refine Zej ?_
 refine ZnA ?_
 refine kp1 0 ?_
 clear he e
 intro e he
 refine Za5 ?_
 have hE5 : Ext σ σ5 := hX1.trans hX15
 have hS0 : ∀ b, (b = bb \/ b = mb) -> σ.blk b = none := fun b hb => hb.elim (fun q => q ▸ hnb.1) (fun q => q ▸ hnm.1)
 have hE7 : Ext σ σ7 := But.ext (But.ext hE5 hS0 k6) (fun b hb => (q6 b hb).elim (hS0 b) (fun hn => (hn.of hE5).1)) k7
 have hE8 : Ext σ σ8 := hE7.trans hX8
 exact ZbX (hK σ12 ((But.ext (hE8.trans hX9) (fun g hg => by rw [hg]; exact hE8.noneOf hn9) k10).trans (hX11.trans hX12)))
end
end Go.Proofs.YteempnebenjkmaaGreatDoor
