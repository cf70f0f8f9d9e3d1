/- XEd, XEe, XPa, XEf in one. -/
import Derived.Test.YtiienjjhlibopaaGreatDoorFacts
import Derived.Test.YtiienjjhlibopaaGreatDoorMai
import Derived.Test.YtiienjjhlibopaaGreatDoorMab
import Derived.Defers
import Derived.Recover
namespace Go.Proofs.YtiienjjhlibopaaGreatDoor
open Go.RowKit
set_option maxRecDepth 100000
set_option linter.unusedVariables false
set_option linter.unusedSimpArgs false
section
variable {σ : St} {K : AV -> St -> Prop}
def Zd3 (σ0 σ : St) (cs : List AV) (ls : List (List Int)) : Prop := ∀ i (h : i < ls.length), ∃ b u, cs[i]? = some u /\ Zqk σ b u ls[i] /\ Za9 σ0 b
theorem Zd3.ext {σ0 σ τ : St} {cs : List AV} {ls : List (List Int)} (h : Zd3 σ0 σ cs ls) (k : Ext σ τ) : Zd3 σ0 τ cs ls := fun i hi => by
 obtain ⟨b, u, h1, h2, h3⟩ := h i hi
 exact ⟨b, u, h1, h2.ext k, h3⟩
theorem Zd3.butb {σ0 σ τ : St} {cs : List AV} {ls : List (List Int)} {b1 : Nat} {x : Bk} (h : Zd3 σ0 σ cs ls) (k : But (fun c => c = b1) σ τ) (hb : σ0.blk b1 = some x) : Zd3 σ0 τ cs ls := fun i hi => by
 obtain ⟨b, u, h1, h2, h3⟩ := h i hi
 exact ⟨b, u, h1, h2.but k (fun q => by have q : b = b1 := q; rw [<- q, h3.1] at hb; cases hb), h3⟩
theorem Zd3.from {σ0 σ1 σ : St} {cs : List AV} {ls : List (List Int)} (h : Zd3 σ1 σ cs ls) (k : Ext σ0 σ1) : Zd3 σ0 σ cs ls := fun i hi => by
 obtain ⟨b, u, h1, h2, h3⟩ := h i hi
 exact ⟨b, u, h1, h2, h3.of k⟩
theorem Zd3.at_ {σ0 σ : St} {cs : List AV} {ls : List (List Int)} (h : Zd3 σ0 σ cs ls) : ZbM σ cs ls := fun i hi => by
 obtain ⟨b, u, h1, h2, h3⟩ := h i hi
 exact ⟨u, h1, .of (h2.hd (Zc1 _))⟩
theorem ZbM.ls {σ : St} {a0 a1 a2 a3 : AV} {ls : List (List Int)} (h4 : ls.length = 4) (h : ZbM σ [a0, a1, a2, a3] ls) : ∃ l0 l1 l2 l3, ls = [l0, l1, l2, l3] /\ Ls σ 3 a0 l0.length (vIs l0) /\ Ls σ 3 a1 l1.length (vIs l1) /\ Ls σ 3 a2 l2.length (vIs l2) /\ Ls σ 3 a3 l3.length (vIs l3) := by
 obtain ⟨l0, l1, l2, l3, rfl⟩ := Zc3 h4
 have f : ∀ k (hk : k < 4) u, [a0, a1, a2, a3][k]? = some u -> Ls σ 3 u ([l0, l1, l2, l3][k]'hk).length (vIs ([l0, l1, l2, l3][k]'hk)) := fun k hk u hu => by
  obtain ⟨u', q1, q2⟩ := h k hk
  rw [hu] at q1
  cases q1
  exact q2
 exact ⟨l0, l1, l2, l3, rfl, f 0 (by omega) a0 rfl, f 1 (by omega) a1 rfl, f 2 (by omega) a2 rfl, f 3 (by omega) a3 rfl⟩
theorem ZfB {a0 a1 a2 a3 : AV} {ls : List (List Int)} (h4 : ls.length = 4) (hc : ZbM σ [a0, a1, a2, a3] ls) (hn : ∀ l ∈ ls, l.length <= 1000000) (hK : ∀ c0 c1 c2 c3 τ, Zd3 σ τ [c0, c1, c2, c3] ls -> Ext σ τ -> K (.agg [c0, c1, c2, c3]) τ) : Zan Tryz.prog 53 [.agg [a0, a1, a2, a3]] σ K := by
 obtain ⟨l0, l1, l2, l3, rfl, f0, f1, f2, f3⟩ := hc.ls h4
 have g0 := hn l0 (by simp); have g1 := hn l1 (by simp); have g2 := hn l2 (by simp); have g3 := hn l3 (by simp)
 refine Zai Zam Tryz.func53 rfl rfl rfl (Nat.le_of_ble_eq_true rfl) ?_
 refine Zbf 0 (v0 := .agg [a0, a1, a2, a3]) rfl ?_
 intro e he
 refine Zaa (Zac (Zbn (cs := [a0, a1, a2, a3]) (v := .agg [a0, a1, a2, a3]) he rfl fun b1 υ2 hn3 hu4 hb5 hv6 hX7 => ?_))
 refine Zac (ZaH (cs := [.lst none 0 0 [], .lst none 0 0 [], .lst none 0 0 [], .lst none 0 0 []]) ZpC rfl fun b8 υ9 hn10 hu11 hb12 hv13 hX14 => ?_)
 have ne15 := Zat hb5 hn10
 have hb5 := hX14.keep _ _ hb5
 have hv6 := hX14.used _ hv6
 refine Zaf (kp2 1 2 fun e he => ?_)
 refine Zaa (Zac (Zae (b := b1) (o := 0) he.1 Zcr rfl ?_))
 refine Zac (Zah (b := b1) (o := 0 + 0) (r := a0) rfl hb5 fa6 Zb4 rfl ?_)
 refine Zao [a0] ?_
 refine ZgA (f0.ext (hX7.trans hX14)) g0 fun b16 u17 τ18 h19 hX20 hN21 => ?_
 have ne22 : b16 ≠ b1 := fun q => by have := hN21.1; rw [q, hb5] at this; cases this
 have ne23 : b16 ≠ b8 := fun q => by have := hN21.1; rw [q, hb12] at this; cases this
 have hb5 := hX20.keep _ _ hb5
 have hv6 := hX20.used _ hv6
 have hb12 := hX20.keep _ _ hb12
 have hv13 := hX20.used _ hv13
 refine Zac (Zae (b := b1) (o := 0) he.1 Zcr rfl ?_)
 refine Zac (ZaI (b := b1) (o := 0 + 0) (v := u17) rfl rfl hb5 Zb4 (Ls.oneV (Ls.of (h19.hd (Zc1 _)))) (by simp) fun υ24 hb5 k25 => ?_)
 have hb12 := k25.keep _ _ ne15 hb12
 have hv13 := k25.used _ hv13
 have hv6 := k25.used _ hv6
 have h19 := h19.but k25 ne22
 refine Zaf (kp2 1 2 fun e he => ?_)
 refine Zaa (Zac (Zae (b := b1) (o := 0) he.1 Zcr rfl ?_))
 refine Zac (Zah (b := b1) (o := 0 + 1) (r := a1) rfl hb5 fa6 Zb4 rfl ?_)
 refine Zao [a1] ?_
 refine ZgA (f1.ext (But.ext ((hX7.trans hX14).trans hX20) (fun g hg => by rw [hg]; exact hn3) k25)) g1 fun b26 u27 τ28 h29 hX30 hN31 => ?_
 have ne32 : b26 ≠ b1 := fun q => by have := hN31.1; rw [q, hb5] at this; cases this
 have ne33 : b26 ≠ b8 := fun q => by have := hN31.1; rw [q, hb12] at this; cases this
 have hb5 := hX30.keep _ _ hb5
 have hv6 := hX30.used _ hv6
 have hb12 := hX30.keep _ _ hb12
 have hv13 := hX30.used _ hv13
 have h19 := h19.ext hX30
 refine Zac (Zae (b := b1) (o := 0) he.1 Zcr rfl ?_)
 refine Zac (ZaI (b := b1) (o := 0 + 1) (v := u27) rfl rfl hb5 Zb4 (Ls.oneV (Ls.of (h29.hd (Zc1 _)))) (by simp) fun υ34 hb5 k35 => ?_)
 have hb12 := k35.keep _ _ ne15 hb12
 have hv13 := k35.used _ hv13
 have hv6 := k35.used _ hv6
 have h19 := h19.but k35 ne22
 have h29 := h29.but k35 ne32
 refine Zaf (kp2 1 2 fun e he => ?_)
 refine Zaa (Zac (Zae (b := b1) (o := 0) he.1 Zcr rfl ?_))
 refine Zac (Zah (b := b1) (o := 0 + 2) (r := a2) rfl hb5 fa6 Zb4 rfl ?_)
 refine Zao [a2] ?_
 refine ZgA (f2.ext (But.ext ((But.ext ((hX7.trans hX14).trans hX20) (fun g hg => by rw [hg]; exact hn3) k25).trans hX30) (fun g hg => by rw [hg]; exact hn3) k35)) g2 fun b36 u37 τ38 h39 hX40 hN41 => ?_
 have ne42 : b36 ≠ b1 := fun q => by have := hN41.1; rw [q, hb5] at this; cases this
 have ne43 : b36 ≠ b8 := fun q => by have := hN41.1; rw [q, hb12] at this; cases this
 have hb5 := hX40.keep _ _ hb5
 have hv6 := hX40.used _ hv6
 have hb12 := hX40.keep _ _ hb12
 have hv13 := hX40.used _ hv13
 have h19 := h19.ext hX40
 have h29 := h29.ext hX40
 refine Zac (Zae (b := b1) (o := 0) he.1 Zcr rfl ?_)
 refine Zac (ZaI (b := b1) (o := 0 + 2) (v := u37) rfl rfl hb5 Zb4 (Ls.oneV (Ls.of (h39.hd (Zc1 _)))) (by simp) fun υ44 hb5 k45 => ?_)
 have hb12 := k45.keep _ _ ne15 hb12
 have hv13 := k45.used _ hv13
 have hv6 := k45.used _ hv6
 have h19 := h19.but k45 ne22
 have h29 := h29.but k45 ne32
 have h39 := h39.but k45 ne42
 refine Zaf (kp2 1 2 fun e he => ?_)
 refine Zaa (Zac (Zae (b := b1) (o := 0) he.1 Zcr rfl ?_))
 refine Zac (Zah (b := b1) (o := 0 + 3) (r := a3) rfl hb5 fa6 Zb4 rfl ?_)
 refine Zao [a3] ?_
 refine ZgA (f3.ext (But.ext ((But.ext ((But.ext ((hX7.trans hX14).trans hX20) (fun g hg => by rw [hg]; exact hn3) k25).trans hX30) (fun g hg => by rw [hg]; exact hn3) k35).trans hX40) (fun g hg => by rw [hg]; exact hn3) k45)) g3 fun b46 u47 τ48 h49 hX50 hN51 => ?_
 have ne52 : b46 ≠ b1 := fun q => by have := hN51.1; rw [q, hb5] at this; cases this
 have ne53 : b46 ≠ b8 := fun q => by have := hN51.1; rw [q, hb12] at this; cases this
 have hb5 := hX50.keep _ _ hb5
 have hv6 := hX50.used _ hv6
 have hb12 := hX50.keep _ _ hb12
 have hv13 := hX50.used _ hv13
 have h19 := h19.ext hX50
 have h29 := h29.ext hX50
 have h39 := h39.ext hX50
 refine Zac (Zae (b := b1) (o := 0) he.1 Zcr rfl ?_)
 refine Zac (ZaI (b := b1) (o := 0 + 3) (v := u47) rfl rfl hb5 Zb4 (Ls.oneV (Ls.of (h49.hd (Zc1 _)))) (by simp) fun υ54 hb5 k55 => ?_)
 have hb12 := k55.keep _ _ ne15 hb12
 have hv13 := k55.used _ hv13
 have hv6 := k55.used _ hv6
 have h19 := h19.but k55 ne22
 have h29 := h29.but k55 ne32
 have h39 := h39.but k55 ne42
 have h49 := h49.but k55 ne52
 refine Zaf (kp2 1 2 fun e he => ?_)
 refine Zaa (Zac (Zah (b := b1) (o := 0) (r := .agg [u17, u27, u37, u47]) he.1 hb5 fa7 Zdb rfl ?_))
 refine Zac (ZaB (b := b8) (o := 0) (u := .agg [u17, u27, u37, u47]) he.2 rfl hb12 Zdb (by obtain ⟨_, rfl, _⟩ := h19 <;> obtain ⟨_, rfl, _⟩ := h29 <;> obtain ⟨_, rfl, _⟩ := h39 <;> obtain ⟨_, rfl, _⟩ := h49 <;> rfl) rfl fun υ56 hb12 k57 => ?_)
 have hb5 := k57.keep _ _ (Ne.symm ne15) hb5
 have hv6 := k57.used _ hv6
 have hv13 := k57.used _ hv13
 have h19 := h19.but k57 ne23
 have h29 := h29.but k57 ne33
 have h39 := h39.but k57 ne43
 have h49 := h49.but k57 ne53
 refine Zaf (kp1 2 fun e he => ?_)
 refine Zap ?_
 show ∃ r, ZaM _ _ _ _ r /\ _
 exact ⟨_, ZdE rfl (ZaJ he hb12 fa7 Zdb rfl), hK _ _ _ _ _ (fun i h => match i, h with | 0, _ => ⟨b16, u17, rfl, h19, Za9.of hN21 (hX7.trans hX14)⟩ | 1, _ => ⟨b26, u27, rfl, h29, Za9.of hN31 (But.ext ((hX7.trans hX14).trans hX20) (fun g hg => by rw [hg]; exact hn3) k25)⟩ | 2, _ => ⟨b36, u37, rfl, h39, Za9.of hN41 (But.ext ((But.ext ((hX7.trans hX14).trans hX20) (fun g hg => by rw [hg]; exact hn3) k25).trans hX30) (fun g hg => by rw [hg]; exact hn3) k35)⟩ | 3, _ => ⟨b46, u47, rfl, h49, Za9.of hN51 (But.ext ((But.ext ((But.ext ((hX7.trans hX14).trans hX20) (fun g hg => by rw [hg]; exact hn3) k25).trans hX30) (fun g hg => by rw [hg]; exact hn3) k35).trans hX40) (fun g hg => by rw [hg]; exact hn3) k45)⟩ | n + 4, h => absurd h (by simp)) (But.ext (But.ext ((But.ext ((But.ext ((But.ext ((hX7.trans hX14).trans hX20) (fun g hg => by rw [hg]; exact hn3) k25).trans hX30) (fun g hg => by rw [hg]; exact hn3) k35).trans hX40) (fun g hg => by rw [hg]; exact hn3) k45).trans hX50) (fun g hg => by rw [hg]; exact hn3) k55) (fun g hg => by rw [hg]; exact hX7.noneOf hn10) k57)⟩
def ZqR (σ : St) (q : AV) (r : List AV) : Prop := (∃ ad cs, q = .eptr ad cs /\ r <+: cs) \/ ∃ b o t all, q = ptr b o /\ σ.blk b = some (.own t all) /\ r <+: all.drop o
theorem Zhg {g : Bool} {n : Nat} {r cs : List AV} {v : AV} (h : r <+: cs) (hr : Zbi (some g) (some n) r 0 = some v) : Zbi (some g) (some n) cs 0 = some v := by
 obtain ⟨t, rfl⟩ := h
 cases g with
 | true =>
  have hr : (if 0 + n <= r.length then some (AV.agg ((r.drop 0).take n)) else none) = some v := hr
  show (if 0 + n <= (r ++ t).length then some (AV.agg (((r ++ t).drop 0).take n)) else none) = some v
  split at hr
  ·rename_i h0
   rw [if_pos (by rw [List.length_append]; omega), <- hr, List.drop_zero, List.drop_zero, List.take_append_of_le_length (by omega)]
  ·cases hr
 | false =>
  have hr : r[0]? = some v := hr
  show (r ++ t)[0]? = some v
  rw [List.getElem?_append_left (Zcd hr)]
  exact hr
theorem ZkR {α : Type} {r cs : List α} (n : Nat) (h : r <+: cs) : r.drop n <+: cs.drop n := by
 obtain ⟨t, rfl⟩ := h
 by_cases hn : n <= r.length
 ·rw [List.drop_append_of_le_length hn]
  exact List.prefix_append _ _
 ·rw [List.drop_eq_nil_of_le (by omega)]
  exact List.nil_prefix
theorem ZqR.load {P : Program} {σ : St} {q v : AV} {r : List AV} {t n : Nat} {g : Bool} (h : ZqR σ q r) (ha : ZdB P t = some g) (hs : ZaU P t = some (n + 1)) (hr : Zbi (some g) (some (n + 1)) r 0 = some v) : ZbU P t σ q = some v := by
 rcases h with ⟨ad, cs, rfl, h1⟩ | ⟨b, o, t', all, rfl, h1, h2⟩
 ·show Zbi (ZdB P t) (ZaU P t) cs 0 = some v
  rw [ha, hs]
  exact Zhg h1 hr
 ·have : ZbU P t σ (ptr b o) = Zbi (ZdB P t) (ZaU P t) all o := by unfold ZbU ptr; dsimp only; rw [h1]
  rw [this, ha, hs]
  have h3 := Zhg h2 hr
  cases g with
  | true =>
   have h3 : (if 0 + (n + 1) <= (all.drop o).length then some (AV.agg (((all.drop o).drop 0).take (n + 1))) else none) = some v := h3
   show (if o + (n + 1) <= all.length then some (AV.agg ((all.drop o).take (n + 1))) else none) = some v
   split at h3
   ·rename_i h0
    rw [List.length_drop] at h0
    rw [if_pos (by omega), <- h3, List.drop_zero]
   ·cases h3
  | false =>
   have h3 : (all.drop o)[0]? = some v := h3
   show all[o]? = some v
   rw [List.getElem?_drop, Nat.add_zero] at h3
   exact h3
section
variable {P : Program} {ops : Array Oper} {env : Env} {σ τ : St} {K : Env -> St -> Prop} {d : Option Nat} {ty ty' t : TypeId} {pos : String} {af : Array Edge} {x y z : Operand}
theorem Zir {e sz n i : Nat} {v : AV} {cells r : List AV} {lt : TypeId} (h : Lz σ e sz v n cells) (hi : i < n) (hr : (cells.drop (i * sz)).take sz = r) (hx : ev env x = v) (hy : ev env y = vI i) (ht : ZaW P lt = some e) (hs : ZaU P e = some sz) (hk : ∀ q, ZqR σ q r -> K (env.put d q) σ) : aOp P ops ⟨d, .indexAddr lt x y, ty, pos, af, none⟩ env σ K := by
 subst hr
 have hl := h.1
 have h2 : (i + 1) * sz <= n * sz := Nat.mul_le_mul_right _ hi
 have h3 : (i + 1) * sz = i * sz + sz := Nat.succ_mul ..
 rcases h.2.2 with ⟨A, c, rest, rfl, hA⟩ | h1
 ·refine Zfm (k := .i64) (j := i) hx hy ht hs hi hA rfl fun ad => hk _ (.inl ⟨_, _, rfl, ?_⟩)
  rw [List.drop_append_of_le_length (by omega)]
  exact (List.take_prefix _ _).trans (List.prefix_append _ _)
 ·refine Zb0 (k := .i64) (j := i) hx hy ht hs h1 hi fun b hb => ?_
  obtain ⟨c, all, rfl, g1, g2, g3, g4, g5, g6⟩ := h1.at_ hb
  refine hk _ (.inr ⟨b, i * sz, e, all, rfl, g1, ?_⟩)
  rw [<- g4, List.drop_take, List.take_take, Nat.min_eq_left (by omega)]
  exact List.take_prefix _ _
theorem ZhU {q : AV} {r : List AV} {T f off n : Nat} {g : Option Bool} {stl : List (Nat × Option Nat × Option Bool)} (h : ZqR σ q r) (hx : ev env x = q) (hst : Za3 P T = some stl) (hf : stl[f]? = some (off, some (n + 1), g)) (hk : ∀ q', ZqR σ q' (r.drop off) -> K (env.put d q') σ) : aOp P ops ⟨d, .fieldAddr T x f, ty, pos, af, none⟩ env σ K := by
 rcases h with ⟨ad, cs, rfl, h1⟩ | ⟨b, o, t', all, rfl, h1, h2⟩
 ·exact Zh6 hx hst hf (hk _ (.inl ⟨_, _, rfl, ZkR off h1⟩))
 ·refine Zae (b := b) (o := o) hx hst hf (hk _ (.inr ⟨b, o + off, t', all, rfl, h1, ?_⟩))
  have := ZkR off h2
  rwa [List.drop_drop] at this
theorem Zis {q v : AV} {r : List AV} {n : Nat} {g : Bool} (h : ZqR σ q r) (hx : ev env x = q) (ha : ZdB P t = some g) (hs : ZaU P t = some (n + 1)) (hr : Zbi (some g) (some (n + 1)) r 0 = some v) (hk : K (env.put d v) σ) : aOp P ops ⟨d, .load t x, ty, pos, af, none⟩ env σ K := ZbV hx (h.load ha hs hr) hk
end
theorem Zhh {a0 a1 a2 a3 : AV} {ls : List (List Int)} (h4 : ls.length = 4) (hc : ZbM σ [a0, a1, a2, a3] ls) (hn : ∀ l ∈ ls, l.length <= 140737488355328) (hK : ∀ τ, Ext σ τ -> K (vI ((1 + ls.flatten.length : Nat) : Int)) τ) : Zan Tryz.prog 8 [.agg [a0, a1, a2, a3]] σ K := by
 obtain ⟨l0, l1, l2, l3, rfl, f0, f1, f2, f3⟩ := hc.ls h4
 have g0 := hn l0 (by simp); have g1 := hn l1 (by simp); have g2 := hn l2 (by simp); have g3 := hn l3 (by simp)
 refine Zai Zam Tryz.func8 rfl rfl rfl (Nat.le_of_ble_eq_true rfl) ?_
 refine Zbf 0 (v0 := .agg [a0, a1, a2, a3]) rfl ?_
 intro e he
 refine Zaa (Zac (Zbn (cs := [a0, a1, a2, a3]) (v := .agg [a0, a1, a2, a3]) he rfl fun b58 υ59 hn60 hu61 hb62 hv63 hX64 => ?_))
 refine Zag ?_
 refine Zaf (kp1 1 fun e he => ?_)
 refine Zaa (Zac (Zae (b := b58) (o := 0) he Zcr rfl ?_))
 refine Zac (Zah (b := b58) (o := 0 + 0) (r := a0) rfl hb62 fa6 Zb4 rfl ?_)
 refine Zac (ZaP (σ := υ59) rfl (f0.ext hX64) rfl Zco ?_)
 refine Zby 1 l0.length ?_
 refine Zac (Zae (b := b58) (o := 0) he Zcr rfl ?_)
 refine Zac (Zah (b := b58) (o := 0 + 1) (r := a1) rfl hb62 fa6 Zb4 rfl ?_)
 refine Zac (ZaP (σ := υ59) rfl (f1.ext hX64) rfl Zco ?_)
 refine Zby (1 + l0.length) l1.length ?_
 refine Zac (Zae (b := b58) (o := 0) he Zcr rfl ?_)
 refine Zac (Zah (b := b58) (o := 0 + 2) (r := a2) rfl hb62 fa6 Zb4 rfl ?_)
 refine Zac (ZaP (σ := υ59) rfl (f2.ext hX64) rfl Zco ?_)
 refine Zby (1 + l0.length + l1.length) l2.length ?_
 refine Zac (Zae (b := b58) (o := 0) he Zcr rfl ?_)
 refine Zac (Zah (b := b58) (o := 0 + 3) (r := a3) rfl hb62 fa6 Zb4 rfl ?_)
 refine Zac (ZaP (σ := υ59) rfl (f3.ext hX64) rfl Zco ?_)
 refine Zby (1 + l0.length + l1.length + l2.length) l3.length ?_
 refine Zag ?_
 refine Zaf (kp1 2 fun e he => ?_)
 refine Zap ?_
 have e9 : 1 + l0.length + l1.length + l2.length + l3.length = 1 + ([l0, l1, l2, l3] : List (List Int)).flatten.length := by simp only [List.flatten_cons, List.flatten_nil, List.length_append, List.length_nil]; omega
 rw [e9] at he
 exact ZaD (hK _ hX64)
def eoF : List Ent -> Int -> Nat -> Nat
 | [], _, n => n
 | e :: es, m, n => if (n : Int) <= m then eoF es m (n + 1 + e.c.length / 8 + (1 + e.ls.flatten.length)) else n
theorem Znb {es : List Ent} {m : Int} {n : Nat} (h : ¬ (n : Int) <= m) : eoF es m n = n := by
 cases es with
 | nil => rfl
 | cons e es => exact if_neg h
theorem ZsA {ls : List (List Int)} (h4 : ls.length = 4) (hn : ∀ l ∈ ls, l.length <= 140737488355328) : ls.flatten.length <= 562949953421312 := by
 obtain ⟨l0, l1, l2, l3, rfl⟩ := Zc3 h4
 have g0 := hn l0 (by simp); have g1 := hn l1 (by simp); have g2 := hn l2 (by simp); have g3 := hn l3 (by simp)
 simp only [List.flatten_cons, List.flatten_nil, List.length_append, List.length_nil]
 omega
theorem Zlw.ext {σ τ : St} {v : AV} {es : List Ent} {cells : List AV} (h : Zlw σ v es cells) (k : Ext σ τ) : Zlw τ v es cells := ⟨h.1.ext k, fun i hi => ⟨(h.2 i hi).1, (h.2 i hi).2.1.ext k, (h.2 i hi).2.2.1.ext k, (h.2 i hi).2.2.2⟩⟩
theorem Zjj {v : AV} {es : List Ent} {cells : List AV} {most : Int} (hE : Zlw σ v es cells) (hes : es.length <= 140737488355328) (hm : most <= 1000000) (hb : ∀ e ∈ es, e.c.length <= 140737488355328 /\ ∀ l ∈ e.ls, l.length <= 140737488355328) (hK : ∀ τ, Ext σ τ -> K (vI (eoF es most 0 : Int)) τ) : Zan Tryz.prog 7 [v, vI most] σ K := by
 refine Zai Zam Tryz.func7 rfl rfl rfl (Nat.le_of_ble_eq_true rfl) ?_
 refine ZbL 0 1 (v0 := v) (v1 := vI most) rfl rfl ?_
 intro e he
 refine Zaa (Zag ?_)
 refine Zaf (kp2 0 1 fun e he => ?_)
 refine Zaa (Zag ?_)
 refine Zaf (kp3 0 1 5 fun e he => ?_)
 refine Zab (Zaa (Zag ?_))
 refine Zaf (kp4 0 1 5 6 fun e he => ?_)
 refine ZaF (Za4 (fun μ env υ => ∃ (i : Nat) (n : Nat), μ = es.length - i /\ (env 0 = v /\ env 1 = vI most /\ env 5 = vI ((n : Nat) : Int) /\ env 6 = vI ((i : Nat) : Int)) /\ i <= es.length /\ Ext σ υ /\ eoF es most 0 = eoF (es.drop i) most n) ⟨_, 0, 0, rfl, ⟨by simp only [EV,Nat.reduceEqDiff,↓reduceIte,he];try rfl, by simp only [EV,Nat.reduceEqDiff,↓reduceIte,he];try rfl, by simp only [EV,Nat.reduceEqDiff,↓reduceIte,he];try rfl, by simp only [EV,Nat.reduceEqDiff,↓reduceIte,he];try rfl⟩, Nat.zero_le _, .refl _, rfl⟩ ?_)
 clear he e
 rintro _ e υ65 ⟨i, n, rfl, he, p1, p2, p4⟩
 refine Zab (Zaa (Zag ?_))
 refine Zag ?_
 refine Zac (Zea rfl (hE.ext p2).1 rfl Zeb ?_)
 refine Zcf i es.length ?_
 refine Zag ?_
 cases hg66 : decide (i < es.length) with
 | false =>
  have bhg66 := hg66
  have hg66 := of_decide_eq_false bhg66
  refine Zal ?_
  refine Zal ?_
  refine Zal ?_
  refine Zac (Zak (v := vT false) rfl rfl ?_)
  refine Zaf (kp5 0 1 5 6 15 fun e he => ?_)
  refine ZaC (t := false) he.2.2.2.2 (fun ht => by cases ht) (fun ht => ?_)
  refine Zbu ?_
  show ZaA _ _ _ _ _ _
  refine Zaa (Zag ?_)
  refine Zag ?_
  refine Zaf (kp1 4 fun e he => ?_)
  refine Zap ?_
  have e9 : eoF es most 0 = n := by
   rw [p4]
   by_cases h : (n : Int) <= most
   ·rw [List.drop_eq_nil_of_le (by omega)]; rfl
   ·exact Znb h
  rw [e9] at hK
  exact ZaD (hK _ p2)
 | true =>
  have bhg66 := hg66
  have hg66 := of_decide_eq_true bhg66
  refine Zau ?_
  refine Zcb rfl he.2.2.1 ?_
  refine Zau ?_
  refine Zcb rfl he.2.1 ?_
  refine Zau ?_
  refine Zh7 (k := .i64) (a := ((n : Nat) : Int)) (b := most) rfl rfl ?_
  refine Zac (Zaj (v := vT (decide ((((n : Nat) : Int) : Int) <= most))) rfl rfl ?_)
  refine Zaf (kp5 0 1 5 6 15 fun e he => ?_)
  refine ZaC (t := decide ((((n : Nat) : Int) : Int) <= most)) he.2.2.2.2 (fun ht15 => ?_) (fun ht15 => ?_)
  ·have bht15 := ht15
   have ht15 := of_decide_eq_true bht15
   have ht15 : i < es.length := by omega
   have q2 := (hE.2 i ht15).2; have qb := hb es[i] (List.getElem_mem ht15); have qf := ZsA q2.2.2 qb.2
   refine ZaL (ZaF (Zda ?_))
   refine ⟨[0, 1, 2, 3, 4, 5, 10, 11, 12, 13, 6, 7, 8, 9, 14, 15, 16, 17], [[], [0], [], [], [2, 3], [2, 3, 4], [2, 3, 4, 5], [2, 3, 4, 5, 6], [2, 3, 4, 5, 6, 7], [0, 1, 2, 3, 4, 5, 6, 7, 8], [], [], [10, 11], [10, 11, 12], [10, 11, 12, 13], [10, 11, 12, 13, 14], [0, 1, 2, 3, 4, 5, 6, 7, 8, 9, 10, 11, 12, 13, 14, 15], [0, 1, 2, 3, 4, 5, 6, 7, 8, 9, 10, 11, 12, 13, 14, 15, 16]], fun _ => True, [6], [15], [], by kernel_rfl, ?_⟩
   refine Zax ?_
   refine Zas ?_
   refine Zgc n 1 rfl rfl (by omega) ?_
   refine Zaz ?_
   refine Zax ?_
   refine Zax ?_
   refine Zas ?_
   refine Zir (i := i) (hE.ext p2).1 ht15 (hE.2 i ht15).1 rfl rfl Zeb ZbZ fun q67 hq68 => ?_
   refine Zaz ?_
   refine Zas ?_
   refine ZhU hq68 rfl Zcq rfl fun q69 hq70 => ?_
   refine Zaz ?_
   refine Zax ?_
   refine Zax ?_
   refine Zas ?_
   refine Zir (i := i) (hE.ext p2).1 ht15 (hE.2 i ht15).1 rfl rfl Zeb ZbZ fun q71 hq72 => ?_
   refine Zaz ?_
   refine Zas ?_
   refine ZhU hq72 rfl Zcq rfl fun q73 hq74 => ?_
   refine Zaz ?_
   refine Zas ?_
   refine Zis (v := (cl cells i 2)) hq70 rfl fa5 Zb6 rfl ?_
   refine Zaz ?_
   refine Zas ?_
   refine ZaP (σ := υ65) rfl (q2.1.ls.ext p2) rfl Zbw ?_
   refine Zaz ?_
   refine Zas ?_
   refine Zsd (k := .i64) (a := ((es[i].c.length : Nat) : Int)) (b := 8) (r := ((es[i].c.length / 8 : Nat) : Int)) rfl rfl (by decide) (by have e1 : ((es[i].c.length : Nat) : Int).tdiv 8 = ((es[i].c.length / 8 : Nat) : Int) := rfl; rw [e1]; exact IntWalk.i64_in _ (by omega)) ?_
   refine Zaz ?_
   refine Zas ?_
   refine Zgc (n + 1) (es[i].c.length / 8) rfl rfl (by omega) ?_
   refine Zaz ?_
   refine Zas ?_
   refine Zis (v := .agg [(cl cells i 3), (cl cells i 4), (cl cells i 5), (cl cells i 6)]) hq74 rfl fa7 Zdb rfl ?_
   refine Zaz ?_
   refine Zas ?_
   refine Zay (vs := [.agg [(cl cells i 3), (cl cells i 4), (cl cells i 5), (cl cells i 6)]]) (by simp only [List.map_cons, List.map_nil, EV,Nat.reduceEqDiff,↓reduceIte,he];try rfl) ?_
   refine Zhh q2.2.2 (q2.2.1.ext p2) qb.2 fun τ75 hX76 => ?_
   refine ⟨fun _ => hX76, ?_⟩
   refine Zas ?_
   refine Zgc (n + 1 + es[i].c.length / 8) (1 + es[i].ls.flatten.length) rfl rfl (by omega) ?_
   refine Zaz ?_
   refine Zax ?_
   refine ZbI ?_
   show ZaA _ _ _ _ _ _
   refine kp4 0 1 5 6 fun e he => ?_
   refine Zad (Zag ?_)
   refine Zby i 1 ?_
   refine Zag ?_
   refine Zaf ?_
   have hd : es.drop i = es[i] :: es.drop (i + 1) := List.drop_eq_getElem_cons ht15
   rw [hd] at p4
   have e1 : eoF (es[i] :: es.drop (i + 1)) most n = eoF (es.drop (i + 1)) most (n + 1 + es[i].c.length / 8 + (1 + es[i].ls.flatten.length)) := if_pos (by omega)
   rw [e1] at p4
   show ∃ n', n' < _ /\ _
   refine ⟨_, (by omega), i + 1, _, rfl, ⟨by simp only [EV,Nat.reduceEqDiff,↓reduceIte,he];try rfl, by simp only [EV,Nat.reduceEqDiff,↓reduceIte,he];try rfl, by simp only [EV,Nat.reduceEqDiff,↓reduceIte,he];try rfl, by simp only [EV,Nat.reduceEqDiff,↓reduceIte,he];try rfl⟩, (by omega), p2.trans hX76, p4⟩
  have bht15 := ht15
  have ht15 := of_decide_eq_false bht15
  refine Zbu ?_
  show ZaA _ _ _ _ _ _
  refine Zaa (Zag ?_)
  refine Zag ?_
  refine Zaf (kp1 4 fun e he => ?_)
  refine Zap ?_
  have e9 : eoF es most 0 = n := by
   rw [p4]
   by_cases h : (n : Int) <= most
   ·rw [List.drop_eq_nil_of_le (by omega)]; rfl
   ·exact Znb h
  rw [e9] at hK
  exact ZaD (hK _ p2)
end
section
variable {σ : St} {K : AV -> St -> Prop}
theorem Zjk {x : Int} {k : Nat} {v a0 a1 a2 a3 : AV} {c : List UInt8} {ls : List (List Int)} (hv : Za5 σ v c) (hcl : c.length <= 1000000) (h4 : ls.length = 4) (hc : ZbM σ [a0, a1, a2, a3] ls) (hn : ∀ l ∈ ls, l.length <= 1000000) (hK : ∀ b u c0 c1 c2 c3 τ, Zly τ b u c -> Za9 σ b -> Zd3 σ τ [c0, c1, c2, c3] ls -> Ext σ τ -> K (.agg [vI x, kV k, u, c0, c1, c2, c3]) τ) : Zan Tryz.prog 10 [.agg [vI x, kV k, v, a0, a1, a2, a3]] σ K := by
 obtain ⟨l0, l1, l2, l3, rfl, f0, f1, f2, f3⟩ := hc.ls h4
 refine Zai Zam Tryz.func10 rfl rfl rfl (Nat.le_of_ble_eq_true rfl) ?_
 refine Zbf 0 (v0 := .agg [vI x, kV k, v, a0, a1, a2, a3]) rfl ?_
 intro e he
 refine Zaa (Zac (Zbn (cs := [vI x, kV k, v, a0, a1, a2, a3]) (v := .agg [vI x, kV k, v, a0, a1, a2, a3]) he rfl fun b1 υ2 hn3 hu4 hb5 hv6 hX7 => ?_))
 refine Zac (ZaH (cs := [vI 0, .raw (.int .u8 0), .lst none 0 0 [], .lst none 0 0 [], .lst none 0 0 [], .lst none 0 0 [], .lst none 0 0 []]) Zfo rfl fun b8 υ9 hn10 hu11 hb12 hv13 hX14 => ?_)
 have ne15 := Zat hb5 hn10
 have hb5 := hX14.keep _ _ hb5
 have hv6 := hX14.used _ hv6
 refine Zaf (kp2 1 2 fun e he => ?_)
 refine Zaa (Zac (Zae (b := b1) (o := 0) he.1 Zcq rfl ?_))
 refine Zac (Zah (b := b1) (o := 0 + 2) (r := v) rfl hb5 fa5 Zb6 rfl ?_)
 refine Zao [v] ?_
 refine ZoE (hv.ext (hX7.trans hX14)) hcl fun b16 u17 τ18 h19 hX20 hN21 => ?_
 have ne22 : b16 ≠ b1 := fun q => by have := hN21.1; rw [q, hb5] at this; cases this
 have ne23 : b16 ≠ b8 := fun q => by have := hN21.1; rw [q, hb12] at this; cases this
 have hb5 := hX20.keep _ _ hb5
 have hv6 := hX20.used _ hv6
 have hb12 := hX20.keep _ _ hb12
 have hv13 := hX20.used _ hv13
 refine Zac (Zae (b := b1) (o := 0) he.1 Zcq rfl ?_)
 refine Zac (ZaI (b := b1) (o := 0 + 2) (v := u17) rfl rfl hb5 Zb6 (Ls.oneV (Ls.of (h19.hd (Zb1 _)))) (by simp) fun υ24 hb5 k25 => ?_)
 have hb12 := k25.keep _ _ ne15 hb12
 have hv13 := k25.used _ hv13
 have hv6 := k25.used _ hv6
 have h19 := h19.but k25 ne22
 refine Zaf (kp2 1 2 fun e he => ?_)
 refine Zaa (Zac (Zae (b := b1) (o := 0) he.1 Zcq rfl ?_))
 refine Zac (Zah (b := b1) (o := 0 + 3) (r := .agg [a0, a1, a2, a3]) rfl hb5 fa7 Zdb rfl ?_)
 refine Zao [.agg [a0, a1, a2, a3]] ?_
 refine ZfB h4 (hc.ext (But.ext ((hX7.trans hX14).trans hX20) (fun g hg => by rw [hg]; exact hn3) k25)) hn fun c26_0 c26_1 c26_2 c26_3 τ27 h28 hX29 => ?_
 have l30 := hb5
 have l31 := hb12
 have hb5 := hX29.keep _ _ hb5
 have hv6 := hX29.used _ hv6
 have hb12 := hX29.keep _ _ hb12
 have hv13 := hX29.used _ hv13
 have h19 := h19.ext hX29
 obtain ⟨_, _, qz, z32, _⟩ := h28 0 (by omega)
 cases qz
 obtain ⟨_, _, qz, z33, _⟩ := h28 1 (by omega)
 cases qz
 obtain ⟨_, _, qz, z34, _⟩ := h28 2 (by omega)
 cases qz
 obtain ⟨_, _, qz, z35, _⟩ := h28 3 (by omega)
 cases qz
 refine Zac (Zae (b := b1) (o := 0) he.1 Zcq rfl ?_)
 refine Zac (ZaB (b := b1) (o := 0 + 3) (u := .agg [c26_0, c26_1, c26_2, c26_3]) rfl rfl hb5 Zdb (by obtain ⟨_, rfl, _⟩ := z32 <;> obtain ⟨_, rfl, _⟩ := z33 <;> obtain ⟨_, rfl, _⟩ := z34 <;> obtain ⟨_, rfl, _⟩ := z35 <;> rfl) rfl fun υ36 hb5 k37 => ?_)
 have hb12 := k37.keep _ _ ne15 hb12
 have hv13 := k37.used _ hv13
 have hv6 := k37.used _ hv6
 have h19 := h19.but k37 ne22
 have h28 := h28.butb k37 l30
 refine Zaf (kp2 1 2 fun e he => ?_)
 refine Zaa (Zac (Zah (b := b1) (o := 0) (r := .agg [vI x, kV k, u17, c26_0, c26_1, c26_2, c26_3]) he.1 hb5 fa8 ZbZ rfl ?_))
 refine Zac (ZaB (b := b8) (o := 0) (u := .agg [vI x, kV k, u17, c26_0, c26_1, c26_2, c26_3]) he.2 rfl hb12 ZbZ (by obtain ⟨_, rfl, _⟩ := h19 <;> obtain ⟨_, rfl, _⟩ := z32 <;> obtain ⟨_, rfl, _⟩ := z33 <;> obtain ⟨_, rfl, _⟩ := z34 <;> obtain ⟨_, rfl, _⟩ := z35 <;> rfl) rfl fun υ38 hb12 k39 => ?_)
 have hb5 := k39.keep _ _ (Ne.symm ne15) hb5
 have hv6 := k39.used _ hv6
 have hv13 := k39.used _ hv13
 have h19 := h19.but k39 ne23
 have h28 := h28.butb k39 l31
 refine Zaf (kp1 2 fun e he => ?_)
 refine Zap ?_
 show ∃ r, ZaM _ _ _ _ r /\ _
 exact ⟨_, ZdE rfl (ZaJ he hb12 fa8 ZbZ rfl), hK _ _ _ _ _ _ _ h19 (Za9.of hN21 (hX7.trans hX14)) (h28.from (But.ext ((hX7.trans hX14).trans hX20) (fun g hg => by rw [hg]; exact hn3) k25)) (But.ext (But.ext ((But.ext ((hX7.trans hX14).trans hX20) (fun g hg => by rw [hg]; exact hn3) k25).trans hX29) (fun g hg => by rw [hg]; exact hn3) k37) (fun g hg => by rw [hg]; exact hX7.noneOf hn10) k39)⟩
theorem ZjW {x t : Int} {a0 a1 a2 a3 : AV} {ls : List (List Int)} (h4 : ls.length = 4) (hc : ZbM σ [a0, a1, a2, a3] ls) (hn : ∀ l ∈ ls, l.length <= 1000000) (hK : ∀ c0 c1 c2 c3 τ, Zd3 σ τ [c0, c1, c2, c3] ls -> Ext σ τ -> K (.agg [vI x, vI t, c0, c1, c2, c3]) τ) : Zan Tryz.prog 11 [.agg [vI x, vI t, a0, a1, a2, a3]] σ K := by
 obtain ⟨l0, l1, l2, l3, rfl, f0, f1, f2, f3⟩ := hc.ls h4
 refine Zai Zam Tryz.func11 rfl rfl rfl (Nat.le_of_ble_eq_true rfl) ?_
 refine Zbf 0 (v0 := .agg [vI x, vI t, a0, a1, a2, a3]) rfl ?_
 intro e he
 refine Zaa (Zac (Zbn (cs := [vI x, vI t, a0, a1, a2, a3]) (v := .agg [vI x, vI t, a0, a1, a2, a3]) he rfl fun b40 υ41 hn42 hu43 hb44 hv45 hX46 => ?_))
 refine Zac (ZaH (cs := [vI 0, vI 0, .lst none 0 0 [], .lst none 0 0 [], .lst none 0 0 [], .lst none 0 0 []]) ZlK rfl fun b47 υ48 hn49 hu50 hb51 hv52 hX53 => ?_)
 have ne54 := Zat hb44 hn49
 have hb44 := hX53.keep _ _ hb44
 have hv45 := hX53.used _ hv45
 refine Zaf (kp2 1 2 fun e he => ?_)
 refine Zaa (Zac (Zae (b := b40) (o := 0) he.1 Zdp rfl ?_))
 refine Zac (Zah (b := b40) (o := 0 + 2) (r := .agg [a0, a1, a2, a3]) rfl hb44 fa7 Zdb rfl ?_)
 refine Zao [.agg [a0, a1, a2, a3]] ?_
 refine ZfB h4 (hc.ext (hX46.trans hX53)) hn fun c55_0 c55_1 c55_2 c55_3 τ56 h57 hX58 => ?_
 have l59 := hb44
 have l60 := hb51
 have hb44 := hX58.keep _ _ hb44
 have hv45 := hX58.used _ hv45
 have hb51 := hX58.keep _ _ hb51
 have hv52 := hX58.used _ hv52
 obtain ⟨_, _, qz, z61, _⟩ := h57 0 (by omega)
 cases qz
 obtain ⟨_, _, qz, z62, _⟩ := h57 1 (by omega)
 cases qz
 obtain ⟨_, _, qz, z63, _⟩ := h57 2 (by omega)
 cases qz
 obtain ⟨_, _, qz, z64, _⟩ := h57 3 (by omega)
 cases qz
 refine Zac (Zae (b := b40) (o := 0) he.1 Zdp rfl ?_)
 refine Zac (ZaB (b := b40) (o := 0 + 2) (u := .agg [c55_0, c55_1, c55_2, c55_3]) rfl rfl hb44 Zdb (by obtain ⟨_, rfl, _⟩ := z61 <;> obtain ⟨_, rfl, _⟩ := z62 <;> obtain ⟨_, rfl, _⟩ := z63 <;> obtain ⟨_, rfl, _⟩ := z64 <;> rfl) rfl fun υ65 hb44 k66 => ?_)
 have hb51 := k66.keep _ _ ne54 hb51
 have hv52 := k66.used _ hv52
 have hv45 := k66.used _ hv45
 have h57 := h57.butb k66 l59
 refine Zaf (kp2 1 2 fun e he => ?_)
 refine Zaa (Zac (Zah (b := b40) (o := 0) (r := .agg [vI x, vI t, c55_0, c55_1, c55_2, c55_3]) he.1 hb44 ZfQ Zd9 rfl ?_))
 refine Zac (ZaB (b := b47) (o := 0) (u := .agg [vI x, vI t, c55_0, c55_1, c55_2, c55_3]) he.2 rfl hb51 Zd9 (by obtain ⟨_, rfl, _⟩ := z61 <;> obtain ⟨_, rfl, _⟩ := z62 <;> obtain ⟨_, rfl, _⟩ := z63 <;> obtain ⟨_, rfl, _⟩ := z64 <;> rfl) rfl fun υ67 hb51 k68 => ?_)
 have hb44 := k68.keep _ _ (Ne.symm ne54) hb44
 have hv45 := k68.used _ hv45
 have hv52 := k68.used _ hv52
 have h57 := h57.butb k68 l60
 refine Zaf (kp1 2 fun e he => ?_)
 refine Zap ?_
 show ∃ r, ZaM _ _ _ _ r /\ _
 exact ⟨_, ZdE rfl (ZaJ he hb51 ZfQ Zd9 rfl), hK _ _ _ _ _ (h57.from (hX46.trans hX53)) (But.ext (But.ext ((hX46.trans hX53).trans hX58) (fun g hg => by rw [hg]; exact hn42) k66) (fun g hg => by rw [hg]; exact hX46.noneOf hn49) k68)⟩
def Zhi (x y : Int) (k j : Nat) (c d : List UInt8) (ls ms : List (List Int)) : Bool := decide (x = y) && (decide (((k : Nat) : Int) = ((j : Nat) : Int)) && (decide (c = d) && decide (ls = ms)))
theorem ZhV (x : Int) (k : Nat) (c : List UInt8) (ls : List (List Int)) : Zhi x x k k c c ls ls = true := by simp [Zhi]
theorem Zgf {x y : Int} {k j : Nat} {v w a0 a1 a2 a3 c0 c1 c2 c3 : AV} {c d : List UInt8} {ls ms : List (List Int)} (hv : Za5 σ v c) (hw : Za5 σ w d) (hcl : c.length <= 1000000000) (hdl : d.length <= 1000000000) (h4 : ls.length = 4) (h5 : ms.length = 4) (hc : ZbM σ [a0, a1, a2, a3] ls) (hd : ZbM σ [c0, c1, c2, c3] ms) (hn : ∀ l ∈ ls, l.length <= 1000000000) (hm : ∀ l ∈ ms, l.length <= 1000000000) (hK : ∀ τ, Ext σ τ -> K (vT (Zhi x y k j c d ls ms)) τ) : Zan Tryz.prog 29 [.agg [vI x, kV k, v, a0, a1, a2, a3], .agg [vI y, kV j, w, c0, c1, c2, c3]] σ K := by
 refine Zai Zam Tryz.func29 rfl rfl rfl (Nat.le_of_ble_eq_true rfl) ?_
 refine ZbL 0 1 (v0 := .agg [vI x, kV k, v, a0, a1, a2, a3]) (v1 := .agg [vI y, kV j, w, c0, c1, c2, c3]) rfl rfl ?_
 intro e he
 refine Zaa (Zac (Zbn (cs := [vI x, kV k, v, a0, a1, a2, a3]) (v := .agg [vI x, kV k, v, a0, a1, a2, a3]) he.1 rfl fun b69 υ70 hn71 hu72 hb73 hv74 hX75 => ?_))
 refine Zac (Zbn (cs := [vI y, kV j, w, c0, c1, c2, c3]) (v := .agg [vI y, kV j, w, c0, c1, c2, c3]) he.2 rfl fun b76 υ77 hn78 hu79 hb80 hv81 hX82 => ?_)
 have ne83 := Zat hb73 hn78
 have hb73 := hX82.keep _ _ hb73
 have hv74 := hX82.used _ hv74
 refine Zag ?_
 refine Zaf (kp2 2 3 fun e he => ?_)
 refine Zaa (Zac (Zae (b := b69) (o := 0) he.1 Zcq rfl ?_))
 refine Zac (Zah (b := b69) (o := 0 + 0) (r := vI x) rfl hb73 fa9 ZbG rfl ?_)
 refine Zac (Zae (b := b76) (o := 0) he.2 Zcq rfl ?_)
 refine Zac (Zah (b := b76) (o := 0 + 0) (r := vI y) rfl hb80 fa9 ZbG rfl ?_)
 refine Zac (ZbQ (k := .i64) (a := x) (b := y) rfl rfl ?_)
 refine Zag ?_
 cases hg84 : decide ((x : Int) = y) with
 | false =>
  have bhg84 := hg84
  have hg84 := of_decide_eq_false bhg84
  refine Zal ?_
  refine Zal ?_
  refine Zal ?_
  refine Zal ?_
  refine Zal ?_
  refine Zac (Zak (v := vT false) rfl rfl ?_)
  refine Zag ?_
  refine Zal ?_
  refine Zal ?_
  refine Zal ?_
  refine Zal ?_
  refine Zal ?_
  refine Zac (Zak (v := vT false) rfl rfl ?_)
  refine Zag ?_
  refine Zal ?_
  refine Zal ?_
  refine Zal ?_
  refine Zal ?_
  refine Zal ?_
  refine Zac (Zak (v := vT false) rfl rfl ?_)
  refine Zag ?_
  refine Zaf (kp1 4 fun e he => ?_)
  refine Zap ?_
  have e9 : Zhi x y k j c d ls ms = false := by simp only [Zhi, bhg84, cond_true, cond_false, Bool.true_and, Bool.false_and, Bool.and_true, Bool.and_false, Bool.or_true, Bool.or_false, Bool.true_or, Bool.false_or]
  rw [e9] at hK
  exact ZaD (hK _ (hX75.trans hX82))
 | true =>
  have bhg84 := hg84
  have hg84 := of_decide_eq_true bhg84
  refine Zau ?_
  refine Zae (b := b69) (o := 0) he.1 Zcq rfl ?_
  refine Zau ?_
  refine Zah (b := b69) (o := 0 + 1) (r := kV k) rfl hb73 fa4 ZnA rfl ?_
  refine Zau ?_
  refine Zae (b := b76) (o := 0) he.2 Zcq rfl ?_
  refine Zau ?_
  refine Zah (b := b76) (o := 0 + 1) (r := kV j) rfl hb80 fa4 ZnA rfl ?_
  refine Zau ?_
  refine ZbQ (k := .u8) (a := ((k : Nat) : Int)) (b := ((j : Nat) : Int)) rfl rfl ?_
  refine Zac (Zaj (v := vT (decide ((((k : Nat) : Int) : Int) = ((j : Nat) : Int)))) rfl rfl ?_)
  refine Zag ?_
  cases hg85 : decide ((((k : Nat) : Int) : Int) = ((j : Nat) : Int)) with
  | false =>
   have bhg85 := hg85
   have hg85 := of_decide_eq_false bhg85
   refine Zal ?_
   refine Zal ?_
   refine Zal ?_
   refine Zal ?_
   refine Zal ?_
   refine Zac (Zak (v := vT false) rfl rfl ?_)
   refine Zag ?_
   refine Zal ?_
   refine Zal ?_
   refine Zal ?_
   refine Zal ?_
   refine Zal ?_
   refine Zac (Zak (v := vT false) rfl rfl ?_)
   refine Zag ?_
   refine Zaf (kp1 4 fun e he => ?_)
   refine Zap ?_
   have e9 : Zhi x y k j c d ls ms = false := by simp only [Zhi, bhg84, bhg85, cond_true, cond_false, Bool.true_and, Bool.false_and, Bool.and_true, Bool.and_false, Bool.or_true, Bool.or_false, Bool.true_or, Bool.false_or]
   rw [e9] at hK
   exact ZaD (hK _ (hX75.trans hX82))
  | true =>
   have bhg85 := hg85
   have hg85 := of_decide_eq_true bhg85
   refine Zau ?_
   refine Zae (b := b69) (o := 0) he.1 Zcq rfl ?_
   refine Zau ?_
   refine Zah (b := b69) (o := 0 + 2) (r := v) rfl hb73 fa5 Zb6 rfl ?_
   refine Zau ?_
   refine Zae (b := b76) (o := 0) he.2 Zcq rfl ?_
   refine Zau ?_
   refine Zah (b := b76) (o := 0 + 2) (r := w) rfl hb80 fa5 Zb6 rfl ?_
   refine Zau ?_
   refine Zay (vs := [v, w]) (by simp only [List.map_cons, List.map_nil, EV,Nat.reduceEqDiff,↓reduceIte,he];try rfl) ?_
   refine Zkw (hv.ext (hX75.trans hX82)) (hw.ext (hX75.trans hX82)) (by omega) (by omega) _ fun τ86 hX87 => ?_
   have hb73 := hX87.keep _ _ hb73
   have hb80 := hX87.keep _ _ hb80
   refine Zac (Zaj (v := vT (decide (c = d))) rfl rfl ?_)
   refine Zag ?_
   cases hg88 : decide (c = d) with
   | false =>
    have bhg88 := hg88
    have hg88 := of_decide_eq_false bhg88
    refine Zal ?_
    refine Zal ?_
    refine Zal ?_
    refine Zal ?_
    refine Zal ?_
    refine Zac (Zak (v := vT false) rfl rfl ?_)
    refine Zag ?_
    refine Zaf (kp1 4 fun e he => ?_)
    refine Zap ?_
    have e9 : Zhi x y k j c d ls ms = false := by simp only [Zhi, bhg84, bhg85, bhg88, cond_true, cond_false, Bool.true_and, Bool.false_and, Bool.and_true, Bool.and_false, Bool.or_true, Bool.or_false, Bool.true_or, Bool.false_or]
    rw [e9] at hK
    exact ZaD (hK _ ((hX75.trans hX82).trans hX87))
   | true =>
    have bhg88 := hg88
    have hg88 := of_decide_eq_true bhg88
    refine Zau ?_
    refine Zae (b := b69) (o := 0) he.1 Zcq rfl ?_
    refine Zau ?_
    refine Zah (b := b69) (o := 0 + 3) (r := .agg [a0, a1, a2, a3]) rfl hb73 fa7 Zdb rfl ?_
    refine Zau ?_
    refine Zae (b := b76) (o := 0) he.2 Zcq rfl ?_
    refine Zau ?_
    refine Zah (b := b76) (o := 0 + 3) (r := .agg [c0, c1, c2, c3]) rfl hb80 fa7 Zdb rfl ?_
    refine Zau ?_
    refine Zay (vs := [.agg [a0, a1, a2, a3], .agg [c0, c1, c2, c3]]) (by simp only [List.map_cons, List.map_nil, EV,Nat.reduceEqDiff,↓reduceIte,he];try rfl) ?_
    refine Zf1 h4 h5 (hc.ext ((hX75.trans hX82).trans hX87)) (hd.ext ((hX75.trans hX82).trans hX87)) hn hm fun τ89 hX90 => ?_
    refine Zac (Zaj (v := vT (decide (ls = ms))) rfl rfl ?_)
    refine Zag ?_
    refine Zaf (kp1 4 fun e he => ?_)
    refine Zap ?_
    have e9 : Zhi x y k j c d ls ms = decide (ls = ms) := by simp only [Zhi, bhg84, bhg85, bhg88, cond_true, cond_false, Bool.true_and, Bool.false_and, Bool.and_true, Bool.and_false, Bool.or_true, Bool.or_false, Bool.true_or, Bool.false_or]
    rw [e9] at hK
    exact ZaD (hK _ (((hX75.trans hX82).trans hX87).trans hX90))
theorem ZfC {σ0 : St} {c0 c1 c2 c3 a0 a1 a2 a3 : AV} {ls : List (List Int)} (h4 : ls.length = 4) (hu : Zd3 σ0 σ [c0, c1, c2, c3] ls) (hc : ZbM σ [a0, a1, a2, a3] ls) (hn : ∀ l ∈ ls, l.length <= 1000000) (hK : ∀ τ, Ext σ τ -> K (vT true) τ) : Zan Tryz.prog 78 [.agg [c0, c1, c2, c3], .agg [a0, a1, a2, a3]] σ K := by
 have hc0 := hc
 obtain ⟨l0, l1, l2, l3, rfl, f0, f1, f2, f3⟩ := hc.ls h4
 refine Zai Zam Tryz.func78 rfl rfl rfl (Nat.le_of_ble_eq_true rfl) ?_
 refine ZbL 0 1 (v0 := .agg [c0, c1, c2, c3]) (v1 := .agg [a0, a1, a2, a3]) rfl rfl ?_
 intro e he
 refine Zaa (Zac (Zbn (cs := [c0, c1, c2, c3]) (v := .agg [c0, c1, c2, c3]) he.1 rfl fun b91 υ92 hn93 hu94 hb95 hv96 hX97 => ?_))
 refine Zac (Zbn (cs := [a0, a1, a2, a3]) (v := .agg [a0, a1, a2, a3]) he.2 rfl fun b98 υ99 hn100 hu101 hb102 hv103 hX104 => ?_)
 have ne105 := Zat hb95 hn100
 have hb95 := hX104.keep _ _ hb95
 have hv96 := hX104.used _ hv96
 refine Zag ?_
 refine Zaf (kp2 2 3 fun e he => ?_)
 refine Zaa (Zac (Zah (b := b91) (o := 0) (r := .agg [c0, c1, c2, c3]) he.1 hb95 fa7 Zdb rfl ?_))
 refine Zac (Zah (b := b98) (o := 0) (r := .agg [a0, a1, a2, a3]) he.2 hb102 fa7 Zdb rfl ?_)
 refine Zao [.agg [c0, c1, c2, c3], .agg [a0, a1, a2, a3]] ?_
 refine Zf1 h4 h4 (hu.at_.ext (hX97.trans hX104)) (hc.ext (hX97.trans hX104)) (fun l hl => by have := hn l hl; omega) (fun l hl => by have := hn l hl; omega) fun τ106 hX107 => ?_
 have hb95 := hX107.keep _ _ hb95
 have hv96 := hX107.used _ hv96
 have hb102 := hX107.keep _ _ hb102
 have hv103 := hX107.used _ hv103
 rw [decide_eq_true rfl]
 refine Zag ?_
 refine Zau ?_
 refine Zae (b := b91) (o := 0) he.1 Zcr rfl ?_
 refine Zau ?_
 refine Zah (b := b91) (o := 0 + 0) (r := c0) rfl hb95 fa6 Zb4 rfl ?_
 refine Zau ?_
 refine Zae (b := b98) (o := 0) he.2 Zcr rfl ?_
 refine Zau ?_
 refine Zah (b := b98) (o := 0 + 0) (r := a0) rfl hb102 fa6 Zb4 rfl ?_
 refine Zau ?_
 refine Zay (vs := [c0, a0]) (by simp only [List.map_cons, List.map_nil, EV,Nat.reduceEqDiff,↓reduceIte,he];try rfl) ?_
 obtain ⟨_, _, qz, hz, _⟩ := (hu.ext ((hX97.trans hX104).trans hX107)) 0 (by simp)
 cases qz
 refine ZgB hz (f0.ext ((hX97.trans hX104).trans hX107)) (hn _ (by simp)) ?_
 refine Zac (Zaj (v := vT true) rfl rfl ?_)
 refine Zag ?_
 refine Zau ?_
 refine Zae (b := b91) (o := 0) he.1 Zcr rfl ?_
 refine Zau ?_
 refine Zah (b := b91) (o := 0 + 1) (r := c1) rfl hb95 fa6 Zb4 rfl ?_
 refine Zau ?_
 refine Zae (b := b98) (o := 0) he.2 Zcr rfl ?_
 refine Zau ?_
 refine Zah (b := b98) (o := 0 + 1) (r := a1) rfl hb102 fa6 Zb4 rfl ?_
 refine Zau ?_
 refine Zay (vs := [c1, a1]) (by simp only [List.map_cons, List.map_nil, EV,Nat.reduceEqDiff,↓reduceIte,he];try rfl) ?_
 obtain ⟨_, _, qz, hz, _⟩ := (hu.ext ((hX97.trans hX104).trans hX107)) 1 (by simp)
 cases qz
 refine ZgB hz (f1.ext ((hX97.trans hX104).trans hX107)) (hn _ (by simp)) ?_
 refine Zac (Zaj (v := vT true) rfl rfl ?_)
 refine Zag ?_
 refine Zau ?_
 refine Zae (b := b91) (o := 0) he.1 Zcr rfl ?_
 refine Zau ?_
 refine Zah (b := b91) (o := 0 + 2) (r := c2) rfl hb95 fa6 Zb4 rfl ?_
 refine Zau ?_
 refine Zae (b := b98) (o := 0) he.2 Zcr rfl ?_
 refine Zau ?_
 refine Zah (b := b98) (o := 0 + 2) (r := a2) rfl hb102 fa6 Zb4 rfl ?_
 refine Zau ?_
 refine Zay (vs := [c2, a2]) (by simp only [List.map_cons, List.map_nil, EV,Nat.reduceEqDiff,↓reduceIte,he];try rfl) ?_
 obtain ⟨_, _, qz, hz, _⟩ := (hu.ext ((hX97.trans hX104).trans hX107)) 2 (by simp)
 cases qz
 refine ZgB hz (f2.ext ((hX97.trans hX104).trans hX107)) (hn _ (by simp)) ?_
 refine Zac (Zaj (v := vT true) rfl rfl ?_)
 refine Zag ?_
 refine Zau ?_
 refine Zae (b := b91) (o := 0) he.1 Zcr rfl ?_
 refine Zau ?_
 refine Zah (b := b91) (o := 0 + 3) (r := c3) rfl hb95 fa6 Zb4 rfl ?_
 refine Zau ?_
 refine Zae (b := b98) (o := 0) he.2 Zcr rfl ?_
 refine Zau ?_
 refine Zah (b := b98) (o := 0 + 3) (r := a3) rfl hb102 fa6 Zb4 rfl ?_
 refine Zau ?_
 refine Zay (vs := [c3, a3]) (by simp only [List.map_cons, List.map_nil, EV,Nat.reduceEqDiff,↓reduceIte,he];try rfl) ?_
 obtain ⟨_, _, qz, hz, _⟩ := (hu.ext ((hX97.trans hX104).trans hX107)) 3 (by simp)
 cases qz
 refine ZgB hz (f3.ext ((hX97.trans hX104).trans hX107)) (hn _ (by simp)) ?_
 refine Zac (Zaj (v := vT true) rfl rfl ?_)
 refine Zag ?_
 refine Zaf (kp1 4 fun e he => ?_)
 refine Zap ?_
 exact ZaD (hK _ ((hX97.trans hX104).trans hX107))
theorem ZdA {σ0 : St} {b : Nat} {x : Int} {k : Nat} {u v c0 c1 c2 c3 a0 a1 a2 a3 : AV} {c : List UInt8} {ls : List (List Int)} (hu : Zly σ b u c) (hv : Za5 σ v c) (hcl : c.length <= 1000000) (h4 : ls.length = 4) (hl : Zd3 σ0 σ [c0, c1, c2, c3] ls) (hc : ZbM σ [a0, a1, a2, a3] ls) (hn : ∀ l ∈ ls, l.length <= 1000000) (hK : ∀ τ, Ext σ τ -> K (vT true) τ) : Zan Tryz.prog 32 [.agg [vI x, kV k, u, c0, c1, c2, c3], .agg [vI x, kV k, v, a0, a1, a2, a3]] σ K := by
 refine Zai Zam Tryz.func32 rfl rfl rfl (Nat.le_of_ble_eq_true rfl) ?_
 refine ZbL 0 1 (v0 := .agg [vI x, kV k, u, c0, c1, c2, c3]) (v1 := .agg [vI x, kV k, v, a0, a1, a2, a3]) rfl rfl ?_
 intro e he
 refine Zaa (Zac (Zbn (cs := [vI x, kV k, u, c0, c1, c2, c3]) (v := .agg [vI x, kV k, u, c0, c1, c2, c3]) he.1 rfl fun b108 υ109 hn110 hu111 hb112 hv113 hX114 => ?_))
 refine Zac (Zbn (cs := [vI x, kV k, v, a0, a1, a2, a3]) (v := .agg [vI x, kV k, v, a0, a1, a2, a3]) he.2 rfl fun b115 υ116 hn117 hu118 hb119 hv120 hX121 => ?_)
 have ne122 := Zat hb112 hn117
 have hb112 := hX121.keep _ _ hb112
 have hv113 := hX121.used _ hv113
 refine Zag ?_
 refine Zaf (kp2 2 3 fun e he => ?_)
 refine Zaa (Zac (Zah (b := b108) (o := 0) (r := .agg [vI x, kV k, u, c0, c1, c2, c3]) he.1 hb112 fa8 ZbZ rfl ?_))
 refine Zac (Zah (b := b115) (o := 0) (r := .agg [vI x, kV k, v, a0, a1, a2, a3]) he.2 hb119 fa8 ZbZ rfl ?_)
 refine Zao [.agg [vI x, kV k, u, c0, c1, c2, c3], .agg [vI x, kV k, v, a0, a1, a2, a3]] ?_
 refine Zgf (.inl ((hu.ext (hX114.trans hX121)).hd (Zb1 _))) (hv.ext (hX114.trans hX121)) (by omega) (by omega) h4 h4 (hl.at_.ext (hX114.trans hX121)) (hc.ext (hX114.trans hX121)) (fun l hl => by have := hn l hl; omega) (fun l hl => by have := hn l hl; omega) fun τ123 hX124 => ?_
 have hb112 := hX124.keep _ _ hb112
 have hv113 := hX124.used _ hv113
 have hb119 := hX124.keep _ _ hb119
 have hv120 := hX124.used _ hv120
 rw [ZhV]
 refine Zag ?_
 refine Zau ?_
 refine Zae (b := b108) (o := 0) he.1 Zcq rfl ?_
 refine Zau ?_
 refine Zah (b := b108) (o := 0 + 2) (r := u) rfl hb112 fa5 Zb6 rfl ?_
 refine Zau ?_
 refine Zae (b := b115) (o := 0) he.2 Zcq rfl ?_
 refine Zau ?_
 refine Zah (b := b115) (o := 0 + 2) (r := v) rfl hb119 fa5 Zb6 rfl ?_
 refine Zau ?_
 refine Zay (vs := [u, v]) (by simp only [List.map_cons, List.map_nil, EV,Nat.reduceEqDiff,↓reduceIte,he];try rfl) ?_
 refine ZoF (hu.ext ((hX114.trans hX121).trans hX124)) (hv.ext ((hX114.trans hX121).trans hX124)) hcl ?_
 refine Zac (Zaj (v := vT true) rfl rfl ?_)
 refine Zag ?_
 refine Zau ?_
 refine Zae (b := b108) (o := 0) he.1 Zcq rfl ?_
 refine Zau ?_
 refine Zah (b := b108) (o := 0 + 3) (r := .agg [c0, c1, c2, c3]) rfl hb112 fa7 Zdb rfl ?_
 refine Zau ?_
 refine Zae (b := b115) (o := 0) he.2 Zcq rfl ?_
 refine Zau ?_
 refine Zah (b := b115) (o := 0 + 3) (r := .agg [a0, a1, a2, a3]) rfl hb119 fa7 Zdb rfl ?_
 refine Zau ?_
 refine Zay (vs := [.agg [c0, c1, c2, c3], .agg [a0, a1, a2, a3]]) (by simp only [List.map_cons, List.map_nil, EV,Nat.reduceEqDiff,↓reduceIte,he];try rfl) ?_
 refine ZfC h4 (hl.ext ((hX114.trans hX121).trans hX124)) (hc.ext ((hX114.trans hX121).trans hX124)) hn fun τ125 hX126 => ?_
 have hb112 := hX126.keep _ _ hb112
 have hv113 := hX126.used _ hv113
 have hb119 := hX126.keep _ _ hb119
 have hv120 := hX126.used _ hv120
 refine Zac (Zaj (v := vT true) rfl rfl ?_)
 refine Zag ?_
 refine Zaf (kp1 4 fun e he => ?_)
 refine Zap ?_
 exact ZaD (hK _ (((hX114.trans hX121).trans hX124).trans hX126))
theorem Zd4 {σ0 : St} {x t : Int} {c0 c1 c2 c3 a0 a1 a2 a3 : AV} {ls : List (List Int)} (h4 : ls.length = 4) (hl : Zd3 σ0 σ [c0, c1, c2, c3] ls) (hc : ZbM σ [a0, a1, a2, a3] ls) (hn : ∀ l ∈ ls, l.length <= 1000000) (hK : ∀ τ, Ext σ τ -> K (vT true) τ) : Zan Tryz.prog 33 [.agg [vI x, vI t, c0, c1, c2, c3], .agg [vI x, vI t, a0, a1, a2, a3]] σ K := by
 refine Zai Zam Tryz.func33 rfl rfl rfl (Nat.le_of_ble_eq_true rfl) ?_
 refine ZbL 0 1 (v0 := .agg [vI x, vI t, c0, c1, c2, c3]) (v1 := .agg [vI x, vI t, a0, a1, a2, a3]) rfl rfl ?_
 intro e he
 refine Zaa (Zac (Zbn (cs := [vI x, vI t, c0, c1, c2, c3]) (v := .agg [vI x, vI t, c0, c1, c2, c3]) he.1 rfl fun b127 υ128 hn129 hu130 hb131 hv132 hX133 => ?_))
 refine Zac (Zbn (cs := [vI x, vI t, a0, a1, a2, a3]) (v := .agg [vI x, vI t, a0, a1, a2, a3]) he.2 rfl fun b134 υ135 hn136 hu137 hb138 hv139 hX140 => ?_)
 have ne141 := Zat hb131 hn136
 have hb131 := hX140.keep _ _ hb131
 have hv132 := hX140.used _ hv132
 refine Zag ?_
 refine Zaf (kp2 2 3 fun e he => ?_)
 refine Zaa (Zac (Zah (b := b127) (o := 0) (r := .agg [vI x, vI t, c0, c1, c2, c3]) he.1 hb131 ZfQ Zd9 rfl ?_))
 refine Zac (Zah (b := b134) (o := 0) (r := .agg [vI x, vI t, a0, a1, a2, a3]) he.2 hb138 ZfQ Zd9 rfl ?_)
 refine Zao [.agg [vI x, vI t, c0, c1, c2, c3], .agg [vI x, vI t, a0, a1, a2, a3]] ?_
 refine Zhf h4 h4 (hl.at_.ext (hX133.trans hX140)) (hc.ext (hX133.trans hX140)) (fun l hl => by have := hn l hl; omega) (fun l hl => by have := hn l hl; omega) fun τ142 hX143 => ?_
 have hb131 := hX143.keep _ _ hb131
 have hv132 := hX143.used _ hv132
 have hb138 := hX143.keep _ _ hb138
 have hv139 := hX143.used _ hv139
 rw [show (decide (x = x) && (decide (t = t) && decide (ls = ls))) = true by simp]
 refine Zag ?_
 refine Zau ?_
 refine Zae (b := b127) (o := 0) he.1 Zdp rfl ?_
 refine Zau ?_
 refine Zah (b := b127) (o := 0 + 2) (r := .agg [c0, c1, c2, c3]) rfl hb131 fa7 Zdb rfl ?_
 refine Zau ?_
 refine Zae (b := b134) (o := 0) he.2 Zdp rfl ?_
 refine Zau ?_
 refine Zah (b := b134) (o := 0 + 2) (r := .agg [a0, a1, a2, a3]) rfl hb138 fa7 Zdb rfl ?_
 refine Zau ?_
 refine Zay (vs := [.agg [c0, c1, c2, c3], .agg [a0, a1, a2, a3]]) (by simp only [List.map_cons, List.map_nil, EV,Nat.reduceEqDiff,↓reduceIte,he];try rfl) ?_
 refine ZfC h4 (hl.ext ((hX133.trans hX140).trans hX143)) (hc.ext ((hX133.trans hX140).trans hX143)) hn fun τ144 hX145 => ?_
 have hb131 := hX145.keep _ _ hb131
 have hv132 := hX145.used _ hv132
 have hb138 := hX145.keep _ _ hb138
 have hv139 := hX145.used _ hv139
 refine Zac (Zaj (v := vT true) rfl rfl ?_)
 refine Zag ?_
 refine Zaf (kp1 4 fun e he => ?_)
 refine Zap ?_
 exact ZaD (hK _ (((hX133.trans hX140).trans hX143).trans hX145))
end
section
variable {P : Program} {O : Nat -> Prop} {ops : Array Oper} {env : Env} {σ τ : St} {d : Option Nat} {ty t : TypeId} {pos : String} {af : Array Edge} {x : Operand} {c : Code} {Q : Zdn} {id : Nat} {l l1 : List Oper} {o : Oper} {l2 : List Oper} {Kp : List PanicEntry -> Env -> St -> Prop}
theorem Zjl (n : Nat) (h : Zbz P l.toArray (l.take n) env σ fun env' σ' => Zpt P l.toArray o env' σ' fun ch e s => Q (.panic ch) e s) (hd : l.drop n = o :: l2 := by rfl) : ZaA P O (.seq (.region id l.toArray false) c) Q env σ :=
 fun _ => .inl (.inr ⟨l.take n, o, l2, by rw [<- hd, List.take_append_drop], h⟩)
theorem Zql (n : Nat) (h : Zbz P l.toArray (l.take n) env σ fun env' σ' => Zpt P l.toArray o env' σ' fun ch e s => Q (.panic ch) e s) (hd : l.drop n = o :: l2 := by rfl) : ZaA P O (.region id l.toArray false) Q env σ :=
 fun _ => .inl (.inr ⟨l.take n, o, l2, by rw [<- hd, List.take_append_drop], h⟩)
theorem ZjX {g : FuncId} {as_ : Array Operand} {ts : Array TypeId} {vs : List AV} (hv : as_.toList.map (ev env) = vs) (h : ZdD P g vs σ fun ch σ' => Kp ch env σ') : Zpt P ops ⟨d, .call ⟨.value (.func g), as_, ts⟩, ty, pos, af, none⟩ env σ Kp := by
 refine ⟨by simp [Region.wanted], .inl ⟨_, _, g, #[], #[], rfl, rfl, rfl, ?_⟩⟩
 simp only [List.map_nil, List.nil_append, List.append_nil]
 rw [hv]
 exact h
theorem ZrF {g : FuncId} {f : Nat} {fst cap : Array Value} {as_ : Array Operand} {ts : Array TypeId} {vs : List AV} (hf : env f = .raw (.func (.func g) fst cap)) (hv : fst.toList.map .raw ++ as_.toList.map (ev env) ++ cap.toList.map .raw = vs) (h : ZdD P g vs σ fun ch σ' => Kp ch env σ') : Zpt P ops ⟨d, .call ⟨.value (.tmp f), as_, ts⟩, ty, pos, af, none⟩ env σ Kp := by
 refine ⟨by simp [Region.wanted], .inl ⟨_, _, g, fst, cap, rfl, rfl, by show (env f).val = _; rw [hf]; rfl, ?_⟩⟩
 rw [hv]
 exact h
theorem Zqm {v : Value} (hx : ev env x = .raw (.iface t v)) (h : Kp [{ v := .iface t v, recovered := false }] env σ) : Zpt P ops ⟨d, .panic x, ty, pos, af, none⟩ env σ Kp :=
 ⟨by simp [Region.wanted], .inr ⟨x, t, v, rfl, by rw [hx]; simp, h⟩⟩
theorem Znc {fn : Func} {args : List AV} {w : World} {Z : Nat -> Prop} (hn : args.length <= fn.ntmps) (hH : ZaG w σ Z) (hV : ∀ a ∈ args, Zar w (σ.free Z) a) :
 ZdI [] fn.ntmps w σ Z (ZiP args) { tmps := (args.map AV.val).toArray ++ Array.replicate (fn.ntmps - (args.map AV.val).toArray.size) undef, defers := [] } := by
 refine ⟨hH, rfl, by simp; omega, fun i => ?_, fun i => ?_⟩
 ·unfold ZiP
  simp only [List.getD_eq_getElem?_getD, Array.getD_eq_getD_getElem?, Array.getElem?_append, List.size_toArray, List.length_map]
  by_cases hi : i < args.length
  ·simp [hi]
  ·simp only [if_neg hi, List.getElem?_eq_none (Nat.le_of_not_lt hi), Option.getD_none, AV.val_raw]
   by_cases h2 : i - args.length < fn.ntmps - args.length
   ·simp [h2]
   ·simp [h2]
 ·unfold ZiP
  rw [List.getD_eq_getElem?_getD]
  cases hi : args[i]? with
  | none => simp only [Option.getD_none]; unfold Zar; trivial
  | some x => exact hV x (List.mem_of_getElem? hi)
theorem Zhj {f : FuncId} {fn : Func} {c : Code} {args : List AV} {Kp : List PanicEntry -> St -> Prop} (hm : P.follows .mixedOrders = true) (hf : P.funcs[f]? = some fn) (hb : fn.body = some c) (hname : (fn.name != "runtime.NumGoroutine") = true) (hok : ZcB fn.ntmps c = true) (hn : args.length <= fn.ntmps)
 (h : ZaA P σ.used c (fun e env τ => match e with | .panic ch => Kp ch τ | _ => False) (ZiP args) σ) : ZdD P f args σ Kp := by
 intro w Z hH hV
 refine ⟨by unfold ZbX; rw [hf]; simp [hb]; simpa using hname, ?_⟩
 refine calls_of_wp hf hb ?_
 refine wp_mono (Zbx hm c _ (ZiP args) σ _ w hok (Znc hn hH hV) h) ?_
 rintro e a' w' ⟨env', σ', h1, h2, h3⟩
 cases e with
 | panic ch => exact ⟨h2.defers, ch, σ', rfl, h1, h2.heap, h3.full hH⟩
 | _ => exact h1.elim
end
section
variable {σ : St} {K : AV -> St -> Prop}
theorem ZrG {P : Program} {ops : Array Oper} {env : Env} {σ : St} {K : Env -> St -> Prop} {d : Option Nat} {ty t : TypeId} {pos : String} {af : Array Edge} {x : Operand} {v : Value} (ht : P.concrete t = true) (hx : ev env x = .raw v) (h : K (env.put d (.raw (.iface t v))) σ) : aOp P ops ⟨d, .makeInterface t x, ty, pos, af, none⟩ env σ K := by
 refine Zdu (vs := [.raw v]) rfl (by simp [Op.operands, hx]) (fun _ _ h => .inl h) (fun ρ hρ w _ _ => ?_) h
 simp [Op.operands] at hρ
 simp only [execOp]
 rw [hρ, Sem.run_bind]
 simp only [run_makeInterface (h := ht), Result.andThen_ok]
 rfl
abbrev ZsB : Value := .iface 40 (.int .i64 2)
abbrev Znd : List PanicEntry := [{ v := ZsB, recovered := false }]
section
variable {Kp : List PanicEntry -> St -> Prop}
theorem Zfe (hK : K (.tup []) σ) : Zan Tryz.prog 129 [vT true] σ K := by
 refine Zai Zam Tryz.func129 rfl rfl rfl (Nat.le_of_ble_eq_true rfl) ?_
 refine Zbf 0 (v0 := vT true) rfl ?_
 intro e he
 refine Zaa (Zag ?_)
 refine ZcU ?_
 refine Zaf (kp1 3 fun e he => ?_)
 refine ZaQ (t := false) he (fun ht => by cases ht) (fun ht => ?_)
 refine Zbm ?_
 exact ⟨_, Zcu rfl, hK⟩
theorem Zdl (hK : Kp Znd σ) : ZdD Tryz.prog 129 [vT false] σ Kp := by
 refine Zhj Zam Tryz.func129 rfl rfl rfl (Nat.le_of_ble_eq_true rfl) ?_
 refine Zbf 0 (v0 := vT false) rfl ?_
 intro e he
 refine Zaa (Zag ?_)
 refine ZcU ?_
 refine Zaf (kp1 3 fun e he => ?_)
 refine ZaQ (t := true) he (fun ht => ?_) (fun ht => by cases ht)
 refine Zql 1 ?_
 simp only [List.take_succ_cons, List.take_zero]
 refine Zac (ZrG (v := .int .i64 2) (by kernel_rfl) rfl ?_)
 refine Zaf ?_
 exact Zqm rfl hK
end
structure JSt where
 term : Int
 vote : Int
 bi : Int
 bt : Int
 bc : List (List Int)
 es : List Ent
def Zcl : List AV -> List Ent -> Prop
 | cs, [] => cs = []
 | cs, e :: es => ∃ h t, cs = h ++ t /\ Zm6 h e /\ Zcl t es
def EsT (v : AV) (es : List Ent) : Prop := ∃ A c cells rest, v = .lst A es.length c (cells ++ rest) /\ Lst A es.length c /\ Zcl cells es
def JT (cs : List AV) (s : JSt) : Prop := ∃ a0 a1 a2 a3 v, cs = [vI s.term, vI s.vote, vI s.bi, vI s.bt, a0, a1, a2, a3, v] /\ ZcJ [a0, a1, a2, a3] s.bc /\ EsT v s.es
theorem ZcJ.tis {a0 a1 a2 a3 : AV} {ls : List (List Int)} (h : ZcJ [a0, a1, a2, a3] ls) : ∃ l0 l1 l2 l3, ls = [l0, l1, l2, l3] /\ TI a0 l0 /\ TI a1 l1 /\ TI a2 l2 /\ TI a3 l3 := by
 obtain ⟨_, h4, h⟩ := h
 obtain ⟨l0, l1, l2, l3, rfl⟩ := Zc3 h4
 have f : ∀ k (hk : k < 4) u, [a0, a1, a2, a3][k]? = some u -> TI u ([l0, l1, l2, l3][k]'hk) := fun k hk u hu => by
  obtain ⟨u', q1, q2⟩ := h k hk
  rw [hu] at q1
  cases q1
  exact q2
 exact ⟨l0, l1, l2, l3, rfl, f 0 (by omega) a0 rfl, f 1 (by omega) a1 rfl, f 2 (by omega) a2 rfl, f 3 (by omega) a3 rfl⟩
theorem Zm6.len {cs : List AV} {e : Ent} (h : Zm6 cs e) : cs.length = 7 := by
 obtain ⟨_, _, _, _, _, rfl, _⟩ := h
 rfl
theorem Zcl.len : ∀ {es : List Ent} {cs : List AV}, Zcl cs es -> cs.length = es.length * 7
 | [], cs, h => by have h : cs = [] := h; rw [h]; rfl
 | e :: es, cs, h => by
  obtain ⟨u, t, rfl, h1, h2⟩ := h
  rw [List.length_append, h1.len, h2.len, List.length_cons]
  omega
theorem Zcl.append : ∀ {es fs : List Ent} {cs ds : List AV}, Zcl cs es -> Zcl ds fs -> Zcl (cs ++ ds) (es ++ fs)
 | [], fs, cs, ds, h, k => by have h : cs = [] := h; rw [h]; exact k
 | e :: es, fs, cs, ds, h, k => by
  obtain ⟨u, t, rfl, h1, h2⟩ := h
  exact ⟨u, t ++ ds, List.append_assoc .., h1, h2.append k⟩
theorem Zcl.one {cs : List AV} {e : Ent} (h : Zm6 cs e) : Zcl cs [e] := ⟨cs, [], (List.append_nil _).symm, h, rfl⟩
theorem Zcl.take : ∀ {es : List Ent} {cs : List AV} (n : Nat), Zcl cs es -> Zcl (cs.take (n * 7)) (es.take n)
 | es, cs, 0, h => by rw [Nat.zero_mul, List.take_zero, List.take_zero]; rfl
 | [], cs, n + 1, h => by have h : cs = [] := h; rw [h]; simp; rfl
 | e :: es, cs, n + 1, h => by
  obtain ⟨u, t, rfl, h1, h2⟩ := h
  have hl := h1.len
  refine ⟨u, t.take (n * 7), ?_, h1, h2.take n⟩
  rw [List.take_append, List.take_of_length_le (by omega), hl, show (n + 1) * 7 - 7 = n * 7 by omega]
theorem Zcl.drop : ∀ {es : List Ent} {cs : List AV} (n : Nat), Zcl cs es -> Zcl (cs.drop (n * 7)) (es.drop n)
 | es, cs, 0, h => by rw [Nat.zero_mul]; exact h
 | [], cs, n + 1, h => by have h : cs = [] := h; rw [h]; simp; rfl
 | e :: es, cs, n + 1, h => by
  obtain ⟨u, t, rfl, h1, h2⟩ := h
  have hl := h1.len
  have := h2.drop n
  rw [List.drop_append, List.drop_of_length_le (by omega), hl, show (n + 1) * 7 - 7 = n * 7 by omega, List.nil_append]
  exact this
theorem Zcl.get : ∀ {es : List Ent} {cs : List AV} {i : Nat} (h : i < es.length), Zcl cs es -> Zm6 ((cs.drop (i * 7)).take 7) es[i]
 | e :: es, cs, 0, _, h => by
  obtain ⟨u, t, rfl, h1, h2⟩ := h
  have hl := h1.len
  rw [Nat.zero_mul, List.drop_zero, List.take_append_of_le_length (by omega), List.take_of_length_le (by omega)]
  exact h1
 | e :: es, cs, i + 1, hi, h => by
  obtain ⟨u, t, rfl, h1, h2⟩ := h
  have hl := h1.len
  have := h2.get (i := i) (by simpa using hi)
  rw [List.drop_append, List.drop_of_length_le (by omega), hl, show (i + 1) * 7 - 7 = i * 7 by omega, List.nil_append]
  exact this
theorem Zm6.ones {cs : List AV} {e : Ent} (h : Zm6 cs e) : ∀ a ∈ cs, a.one = true := by
 obtain ⟨u, a0, a1, a2, a3, rfl, hu, hc⟩ := h
 obtain ⟨_, _, _, _, _, z0, z1, z2, z3⟩ := hc.tis
 intro a ha
 simp only [List.mem_cons, List.not_mem_nil, or_false] at ha
 rcases ha with rfl | rfl | rfl | rfl | rfl | rfl | rfl
 ·rfl
 ·rfl
 ·exact hu.one.1
 ·exact z0.one.1
 ·exact z1.one.1
 ·exact z2.one.1
 ·exact z3.one.1
theorem Zcl.ones : ∀ {es : List Ent} {cs : List AV}, Zcl cs es -> ∀ a ∈ cs, a.one = true
 | [], cs, h => by have h : cs = [] := h; rw [h]; intro a ha; cases ha
 | e :: es, cs, h => by
  obtain ⟨u, t, rfl, h1, h2⟩ := h
  intro a ha
  rcases List.mem_append.1 ha with ha | ha
  ·exact h1.ones a ha
  ·exact h2.ones a ha
def ZlB (s : JSt) (st : Option (List UInt8)) : JSt × Option (List UInt8) := (⟨(Zbr 1073741824 st).1, (Zbr 5 (Zbr 1073741824 st).2).1, s.bi, s.bt, s.bc, s.es⟩, (Zbr 5 (Zbr 1073741824 st).2).2)
theorem Zqn {rb : Nat} {st : Option (List UInt8)} {t0 v0 bi bt : Int} {a0 a1 a2 a3 v : AV} {bc : List (List Int)} {es : List Ent} (hC : ZcJ [a0, a1, a2, a3] bc) (hE : EsT v es) (h : QAt σ rb st) (hK : ∀ cs τ, JT cs (ZlB ⟨t0, v0, bi, bt, bc, es⟩ st).1 -> QAt τ rb (ZlB ⟨t0, v0, bi, bt, bc, es⟩ st).2 -> But (fun c => c = rb) σ τ -> K (.agg cs) τ) : Zan Tryz.prog 126 [.agg [vI t0, vI v0, vI bi, vI bt, a0, a1, a2, a3, v], ptr rb 0] σ K := by
 have hC0 := hC
 obtain ⟨l0, l1, l2, l3, rfl, z0, z1, z2, z3⟩ := hC.tis
 obtain ⟨p, hp⟩ : ∃ p, p = Zbr 1073741824 st := ⟨_, rfl⟩
 obtain ⟨q, hq⟩ : ∃ q, q = Zbr 5 p.2 := ⟨_, rfl⟩
 refine Zai Zam Tryz.func126 rfl rfl rfl (Nat.le_of_ble_eq_true rfl) ?_
 refine ZbL 0 1 (v0 := .agg [vI t0, vI v0, vI bi, vI bt, a0, a1, a2, a3, v]) (v1 := ptr rb 0) rfl rfl ?_
 intro e he
 refine Zaa (Zac (Zbn (cs := [vI t0, vI v0, vI bi, vI bt, a0, a1, a2, a3, v]) (v := .agg [vI t0, vI v0, vI bi, vI bt, a0, a1, a2, a3, v]) he.1 rfl fun b1 υ2 hn3 hu4 hb5 hv6 hX7 => ?_))
 have ne8 : b1 ≠ rb := fun q => by obtain ⟨_, h1, _⟩ := h.ex; rw [q, h1] at hn3; cases hn3
 have h := h.ext hX7
 refine Zac (ZaH (cs := [vI 0, vI 0, vI 0, vI 0, .lst none 0 0 [], .lst none 0 0 [], .lst none 0 0 [], .lst none 0 0 [], .lst none 0 0 []]) Zgq rfl fun b9 υ10 hn11 hu12 hb13 hv14 hX15 => ?_)
 have ne16 := Zat hb5 hn11
 have ne17 : b9 ≠ rb := fun q => by obtain ⟨_, h1, _⟩ := h.ex; rw [q, h1] at hn11; cases hn11
 have hb5 := hX15.keep _ _ hb5
 have hv6 := hX15.used _ hv6
 have h := h.ext hX15
 refine Zaf (kp3 1 2 4 fun e he => ?_)
 refine Zaa (Zac (Zae (b := b1) (o := 0) he.2.1 Zo3 rfl ?_))
 refine Zac (Zah (b := b1) (o := 0 + 0) (r := .agg [vI t0, vI v0, vI bi, vI bt, a0, a1, a2, a3, v]) rfl hb5 Zhy Zdx rfl ?_)
 refine Zac (ZaH (cs := [vI 0, vI 0, vI 0, vI 0, .lst none 0 0 [], .lst none 0 0 [], .lst none 0 0 [], .lst none 0 0 [], .lst none 0 0 []]) Zgq rfl fun b18 υ19 hn20 hu21 hb22 hv23 hX24 => ?_)
 have ne25 := Zat hb5 hn20
 have ne26 := Zat hb13 hn20
 have ne27 : b18 ≠ rb := fun q => by obtain ⟨_, h1, _⟩ := h.ex; rw [q, h1] at hn20; cases hn20
 have hb5 := hX24.keep _ _ hb5
 have hv6 := hX24.used _ hv6
 have hb13 := hX24.keep _ _ hb13
 have hv14 := hX24.used _ hv14
 have h := h.ext hX24
 refine Zac (ZaB (b := b18) (o := 0) (u := .agg [vI t0, vI v0, vI bi, vI bt, a0, a1, a2, a3, v]) (cs' := [vI t0, vI v0, vI bi, vI bt, a0, a1, a2, a3, v]) rfl rfl hb22 Zdx (by obtain ⟨_, _, rfl, _⟩ := z0 <;> obtain ⟨_, _, rfl, _⟩ := z1 <;> obtain ⟨_, _, rfl, _⟩ := z2 <;> obtain ⟨_, _, rfl, _⟩ := z3 <;> obtain ⟨_, _, _, _, rfl, _⟩ := hE <;> rfl) rfl fun υ28 hb22 k29 => ?_)
 have hb5 := k29.keep _ _ (Ne.symm ne25) hb5
 have hv6 := k29.used _ hv6
 have hb13 := k29.keep _ _ (Ne.symm ne26) hb13
 have hv14 := k29.used _ hv14
 have hv23 := k29.used _ hv23
 have h := h.but k29 (Ne.symm ne27)
 refine Zaf (kp3 1 4 5 fun e he => ?_)
 refine Zaa (Zag ?_)
 refine Zao [ptr rb 0, vI 1073741824] ?_
 refine ZbS (most := 1073741824) h fun τ30 hR31 k32 => ?_
 rw [<- hp] at hR31 ⊢
 have hb5 := k32.keep _ _ ne8 hb5
 have hv6 := k32.used _ hv6
 have hb13 := k32.keep _ _ ne17 hb13
 have hv14 := k32.used _ hv14
 have hb22 := k32.keep _ _ ne27 hb22
 have hv23 := k32.used _ hv23
 refine Zac (Zae (b := b18) (o := 0) he.2.2 ZdS rfl ?_)
 refine Zac (ZaI (b := b18) (o := 0 + 0) (v := vI ((p.1 : Nat) : Int)) rfl rfl hb22 ZbG ⟨rfl, rfl, rfl⟩ (by simp) fun υ33 hb22 k34 => ?_)
 have hb5 := k34.keep _ _ (Ne.symm ne25) hb5
 have hv6 := k34.used _ hv6
 have hb13 := k34.keep _ _ (Ne.symm ne26) hb13
 have hv14 := k34.used _ hv14
 have hv23 := k34.used _ hv23
 have hR31 := hR31.but k34 (Ne.symm ne27)
 refine Zaf (kp3 1 4 5 fun e he => ?_)
 refine Zaa (Zag ?_)
 refine Zao [ptr rb 0, vI 5] ?_
 refine ZbS (most := 5) hR31 fun τ35 hR36 k37 => ?_
 rw [<- hq] at hR36 ⊢
 have hb5 := k37.keep _ _ ne8 hb5
 have hv6 := k37.used _ hv6
 have hb13 := k37.keep _ _ ne17 hb13
 have hv14 := k37.used _ hv14
 have hb22 := k37.keep _ _ ne27 hb22
 have hv23 := k37.used _ hv23
 refine Zac (Zae (b := b18) (o := 0) he.2.2 ZdS rfl ?_)
 refine Zac (ZaI (b := b18) (o := 0 + 1) (v := vI ((q.1 : Nat) : Int)) rfl rfl hb22 ZbG ⟨rfl, rfl, rfl⟩ (by simp) fun υ38 hb22 k39 => ?_)
 have hb5 := k39.keep _ _ (Ne.symm ne25) hb5
 have hv6 := k39.used _ hv6
 have hb13 := k39.keep _ _ (Ne.symm ne26) hb13
 have hv14 := k39.used _ hv14
 have hv23 := k39.used _ hv23
 have hR36 := hR36.but k39 (Ne.symm ne27)
 refine Zaf (kp2 4 5 fun e he => ?_)
 refine Zaa (Zac (Zah (b := b18) (o := 0) (r := .agg [vI ((p.1 : Nat) : Int), vI ((q.1 : Nat) : Int), vI bi, vI bt, a0, a1, a2, a3, v]) he.2 hb22 Zhy Zdx rfl ?_))
 refine Zac (ZaB (b := b9) (o := 0) (u := .agg [vI ((p.1 : Nat) : Int), vI ((q.1 : Nat) : Int), vI bi, vI bt, a0, a1, a2, a3, v]) (cs' := [vI ((p.1 : Nat) : Int), vI ((q.1 : Nat) : Int), vI bi, vI bt, a0, a1, a2, a3, v]) he.1 rfl hb13 Zdx (by obtain ⟨_, _, rfl, _⟩ := z0 <;> obtain ⟨_, _, rfl, _⟩ := z1 <;> obtain ⟨_, _, rfl, _⟩ := z2 <;> obtain ⟨_, _, rfl, _⟩ := z3 <;> obtain ⟨_, _, _, _, rfl, _⟩ := hE <;> rfl) rfl fun υ40 hb13 k41 => ?_)
 have hb5 := k41.keep _ _ (Ne.symm ne16) hb5
 have hv6 := k41.used _ hv6
 have hb22 := k41.keep _ _ ne26 hb22
 have hv23 := k41.used _ hv23
 have hv14 := k41.used _ hv14
 have hR36 := hR36.but k41 (Ne.symm ne17)
 refine Zaf (kp1 4 fun e he => ?_)
 refine Zap ?_
 have e9 : ZlB ⟨t0, v0, bi, bt, [l0, l1, l2, l3], es⟩ st = (⟨p.1, q.1, bi, bt, [l0, l1, l2, l3], es⟩, q.2) := by unfold ZlB; rw [<- hp, <- hq]
 rw [e9] at hK
 show ∃ r, ZaM _ _ _ _ r /\ _
 exact ⟨_, ZdE rfl (ZaJ he hb13 Zhy Zdx rfl), hK _ _ ⟨_, _, _, _, _, rfl, hC0, hE⟩ hR36 (But.ext2 (But.ext2 ((But.ext2 ((But.ext2 ((((But.refl _ _).trans hX7.but).trans hX15.but).trans hX24.but) (fun g hg => .inr (by rw [hg]; exact (hX7.trans hX15).noneOf hn20)) k29).trans k32) (fun g hg => .inr (by rw [hg]; exact (hX7.trans hX15).noneOf hn20)) k34).trans k37) (fun g hg => .inr (by rw [hg]; exact (hX7.trans hX15).noneOf hn20)) k39) (fun g hg => .inr (by rw [hg]; exact hX7.noneOf hn11)) k41)⟩
end
end Go.Proofs.YtiienjjhlibopaaGreatDoor
