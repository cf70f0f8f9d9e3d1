/- XEc, XDr, XDs, XRea, XReb, XLi in one. -/
import Derived.Test.YtiienjjhlibopaaGreatDoorFacts
import Derived.Test.YtiienjjhlibopaaGreatDoorMah
import Derived.Test.YtiienjjhlibopaaGreatDoorMab
import Derived.Test.YtiienjjhlibopaaGreatDoorMad
import Derived.Test.YtiienjjhlibopaaGreatDoorMae
namespace Go.Proofs.YtiienjjhlibopaaGreatDoor
open Go.RowKit
set_option maxRecDepth 100000
set_option linter.unusedVariables false
set_option linter.unusedSimpArgs false
section
variable {σ : St} {K : AV -> St -> Prop}
def Zm6 (cs : List AV) (e : Ent) : Prop := ∃ u a0 a1 a2 a3, cs = [vI e.x, kV e.k, u, a0, a1, a2, a3] /\ TB u e.c /\ ZcJ [a0, a1, a2, a3] e.ls
structure Ztf where
 e : Ent
 ok : Bool
 left : Option (List UInt8)
def Zbs (st : Option (List UInt8)) : Ztf :=
 let p := Zbr 1073741824 st
 let q := Zbr 255 p.2
 let c := Ze9 131072 q.2
 let d := ZdT 4 c.2
 cond (d.2.isNone) ⟨⟨0, 0, [], [[], [], [], []]⟩, false, d.2⟩ (cond (Za8 p.1 q.1 c.1 d.1) ⟨⟨p.1, q.1, c.1, d.1⟩, true, d.2⟩ ⟨⟨0, 0, [], [[], [], [], []]⟩, false, d.2⟩)
theorem ZbN {m : Nat} {st : Option (List UInt8)} : ((Zbr m st).2.getD []).length <= (st.getD []).length := by
 unfold Zbr
 split
 ·simp
 ·rename_i p h
  cases st with
  | none => cases h
  | some l =>
   have h : (Zgv 9 0 0 l).bind (fun p => if m < p.1 then none else some p) = some p := h
   cases hg : Zgv 9 0 0 l with
   | none => rw [hg] at h; cases h
   | some q =>
    rw [hg] at h
    have h : (if m < q.1 then none else some q) = some p := h
    split at h
    ·cases h
    ·injection h with h
     subst h
     have := (ZeF 9 0 0 l hg).2.1
     show q.2.length <= l.length
     omega
set_option maxHeartbeats 1000000 in
theorem ZeK {rb : Nat} {st : Option (List UInt8)} (h : QAt σ rb st) (hlen : (st.getD []).length <= 1000000000) (hK : ∀ cs τ, Zm6 cs (Zbs st).e -> QAt τ rb (Zbs st).left -> But (fun c => c = rb) σ τ -> K (.tup [.agg cs, vT (Zbs st).ok]) τ) : Zan Tryz.prog 25 [ptr rb 0] σ K := by
 obtain ⟨p, hp⟩ : ∃ p, p = Zbr 1073741824 st := ⟨_, rfl⟩
 obtain ⟨q, hq⟩ : ∃ q, q = Zbr 255 p.2 := ⟨_, rfl⟩
 obtain ⟨c, hc⟩ : ∃ c, c = Ze9 131072 q.2 := ⟨_, rfl⟩
 obtain ⟨d, hd⟩ : ∃ d, d = ZdT 4 c.2 := ⟨_, rfl⟩
 refine Zai Zam Tryz.func25 rfl rfl rfl (Nat.le_of_ble_eq_true rfl) ?_
 refine Zbf 0 (v0 := ptr rb 0) rfl ?_
 intro e he
 refine Zaa (Zac (ZaH (cs := [vI 0, .raw (.int .u8 0), .lst none 0 0 [], .lst none 0 0 [], .lst none 0 0 [], .lst none 0 0 [], .lst none 0 0 []]) Zfo rfl fun b1 υ2 hn3 hu4 hb5 hv6 hX7 => ?_))
 have ne8 : b1 ≠ rb := fun q => by obtain ⟨_, h1, _⟩ := h.ex; rw [q, h1] at hn3; cases hn3
 have h := h.ext hX7
 refine Zag ?_
 refine Zaf (kp2 0 2 fun e he => ?_)
 refine Zaa (Zac (ZaH (cs := [vI 0, .raw (.int .u8 0), .lst none 0 0 [], .lst none 0 0 [], .lst none 0 0 [], .lst none 0 0 [], .lst none 0 0 []]) Zfo rfl fun b9 υ10 hn11 hu12 hb13 hv14 hX15 => ?_))
 have ne16 := Zat hb5 hn11
 have ne17 : b9 ≠ rb := fun q => by obtain ⟨_, h1, _⟩ := h.ex; rw [q, h1] at hn11; cases hn11
 have hb5 := hX15.keep _ _ hb5
 have hv6 := hX15.used _ hv6
 have h := h.ext hX15
 refine Zaf (kp3 0 2 4 fun e he => ?_)
 refine Zaa (Zag ?_)
 refine Zao [ptr rb 0, vI 1073741824] ?_
 refine ZbS (most := 1073741824) h fun τ18 hR19 k20 => ?_
 rw [<- hp] at hR19 ⊢
 have hb5 := k20.keep _ _ ne8 hb5
 have hv6 := k20.used _ hv6
 have hb13 := k20.keep _ _ ne17 hb13
 have hv14 := k20.used _ hv14
 refine Zac (Zae (b := b9) (o := 0) he.2.2 Zcq rfl ?_)
 refine Zac (ZaI (b := b9) (o := 0 + 0) (v := vI ((p.1 : Nat) : Int)) rfl rfl hb13 ZbG ⟨rfl, rfl, rfl⟩ (by simp) fun υ21 hb13 k22 => ?_)
 have hb5 := k22.keep _ _ (Ne.symm ne16) hb5
 have hv6 := k22.used _ hv6
 have hv14 := k22.used _ hv14
 have hR19 := hR19.but k22 (Ne.symm ne17)
 refine Zaf (kp3 0 2 4 fun e he => ?_)
 refine Zaa (Zag ?_)
 refine Zao [ptr rb 0, vI 255] ?_
 refine ZbS (most := 255) hR19 fun τ23 hR24 k25 => ?_
 rw [<- hq] at hR24 ⊢
 have hb5 := k25.keep _ _ ne8 hb5
 have hv6 := k25.used _ hv6
 have hb13 := k25.keep _ _ ne17 hb13
 have hv14 := k25.used _ hv14
 refine Zac ?_
 have hq255 : q.1 <= 255 := by rw [hq]; exact ZcH.1
 refine ZbF (k := .i64) (a := ((q.1 : Nat) : Int)) (r := ((q.1 : Nat) : Int)) fa1 fa0 rfl (IntWalk.u8_in _ (by omega)) ?_
 refine Zac (Zae (b := b9) (o := 0) he.2.2 Zcq rfl ?_)
 refine Zac (ZaI (b := b9) (o := 0 + 1) (v := kV q.1) rfl rfl hb13 ZnA ⟨rfl, rfl, rfl⟩ (by simp) fun υ26 hb13 k27 => ?_)
 have hb5 := k27.keep _ _ (Ne.symm ne16) hb5
 have hv6 := k27.used _ hv6
 have hv14 := k27.used _ hv14
 have hR24 := hR24.but k27 (Ne.symm ne17)
 refine Zaf (kp3 0 2 4 fun e he => ?_)
 refine Zaa (Zag ?_)
 refine Zao [ptr rb 0, vI 131072] ?_
 refine ZrB (most := 131072) hR24 (by have h1 := ZbN (m := 255) (st := p.2); rw [<- hq] at h1; have h2 := ZbN (m := 1073741824) (st := st); rw [<- hp] at h2; omega) fun a28 τ29 ha30 hR31 k32 => ?_
 rw [<- hc] at ha30 hR31
 have hb5 := k32.keep _ _ ne8 hb5
 have hv6 := k32.used _ hv6
 have hb13 := k32.keep _ _ ne17 hb13
 have hv14 := k32.used _ hv14
 refine Zac (Zae (b := b9) (o := 0) he.2.2 Zcq rfl ?_)
 refine Zac (ZaI (b := b9) (o := 0 + 2) (v := a28) rfl rfl hb13 Zb6 ha30.one (by simp) fun υ33 hb13 k34 => ?_)
 have hb5 := k34.keep _ _ (Ne.symm ne16) hb5
 have hv6 := k34.used _ hv6
 have hv14 := k34.used _ hv14
 have hR31 := hR31.but k34 (Ne.symm ne17)
 refine Zaf (kp3 0 2 4 fun e he => ?_)
 refine Zaa (Zag ?_)
 refine Zao [ptr rb 0] ?_
 refine Zfy hR31 fun cs35 τ36 hC37 hR38 k39 => ?_
 rw [<- hd] at hC37 hR38
 obtain ⟨a0, a1, a2, a3, rfl, hone⟩ := hC37.four
 have hb5 := k39.keep _ _ ne8 hb5
 have hv6 := k39.used _ hv6
 have hb13 := k39.keep _ _ ne17 hb13
 have hv14 := k39.used _ hv14
 have h44 : d.1.length = 4 := by rw [hd]; exact Zgz 4 _
 obtain ⟨_, qz, z0⟩ := hC37.at_ (σ := τ36) 0 (by omega)
 cases qz
 obtain ⟨_, qz, z1⟩ := hC37.at_ (σ := τ36) 1 (by omega)
 cases qz
 obtain ⟨_, qz, z2⟩ := hC37.at_ (σ := τ36) 2 (by omega)
 cases qz
 obtain ⟨_, qz, z3⟩ := hC37.at_ (σ := τ36) 3 (by omega)
 cases qz
 refine Zac (Zae (b := b9) (o := 0) he.2.2 Zcq rfl ?_)
 refine Zac (ZaB (b := b9) (o := 0 + 3) (u := .agg [a0, a1, a2, a3]) rfl rfl hb13 Zdb (by rcases Ls.form z0 with ⟨_, _, _, rfl⟩ | ⟨_, _, _, rfl⟩ <;> rcases Ls.form z1 with ⟨_, _, _, rfl⟩ | ⟨_, _, _, rfl⟩ <;> rcases Ls.form z2 with ⟨_, _, _, rfl⟩ | ⟨_, _, _, rfl⟩ <;> rcases Ls.form z3 with ⟨_, _, _, rfl⟩ | ⟨_, _, _, rfl⟩ <;> rfl) rfl fun υ40 hb13 k41 => ?_)
 have hb5 := k41.keep _ _ (Ne.symm ne16) hb5
 have hv6 := k41.used _ hv6
 have hv14 := k41.used _ hv14
 have hR38 := hR38.but k41 (Ne.symm ne17)
 refine Zaf (kp3 0 2 4 fun e he => ?_)
 refine Zab (Zaa (Zag ?_))
 refine Zao [ptr rb 0] ?_
 refine Zeu hR38 ?_
 refine Zag ?_
 cases hg42 : d.2.isNone with
 | false =>
  have bhg42 := hg42
  refine Zau ?_
  refine Zah (b := b9) (o := 0) (r := .agg [vI ((p.1 : Nat) : Int), kV q.1, a28, a0, a1, a2, a3]) he.2.2 hb13 fa8 ZbZ rfl ?_
  refine Zau ?_
  refine Zay (vs := [.agg [vI ((p.1 : Nat) : Int), kV q.1, a28, a0, a1, a2, a3]]) (by simp only [List.map_cons, List.map_nil, EV,Nat.reduceEqDiff,↓reduceIte,he];try rfl) ?_
  refine Zf2 ha30.at_ h44 hC37.at_ (fun l hl => by have := Zhe 4 c.2 l (by rw [<- hd]; exact hl); omega) fun τ43 hX44 => ?_
  have hb5 := hX44.keep _ _ hb5
  have hb13 := hX44.keep _ _ hb13
  have hR38 := hR38.ext hX44
  refine Zau ?_
  refine ZcR (b := Za8 p.1 q.1 c.1 d.1) rfl ?_
  refine Zac (Zak (v := vT (!(Za8 p.1 q.1 c.1 d.1))) rfl rfl ?_)
  refine Zaf (kp3 2 4 24 fun e he => ?_)
  refine ZaC (t := !(Za8 p.1 q.1 c.1 d.1)) he.2.2 (fun ht24 => ?_) (fun ht24 => ?_)
  ·have bht24 : (Za8 p.1 q.1 c.1 d.1) = false := by rw [<- Bool.not_not (Za8 p.1 q.1 c.1 d.1), ht24]; rfl
   refine Zab (Zaa (Zac (Zbj (vs := []) (cells := [vI 0, .raw (.int .u8 0), .lst none 0 0 [], .lst none 0 0 [], .lst none 0 0 [], .lst none 0 0 [], .lst none 0 0 []]) (by simp only [List.map_cons, List.map_nil, EV,Nat.reduceEqDiff,↓reduceIte,he];try rfl) Zfo Zra rfl ?_)))
   refine Zac (ZaB (b := b1) (o := 0) (u := .agg [vI 0, .raw (.int .u8 0), .lst none 0 0 [], .lst none 0 0 [], .lst none 0 0 [], .lst none 0 0 [], .lst none 0 0 []]) he.1 rfl hb5 ZbZ rfl rfl fun υ45 hb5 k46 => ?_)
   have hb13 := k46.keep _ _ ne16 hb13
   have hR38 := hR38.but k46 (Ne.symm ne8)
   refine Zag ?_
   refine Zaf (kp2 2 3 fun e he => ?_)
   refine ZbB ?_
   have e9 : Zbs st = ⟨⟨0, 0, [], [[], [], [], []]⟩, false, d.2⟩ := by simp only [Zbs, <- hp, <- hq, <- hc, <- hd, bhg42, bht24, cond_true, cond_false]
   rw [e9] at hK
   show ∃ r, ZaM _ _ _ _ r /\ _
   exact ⟨_, Zbd rfl (ZaJ he.1 hb5 fa8 ZbZ rfl) (ZaO he.2), hK _ _ ⟨_, _, _, _, _, rfl, ZdQ, Zch⟩ hR38 (But.ext2 ((But.ext2 ((But.ext2 ((But.ext2 ((But.ext2 ((((But.refl _ _).trans hX7.but).trans hX15.but).trans k20) (fun g hg => .inr (by rw [hg]; exact hX7.noneOf hn11)) k22).trans k25) (fun g hg => .inr (by rw [hg]; exact hX7.noneOf hn11)) k27).trans k32) (fun g hg => .inr (by rw [hg]; exact hX7.noneOf hn11)) k34).trans k39) (fun g hg => .inr (by rw [hg]; exact hX7.noneOf hn11)) k41).trans hX44.but) (fun g hg => .inr (by rw [hg]; exact hn3)) k46)⟩
  have bht24 : (Za8 p.1 q.1 c.1 d.1) = true := by rw [<- Bool.not_not (Za8 p.1 q.1 c.1 d.1), ht24]; rfl
  refine ZaL (Zaa (Zac (Zah (b := b9) (o := 0) (r := .agg [vI ((p.1 : Nat) : Int), kV q.1, a28, a0, a1, a2, a3]) he.2.1 hb13 fa8 ZbZ rfl ?_)))
  refine Zac (ZaB (b := b1) (o := 0) (u := .agg [vI ((p.1 : Nat) : Int), kV q.1, a28, a0, a1, a2, a3]) he.1 rfl hb5 ZbZ (by obtain ⟨A, c, rest, rfl, _⟩ := ha30 <;> rcases Ls.form z0 with ⟨_, _, _, rfl⟩ | ⟨_, _, _, rfl⟩ <;> rcases Ls.form z1 with ⟨_, _, _, rfl⟩ | ⟨_, _, _, rfl⟩ <;> rcases Ls.form z2 with ⟨_, _, _, rfl⟩ | ⟨_, _, _, rfl⟩ <;> rcases Ls.form z3 with ⟨_, _, _, rfl⟩ | ⟨_, _, _, rfl⟩ <;> rfl) rfl fun υ47 hb5 k48 => ?_)
  have hR38 := hR38.but k48 (Ne.symm ne8)
  refine Zag ?_
  refine Zaf (kp2 2 3 fun e he => ?_)
  refine Zap ?_
  have e9 : Zbs st = ⟨⟨p.1, q.1, c.1, d.1⟩, true, d.2⟩ := by simp only [Zbs, <- hp, <- hq, <- hc, <- hd, bhg42, bht24, cond_true, cond_false]
  rw [e9] at hK
  show ∃ r, ZaM _ _ _ _ r /\ _
  exact ⟨_, Zbd rfl (ZaJ he.1 hb5 fa8 ZbZ rfl) (ZaO he.2), hK _ _ ⟨_, _, _, _, _, rfl, ha30, hC37⟩ hR38 (But.ext2 ((But.ext2 ((But.ext2 ((But.ext2 ((But.ext2 ((((But.refl _ _).trans hX7.but).trans hX15.but).trans k20) (fun g hg => .inr (by rw [hg]; exact hX7.noneOf hn11)) k22).trans k25) (fun g hg => .inr (by rw [hg]; exact hX7.noneOf hn11)) k27).trans k32) (fun g hg => .inr (by rw [hg]; exact hX7.noneOf hn11)) k34).trans k39) (fun g hg => .inr (by rw [hg]; exact hX7.noneOf hn11)) k41).trans hX44.but) (fun g hg => .inr (by rw [hg]; exact hn3)) k48)⟩
 | true =>
  have bhg42 := hg42
  refine Zal ?_
  refine Zal ?_
  refine Zal ?_
  refine Zac (Zaj (v := vT true) rfl rfl ?_)
  refine Zaf (kp3 2 4 24 fun e he => ?_)
  refine ZaC (t := true) he.2.2 (fun ht => ?_) (fun ht => by cases ht)
  refine Zab (Zaa (Zac (Zbj (vs := []) (cells := [vI 0, .raw (.int .u8 0), .lst none 0 0 [], .lst none 0 0 [], .lst none 0 0 [], .lst none 0 0 [], .lst none 0 0 []]) (by simp only [List.map_cons, List.map_nil, EV,Nat.reduceEqDiff,↓reduceIte,he];try rfl) Zfo Zra rfl ?_)))
  refine Zac (ZaB (b := b1) (o := 0) (u := .agg [vI 0, .raw (.int .u8 0), .lst none 0 0 [], .lst none 0 0 [], .lst none 0 0 [], .lst none 0 0 [], .lst none 0 0 []]) he.1 rfl hb5 ZbZ rfl rfl fun υ49 hb5 k50 => ?_)
  have hR38 := hR38.but k50 (Ne.symm ne8)
  refine Zag ?_
  refine Zaf (kp2 2 3 fun e he => ?_)
  refine ZbB ?_
  have e9 : Zbs st = ⟨⟨0, 0, [], [[], [], [], []]⟩, false, d.2⟩ := by simp only [Zbs, <- hp, <- hq, <- hc, <- hd, bhg42, cond_true, cond_false]
  rw [e9] at hK
  show ∃ r, ZaM _ _ _ _ r /\ _
  exact ⟨_, Zbd rfl (ZaJ he.1 hb5 fa8 ZbZ rfl) (ZaO he.2), hK _ _ ⟨_, _, _, _, _, rfl, ZdQ, Zch⟩ hR38 (But.ext2 (But.ext2 ((But.ext2 ((But.ext2 ((But.ext2 ((((But.refl _ _).trans hX7.but).trans hX15.but).trans k20) (fun g hg => .inr (by rw [hg]; exact hX7.noneOf hn11)) k22).trans k25) (fun g hg => .inr (by rw [hg]; exact hX7.noneOf hn11)) k27).trans k32) (fun g hg => .inr (by rw [hg]; exact hX7.noneOf hn11)) k34).trans k39) (fun g hg => .inr (by rw [hg]; exact hX7.noneOf hn11)) k41) (fun g hg => .inr (by rw [hg]; exact hn3)) k50)⟩
set_option maxHeartbeats 1000000 in
theorem ZjU {rb : Nat} {st : Option (List UInt8)} (h : ZfJ σ rb st) (hlen : (st.getD []).length <= 1000000000) (hK : ∀ cs τ, Zm6 cs (Zbs st).e -> ZfJ τ rb (Zbs st).left -> But (fun c => c = rb) σ τ -> K (.tup [.agg cs, vT (Zbs st).ok]) τ) : Zan Tryz.prog 26 [ptr rb 0] σ K := by
 obtain ⟨p, hp⟩ : ∃ p, p = Zbr 1073741824 st := ⟨_, rfl⟩
 obtain ⟨q, hq⟩ : ∃ q, q = Zbr 255 p.2 := ⟨_, rfl⟩
 obtain ⟨c, hc⟩ : ∃ c, c = Ze9 131072 q.2 := ⟨_, rfl⟩
 obtain ⟨d, hd⟩ : ∃ d, d = ZdT 4 c.2 := ⟨_, rfl⟩
 refine Zai Zam Tryz.func26 rfl rfl rfl (Nat.le_of_ble_eq_true rfl) ?_
 refine Zbf 0 (v0 := ptr rb 0) rfl ?_
 intro e he
 refine Zaa (Zac (ZaH (cs := [vI 0, .raw (.int .u8 0), .lst none 0 0 [], .lst none 0 0 [], .lst none 0 0 [], .lst none 0 0 [], .lst none 0 0 []]) Zfo rfl fun b51 υ52 hn53 hu54 hb55 hv56 hX57 => ?_))
 have ne58 : b51 ≠ rb := fun q => by obtain ⟨_, h1, _⟩ := h.ex; rw [q, h1] at hn53; cases hn53
 have h := h.ext hX57
 refine Zag ?_
 refine Zaf (kp2 0 2 fun e he => ?_)
 refine Zaa (Zac (ZaH (cs := [vI 0, .raw (.int .u8 0), .lst none 0 0 [], .lst none 0 0 [], .lst none 0 0 [], .lst none 0 0 [], .lst none 0 0 []]) Zfo rfl fun b59 υ60 hn61 hu62 hb63 hv64 hX65 => ?_))
 have ne66 := Zat hb55 hn61
 have ne67 : b59 ≠ rb := fun q => by obtain ⟨_, h1, _⟩ := h.ex; rw [q, h1] at hn61; cases hn61
 have hb55 := hX65.keep _ _ hb55
 have hv56 := hX65.used _ hv56
 have h := h.ext hX65
 refine Zaf (kp3 0 2 4 fun e he => ?_)
 refine Zaa (Zag ?_)
 refine Zao [ptr rb 0, vI 1073741824] ?_
 refine ZcI (most := 1073741824) h fun τ68 hR69 k70 => ?_
 rw [<- hp] at hR69 ⊢
 have hb55 := k70.keep _ _ ne58 hb55
 have hv56 := k70.used _ hv56
 have hb63 := k70.keep _ _ ne67 hb63
 have hv64 := k70.used _ hv64
 refine Zac (Zae (b := b59) (o := 0) he.2.2 Zcq rfl ?_)
 refine Zac (ZaI (b := b59) (o := 0 + 0) (v := vI ((p.1 : Nat) : Int)) rfl rfl hb63 ZbG ⟨rfl, rfl, rfl⟩ (by simp) fun υ71 hb63 k72 => ?_)
 have hb55 := k72.keep _ _ (Ne.symm ne66) hb55
 have hv56 := k72.used _ hv56
 have hv64 := k72.used _ hv64
 have hR69 := hR69.but k72 (Ne.symm ne67)
 refine Zaf (kp3 0 2 4 fun e he => ?_)
 refine Zaa (Zag ?_)
 refine Zao [ptr rb 0, vI 255] ?_
 refine ZcI (most := 255) hR69 fun τ73 hR74 k75 => ?_
 rw [<- hq] at hR74 ⊢
 have hb55 := k75.keep _ _ ne58 hb55
 have hv56 := k75.used _ hv56
 have hb63 := k75.keep _ _ ne67 hb63
 have hv64 := k75.used _ hv64
 refine Zac ?_
 have hq255 : q.1 <= 255 := by rw [hq]; exact ZcH.1
 refine ZbF (k := .i64) (a := ((q.1 : Nat) : Int)) (r := ((q.1 : Nat) : Int)) fa1 fa0 rfl (IntWalk.u8_in _ (by omega)) ?_
 refine Zac (Zae (b := b59) (o := 0) he.2.2 Zcq rfl ?_)
 refine Zac (ZaI (b := b59) (o := 0 + 1) (v := kV q.1) rfl rfl hb63 ZnA ⟨rfl, rfl, rfl⟩ (by simp) fun υ76 hb63 k77 => ?_)
 have hb55 := k77.keep _ _ (Ne.symm ne66) hb55
 have hv56 := k77.used _ hv56
 have hv64 := k77.used _ hv64
 have hR74 := hR74.but k77 (Ne.symm ne67)
 refine Zaf (kp3 0 2 4 fun e he => ?_)
 refine Zaa (Zag ?_)
 refine Zao [ptr rb 0, vI 131072] ?_
 refine Zqc (most := 131072) hR74 (by have h1 := ZbN (m := 255) (st := p.2); rw [<- hq] at h1; have h2 := ZbN (m := 1073741824) (st := st); rw [<- hp] at h2; omega) fun a78 τ79 ha80 hR81 k82 => ?_
 rw [<- hc] at ha80 hR81
 have hb55 := k82.keep _ _ ne58 hb55
 have hv56 := k82.used _ hv56
 have hb63 := k82.keep _ _ ne67 hb63
 have hv64 := k82.used _ hv64
 refine Zac (Zae (b := b59) (o := 0) he.2.2 Zcq rfl ?_)
 refine Zac (ZaI (b := b59) (o := 0 + 2) (v := a78) rfl rfl hb63 Zb6 ha80.one (by simp) fun υ83 hb63 k84 => ?_)
 have hb55 := k84.keep _ _ (Ne.symm ne66) hb55
 have hv56 := k84.used _ hv56
 have hv64 := k84.used _ hv64
 have hR81 := hR81.but k84 (Ne.symm ne67)
 refine Zaf (kp3 0 2 4 fun e he => ?_)
 refine Zaa (Zag ?_)
 refine Zao [ptr rb 0] ?_
 refine ZhS hR81 fun cs85 τ86 hC87 hR88 k89 => ?_
 rw [<- hd] at hC87 hR88
 obtain ⟨a0, a1, a2, a3, rfl, hone⟩ := hC87.four
 have hb55 := k89.keep _ _ ne58 hb55
 have hv56 := k89.used _ hv56
 have hb63 := k89.keep _ _ ne67 hb63
 have hv64 := k89.used _ hv64
 have h44 : d.1.length = 4 := by rw [hd]; exact Zgz 4 _
 obtain ⟨_, qz, z0⟩ := hC87.at_ (σ := τ86) 0 (by omega)
 cases qz
 obtain ⟨_, qz, z1⟩ := hC87.at_ (σ := τ86) 1 (by omega)
 cases qz
 obtain ⟨_, qz, z2⟩ := hC87.at_ (σ := τ86) 2 (by omega)
 cases qz
 obtain ⟨_, qz, z3⟩ := hC87.at_ (σ := τ86) 3 (by omega)
 cases qz
 obtain ⟨vv, hrb, hvv⟩ := hR88.ex
 refine Zac (Zae (b := b59) (o := 0) he.2.2 Zcq rfl ?_)
 refine Zac (ZaB (b := b59) (o := 0 + 3) (u := .agg [a0, a1, a2, a3]) rfl rfl hb63 Zdb (by rcases Ls.form z0 with ⟨_, _, _, rfl⟩ | ⟨_, _, _, rfl⟩ <;> rcases Ls.form z1 with ⟨_, _, _, rfl⟩ | ⟨_, _, _, rfl⟩ <;> rcases Ls.form z2 with ⟨_, _, _, rfl⟩ | ⟨_, _, _, rfl⟩ <;> rcases Ls.form z3 with ⟨_, _, _, rfl⟩ | ⟨_, _, _, rfl⟩ <;> rfl) rfl fun υ90 hb63 k91 => ?_)
 have hb55 := k91.keep _ _ (Ne.symm ne66) hb55
 have hv56 := k91.used _ hv56
 have hrb := k91.keep _ _ (Ne.symm ne67) hrb
 have hv64 := k91.used _ hv64
 have hR88 := hR88.but k91 (Ne.symm ne67)
 refine Zaf (kp3 0 2 4 fun e he => ?_)
 refine Zab (Zaa (Zem (b := rb) (r := vT d.2.isNone) he.1 Zju rfl hrb rfl ZiQ Zhu fun u1 u2 u3 => ?_))
 refine Zag ?_
 cases hg92 : d.2.isNone with
 | false =>
  have bhg92 := hg92
  refine Zau ?_
  refine Zah (b := b59) (o := 0) (r := .agg [vI ((p.1 : Nat) : Int), kV q.1, a78, a0, a1, a2, a3]) he.2.2 hb63 fa8 ZbZ rfl ?_
  refine Zau ?_
  refine Zay (vs := [.agg [vI ((p.1 : Nat) : Int), kV q.1, a78, a0, a1, a2, a3]]) (by simp only [List.map_cons, List.map_nil, EV,Nat.reduceEqDiff,↓reduceIte,he];try rfl) ?_
  refine Zfd ha80.at_ h44 hC87.at_ (fun l hl => by have := Zhe 4 c.2 l (by rw [<- hd]; exact hl); omega) fun τ93 hX94 => ?_
  have hb55 := hX94.keep _ _ hb55
  have hb63 := hX94.keep _ _ hb63
  have hR88 := hR88.ext hX94
  refine Zau ?_
  refine ZcR (b := Za8 p.1 q.1 c.1 d.1) rfl ?_
  refine Zac (Zak (v := vT (!(Za8 p.1 q.1 c.1 d.1))) rfl rfl ?_)
  refine Zaf (kp3 2 4 26 fun e he => ?_)
  refine ZaC (t := !(Za8 p.1 q.1 c.1 d.1)) he.2.2 (fun ht26 => ?_) (fun ht26 => ?_)
  ·have bht26 : (Za8 p.1 q.1 c.1 d.1) = false := by rw [<- Bool.not_not (Za8 p.1 q.1 c.1 d.1), ht26]; rfl
   refine Zab (Zaa (Zac (Zbj (vs := []) (cells := [vI 0, .raw (.int .u8 0), .lst none 0 0 [], .lst none 0 0 [], .lst none 0 0 [], .lst none 0 0 [], .lst none 0 0 []]) (by simp only [List.map_cons, List.map_nil, EV,Nat.reduceEqDiff,↓reduceIte,he];try rfl) Zfo Zra rfl ?_)))
   refine Zac (ZaB (b := b51) (o := 0) (u := .agg [vI 0, .raw (.int .u8 0), .lst none 0 0 [], .lst none 0 0 [], .lst none 0 0 [], .lst none 0 0 [], .lst none 0 0 []]) he.1 rfl hb55 ZbZ rfl rfl fun υ95 hb55 k96 => ?_)
   have hb63 := k96.keep _ _ ne66 hb63
   have hR88 := hR88.but k96 (Ne.symm ne58)
   refine Zag ?_
   refine Zaf (kp2 2 3 fun e he => ?_)
   refine ZbB ?_
   have e9 : Zbs st = ⟨⟨0, 0, [], [[], [], [], []]⟩, false, d.2⟩ := by simp only [Zbs, <- hp, <- hq, <- hc, <- hd, bhg92, bht26, cond_true, cond_false]
   rw [e9] at hK
   show ∃ r, ZaM _ _ _ _ r /\ _
   exact ⟨_, Zbd rfl (ZaJ he.1 hb55 fa8 ZbZ rfl) (ZaO he.2), hK _ _ ⟨_, _, _, _, _, rfl, ZdQ, Zch⟩ hR88 (But.ext2 ((But.ext2 ((But.ext2 ((But.ext2 ((But.ext2 ((((But.refl _ _).trans hX57.but).trans hX65.but).trans k70) (fun g hg => .inr (by rw [hg]; exact hX57.noneOf hn61)) k72).trans k75) (fun g hg => .inr (by rw [hg]; exact hX57.noneOf hn61)) k77).trans k82) (fun g hg => .inr (by rw [hg]; exact hX57.noneOf hn61)) k84).trans k89) (fun g hg => .inr (by rw [hg]; exact hX57.noneOf hn61)) k91).trans hX94.but) (fun g hg => .inr (by rw [hg]; exact hn53)) k96)⟩
  have bht26 : (Za8 p.1 q.1 c.1 d.1) = true := by rw [<- Bool.not_not (Za8 p.1 q.1 c.1 d.1), ht26]; rfl
  refine ZaL (Zaa (Zac (Zah (b := b59) (o := 0) (r := .agg [vI ((p.1 : Nat) : Int), kV q.1, a78, a0, a1, a2, a3]) he.2.1 hb63 fa8 ZbZ rfl ?_)))
  refine Zac (ZaB (b := b51) (o := 0) (u := .agg [vI ((p.1 : Nat) : Int), kV q.1, a78, a0, a1, a2, a3]) he.1 rfl hb55 ZbZ (by obtain ⟨A, c, rest, rfl, _⟩ := ha80 <;> rcases Ls.form z0 with ⟨_, _, _, rfl⟩ | ⟨_, _, _, rfl⟩ <;> rcases Ls.form z1 with ⟨_, _, _, rfl⟩ | ⟨_, _, _, rfl⟩ <;> rcases Ls.form z2 with ⟨_, _, _, rfl⟩ | ⟨_, _, _, rfl⟩ <;> rcases Ls.form z3 with ⟨_, _, _, rfl⟩ | ⟨_, _, _, rfl⟩ <;> rfl) rfl fun υ97 hb55 k98 => ?_)
  have hR88 := hR88.but k98 (Ne.symm ne58)
  refine Zag ?_
  refine Zaf (kp2 2 3 fun e he => ?_)
  refine Zap ?_
  have e9 : Zbs st = ⟨⟨p.1, q.1, c.1, d.1⟩, true, d.2⟩ := by simp only [Zbs, <- hp, <- hq, <- hc, <- hd, bhg92, bht26, cond_true, cond_false]
  rw [e9] at hK
  show ∃ r, ZaM _ _ _ _ r /\ _
  exact ⟨_, Zbd rfl (ZaJ he.1 hb55 fa8 ZbZ rfl) (ZaO he.2), hK _ _ ⟨_, _, _, _, _, rfl, ha80, hC87⟩ hR88 (But.ext2 ((But.ext2 ((But.ext2 ((But.ext2 ((But.ext2 ((((But.refl _ _).trans hX57.but).trans hX65.but).trans k70) (fun g hg => .inr (by rw [hg]; exact hX57.noneOf hn61)) k72).trans k75) (fun g hg => .inr (by rw [hg]; exact hX57.noneOf hn61)) k77).trans k82) (fun g hg => .inr (by rw [hg]; exact hX57.noneOf hn61)) k84).trans k89) (fun g hg => .inr (by rw [hg]; exact hX57.noneOf hn61)) k91).trans hX94.but) (fun g hg => .inr (by rw [hg]; exact hn53)) k98)⟩
 | true =>
  have bhg92 := hg92
  refine Zal ?_
  refine Zal ?_
  refine Zal ?_
  refine Zac (Zaj (v := vT true) rfl rfl ?_)
  refine Zaf (kp3 2 4 26 fun e he => ?_)
  refine ZaC (t := true) he.2.2 (fun ht => ?_) (fun ht => by cases ht)
  refine Zab (Zaa (Zac (Zbj (vs := []) (cells := [vI 0, .raw (.int .u8 0), .lst none 0 0 [], .lst none 0 0 [], .lst none 0 0 [], .lst none 0 0 [], .lst none 0 0 []]) (by simp only [List.map_cons, List.map_nil, EV,Nat.reduceEqDiff,↓reduceIte,he];try rfl) Zfo Zra rfl ?_)))
  refine Zac (ZaB (b := b51) (o := 0) (u := .agg [vI 0, .raw (.int .u8 0), .lst none 0 0 [], .lst none 0 0 [], .lst none 0 0 [], .lst none 0 0 [], .lst none 0 0 []]) he.1 rfl hb55 ZbZ rfl rfl fun υ99 hb55 k100 => ?_)
  have hR88 := hR88.but k100 (Ne.symm ne58)
  refine Zag ?_
  refine Zaf (kp2 2 3 fun e he => ?_)
  refine ZbB ?_
  have e9 : Zbs st = ⟨⟨0, 0, [], [[], [], [], []]⟩, false, d.2⟩ := by simp only [Zbs, <- hp, <- hq, <- hc, <- hd, bhg92, cond_true, cond_false]
  rw [e9] at hK
  show ∃ r, ZaM _ _ _ _ r /\ _
  exact ⟨_, Zbd rfl (ZaJ he.1 hb55 fa8 ZbZ rfl) (ZaO he.2), hK _ _ ⟨_, _, _, _, _, rfl, ZdQ, Zch⟩ hR88 (But.ext2 (But.ext2 ((But.ext2 ((But.ext2 ((But.ext2 ((((But.refl _ _).trans hX57.but).trans hX65.but).trans k70) (fun g hg => .inr (by rw [hg]; exact hX57.noneOf hn61)) k72).trans k75) (fun g hg => .inr (by rw [hg]; exact hX57.noneOf hn61)) k77).trans k82) (fun g hg => .inr (by rw [hg]; exact hX57.noneOf hn61)) k84).trans k89) (fun g hg => .inr (by rw [hg]; exact hX57.noneOf hn61)) k91) (fun g hg => .inr (by rw [hg]; exact hn53)) k100)⟩
theorem Zjh {x : Int} {k : Nat} {v a0 a1 a2 a3 : AV} {c : List UInt8} {ls : List (List Int)} (hv : Za5 σ v c) (h4 : ls.length = 4) (hc : ZbM σ [a0, a1, a2, a3] ls) (hk8 : k <= 255) (hls : ∀ l ∈ ls, l.length <= 1000000) (hl : (ZhB ⟨x, k, c, ls⟩).length <= 50000000) (hK : ∀ a τ, OB σ τ a (ZhB ⟨x, k, c, ls⟩) -> K a τ) : Zan Tryz.prog 21 [.agg [vI x, kV k, v, a0, a1, a2, a3]] σ K := by
 have hsz : (nB x).length + (nB ((k : Nat) : Int)).length + (ZiD c).length + (Ze7 ls).length <= 50000000 := by have : (ZhB ⟨x, k, c, ls⟩).length = _ := rfl; simp only [ZhB, List.length_append] at hl; omega
 have hcl : (ZiD c).length = (Ze5 c.length).length + c.length := by simp [ZiD]
 refine Zai Zam Tryz.func21 rfl rfl rfl (Nat.le_of_ble_eq_true rfl) ?_
 refine Zbf 0 (v0 := .agg [vI x, kV k, v, a0, a1, a2, a3]) rfl ?_
 intro e he
 refine Zaa (Zac (Zbn (cs := [vI x, kV k, v, a0, a1, a2, a3]) (v := .agg [vI x, kV k, v, a0, a1, a2, a3]) he rfl fun b101 υ102 hn103 hu104 hb105 hv106 hX107 => ?_))
 have hv := hv.ext hX107
 have hc := hc.ext hX107
 refine Zag ?_
 refine Zaf (kp1 1 fun e he => ?_)
 have l108 := hb105
 have l109 := hv106
 have l110 := hv
 have l111 := hc
 refine Zbt ?_
 refine ⟨[0, 3, 1, 4, 5, 2, 6, 7, 8], [[], [0], [0, 1], [], [3], [3, 4], [0, 1, 2, 3, 4, 5], [0, 1, 2, 3, 4, 5, 6], [0, 1, 2, 3, 4, 5, 6, 7]], fun c => c = b101, [4], [2], [], by kernel_rfl, ?_⟩
 refine Za2 ?_
 refine Zae (b := b101) (o := 0) he Zcq rfl ?_
 refine Zb5 ?_
 refine Za2 ?_
 refine Zae (b := b101) (o := 0) he Zcq rfl ?_
 refine Zb5 ?_
 refine Za2 ?_
 refine Zah (b := b101) (o := 0 + 0) (r := vI x) rfl hb105 fa9 ZbG rfl ?_
 refine Zb5 ?_
 apply ZeP
 case hi => simp only [HIX]; try rfl
 case hw => rfl
 case how => rfl
 case hx => simp only [EV,Nat.reduceEqDiff,↓reduceIte,he];try rfl
 case hp => exact rfl
 case hb => exact hb105
 case ha => exact fa4
 case hn => exact ZnA
 case hr => exact (show [vI x, kV k, v, a0, a1, a2, a3][0 + 1]? = some (kV k) from rfl)
 refine Za2 ?_
 refine ZbF (k := .u8) (a := ((k : Nat) : Int)) (r := ((k : Nat) : Int)) fa0 fa1 rfl (IntWalk.i64_in _ (by omega)) ?_
 refine Zb5 ?_
 refine Za2 ?_
 refine Zay (vs := [vI x]) (by simp only [List.map_cons, List.map_nil, EV,Nat.reduceEqDiff,↓reduceIte,he];try rfl) ?_
 refine ZeI (x := x) fun a112 τ113 h114 hX115 hn116 => ?_
 have ob117 : OB _ τ113 a112 (nB x) := ⟨h114, hX115, hn116⟩
 refine ⟨fun _ => hX115.keeps, ?_⟩
 have hb105 := hX115.keep _ _ hb105
 have hv106 := hX115.used _ hv106
 have hv := hv.ext hX115
 have hc := hc.ext hX115
 refine Za2 ?_
 refine Zay (vs := [vI ((k : Nat) : Int)]) (by simp only [List.map_cons, List.map_nil, EV,Nat.reduceEqDiff,↓reduceIte,he];try rfl) ?_
 refine ZeI (x := ((k : Nat) : Int)) fun a118 τ119 h120 hX121 hn122 => ?_
 have ob123 : OB _ τ119 a118 (nB ((k : Nat) : Int)) := ⟨h120, hX121, hn122⟩
 refine ⟨fun _ => hX121.keeps, ?_⟩
 have hb105 := hX121.keep _ _ hb105
 have hv106 := hX121.used _ hv106
 have hv := hv.ext hX121
 have hc := hc.ext hX121
 refine Za2 ?_
 refine Ze8 (d2 := nB ((k : Nat) : Int)) (ob117.on hX121) ((ob123).hd.src (by omega)) (by (try simp only [List.length_append]); have := hsz; omega) rfl rfl Zbw Zcn ZeO ZgQ rfl fun a124 τ125 ob126 k127 => ?_
 refine ⟨fun q => (by cases q), ?_⟩
 have hb105 := ob126.ext.keep _ _ l108
 have hv106 := ob126.ext.used _ l109
 have hv := l110.ext ob126.ext
 have hc := l111.ext ob126.ext
 refine ZcT ?_
 refine Zfr (kp2 1 3 ?_)
 clear he e
 intro e he
 refine Zbt ?_
 refine ⟨[0, 1, 5, 2, 6, 3, 4, 7, 8, 9], [[], [], [1], [1, 2], [0, 1, 2, 3], [], [5], [0, 1, 2, 3, 4, 5, 6], [0, 1, 2, 3, 4, 5, 6, 7], [0, 1, 2, 3, 4, 5, 6, 7, 8]], fun c => c = b101, [6], [3, 4], [], by kernel_rfl, ?_⟩
 refine ZcT ?_
 refine Za2 ?_
 refine Zae (b := b101) (o := 0) he.1 Zcq rfl ?_
 refine Zb5 ?_
 refine Za2 ?_
 refine Zae (b := b101) (o := 0) he.1 Zcq rfl ?_
 refine Zb5 ?_
 refine Za2 ?_
 refine Zah (b := b101) (o := 0 + 2) (r := v) rfl hb105 fa5 Zb6 rfl ?_
 refine Zb5 ?_
 apply ZeP
 case hi => simp only [HIX]; try rfl
 case hw => rfl
 case how => rfl
 case hx => simp only [EV,Nat.reduceEqDiff,↓reduceIte,he];try rfl
 case hp => exact rfl
 case hb => exact hb105
 case ha => exact fa7
 case hn => exact Zdb
 case hr => exact (show Zbi (some true) (some 4) [vI x, kV k, v, a0, a1, a2, a3] (0 + 3) = some (.agg [a0, a1, a2, a3]) from rfl)
 refine Za2 ?_
 refine Zay (vs := [v]) (by simp only [List.map_cons, List.map_nil, EV,Nat.reduceEqDiff,↓reduceIte,he];try rfl) ?_
 refine Zoh hv (by omega) fun a128 τ129 h130 hX131 hn132 => ?_
 have ob133 : OB _ τ129 a128 (ZiD c) := ⟨h130, hX131, hn132⟩
 refine ⟨fun _ => hX131.keeps, ?_⟩
 have hb105 := hX131.keep _ _ hb105
 have hv106 := hX131.used _ hv106
 have hv := hv.ext hX131
 have hc := hc.ext hX131
 refine Za2 ?_
 refine Ze8 (d2 := ZiD c) (ob126.on hX131) ((ob133).hd.src (by omega)) (by (try simp only [List.length_append]); have := hsz; omega) rfl rfl Zbw Zcn ZeO ZgQ rfl fun a134 τ135 ob136 k137 => ?_
 refine ⟨fun _ => k137.keeps fun c hp hc => by subst hp; exact (ob126.nw _ hc).2 l109, ?_⟩
 have hb105 := ob136.ext.keep _ _ l108
 have hv106 := ob136.ext.used _ l109
 have hv := l110.ext ob136.ext
 have hc := l111.ext ob136.ext
 refine Za2 ?_
 refine Zay (vs := [.agg [a0, a1, a2, a3]]) (by simp only [List.map_cons, List.map_nil, EV,Nat.reduceEqDiff,↓reduceIte,he];try rfl) ?_
 refine ZkM h4 hc hls fun a138 τ139 h140 hX141 hn142 => ?_
 have ob143 : OB _ τ139 a138 (Ze7 ls) := ⟨h140, hX141, hn142⟩
 refine ⟨fun _ => hX141.keeps, ?_⟩
 have hb105 := hX141.keep _ _ hb105
 have hv106 := hX141.used _ hv106
 have hv := hv.ext hX141
 have hc := hc.ext hX141
 refine Za2 ?_
 refine Ze8 (d2 := Ze7 ls) (ob136.on hX141) ((ob143).hd.src (by omega)) (by (try simp only [List.length_append]); have := hsz; omega) rfl rfl Zbw Zcn ZeO ZgQ rfl fun a144 τ145 ob146 k147 => ?_
 refine ⟨fun q => (by cases q), ?_⟩
 have hb105 := ob146.ext.keep _ _ l108
 have hv106 := ob146.ext.used _ l109
 have hv := l110.ext ob146.ext
 have hc := l111.ext ob146.ext
 refine ZcT ?_
 refine Zfr (kp1 2 ?_)
 clear he e
 intro e he
 refine Zap ?_
 exact ZaD (hK _ _ (show OB σ _ _ (ZhB ⟨x, k, c, ls⟩) from by have q := ob146.from hX107; simpa [ZhB, List.append_assoc] using q))
end
theorem Zji {S : Nat -> Prop} {σ υ : St} {c : Nat} (hB : But S σ υ) (h : Za9 υ c) : S c \/ Za9 σ c := by
 by_cases hc : S c
 ·exact .inl hc
 ·refine .inr ⟨?_, fun hu => h.2 (hB.used _ hu)⟩
  cases hx : σ.blk c with
  | none => rfl
  | some x =>
   have := hB.keep _ _ hc hx
   rw [h.1] at this
   cases this
def Zr2 (fs : List Fl) (pcs : List (Nat × Nat)) (k d : List UInt8) (fs' : List Fl) (pcs' : List (Nat × Nat)) : Prop :=
 ∃ fs1 f0 v', (fs1 = fs \/ (∀ f ∈ fs, f.nm ≠ k) /\ fs1 = fs ++ [f0] /\ f0.d = []) /\ f0 ∈ fs1 /\ f0.nm = k /\ fs' = fs1.map (ZcA f0.b v' (f0.d ++ d)) /\ pcs' = pcs ++ (if d = [] then [] else [(f0.b, d.length)])
theorem ZkN {f : Fl} : ∀ {fs : List Fl}, f ∈ fs -> f.d.length <= Zec fs
 | g :: fs, h => by
  have : Zec (g :: fs) = g.d.length + Zec fs := by simp [Zec]
  rcases List.mem_cons.1 h with rfl | h
  ·omega
  ·have := ZkN h; omega
section
variable {σ : St} {bb mb : Nat} {S : Nat -> Prop} {fs : List Fl} {pcs : List (Nat × Nat)} {size : Int} {pv : AV} {K : AV -> St -> Prop}
set_option maxHeartbeats 2000000 in
theorem Zm7 (h : DAt σ bb S fs pcs size mb pv) (hS : ∀ c, S c -> σ.used c) {k d : List UInt8} {pa : AV}
 (hcat : ∀ τ0, Ext σ τ0 -> ∀ K' : AV -> St -> Prop, (∀ v τ, Hd τ 5 1 v d.length (bys d) -> Ext τ0 τ -> (∀ b, hbk v = some b -> Za9 τ0 b) -> K' v τ) -> Zan Tryz.prog 151 [pa] τ0 K')
 (hlen : d.length + Zec fs <= 100000000) (hp : pcs.length <= 100000000)
 (hK2 : ¬ (k ≠ [] /\ k.length <= 40) -> ∀ τ, Ext σ τ -> K (vI 2) τ)
 (hK8 : (k ≠ [] /\ k.length <= 40) -> ¬ (size < 1 \/ ((d.length + Zec fs : Nat) : Int) <= size) -> ∀ τ, Ext σ τ -> K (vI 8) τ)
 (hK0 : (k ≠ [] /\ k.length <= 40) -> (size < 1 \/ ((d.length + Zec fs : Nat) : Int) <= size) -> ∀ τ S' fs' pcs' pv', DAt τ bb S' fs' pcs' size mb pv' -> But S σ τ -> (∀ c, S c -> S' c) -> (∀ c, S' c -> S c \/ Za9 σ c) -> (∀ c, S' c -> τ.used c) -> Zr2 fs pcs k d fs' pcs' -> K (vI 0) τ) :
 Zan Tryz.prog 96 [ptr bb 0, .raw (sV k), pa] σ K := by
 refine Zai Zam Tryz.func96 rfl rfl rfl (Nat.le_of_ble_eq_true rfl) ?_
 refine Zhx 0 1 2 (v0 := ptr bb 0) (v1 := .raw (sV k)) (v2 := pa) rfl rfl rfl ?_
 intro e he
 repeat refine Zab ?_
 first|refine Zaa ?_|refine Zad ?_
 refine Zag ?_
 refine Zaf (kp3 0 1 2 fun e he => ?_)
 refine ZaF ?_
 repeat refine Zab ?_
 first|refine Zaa ?_|refine Zad ?_
 refine Zag ?_
 refine Zao [ptr bb 0] ?_
 refine Zih h ?_
 refine ZcU ?_
 refine Zag ?_
 refine Zaf (kp4 0 1 2 9 fun e he => ?_)
 refine ZaQ (t := false) he.2.2.2 (fun hf => by cases hf) (fun _ => ?_)
 repeat refine Zab ?_
 first|refine Zaa ?_|refine Zad ?_
 refine Zag ?_
 refine Zao [.raw (sV k)] ?_
 refine Zn5 _ fun σ1 hX1 => ?_
 refine ZcU ?_
 refine Zag ?_
 refine Zaf (kp4 0 1 2 13 fun e he => ?_)
 refine ZaQ (t := !decide (k ≠ [] /\ k.length <= 40)) he.2.2.2 (fun hk => ?_) (fun hk => ?_)
 ·rw [Bool.not_eq_true'] at hk
  repeat refine Zab ?_
  first|refine Zaa ?_|refine Zad ?_
  refine Zag ?_
  refine Zaf (Zap ?_)
  exact ZaD (hK2 (of_decide_eq_false hk) σ1 hX1)
 rw [Bool.not_eq_false'] at hk
 have hk := of_decide_eq_true hk
 refine Zbm ?_
 show ZaA _ _ _ _ _ _
 repeat refine Zab ?_
 first|refine Zaa ?_|refine Zad ?_
 refine Zag ?_
 refine Zao [pa] ?_
 refine hcat σ1 hX1 _ fun dv σ2 hdv hX2 hdn => ?_
 refine Zag ?_
 refine Zaf (kp3 0 1 7 fun e he => ?_)
 have h2 := (h.ext hX1).ext hX2
 repeat refine Zab ?_
 first|refine Zaa ?_|refine Zad ?_
 refine Zag ?_
 refine Zag ?_
 refine Zac (ZeV rfl hdv rfl Zbw ?_)
 refine Zao [ptr bb 0, vI d.length] ?_
 refine ZpP h2 (by omega) _ ?_
 refine ZcU ?_
 refine Zaf (kp4 0 1 7 23 fun e he => ?_)
 refine ZaC (t := !decide (size < 1 \/ ((d.length + Zec fs : Nat) : Int) <= size)) he.2.2.2 (fun hf => ?_) (fun hf => ?_)
 ·rw [Bool.not_eq_true'] at hf
  repeat refine Zab ?_
  first|refine Zaa ?_|refine Zad ?_
  refine Zag ?_
  refine Zaf (ZbB ?_)
  exact ZaD (hK8 hk (of_decide_eq_false hf) σ2 (hX1.trans hX2))
 rw [Bool.not_eq_false'] at hf
 have hf := of_decide_eq_true hf
 refine ZaL ?_
 have hX12 := hX1.trans hX2
 have hdS : ∀ c, hbk dv = some c -> ¬ S c := fun c hc hs => (hdn c hc).2 (hX1.used _ (hS c hs))
 repeat refine Zab ?_
 first|refine Zaa ?_|refine Zad ?_
 refine Zag ?_
 refine Zac (Zav (v := ptr bb 0) rfl rfl ?_)
 refine Zac (Zae (b := bb) (o := 0) rfl ZdY rfl ?_)
 refine Zac (Zah (b := bb) (o := 0 + 1) (r := Zef mb) rfl h2.obj ZfU ZfS rfl ?_)
 refine Zag ?_
 refine Zac (Zfs (k := k) (es := ZcE fs) (b := mb) rfl rfl h2.map ZgY ZjJ Zic ?_)
 refine Zag ?_
 refine Zaf (kp4 0 1 7 8 fun e he => ?_)
 refine Zce (fun env υ => ∃ fs1 S1 f0, DAt υ bb S1 fs1 pcs size mb pv /\ f0 ∈ fs1 /\ f0.nm = k /\ (fs1 = fs \/ (∀ f ∈ fs, f.nm ≠ k) /\ fs1 = fs ++ [f0] /\ f0.d = []) /\ (env 0 = ptr bb 0 /\ env 7 = dv /\ env 8 = ptr f0.b 0) /\ Hd υ 5 1 dv d.length (bys d) /\ (∀ c, hbk dv = some c -> ¬ S1 c) /\ But S σ υ /\ (∀ c, S c -> S1 c) /\ (∀ c, S1 c -> S c \/ Za9 σ c) /\ (∀ c, S1 c -> υ.used c) /\ Zec fs1 = Zec fs) ?_ ?_
 ·cases hg : ZiY (ZcE fs) k with
  | some n =>
   rw [hg] at he
   obtain ⟨f0, hf0, hnm, rfl⟩ := Zgt hg
   repeat refine Zab ?_
   first|refine Zaa ?_|refine Zad ?_
   refine Zag ?_
   refine Zac (Zdw (p := some ⟨f0.b, 0, none⟩) ZgZ rfl rfl rfl ?_)
   refine Zaf ?_
   refine ZaQ (t := false) rfl (fun hf => by cases hf) (fun _ => ?_)
   refine Zbm ?_
   exact ⟨rfl, fs, S, f0, h2, hf0, hnm, .inl rfl, ⟨by simp only [EV,Nat.reduceEqDiff,↓reduceIte,he];try rfl, by simp only [EV,Nat.reduceEqDiff,↓reduceIte,he];try rfl, by simp only [EV,Nat.reduceEqDiff,↓reduceIte,he];try rfl⟩, hdv, hdS, hX12.but, fun c hc => hc, fun c hc => .inl hc, fun c hc => hX12.used _ (hS c hc), rfl⟩
  | none =>
   rw [hg] at he
   have hnm := Zft.1 hg
   repeat refine Zab ?_
   first|refine Zaa ?_|refine Zad ?_
   refine Zag ?_
   refine Zac (Zdw (p := none) ZgZ rfl rfl rfl ?_)
   refine Zaf (kp4 0 1 7 31 fun e he => ?_)
   refine ZaQ (t := true) he.2.2.2 (fun _ => ?_) (fun hf => by cases hf)
   repeat refine Zab ?_
   first|refine Zaa ?_|refine Zad ?_
   refine Zac (Zbj (vs := []) (cells := [.lst none 0 0 []]) rfl ZpJ ZpL rfl ?_)
   refine Zac (Zbn (cs := [.lst none 0 0 []]) (v := .agg [.lst none 0 0 []]) rfl rfl fun nb σ3 hn3 hu3 hb3 hub3 hX3 => ?_)
   refine Zag ?_
   refine Zaf (kp4 0 1 7 8 fun e he => ?_)
   refine Zad (Zag ?_)
   refine Zac (Zav (v := ptr bb 0) rfl rfl ?_)
   refine Zac (Zae (b := bb) (o := 0) rfl ZdY rfl ?_)
   refine Zac (Zah (b := bb) (o := 0 + 1) (r := Zef mb) rfl (hX3.keep _ _ h2.obj) ZfU ZfS rfl ?_)
   refine Zag ?_
   refine Zag ?_
   refine Zac (Zmi (k := k) (n := nb) (es := ZcE fs) (b := mb) rfl rfl rfl (hX3.keep _ _ h2.map) ZgY ZjJ fun σ4 hm4 k4 => ?_)
   refine Zaf ?_
   have hnm2 : mb ≠ nb := fun e => by
    have hq := h2.map
    rw [e, hn3] at hq
    cases hq
   have hB4 : But (fun c => c = mb \/ c = nb) σ2 σ4 := hX3.but.trans (k4.sub fun c hc => .inl hc)
   have hadd := h2.addF (nm := k) (nb := nb) (v := .lst none 0 0 []) (d := []) ⟨hn3, hu3⟩ hB4 (k4.keep _ _ (fun q => hnm2 q.symm) hb3) (k4.used _ hub3) (by rw [hm4, ZnV nb hnm]; unfold ZcE; rw [List.map_append]; rfl) ⟨rfl, by simp [bys], .inl ⟨.inl rfl, rfl⟩⟩ hnm rfl
   have hBS : But S σ σ4 := hX12.but.ext2 (T := fun c => c = mb \/ c = nb) (fun c hc => by
    rcases hc with rfl | rfl
    ·exact .inl h.own.2.1
    ·exact .inr (hX12.noneOf hn3)) hB4
   refine ⟨rfl, _, _, ⟨k, nb, .lst none 0 0 [], []⟩, hadd, List.mem_append_right _ List.mem_cons_self, rfl, .inr ⟨hnm, rfl, rfl⟩, ⟨by simp only [EV,Nat.reduceEqDiff,↓reduceIte,he];try rfl, by simp only [EV,Nat.reduceEqDiff,↓reduceIte,he];try rfl, by simp only [EV,Nat.reduceEqDiff,↓reduceIte,he];try rfl⟩, (hdv.ext hX3).but k4 fun c hc q => ?_, fun c hc hs => ?_, hBS, fun c hc => .inl hc, fun c hc => ?_, fun c hc => ?_, by simp [Zec]⟩
   ·obtain ⟨all, hall⟩ := hdv.blk hc
    exact Zg5 hall h2.map q
   ·rcases hs with hs | hs
    ·exact hdS c hc hs
    ·obtain ⟨all, hall⟩ := hdv.blk hc
     rw [hs, hn3] at hall
     cases hall
   ·rcases hc with hc | hc
    ·exact .inl hc
    ·rw [hc]; exact .inr (Za9.of ⟨hn3, hu3⟩ hX12)
   ·rcases hc with hc | hc
    ·exact hBS.used _ (hS c hc)
    ·rw [hc]; exact k4.used _ hub3
 clear he e
 rintro e υ ⟨fs1, S1, f0, h3, hf0, hnm, hor, he, hd3, hdS3, hB3, hS13, hS31, hSu3, hsum⟩
 obtain ⟨p1, p2, p3⟩ := h3.file f0 hf0
 have hfl := ZkN hf0
 repeat refine Zab ?_
 first|refine Zaa ?_|refine Zad ?_
 refine Zag ?_
 refine Zag ?_
 refine Zac (Zav (v := ptr f0.b 0) rfl rfl ?_)
 refine Zac (Zae (b := f0.b) (o := 0) rfl Zek rfl ?_)
 refine Zac (Zah (b := f0.b) (o := 0 + 0) (r := f0.v) rfl p1 fa5 Zb6 rfl ?_)
 refine Zag ?_
 refine Zac (ZaZ rfl rfl Zbw Zcn ZeO ZgQ rfl (by omega) p3 (hd3.src (by omega)) (by unfold maxLen; omega) (by omega) fun v' υ4 hv4 hB4 hn4 => ?_)
 refine Zac (Zav (v := ptr f0.b 0) rfl rfl ?_)
 refine Zac (Zae (b := f0.b) (o := 0) rfl Zek rfl ?_)
 have hfb4 : υ4.blk f0.b = some (.own 143 [f0.v]) := hB4.keep _ _ (fun hq => by
  obtain ⟨all, hall⟩ := p3.blk hq
  exact ZcV hall p1 (by decide) rfl) p1
 refine Zac (ZaI (b := f0.b) (o := 0 + 0) (v := v') rfl rfl hfb4 Zb6 hv4.oneV (Nat.zero_lt_succ _) fun υ5 hb5 k5 => ?_)
 refine Zaf ?_
 have hB5 : But (fun c => c = f0.b \/ hbk f0.v = some c) υ υ5 := (hB4.sub fun c hc => .inr hc).trans (k5.sub fun c hc => .inl hc)
 have hbys : bys f0.d ++ bys d = bys (f0.d ++ d) := by unfold bys; rw [List.map_append]
 have hv5 : Hd υ5 5 1 v' (f0.d ++ d).length (bys (f0.d ++ d)) := by
  rw [List.length_append, <- hbys]
  refine hv4.but k5 fun c hc hq => ?_
  obtain ⟨all, hall⟩ := hv4.blk hc
  exact ZcV hall hfb4 (by decide) hq
 have h5 := h3.setF hf0 hB5 hb5 hv5 hn4
 have hf0S := h3.own.2.2.1 f0 hf0
 have hd5 : Hd υ5 5 1 dv d.length (bys d) := hd3.but hB5 fun c hc hq => by
  rcases hq with hq | hq
  ·obtain ⟨all, hall⟩ := hd3.blk hc
   exact ZcV hall p1 (by decide) hq
  ·exact hdS3 c hc (hf0S.2 c hq)
 have hBS5 : But S σ υ5 := hB3.ext2 (T := fun c => c = f0.b \/ hbk f0.v = some c) (fun c hc => by
  have hs1 : S1 c := by
   rcases hc with rfl | hc
   ·exact hf0S.1
   ·exact hf0S.2 c hc
  rcases hS31 c hs1 with q | q
  ·exact .inl q
  ·exact .inr q.1) hB5
 have hS5 : ∀ c, (S1 c \/ hbk v' = some c) -> S c \/ Za9 σ c := fun c hc => by
  rcases hc with hc | hc
  ·exact hS31 c hc
  ·rcases hn4 c hc with q | q
   ·exact hS31 c (hf0S.2 c q)
   ·exact Zji hB3 q
 have hSu5 : ∀ c, (S1 c \/ hbk v' = some c) -> υ5.used c := fun c hc => by
  rcases hc with hc | hc
  ·exact hB5.used _ (hSu3 c hc)
  ·exact hv5.used hc
 clear hv4 hB4 hn4 hfb4 k5 hb5
 refine kp3 0 7 8 fun e he => ?_
 refine Zce (fun env υ => env 7 = dv /\ ∃ S' pcs' pv', DAt υ bb S' (fs1.map (ZcA f0.b v' (f0.d ++ d))) pcs' size mb pv' /\ pcs' = pcs ++ (if d = [] then [] else [(f0.b, d.length)]) /\ But S σ υ /\ (∀ c, S c -> S' c) /\ (∀ c, S' c -> S c \/ Za9 σ c) /\ (∀ c, S' c -> υ.used c)) ?_ ?_
 ·repeat refine Zab ?_
  first|refine Zaa ?_|refine Zad ?_
  refine Zag ?_
  refine Zac (ZeV rfl hd5 rfl Zbw ?_)
  refine Zac (Zb3 (k := .i64) (a := (d.length : Int)) (b := 0) rfl rfl ?_)
  refine Zaf (kp4 0 7 8 51 fun e he => ?_)
  refine ZaQ (t := decide ((0 : Int) < (d.length : Int))) he.2.2.2 (fun hd0 => ?_) (fun hd0 => ?_)
  ·have hd0 := of_decide_eq_true hd0
   have hdne : ¬ d = [] := fun e => by rw [e] at hd0; exact absurd hd0 (by decide)
   refine Zad (Zag ?_)
   refine Zag ?_
   refine Zac (Zav (v := ptr bb 0) rfl rfl ?_)
   refine Zac (Zae (b := bb) (o := 0) rfl ZdY rfl ?_)
   refine Zac (Zae (b := bb) (o := 0 + 0) rfl Zej rfl ?_)
   refine Zac (Zah (b := bb) (o := 0 + 0 + 0) (r := pv) rfl h5.obj ZfT Zel rfl ?_)
   refine Zag ?_
   refine Zag ?_
   refine Zac (ZeV rfl hd5 rfl Zbw ?_)
   refine Zac (Zbj (vs := [ptr f0.b 0, vI d.length]) (cells := [ptr f0.b 0, vI d.length]) (by simp only [List.map_cons, List.map_nil, EV,Nat.reduceEqDiff,↓reduceIte,he]; try rfl) ZgX ZpM rfl ?_)
   refine Zac (Zq8 (vs := [.agg [ptr f0.b 0, vI d.length]]) (cells := [ptr f0.b 0, vI d.length]) (by simp only [List.map_cons, List.map_nil, EV,Nat.reduceEqDiff,↓reduceIte,he];try rfl) Zck Zb7 ZgX rfl (by omega) rfl rfl fun rb υ6 hN6 hX6 => ?_)
   have h6 := h5.ext hX6
   refine Zac ?_
   refine ZaZ (m := 1) (news := [ptr f0.b 0, vI d.length]) (r := .lst (some ⟨rb, 0, none⟩) 1 1 ([ptr f0.b 0, vI d.length] ++ [])) rfl rfl Zck Zb7 ZgX ZpN rfl (by omega) h6.pc (Zcv rfl (fun a ha => by
    simp only [List.mem_cons, List.not_mem_nil, or_false] at ha
    rcases ha with rfl | rfl <;> rfl) (fun q => by cases q)) (by unfold maxLen; omega) (by omega) fun pv' υ7 hv7 hB7 hn7 => ?_
   refine Zac (Zav (v := ptr bb 0) rfl rfl ?_)
   refine Zac (Zae (b := bb) (o := 0) rfl ZdY rfl ?_)
   refine Zac (Zae (b := bb) (o := 0 + 0) rfl Zej rfl ?_)
   refine Zac (ZaI (b := bb) (o := 0 + 0 + 0) (v := pv') rfl rfl (hB7.keep _ _ h6.pvB h6.obj) Zel hv7.oneV (Nat.zero_lt_succ _) fun υ8 hb8 k8 => ?_)
   refine Zaf ?_
   have hB8 : But (fun c => c = bb \/ hbk pv = some c) υ6 υ8 := (hB7.sub fun c hc => .inr hc).trans (k8.sub fun c hc => .inl hc)
   have hpc : pcC pcs ++ [ptr f0.b 0, vI d.length] = pcC (pcs ++ [(f0.b, d.length)]) := by rw [Zid]; rfl
   have hv8 : Hd υ8 145 2 pv' (pcs ++ [(f0.b, d.length)]).length (pcC (pcs ++ [(f0.b, d.length)])) := by
    rw [List.length_append, <- hpc]
    refine hv7.but k8 fun c hc hq => ?_
    obtain ⟨all, hall⟩ := hv7.blk hc
    exact ZcV hall (hB7.keep _ _ h6.pvB h6.obj) (by decide) hq
   have h8 := h6.setP hB8 hb8 hv8 fun p hp => by
    rcases List.mem_append.1 hp with hp | hp
    ·exact h6.inn p hp
    ·rw [List.mem_singleton.1 hp]
     exact ⟨_, List.mem_map.2 ⟨f0, hf0, rfl⟩, Zep f0⟩
   have hBS6 : But S σ υ6 := hBS5.trans hX6.but
   refine ⟨rfl, by simp only [EV,Nat.reduceEqDiff,↓reduceIte,he];try rfl, _, _, pv', h8, by rw [if_neg hdne], hBS6.ext2 (T := fun c => c = bb \/ hbk pv = some c) (fun c hc => ?_) hB8, fun c hc => .inl (.inl (hS13 c hc)), fun c hc => ?_, fun c hc => ?_⟩
   ·rcases hS5 c (h6.pvS hc) with q | q
    ·exact .inl q
    ·exact .inr q.1
   ·rcases hc with hc | hc
    ·exact hS5 c hc
    ·rcases hn7 c hc with q | q
     ·exact hS5 c (h6.pvS (.inr q))
     ·exact Zji hBS6 q
   ·rcases hc with hc | hc
    ·exact hB8.used _ (hX6.used _ (hSu5 c hc))
    ·exact hv8.used hc
  ·have hd0 := of_decide_eq_false hd0
   have hdn : d = [] := List.eq_nil_of_length_eq_zero (by omega)
   refine Zbm ?_
   exact ⟨rfl, by simp only [EV,Nat.reduceEqDiff,↓reduceIte,he];try rfl, _, pcs, pv, h5, by rw [if_pos hdn, List.append_nil], hBS5, fun c hc => .inl (hS13 c hc), hS5, hSu5⟩
 clear he e
 rintro e τ ⟨he, S', pcs', pv', h9, hpcs, g1, g2, g3, g4⟩
 repeat refine Zab ?_
 first|refine Zaa ?_|refine Zad ?_
 refine Zag ?_
 refine Zaf (Zap ?_)
 exact ZaD (hK0 hk hf τ S' _ pcs' pv' h9 g1 g2 g3 g4 ⟨fs1, f0, v', hor, hf0, hnm, rfl, hpcs⟩)
end
def Zqh (ns : List (List UInt8)) : List AV := ns.map fun s => .raw (sV s)
theorem ZoC (ns : List (List UInt8)) : (Zqh ns).length = ns.length := by simp [Zqh]
theorem ZkO {ns : List (List UInt8)} {i : Nat} (h : i < ns.length) : (Zqh ns)[i]? = some (.raw (sV ns[i])) := by
 unfold Zqh
 rw [List.getElem?_map, List.getElem?_eq_getElem h]
 rfl
def Zlx (σ : St) (v : AV) (ns : List (List UInt8)) : Prop := (∃ A c rest, v = .lst A ns.length c (Zqh ns ++ rest) /\ (A = none -> ns.length = 0)) \/ Hd σ 9 1 v ns.length (Zqh ns)
theorem Zlx.val {σ : St} {v : AV} {ns : List (List UInt8)} (h : Zlx σ v ns) : ∃ A c, v.val = .slice A ns.length c := by
 rcases h with ⟨A, c, rest, rfl, _⟩ | h
 ·exact ⟨A, c, rfl⟩
 ·obtain ⟨A, c, h1, _⟩ := h.val
  exact ⟨A, c, h1⟩
section
variable {ops : Array Oper} {env : Env} {σ τ : St} {K : Env -> St -> Prop}
abbrev fnG (g : FuncId) (fst caps : Array Value) : AV := .raw (.func (.func g) fst caps)
theorem ZrE {n d : Nat} {ty1 ty2 : TypeId} {pos1 pos2 : String} {af1 af2 : Array Edge} {x y : Operand} {v : AV} {ns : List (List UInt8)} {i : Nat} {l : List Oper} (hN : Zlx σ v ns) (hi : i < ns.length) (hx : ev env x = v) (hy : ev env y = vI i) (h : ∀ u, Zbz Tryz.prog ops l ((env.put (some n) u).put (some d) (.raw (sV ns[i]))) σ K) :
 Zbz Tryz.prog ops (⟨some n, .indexAddr 160 x y, ty1, pos1, af1, none⟩ :: ⟨some d, .load 9 (.tmp n), ty2, pos2, af2, none⟩ :: l) env σ K := by
 rcases hN with ⟨A, c, rest, rfl, hA⟩ | hN
 ·refine Zac (Zfm (k := .i64) (j := i) hx hy Zia Zo2 hi hA rfl fun ad => ?_)
  refine Zac (Zki (r := .raw (sV ns[i])) (by simp only [EV]; rfl) Zq9 Zo2 ?_ (h _))
  show ((Zqh ns ++ rest).drop (i * 1))[0]? = _
  rw [List.getElem?_drop, Nat.mul_one, Nat.add_zero, List.getElem?_append_left (by rw [ZoC]; exact hi), ZkO hi]
 ·refine Zac (Zb0 (k := .i64) (j := i) hx hy Zia Zo2 hN hi fun b hb => ?_)
  exact Zac (Zo7 (by simp only [EV]; rfl) hN hb hi (ZkO hi) Zq9 Zo2 (h _))
end
set_option maxHeartbeats 1000000 in
theorem Zqi {σ : St} {bb mb : Nat} {S : Nat -> Prop} {fs : List Fl} {pcs : List (Nat × Nat)} {size : Int} {pv v : AV} {ns : List (List UInt8)} {g : FuncId} {fst caps : Array Value} {K : AV -> St -> Prop} (I : Nat -> St -> Prop)
 (h : DAt σ bb S fs pcs size mb pv) (hN : Zlx σ v ns) (hnl : ns.length <= 1000000000) (h0 : I 0 σ)
 (hstep : ∀ i (hi : i < ns.length) υ, I i υ -> ∃ S fs pcs size mb pv, DAt υ bb S fs pcs size mb pv /\ Zlx υ v ns /\ (ZiY (ZcE fs) ns[i] = none -> K (vI 6) υ) /\ ∀ fb, ZiY (ZcE fs) ns[i] = some fb -> Zan Tryz.prog g (fst.toList.map .raw ++ [.raw (sV ns[i]), ptr fb 0] ++ caps.toList.map .raw) υ fun _ τ => I (i + 1) τ)
 (hend : ∀ υ, I ns.length υ -> K (vI 0) υ) : Zan Tryz.prog 123 [ptr bb 0, fnG g fst caps, v] σ K := by
 refine Zai Zam Tryz.func123 rfl rfl rfl (Nat.le_of_ble_eq_true rfl) ?_
 refine Zhx 0 1 2 (v0 := ptr bb 0) (v1 := fnG g fst caps) (v2 := v) rfl rfl rfl ?_
 intro e he
 repeat refine Zab ?_
 first|refine Zaa ?_|refine Zad ?_
 refine Zag ?_
 refine Zaf (kp3 0 1 2 fun e he => ?_)
 repeat refine Zab ?_
 first|refine Zaa ?_|refine Zad ?_
 refine Zag ?_
 refine Zao [ptr bb 0] ?_
 refine Zih h ?_
 refine ZcU ?_
 refine Zaf (kp4 0 1 2 12 fun e he => ?_)
 refine ZaC (t := false) he.2.2.2 (fun hf => by cases hf) (fun _ => ?_)
 refine ZaL ?_
 obtain ⟨A, c, hv⟩ := hN.val
 repeat refine Zab ?_
 first|refine Zaa ?_|refine Zad ?_
 refine Zag ?_
 refine Zac (Zo6 rfl hv rfl Zia ?_)
 refine Zag ?_
 refine Zaf (kp5 0 1 13 14 15 fun e he => ?_)
 refine ZaF (Za4 (fun μ env υ => ∃ i : Nat, μ = ns.length - i /\ i <= ns.length /\ (env 0 = ptr bb 0 /\ env 1 = fnG g fst caps /\ env 13 = v /\ env 14 = vI ns.length /\ env 15 = vI i) /\ I i υ) ⟨_, 0, rfl, Nat.zero_le _, he, h0⟩ ?_)
 clear he e h hN
 rintro _ e υ ⟨i, rfl, hi, he, hI⟩
 repeat refine Zab ?_
 first|refine Zaa ?_|refine Zad ?_
 refine Zcf i ns.length ?_
 refine Zaf (kp6 0 1 13 14 15 16 fun e he => ?_)
 refine ZaC (t := decide (i < ns.length)) he.2.2.2.2.2 (fun ht => ?_) (fun ht => ?_)
 ·have hlt : i < ns.length := of_decide_eq_true ht
  obtain ⟨S, fs, pcs, size, mb, pv, h, hN, hnone, hsome⟩ := hstep i hlt υ hI
  refine ZaL (ZaF ?_)
  repeat refine Zab ?_
  first|refine Zaa ?_|refine Zad ?_
  refine ZrE hN hlt he.2.2.1 he.2.2.2.2.1 fun u => ?_
  refine Zag ?_
  refine Zaf (kp6 0 1 8 13 14 15 fun e he => ?_)
  repeat refine Zab ?_
  first|refine Zaa ?_|refine Zad ?_
  refine Zag ?_
  refine Zac (Zav (v := ptr bb 0) rfl rfl ?_)
  refine Zac (Zae (b := bb) (o := 0) rfl ZdY rfl ?_)
  refine Zac (Zah (b := bb) (o := 0 + 1) (r := Zef mb) rfl h.obj ZfU ZfS rfl ?_)
  refine Zag ?_
  refine Zac (Zfs (k := ns[i]) (es := ZcE fs) (b := mb) rfl rfl h.map ZgY ZjJ Zic ?_)
  refine Zag ?_
  refine Zaf (kp7 0 1 8 9 13 14 15 fun e he => ?_)
  repeat refine Zab ?_
  first|refine Zaa ?_|refine Zad ?_
  refine Zag ?_
  cases hg : ZiY (ZcE fs) ns[i] with
  | none =>
   rw [hg] at he
   refine Zac (Zdw (p := none) ZgZ rfl rfl rfl ?_)
   refine Zaf ?_
   refine ZaC (t := true) rfl (fun _ => ?_) (fun hf => by cases hf)
   repeat refine Zab ?_
   first|refine Zaa ?_|refine Zad ?_
   refine Zag ?_
   refine Zaf (ZbB ?_)
   exact ZaD (hnone hg)
  | some fb =>
   rw [hg] at he
   refine Zac (Zdw (p := some ⟨fb, 0, none⟩) ZgZ rfl rfl rfl ?_)
   refine Zaf (kp8 0 1 8 9 13 14 15 26 fun e he => ?_)
   refine ZaC (t := false) he.2.2.2.2.2.2.2 (fun hf => by cases hf) (fun _ => ?_)
   refine ZaL ?_
   repeat refine Zab ?_
   first|refine Zaa ?_|refine Zad ?_
   refine Zag ?_
   refine Zag ?_
   refine Zag ?_
   refine Zac (Zmm (g := g) (fst := fst) (caps := caps) (vs := [.raw (sV ns[i]), ptr fb 0]) rfl (by simp only [List.map_cons, List.map_nil, EV,Nat.reduceEqDiff,↓reduceIte,he];try rfl) ?_)
   refine (hsome fb hg).mono fun a τ hI2 => ?_
   refine Zaf ?_
   show ZaA _ _ _ _ _ _
   refine kp5 0 1 13 14 15 ?_
   clear he e
   intro e he
   refine Zad (Zby i 1 ?_)
   refine Zag ?_
   refine Zaf ?_
   show ∃ n', n' < _ /\ _
   exact ⟨_, (by omega : ns.length - (i + 1) < ns.length - i), i + 1, rfl, hlt, ⟨by simp only [EV,Nat.reduceEqDiff,↓reduceIte,he];try rfl, by simp only [EV,Nat.reduceEqDiff,↓reduceIte,he];try rfl, by simp only [EV,Nat.reduceEqDiff,↓reduceIte,he];try rfl, by simp only [EV,Nat.reduceEqDiff,↓reduceIte,he];try rfl, by simp only [EV,Nat.reduceEqDiff,↓reduceIte,he];try rfl⟩, hI2⟩
 ·have hke : i = ns.length := by have := of_decide_eq_false ht; omega
  subst hke
  refine Zbu ?_
  show ZaA _ _ _ _ _ _
  repeat refine Zab ?_
  first|refine Zaa ?_|refine Zad ?_
  refine Zag ?_
  refine Zaf (Zap ?_)
  exact ZaD (hend υ hI)
section
variable {σ : St} {bb mb : Nat} {S : Nat -> Prop} {fs : List Fl} {pcs : List (Nat × Nat)} {size : Int} {pv : AV} {K : AV -> St -> Prop}
theorem Zqj (h : DAt σ bb S fs pcs size mb pv) {k : List UInt8} (hfl : ∀ f ∈ fs, f.d.length <= 1000000000)
 (hK1 : (∀ f ∈ fs, f.nm ≠ k) -> K (.tup [.lst none 0 0 [], vT false]) σ)
 (hK2 : ∀ f0 ∈ fs, f0.nm = k -> ∀ τ v, Hd τ 5 1 v f0.d.length (bys f0.d) -> Ext σ τ -> (∀ c, hbk v = some c -> Za9 σ c) -> K (.tup [v, vT true]) τ) : Zan Tryz.prog 80 [ptr bb 0, .raw (sV k)] σ K := by
 refine Zai Zam Tryz.func80 rfl rfl rfl (Nat.le_of_ble_eq_true rfl) ?_
 refine ZbL 0 1 (v0 := ptr bb 0) (v1 := .raw (sV k)) rfl rfl ?_
 intro e he
 repeat refine Zab ?_
 first|refine Zaa ?_|refine Zad ?_
 refine Zag ?_
 refine Zag ?_
 refine Zaf (kp4 0 1 4 5 fun e he => ?_)
 repeat refine Zab ?_
 first|refine Zaa ?_|refine Zad ?_
 refine Zag ?_
 refine Zao [ptr bb 0] ?_
 refine Zih h ?_
 refine ZcU ?_
 refine Zag ?_
 refine Zau ?_
 refine Zcb rfl he.1 ?_
 refine Zau ?_
 refine Zav (v := ptr bb 0) rfl rfl ?_
 refine Zau ?_
 refine Zae (b := bb) (o := 0) rfl ZdY rfl ?_
 refine Zau ?_
 refine Zah (b := bb) (o := 0 + 1) (r := Zef mb) rfl h.obj ZfU ZfS rfl ?_
 refine Zau ?_
 refine Zcb rfl he.2.1 ?_
 refine Zau ?_
 refine Zfs (k := k) (es := ZcE fs) (b := mb) rfl rfl h.map ZgY ZjJ Zic ?_
 cases hg : ZiY (ZcE fs) k with
 | none =>
  refine Zau ?_
  refine Zdw (p := none) ZgZ rfl rfl rfl ?_
  refine Zac (Zak (v := vT true) rfl rfl ?_)
  refine Zaf (kp3 0 1 17 fun e he => ?_)
  refine ZaC (t := true) he.2.2 (fun _ => ?_) (fun hf => by cases hf)
  repeat refine Zab ?_
  first|refine Zaa ?_|refine Zad ?_
  refine Zag ?_
  refine Zag ?_
  refine Zaf (ZbB ?_)
  show ∃ r, ZaM _ _ _ _ r /\ _
  exact Zkj rfl (ZaO rfl) (ZaO rfl) (hK1 (Zft.1 hg))
 | some fb =>
  obtain ⟨f0, hf0, hnm, rfl⟩ := Zgt hg
  obtain ⟨p1, p2, p3⟩ := h.file f0 hf0
  refine Zau ?_
  refine Zdw (p := some ⟨f0.b, 0, none⟩) ZgZ rfl rfl rfl ?_
  refine Zac (Zak (v := vT false) rfl rfl ?_)
  refine Zaf (kp3 0 1 17 fun e he => ?_)
  refine ZaC (t := false) he.2.2 (fun hf => by cases hf) (fun _ => ?_)
  refine ZaL ?_
  repeat refine Zab ?_
  first|refine Zaa ?_|refine Zad ?_
  refine Zag ?_
  refine Zac (Zav (v := ptr bb 0) rfl rfl ?_)
  refine Zac (Zae (b := bb) (o := 0) rfl ZdY rfl ?_)
  refine Zac (Zah (b := bb) (o := 0 + 1) (r := Zef mb) rfl h.obj ZfU ZfS rfl ?_)
  refine Zag ?_
  refine Zac (Zfs (k := k) (es := ZcE fs) (b := mb) rfl rfl h.map ZgY ZjJ Zic ?_)
  rw [hg]
  refine Zac (Zav (v := ptr f0.b 0) rfl rfl ?_)
  refine Zac (Zae (b := f0.b) (o := 0) rfl Zek rfl ?_)
  refine Zac (Zah (b := f0.b) (o := 0 + 0) (r := f0.v) rfl p1 fa5 Zb6 rfl ?_)
  refine Zao [f0.v] ?_
  refine Zi7 p3 (hfl f0 hf0) _ fun v τ q1 q2 q3 => ?_
  refine Zag ?_
  refine Zag ?_
  refine Zaf (Zap ?_)
  show ∃ r, ZaM _ _ _ _ r /\ _
  exact Zkj rfl (ZaO rfl) (ZaO rfl) (hK2 f0 hf0 hnm τ v q1 q2 q3)
end
theorem Zm8 : Program.underlying Tryz.prog 245 = some (.int .u64) := by kernel_rfl
def mkI (k i : Nat) : Int := 1000003 * ((k : Int) + 7) + i
def mkB (k i : Nat) : Int := IntKind.u8.wrap ((IntKind.u64.wrap (IntKind.u64.wrap (mkI k i) * 11400714819323198485)).fdiv (2 ^ min 56 64))
section
variable {σ : St} {K : AV -> St -> Prop}
theorem ZjV {k i : Nat} (hk : k <= 2) (hi : i <= 100000000) (hK : K (vI (mkI k i)) σ) : Zan Tryz.prog 160 [vI k, vI i] σ K := by
 refine Zai Zam Tryz.func160 rfl rfl rfl (Nat.le_of_ble_eq_true rfl) ?_
 refine ZbL 0 1 (v0 := vI k) (v1 := vI i) rfl rfl ?_
 intro e he
 repeat refine Zab ?_
 first|refine Zaa ?_|refine Zad ?_
 refine Zag ?_
 refine Zaf (kp2 0 1 fun e he => ?_)
 repeat refine Zab ?_
 first|refine Zaa ?_|refine Zad ?_
 refine Zag ?_
 refine Zby k 7 ?_
 refine Zac (ZnF (k := .i64) (a := 1000003) (b := ((k + 7 : Nat) : Int)) (r := 1000003 * ((k : Int) + 7)) rfl rfl (by rw [IntWalk.i64_in _ (by omega)]; omega) ?_)
 refine Zag ?_
 refine Zac (Zq2 (k := .i64) (a := 1000003 * ((k : Int) + 7)) (b := (i : Int)) (r := mkI k i) rfl rfl (by unfold mkI; exact IntWalk.i64_in _ (by omega)) ?_)
 refine Zag ?_
 refine Zaf (Zap ?_)
 exact ZaD (hK)
theorem ZkP {k i : Nat} (hk : k <= 2) (hi : i <= 100000000) (hK : K (.raw (.int .u8 (mkB k i))) σ) : Zan Tryz.prog 106 [vI k, vI i] σ K := by
 refine Zai Zam Tryz.func106 rfl rfl rfl (Nat.le_of_ble_eq_true rfl) ?_
 refine ZbL 0 1 (v0 := vI k) (v1 := vI i) rfl rfl ?_
 intro e he
 repeat refine Zab ?_
 first|refine Zaa ?_|refine Zad ?_
 refine Zag ?_
 refine Zaf (kp2 0 1 fun e he => ?_)
 repeat refine Zab ?_
 first|refine Zaa ?_|refine Zad ?_
 refine Zag ?_
 refine Zag ?_
 refine Zao [vI k, vI i] ?_
 refine ZjV hk hi ?_
 refine Zac (ZbF (a := mkI k i) (r := IntKind.u64.wrap (mkI k i)) fa1 Zm8 rfl rfl ?_)
 refine Zac (ZnF (k := .u64) (a := IntKind.u64.wrap (mkI k i)) (b := 11400714819323198485) rfl rfl rfl ?_)
 refine Zac (ZjL (k := .u64) (k' := .u64) (a := IntKind.u64.wrap (IntKind.u64.wrap (mkI k i) * 11400714819323198485)) (b := 56) rfl rfl (by omega) ?_)
 refine Zac (ZbF (k := .u64) (a := (IntKind.u64.wrap (IntKind.u64.wrap (mkI k i) * 11400714819323198485)).fdiv (2 ^ min 56 64)) (r := mkB k i) Zm8 Zfw rfl rfl ?_)
 refine Zag ?_
 refine Zaf (Zap ?_)
 exact ZaD (hK)
theorem ZkQ {P : Program} {ops : Array Oper} {env : Env} {σ : St} {K : Env -> St -> Prop} {d : Option Nat} {ty t : TypeId} {pos : String} {af : Array Edge} {x y : Operand} {b n c u e sz : Nat} (hx : ev env x = hdr b n c) (hy : ev env y = vI u) (ht : ZaW P t = some e) (hs : ZaU P e = some sz) (hu : u <= c) (h : K (env.put d (hdr b u c)) σ) : aOp P ops ⟨d, .slice t x none (some y) none, ty, pos, af, none⟩ env σ K := by
 refine Zfu (A := some ⟨b, 0, none⟩) (n := n) (c := c) (l := 0) (u := u) (ix := [vI u]) hx (by simp [hy]) ht hs (ZlZ rfl) (Nat.zero_le _) hu ?_
 have e1 : (if c = 0 then (some ⟨b, 0, none⟩ : Option Addr) else (some (⟨b, 0, none⟩ : Addr)).map (·.add (0 * sz))) = some ⟨b, 0, none⟩ := by
  split
  ·rfl
  ·simp [Nat.zero_mul, Zci]
 rw [e1]
 exact h
def ZoD (m : Nat) : List AV := (List.range m).map fun i => .raw (.int .u8 (mkB 1 i))
theorem Zm9 (m : Nat) : ZoD (m + 1) = ZoD m ++ [.raw (.int .u8 (mkB 1 m))] := by simp [ZoD, List.range_succ]
def ZlL (σ : St) (e b n : Nat) (v : AV) (cells marks : List AV) : Prop := ∃ c, v = hdr b n c /\ Hd σ e 1 (hdr b (n + 12) c) (n + 12) (cells ++ marks)
theorem ZlL.bk {e b n : Nat} {v : AV} {cells marks : List AV} (h : ZlL σ e b n v cells marks) : hbk v = some b := by
 obtain ⟨c, rfl, h⟩ := h
 rcases h.2.2 with ⟨_, h0⟩ | ⟨b', c', all, h0, h1, _⟩
 ·omega
 ·unfold hdr at h1
  injection h1 with h1
  injection h1 with h2 h3 h4
  subst h4
  exact ZcD h0
theorem ZlL.hd {e b n : Nat} {v : AV} {cells marks : List AV} (h : ZlL σ e b n v cells marks) (hl : cells.length = n) : Hd σ e 1 v n cells := by
 have hb := h.bk
 obtain ⟨c, rfl, h⟩ := h
 have hc : 0 < c := by
  rcases Nat.eq_zero_or_pos c with q | q
  ·subst q; cases hb
  ·exact q
 obtain ⟨c', all, q0, q1, q2, q3, q4, q5, q6⟩ := h.at_ (ZcD hc)
 unfold hdr at q0
 injection q0 with q0
 injection q0 with _ _ q0
 subst q0
 refine ⟨by rw [hl, Nat.mul_one], fun a ha => h.one a (List.mem_append_left _ ha), .inr ⟨b, c, all, hc, rfl, q1, q2, q3, ?_, by omega, q6⟩⟩
 have : all.take (n * 1) = (all.take ((n + 12) * 1)).take (n * 1) := by rw [List.take_take]; congr 1; omega
 rw [this, q4, <- hl, Nat.mul_one, List.take_left]
theorem ZlL.but {U : Nat -> Prop} {τ : St} {e b n : Nat} {v : AV} {cells marks : List AV} (h : ZlL σ e b n v cells marks) (k : But U σ τ) (hU : ¬ U b) : ZlL τ e b n v cells marks := by
 obtain ⟨c, rfl, h⟩ := h
 refine ⟨c, rfl, h.but k fun b' hb' => ?_⟩
 rw [<- Zc8 hb']
 exact hU
theorem ZlL.ext {τ : St} {e b n : Nat} {v : AV} {cells marks : List AV} (h : ZlL σ e b n v cells marks) (k : Ext σ τ) : ZlL τ e b n v cells marks := h.but (U := fun _ => False) k.but id
abbrev Zly (σ : St) (b : Nat) (v : AV) (d : List UInt8) : Prop := ZlL σ 5 b d.length v (bys d) (ZoD 12)
theorem ZoE {v : AV} {d : List UInt8} (hv : Za5 σ v d) (hl : d.length <= 1000000) (hK : ∀ b u τ, Zly τ b u d -> Ext σ τ -> Za9 σ b -> K u τ) : Zan Tryz.prog 52 [v] σ K := by
 have hL := hv.ls
 refine Zai Zam Tryz.func52 rfl rfl rfl (Nat.le_of_ble_eq_true rfl) ?_
 refine Zbf 0 (v0 := v) rfl ?_
 intro e he
 repeat refine Zab ?_
 first|refine Zaa ?_|refine Zad ?_
 refine Zag ?_
 refine Zaf (kp1 0 fun e he => ?_)
 repeat refine Zab ?_
 first|refine Zaa ?_|refine Zad ?_
 refine Zag ?_
 refine Zac (ZaP rfl hL rfl Zbw ?_)
 refine Zby d.length 12 ?_
 refine Zac (Zmn (m := d.length + 12) rfl rfl Zbw Zcn ZeO ZgQ rfl (by omega) (by omega) (by omega) (by omega) fun b0 υ1 h1 hX1 hn1 => ?_)
 refine Zag ?_
 refine Zaf (kp2 0 3 fun e he => ?_)
 repeat refine Zab ?_
 first|refine Zaa ?_|refine Zad ?_
 refine Zag ?_
 refine Zag ?_
 refine Zac (ZaZ (m := d.length) (news := bys d) (by simp only [EV,Nat.reduceEqDiff,↓reduceIte,he];try rfl) (by simp only [EV,Nat.reduceEqDiff,↓reduceIte,he];try rfl) Zbw Zcn ZeO ZgQ rfl (by omega) h1 (hL.ext hX1).src (by unfold maxLen; omega) (by omega) fun v2 υ2 hv2 hB2 hn2 => ?_)
 rw [Nat.zero_add, List.nil_append] at hv2
 have hX2 : Ext σ υ2 := But.ext hX1 (fun c hc => by rw [<- Zc8 hc]; exact hn1.1) hB2
 have hN2 : ∀ c, hbk v2 = some c -> Za9 σ c := fun c hc => (hn2 c hc).elim (fun q => by rw [<- Zc8 q]; exact hn1) fun q => Za9.of q hX1
 refine Zag ?_
 refine Zaf (kp2 0 3 fun e he => ?_)
 repeat refine Zab ?_
 first|refine Zaa ?_|refine Zad ?_
 refine Zag ?_
 refine Zaf (kp3 0 3 4 fun e he => ?_)
 refine ZaF (Za4 (fun μ env υ => ∃ (i : Nat) (u : AV), μ = 12 - i /\ i <= 12 /\ (env 0 = v /\ env 3 = u /\ env 4 = vI i) /\ Hd υ 5 1 u (d.length + i) (bys d ++ ZoD i) /\ Ext σ υ /\ ∀ c, hbk u = some c -> Za9 σ c) ⟨_, 0, v2, rfl, Nat.zero_le _, he, by rw [show ZoD 0 = [] from rfl, List.append_nil]; exact hv2, hX2, hN2⟩ ?_)
 clear he e hv2 hX2 hN2
 rintro _ e υ ⟨i, u, rfl, hi, he, hu, hX, hN⟩
 repeat refine Zab ?_
 first|refine Zaa ?_|refine Zad ?_
 refine Zag ?_
 refine Zcf i 12 ?_
 refine Zaf (kp4 0 3 4 13 fun e he => ?_)
 refine ZaC (t := decide (i < 12)) he.2.2.2 (fun ht => ?_) (fun ht => ?_)
 ·have hlt : i < 12 := of_decide_eq_true ht
  refine ZaL (ZaF ?_)
  repeat refine Zab ?_
  first|refine Zaa ?_|refine Zad ?_
  refine Zag ?_
  refine Zag ?_
  refine Zao [vI (1 : Nat), vI i] ?_
  refine ZkP (by omega) (by omega) ?_
  refine Zac (ZaN (vs := [.raw (.int .u8 (mkB 1 i))]) (cells := [.raw (.int .u8 (mkB 1 i))]) (by simp only [List.map_cons, List.map_nil, EV,Nat.reduceEqDiff,↓reduceIte,he];try rfl) Zbw Zcn ZeO rfl (by decide) rfl fun b3 hu3 hb3 => ?_)
  have hX3 := Ext.put (σ := υ) (.tail 5 (1 * 1) (1 * 1)) hb3
  refine Zac (ZaZ (m := 1) (news := [.raw (.int .u8 (mkB 1 i))]) (by simp only [EV,Nat.reduceEqDiff,↓reduceIte,he];try rfl) (by simp only [EV,Nat.reduceEqDiff,↓reduceIte,he];try rfl) Zbw Zcn ZeO ZgQ rfl (by omega) (hu.ext hX3) (Zcv (rest := []) rfl (fun a ha => by rw [List.mem_singleton.1 ha]; rfl) (fun q => by cases q)) (by unfold maxLen; omega) (by omega) fun v4 υ4 hv4 hB4 hn4 => ?_)
  refine Zag ?_
  refine Zaf (kp3 0 3 4 fun e he => ?_)
  repeat refine Zab ?_
  first|refine Zaa ?_|refine Zad ?_
  refine Zag ?_
  refine Zby i 1 ?_
  refine Zag ?_
  refine Zaf ?_
  show ∃ n', n' < _ /\ _
  refine ⟨_, (by omega : 12 - (i + 1) < 12 - i), i + 1, v4, rfl, hlt, ⟨by simp only [EV,Nat.reduceEqDiff,↓reduceIte,he];try rfl, by simp only [EV,Nat.reduceEqDiff,↓reduceIte,he];try rfl, by simp only [EV,Nat.reduceEqDiff,↓reduceIte,he];try rfl⟩, ?_, But.ext (hX.trans hX3) (fun c hc => (hN c hc).1) hB4, fun c hc => (hn4 c hc).elim (fun q => hN c q) fun q => Za9.of q (hX.trans hX3)⟩
  rw [Zm9, <- List.append_assoc]
  exact hv4
 ·have hi12 : i = 12 := by have := of_decide_eq_false ht; omega
  subst hi12
  refine Zbu ?_
  show ZaA _ _ _ _ _ _
  rcases hu.2.2 with ⟨_, h0⟩ | ⟨b, c, all, hc, rfl, g1, g2, g3, g4, g5, g6⟩
  ·omega
  repeat refine Zab ?_
  first|refine Zaa ?_|refine Zad ?_
  refine Zag ?_
  refine Zag ?_
  refine Zac (ZaP rfl (hL.ext hX) rfl Zbw ?_)
  refine Zac (ZkQ (b := b) (n := d.length + 12) (c := c) (u := d.length) rfl rfl Zbw Zcn (by omega) ?_)
  refine Zag ?_
  refine Zaf (Zap ?_)
  exact ZaD (hK b _ _ ⟨c, rfl, hu⟩ hX (hN b (ZcD hc)))
end
section
variable {σ τ : St} {K : AV -> St -> Prop}
theorem Zlz {d : List UInt8} {i : Nat} (h1 : d.length <= i) (h2 : i < d.length + 12) : (bys d ++ ZoD 12)[i]? = some (.raw (.int .u8 (mkB 1 (i - d.length)))) := by
 rw [List.getElem?_append_right (by rw [Zb1]; exact h1), Zb1]
 unfold ZoD
 rw [List.getElem?_map, List.getElem?_range (by omega)]
 rfl
theorem ZoF {b : Nat} {u v : AV} {d : List UInt8} (hu : Zly σ b u d) (hv : Za5 σ v d) (hl : d.length <= 1000000) (hK : K (vT true) σ) : Zan Tryz.prog 77 [u, v] σ K := by
 have g1 := Ls.of (hu.hd (Zb1 _))
 have g2 := hv.ls
 obtain ⟨c, rfl, hA⟩ := hu
 have hAl := Ls.of hA
 have hc : d.length + 12 <= c := by
  rcases hA.2.2 with ⟨_, h0⟩ | ⟨b', c', all, h0, h1, _, _, _, _, h2, _⟩
  ·omega
  ·unfold hdr at h1
   injection h1 with h1
   injection h1 with _ _ h4
   omega
 refine Zai Zam Tryz.func77 rfl rfl rfl (Nat.le_of_ble_eq_true rfl) ?_
 refine ZbL 0 1 (v0 := hdr b d.length c) (v1 := v) rfl rfl ?_
 intro e he
 repeat refine Zab ?_
 first|refine Zaa ?_|refine Zad ?_
 refine Zag ?_
 refine Zaf (kp2 0 1 fun e he => ?_)
 repeat refine Zab ?_
 first|refine Zaa ?_|refine Zad ?_
 refine Zag ?_
 refine Zac (ZaP rfl g1 rfl Zbw ?_)
 refine Zag ?_
 refine Zac (ZaP rfl g2 rfl Zbw ?_)
 refine Zac (Zdo (k := .i64) (a := (d.length : Int)) (b := (d.length : Int)) rfl rfl ?_)
 rw [decide_eq_false (by simp : ¬ (d.length : Int) ≠ (d.length : Int))]
 refine Zaf (kp3 0 1 11 fun e he => ?_)
 refine ZaC (t := false) he.2.2 (fun hf => by cases hf) (fun _ => ?_)
 refine ZaL ?_
 repeat refine Zab ?_
 first|refine Zaa ?_|refine Zad ?_
 refine Zag ?_
 refine Zag ?_
 refine Zac (ZaP rfl g2 rfl Zbw ?_)
 refine Zby d.length 12 ?_
 refine Zac (ZkQ (b := b) (n := d.length) (c := c) (u := d.length + 12) rfl rfl Zbw Zcn hc ?_)
 refine Zag ?_
 refine Zaf (kp2 1 5 fun e he => ?_)
 repeat refine Zab ?_
 first|refine Zaa ?_|refine Zad ?_
 refine Zag ?_
 refine Zaf (kp3 1 5 6 fun e he => ?_)
 refine ZaF (Za4 (fun μ env υ => ∃ i : Nat, μ = d.length + 12 - i /\ i <= d.length + 12 /\ (env 1 = v /\ env 5 = hdr b (d.length + 12) c /\ env 6 = vI i) /\ σ = υ) ⟨_, 0, rfl, Nat.zero_le _, he, rfl⟩ ?_)
 clear he e
 rintro _ e _ ⟨i, rfl, hi, he, rfl⟩
 repeat refine Zab ?_
 first|refine Zaa ?_|refine Zad ?_
 refine Zag ?_
 refine Zag ?_
 refine Zac (ZaP rfl hAl rfl Zbw ?_)
 refine Zcf i (d.length + 12) ?_
 refine Zaf (kp4 1 5 6 20 fun e he => ?_)
 refine ZaC (t := decide (i < d.length + 12)) he.2.2.2 (fun ht => ?_) (fun ht => ?_)
 ·have hlt : i < d.length + 12 := of_decide_eq_true ht
  refine ZaL (ZaF (Zce (fun env υ => (env 1 = v /\ env 5 = hdr b (d.length + 12) c /\ env 6 = vI i /\ env 57 = vT false) /\ σ = υ) ?_ ?_))
  ·refine Zda ?_
   refine ⟨[0, 1, 2, 3, 4, 5, 6, 7, 9, 10, 11, 8, 12, 13, 14, 15, 16, 17, 18, 19, 20, 21, 22, 23, 24, 26, 27, 28, 29, 25, 30, 31, 32, 33, 34], [[], [], [1], [0, 1, 2], [0, 1, 2, 3], [0, 1, 2, 3, 4], [0, 1, 2, 3, 4], [0, 1, 2, 3, 4, 5, 6], [0, 1, 2, 3, 4, 5, 6, 7], [0, 1, 2, 3, 4], [0, 1, 2, 3, 4], [0, 1, 2, 3, 4, 9, 10], [0, 1, 2, 3, 4, 9, 10, 11], [0, 1, 2, 3, 4, 5, 6, 7, 8, 9, 10, 11, 12], [0, 1, 2, 3, 4, 5, 6, 7, 8, 9, 10, 11, 12, 13], [0, 1, 2, 3, 4, 5, 6, 7, 8, 9, 10, 11, 12, 13, 14], [0, 1, 2, 3, 4, 5, 6, 7, 8, 9, 10, 11, 12, 13, 14, 15], [0, 1, 2, 3, 4, 5, 6, 7, 8, 9, 10, 11, 12, 13, 14, 15, 16], [0, 1, 2, 3, 4, 5, 6, 7, 8, 9, 10, 11, 12, 13, 14, 15, 16], [0, 1, 2, 3, 4, 5, 6, 7, 8, 9, 10, 11, 12, 13, 14, 15, 16, 18], [0, 1, 2, 3, 4, 5, 6, 7, 8, 9, 10, 11, 12, 13, 14, 15, 16, 17, 18, 19], [0, 1, 2, 3, 4, 5, 6, 7, 8, 9, 10, 11, 12, 13, 14, 15, 16, 17, 18, 19, 20], [0, 1, 2, 3, 4, 5, 6, 7, 8, 9, 10, 11, 12, 13, 14, 15, 16, 17, 18, 19, 20, 21], [0, 1, 2, 3, 4, 5, 6, 7, 8, 9, 10, 11, 12, 13, 14, 15, 16, 17, 18, 19, 20, 21], [0, 1, 2, 3, 4, 5, 6, 7, 8, 9, 10, 11, 12, 13, 14, 15, 16, 17, 18, 19, 20, 21, 22, 23], [0, 1, 2, 3, 4, 5, 6, 7, 8, 9, 10, 11, 12, 13, 14, 15, 16, 17, 18, 19, 20, 21, 22, 23, 24], [0, 1, 2, 3, 4, 5, 6, 7, 8, 9, 10, 11, 12, 13, 14, 15, 16, 17, 18, 19, 20, 21], [0, 1, 2, 3, 4, 5, 6, 7, 8, 9, 10, 11, 12, 13, 14, 15, 16, 17, 18, 19, 20, 21], [0, 1, 2, 3, 4, 5, 6, 7, 8, 9, 10, 11, 12, 13, 14, 15, 16, 17, 18, 19, 20, 21, 27], [0, 1, 2, 3, 4, 5, 6, 7, 8, 9, 10, 11, 12, 13, 14, 15, 16, 17, 18, 19, 20, 21, 26, 27, 28], [0, 1, 2, 3, 4, 5, 6, 7, 8, 9, 10, 11, 12, 13, 14, 15, 16, 17, 18, 19, 20, 21, 26, 27, 28, 29], [0, 1, 2, 3, 4, 5, 6, 7, 8, 9, 10, 11, 12, 13, 14, 15, 16, 17, 18, 19, 20, 21, 22, 23, 24, 25, 26, 27, 28, 29, 30], [0, 1, 2, 3, 4, 5, 6, 7, 8, 9, 10, 11, 12, 13, 14, 15, 16, 17, 18, 19, 20, 21, 22, 23, 24, 25, 26, 27, 28, 29, 30, 31], [0, 1, 2, 3, 4, 5, 6, 7, 8, 9, 10, 11, 12, 13, 14, 15, 16, 17, 18, 19, 20, 21, 22, 23, 24, 25, 26, 27, 28, 29, 30, 31, 32], [0, 1, 2, 3, 4, 5, 6, 7, 8, 9, 10, 11, 12, 13, 14, 15, 16, 17, 18, 19, 20, 21, 22, 23, 24, 25, 26, 27, 28, 29, 30, 31, 32, 33]], fun _ => True, [25], [30], [], by kernel_rfl, ?_⟩
   refine Zax ?_
   refine Zax ?_
   refine Zas ?_
   refine ZaP rfl g2 rfl Zbw ?_
   refine Zaz ?_
   refine Zas ?_
   refine ZiX i d.length rfl rfl ?_
   refine Zaz ?_
   refine Zax ?_
   by_cases hid : i < d.length
   ·have hai : (bys d ++ ZoD 12)[i]? = some (.raw (.int .u8 (d[i].toNat : Int))) := by
     rw [List.getElem?_append_left (by rw [Zb1]; exact hid)]
     exact Ze4 hid
    rw [decide_eq_true hid]
    refine Zax ?_
    refine Zax ?_
    refine Zas ?_
    refine Zcp hAl hlt hai rfl rfl Zbw Zcn Znz fun q1 hq1 => ?_
    refine Zaz ?_
    refine Zax ?_
    refine Zax ?_
    refine Zas ?_
    refine Zcp g2 hid (Ze4 hid) rfl rfl Zbw Zcn Znz fun q2 hq2 => ?_
    refine Zaz ?_
    refine Zas ?_
    refine ZbV rfl hq1 ?_
    refine Zaz ?_
    refine Zas ?_
    refine ZbV rfl hq2 ?_
    refine Zaz ?_
    refine Zas ?_
    refine ZbQ (k := .u8) (a := (d[i].toNat : Int)) (b := (d[i].toNat : Int)) rfl rfl ?_
    rw [decide_eq_true rfl]
    refine Zaz ?_
    refine Zas ?_
    with_reducible apply ZcR
    case hx => simp only [EV,Nat.reduceEqDiff,↓reduceIte,he];try rfl
    refine Zaz ?_
    refine Zas ?_
    refine Zaj (v := vT false) rfl rfl ?_
    refine Zaz ?_
    refine Zax ?_
    refine Zax ?_
    refine Zax ?_
    refine Zas ?_
    refine ZaP rfl g2 rfl Zbw ?_
    refine Zaz ?_
    refine Zas ?_
    refine ZeN (k := .i64) (a := (i : Int)) (b := (d.length : Int)) rfl rfl ?_
    rw [decide_eq_false (by omega : ¬ (d.length : Int) <= (i : Int))]
    refine Zaz ?_
    refine Zax ?_
    refine Zaq ?_
    refine Zaq ?_
    refine Zaq ?_
    refine Zaq ?_
    refine Zaq ?_
    refine Zaq ?_
    refine Zaq ?_
    refine Zaq ?_
    refine Zaq ?_
    refine Zaq ?_
    refine Zaq ?_
    refine Zas ?_
    refine Zak (v := vT false) rfl rfl ?_
    refine Zaz ?_
    refine Zas ?_
    refine Zak (v := vT false) rfl rfl ?_
    refine Zaz ?_
    refine ZbI ?_
    exact ⟨rfl, ⟨by simp only [EV,Nat.reduceEqDiff,↓reduceIte,he];try rfl, by simp only [EV,Nat.reduceEqDiff,↓reduceIte,he];try rfl, by simp only [EV,Nat.reduceEqDiff,↓reduceIte,he];try rfl, by simp only [EV,Nat.reduceEqDiff,↓reduceIte,he];try rfl⟩, rfl⟩
   ·rw [decide_eq_false hid]
    refine Zaq ?_
    refine Zaq ?_
    refine Zaq ?_
    refine Zaq ?_
    refine Zaq ?_
    refine Zaq ?_
    refine Zaq ?_
    refine Zaq ?_
    refine Zaq ?_
    refine Zaq ?_
    refine Zas ?_
    refine Zak (v := vT false) rfl rfl ?_
    refine Zaz ?_
    refine Zax ?_
    refine Zax ?_
    refine Zax ?_
    refine Zas ?_
    refine ZaP rfl g2 rfl Zbw ?_
    refine Zaz ?_
    refine Zas ?_
    refine ZeN (k := .i64) (a := (i : Int)) (b := (d.length : Int)) rfl rfl ?_
    rw [decide_eq_true (by omega : (d.length : Int) <= (i : Int))]
    refine Zaz ?_
    refine Zax ?_
    refine Zax ?_
    refine Zax ?_
    refine Zas ?_
    refine Zcp hAl hlt (Zlz (by omega) hlt) rfl rfl Zbw Zcn Znz fun q1 hq1 => ?_
    refine Zaz ?_
    refine Zax ?_
    refine Zax ?_
    refine Zas ?_
    refine ZaP rfl g2 rfl Zbw ?_
    refine Zaz ?_
    refine Zas ?_
    refine ZcW (i : Int) (d.length : Int) rfl rfl (by omega) (by omega) ?_
    rw [show (i : Int) - (d.length : Int) = ((i - d.length : Nat) : Int) by omega]
    refine Zaz ?_
    refine Zas ?_
    refine ZbV rfl hq1 ?_
    refine Zaz ?_
    refine Zas ?_
    refine Zay (vs := [vI (1 : Nat), vI ((i - d.length : Nat) : Int)]) (by simp only [List.map_cons, List.map_nil, EV,Nat.reduceEqDiff,↓reduceIte,he];try rfl) ?_
    refine ZkP (by omega) (by omega) ?_
    refine Zaz ?_
    refine Zas ?_
    refine ZbQ (k := .u8) (a := mkB 1 (i - d.length)) (b := mkB 1 (i - d.length)) rfl rfl ?_
    rw [decide_eq_true rfl]
    refine Zaz ?_
    refine Zas ?_
    with_reducible apply ZcR
    case hx => simp only [EV,Nat.reduceEqDiff,↓reduceIte,he];try rfl
    refine Zaz ?_
    refine Zas ?_
    refine Zaj (v := vT false) rfl rfl ?_
    refine Zaz ?_
    refine Zas ?_
    refine Zak (v := vT false) rfl rfl ?_
    refine Zaz ?_
    refine ZbI ?_
    exact ⟨rfl, ⟨by simp only [EV,Nat.reduceEqDiff,↓reduceIte,he];try rfl, by simp only [EV,Nat.reduceEqDiff,↓reduceIte,he];try rfl, by simp only [EV,Nat.reduceEqDiff,↓reduceIte,he];try rfl, by simp only [EV,Nat.reduceEqDiff,↓reduceIte,he];try rfl⟩, rfl⟩
  clear he e
  rintro e _ ⟨he, rfl⟩
  refine ZaQ (t := false) he.2.2.2 (fun hf => by cases hf) (fun _ => ?_)
  refine Zbm ?_
  show ZaA _ _ _ _ _ _
  refine Zad (Zag ?_)
  refine Zby i 1 ?_
  refine Zag ?_
  refine Zaf ?_
  show ∃ n', n' < _ /\ _
  exact ⟨_, (by omega : d.length + 12 - (i + 1) < d.length + 12 - i), i + 1, rfl, hlt, ⟨by simp only [EV,Nat.reduceEqDiff,↓reduceIte,he];try rfl, by simp only [EV,Nat.reduceEqDiff,↓reduceIte,he];try rfl, by simp only [EV,Nat.reduceEqDiff,↓reduceIte,he];try rfl⟩, rfl⟩
 ·refine Zbu ?_
  show ZaA _ _ _ _ _ _
  repeat refine Zab ?_
  first|refine Zaa ?_|refine Zad ?_
  refine Zag ?_
  refine Zaf (Zap ?_)
  exact ZaD (hK)
end
def ZoG (m : Nat) : List AV := (List.range m).map fun i => vI (mkI 1 i)
theorem Zna (m : Nat) : ZoG (m + 1) = ZoG m ++ [vI (mkI 1 m)] := by simp [ZoG, List.range_succ]
abbrev Zqk (σ : St) (b : Nat) (v : AV) (d : List Int) : Prop := ZlL σ 3 b d.length v (vIs d) (ZoG 12)
section
variable {σ : St} {K : AV -> St -> Prop}
theorem ZgA {v : AV} {d : List Int} (hL : Ls σ 3 v d.length (vIs d)) (hl : d.length <= 1000000) (hK : ∀ b u τ, Zqk τ b u d -> Ext σ τ -> Za9 σ b -> K u τ) : Zan Tryz.prog 107 [v] σ K := by
 refine Zai Zam Tryz.func107 rfl rfl rfl (Nat.le_of_ble_eq_true rfl) ?_
 refine Zbf 0 (v0 := v) rfl ?_
 intro e he
 repeat refine Zab ?_
 first|refine Zaa ?_|refine Zad ?_
 refine Zag ?_
 refine Zaf (kp1 0 fun e he => ?_)
 repeat refine Zab ?_
 first|refine Zaa ?_|refine Zad ?_
 refine Zag ?_
 refine Zac (ZaP rfl hL rfl Zco ?_)
 refine Zby d.length 12 ?_
 refine Zac (Zmn (m := d.length + 12) rfl rfl Zco ZbG ZjF ZqN rfl (by omega) (by omega) (by omega) (by omega) fun b0 υ1 h1 hX1 hn1 => ?_)
 refine Zag ?_
 refine Zaf (kp2 0 3 fun e he => ?_)
 repeat refine Zab ?_
 first|refine Zaa ?_|refine Zad ?_
 refine Zag ?_
 refine Zag ?_
 refine Zac (ZaZ (m := d.length) (news := vIs d) (by simp only [EV,Nat.reduceEqDiff,↓reduceIte,he];try rfl) (by simp only [EV,Nat.reduceEqDiff,↓reduceIte,he];try rfl) Zco ZbG ZjF ZqN rfl (by omega) h1 (hL.ext hX1).src (by unfold maxLen; omega) (by omega) fun v2 υ2 hv2 hB2 hn2 => ?_)
 rw [Nat.zero_add, List.nil_append] at hv2
 have hX2 : Ext σ υ2 := But.ext hX1 (fun c hc => by rw [<- Zc8 hc]; exact hn1.1) hB2
 have hN2 : ∀ c, hbk v2 = some c -> Za9 σ c := fun c hc => (hn2 c hc).elim (fun q => by rw [<- Zc8 q]; exact hn1) fun q => Za9.of q hX1
 refine Zag ?_
 refine Zaf (kp2 0 3 fun e he => ?_)
 repeat refine Zab ?_
 first|refine Zaa ?_|refine Zad ?_
 refine Zag ?_
 refine Zaf (kp3 0 3 4 fun e he => ?_)
 refine ZaF (Za4 (fun μ env υ => ∃ (i : Nat) (u : AV), μ = 12 - i /\ i <= 12 /\ (env 0 = v /\ env 3 = u /\ env 4 = vI i) /\ Hd υ 3 1 u (d.length + i) (vIs d ++ ZoG i) /\ Ext σ υ /\ ∀ c, hbk u = some c -> Za9 σ c) ⟨_, 0, v2, rfl, Nat.zero_le _, he, by rw [show ZoG 0 = [] from rfl, List.append_nil]; exact hv2, hX2, hN2⟩ ?_)
 clear he e hv2 hX2 hN2
 rintro _ e υ ⟨i, u, rfl, hi, he, hu, hX, hN⟩
 repeat refine Zab ?_
 first|refine Zaa ?_|refine Zad ?_
 refine Zag ?_
 refine Zcf i 12 ?_
 refine Zaf (kp4 0 3 4 13 fun e he => ?_)
 refine ZaC (t := decide (i < 12)) he.2.2.2 (fun ht => ?_) (fun ht => ?_)
 ·have hlt : i < 12 := of_decide_eq_true ht
  refine ZaL (ZaF ?_)
  repeat refine Zab ?_
  first|refine Zaa ?_|refine Zad ?_
  refine Zag ?_
  refine Zag ?_
  refine Zao [vI (1 : Nat), vI i] ?_
  refine ZjV (by omega) (by omega) ?_
  refine Zac (ZaN (vs := [vI (mkI 1 i)]) (cells := [vI (mkI 1 i)]) (by simp only [List.map_cons, List.map_nil, EV,Nat.reduceEqDiff,↓reduceIte,he];try rfl) Zco ZbG ZjF rfl (by decide) rfl fun b3 hu3 hb3 => ?_)
  have hX3 := Ext.put (σ := υ) (.tail 3 (1 * 1) (1 * 1)) hb3
  refine Zac (ZaZ (m := 1) (news := [vI (mkI 1 i)]) (by simp only [EV,Nat.reduceEqDiff,↓reduceIte,he];try rfl) (by simp only [EV,Nat.reduceEqDiff,↓reduceIte,he];try rfl) Zco ZbG ZjF ZqN rfl (by omega) (hu.ext hX3) (Zcv (rest := []) rfl (fun a ha => by rw [List.mem_singleton.1 ha]; rfl) (fun q => by cases q)) (by unfold maxLen; omega) (by omega) fun v4 υ4 hv4 hB4 hn4 => ?_)
  refine Zag ?_
  refine Zaf (kp3 0 3 4 fun e he => ?_)
  repeat refine Zab ?_
  first|refine Zaa ?_|refine Zad ?_
  refine Zag ?_
  refine Zby i 1 ?_
  refine Zag ?_
  refine Zaf ?_
  show ∃ n', n' < _ /\ _
  refine ⟨_, (by omega : 12 - (i + 1) < 12 - i), i + 1, v4, rfl, hlt, ⟨by simp only [EV,Nat.reduceEqDiff,↓reduceIte,he];try rfl, by simp only [EV,Nat.reduceEqDiff,↓reduceIte,he];try rfl, by simp only [EV,Nat.reduceEqDiff,↓reduceIte,he];try rfl⟩, ?_, But.ext (hX.trans hX3) (fun c hc => (hN c hc).1) hB4, fun c hc => (hn4 c hc).elim (fun q => hN c q) fun q => Za9.of q (hX.trans hX3)⟩
  rw [Zna, <- List.append_assoc]
  exact hv4
 ·have hi12 : i = 12 := by have := of_decide_eq_false ht; omega
  subst hi12
  refine Zbu ?_
  show ZaA _ _ _ _ _ _
  rcases hu.2.2 with ⟨_, h0⟩ | ⟨b, c, all, hc, rfl, g1, g2, g3, g4, g5, g6⟩
  ·omega
  repeat refine Zab ?_
  first|refine Zaa ?_|refine Zad ?_
  refine Zag ?_
  refine Zag ?_
  refine Zac (ZaP rfl (hL.ext hX) rfl Zco ?_)
  refine Zac (ZkQ (b := b) (n := d.length + 12) (c := c) (u := d.length) rfl rfl Zco ZbG (by omega) ?_)
  refine Zag ?_
  refine Zaf (Zap ?_)
  exact ZaD (hK b _ _ ⟨c, rfl, hu⟩ hX (hN b (ZcD hc)))
theorem ZlA {d : List Int} {i : Nat} (h1 : d.length <= i) (h2 : i < d.length + 12) : (vIs d ++ ZoG 12)[i]? = some (vI (mkI 1 (i - d.length))) := by
 rw [List.getElem?_append_right (by rw [Zc1]; exact h1), Zc1]
 unfold ZoG
 rw [List.getElem?_map, List.getElem?_range (by omega)]
 rfl
theorem ZgB {b : Nat} {u v : AV} {d : List Int} (hu : Zqk σ b u d) (g2 : Ls σ 3 v d.length (vIs d)) (hl : d.length <= 1000000) (hK : K (vT true) σ) : Zan Tryz.prog 120 [u, v] σ K := by
 have g1 := Ls.of (hu.hd (Zc1 _))
 obtain ⟨c, rfl, hA⟩ := hu
 have hAl := Ls.of hA
 have hc : d.length + 12 <= c := by
  rcases hA.2.2 with ⟨_, h0⟩ | ⟨b', c', all, h0, h1, _, _, _, _, h2, _⟩
  ·omega
  ·unfold hdr at h1
   injection h1 with h1
   injection h1 with _ _ h4
   omega
 refine Zai Zam Tryz.func120 rfl rfl rfl (Nat.le_of_ble_eq_true rfl) ?_
 refine ZbL 0 1 (v0 := hdr b d.length c) (v1 := v) rfl rfl ?_
 intro e he
 repeat refine Zab ?_
 first|refine Zaa ?_|refine Zad ?_
 refine Zag ?_
 refine Zaf (kp2 0 1 fun e he => ?_)
 repeat refine Zab ?_
 first|refine Zaa ?_|refine Zad ?_
 refine Zag ?_
 refine Zac (ZaP rfl g1 rfl Zco ?_)
 refine Zag ?_
 refine Zac (ZaP rfl g2 rfl Zco ?_)
 refine Zac (Zdo (k := .i64) (a := (d.length : Int)) (b := (d.length : Int)) rfl rfl ?_)
 rw [decide_eq_false (by simp : ¬ (d.length : Int) ≠ (d.length : Int))]
 refine Zaf (kp3 0 1 11 fun e he => ?_)
 refine ZaC (t := false) he.2.2 (fun hf => by cases hf) (fun _ => ?_)
 refine ZaL ?_
 repeat refine Zab ?_
 first|refine Zaa ?_|refine Zad ?_
 refine Zag ?_
 refine Zag ?_
 refine Zac (ZaP rfl g2 rfl Zco ?_)
 refine Zby d.length 12 ?_
 refine Zac (ZkQ (b := b) (n := d.length) (c := c) (u := d.length + 12) rfl rfl Zco ZbG hc ?_)
 refine Zag ?_
 refine Zaf (kp2 1 5 fun e he => ?_)
 repeat refine Zab ?_
 first|refine Zaa ?_|refine Zad ?_
 refine Zag ?_
 refine Zaf (kp3 1 5 6 fun e he => ?_)
 refine ZaF (Za4 (fun μ env υ => ∃ i : Nat, μ = d.length + 12 - i /\ i <= d.length + 12 /\ (env 1 = v /\ env 5 = hdr b (d.length + 12) c /\ env 6 = vI i) /\ σ = υ) ⟨_, 0, rfl, Nat.zero_le _, he, rfl⟩ ?_)
 clear he e
 rintro _ e _ ⟨i, rfl, hi, he, rfl⟩
 repeat refine Zab ?_
 first|refine Zaa ?_|refine Zad ?_
 refine Zag ?_
 refine Zag ?_
 refine Zac (ZaP rfl hAl rfl Zco ?_)
 refine Zcf i (d.length + 12) ?_
 refine Zaf (kp4 1 5 6 20 fun e he => ?_)
 refine ZaC (t := decide (i < d.length + 12)) he.2.2.2 (fun ht => ?_) (fun ht => ?_)
 ·have hlt : i < d.length + 12 := of_decide_eq_true ht
  refine ZaL (ZaF (Zce (fun env υ => (env 1 = v /\ env 5 = hdr b (d.length + 12) c /\ env 6 = vI i /\ env 57 = vT false) /\ σ = υ) ?_ ?_))
  ·refine Zda ?_
   refine ⟨[0, 1, 2, 3, 4, 5, 6, 7, 9, 10, 11, 8, 12, 13, 14, 15, 16, 17, 18, 19, 20, 21, 22, 23, 24, 26, 27, 28, 29, 25, 30, 31, 32, 33, 34], [[], [], [1], [0, 1, 2], [0, 1, 2, 3], [0, 1, 2, 3, 4], [0, 1, 2, 3, 4], [0, 1, 2, 3, 4, 5, 6], [0, 1, 2, 3, 4, 5, 6, 7], [0, 1, 2, 3, 4], [0, 1, 2, 3, 4], [0, 1, 2, 3, 4, 9, 10], [0, 1, 2, 3, 4, 9, 10, 11], [0, 1, 2, 3, 4, 5, 6, 7, 8, 9, 10, 11, 12], [0, 1, 2, 3, 4, 5, 6, 7, 8, 9, 10, 11, 12, 13], [0, 1, 2, 3, 4, 5, 6, 7, 8, 9, 10, 11, 12, 13, 14], [0, 1, 2, 3, 4, 5, 6, 7, 8, 9, 10, 11, 12, 13, 14, 15], [0, 1, 2, 3, 4, 5, 6, 7, 8, 9, 10, 11, 12, 13, 14, 15, 16], [0, 1, 2, 3, 4, 5, 6, 7, 8, 9, 10, 11, 12, 13, 14, 15, 16], [0, 1, 2, 3, 4, 5, 6, 7, 8, 9, 10, 11, 12, 13, 14, 15, 16, 18], [0, 1, 2, 3, 4, 5, 6, 7, 8, 9, 10, 11, 12, 13, 14, 15, 16, 17, 18, 19], [0, 1, 2, 3, 4, 5, 6, 7, 8, 9, 10, 11, 12, 13, 14, 15, 16, 17, 18, 19, 20], [0, 1, 2, 3, 4, 5, 6, 7, 8, 9, 10, 11, 12, 13, 14, 15, 16, 17, 18, 19, 20, 21], [0, 1, 2, 3, 4, 5, 6, 7, 8, 9, 10, 11, 12, 13, 14, 15, 16, 17, 18, 19, 20, 21], [0, 1, 2, 3, 4, 5, 6, 7, 8, 9, 10, 11, 12, 13, 14, 15, 16, 17, 18, 19, 20, 21, 22, 23], [0, 1, 2, 3, 4, 5, 6, 7, 8, 9, 10, 11, 12, 13, 14, 15, 16, 17, 18, 19, 20, 21, 22, 23, 24], [0, 1, 2, 3, 4, 5, 6, 7, 8, 9, 10, 11, 12, 13, 14, 15, 16, 17, 18, 19, 20, 21], [0, 1, 2, 3, 4, 5, 6, 7, 8, 9, 10, 11, 12, 13, 14, 15, 16, 17, 18, 19, 20, 21], [0, 1, 2, 3, 4, 5, 6, 7, 8, 9, 10, 11, 12, 13, 14, 15, 16, 17, 18, 19, 20, 21, 27], [0, 1, 2, 3, 4, 5, 6, 7, 8, 9, 10, 11, 12, 13, 14, 15, 16, 17, 18, 19, 20, 21, 26, 27, 28], [0, 1, 2, 3, 4, 5, 6, 7, 8, 9, 10, 11, 12, 13, 14, 15, 16, 17, 18, 19, 20, 21, 26, 27, 28, 29], [0, 1, 2, 3, 4, 5, 6, 7, 8, 9, 10, 11, 12, 13, 14, 15, 16, 17, 18, 19, 20, 21, 22, 23, 24, 25, 26, 27, 28, 29, 30], [0, 1, 2, 3, 4, 5, 6, 7, 8, 9, 10, 11, 12, 13, 14, 15, 16, 17, 18, 19, 20, 21, 22, 23, 24, 25, 26, 27, 28, 29, 30, 31], [0, 1, 2, 3, 4, 5, 6, 7, 8, 9, 10, 11, 12, 13, 14, 15, 16, 17, 18, 19, 20, 21, 22, 23, 24, 25, 26, 27, 28, 29, 30, 31, 32], [0, 1, 2, 3, 4, 5, 6, 7, 8, 9, 10, 11, 12, 13, 14, 15, 16, 17, 18, 19, 20, 21, 22, 23, 24, 25, 26, 27, 28, 29, 30, 31, 32, 33]], fun _ => True, [25], [30], [], by kernel_rfl, ?_⟩
   refine Zax ?_
   refine Zax ?_
   refine Zas ?_
   refine ZaP rfl g2 rfl Zco ?_
   refine Zaz ?_
   refine Zas ?_
   refine ZiX i d.length rfl rfl ?_
   refine Zaz ?_
   refine Zax ?_
   by_cases hid : i < d.length
   ·have hai : (vIs d ++ ZoG 12)[i]? = some (vI d[i]) := by
     rw [List.getElem?_append_left (by rw [Zc1]; exact hid)]
     exact Zc2 hid
    rw [decide_eq_true hid]
    refine Zax ?_
    refine Zax ?_
    refine Zas ?_
    refine Zcp hAl hlt hai rfl rfl Zco ZbG fa9 fun q1 hq1 => ?_
    refine Zaz ?_
    refine Zax ?_
    refine Zax ?_
    refine Zas ?_
    refine Zcp g2 hid (Zc2 hid) rfl rfl Zco ZbG fa9 fun q2 hq2 => ?_
    refine Zaz ?_
    refine Zas ?_
    refine ZbV rfl hq1 ?_
    refine Zaz ?_
    refine Zas ?_
    refine ZbV rfl hq2 ?_
    refine Zaz ?_
    refine Zas ?_
    refine ZbQ (k := .i64) (a := d[i]) (b := d[i]) rfl rfl ?_
    rw [decide_eq_true rfl]
    refine Zaz ?_
    refine Zas ?_
    with_reducible apply ZcR
    case hx => simp only [EV,Nat.reduceEqDiff,↓reduceIte,he];try rfl
    refine Zaz ?_
    refine Zas ?_
    refine Zaj (v := vT false) rfl rfl ?_
    refine Zaz ?_
    refine Zax ?_
    refine Zax ?_
    refine Zax ?_
    refine Zas ?_
    refine ZaP rfl g2 rfl Zco ?_
    refine Zaz ?_
    refine Zas ?_
    refine ZeN (k := .i64) (a := (i : Int)) (b := (d.length : Int)) rfl rfl ?_
    rw [decide_eq_false (by omega : ¬ (d.length : Int) <= (i : Int))]
    refine Zaz ?_
    refine Zax ?_
    refine Zaq ?_
    refine Zaq ?_
    refine Zaq ?_
    refine Zaq ?_
    refine Zaq ?_
    refine Zaq ?_
    refine Zaq ?_
    refine Zaq ?_
    refine Zaq ?_
    refine Zaq ?_
    refine Zaq ?_
    refine Zas ?_
    refine Zak (v := vT false) rfl rfl ?_
    refine Zaz ?_
    refine Zas ?_
    refine Zak (v := vT false) rfl rfl ?_
    refine Zaz ?_
    refine ZbI ?_
    exact ⟨rfl, ⟨by simp only [EV,Nat.reduceEqDiff,↓reduceIte,he];try rfl, by simp only [EV,Nat.reduceEqDiff,↓reduceIte,he];try rfl, by simp only [EV,Nat.reduceEqDiff,↓reduceIte,he];try rfl, by simp only [EV,Nat.reduceEqDiff,↓reduceIte,he];try rfl⟩, rfl⟩
   ·rw [decide_eq_false hid]
    refine Zaq ?_
    refine Zaq ?_
    refine Zaq ?_
    refine Zaq ?_
    refine Zaq ?_
    refine Zaq ?_
    refine Zaq ?_
    refine Zaq ?_
    refine Zaq ?_
    refine Zaq ?_
    refine Zas ?_
    refine Zak (v := vT false) rfl rfl ?_
    refine Zaz ?_
    refine Zax ?_
    refine Zax ?_
    refine Zax ?_
    refine Zas ?_
    refine ZaP rfl g2 rfl Zco ?_
    refine Zaz ?_
    refine Zas ?_
    refine ZeN (k := .i64) (a := (i : Int)) (b := (d.length : Int)) rfl rfl ?_
    rw [decide_eq_true (by omega : (d.length : Int) <= (i : Int))]
    refine Zaz ?_
    refine Zax ?_
    refine Zax ?_
    refine Zax ?_
    refine Zas ?_
    refine Zcp hAl hlt (ZlA (by omega) hlt) rfl rfl Zco ZbG fa9 fun q1 hq1 => ?_
    refine Zaz ?_
    refine Zax ?_
    refine Zax ?_
    refine Zas ?_
    refine ZaP rfl g2 rfl Zco ?_
    refine Zaz ?_
    refine Zas ?_
    refine ZcW (i : Int) (d.length : Int) rfl rfl (by omega) (by omega) ?_
    rw [show (i : Int) - (d.length : Int) = ((i - d.length : Nat) : Int) by omega]
    refine Zaz ?_
    refine Zas ?_
    refine ZbV rfl hq1 ?_
    refine Zaz ?_
    refine Zas ?_
    refine Zay (vs := [vI (1 : Nat), vI ((i - d.length : Nat) : Int)]) (by simp only [List.map_cons, List.map_nil, EV,Nat.reduceEqDiff,↓reduceIte,he];try rfl) ?_
    refine ZjV (by omega) (by omega) ?_
    refine Zaz ?_
    refine Zas ?_
    refine ZbQ (k := .i64) (a := mkI 1 (i - d.length)) (b := mkI 1 (i - d.length)) rfl rfl ?_
    rw [decide_eq_true rfl]
    refine Zaz ?_
    refine Zas ?_
    with_reducible apply ZcR
    case hx => simp only [EV,Nat.reduceEqDiff,↓reduceIte,he];try rfl
    refine Zaz ?_
    refine Zas ?_
    refine Zaj (v := vT false) rfl rfl ?_
    refine Zaz ?_
    refine Zas ?_
    refine Zak (v := vT false) rfl rfl ?_
    refine Zaz ?_
    refine ZbI ?_
    exact ⟨rfl, ⟨by simp only [EV,Nat.reduceEqDiff,↓reduceIte,he];try rfl, by simp only [EV,Nat.reduceEqDiff,↓reduceIte,he];try rfl, by simp only [EV,Nat.reduceEqDiff,↓reduceIte,he];try rfl, by simp only [EV,Nat.reduceEqDiff,↓reduceIte,he];try rfl⟩, rfl⟩
  clear he e
  rintro e _ ⟨he, rfl⟩
  refine ZaQ (t := false) he.2.2.2 (fun hf => by cases hf) (fun _ => ?_)
  refine Zbm ?_
  show ZaA _ _ _ _ _ _
  refine Zad (Zag ?_)
  refine Zby i 1 ?_
  refine Zag ?_
  refine Zaf ?_
  show ∃ n', n' < _ /\ _
  exact ⟨_, (by omega : d.length + 12 - (i + 1) < d.length + 12 - i), i + 1, rfl, hlt, ⟨by simp only [EV,Nat.reduceEqDiff,↓reduceIte,he];try rfl, by simp only [EV,Nat.reduceEqDiff,↓reduceIte,he];try rfl, by simp only [EV,Nat.reduceEqDiff,↓reduceIte,he];try rfl⟩, rfl⟩
 ·refine Zbu ?_
  show ZaA _ _ _ _ _ _
  repeat refine Zab ?_
  first|refine Zaa ?_|refine Zad ?_
  refine Zag ?_
  refine Zaf (Zap ?_)
  exact ZaD (hK)
end
end Go.Proofs.YtiienjjhlibopaaGreatDoor
