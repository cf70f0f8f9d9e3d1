/- Frames that the document gets, plainly. -/
import Derived.Test.YteempnebenjkmaaGreatDoorG1b
import Derived.Test.YteempnebenjkmaaGreatDoorPg
namespace Go.Proofs.YteempnebenjkmaaGreatDoor
open Go.RowKit
set_option maxRecDepth 100000
set_option linter.unusedVariables false
set_option linter.unusedSimpArgs false
abbrev t2 (f : ZbH) : Zbd := ⟨f.kind, f.data⟩
abbrev fr2 (f : Zbd) : Fr := (f.kind, f.data)
abbrev Zqc (f : Fr) : Zbd := ⟨f.1, f.2⟩
theorem Zx5 {f : Zbd} (h : Zsr (fr2 f)) : ZpZ f = some (code (fr2 f), ((), ())) := by
 obtain ⟨h1, h2, h3⟩ := h
 dsimp only at h1 h2 h3
 unfold ZpZ
 exact Zdz (by omega) rfl
theorem Zjh {b : List UInt8} {i : Nat} (h : i < b.length) : b.getD i 0 = b[i] := by simp [List.getD_eq_getElem?_getD, List.getElem?_eq_getElem h]
theorem ZDh {a b c d n : Int} (ha : 0 <= a /\ a < 256) (hb : 0 <= b /\ b < 256) (hc : 0 <= c /\ c < 256) (hd : 0 <= d /\ d < 256) (hn : a + b * 256 + c * 65536 + d * 16777216 = n) : IntKind.i64.wrap (IntKind.i64.wrap (IntKind.i64.wrap (IntKind.i64.wrap a + IntKind.i64.wrap (IntKind.i64.wrap b * 256)) + IntKind.i64.wrap (IntKind.i64.wrap c * 65536)) + IntKind.i64.wrap (IntKind.i64.wrap d * 16777216)) = n := by
 subst hn
 rw [w64 (n := a) (by omega), w64 (n := b) (by omega), w64 (n := c) (by omega), w64 (n := d) (by omega), w64 (n := b * 256) (by omega), w64 (n := c * 65536) (by omega), w64 (n := d * 16777216) (by omega), w64 (n := a + b * 256) (by omega), w64 (n := a + b * 256 + c * 65536) (by omega), w64 (by omega)]
theorem ZoJ {b : List UInt8} (hb : b.length <= 1000000000) : ZcD b = some (match Za3 b with
 | none => ((⟨0, []⟩, false, ()), ())
 | some f => ((Zqc f, true, ()), ())) := by
 unfold ZcD
 by_cases h9 : b.length < 9
 ·have : Za3 b = none := by unfold Za3; rw [if_pos h9]
  rw [this]
  exact Zam (dT (by omega)) rfl
 refine Zaq (dF (by omega)) (Zaf (Zbg (i := 0) (by omega)) (Zaf (Zbg (i := 1) (by omega)) (Zaf (Zbg (i := 2) (by omega)) (Zaf (Zbg (i := 3) (by omega)) ?_))))
 have hn := ZyC b 0
 have hnum : num b 0 = b[0].toNat + b[1].toNat * 256 + b[2].toNat * 65536 + b[3].toNat * 16777216 := by
  unfold num
  rw [List.drop_zero, Zz7, Zjh (by omega), Zjh (by omega), Zjh (by omega), Zjh (by omega)]
 have q0 := b[0].toNat_lt
 have q1 := b[1].toNat_lt
 have q2 := b[2].toNat_lt
 have q3 := b[3].toNat_lt
 have p8 : (2 : Int) ^ min (8 : Int).toNat (IntKind.i64.bits) = 256 := rfl
 have p16 : (2 : Int) ^ min (16 : Int).toNat (IntKind.i64.bits) = 65536 := rfl
 have p24 : (2 : Int) ^ min (24 : Int).toNat (IntKind.i64.bits) = 16777216 := rfl
 rw [p8, p16, p24, ZDh (n := (num b 0 : Int)) (by omega) (by omega) (by omega) (by omega) (by omega)]
 clear hnum q0 q1 q2 q3
 dsimp only
 by_cases h1 : 262144 < num b 0
 ·have : Za3 b = none := by unfold Za3; rw [if_neg h9, if_pos (.inl h1)]
  rw [this]
  exact Zam (dT (by omega)) rfl
 refine Zaq (dF (by omega)) ?_
 rw [w64 (n := (b.length : Int) - 9) (by omega)]
 by_cases h2 : b.length - 9 < num b 0
 ·have : Za3 b = none := by unfold Za3; rw [if_neg h9, if_pos (.inr h2)]
  rw [this]
  exact Zam (dT (by omega)) rfl
 refine Zaq (dF (by omega)) (Zaf (Zbg (i := 4) (by omega)) ?_)
 rw [w64 (n := 9 + (num b 0 : Int)) (by omega)]
 have hy : (b.drop ((9 : Int)).toNat).take ((9 + (num b 0 : Int)).toNat - ((9 : Int)).toNat) = (b.drop 9).take (num b 0) := by
  rw [show ((9 + (num b 0 : Int))).toNat - ((9 : Int)).toNat = num b 0 from by omega]
  rfl
 have hyl : ((b.drop 9).take (num b 0)).length = num b 0 := by rw [List.length_take, List.length_drop]; omega
 refine Zdz (by omega) ?_
 rw [hy]
 have hg4 : b.getD 4 0 = b[4]'(by omega) := Zjh (by omega)
 generalize hb4 : b[4]'(by omega) = k4 at hg4 ⊢
 have q4 := k4.toNat_lt
 rw [w64 (n := (k4.toNat : Int)) (by omega), List.nil_append]
 generalize hdd : (b.drop 9).take (num b 0) = d at hyl ⊢
 have ok : Zsr (fr2 ⟨(k4.toNat : Int), d⟩) := ⟨by (try dsimp only); omega, by (try dsimp only); omega, by (try dsimp only); omega⟩
 refine Zdz (by simp only [List.length_nil]; omega) (Zaf (Zx5 ok) ?_)
 have hcl := Zbz (fr2 ⟨(k4.toNat : Int), d⟩)
 dsimp only at hcl ⊢
 generalize hcc : code ((k4.toNat : Int), d) = cc at hcl
 have hloop : ∃ z, Za2 Zeu ((b, (), (), cc, 0, ()), ((0, [], ()), ((k4.toNat : Int), d, ()), (), (), (), ())) = some z /\ ((b.take cc.length ≠ cc /\ z = .inl (((), false, ()), ((0, [], ()), ((k4.toNat : Int), d, ()), (), (), (), (), (), ()))) \/ (b.take cc.length = cc /\ z = .inr (((), (), ()), ((0, [], ()), ((k4.toNat : Int), d, ()), (), (), (), (), (), ())))) := by
  refine Zcj (fun n a => ∃ i : Nat, a = ((b, (), (), cc, (i : Int), ()), ((0, [], ()), ((k4.toNat : Int), d, ()), (), (), (), ())) /\ i <= cc.length /\ b.take i = cc.take i /\ n = cc.length - i) _ ?_ (n := cc.length) ⟨0, by rfl, Nat.zero_le _, by simp, rfl⟩
  rintro n a ⟨i, rfl, h3, h4, rfl⟩
  unfold Zeu
  by_cases hi : i < cc.length
  ·have hib : i < b.length := by omega
   by_cases he : cc[i] = b[i]
   ·left
    refine ⟨cc.length - (i + 1), _, by omega, Zam (dT (by (try dsimp only); omega)) (Zaf (Zbg hi) (Zaf (Zbg hib) (Zaq (dF (by rw [he]; simp)) rfl))), i + 1, ?_, hi, ?_, rfl⟩
    ·dsimp only
     rw [w64 (by omega)]
     rfl
    ·rw [List.take_succ_eq_append_getElem hi, List.take_succ_eq_append_getElem hib, h4, he]
   ·right
    refine ⟨_, Zam (dT (by (try dsimp only); omega)) (Zaf (Zbg hi) (Zaf (Zbg hib) (Zam (dT (fun h => he (UInt8.toNat_inj.1 (by omega)))) rfl))), .inl ⟨fun h => he ?_, rfl⟩⟩
    have := congrArg (fun l : List UInt8 => l[i]?) h
    simp only [List.getElem?_take, if_pos hi, List.getElem?_eq_getElem hi, List.getElem?_eq_getElem hib] at this
    injection this with this
    exact this.symm
  ·right
   obtain rfl : i = cc.length := by omega
   refine ⟨_, Zaq (dF (by (try dsimp only); omega)) rfl, .inr ⟨by rw [h4, List.take_length], rfl⟩⟩
 obtain ⟨z, hz, ⟨h3, rfl⟩ | ⟨h3, rfl⟩⟩ := hloop
 ·have hf : Za3 b = none := by
   cases hq : Za3 b with
   | none => rfl
   | some f =>
    exfalso
    have hq2 := hq
    unfold Za3 at hq2
    rw [if_neg h9, if_neg (by omega)] at hq2
    split at hq2
    ·injection hq2 with hq2
     rw [hdd, hg4] at hq2
     obtain ⟨_, g2, g3⟩ := Zp7 hq
     rw [<- hq2, hcc] at g2
     apply h3
     rw [hcl]
     exact g2
    ·cases hq2
  rw [hf]
  exact Zaf hz rfl
 ·have hf : Za3 b = some ((k4.toNat : Int), d) := by
   have hb2 : b = cc ++ b.drop cc.length := by
    conv => lhs; rw [<- List.take_append_drop cc.length b, h3]
   have hnx := Zmv ok (b.drop cc.length)
   rw [show code (fr2 ⟨(k4.toNat : Int), d⟩) = cc from hcc, <- hb2] at hnx
   exact hnx
  rw [hf]
  exact Zaf hz rfl
theorem ZBZ {b : List UInt8} (hb : b.length <= 1000000) : Zrb b = some (((ZaB b).1.map Zqc, ((ZaB b).2 : Int), ()), ((), ())) := by
 have key : ∀ f0 : Zbd × Bool × Unit, ZcD b = some (f0, ()) -> ∃ z, Za2 ZhB ((b, [], 0, (), f0.2.1, ()), (f0.1, (), ())) = some z /\ z.1.1 = (ZaB b).1.map Zqc /\ z.1.2.1 = ((ZaB b).2 : Int) := by
  intro f0 hf0
  refine Zcj (fun n a => ∃ (out : List Zbd) (at_ : Nat) (f : Zbd × Bool × Unit), a = ((b, out, (at_ : Int), (), f.2.1, ()), (f.1, (), ())) /\ ZcD (b.drop at_) = some (f, ()) /\ out ++ (ZaB (b.drop at_)).1.map Zqc = (ZaB b).1.map Zqc /\ at_ + (ZaB (b.drop at_)).2 = (ZaB b).2 /\ at_ <= b.length /\ out.length <= at_ /\ n = b.length - at_) _ ?_ (n := b.length) ⟨[], 0, f0, rfl, by rw [List.drop_zero]; exact hf0, by simp, by simp, Nat.zero_le _, Nat.le_refl _, rfl⟩
  rintro n a ⟨out, at_, f, rfl, h1, h2, h3, h4, h5, rfl⟩
  have hbg := ZoJ (b := b.drop at_) (by rw [List.length_drop]; omega)
  rw [h1] at hbg
  unfold ZhB
  cases hf : Za3 (b.drop at_) with
  | none =>
   right
   rw [hf] at hbg
   injection hbg with hbg
   injection hbg with hbg _
   subst hbg
   rw [ZeX hf] at h2 h3
   exact ⟨_, Zaq rfl rfl, by simpa using h2, by (try dsimp only); simp only [Nat.add_zero] at h3; rw [h3]⟩
  | some g =>
   left
   rw [hf] at hbg
   injection hbg with hbg
   injection hbg with hbg _
   subst hbg
   have hl := ZfO hf
   rw [List.length_drop] at hl
   rw [Zgr hf, List.drop_drop] at h2 h3
   have hd : at_ + (9 + g.2.length) = at_ + 9 + g.2.length := by omega
   rw [hd] at h2 h3
   have hw : IntKind.i64.wrap (IntKind.i64.wrap ((at_ : Int) + 9) + (g.2.length : Int)) = ((at_ + 9 + g.2.length : Nat) : Int) := by
    rw [w64 (n := (at_ : Int) + 9) (by omega), w64 (by omega)]
    omega
   have hbg2 := ZoJ (b := b.drop (at_ + 9 + g.2.length)) (by rw [List.length_drop]; omega)
   have hx : ∃ f2 : Zbd × Bool × Unit, ZcD (b.drop (at_ + 9 + g.2.length)) = some (f2, ()) := by
    rw [hbg2]
    cases Za3 (b.drop (at_ + 9 + g.2.length)) <;> exact ⟨_, rfl⟩
   obtain ⟨f2, hf2⟩ := hx
   have hdr : (b.drop ((at_ + 9 + g.2.length : Nat) : Int).toNat).take (((b.length : Int) : Int).toNat - ((at_ + 9 + g.2.length : Nat) : Int).toNat) = b.drop (at_ + 9 + g.2.length) := by
    rw [Int.toNat_natCast, Int.toNat_natCast]
    exact List.take_of_length_le (by rw [List.length_drop]; exact Nat.le_refl _)
   refine ⟨b.length - (at_ + 9 + g.2.length), ((b, out ++ [Zqc g], ((at_ + 9 + g.2.length : Nat) : Int), (), f2.2.1, ()), (f2.1, (), ())), by omega, Zam rfl (Zdz (by simp only [List.length_singleton]; omega) ?_), out ++ [Zqc g], at_ + 9 + g.2.length, f2, rfl, hf2, ?_, ?_, by omega, ?_, rfl⟩
   ·dsimp only
    rw [hw]
    refine Zdz (by omega) ?_
    rw [hdr]
    exact Zaf hf2 rfl
   ·rw [<- h2]; simp
   ·dsimp only at h3; omega
   ·rw [List.length_append, List.length_singleton]; omega
 unfold Zrb
 have hbg := ZoJ (b := b) (by omega)
 have hx : ∃ f2 : Zbd × Bool × Unit, ZcD b = some (f2, ()) := by
  rw [hbg]
  cases Za3 b <;> exact ⟨_, rfl⟩
 obtain ⟨f2, hf2⟩ := hx
 obtain ⟨z, hz, z1, z2⟩ := key f2 hf2
 refine Zaf hf2 (Zaf hz ?_)
 rw [z1, z2]
theorem ZoK (k x : Int) : ∃ t : Int, Zcz k x = some (t, ()) /\ 0 <= t /\ t < 256 := by
 unfold Zcz Zrh
 refine ⟨_, rfl, ?_⟩
 rw [IntKind.wrap_u8]
 omega
noncomputable def Zwh (k x : Int) : Int := (ZoK k x).choose
theorem ZAh (k x : Int) : Zcz k x = some (Zwh k x, ()) := (ZoK k x).choose_spec.1
theorem ZAi (k x : Int) : 0 <= Zwh k x /\ Zwh k x < 256 := (ZoK k x).choose_spec.2
noncomputable def mkT (j : Nat) : UInt8 := UInt8.ofNat (Zwh 1 (j : Int)).toNat
theorem ZDi (j : Nat) : ((mkT j).toNat : Int) = Zwh 1 (j : Int) := by
 have := ZAi 1 (j : Int)
 unfold mkT
 rw [UInt8.toNat_ofNat']
 omega
theorem ZyK (j : Nat) : Zcz 1 (j : Int) = some (((mkT j).toNat : Int), ()) := by rw [ZDi]; exact ZAh 1 _
theorem ZB0 (j : Nat) : b8 ((mkT j).toNat : Int) = some (mkT j) := by
 have := (mkT j).toNat_lt
 rw [ZDJ (by omega)]
 congr 1
 apply UInt8.toNat_inj.1
 rw [UInt8.toNat_ofNat', Int.toNat_natCast]
 omega
noncomputable def ZeY (j : Nat) : List UInt8 := (List.range j).map mkT
theorem Zmy (j : Nat) : (ZeY j).length = j := by simp [ZeY]
theorem ZtP (j : Nat) : ZeY (j + 1) = ZeY j ++ [mkT j] := by simp [ZeY, List.range_succ]
theorem Zwi {j n : Nat} (h : j < n) : (ZeY n)[j]? = some (mkT j) := by simp [ZeY, h]
theorem ZB1 {l : List UInt8} (hn : l.length <= 1000000) : Zd2 l = some ((l, ZeY 12), ()) := by
 have hw : IntKind.i64.wrap ((l.length : Int) + 12) = ((l.length + 12 : Nat) : Int) := by rw [w64 (by omega)]; rfl
 have hloop : Za2 Zb1 ((l, (0, l.length, l.length + 12), 0, ()), (l ++ List.replicate 12 0, ())) = some ((l, (0, l.length + 12, l.length + 12), ()), (l ++ ZeY 12, ())) := by
  refine ZfZ (step := Zb1) (fun j : Nat => ((l, (0, l.length + j, l.length + 12), (j : Int), ()), (l ++ (ZeY j ++ List.replicate (12 - j) 0), ()))) (N := 12) (fun j hj => ?_) ?_
  ·have hml := Zmy j
   unfold Zb1
   refine Zam (dT (by (try dsimp only); omega)) (Zaf (ZyK j) (Zaf (ZB0 j) ?_))
   dsimp only
   simp only [List.length_singleton, Nat.zero_add]
   refine Zdz (by simp only [List.length_append, List.length_replicate, hml]; omega) ?_
   refine Zdz (by omega) ?_
   rw [w64 (by omega)]
   have e1 : (l ++ (ZeY j ++ List.replicate (12 - j) 0)).take (l.length + j) = l ++ ZeY j := by
    rw [<- List.append_assoc]
    exact List.take_left' (by rw [List.length_append, hml])
   have e2 : (l ++ (ZeY j ++ List.replicate (12 - j) 0)).drop (l.length + j + 1) = List.replicate (12 - (j + 1)) 0 := by
    rw [<- List.append_assoc, List.drop_append, List.drop_of_length_le (by rw [List.length_append, hml]; omega), List.nil_append, List.drop_replicate, List.length_append, hml]
    congr 1
    omega
   rw [e1, e2, ZtP]
   simp only [List.append_assoc, Nat.add_assoc]
   rfl
  ·unfold Zb1
   exact Zaq (dF (by (try dsimp only); omega)) rfl
 have hL : Zfn l = some ((0, l.length, l.length + 12), (l ++ ZeY 12, ())) := by
  unfold Zfn
  simp only [hw, Int.toNat_natCast, Int.toNat_zero, Nat.zero_add, List.take_zero, List.nil_append, Nat.add_zero, Nat.sub_zero, List.length_replicate, List.drop_replicate, Nat.add_sub_cancel_left]
  refine Zdz (by omega) ?_
  refine Zdz (by omega) ?_
  refine Zdz (by omega) ?_
  refine Zaf hloop ?_
  dsimp only
  refine Zdz (by omega) ?_
  simp
 unfold Zd2
 refine Zaf hL ?_
 dsimp only
 refine Zdz ⟨rfl, by rw [List.length_append]; omega, by rw [List.length_append, Zmy]; omega⟩ ?_
 rw [List.take_left, List.drop_left]
theorem ZB2 {l : List UInt8} (hn : l.length <= 1000000) : Zhb (l, ZeY 12) l = some (true, ()) := by
 have hw : IntKind.i64.wrap ((l.length : Int) + 12) = ((l.length + 12 : Nat) : Int) := by rw [w64 (by omega)]; rfl
 have hml := Zmy 12
 have hloop : Za2 Zb2 ((l, l ++ ZeY 12, 0, ()), ()) = some (.inr ((), ())) := by
  refine ZfZ (step := Zb2) (fun j : Nat => ((l, l ++ ZeY 12, (j : Int), ()), ())) (N := l.length + 12) (fun j hj => ?_) ?_
  ·unfold Zb2
   refine Zam (dT (by (try dsimp only); rw [List.length_append]; omega)) ?_
   by_cases hjl : j < l.length
   ·refine Zam (dT (by (try dsimp only); omega)) ?_
    refine Zaf (v := l[j]) (by (try dsimp only); rw [Zoq, List.getElem?_append_left hjl, List.getElem?_eq_getElem hjl]) ?_
    refine Zaf (Zbg hjl) ?_
    refine Zaq (by simp) ?_
    refine Zaq (dF (by (try dsimp only); omega)) ?_
    dsimp only
    rw [w64 (by omega)]
    rfl
   ·refine Zaq (dF (by (try dsimp only); omega)) ?_
    refine Zam (dT (by (try dsimp only); omega)) ?_
    refine Zaf (v := mkT (j - l.length)) (by (try dsimp only); rw [Zoq, List.getElem?_append_right (by omega)]; exact Zwi (by omega)) ?_
    refine Zaf (v := (((mkT (j - l.length)).toNat : Int), ())) (by
     dsimp only
     rw [w64 (by omega), show (j : Int) - (l.length : Int) = ((j - l.length : Nat) : Int) from by omega]
     exact ZyK _) ?_
    refine Zaq (by simp) ?_
    dsimp only
    rw [w64 (by omega)]
    rfl
  ·unfold Zb2
   exact Zaq (dF (by (try dsimp only); rw [List.length_append]; omega)) rfl
 unfold Zhb
 refine Zaq (dF (by simp)) ?_
 simp only [hw, Int.toNat_natCast, Int.toNat_zero, List.drop_zero, Nat.sub_zero]
 refine Zdz (by rw [List.length_append, hml]; omega) ?_
 rw [List.take_of_length_le (by rw [List.length_append, hml]; omega)]
 exact Zaf hloop rfl
end Go.Proofs.YteempnebenjkmaaGreatDoor
