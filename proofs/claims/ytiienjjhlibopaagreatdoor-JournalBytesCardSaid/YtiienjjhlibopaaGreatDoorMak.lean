/- XEg, XEh in one. -/
import Derived.Test.YtiienjjhlibopaaGreatDoorFacts
import Derived.Test.YtiienjjhlibopaaGreatDoorMaj
import Derived.Test.YtiienjjhlibopaaGreatDoorMab
namespace Go.Proofs.YtiienjjhlibopaaGreatDoor
open Go.RowKit
set_option maxRecDepth 100000
set_option linter.unusedVariables false
set_option linter.unusedSimpArgs false
theorem ZjY : Zdv Tryz.prog 28 = some 136 := by kernel_rfl
section
variable {σ : St} {K : AV -> St -> Prop}
theorem Lz.src {σ : St} {e sz n : Nat} {v : AV} {cells : List AV} (h : Lz σ e sz v n cells) (hsz : 0 < sz) : Src σ sz v n cells := by
 rcases h.2.2 with ⟨A, c, rest, rfl, hA⟩ | h1
 ·exact Zcv h.1 h.2.1 hA
 ·exact h1.src hsz
theorem EsT.lz {σ : St} {v : AV} {es : List Ent} (h : EsT v es) : ∃ cells, Lz σ 28 7 v es.length cells /\ Zcl cells es := by
 obtain ⟨A, c, cells, rest, rfl, h1, h2⟩ := h
 exact ⟨cells, ⟨h2.len, h2.ones, .inl ⟨A, c, rest, rfl, fun q => (h1.none q).1⟩⟩, h2⟩
theorem EsT.one {v : AV} {es : List Ent} (h : EsT v es) : v.one = true /\ Zbh v = true /\ v.cells = [v] := by
 obtain ⟨A, c, cells, rest, rfl, h1, h2⟩ := h
 exact ⟨rfl, rfl, rfl⟩
theorem Zd5 : EsT (.lst none 0 0 []) [] := ⟨none, 0, [], [], rfl, ⟨Nat.le_refl _, by unfold maxLen; omega, by simp, fun _ => ⟨rfl, rfl⟩⟩, rfl⟩
theorem ZfD {v : AV} {n : Nat} {cells : List AV} (hZ : Lz σ 28 7 v n cells) (hl : n <= 1000000000) (hK : ∀ a τ, Hd τ 28 7 a n cells -> Ext σ τ -> (∀ b, hbk a = some b -> Za9 σ b) -> K a τ) : Zan Tryz.prog 131 [v] σ K := by
 obtain ⟨A, c, h1, h2⟩ := hZ.val
 refine Zai Zam Tryz.func131 rfl rfl rfl (Nat.le_of_ble_eq_true rfl) ?_
 refine Zbf 0 (v0 := v) rfl ?_
 intro e he
 repeat refine Zab ?_
 first|refine Zaa ?_|refine Zad ?_
 refine Zag ?_
 refine Zaf (kp1 0 fun e he => ?_)
 repeat refine Zab ?_
 first|refine Zaa ?_|refine Zad ?_
 refine Zag ?_
 refine Zac (Zg4 (A := A) (n := n) (c := c) Zeb rfl h1 rfl ?_)
 refine Zaf (kp2 0 4 ?_)
 clear he e
 intro e he
 cases A with
 | none =>
  have hn : n = 0 := h2 rfl
  subst hn
  have hc0 : cells = [] := List.eq_nil_of_length_eq_zero (by rw [hZ.1])
  subst hc0
  refine ZaC (t := true) he.2 (fun _ => ?_) (fun hf => by cases hf)
  repeat refine Zab ?_
  first|refine Zaa ?_|refine Zad ?_
  refine Zag ?_
  refine Zaf (ZbB ?_)
  exact ZaD (hK _ σ ⟨rfl, fun a ha => (by cases ha), .inl ⟨.inl rfl, rfl⟩⟩ (.refl _) (fun b hb => by cases hb))
 | some ad =>
  refine ZaC (t := false) he.2 (fun hf => by cases hf) (fun _ => ?_)
  refine ZaL ?_
  repeat refine Zab ?_
  first|refine Zaa ?_|refine Zad ?_
  refine Zn0 Zeb ZbZ Zfo rfl fun ad υ1 hX1 => ?_
  refine Zag ?_
  refine Zac (ZaZ (m := n) (news := cells) rfl rfl Zeb ZbZ Zfo ZjY rfl (by omega) (Zrk ad) ((hZ.ext hX1).src (by omega)) (by unfold maxLen; omega) (by omega) fun v2 υ2 hv2 hB2 hn2 => ?_)
  rw [Nat.zero_add, List.nil_append] at hv2
  refine Zag ?_
  refine Zaf (Zap ?_)
  exact ZaD (hK v2 υ2 hv2 (But.ext hX1 (fun c hc => by cases hc) hB2) (fun c hc => (hn2 c hc).elim (fun q => by cases q) fun q => Za9.of q hX1))
section
variable {P : Program} {ops : Array Oper} {env : Env} {K : Env -> St -> Prop} {d : Option Nat} {ty t e : TypeId} {pos : String} {af : Array Edge} {x y : Operand}
theorem Zph {v : AV} {es : List Ent} {n : Nat} (hv : EsT v es) (hx : ev env x = v) (hy : ev env y = vI n) (ht : ZaW P t = some e) (hs : ZaU P e = some 7) (hn : n <= es.length) (h : ∀ u, EsT u (es.take n) -> K (env.put d u) σ) : aOp P ops ⟨d, .slice t x none (some y) none, ty, pos, af, none⟩ env σ K := by
 obtain ⟨A, c, cells, rest, rfl, hL, hC⟩ := hv
 have h1 := hL.le
 have h2 := hL.most
 have h3 := hL.small
 rw [ZaT rfl]
 have : (Op.slice t x none (some y) none).operands.toList.map (ev env) = [.lst A es.length c (cells ++ rest), vI n] := by
  rw [<- hx, <- hy]
  simp [Op.operands]
 rw [this]
 refine ⟨e, 7, ht, hs, 0, n, c, ⟨rfl, ⟨.i64, rfl⟩, rfl⟩, Nat.zero_le _, by omega, Nat.le_refl _, h _ ?_⟩
 have hl : (es.take n).length = n := by rw [List.length_take]; omega
 by_cases h0 : c = 0
 ·have hd : es.take n = [] := List.eq_nil_of_length_eq_zero (by omega)
  rw [if_pos h0, if_pos h0, hd, show n - 0 = 0 by omega, show c - 0 = 0 by omega]
  exact ⟨A, 0, [], [], rfl, ⟨Nat.zero_le _, by unfold maxLen; omega, Nat.zero_le _, fun _ => ⟨rfl, rfl⟩⟩, rfl⟩
 ·rw [if_neg h0, if_neg h0, Nat.sub_zero, Nat.sub_zero, Nat.zero_mul, List.drop_zero]
  refine ⟨A.map (·.add 0), c, cells.take (n * 7), cells.drop (n * 7) ++ rest, ?_, ⟨by omega, by omega, by omega, fun q => ?_⟩, hC.take n⟩
  ·rw [hl, <- List.append_assoc, List.take_append_drop]
  ·cases A with
   | none => have := (hL.none rfl).2; omega
   | some a => cases q
theorem ZkS {v : AV} {es : List Ent} {n : Nat} (hv : EsT v es) (hx : ev env x = v) (hy : ev env y = vI n) (ht : ZaW P t = some e) (hs : ZaU P e = some 7) (hn : n <= es.length) (h : ∀ u, EsT u (es.drop n) -> K (env.put d u) σ) : aOp P ops ⟨d, .slice t x (some y) none none, ty, pos, af, none⟩ env σ K := by
 obtain ⟨A, c, cells, rest, rfl, hL, hC⟩ := hv
 have h1 := hL.le
 have h2 := hL.most
 have h3 := hL.small
 rw [ZaT rfl]
 have : (Op.slice t x (some y) none none).operands.toList.map (ev env) = [.lst A es.length c (cells ++ rest), vI n] := by
  rw [<- hx, <- hy]
  simp [Op.operands]
 rw [this]
 refine ⟨e, 7, ht, hs, n, es.length, c, ⟨⟨.i64, rfl⟩, rfl, rfl⟩, hn, h1, Nat.le_refl _, h _ ?_⟩
 have hl : (es.drop n).length = es.length - n := by rw [List.length_drop]
 by_cases h0 : c = n
 ·have hd : es.drop n = [] := List.eq_nil_of_length_eq_zero (by omega)
  rw [if_pos h0, if_pos h0, hd, show es.length - n = 0 by omega, show c - n = 0 by omega]
  exact ⟨A, 0, [], [], rfl, ⟨Nat.zero_le _, by unfold maxLen; omega, Nat.zero_le _, fun _ => ⟨rfl, rfl⟩⟩, rfl⟩
 ·rw [if_neg h0, if_neg h0]
  refine ⟨A.map (·.add (n * 7)), c - n, cells.drop (n * 7), rest, ?_, ⟨by omega, by omega, by omega, fun q => ?_⟩, hC.drop n⟩
  ·rw [hl, List.drop_append_of_le_length (by have := hC.len; omega)]
  ·cases A with
   | none => have := (hL.none rfl).2; omega
   | some a => cases q
end
theorem ZkT {m : Nat} {st : Option (List UInt8)} : ((Ze9 m st).2.getD []).length <= (st.getD []).length := by
 have h := ZbN (m := m) (st := st)
 unfold Ze9
 split
 ·rename_i n l hq
  rw [hq] at h
  have h : l.length <= _ := h
  split
  ·simp
  ·show (l.drop n).length <= _
   rw [List.length_drop]
   omega
 ·simp
theorem ZhW : ∀ (n : Nat) (st : Option (List UInt8)), ((ZbJ n st).2.getD []).length <= (st.getD []).length
 | 0, st => Nat.le_refl _
 | n + 1, st => Nat.le_trans (ZbN (m := 5) (st := (ZbJ n st).2)) (ZhW n st)
theorem ZlC (st : Option (List UInt8)) : ((Zc4 st).2.getD []).length <= (st.getD []).length := Nat.le_trans (ZhW _ _) ZbN
theorem Zhk : ∀ (n : Nat) (st : Option (List UInt8)), ((ZdT n st).2.getD []).length <= (st.getD []).length
 | 0, st => Nat.le_refl _
 | n + 1, st => Nat.le_trans (ZlC (ZdT n st).2) (Zhk n st)
theorem entS_len {st : Option (List UInt8)} : ((Zbs st).left.getD []).length <= (st.getD []).length := by
 have h1 := ZbN (m := 1073741824) (st := st)
 have h2 := ZbN (m := 255) (st := (Zbr 1073741824 st).2)
 have h3 := ZkT (m := 131072) (st := (Zbr 255 (Zbr 1073741824 st).2).2)
 have h4 := Zhk 4 (Ze9 131072 (Zbr 255 (Zbr 1073741824 st).2).2).2
 have h5 : (Zbs st).left = (ZdT 4 (Ze9 131072 (Zbr 255 (Zbr 1073741824 st).2).2).2).2 := by
  unfold Zbs
  dsimp only
  generalize (ZdT 4 (Ze9 131072 (Zbr 255 (Zbr 1073741824 st).2).2).2).2.isNone = b1
  generalize Za8 _ _ _ _ = b2
  cases b1 <;> cases b2 <;> rfl
 rw [h5]
 omega
def ZcY : Nat -> Option (List UInt8) -> Option (List Ent × Option (List UInt8))
 | 0, st => some ([], st)
 | n + 1, st => if (Zbs st).ok then (ZcY n (Zbs st).left).map fun r => ((Zbs st).e :: r.1, r.2) else none
def ZcO (s : JSt) (st : Option (List UInt8)) : Option (JSt × Option (List UInt8)) :=
 let p := Zbr 1073741824 st
 let q := Zbr 1073741824 p.2
 let a : Int := ((p.1 : Nat) : Int) - s.bi - 1
 if q.2.isNone = false /\ (0 <= a /\ a <= ((s.es.length : Nat) : Int)) /\ (0 : Int) < ((q.1 : Nat) : Int) then (ZcY q.1 q.2).map fun r => (⟨s.term, s.vote, s.bi, s.bt, s.bc, s.es.take a.toNat ++ r.1⟩, r.2) else none
theorem Zd6 {s s' : JSt} {st st' : Option (List UInt8)} {p q : Nat × Option (List UInt8)} (hp : p = Zbr 1073741824 st) (hq : q = Zbr 1073741824 p.2) (h : ZcO s st = some (s', st')) :
 (q.2.isNone = false /\ (0 <= ((p.1 : Nat) : Int) - s.bi - 1 /\ ((p.1 : Nat) : Int) - s.bi - 1 <= ((s.es.length : Nat) : Int)) /\ (0 : Int) < ((q.1 : Nat) : Int)) /\ ∃ r, ZcY q.1 q.2 = some (r, st') /\ s' = ⟨s.term, s.vote, s.bi, s.bt, s.bc, s.es.take (((p.1 : Nat) : Int) - s.bi - 1).toNat ++ r⟩ := by
 unfold ZcO at h
 dsimp only at h
 rw [<- hp, <- hq] at h
 split at h
 ·rename_i hc
  cases hr : ZcY q.1 q.2 with
  | none => rw [hr] at h; cases h
  | some r =>
   rw [hr] at h
   injection h with h
   injection h with h1 h2
   exact ⟨hc, r.1, by rw [<- h2], h1.symm⟩
 ·cases h
theorem Zit {s : JSt} {st : Option (List UInt8)} {p q : Nat × Option (List UInt8)} (hp : p = Zbr 1073741824 st) (hq : q = Zbr 1073741824 p.2) (h : ZcO s st = none) :
 ¬ (q.2.isNone = false /\ (0 <= ((p.1 : Nat) : Int) - s.bi - 1 /\ ((p.1 : Nat) : Int) - s.bi - 1 <= ((s.es.length : Nat) : Int)) /\ (0 : Int) < ((q.1 : Nat) : Int)) \/ ZcY q.1 q.2 = none := by
 unfold ZcO at h
 dsimp only at h
 rw [<- hp, <- hq] at h
 split at h
 ·right
  cases hr : ZcY q.1 q.2 with
  | none => rfl
  | some r => rw [hr] at h; cases h
 ·rename_i hc
  exact .inl hc
variable {Kp : List PanicEntry -> St -> Prop}
set_option maxHeartbeats 1000000 in
theorem ZjZ {rb : Nat} {st : Option (List UInt8)} {t0 v0 bi bt : Int} {a0 a1 a2 a3 v : AV} {bc : List (List Int)} {es : List Ent} (hC : ZcJ [a0, a1, a2, a3] bc) (hE : EsT v es) (hbi : 0 <= bi /\ bi <= 1073741824) (hes : es.length <= 1000000000) (hlen : (st.getD []).length <= 1000000000) (h : QAt σ rb st) {s2 : JSt} {st2 : Option (List UInt8)} (h0 : ZcO ⟨t0, v0, bi, bt, bc, es⟩ st = some (s2, st2)) (hK : ∀ x cells τ, Hd τ 28 7 x s2.es.length cells -> Zcl cells s2.es -> (∀ c, hbk x = some c -> Za9 σ c) -> QAt τ rb st2 -> But (fun c => c = rb) σ τ -> K (.agg [vI t0, vI v0, vI bi, vI bt, a0, a1, a2, a3, x]) τ) : Zan Tryz.prog 127 [.agg [vI t0, vI v0, vI bi, vI bt, a0, a1, a2, a3, v], ptr rb 0] σ K := by
 have hC0 := hC
 obtain ⟨l0, l1, l2, l3, rfl, z0, z1, z2, z3⟩ := hC.tis
 have hru := h.used
 obtain ⟨p, hp⟩ : ∃ p, p = Zbr 1073741824 st := ⟨_, rfl⟩
 obtain ⟨q, hq⟩ : ∃ q, q = Zbr 1073741824 p.2 := ⟨_, rfl⟩
 have hp1 : p.1 <= 1073741824 := by rw [hp]; exact ZcH.1
 have hq1 : q.1 <= 1073741824 := by rw [hq]; exact ZcH.1
 have hlq : (q.2.getD []).length <= 1000000000 := by have h1 := ZbN (m := 1073741824) (st := st); rw [<- hp] at h1; have h2 := ZbN (m := 1073741824) (st := p.2); rw [<- hq] at h2; omega
 obtain ⟨⟨c1, c2, c3⟩, r, hrd0, hs⟩ := Zd6 hp hq h0
 have c2 : 0 <= ((p.1 : Nat) : Int) - bi - 1 /\ ((p.1 : Nat) : Int) - bi - 1 <= ((es.length : Nat) : Int) := c2
 refine Zai Zam Tryz.func127 rfl rfl rfl (Nat.le_of_ble_eq_true rfl) ?_
 refine ZbL 0 1 (v0 := .agg [vI t0, vI v0, vI bi, vI bt, a0, a1, a2, a3, v]) (v1 := ptr rb 0) rfl rfl ?_
 intro e he
 refine Zaa (Zac (Zbn (cs := [vI t0, vI v0, vI bi, vI bt, a0, a1, a2, a3, v]) (v := .agg [vI t0, vI v0, vI bi, vI bt, a0, a1, a2, a3, v]) he.1 rfl fun b1 υ2 hn3 hu4 hb5 hv6 hX7 => ?_))
 have ne8 : b1 ≠ rb := fun q => by obtain ⟨_, h1, _⟩ := h.ex; rw [q, h1] at hn3; cases hn3
 have h := h.ext hX7
 refine Zac (ZaH (cs := [vI 0, vI 0, vI 0, vI 0, .lst none 0 0 [], .lst none 0 0 [], .lst none 0 0 [], .lst none 0 0 [], .lst none 0 0 []]) Zgq rfl fun b9 υ10 hn11 hu12 hb13 hv14 hX15 => ?_)
 have ne16 := Zat hb5 hn11
 have ne17 : b9 ≠ rb := fun q => by obtain ⟨_, h1, _⟩ := h.ex; rw [q, h1] at hn11; cases hn11
 have hb5 := hX15.keep _ _ hb5
 have hv6 := hX15.used _ hv6
 have h := h.ext hX15
 refine Zaf (kp3 1 2 4 fun e he => ?_)
 refine Zaa (Zac (Zae (b := b1) (o := 0) he.2.1 Zo3 rfl ?_))
 refine Zac (Zah (b := b1) (o := 0 + 0) (r := .agg [vI t0, vI v0, vI bi, vI bt, a0, a1, a2, a3, v]) rfl hb5 Zhy Zdx rfl ?_)
 refine Zac (ZaH (cs := [vI 0, vI 0, vI 0, vI 0, .lst none 0 0 [], .lst none 0 0 [], .lst none 0 0 [], .lst none 0 0 [], .lst none 0 0 []]) Zgq rfl fun b18 υ19 hn20 hu21 hb22 hv23 hX24 => ?_)
 have ne25 := Zat hb5 hn20
 have ne26 := Zat hb13 hn20
 have ne27 : b18 ≠ rb := fun q => by obtain ⟨_, h1, _⟩ := h.ex; rw [q, h1] at hn20; cases hn20
 have hb5 := hX24.keep _ _ hb5
 have hv6 := hX24.used _ hv6
 have hb13 := hX24.keep _ _ hb13
 have hv14 := hX24.used _ hv14
 have h := h.ext hX24
 refine Zac (ZaB (b := b18) (o := 0) (u := .agg [vI t0, vI v0, vI bi, vI bt, a0, a1, a2, a3, v]) (cs' := [vI t0, vI v0, vI bi, vI bt, a0, a1, a2, a3, v]) rfl rfl hb22 Zdx (by obtain ⟨_, _, rfl, _⟩ := z0 <;> obtain ⟨_, _, rfl, _⟩ := z1 <;> obtain ⟨_, _, rfl, _⟩ := z2 <;> obtain ⟨_, _, rfl, _⟩ := z3 <;> obtain ⟨_, _, _, _, rfl, _⟩ := hE <;> rfl) rfl fun υ28 hb22 k29 => ?_)
 have hb5 := k29.keep _ _ (Ne.symm ne25) hb5
 have hv6 := k29.used _ hv6
 have hb13 := k29.keep _ _ (Ne.symm ne26) hb13
 have hv14 := k29.used _ hv14
 have hv23 := k29.used _ hv23
 have h := h.but k29 (Ne.symm ne27)
 refine Zaf (kp3 1 4 5 fun e he => ?_)
 refine Zaa (Zag ?_)
 refine Zao [ptr rb 0, vI 1073741824] ?_
 refine ZbS (most := 1073741824) h fun τ30 hR31 k32 => ?_
 rw [<- hp] at hR31 ⊢
 have hb5 := k32.keep _ _ ne8 hb5
 have hv6 := k32.used _ hv6
 have hb13 := k32.keep _ _ ne17 hb13
 have hv14 := k32.used _ hv14
 have hb22 := k32.keep _ _ ne27 hb22
 have hv23 := k32.used _ hv23
 refine Zag ?_
 refine Zao [ptr rb 0, vI 1073741824] ?_
 refine ZbS (most := 1073741824) hR31 fun τ33 hR34 k35 => ?_
 rw [<- hq] at hR34 ⊢
 have hb5 := k35.keep _ _ ne8 hb5
 have hv6 := k35.used _ hv6
 have hb13 := k35.keep _ _ ne17 hb13
 have hv14 := k35.used _ hv14
 have hb22 := k35.keep _ _ ne27 hb22
 have hv23 := k35.used _ hv23
 refine Zag ?_
 refine Zag ?_
 refine Zaf (kp5 1 4 5 6 7 fun e he => ?_)
 refine Zaa (Zag ?_)
 refine Zac (Zae (b := b18) (o := 0) he.2.2.1 ZdS rfl ?_)
 refine Zac (Zae (b := b18) (o := 0 + 2) rfl Zdp rfl ?_)
 refine Zac (Zah (b := b18) (o := 0 + 2 + 0) (r := vI bi) rfl hb22 fa9 ZbG rfl ?_)
 refine Zac (ZcW (((p.1 : Nat) : Int)) bi rfl rfl (by omega) (by omega) ?_)
 refine Zac (ZcW (((p.1 : Nat) : Int) - bi) 1 rfl rfl (by omega) (by omega) ?_)
 refine Zag ?_
 refine Zaf (kp5 1 4 5 7 8 fun e he => ?_)
 refine Zaa (Zag ?_)
 refine Zao [ptr rb 0] ?_
 refine Zeu hR34 ?_
 rw [c1]
 refine ZcU ?_
 refine Zag ?_
 refine Zau ?_
 refine Zcb rfl he.2.2.2.2 ?_
 refine Zau ?_
 refine Zae (b := b18) (o := 0) he.2.2.1 ZdS rfl ?_
 refine Zau ?_
 refine Zah (b := b18) (o := 0 + 8) (r := v) rfl hb22 ZiB ZfI rfl ?_
 refine Zau ?_
 obtain ⟨_, hZ, _⟩ := hE.lz (σ := τ33)
 refine Zea rfl hZ rfl Zeb ?_
 refine Zau ?_
 refine Zay (vs := [vI (((p.1 : Nat) : Int) - bi - 1), vI ((es.length : Nat) : Int)]) (by simp only [List.map_cons, List.map_nil, EV,Nat.reduceEqDiff,↓reduceIte,he];try rfl) ?_
 refine Zdk (x := ((p.1 : Nat) : Int) - bi - 1) (m := ((es.length : Nat) : Int)) ?_
 rw [decide_eq_true c2]
 refine Zac (Zaj (v := vT true) rfl rfl ?_)
 refine Zag ?_
 refine Zau ?_
 refine Zcb rfl he.2.2.2.1 ?_
 refine Zau ?_
 refine Zb3 (k := .i64) (a := ((q.1 : Nat) : Int)) (b := 0) rfl rfl ?_
 rw [decide_eq_true c3]
 refine Zac (Zaj (v := vT true) rfl rfl ?_)
 refine Zao [vT true] ?_
 refine Zfe ?_
 refine Zaf (kp5 1 4 5 7 8 fun e he => ?_)
 refine Zaa (Zac (Zae (b := b18) (o := 0) he.2.2.1 ZdS rfl ?_))
 refine Zac (Zah (b := b18) (o := 0 + 8) (r := v) rfl hb22 ZiB ZfI rfl ?_)
 refine Zag ?_
 obtain ⟨aN, haN⟩ : ∃ n : Nat, ((p.1 : Nat) : Int) - bi - 1 = n := ⟨(((p.1 : Nat) : Int) - bi - 1).toNat, by omega⟩
 have haL : aN <= es.length := by omega
 refine Zac (Zph (n := aN) hE rfl (by rw [<- haN]; simp only [EV,Nat.reduceEqDiff,↓reduceIte,he];try rfl) Zeb ZbZ haL fun u36 hu37 => ?_)
 refine Zao [u36] ?_
 obtain ⟨cs0, hZ0, hC1⟩ := hu37.lz (σ := τ33)
 have htl : (es.take aN).length = aN := by rw [List.length_take]; omega
 rw [htl] at hZ0
 refine ZfD hZ0 (by omega) fun a38 τ39 h40 hX41 hn42 => ?_
 have hb5 := hX41.keep _ _ hb5
 have hv6 := hX41.used _ hv6
 have hb13 := hX41.keep _ _ hb13
 have hv14 := hX41.used _ hv14
 have hb22 := hX41.keep _ _ hb22
 have hv23 := hX41.used _ hv23
 have hR34 := hR34.ext hX41
 refine Zag ?_
 refine Zaf (kp5 1 4 5 7 9 fun e he => ?_)
 refine Zab (Zaa (Zag ?_))
 refine Zag ?_
 refine Zaf (kp6 1 4 5 9 44 45 fun e he => ?_)
 refine ZaF ?_
 have z4 : σ.blk b9 = none := (hX7.noneOf hn11)
 have z5 : σ.blk b18 = none := ((hX7.trans hX15).noneOf hn20)
 refine Za4 (fun μ env υ => ∃ (i : Nat) (cur : Option (List UInt8)) (acc : List Ent) (x : AV) (cells : List AV), μ = q.1 - i /\ (env 1 = ptr rb 0 /\ env 4 = ptr b9 0 /\ env 5 = ptr b18 0 /\ env 9 = x /\ env 44 = vI ((q.1 : Nat) : Int) /\ env 45 = vI ((i : Nat) : Int)) /\ i <= q.1 /\ Hd υ 28 7 x (aN + i) cells /\ Zcl cells (es.take aN ++ acc) /\ acc.length = i /\ QAt υ rb cur /\ But (fun c => c = rb) σ υ /\ (∀ c, hbk x = some c -> Za9 σ c) /\ υ.blk b9 = some (.own 77 [vI 0, vI 0, vI 0, vI 0, .lst none 0 0 [], .lst none 0 0 [], .lst none 0 0 [], .lst none 0 0 [], .lst none 0 0 []]) /\ υ.used b9 /\ υ.blk b18 = some (.own 77 [vI t0, vI v0, vI bi, vI bt, a0, a1, a2, a3, v]) /\ υ.used b18 /\ (cur.getD []).length <= 1000000000 /\ (∃ r2, ZcY (q.1 - i) cur = some (r2, st2) /\ acc ++ r2 = r)) ⟨_, 0, q.2, [], a38, cs0, rfl, ⟨by simp only [EV,Nat.reduceEqDiff,↓reduceIte,he];try rfl, by simp only [EV,Nat.reduceEqDiff,↓reduceIte,he];try rfl, by simp only [EV,Nat.reduceEqDiff,↓reduceIte,he];try rfl, by simp only [EV,Nat.reduceEqDiff,↓reduceIte,he];try rfl, by simp only [EV,Nat.reduceEqDiff,↓reduceIte,he];try rfl, by simp only [EV,Nat.reduceEqDiff,↓reduceIte,he];try rfl⟩, Nat.zero_le _, h40, (by rw [List.append_nil]; exact hC1), rfl, hR34, ((((But.ext2 ((((But.refl _ _).trans hX7.but).trans hX15.but).trans hX24.but) (fun g hg => .inr (by rw [hg]; exact (hX7.trans hX15).noneOf hn20)) k29).trans k32).trans k35).trans hX41.but), fun c hc => by have q := hn42 c hc; exact ⟨((((But.ext2 ((((But.refl _ _).trans hX7.but).trans hX15.but).trans hX24.but) (fun g hg => .inr (by rw [hg]; exact (hX7.trans hX15).noneOf hn20)) k29).trans k32).trans k35)).noneOfB (fun b hb => hb ▸ hru) q.2 q.1, fun u => q.2 (((((But.ext2 ((((But.refl _ _).trans hX7.but).trans hX15.but).trans hX24.but) (fun g hg => .inr (by rw [hg]; exact (hX7.trans hX15).noneOf hn20)) k29).trans k32).trans k35)).used _ u)⟩, hb13, hv14, hb22, hv23, hlq, ⟨r, by rw [Nat.sub_zero]; exact hrd0, List.nil_append _⟩⟩ ?_
 clear he e
 rintro _ e υ43 ⟨i, cur, acc, x, cells, rfl, he, p1, g1, gC, gl, hR, kB, nw, hb4, hu4, hb5, hu5, hcl, hrd⟩
 have o44 := g1.off2 hb4 (by decide)
 have o45 := g1.off2 hb5 (by decide)
 have orb : ∀ c, hbk x = some c -> ¬ c = rb := by obtain ⟨_, h1, _⟩ := hR.ex; exact g1.off2 h1 (by decide)
 refine Zaa (Zcf i q.1 ?_)
 refine Zaf (kp7 1 4 5 9 44 45 46 fun e he => ?_)
 refine ZaC (t := decide (i < q.1)) he.2.2.2.2.2.2 (fun ht46 => ?_) (fun ht46 => ?_)
 ·have bht46 := ht46
  have ht46 := of_decide_eq_true bht46
  have hok : (Zbs cur).ok = true := by obtain ⟨r2, hr2, _⟩ := hrd; rw [show q.1 - i = (q.1 - (i + 1)) + 1 by omega] at hr2; by_cases hq6 : (Zbs cur).ok = true; exact hq6; rw [show ZcY (q.1 - (i + 1) + 1) cur = none from if_neg hq6] at hr2; cases hr2
  refine ZaL (ZaF (Zaa (Zag ?_)))
  refine Zao [ptr rb 0] ?_
  refine ZeK hR hcl fun cs46 τ49 hent48 hR50 k51 => ?_
  have hb4 := k51.keep _ _ ne17 hb4
  have hu4 := k51.used _ hu4
  have hb5 := k51.keep _ _ ne27 hb5
  have hu5 := k51.used _ hu5
  have g1 := g1.but k51 orb
  have hent0 := hent48
  obtain ⟨eu, e0, e1, e2, e3, rfl, hTu, hTc⟩ := hent0
  obtain ⟨_, _, _, _, _, y0, y1, y2, y3⟩ := hTc.tis
  refine Zag ?_
  refine Zac (Zaw (l := [.agg [vI ((Zbs cur).e.x), kV (Zbs cur).e.k, eu, e0, e1, e2, e3], vT ((Zbs cur).ok)]) (r := .agg [vI ((Zbs cur).e.x), kV (Zbs cur).e.k, eu, e0, e1, e2, e3]) rfl rfl ?_)
  refine Zac (Zaw (l := [.agg [vI ((Zbs cur).e.x), kV (Zbs cur).e.k, eu, e0, e1, e2, e3], vT ((Zbs cur).ok)]) (r := vT ((Zbs cur).ok)) rfl rfl ?_)
  rw [hok]
  refine Zac (ZaH (cs := [vI 0, .raw (.int .u8 0), .lst none 0 0 [], .lst none 0 0 [], .lst none 0 0 [], .lst none 0 0 [], .lst none 0 0 []]) Zfo rfl fun b52 υ53 hn54 hu55 hb56 hv57 hX58 => ?_)
  have ne59 := Zat hb4 hn54
  have ne60 := Zat hb5 hn54
  have ne61 : b52 ≠ rb := fun q => by obtain ⟨_, h1, _⟩ := hR50.ex; rw [q, h1] at hn54; cases hn54
  have o62 := g1.off hn54
  have hb4 := hX58.keep _ _ hb4
  have hu4 := hX58.used _ hu4
  have hb5 := hX58.keep _ _ hb5
  have hu5 := hX58.used _ hu5
  have g1 := g1.ext hX58
  have hR50 := hR50.ext hX58
  refine Zac (ZaB (b := b52) (o := 0) (u := .agg [vI ((Zbs cur).e.x), kV (Zbs cur).e.k, eu, e0, e1, e2, e3]) (cs' := [vI ((Zbs cur).e.x), kV (Zbs cur).e.k, eu, e0, e1, e2, e3]) rfl rfl hb56 ZbZ (by obtain ⟨_, _, _, rfl, _⟩ := hTu <;> obtain ⟨_, _, rfl, _⟩ := y0 <;> obtain ⟨_, _, rfl, _⟩ := y1 <;> obtain ⟨_, _, rfl, _⟩ := y2 <;> obtain ⟨_, _, rfl, _⟩ := y3 <;> rfl) rfl fun υ63 hb56 k64 => ?_)
  have hb4 := k64.keep _ _ (Ne.symm ne59) hb4
  have hu4 := k64.used _ hu4
  have hb5 := k64.keep _ _ (Ne.symm ne60) hb5
  have hu5 := k64.used _ hu5
  have g1 := g1.but k64 o62
  have hR50 := hR50.but k64 (Ne.symm ne61)
  refine Zag ?_
  refine Zaf (kp8 1 4 5 9 10 11 44 45 fun e he => ?_)
  refine Zaa (Zag ?_)
  refine Zao [vT true] ?_
  refine Zfe ?_
  refine Zaf (kp7 1 4 5 9 10 44 45 fun e he => ?_)
  refine Zad (Zag ?_)
  refine Zac (Zah (b := b52) (o := 0) (r := .agg [vI ((Zbs cur).e.x), kV (Zbs cur).e.k, eu, e0, e1, e2, e3]) he.2.2.2.2.1 hb56 fa8 ZbZ rfl ?_)
  refine Zac (ZaN (vs := [.agg [vI ((Zbs cur).e.x), kV (Zbs cur).e.k, eu, e0, e1, e2, e3]]) (cells := [vI ((Zbs cur).e.x), kV (Zbs cur).e.k, eu, e0, e1, e2, e3]) (by simp only [List.map_cons, List.map_nil, EV,Nat.reduceEqDiff,↓reduceIte,he];try rfl) Zeb ZbZ Zfo rfl (by decide) (by obtain ⟨_, _, _, rfl, _⟩ := hTu <;> obtain ⟨_, _, rfl, _⟩ := y0 <;> obtain ⟨_, _, rfl, _⟩ := y1 <;> obtain ⟨_, _, rfl, _⟩ := y2 <;> obtain ⟨_, _, rfl, _⟩ := y3 <;> rfl) fun b65 hu66 hb67 => ?_)
  have hX68 := Ext.put (.tail 28 (1 * 7) (1 * 7)) hb67
  have ne72 : b65 ≠ rb := fun q => by obtain ⟨_, h1, _⟩ := hR50.ex; rw [q, h1] at hb67; cases hb67
  have o73 := g1.off hb67
  have hb4 := hX68.keep _ _ hb4
  have hu4 := hX68.used _ hu4
  have hb5 := hX68.keep _ _ hb5
  have hu5 := hX68.used _ hu5
  have g1 := g1.ext hX68
  have hR50 := hR50.ext hX68
  refine Zac (ZaZ (m := 1) (news := [vI ((Zbs cur).e.x), kV (Zbs cur).e.k, eu, e0, e1, e2, e3]) (by simp only [EV,Nat.reduceEqDiff,↓reduceIte,he];try rfl) (by simp only [EV,Nat.reduceEqDiff,↓reduceIte,he];try rfl) Zeb ZbZ Zfo ZjY rfl (by omega) g1 (Zcv (rest := []) (m := 1) rfl (fun a ha => by simp only [List.mem_cons, List.not_mem_nil, or_false] at ha; rcases ha with rfl | rfl | rfl | rfl | rfl | rfl | rfl; exact rfl; exact rfl; exact hTu.one.1; exact y0.one.1; exact y1.one.1; exact y2.one.1; exact y3.one.1) (fun q => by cases q)) (by unfold maxLen; omega) (by omega) fun x74 τ75 g76 k77 hn78 => ?_)
  have hb4 := k77.keep _ _ (fun q => o44 _ q rfl) hb4
  have hu4 := k77.used _ hu4
  have hb5 := k77.keep _ _ (fun q => o45 _ q rfl) hb5
  have hu5 := k77.used _ hu5
  have hR50 := hR50.but k77 (fun q => orb _ q rfl)
  refine Zag ?_
  refine Zaf ?_
  show ZaA _ _ _ _ _ _
  refine kp6 1 4 5 9 44 45 fun e he => ?_
  refine Zad (Zby i 1 ?_)
  refine Zag ?_
  refine Zaf ?_
  have hq1i : q.1 - i = (q.1 - (i + 1)) + 1 := by omega
  rw [hq1i] at hrd
  have e5 : ZcY (q.1 - (i + 1) + 1) cur = (ZcY (q.1 - (i + 1)) (Zbs cur).left).map fun r => ((Zbs cur).e :: r.1, r.2) := if_pos hok
  obtain ⟨r2, hr2, hr3⟩ := hrd
  rw [e5] at hr2
  obtain ⟨r3, hr4, hr5⟩ : ∃ r3, ZcY (q.1 - (i + 1)) (Zbs cur).left = some (r3, st2) /\ r2 = (Zbs cur).e :: r3 := by
   cases hq4 : ZcY (q.1 - (i + 1)) (Zbs cur).left with
   | none => rw [hq4] at hr2; cases hr2
   | some w => rw [hq4] at hr2; injection hr2 with hr2; injection hr2 with h1 h2; exact ⟨w.1, by rw [<- h2], h1.symm⟩
  show ∃ n', n' < _ /\ _
  refine ⟨_, (by omega), i + 1, (Zbs cur).left, acc ++ [(Zbs cur).e], x74, _, rfl, ⟨by simp only [EV,Nat.reduceEqDiff,↓reduceIte,he];try rfl, by simp only [EV,Nat.reduceEqDiff,↓reduceIte,he];try rfl, by simp only [EV,Nat.reduceEqDiff,↓reduceIte,he];try rfl, by simp only [EV,Nat.reduceEqDiff,↓reduceIte,he];try rfl, by simp only [EV,Nat.reduceEqDiff,↓reduceIte,he];try rfl, by simp only [EV,Nat.reduceEqDiff,↓reduceIte,he];try rfl⟩, (by omega), g76, (by rw [<- List.append_assoc]; exact gC.append (.one hent48)), (by rw [List.length_append, gl]; rfl), hR50, (But.ext2 ((But.ext2 ((((But.refl _ _).trans kB).trans k51).trans hX58.but) (fun g hg => .inr (by rw [hg]; exact ((((But.refl _ _).trans kB).trans k51)).noneOfB (fun b hb => hb ▸ hru) hu55 hn54)) k64).trans hX68.but) (fun c hc => .inr (nw c hc).1) k77), fun c hc => (hn78 c hc).elim (nw c) fun q => ⟨(((But.ext2 ((((But.refl _ _).trans kB).trans k51).trans hX58.but) (fun g hg => .inr (by rw [hg]; exact ((((But.refl _ _).trans kB).trans k51)).noneOfB (fun b hb => hb ▸ hru) hu55 hn54)) k64).trans hX68.but)).noneOfB (fun b hb => hb ▸ hru) q.2 q.1, fun u => q.2 ((((But.ext2 ((((But.refl _ _).trans kB).trans k51).trans hX58.but) (fun g hg => .inr (by rw [hg]; exact ((((But.refl _ _).trans kB).trans k51)).noneOfB (fun b hb => hb ▸ hru) hu55 hn54)) k64).trans hX68.but)).used _ u)⟩, hb4, hu4, hb5, hu5, (Nat.le_trans entS_len hcl), ⟨r3, hr4, by rw [<- hr3, hr5]; simp⟩⟩
 have bht46 := ht46
 have ht46 := of_decide_eq_false bht46
 obtain rfl : i = q.1 := by omega
 refine Zbu ?_
 show ZaA _ _ _ _ _ _
 refine Zaa (Zag ?_)
 refine Zac (Zae (b := b18) (o := 0) he.2.2.1 ZdS rfl ?_)
 refine Zac (ZaI (b := b18) (o := 0 + 8) (v := x) rfl rfl hb5 ZfI g1.oneV (by simp) fun υ79 hb5 k80 => ?_)
 have hb4 := k80.keep _ _ (Ne.symm ne26) hb4
 have hu4 := k80.used _ hu4
 have g1 := g1.but k80 o45
 have hu5 := k80.used _ hu5
 have hR := hR.but k80 (Ne.symm ne27)
 refine Zaf (kp2 4 5 fun e he => ?_)
 refine Zaa (Zac (Zah (b := b18) (o := 0) (r := .agg [vI t0, vI v0, vI bi, vI bt, a0, a1, a2, a3, x]) he.2 hb5 Zhy Zdx rfl ?_))
 refine Zac (ZaB (b := b9) (o := 0) (u := .agg [vI t0, vI v0, vI bi, vI bt, a0, a1, a2, a3, x]) (cs' := [vI t0, vI v0, vI bi, vI bt, a0, a1, a2, a3, x]) he.1 rfl hb4 Zdx (by obtain ⟨_, _, rfl, _⟩ := z0 <;> obtain ⟨_, _, rfl, _⟩ := z1 <;> obtain ⟨_, _, rfl, _⟩ := z2 <;> obtain ⟨_, _, rfl, _⟩ := z3 <;> rcases g1.2.2 with ⟨rfl | ⟨_, rfl⟩, _⟩ | ⟨_, _, _, _, rfl, _⟩ <;> rfl) rfl fun υ81 hb4 k82 => ?_)
 have hb5 := k82.keep _ _ ne26 hb5
 have hu5 := k82.used _ hu5
 have g1 := g1.but k82 o44
 have hu4 := k82.used _ hu4
 have hR := hR.but k82 (Ne.symm ne17)
 refine Zaf (kp1 4 ?_)
 clear he e
 intro e he
 refine Zap ?_
 rw [Nat.sub_self] at hrd
 obtain ⟨r2, hr2, hr3⟩ := hrd
 have hr2 : some ([], cur) = some (r2, st2) := hr2
 injection hr2 with hr2
 injection hr2 with w1 w2
 subst w1 w2
 rw [List.append_nil] at hr3
 have hN : (((p.1 : Nat) : Int) - bi - 1).toNat = aN := by omega
 have hs3 : s2.es = es.take aN ++ acc := by rw [hs, hr3]; show es.take (((p.1 : Nat) : Int) - bi - 1).toNat ++ r = _; rw [hN]
 have hs4 : s2.es.length = aN + q.1 := by rw [hs3, List.length_append, gl, List.length_take]; omega
 show ∃ r, ZaM _ _ _ _ r /\ _
 exact ⟨_, ZdE rfl (ZaJ he hb4 Zhy Zdx rfl), hK _ _ _ (by rw [hs4]; exact g1) (by rw [hs3]; exact gC) nw hR (But.ext2 (But.ext2 ((But.refl _ _).trans kB) (fun g hg => .inr (by rw [hg]; exact z5)) k80) (fun g hg => .inr (by rw [hg]; exact z4)) k82)⟩
theorem Zj0 {σ0 τ : St} {x : AV} {n : Nat} {cells : List AV} {es : List Ent} (h1 : Hd τ 28 7 x n cells) (hn : n = es.length) (hl : n <= 140737488355328) (h2 : Zcl cells es) (h3 : ∀ c, hbk x = some c -> Za9 σ0 c) : ∃ A c, Zc0 (fun b => hbk x = some b) τ x (.lst A n c cells) /\ EsT (.lst A n c cells) es := by
 obtain ⟨A, c, q1, q2, q3, q4⟩ := h1.lends (G := fun b => hbk x = some b) (fun b hb => hb) (ZcS.refl _)
 subst hn
 exact ⟨A, c, q1, A, c, cells, [], by rw [List.append_nil], ⟨q2, q3, hl, q4⟩, h2⟩
theorem ZdH {G : Nat -> Prop} {σ : St} {x y : AV} (h : Zc0 G σ x y) : ∀ l : List AV, ZcS G σ (l ++ [x]) (l ++ [y])
 | [] => ⟨h, trivial⟩
 | a :: l => ⟨.refl _, ZdH h l⟩
theorem QAt.lent {G : Nat -> Prop} {σ0 τ : St} {rb : Nat} {st : Option (List UInt8)} (h : QAt τ rb st) (hG : ∀ c, G c -> c ≠ rb) : QAt (Zdq G τ) rb st := by
 obtain ⟨v, h1, h2⟩ := h.ex
 refine ⟨⟨v, ?_, h2⟩, h.used⟩
 rw [Zbb (fun q => hG _ q rfl)]
 exact h1
theorem Zne {U G : Nat -> Prop} {σ τ : St} (h : But U σ τ) (hG : ∀ c, G c -> Za9 σ c) : But U σ (Zdq G τ) := ⟨fun c k hU hk => by
 rw [Zbb (fun q => by have := (hG c q).1; rw [hk] at this; cases this)]
 exact h.keep _ _ hU hk, fun c hc => h.used _ hc⟩
theorem ZlD {rb : Nat} {st : Option (List UInt8)} {t0 v0 bi bt : Int} {a0 a1 a2 a3 v : AV} {bc : List (List Int)} {es : List Ent} (hC : ZcJ [a0, a1, a2, a3] bc) (hE : EsT v es) (hbi : 0 <= bi /\ bi <= 1073741824) (hes : es.length <= 1000000000) (hlen : (st.getD []).length <= 1000000000) (h : QAt σ rb st) {s2 : JSt} {st2 : Option (List UInt8)} (h0 : ZcO ⟨t0, v0, bi, bt, bc, es⟩ st = some (s2, st2)) (hl2 : s2.es.length <= 140737488355328)
 (hK : ∀ cs τ, JT cs s2 -> QAt τ rb st2 -> But (fun c => c = rb) σ τ -> K (.agg cs) τ) : Zan Tryz.prog 127 [.agg [vI t0, vI v0, vI bi, vI bt, a0, a1, a2, a3, v], ptr rb 0] σ K :=
 Zan.tell (ZjZ hC hE hbi hes hlen h h0 fun x cells τ g1 g2 g3 g4 g5 => by
  obtain ⟨A, c, q1, q2⟩ := Zj0 g1 rfl hl2 g2 g3
  obtain ⟨_, r, _, hs⟩ := Zd6 rfl rfl h0
  refine ⟨_, _, Zc0.agg (ZdH q1 [vI t0, vI v0, vI bi, vI bt, a0, a1, a2, a3]), hK _ _ ?_ (g4.lent (σ0 := σ) fun c hc q => ?_) (Zne g5 g3)⟩
  ·rw [hs] at q2 ⊢
   exact ⟨_, _, _, _, _, rfl, hC, q2⟩
  ·have := (g3 c hc).2
   rw [q] at this
   exact this h.used)
set_option maxHeartbeats 1000000 in
theorem Zjm {rb : Nat} {st : Option (List UInt8)} {t0 v0 bi bt : Int} {a0 a1 a2 a3 v : AV} {bc : List (List Int)} {es : List Ent} (hC : ZcJ [a0, a1, a2, a3] bc) (hE : EsT v es) (hbi : 0 <= bi /\ bi <= 1073741824) (hes : es.length <= 1000000000) (hlen : (st.getD []).length <= 1000000000) (h : QAt σ rb st) (h0 : ZcO ⟨t0, v0, bi, bt, bc, es⟩ st = none) (hK : ∀ τ, But (fun c => c = rb) σ τ -> Kp Znd τ) : ZdD Tryz.prog 127 [.agg [vI t0, vI v0, vI bi, vI bt, a0, a1, a2, a3, v], ptr rb 0] σ Kp := by
 have hC0 := hC
 obtain ⟨l0, l1, l2, l3, rfl, z0, z1, z2, z3⟩ := hC.tis
 have hru := h.used
 obtain ⟨p, hp⟩ : ∃ p, p = Zbr 1073741824 st := ⟨_, rfl⟩
 obtain ⟨q, hq⟩ : ∃ q, q = Zbr 1073741824 p.2 := ⟨_, rfl⟩
 have hp1 : p.1 <= 1073741824 := by rw [hp]; exact ZcH.1
 have hq1 : q.1 <= 1073741824 := by rw [hq]; exact ZcH.1
 have hlq : (q.2.getD []).length <= 1000000000 := by have h1 := ZbN (m := 1073741824) (st := st); rw [<- hp] at h1; have h2 := ZbN (m := 1073741824) (st := p.2); rw [<- hq] at h2; omega
 have hn0 := Zit hp hq h0
 refine Zhj Zam Tryz.func127 rfl rfl rfl (Nat.le_of_ble_eq_true rfl) ?_
 refine ZbL 0 1 (v0 := .agg [vI t0, vI v0, vI bi, vI bt, a0, a1, a2, a3, v]) (v1 := ptr rb 0) rfl rfl ?_
 intro e he
 refine Zaa (Zac (Zbn (cs := [vI t0, vI v0, vI bi, vI bt, a0, a1, a2, a3, v]) (v := .agg [vI t0, vI v0, vI bi, vI bt, a0, a1, a2, a3, v]) he.1 rfl fun b83 υ84 hn85 hu86 hb87 hv88 hX89 => ?_))
 have ne90 : b83 ≠ rb := fun q => by obtain ⟨_, h1, _⟩ := h.ex; rw [q, h1] at hn85; cases hn85
 have h := h.ext hX89
 refine Zac (ZaH (cs := [vI 0, vI 0, vI 0, vI 0, .lst none 0 0 [], .lst none 0 0 [], .lst none 0 0 [], .lst none 0 0 [], .lst none 0 0 []]) Zgq rfl fun b91 υ92 hn93 hu94 hb95 hv96 hX97 => ?_)
 have ne98 := Zat hb87 hn93
 have ne99 : b91 ≠ rb := fun q => by obtain ⟨_, h1, _⟩ := h.ex; rw [q, h1] at hn93; cases hn93
 have hb87 := hX97.keep _ _ hb87
 have hv88 := hX97.used _ hv88
 have h := h.ext hX97
 refine Zaf (kp3 1 2 4 fun e he => ?_)
 refine Zaa (Zac (Zae (b := b83) (o := 0) he.2.1 Zo3 rfl ?_))
 refine Zac (Zah (b := b83) (o := 0 + 0) (r := .agg [vI t0, vI v0, vI bi, vI bt, a0, a1, a2, a3, v]) rfl hb87 Zhy Zdx rfl ?_)
 refine Zac (ZaH (cs := [vI 0, vI 0, vI 0, vI 0, .lst none 0 0 [], .lst none 0 0 [], .lst none 0 0 [], .lst none 0 0 [], .lst none 0 0 []]) Zgq rfl fun b100 υ101 hn102 hu103 hb104 hv105 hX106 => ?_)
 have ne107 := Zat hb87 hn102
 have ne108 := Zat hb95 hn102
 have ne109 : b100 ≠ rb := fun q => by obtain ⟨_, h1, _⟩ := h.ex; rw [q, h1] at hn102; cases hn102
 have hb87 := hX106.keep _ _ hb87
 have hv88 := hX106.used _ hv88
 have hb95 := hX106.keep _ _ hb95
 have hv96 := hX106.used _ hv96
 have h := h.ext hX106
 refine Zac (ZaB (b := b100) (o := 0) (u := .agg [vI t0, vI v0, vI bi, vI bt, a0, a1, a2, a3, v]) (cs' := [vI t0, vI v0, vI bi, vI bt, a0, a1, a2, a3, v]) rfl rfl hb104 Zdx (by obtain ⟨_, _, rfl, _⟩ := z0 <;> obtain ⟨_, _, rfl, _⟩ := z1 <;> obtain ⟨_, _, rfl, _⟩ := z2 <;> obtain ⟨_, _, rfl, _⟩ := z3 <;> obtain ⟨_, _, _, _, rfl, _⟩ := hE <;> rfl) rfl fun υ110 hb104 k111 => ?_)
 have hb87 := k111.keep _ _ (Ne.symm ne107) hb87
 have hv88 := k111.used _ hv88
 have hb95 := k111.keep _ _ (Ne.symm ne108) hb95
 have hv96 := k111.used _ hv96
 have hv105 := k111.used _ hv105
 have h := h.but k111 (Ne.symm ne109)
 refine Zaf (kp3 1 4 5 fun e he => ?_)
 refine Zaa (Zag ?_)
 refine Zao [ptr rb 0, vI 1073741824] ?_
 refine ZbS (most := 1073741824) h fun τ112 hR113 k114 => ?_
 rw [<- hp] at hR113 ⊢
 have hb87 := k114.keep _ _ ne90 hb87
 have hv88 := k114.used _ hv88
 have hb95 := k114.keep _ _ ne99 hb95
 have hv96 := k114.used _ hv96
 have hb104 := k114.keep _ _ ne109 hb104
 have hv105 := k114.used _ hv105
 refine Zag ?_
 refine Zao [ptr rb 0, vI 1073741824] ?_
 refine ZbS (most := 1073741824) hR113 fun τ115 hR116 k117 => ?_
 rw [<- hq] at hR116 ⊢
 have hb87 := k117.keep _ _ ne90 hb87
 have hv88 := k117.used _ hv88
 have hb95 := k117.keep _ _ ne99 hb95
 have hv96 := k117.used _ hv96
 have hb104 := k117.keep _ _ ne109 hb104
 have hv105 := k117.used _ hv105
 refine Zag ?_
 refine Zag ?_
 refine Zaf (kp5 1 4 5 6 7 fun e he => ?_)
 refine Zaa (Zag ?_)
 refine Zac (Zae (b := b100) (o := 0) he.2.2.1 ZdS rfl ?_)
 refine Zac (Zae (b := b100) (o := 0 + 2) rfl Zdp rfl ?_)
 refine Zac (Zah (b := b100) (o := 0 + 2 + 0) (r := vI bi) rfl hb104 fa9 ZbG rfl ?_)
 refine Zac (ZcW (((p.1 : Nat) : Int)) bi rfl rfl (by omega) (by omega) ?_)
 refine Zac (ZcW (((p.1 : Nat) : Int) - bi) 1 rfl rfl (by omega) (by omega) ?_)
 refine Zag ?_
 refine Zaf (kp5 1 4 5 7 8 fun e he => ?_)
 by_cases hcnd : (q.2.isNone = false /\ (0 <= ((p.1 : Nat) : Int) - bi - 1 /\ ((p.1 : Nat) : Int) - bi - 1 <= ((es.length : Nat) : Int)) /\ (0 : Int) < ((q.1 : Nat) : Int))
 ·obtain ⟨c1, c2, c3⟩ := hcnd
  have hrd0 : ZcY q.1 q.2 = none := hn0.elim (fun q => absurd ⟨c1, c2, c3⟩ q) id
  refine Zaa (Zag ?_)
  refine Zao [ptr rb 0] ?_
  refine Zeu hR116 ?_
  rw [c1]
  refine ZcU ?_
  refine Zag ?_
  refine Zau ?_
  refine Zcb rfl he.2.2.2.2 ?_
  refine Zau ?_
  refine Zae (b := b100) (o := 0) he.2.2.1 ZdS rfl ?_
  refine Zau ?_
  refine Zah (b := b100) (o := 0 + 8) (r := v) rfl hb104 ZiB ZfI rfl ?_
  refine Zau ?_
  obtain ⟨_, hZ, _⟩ := hE.lz (σ := τ115)
  refine Zea rfl hZ rfl Zeb ?_
  refine Zau ?_
  refine Zay (vs := [vI (((p.1 : Nat) : Int) - bi - 1), vI ((es.length : Nat) : Int)]) (by simp only [List.map_cons, List.map_nil, EV,Nat.reduceEqDiff,↓reduceIte,he];try rfl) ?_
  refine Zdk (x := ((p.1 : Nat) : Int) - bi - 1) (m := ((es.length : Nat) : Int)) ?_
  rw [decide_eq_true c2]
  refine Zac (Zaj (v := vT true) rfl rfl ?_)
  refine Zag ?_
  refine Zau ?_
  refine Zcb rfl he.2.2.2.1 ?_
  refine Zau ?_
  refine Zb3 (k := .i64) (a := ((q.1 : Nat) : Int)) (b := 0) rfl rfl ?_
  rw [decide_eq_true c3]
  refine Zac (Zaj (v := vT true) rfl rfl ?_)
  refine Zao [vT true] ?_
  refine Zfe ?_
  refine Zaf (kp5 1 4 5 7 8 fun e he => ?_)
  refine Zaa (Zac (Zae (b := b100) (o := 0) he.2.2.1 ZdS rfl ?_))
  refine Zac (Zah (b := b100) (o := 0 + 8) (r := v) rfl hb104 ZiB ZfI rfl ?_)
  refine Zag ?_
  obtain ⟨aN, haN⟩ : ∃ n : Nat, ((p.1 : Nat) : Int) - bi - 1 = n := ⟨(((p.1 : Nat) : Int) - bi - 1).toNat, by omega⟩
  have haL : aN <= es.length := by omega
  refine Zac (Zph (n := aN) hE rfl (by rw [<- haN]; simp only [EV,Nat.reduceEqDiff,↓reduceIte,he];try rfl) Zeb ZbZ haL fun u118 hu119 => ?_)
  refine Zao [u118] ?_
  obtain ⟨cs0, hZ0, hC1⟩ := hu119.lz (σ := τ115)
  have htl : (es.take aN).length = aN := by rw [List.length_take]; omega
  rw [htl] at hZ0
  refine ZfD hZ0 (by omega) fun a120 τ121 h122 hX123 hn124 => ?_
  have hb95 := hX123.keep _ _ hb95
  have hv96 := hX123.used _ hv96
  have hb104 := hX123.keep _ _ hb104
  have hv105 := hX123.used _ hv105
  have hR116 := hR116.ext hX123
  refine Zag ?_
  refine Zaf (kp5 1 4 5 7 9 fun e he => ?_)
  refine Zab (Zaa (Zag ?_))
  refine Zag ?_
  refine Zaf (kp6 1 4 5 9 44 45 fun e he => ?_)
  refine ZaF ?_
  have z4 : σ.blk b91 = none := (hX89.noneOf hn93)
  have z5 : σ.blk b100 = none := ((hX89.trans hX97).noneOf hn102)
  refine Za4 (fun μ env υ => ∃ (i : Nat) (cur : Option (List UInt8)) (acc : List Ent) (x : AV) (cells : List AV), μ = q.1 - i /\ (env 1 = ptr rb 0 /\ env 4 = ptr b91 0 /\ env 5 = ptr b100 0 /\ env 9 = x /\ env 44 = vI ((q.1 : Nat) : Int) /\ env 45 = vI ((i : Nat) : Int)) /\ i <= q.1 /\ Hd υ 28 7 x (aN + i) cells /\ Zcl cells (es.take aN ++ acc) /\ acc.length = i /\ QAt υ rb cur /\ But (fun c => c = rb) σ υ /\ (∀ c, hbk x = some c -> Za9 σ c) /\ υ.blk b91 = some (.own 77 [vI 0, vI 0, vI 0, vI 0, .lst none 0 0 [], .lst none 0 0 [], .lst none 0 0 [], .lst none 0 0 [], .lst none 0 0 []]) /\ υ.used b91 /\ υ.blk b100 = some (.own 77 [vI t0, vI v0, vI bi, vI bt, a0, a1, a2, a3, v]) /\ υ.used b100 /\ (cur.getD []).length <= 1000000000 /\ ZcY (q.1 - i) cur = none) ⟨_, 0, q.2, [], a120, cs0, rfl, ⟨by simp only [EV,Nat.reduceEqDiff,↓reduceIte,he];try rfl, by simp only [EV,Nat.reduceEqDiff,↓reduceIte,he];try rfl, by simp only [EV,Nat.reduceEqDiff,↓reduceIte,he];try rfl, by simp only [EV,Nat.reduceEqDiff,↓reduceIte,he];try rfl, by simp only [EV,Nat.reduceEqDiff,↓reduceIte,he];try rfl, by simp only [EV,Nat.reduceEqDiff,↓reduceIte,he];try rfl⟩, Nat.zero_le _, h122, (by rw [List.append_nil]; exact hC1), rfl, hR116, ((((But.ext2 ((((But.refl _ _).trans hX89.but).trans hX97.but).trans hX106.but) (fun g hg => .inr (by rw [hg]; exact (hX89.trans hX97).noneOf hn102)) k111).trans k114).trans k117).trans hX123.but), fun c hc => by have q := hn124 c hc; exact ⟨((((But.ext2 ((((But.refl _ _).trans hX89.but).trans hX97.but).trans hX106.but) (fun g hg => .inr (by rw [hg]; exact (hX89.trans hX97).noneOf hn102)) k111).trans k114).trans k117)).noneOfB (fun b hb => hb ▸ hru) q.2 q.1, fun u => q.2 (((((But.ext2 ((((But.refl _ _).trans hX89.but).trans hX97.but).trans hX106.but) (fun g hg => .inr (by rw [hg]; exact (hX89.trans hX97).noneOf hn102)) k111).trans k114).trans k117)).used _ u)⟩, hb95, hv96, hb104, hv105, hlq, (by rw [Nat.sub_zero]; exact hrd0)⟩ ?_
  clear he e
  rintro _ e υ125 ⟨i, cur, acc, x, cells, rfl, he, p1, g1, gC, gl, hR, kB, nw, hb4, hu4, hb5, hu5, hcl, hrd⟩
  have o126 := g1.off2 hb4 (by decide)
  have o127 := g1.off2 hb5 (by decide)
  have orb : ∀ c, hbk x = some c -> ¬ c = rb := by obtain ⟨_, h1, _⟩ := hR.ex; exact g1.off2 h1 (by decide)
  refine Zaa (Zcf i q.1 ?_)
  refine Zaf (kp7 1 4 5 9 44 45 46 fun e he => ?_)
  refine ZaC (t := decide (i < q.1)) he.2.2.2.2.2.2 (fun ht46 => ?_) (fun ht46 => ?_)
  ·have bht46 := ht46
   have ht46 := of_decide_eq_true bht46
   refine ZaL (ZaF ?_)
   by_cases hok : (Zbs cur).ok = true
   ·refine Zaa ?_
    refine Zag ?_
    refine Zao [ptr rb 0] ?_
    refine ZeK hR hcl fun cs128 τ131 hent130 hR132 k133 => ?_
    have hb4 := k133.keep _ _ ne99 hb4
    have hu4 := k133.used _ hu4
    have hb5 := k133.keep _ _ ne109 hb5
    have hu5 := k133.used _ hu5
    have g1 := g1.but k133 orb
    have hent0 := hent130
    obtain ⟨eu, e0, e1, e2, e3, rfl, hTu, hTc⟩ := hent0
    obtain ⟨_, _, _, _, _, y0, y1, y2, y3⟩ := hTc.tis
    refine Zag ?_
    refine Zac (Zaw (l := [.agg [vI ((Zbs cur).e.x), kV (Zbs cur).e.k, eu, e0, e1, e2, e3], vT ((Zbs cur).ok)]) (r := .agg [vI ((Zbs cur).e.x), kV (Zbs cur).e.k, eu, e0, e1, e2, e3]) rfl rfl ?_)
    refine Zac (Zaw (l := [.agg [vI ((Zbs cur).e.x), kV (Zbs cur).e.k, eu, e0, e1, e2, e3], vT ((Zbs cur).ok)]) (r := vT ((Zbs cur).ok)) rfl rfl ?_)
    rw [hok]
    refine Zac (ZaH (cs := [vI 0, .raw (.int .u8 0), .lst none 0 0 [], .lst none 0 0 [], .lst none 0 0 [], .lst none 0 0 [], .lst none 0 0 []]) Zfo rfl fun b134 υ135 hn136 hu137 hb138 hv139 hX140 => ?_)
    have ne141 := Zat hb4 hn136
    have ne142 := Zat hb5 hn136
    have ne143 : b134 ≠ rb := fun q => by obtain ⟨_, h1, _⟩ := hR132.ex; rw [q, h1] at hn136; cases hn136
    have o144 := g1.off hn136
    have hb4 := hX140.keep _ _ hb4
    have hu4 := hX140.used _ hu4
    have hb5 := hX140.keep _ _ hb5
    have hu5 := hX140.used _ hu5
    have g1 := g1.ext hX140
    have hR132 := hR132.ext hX140
    refine Zac (ZaB (b := b134) (o := 0) (u := .agg [vI ((Zbs cur).e.x), kV (Zbs cur).e.k, eu, e0, e1, e2, e3]) (cs' := [vI ((Zbs cur).e.x), kV (Zbs cur).e.k, eu, e0, e1, e2, e3]) rfl rfl hb138 ZbZ (by obtain ⟨_, _, _, rfl, _⟩ := hTu <;> obtain ⟨_, _, rfl, _⟩ := y0 <;> obtain ⟨_, _, rfl, _⟩ := y1 <;> obtain ⟨_, _, rfl, _⟩ := y2 <;> obtain ⟨_, _, rfl, _⟩ := y3 <;> rfl) rfl fun υ145 hb138 k146 => ?_)
    have hb4 := k146.keep _ _ (Ne.symm ne141) hb4
    have hu4 := k146.used _ hu4
    have hb5 := k146.keep _ _ (Ne.symm ne142) hb5
    have hu5 := k146.used _ hu5
    have g1 := g1.but k146 o144
    have hR132 := hR132.but k146 (Ne.symm ne143)
    refine Zag ?_
    refine Zaf (kp8 1 4 5 9 10 11 44 45 fun e he => ?_)
    refine Zaa (Zag ?_)
    refine Zao [vT true] ?_
    refine Zfe ?_
    refine Zaf (kp7 1 4 5 9 10 44 45 fun e he => ?_)
    refine Zad (Zag ?_)
    refine Zac (Zah (b := b134) (o := 0) (r := .agg [vI ((Zbs cur).e.x), kV (Zbs cur).e.k, eu, e0, e1, e2, e3]) he.2.2.2.2.1 hb138 fa8 ZbZ rfl ?_)
    refine Zac (ZaN (vs := [.agg [vI ((Zbs cur).e.x), kV (Zbs cur).e.k, eu, e0, e1, e2, e3]]) (cells := [vI ((Zbs cur).e.x), kV (Zbs cur).e.k, eu, e0, e1, e2, e3]) (by simp only [List.map_cons, List.map_nil, EV,Nat.reduceEqDiff,↓reduceIte,he];try rfl) Zeb ZbZ Zfo rfl (by decide) (by obtain ⟨_, _, _, rfl, _⟩ := hTu <;> obtain ⟨_, _, rfl, _⟩ := y0 <;> obtain ⟨_, _, rfl, _⟩ := y1 <;> obtain ⟨_, _, rfl, _⟩ := y2 <;> obtain ⟨_, _, rfl, _⟩ := y3 <;> rfl) fun b147 hu148 hb149 => ?_)
    have hX150 := Ext.put (.tail 28 (1 * 7) (1 * 7)) hb149
    have ne154 : b147 ≠ rb := fun q => by obtain ⟨_, h1, _⟩ := hR132.ex; rw [q, h1] at hb149; cases hb149
    have o155 := g1.off hb149
    have hb4 := hX150.keep _ _ hb4
    have hu4 := hX150.used _ hu4
    have hb5 := hX150.keep _ _ hb5
    have hu5 := hX150.used _ hu5
    have g1 := g1.ext hX150
    have hR132 := hR132.ext hX150
    refine Zac (ZaZ (m := 1) (news := [vI ((Zbs cur).e.x), kV (Zbs cur).e.k, eu, e0, e1, e2, e3]) (by simp only [EV,Nat.reduceEqDiff,↓reduceIte,he];try rfl) (by simp only [EV,Nat.reduceEqDiff,↓reduceIte,he];try rfl) Zeb ZbZ Zfo ZjY rfl (by omega) g1 (Zcv (rest := []) (m := 1) rfl (fun a ha => by simp only [List.mem_cons, List.not_mem_nil, or_false] at ha; rcases ha with rfl | rfl | rfl | rfl | rfl | rfl | rfl; exact rfl; exact rfl; exact hTu.one.1; exact y0.one.1; exact y1.one.1; exact y2.one.1; exact y3.one.1) (fun q => by cases q)) (by unfold maxLen; omega) (by omega) fun x156 τ157 g158 k159 hn160 => ?_)
    have hb4 := k159.keep _ _ (fun q => o126 _ q rfl) hb4
    have hu4 := k159.used _ hu4
    have hb5 := k159.keep _ _ (fun q => o127 _ q rfl) hb5
    have hu5 := k159.used _ hu5
    have hR132 := hR132.but k159 (fun q => orb _ q rfl)
    refine Zag ?_
    refine Zaf ?_
    show ZaA _ _ _ _ _ _
    refine kp6 1 4 5 9 44 45 fun e he => ?_
    refine Zad (Zby i 1 ?_)
    refine Zag ?_
    refine Zaf ?_
    have hq1i : q.1 - i = (q.1 - (i + 1)) + 1 := by omega
    rw [hq1i] at hrd
    have e5 : ZcY (q.1 - (i + 1) + 1) cur = (ZcY (q.1 - (i + 1)) (Zbs cur).left).map fun r => ((Zbs cur).e :: r.1, r.2) := if_pos hok
    rw [e5] at hrd
    have hr4 : ZcY (q.1 - (i + 1)) (Zbs cur).left = none := by
     cases hq4 : ZcY (q.1 - (i + 1)) (Zbs cur).left with
     | none => rfl
     | some w => rw [hq4] at hrd; cases hrd
    show ∃ n', n' < _ /\ _
    refine ⟨_, (by omega), i + 1, (Zbs cur).left, acc ++ [(Zbs cur).e], x156, _, rfl, ⟨by simp only [EV,Nat.reduceEqDiff,↓reduceIte,he];try rfl, by simp only [EV,Nat.reduceEqDiff,↓reduceIte,he];try rfl, by simp only [EV,Nat.reduceEqDiff,↓reduceIte,he];try rfl, by simp only [EV,Nat.reduceEqDiff,↓reduceIte,he];try rfl, by simp only [EV,Nat.reduceEqDiff,↓reduceIte,he];try rfl, by simp only [EV,Nat.reduceEqDiff,↓reduceIte,he];try rfl⟩, (by omega), g158, (by rw [<- List.append_assoc]; exact gC.append (.one hent130)), (by rw [List.length_append, gl]; rfl), hR132, (But.ext2 ((But.ext2 ((((But.refl _ _).trans kB).trans k133).trans hX140.but) (fun g hg => .inr (by rw [hg]; exact ((((But.refl _ _).trans kB).trans k133)).noneOfB (fun b hb => hb ▸ hru) hu137 hn136)) k146).trans hX150.but) (fun c hc => .inr (nw c hc).1) k159), fun c hc => (hn160 c hc).elim (nw c) fun q => ⟨(((But.ext2 ((((But.refl _ _).trans kB).trans k133).trans hX140.but) (fun g hg => .inr (by rw [hg]; exact ((((But.refl _ _).trans kB).trans k133)).noneOfB (fun b hb => hb ▸ hru) hu137 hn136)) k146).trans hX150.but)).noneOfB (fun b hb => hb ▸ hru) q.2 q.1, fun u => q.2 ((((But.ext2 ((((But.refl _ _).trans kB).trans k133).trans hX140.but) (fun g hg => .inr (by rw [hg]; exact ((((But.refl _ _).trans kB).trans k133)).noneOfB (fun b hb => hb ▸ hru) hu137 hn136)) k146).trans hX150.but)).used _ u)⟩, hb4, hu4, hb5, hu5, (Nat.le_trans entS_len hcl), hr4⟩
   have hok : (Zbs cur).ok = false := by simpa using hok
   refine Zaa (Zag ?_)
   refine Zao [ptr rb 0] ?_
   refine ZeK hR hcl fun cs161 τ164 hent163 hR165 k166 => ?_
   have g1 := g1.but k166 orb
   have hent0 := hent163
   obtain ⟨eu, e0, e1, e2, e3, rfl, hTu, hTc⟩ := hent0
   obtain ⟨_, _, _, _, _, y0, y1, y2, y3⟩ := hTc.tis
   refine Zag ?_
   refine Zac (Zaw (l := [.agg [vI ((Zbs cur).e.x), kV (Zbs cur).e.k, eu, e0, e1, e2, e3], vT ((Zbs cur).ok)]) (r := .agg [vI ((Zbs cur).e.x), kV (Zbs cur).e.k, eu, e0, e1, e2, e3]) rfl rfl ?_)
   refine Zac (Zaw (l := [.agg [vI ((Zbs cur).e.x), kV (Zbs cur).e.k, eu, e0, e1, e2, e3], vT ((Zbs cur).ok)]) (r := vT ((Zbs cur).ok)) rfl rfl ?_)
   rw [hok]
   refine Zac (ZaH (cs := [vI 0, .raw (.int .u8 0), .lst none 0 0 [], .lst none 0 0 [], .lst none 0 0 [], .lst none 0 0 [], .lst none 0 0 []]) Zfo rfl fun b167 υ168 hn169 hu170 hb171 hv172 hX173 => ?_)
   have ne176 : b167 ≠ rb := fun q => by obtain ⟨_, h1, _⟩ := hR165.ex; rw [q, h1] at hn169; cases hn169
   have o177 := g1.off hn169
   refine Zac (ZaB (b := b167) (o := 0) (u := .agg [vI ((Zbs cur).e.x), kV (Zbs cur).e.k, eu, e0, e1, e2, e3]) (cs' := [vI ((Zbs cur).e.x), kV (Zbs cur).e.k, eu, e0, e1, e2, e3]) rfl rfl hb171 ZbZ (by obtain ⟨_, _, _, rfl, _⟩ := hTu <;> obtain ⟨_, _, rfl, _⟩ := y0 <;> obtain ⟨_, _, rfl, _⟩ := y1 <;> obtain ⟨_, _, rfl, _⟩ := y2 <;> obtain ⟨_, _, rfl, _⟩ := y3 <;> rfl) rfl fun υ178 hb171 k179 => ?_)
   refine Zag ?_
   refine Zaf (kp8 1 4 5 9 10 11 44 45 ?_)
   clear he e
   intro e he
   refine Zjl 1 ?_
   simp only [List.take_succ_cons, List.take_zero]
   refine Zag ?_
   refine Zaf (ZjX (vs := [vT false]) (by simp only [List.map_cons, List.map_nil, EV,Nat.reduceEqDiff,↓reduceIte,he];try rfl) ?_)
   exact Zdl (hK _ (But.ext2 ((((But.refl _ _).trans kB).trans k166).trans hX173.but) (fun g hg => .inr (by rw [hg]; exact ((((But.refl _ _).trans kB).trans k166)).noneOfB (fun b hb => hb ▸ hru) hu170 hn169)) k179))
  have bht46 := ht46
  have ht46 := of_decide_eq_false bht46
  obtain rfl : i = q.1 := by omega
  rw [Nat.sub_self] at hrd
  cases hrd
 refine Zjl 14 ?_
 simp only [List.take_succ_cons, List.take_zero]
 refine Zag ?_
 refine Zao [ptr rb 0] ?_
 refine Zeu hR116 ?_
 refine ZcU ?_
 refine Zag ?_
 cases hg180 : !q.2.isNone with
 | false =>
  have bhg180 : (q.2.isNone) = true := by rw [<- Bool.not_not (q.2.isNone), hg180]; rfl
  refine Zal ?_
  refine Zal ?_
  refine Zal ?_
  refine Zal ?_
  refine Zal ?_
  refine Zac (Zak (v := vT false) rfl rfl ?_)
  refine Zag ?_
  refine Zal ?_
  refine Zal ?_
  refine Zac (Zak (v := vT false) rfl rfl ?_)
  refine Zaf (ZjX (vs := [vT false]) (by simp only [List.map_cons, List.map_nil, EV,Nat.reduceEqDiff,↓reduceIte,he];try rfl) ?_)
  exact Zdl (hK _ (((But.ext2 ((((But.refl _ _).trans hX89.but).trans hX97.but).trans hX106.but) (fun g hg => .inr (by rw [hg]; exact (hX89.trans hX97).noneOf hn102)) k111).trans k114).trans k117))
 | true =>
  have bhg180 : (q.2.isNone) = false := by rw [<- Bool.not_not (q.2.isNone), hg180]; rfl
  refine Zau ?_
  refine Zcb rfl he.2.2.2.2 ?_
  refine Zau ?_
  refine Zae (b := b100) (o := 0) he.2.2.1 ZdS rfl ?_
  refine Zau ?_
  refine Zah (b := b100) (o := 0 + 8) (r := v) rfl hb104 ZiB ZfI rfl ?_
  refine Zau ?_
  obtain ⟨_, hZ, _⟩ := hE.lz (σ := τ115)
  refine Zea rfl hZ rfl Zeb ?_
  refine Zau ?_
  refine Zay (vs := [vI (((p.1 : Nat) : Int) - bi - 1), vI ((es.length : Nat) : Int)]) (by simp only [List.map_cons, List.map_nil, EV,Nat.reduceEqDiff,↓reduceIte,he];try rfl) ?_
  refine Zdk (x := ((p.1 : Nat) : Int) - bi - 1) (m := ((es.length : Nat) : Int)) ?_
  refine Zac (Zaj (v := vT (decide (0 <= ((p.1 : Nat) : Int) - bi - 1 /\ ((p.1 : Nat) : Int) - bi - 1 <= ((es.length : Nat) : Int)))) rfl rfl ?_)
  refine Zag ?_
  cases hg181 : decide (0 <= ((p.1 : Nat) : Int) - bi - 1 /\ ((p.1 : Nat) : Int) - bi - 1 <= ((es.length : Nat) : Int)) with
  | false =>
   have bhg181 := hg181
   have hg181 := of_decide_eq_false bhg181
   refine Zal ?_
   refine Zal ?_
   refine Zac (Zak (v := vT false) rfl rfl ?_)
   refine Zaf (ZjX (vs := [vT false]) (by simp only [List.map_cons, List.map_nil, EV,Nat.reduceEqDiff,↓reduceIte,he];try rfl) ?_)
   exact Zdl (hK _ (((But.ext2 ((((But.refl _ _).trans hX89.but).trans hX97.but).trans hX106.but) (fun g hg => .inr (by rw [hg]; exact (hX89.trans hX97).noneOf hn102)) k111).trans k114).trans k117))
  | true =>
   have bhg181 := hg181
   have hg181 := of_decide_eq_true bhg181
   refine Zau ?_
   refine Zcb rfl he.2.2.2.1 ?_
   refine Zau ?_
   refine Zb3 (k := .i64) (a := ((q.1 : Nat) : Int)) (b := 0) rfl rfl ?_
   refine Zac (Zaj (v := vT (decide ((0 : Int) < ((q.1 : Nat) : Int)))) rfl rfl ?_)
   refine Zaf ?_
   by_cases hz : ((0 : Int) < ((q.1 : Nat) : Int))
   ·exact absurd ⟨bhg180, hg181, hz⟩ hcnd
   refine ZjX (vs := [vT (decide ((0 : Int) < ((q.1 : Nat) : Int)))]) (by simp only [List.map_cons, List.map_nil, EV,Nat.reduceEqDiff,↓reduceIte,he];try rfl) ?_
   rw [decide_eq_false hz]
   exact Zdl (hK _ (((But.ext2 ((((But.refl _ _).trans hX89.but).trans hX97.but).trans hX106.but) (fun g hg => .inr (by rw [hg]; exact (hX89.trans hX97).noneOf hn102)) k111).trans k114).trans k117))
end
section
variable {σ : St} {K : AV -> St -> Prop}
theorem ZkU {P : Program} {O : Nat -> Prop} {c1 c : Code} {Q : Zdn} {e : Env} {τ : St} (F : Env -> St -> Prop) (h : ZaA P O c1 (Zfk F Q) e τ) (hk : ∀ e τ, F e τ -> ZaA P O c Q e τ) : ZaA P O (.seq c1 c) Q e τ := by
 show ZaA P O c1 (Zfk (ZaA P O c Q) Q) e τ
 refine Zb9 (Q := Zfk F Q) (fun ex e τ q => ?_) h
 cases ex <;> first | exact hk _ _ q | exact q
theorem Zjn {v : AV} {es : List Ent} (hE : EsT v es) (hl : es.length <= 1000000000) (hK : ∀ a τ, EsT a es -> Ext σ τ -> K a τ) : Zan Tryz.prog 131 [v] σ K := by
 obtain ⟨cells, hZ, hC⟩ := hE.lz (σ := σ)
 refine Zan.tell (ZfD hZ hl fun a τ h1 h2 h3 => ?_)
 obtain ⟨A, c, q1, q2⟩ := Zj0 h1 rfl (by omega) hC h3
 exact ⟨_, _, q1, hK _ _ q2 (ZcN h2 fun c hc => h3 c hc)⟩
theorem baseS_le {st : Option (List UInt8)} : (Zcg st).idx <= 1073741824 /\ (Zcg st).term <= 1073741824 := by
 unfold Zcg
 dsimp only
 split
 ·exact ⟨ZcH.1, ZcH.1⟩
 ·exact ⟨Nat.zero_le _, Nat.zero_le _⟩
def ZkV (es : List Ent) (a : Int) : Int := ((es[(a - 1).toNat]?).map Ent.x).getD 0
def ZbW (bi bt : Int) (es : List Ent) (w : ZoA) : List Ent :=
 cond (decide (((w.idx : Nat) : Int) - bi = 0)) (cond (decide (bt = ((w.term : Nat) : Int))) es (cond (decide ((0 : Int) < ((w.idx : Nat) : Int) - bi)) (cond (decide (((w.idx : Nat) : Int) - bi <= ((es.length : Nat) : Int))) (cond (decide (ZkV es (((w.idx : Nat) : Int) - bi) = ((w.term : Nat) : Int))) (es.drop (((w.idx : Nat) : Int) - bi).toNat) []) []) []))
  (cond (decide ((0 : Int) < ((w.idx : Nat) : Int) - bi)) (cond (decide (((w.idx : Nat) : Int) - bi <= ((es.length : Nat) : Int))) (cond (decide (ZkV es (((w.idx : Nat) : Int) - bi) = ((w.term : Nat) : Int))) (es.drop (((w.idx : Nat) : Int) - bi).toNat) []) []) [])
def ZeY (s : JSt) (st : Option (List UInt8)) : Option (JSt × Option (List UInt8)) :=
 if (Zcg st).ok = true /\ (0 : Int) <= (((Zcg st).idx : Nat) : Int) - s.bi then some (⟨s.term, s.vote, (Zcg st).idx, (Zcg st).term, (Zcg st).ls, ZbW s.bi s.bt s.es (Zcg st)⟩, (Zcg st).left) else none
variable {Kp : List PanicEntry -> St -> Prop}
set_option maxHeartbeats 1000000 in
theorem ZoH {rb : Nat} {st : Option (List UInt8)} {t0 v0 bi bt : Int} {a0 a1 a2 a3 v : AV} {bc : List (List Int)} {es : List Ent} (hC : ZcJ [a0, a1, a2, a3] bc) (hE : EsT v es) (hbi : 0 <= bi /\ bi <= 1073741824) (hes : es.length <= 1000000000) (h : QAt σ rb st) {s2 : JSt} {st2 : Option (List UInt8)} (h0 : ZeY ⟨t0, v0, bi, bt, bc, es⟩ st = some (s2, st2)) (hK : ∀ cs τ, JT cs s2 -> QAt τ rb st2 -> But (fun c => c = rb) σ τ -> K (.agg cs) τ) : Zan Tryz.prog 128 [.agg [vI t0, vI v0, vI bi, vI bt, a0, a1, a2, a3, v], ptr rb 0] σ K := by
 have hC0 := hC
 obtain ⟨l0, l1, l2, l3, rfl, z0, z1, z2, z3⟩ := hC.tis
 have hru := h.used
 obtain ⟨w, hw⟩ : ∃ w, w = Zcg st := ⟨_, rfl⟩
 have hwl : w.idx <= 1073741824 /\ w.term <= 1073741824 := by rw [hw]; exact baseS_le
 obtain ⟨c1, c2⟩ : w.ok = true /\ (0 : Int) <= ((w.idx : Nat) : Int) - bi := by
  unfold ZeY at h0
  rw [<- hw] at h0
  split at h0
  ·rename_i q; exact q
  ·cases h0
 refine Zai Zam Tryz.func128 rfl rfl rfl (Nat.le_of_ble_eq_true rfl) ?_
 refine ZbL 0 1 (v0 := .agg [vI t0, vI v0, vI bi, vI bt, a0, a1, a2, a3, v]) (v1 := ptr rb 0) rfl rfl ?_
 intro e he
 refine Zaa (Zac (Zbn (cs := [vI t0, vI v0, vI bi, vI bt, a0, a1, a2, a3, v]) (v := .agg [vI t0, vI v0, vI bi, vI bt, a0, a1, a2, a3, v]) he.1 rfl fun b1 υ2 hn3 hu4 hb5 hv6 hX7 => ?_))
 have ne8 : b1 ≠ rb := fun q => by obtain ⟨_, h1, _⟩ := h.ex; rw [q, h1] at hn3; cases hn3
 have h := h.ext hX7
 refine Zac (ZaH (cs := [vI 0, vI 0, vI 0, vI 0, .lst none 0 0 [], .lst none 0 0 [], .lst none 0 0 [], .lst none 0 0 [], .lst none 0 0 []]) Zgq rfl fun b9 υ10 hn11 hu12 hb13 hv14 hX15 => ?_)
 have ne16 := Zat hb5 hn11
 have ne17 : b9 ≠ rb := fun q => by obtain ⟨_, h1, _⟩ := h.ex; rw [q, h1] at hn11; cases hn11
 have hb5 := hX15.keep _ _ hb5
 have hv6 := hX15.used _ hv6
 have h := h.ext hX15
 refine Zaf (kp3 1 2 4 fun e he => ?_)
 refine Zaa (Zac (Zae (b := b1) (o := 0) he.2.1 Zo3 rfl ?_))
 refine Zac (Zah (b := b1) (o := 0 + 0) (r := .agg [vI t0, vI v0, vI bi, vI bt, a0, a1, a2, a3, v]) rfl hb5 Zhy Zdx rfl ?_)
 refine Zac (ZaH (cs := [vI 0, vI 0, vI 0, vI 0, .lst none 0 0 [], .lst none 0 0 [], .lst none 0 0 [], .lst none 0 0 [], .lst none 0 0 []]) Zgq rfl fun b18 υ19 hn20 hu21 hb22 hv23 hX24 => ?_)
 have ne25 := Zat hb5 hn20
 have ne26 := Zat hb13 hn20
 have ne27 : b18 ≠ rb := fun q => by obtain ⟨_, h1, _⟩ := h.ex; rw [q, h1] at hn20; cases hn20
 have hb5 := hX24.keep _ _ hb5
 have hv6 := hX24.used _ hv6
 have hb13 := hX24.keep _ _ hb13
 have hv14 := hX24.used _ hv14
 have h := h.ext hX24
 refine Zac (ZaB (b := b18) (o := 0) (u := .agg [vI t0, vI v0, vI bi, vI bt, a0, a1, a2, a3, v]) (cs' := [vI t0, vI v0, vI bi, vI bt, a0, a1, a2, a3, v]) rfl rfl hb22 Zdx (by obtain ⟨_, _, rfl, _⟩ := z0 <;> obtain ⟨_, _, rfl, _⟩ := z1 <;> obtain ⟨_, _, rfl, _⟩ := z2 <;> obtain ⟨_, _, rfl, _⟩ := z3 <;> obtain ⟨_, _, _, _, rfl, _⟩ := hE <;> rfl) rfl fun υ28 hb22 k29 => ?_)
 have hb5 := k29.keep _ _ (Ne.symm ne25) hb5
 have hv6 := k29.used _ hv6
 have hb13 := k29.keep _ _ (Ne.symm ne26) hb13
 have hv14 := k29.used _ hv14
 have hv23 := k29.used _ hv23
 have h := h.but k29 (Ne.symm ne27)
 refine Zaf (kp3 1 4 5 fun e he => ?_)
 refine Zaa (Zag ?_)
 refine Zao [ptr rb 0] ?_
 refine Zfc h fun cs30 τ31 hC32 hR33 k34 => ?_
 rw [<- hw] at hC32 hR33 ⊢
 have hCw := hC32
 obtain ⟨wb0, wb1, wb2, wb3, rfl, hone⟩ := hC32.four
 obtain ⟨_, _, _, _, _, y0, y1, y2, y3⟩ := hCw.tis
 have hb5 := k34.keep _ _ ne8 hb5
 have hv6 := k34.used _ hv6
 have hb13 := k34.keep _ _ ne17 hb13
 have hv14 := k34.used _ hv14
 have hb22 := k34.keep _ _ ne27 hb22
 have hv23 := k34.used _ hv23
 refine Zag ?_
 refine Zac (Zaw (l := [.agg [vI ((w.idx : Nat) : Int), vI ((w.term : Nat) : Int), wb0, wb1, wb2, wb3], vT w.ok]) (r := .agg [vI ((w.idx : Nat) : Int), vI ((w.term : Nat) : Int), wb0, wb1, wb2, wb3]) rfl rfl ?_)
 refine Zac (Zaw (l := [.agg [vI ((w.idx : Nat) : Int), vI ((w.term : Nat) : Int), wb0, wb1, wb2, wb3], vT w.ok]) (r := vT w.ok) rfl rfl ?_)
 rw [c1]
 refine Zac (ZaH (cs := [vI 0, vI 0, .lst none 0 0 [], .lst none 0 0 [], .lst none 0 0 [], .lst none 0 0 []]) ZlK rfl fun b35 υ36 hn37 hu38 hb39 hv40 hX41 => ?_)
 have ne42 := Zat hb5 hn37
 have ne43 := Zat hb13 hn37
 have ne44 := Zat hb22 hn37
 have ne45 : b35 ≠ rb := fun q => by obtain ⟨_, h1, _⟩ := hR33.ex; rw [q, h1] at hn37; cases hn37
 have hb5 := hX41.keep _ _ hb5
 have hv6 := hX41.used _ hv6
 have hb13 := hX41.keep _ _ hb13
 have hv14 := hX41.used _ hv14
 have hb22 := hX41.keep _ _ hb22
 have hv23 := hX41.used _ hv23
 have hR33 := hR33.ext hX41
 refine Zac (ZaB (b := b35) (o := 0) (u := .agg [vI ((w.idx : Nat) : Int), vI ((w.term : Nat) : Int), wb0, wb1, wb2, wb3]) (cs' := [vI ((w.idx : Nat) : Int), vI ((w.term : Nat) : Int), wb0, wb1, wb2, wb3]) rfl rfl hb39 Zd9 (by obtain ⟨_, _, rfl, _⟩ := y0 <;> obtain ⟨_, _, rfl, _⟩ := y1 <;> obtain ⟨_, _, rfl, _⟩ := y2 <;> obtain ⟨_, _, rfl, _⟩ := y3 <;> rfl) rfl fun υ46 hb39 k47 => ?_)
 have hb5 := k47.keep _ _ (Ne.symm ne42) hb5
 have hv6 := k47.used _ hv6
 have hb13 := k47.keep _ _ (Ne.symm ne43) hb13
 have hv14 := k47.used _ hv14
 have hb22 := k47.keep _ _ (Ne.symm ne44) hb22
 have hv23 := k47.used _ hv23
 have hv40 := k47.used _ hv40
 have hR33 := hR33.but k47 (Ne.symm ne45)
 refine Zag ?_
 refine Zaf (kp4 4 5 6 7 fun e he => ?_)
 refine Zaa (Zac (Zae (b := b35) (o := 0) he.2.2.1 Zdp rfl ?_))
 refine Zac (Zah (b := b35) (o := 0 + 0) (r := vI ((w.idx : Nat) : Int)) rfl hb39 fa9 ZbG rfl ?_)
 refine Zac (Zae (b := b18) (o := 0) he.2.1 ZdS rfl ?_)
 refine Zac (Zae (b := b18) (o := 0 + 2) rfl Zdp rfl ?_)
 refine Zac (Zah (b := b18) (o := 0 + 2 + 0) (r := vI bi) rfl hb22 fa9 ZbG rfl ?_)
 refine Zac (ZcW (((w.idx : Nat) : Int)) bi rfl rfl (by omega) (by omega) ?_)
 refine Zag ?_
 refine Zaf (kp5 4 5 6 7 8 fun e he => ?_)
 refine Zaa (Zag ?_)
 refine Zag ?_
 refine Zau ?_
 refine Zcb rfl he.2.2.2.2 ?_
 refine Zau ?_
 refine ZeN (k := .i64) (a := ((w.idx : Nat) : Int) - bi) (b := 0) rfl rfl ?_
 rw [decide_eq_true c2]
 refine Zac (Zaj (v := vT true) rfl rfl ?_)
 refine Zao [vT true] ?_
 refine Zfe ?_
 refine Zaf (kp4 4 5 6 8 fun e he => ?_)
 refine ZkU (fun e τ => ∃ (xs : AV), (e 4 = ptr b9 0 /\ e 5 = ptr b18 0 /\ e 6 = ptr b35 0) /\ EsT xs (ZbW bi bt es w) /\ τ.blk b18 = some (.own 77 [vI t0, vI v0, vI bi, vI bt, a0, a1, a2, a3, xs]) /\ But (fun c => c = b18) υ46 τ) ?_ ?_
 ·refine Zct ?_
  refine Zaa (Zag ?_)
  refine Zac (ZbQ (k := .i64) (a := ((w.idx : Nat) : Int) - bi) (b := 0) rfl rfl ?_)
  refine Zag ?_
  cases hg51 : decide ((((w.idx : Nat) : Int) - bi : Int) = 0) with
  | false =>
   have bhg51 := hg51
   have hg51 := of_decide_eq_false bhg51
   refine Zal ?_
   refine Zal ?_
   refine Zal ?_
   refine Zal ?_
   refine Zal ?_
   refine Zal ?_
   refine Zac (Zak (v := vT false) rfl rfl ?_)
   refine Zag ?_
   refine Zaf (kp5 4 5 6 8 29 fun e he => ?_)
   refine ZaQ (t := false) he.2.2.2.2 (fun ht => by cases ht) (fun ht => ?_)
   refine Zbt ?_
   refine ⟨[0, 1, 2, 3, 4, 5, 6, 7, 8, 9, 10, 12, 13, 17, 11, 14, 15, 16, 18, 19, 20, 21], [[], [0], [0, 1], [0, 1, 2], [0, 1, 2], [0, 1, 2, 4], [0, 1, 2, 4, 5], [0, 1, 2, 3, 4, 5, 6], [0, 1, 2, 3, 4, 5, 6, 7], [0, 1, 2, 3, 4, 5, 6, 7, 8], [0, 1, 2, 3, 4, 5, 6, 7, 8, 9], [0, 1, 2, 3, 4, 5, 6, 7, 8, 9, 10], [0, 1, 2, 3, 4, 5, 6, 7, 8, 9], [0, 1, 2, 3, 4, 5, 6, 7, 8, 9, 12], [0, 1, 2, 3, 4, 5, 6, 7, 8, 9, 10, 11, 12, 13], [0, 1, 2, 3, 4, 5, 6, 7, 8, 9, 10, 11, 12, 13, 14], [0, 1, 2, 3, 4, 5, 6, 7, 8, 9, 10, 11, 12, 13, 14, 15], [0, 1, 2, 3, 4, 5, 6, 7, 8, 9], [0, 1, 2, 3, 4, 5, 6, 7, 8, 9, 17], [0, 1, 2, 3, 4, 5, 6, 7, 8, 9, 10, 11, 12, 13, 14, 15, 16, 17, 18], [0, 1, 2, 3, 4, 5, 6, 7, 8, 9, 10, 11, 12, 13, 14, 15, 16, 17, 18, 19], [0, 1, 2, 3, 4, 5, 6, 7, 8, 9, 10, 11, 12, 13, 14, 15, 16, 17, 18, 19, 20]], fun _ => True, [], [], [], by kernel_rfl, ?_⟩
   refine Zax ?_
   refine Zas ?_
   refine Zb3 (k := .i64) (a := ((w.idx : Nat) : Int) - bi) (b := 0) rfl rfl ?_
   refine Zaz ?_
   refine Zax ?_
   cases hg52 : decide ((0 : Int) < ((w.idx : Nat) : Int) - bi) with
   | false =>
    have bhg52 := hg52
    have hg52 := of_decide_eq_false bhg52
    refine Zaq ?_
    refine Zaq ?_
    refine Zaq ?_
    refine Zaq ?_
    refine Zaq ?_
    refine Zas ?_
    refine Zak (v := vT false) rfl rfl ?_
    refine Zaz ?_
    refine Zax ?_
    refine Zaq ?_
    refine Zaq ?_
    refine Zaq ?_
    refine Zaq ?_
    refine Zaq ?_
    refine Zaq ?_
    refine Zaq ?_
    refine Zaq ?_
    refine Zaq ?_
    refine Zaq ?_
    refine Zas ?_
    refine Zak (v := vT false) rfl rfl ?_
    refine Zaz ?_
    refine Zax ?_
    refine ZbI (kp5 4 5 6 8 40 ?_)
    clear he e
    intro e he
    refine ZaQ (t := false) he.2.2.2.2 (fun ht => by cases ht) (fun ht => ?_)
    refine Zad (Zac (Zae (b := b18) (o := 0) he.2.1 ZdS rfl ?_))
    refine Zac (ZaI (b := b18) (o := 0 + 8) (v := .lst none 0 0 []) rfl rfl hb22 ZfI ⟨rfl, rfl, rfl⟩ (by simp) fun υ53 hb22 k54 => ?_)
    have hb5 := k54.keep _ _ (Ne.symm ne25) hb5
    have hv6 := k54.used _ hv6
    have hb13 := k54.keep _ _ (Ne.symm ne26) hb13
    have hv14 := k54.used _ hv14
    have hb39 := k54.keep _ _ ne44 hb39
    have hv40 := k54.used _ hv40
    have hv23 := k54.used _ hv23
    have hR33 := hR33.but k54 (Ne.symm ne27)
    refine Zaf ?_
    have e9 : ZbW bi bt es w = [] := by simp only [ZbW, bhg51, bhg52, cond_true, cond_false]
    show ∃ _, _
    exact ⟨.lst none 0 0 [], ⟨by simp only [EV,Nat.reduceEqDiff,↓reduceIte,he];try rfl, by simp only [EV,Nat.reduceEqDiff,↓reduceIte,he];try rfl, by simp only [EV,Nat.reduceEqDiff,↓reduceIte,he];try rfl⟩, (by rw [e9]; exact Zd5), hb22, ((But.refl _ _).trans k54)⟩
   | true =>
    have bhg52 := hg52
    have hg52 := of_decide_eq_true bhg52
    refine Zax ?_
    refine Zas ?_
    refine Zae (b := b18) (o := 0) he.2.1 ZdS rfl ?_
    refine Zaz ?_
    refine Zas ?_
    refine Zah (b := b18) (o := 0 + 8) (r := v) rfl hb22 ZiB ZfI rfl ?_
    refine Zaz ?_
    refine Zas ?_
    obtain ⟨_, hZ, _⟩ := hE.lz (σ := υ46)
    refine Zea rfl hZ rfl Zeb ?_
    refine Zaz ?_
    refine Zas ?_
    refine Zh7 (k := .i64) (a := ((w.idx : Nat) : Int) - bi) (b := ((es.length : Nat) : Int)) rfl rfl ?_
    refine Zaz ?_
    refine Zas ?_
    refine Zaj (v := vT (decide ((((w.idx : Nat) : Int) - bi : Int) <= ((es.length : Nat) : Int)))) rfl rfl ?_
    refine Zaz ?_
    refine Zax ?_
    cases hg55 : decide ((((w.idx : Nat) : Int) - bi : Int) <= ((es.length : Nat) : Int)) with
    | false =>
     have bhg55 := hg55
     have hg55 := of_decide_eq_false bhg55
     refine Zaq ?_
     refine Zaq ?_
     refine Zaq ?_
     refine Zaq ?_
     refine Zaq ?_
     refine Zaq ?_
     refine Zaq ?_
     refine Zaq ?_
     refine Zaq ?_
     refine Zaq ?_
     refine Zas ?_
     refine Zak (v := vT false) rfl rfl ?_
     refine Zaz ?_
     refine Zax ?_
     refine ZbI (kp5 4 5 6 8 40 ?_)
     clear he e
     intro e he
     refine ZaQ (t := false) he.2.2.2.2 (fun ht => by cases ht) (fun ht => ?_)
     refine Zad (Zac (Zae (b := b18) (o := 0) he.2.1 ZdS rfl ?_))
     refine Zac (ZaI (b := b18) (o := 0 + 8) (v := .lst none 0 0 []) rfl rfl hb22 ZfI ⟨rfl, rfl, rfl⟩ (by simp) fun υ56 hb22 k57 => ?_)
     have hb5 := k57.keep _ _ (Ne.symm ne25) hb5
     have hv6 := k57.used _ hv6
     have hb13 := k57.keep _ _ (Ne.symm ne26) hb13
     have hv14 := k57.used _ hv14
     have hb39 := k57.keep _ _ ne44 hb39
     have hv40 := k57.used _ hv40
     have hv23 := k57.used _ hv23
     have hR33 := hR33.but k57 (Ne.symm ne27)
     refine Zaf ?_
     have e9 : ZbW bi bt es w = [] := by simp only [ZbW, bhg51, bhg52, bhg55, cond_true, cond_false]
     show ∃ _, _
     exact ⟨.lst none 0 0 [], ⟨by simp only [EV,Nat.reduceEqDiff,↓reduceIte,he];try rfl, by simp only [EV,Nat.reduceEqDiff,↓reduceIte,he];try rfl, by simp only [EV,Nat.reduceEqDiff,↓reduceIte,he];try rfl⟩, (by rw [e9]; exact Zd5), hb22, ((But.refl _ _).trans k57)⟩
    | true =>
     have bhg55 := hg55
     have hg55 := of_decide_eq_true bhg55
     refine Zas ?_
     refine Zae (b := b18) (o := 0) he.2.1 ZdS rfl ?_
     refine Zaz ?_
     refine Zax ?_
     refine Zas ?_
     refine ZcW (((w.idx : Nat) : Int) - bi) 1 rfl rfl (by omega) (by omega) ?_
     refine Zaz ?_
     obtain ⟨j, hj⟩ : ∃ j : Nat, ((w.idx : Nat) : Int) - bi - 1 = j := ⟨(((w.idx : Nat) : Int) - bi - 1).toNat, by omega⟩
     have hlt : j < es.length := by omega
     refine Zas ?_
     refine Zae (b := b35) (o := 0) he.2.2.1 Zdp rfl ?_
     refine Zaz ?_
     refine Zas ?_
     refine Zah (b := b18) (o := 0 + 8) (r := v) rfl hb22 ZiB ZfI rfl ?_
     refine Zaz ?_
     obtain ⟨cs9, hZ9, hC9⟩ := hE.lz (σ := υ46)
     obtain ⟨u9, d0, d1, d2, d3, hr9, _, _⟩ := hC9.get hlt
     have hx9 : ZkV es (((w.idx : Nat) : Int) - bi) = es[j].x := by unfold ZkV; rw [hj, Int.toNat_natCast, List.getElem?_eq_getElem hlt]; rfl
     rw [<- hx9] at hr9
     refine Zas ?_
     refine Zir (i := j) hZ9 hlt hr9 rfl (by rw [<- hj]; simp only [EV,Nat.reduceEqDiff,↓reduceIte,he];try rfl) Zeb ZbZ fun q58 hq59 => ?_
     refine Zaz ?_
     refine Zas ?_
     refine ZhU hq59 rfl Zcq rfl fun q60 hq61 => ?_
     refine Zaz ?_
     refine Zas ?_
     refine Zis (v := vI (ZkV es (((w.idx : Nat) : Int) - bi))) hq61 rfl fa9 ZbG rfl ?_
     refine Zaz ?_
     refine Zas ?_
     refine Zah (b := b35) (o := 0 + 1) (r := vI ((w.term : Nat) : Int)) rfl hb39 fa9 ZbG rfl ?_
     refine Zaz ?_
     refine Zas ?_
     refine ZbQ (k := .i64) (a := ZkV es (((w.idx : Nat) : Int) - bi)) (b := ((w.term : Nat) : Int)) rfl rfl ?_
     refine Zaz ?_
     refine Zas ?_
     refine Zaj (v := vT (decide ((ZkV es (((w.idx : Nat) : Int) - bi) : Int) = ((w.term : Nat) : Int)))) rfl rfl ?_
     refine Zaz ?_
     refine Zax ?_
     refine ZbI (kp5 4 5 6 8 40 ?_)
     clear he e
     intro e he
     refine ZaQ (t := decide ((ZkV es (((w.idx : Nat) : Int) - bi) : Int) = ((w.term : Nat) : Int))) he.2.2.2.2 (fun ht40 => ?_) (fun ht40 => ?_)
     ·have bht40 := ht40
      have ht40 := of_decide_eq_true bht40
      refine Zad (Zac (Zae (b := b18) (o := 0) he.2.1 ZdS rfl ?_))
      refine Zac (Zah (b := b18) (o := 0 + 8) (r := v) rfl hb22 ZiB ZfI rfl ?_)
      refine Zag ?_
      obtain ⟨n, hn⟩ : ∃ n : Nat, ((w.idx : Nat) : Int) - bi = n := ⟨(((w.idx : Nat) : Int) - bi).toNat, by omega⟩
      refine Zac (ZkS (n := n) hE rfl (by rw [<- hn]; simp only [EV,Nat.reduceEqDiff,↓reduceIte,he];try rfl) Zeb ZbZ (by omega) fun u62 hu63 => ?_)
      refine Zao [u62] ?_
      refine Zjn hu63 (by rw [List.length_drop]; omega) fun a64 τ65 h66 hX67 => ?_
      have hb5 := hX67.keep _ _ hb5
      have hv6 := hX67.used _ hv6
      have hb13 := hX67.keep _ _ hb13
      have hv14 := hX67.used _ hv14
      have hb22 := hX67.keep _ _ hb22
      have hv23 := hX67.used _ hv23
      have hb39 := hX67.keep _ _ hb39
      have hv40 := hX67.used _ hv40
      have hR33 := hR33.ext hX67
      have h66 : EsT a64 (es.drop (((w.idx : Nat) : Int) - bi).toNat) := by rw [hn, Int.toNat_natCast]; exact h66
      refine Zac (Zae (b := b18) (o := 0) he.2.1 ZdS rfl ?_)
      refine Zac (ZaI (b := b18) (o := 0 + 8) (v := a64) rfl rfl hb22 ZfI h66.one (by simp) fun υ68 hb22 k69 => ?_)
      have hb5 := k69.keep _ _ (Ne.symm ne25) hb5
      have hv6 := k69.used _ hv6
      have hb13 := k69.keep _ _ (Ne.symm ne26) hb13
      have hv14 := k69.used _ hv14
      have hb39 := k69.keep _ _ ne44 hb39
      have hv40 := k69.used _ hv40
      have hv23 := k69.used _ hv23
      have hR33 := hR33.but k69 (Ne.symm ne27)
      refine Zaf ?_
      have e9 : ZbW bi bt es w = es.drop (((w.idx : Nat) : Int) - bi).toNat := by simp only [ZbW, bhg51, bhg52, bhg55, bht40, cond_true, cond_false]
      show ∃ _, _
      exact ⟨a64, ⟨by simp only [EV,Nat.reduceEqDiff,↓reduceIte,he];try rfl, by simp only [EV,Nat.reduceEqDiff,↓reduceIte,he];try rfl, by simp only [EV,Nat.reduceEqDiff,↓reduceIte,he];try rfl⟩, (by rw [e9]; exact h66), hb22, (((But.refl _ _).trans hX67.but).trans k69)⟩
     have bht40 := ht40
     have ht40 := of_decide_eq_false bht40
     refine Zad (Zac (Zae (b := b18) (o := 0) he.2.1 ZdS rfl ?_))
     refine Zac (ZaI (b := b18) (o := 0 + 8) (v := .lst none 0 0 []) rfl rfl hb22 ZfI ⟨rfl, rfl, rfl⟩ (by simp) fun υ70 hb22 k71 => ?_)
     have hb5 := k71.keep _ _ (Ne.symm ne25) hb5
     have hv6 := k71.used _ hv6
     have hb13 := k71.keep _ _ (Ne.symm ne26) hb13
     have hv14 := k71.used _ hv14
     have hb39 := k71.keep _ _ ne44 hb39
     have hv40 := k71.used _ hv40
     have hv23 := k71.used _ hv23
     have hR33 := hR33.but k71 (Ne.symm ne27)
     refine Zaf ?_
     have e9 : ZbW bi bt es w = [] := by simp only [ZbW, bhg51, bhg52, bhg55, bht40, cond_true, cond_false]
     show ∃ _, _
     exact ⟨.lst none 0 0 [], ⟨by simp only [EV,Nat.reduceEqDiff,↓reduceIte,he];try rfl, by simp only [EV,Nat.reduceEqDiff,↓reduceIte,he];try rfl, by simp only [EV,Nat.reduceEqDiff,↓reduceIte,he];try rfl⟩, (by rw [e9]; exact Zd5), hb22, ((But.refl _ _).trans k71)⟩
  | true =>
   have bhg51 := hg51
   have hg51 := of_decide_eq_true bhg51
   refine Zau ?_
   refine Zae (b := b18) (o := 0) he.2.1 ZdS rfl ?_
   refine Zau ?_
   refine Zae (b := b18) (o := 0 + 2) rfl Zdp rfl ?_
   refine Zau ?_
   refine Zah (b := b18) (o := 0 + 2 + 1) (r := vI bt) rfl hb22 fa9 ZbG rfl ?_
   refine Zau ?_
   refine Zae (b := b35) (o := 0) he.2.2.1 Zdp rfl ?_
   refine Zau ?_
   refine Zah (b := b35) (o := 0 + 1) (r := vI ((w.term : Nat) : Int)) rfl hb39 fa9 ZbG rfl ?_
   refine Zau ?_
   refine ZbQ (k := .i64) (a := bt) (b := ((w.term : Nat) : Int)) rfl rfl ?_
   refine Zac (Zaj (v := vT (decide ((bt : Int) = ((w.term : Nat) : Int)))) rfl rfl ?_)
   refine Zag ?_
   refine Zaf (kp5 4 5 6 8 29 fun e he => ?_)
   refine ZaQ (t := decide ((bt : Int) = ((w.term : Nat) : Int))) he.2.2.2.2 (fun ht29 => ?_) (fun ht29 => ?_)
   ·have bht29 := ht29
    have ht29 := of_decide_eq_true bht29
    refine Zbm ?_
    have e9 : ZbW bi bt es w = es := by simp only [ZbW, bhg51, bht29, cond_true, cond_false]
    show ∃ _, _
    exact ⟨v, ⟨by simp only [EV,Nat.reduceEqDiff,↓reduceIte,he];try rfl, by simp only [EV,Nat.reduceEqDiff,↓reduceIte,he];try rfl, by simp only [EV,Nat.reduceEqDiff,↓reduceIte,he];try rfl⟩, (by rw [e9]; exact hE), hb22, (But.refl _ _)⟩
   have bht29 := ht29
   have ht29 := of_decide_eq_false bht29
   refine Zbt ?_
   refine ⟨[0, 1, 2, 3, 4, 5, 6, 7, 8, 9, 10, 12, 13, 17, 11, 14, 15, 16, 18, 19, 20, 21], [[], [0], [0, 1], [0, 1, 2], [0, 1, 2], [0, 1, 2, 4], [0, 1, 2, 4, 5], [0, 1, 2, 3, 4, 5, 6], [0, 1, 2, 3, 4, 5, 6, 7], [0, 1, 2, 3, 4, 5, 6, 7, 8], [0, 1, 2, 3, 4, 5, 6, 7, 8, 9], [0, 1, 2, 3, 4, 5, 6, 7, 8, 9, 10], [0, 1, 2, 3, 4, 5, 6, 7, 8, 9], [0, 1, 2, 3, 4, 5, 6, 7, 8, 9, 12], [0, 1, 2, 3, 4, 5, 6, 7, 8, 9, 10, 11, 12, 13], [0, 1, 2, 3, 4, 5, 6, 7, 8, 9, 10, 11, 12, 13, 14], [0, 1, 2, 3, 4, 5, 6, 7, 8, 9, 10, 11, 12, 13, 14, 15], [0, 1, 2, 3, 4, 5, 6, 7, 8, 9], [0, 1, 2, 3, 4, 5, 6, 7, 8, 9, 17], [0, 1, 2, 3, 4, 5, 6, 7, 8, 9, 10, 11, 12, 13, 14, 15, 16, 17, 18], [0, 1, 2, 3, 4, 5, 6, 7, 8, 9, 10, 11, 12, 13, 14, 15, 16, 17, 18, 19], [0, 1, 2, 3, 4, 5, 6, 7, 8, 9, 10, 11, 12, 13, 14, 15, 16, 17, 18, 19, 20]], fun _ => True, [], [], [], by kernel_rfl, ?_⟩
   refine Zax ?_
   refine Zas ?_
   refine Zb3 (k := .i64) (a := ((w.idx : Nat) : Int) - bi) (b := 0) rfl rfl ?_
   refine Zaz ?_
   refine Zax ?_
   cases hg72 : decide ((0 : Int) < ((w.idx : Nat) : Int) - bi) with
   | false =>
    have bhg72 := hg72
    have hg72 := of_decide_eq_false bhg72
    refine Zaq ?_
    refine Zaq ?_
    refine Zaq ?_
    refine Zaq ?_
    refine Zaq ?_
    refine Zas ?_
    refine Zak (v := vT false) rfl rfl ?_
    refine Zaz ?_
    refine Zax ?_
    refine Zaq ?_
    refine Zaq ?_
    refine Zaq ?_
    refine Zaq ?_
    refine Zaq ?_
    refine Zaq ?_
    refine Zaq ?_
    refine Zaq ?_
    refine Zaq ?_
    refine Zaq ?_
    refine Zas ?_
    refine Zak (v := vT false) rfl rfl ?_
    refine Zaz ?_
    refine Zax ?_
    refine ZbI (kp5 4 5 6 8 40 ?_)
    clear he e
    intro e he
    refine ZaQ (t := false) he.2.2.2.2 (fun ht => by cases ht) (fun ht => ?_)
    refine Zad (Zac (Zae (b := b18) (o := 0) he.2.1 ZdS rfl ?_))
    refine Zac (ZaI (b := b18) (o := 0 + 8) (v := .lst none 0 0 []) rfl rfl hb22 ZfI ⟨rfl, rfl, rfl⟩ (by simp) fun υ73 hb22 k74 => ?_)
    have hb5 := k74.keep _ _ (Ne.symm ne25) hb5
    have hv6 := k74.used _ hv6
    have hb13 := k74.keep _ _ (Ne.symm ne26) hb13
    have hv14 := k74.used _ hv14
    have hb39 := k74.keep _ _ ne44 hb39
    have hv40 := k74.used _ hv40
    have hv23 := k74.used _ hv23
    have hR33 := hR33.but k74 (Ne.symm ne27)
    refine Zaf ?_
    have e9 : ZbW bi bt es w = [] := by simp only [ZbW, bhg51, bht29, bhg72, cond_true, cond_false]
    show ∃ _, _
    exact ⟨.lst none 0 0 [], ⟨by simp only [EV,Nat.reduceEqDiff,↓reduceIte,he];try rfl, by simp only [EV,Nat.reduceEqDiff,↓reduceIte,he];try rfl, by simp only [EV,Nat.reduceEqDiff,↓reduceIte,he];try rfl⟩, (by rw [e9]; exact Zd5), hb22, ((But.refl _ _).trans k74)⟩
   | true =>
    have bhg72 := hg72
    have hg72 := of_decide_eq_true bhg72
    refine Zax ?_
    refine Zas ?_
    refine Zae (b := b18) (o := 0) he.2.1 ZdS rfl ?_
    refine Zaz ?_
    refine Zas ?_
    refine Zah (b := b18) (o := 0 + 8) (r := v) rfl hb22 ZiB ZfI rfl ?_
    refine Zaz ?_
    refine Zas ?_
    obtain ⟨_, hZ, _⟩ := hE.lz (σ := υ46)
    refine Zea rfl hZ rfl Zeb ?_
    refine Zaz ?_
    refine Zas ?_
    refine Zh7 (k := .i64) (a := ((w.idx : Nat) : Int) - bi) (b := ((es.length : Nat) : Int)) rfl rfl ?_
    refine Zaz ?_
    refine Zas ?_
    refine Zaj (v := vT (decide ((((w.idx : Nat) : Int) - bi : Int) <= ((es.length : Nat) : Int)))) rfl rfl ?_
    refine Zaz ?_
    refine Zax ?_
    cases hg75 : decide ((((w.idx : Nat) : Int) - bi : Int) <= ((es.length : Nat) : Int)) with
    | false =>
     have bhg75 := hg75
     have hg75 := of_decide_eq_false bhg75
     refine Zaq ?_
     refine Zaq ?_
     refine Zaq ?_
     refine Zaq ?_
     refine Zaq ?_
     refine Zaq ?_
     refine Zaq ?_
     refine Zaq ?_
     refine Zaq ?_
     refine Zaq ?_
     refine Zas ?_
     refine Zak (v := vT false) rfl rfl ?_
     refine Zaz ?_
     refine Zax ?_
     refine ZbI (kp5 4 5 6 8 40 ?_)
     clear he e
     intro e he
     refine ZaQ (t := false) he.2.2.2.2 (fun ht => by cases ht) (fun ht => ?_)
     refine Zad (Zac (Zae (b := b18) (o := 0) he.2.1 ZdS rfl ?_))
     refine Zac (ZaI (b := b18) (o := 0 + 8) (v := .lst none 0 0 []) rfl rfl hb22 ZfI ⟨rfl, rfl, rfl⟩ (by simp) fun υ76 hb22 k77 => ?_)
     have hb5 := k77.keep _ _ (Ne.symm ne25) hb5
     have hv6 := k77.used _ hv6
     have hb13 := k77.keep _ _ (Ne.symm ne26) hb13
     have hv14 := k77.used _ hv14
     have hb39 := k77.keep _ _ ne44 hb39
     have hv40 := k77.used _ hv40
     have hv23 := k77.used _ hv23
     have hR33 := hR33.but k77 (Ne.symm ne27)
     refine Zaf ?_
     have e9 : ZbW bi bt es w = [] := by simp only [ZbW, bhg51, bht29, bhg72, bhg75, cond_true, cond_false]
     show ∃ _, _
     exact ⟨.lst none 0 0 [], ⟨by simp only [EV,Nat.reduceEqDiff,↓reduceIte,he];try rfl, by simp only [EV,Nat.reduceEqDiff,↓reduceIte,he];try rfl, by simp only [EV,Nat.reduceEqDiff,↓reduceIte,he];try rfl⟩, (by rw [e9]; exact Zd5), hb22, ((But.refl _ _).trans k77)⟩
    | true =>
     have bhg75 := hg75
     have hg75 := of_decide_eq_true bhg75
     refine Zas ?_
     refine Zae (b := b18) (o := 0) he.2.1 ZdS rfl ?_
     refine Zaz ?_
     refine Zax ?_
     refine Zas ?_
     refine ZcW (((w.idx : Nat) : Int) - bi) 1 rfl rfl (by omega) (by omega) ?_
     refine Zaz ?_
     obtain ⟨j, hj⟩ : ∃ j : Nat, ((w.idx : Nat) : Int) - bi - 1 = j := ⟨(((w.idx : Nat) : Int) - bi - 1).toNat, by omega⟩
     have hlt : j < es.length := by omega
     refine Zas ?_
     refine Zae (b := b35) (o := 0) he.2.2.1 Zdp rfl ?_
     refine Zaz ?_
     refine Zas ?_
     refine Zah (b := b18) (o := 0 + 8) (r := v) rfl hb22 ZiB ZfI rfl ?_
     refine Zaz ?_
     obtain ⟨cs9, hZ9, hC9⟩ := hE.lz (σ := υ46)
     obtain ⟨u9, d0, d1, d2, d3, hr9, _, _⟩ := hC9.get hlt
     have hx9 : ZkV es (((w.idx : Nat) : Int) - bi) = es[j].x := by unfold ZkV; rw [hj, Int.toNat_natCast, List.getElem?_eq_getElem hlt]; rfl
     rw [<- hx9] at hr9
     refine Zas ?_
     refine Zir (i := j) hZ9 hlt hr9 rfl (by rw [<- hj]; simp only [EV,Nat.reduceEqDiff,↓reduceIte,he];try rfl) Zeb ZbZ fun q78 hq79 => ?_
     refine Zaz ?_
     refine Zas ?_
     refine ZhU hq79 rfl Zcq rfl fun q80 hq81 => ?_
     refine Zaz ?_
     refine Zas ?_
     refine Zis (v := vI (ZkV es (((w.idx : Nat) : Int) - bi))) hq81 rfl fa9 ZbG rfl ?_
     refine Zaz ?_
     refine Zas ?_
     refine Zah (b := b35) (o := 0 + 1) (r := vI ((w.term : Nat) : Int)) rfl hb39 fa9 ZbG rfl ?_
     refine Zaz ?_
     refine Zas ?_
     refine ZbQ (k := .i64) (a := ZkV es (((w.idx : Nat) : Int) - bi)) (b := ((w.term : Nat) : Int)) rfl rfl ?_
     refine Zaz ?_
     refine Zas ?_
     refine Zaj (v := vT (decide ((ZkV es (((w.idx : Nat) : Int) - bi) : Int) = ((w.term : Nat) : Int)))) rfl rfl ?_
     refine Zaz ?_
     refine Zax ?_
     refine ZbI (kp5 4 5 6 8 40 ?_)
     clear he e
     intro e he
     refine ZaQ (t := decide ((ZkV es (((w.idx : Nat) : Int) - bi) : Int) = ((w.term : Nat) : Int))) he.2.2.2.2 (fun ht40 => ?_) (fun ht40 => ?_)
     ·have bht40 := ht40
      have ht40 := of_decide_eq_true bht40
      refine Zad (Zac (Zae (b := b18) (o := 0) he.2.1 ZdS rfl ?_))
      refine Zac (Zah (b := b18) (o := 0 + 8) (r := v) rfl hb22 ZiB ZfI rfl ?_)
      refine Zag ?_
      obtain ⟨n, hn⟩ : ∃ n : Nat, ((w.idx : Nat) : Int) - bi = n := ⟨(((w.idx : Nat) : Int) - bi).toNat, by omega⟩
      refine Zac (ZkS (n := n) hE rfl (by rw [<- hn]; simp only [EV,Nat.reduceEqDiff,↓reduceIte,he];try rfl) Zeb ZbZ (by omega) fun u82 hu83 => ?_)
      refine Zao [u82] ?_
      refine Zjn hu83 (by rw [List.length_drop]; omega) fun a84 τ85 h86 hX87 => ?_
      have hb5 := hX87.keep _ _ hb5
      have hv6 := hX87.used _ hv6
      have hb13 := hX87.keep _ _ hb13
      have hv14 := hX87.used _ hv14
      have hb22 := hX87.keep _ _ hb22
      have hv23 := hX87.used _ hv23
      have hb39 := hX87.keep _ _ hb39
      have hv40 := hX87.used _ hv40
      have hR33 := hR33.ext hX87
      have h86 : EsT a84 (es.drop (((w.idx : Nat) : Int) - bi).toNat) := by rw [hn, Int.toNat_natCast]; exact h86
      refine Zac (Zae (b := b18) (o := 0) he.2.1 ZdS rfl ?_)
      refine Zac (ZaI (b := b18) (o := 0 + 8) (v := a84) rfl rfl hb22 ZfI h86.one (by simp) fun υ88 hb22 k89 => ?_)
      have hb5 := k89.keep _ _ (Ne.symm ne25) hb5
      have hv6 := k89.used _ hv6
      have hb13 := k89.keep _ _ (Ne.symm ne26) hb13
      have hv14 := k89.used _ hv14
      have hb39 := k89.keep _ _ ne44 hb39
      have hv40 := k89.used _ hv40
      have hv23 := k89.used _ hv23
      have hR33 := hR33.but k89 (Ne.symm ne27)
      refine Zaf ?_
      have e9 : ZbW bi bt es w = es.drop (((w.idx : Nat) : Int) - bi).toNat := by simp only [ZbW, bhg51, bht29, bhg72, bhg75, bht40, cond_true, cond_false]
      show ∃ _, _
      exact ⟨a84, ⟨by simp only [EV,Nat.reduceEqDiff,↓reduceIte,he];try rfl, by simp only [EV,Nat.reduceEqDiff,↓reduceIte,he];try rfl, by simp only [EV,Nat.reduceEqDiff,↓reduceIte,he];try rfl⟩, (by rw [e9]; exact h86), hb22, (((But.refl _ _).trans hX87.but).trans k89)⟩
     have bht40 := ht40
     have ht40 := of_decide_eq_false bht40
     refine Zad (Zac (Zae (b := b18) (o := 0) he.2.1 ZdS rfl ?_))
     refine Zac (ZaI (b := b18) (o := 0 + 8) (v := .lst none 0 0 []) rfl rfl hb22 ZfI ⟨rfl, rfl, rfl⟩ (by simp) fun υ90 hb22 k91 => ?_)
     have hb5 := k91.keep _ _ (Ne.symm ne25) hb5
     have hv6 := k91.used _ hv6
     have hb13 := k91.keep _ _ (Ne.symm ne26) hb13
     have hv14 := k91.used _ hv14
     have hb39 := k91.keep _ _ ne44 hb39
     have hv40 := k91.used _ hv40
     have hv23 := k91.used _ hv23
     have hR33 := hR33.but k91 (Ne.symm ne27)
     refine Zaf ?_
     have e9 : ZbW bi bt es w = [] := by simp only [ZbW, bhg51, bht29, bhg72, bhg75, bht40, cond_true, cond_false]
     show ∃ _, _
     exact ⟨.lst none 0 0 [], ⟨by simp only [EV,Nat.reduceEqDiff,↓reduceIte,he];try rfl, by simp only [EV,Nat.reduceEqDiff,↓reduceIte,he];try rfl, by simp only [EV,Nat.reduceEqDiff,↓reduceIte,he];try rfl⟩, (by rw [e9]; exact Zd5), hb22, ((But.refl _ _).trans k91)⟩
 clear he e
 rintro e τ49 ⟨xs, he, hEs, hb48, k50⟩
 have hb5 := k50.keep _ _ (Ne.symm ne25) hb5
 have hv6 := k50.used _ hv6
 have hb13 := k50.keep _ _ (Ne.symm ne26) hb13
 have hv14 := k50.used _ hv14
 have hb39 := k50.keep _ _ ne44 hb39
 have hv40 := k50.used _ hv40
 have hv23 := k50.used _ hv23
 have hR33 := hR33.but k50 (Ne.symm ne27)
 refine Zaa (Zac (Zah (b := b35) (o := 0) (r := .agg [vI ((w.idx : Nat) : Int), vI ((w.term : Nat) : Int), wb0, wb1, wb2, wb3]) he.2.2 hb39 ZfQ Zd9 rfl ?_))
 refine Zac (Zae (b := b18) (o := 0) he.2.1 ZdS rfl ?_)
 refine Zac (ZaB (b := b18) (o := 0 + 2) (u := .agg [vI ((w.idx : Nat) : Int), vI ((w.term : Nat) : Int), wb0, wb1, wb2, wb3]) (cs' := [vI t0, vI v0, vI ((w.idx : Nat) : Int), vI ((w.term : Nat) : Int), wb0, wb1, wb2, wb3, xs]) rfl rfl hb48 Zd9 (by obtain ⟨_, _, rfl, _⟩ := y0 <;> obtain ⟨_, _, rfl, _⟩ := y1 <;> obtain ⟨_, _, rfl, _⟩ := y2 <;> obtain ⟨_, _, rfl, _⟩ := y3 <;> rfl) rfl fun υ92 hb48 k93 => ?_)
 have hb5 := k93.keep _ _ (Ne.symm ne25) hb5
 have hv6 := k93.used _ hv6
 have hb13 := k93.keep _ _ (Ne.symm ne26) hb13
 have hv14 := k93.used _ hv14
 have hb39 := k93.keep _ _ ne44 hb39
 have hv40 := k93.used _ hv40
 have hv23 := k93.used _ hv23
 have hR33 := hR33.but k93 (Ne.symm ne27)
 refine Zaf (kp2 4 5 fun e he => ?_)
 refine Zaa (Zac (Zah (b := b18) (o := 0) (r := .agg [vI t0, vI v0, vI ((w.idx : Nat) : Int), vI ((w.term : Nat) : Int), wb0, wb1, wb2, wb3, xs]) he.2 hb48 Zhy Zdx rfl ?_))
 refine Zac (ZaB (b := b9) (o := 0) (u := .agg [vI t0, vI v0, vI ((w.idx : Nat) : Int), vI ((w.term : Nat) : Int), wb0, wb1, wb2, wb3, xs]) (cs' := [vI t0, vI v0, vI ((w.idx : Nat) : Int), vI ((w.term : Nat) : Int), wb0, wb1, wb2, wb3, xs]) he.1 rfl hb13 Zdx (by obtain ⟨_, _, rfl, _⟩ := y0 <;> obtain ⟨_, _, rfl, _⟩ := y1 <;> obtain ⟨_, _, rfl, _⟩ := y2 <;> obtain ⟨_, _, rfl, _⟩ := y3 <;> obtain ⟨_, _, _, _, rfl, _⟩ := hEs <;> rfl) rfl fun υ94 hb13 k95 => ?_)
 have hb5 := k95.keep _ _ (Ne.symm ne16) hb5
 have hv6 := k95.used _ hv6
 have hb48 := k95.keep _ _ ne26 hb48
 have hv23 := k95.used _ hv23
 have hb39 := k95.keep _ _ ne43 hb39
 have hv40 := k95.used _ hv40
 have hv14 := k95.used _ hv14
 have hR33 := hR33.but k95 (Ne.symm ne17)
 refine Zaf (kp1 4 ?_)
 clear he e
 intro e he
 refine Zap ?_
 have e8 : ZeY ⟨t0, v0, bi, bt, [l0, l1, l2, l3], es⟩ st = some (⟨t0, v0, w.idx, w.term, w.ls, ZbW bi bt es w⟩, w.left) := by unfold ZeY; rw [<- hw, if_pos ⟨c1, c2⟩]
 rw [e8] at h0
 injection h0 with h0
 injection h0 with w1 w2
 subst w1 w2
 show ∃ r, ZaM _ _ _ _ r /\ _
 exact ⟨_, ZdE rfl (ZaJ he hb13 Zhy Zdx rfl), hK _ _ ⟨_, _, _, _, _, rfl, hCw, hEs⟩ hR33 (But.ext2 (But.ext2 (But.ext2 (But.ext2 (((But.ext2 ((((But.refl _ _).trans hX7.but).trans hX15.but).trans hX24.but) (fun g hg => .inr (by rw [hg]; exact (hX7.trans hX15).noneOf hn20)) k29).trans k34).trans hX41.but) (fun g hg => .inr (by rw [hg]; exact (((But.ext2 ((((But.refl _ _).trans hX7.but).trans hX15.but).trans hX24.but) (fun g hg => .inr (by rw [hg]; exact (hX7.trans hX15).noneOf hn20)) k29).trans k34)).noneOfB (fun b hb => hb ▸ hru) hu38 hn37)) k47) (fun g hg => .inr (by rw [hg]; exact (hX7.trans hX15).noneOf hn20)) k50) (fun g hg => .inr (by rw [hg]; exact (hX7.trans hX15).noneOf hn20)) k93) (fun g hg => .inr (by rw [hg]; exact hX7.noneOf hn11)) k95)⟩
theorem ZlE {rb : Nat} {st : Option (List UInt8)} {t0 v0 bi bt : Int} {a0 a1 a2 a3 v : AV} {bc : List (List Int)} {es : List Ent} (hC : ZcJ [a0, a1, a2, a3] bc) (hE : EsT v es) (hbi : 0 <= bi /\ bi <= 1073741824) (hes : es.length <= 1000000000) (h : QAt σ rb st) (h0 : ZeY ⟨t0, v0, bi, bt, bc, es⟩ st = none) (hK : ∀ τ, But (fun c => c = rb) σ τ -> Kp Znd τ) : ZdD Tryz.prog 128 [.agg [vI t0, vI v0, vI bi, vI bt, a0, a1, a2, a3, v], ptr rb 0] σ Kp := by
 have hC0 := hC
 obtain ⟨l0, l1, l2, l3, rfl, z0, z1, z2, z3⟩ := hC.tis
 have hru := h.used
 obtain ⟨w, hw⟩ : ∃ w, w = Zcg st := ⟨_, rfl⟩
 have hwl : w.idx <= 1073741824 /\ w.term <= 1073741824 := by rw [hw]; exact baseS_le
 have hcnd : ¬ (w.ok = true /\ (0 : Int) <= ((w.idx : Nat) : Int) - bi) := by
  intro q
  unfold ZeY at h0
  rw [<- hw, if_pos q] at h0
  cases h0
 refine Zhj Zam Tryz.func128 rfl rfl rfl (Nat.le_of_ble_eq_true rfl) ?_
 refine ZbL 0 1 (v0 := .agg [vI t0, vI v0, vI bi, vI bt, a0, a1, a2, a3, v]) (v1 := ptr rb 0) rfl rfl ?_
 intro e he
 refine Zaa (Zac (Zbn (cs := [vI t0, vI v0, vI bi, vI bt, a0, a1, a2, a3, v]) (v := .agg [vI t0, vI v0, vI bi, vI bt, a0, a1, a2, a3, v]) he.1 rfl fun b96 υ97 hn98 hu99 hb100 hv101 hX102 => ?_))
 have ne103 : b96 ≠ rb := fun q => by obtain ⟨_, h1, _⟩ := h.ex; rw [q, h1] at hn98; cases hn98
 have h := h.ext hX102
 refine Zac (ZaH (cs := [vI 0, vI 0, vI 0, vI 0, .lst none 0 0 [], .lst none 0 0 [], .lst none 0 0 [], .lst none 0 0 [], .lst none 0 0 []]) Zgq rfl fun b104 υ105 hn106 hu107 hb108 hv109 hX110 => ?_)
 have ne111 := Zat hb100 hn106
 have ne112 : b104 ≠ rb := fun q => by obtain ⟨_, h1, _⟩ := h.ex; rw [q, h1] at hn106; cases hn106
 have hb100 := hX110.keep _ _ hb100
 have hv101 := hX110.used _ hv101
 have h := h.ext hX110
 refine Zaf (kp3 1 2 4 fun e he => ?_)
 refine Zaa (Zac (Zae (b := b96) (o := 0) he.2.1 Zo3 rfl ?_))
 refine Zac (Zah (b := b96) (o := 0 + 0) (r := .agg [vI t0, vI v0, vI bi, vI bt, a0, a1, a2, a3, v]) rfl hb100 Zhy Zdx rfl ?_)
 refine Zac (ZaH (cs := [vI 0, vI 0, vI 0, vI 0, .lst none 0 0 [], .lst none 0 0 [], .lst none 0 0 [], .lst none 0 0 [], .lst none 0 0 []]) Zgq rfl fun b113 υ114 hn115 hu116 hb117 hv118 hX119 => ?_)
 have ne120 := Zat hb100 hn115
 have ne121 := Zat hb108 hn115
 have ne122 : b113 ≠ rb := fun q => by obtain ⟨_, h1, _⟩ := h.ex; rw [q, h1] at hn115; cases hn115
 have hb100 := hX119.keep _ _ hb100
 have hv101 := hX119.used _ hv101
 have hb108 := hX119.keep _ _ hb108
 have hv109 := hX119.used _ hv109
 have h := h.ext hX119
 refine Zac (ZaB (b := b113) (o := 0) (u := .agg [vI t0, vI v0, vI bi, vI bt, a0, a1, a2, a3, v]) (cs' := [vI t0, vI v0, vI bi, vI bt, a0, a1, a2, a3, v]) rfl rfl hb117 Zdx (by obtain ⟨_, _, rfl, _⟩ := z0 <;> obtain ⟨_, _, rfl, _⟩ := z1 <;> obtain ⟨_, _, rfl, _⟩ := z2 <;> obtain ⟨_, _, rfl, _⟩ := z3 <;> obtain ⟨_, _, _, _, rfl, _⟩ := hE <;> rfl) rfl fun υ123 hb117 k124 => ?_)
 have hb100 := k124.keep _ _ (Ne.symm ne120) hb100
 have hv101 := k124.used _ hv101
 have hb108 := k124.keep _ _ (Ne.symm ne121) hb108
 have hv109 := k124.used _ hv109
 have hv118 := k124.used _ hv118
 have h := h.but k124 (Ne.symm ne122)
 refine Zaf (kp3 1 4 5 fun e he => ?_)
 refine Zaa (Zag ?_)
 refine Zao [ptr rb 0] ?_
 refine Zfc h fun cs125 τ126 hC127 hR128 k129 => ?_
 rw [<- hw] at hC127 hR128 ⊢
 have hCw := hC127
 obtain ⟨wb0, wb1, wb2, wb3, rfl, hone⟩ := hC127.four
 obtain ⟨_, _, _, _, _, y0, y1, y2, y3⟩ := hCw.tis
 have hb100 := k129.keep _ _ ne103 hb100
 have hv101 := k129.used _ hv101
 have hb108 := k129.keep _ _ ne112 hb108
 have hv109 := k129.used _ hv109
 have hb117 := k129.keep _ _ ne122 hb117
 have hv118 := k129.used _ hv118
 refine Zag ?_
 refine Zac (Zaw (l := [.agg [vI ((w.idx : Nat) : Int), vI ((w.term : Nat) : Int), wb0, wb1, wb2, wb3], vT w.ok]) (r := .agg [vI ((w.idx : Nat) : Int), vI ((w.term : Nat) : Int), wb0, wb1, wb2, wb3]) rfl rfl ?_)
 refine Zac (Zaw (l := [.agg [vI ((w.idx : Nat) : Int), vI ((w.term : Nat) : Int), wb0, wb1, wb2, wb3], vT w.ok]) (r := vT w.ok) rfl rfl ?_)
 refine Zac (ZaH (cs := [vI 0, vI 0, .lst none 0 0 [], .lst none 0 0 [], .lst none 0 0 [], .lst none 0 0 []]) ZlK rfl fun b130 υ131 hn132 hu133 hb134 hv135 hX136 => ?_)
 have ne137 := Zat hb100 hn132
 have ne138 := Zat hb108 hn132
 have ne139 := Zat hb117 hn132
 have ne140 : b130 ≠ rb := fun q => by obtain ⟨_, h1, _⟩ := hR128.ex; rw [q, h1] at hn132; cases hn132
 have hb100 := hX136.keep _ _ hb100
 have hv101 := hX136.used _ hv101
 have hb108 := hX136.keep _ _ hb108
 have hv109 := hX136.used _ hv109
 have hb117 := hX136.keep _ _ hb117
 have hv118 := hX136.used _ hv118
 have hR128 := hR128.ext hX136
 refine Zac (ZaB (b := b130) (o := 0) (u := .agg [vI ((w.idx : Nat) : Int), vI ((w.term : Nat) : Int), wb0, wb1, wb2, wb3]) (cs' := [vI ((w.idx : Nat) : Int), vI ((w.term : Nat) : Int), wb0, wb1, wb2, wb3]) rfl rfl hb134 Zd9 (by obtain ⟨_, _, rfl, _⟩ := y0 <;> obtain ⟨_, _, rfl, _⟩ := y1 <;> obtain ⟨_, _, rfl, _⟩ := y2 <;> obtain ⟨_, _, rfl, _⟩ := y3 <;> rfl) rfl fun υ141 hb134 k142 => ?_)
 have hb100 := k142.keep _ _ (Ne.symm ne137) hb100
 have hv101 := k142.used _ hv101
 have hb108 := k142.keep _ _ (Ne.symm ne138) hb108
 have hv109 := k142.used _ hv109
 have hb117 := k142.keep _ _ (Ne.symm ne139) hb117
 have hv118 := k142.used _ hv118
 have hv135 := k142.used _ hv135
 have hR128 := hR128.but k142 (Ne.symm ne140)
 refine Zag ?_
 refine Zaf (kp4 4 5 6 7 fun e he => ?_)
 refine Zaa (Zac (Zae (b := b130) (o := 0) he.2.2.1 Zdp rfl ?_))
 refine Zac (Zah (b := b130) (o := 0 + 0) (r := vI ((w.idx : Nat) : Int)) rfl hb134 fa9 ZbG rfl ?_)
 refine Zac (Zae (b := b113) (o := 0) he.2.1 ZdS rfl ?_)
 refine Zac (Zae (b := b113) (o := 0 + 2) rfl Zdp rfl ?_)
 refine Zac (Zah (b := b113) (o := 0 + 2 + 0) (r := vI bi) rfl hb117 fa9 ZbG rfl ?_)
 refine Zac (ZcW (((w.idx : Nat) : Int)) bi rfl rfl (by omega) (by omega) ?_)
 refine Zag ?_
 refine Zaf (kp5 4 5 6 7 8 fun e he => ?_)
 refine Zjl 5 ?_
 simp only [List.take_succ_cons, List.take_zero]
 refine Zag ?_
 refine Zag ?_
 cases hg143 : w.ok with
 | false =>
  have bhg143 := hg143
  refine Zal ?_
  refine Zal ?_
  refine Zac (Zak (v := vT false) rfl rfl ?_)
  refine Zaf (ZjX (vs := [vT false]) (by simp only [List.map_cons, List.map_nil, EV,Nat.reduceEqDiff,↓reduceIte,he];try rfl) ?_)
  exact Zdl (hK _ (But.ext2 (((But.ext2 ((((But.refl _ _).trans hX102.but).trans hX110.but).trans hX119.but) (fun g hg => .inr (by rw [hg]; exact (hX102.trans hX110).noneOf hn115)) k124).trans k129).trans hX136.but) (fun g hg => .inr (by rw [hg]; exact (((But.ext2 ((((But.refl _ _).trans hX102.but).trans hX110.but).trans hX119.but) (fun g hg => .inr (by rw [hg]; exact (hX102.trans hX110).noneOf hn115)) k124).trans k129)).noneOfB (fun b hb => hb ▸ hru) hu133 hn132)) k142))
 | true =>
  have bhg143 := hg143
  refine Zau ?_
  refine Zcb rfl he.2.2.2.2 ?_
  refine Zau ?_
  refine ZeN (k := .i64) (a := ((w.idx : Nat) : Int) - bi) (b := 0) rfl rfl ?_
  refine Zac (Zaj (v := vT (decide ((0 : Int) <= ((w.idx : Nat) : Int) - bi))) rfl rfl ?_)
  refine Zaf ?_
  by_cases hz : ((0 : Int) <= ((w.idx : Nat) : Int) - bi)
  ·exact absurd ⟨bhg143, hz⟩ hcnd
  refine ZjX (vs := [vT (decide ((0 : Int) <= ((w.idx : Nat) : Int) - bi))]) (by simp only [List.map_cons, List.map_nil, EV,Nat.reduceEqDiff,↓reduceIte,he];try rfl) ?_
  rw [decide_eq_false hz]
  exact Zdl (hK _ (But.ext2 (((But.ext2 ((((But.refl _ _).trans hX102.but).trans hX110.but).trans hX119.but) (fun g hg => .inr (by rw [hg]; exact (hX102.trans hX110).noneOf hn115)) k124).trans k129).trans hX136.but) (fun g hg => .inr (by rw [hg]; exact (((But.ext2 ((((But.refl _ _).trans hX102.but).trans hX110.but).trans hX119.but) (fun g hg => .inr (by rw [hg]; exact (hX102.trans hX110).noneOf hn115)) k124).trans k129)).noneOfB (fun b hb => hb ▸ hru) hu133 hn132)) k142))
end
end Go.Proofs.YtiienjjhlibopaaGreatDoor
