/- XEk, XEl, XEm, XEn, XDu, XDi, XDj, XDt, XDtb in one. -/
import Derived.Test.YtiienjjhlibopaaGreatDoorFacts
import Derived.Test.YtiienjjhlibopaaGreatDoorMal
import Derived.Test.YtiienjjhlibopaaGreatDoorMab
import Derived.Test.YtiienjjhlibopaaGreatDoorMai
import Derived.Test.YtiienjjhlibopaaGreatDoorMad
import Derived.Test.YtiienjjhlibopaaGreatDoorMae
import Derived.Test.YtiienjjhlibopaaGreatDoorMah
import Derived.Test.YtiienjjhlibopaaGreatDoorMaj
import Derived.Laws.IdiomRangeMap
import Derived.Maps.RangeRun
namespace Go.Proofs.YtiienjjhlibopaaGreatDoor
open Go.RowKit
set_option maxRecDepth 100000
set_option linter.unusedVariables false
set_option linter.unusedSimpArgs false
section
variable {σ : St} {K : AV -> St -> Prop}
theorem Znl {v : AV} {n : Nat} {cells : List AV} (hZ : Lz σ 3 1 v n cells) (hl : n <= 1000000000) (hK : ∀ a τ, Hd τ 3 1 a n cells -> Ext σ τ -> (∀ b, hbk a = some b -> Za9 σ b) -> K a τ) : Zan Tryz.prog 164 [v] σ K := by
 obtain ⟨A, c, h1, h2⟩ := hZ.val
 refine Zai Zam Tryz.func164 rfl rfl rfl (Nat.le_of_ble_eq_true rfl) ?_
 refine Zbf 0 (v0 := v) rfl ?_
 intro e he
 repeat refine Zab ?_
 first|refine Zaa ?_|refine Zad ?_
 refine Zag ?_
 refine Zaf (kp1 0 ?_)
 clear he e
 intro e he
 repeat refine Zab ?_
 first|refine Zaa ?_|refine Zad ?_
 refine Zag ?_
 refine Zac (Zg4 (A := A) (n := n) (c := c) Zco rfl h1 rfl ?_)
 refine Zaf (kp2 0 4 ?_)
 clear he e
 intro e he
 cases A with
 | none =>
  have hn : n = 0 := h2 rfl
  subst hn
  have hc0 : cells = [] := List.eq_nil_of_length_eq_zero (by rw [hZ.1])
  subst hc0
  refine ZaC (t := true) he.2 (fun _ => ?_) (fun hf => by cases hf)
  repeat refine Zab ?_
  first|refine Zaa ?_|refine Zad ?_
  refine Zag ?_
  refine Zaf (ZbB ?_)
  exact ZaD (hK _ σ ⟨rfl, fun a ha => (by cases ha), .inl ⟨.inl rfl, rfl⟩⟩ (.refl _) (fun b hb => by cases hb))
 | some ad =>
  refine ZaC (t := false) he.2 (fun hf => by cases hf) (fun _ => ?_)
  refine ZaL ?_
  repeat refine Zab ?_
  first|refine Zaa ?_|refine Zad ?_
  refine Zn0 Zco ZbG ZjF rfl fun ad υ1 hX1 => ?_
  refine Zag ?_
  refine Zac (ZaZ (m := n) (news := cells) rfl rfl Zco ZbG ZjF ZqN rfl (by omega) (Zrk ad) ((hZ.ext hX1).src (by omega)) (by unfold maxLen; omega) (by omega) fun v2 υ2 hv2 hB2 hn2 => ?_)
  rw [Nat.zero_add, List.nil_append] at hv2
  refine Zag ?_
  refine Zaf (Zap ?_)
  exact ZaD (hK v2 υ2 hv2 (But.ext hX1 (fun c hc => by cases hc) hB2) (fun c hc => (hn2 c hc).elim (fun q => by cases q) fun q => Za9.of q hX1))
theorem TI.lz {v : AV} {l : List Int} (h : TI v l) : Lz σ 3 1 v l.length (vIs l) := by
 obtain ⟨A, c, rfl, h⟩ := h
 exact ⟨by rw [Zc1, Nat.mul_one], ZeH l, .inl ⟨A, c, [], by rw [List.append_nil], fun q => (h.none q).1⟩⟩
theorem ZeL {v : AV} {l : List Int} (h : TI v l) (hl : l.length <= 1000000) (hK : ∀ a τ, TI a l -> Ext σ τ -> K a τ) : Zan Tryz.prog 164 [v] σ K :=
 Zan.tell (Znl h.lz (by omega) fun a τ h1 h2 h3 => by
  obtain ⟨A, c, q1, q2, q3, q4⟩ := h1.lends (G := fun b => hbk a = some b) (fun b hb => hb) (.refl (vIs l))
  exact ⟨_, _, q1, hK _ _ ⟨A, c, rfl, ⟨q2, q3, by omega, q4⟩⟩ (ZcN h2 fun c hc => h3 c hc)⟩)
theorem ZoO {c0 c1 c2 c3 : AV} {l0 l1 l2 l3 : List Int} (h0 : TI c0 l0) (h1 : TI c1 l1) (h2 : TI c2 l2) (h3 : TI c3 l3) : ZcJ [c0, c1, c2, c3] [l0, l1, l2, l3] := ⟨rfl, rfl, fun i hi => match i, hi with
 | 0, _ => ⟨_, rfl, h0⟩
 | 1, _ => ⟨_, rfl, h1⟩
 | 2, _ => ⟨_, rfl, h2⟩
 | 3, _ => ⟨_, rfl, h3⟩
 | n + 4, h => absurd h (by simp)⟩
theorem Zjs {a0 a1 a2 a3 : AV} {ls : List (List Int)} (hc : ZcJ [a0, a1, a2, a3] ls) (hn : ∀ l ∈ ls, l.length <= 1000000) (hK : ∀ cs τ, ZcJ cs ls -> Ext σ τ -> K (.agg cs) τ) : Zan Tryz.prog 130 [.agg [a0, a1, a2, a3]] σ K := by
 obtain ⟨l0, l1, l2, l3, rfl, z0, z1, z2, z3⟩ := hc.tis
 refine Zai Zam Tryz.func130 rfl rfl rfl (Nat.le_of_ble_eq_true rfl) ?_
 refine Zbf 0 (v0 := .agg [a0, a1, a2, a3]) rfl ?_
 intro e he
 refine Zaa (Zac (Zbn (cs := [a0, a1, a2, a3]) (v := .agg [a0, a1, a2, a3]) he rfl fun b1 υ2 hn3 hu4 hb5 hv6 hX7 => ?_))
 refine Zac (ZaH (cs := [.lst none 0 0 [], .lst none 0 0 [], .lst none 0 0 [], .lst none 0 0 []]) ZpC rfl fun b8 υ9 hn10 hu11 hb12 hv13 hX14 => ?_)
 have ne15 := Zat hb5 hn10
 have hb5 := hX14.keep _ _ hb5
 have hv6 := hX14.used _ hv6
 refine Zaf (kp2 1 2 ?_)
 clear he e
 intro e he
 refine Zbt ?_
 refine ⟨[0, 3, 6, 9, 1, 4, 7, 10, 2, 5, 8, 11, 12, 13], [[], [0], [0, 1], [], [3], [0, 1, 2, 3, 4], [], [6], [0, 1, 2, 3, 4, 5, 6, 7], [], [9], [0, 1, 2, 3, 4, 5, 6, 7, 8, 9, 10], [0, 1, 2, 3, 4, 5, 6, 7, 8, 9, 10, 11], [0, 1, 2, 3, 4, 5, 6, 7, 8, 9, 10, 11, 12]], fun _ => True, [4, 7, 10], [2, 5, 8], [], by kernel_rfl, ?_⟩
 refine Zas ?_
 refine Zae (b := b1) (o := 0) he.1 Zcr rfl ?_
 refine Zaz ?_
 refine Zas ?_
 refine Zae (b := b1) (o := 0) he.1 Zcr rfl ?_
 refine Zaz ?_
 refine Zas ?_
 refine Zae (b := b1) (o := 0) he.1 Zcr rfl ?_
 refine Zaz ?_
 refine Zas ?_
 refine Zae (b := b1) (o := 0) he.1 Zcr rfl ?_
 refine Zaz ?_
 refine Zas ?_
 refine Zah (b := b1) (o := 0 + 0) (r := a0) rfl hb5 fa6 Zb4 rfl ?_
 refine Zaz ?_
 refine Zas ?_
 refine Zah (b := b1) (o := 0 + 1) (r := a1) rfl hb5 fa6 Zb4 rfl ?_
 refine Zaz ?_
 refine Zas ?_
 refine Zah (b := b1) (o := 0 + 2) (r := a2) rfl hb5 fa6 Zb4 rfl ?_
 refine Zaz ?_
 refine Zas ?_
 refine Zah (b := b1) (o := 0 + 3) (r := a3) rfl hb5 fa6 Zb4 rfl ?_
 refine Zaz ?_
 refine Zas ?_
 refine Zay (vs := [a0]) (by simp only [List.map_cons, List.map_nil, EV,Nat.reduceEqDiff,↓reduceIte,he];try rfl) ?_
 refine ZeL z0 (hn _ (by simp)) fun c16 τ17 h18 hX19 => ?_
 refine ⟨fun _ => hX19, ?_⟩
 have hb5 := hX19.keep _ _ hb5
 have hv6 := hX19.used _ hv6
 have hb12 := hX19.keep _ _ hb12
 have hv13 := hX19.used _ hv13
 refine Zas ?_
 refine Zay (vs := [a1]) (by simp only [List.map_cons, List.map_nil, EV,Nat.reduceEqDiff,↓reduceIte,he];try rfl) ?_
 refine ZeL z1 (hn _ (by simp)) fun c20 τ21 h22 hX23 => ?_
 refine ⟨fun _ => hX23, ?_⟩
 have hb5 := hX23.keep _ _ hb5
 have hv6 := hX23.used _ hv6
 have hb12 := hX23.keep _ _ hb12
 have hv13 := hX23.used _ hv13
 refine Zas ?_
 refine Zay (vs := [a2]) (by simp only [List.map_cons, List.map_nil, EV,Nat.reduceEqDiff,↓reduceIte,he];try rfl) ?_
 refine ZeL z2 (hn _ (by simp)) fun c24 τ25 h26 hX27 => ?_
 refine ⟨fun _ => hX27, ?_⟩
 have hb5 := hX27.keep _ _ hb5
 have hv6 := hX27.used _ hv6
 have hb12 := hX27.keep _ _ hb12
 have hv13 := hX27.used _ hv13
 refine Zas ?_
 refine Zay (vs := [a3]) (by simp only [List.map_cons, List.map_nil, EV,Nat.reduceEqDiff,↓reduceIte,he];try rfl) ?_
 refine ZeL z3 (hn _ (by simp)) fun c28 τ29 h30 hX31 => ?_
 refine ⟨fun _ => hX31, ?_⟩
 have hb5 := hX31.keep _ _ hb5
 have hv6 := hX31.used _ hv6
 have hb12 := hX31.keep _ _ hb12
 have hv13 := hX31.used _ hv13
 refine Zas ?_
 refine Zbj (vs := [c16, c20, c24, c28]) (cells := [c16, c20, c24, c28]) (by simp only [List.map_cons, List.map_nil, EV,Nat.reduceEqDiff,↓reduceIte,he];try rfl) ZpC ZsY (by obtain ⟨_, _, rfl, _⟩ := h18 <;> obtain ⟨_, _, rfl, _⟩ := h22 <;> obtain ⟨_, _, rfl, _⟩ := h26 <;> obtain ⟨_, _, rfl, _⟩ := h30 <;> rfl) ?_
 refine Zaz ?_
 refine Zas ?_
 refine ZaB (b := b8) (o := 0) (u := .agg [c16, c20, c24, c28]) (cs' := [c16, c20, c24, c28]) he.2 rfl hb12 Zdb (by obtain ⟨_, _, rfl, _⟩ := h18 <;> obtain ⟨_, _, rfl, _⟩ := h22 <;> obtain ⟨_, _, rfl, _⟩ := h26 <;> obtain ⟨_, _, rfl, _⟩ := h30 <;> rfl) rfl fun υ32 hb12 k33 => ?_
 refine ⟨fun q => (by cases q), ?_⟩
 have hb5 := k33.keep _ _ (Ne.symm ne15) hb5
 have hv6 := k33.used _ hv6
 have hv13 := k33.used _ hv13
 refine ZbI (kp1 2 ?_)
 clear he e
 intro e he
 refine Zap ?_
 show ∃ r, ZaM _ _ _ _ r /\ _
 exact ⟨_, ZdE rfl (ZaJ he hb12 fa7 Zdb rfl), hK _ _ (ZoO h18 h22 h26 h30) (But.ext (((((hX7.trans hX14).trans hX19).trans hX23).trans hX27).trans hX31) (fun g hg => by rw [hg]; exact hX7.noneOf hn10) k33)⟩
theorem ZhZ {pre mid post xs : List AV} {n o : Nat} (hn : pre.length = n) (h : o + xs.length <= mid.length) : ZaR (pre ++ mid ++ post) (n + o) xs = pre ++ ZaR mid o xs ++ post := by
 subst hn
 unfold ZaR
 rw [List.append_assoc pre mid post, List.take_append, List.drop_append, List.take_of_length_le (Nat.le_add_right _ _), List.drop_eq_nil_of_le (by omega), show pre.length + o - pre.length = o by omega, show pre.length + o + xs.length - pre.length = o + xs.length by omega, List.take_append_of_le_length (by omega), List.drop_append_of_le_length h]
 simp only [List.nil_append, List.append_assoc]
theorem Zcl.split : ∀ {es : List Ent} {cs : List AV} {i : Nat} (hi : i < es.length), Zcl cs es -> ∃ pre c7 post, cs = pre ++ c7 ++ post /\ pre.length = i * 7 /\ Zm6 c7 es[i] /\ ∀ d7, Zm6 d7 es[i] -> Zcl (pre ++ d7 ++ post) es
 | e :: es, cs, 0, _, h => by
  obtain ⟨u, t, rfl, h1, h2⟩ := h
  exact ⟨[], u, t, rfl, rfl, h1, fun d7 hd => ⟨d7, t, rfl, hd, h2⟩⟩
 | e :: es, cs, i + 1, hi, h => by
  obtain ⟨u, t, rfl, h1, h2⟩ := h
  obtain ⟨pre, c7, post, rfl, g1, g2, g3⟩ := Zcl.split (i := i) (by simpa using hi) h2
  have hl : u.length = 7 := by obtain ⟨_, _, _, _, _, rfl, _⟩ := h1; rfl
  exact ⟨u ++ pre, c7, post, by simp, by rw [List.length_append, hl, g1]; omega, g2, fun d7 hd => ⟨u, pre ++ d7 ++ post, by simp, h1, g3 d7 hd⟩⟩
section
variable {P : Program} {ops : Array Oper} {env : Env} {K : Env -> St -> Prop} {d : Option Nat} {ty t : TypeId} {pos : String} {af : Array Edge} {x y : Operand}
theorem Zk0 {e sz n b o k : Nat} {v r : AV} {cells : List AV} (hx : ev env x = ptr b o) (hy : ev env y = r) (hs : ZaU P t = some k) (hown : Hd σ e sz v n cells) (hb : hbk v = some b) (ho : o + k <= n * sz) (hk : 0 < k) (h1 : Zbh r = true /\ r.cells.length = k /\ ∀ a ∈ r.cells, a.one = true)
 (h : ∀ τ, Hd τ e sz v n (ZaR cells o r.cells) -> But (fun c => hbk v = some c) σ τ -> K (env.put d (.raw undef)) τ) : aOp P ops ⟨d, .store t x y, ty, pos, af, none⟩ env σ K := by
 obtain ⟨c, all, rfl, g1, g2, g3, g4, g5, g6⟩ := hown.at_ hb
 have q2 : n * sz <= c * sz := Nat.mul_le_mul_right _ g5
 have hl := hown.len
 have hc0 : 0 < c := by rcases Nat.eq_zero_or_pos c with rfl | q; (simp at q2; omega); exact q
 refine ZaB hx hy g1 hs ?_ rfl fun τ k1 k2 => h τ ⟨?_, ?_, .inr ⟨b, c, _, hc0, rfl, k1, k2.used _ g2, ?_, ?_, g5, g6⟩⟩ ⟨fun c' k hc hk => k2.keep _ _ (fun e => hc (by rw [e]; exact hb)) hk, k2.used⟩
 ·simp [h1.1, h1.2.1, List.all_eq_true.2 h1.2.2]; omega
 ·unfold ZaR
  simp only [List.length_append, List.length_take, List.length_drop, h1.2.1]
  omega
 ·intro a ha
  unfold ZaR at ha
  simp only [List.mem_append] at ha
  rcases ha with (ha | ha) | ha
  ·exact hown.one a (List.mem_of_mem_take ha)
  ·exact h1.2.2 a ha
  ·exact hown.one a (List.mem_of_mem_drop ha)
 ·unfold ZaR
  simp only [List.length_append, List.length_take, List.length_drop, h1.2.1]
  omega
 ·unfold ZaR
  rw [<- g4, h1.2.1]
  apply List.ext_getElem?
  intro q
  simp only [List.getElem?_take, List.getElem?_append, List.getElem?_drop, List.length_append, List.length_take, h1.2.1]
  repeat' split
  all_goals first | rfl | (exfalso; omega) | (congr 1; omega) | skip
end
set_option maxHeartbeats 1000000 in
theorem ZlG {t0 v0 bi bt : Int} {a0 a1 a2 a3 v : AV} {bc : List (List Int)} {es : List Ent} (hC : ZcJ [a0, a1, a2, a3] bc) (hE : EsT v es) (hes : es.length <= 1000000000) (hbc : ∀ l ∈ bc, l.length <= 1000000) (hec : ∀ e ∈ es, e.c.length <= 1000000 /\ ∀ l ∈ e.ls, l.length <= 1000000) (hK : ∀ c0 c1 c2 c3 x cells τ, ZcJ [c0, c1, c2, c3] bc -> Hd τ 28 7 x es.length cells -> Zcl cells es -> (∀ c, hbk x = some c -> Za9 σ c) -> Ext σ τ -> K (.agg [vI t0, vI v0, vI bi, vI bt, c0, c1, c2, c3, x]) τ) : Zan Tryz.prog 86 [.agg [vI t0, vI v0, vI bi, vI bt, a0, a1, a2, a3, v]] σ K := by
 have hC0 := hC
 obtain ⟨l0, l1, l2, l3, rfl, z0, z1, z2, z3⟩ := hC.tis
 refine Zai Zam Tryz.func86 rfl rfl rfl (Nat.le_of_ble_eq_true rfl) ?_
 refine Zbf 0 (v0 := .agg [vI t0, vI v0, vI bi, vI bt, a0, a1, a2, a3, v]) rfl ?_
 intro e he
 refine Zaa (Zac (Zbn (cs := [vI t0, vI v0, vI bi, vI bt, a0, a1, a2, a3, v]) (v := .agg [vI t0, vI v0, vI bi, vI bt, a0, a1, a2, a3, v]) he rfl fun b34 υ35 hn36 hu37 hb38 hv39 hX40 => ?_))
 refine Zac (ZaH (cs := [vI 0, vI 0, vI 0, vI 0, .lst none 0 0 [], .lst none 0 0 [], .lst none 0 0 [], .lst none 0 0 [], .lst none 0 0 []]) Zgq rfl fun b41 υ42 hn43 hu44 hb45 hv46 hX47 => ?_)
 have ne48 := Zat hb38 hn43
 have hb38 := hX47.keep _ _ hb38
 have hv39 := hX47.used _ hv39
 refine Zaf (kp2 1 2 ?_)
 clear he e
 intro e he
 refine Zaa (Zac (Zae (b := b34) (o := 0) he.1 Zo3 rfl ?_))
 refine Zac (Zah (b := b34) (o := 0 + 0) (r := .agg [vI t0, vI v0, vI bi, vI bt, a0, a1, a2, a3, v]) rfl hb38 Zhy Zdx rfl ?_)
 refine Zac (ZaH (cs := [vI 0, vI 0, vI 0, vI 0, .lst none 0 0 [], .lst none 0 0 [], .lst none 0 0 [], .lst none 0 0 [], .lst none 0 0 []]) Zgq rfl fun b49 υ50 hn51 hu52 hb53 hv54 hX55 => ?_)
 have ne56 := Zat hb38 hn51
 have ne57 := Zat hb45 hn51
 have hb38 := hX55.keep _ _ hb38
 have hv39 := hX55.used _ hv39
 have hb45 := hX55.keep _ _ hb45
 have hv46 := hX55.used _ hv46
 refine Zac (ZaB (b := b49) (o := 0) (u := .agg [vI t0, vI v0, vI bi, vI bt, a0, a1, a2, a3, v]) (cs' := [vI t0, vI v0, vI bi, vI bt, a0, a1, a2, a3, v]) rfl rfl hb53 Zdx (by obtain ⟨_, _, rfl, _⟩ := z0 <;> obtain ⟨_, _, rfl, _⟩ := z1 <;> obtain ⟨_, _, rfl, _⟩ := z2 <;> obtain ⟨_, _, rfl, _⟩ := z3 <;> obtain ⟨_, _, _, _, rfl, _⟩ := hE <;> rfl) rfl fun υ58 hb53 k59 => ?_)
 have hb38 := k59.keep _ _ (Ne.symm ne56) hb38
 have hv39 := k59.used _ hv39
 have hb45 := k59.keep _ _ (Ne.symm ne57) hb45
 have hv46 := k59.used _ hv46
 have hv54 := k59.used _ hv54
 refine Zaf (kp2 2 3 ?_)
 clear he e
 intro e he
 refine Zaa (Zac (Zae (b := b49) (o := 0) he.2 ZdS rfl ?_))
 refine Zac (Zae (b := b49) (o := 0 + 2) rfl Zdp rfl ?_)
 refine Zac (Zah (b := b49) (o := 0 + 2 + 2) (r := .agg [a0, a1, a2, a3]) rfl hb53 fa7 Zdb rfl ?_)
 refine Zao [.agg [a0, a1, a2, a3]] ?_
 refine Zjs hC0 hbc fun cs60 τ61 h62 hX63 => ?_
 have hb38 := hX63.keep _ _ hb38
 have hv39 := hX63.used _ hv39
 have hb45 := hX63.keep _ _ hb45
 have hv46 := hX63.used _ hv46
 have hb53 := hX63.keep _ _ hb53
 have hv54 := hX63.used _ hv54
 have h620 := h62
 obtain ⟨c0, c1, c2, c3, rfl, _⟩ := h62.four
 obtain ⟨_, _, _, _, _, s0, s1, s2, s3⟩ := h620.tis
 refine Zac (Zae (b := b49) (o := 0) he.2 ZdS rfl ?_)
 refine Zac (Zae (b := b49) (o := 0 + 2) rfl Zdp rfl ?_)
 refine Zac (ZaB (b := b49) (o := 0 + 2 + 2) (u := .agg [c0, c1, c2, c3]) (cs' := [vI t0, vI v0, vI bi, vI bt, c0, c1, c2, c3, v]) rfl rfl hb53 Zdb (by obtain ⟨_, _, rfl, _⟩ := s0 <;> obtain ⟨_, _, rfl, _⟩ := s1 <;> obtain ⟨_, _, rfl, _⟩ := s2 <;> obtain ⟨_, _, rfl, _⟩ := s3 <;> rfl) rfl fun υ64 hb53 k65 => ?_)
 have hb38 := k65.keep _ _ (Ne.symm ne56) hb38
 have hv39 := k65.used _ hv39
 have hb45 := k65.keep _ _ (Ne.symm ne57) hb45
 have hv46 := k65.used _ hv46
 have hv54 := k65.used _ hv54
 refine Zaf (kp2 2 3 ?_)
 clear he e
 intro e he
 refine Zaa (Zac (Zae (b := b49) (o := 0) he.2 ZdS rfl ?_))
 refine Zac (Zah (b := b49) (o := 0 + 8) (r := v) rfl hb53 ZiB ZfI rfl ?_)
 refine Zao [v] ?_
 obtain ⟨cs0, hZ0, hC1⟩ := hE.lz (σ := υ64)
 refine ZfD hZ0 hes fun a66 τ67 g68 hX69 hn70 => ?_
 have nw : ∀ c, hbk a66 = some c -> Za9 σ c := fun c hc => Za9.of (hn70 c hc) (But.ext ((But.ext ((hX40.trans hX47).trans hX55) (fun g hg => by rw [hg]; exact (hX40.trans hX47).noneOf hn51) k59).trans hX63) (fun g hg => by rw [hg]; exact (hX40.trans hX47).noneOf hn51) k65)
 have hb38 := hX69.keep _ _ hb38
 have hv39 := hX69.used _ hv39
 have hb45 := hX69.keep _ _ hb45
 have hv46 := hX69.used _ hv46
 have hb53 := hX69.keep _ _ hb53
 have hv54 := hX69.used _ hv54
 have o71 := g68.off2 hb38 (by decide)
 have o72 := g68.off2 hb45 (by decide)
 have o73 := g68.off2 hb53 (by decide)
 refine Zac (Zae (b := b49) (o := 0) he.2 ZdS rfl ?_)
 refine Zac (ZaI (b := b49) (o := 0 + 8) (v := a66) rfl rfl hb53 ZfI g68.oneV (by simp) fun υ74 hb53 k75 => ?_)
 have hb38 := k75.keep _ _ (Ne.symm ne56) hb38
 have hv39 := k75.used _ hv39
 have hb45 := k75.keep _ _ (Ne.symm ne57) hb45
 have hv46 := k75.used _ hv46
 have g68 := g68.but k75 o73
 have hv54 := k75.used _ hv54
 refine Zaf (kp2 2 3 ?_)
 clear he e
 intro e he
 refine Zab (Zaa (Zac (Zae (b := b49) (o := 0) he.2 ZdS rfl ?_)))
 refine Zac (Zah (b := b49) (o := 0 + 8) (r := a66) rfl hb53 ZiB ZfI rfl ?_)
 refine Zac (Zea rfl ⟨g68.len, g68.one, .inr g68⟩ rfl Zeb ?_)
 refine Zag ?_
 refine Zaf (kp5 2 3 19 20 21 ?_)
 clear he e
 intro e he
 refine ZaF ?_
 have z2 : σ.blk b41 = none := (hX40.noneOf hn43)
 have z3 : σ.blk b49 = none := ((hX40.trans hX47).noneOf hn51)
 refine Za4 (fun μ env υ => ∃ (i : Nat) (cells : List AV), μ = es.length - i /\ (env 2 = ptr b41 0 /\ env 3 = ptr b49 0 /\ env 19 = a66 /\ env 20 = vI ((es.length : Nat) : Int) /\ env 21 = vI ((i : Nat) : Int)) /\ i <= es.length /\ Hd υ 28 7 a66 es.length cells /\ Zcl cells es /\ Ext σ υ /\ υ.blk b41 = some (.own 77 [vI 0, vI 0, vI 0, vI 0, .lst none 0 0 [], .lst none 0 0 [], .lst none 0 0 [], .lst none 0 0 [], .lst none 0 0 []]) /\ υ.used b41 /\ υ.blk b49 = some (.own 77 [vI t0, vI v0, vI bi, vI bt, c0, c1, c2, c3, a66]) /\ υ.used b49) ⟨_, 0, cs0, rfl, ⟨by simp only [EV,Nat.reduceEqDiff,↓reduceIte,he];try rfl, by simp only [EV,Nat.reduceEqDiff,↓reduceIte,he];try rfl, by simp only [EV,Nat.reduceEqDiff,↓reduceIte,he];try rfl, by simp only [EV,Nat.reduceEqDiff,↓reduceIte,he];try rfl, by simp only [EV,Nat.reduceEqDiff,↓reduceIte,he];try rfl⟩, Nat.zero_le _, g68, hC1, (But.ext ((But.ext ((But.ext ((hX40.trans hX47).trans hX55) (fun g hg => by rw [hg]; exact (hX40.trans hX47).noneOf hn51) k59).trans hX63) (fun g hg => by rw [hg]; exact (hX40.trans hX47).noneOf hn51) k65).trans hX69) (fun g hg => by rw [hg]; exact (hX40.trans hX47).noneOf hn51) k75), hb45, hv46, hb53, hv54⟩ ?_
 clear he e
 rintro _ e υ76 ⟨i, cells, rfl, he, p1, g1, gC, kX, hb2, hu2, hb3, hu3⟩
 have o77 := g1.off2 hb2 (by decide)
 have o78 := g1.off2 hb3 (by decide)
 refine Zaa (Zcf i es.length ?_)
 refine Zaf (kp6 2 3 19 20 21 22 ?_)
 clear he e
 intro e he
 refine ZaC (t := decide (i < es.length)) he.2.2.2.2.2 (fun ht22 => ?_) (fun ht22 => ?_)
 ·have bht22 := ht22
  have ht22 := of_decide_eq_true bht22
  refine ZaL (ZaF (Zaa (Zag ?_)))
  have hlt : i < es.length := by omega
  obtain ⟨pre, c7, post, rfl, hpl, hT, hset⟩ := gC.split hlt
  obtain ⟨u, d0, d1, d2, d3, rfl, hTu, hTc⟩ := hT
  have hTc9 := hTc
  obtain ⟨_, _, _, _, _, y0, y1, y2, y3⟩ := hTc9.tis
  refine Zac (Zir (i := i) (r := [vI es[i].x, kV es[i].k, u, d0, d1, d2, d3]) ⟨g1.len, g1.one, .inr g1⟩ hlt (by rw [<- hpl, List.append_assoc, List.drop_left]; rfl) he.2.2.1 he.2.2.2.2.1 Zeb ZbZ fun q79 hq80 => ?_)
  refine Zac (Zis (v := .agg [vI (es[i].x), (kV es[i].k), u, d0, d1, d2, d3]) hq80 rfl fa8 ZbZ rfl ?_)
  refine Zac (ZaH (cs := [vI 0, .raw (.int .u8 0), .lst none 0 0 [], .lst none 0 0 [], .lst none 0 0 [], .lst none 0 0 [], .lst none 0 0 []]) Zfo rfl fun b81 υ82 hn83 hu84 hb85 hv86 hX87 => ?_)
  have ne88 := Zat hb2 hn83
  have ne89 := Zat hb3 hn83
  have o90 := g1.off hn83
  have hb2 := hX87.keep _ _ hb2
  have hu2 := hX87.used _ hu2
  have hb3 := hX87.keep _ _ hb3
  have hu3 := hX87.used _ hu3
  have g1 := g1.ext hX87
  refine Zag ?_
  refine Zac (ZaB (b := b81) (o := 0) (u := .agg [vI (es[i].x), (kV es[i].k), u, d0, d1, d2, d3]) (cs' := [vI (es[i].x), (kV es[i].k), u, d0, d1, d2, d3]) rfl rfl hb85 ZbZ (by obtain ⟨_, _, _, rfl, _⟩ := hTu <;> obtain ⟨_, _, rfl, _⟩ := y0 <;> obtain ⟨_, _, rfl, _⟩ := y1 <;> obtain ⟨_, _, rfl, _⟩ := y2 <;> obtain ⟨_, _, rfl, _⟩ := y3 <;> rfl) rfl fun υ91 hb85 k92 => ?_)
  have hb2 := k92.keep _ _ (Ne.symm ne88) hb2
  have hu2 := k92.used _ hu2
  have hb3 := k92.keep _ _ (Ne.symm ne89) hb3
  have hu3 := k92.used _ hu3
  have g1 := g1.but k92 o90
  refine Zaf (kp7 2 3 4 5 19 20 21 ?_)
  clear he e
  intro e he
  refine Zda ?_
  refine ⟨[0, 2, 3, 5, 6, 9, 1, 4, 7, 10, 8, 11, 12, 13, 14, 15, 16, 17], [[], [0], [], [], [3], [], [], [6], [6, 7], [], [9], [6, 7, 8, 9, 10], [0, 1, 2, 6, 7, 8, 9, 10, 11], [0, 1, 2, 6, 7, 8, 9, 10, 11, 12], [0, 1, 2, 6, 7, 8, 9, 10, 11, 12, 13], [0, 1, 2, 3, 4, 5, 6, 7, 8, 9, 10, 11, 12, 13, 14], [0, 1, 2, 3, 4, 5, 6, 7, 8, 9, 10, 11, 12, 13, 14, 15], [0, 1, 2, 3, 4, 5, 6, 7, 8, 9, 10, 11, 12, 13, 14, 15, 16]], fun c => c = b49 \/ c = b81, [1, 4, 10], [8, 11, 14], [], by kernel_rfl, ?_⟩
  refine Za2 ?_
  refine Zae (b := b49) (o := 0) (by simp only [EV,Nat.reduceEqDiff,↓reduceIte,he];try rfl) ZdS rfl ?_
  refine Zb5 ?_
  refine ZcT ?_
  refine Za2 ?_
  refine Zae (b := b49) (o := 0) (by simp only [EV,Nat.reduceEqDiff,↓reduceIte,he];try rfl) ZdS rfl ?_
  refine Zb5 ?_
  refine ZcT ?_
  refine Za2 ?_
  refine Zae (b := b81) (o := 0) (by simp only [EV,Nat.reduceEqDiff,↓reduceIte,he];try rfl) Zcq rfl ?_
  refine Zb5 ?_
  refine Za2 ?_
  refine Zae (b := b81) (o := 0) (by simp only [EV,Nat.reduceEqDiff,↓reduceIte,he];try rfl) Zcq rfl ?_
  refine Zb5 ?_
  apply ZeP
  case hi => simp only [HIX]; try rfl
  case hw => rfl
  case how => rfl
  case hx => simp only [EV,Nat.reduceEqDiff,↓reduceIte,he];try rfl
  case hp => exact (Or.inl rfl)
  case hb => exact hb3
  case ha => exact ZiB
  case hn => exact ZfI
  case hr => exact (show [vI t0, vI v0, vI bi, vI bt, c0, c1, c2, c3, a66][0 + 8]? = some (a66) from rfl)
  apply ZeP
  case hi => simp only [HIX]; try rfl
  case hw => rfl
  case how => rfl
  case hx => simp only [EV,Nat.reduceEqDiff,↓reduceIte,he];try rfl
  case hp => exact (Or.inl rfl)
  case hb => exact hb3
  case ha => exact ZiB
  case hn => exact ZfI
  case hr => exact (show [vI t0, vI v0, vI bi, vI bt, c0, c1, c2, c3, a66][0 + 8]? = some (a66) from rfl)
  refine Za2 ?_
  refine Zah (b := b81) (o := 0 + 2) (r := u) (by simp only [EV,Nat.reduceEqDiff,↓reduceIte,he];try rfl) hb85 fa5 Zb6 rfl ?_
  refine Zb5 ?_
  apply ZeP
  case hi => simp only [HIX]; try rfl
  case hw => rfl
  case how => rfl
  case hx => simp only [EV,Nat.reduceEqDiff,↓reduceIte,he];try rfl
  case hp => exact (Or.inr rfl)
  case hb => exact hb85
  case ha => exact fa7
  case hn => exact Zdb
  case hr => exact (show Zbi (some true) (some 4) [vI (es[i].x), (kV es[i].k), u, d0, d1, d2, d3] (0 + 3) = some (.agg [d0, d1, d2, d3]) from rfl)
  refine Za2 ?_
  refine Zay (vs := [u]) (by simp only [List.map_cons, List.map_nil, EV,Nat.reduceEqDiff,↓reduceIte,he];try rfl) ?_
  refine ZdR hTu.at_ (by have := (hec _ (List.getElem_mem hlt)).1; omega) fun u93 τ94 hT95 hX96 => ?_
  refine ⟨fun _ => hX96.keeps, ?_⟩
  have hb2 := hX96.keep _ _ hb2
  have hu2 := hX96.used _ hu2
  have hb3 := hX96.keep _ _ hb3
  have hu3 := hX96.used _ hu3
  have g1 := g1.ext hX96
  refine Za2 ?_
  refine Zay (vs := [.agg [d0, d1, d2, d3]]) (by simp only [List.map_cons, List.map_nil, EV,Nat.reduceEqDiff,↓reduceIte,he];try rfl) ?_
  refine Zjs hTc (fun l hl => (hec _ (List.getElem_mem hlt)).2 l hl) fun cs97 τ98 h99 hX100 => ?_
  refine ⟨fun _ => hX100.keeps, ?_⟩
  have hb2 := hX100.keep _ _ hb2
  have hu2 := hX100.used _ hu2
  have hb3 := hX100.keep _ _ hb3
  have hu3 := hX100.used _ hu3
  have g1 := g1.ext hX100
  have h990 := h99
  obtain ⟨w0, w1, w2, w3, rfl, _⟩ := h99.four
  obtain ⟨_, _, _, _, _, r0, r1, r2, r3⟩ := h990.tis
  refine Za2 ?_
  refine Zb0 (k := .i64) (j := i) (by simp only [EV,Nat.reduceEqDiff,↓reduceIte,he];try rfl) (by simp only [EV,Nat.reduceEqDiff,↓reduceIte,he];try rfl) Zeb ZbZ g1 hlt fun b101 hb102 => ?_
  refine Zb5 ?_
  refine Za2 ?_
  refine Zae (b := b101) (o := i * 7) (by simp only [EV,Nat.reduceEqDiff,↓reduceIte,he];try rfl) Zcq rfl ?_
  refine Zb5 ?_
  refine Za2 ?_
  refine Zk0 (o := i * 7 + 2) (by simp only [EV,Nat.reduceEqDiff,↓reduceIte,he];try rfl) (by simp only [EV,Nat.reduceEqDiff,↓reduceIte,he];try rfl) Zb6 g1 hb102 (by omega) (by decide) ⟨hT95.one.2.1, by rw [hT95.one.2.2]; rfl, by rw [hT95.one.2.2]; exact (fun a ha => by rw [List.mem_singleton.1 ha]; exact hT95.one.1)⟩ fun υ103 g1 k104 => ?_
  refine ⟨fun _ => k104.keeps fun c hp hc => hp.elim (fun q => o78 _ hc q) (fun q => o90 _ hc q), ?_⟩
  rw [hT95.one.2.2] at g1
  rw [ZhZ hpl (Nat.le_of_ble_eq_true rfl)] at g1
  have g1 : Hd υ103 28 7 a66 es.length (pre ++ [vI es[i].x, kV es[i].k, u93, d0, d1, d2, d3] ++ post) := g1
  have hb2 := k104.keep _ _ (fun q => o77 _ q rfl) hb2
  have hu2 := k104.used _ hu2
  have hb3 := k104.keep _ _ (fun q => o78 _ q rfl) hb3
  have hu3 := k104.used _ hu3
  refine Za2 ?_
  refine Zb0 (k := .i64) (j := i) (by simp only [EV,Nat.reduceEqDiff,↓reduceIte,he];try rfl) (by simp only [EV,Nat.reduceEqDiff,↓reduceIte,he];try rfl) Zeb ZbZ g1 hlt fun b105 hb106 => ?_
  refine Zb5 ?_
  refine Za2 ?_
  refine Zae (b := b105) (o := i * 7) (by simp only [EV,Nat.reduceEqDiff,↓reduceIte,he];try rfl) Zcq rfl ?_
  refine Zb5 ?_
  refine Za2 ?_
  refine Zk0 (o := i * 7 + 3) (by simp only [EV,Nat.reduceEqDiff,↓reduceIte,he];try rfl) (by simp only [EV,Nat.reduceEqDiff,↓reduceIte,he];try rfl) Zdb g1 hb106 (by omega) (by decide) ⟨rfl, rfl, by show ∀ a ∈ [w0, w1, w2, w3], _; exact (fun a ha => by simp only [List.mem_cons, List.not_mem_nil, or_false] at ha; rcases ha with rfl | rfl | rfl | rfl; exact r0.one.1; exact r1.one.1; exact r2.one.1; exact r3.one.1)⟩ fun υ107 g1 k108 => ?_
  refine ⟨fun q => (by cases q), ?_⟩
  rw [ZhZ hpl (Nat.le_of_ble_eq_true rfl)] at g1
  have g1 : Hd υ107 28 7 a66 es.length (pre ++ [vI es[i].x, kV es[i].k, u93, w0, w1, w2, w3] ++ post) := g1
  have hb2 := k108.keep _ _ (fun q => o77 _ q rfl) hb2
  have hu2 := k108.used _ hu2
  have hb3 := k108.keep _ _ (fun q => o78 _ q rfl) hb3
  have hu3 := k108.used _ hu3
  refine Zfr ?_
  show ZaA _ _ _ _ _ _
  refine kp5 2 3 19 20 21 ?_
  clear he e
  intro e he
  refine Zad (Zby i 1 ?_)
  refine Zag ?_
  refine Zaf ?_
  show ∃ n', n' < _ /\ _
  refine ⟨_, (by omega), i + 1, pre ++ [vI es[i].x, kV es[i].k, u93, w0, w1, w2, w3] ++ post, rfl, ⟨by simp only [EV,Nat.reduceEqDiff,↓reduceIte,he];try rfl, by simp only [EV,Nat.reduceEqDiff,↓reduceIte,he];try rfl, by simp only [EV,Nat.reduceEqDiff,↓reduceIte,he];try rfl, by simp only [EV,Nat.reduceEqDiff,↓reduceIte,he];try rfl, by simp only [EV,Nat.reduceEqDiff,↓reduceIte,he];try rfl⟩, (by omega), g1, (hset _ ⟨_, _, _, _, _, rfl, hT95, h990⟩), (But.ext (But.ext (((But.ext (kX.trans hX87) (fun g hg => by rw [hg]; exact kX.noneOf hn83) k92).trans hX96).trans hX100) (fun c hc => (nw c hc).1) k104) (fun c hc => (nw c hc).1) k108), hb2, hu2, hb3, hu3⟩
 have bht22 := ht22
 have ht22 := of_decide_eq_false bht22
 refine Zbu ?_
 show ZaA _ _ _ _ _ _
 refine Zaa (Zac (Zah (b := b49) (o := 0) (r := .agg [vI t0, vI v0, vI bi, vI bt, c0, c1, c2, c3, a66]) he.2.1 hb3 Zhy Zdx rfl ?_))
 refine Zac (ZaB (b := b41) (o := 0) (u := .agg [vI t0, vI v0, vI bi, vI bt, c0, c1, c2, c3, a66]) (cs' := [vI t0, vI v0, vI bi, vI bt, c0, c1, c2, c3, a66]) he.1 rfl hb2 Zdx (by obtain ⟨_, _, rfl, _⟩ := s0 <;> obtain ⟨_, _, rfl, _⟩ := s1 <;> obtain ⟨_, _, rfl, _⟩ := s2 <;> obtain ⟨_, _, rfl, _⟩ := s3 <;> rcases g1.2.2 with ⟨rfl | ⟨_, rfl⟩, _⟩ | ⟨_, _, _, _, rfl, _⟩ <;> rfl) rfl fun υ109 hb2 k110 => ?_)
 have hb3 := k110.keep _ _ ne57 hb3
 have hu3 := k110.used _ hu3
 have g1 := g1.but k110 o77
 have hu2 := k110.used _ hu2
 refine Zaf (kp1 2 ?_)
 clear he e
 intro e he
 refine Zap ?_
 obtain rfl : i = es.length := by omega
 show ∃ r, ZaM _ _ _ _ r /\ _
 exact ⟨_, ZdE rfl (ZaJ he hb2 Zhy Zdx rfl), hK _ _ _ _ _ _ _ h620 g1 gC nw (But.ext kX (fun g hg => by rw [hg]; exact z2) k110)⟩
end
theorem ZrJ : Program.underlying Tryz.prog 69 = some (.pointer (Program.pointee Tryz.prog 69)) := by kernel_rfl
section
variable {σ : St} {K : AV -> St -> Prop}
theorem Znm {cs : List AV} {s : JSt} {m : Nat} (hJ : JT cs s) (hs : JOk s m) (hm : m <= 1000000000) (hK : ∀ cs τ, JT cs s -> Ext σ τ -> K (.agg cs) τ) : Zan Tryz.prog 86 [.agg cs] σ K := by
 obtain ⟨a0, a1, a2, a3, v, rfl, hC, hE⟩ := hJ
 refine Zan.tell (ZlG hC hE (Nat.le_trans hs.es hm) hs.bl hs.cl fun c0 c1 c2 c3 x cells τ g0 g1 g2 g3 g4 => ?_)
 obtain ⟨A, c, q1, q2⟩ := Zj0 g1 rfl (by have := hs.es; omega) g2 g3
 exact ⟨_, _, Zc0.agg (ZdH q1 [vI s.term, vI s.vote, vI s.bi, vI s.bt, c0, c1, c2, c3]), hK _ _ ⟨_, _, _, _, _, rfl, g0, q2⟩ (ZcN g4 fun c hc => g3 c hc)⟩
structure JAt (σ : St) (jb : Nat) (s : JSt) (bb : Nat) (nm : List UInt8) : Prop where
 ex : ∃ cs, σ.blk jb = some (.own 94 (cs ++ [ptr bb 0, .raw (sV nm)])) /\ JT cs s
 used : σ.used jb
theorem JAt.but {U : Nat -> Prop} {σ τ : St} {jb bb : Nat} {s : JSt} {nm : List UInt8} (h : JAt σ jb s bb nm) (k : But U σ τ) (hU : ¬ U jb) : JAt τ jb s bb nm := by
 obtain ⟨cs, h1, h2⟩ := h.ex
 exact ⟨⟨cs, k.keep _ _ hU h1, h2⟩, k.used _ h.used⟩
theorem JAt.ext {σ τ : St} {jb bb : Nat} {s : JSt} {nm : List UInt8} (h : JAt σ jb s bb nm) (k : Ext σ τ) : JAt τ jb s bb nm := h.but (U := fun _ => False) k.but id
theorem ZlH {S : Nat -> Prop} {wb : Nat} {sp : Bool} {bs : List UInt8} (hW : WAt σ S wb sp bs) (hl : bs.length <= 1000000000) (hK1 : sp = true -> K (.tup [.lst none 0 0 [], vI 2]) σ) (hK0 : sp = false -> ∀ a τ, TB a bs -> Ext σ τ -> K (.tup [a, vI 0]) τ) : Zan Tryz.prog 20 [ptr wb 0] σ K := by
 cases hsp : sp with
 | true => exact Zil hW hl (fun _ => hK1 hsp) (fun q => by rw [hsp] at q; cases q)
 | false =>
  refine Zan.tell (Zil hW hl (fun q => by rw [hsp] at q; cases q) fun _ a τ h1 h2 h3 => ?_)
  obtain ⟨A, c, q1, q2, q3, q4⟩ := h1.lends (G := fun b => hbk a = some b) (fun b hb => hb) (.refl (bys bs))
  exact ⟨fun b => hbk a = some b, .tup [.lst A bs.length c (bys bs), vI 0], Zc0.tup ⟨q1, .refl _, trivial⟩, hK0 hsp _ _ ⟨A, c, [], by rw [List.append_nil], ⟨q2, q3, by omega, q4⟩⟩ (ZcN h2 fun c hc => h3 c hc)⟩
theorem Zqt {v : AV} {d : List UInt8} {rb : Nat} (hv : TB v d) (hl : d.length <= 100000000) (K' : AV -> St -> Prop) (hK : ∀ v τ, Hd τ 5 1 v d.length (bys d) -> Ext σ τ -> (∀ b, hbk v = some b -> Za9 σ b) -> K' v τ) : Zan Tryz.prog 151 [.lst (some ⟨rb, 0, none⟩) 1 1 [v]] σ K' := by
 obtain ⟨A, c, rest, rfl, hL⟩ := hv
 refine Zmy (ps := [d]) (Zhz.2 ⟨some ⟨rb, 0, none⟩, 1, [.lst A d.length c (bys d ++ rest)], [], rfl, Nat.le_refl _, by decide, by simp, fun q => (by cases q), ?_⟩) (by simp) (by simp; omega) K' ?_
 ·exact .cons (Zig hL) .none
 ·intro v τ q1 q2 q3
  simp only [List.flatten_cons, List.flatten_nil, List.append_nil] at q1
  exact hK v τ q1 q2 q3
theorem Zhn {jb bb : Nat} {s : JSt} {nm : List UInt8} (hJ : JAt σ jb s bb nm) (hK : K (vT true) σ) : Zan Tryz.prog 85 [ptr jb 0] σ K := by
 have hJ0 := hJ
 obtain ⟨cs, hj, a0, a1, a2, a3, v, rfl, hC, hE⟩ := hJ0.ex
 have huj := hJ.used
 obtain ⟨_, _, _, _, _, z0, z1, z2, z3⟩ := hC.tis
 refine Zai Zam Tryz.func85 rfl rfl rfl (Nat.le_of_ble_eq_true rfl) ?_
 refine Zbf 0 (v0 := ptr jb 0) rfl ?_
 intro e he
 refine Zaa (Zag ?_)
 refine Zaf (kp1 0 fun e he => ?_)
 refine Zaa (Zag ?_)
 refine Zac (Zfn (p := some ⟨jb, 0, none⟩) ZrJ rfl rfl rfl ?_)
 refine Zag ?_
 refine Zau ?_
 refine Zcb rfl he ?_
 refine Zau ?_
 refine Zav (v := ptr jb 0) rfl rfl ?_
 refine Zau ?_
 refine Zae (b := jb) (o := 0) rfl Zl2 rfl ?_
 refine Zau ?_
 refine Zah (b := jb) (o := 0 + 9) (r := ptr bb 0) rfl hj ZrX ZrY rfl ?_
 refine Zau ?_
 refine Zfn (p := some ⟨bb, 0, none⟩) fa2 rfl rfl rfl ?_
 refine Zac (Zaj (v := vT true) rfl rfl ?_)
 refine Zag ?_
 refine Zaf (kp1 2 fun e he => ?_)
 refine Zap ?_
 exact ZaD (hK)
theorem Znn {jb bb : Nat} {s : JSt} {nm : List UInt8} {m : Nat} (hJ : JAt σ jb s bb nm) (hs : JOk s m) (hm : m <= 1000000000) (hK : ∀ cs τ, JT cs s -> Ext σ τ -> K (.agg cs) τ) : Zan Tryz.prog 39 [ptr jb 0] σ K := by
 have hJ0 := hJ
 obtain ⟨cs, hj, a0, a1, a2, a3, v, rfl, hC, hE⟩ := hJ0.ex
 have huj := hJ.used
 obtain ⟨_, _, _, _, _, z0, z1, z2, z3⟩ := hC.tis
 refine Zai Zam Tryz.func39 rfl rfl rfl (Nat.le_of_ble_eq_true rfl) ?_
 refine Zbf 0 (v0 := ptr jb 0) rfl ?_
 intro e he
 refine Zaa (Zac (ZaH (cs := [vI 0, vI 0, vI 0, vI 0, .lst none 0 0 [], .lst none 0 0 [], .lst none 0 0 [], .lst none 0 0 [], .lst none 0 0 []]) Zgq rfl fun b1 υ2 hn3 hu4 hb5 hv6 hX7 => ?_))
 have ne8 := Zat hj hn3
 have hj := hX7.keep _ _ hj
 have huj := hX7.used _ huj
 refine Zaf (kp2 0 2 fun e he => ?_)
 refine Zab (Zaa (Zag ?_))
 refine Zao [ptr jb 0] ?_
 refine Zhn (hJ.ext hX7) ?_
 refine ZcU ?_
 refine Zaf (kp3 0 2 5 fun e he => ?_)
 refine ZaC (t := false) he.2.2 (fun ht => by cases ht) (fun ht => ?_)
 refine ZaL (Zaa (Zag ?_))
 refine ZdP (b := jb) rfl Zl2 rfl fun u1 => ?_
 refine Zac (Zah (b := jb) (o := 0 + 0) (r := .agg [vI s.term, vI s.vote, vI s.bi, vI s.bt, a0, a1, a2, a3, v]) rfl hj Zle Zlf rfl ?_)
 refine Zao [.agg [vI s.term, vI s.vote, vI s.bi, vI s.bt, a0, a1, a2, a3, v]] ?_
 refine Znm ⟨_, _, _, _, _, rfl, hC, hE⟩ hs hm fun cs9 τ10 h11 hX12 => ?_
 have hj := hX12.keep _ _ hj
 have huj := hX12.used _ huj
 have hb5 := hX12.keep _ _ hb5
 have hv6 := hX12.used _ hv6
 obtain ⟨f0, f1, f2, f3, u, rfl, hC2, hE2⟩ := h11
 obtain ⟨_, _, _, _, _, y0, y1, y2, y3⟩ := hC2.tis
 refine Zac (ZaB (b := b1) (o := 0) (u := .agg [vI s.term, vI s.vote, vI s.bi, vI s.bt, f0, f1, f2, f3, u]) (cs' := [vI s.term, vI s.vote, vI s.bi, vI s.bt, f0, f1, f2, f3, u]) he.2.1 rfl hb5 Zdx (by obtain ⟨_, _, rfl, _⟩ := y0 <;> obtain ⟨_, _, rfl, _⟩ := y1 <;> obtain ⟨_, _, rfl, _⟩ := y2 <;> obtain ⟨_, _, rfl, _⟩ := y3 <;> obtain ⟨_, _, _, _, rfl, _⟩ := hE2 <;> rfl) rfl fun υ13 hb5 k14 => ?_)
 have hj := k14.keep _ _ (Ne.symm ne8) hj
 have huj := k14.used _ huj
 have hv6 := k14.used _ hv6
 refine Zaf (kp1 2 fun e he => ?_)
 refine Zap ?_
 show ∃ r, ZaM _ _ _ _ r /\ _
 exact ⟨_, ZdE rfl (ZaJ he hb5 Zhy Zdx rfl), hK _ _ ⟨_, _, _, _, _, rfl, hC2, hE2⟩ (But.ext (hX7.trans hX12) (fun g hg => by rw [hg]; exact hn3) k14)⟩
set_option maxHeartbeats 2000000 in
theorem ZrK {S T : Nat -> Prop} {jb bb mb wb kd : Nat} {s : JSt} {nm bs : List UInt8} {sp : Bool} {m : Nat} {fs : List Fl} {pcs : List (Nat × Nat)} {size : Int} {pv : AV} (hJ : JAt σ jb s bb nm) (hs : JOk s m) (hm : m <= 1000000000) (hD : DAt σ bb S fs pcs size mb pv) (hSu : ∀ c, S c -> σ.used c) (hjS : ¬ S jb) (hW : WAt σ T wb sp bs) (hbl : bs.length <= 90000000) (hkd : kd <= 255) (hnm : nm ≠ [] /\ nm.length <= 40) (hlen : (code ((kd : Int), bs)).length + Zec fs <= 100000000) (hp : pcs.length <= 100000000)
 (hK2 : (sp = true \/ Zc5 s kd bs = none) -> ∀ τ, Ext σ τ -> K (vI 2) τ)
 (hK3 : ∀ s2, sp = false -> Zc5 s kd bs = some s2 -> 262144 < bs.length -> ∀ τ, Ext σ τ -> K (vI 3) τ)
 (hK8 : ∀ s2, sp = false -> Zc5 s kd bs = some s2 -> bs.length <= 262144 -> ¬ (size < 1 \/ (((code ((kd : Int), bs)).length + Zec fs : Nat) : Int) <= size) -> ∀ τ, Ext σ τ -> K (vI 8) τ)
 (hK0 : ∀ s2, sp = false -> Zc5 s kd bs = some s2 -> bs.length <= 262144 -> (size < 1 \/ (((code ((kd : Int), bs)).length + Zec fs : Nat) : Int) <= size) -> ∀ τ S2 fs2 pcs2 pv2, DAt τ bb S2 fs2 pcs2 size mb pv2 -> JAt τ jb s2 bb nm -> But (fun c => S c \/ c = jb) σ τ -> (∀ c, S c -> S2 c) -> (∀ c, S2 c -> S c \/ Za9 σ c) -> (∀ c, S2 c -> τ.used c) -> Zr2 fs pcs nm (code ((kd : Int), bs)) fs2 pcs2 -> K (vI 0) τ) : Zan Tryz.prog 102 [ptr jb 0, vI ((kd : Nat) : Int), ptr wb 0] σ K := by
 have hJ0 := hJ
 obtain ⟨cs, hj, a0, a1, a2, a3, v, rfl, hC, hE⟩ := hJ0.ex
 have huj := hJ.used
 obtain ⟨_, _, _, _, _, z0, z1, z2, z3⟩ := hC.tis
 refine Zai Zam Tryz.func102 rfl rfl rfl (Nat.le_of_ble_eq_true rfl) ?_
 refine Zhx 0 1 2 (v0 := ptr jb 0) (v1 := vI ((kd : Nat) : Int)) (v2 := ptr wb 0) rfl rfl rfl ?_
 intro e he
 refine Zaa (Zag ?_)
 refine Zaf (kp3 0 1 2 fun e he => ?_)
 refine Zaa (Zag ?_)
 refine Zao [ptr wb 0] ?_
 refine ZlH hW (by omega) (fun hsp19 => ?_) (fun hsp19 a15 τ16 h17 hX18 => ?_)
 ·refine Zag ?_
  refine Zac (Zaw (l := [.lst none 0 0 [], vI 2]) (r := .lst none 0 0 []) rfl rfl ?_)
  refine Zac (Zaw (l := [.lst none 0 0 [], vI 2]) (r := vI 2) rfl rfl ?_)
  refine Zag ?_
  refine Zag ?_
  refine Zaf (kp4 0 1 7 8 fun e he => ?_)
  refine Zaa (Zag ?_)
  refine Zag ?_
  refine Zac (Zbj (vs := [vI ((kd : Nat) : Int), .lst none 0 0 []]) (cells := [vI ((kd : Nat) : Int), .lst none 0 0 []]) (by simp only [List.map_cons, List.map_nil, EV,Nat.reduceEqDiff,↓reduceIte,he];try rfl) ZiC ZpA rfl ?_)
  refine Zac (ZaH (cs := [vI 0, .lst none 0 0 []]) ZiC rfl fun b20 υ21 hn22 hu23 hb24 hv25 hX26 => ?_)
  have ne27 := Zat hj hn22
  have hj := hX26.keep _ _ hj
  have huj := hX26.used _ huj
  refine Zac (ZaB (b := b20) (o := 0) (u := .agg [vI ((kd : Nat) : Int), .lst none 0 0 []]) (cs' := [vI ((kd : Nat) : Int), .lst none 0 0 []]) rfl rfl hb24 Ze2 rfl rfl fun υ28 hb24 k29 => ?_)
  have hj := k29.keep _ _ (Ne.symm ne27) hj
  have huj := k29.used _ huj
  refine Zaf (kp3 0 8 9 fun e he => ?_)
  refine Zbt ?_
  refine ⟨[0, 1, 2, 3, 4, 5, 6, 7, 8, 9, 10, 11], [[], [0], [0, 1], [0, 1, 2], [], [0, 1, 2, 3, 4], [0, 1, 2, 3, 4, 5], [0, 1, 2, 3, 4, 5, 6], [0, 1, 2, 3, 4, 5, 6], [], [0, 1, 2, 3, 4, 5, 6, 7, 9], [0, 1, 2, 3, 4, 5, 6, 7, 8, 9, 10]], fun _ => True, [], [], [], by kernel_rfl, ?_⟩
  refine Zax ?_
  refine Zas ?_
  refine Zav (v := ptr jb 0) rfl rfl ?_
  refine Zaz ?_
  refine Zas ?_
  refine Zae (b := jb) (o := 0) rfl Zl2 rfl ?_
  refine Zaz ?_
  refine Zas ?_
  refine Zah (b := jb) (o := 0 + 0) (r := .agg [vI s.term, vI s.vote, vI s.bi, vI s.bt, a0, a1, a2, a3, v]) rfl hj Zle Zlf rfl ?_
  refine Zaz ?_
  refine Zas ?_
  refine Zah (b := b20) (o := 0) (r := .agg [vI ((kd : Nat) : Int), .lst none 0 0 []]) he.2.2 hb24 fa3 Ze2 rfl ?_
  refine Zaz ?_
  refine Zas ?_
  refine Zay (vs := [.agg [vI s.term, vI s.vote, vI s.bi, vI s.bt, a0, a1, a2, a3, v], .agg [vI ((kd : Nat) : Int), .lst none 0 0 []]]) (by simp only [List.map_cons, List.map_nil, EV,Nat.reduceEqDiff,↓reduceIte,he];try rfl) ?_
  refine Ziy (d := []) (m := m) (⟨_, _, _, _, _, rfl, hC, hE⟩ : JT _ s) hs hm (fun τ _ => ZdQ.at_) (Nat.zero_le _) (fun s30 cs31 τ32 hst33 hJ34 hX35 => ?_) (fun s30 cs31 τ32 hst33 hJ34 hX35 => ?_)
  ·refine ⟨fun _ => hX35, ?_⟩
   have hj := hX35.keep _ _ hj
   have huj := hX35.used _ huj
   obtain ⟨q36_0, q36_1, q36_2, q36_3, q36_v, rfl, q36_C, q36_E⟩ := hJ34
   obtain ⟨_, _, _, _, _, q36_z0, q36_z1, q36_z2, q36_z3⟩ := q36_C.tis
   refine Zax ?_
   refine Zas ?_
   refine Zaw (l := [.agg [vI s30.term, vI s30.vote, vI s30.bi, vI s30.bt, q36_0, q36_1, q36_2, q36_3, q36_v], vT true]) (r := .agg [vI s30.term, vI s30.vote, vI s30.bi, vI s30.bt, q36_0, q36_1, q36_2, q36_3, q36_v]) rfl rfl ?_
   refine Zaz ?_
   refine Zas ?_
   refine Zaw (l := [.agg [vI s30.term, vI s30.vote, vI s30.bi, vI s30.bt, q36_0, q36_1, q36_2, q36_3, q36_v], vT true]) (r := vT true) rfl rfl ?_
   refine Zaz ?_
   refine Zas ?_
   refine ZaH (cs := [vI 0, vI 0, vI 0, vI 0, .lst none 0 0 [], .lst none 0 0 [], .lst none 0 0 [], .lst none 0 0 [], .lst none 0 0 []]) Zgq rfl fun b37 υ38 hn39 hu40 hb41 hv42 hX43 => ?_
   refine ⟨fun q => (by cases q), ?_⟩
   have ne44 := Zat hj hn39
   have hj := hX43.keep _ _ hj
   have huj := hX43.used _ huj
   refine Zas ?_
   refine ZaB (b := b37) (o := 0) (u := .agg [vI s30.term, vI s30.vote, vI s30.bi, vI s30.bt, q36_0, q36_1, q36_2, q36_3, q36_v]) (cs' := [vI s30.term, vI s30.vote, vI s30.bi, vI s30.bt, q36_0, q36_1, q36_2, q36_3, q36_v]) rfl rfl hb41 Zdx (by obtain ⟨_, _, rfl, _⟩ := q36_z0 <;> obtain ⟨_, _, rfl, _⟩ := q36_z1 <;> obtain ⟨_, _, rfl, _⟩ := q36_z2 <;> obtain ⟨_, _, rfl, _⟩ := q36_z3 <;> obtain ⟨_, _, _, _, rfl, _⟩ := q36_E <;> rfl) rfl fun υ46 hb41 k47 => ?_
   refine ⟨fun q => (by cases q), ?_⟩
   have hj := k47.keep _ _ (Ne.symm ne44) hj
   have huj := k47.used _ huj
   refine Zax ?_
   refine ZbI (kp5 0 8 9 10 11 ?_)
   clear he e
   intro e he
   refine Zab (Zaa (Zag ?_))
   refine Zac (Zdo (k := .i64) (a := 2) (b := 0) rfl rfl ?_)
   rw [decide_eq_true (by decide : (2 : Int) ≠ 0)]
   refine Zag ?_
   refine Zal ?_
   refine Zal ?_
   refine Zac (Zaj (v := vT true) rfl rfl ?_)
   refine Zaf (kp4 0 9 10 36 fun e he => ?_)
   refine ZaC (t := true) he.2.2.2 (fun ht => ?_) (fun ht => by cases ht)
   refine Zab (Zaa (Zag ?_))
   refine Zaf (kp1 6 fun e he => ?_)
   refine ZbB ?_
   exact ZaD (hK2 (.inl hsp19) _ (But.ext (((But.ext hX26 (fun g hg => by rw [hg]; exact hn22) k29).trans hX35).trans hX43) (fun g hg => by rw [hg]; exact ((But.ext hX26 (fun g hg => by rw [hg]; exact hn22) k29).trans hX35).noneOf hn39) k47))
  refine ⟨fun _ => hX35, ?_⟩
  have hj := hX35.keep _ _ hj
  have huj := hX35.used _ huj
  obtain ⟨q48_0, q48_1, q48_2, q48_3, q48_v, rfl, q48_C, q48_E⟩ := hJ34
  obtain ⟨_, _, _, _, _, q48_z0, q48_z1, q48_z2, q48_z3⟩ := q48_C.tis
  refine Zax ?_
  refine Zas ?_
  refine Zaw (l := [.agg [vI s30.term, vI s30.vote, vI s30.bi, vI s30.bt, q48_0, q48_1, q48_2, q48_3, q48_v], vT false]) (r := .agg [vI s30.term, vI s30.vote, vI s30.bi, vI s30.bt, q48_0, q48_1, q48_2, q48_3, q48_v]) rfl rfl ?_
  refine Zaz ?_
  refine Zas ?_
  refine Zaw (l := [.agg [vI s30.term, vI s30.vote, vI s30.bi, vI s30.bt, q48_0, q48_1, q48_2, q48_3, q48_v], vT false]) (r := vT false) rfl rfl ?_
  refine Zaz ?_
  refine Zas ?_
  refine ZaH (cs := [vI 0, vI 0, vI 0, vI 0, .lst none 0 0 [], .lst none 0 0 [], .lst none 0 0 [], .lst none 0 0 [], .lst none 0 0 []]) Zgq rfl fun b49 υ50 hn51 hu52 hb53 hv54 hX55 => ?_
  refine ⟨fun q => (by cases q), ?_⟩
  have ne56 := Zat hj hn51
  have hj := hX55.keep _ _ hj
  have huj := hX55.used _ huj
  refine Zas ?_
  refine ZaB (b := b49) (o := 0) (u := .agg [vI s30.term, vI s30.vote, vI s30.bi, vI s30.bt, q48_0, q48_1, q48_2, q48_3, q48_v]) (cs' := [vI s30.term, vI s30.vote, vI s30.bi, vI s30.bt, q48_0, q48_1, q48_2, q48_3, q48_v]) rfl rfl hb53 Zdx (by obtain ⟨_, _, rfl, _⟩ := q48_z0 <;> obtain ⟨_, _, rfl, _⟩ := q48_z1 <;> obtain ⟨_, _, rfl, _⟩ := q48_z2 <;> obtain ⟨_, _, rfl, _⟩ := q48_z3 <;> obtain ⟨_, _, _, _, rfl, _⟩ := q48_E <;> rfl) rfl fun υ58 hb53 k59 => ?_
  refine ⟨fun q => (by cases q), ?_⟩
  have hj := k59.keep _ _ (Ne.symm ne56) hj
  have huj := k59.used _ huj
  refine Zax ?_
  refine ZbI (kp5 0 8 9 10 11 ?_)
  clear he e
  intro e he
  refine Zab (Zaa (Zag ?_))
  refine Zac (Zdo (k := .i64) (a := 2) (b := 0) rfl rfl ?_)
  rw [decide_eq_true (by decide : (2 : Int) ≠ 0)]
  refine Zag ?_
  refine Zal ?_
  refine Zal ?_
  refine Zac (Zaj (v := vT true) rfl rfl ?_)
  refine Zaf (kp4 0 9 10 36 fun e he => ?_)
  refine ZaC (t := true) he.2.2.2 (fun ht => ?_) (fun ht => by cases ht)
  refine Zab (Zaa (Zag ?_))
  refine Zaf (kp1 6 fun e he => ?_)
  refine ZbB ?_
  exact ZaD (hK2 (.inl hsp19) _ (But.ext (((But.ext hX26 (fun g hg => by rw [hg]; exact hn22) k29).trans hX35).trans hX55) (fun g hg => by rw [hg]; exact ((But.ext hX26 (fun g hg => by rw [hg]; exact hn22) k29).trans hX35).noneOf hn51) k59))
 have hj := hX18.keep _ _ hj
 have huj := hX18.used _ huj
 refine Zag ?_
 refine Zac (Zaw (l := [a15, vI 0]) (r := a15) rfl rfl ?_)
 refine Zac (Zaw (l := [a15, vI 0]) (r := vI 0) rfl rfl ?_)
 refine Zag ?_
 refine Zag ?_
 refine Zaf (kp4 0 1 7 8 fun e he => ?_)
 refine Zaa (Zag ?_)
 refine Zag ?_
 refine Zac (Zbj (vs := [vI ((kd : Nat) : Int), a15]) (cells := [vI ((kd : Nat) : Int), a15]) (by simp only [List.map_cons, List.map_nil, EV,Nat.reduceEqDiff,↓reduceIte,he];try rfl) ZiC ZpA (by obtain ⟨A, c, rest, rfl, _⟩ := h17 <;> rfl) ?_)
 refine Zac (ZaH (cs := [vI 0, .lst none 0 0 []]) ZiC rfl fun b60 υ61 hn62 hu63 hb64 hv65 hX66 => ?_)
 have ne67 := Zat hj hn62
 have hj := hX66.keep _ _ hj
 have huj := hX66.used _ huj
 refine Zac (ZaB (b := b60) (o := 0) (u := .agg [vI ((kd : Nat) : Int), a15]) (cs' := [vI ((kd : Nat) : Int), a15]) rfl rfl hb64 Ze2 (by obtain ⟨A, c, rest, rfl, _⟩ := h17 <;> rfl) rfl fun υ68 hb64 k69 => ?_)
 have hj := k69.keep _ _ (Ne.symm ne67) hj
 have huj := k69.used _ huj
 have hv65 := k69.used _ hv65
 refine Zaf (kp3 0 8 9 fun e he => ?_)
 refine Zbt ?_
 refine ⟨[0, 1, 2, 3, 4, 5, 6, 7, 8, 9, 10, 11], [[], [0], [0, 1], [0, 1, 2], [], [0, 1, 2, 3, 4], [0, 1, 2, 3, 4, 5], [0, 1, 2, 3, 4, 5, 6], [0, 1, 2, 3, 4, 5, 6], [], [0, 1, 2, 3, 4, 5, 6, 7, 9], [0, 1, 2, 3, 4, 5, 6, 7, 8, 9, 10]], fun _ => True, [], [], [], by kernel_rfl, ?_⟩
 refine Zax ?_
 refine Zas ?_
 refine Zav (v := ptr jb 0) rfl rfl ?_
 refine Zaz ?_
 refine Zas ?_
 refine Zae (b := jb) (o := 0) rfl Zl2 rfl ?_
 refine Zaz ?_
 refine Zas ?_
 refine Zah (b := jb) (o := 0 + 0) (r := .agg [vI s.term, vI s.vote, vI s.bi, vI s.bt, a0, a1, a2, a3, v]) rfl hj Zle Zlf rfl ?_
 refine Zaz ?_
 refine Zas ?_
 refine Zah (b := b60) (o := 0) (r := .agg [vI ((kd : Nat) : Int), a15]) he.2.2 hb64 fa3 Ze2 rfl ?_
 refine Zaz ?_
 refine Zas ?_
 refine Zay (vs := [.agg [vI s.term, vI s.vote, vI s.bi, vI s.bt, a0, a1, a2, a3, v], .agg [vI ((kd : Nat) : Int), a15]]) (by simp only [List.map_cons, List.map_nil, EV,Nat.reduceEqDiff,↓reduceIte,he];try rfl) ?_
 refine Ziy (d := bs) (m := m) (⟨_, _, _, _, _, rfl, hC, hE⟩ : JT _ s) hs hm (fun τ _ => h17.at_) (by omega) (fun s70 cs71 τ72 hst73 hJ74 hX75 => ?_) (fun s70 cs71 τ72 hst73 hJ74 hX75 => ?_)
 ·refine ⟨fun _ => hX75, ?_⟩
  have hj := hX75.keep _ _ hj
  have huj := hX75.used _ huj
  have hb64 := hX75.keep _ _ hb64
  have hv65 := hX75.used _ hv65
  obtain ⟨q76_0, q76_1, q76_2, q76_3, q76_v, rfl, q76_C, q76_E⟩ := hJ74
  obtain ⟨_, _, _, _, _, q76_z0, q76_z1, q76_z2, q76_z3⟩ := q76_C.tis
  refine Zax ?_
  refine Zas ?_
  refine Zaw (l := [.agg [vI s70.term, vI s70.vote, vI s70.bi, vI s70.bt, q76_0, q76_1, q76_2, q76_3, q76_v], vT true]) (r := .agg [vI s70.term, vI s70.vote, vI s70.bi, vI s70.bt, q76_0, q76_1, q76_2, q76_3, q76_v]) rfl rfl ?_
  refine Zaz ?_
  refine Zas ?_
  refine Zaw (l := [.agg [vI s70.term, vI s70.vote, vI s70.bi, vI s70.bt, q76_0, q76_1, q76_2, q76_3, q76_v], vT true]) (r := vT true) rfl rfl ?_
  refine Zaz ?_
  refine Zas ?_
  refine ZaH (cs := [vI 0, vI 0, vI 0, vI 0, .lst none 0 0 [], .lst none 0 0 [], .lst none 0 0 [], .lst none 0 0 [], .lst none 0 0 []]) Zgq rfl fun b77 υ78 hn79 hu80 hb81 hv82 hX83 => ?_
  refine ⟨fun q => (by cases q), ?_⟩
  have ne84 := Zat hj hn79
  have ne85 := Zat hb64 hn79
  have hj := hX83.keep _ _ hj
  have huj := hX83.used _ huj
  have hb64 := hX83.keep _ _ hb64
  have hv65 := hX83.used _ hv65
  refine Zas ?_
  refine ZaB (b := b77) (o := 0) (u := .agg [vI s70.term, vI s70.vote, vI s70.bi, vI s70.bt, q76_0, q76_1, q76_2, q76_3, q76_v]) (cs' := [vI s70.term, vI s70.vote, vI s70.bi, vI s70.bt, q76_0, q76_1, q76_2, q76_3, q76_v]) rfl rfl hb81 Zdx (by obtain ⟨_, _, rfl, _⟩ := q76_z0 <;> obtain ⟨_, _, rfl, _⟩ := q76_z1 <;> obtain ⟨_, _, rfl, _⟩ := q76_z2 <;> obtain ⟨_, _, rfl, _⟩ := q76_z3 <;> obtain ⟨_, _, _, _, rfl, _⟩ := q76_E <;> rfl) rfl fun υ86 hb81 k87 => ?_
  refine ⟨fun q => (by cases q), ?_⟩
  have hj := k87.keep _ _ (Ne.symm ne84) hj
  have huj := k87.used _ huj
  have hb64 := k87.keep _ _ (Ne.symm ne85) hb64
  have hv65 := k87.used _ hv65
  refine Zax ?_
  refine ZbI (kp5 0 8 9 10 11 ?_)
  clear he e
  intro e he
  refine Zab (Zaa (Zag ?_))
  refine Zac (Zdo (k := .i64) (a := 0) (b := 0) rfl rfl ?_)
  rw [decide_eq_false (by decide : ¬ (0 : Int) ≠ 0)]
  refine Zag ?_
  refine Zau ?_
  refine Zcb rfl he.2.2.2.2 ?_
  refine Zau ?_
  refine ZcR (b := true) rfl ?_
  refine Zac (Zak (v := vT (!true)) rfl rfl ?_)
  refine Zaf (kp4 0 9 10 36 fun e he => ?_)
  refine ZaC (t := false) he.2.2.2 (fun ht => by cases ht) (fun ht => ?_)
  refine ZaL (Zaa (Zac (Zah (b := b60) (o := 0) (r := .agg [vI ((kd : Nat) : Int), a15]) he.2.1 hb64 fa3 Ze2 rfl ?_)))
  refine Zac (ZaN (vs := [.agg [vI ((kd : Nat) : Int), a15]]) (cells := [vI ((kd : Nat) : Int), a15]) (by simp only [List.map_cons, List.map_nil, EV,Nat.reduceEqDiff,↓reduceIte,he];try rfl) ZpB Ze2 ZiC rfl (by decide) (by obtain ⟨A, c, rest, rfl, _⟩ := h17 <;> rfl) fun b88 hu89 hb90 => ?_)
  have hX91 := Ext.put (.tail 136 (1 * 2) (1 * 2)) hb90
  have hj := hX91.keep _ _ hj
  have huj := hX91.used _ huj
  have hb64 := hX91.keep _ _ hb64
  have hv65 := hX91.used _ hv65
  have hb81 := hX91.keep _ _ hb81
  refine Zao [.lst (some ⟨b88, 0, none⟩) 1 1 [vI ((kd : Nat) : Int), a15]] ?_
  refine Zp7 (x := kd) hkd h17 (by simp) hbl (fun hc99 a95 τ96 h97 hX98 => ?_) (fun hc99 τ96 hX98 => ?_)
  ·have hj := hX98.keep _ _ hj
   have huj := hX98.used _ huj
   have hb64 := hX98.keep _ _ hb64
   have hv65 := hX98.used _ hv65
   have hb81 := hX98.keep _ _ hb81
   refine Zag ?_
   refine Zac (Zaw (l := [a95, vI 0]) (r := a95) rfl rfl ?_)
   refine Zac (Zaw (l := [a95, vI 0]) (r := vI 0) rfl rfl ?_)
   refine Zag ?_
   refine Zag ?_
   refine Zaf (kp4 0 8 10 12 fun e he => ?_)
   refine Zab (Zaa (Zag ?_))
   refine Zac (Zdo (k := .i64) (a := 0) (b := 0) rfl rfl ?_)
   rw [decide_eq_false (by decide : ¬ (0 : Int) ≠ 0)]
   refine Zaf (kp5 0 8 10 12 44 fun e he => ?_)
   refine ZaC (t := false) he.2.2.2.2 (fun ht => by cases ht) (fun ht => ?_)
   refine ZaL (Zab (Zbt ?_))
   refine ⟨[0, 1, 2, 4, 5, 6, 8, 3, 7, 9, 10, 11], [[], [0], [0, 1], [0, 1, 2], [], [4], [4, 5], [4, 5, 6], [], [8], [0, 1, 2, 3, 4, 5, 6, 7, 8, 9], [0, 1, 2, 3, 4, 5, 6, 7, 8, 9, 10]], fun _ => True, [], [], [], by kernel_rfl, ?_⟩
   refine Zax ?_
   refine Zas ?_
   refine Zav (v := ptr jb 0) rfl rfl ?_
   refine Zaz ?_
   refine Zas ?_
   refine Zae (b := jb) (o := 0) rfl Zl2 rfl ?_
   refine Zaz ?_
   refine Zax ?_
   refine Zas ?_
   refine Zav (v := ptr jb 0) rfl rfl ?_
   refine Zaz ?_
   refine Zas ?_
   refine Zae (b := jb) (o := 0) rfl Zl2 rfl ?_
   refine Zaz ?_
   refine Zax ?_
   refine Zas ?_
   refine Zah (b := jb) (o := 0 + 9) (r := ptr bb 0) rfl hj ZrX ZrY rfl ?_
   refine Zaz ?_
   refine Zas ?_
   refine Zah (b := jb) (o := 0 + 10) (r := .raw (sV nm)) rfl hj Zq9 Zo2 rfl ?_
   refine Zaz ?_
   refine Zas ?_
   refine ZaN (vs := [a95]) (cells := [a95]) (by simp only [List.map_cons, List.map_nil, EV,Nat.reduceEqDiff,↓reduceIte,he];try rfl) Zl1 Zb6 Zrb rfl (by decide) (by obtain ⟨A, c, rest, rfl, _⟩ := h97 <;> rfl) fun b100 hu101 hb102 => ?_
   have hX103 := Ext.put (.tail 23 (1 * 1) (1 * 1)) hb102
   refine ⟨fun _ => hX103, ?_⟩
   have hj := hX103.keep _ _ hj
   have huj := hX103.used _ huj
   have hb64 := hX103.keep _ _ hb64
   have hv65 := hX103.used _ hv65
   have hb81 := hX103.keep _ _ hb81
   refine Zas ?_
   refine Zay (vs := [ptr bb 0, .raw (sV nm), .lst (some ⟨b100, 0, none⟩) 1 1 [a95]]) (by simp only [List.map_cons, List.map_nil, EV,Nat.reduceEqDiff,↓reduceIte,he];try rfl) ?_
   refine Zm7 (d := code ((kd : Int), bs)) (hD.ext ((((But.ext (((But.ext (hX18.trans hX66) (fun g hg => by rw [hg]; exact hX18.noneOf hn62) k69).trans hX75).trans hX83) (fun g hg => by rw [hg]; exact ((But.ext (hX18.trans hX66) (fun g hg => by rw [hg]; exact hX18.noneOf hn62) k69).trans hX75).noneOf hn79) k87).trans hX91).trans hX98).trans hX103)) (fun c hc => ((((But.ext (((But.ext (hX18.trans hX66) (fun g hg => by rw [hg]; exact hX18.noneOf hn62) k69).trans hX75).trans hX83) (fun g hg => by rw [hg]; exact ((But.ext (hX18.trans hX66) (fun g hg => by rw [hg]; exact hX18.noneOf hn62) k69).trans hX75).noneOf hn79) k87).trans hX91).trans hX98).trans hX103).used _ (hSu c hc)) (fun τ0 hX0 K2 hK2 => Zqt h97 (by omega) K2 hK2) hlen hp (fun q => absurd hnm q) (fun hn109 hf110 τ107 hX108 => ?_) (fun hn109 hf110 τ107 S117 fs118 pcs119 pv120 g111 g112 g113 g114 g115 g116 => ?_)
   ·refine ⟨fun _ => hX108, ?_⟩
    have hj := hX108.keep _ _ hj
    have huj := hX108.used _ huj
    have hb64 := hX108.keep _ _ hb64
    have hv65 := hX108.used _ hv65
    have hb81 := hX108.keep _ _ hb81
    refine Zax ?_
    refine ZbI (kp3 0 10 13 ?_)
    clear he e
    intro e he
    refine Zab (Zaa (Zag ?_))
    refine Zac (Zdo (k := .i64) (a := 8) (b := 0) rfl rfl ?_)
    rw [decide_eq_true (by decide : (8 : Int) ≠ 0)]
    refine Zaf (kp4 0 10 13 58 fun e he => ?_)
    refine ZaC (t := true) he.2.2.2 (fun ht => ?_) (fun ht => by cases ht)
    refine Zab (Zaa (Zag ?_))
    refine Zag ?_
    refine Zaf (kp1 6 fun e he => ?_)
    refine ZbB ?_
    exact ZaD (hK8 _ hsp19 hst73 hc99 hf110 _ (((((But.ext (((But.ext (hX18.trans hX66) (fun g hg => by rw [hg]; exact hX18.noneOf hn62) k69).trans hX75).trans hX83) (fun g hg => by rw [hg]; exact ((But.ext (hX18.trans hX66) (fun g hg => by rw [hg]; exact hX18.noneOf hn62) k69).trans hX75).noneOf hn79) k87).trans hX91).trans hX98).trans hX103).trans hX108))
   refine ⟨fun q => (by cases q), ?_⟩
   have huj0 := huj
   have hj := g112.keep _ _ hjS hj
   have huj := g112.used _ huj
   have hb64 := g112.keep _ _ (fun q => hu63 (hX18.used _ (hSu _ q))) hb64
   have hv65 := g112.used _ hv65
   have hb81 := g112.keep _ _ (fun q => hu80 (((But.ext (hX18.trans hX66) (fun g hg => by rw [hg]; exact hX18.noneOf hn62) k69).trans hX75).used _ (hSu _ q))) hb81
   refine Zax ?_
   refine ZbI (kp3 0 10 13 ?_)
   clear he e
   intro e he
   refine Zab (Zaa (Zag ?_))
   refine Zac (Zdo (k := .i64) (a := 0) (b := 0) rfl rfl ?_)
   rw [decide_eq_false (by decide : ¬ (0 : Int) ≠ 0)]
   refine Zaf (kp4 0 10 13 58 fun e he => ?_)
   refine ZaC (t := false) he.2.2.2 (fun ht => by cases ht) (fun ht => ?_)
   refine ZaL (Zaa (Zag ?_))
   refine Zac (Zah (b := b77) (o := 0) (r := .agg [vI s70.term, vI s70.vote, vI s70.bi, vI s70.bt, q76_0, q76_1, q76_2, q76_3, q76_v]) he.2.1 hb81 Zhy Zdx rfl ?_)
   refine ZdP (b := jb) rfl Zl2 rfl fun u1 => ?_
   refine Zac (Zae (b := jb) (o := 0 + 0) rfl Zo3 rfl ?_)
   refine Zac (ZaB (b := jb) (o := 0 + 0 + 0) (u := .agg [vI s70.term, vI s70.vote, vI s70.bi, vI s70.bt, q76_0, q76_1, q76_2, q76_3, q76_v]) (cs' := [vI s70.term, vI s70.vote, vI s70.bi, vI s70.bt, q76_0, q76_1, q76_2, q76_3, q76_v, ptr bb 0, .raw (sV nm)]) rfl rfl hj Zdx (by obtain ⟨_, _, rfl, _⟩ := q76_z0 <;> obtain ⟨_, _, rfl, _⟩ := q76_z1 <;> obtain ⟨_, _, rfl, _⟩ := q76_z2 <;> obtain ⟨_, _, rfl, _⟩ := q76_z3 <;> obtain ⟨_, _, _, _, rfl, _⟩ := q76_E <;> rfl) rfl fun υ121 hj k122 => ?_)
   have hb64 := k122.keep _ _ ne67 hb64
   have hv65 := k122.used _ hv65
   have huj := k122.used _ huj
   refine Zaf (Zaa (Zag ?_))
   refine Zaf (kp1 6 fun e he => ?_)
   refine Zap ?_
   have hD2 := g111.but k122 (fun c hc q => (g114 c hc).elim (fun h => hjS (q ▸ h)) fun h => (q ▸ h : Za9 _ jb).2 huj0)
   have hJ2 : JAt _ jb s70 bb nm := ⟨⟨[vI s70.term, vI s70.vote, vI s70.bi, vI s70.bt, q76_0, q76_1, q76_2, q76_3, q76_v], hj, ⟨_, _, _, _, _, rfl, q76_C, q76_E⟩⟩, huj⟩
   exact ZaD (hK0 _ hsp19 hst73 hc99 hf110 _ _ _ _ _ hD2 hJ2 ⟨fun c x hc hx => k122.keep _ _ (fun q => hc (.inr q)) (g112.keep _ _ (fun q => hc (.inl q)) (((((But.ext (((But.ext (hX18.trans hX66) (fun g hg => by rw [hg]; exact hX18.noneOf hn62) k69).trans hX75).trans hX83) (fun g hg => by rw [hg]; exact ((But.ext (hX18.trans hX66) (fun g hg => by rw [hg]; exact hX18.noneOf hn62) k69).trans hX75).noneOf hn79) k87).trans hX91).trans hX98).trans hX103).keep _ _ hx)), fun c hc => k122.used _ (g112.used _ (((((But.ext (((But.ext (hX18.trans hX66) (fun g hg => by rw [hg]; exact hX18.noneOf hn62) k69).trans hX75).trans hX83) (fun g hg => by rw [hg]; exact ((But.ext (hX18.trans hX66) (fun g hg => by rw [hg]; exact hX18.noneOf hn62) k69).trans hX75).noneOf hn79) k87).trans hX91).trans hX98).trans hX103).used _ hc))⟩ g113 (fun c hc => (g114 c hc).imp id fun q => Za9.of q ((((But.ext (((But.ext (hX18.trans hX66) (fun g hg => by rw [hg]; exact hX18.noneOf hn62) k69).trans hX75).trans hX83) (fun g hg => by rw [hg]; exact ((But.ext (hX18.trans hX66) (fun g hg => by rw [hg]; exact hX18.noneOf hn62) k69).trans hX75).noneOf hn79) k87).trans hX91).trans hX98).trans hX103)) (fun c hc => k122.used _ (g115 c hc)) g116)
  have hj := hX98.keep _ _ hj
  have huj := hX98.used _ huj
  have hb64 := hX98.keep _ _ hb64
  have hv65 := hX98.used _ hv65
  refine Zag ?_
  refine Zac (Zaw (l := [.lst none 0 0 [], vI 3]) (r := .lst none 0 0 []) rfl rfl ?_)
  refine Zac (Zaw (l := [.lst none 0 0 [], vI 3]) (r := vI 3) rfl rfl ?_)
  refine Zag ?_
  refine Zag ?_
  refine Zaf (kp4 0 8 10 12 fun e he => ?_)
  refine Zab (Zaa (Zag ?_))
  refine Zac (Zdo (k := .i64) (a := 3) (b := 0) rfl rfl ?_)
  rw [decide_eq_true (by decide : (3 : Int) ≠ 0)]
  refine Zaf (kp5 0 8 10 12 44 fun e he => ?_)
  refine ZaC (t := true) he.2.2.2.2 (fun ht => ?_) (fun ht => by cases ht)
  refine Zab (Zaa (Zag ?_))
  refine Zag ?_
  refine Zaf (kp1 6 fun e he => ?_)
  refine ZbB ?_
  exact ZaD (hK3 _ hsp19 hst73 hc99 _ (((But.ext (((But.ext (hX18.trans hX66) (fun g hg => by rw [hg]; exact hX18.noneOf hn62) k69).trans hX75).trans hX83) (fun g hg => by rw [hg]; exact ((But.ext (hX18.trans hX66) (fun g hg => by rw [hg]; exact hX18.noneOf hn62) k69).trans hX75).noneOf hn79) k87).trans hX91).trans hX98))
 refine ⟨fun _ => hX75, ?_⟩
 have hj := hX75.keep _ _ hj
 have huj := hX75.used _ huj
 have hb64 := hX75.keep _ _ hb64
 have hv65 := hX75.used _ hv65
 obtain ⟨q123_0, q123_1, q123_2, q123_3, q123_v, rfl, q123_C, q123_E⟩ := hJ74
 obtain ⟨_, _, _, _, _, q123_z0, q123_z1, q123_z2, q123_z3⟩ := q123_C.tis
 refine Zax ?_
 refine Zas ?_
 refine Zaw (l := [.agg [vI s70.term, vI s70.vote, vI s70.bi, vI s70.bt, q123_0, q123_1, q123_2, q123_3, q123_v], vT false]) (r := .agg [vI s70.term, vI s70.vote, vI s70.bi, vI s70.bt, q123_0, q123_1, q123_2, q123_3, q123_v]) rfl rfl ?_
 refine Zaz ?_
 refine Zas ?_
 refine Zaw (l := [.agg [vI s70.term, vI s70.vote, vI s70.bi, vI s70.bt, q123_0, q123_1, q123_2, q123_3, q123_v], vT false]) (r := vT false) rfl rfl ?_
 refine Zaz ?_
 refine Zas ?_
 refine ZaH (cs := [vI 0, vI 0, vI 0, vI 0, .lst none 0 0 [], .lst none 0 0 [], .lst none 0 0 [], .lst none 0 0 [], .lst none 0 0 []]) Zgq rfl fun b124 υ125 hn126 hu127 hb128 hv129 hX130 => ?_
 refine ⟨fun q => (by cases q), ?_⟩
 have ne131 := Zat hj hn126
 have ne132 := Zat hb64 hn126
 have hj := hX130.keep _ _ hj
 have huj := hX130.used _ huj
 have hb64 := hX130.keep _ _ hb64
 have hv65 := hX130.used _ hv65
 refine Zas ?_
 refine ZaB (b := b124) (o := 0) (u := .agg [vI s70.term, vI s70.vote, vI s70.bi, vI s70.bt, q123_0, q123_1, q123_2, q123_3, q123_v]) (cs' := [vI s70.term, vI s70.vote, vI s70.bi, vI s70.bt, q123_0, q123_1, q123_2, q123_3, q123_v]) rfl rfl hb128 Zdx (by obtain ⟨_, _, rfl, _⟩ := q123_z0 <;> obtain ⟨_, _, rfl, _⟩ := q123_z1 <;> obtain ⟨_, _, rfl, _⟩ := q123_z2 <;> obtain ⟨_, _, rfl, _⟩ := q123_z3 <;> obtain ⟨_, _, _, _, rfl, _⟩ := q123_E <;> rfl) rfl fun υ133 hb128 k134 => ?_
 refine ⟨fun q => (by cases q), ?_⟩
 have hj := k134.keep _ _ (Ne.symm ne131) hj
 have huj := k134.used _ huj
 have hb64 := k134.keep _ _ (Ne.symm ne132) hb64
 have hv65 := k134.used _ hv65
 have hv129 := k134.used _ hv129
 refine Zax ?_
 refine ZbI (kp5 0 8 9 10 11 ?_)
 clear he e
 intro e he
 refine Zab (Zaa (Zag ?_))
 refine Zac (Zdo (k := .i64) (a := 0) (b := 0) rfl rfl ?_)
 rw [decide_eq_false (by decide : ¬ (0 : Int) ≠ 0)]
 refine Zag ?_
 refine Zau ?_
 refine Zcb rfl he.2.2.2.2 ?_
 refine Zau ?_
 refine ZcR (b := false) rfl ?_
 refine Zac (Zak (v := vT (!false)) rfl rfl ?_)
 refine Zaf (kp4 0 9 10 36 fun e he => ?_)
 refine ZaC (t := true) he.2.2.2 (fun ht => ?_) (fun ht => by cases ht)
 refine Zab (Zaa (Zag ?_))
 refine Zaf (kp1 6 fun e he => ?_)
 refine ZbB ?_
 exact ZaD (hK2 (.inr hst73) _ (But.ext (((But.ext (hX18.trans hX66) (fun g hg => by rw [hg]; exact hX18.noneOf hn62) k69).trans hX75).trans hX130) (fun g hg => by rw [hg]; exact ((But.ext (hX18.trans hX66) (fun g hg => by rw [hg]; exact hX18.noneOf hn62) k69).trans hX75).noneOf hn126) k134))
structure Zj6 (K : AV -> St -> Prop) (S : Nat -> Prop) (jb bb mb : Nat) (s : JSt) (nm : List UInt8) (fs : List Fl) (pcs : List (Nat × Nat)) (size : Int) (kd : Nat) (sp : Bool) (bs : List UInt8) (σ : St) : Prop where
 k2 : (sp = true \/ Zc5 s kd bs = none) -> ∀ τ, Ext σ τ -> K (vI 2) τ
 k3 : ∀ s2, sp = false -> Zc5 s kd bs = some s2 -> 262144 < bs.length -> ∀ τ, Ext σ τ -> K (vI 3) τ
 k8 : ∀ s2, sp = false -> Zc5 s kd bs = some s2 -> bs.length <= 262144 -> ¬ (size < 1 \/ (((code ((kd : Int), bs)).length + Zec fs : Nat) : Int) <= size) -> ∀ τ, Ext σ τ -> K (vI 8) τ
 k0 : ∀ s2, sp = false -> Zc5 s kd bs = some s2 -> bs.length <= 262144 -> (size < 1 \/ (((code ((kd : Int), bs)).length + Zec fs : Nat) : Int) <= size) -> ∀ τ S2 fs2 pcs2 pv2, DAt τ bb S2 fs2 pcs2 size mb pv2 -> JAt τ jb s2 bb nm -> But (fun c => S c \/ c = jb) σ τ -> (∀ c, S c -> S2 c) -> (∀ c, S2 c -> S c \/ Za9 σ c) -> (∀ c, S2 c -> τ.used c) -> Zr2 fs pcs nm (code ((kd : Int), bs)) fs2 pcs2 -> K (vI 0) τ
theorem Zj6.ext {S : Nat -> Prop} {jb bb mb : Nat} {s : JSt} {nm : List UInt8} {fs : List Fl} {pcs : List (Nat × Nat)} {size : Int} {kd : Nat} {sp : Bool} {bs : List UInt8} {σ τ : St} (h : Zj6 K S jb bb mb s nm fs pcs size kd sp bs σ) (k : Ext σ τ) : Zj6 K S jb bb mb s nm fs pcs size kd sp bs τ :=
 ⟨fun q υ hX => h.k2 q υ (k.trans hX), fun s2 q1 q2 q3 υ hX => h.k3 s2 q1 q2 q3 υ (k.trans hX), fun s2 q1 q2 q3 q4 υ hX => h.k8 s2 q1 q2 q3 q4 υ (k.trans hX),
  fun s2 q1 q2 q3 q4 υ S2 fs2 pcs2 pv2 g1 g2 g3 g4 g5 g6 g7 => h.k0 s2 q1 q2 q3 q4 υ S2 fs2 pcs2 pv2 g1 g2 ⟨fun c x hc hx => g3.keep _ _ hc (k.keep _ _ hx), fun c hc => g3.used _ (k.used _ hc)⟩ g4 (fun c hc => (g5 c hc).imp id fun q => q.of k) g6 g7⟩
theorem Zno {S T : Nat -> Prop} {jb bb mb wb kd : Nat} {s : JSt} {nm bs : List UInt8} {sp : Bool} {m : Nat} {fs : List Fl} {pcs : List (Nat × Nat)} {size : Int} {pv : AV} (hJ : JAt σ jb s bb nm) (hs : JOk s m) (hm : m <= 1000000000) (hD : DAt σ bb S fs pcs size mb pv) (hSu : ∀ c, S c -> σ.used c) (hjS : ¬ S jb) (hW : WAt σ T wb sp bs) (hbl : bs.length <= 9000000) (hkd : kd <= 255) (hnm : nm ≠ [] /\ nm.length <= 40) (hlen : Zec fs <= 90000000) (hp : pcs.length <= 100000000) (hK : Zj6 K S jb bb mb s nm fs pcs size kd sp bs σ) : Zan Tryz.prog 102 [ptr jb 0, vI kd, ptr wb 0] σ K :=
 ZrK hJ hs hm hD hSu hjS hW (by omega) hkd hnm (by rw [Zdj]; show 9 + bs.length + _ <= _; omega) hp hK.k2 hK.k3 hK.k8 hK.k0
theorem DAt.ext2 {S : Nat -> Prop} {bb mb : Nat} {fs : List Fl} {pcs : List (Nat × Nat)} {size : Int} {pv : AV} {σ τ : St} (h : DAt σ bb S fs pcs size mb pv /\ ∀ c, S c -> σ.used c) (k : Ext σ τ) : DAt τ bb S fs pcs size mb pv /\ ∀ c, S c -> τ.used c := ⟨h.1.ext k, fun c hc => k.used _ (h.2 c hc)⟩
end
section
variable {σ : St} {K : AV -> St -> Prop}
theorem Zj7 {σ τ : St} {S : Nat -> Prop} {wb : Nat} {sp : Bool} {bs : List UInt8} (h : WAt σ S wb sp bs) (k : Ext σ τ) : WAt τ S wb sp bs := h.but (U := fun _ => False) k.but fun _ _ => id
theorem Zj6.mono {K K2 : AV -> St -> Prop} {S : Nat -> Prop} {jb bb mb : Nat} {s : JSt} {nm : List UInt8} {fs : List Fl} {pcs : List (Nat × Nat)} {size : Int} {kd : Nat} {sp : Bool} {bs : List UInt8} {σ : St} (h : Zj6 K S jb bb mb s nm fs pcs size kd sp bs σ) (k : ∀ (r : Int) τ, K (vI r) τ -> K2 (vI r) τ) : Zj6 K2 S jb bb mb s nm fs pcs size kd sp bs σ :=
 ⟨fun q υ hX => k _ _ (h.k2 q υ hX), fun s2 q1 q2 q3 υ hX => k _ _ (h.k3 s2 q1 q2 q3 υ hX), fun s2 q1 q2 q3 q4 υ hX => k _ _ (h.k8 s2 q1 q2 q3 q4 υ hX), fun s2 q1 q2 q3 q4 υ S2 fs2 pcs2 pv2 g1 g2 g3 g4 g5 g6 g7 => k _ _ (h.k0 s2 q1 q2 q3 q4 υ S2 fs2 pcs2 pv2 g1 g2 g3 g4 g5 g6 g7)⟩
theorem Znp {S : Nat -> Prop} {jb bb mb : Nat} {s : JSt} {nm : List UInt8} {m : Nat} {fs : List Fl} {pcs : List (Nat × Nat)} {size : Int} {pv : AV} (hJ : JAt σ jb s bb nm) (hs : JOk s m) (hm : m <= 1000000000) (hD : DAt σ bb S fs pcs size mb pv) (hSu : ∀ c, S c -> σ.used c) (hjS : ¬ S jb) (hnm : nm ≠ [] /\ nm.length <= 40) (hlen : Zec fs <= 90000000) (hp : pcs.length <= 100000000) {t v : Int} (hK : Zj6 K S jb bb mb s nm fs pcs size 1 (!Zin [t, v]) (nsB [t, v]) σ) : Zan Tryz.prog 48 [ptr jb 0, vI t, vI v] σ K := by
 refine Zai Zam Tryz.func48 rfl rfl rfl (Nat.le_of_ble_eq_true rfl) ?_
 refine Zhx 0 1 2 (v0 := ptr jb 0) (v1 := vI t) (v2 := vI v) rfl rfl rfl ?_
 intro e he
 refine Zaa (Zag ?_)
 refine Zaf (kp3 0 1 2 ?_)
 clear he e
 intro e he
 refine Zab (Zaa (Zag ?_))
 refine Zao [ptr jb 0] ?_
 refine Zhn hJ ?_
 refine ZcU ?_
 refine Zaf (kp4 0 1 2 9 ?_)
 clear he e
 intro e he
 refine ZaC (t := false) he.2.2.2 (fun ht => by cases ht) (fun ht => ?_)
 refine ZaL (Zaa (Zag ?_))
 refine Zao [] ?_
 refine Zeq fun wb1 τ2 hW3 hN4 hX5 => ?_
 refine Zag ?_
 refine Zag ?_
 refine Zac (ZaN (vs := [vI t, vI v]) (cells := [vI t, vI v]) (by simp only [List.map_cons, List.map_nil, EV,Nat.reduceEqDiff,↓reduceIte,he];try rfl) Zco ZbG ZjF rfl (by decide) rfl fun b6 hu7 hb8 => ?_)
 have hX9 := Ext.put (.tail 3 (2 * 1) (2 * 1)) hb8
 refine Zao [ptr wb1 0, .lst (some ⟨b6, 0, none⟩) 2 2 [vI t, vI v]] ?_
 refine ZcG (l := [t, v]) (Zj7 hW3 hX9) (fun τ _ => Zet rfl (fun a ha => by simp only [List.mem_cons, List.not_mem_nil, or_false] at ha; rcases ha with rfl | rfl; exact rfl; exact rfl) (fun q => by cases q)) (by simp) fun τ10 hT11 => ?_
 obtain ⟨S12, hW13, k14, hS15⟩ := hT11
 refine Zao [ptr jb 0, vI 1, ptr wb1 0] ?_
 refine Zno (sp := !Zin [t, v]) (bs := nsB [t, v]) (hJ.ext (But.ext (hX5.trans hX9) (fun g hg => by rw [hg]; exact hN4.1) k14)) hs hm (DAt.ext2 ⟨hD, hSu⟩ (But.ext (hX5.trans hX9) (fun g hg => by rw [hg]; exact hN4.1) k14)).1 (DAt.ext2 ⟨hD, hSu⟩ (But.ext (hX5.trans hX9) (fun g hg => by rw [hg]; exact hN4.1) k14)).2 hjS hW13 (by have := Zer [t, v]; have h2 : ([t, v] : List Int).length = 2 := rfl; omega) (by decide) hnm hlen hp (Zj6.mono (hK.ext (But.ext (hX5.trans hX9) (fun g hg => by rw [hg]; exact hN4.1) k14)) fun r τr hr => ?_)
 refine Zag ?_
 refine Zaf (kp1 6 ?_)
 clear he e
 intro e he
 refine Zap ?_
 exact ZaD (hr)
end
section
variable {σ : St} {K : AV -> St -> Prop}
def Zdm (e : Ent) : Bool := !Za8 e.x e.k e.c e.ls
theorem ZrL {x : Int} {k : Nat} {v a0 a1 a2 a3 : AV} {c : List UInt8} {ls : List (List Int)} (hv : ∀ τ, Ext σ τ -> Za5 τ v c) (h4 : ls.length = 4) (hc : ∀ τ, Ext σ τ -> ZbM τ [a0, a1, a2, a3] ls) (hn : ∀ l ∈ ls, l.length <= 140737488355328) (hK : ∀ τ, Ext σ τ -> K (vT (!Za8 x k c ls)) τ) : Zan Tryz.prog 104 [.agg [vI x, (.raw (.int .u8 ((k : Nat) : Int))), v, a0, a1, a2, a3]] σ K := by
 refine Zai Zam Tryz.func104 rfl rfl rfl (Nat.le_of_ble_eq_true rfl) ?_
 refine Zbf 0 (v0 := .agg [vI x, (.raw (.int .u8 ((k : Nat) : Int))), v, a0, a1, a2, a3]) rfl ?_
 intro e he
 refine Zaa (Zac (Zbn (cs := [vI x, (.raw (.int .u8 ((k : Nat) : Int))), v, a0, a1, a2, a3]) (v := .agg [vI x, (.raw (.int .u8 ((k : Nat) : Int))), v, a0, a1, a2, a3]) he rfl fun b1 υ2 hn3 hu4 hb5 hv6 hX7 => ?_))
 refine Zag ?_
 refine Zaf (kp1 1 ?_)
 clear he e
 intro e he
 refine Zaa (Zac (Zah (b := b1) (o := 0) (r := .agg [vI x, (.raw (.int .u8 ((k : Nat) : Int))), v, a0, a1, a2, a3]) he hb5 fa8 ZbZ rfl ?_))
 refine Zao [.agg [vI x, (.raw (.int .u8 ((k : Nat) : Int))), v, a0, a1, a2, a3]] ?_
 refine Zf2 (hv _ hX7) h4 (hc _ hX7) hn fun τ8 hX9 => ?_
 have hb5 := hX9.keep _ _ hb5
 have hv6 := hX9.used _ hv6
 refine ZcU ?_
 refine Zag ?_
 refine Zaf (kp1 2 ?_)
 clear he e
 intro e he
 refine Zap ?_
 exact ZaD (hK _ (hX7.trans hX9))
theorem Zj8 {v : AV} {es : List Ent} {cells : List AV} (hE : Zlw σ v es cells) (hes : es.length <= 10000000) (hn : ∀ e ∈ es, ∀ l ∈ e.ls, l.length <= 140737488355328) (hK1 : (∀ e ∈ es, Zdm e = false) -> ∀ τ, Ext σ τ -> K (vI (-1)) τ) (hK2 : ∀ (i : Nat) e, e ∈ es -> Zdm e = true -> ∀ τ, Ext σ τ -> K (vI i) τ) : Zan Tryz.prog 157 [v, .raw (.func (.func 104) #[] #[])] σ K := by
 refine Zai Zam Tryz.func157 rfl rfl rfl (Nat.le_of_ble_eq_true rfl) ?_
 refine ZbL 0 1 (v0 := v) (v1 := .raw (.func (.func 104) #[] #[])) rfl rfl ?_
 intro e he
 refine Zaa (Zag ?_)
 refine Zaf (kp2 0 1 ?_)
 clear he e
 intro e he
 refine Zab (Zaa (Zag ?_))
 refine Zac (Zea rfl hE.1 rfl Zeb ?_)
 refine Zag ?_
 refine Zaf (kp4 0 1 7 8 ?_)
 clear he e
 intro e he
 refine ZaF (Za4 (fun μ env υ => ∃ (i : Nat), μ = es.length - i /\ (env 0 = v /\ env 1 = .raw (.func (.func 104) #[] #[]) /\ env 7 = vI ((es.length : Nat) : Int) /\ env 8 = vI ((i : Nat) : Int)) /\ i <= es.length /\ (∀ e ∈ es.take i, Zdm e = false) /\ Ext σ υ) ⟨_, 0, rfl, ⟨by simp only [EV,Nat.reduceEqDiff,↓reduceIte,he];try rfl, by simp only [EV,Nat.reduceEqDiff,↓reduceIte,he];try rfl, by simp only [EV,Nat.reduceEqDiff,↓reduceIte,he];try rfl, by simp only [EV,Nat.reduceEqDiff,↓reduceIte,he];try rfl⟩, Nat.zero_le _, (fun e h => by cases h), (.refl _)⟩ ?_)
 clear he e
 rintro _ e υ10 ⟨i, rfl, he, p1, p2, kX⟩
 refine Zaa (Zcf i es.length ?_)
 refine Zaf (kp5 0 1 7 8 9 ?_)
 clear he e
 intro e he
 refine ZaC (t := decide (i < es.length)) he.2.2.2.2 (fun ht9 => ?_) (fun ht9 => ?_)
 ·have bht9 := ht9
  have ht9 := of_decide_eq_true bht9
  refine ZaL (ZaF (Zaa (Zag ?_)))
  refine Zag ?_
  refine Zaf (kp5 0 1 5 7 8 ?_)
  clear he e
  intro e he
  refine Zaa (Zag ?_)
  refine Zag ?_
  refine Zag ?_
  have hlt : i < es.length := by omega
  obtain ⟨hr9, hb9, hc9, h49⟩ := (hE.ext kX).2 i hlt
  refine Zac (Zir (i := i) (hE.ext kX).1 hlt hr9 rfl rfl Zeb ZbZ fun q11 hq12 => ?_)
  refine Zac (Zis (v := .agg [vI (es[i].x), (kV es[i].k), (cl cells i 2), (cl cells i 3), (cl cells i 4), (cl cells i 5), (cl cells i 6)]) hq12 rfl fa8 ZbZ rfl ?_)
  refine Zac (ZjK (g := 104) (caps := #[]) (vs := [.agg [vI (es[i].x), (kV es[i].k), (cl cells i 2), (cl cells i 3), (cl cells i 4), (cl cells i 5), (cl cells i 6)]]) rfl (by simp only [List.map_cons, List.map_nil, EV,Nat.reduceEqDiff,↓reduceIte,he];try rfl) ?_)
  have hE9 : ∀ τ, Ext υ10 τ -> Zlw τ v es cells := fun τ k => hE.ext (kX.trans k)
  refine ZrL (x := es[i].x) (k := es[i].k) (c := es[i].c) (ls := es[i].ls) (fun τ k => ((hE9 τ k).2 i hlt).2.1) h49 (fun τ k => ((hE9 τ k).2 i hlt).2.2.1) (hn _ (List.getElem_mem hlt)) fun τ13 hX14 => ?_
  refine Zaf (kp6 0 1 5 7 8 16 ?_)
  clear he e
  intro e he
  refine ZaQ (t := (!Za8 es[i].x es[i].k es[i].c es[i].ls)) he.2.2.2.2.2 (fun ht16 => ?_) (fun ht16 => ?_)
  ·have bht16 : (Za8 es[i].x es[i].k es[i].c es[i].ls) = false := by rw [<- Bool.not_not (Za8 es[i].x es[i].k es[i].c es[i].ls), ht16]; rfl
   refine Zaa (Zag ?_)
   refine Zag ?_
   refine Zaf (kp1 4 ?_)
   clear he e
   intro e he
   refine Zap ?_
   have hbad : Zdm es[i] = true := by unfold Zdm; rw [bht16]; rfl
   exact ZaD (hK2 i _ (List.getElem_mem hlt) hbad _ (kX.trans hX14))
  have bht16 : (Za8 es[i].x es[i].k es[i].c es[i].ls) = true := by rw [<- Bool.not_not (Za8 es[i].x es[i].k es[i].c es[i].ls), ht16]; rfl
  refine Zbm ?_
  show ZaA _ _ _ _ _ _
  refine Zad (Zby i 1 ?_)
  refine Zag ?_
  refine Zaf ?_
  have hgood : ∀ e ∈ es.take (i + 1), Zdm e = false := by
   intro e9 he9
   rw [List.take_succ_eq_append_getElem hlt] at he9
   rcases List.mem_append.1 he9 with h | h
   ·exact p2 _ h
   ·rw [List.mem_singleton.1 h]; unfold Zdm; rw [bht16]; rfl
  show ∃ n', n' < _ /\ _
  refine ⟨_, (by omega), i + 1, rfl, ⟨by simp only [EV,Nat.reduceEqDiff,↓reduceIte,he];try rfl, by simp only [EV,Nat.reduceEqDiff,↓reduceIte,he];try rfl, by simp only [EV,Nat.reduceEqDiff,↓reduceIte,he];try rfl, by simp only [EV,Nat.reduceEqDiff,↓reduceIte,he];try rfl⟩, (by omega), hgood, (kX.trans hX14)⟩
 have bht9 := ht9
 have ht9 := of_decide_eq_false bht9
 refine Zbu ?_
 show ZaA _ _ _ _ _ _
 refine Zaa (Zag ?_)
 refine Zaf (kp1 4 ?_)
 clear he e
 intro e he
 refine Zap ?_
 obtain rfl : i = es.length := by omega
 rw [List.take_length] at p2
 exact ZaD (hK1 p2 _ kX)
theorem Znq {v : AV} {es : List Ent} {cells : List AV} (hE : Zlw σ v es cells) (hes : es.length <= 10000000) (hn : ∀ e ∈ es, ∀ l ∈ e.ls, l.length <= 140737488355328) (hK : ∀ τ, Ext σ τ -> K (vT (es.any Zdm)) τ) : Zan Tryz.prog 103 [v, .raw (.func (.func 104) #[] #[])] σ K := by
 refine Zai Zam Tryz.func103 rfl rfl rfl (Nat.le_of_ble_eq_true rfl) ?_
 refine ZbL 0 1 (v0 := v) (v1 := .raw (.func (.func 104) #[] #[])) rfl rfl ?_
 intro e he
 refine Zaa (Zag ?_)
 refine Zaf (kp2 0 1 ?_)
 clear he e
 intro e he
 refine Zaa (Zag ?_)
 refine Zag ?_
 refine Zao [v, .raw (.func (.func 104) #[] #[])] ?_
 refine Zj8 hE hes hn (fun hb15 τ16 hX17 => ?_) (fun i18 e19 he20 hb15 τ16 hX17 => ?_)
 ·refine Zac ?_
  refine ZeN (k := .i64) (a := (-1)) (b := 0) rfl rfl ?_
  rw [decide_eq_false (by omega : ¬ (((-1) : Int) ≥ 0))]
  refine Zag ?_
  refine Zaf (kp1 4 ?_)
  clear he e
  intro e he
  refine Zap ?_
  have hb9 : es.any Zdm = false := List.any_eq_false.2 fun e he => by rw [hb15 e he]; exact Bool.false_ne_true
  rw [hb9] at hK
  exact ZaD (hK _ hX17)
 refine Zac (ZeN (k := .i64) (a := ((i18 : Nat) : Int)) (b := 0) rfl rfl ?_)
 rw [decide_eq_true (by omega : ((((i18 : Nat) : Int) : Int) ≥ 0))]
 refine Zag ?_
 refine Zaf (kp1 4 ?_)
 clear he e
 intro e he
 refine Zap ?_
 have hb9 : es.any Zdm = true := List.any_eq_true.2 ⟨e19, he20, hb15⟩
 rw [hb9] at hK
 exact ZaD (hK _ hX17)
theorem Zho {S : Nat -> Prop} {jb bb mb : Nat} {s : JSt} {nm : List UInt8} {m : Nat} {fs : List Fl} {pcs : List (Nat × Nat)} {size : Int} {pv : AV} (hJ : JAt σ jb s bb nm) (hs : JOk s m) (hm : m <= 1000000000) (hD : DAt σ bb S fs pcs size mb pv) (hSu : ∀ c, S c -> σ.used c) (hjS : ¬ S jb) (hnm : nm ≠ [] /\ nm.length <= 40) (hlen : Zec fs <= 90000000) (hp : pcs.length <= 100000000) {fr : Int} {v : AV} {es : List Ent} {cells : List AV} (hE : ∀ τ, Ext σ τ -> Zlw τ v es cells) (hes : es.length <= 1000000) (hn : ∀ e ∈ es, ∀ l ∈ e.ls, l.length <= 140737488355328) (hk8 : ∀ e ∈ es, e.k <= 255) (hf : ∀ e ∈ es, e.ls.flatten.length <= 1000000) (hB : (esB es).length <= 8000000) (hK2 : es.any Zdm = true -> ∀ τ, Ext σ τ -> K (vI 2) τ) (hK : es.any Zdm = false -> Zj6 K S jb bb mb s nm fs pcs size 2 (!Zin [fr, ((es.length : Nat) : Int)] || !esW es) (nsB [fr, ((es.length : Nat) : Int)] ++ esB es) σ) : Zan Tryz.prog 49 [ptr jb 0, vI fr, v] σ K := by
 refine Zai Zam Tryz.func49 rfl rfl rfl (Nat.le_of_ble_eq_true rfl) ?_
 refine Zhx 0 1 2 (v0 := ptr jb 0) (v1 := vI fr) (v2 := v) rfl rfl rfl ?_
 intro e he
 refine Zaa (Zag ?_)
 refine Zaf (kp3 0 1 2 ?_)
 clear he e
 intro e he
 refine ZaF (Zaa (Zag ?_))
 refine Zao [ptr jb 0] ?_
 refine Zhn hJ ?_
 refine ZcU ?_
 refine Zag ?_
 refine Zaf (kp4 0 1 2 7 ?_)
 clear he e
 intro e he
 refine ZaQ (t := false) he.2.2.2 (fun ht => by cases ht) (fun ht => ?_)
 refine Zaa (Zag ?_)
 refine Zao [v, .raw (.func (.func 104) #[] #[])] ?_
 refine Znq (hE _ (.refl _)) (by omega) hn fun τ21 hX22 => ?_
 cases hb23 : es.any Zdm with
 | true =>
  refine Zag ?_
  refine Zaf (kp4 0 1 2 11 ?_)
  clear he e
  intro e he
  refine ZaQ (t := true) he.2.2.2 (fun ht => ?_) (fun ht => by cases ht)
  refine Zaa (Zag ?_)
  refine Zaf (kp1 6 ?_)
  clear he e
  intro e he
  refine Zap ?_
  exact ZaD (hK2 hb23 _ hX22)
 | false =>
  refine Zag ?_
  refine Zaf (kp4 0 1 2 11 ?_)
  clear he e
  intro e he
  refine ZaQ (t := false) he.2.2.2 (fun ht => by cases ht) (fun ht => ?_)
  refine Zbm ?_
  show ZaA _ _ _ _ _ _
  refine Zaa (Zag ?_)
  refine Zao [] ?_
  refine Zeq fun wb24 τ25 hW26 hN27 hX28 => ?_
  refine Zag ?_
  refine Zag ?_
  refine Zac (Zea rfl (hE _ (hX22.trans hX28)).1 rfl Zeb ?_)
  refine Zac (ZaN (vs := [vI fr, vI ((es.length : Nat) : Int)]) (cells := [vI fr, vI ((es.length : Nat) : Int)]) (by simp only [List.map_cons, List.map_nil, EV,Nat.reduceEqDiff,↓reduceIte,he];try rfl) Zco ZbG ZjF rfl (by decide) rfl fun b29 hu30 hb31 => ?_)
  have hX32 := Ext.put (.tail 3 (2 * 1) (2 * 1)) hb31
  refine Zao [ptr wb24 0, .lst (some ⟨b29, 0, none⟩) 2 2 [vI fr, vI ((es.length : Nat) : Int)]] ?_
  refine ZcG (l := [fr, ((es.length : Nat) : Int)]) (Zj7 hW26 hX32) (fun τ _ => Zet rfl (fun a ha => by simp only [List.mem_cons, List.not_mem_nil, or_false] at ha; rcases ha with rfl | rfl; exact rfl; exact rfl) (fun q => by cases q)) (by simp) fun τ33 hT34 => ?_
  obtain ⟨S35, hW36, k37, hS38⟩ := hT34
  refine Zag ?_
  refine Zao [ptr wb24 0, v] ?_
  have nn : ∀ c, S35 c -> σ.blk c = none := fun c hc => (hS38 c hc).elim (fun q => by rw [q]; exact (Za9.of hN27 hX22).1) fun q => (Za9.of q ((hX22.trans hX28).trans hX32)).1
  refine ZkL hW36 (fun τ kk => hE _ (But.ext (But.ext ((hX22.trans hX28).trans hX32) (fun g hg => by rw [hg]; exact hX22.noneOf hN27.1) k37) nn kk)) (fun i h => hk8 _ (List.getElem_mem h)) (by have := Zer [fr, ((es.length : Nat) : Int)]; have h2 : ([fr, ((es.length : Nat) : Int)] : List Int).length = 2 := rfl; rw [List.nil_append]; omega) hf (by omega) fun τ39 hT40 => ?_
  obtain ⟨S41, hW42, k43, hS44⟩ := hT40
  have hX45 : Ext σ τ39 := But.ext (But.ext ((hX22.trans hX28).trans hX32) (fun g hg => by rw [hg]; exact hX22.noneOf hN27.1) k37) nn k43
  refine Zao [ptr jb 0, vI 2, ptr wb24 0] ?_
  have hK := hK hb23
  refine Zno (sp := (!Zin [fr, ((es.length : Nat) : Int)] || !esW es)) (bs := nsB [fr, ((es.length : Nat) : Int)] ++ esB es) (hJ.ext hX45) hs hm (DAt.ext2 ⟨hD, hSu⟩ hX45).1 (DAt.ext2 ⟨hD, hSu⟩ hX45).2 hjS hW42 (by have := Zer [fr, ((es.length : Nat) : Int)]; have h2 : ([fr, ((es.length : Nat) : Int)] : List Int).length = 2 := rfl; rw [List.length_append]; omega) (by decide) hnm hlen hp (Zj6.mono (hK.ext hX45) fun r τr hr => ?_)
  refine Zag ?_
  refine Zaf (kp1 6 ?_)
  clear he e
  intro e he
  refine Zap ?_
  exact ZaD (hr)
end
section
variable {σ : St} {bb mb : Nat} {S : Nat -> Prop} {fs : List Fl} {pcs : List (Nat × Nat)} {size : Int} {pv : AV} {K : AV -> St -> Prop}
set_option maxHeartbeats 2000000 in
end
open Go.ChangeMaps (setBlock)
set_option linter.unusedSimpArgs false
set_option maxRecDepth 100000
set_option linter.unusedVariables false
section
variable {w : World} {σ : St} {Z : Nat -> Prop}
end
section
variable {P : Program} {ops : Array Oper} {env : Env} {σ τ : St} {K : Env -> St -> Prop} {d : Option Nat} {ty t kt et : TypeId} {pos : String} {af : Array Edge} {x y : Operand} {b ib : Nat} {l : List Oper}
end
section
variable {P : Program}
variable {ops : Array Oper} {env : Env} {σ τ : St} {K : Env -> St -> Prop} {d : Option Nat} {ty ty' t kt et : TypeId} {pos : String} {af : Array Edge} {x y z : Operand} {b k n m : Nat} {es : List (Nat × Nat)}
end
theorem Zqu : ZdB Tryz.prog 40 = some false := by kernel_rfl
theorem Zj9 : ZaU Tryz.prog 40 = some 1 := by kernel_rfl
theorem Zqv : Zba Tryz.prog 40 = some (.int .i64 0) := by kernel_rfl
theorem Zqw : Zba Tryz.prog 9 = some (.string ⟨#[]⟩) := by kernel_rfl
section
variable {σ τ : St} {bb mb : Nat} {S : Nat -> Prop} {fs : List Fl} {pcs : List (Nat × Nat)} {size : Int} {pv : AV}
end
section
variable {σ : St} {bb mb : Nat} {S : Nat -> Prop} {fs : List Fl} {pcs : List (Nat × Nat)} {size : Int} {pv : AV} {K : AV -> St -> Prop}
theorem Zqx {k : List UInt8} {b5 b7 b3 : Nat} {n : Int} (h : DAt σ bb S fs pcs size mb pv) (hl : pcs.length <= 1000000000) (hs : ∀ p ∈ pcs, p.2 <= 1000000000) {f0 : Fl} (hf0 : f0 ∈ fs) (hd : f0.d.length <= 1000000000) (hb5 : σ.blk b5 = some (.own 3 [.raw (.int .i64 n)])) (hb7 : σ.blk b7 = some (.own 40 [vI 0])) (hb3 : σ.blk b3 = some (.own 67 [ptr bb 0]))
 (hK2 : n < 0 \/ (f0.d.length : Int) < n -> ∀ τ, τ.blk b7 = some (.own 40 [vI 2]) -> But (fun c => c = b7) σ τ -> K (.tup []) τ)
 (hK0 : 0 <= n -> n <= (f0.d.length : Int) -> ∀ τ v' pv', DAt τ bb S (fs.map (ZcA f0.b v' (f0.d.take n.toNat))) ((shr f0.b (f0.d.length - n.toNat) pcs).filter fun p => !decide (p.2 = 0)) size mb pv' -> But S σ τ -> K (.tup []) τ) : Zan Tryz.prog 124 [.raw (sV k), ptr f0.b 0, ptr b5 0, ptr b7 0, ptr b3 0] σ K := by
 obtain ⟨p1, p2, p3⟩ := h.file f0 hf0
 refine Zai Zam Tryz.func124 rfl rfl rfl (Nat.le_of_ble_eq_true rfl) ?_
 refine ZnG 1 2 3 4 (v0 := ptr f0.b 0) (v1 := ptr b5 0) (v2 := ptr b7 0) (v3 := ptr b3 0) rfl rfl rfl rfl ?_
 intro e he
 refine Zab (Zce (fun env υ => (env 1 = ptr f0.b 0 /\ env 2 = ptr b5 0 /\ env 3 = ptr b7 0 /\ env 4 = ptr b3 0 /\ env 17 = vT (decide (n < 0 \/ (f0.d.length : Int) < n))) /\ υ = σ) ?_ ?_)
 ·refine Zda ?_
  refine ⟨[0, 1, 2, 4, 5, 6, 3, 7, 8, 9, 10], [[], [0], [0, 1], [0, 1, 2], [0, 1, 2], [0, 1, 2, 4], [0, 1, 2, 4, 5], [0, 1, 2, 4, 5, 6], [0, 1, 2, 4, 5, 6, 7], [0, 1, 2, 3, 4, 5, 6, 7, 8], [0, 1, 2, 3, 4, 5, 6, 7, 8, 9]], fun _ => True, [], [], [], by kernel_rfl, ?_⟩
  refine Zas ?_
  refine Zah (b := b5) (o := 0) (r := .raw (.int .i64 n)) he.2.1 hb5 fa9 ZbG rfl ?_
  refine Zaz ?_
  refine Zas ?_
  refine Zgh (k := .i64) (a := n) (b := 0) rfl rfl ?_
  refine Zaz ?_
  by_cases hn : n < 0
  ·rw [decide_eq_true hn]
   refine Zax ?_
   refine Zaq ?_
   refine Zaq ?_
   refine Zaq ?_
   refine Zaq ?_
   refine Zaq ?_
   refine Zaq ?_
   refine Zaq ?_
   refine Zas ?_
   refine Zaj (v := vT true) rfl rfl ?_
   refine Zaz ?_
   refine ZbI ?_
   refine ⟨rfl, ⟨by simp only [EV,Nat.reduceEqDiff,↓reduceIte,he];try rfl, by simp only [EV,Nat.reduceEqDiff,↓reduceIte,he];try rfl, by simp only [EV,Nat.reduceEqDiff,↓reduceIte,he];try rfl, by simp only [EV,Nat.reduceEqDiff,↓reduceIte,he];try rfl, ?_⟩, rfl⟩
   rw [decide_eq_true (.inl hn)]
   simp only [EV,Nat.reduceEqDiff,↓reduceIte,he];try rfl
  ·rw [decide_eq_false hn]
   refine Zax ?_
   refine Zas ?_
   refine Zcb rfl (v := ptr f0.b 0) he.1 ?_
   refine Zaz ?_
   refine Zas ?_
   refine Zav (v := ptr f0.b 0) rfl rfl ?_
   refine Zaz ?_
   refine Zas ?_
   refine Zae (b := f0.b) (o := 0) rfl Zek rfl ?_
   refine Zaz ?_
   refine Zas ?_
   refine Zah (b := b5) (o := 0) (r := .raw (.int .i64 n)) he.2.1 hb5 fa9 ZbG rfl ?_
   refine Zaz ?_
   refine Zas ?_
   refine Zah (b := f0.b) (o := 0 + 0) (r := f0.v) rfl p1 fa5 Zb6 rfl ?_
   refine Zaz ?_
   refine Zas ?_
   refine ZeV rfl p3 rfl Zbw ?_
   refine Zaz ?_
   refine Zas ?_
   refine Zb3 (k := .i64) (a := n) (b := (f0.d.length : Int)) rfl rfl ?_
   refine Zaz ?_
   refine Zas ?_
   refine Zak (v := vT (decide ((f0.d.length : Int) < n))) rfl rfl ?_
   refine Zaz ?_
   refine ZbI ?_
   refine ⟨rfl, ⟨by simp only [EV,Nat.reduceEqDiff,↓reduceIte,he];try rfl, by simp only [EV,Nat.reduceEqDiff,↓reduceIte,he];try rfl, by simp only [EV,Nat.reduceEqDiff,↓reduceIte,he];try rfl, by simp only [EV,Nat.reduceEqDiff,↓reduceIte,he];try rfl, ?_⟩, rfl⟩
   rw [show decide (n < 0 \/ (f0.d.length : Int) < n) = decide ((f0.d.length : Int) < n) by congr 1; exact propext ⟨fun q => q.elim (fun q => absurd q hn) id, .inr⟩]
   simp only [EV,Nat.reduceEqDiff,↓reduceIte,he];try rfl
 clear he e
 rintro e _ ⟨he, rfl⟩
 refine ZaC (t := decide (n < 0 \/ (f0.d.length : Int) < n)) he.2.2.2.2 (fun hb => ?_) (fun hb => ?_)
 ·repeat refine Zab ?_
  first|refine Zaa ?_|refine Zad ?_
  refine Zac (ZaI (b := b7) (o := 0) (v := vI 2) he.2.2.1 rfl hb7 Zj9 ⟨rfl, rfl, rfl⟩ (Nat.zero_lt_succ _) fun τ hbτ kτ => ?_)
  refine Zaf (ZbB ?_)
  exact ⟨_, Zcu rfl, hK2 (of_decide_eq_true hb) τ hbτ kτ⟩
 ·have hb := of_decide_eq_false hb
  have h0 : 0 <= n := by omega
  have h1 : n <= (f0.d.length : Int) := by omega
  obtain ⟨m, rfl⟩ : ∃ m : Nat, n = m := ⟨n.toNat, by omega⟩
  rw [Int.toNat_natCast] at hK0
  refine ZaL (Zda ?_)
  refine ⟨[3, 4, 5, 6, 0, 1, 2, 7, 8, 9, 10, 11], [[], [0], [0, 1], [], [], [4], [4, 5], [4, 5, 6], [4, 5, 6, 7], [], [4, 5, 6, 7, 8, 9], [0, 1, 2, 3, 4, 5, 6, 7, 8, 9, 10]], fun _ => True, [], [], [], by kernel_rfl, ?_⟩
  refine Zax ?_
  refine Zax ?_
  refine Zas ?_
  refine Zav (v := ptr f0.b 0) rfl rfl ?_
  refine Zaz ?_
  refine Zas ?_
  refine Zae (b := f0.b) (o := 0) rfl Zek rfl ?_
  refine Zaz ?_
  refine Zas ?_
  refine Zah (b := b3) (o := 0) (r := ptr bb 0) he.2.2.2.1 hb3 ZrX ZrY rfl ?_
  refine Zaz ?_
  refine Zas ?_
  refine Zav (v := ptr bb 0) rfl rfl ?_
  refine Zaz ?_
  refine Zas ?_
  refine Zae (b := bb) (o := 0) rfl ZdY rfl ?_
  refine Zaz ?_
  refine Zas ?_
  refine Zah (b := f0.b) (o := 0 + 0) (r := f0.v) rfl p1 fa5 Zb6 rfl ?_
  refine Zaz ?_
  refine Zas ?_
  refine ZeV rfl p3 rfl Zbw ?_
  refine Zaz ?_
  refine Zas ?_
  refine Zah (b := b5) (o := 0) (r := .raw (.int .i64 (m : Int))) he.2.1 hb5 fa9 ZbG rfl ?_
  refine Zaz ?_
  refine Zas ?_
  refine ZcW (f0.d.length : Int) (m : Int) rfl rfl (by omega) (by omega) ?_
  refine Zaz ?_
  rw [show ((f0.d.length : Int) - (m : Int)) = ((f0.d.length - m : Nat) : Int) by omega]
  refine Zas ?_
  refine Zay (vs := [ptr bb 0, ptr f0.b 0, vI (f0.d.length - m : Nat)]) (by simp only [List.map_cons, List.map_nil, EV,Nat.reduceEqDiff,↓reduceIte,he];try rfl) ?_
  refine Zln h hl hs hf0 (m := f0.d.length - m) (Nat.sub_le _ _) hd fun τ v' pv' d1 d2 => ?_
  refine ⟨(fun hf => by cases hf), ?_⟩
  refine ZbI ?_
  rw [show f0.d.length - (f0.d.length - m) = m by omega] at d1
  exact ⟨_, Zcu rfl, hK0 h0 h1 τ v' pv' d1 d2⟩
end
section
variable {σ : St} {bb mb : Nat} {S : Nat -> Prop} {fs : List Fl} {pcs : List (Nat × Nat)} {size : Int} {pv : AV} {K : AV -> St -> Prop}
theorem ZrM (h : DAt σ bb S fs pcs size mb pv) (hS : ∀ c, S c -> σ.used c) (hl : pcs.length <= 1000000000) (hs : ∀ p ∈ pcs, p.2 <= 1000000000) (hfl : ∀ f ∈ fs, f.d.length <= 1000000000) {k : List UInt8} {n : Int}
 (hK6 : (∀ f ∈ fs, f.nm ≠ k) -> ∀ τ, Ext σ τ -> K (vI 6) τ)
 (hK2 : ∀ f0 ∈ fs, f0.nm = k -> (n < 0 \/ (f0.d.length : Int) < n) -> ∀ τ, Ext σ τ -> K (vI 2) τ)
 (hK0 : ∀ f0 ∈ fs, f0.nm = k -> 0 <= n -> n <= (f0.d.length : Int) -> ∀ τ v' pv', DAt τ bb S (fs.map (ZcA f0.b v' (f0.d.take n.toNat))) ((shr f0.b (f0.d.length - n.toNat) pcs).filter fun p => !decide (p.2 = 0)) size mb pv' -> But S σ τ -> K (vI 0) τ) : Zan Tryz.prog 82 [ptr bb 0, .raw (sV k), .raw (.int .i64 n)] σ K := by
 refine Zai Zam Tryz.func82 rfl rfl rfl (Nat.le_of_ble_eq_true rfl) ?_
 refine Zhx 0 1 2 (v0 := ptr bb 0) (v1 := .raw (sV k)) (v2 := .raw (.int .i64 n)) rfl rfl rfl ?_
 intro e he
 repeat refine Zab ?_
 first|refine Zaa ?_|refine Zad ?_
 refine Zac (Zbn (cs := [ptr bb 0]) (v := ptr bb 0) he.1 rfl fun b3 σ1 hn3 hu3 hb3 hub3 hX1 => ?_)
 refine Zac (Zbn (cs := [.raw (.int .i64 n)]) (v := .raw (.int .i64 n)) he.2.2 rfl fun b5 σ2 hn5 hu5 hb5 hub5 hX2 => ?_)
 refine Zag ?_
 refine Zaf (kp3 1 3 5 ?_)
 clear he e
 intro e he
 repeat refine Zab ?_
 first|refine Zaa ?_|refine Zad ?_
 refine Zac (ZaH Zqv rfl fun b7 σ3 hn7 hu7 hb7 hub7 hX3 => ?_)
 refine Zac (ZaI (b := b7) (o := 0) (v := vI 0) rfl rfl hb7 Zj9 ⟨rfl, rfl, rfl⟩ (Nat.zero_lt_succ _) fun σ4 hb74 k4 => ?_)
 refine Zaf ?_
 have hX4 : Ext σ2 σ4 := But.ext hX3 (fun g hg => by rw [hg]; exact hn7) k4
 have hE4 : Ext σ σ4 := (hX1.trans hX2).trans hX4
 have h3S : ¬ S b3 := fun q => hu3 (hS _ q)
 have h5S : ¬ S b5 := fun q => hu5 (hX1.used _ (hS _ q))
 have h7S : ¬ S b7 := fun q => hu7 (hX2.used _ (hX1.used _ (hS _ q)))
 refine kp4 1 3 5 7 ?_
 clear he e
 intro e he
 refine Zce (fun env υ => ∃ r : Nat, (env 7 = ptr b7 0 /\ env 8 = vI r) /\ (r ≠ 0 -> K (vI r) υ) /\ (r = 0 -> ∃ x : Nat, υ.blk b7 = some (.own 40 [vI x]) /\ K (vI x) υ)) ?_ ?_
 ·repeat refine Zab ?_
  first|refine Zaa ?_|refine Zad ?_
  refine Zac (Zah (b := b3) (o := 0) (r := ptr bb 0) he.2.1 (hX4.keep _ _ (hX2.keep _ _ hb3)) ZrX ZrY rfl ?_)
  refine Zac (ZnX (vs := [ptr b5 0, ptr b7 0, ptr b3 0]) (by simp only [List.map_cons, List.map_nil, EV,Nat.reduceEqDiff,↓reduceIte,he];try rfl) ?_)
  refine Zag ?_
  refine Zac (Zq8 (vs := [.raw (sV k)]) (cells := [.raw (sV k)]) (by simp only [List.map_cons, List.map_nil, EV,Nat.reduceEqDiff,↓reduceIte,he];try rfl) Zia Zo2 Zqw rfl (by omega) rfl rfl fun b12 σ5 hN5 hX5 => ?_)
  have hE5 := hE4.trans hX5
  have h5 := h.ext hE5
  have hb35 := hX5.keep _ _ (hX4.keep _ _ (hX2.keep _ _ hb3))
  have hb55 := hX5.keep _ _ (hX4.keep _ _ hb5)
  have hb75 := hX5.keep _ _ hb74
  have hNm : ∀ υ, Zlx υ (.lst (some ⟨b12, 0, none⟩) 1 1 [.raw (sV k)]) [k] := fun υ => .inl ⟨some ⟨b12, 0, none⟩, 1, [], rfl, fun q => (by cases q)⟩
  refine Zao [ptr bb 0, fnG 124 #[] #[.pointer (some ⟨b5, 0, none⟩), .pointer (some ⟨b7, 0, none⟩), .pointer (some ⟨b3, 0, none⟩)], .lst (some ⟨b12, 0, none⟩) 1 1 [.raw (sV k)]] ?_
  refine Zqi (ns := [k]) (fun i υ => match i with
   | 0 => υ = σ5
   | _ => (∃ f0 ∈ fs, f0.nm = k /\ (n < 0 \/ (f0.d.length : Int) < n) /\ Ext σ υ /\ υ.blk b7 = some (.own 40 [vI 2])) \/ ∃ f0 ∈ fs, f0.nm = k /\ 0 <= n /\ n <= (f0.d.length : Int) /\ υ.blk b7 = some (.own 40 [vI 0]) /\ But S σ υ /\ ∃ v' pv', DAt υ bb S (fs.map (ZcA f0.b v' (f0.d.take n.toNat))) ((shr f0.b (f0.d.length - n.toNat) pcs).filter fun p => !decide (p.2 = 0)) size mb pv') h5 (hNm _) (by simp) rfl (fun i hi υ hI => ?_) (fun υ hI => ?_)
  ·obtain rfl : i = 0 := by simp at hi; exact hi
   have hI : υ = σ5 := hI
   subst hI
   refine ⟨S, fs, pcs, size, mb, pv, h5, hNm _, fun hg => ?_, fun fb hg => ?_⟩
   ·refine Zag ?_
    refine Zaf ?_
    refine ⟨rfl, 6, ⟨by simp only [EV,Nat.reduceEqDiff,↓reduceIte,he];try rfl, by simp only [EV,Nat.reduceEqDiff,↓reduceIte,he];try rfl⟩, fun _ => hK6 (Zft.1 hg) _ hE5, fun q => absurd q (by decide)⟩
   ·obtain ⟨f0, hf0, hnm, rfl⟩ := Zgt hg
    refine Zqx (n := n) h5 hl hs hf0 (hfl f0 hf0) hb55 hb75 hb35 (fun hbad τ hτ kτ => ?_) fun q0 q1 τ v' pv' d1 d2 => ?_
    ·exact .inl ⟨f0, hf0, hnm, hbad, But.ext hE5 (fun c hc => by rw [hc]; exact Za9.of ⟨hn7, hu7⟩ (hX1.trans hX2) |>.1) kτ, hτ⟩
    ·exact .inr ⟨f0, hf0, hnm, q0, q1, d2.keep _ _ h7S hb75, hE5.but.trans d2, v', pv', d1⟩
  ·refine Zag ?_
   refine Zaf ?_
   refine ⟨rfl, 0, ⟨by simp only [EV,Nat.reduceEqDiff,↓reduceIte,he];try rfl, by simp only [EV,Nat.reduceEqDiff,↓reduceIte,he];try rfl⟩, fun q => absurd rfl q, fun _ => ?_⟩
   rcases hI with ⟨f0, hf0, hnm, hbad, hX, h7⟩ | ⟨f0, hf0, hnm, q0, q1, h7, hB, v', pv', hd⟩
   ·exact ⟨2, h7, hK2 f0 hf0 hnm hbad υ hX⟩
   ·exact ⟨0, h7, hK0 f0 hf0 hnm q0 q1 υ v' pv' hd hB⟩
 clear he e
 rintro e υ ⟨r, he, g1, g2⟩
 repeat refine Zab ?_
 first|refine Zaa ?_|refine Zad ?_
 refine Zag ?_
 refine Zac (Zdo (k := .i64) (a := (r : Int)) (b := 0) rfl rfl ?_)
 refine Zaf (kp3 7 8 15 ?_)
 clear he e
 intro e he
 refine ZaC (t := decide ((r : Int) ≠ 0)) he.2.2 (fun hr => ?_) (fun hr => ?_)
 ·have hr := of_decide_eq_true hr
  repeat refine Zab ?_
  first|refine Zaa ?_|refine Zad ?_
  refine Zag ?_
  refine Zag ?_
  refine Zaf (ZbB ?_)
  exact ZaD (g1 (by omega))
 ·have hr := of_decide_eq_false hr
  obtain ⟨x, h7, hKx⟩ := g2 (by omega)
  refine ZaL ?_
  repeat refine Zab ?_
  first|refine Zaa ?_|refine Zad ?_
  refine Zac (Zah (b := b7) (o := 0) (r := vI x) he.1 h7 Zqu Zj9 rfl ?_)
  refine Zag ?_
  refine Zaf (Zap ?_)
  exact ZaD (hKx)
end
end Go.Proofs.YtiienjjhlibopaaGreatDoor
