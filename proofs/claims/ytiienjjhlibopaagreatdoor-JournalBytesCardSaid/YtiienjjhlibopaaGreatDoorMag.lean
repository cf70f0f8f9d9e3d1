/- XJz, XJf, XJg, XJh, XJi, XJj, XJm, XJo in one. -/
import Derived.Test.YtiienjjhlibopaaGreatDoorFacts
import Derived.Test.YtiienjjhlibopaaGreatDoorMaf
import Derived.Test.YtiienjjhlibopaaGreatDoorMab
import Derived.Test.YtiienjjhlibopaaGreatDoorMae
namespace Go.Proofs.YtiienjjhlibopaaGreatDoor
open Go.RowKit
set_option maxRecDepth 100000
set_option linter.unusedVariables false
set_option linter.unusedSimpArgs false
theorem Zot : Zba Tryz.prog 189 = some (.agg #[.slice none 0 0]) := by kernel_rfl
theorem Zou : ZbE Tryz.prog 189 = some [(0, 1)] := by kernel_rfl
theorem Zov : Zba Tryz.prog 191 = some (.agg #[.slice none 0 0, .int .i64 0]) := by kernel_rfl
theorem Zow : ZbE Tryz.prog 191 = some [(0, 1), (1, 1)] := by kernel_rfl
theorem Zox : Zdv Tryz.prog 136 = some 32 := by kernel_rfl
section
variable {σ : St} {K : AV -> St -> Prop}
theorem Hd.off {σ : St} {e sz n : Nat} {v : AV} {cells : List AV} {b : Nat} (h : Hd σ e sz v n cells) (hb : σ.blk b = none) : ∀ c, hbk v = some c -> ¬ c = b := fun c hc q => by
 obtain ⟨all, h1⟩ := h.blk hc
 rw [q, hb] at h1
 cases h1
theorem Hd.off2 {σ : St} {e sz n : Nat} {v : AV} {cells : List AV} {b : Nat} {t : TypeId} {xs : List AV} (h : Hd σ e sz v n cells) (hb : σ.blk b = some (.own t xs)) (hne : (e == t) = false) : ∀ c, hbk v = some c -> ¬ c = b := fun c hc q => by
 obtain ⟨all, h1⟩ := h.blk hc
 rw [q, hb] at h1
 injection h1 with h1
 injection h1 with h1
 rw [h1] at hne
 simp at hne
def frC : List Fr -> List AV -> List AV
 | f :: fs, u :: us => vI f.1 :: u :: frC fs us
 | _, _ => []
theorem ZkG (f : Fr) (h : AV) : ∀ (fs : List Fr) (hs : List AV), hs.length = fs.length -> frC (fs ++ [f]) (hs ++ [h]) = frC fs hs ++ [vI f.1, h]
 | [], [], _ => rfl
 | f' :: fs, u :: us, hl => by
  show vI f'.1 :: u :: frC (fs ++ [f]) (us ++ [h]) = _
  rw [ZkG f h fs us (by simpa using hl)]
  rfl
theorem Zm0 : ∀ (fs : List Fr) (hs : List AV), hs.length = fs.length -> (frC fs hs).length = fs.length * 2
 | [], [], _ => rfl
 | f :: fs, u :: us, hl => by
  show (frC fs us).length + 2 = (fs.length + 1) * 2
  rw [Zm0 fs us (by simpa using hl)]
  omega
theorem Zm1 : ∀ (fs : List Fr) (hs : List AV) (j : Nat) (f : Fr) (u : AV), hs.length = fs.length -> fs[j]? = some f -> hs[j]? = some u -> (frC fs hs).drop (j * 2) = vI f.1 :: u :: (frC fs hs).drop (j * 2 + 2)
 | f' :: fs, u' :: us, 0, f, u, _, h1, h2 => by
  cases h1
  cases h2
  rfl
 | f' :: fs, u' :: us, j + 1, f, u, hl, h1, h2 => by
  have := Zm1 fs us j f u (by simpa using hl) (by simpa using h1) (by simpa using h2)
  show (vI f'.1 :: u' :: frC fs us).drop ((j + 1) * 2) = _
  rw [show (j + 1) * 2 = j * 2 + 2 by omega]
  exact this
def TBs (us : List AV) (ds : List (List UInt8)) : Prop := us.length = ds.length /\ ∀ (i : Nat) (d : List UInt8), ds[i]? = some d -> ∃ u, us[i]? = some u /\ TB u d
theorem TBs.nil : TBs [] [] := ⟨rfl, fun i d h => by simp at h⟩
theorem TBs.snoc {us : List AV} {ds : List (List UInt8)} {u : AV} {d : List UInt8} (h : TBs us ds) (hu : TB u d) : TBs (us ++ [u]) (ds ++ [d]) := by
 refine ⟨by simp [h.1], fun i d' hd => ?_⟩
 by_cases hi : i < ds.length
 ·rw [List.getElem?_append_left hi] at hd
  obtain ⟨v, h1, h2⟩ := h.2 i d' hd
  exact ⟨v, by rw [List.getElem?_append_left (by rw [h.1]; exact hi)]; exact h1, h2⟩
 ·have hi2 : i = ds.length := by
   have := Zcd hd
   simp at this
   omega
  subst hi2
  rw [List.getElem?_append_right (Nat.le_refl _), Nat.sub_self] at hd
  cases hd
  exact ⟨u, by rw [<- h.1, List.getElem?_append_right (Nat.le_refl _), Nat.sub_self]; rfl, hu⟩
def FrT (x : AV) (fs : List Fr) : Prop := ∃ A c us, x = .lst A fs.length c (frC fs us) /\ Lst A fs.length c /\ TBs us (fs.map (·.2))
theorem Zqf {v : AV} {b : List UInt8} (hv : TB v b) (hbl : b.length <= 100000000) (hK : ∀ τ x us, Hd τ 136 2 x (ZaV b).1.length (frC (ZaV b).1 us) -> Ext σ τ -> (∀ c, hbk x = some c -> Za9 σ c) -> TBs us ((ZaV b).1.map (·.2)) -> (ZaV b).1.length * 9 <= b.length -> K (.tup [x, vI ((ZaV b).2 : Int)]) τ) : Zan Tryz.prog 81 [v] σ K := by
 refine Zai Zam Tryz.func81 rfl rfl rfl (Nat.le_of_ble_eq_true rfl) ?_
 refine Zbf 0 (v0 := v) rfl ?_
 intro e he
 refine Zaa (Zag ?_)
 refine Zag ?_
 refine Zaf (kp1 0 fun e he => ?_)
 refine Zaa (Zag ?_)
 refine Zaf (kp2 0 4 fun e he => ?_)
 refine Zaa (Zag ?_)
 refine Zac (Zbj (vs := [v]) (cells := [v]) (by simp only [List.map_cons, List.map_nil, EV,Nat.reduceEqDiff,↓reduceIte,he];try rfl) Zot Zou (by obtain ⟨A, c, rest, rfl, _⟩ := hv <;> rfl) ?_)
 refine Zac (Zbj (vs := [.agg [v]]) (cells := [v, vI 0]) (by simp only [List.map_cons, List.map_nil, EV,Nat.reduceEqDiff,↓reduceIte,he];try rfl) Zov Zow (by obtain ⟨A, c, rest, rfl, _⟩ := hv <;> rfl) ?_)
 refine Zac (Zbn (cs := [v, vI 0]) (v := .agg [v, vI 0]) rfl (by obtain ⟨A, c, rest, rfl, _⟩ := hv <;> rfl) fun b1 υ2 hn3 hu4 hb5 hv6 hX7 => ?_)
 refine Zag ?_
 refine Zaf (kp2 4 5 fun e he => ?_)
 refine Zct (Za4 (fun μ env υ => ∃ (fs : List Fr) (us : List AV) (x : AV) (r : List UInt8) (w : AV) (at0 : Nat), μ = r.length /\ (env 4 = x /\ env 5 = ptr b1 0) /\ Hd υ 136 2 x fs.length (frC fs us) /\ Ext σ υ /\ (∀ c, hbk x = some c -> Za9 σ c) /\ υ.blk b1 = some (.own 191 [w, vI (at0 : Int)]) /\ υ.used b1 /\ TB w r /\ (fs ++ (ZaV r).1 = (ZaV b).1 /\ at0 + (ZaV r).2 = (ZaV b).2 /\ at0 + r.length <= b.length) /\ TBs us (fs.map (·.2)) /\ fs.length * 9 <= at0) ⟨_, [], [], .lst none 0 0 [], b, v, 0, rfl, ⟨by simp only [EV,Nat.reduceEqDiff,↓reduceIte,he];try rfl, by simp only [EV,Nat.reduceEqDiff,↓reduceIte,he];try rfl⟩, ⟨rfl, fun a h => (by cases h), .inl ⟨.inl rfl, rfl⟩⟩, hX7, fun c h => (by cases h), hb5, hv6, hv, ⟨rfl, Nat.zero_add _, by omega⟩, TBs.nil, (by simp)⟩ ?_)
 clear he e
 rintro _ e υ8 ⟨fs, us, x, r, w, at0, rfl, he, p1, p2, p3, p4, p5, p6, p7, p8, p9⟩
 have o9 := p1.off2 p4 (by decide)
 refine Zct (Zaa (Zag ?_))
 refine Zao [ptr b1 0] ?_
 refine Zqe (b := r) p6 (by omega) (by omega) p4 p5 (fun hf10 τ11 hX => ?_) (fun f12 hf10 ττ11 u13 w14 hu15 hw16 hk17 hb18 => ?_)
 ·have p4 := hX.keep _ _ p4
  have p5 := hX.used _ p5
  have p1 := p1.ext hX
  refine Zag ?_
  refine Zac (Zaw (l := [.agg [vI 0, .lst none 0 0 []], vT false]) (r := .agg [vI 0, .lst none 0 0 []]) rfl rfl ?_)
  refine Zac (Zaw (l := [.agg [vI 0, .lst none 0 0 []], vT false]) (r := vT false) rfl rfl ?_)
  refine Zac (ZaH ZiC rfl fun b19 υ20 hn21 hu22 hb23 hv24 hX25 => ?_)
  have ne26 := Zat p4 hn21
  have o27 := p1.off hn21
  have p4 := hX25.keep _ _ p4
  have p5 := hX25.used _ p5
  have p1 := p1.ext hX25
  refine Zac (ZaB (b := b19) (o := 0) (u := .agg [vI 0, .lst none 0 0 []]) rfl rfl hb23 Ze2 rfl rfl fun υ28 hb23 k29 => ?_)
  have p4 := k29.keep _ _ (Ne.symm ne26) p4
  have p5 := k29.used _ p5
  have p1 := p1.but k29 o27
  refine Zag ?_
  refine Zaf (kp4 4 5 6 7 fun e he => ?_)
  refine Zab (Zaa (Zag ?_))
  refine ZcU ?_
  refine Zaf (kp4 4 5 6 18 fun e he => ?_)
  refine ZaC (t := true) he.2.2.2 (fun ht => ?_) (fun ht => by cases ht)
  refine Zab (Zbt ?_)
  refine ⟨[0, 1, 2, 3, 5, 4, 6], [[], [], [1], [1, 2], [1, 2, 3], [0], [0, 1, 2, 3, 4, 5]], fun _ => True, [], [], [], by kernel_rfl, ?_⟩
  refine Zax ?_
  refine Zax ?_
  refine Zas ?_
  refine Zav (v := ptr b1 0) rfl rfl ?_
  refine Zaz ?_
  refine Zas ?_
  refine Zae (b := b1) (o := 0) rfl ZlJ rfl ?_
  refine Zaz ?_
  refine Zax ?_
  refine Zas ?_
  refine Zah (b := b1) (o := 0 + 1) (r := vI ((at0 : Nat) : Int)) rfl p4 fa9 ZbG rfl ?_
  refine Zaz ?_
  refine Zax ?_
  refine ZbI (kp2 2 3 ?_)
  clear he e
  intro e he
  refine ZbB ?_
  rw [Zfa hf10] at p7
  obtain ⟨q1, q2, q3⟩ := p7
  rw [List.append_nil] at q1; rw [Nat.add_zero] at q2; rw [<- q1, <- q2] at hK
  show ∃ r, ZaM _ _ _ _ r /\ _
  exact ⟨_, Zbd rfl (ZaO he.1) (ZaO he.2), hK _ _ us p1 (But.ext ((p2.trans hX).trans hX25) (fun g hg => by rw [hg]; exact (p2.trans hX).noneOf hn21) k29) p3 p8 (by omega)⟩
 have p1 := p1.but hk17 o9
 have p5 := hk17.used _ p5
 have p4 := hb18
 refine Zag ?_
 refine Zac (Zaw (l := [.agg [vI f12.1, u13], vT true]) (r := .agg [vI f12.1, u13]) rfl rfl ?_)
 refine Zac (Zaw (l := [.agg [vI f12.1, u13], vT true]) (r := vT true) rfl rfl ?_)
 refine Zac (ZaH ZiC rfl fun b30 υ31 hn32 hu33 hb34 hv35 hX36 => ?_)
 have ne37 := Zat p4 hn32
 have o38 := p1.off hn32
 have p4 := hX36.keep _ _ p4
 have p5 := hX36.used _ p5
 have p1 := p1.ext hX36
 refine Zac (ZaB (b := b30) (o := 0) (u := .agg [vI f12.1, u13]) rfl rfl hb34 Ze2 (by obtain ⟨A, c, rest, rfl, _⟩ := hu15 <;> rfl) rfl fun υ39 hb34 k40 => ?_)
 have p4 := k40.keep _ _ (Ne.symm ne37) p4
 have p5 := k40.used _ p5
 have p1 := p1.but k40 o38
 have hv35 := k40.used _ hv35
 refine Zag ?_
 refine Zaf (kp4 4 5 6 7 fun e he => ?_)
 refine Zab (Zaa (Zag ?_))
 refine ZcU ?_
 refine Zaf (kp4 4 5 6 18 fun e he => ?_)
 refine ZaC (t := false) he.2.2.2 (fun ht => by cases ht) (fun ht => ?_)
 refine ZaL (Zad (Zag ?_))
 refine Zac (Zah (b := b30) (o := 0) (r := .agg [vI f12.1, u13]) he.2.2.1 hb34 fa3 Ze2 rfl ?_)
 refine Zac (ZaN (vs := [.agg [vI f12.1, u13]]) (cells := [vI f12.1, u13]) (by simp only [List.map_cons, List.map_nil, EV,Nat.reduceEqDiff,↓reduceIte,he];try rfl) ZpB Ze2 ZiC rfl (by decide) (by obtain ⟨A, c, rest, rfl, _⟩ := hu15 <;> rfl) fun b41 hu42 hb43 => ?_)
 have hX44 := Ext.put (.tail 136 (1 * 2) (1 * 2)) hb43
 have ne45 := Zat p4 hb43
 have ne46 := Zat hb34 hb43
 have o47 := p1.off hb43
 have p4 := hX44.keep _ _ p4
 have p5 := hX44.used _ p5
 have hb34 := hX44.keep _ _ hb34
 have hv35 := hX44.used _ hv35
 have p1 := p1.ext hX44
 refine Zac (ZaZ (m := 1) (news := [vI f12.1, u13]) (by simp only [EV,Nat.reduceEqDiff,↓reduceIte,he];try rfl) (by simp only [EV,Nat.reduceEqDiff,↓reduceIte,he];try rfl) ZpB Ze2 ZiC Zox rfl (by omega) p1 (Zcv (rest := []) (m := 1) rfl (fun a ha => by simp only [List.mem_cons, List.not_mem_nil, or_false] at ha; rcases ha with rfl | rfl; exact rfl; exact hu15.one.1) (fun q => by cases q)) (by unfold maxLen; omega) (by omega) fun x48 τ49 g50 k51 hn52 => ?_)
 have hk2 := k51
 have p4 := k51.keep _ _ (fun q => o9 _ q rfl) p4
 have p5 := k51.used _ p5
 have hb34 := k51.keep _ _ (fun q => o38 _ q rfl) hb34
 have hv35 := k51.used _ hv35
 refine Zag ?_
 refine Zaf ?_
 rw [Zhd hf10] at p7
 obtain ⟨q1, q2, q3⟩ := p7
 have hl9 := ZeJ hf10
 have hd9 : (r.drop (9 + f12.2.length)).length = r.length - (9 + f12.2.length) := List.length_drop ..
 have hx2 : Ext σ τ49 := But.ext ((But.ext ((But.ext p2 (fun g hg => by rw [hg]; exact hn3) hk17).trans hX36) (fun g hg => by rw [hg]; exact (But.ext p2 (fun g hg => by rw [hg]; exact hn3) hk17).noneOf hn32) k40).trans hX44) (fun c hc => (p3 c hc).1) k51
 rw [<- ZkG _ _ _ _ (by simpa using p8.1), show fs.length + 1 = (fs ++ [f12]).length by simp] at g50
 show ∃ n', n' < _ /\ _
 refine ⟨_, (by rw [hd9]; omega), fs ++ [f12], us ++ [u13], x48, r.drop (9 + f12.2.length), w14, at0 + 9 + f12.2.length, rfl, ⟨by simp only [EV,Nat.reduceEqDiff,↓reduceIte,he];try rfl, by simp only [EV,Nat.reduceEqDiff,↓reduceIte,he];try rfl⟩, g50, hx2, fun c hc => (hn52 c hc).elim (p3 c) fun q => Za9.of q ((But.ext ((But.ext p2 (fun g hg => by rw [hg]; exact hn3) hk17).trans hX36) (fun g hg => by rw [hg]; exact (But.ext p2 (fun g hg => by rw [hg]; exact hn3) hk17).noneOf hn32) k40).trans hX44), p4, p5, hw16, ⟨by rw [<- q1]; simp, by rw [<- q2]; omega, by rw [hd9]; omega⟩, (by rw [List.map_append]; exact p8.snoc hu15), (by simp; omega)⟩
theorem ZrC {v : AV} {b : List UInt8} (hv : TB v b) (hbl : b.length <= 100000000) (hK : ∀ x τ, FrT x (ZaV b).1 -> Ext σ τ -> K (.tup [x, vI ((ZaV b).2 : Int)]) τ) : Zan Tryz.prog 81 [v] σ K :=
 Zan.tell (Zqf hv hbl fun τ x us h1 h2 h3 h4 h5 => by
  obtain ⟨A, c, q1, q2, q3, q4⟩ := h1.lends (G := fun b => hbk x = some b) (fun b hb => hb) (ZcS.refl _)
  exact ⟨fun b => hbk x = some b, .tup [.lst A _ c _, vI ((ZaV b).2 : Int)], Zc0.tup ⟨q1, .refl _, trivial⟩, hK _ _ ⟨A, c, us, rfl, ⟨q2, q3, by omega, q4⟩, h4⟩ (ZcN h2 fun c hc => h3 c hc)⟩)
end
section
variable {P : Program} {ops : Array Oper} {env : Env} {σ : St} {K : Env -> St -> Prop} {d : Option Nat} {ty : TypeId} {pos : String} {af : Array Edge} {j : Nat} {want : Bool} {l' : List Oper} {op : Op}
theorem Zpg {q : Nat} (h : Zbz P ops l' (env.put d (.raw undef)) σ K) (hd : (ops[j]?).bind (·.dst) = some q := by rfl) (hv : env q = .raw undef := by simp only [EV,Nat.reduceEqDiff,↓reduceIte,he];try rfl) : Zbz P ops (⟨d, op, ty, pos, af, some (j, want)⟩ :: l') env σ K := Zac (by
 have hy : ZaE ops env j = none := by unfold ZaE; rw [hd]; dsimp only; rw [hv]; rfl
 have hw : ¬ Region.wanted ⟨d, op, ty, pos, af, some (j, want)⟩ (ZaE ops env) = true := by simp [Region.wanted, hy]
 unfold aOp
 rw [if_neg hw]
 exact h)
end
def Zcx (l : List Int) (i : Nat) (h : i < l.length) : Prop := 1 <= l[i] /\ l[i] <= 5 /\ (0 < i -> l[i - 1] < l[i])
instance (l : List Int) (i : Nat) (h : i < l.length) : Decidable (Zcx l i h) := by unfold Zcx; infer_instance
def ZbK (l : List Int) : Bool := decide (∀ i (h : i < l.length), Zcx l i h)
def inB (x : Int) : Bool := decide (0 <= x /\ x <= 1073741824)
def Zd1 (ls : List (List Int)) : Bool := ls.all ZbK
def Zbl (x t : Int) (ls : List (List Int)) : Bool := inB x && inB t && Zd1 ls
section
variable {σ : St} {rb : Nat} {st : Option (List UInt8)} {K : AV -> St -> Prop}
theorem Zdk {x m : Int} (hK : K (vT (decide (0 <= x /\ x <= m))) σ) : Zan Tryz.prog 56 [vI x, vI m] σ K := by
 refine Zai Zam Tryz.func56 rfl rfl rfl (Nat.le_of_ble_eq_true rfl) ?_
 refine ZbL 0 1 (v0 := vI x) (v1 := vI m) rfl rfl ?_
 intro e he
 repeat refine Zab ?_
 first|refine Zaa ?_|refine Zad ?_
 refine Zag ?_
 refine Zaf (kp2 0 1 fun e he => ?_)
 repeat refine Zab ?_
 first|refine Zaa ?_|refine Zad ?_
 refine Zag ?_
 refine Zac (ZeN (k := .i64) (a := x) (b := 0) rfl rfl ?_)
 refine Zag ?_
 by_cases h : 0 <= x
 ·rw [decide_eq_true h]
  refine Zau ?_
  refine Zcb rfl he.1 ?_
  refine Zau ?_
  refine Zcb rfl he.2 ?_
  refine Zau ?_
  refine Zh7 (k := .i64) (a := x) (b := m) rfl rfl ?_
  refine Zac (Zaj (v := vT (decide (x <= m))) rfl rfl ?_)
  refine Zag ?_
  refine Zaf (kp1 4 fun e he => ?_)
  refine Zap ?_
  rw [show decide (0 <= x /\ x <= m) = decide (x <= m) from decide_eq_decide.2 ⟨fun q => q.2, fun q => ⟨h, q⟩⟩] at hK
  exact ZaD (hK)
 ·rw [decide_eq_false h]
  refine Zal ?_
  refine Zal ?_
  refine Zal ?_
  refine Zac (Zak (v := vT false) rfl rfl ?_)
  refine Zag ?_
  refine Zaf (kp1 4 fun e he => ?_)
  refine Zap ?_
  rw [show decide (0 <= x /\ x <= m) = false from decide_eq_false fun q => h q.1] at hK
  exact ZaD (hK)
set_option maxHeartbeats 1000000 in
theorem Zgy {v : AV} {l : List Int} (hv : Ls σ 3 v l.length (vIs l)) (hn : l.length <= 140737488355328) (hK : K (vT (ZbK l)) σ) : Zan Tryz.prog 54 [v] σ K := by
 refine Zai Zam Tryz.func54 rfl rfl rfl (Nat.le_of_ble_eq_true rfl) ?_
 refine Zbf 0 (v0 := v) rfl ?_
 intro e he
 repeat refine Zab ?_
 first|refine Zaa ?_|refine Zad ?_
 refine Zag ?_
 refine Zaf (kp1 0 fun e he => ?_)
 refine Zab ?_
 repeat refine Zab ?_
 first|refine Zaa ?_|refine Zad ?_
 refine Zag ?_
 refine Zac (ZaP rfl hv rfl Zco ?_)
 refine Zag ?_
 refine Zaf (kp4 0 5 6 7 fun e he => ?_)
 refine ZaF (Za4 (fun μ env υ => σ = υ /\ ∃ i : Nat, μ = l.length - i /\ i <= l.length /\ (env 0 = v /\ env 5 = v /\ env 6 = vI l.length /\ env 7 = vI i) /\ ∀ j (h : j < l.length), j < i -> Zcx l j h) ⟨_, rfl, 0, rfl, Nat.zero_le _, he, fun j h q => absurd q (Nat.not_lt_zero j)⟩ ?_)
 clear he e
 rintro _ e _ ⟨rfl, i, rfl, hi, he, hI⟩
 repeat refine Zab ?_
 first|refine Zaa ?_|refine Zad ?_
 refine Zcf i l.length ?_
 refine Zaf (kp5 0 5 6 7 8 fun e he => ?_)
 refine ZaC (t := decide (i < l.length)) he.2.2.2.2 (fun ht => ?_) (fun ht => ?_)
 ·have hlt : i < l.length := of_decide_eq_true ht
  refine ZaL (ZaF ?_)
  repeat refine Zab ?_
  first|refine Zaa ?_|refine Zad ?_
  refine Zag ?_
  refine Zgi hv hlt (Zc2 hlt) he.2.1 he.2.2.2.1 Zco ZbG fa9 fun u1 => ?_
  refine Zag ?_
  refine Zag ?_
  refine Zaf (kp6 0 3 4 5 6 7 fun e he => ?_)
  refine Zce (fun e' υ => (e' 0 = v /\ e' 5 = v /\ e' 6 = vI l.length /\ e' 7 = vI i /\ e' 30 = vT (decide (¬ Zcx l i hlt))) /\ σ = υ) ?_ ?_
  ·refine Zad ?_
   refine Zag ?_
   refine Zac (Zgh (k := .i64) (a := l[i]) (b := 1) rfl rfl ?_)
   refine Zag ?_
   by_cases h1 : l[i] < 1
   ·rw [decide_eq_true h1]
    refine Zal ?_
    refine Zal ?_
    refine Zac (Zaj (v := vT true) rfl rfl ?_)
    refine Zag ?_
    iterate 3 refine Zal ?_
    iterate 7 refine Zpg ?_
    refine Zal ?_
    refine Zac (Zaj (v := vT true) rfl rfl ?_)
    refine Zaf ?_
    rw [show decide (¬ Zcx l i hlt) = true from decide_eq_true (fun q => by have := q.1; omega)]
    exact ⟨rfl, ⟨by simp only [EV,Nat.reduceEqDiff,↓reduceIte,he];try rfl, by simp only [EV,Nat.reduceEqDiff,↓reduceIte,he];try rfl, by simp only [EV,Nat.reduceEqDiff,↓reduceIte,he];try rfl, by simp only [EV,Nat.reduceEqDiff,↓reduceIte,he];try rfl, by simp only [EV,Nat.reduceEqDiff,↓reduceIte,he];try rfl⟩, rfl⟩
   rw [decide_eq_false h1]
   refine Zau ?_
   refine Zcb rfl he.2.2.1 ?_
   refine Zau ?_
   refine Zb3 (k := .i64) (a := l[i]) (b := 5) rfl rfl ?_
   refine Zac (Zak (v := vT (decide (5 < l[i]))) rfl rfl ?_)
   refine Zag ?_
   by_cases h2 : 5 < l[i]
   ·rw [decide_eq_true h2]
    iterate 3 refine Zal ?_
    iterate 7 refine Zpg ?_
    refine Zal ?_
    refine Zac (Zaj (v := vT true) rfl rfl ?_)
    refine Zaf ?_
    rw [show decide (¬ Zcx l i hlt) = true from decide_eq_true (fun q => by have := q.2.1; omega)]
    exact ⟨rfl, ⟨by simp only [EV,Nat.reduceEqDiff,↓reduceIte,he];try rfl, by simp only [EV,Nat.reduceEqDiff,↓reduceIte,he];try rfl, by simp only [EV,Nat.reduceEqDiff,↓reduceIte,he];try rfl, by simp only [EV,Nat.reduceEqDiff,↓reduceIte,he];try rfl, by simp only [EV,Nat.reduceEqDiff,↓reduceIte,he];try rfl⟩, rfl⟩
   rw [decide_eq_false h2]
   refine Zau ?_
   refine Zcb rfl he.2.1 ?_
   refine Zau ?_
   refine Zb3 (k := .i64) (a := (i : Int)) (b := 0) rfl rfl ?_
   refine Zau ?_
   refine Zcb rfl (by simp only [EV,Nat.reduceEqDiff,↓reduceIte,he];try rfl) ?_
   by_cases h3 : 0 < i
   ·rw [decide_eq_true (by omega : (0 : Int) < (i : Int))]
    refine Zau ?_
    refine Zcb rfl he.1 ?_
    refine Zau ?_
    refine Zcb rfl he.2.1 ?_
    refine Zau ?_
    refine ZnE (k := .i64) (a := (i : Int)) (b := 1) (r := ((i - 1 : Nat) : Int)) rfl rfl (by rw [IntWalk.i64_in _ (by omega)]; omega) ?_
    refine Zau ?_
    refine Zcp (i := i - 1) (r := vI (l[i - 1])) hv (by omega) (Zc2 (by omega)) rfl rfl Zco ZbG fa9 fun q hq => ?_
    refine Zau ?_
    refine ZbV rfl hq ?_
    refine Zau ?_
    refine Zcb rfl he.2.2.1 ?_
    refine Zau ?_
    refine ZeN (k := .i64) (a := l[i - 1]) (b := l[i]) rfl rfl ?_
    refine Zau ?_
    refine Zaj (v := vT (decide (l[i] <= l[i - 1]))) rfl rfl ?_
    refine Zac (Zak (v := vT (decide (l[i] <= l[i - 1]))) rfl rfl ?_)
    refine Zaf ?_
    rw [show decide (¬ Zcx l i hlt) = decide (l[i] <= l[i - 1]) from decide_eq_decide.2 ⟨fun q => Int.not_lt.1 fun q2 => q ⟨by omega, by omega, fun _ => q2⟩, fun q q2 => Int.not_lt.2 q (q2.2.2 h3)⟩]
    exact ⟨rfl, ⟨by simp only [EV,Nat.reduceEqDiff,↓reduceIte,he];try rfl, by simp only [EV,Nat.reduceEqDiff,↓reduceIte,he];try rfl, by simp only [EV,Nat.reduceEqDiff,↓reduceIte,he];try rfl, by simp only [EV,Nat.reduceEqDiff,↓reduceIte,he];try rfl, by simp only [EV,Nat.reduceEqDiff,↓reduceIte,he];try rfl⟩, rfl⟩
   ·rw [decide_eq_false (by omega : ¬ (0 : Int) < (i : Int))]
    iterate 7 refine Zal ?_
    refine Zau ?_
    refine Zak (v := vT false) rfl rfl ?_
    refine Zac (Zak (v := vT false) rfl rfl ?_)
    refine Zaf ?_
    rw [show decide (¬ Zcx l i hlt) = false from decide_eq_false (fun q => q ⟨by omega, by omega, fun q => absurd q h3⟩)]
    exact ⟨rfl, ⟨by simp only [EV,Nat.reduceEqDiff,↓reduceIte,he];try rfl, by simp only [EV,Nat.reduceEqDiff,↓reduceIte,he];try rfl, by simp only [EV,Nat.reduceEqDiff,↓reduceIte,he];try rfl, by simp only [EV,Nat.reduceEqDiff,↓reduceIte,he];try rfl, by simp only [EV,Nat.reduceEqDiff,↓reduceIte,he];try rfl⟩, rfl⟩
  clear he e
  rintro e _ ⟨he, rfl⟩
  refine ZaQ (t := decide (¬ Zcx l i hlt)) he.2.2.2.2 (fun ht => ?_) (fun ht => ?_)
  ·have hbad := of_decide_eq_true ht
   rw [show ZbK l = false from decide_eq_false fun q => hbad (q i hlt)] at hK
   repeat refine Zab ?_
   first|refine Zaa ?_|refine Zad ?_
   refine Zag ?_
   refine Zaf (kp1 2 fun e he => ?_)
   refine ZbB ?_
   exact ZaD (hK)
  ·have hgood : Zcx l i hlt := Decidable.not_not.1 (of_decide_eq_false ht)
   refine Zbm ?_
   show ZaA _ _ _ _ _ _
   refine Zad (Zby i 1 ?_)
   refine Zag ?_
   refine Zaf ?_
   show ∃ n', n' < _ /\ _
   exact ⟨_, (by omega : l.length - (i + 1) < l.length - i), rfl, i + 1, rfl, hlt, ⟨by simp only [EV,Nat.reduceEqDiff,↓reduceIte,he];try rfl, by simp only [EV,Nat.reduceEqDiff,↓reduceIte,he];try rfl, by simp only [EV,Nat.reduceEqDiff,↓reduceIte,he];try rfl, by simp only [EV,Nat.reduceEqDiff,↓reduceIte,he];try rfl⟩, fun j h q => if hj : j = i then (by subst hj; exact hgood) else hI j h (by omega)⟩
 ·have hke : i = l.length := by have := of_decide_eq_false ht; omega
  subst hke
  rw [show ZbK l = true from decide_eq_true fun j h => hI j h h] at hK
  refine Zbu ?_
  show ZaA _ _ _ _ _ _
  repeat refine Zab ?_
  first|refine Zaa ?_|refine Zad ?_
  refine Zag ?_
  refine Zaf (kp1 2 fun e he => ?_)
  refine Zap ?_
  exact ZaD (hK)
theorem Zeu (h : QAt σ rb st) (hK : K (vT st.isNone) σ) : Zan Tryz.prog 70 [ptr rb 0] σ K := by
 refine Zai Zam Tryz.func70 rfl rfl rfl (Nat.le_of_ble_eq_true rfl) ?_
 refine Zbf 0 (v0 := ptr rb 0) rfl ?_
 intro e he
 repeat refine Zab ?_
 first|refine Zaa ?_|refine Zad ?_
 refine Zag ?_
 refine Zaf (kp1 0 fun e he => ?_)
 repeat refine Zab ?_
 first|refine Zaa ?_|refine Zad ?_
 refine Zag ?_
 refine Zao [ptr rb 0] ?_
 refine Ziq h ?_
 refine Zac (ZbQ (k := .i64) (a := ((st.getD []).length : Int)) (b := 0) rfl rfl ?_)
 refine Zag ?_
 by_cases h0 : (st.getD []).length = 0
 ·rw [decide_eq_true (by omega : ((st.getD []).length : Int) = 0)]
  refine Zau ?_
  refine Zcb rfl he ?_
  refine Zau ?_
  refine Zay (vs := [ptr rb 0]) (by simp only [List.map_cons, List.map_nil, EV,Nat.reduceEqDiff,↓reduceIte,he];try rfl) ?_
  refine ZmU h ?_
  refine Zau ?_
  refine Zdo (k := .i64) (a := if st = some [] then 0 else 4) (b := 0) rfl rfl ?_
  have e1 : decide ((if st = some [] then (0 : Int) else 4) ≠ 0) = st.isNone := by
   cases st with
   | none => rfl
   | some l =>
    have hl : l = [] := List.eq_nil_of_length_eq_zero h0
    subst hl
    rfl
  rw [e1]
  refine Zac (Zaj (v := vT st.isNone) rfl rfl ?_)
  refine Zag ?_
  refine Zaf (kp1 2 fun e he => ?_)
  refine Zap ?_
  exact ZaD (hK)
 ·rw [decide_eq_false (by omega : ¬ ((st.getD []).length : Int) = 0)]
  have e1 : st.isNone = false := by
   cases st with
   | none => exact absurd rfl h0
   | some l => rfl
  rw [e1] at hK
  refine Zal ?_
  refine Zal ?_
  refine Zal ?_
  refine Zac (Zak (v := vT false) rfl rfl ?_)
  refine Zag ?_
  refine Zaf (kp1 2 fun e he => ?_)
  refine Zap ?_
  exact ZaD (hK)
end
section
variable {σ : St} {K : AV -> St -> Prop}
theorem Zc3 {ls : List (List Int)} (h4 : ls.length = 4) : ∃ l0 l1 l2 l3, ls = [l0, l1, l2, l3] := by
 match ls, h4 with
 | [a, b, c, d], _ => exact ⟨a, b, c, d, rfl⟩
theorem ZbM.ext {σ τ : St} {cs : List AV} {ls : List (List Int)} (h : ZbM σ cs ls) (k : Ext σ τ) : ZbM τ cs ls := fun i hi => by
 obtain ⟨u, h1, h2⟩ := h i hi
 exact ⟨u, h1, h2.ext k⟩
theorem Zfb {c0 c1 c2 c3 : AV} {ls : List (List Int)} (h4 : ls.length = 4) (hv : ZbM σ [c0, c1, c2, c3] ls) (hn : ∀ l ∈ ls, l.length <= 140737488355328) (hK : ∀ τ, Ext σ τ -> K (vT (Zd1 ls)) τ) : Zan Tryz.prog 12 [.agg [c0, c1, c2, c3]] σ K := by
 obtain ⟨l0, l1, l2, l3, rfl⟩ := Zc3 h4
 have hc : ∀ {τ}, Ext σ τ -> ∀ i (h : i < 4), ∃ u, [c0, c1, c2, c3][i]? = some u /\ Ls τ 3 u ([l0, l1, l2, l3][i]'h).length (vIs ([l0, l1, l2, l3][i]'h)) := fun {τ} k i h => hv.ext k i h
 refine Zai Zam Tryz.func12 rfl rfl rfl (Nat.le_of_ble_eq_true rfl) ?_
 refine Zbf 0 (v0 := .agg [c0, c1, c2, c3]) rfl ?_
 intro e he
 repeat refine Zab ?_
 first|refine Zaa ?_|refine Zad ?_
 refine Zac (Zbn (cs := [c0, c1, c2, c3]) (v := .agg [c0, c1, c2, c3]) he rfl fun b υ hbn hbu hb hub hX => ?_)
 refine Zag ?_
 refine Zaf ?_
 have f0 : Ls υ 3 c0 l0.length (vIs l0) := by obtain ⟨u, q1, q2⟩ := hc hX 0 (by omega); cases q1; exact q2
 have f1 : Ls υ 3 c1 l1.length (vIs l1) := by obtain ⟨u, q1, q2⟩ := hc hX 1 (by omega); cases q1; exact q2
 have f2 : Ls υ 3 c2 l2.length (vIs l2) := by obtain ⟨u, q1, q2⟩ := hc hX 2 (by omega); cases q1; exact q2
 have f3 : Ls υ 3 c3 l3.length (vIs l3) := by obtain ⟨u, q1, q2⟩ := hc hX 3 (by omega); cases q1; exact q2
 have hK' : K (vT (ZbK l0 && (ZbK l1 && (ZbK l2 && ZbK l3)))) υ := by
  have := hK υ hX
  unfold Zd1 at this
  simpa [List.all_cons] using this
 refine kp1 1 fun e he => ?_
 repeat refine Zab ?_
 first|refine Zaa ?_|refine Zad ?_
 refine Zac (Zae (b := b) (o := 0) he Zcr rfl ?_)
 refine Zac (Zah (b := b) (o := 0 + 0) (r := c0) rfl hb fa6 Zb4 rfl ?_)
 refine Zao [c0] ?_
 refine Zgy f0 (hn _ (by simp)) ?_
 refine Zag ?_
 cases h1 : ZbK l0 with
 | false =>
  rw [h1] at hK'
  rw [Bool.false_and] at hK'
  refine Zal ?_
  refine Zal ?_
  refine Zal ?_
  refine Zac (Zak (v := vT false) rfl rfl ?_)
  refine Zag ?_
  refine Zal ?_
  refine Zal ?_
  refine Zal ?_
  refine Zac (Zak (v := vT false) rfl rfl ?_)
  refine Zag ?_
  refine Zal ?_
  refine Zal ?_
  refine Zal ?_
  refine Zac (Zak (v := vT false) rfl rfl ?_)
  refine Zag ?_
  refine Zaf (kp1 2 fun e he => ?_)
  refine Zap ?_
  exact ZaD (hK')
 | true =>
  rw [h1, Bool.true_and] at hK'
  refine Zau ?_
  refine Zae (b := b) (o := 0) he Zcr rfl ?_
  refine Zau ?_
  refine Zah (b := b) (o := 0 + 1) (r := c1) rfl hb fa6 Zb4 rfl ?_
  refine Zau ?_
  refine Zay (vs := [c1]) (by simp only [List.map_cons, List.map_nil, EV,Nat.reduceEqDiff,↓reduceIte,he];try rfl) ?_
  refine Zgy f1 (hn _ (by simp)) ?_
  refine Zac (Zaj (v := vT (ZbK l1)) rfl rfl ?_)
  refine Zag ?_
  cases h2 : ZbK l1 with
  | false =>
   rw [h2] at hK'
   rw [Bool.false_and] at hK'
   refine Zal ?_
   refine Zal ?_
   refine Zal ?_
   refine Zac (Zak (v := vT false) rfl rfl ?_)
   refine Zag ?_
   refine Zal ?_
   refine Zal ?_
   refine Zal ?_
   refine Zac (Zak (v := vT false) rfl rfl ?_)
   refine Zag ?_
   refine Zaf (kp1 2 fun e he => ?_)
   refine Zap ?_
   exact ZaD (hK')
  | true =>
   rw [h2, Bool.true_and] at hK'
   refine Zau ?_
   refine Zae (b := b) (o := 0) he Zcr rfl ?_
   refine Zau ?_
   refine Zah (b := b) (o := 0 + 2) (r := c2) rfl hb fa6 Zb4 rfl ?_
   refine Zau ?_
   refine Zay (vs := [c2]) (by simp only [List.map_cons, List.map_nil, EV,Nat.reduceEqDiff,↓reduceIte,he];try rfl) ?_
   refine Zgy f2 (hn _ (by simp)) ?_
   refine Zac (Zaj (v := vT (ZbK l2)) rfl rfl ?_)
   refine Zag ?_
   cases h3 : ZbK l2 with
   | false =>
    rw [h3] at hK'
    rw [Bool.false_and] at hK'
    refine Zal ?_
    refine Zal ?_
    refine Zal ?_
    refine Zac (Zak (v := vT false) rfl rfl ?_)
    refine Zag ?_
    refine Zaf (kp1 2 fun e he => ?_)
    refine Zap ?_
    exact ZaD (hK')
   | true =>
    rw [h3, Bool.true_and] at hK'
    refine Zau ?_
    refine Zae (b := b) (o := 0) he Zcr rfl ?_
    refine Zau ?_
    refine Zah (b := b) (o := 0 + 3) (r := c3) rfl hb fa6 Zb4 rfl ?_
    refine Zau ?_
    refine Zay (vs := [c3]) (by simp only [List.map_cons, List.map_nil, EV,Nat.reduceEqDiff,↓reduceIte,he];try rfl) ?_
    refine Zgy f3 (hn _ (by simp)) ?_
    refine Zac (Zaj (v := vT (ZbK l3)) rfl rfl ?_)
    refine Zag ?_
    refine Zaf (kp1 2 fun e he => ?_)
    refine Zap ?_
    exact ZaD (hK')
theorem Zm2 {x t : Int} {c0 c1 c2 c3 : AV} {ls : List (List Int)} (h4 : ls.length = 4) (hv : ZbM σ [c0, c1, c2, c3] ls) (hn : ∀ l ∈ ls, l.length <= 140737488355328) (hK : ∀ τ, Ext σ τ -> K (vT (Zbl x t ls)) τ) : Zan Tryz.prog 74 [.agg [vI x, vI t, c0, c1, c2, c3]] σ K := by
 refine Zai Zam Tryz.func74 rfl rfl rfl (Nat.le_of_ble_eq_true rfl) ?_
 refine Zbf 0 (v0 := .agg [vI x, vI t, c0, c1, c2, c3]) rfl ?_
 intro e he
 repeat refine Zab ?_
 first|refine Zaa ?_|refine Zad ?_
 refine Zac (Zbn (cs := [vI x, vI t, c0, c1, c2, c3]) (v := .agg [vI x, vI t, c0, c1, c2, c3]) he rfl fun b υ hbn hbu hb hub hX => ?_)
 refine Zag ?_
 refine Zaf (kp1 1 fun e he => ?_)
 repeat refine Zab ?_
 first|refine Zaa ?_|refine Zad ?_
 refine Zac (Zae (b := b) (o := 0) he Zdp rfl ?_)
 refine Zac (Zah (b := b) (o := 0 + 0) (r := vI x) rfl hb fa9 ZbG rfl ?_)
 refine Zao [vI x, vI 1073741824] ?_
 refine Zdk ?_
 refine Zag ?_
 by_cases h1 : 0 <= x /\ x <= 1073741824
 ·rw [decide_eq_true h1]
  refine Zau ?_
  refine Zae (b := b) (o := 0) he Zdp rfl ?_
  refine Zau ?_
  refine Zah (b := b) (o := 0 + 1) (r := vI t) rfl hb fa9 ZbG rfl ?_
  refine Zau ?_
  refine Zay (vs := [vI t, vI 1073741824]) (by simp only [List.map_cons, List.map_nil, EV,Nat.reduceEqDiff,↓reduceIte,he];try rfl) ?_
  refine Zdk ?_
  refine Zac (Zaj (v := vT (decide (0 <= t /\ t <= 1073741824))) rfl rfl ?_)
  refine Zag ?_
  by_cases h2 : 0 <= t /\ t <= 1073741824
  ·rw [decide_eq_true h2]
   refine Zau ?_
   refine Zae (b := b) (o := 0) he Zdp rfl ?_
   refine Zau ?_
   refine Zah (b := b) (o := 0 + 2) (r := .agg [c0, c1, c2, c3]) rfl hb fa7 Zdb rfl ?_
   refine Zau ?_
   refine Zay (vs := [.agg [c0, c1, c2, c3]]) (by simp only [List.map_cons, List.map_nil, EV,Nat.reduceEqDiff,↓reduceIte,he];try rfl) ?_
   refine Zfb h4 (hv.ext hX) hn fun τ hX2 => ?_
   refine Zac (Zaj (v := vT (Zd1 ls)) rfl rfl ?_)
   refine Zag ?_
   refine Zaf (kp1 2 fun e he => ?_)
   refine Zap ?_
   have e1 : Zbl x t ls = Zd1 ls := by
    unfold Zbl
    rw [show inB x = true from decide_eq_true h1, show inB t = true from decide_eq_true h2]
    rfl
   rw [<- e1] at he
   exact ZaD (hK τ (hX.trans hX2))
  ·rw [decide_eq_false h2]
   refine Zal ?_
   refine Zal ?_
   refine Zal ?_
   refine Zac (Zak (v := vT false) rfl rfl ?_)
   refine Zag ?_
   refine Zaf (kp1 2 fun e he => ?_)
   refine Zap ?_
   have e1 : Zbl x t ls = false := by
    unfold Zbl
    rw [show inB t = false from decide_eq_false h2, Bool.and_false, Bool.false_and]
   rw [<- e1] at he
   exact ZaD (hK υ hX)
 ·rw [decide_eq_false h1]
  refine Zal ?_
  refine Zal ?_
  refine Zal ?_
  refine Zac (Zak (v := vT false) rfl rfl ?_)
  refine Zag ?_
  refine Zal ?_
  refine Zal ?_
  refine Zal ?_
  refine Zac (Zak (v := vT false) rfl rfl ?_)
  refine Zag ?_
  refine Zaf (kp1 2 fun e he => ?_)
  refine Zap ?_
  have e1 : Zbl x t ls = false := by
   unfold Zbl
   rw [show inB x = false from decide_eq_false h1, Bool.false_and, Bool.false_and]
  rw [<- e1] at he
  exact ZaD (hK υ hX)
end
theorem ZfZ : Program.underlying Tryz.prog 182 = some (.array 4 24) := by kernel_rfl
theorem Zoy : Zba Tryz.prog 182 = some (.agg #[.slice none 0 0, .slice none 0 0, .slice none 0 0, .slice none 0 0]) := by kernel_rfl
theorem Zf0 {P : Program} {ops : Array Oper} {env : Env} {σ : St} {K : Env -> St -> Prop} {d : Option Nat} {ty t e : TypeId} {pos : String} {af : Array Edge} {x y : Operand} {b o j len sz : Nat} (hx : ev env x = ptr b o) (hy : ev env y = vI j) (hu : P.underlying t = some (.array len e)) (hsz : ZaU P e = some sz) (hj : j < len) (h : K (env.put d (ptr b (o + j * sz))) σ) : aOp P ops ⟨d, .indexAddr t x y, ty, pos, af, none⟩ env σ K := by
 refine Zdu (vs := [ptr b o, vI j]) rfl (by simp [Op.operands, hx, hy]) (fun _ _ h => .inl h) (fun ρ' hρ w _ _ => ?_) h
 simp [Op.operands, ptr] at hρ
 have hr : (Instr.indexAt t (.pointer (some ⟨b, o, none⟩)) (.int .i64 (j : Int))).run P w = .ok (.pointer (some ⟨b, o + j * sz, none⟩)) w := by
  have ha := Zci b o (j * sz)
  simp [Instr.indexAt, asIntOf, run_underlying hu, ZbH hsz, Instr.sureAddr, hj, ha]
 simp only [execOp, hρ.1, hρ.2, Sem.run_bind, hr, Result.andThen_ok, Sem.run_pure]
def ZbJ : Nat -> Option (List UInt8) -> List Int × Option (List UInt8)
 | 0, s => ([], s)
 | n + 1, s => ((ZbJ n s).1 ++ [((Zbr 5 (ZbJ n s).2).1 : Int)], (Zbr 5 (ZbJ n s).2).2)
def Zc4 (s : Option (List UInt8)) : List Int × Option (List UInt8) := ZbJ (Zbr 5 s).1 (Zbr 5 s).2
def ZdT : Nat -> Option (List UInt8) -> List (List Int) × Option (List UInt8)
 | 0, s => ([], s)
 | n + 1, s => ((ZdT n s).1 ++ [(Zc4 (ZdT n s).2).1], (Zc4 (ZdT n s).2).2)
theorem Zev (n : Nat) (s : Option (List UInt8)) : (ZbJ n s).1.length = n := by
 induction n with
 | zero => rfl
 | succ n ih =>
  show ((ZbJ n s).1 ++ [_]).length = _
  rw [List.length_append, ih]
  rfl
theorem Zgz (n : Nat) (s : Option (List UInt8)) : (ZdT n s).1.length = n := by
 induction n with
 | zero => rfl
 | succ n ih =>
  show ((ZdT n s).1 ++ [_]).length = _
  rw [List.length_append, ih]
  rfl
theorem Zoz (s : Option (List UInt8)) : (Zc4 s).1.length <= 5 := by
 unfold Zc4
 rw [Zev]
 exact ZcH.1
theorem Zhe (n : Nat) (s : Option (List UInt8)) : ∀ l ∈ (ZdT n s).1, l.length <= 5 := by
 induction n with
 | zero => intro l hl; cases hl
 | succ n ih =>
  intro l hl
  have hl : l ∈ (ZdT n s).1 ++ [(Zc4 (ZdT n s).2).1] := hl
  rcases List.mem_append.1 hl with h | h
  ·exact ih l h
  ·rw [List.mem_singleton.1 h]
   exact Zoz _
structure Zm3 (σ0 σ : St) (cb : Nat) (L : Nat -> List Int) : Prop where
 ex : ∃ cells : List AV, σ.blk cb = some (.own 182 cells) /\ cells.length = 4 /\ (∀ (k : Nat) u, cells[k]? = some u -> Hd σ 3 1 u (L k).length (vIs (L k)) /\ ∀ b, hbk u = some b -> Za9 σ0 b) /\ ∀ (k k' : Nat) (u u' : AV) b, cells[k]? = some u -> cells[k']? = some u' -> hbk u = some b -> hbk u' = some b -> k = k'
 new : Za9 σ0 cb
theorem Zm3.but {σ0 σ τ : St} {cb : Nat} {L : Nat -> List Int} {U : Nat -> Prop} (h : Zm3 σ0 σ cb L) (k : But U σ τ) (hU : ∀ b, U b -> ¬ Za9 σ0 b) : Zm3 σ0 τ cb L := by
 obtain ⟨cells, h1, h2, h3, h4⟩ := h.ex
 exact ⟨⟨cells, k.keep _ _ (fun q => hU _ q h.new) h1, h2, fun j u hu => ⟨(h3 j u hu).1.but k fun b hb q => hU b q ((h3 j u hu).2 b hb), (h3 j u hu).2⟩, h4⟩, h.new⟩
theorem Zm3.congr {σ0 σ : St} {cb : Nat} {L L' : Nat -> List Int} (h : Zm3 σ0 σ cb L) (hL : ∀ k, k < 4 -> L k = L' k) : Zm3 σ0 σ cb L' := by
 obtain ⟨cells, h1, h2, h3, h4⟩ := h.ex
 exact ⟨⟨cells, h1, h2, fun j u hu => by
  have hj : j < 4 := by have := Zcd hu; omega
  rw [<- hL j hj]
  exact h3 j u hu, h4⟩, h.new⟩
theorem Zm3.app {σ0 σ τ τ2 : St} {cb i : Nat} {L : Nat -> List Int} {cells : List AV} {u v : AV} {x : Int} (hnew : Za9 σ0 cb) (h1 : σ.blk cb = some (.own 182 cells)) (h2 : cells.length = 4) (h3 : ∀ (k : Nat) u, cells[k]? = some u -> Hd σ 3 1 u (L k).length (vIs (L k)) /\ ∀ b, hbk u = some b -> Za9 σ0 b) (h4 : ∀ (k k' : Nat) (u u' : AV) b, cells[k]? = some u -> cells[k']? = some u' -> hbk u = some b -> hbk u' = some b -> k = k') (hi : cells[i]? = some u)
 (hv : Hd τ 3 1 v ((L i).length + 1) (vIs (L i) ++ [vI x])) (hB : But (fun c => hbk u = some c) σ τ) (hn : ∀ c, hbk v = some c -> hbk u = some c \/ (σ.blk c = none /\ ¬ σ.used c)) (hE : ∀ c, Za9 σ c -> Za9 σ0 c) (hb : τ2.blk cb = some (.own 182 (cells.set i v))) (k2 : But (fun c => c = cb) τ τ2) : Zm3 σ0 τ2 cb (fun k => if k = i then L i ++ [x] else L k) := by
 have hi4 : i < cells.length := Zcd hi
 have hcb : τ.blk cb = some (.own 182 cells) := hB.keep _ _ (fun q => by
  obtain ⟨all, q2⟩ := (h3 i u hi).1.blk q
  rw [q2] at h1
  cases h1) h1
 have hvn : hbk v ≠ some cb := fun q => by
  obtain ⟨all, q2⟩ := hv.blk q
  rw [q2] at hcb
  cases hcb
 have hun : ∀ (k : Nat) u', cells[k]? = some u' -> hbk u' ≠ some cb := fun k u' hk q => by
  obtain ⟨all, q2⟩ := (h3 k u' hk).1.blk q
  rw [q2] at h1
  cases h1
 have get : ∀ (k : Nat) u', (cells.set i v)[k]? = some u' -> (k = i /\ u' = v) \/ (k ≠ i /\ cells[k]? = some u') := fun k u' hk => by
  by_cases hki : k = i
  ·subst hki
   rw [List.getElem?_set_self hi4] at hk
   injection hk with hk
   exact .inl ⟨rfl, hk.symm⟩
  ·rw [List.getElem?_set_ne (fun q => hki q.symm)] at hk
   exact .inr ⟨hki, hk⟩
 have far : ∀ (k : Nat) u' b, k ≠ i -> cells[k]? = some u' -> hbk u' = some b -> hbk v ≠ some b := fun k u' b hk hu' hb' hq => by
  rcases hn b hq with q | q
  ·exact hk (h4 k i u' u b hu' hi hb' q)
  ·obtain ⟨all, q2⟩ := (h3 k u' hu').1.blk hb'
   rw [q.1] at q2
   cases q2
 refine ⟨⟨cells.set i v, hb, by rw [List.length_set, h2], fun k u' hk => ?_, fun k k' u1 u2 b hk hk' hb1 hb2 => ?_⟩, hnew⟩
 ·rcases get k u' hk with ⟨rfl, rfl⟩ | ⟨hki, hk⟩
  ·refine ⟨?_, fun b hb' => (hn b hb').elim (fun q => (h3 k u hi).2 b q) fun q => hE b q⟩
   rw [if_pos rfl, List.length_append, show vIs (L k ++ [x]) = vIs (L k) ++ [vI x] by simp [vIs]]
   exact hv.but k2 fun b hb' q => hvn (q ▸ hb')
  ·rw [if_neg hki]
   refine ⟨((h3 k u' hk).1.but hB fun b hb' q => hki (h4 k i u' u b hk hi hb' q)).but k2 fun b hb' q => hun k u' hk (q ▸ hb'), (h3 k u' hk).2⟩
 ·rcases get k u1 hk with ⟨q1, q2⟩ | ⟨hki, hk⟩ <;> rcases get k' u2 hk' with ⟨q3, q4⟩ | ⟨hki', hk'⟩
  ·rw [q1, q3]
  ·exact absurd (q2 ▸ hb1) (far k' u2 b hki' hk' hb2)
  ·exact absurd (q4 ▸ hb2) (far k u1 b hki hk hb1)
  ·exact h4 k k' u1 u2 b hk hk' hb1 hb2
def TI (v : AV) (l : List Int) : Prop := ∃ A c, v = .lst A l.length c (vIs l) /\ Lst A l.length c
theorem TI.ls {σ : St} {v : AV} {l : List Int} (h : TI v l) : Ls σ 3 v l.length (vIs l) := by
 obtain ⟨A, c, rfl, h⟩ := h
 exact Zet (Zc1 l) (ZeH l) fun q => (h.none q).1
def ZcJ (cs : List AV) (ls : List (List Int)) : Prop := cs.length = 4 /\ ls.length = 4 /\ ∀ i (h : i < ls.length), ∃ u, cs[i]? = some u /\ TI u ls[i]
theorem ZcJ.at_ {σ : St} {cs : List AV} {ls : List (List Int)} (h : ZcJ cs ls) : ZbM σ cs ls := fun i hi => by
 obtain ⟨u, h1, h2⟩ := h.2.2 i hi
 exact ⟨u, h1, h2.ls⟩
def fL (ls : List (List Int)) (k : Nat) : List Int := ls[k]?.getD []
section
variable {σ : St} {rb : Nat} {st : Option (List UInt8)} {K : AV -> St -> Prop}
set_option maxHeartbeats 2000000 in
theorem Zfy (h : QAt σ rb st) (hK : ∀ cs τ, ZcJ cs (ZdT 4 st).1 -> QAt τ rb (ZdT 4 st).2 -> But (fun c => c = rb) σ τ -> K (.agg cs) τ) : Zan Tryz.prog 69 [ptr rb 0] σ K := by
 have hun : ¬ Za9 σ rb := fun q => q.2 h.used
 refine Zan.tell ?_
 refine Zai Zam Tryz.func69 rfl rfl rfl (Nat.le_of_ble_eq_true rfl) ?_
 refine Zbf 0 (v0 := ptr rb 0) rfl ?_
 intro e he
 repeat refine Zab ?_
 first|refine Zaa ?_|refine Zad ?_
 refine Zac (ZaH (cs := [.lst none 0 0 [], .lst none 0 0 [], .lst none 0 0 [], .lst none 0 0 []]) ZpC rfl fun ob σ1 hon hou hob hobu hX1 => ?_)
 refine Zaf (kp2 0 2 fun e he => ?_)
 repeat refine Zab ?_
 first|refine Zaa ?_|refine Zad ?_
 refine Zac (ZaH (cs := [.lst none 0 0 [], .lst none 0 0 [], .lst none 0 0 [], .lst none 0 0 []]) Zoy rfl fun cb σ2 hcn hcu hcb hcbu hX2 => ?_)
 refine Zaf (kp3 0 2 3 fun e he => ?_)
 have hX12 := hX1.trans hX2
 have hcnew : Za9 σ cb := Za9.of ⟨hcn, hcu⟩ hX1
 have hobne : ob ≠ cb := fun q => by rw [q, hcn] at hob; cases hob
 have hobrb : ob ≠ rb := fun q => hou (q ▸ h.used)
 refine Zab ?_
 repeat refine Zab ?_
 first|refine Zaa ?_|refine Zad ?_
 refine Zag ?_
 refine Zaf (kp4 0 2 3 5 ?_)
 clear he e
 intro e he
 refine ZaF ?_
 refine Za4 (fun μ env υ => ∃ i : Nat, μ = 4 - i /\ i <= 4 /\ (env 0 = ptr rb 0 /\ env 2 = ptr ob 0 /\ env 3 = ptr cb 0 /\ env 5 = vI i) /\ QAt υ rb (ZdT i st).2 /\ Zm3 σ υ cb (fL (ZdT i st).1) /\ But (fun c => c = rb) σ υ /\ υ.blk ob = some (.own 26 [.lst none 0 0 [], .lst none 0 0 [], .lst none 0 0 [], .lst none 0 0 []])) ⟨_, 0, rfl, Nat.zero_le _, he, h.ext hX12, ⟨⟨_, hcb, rfl, fun k u hu => by
  have hk : k < 4 := Zcd hu
  have hu2 : u = .lst none 0 0 [] := by
   have hm := List.mem_of_getElem? hu
   simpa using hm
  subst hu2
  refine ⟨?_, fun b hb => by cases hb⟩
  show Hd σ2 3 1 _ 0 []
  exact ⟨rfl, by simp, .inl ⟨.inl rfl, rfl⟩⟩, fun k k' u u' b hu hu' hb => by
  have hu2 : u = .lst none 0 0 [] := by
   have hm := List.mem_of_getElem? hu
   simpa using hm
  subst hu2
  cases hb⟩, hcnew⟩, hX12.but, hX2.keep _ _ hob⟩ ?_
 clear he e
 rintro _ e υ ⟨i, rfl, hi, he, hR, hC, hB, hO⟩
 repeat refine Zab ?_
 first|refine Zaa ?_|refine Zad ?_
 refine Zcf i 4 ?_
 refine Zaf (kp5 0 2 3 5 6 fun e he => ?_)
 refine ZaC (t := decide (i < 4)) he.2.2.2.2 (fun ht => ?_) (fun ht => ?_)
 ·have hlt : i < 4 := of_decide_eq_true ht
  refine ZaL (ZaF ?_)
  repeat refine Zab ?_
  first|refine Zaa ?_|refine Zad ?_
  refine Zag ?_
  refine Zag ?_
  refine Zaf (kp5 0 2 3 4 5 fun e he => ?_)
  repeat refine Zab ?_
  first|refine Zaa ?_|refine Zad ?_
  refine Zag ?_
  refine Zao [ptr rb 0, vI (5 : Nat)] ?_
  refine ZbS hR fun τ hR2 k2 => ?_
  have hn5 : (Zbr 5 (ZdT i st).2).1 <= 5 := ZcH.1
  have hls : (ZdT (i + 1) st) = ((ZdT i st).1 ++ [(ZbJ (Zbr 5 (ZdT i st).2).1 (Zbr 5 (ZdT i st).2).2).1], (ZbJ (Zbr 5 (ZdT i st).2).1 (Zbr 5 (ZdT i st).2).2).2) := rfl
  generalize hs0 : ZdT i st = s0 at *
  generalize hq : Zbr 5 s0.2 = q at *
  have hlen0 : s0.1.length = i := by rw [<- hs0]; exact Zgz i st
  refine Zag ?_
  refine Zaf (kp7 0 2 3 4 5 9 10 fun e he => ?_)
  refine Zct ?_
  refine Za4 (fun μ env υ' => ∃ j : Nat, μ = q.1 - j /\ j <= q.1 /\ (env 0 = ptr rb 0 /\ env 2 = ptr ob 0 /\ env 3 = ptr cb 0 /\ env 4 = vI i /\ env 5 = vI i /\ env 9 = vI q.1 /\ env 10 = vI j) /\ QAt υ' rb (ZbJ j q.2).2 /\ Zm3 σ υ' cb (fun k => if k = i then (ZbJ j q.2).1 else fL s0.1 k) /\ But (fun c => c = rb) σ υ' /\ υ'.blk ob = some (.own 26 [.lst none 0 0 [], .lst none 0 0 [], .lst none 0 0 [], .lst none 0 0 []])) ⟨_, 0, rfl, Nat.zero_le _, he, hR2, (hC.but k2 fun b hb => by rw [hb]; exact hun).congr fun k hk => ?_, hB.trans k2, k2.keep _ _ (fun q2 => by
   have : ob = rb := q2
   rw [this] at hou
   exact hou (h.used)) hO⟩ ?_
  ·by_cases hki : k = i
   ·rw [if_pos hki, hki]
    show s0.1[i]?.getD [] = []
    rw [List.getElem?_eq_none (by omega)]
    rfl
   ·rw [if_neg hki]
  clear he e
  rintro _ e υ' ⟨j, rfl, hj, he, hR3, hC3, hB3, hO3⟩
  repeat refine Zab ?_
  first|refine Zaa ?_|refine Zad ?_
  refine Zcf j q.1 ?_
  refine Zaf (kp8 0 2 3 4 5 9 10 11 fun e he => ?_)
  refine ZaC (t := decide (j < q.1)) (by simp only [EV,Nat.reduceEqDiff,↓reduceIte,he];try rfl) (fun ht => ?_) (fun ht => ?_)
  ·have hjl : j < q.1 := of_decide_eq_true ht
   refine ZaL (ZaF ?_)
   obtain ⟨cells, c1, c2, c3, c4⟩ := hC3.ex
   obtain ⟨u, hu⟩ : ∃ u, cells[i]? = some u := ⟨_, List.getElem?_eq_getElem (by omega)⟩
   have hnl : (ZbJ j q.2).1.length = j := Zev j q.2
   have hu3 := (c3 i u hu).1
   rw [if_pos rfl] at hu3
   refine Zda ?_
   refine ⟨[0, 1, 2, 4, 3, 5, 6, 7, 8, 9], [[], [], [1], [1, 2], [], [4], [4, 5], [1, 2, 3, 4, 5, 6], [0, 1, 2, 3, 4, 5, 6, 7], [0, 1, 2, 3, 4, 5, 6, 7, 8]], fun b => b = cb, [3], [5], [], by kernel_rfl, ?_⟩
   refine ZcT ?_
   refine ZcT ?_
   refine Za2 ?_
   refine Zf0 (j := i) (by simp only [EV,Nat.reduceEqDiff,↓reduceIte,he];try rfl) (by simp only [EV,Nat.reduceEqDiff,↓reduceIte,he];try rfl) ZfZ Zb4 hlt ?_
   refine Zb5 ?_
   refine ZcT ?_
   apply ZeP
   case hi => simp only [HIX]; try rfl
   case hw => rfl
   case how => rfl
   case hx => simp only [EV,Nat.reduceEqDiff,↓reduceIte,he];try rfl
   case hp => exact rfl
   case hb => exact c1
   case ha => exact fa6
   case hn => exact Zb4
   case hr => exact (show cells[0 + i * 1]? = _ by rw [Nat.zero_add, Nat.mul_one]; exact hu)
   refine Za2 ?_
   refine Zay (vs := [ptr rb 0, vI (5 : Nat)]) (by simp only [List.map_cons, List.map_nil, EV,Nat.reduceEqDiff,↓reduceIte,he];try rfl) ?_
   refine ZbS hR3 fun τ3 hR4 k4 => ⟨fun _ => k4.keeps fun b hb q2 => ?_, ?_⟩
   ·subst hb
    exact hun (q2 ▸ hC3.new)
   have d1 := k4.keep _ _ (fun q2 => hun (q2 ▸ hC3.new)) c1
   have d3 : Hd τ3 3 1 u (ZbJ j q.2).1.length (vIs (ZbJ j q.2).1) := hu3.but k4 fun b hb q2 => hun (q2 ▸ (c3 i u hu).2 b hb)
   refine Za2 ?_
   refine ZaN (vs := [vI (Zbr 5 (ZbJ j q.2).2).1]) (cells := [vI (Zbr 5 (ZbJ j q.2).2).1]) (by simp only [List.map_cons, List.map_nil, EV,Nat.reduceEqDiff,↓reduceIte,he];try rfl) Zco ZbG ZjF rfl (by decide) rfl fun b5 hu5 hb5 => ?_
   have hX5 := Ext.put (.tail 3 (1 * 1) (1 * 1)) hb5
   refine ⟨fun _ => hX5.keeps, ?_⟩
   refine Za2 ?_
   refine ZaZ (m := 1) (r := .lst (some ⟨b5, 0, none⟩) 1 1 ([vI (Zbr 5 (ZbJ j q.2).2).1] ++ [])) (news := [vI (Zbr 5 (ZbJ j q.2).2).1]) (by simp only [EV,Nat.reduceEqDiff,↓reduceIte,he];try rfl) (by simp only [EV,Nat.reduceEqDiff,↓reduceIte,he];try rfl) Zco ZbG ZjF ZqN rfl (by omega) (d3.ext hX5) (Zcv rfl (fun a ha => by rw [List.mem_singleton.1 ha]; rfl) fun q2 => by cases q2) (by unfold maxLen; omega) (by omega) fun v6 τ6 hv6 hB6 hn6 => ?_
   have e6 : τ6.blk cb = some (.own 182 cells) := hB6.keep _ _ (fun q2 => by
    obtain ⟨all, q3⟩ := (d3.ext hX5).blk q2
    rw [hX5.keep _ _ d1] at q3
    cases q3) (hX5.keep _ _ d1)
   refine ⟨fun _ => hB6.keeps fun b hb q2 => ?_, ?_⟩
   ·subst hb
    obtain ⟨all, q3⟩ := (d3.ext hX5).blk q2
    rw [hX5.keep _ _ d1] at q3
    cases q3
   refine Za2 ?_
   refine Zf0 (j := i) (by simp only [EV,Nat.reduceEqDiff,↓reduceIte,he];try rfl) (by simp only [EV,Nat.reduceEqDiff,↓reduceIte,he];try rfl) ZfZ Zb4 hlt ?_
   refine Zb5 ?_
   refine Za2 ?_
   refine ZaI (b := cb) (o := 0 + i * 1) (v := v6) (by simp only [EV,Nat.reduceEqDiff,↓reduceIte,he];try rfl) (by simp only [EV,Nat.reduceEqDiff,↓reduceIte,he];try rfl) e6 Zb4 hv6.oneV (by omega) fun τ7 hb7 k7 => ⟨(fun h => absurd h Bool.false_ne_true), ?_⟩
   refine Zfr ?_
   rw [Nat.zero_add, Nat.mul_one] at hb7
   show ZaA _ _ _ _ _ _
   refine kp7 0 2 3 4 5 9 10 fun e he => ?_
   refine Zad (Zby j 1 ?_)
   refine Zag ?_
   refine Zaf ?_
   show ∃ n', n' < _ /\ _
   have hOne : ∀ b, hbk u = some b -> b ≠ ob := fun b hb q2 => by
    obtain ⟨all, q3⟩ := hu3.blk hb
    rw [q2, hO3] at q3
    cases q3
   have f3 : ∀ (k : Nat) u, cells[k]? = some u -> Hd (τ3.put b5 (.tail 3 (1 * 1) (1 * 1))) 3 1 u (if k = i then (ZbJ j q.2).1 else fL s0.1 k).length (vIs (if k = i then (ZbJ j q.2).1 else fL s0.1 k)) /\ ∀ b, hbk u = some b -> Za9 σ b := fun k u' hk => ⟨((c3 k u' hk).1.but k4 fun b hb q2 => hun (q2 ▸ (c3 k u' hk).2 b hb)).ext hX5, (c3 k u' hk).2⟩
   have hB5 := (hB3.trans k4).trans hX5.but
   have hC7 := Zm3.app (σ0 := σ) (L := fun k => if k = i then (ZbJ j q.2).1 else fL s0.1 k) (x := (Zbr 5 (ZbJ j q.2).2).1) hC3.new (hX5.keep _ _ d1) c2 f3 c4 hu (by rw [if_pos rfl]; exact hv6) hB6 hn6 (fun c hc => ⟨hB5.noneOfB (fun b hb => by rw [hb]; exact h.used) hc.2 hc.1, fun q2 => hc.2 (hB5.used _ q2)⟩) hb7 k7
   refine ⟨_, (by omega : q.1 - (j + 1) < q.1 - j), j + 1, rfl, hjl, ⟨by simp only [EV,Nat.reduceEqDiff,↓reduceIte,he];try rfl, by simp only [EV,Nat.reduceEqDiff,↓reduceIte,he];try rfl, by simp only [EV,Nat.reduceEqDiff,↓reduceIte,he];try rfl, by simp only [EV,Nat.reduceEqDiff,↓reduceIte,he];try rfl, by simp only [EV,Nat.reduceEqDiff,↓reduceIte,he];try rfl, by simp only [EV,Nat.reduceEqDiff,↓reduceIte,he];try rfl, by simp only [EV,Nat.reduceEqDiff,↓reduceIte,he];try rfl⟩, ?_, hC7.congr fun k hk => ?_, ?_, ?_⟩
   ·exact ((hR4.ext hX5).but hB6 fun q2 => hun ((c3 i u hu).2 rb q2)).but k7 fun q2 => hun (q2 ▸ hC3.new)
   ·by_cases hki : k = i
    ·rw [if_pos hki, if_pos hki, if_pos rfl]
     rfl
    ·rw [if_neg hki, if_neg hki, if_neg hki]
   ·exact (((hB3.trans k4).trans hX5.but).ext2 (fun b hb => .inr ((c3 i u hu).2 b hb).1) hB6).ext2 (fun b hb => .inr (by rw [hb]; exact hC3.new.1)) k7
   ·exact k7.keep _ _ hobne (hB6.keep _ _ (fun q2 => hOne ob q2 rfl) (hX5.keep _ _ (k4.keep _ _ hobrb hO3)))
  ·have hke : j = q.1 := by have := of_decide_eq_false ht; omega
   refine Zbu ?_
   show ZaA _ _ _ _ _ _
   refine kp4 0 2 3 5 fun e he => ?_
   refine Zad (Zby i 1 ?_)
   refine Zag ?_
   refine Zaf ?_
   show ∃ n', n' < _ /\ _
   rw [hke] at hR3 hC3
   refine ⟨_, (by omega : 4 - (i + 1) < 4 - i), i + 1, rfl, hlt, ⟨by simp only [EV,Nat.reduceEqDiff,↓reduceIte,he];try rfl, by simp only [EV,Nat.reduceEqDiff,↓reduceIte,he];try rfl, by simp only [EV,Nat.reduceEqDiff,↓reduceIte,he];try rfl, by simp only [EV,Nat.reduceEqDiff,↓reduceIte,he];try rfl⟩, by rw [hls]; exact hR3, hC3.congr fun k hk => ?_, hB3, hO3⟩
   rw [hls]
   unfold fL
   by_cases hki : k = i
   ·rw [if_pos hki, hki, List.getElem?_append_right (by omega), hlen0, Nat.sub_self]
    rfl
   ·rw [if_neg hki]
    by_cases hlk : k < i
    ·rw [List.getElem?_append_left (by omega)]
    ·rw [List.getElem?_eq_none (by omega), List.getElem?_eq_none (by rw [List.length_append, hlen0]; show i + 1 <= k; omega)]
 ·have hke : i = 4 := by have := of_decide_eq_false ht; omega
  subst hke
  refine Zbu ?_
  show ZaA _ _ _ _ _ _
  obtain ⟨cells, c1, c2, c3, c4⟩ := hC.ex
  obtain ⟨a0, a1, a2, a3, rfl⟩ : ∃ a0 a1 a2 a3, cells = [a0, a1, a2, a3] := by
   match cells, c2 with
   | [a, b, c, d], _ => exact ⟨a, b, c, d, rfl⟩
  obtain ⟨l0, l1, l2, l3, hl⟩ := Zc3 (Zgz 4 st)
  have hle := Zhe 4 st
  rw [hl] at c3 hK hle
  have g0 : Hd υ 3 1 a0 l0.length (vIs l0) := (c3 0 a0 rfl).1
  have g1 : Hd υ 3 1 a1 l1.length (vIs l1) := (c3 1 a1 rfl).1
  have g2 : Hd υ 3 1 a2 l2.length (vIs l2) := (c3 2 a2 rfl).1
  have g3 : Hd υ 3 1 a3 l3.length (vIs l3) := (c3 3 a3 rfl).1
  repeat refine Zab ?_
  first|refine Zaa ?_|refine Zad ?_
  refine Zac (Zf0 (j := 0) he.2.2.1 rfl ZfZ Zb4 (by omega) ?_)
  refine Zac (Zah (b := cb) (o := 0 + 0 * 1) (r := a0) rfl c1 fa6 Zb4 rfl ?_)
  refine Zac (Zf0 (j := 1) he.2.2.1 rfl ZfZ Zb4 (by omega) ?_)
  refine Zac (Zah (b := cb) (o := 0 + 1 * 1) (r := a1) rfl c1 fa6 Zb4 rfl ?_)
  refine Zac (Zf0 (j := 2) he.2.2.1 rfl ZfZ Zb4 (by omega) ?_)
  refine Zac (Zah (b := cb) (o := 0 + 2 * 1) (r := a2) rfl c1 fa6 Zb4 rfl ?_)
  refine Zac (Zf0 (j := 3) he.2.2.1 rfl ZfZ Zb4 (by omega) ?_)
  refine Zac (Zah (b := cb) (o := 0 + 3 * 1) (r := a3) rfl c1 fa6 Zb4 rfl ?_)
  refine Zac (Zbj (vs := [a0, a1, a2, a3]) (cells := [a0, a1, a2, a3]) (by simp only [List.map_cons, List.map_nil, EV,Nat.reduceEqDiff,↓reduceIte,he];try rfl) ZpC ZsY (Zry rfl rfl rfl rfl g0.oneV.2 g1.oneV.2 g2.oneV.2 g3.oneV.2) ?_)
  refine Zac (ZaB (b := ob) (o := 0) (cs' := [a0, a1, a2, a3]) (u := .agg [a0, a1, a2, a3]) he.2.1 rfl hO Zdb (by simp [Zbh, AV.cells, g0.oneV.1, g1.oneV.1, g2.oneV.1, g3.oneV.1]) (by simp [ZaR, AV.cells]) fun τ hbo k => ?_)
  refine Zaf (kp1 2 fun e he => ?_)
  refine Zap ?_
  have hobne' : ∀ (j : Nat) u, [a0, a1, a2, a3][j]? = some u -> ∀ b, hbk u = some b -> ¬ b = ob := fun j u hu b hb q2 => by
   obtain ⟨all, q3⟩ := (c3 j u hu).1.blk hb
   rw [q2, hO] at q3
   cases q3
  let G : Nat -> Prop := fun b => ∃ (j : Nat) (u : AV), [a0, a1, a2, a3][j]? = some u /\ hbk u = some b
  have hG : ∀ b, G b -> Za9 σ b := fun b ⟨j, u, hu, hb⟩ => (c3 j u hu).2 b hb
  obtain ⟨A0, k0, m0, u0, w0, z0⟩ := (g0.but k fun b hb => hobne' 0 a0 rfl b hb).lends (G := G) (fun b hb => ⟨0, a0, rfl, hb⟩) (.refl _)
  obtain ⟨A1, k1, m1, u1, w1, z1⟩ := (g1.but k fun b hb => hobne' 1 a1 rfl b hb).lends (G := G) (fun b hb => ⟨1, a1, rfl, hb⟩) (.refl _)
  obtain ⟨A2, k2, m2, u2, w2, z2⟩ := (g2.but k fun b hb => hobne' 2 a2 rfl b hb).lends (G := G) (fun b hb => ⟨2, a2, rfl, hb⟩) (.refl _)
  obtain ⟨A3, k3, m3, u3, w3, z3⟩ := (g3.but k fun b hb => hobne' 3 a3 rfl b hb).lends (G := G) (fun b hb => ⟨3, a3, rfl, hb⟩) (.refl _)
  have hR' := hR.but k fun q2 => hobrb q2.symm
  have hB' : But (fun c => c = rb) σ τ := hB.ext2 (fun b hb => .inr (by rw [hb]; exact hon)) k
  have hle0 := hle l0 (by simp)
  have hle1 := hle l1 (by simp)
  have hle2 := hle l2 (by simp)
  have hle3 := hle l3 (by simp)
  refine ⟨.agg [a0, a1, a2, a3], ?_, G, .agg [.lst A0 l0.length k0 (vIs l0), .lst A1 l1.length k1 (vIs l1), .lst A2 l2.length k2 (vIs l2), .lst A3 l3.length k3 (vIs l3)], Zc0.agg ⟨m0, m1, m2, m3, trivial⟩, hK _ _ ⟨rfl, rfl, fun i hi => ?_⟩ ?_ ⟨fun c x hc hx => ?_, fun c hc => hB'.used _ hc⟩⟩
  ·show ZbU _ 26 τ (e 2) = _
   rw [he]
   unfold ZbU ptr
   dsimp only
   rw [hbo]
   dsimp only
   rw [fa7, Zdb]
   rfl
  ·match i, hi with
   | 0, _ => exact ⟨_, rfl, A0, k0, rfl, u0, w0, by show l0.length <= _; omega, z0⟩
   | 1, _ => exact ⟨_, rfl, A1, k1, rfl, u1, w1, by show l1.length <= _; omega, z1⟩
   | 2, _ => exact ⟨_, rfl, A2, k2, rfl, u2, w2, by show l2.length <= _; omega, z2⟩
   | 3, _ => exact ⟨_, rfl, A3, k3, rfl, u3, w3, by show l3.length <= _; omega, z3⟩
  ·obtain ⟨v, p1, p2⟩ := hR'.ex
   exact ⟨⟨v, by rw [Zbb fun q2 => hun (hG rb q2)]; exact p1, p2⟩, hR'.used⟩
  ·rw [Zbb (fun q2 => by have := (hG c q2).1; rw [hx] at this; cases this)]
   exact hB'.keep _ _ hc hx
end
theorem Zm4 : ZbE Tryz.prog 30 = some [(0, 1), (1, 1), (2, 4)] := by kernel_rfl
structure ZoA where
 ok : Bool
 idx : Nat
 term : Nat
 ls : List (List Int)
 left : Option (List UInt8)
def Zcg (st : Option (List UInt8)) : ZoA :=
 let p := Zbr 1073741824 st
 let q := Zbr 1073741824 p.2
 let c := ZdT 4 q.2
 if c.2.isSome && Zbl p.1 q.1 c.1 then ⟨true, p.1, q.1, c.1, c.2⟩ else ⟨false, 0, 0, [[], [], [], []], c.2⟩
theorem ZkH : TI (.lst none 0 0 []) [] := ⟨none, 0, rfl, ⟨Nat.le_refl _, by unfold maxLen; omega, by simp, fun _ => ⟨rfl, rfl⟩⟩⟩
theorem Zch : ZcJ [.lst none 0 0 [], .lst none 0 0 [], .lst none 0 0 [], .lst none 0 0 []] [[], [], [], []] := ⟨rfl, rfl, fun i hi => match i, hi with
 | 0, _ => ⟨_, rfl, ZkH⟩
 | 1, _ => ⟨_, rfl, ZkH⟩
 | 2, _ => ⟨_, rfl, ZkH⟩
 | 3, _ => ⟨_, rfl, ZkH⟩⟩
theorem ZcJ.four {cs : List AV} {ls : List (List Int)} (h : ZcJ cs ls) : ∃ c0 c1 c2 c3, cs = [c0, c1, c2, c3] /\ ∀ c ∈ cs, c.one = true /\ Zbh c = true /\ c.cells = [c] := by
 obtain ⟨h1, h2, h3⟩ := h
 have hx : ∀ c ∈ cs, c.one = true /\ Zbh c = true /\ c.cells = [c] := fun c hc => by
  obtain ⟨i, hi, rfl⟩ := List.getElem_of_mem hc
  obtain ⟨u, q1, A, c, rfl, _⟩ := h3 i (by omega)
  rw [List.getElem?_eq_getElem hi] at q1
  injection q1 with q1
  rw [q1]
  exact ⟨rfl, rfl, rfl⟩
 match cs, h1 with
 | [a, b, c, d], _ => exact ⟨a, b, c, d, rfl, hx⟩
section
variable {σ : St} {rb : Nat} {st : Option (List UInt8)} {K : AV -> St -> Prop}
set_option maxHeartbeats 1000000 in
theorem Zfc (h : QAt σ rb st) (hK : ∀ cs τ, ZcJ cs (Zcg st).ls -> QAt τ rb (Zcg st).left -> But (fun c => c = rb) σ τ -> K (.tup [.agg (vI (Zcg st).idx :: vI (Zcg st).term :: cs), vT (Zcg st).ok]) τ) : Zan Tryz.prog 27 [ptr rb 0] σ K := by
 refine Zai Zam Tryz.func27 rfl rfl rfl (Nat.le_of_ble_eq_true rfl) ?_
 refine Zbf 0 (v0 := ptr rb 0) rfl ?_
 intro e he
 repeat refine Zab ?_
 first|refine Zaa ?_|refine Zad ?_
 refine Zac (ZaH (cs := [vI 0, vI 0, .lst none 0 0 [], .lst none 0 0 [], .lst none 0 0 [], .lst none 0 0 []]) ZlK rfl fun ob σ1 hon hou hob hobu hX1 => ?_)
 refine Zag ?_
 refine Zaf (kp2 0 2 fun e he => ?_)
 repeat refine Zab ?_
 first|refine Zaa ?_|refine Zad ?_
 refine Zac (ZaH (cs := [vI 0, vI 0, .lst none 0 0 [], .lst none 0 0 [], .lst none 0 0 [], .lst none 0 0 []]) ZlK rfl fun bb σ2 hbn hbu hbb hbbu hX2 => ?_)
 refine Zaf (kp3 0 2 4 fun e he => ?_)
 have hX12 := hX1.trans hX2
 have hob2 := hX2.keep _ _ hob
 have honeb : ob ≠ bb := fun q => by rw [q, hbn] at hob; cases hob
 have horb : ob ≠ rb := fun q => hou (q ▸ h.used)
 have hbrb : bb ≠ rb := fun q => hbu (hX1.used _ (q ▸ h.used))
 have hbbn : σ.blk bb = none := hX1.noneOf hbn
 repeat refine Zab ?_
 first|refine Zaa ?_|refine Zad ?_
 refine Zag ?_
 refine Zao [ptr rb 0, vI (1073741824 : Nat)] ?_
 refine ZbS (h.ext hX12) fun σ3 hR3 k3 => ?_
 generalize hp : Zbr 1073741824 st = p at *
 refine Zac (Zae (b := bb) (o := 0) he.2.2 Zdp rfl ?_)
 refine Zac (ZaI (b := bb) (o := 0 + 0) (v := vI p.1) rfl rfl (k3.keep _ _ hbrb hbb) ZbG ⟨rfl, rfl, rfl⟩ (by simp) fun σ4 hb4 k4 => ?_)
 refine Zaf (kp3 0 2 4 fun e he => ?_)
 have hR4 := hR3.but k4 fun q => hbrb q.symm
 repeat refine Zab ?_
 first|refine Zaa ?_|refine Zad ?_
 refine Zag ?_
 refine Zao [ptr rb 0, vI (1073741824 : Nat)] ?_
 refine ZbS hR4 fun σ5 hR5 k5 => ?_
 generalize hq : Zbr 1073741824 p.2 = q at *
 refine Zac (Zae (b := bb) (o := 0) he.2.2 Zdp rfl ?_)
 refine Zac (ZaI (b := bb) (o := 0 + 1) (v := vI q.1) rfl rfl (k5.keep _ _ hbrb hb4) ZbG ⟨rfl, rfl, rfl⟩ (by simp) fun σ6 hb6 k6 => ?_)
 refine Zaf (kp3 0 2 4 fun e he => ?_)
 have hR6 := hR5.but k6 fun q => hbrb q.symm
 repeat refine Zab ?_
 first|refine Zaa ?_|refine Zad ?_
 refine Zag ?_
 refine Zao [ptr rb 0] ?_
 refine Zfy hR6 fun cs σ7 hcs hR7 k7 => ?_
 generalize hc : ZdT 4 q.2 = c at *
 obtain ⟨c0, c1, c2, c3, rfl, hones⟩ := hcs.four
 have o0 := hones c0 (by simp)
 have o1 := hones c1 (by simp)
 have o2 := hones c2 (by simp)
 have o3 := hones c3 (by simp)
 refine Zac (Zae (b := bb) (o := 0) he.2.2 Zdp rfl ?_)
 refine Zac (ZaB (b := bb) (o := 0 + 2) (cs' := [vI p.1, vI q.1, c0, c1, c2, c3]) (u := .agg [c0, c1, c2, c3]) rfl rfl (k7.keep _ _ hbrb hb6) Zdb (by simp [Zbh, AV.cells, o0.1, o1.1, o2.1, o3.1]) (by simp [ZaR, AV.cells]) fun σ8 hb8 k8 => ?_)
 refine Zaf (kp3 0 2 4 fun e he => ?_)
 have hR8 := hR7.but k8 fun q => hbrb q.symm
 have ho8 : σ8.blk ob = some (.own 30 [vI 0, vI 0, .lst none 0 0 [], .lst none 0 0 [], .lst none 0 0 [], .lst none 0 0 []]) := k8.keep _ _ honeb (k7.keep _ _ horb (k6.keep _ _ honeb (k5.keep _ _ horb (k4.keep _ _ honeb (k3.keep _ _ horb hob2)))))
 have hB8 : But (fun c => c = rb) σ σ8 := (((((hX12.but.trans k3).ext2 (fun b hb => .inr (by rw [hb]; exact hbbn)) k4).trans k5).ext2 (fun b hb => .inr (by rw [hb]; exact hbbn)) k6).trans k7).ext2 (fun b hb => .inr (by rw [hb]; exact hbbn)) k8
 have hbase : Zcg st = if c.2.isSome && Zbl p.1 q.1 c.1 then ⟨true, p.1, q.1, c.1, c.2⟩ else ⟨false, 0, 0, [[], [], [], []], c.2⟩ := by
  unfold Zcg
  rw [hp]
  try dsimp only
  rw [hq]
  try dsimp only
  rw [hc]
 refine Zab (Zce (fun e' υ => (e' 2 = ptr ob 0 /\ e' 4 = ptr bb 0 /\ e' 20 = vT (!(c.2.isSome && Zbl p.1 q.1 c.1))) /\ Ext σ8 υ) ?_ ?_)
 ·refine Zad ?_
  refine Zag ?_
  refine Zao [ptr rb 0] ?_
  refine Zeu hR8 ?_
  refine Zag ?_
  cases hs : c.2 with
  | none =>
   refine Zal ?_
   refine Zal ?_
   refine Zal ?_
   refine Zac (Zaj (v := vT true) rfl rfl ?_)
   refine Zaf ?_
   exact ⟨rfl, ⟨by simp only [EV,Nat.reduceEqDiff,↓reduceIte,he];try rfl, by simp only [EV,Nat.reduceEqDiff,↓reduceIte,he];try rfl, by simp only [EV,Nat.reduceEqDiff,↓reduceIte,he];try rfl⟩, .refl _⟩
  | some l =>
   refine Zau ?_
   refine Zah (b := bb) (o := 0) (r := .agg [vI p.1, vI q.1, c0, c1, c2, c3]) he.2.2 hb8 ZfQ Zd9 rfl ?_
   refine Zau ?_
   refine Zay (vs := [.agg [vI p.1, vI q.1, c0, c1, c2, c3]]) (by simp only [List.map_cons, List.map_nil, EV,Nat.reduceEqDiff,↓reduceIte,he];try rfl) ?_
   refine Zm2 hcs.2.1 hcs.at_ (fun l hl => by
    have := Zhe 4 q.2 l (by rw [hc]; exact hl)
    omega) fun υ hX => ?_
   refine Zau ?_
   refine ZcR (b := Zbl p.1 q.1 c.1) rfl ?_
   refine Zac (Zak (v := vT (!Zbl p.1 q.1 c.1)) rfl rfl ?_)
   refine Zaf ?_
   exact ⟨rfl, ⟨by simp only [EV,Nat.reduceEqDiff,↓reduceIte,he];try rfl, by simp only [EV,Nat.reduceEqDiff,↓reduceIte,he];try rfl, by simp only [EV,Nat.reduceEqDiff,↓reduceIte,he];try rfl⟩, hX⟩
 clear he e
 rintro e υ ⟨he, hX⟩
 refine ZaC (t := !(c.2.isSome && Zbl p.1 q.1 c.1)) he.2.2 (fun ht => ?_) (fun ht => ?_)
 ·have hf : (c.2.isSome && Zbl p.1 q.1 c.1) = false := by simpa only [Bool.not_eq_true'] using ht
  rw [hf, if_neg Bool.false_ne_true] at hbase
  rw [hbase] at hK
  repeat refine Zab ?_
  first|refine Zaa ?_|refine Zad ?_
  refine Zac (Zbj (vs := []) (cells := [vI 0, vI 0, .lst none 0 0 [], .lst none 0 0 [], .lst none 0 0 [], .lst none 0 0 []]) rfl ZlK Zm4 rfl ?_)
  refine Zac (ZaB (b := ob) (o := 0) (cs' := [vI 0, vI 0, .lst none 0 0 [], .lst none 0 0 [], .lst none 0 0 [], .lst none 0 0 []]) (u := .agg [vI 0, vI 0, .lst none 0 0 [], .lst none 0 0 [], .lst none 0 0 [], .lst none 0 0 []]) he.1 rfl (hX.keep _ _ ho8) Zd9 rfl rfl fun τ hbo k => ?_)
  refine Zag ?_
  refine Zaf (kp2 2 3 fun e he => ?_)
  refine ZbB ?_
  refine ⟨_, Zbd rfl (v := .agg [vI 0, vI 0, .lst none 0 0 [], .lst none 0 0 [], .lst none 0 0 [], .lst none 0 0 []]) ?_ (ZaO he.2), hK _ τ Zch ((hR8.ext hX).but k fun q => horb q.symm) ((hB8.trans hX.but).ext2 (fun b hb => .inr (by rw [hb]; exact hon)) k)⟩
  show ZbU _ 30 τ (e 2) = _
  rw [he.1]
  unfold ZbU ptr
  dsimp only
  rw [hbo]
  dsimp only
  rw [ZfQ, Zd9]
  rfl
 ·have hf : (c.2.isSome && Zbl p.1 q.1 c.1) = true := by simpa only [Bool.not_eq_false'] using ht
  rw [hf, if_pos rfl] at hbase
  rw [hbase] at hK
  refine ZaL ?_
  repeat refine Zab ?_
  first|refine Zaa ?_|refine Zad ?_
  refine Zac (Zah (b := bb) (o := 0) (r := .agg [vI p.1, vI q.1, c0, c1, c2, c3]) he.2.1 (hX.keep _ _ hb8) ZfQ Zd9 rfl ?_)
  refine Zac (ZaB (b := ob) (o := 0) (cs' := [vI p.1, vI q.1, c0, c1, c2, c3]) (u := .agg [vI p.1, vI q.1, c0, c1, c2, c3]) he.1 rfl (hX.keep _ _ ho8) Zd9 (by simp [Zbh, AV.cells, o0.1, o1.1, o2.1, o3.1, (rfl : (vI (p.1 : Int)).one = true), (rfl : (vI (q.1 : Int)).one = true)]) (by simp [ZaR, AV.cells]) fun τ hbo k => ?_)
  refine Zag ?_
  refine Zaf (kp2 2 3 fun e he => ?_)
  refine Zap ?_
  refine ⟨_, Zbd rfl (v := .agg [vI p.1, vI q.1, c0, c1, c2, c3]) ?_ (ZaO he.2), hK _ τ hcs ((hR8.ext hX).but k fun q => horb q.symm) ((hB8.trans hX.but).ext2 (fun b hb => .inr (by rw [hb]; exact hon)) k)⟩
  show ZbU _ 30 τ (e 2) = _
  rw [he.1]
  unfold ZbU ptr
  dsimp only
  rw [hbo]
  dsimp only
  rw [ZfQ, Zd9]
  rfl
end
theorem Zsy (s : Option (List UInt8)) : ZdT 4 s = ([(Zc4 s).1, (Zc4 (Zc4 s).2).1, (Zc4 (Zc4 (Zc4 s).2).2).1, (Zc4 (Zc4 (Zc4 (Zc4 s).2).2).2).1], (Zc4 (Zc4 (Zc4 (Zc4 s).2).2).2).2) := rfl
section
variable {σ τ : St} {rb : Nat} {st : Option (List UInt8)} {K : AV -> St -> Prop}
theorem ZfJ.lent {G : Nat -> Prop} (h : ZfJ σ rb st) (hG : ¬ G rb) : ZfJ (Zdq G σ) rb st := by
 obtain ⟨v, h1, h2⟩ := h.ex
 exact ⟨⟨v, by rw [Zbb hG]; exact h1, h2⟩, h.used⟩
theorem But.lent {G U : Nat -> Prop} (h : But U σ τ) (hG : ∀ c, G c -> Za9 σ c) : But U σ (Zdq G τ) := ⟨fun c x hc hx => by
 rw [Zbb (fun q => by have := (hG c q).1; rw [hx] at this; cases this)]
 exact h.keep _ _ hc hx, fun c hc => h.used _ hc⟩
theorem Zfz (h : ZfJ σ rb st) (hK : ∀ a τ, TI a (Zc4 st).1 -> ZfJ τ rb (Zc4 st).2 -> But (fun c => c = rb) σ τ -> K a τ) : Zan Tryz.prog 118 [ptr rb 0] σ K := by
 have hun : ¬ Za9 σ rb := fun q => q.2 h.used
 refine Zan.tell ?_
 refine Zai Zam Tryz.func118 rfl rfl rfl (Nat.le_of_ble_eq_true rfl) ?_
 refine Zbf 0 (v0 := ptr rb 0) rfl ?_
 intro e he
 repeat refine Zab ?_
 first|refine Zaa ?_|refine Zad ?_
 refine Zag ?_
 refine Zaf (kp1 0 fun e he => ?_)
 repeat refine Zab ?_
 first|refine Zaa ?_|refine Zad ?_
 refine Zag ?_
 refine Zao [ptr rb 0, vI (5 : Nat)] ?_
 refine ZcI h fun σ1 hR1 k1 => ?_
 have hn5 : (Zbr 5 st).1 <= 5 := ZcH.1
 have hls : Zc4 st = ZbJ (Zbr 5 st).1 (Zbr 5 st).2 := rfl
 rw [hls] at hK
 generalize Zbr 5 st = q at *
 refine Zag ?_
 refine Zaf (kp2 0 3 fun e he => ?_)
 repeat refine Zab ?_
 first|refine Zaa ?_|refine Zad ?_
 refine Zag ?_
 refine Zaf (kp3 0 3 4 fun e he => ?_)
 refine Zab ?_
 repeat refine Zab ?_
 first|refine Zaa ?_|refine Zad ?_
 refine Zag ?_
 refine Zaf (kp4 0 3 4 5 fun e he => ?_)
 refine ZaF (Za4 (fun μ env υ => ∃ (j : Nat) (v : AV), μ = q.1 - j /\ j <= q.1 /\ (env 0 = ptr rb 0 /\ env 3 = vI q.1 /\ env 4 = v /\ env 5 = vI j) /\ Hd υ 3 1 v (ZbJ j q.2).1.length (vIs (ZbJ j q.2).1) /\ (∀ b, hbk v = some b -> Za9 σ b) /\ ZfJ υ rb (ZbJ j q.2).2 /\ But (fun c => c = rb) σ υ) ⟨_, 0, .lst none 0 0 [], rfl, Nat.zero_le _, he, ⟨rfl, by simp [vIs, ZbJ], .inl ⟨.inl rfl, rfl⟩⟩, (fun b hb => by cases hb), hR1, k1⟩ ?_)
 clear he e
 rintro _ e υ ⟨j, v, rfl, hj, he, hv, hn, hR, hB⟩
 have hnl : (ZbJ j q.2).1.length = j := Zev j q.2
 repeat refine Zab ?_
 first|refine Zaa ?_|refine Zad ?_
 refine Zag ?_
 refine Zag ?_
 refine Zcf j q.1 ?_
 refine Zaf (kp5 0 3 4 5 11 fun e he => ?_)
 refine ZaC (t := decide (j < q.1)) he.2.2.2.2 (fun ht => ?_) (fun ht => ?_)
 ·have hlt : j < q.1 := of_decide_eq_true ht
  refine ZaL (ZaF ?_)
  repeat refine Zab ?_
  first|refine Zaa ?_|refine Zad ?_
  refine Zag ?_
  refine Zao [ptr rb 0, vI (5 : Nat)] ?_
  refine ZcI hR fun σ3 hR3 k3 => ?_
  have hv3 := hv.but k3 fun b hb q2 => hun (q2 ▸ hn b hb)
  refine Zag ?_
  refine Zaf (kp5 0 3 4 5 6 fun e he => ?_)
  refine Zad (Zag ?_)
  refine Zag ?_
  refine Zac (ZaN (vs := [vI (Zbr 5 (ZbJ j q.2).2).1]) (cells := [vI (Zbr 5 (ZbJ j q.2).2).1]) (by simp only [List.map_cons, List.map_nil, EV,Nat.reduceEqDiff,↓reduceIte,he];try rfl) Zco ZbG ZjF rfl (by decide) rfl fun b5 hu5 hb5 => ?_)
  have hX5 := Ext.put (.tail 3 (1 * 1) (1 * 1)) hb5
  refine Zac (ZaZ (m := 1) (r := .lst (some ⟨b5, 0, none⟩) 1 1 ([vI (Zbr 5 (ZbJ j q.2).2).1] ++ [])) (news := [vI (Zbr 5 (ZbJ j q.2).2).1]) (by simp only [EV,Nat.reduceEqDiff,↓reduceIte,he];try rfl) (by simp only [EV,Nat.reduceEqDiff,↓reduceIte,he];try rfl) Zco ZbG ZjF ZqN rfl (by omega) (hv3.ext hX5) (Zcv rfl (fun a ha => by rw [List.mem_singleton.1 ha]; rfl) fun q2 => by cases q2) (by unfold maxLen; omega) (by omega) fun v6 τ6 hv6 hB6 hn6 => ?_)
  refine Zag ?_
  refine Zaf ?_
  show ZaA _ _ _ _ _ _
  refine kp4 0 3 4 5 fun e he => ?_
  refine Zad (Zag ?_)
  refine Zby j 1 ?_
  refine Zag ?_
  refine Zaf ?_
  show ∃ n', n' < _ /\ _
  have hB5 := (hB.trans k3).trans hX5.but
  refine ⟨_, (by omega : q.1 - (j + 1) < q.1 - j), j + 1, v6, rfl, hlt, ⟨by simp only [EV,Nat.reduceEqDiff,↓reduceIte,he];try rfl, by simp only [EV,Nat.reduceEqDiff,↓reduceIte,he];try rfl, by simp only [EV,Nat.reduceEqDiff,↓reduceIte,he];try rfl, by simp only [EV,Nat.reduceEqDiff,↓reduceIte,he];try rfl⟩, ?_, fun b hb => (hn6 b hb).elim (hn b) fun q2 => ⟨hB5.noneOfB (fun b hb => by rw [hb]; exact h.used) q2.2 q2.1, fun q3 => q2.2 (hB5.used _ q3)⟩, (hR3.ext hX5).but hB6 fun q2 => hun (hn rb q2), hB5.ext2 (fun b hb => .inr (hn b hb).1) hB6⟩
  show Hd τ6 3 1 v6 ((ZbJ j q.2).1 ++ [((Zbr 5 (ZbJ j q.2).2).1 : Int)]).length (vIs ((ZbJ j q.2).1 ++ [((Zbr 5 (ZbJ j q.2).2).1 : Int)]))
  rw [List.length_append, show vIs ((ZbJ j q.2).1 ++ [((Zbr 5 (ZbJ j q.2).2).1 : Int)]) = vIs (ZbJ j q.2).1 ++ [vI (Zbr 5 (ZbJ j q.2).2).1] by simp [vIs]]
  exact hv6
 ·have hke : j = q.1 := by have := of_decide_eq_false ht; omega
  rw [hke] at hv hR
  refine Zbu ?_
  show ZaA _ _ _ _ _ _
  repeat refine Zab ?_
  first|refine Zaa ?_|refine Zad ?_
  refine Zag ?_
  refine Zag ?_
  refine Zaf (kp1 2 fun e he => ?_)
  refine Zap ?_
  obtain ⟨A, c, q1, q2, q3, q4⟩ := hv.lends (G := fun b => hbk v = some b) (fun b hb => hb) (.refl (vIs (ZbJ q.1 q.2).1))
  have hl5 : (ZbJ q.1 q.2).1.length <= 5 := by rw [Zev]; exact hn5
  exact ⟨_, Ze1 rfl he, fun b => hbk v = some b, _, q1, hK _ _ ⟨A, c, rfl, ⟨q2, q3, by omega, q4⟩⟩ (hR.lent fun q2 => hun (hn rb q2)) (hB.lent hn)⟩
theorem TI.one {v : AV} {l : List Int} (h : TI v l) : v.one = true /\ Zbh v = true /\ v.cells = [v] := by
 obtain ⟨A, c, rfl, _⟩ := h
 exact ⟨rfl, rfl, rfl⟩
theorem ZhS (h : ZfJ σ rb st) (hK : ∀ cs τ, ZcJ cs (ZdT 4 st).1 -> ZfJ τ rb (ZdT 4 st).2 -> But (fun c => c = rb) σ τ -> K (.agg cs) τ) : Zan Tryz.prog 73 [ptr rb 0] σ K := by
 rw [Zsy] at hK
 refine Zai Zam Tryz.func73 rfl rfl rfl (Nat.le_of_ble_eq_true rfl) ?_
 refine Zbf 0 (v0 := ptr rb 0) rfl ?_
 intro e he
 repeat refine Zab ?_
 first|refine Zaa ?_|refine Zad ?_
 refine Zac (ZaH (cs := [.lst none 0 0 [], .lst none 0 0 [], .lst none 0 0 [], .lst none 0 0 []]) ZpC rfl fun ob σ1 hon hou hob hobu hX1 => ?_)
 refine Zaf (kp2 0 2 fun e he => ?_)
 repeat refine Zab ?_
 first|refine Zaa ?_|refine Zad ?_
 refine Zac (ZaH (cs := [.lst none 0 0 [], .lst none 0 0 [], .lst none 0 0 [], .lst none 0 0 []]) ZpC rfl fun cb σ2 hcn hcu hcb hcbu hX2 => ?_)
 refine Zaf (kp3 0 2 3 fun e he => ?_)
 have hX12 := hX1.trans hX2
 have hob2 := hX2.keep _ _ hob
 have hne : ob ≠ cb := fun q => by rw [q, hcn] at hob; cases hob
 have horb : ob ≠ rb := fun q => hou (q ▸ h.used)
 have hcrb : cb ≠ rb := fun q => hcu (hX1.used _ (q ▸ h.used))
 have hcbn : σ.blk cb = none := hX1.noneOf hcn
 repeat refine Zab ?_
 first|refine Zaa ?_|refine Zad ?_
 refine Zag ?_
 refine Zao [ptr rb 0] ?_
 refine Zfz (h.ext hX12) fun a0 σ3 ha0 hR3 k3 => ?_
 refine Zac (Zae (b := cb) (o := 0) he.2.2 Zcr rfl ?_)
 refine Zac (ZaI (b := cb) (o := 0 + 0) (v := a0) rfl rfl (k3.keep _ _ hcrb hcb) Zb4 ha0.one (by simp) fun σ4 hb4 k4 => ?_)
 refine Zaf (kp3 0 2 3 fun e he => ?_)
 repeat refine Zab ?_
 first|refine Zaa ?_|refine Zad ?_
 refine Zag ?_
 refine Zao [ptr rb 0] ?_
 refine Zfz (hR3.but k4 fun q => hcrb q.symm) fun a1 σ5 ha1 hR5 k5 => ?_
 refine Zac (Zae (b := cb) (o := 0) he.2.2 Zcr rfl ?_)
 refine Zac (ZaI (b := cb) (o := 0 + 1) (v := a1) rfl rfl (k5.keep _ _ hcrb hb4) Zb4 ha1.one (by simp) fun σ6 hb6 k6 => ?_)
 refine Zaf (kp3 0 2 3 fun e he => ?_)
 repeat refine Zab ?_
 first|refine Zaa ?_|refine Zad ?_
 refine Zag ?_
 refine Zao [ptr rb 0] ?_
 refine Zfz (hR5.but k6 fun q => hcrb q.symm) fun a2 σ7 ha2 hR7 k7 => ?_
 refine Zac (Zae (b := cb) (o := 0) he.2.2 Zcr rfl ?_)
 refine Zac (ZaI (b := cb) (o := 0 + 2) (v := a2) rfl rfl (k7.keep _ _ hcrb hb6) Zb4 ha2.one (by simp) fun σ8 hb8 k8 => ?_)
 refine Zaf (kp3 0 2 3 fun e he => ?_)
 repeat refine Zab ?_
 first|refine Zaa ?_|refine Zad ?_
 refine Zag ?_
 refine Zao [ptr rb 0] ?_
 refine Zfz (hR7.but k8 fun q => hcrb q.symm) fun a3 σ9 ha3 hR9 k9 => ?_
 refine Zac (Zae (b := cb) (o := 0) he.2.2 Zcr rfl ?_)
 refine Zac (ZaI (b := cb) (o := 0 + 3) (v := a3) rfl rfl (k9.keep _ _ hcrb hb8) Zb4 ha3.one (by simp) fun σ10 hb10 k10 => ?_)
 refine Zaf (kp2 2 3 fun e he => ?_)
 have hb10 : σ10.blk cb = some (.own 26 [a0, a1, a2, a3]) := hb10
 have ho10 : σ10.blk ob = some (.own 26 [.lst none 0 0 [], .lst none 0 0 [], .lst none 0 0 [], .lst none 0 0 []]) := k10.keep _ _ hne (k9.keep _ _ horb (k8.keep _ _ hne (k7.keep _ _ horb (k6.keep _ _ hne (k5.keep _ _ horb (k4.keep _ _ hne (k3.keep _ _ horb hob2)))))))
 have hB10 : But (fun c => c = rb) σ σ10 := ((((((((hX12.but.trans k3).ext2 (fun b hb => .inr (by rw [hb]; exact hcbn)) k4).trans k5).ext2 (fun b hb => .inr (by rw [hb]; exact hcbn)) k6).trans k7).ext2 (fun b hb => .inr (by rw [hb]; exact hcbn)) k8).trans k9).ext2 (fun b hb => .inr (by rw [hb]; exact hcbn)) k10)
 repeat refine Zab ?_
 first|refine Zaa ?_|refine Zad ?_
 refine Zac (Zah (b := cb) (o := 0) (r := .agg [a0, a1, a2, a3]) he.2 hb10 fa7 Zdb rfl ?_)
 refine Zac (ZaB (b := ob) (o := 0) (cs' := [a0, a1, a2, a3]) (u := .agg [a0, a1, a2, a3]) he.1 rfl ho10 Zdb (by simp [Zbh, AV.cells, ha0.one.1, ha1.one.1, ha2.one.1, ha3.one.1]) (by simp [ZaR, AV.cells]) fun τ hbo k => ?_)
 refine Zaf (kp1 2 fun e he => ?_)
 refine Zap ?_
 refine ⟨.agg [a0, a1, a2, a3], ?_, hK _ τ ⟨rfl, rfl, fun i hi => match i, hi with
  | 0, _ => ⟨_, rfl, ha0⟩
  | 1, _ => ⟨_, rfl, ha1⟩
  | 2, _ => ⟨_, rfl, ha2⟩
  | 3, _ => ⟨_, rfl, ha3⟩⟩ ((hR9.but k10 fun q => hcrb q.symm).but k fun q => horb q.symm) (hB10.ext2 (fun b hb => .inr (by rw [hb]; exact hon)) k)⟩
 show ZbU _ 26 τ (e 2) = _
 rw [he]
 unfold ZbU ptr
 dsimp only
 rw [hbo]
 dsimp only
 rw [fa7, Zdb]
 rfl
end
section
variable {P : Program} {ops : Array Oper} {env : Env} {σ : St} {K : Env -> St -> Prop} {d : Option Nat} {ty : TypeId} {pos : String} {af : Array Edge} {i j : Nat} {want : Bool} {l : List Nat} {op : Op} {lf cf ow : Nat -> Bool}
theorem ZbT (h : Zbc P ops (fun _ => True) lf cf ow l (env.put d (.raw undef)) σ K) (hi : ops[i]? = some ⟨d, op, ty, pos, af, some (j, want)⟩ := by simp only [HIX]; try rfl) (hg : ZaE ops env j = none := by rfl) (how : ow i = false := by rfl) : Zbc P ops (fun _ => True) lf cf ow (i :: l) env σ K := by
 have hw : ¬ Region.wanted ⟨d, op, ty, pos, af, some (j, want)⟩ (ZaE ops env) = true := by simp [Region.wanted, hg]
 unfold Zbc
 rw [hi]
 dsimp only
 unfold ZdL
 rw [how, if_neg Bool.false_ne_true]
 unfold ZeM
 rw [if_neg hw]
 exact h
end
section
variable {σ : St} {K : AV -> St -> Prop}
set_option maxHeartbeats 2000000 in
theorem ZfA {v : AV} {l : List Int} (hv : Ls σ 3 v l.length (vIs l)) (hn : l.length <= 140737488355328) (hK : K (vT (ZbK l)) σ) : Zan Tryz.prog 55 [v] σ K := by
 refine Zai Zam Tryz.func55 rfl rfl rfl (Nat.le_of_ble_eq_true rfl) ?_
 refine Zbf 0 (v0 := v) rfl ?_
 intro e he
 repeat refine Zab ?_
 first|refine Zaa ?_|refine Zad ?_
 refine Zag ?_
 refine Zaf (kp1 0 fun e he => ?_)
 refine Zab ?_
 repeat refine Zab ?_
 first|refine Zaa ?_|refine Zad ?_
 refine Zag ?_
 refine Zaf (kp2 0 3 fun e he => ?_)
 refine ZaF (Za4 (fun μ env υ => σ = υ /\ ∃ i : Nat, μ = l.length - i /\ i <= l.length /\ (env 0 = v /\ env 3 = vI i) /\ ∀ j (h : j < l.length), j < i -> Zcx l j h) ⟨_, rfl, 0, rfl, Nat.zero_le _, he, fun j h q => absurd q (Nat.not_lt_zero j)⟩ ?_)
 clear he e
 rintro _ e _ ⟨rfl, i, rfl, hi, he, hI⟩
 refine Zab ?_
 repeat refine Zab ?_
 first|refine Zaa ?_|refine Zad ?_
 refine Zag ?_
 refine Zag ?_
 refine Zac (ZaP (σ := σ) rfl hv rfl Zco ?_)
 refine Zcf i l.length ?_
 refine Zaf (kp3 0 3 7 fun e he => ?_)
 refine ZaC (t := decide (i < l.length)) he.2.2 (fun ht => ?_) (fun ht => ?_)
 ·have hlt : i < l.length := of_decide_eq_true ht
  refine ZaL (ZaF (Zce (fun e' υ => (e' 0 = v /\ e' 3 = vI i /\ e' 37 = vT (decide (¬ Zcx l i hlt))) /\ σ = υ) ?_ ?_))
  ·refine Zda ?_
   refine ⟨[0, 1, 2, 3, 4, 5, 6, 7, 8, 9, 10, 11, 12, 13, 14, 15, 16, 17, 18, 19, 21, 22, 23, 20, 24, 25, 26, 27], [[], [], [0, 1], [0, 1, 2], [0, 1, 2, 3], [0, 1, 2, 3, 4], [0, 1, 2, 3, 4, 5], [0, 1, 2, 3, 4, 5], [0, 1, 2, 3, 4, 5, 6, 7], [0, 1, 2, 3, 4, 5, 6, 7, 8], [0, 1, 2, 3, 4, 5, 6, 7, 8, 9], [0, 1, 2, 3, 4, 5, 6, 7, 8, 9, 10], [0, 1, 2, 3, 4, 5, 6, 7, 8, 9, 10, 11], [0, 1, 2, 3, 4, 5, 6, 7, 8, 9, 10, 11, 12], [0, 1, 2, 3, 4, 5, 6, 7, 8, 9, 10, 11, 12, 13], [0, 1, 2, 3, 4, 5, 6, 7, 8, 9, 10, 11, 12, 13, 14], [0, 1, 2, 3, 4, 5, 6, 7, 8, 9, 10, 11, 12, 13, 14, 15], [0, 1, 2, 3, 4, 5, 6, 7, 8, 9, 10, 11, 12, 13, 14, 15], [0, 1, 2, 3, 4, 5, 6, 7, 8, 9, 10, 11, 12, 13, 14, 15, 17], [0, 1, 2, 3, 4, 5, 6, 7, 8, 9, 10, 11, 12, 13, 14, 15, 16, 17, 18], [0, 1, 2, 3, 4, 5, 6, 7, 8, 9, 10, 11, 12, 13, 14, 15, 16, 17, 18, 19], [0, 1, 2, 3, 4, 5, 6, 7, 8, 9, 10, 11, 12, 13, 14, 15], [0, 1, 2, 3, 4, 5, 6, 7, 8, 9, 10, 11, 12, 13, 14, 15], [0, 1, 2, 3, 4, 5, 6, 7, 8, 9, 10, 11, 12, 13, 14, 15, 21, 22], [0, 1, 2, 3, 4, 5, 6, 7, 8, 9, 10, 11, 12, 13, 14, 15, 21, 22, 23], [0, 1, 2, 3, 4, 5, 6, 7, 8, 9, 10, 11, 12, 13, 14, 15, 16, 17, 18, 19, 20, 21, 22, 23, 24], [0, 1, 2, 3, 4, 5, 6, 7, 8, 9, 10, 11, 12, 13, 14, 15, 16, 17, 18, 19, 20, 21, 22, 23, 24, 25], [0, 1, 2, 3, 4, 5, 6, 7, 8, 9, 10, 11, 12, 13, 14, 15, 16, 17, 18, 19, 20, 21, 22, 23, 24, 25, 26]], fun _ => True, [], [], [], by kernel_rfl, ?_⟩
   refine Zax ?_
   refine Zax ?_
   refine Zas ?_
   refine Zcp (i := i) (r := vI l[i]) hv hlt (Zc2 hlt) rfl rfl Zco ZbG fa9 fun q hq => ?_
   refine Zaz ?_
   refine Zas ?_
   refine ZbV rfl hq ?_
   refine Zaz ?_
   refine Zas ?_
   refine Zgh (k := .i64) (a := l[i]) (b := 1) rfl rfl ?_
   refine Zaz ?_
   refine Zax ?_
   by_cases h1 : l[i] < 1
   ·rw [decide_eq_true h1]
    refine Zaq ?_
    refine Zaq ?_
    refine Zaq ?_
    refine Zaq ?_
    refine Zaq ?_
    refine Zas ?_
    refine Zaj (v := vT true) rfl rfl ?_
    refine Zaz ?_
    refine Zax ?_
    refine Zaq ?_
    refine Zaq ?_
    refine Zaq ?_
    refine ZbT ?_
    refine ZbT ?_
    refine ZbT ?_
    refine ZbT ?_
    refine ZbT ?_
    refine ZbT ?_
    refine ZbT ?_
    refine ZbT ?_
    refine ZbT ?_
    refine ZbT ?_
    refine Zaq ?_
    refine Zas ?_
    refine Zaj (v := vT true) rfl rfl ?_
    refine Zaz ?_
    refine ZbI ?_
    rw [show decide (¬ Zcx l i hlt) = true from decide_eq_true (fun q => by have := q.1; omega)]
    exact ⟨rfl, ⟨by simp only [EV,Nat.reduceEqDiff,↓reduceIte,he];try rfl, by simp only [EV,Nat.reduceEqDiff,↓reduceIte,he];try rfl, by simp only [EV,Nat.reduceEqDiff,↓reduceIte,he];try rfl⟩, rfl⟩
   ·rw [decide_eq_false h1]
    refine Zax ?_
    refine Zax ?_
    refine Zas ?_
    refine Zcp (i := i) (r := vI l[i]) hv hlt (Zc2 hlt) rfl rfl Zco ZbG fa9 fun q hq => ?_
    refine Zaz ?_
    refine Zas ?_
    refine ZbV rfl hq ?_
    refine Zaz ?_
    refine Zas ?_
    refine Zb3 (k := .i64) (a := l[i]) (b := 5) rfl rfl ?_
    refine Zaz ?_
    refine Zas ?_
    refine Zak (v := vT (decide (5 < l[i]))) rfl rfl ?_
    refine Zaz ?_
    refine Zax ?_
    by_cases h2 : 5 < l[i]
    ·rw [decide_eq_true h2]
     refine Zaq ?_
     refine Zaq ?_
     refine Zaq ?_
     refine ZbT ?_
     refine ZbT ?_
     refine ZbT ?_
     refine ZbT ?_
     refine ZbT ?_
     refine ZbT ?_
     refine ZbT ?_
     refine ZbT ?_
     refine ZbT ?_
     refine ZbT ?_
     refine Zaq ?_
     refine Zas ?_
     refine Zaj (v := vT true) rfl rfl ?_
     refine Zaz ?_
     refine ZbI ?_
     rw [show decide (¬ Zcx l i hlt) = true from decide_eq_true (fun q => by have := q.2.1; omega)]
     exact ⟨rfl, ⟨by simp only [EV,Nat.reduceEqDiff,↓reduceIte,he];try rfl, by simp only [EV,Nat.reduceEqDiff,↓reduceIte,he];try rfl, by simp only [EV,Nat.reduceEqDiff,↓reduceIte,he];try rfl⟩, rfl⟩
    ·rw [decide_eq_false h2]
     refine Zax ?_
     refine Zas ?_
     refine Zb3 (k := .i64) (a := (i : Int)) (b := 0) rfl rfl ?_
     refine Zaz ?_
     refine Zax ?_
     by_cases h3 : 0 < i
     ·rw [decide_eq_true (by omega : (0 : Int) < (i : Int))]
      refine Zax ?_
      refine Zax ?_
      refine Zas ?_
      refine ZnE (k := .i64) (a := (i : Int)) (b := 1) (r := ((i - 1 : Nat) : Int)) rfl rfl (by rw [IntWalk.i64_in _ (by omega)]; omega) ?_
      refine Zaz ?_
      refine Zas ?_
      refine Zcp (i := i - 1) (r := vI l[i - 1]) hv (by omega) (Zc2 (by omega)) rfl rfl Zco ZbG fa9 fun q hq => ?_
      refine Zaz ?_
      refine Zax ?_
      refine Zax ?_
      refine Zas ?_
      refine Zcp (i := i) (r := vI l[i]) hv hlt (Zc2 hlt) rfl rfl Zco ZbG fa9 fun q2 hq2 => ?_
      refine Zaz ?_
      refine Zas ?_
      refine ZbV rfl hq ?_
      refine Zaz ?_
      refine Zas ?_
      refine ZbV rfl hq2 ?_
      refine Zaz ?_
      refine Zas ?_
      refine ZeN (k := .i64) (a := l[i - 1]) (b := l[i]) rfl rfl ?_
      refine Zaz ?_
      refine Zas ?_
      refine Zaj (v := vT (decide (l[i] <= l[i - 1]))) rfl rfl ?_
      refine Zaz ?_
      refine Zas ?_
      refine Zak (v := vT (decide (l[i] <= l[i - 1]))) rfl rfl ?_
      refine Zaz ?_
      refine ZbI ?_
      rw [show decide (¬ Zcx l i hlt) = decide (l[i] <= l[i - 1]) from decide_eq_decide.2 ⟨fun q => Int.not_lt.1 fun q2 => q ⟨by omega, by omega, fun _ => q2⟩, fun q q2 => Int.not_lt.2 q (q2.2.2 h3)⟩]
      exact ⟨rfl, ⟨by simp only [EV,Nat.reduceEqDiff,↓reduceIte,he];try rfl, by simp only [EV,Nat.reduceEqDiff,↓reduceIte,he];try rfl, by simp only [EV,Nat.reduceEqDiff,↓reduceIte,he];try rfl⟩, rfl⟩
     ·rw [decide_eq_false (by omega : ¬ (0 : Int) < (i : Int))]
      refine Zaq ?_
      refine Zaq ?_
      refine Zaq ?_
      refine Zaq ?_
      refine Zaq ?_
      refine Zaq ?_
      refine Zaq ?_
      refine Zaq ?_
      refine Zaq ?_
      refine Zaq ?_
      refine Zas ?_
      refine Zak (v := vT false) rfl rfl ?_
      refine Zaz ?_
      refine Zas ?_
      refine Zak (v := vT false) rfl rfl ?_
      refine Zaz ?_
      refine ZbI ?_
      rw [show decide (¬ Zcx l i hlt) = false from decide_eq_false (fun q => q ⟨by omega, by omega, fun q => absurd q h3⟩)]
      exact ⟨rfl, ⟨by simp only [EV,Nat.reduceEqDiff,↓reduceIte,he];try rfl, by simp only [EV,Nat.reduceEqDiff,↓reduceIte,he];try rfl, by simp only [EV,Nat.reduceEqDiff,↓reduceIte,he];try rfl⟩, rfl⟩
  clear he e
  rintro e _ ⟨he, rfl⟩
  refine ZaQ (t := decide (¬ Zcx l i hlt)) he.2.2 (fun ht => ?_) (fun ht => ?_)
  ·have hbad := of_decide_eq_true ht
   rw [show ZbK l = false from decide_eq_false fun q => hbad (q i hlt)] at hK
   repeat refine Zab ?_
   first|refine Zaa ?_|refine Zad ?_
   refine Zag ?_
   refine Zaf (kp1 2 fun e he => ?_)
   refine ZbB ?_
   exact ZaD (hK)
  ·have hgood : Zcx l i hlt := Decidable.not_not.1 (of_decide_eq_false ht)
   refine Zbm ?_
   show ZaA _ _ _ _ _ _
   refine Zad (Zag ?_)
   refine Zby i 1 ?_
   refine Zag ?_
   refine Zaf ?_
   show ∃ n', n' < _ /\ _
   exact ⟨_, (by omega : l.length - (i + 1) < l.length - i), rfl, i + 1, rfl, hlt, ⟨by simp only [EV,Nat.reduceEqDiff,↓reduceIte,he];try rfl, by simp only [EV,Nat.reduceEqDiff,↓reduceIte,he];try rfl⟩, fun j h q => if hj : j = i then (by subst hj; exact hgood) else hI j h (by omega)⟩
 ·have hke : i = l.length := by have := of_decide_eq_false ht; omega
  subst hke
  rw [show ZbK l = true from decide_eq_true fun j h => hI j h h] at hK
  refine Zbu ?_
  show ZaA _ _ _ _ _ _
  repeat refine Zab ?_
  first|refine Zaa ?_|refine Zad ?_
  refine Zag ?_
  refine Zaf (kp1 2 fun e he => ?_)
  refine Zap ?_
  exact ZaD (hK)
end
end Go.Proofs.YtiienjjhlibopaaGreatDoor
