/- XEo, XLa, XLs in one. -/
import Derived.Test.YtiienjjhlibopaaGreatDoorFacts
import Derived.Test.YtiienjjhlibopaaGreatDoorMam
import Derived.Test.YtiienjjhlibopaaGreatDoorMag
import Derived.Test.YtiienjjhlibopaaGreatDoorMac
import Derived.Test.YtiienjjhlibopaaGreatDoorMab
import Derived.Test.YtiienjjhlibopaaGreatDoorMad
namespace Go.Proofs.YtiienjjhlibopaaGreatDoor
open Go.RowKit
set_option maxRecDepth 100000
set_option linter.unusedVariables false
set_option linter.unusedSimpArgs false
theorem Zqy : Zba Tryz.prog 94 = some (.agg #[.int .i64 0, .int .i64 0, .int .i64 0, .int .i64 0, .slice none 0 0, .slice none 0 0, .slice none 0 0, .slice none 0 0, .slice none 0 0, .pointer none, .string ⟨#[]⟩]) := by kernel_rfl
theorem Zqz : ZbE Tryz.prog 94 = some [(0, 9), (9, 1), (10, 1)] := by kernel_rfl
section
variable {σ : St} {K : AV -> St -> Prop}
theorem ZoP {P : Program} {ops : Array Oper} {d : Option Nat} {ty ty' : TypeId} {pos : String} {af : Array Edge} {env : Env} {σ : St} {K : Env -> St -> Prop} {x y : Operand} {t : TypeId} {a c : List UInt8} (hl : a.length + c.length <= 1000000000) (hx : ev env x = .raw (sV a)) (hy : ev env y = .raw (sV c)) (h : K (env.put d (.raw (sV (a ++ c)))) σ) : aOp P ops ⟨d, .binOp .add t x y ty', ty, pos, af, none⟩ env σ K :=
 ZcP hx hy (fun w _ _ => by
  rw [AV.val_raw, AV.val_raw]
  have hs : (ByteArray.mk a.toArray).size + (ByteArray.mk c.toArray).size <= 9223372036854775807 := by
   show a.toArray.size + c.toArray.size <= (9223372036854775807 : Nat)
   simp only [List.size_toArray]
   omega
  rw [eqGuard_at_string, pure_bind, binOp_string_add, run_string_add_sum w _ _ hs, ByteArray.mk_append_mk]) h
theorem ZqA {i : Nat} (hi : i < 100) (hK : K (.raw (sV (Go.Lib.decDigits i))) σ) : Zan Tryz.prog 79 [vI i] σ K := by
 intro w Z hH hV
 refine .inl ⟨by kernel_rfl, ?_⟩
 refine Calls.mono (Tryz.strconv_Itoa_small i hi w) ?_
 rintro e w' ⟨rfl, rfl⟩
 exact ⟨.raw (sV _), σ, rfl, hK, hH, Zbe _, Grow.refl _ _⟩
def Zbp (g : Nat) : List UInt8 := [106, 111, 117, 114, 110, 97, 108, 46] ++ Go.Lib.decDigits g
theorem Znr {g : Nat} (hg : g <= 4) : (Go.Lib.decDigits g).length = 1 := by
 have : g = 0 \/ g = 1 \/ g = 2 \/ g = 3 \/ g = 4 := by omega
 rcases this with rfl | rfl | rfl | rfl | rfl <;> decide +kernel
theorem Ziz {g : Nat} (hg : g <= 4) : Zbp g ≠ [] /\ (Zbp g).length <= 40 := ⟨by simp [Zbp], by unfold Zbp; rw [List.length_append, Znr hg]; decide⟩
def Za7 : List Fl -> List UInt8 -> List UInt8
 | [], _ => []
 | f :: fs, k => if f.nm = k then f.d else Za7 fs k
theorem Zhp {k : List UInt8} : ∀ {fs : List Fl}, (∀ f ∈ fs, f.nm ≠ k) -> Za7 fs k = []
 | [], _ => rfl
 | f :: fs, h => by
  unfold Za7
  rw [if_neg (h f (List.mem_cons_self ..))]
  exact Zhp fun g hg => h g (List.mem_cons_of_mem _ hg)
theorem Zff {k : List UInt8} : ∀ {fs : List Fl} {f0 : Fl}, (fs.map (·.nm)).Nodup -> f0 ∈ fs -> f0.nm = k -> Za7 fs k = f0.d
 | f :: fs, f0, hn, h, hk => by
  unfold Za7
  rcases List.mem_cons.1 h with rfl | h
  ·rw [if_pos hk]
  ·simp only [List.map_cons, List.nodup_cons] at hn
   rw [if_neg (fun q => hn.1 (by rw [q, <- hk]; exact List.mem_map_of_mem h))]
   exact Zff hn.2 h hk
theorem ZfF {k : List UInt8} {m : Nat} : ∀ {fs : List Fl}, (∀ f ∈ fs, f.d.length <= m) -> (Za7 fs k).length <= m
 | [], _ => Nat.zero_le _
 | f :: fs, h => by
  unfold Za7
  split
  ·exact h f (List.mem_cons_self ..)
  ·exact ZfF fun g hg => h g (List.mem_cons_of_mem _ hg)
section
variable {bb mb : Nat} {S : Nat -> Prop} {fs : List Fl} {pcs : List (Nat × Nat)} {size : Int} {pv : AV}
theorem Zns (h : DAt σ bb S fs pcs size mb pv) {k : List UInt8} (hfl : ∀ f ∈ fs, f.d.length <= 1000000000) (hK : ∀ (b : Bool) τ v, TB v (Za7 fs k) -> Ext σ τ -> K (.tup [v, vT b]) τ) : Zan Tryz.prog 80 [ptr bb 0, .raw (sV k)] σ K := by
 refine Zan.tell (Zqj h hfl (fun hn => ⟨fun _ => False, _, Zc0.refl _, hK false _ _ (by rw [Zhp hn]; exact ZdQ) (ZcN (.refl _) fun _ q => q.elim)⟩) fun f0 hf0 hk τ v q1 q2 q3 => ?_)
 obtain ⟨A, c, m, u, w, z⟩ := q1.lends (G := fun b => hbk v = some b) (fun b hb => hb) (.refl _)
 refine ⟨fun b => hbk v = some b, .tup [.lst A f0.d.length c (bys f0.d), vT true], Zc0.tup ⟨m, .refl _, trivial⟩, hK true _ _ ?_ (ZcN q2 q3)⟩
 have := hfl f0 hf0
 rw [Zff h.nn hf0 hk]
 exact ⟨A, c, [], by rw [List.append_nil], u, w, by omega, z⟩
def ZsC (fs : List Fl) (pcs : List (Nat × Nat)) (k : List UInt8) (n : Nat) (fs' : List Fl) (pcs' : List (Nat × Nat)) : Prop :=
 (((∀ f ∈ fs, f.nm ≠ k) \/ (Za7 fs k).length < n) /\ fs' = fs /\ pcs' = pcs) \/ ∃ f0 ∈ fs, f0.nm = k /\ n <= f0.d.length /\ ∃ v', fs' = fs.map (ZcA f0.b v' (f0.d.take n)) /\ pcs' = (shr f0.b (f0.d.length - n) pcs).filter fun p => !decide (p.2 = 0)
theorem ZqB (h : DAt σ bb S fs pcs size mb pv) (hS : ∀ c, S c -> σ.used c) (hl : pcs.length <= 1000000000) (hs : ∀ p ∈ pcs, p.2 <= 1000000000) (hfl : ∀ f ∈ fs, f.d.length <= 1000000000) {k : List UInt8} {n : Nat}
 (hK : ∀ (r : Int) τ fs' pcs' pv', ZsC fs pcs k n fs' pcs' -> DAt τ bb S fs' pcs' size mb pv' -> But S σ τ -> K (vI r) τ) : Zan Tryz.prog 82 [ptr bb 0, .raw (sV k), vI n] σ K := by
 refine ZrM h hS hl hs hfl (fun h1 τ hX => hK _ _ _ _ _ (.inl ⟨.inl h1, rfl, rfl⟩) (h.ext hX) hX.but) (fun f0 hf hk hn τ hX => hK _ _ _ _ _ (.inl ⟨.inr (by rw [Zff h.nn hf hk]; omega), rfl, rfl⟩) (h.ext hX) hX.but) fun f0 hf hk h0 hn τ v' pv' h1 h2 => ?_
 rw [Int.toNat_natCast] at h1
 exact hK _ _ _ _ _ (.inr ⟨f0, hf, hk, by omega, v', rfl, rfl⟩) h1 h2
end
theorem FrT.lz {x : AV} {fs : List Fr} (h : FrT x fs) : ∃ us, Lz σ 136 2 x fs.length (frC fs us) /\ TBs us (fs.map (·.2)) /\ ∀ a ∈ us, a.one = true := by
 obtain ⟨A, c, us, rfl, hL, hT⟩ := h
 have hl : us.length = fs.length := by have := hT.1; simpa using this
 have h1 : ∀ a ∈ us, a.one = true := fun a ha => by
  obtain ⟨i, hi, rfl⟩ := List.getElem_of_mem ha
  obtain ⟨u, q1, q2⟩ := hT.2 i ((fs.map (·.2))[i]'(by simpa [hl] using hi)) (List.getElem?_eq_getElem _)
  rw [List.getElem?_eq_getElem hi] at q1
  injection q1 with q1
  rw [q1]
  exact q2.one.1
 have h2 : ∀ (fs : List Fr) (us : List AV), (∀ a ∈ us, a.one = true) -> ∀ a ∈ frC fs us, a.one = true := fun fs => by
  induction fs with
  | nil => intro us _ a ha; simp [frC] at ha
  | cons f fs ih =>
   intro us hu a ha
   cases us with
   | nil => simp [frC] at ha
   | cons u us =>
    unfold frC at ha
    rcases List.mem_cons.1 ha with rfl | ha
    ·rfl
    rcases List.mem_cons.1 ha with rfl | ha
    ·exact hu _ (List.mem_cons_self ..)
    ·exact ih us (fun a h => hu a (List.mem_cons_of_mem _ h)) a ha
 exact ⟨us, ⟨Zm0 fs us hl, h2 fs us h1, .inl ⟨A, c, [], by rw [List.append_nil], fun q => (hL.none q).1⟩⟩, hT, h1⟩
def Zgl (s : JSt) : List Fr -> Option JSt
 | [] => some s
 | f :: l => (Zc5 s f.1 f.2).bind fun s2 => Zgl s2 l
theorem Zhq (s : JSt) (l m : List Fr) : Zgl s (l ++ m) = (Zgl s l).bind fun s2 => Zgl s2 m := by
 induction l generalizing s with
 | nil => rfl
 | cons f l ih =>
  show (Zc5 s f.1 f.2).bind (fun s2 => Zgl s2 (l ++ m)) = ((Zc5 s f.1 f.2).bind fun s2 => Zgl s2 l).bind _
  cases Zc5 s f.1 f.2 with
  | none => rfl
  | some s2 => exact ih s2
abbrev Zhr : JSt := ⟨0, 0, 0, 0, [[], [], [], []], []⟩
def Zka (l : List Fr) : Nat := (l.map fun f => f.2.length).sum
theorem ZlI (l : List Fr) : Zka l <= (codes l).length := by
 induction l with
 | nil => exact Nat.zero_le _
 | cons f l ih =>
  unfold Zka codes at *
  simp only [List.map_cons, List.sum_cons, List.flatten_cons, List.length_append] at *
  have : (code f).length = 9 + f.2.length := Zdj f
  omega
theorem Znt (l : List Fr) : l.length <= (codes l).length := by
 induction l with
 | nil => exact Nat.zero_le _
 | cons f l ih =>
  unfold codes at *
  simp only [List.map_cons, List.flatten_cons, List.length_append, List.length_cons] at *
  have : (code f).length = 9 + f.2.length := Zdj f
  omega
theorem ZoQ (b : List UInt8) : (ZaV b).1.length <= b.length := by
 have h := Zjf b.length b (Nat.le_refl _)
 have h1 := Znt (ZaV b).1
 rw [h.2.1, List.length_take] at h1
 omega
theorem Zjt (l : List Fr) (i : Nat) (h : i < l.length) : Zka (l.take (i + 1)) = Zka (l.take i) + l[i].2.length := by
 unfold Zka
 rw [List.take_succ_eq_append_getElem h, List.map_append, List.sum_append]
 simp
theorem ZqC (l : List Fr) (i : Nat) : Zka (l.take i) <= Zka l := by
 have h : Zka l = Zka (l.take i) + Zka (l.drop i) := by unfold Zka; rw [<- List.sum_append, <- List.map_append, List.take_append_drop]
 omega
theorem Zk1 (b : List UInt8) (i : Nat) : Zka ((ZaV b).1.take i) <= b.length := by
 have h := Zjf b.length b (Nat.le_refl _)
 have h1 := ZlI (ZaV b).1
 have h2 := ZqC (ZaV b).1 i
 rw [h.2.1, List.length_take] at h1
 omega
set_option maxHeartbeats 2000000 in
theorem ZqD {S : Nat -> Prop} {bb mb g : Nat} {fs : List Fl} {pcs : List (Nat × Nat)} {size : Int} {pv : AV} (hD : DAt σ bb S fs pcs size mb pv) (hSu : ∀ c, S c -> σ.used c) (hl : pcs.length <= 1000000000) (hs : ∀ p ∈ pcs, p.2 <= 1000000000) (hfl : ∀ f ∈ fs, f.d.length <= 100000000) (hg : g <= 4) (hK9 : Zgl Zhr (ZaV (Za7 fs (Zbp g))).1 = none -> ∀ τ fs2 pcs2 pv2, DAt τ bb S fs2 pcs2 size mb pv2 -> ZsC fs pcs (Zbp g) (ZaV (Za7 fs (Zbp g))).2 fs2 pcs2 -> But S σ τ -> K (.tup [.raw (.pointer none), vI 9]) τ) (hK0 : ∀ s, Zgl Zhr (ZaV (Za7 fs (Zbp g))).1 = some s -> JOk s (Zka (ZaV (Za7 fs (Zbp g))).1) -> ∀ τ jb fs2 pcs2 pv2, DAt τ bb S fs2 pcs2 size mb pv2 -> ZsC fs pcs (Zbp g) (ZaV (Za7 fs (Zbp g))).2 fs2 pcs2 -> JAt τ jb s bb (Zbp g) -> Za9 σ jb -> But S σ τ -> K (.tup [ptr jb 0, vI 0]) τ) : Zan Tryz.prog 36 [ptr bb 0, vI ((g : Nat) : Int)] σ K := by
 have hSu0 := hSu
 have kB : But S σ σ := .refl _ _
 refine Zai Zam Tryz.func36 rfl rfl rfl (Nat.le_of_ble_eq_true rfl) ?_
 refine ZbL 0 1 (v0 := ptr bb 0) (v1 := vI ((g : Nat) : Int)) rfl rfl ?_
 intro e he
 refine Zaa (Zag ?_)
 refine Zag ?_
 refine Zaf (kp2 0 1 ?_)
 clear he e
 intro e he
 refine ZaF (Zaa (Zag ?_))
 refine Zac (Zdw (p := some ⟨bb, 0, none⟩) fa2 rfl rfl rfl ?_)
 refine Zag ?_
 refine Zaf (kp3 0 1 15 ?_)
 clear he e
 intro e he
 refine ZaQ (t := false) he.2.2 (fun ht => by cases ht) (fun ht => ?_)
 refine Zaa (Zag ?_)
 refine Zao [vI ((g : Nat) : Int), vI 4] ?_
 refine Zdk (x := ((g : Nat) : Int)) (m := 4) ?_
 rw [decide_eq_true (by omega : 0 <= ((g : Nat) : Int) /\ ((g : Nat) : Int) <= 4)]
 refine ZcU ?_
 refine Zag ?_
 refine Zaf (kp3 0 1 18 ?_)
 clear he e
 intro e he
 refine ZaQ (t := false) he.2.2 (fun ht => by cases ht) (fun ht => ?_)
 refine Zbm ?_
 show ZaA _ _ _ _ _ _
 refine Zaa (Zag ?_)
 refine Zag ?_
 refine Zao [vI ((g : Nat) : Int)] ?_
 refine ZqA (by omega) ?_
 refine Zac (ZoP (a := [106, 111, 117, 114, 110, 97, 108, 46]) (c := Go.Lib.decDigits g) (by rw [Znr hg]; decide) rfl rfl ?_)
 refine Zac (Zbj (vs := [ptr bb 0, .raw (sV (Zbp g))]) (cells := [vI 0, vI 0, vI 0, vI 0, .lst none 0 0 [], .lst none 0 0 [], .lst none 0 0 [], .lst none 0 0 [], .lst none 0 0 [], ptr bb 0, .raw (sV (Zbp g))]) (by simp only [List.map_cons, List.map_nil, EV,Nat.reduceEqDiff,↓reduceIte,he];try rfl) Zqy Zqz rfl ?_)
 refine Zac (Zbn (cs := [vI 0, vI 0, vI 0, vI 0, .lst none 0 0 [], .lst none 0 0 [], .lst none 0 0 [], .lst none 0 0 [], .lst none 0 0 [], ptr bb 0, .raw (sV (Zbp g))]) (v := .agg [vI 0, vI 0, vI 0, vI 0, .lst none 0 0 [], .lst none 0 0 [], .lst none 0 0 [], .lst none 0 0 [], .lst none 0 0 [], ptr bb 0, .raw (sV (Zbp g))]) rfl rfl fun b1 υ2 hn3 hu4 hb5 hv6 hX7 => ?_)
 have nS8 : ¬ S b1 := fun q => hu4 (hSu _ q)
 have z9 : Za9 σ b1 := ⟨kB.noneOfB hSu0 hu4 hn3, fun q => hu4 (kB.used _ q)⟩
 have hD := hD.ext hX7
 have hSu := fun c hc => hX7.used _ (hSu c hc)
 have kB := kB.trans (Ext.but hX7)
 refine Zag ?_
 refine Zaf (kp2 0 6 ?_)
 clear he e
 intro e he
 refine Zaa (Zag ?_)
 refine Zem (b := b1) (r := .raw (sV (Zbp g))) he.2 Zl2 rfl hb5 rfl Zq9 Zo2 fun u1 u2 u3 => ?_
 refine Zao [ptr bb 0, .raw (sV (Zbp g))] ?_
 refine Zns hD (fun f hf => Nat.le_trans (hfl f hf) (by omega)) fun bo10 τ11 v12 h13 hX14 => ?_
 have hb5 := hX14.keep _ _ hb5
 have hv6 := hX14.used _ hv6
 have hD := hD.ext hX14
 have hSu := fun c hc => hX14.used _ (hSu c hc)
 have kB := kB.trans (Ext.but hX14)
 refine Zag ?_
 refine Zac (Zaw (l := [v12, vT bo10]) (r := v12) rfl rfl ?_)
 refine Zac (Zaw (l := [v12, vT bo10]) (r := vT bo10) rfl rfl ?_)
 refine Zag ?_
 refine Zag ?_
 refine Zaf (kp3 0 6 7 ?_)
 clear he e
 intro e he
 refine Zaa (Zag ?_)
 refine Zao [v12] ?_
 refine ZrC h13 (ZfF hfl) fun x15 τ16 hF17 hX18 => ?_
 have hb5 := hX18.keep _ _ hb5
 have hv6 := hX18.used _ hv6
 have hD := hD.ext hX18
 have hSu := fun c hc => hX18.used _ (hSu c hc)
 have kB := kB.trans (Ext.but hX18)
 refine Zag ?_
 refine Zac (Zaw (l := [x15, vI (((ZaV (Za7 fs (Zbp g))).2 : Nat) : Int)]) (r := x15) rfl rfl ?_)
 refine Zac (Zaw (l := [x15, vI (((ZaV (Za7 fs (Zbp g))).2 : Nat) : Int)]) (r := vI (((ZaV (Za7 fs (Zbp g))).2 : Nat) : Int)) rfl rfl ?_)
 refine Zag ?_
 refine Zag ?_
 refine Zaf (kp4 0 6 9 10 ?_)
 clear he e
 intro e he
 refine Zaa (Zag ?_)
 refine Zem (b := b1) (r := .raw (sV (Zbp g))) he.2.1 Zl2 rfl hb5 rfl Zq9 Zo2 fun u1 u2 u3 => ?_
 refine Zag ?_
 refine Zao [ptr bb 0, .raw (sV (Zbp g)), vI (((ZaV (Za7 fs (Zbp g))).2 : Nat) : Int)] ?_
 refine ZqB hD hSu hl hs (fun f hf => Nat.le_trans (hfl f hf) (by omega)) fun r19 τ20 fs21 pcs22 pv23 hC24 hd25 k26 => ?_
 have hb5 := k26.keep _ _ nS8 hb5
 have hv6 := k26.used _ hv6
 have hSu : ∀ c, S c -> τ20.used c := fun c hc => k26.used _ (hSu c hc)
 have kB := kB.trans k26
 have hD := hd25
 refine Zaf (kp2 6 9 ?_)
 clear he e
 intro e he
 refine Zab (Zaa (Zag ?_))
 refine Zac ?_
 obtain ⟨us, hZ, hT, hU⟩ := hF17.lz (σ := τ20)
 refine Zea rfl hZ rfl ZpB ?_
 refine Zag ?_
 refine Zaf (kp4 6 49 50 51 ?_)
 clear he e
 intro e he
 refine ZaF (Za4 (fun μ env υ => ∃ (i : Nat) (s : JSt) (pw : AV), μ = (ZaV (Za7 fs (Zbp g))).1.length - i /\ (env 6 = ptr b1 0 /\ env 49 = x15 /\ env 50 = vI (((ZaV (Za7 fs (Zbp g))).1.length : Nat) : Int) /\ env 51 = vI ((i : Nat) : Int)) /\ i <= (ZaV (Za7 fs (Zbp g))).1.length /\ Zgl Zhr ((ZaV (Za7 fs (Zbp g))).1.take i) = some s /\ JOk s (Zka ((ZaV (Za7 fs (Zbp g))).1.take i)) /\ JAt υ b1 s bb (Zbp g) /\ DAt υ bb S fs21 pcs22 size mb pw /\ (∀ c, S c -> υ.used c) /\ But S σ υ) ⟨_, 0, Zhr, _, rfl, ⟨by simp only [EV,Nat.reduceEqDiff,↓reduceIte,he];try rfl, by simp only [EV,Nat.reduceEqDiff,↓reduceIte,he];try rfl, by simp only [EV,Nat.reduceEqDiff,↓reduceIte,he];try rfl, by simp only [EV,Nat.reduceEqDiff,↓reduceIte,he];try rfl⟩, Nat.zero_le _, rfl, ⟨⟨Int.le_refl _, by decide⟩, Nat.zero_le _, (fun e h => by cases h), (by intro l hl; simp only [List.mem_cons, List.not_mem_nil, or_false] at hl; rcases hl with rfl | rfl | rfl | rfl <;> exact Nat.zero_le _)⟩, ⟨⟨[vI 0, vI 0, vI 0, vI 0, .lst none 0 0 [], .lst none 0 0 [], .lst none 0 0 [], .lst none 0 0 [], .lst none 0 0 []], hb5, ⟨_, _, _, _, _, rfl, Zch, Zd5⟩⟩, hv6⟩, hD, hSu, kB⟩ ?_)
 clear he e
 rintro _ e υ27 ⟨i, s, pw, rfl, he, p1, p2, pO, pJ, hD, hSu, kB⟩
 have pJ0 := pJ
 obtain ⟨cs, hj, a0, a1, a2, a3, v, rfl, hC, hE⟩ := pJ0.ex
 have huj := pJ0.used
 obtain ⟨_, _, _, _, _, z0, z1, z2, z3⟩ := hC.tis
 refine Zaa (Zac (ZiX i ((ZaV (Za7 fs (Zbp g))).1.length) he.2.2.2 he.2.2.1 ?_))
 refine Zaf (kp5 6 49 50 51 52 ?_)
 clear he e
 intro e he
 refine ZaC (t := decide (i < (ZaV (Za7 fs (Zbp g))).1.length)) he.2.2.2.2 (fun ht52 => ?_) (fun ht52 => ?_)
 ·have bht52 := ht52
  have ht52 := of_decide_eq_true bht52
  refine ZaL (ZaF (Zaa ?_))
  have hlt : i < (ZaV (Za7 fs (Zbp g))).1.length := by omega
  have hn9 := ZoQ (Za7 fs (Zbp g))
  have hn8 : (Za7 fs (Zbp g)).length <= 100000000 := ZfF hfl
  obtain ⟨us, hZ, hT, hU⟩ := hF17.lz (σ := υ27)
  have hul : us.length = (ZaV (Za7 fs (Zbp g))).1.length := by have := hT.1; simpa using this
  obtain ⟨u, hu1, hu2⟩ := hT.2 i ((ZaV (Za7 fs (Zbp g))).1[i]).2 (by rw [List.getElem?_map, List.getElem?_eq_getElem hlt]; rfl)
  refine Zac (Zir (i := i) (r := [vI ((ZaV (Za7 fs (Zbp g))).1[i]).1, u]) hZ hlt (by rw [Zm1 _ _ _ _ _ hul (List.getElem?_eq_getElem hlt) hu1]; rfl) he.2.1 he.2.2.2.1 ZpB Ze2 fun q28 hq29 => ?_)
  refine Zac (Zis (v := .agg [vI (((ZaV (Za7 fs (Zbp g))).1[i]).1), u]) hq29 rfl fa3 Ze2 rfl ?_)
  refine Zac (ZaH (cs := [vI 0, .lst none 0 0 []]) ZiC rfl fun b30 υ31 hn32 hu33 hb34 hv35 hX36 => ?_)
  have ne37 := Zat hj hn32
  have nS38 : ¬ S b30 := fun q => hu33 (hSu _ q)
  have z39 : Za9 σ b30 := ⟨kB.noneOfB hSu0 hu33 hn32, fun q => hu33 (kB.used _ q)⟩
  have hj := hX36.keep _ _ hj
  have huj := hX36.used _ huj
  have hD := hD.ext hX36
  have hSu := fun c hc => hX36.used _ (hSu c hc)
  have kB := kB.trans (Ext.but hX36)
  refine Zac (ZaB (b := b30) (o := 0) (u := .agg [vI (((ZaV (Za7 fs (Zbp g))).1[i]).1), u]) (cs' := [vI (((ZaV (Za7 fs (Zbp g))).1[i]).1), u]) rfl rfl hb34 Ze2 (by obtain ⟨_, _, _, rfl, _⟩ := hu2 <;> rfl) rfl fun υ40 hb34 k41 => ?_)
  have hj := k41.keep _ _ (Ne.symm ne37) hj
  have huj := k41.used _ huj
  have hD := hD.but k41 (fun c hc q => nS38 (q ▸ hc))
  have hSu := fun c hc => k41.used _ (hSu c hc)
  have kB := But.ext2 kB (fun g hg => .inr (by rw [hg]; exact z39.1)) k41
  refine Zaf (kp5 6 12 49 50 51 ?_)
  clear he e
  intro e he
  refine Zbt ?_
  refine ⟨[0, 1, 2, 3, 4, 5, 6, 7, 8, 9, 10, 11], [[], [0], [0, 1], [0, 1, 2], [], [0, 1, 2, 3, 4], [0, 1, 2, 3, 4, 5], [0, 1, 2, 3, 4, 5, 6], [0, 1, 2, 3, 4, 5, 6], [], [0, 1, 2, 3, 4, 5, 6, 7, 9], [0, 1, 2, 3, 4, 5, 6, 7, 8, 9, 10]], fun _ => True, [], [], [], by kernel_rfl, ?_⟩
  refine Zax ?_
  refine Zas ?_
  refine Zav (v := ptr b1 0) rfl rfl ?_
  refine Zaz ?_
  refine Zas ?_
  refine Zae (b := b1) (o := 0) rfl Zl2 rfl ?_
  refine Zaz ?_
  refine Zas ?_
  refine Zah (b := b1) (o := 0 + 0) (r := .agg [vI s.term, vI s.vote, vI s.bi, vI s.bt, a0, a1, a2, a3, v]) rfl hj Zle Zlf rfl ?_
  refine Zaz ?_
  refine Zas ?_
  refine Zah (b := b30) (o := 0) (r := .agg [vI (((ZaV (Za7 fs (Zbp g))).1[i]).1), u]) he.2.1 hb34 fa3 Ze2 rfl ?_
  refine Zaz ?_
  refine Zas ?_
  refine Zay (vs := [.agg [vI s.term, vI s.vote, vI s.bi, vI s.bt, a0, a1, a2, a3, v], .agg [vI (((ZaV (Za7 fs (Zbp g))).1[i]).1), u]]) (by simp only [List.map_cons, List.map_nil, EV,Nat.reduceEqDiff,↓reduceIte,he];try rfl) ?_
  have hb9 : (Za7 fs (Zbp g)).length <= 100000000 := ZfF hfl
  have hb8 := Zk1 (Za7 fs (Zbp g)) i
  have hb7 := Zk1 (Za7 fs (Zbp g)) (i + 1)
  rw [Zjt _ _ hlt] at hb7
  refine Ziy (d := ((ZaV (Za7 fs (Zbp g))).1[i]).2) (⟨_, _, _, _, _, rfl, hC, hE⟩ : JT _ s) pO (by omega) (fun τ _ => hu2.at_) (by omega) (fun s42 cs43 τ44 hst45 hJ46 hX47 => ?_) (fun s42 cs43 τ44 hst45 hJ46 hX47 => ?_)
  ·refine ⟨fun _ => hX47, ?_⟩
   have hj := hX47.keep _ _ hj
   have huj := hX47.used _ huj
   have hD := hD.ext hX47
   have hSu := fun c hc => hX47.used _ (hSu c hc)
   have kB := kB.trans (Ext.but hX47)
   obtain ⟨q48_0, q48_1, q48_2, q48_3, q48_v, rfl, q48_C, q48_E⟩ := hJ46
   obtain ⟨_, _, _, _, _, q48_z0, q48_z1, q48_z2, q48_z3⟩ := q48_C.tis
   refine Zax ?_
   refine Zas ?_
   refine Zaw (l := [.agg [vI s42.term, vI s42.vote, vI s42.bi, vI s42.bt, q48_0, q48_1, q48_2, q48_3, q48_v], vT true]) (r := .agg [vI s42.term, vI s42.vote, vI s42.bi, vI s42.bt, q48_0, q48_1, q48_2, q48_3, q48_v]) rfl rfl ?_
   refine Zaz ?_
   refine Zas ?_
   refine Zaw (l := [.agg [vI s42.term, vI s42.vote, vI s42.bi, vI s42.bt, q48_0, q48_1, q48_2, q48_3, q48_v], vT true]) (r := vT true) rfl rfl ?_
   refine Zaz ?_
   refine Zas ?_
   refine ZaH (cs := [vI 0, vI 0, vI 0, vI 0, .lst none 0 0 [], .lst none 0 0 [], .lst none 0 0 [], .lst none 0 0 [], .lst none 0 0 []]) Zgq rfl fun b49 υ50 hn51 hu52 hb53 hv54 hX55 => ?_
   refine ⟨fun q => (by cases q), ?_⟩
   have ne56 := Zat hj hn51
   have nS58 : ¬ S b49 := fun q => hu52 (hSu _ q)
   have z59 : Za9 σ b49 := ⟨kB.noneOfB hSu0 hu52 hn51, fun q => hu52 (kB.used _ q)⟩
   have hj := hX55.keep _ _ hj
   have huj := hX55.used _ huj
   have hD := hD.ext hX55
   have hSu := fun c hc => hX55.used _ (hSu c hc)
   have kB := kB.trans (Ext.but hX55)
   refine Zas ?_
   refine ZaB (b := b49) (o := 0) (u := .agg [vI s42.term, vI s42.vote, vI s42.bi, vI s42.bt, q48_0, q48_1, q48_2, q48_3, q48_v]) (cs' := [vI s42.term, vI s42.vote, vI s42.bi, vI s42.bt, q48_0, q48_1, q48_2, q48_3, q48_v]) rfl rfl hb53 Zdx (by obtain ⟨_, _, rfl, _⟩ := q48_z0 <;> obtain ⟨_, _, rfl, _⟩ := q48_z1 <;> obtain ⟨_, _, rfl, _⟩ := q48_z2 <;> obtain ⟨_, _, rfl, _⟩ := q48_z3 <;> obtain ⟨_, _, _, _, rfl, _⟩ := q48_E <;> rfl) rfl fun υ60 hb53 k61 => ?_
   refine ⟨fun q => (by cases q), ?_⟩
   have hj := k61.keep _ _ (Ne.symm ne56) hj
   have huj := k61.used _ huj
   have hD := hD.but k61 (fun c hc q => nS58 (q ▸ hc))
   have hSu := fun c hc => k61.used _ (hSu c hc)
   have kB := But.ext2 kB (fun g hg => .inr (by rw [hg]; exact z59.1)) k61
   refine Zax ?_
   refine ZbI (kp6 6 13 14 49 50 51 ?_)
   clear he e
   intro e he
   refine Zab (Zaa (Zag ?_))
   refine ZcU ?_
   refine Zaf (kp6 6 13 49 50 51 65 ?_)
   clear he e
   intro e he
   refine ZaC (t := false) he.2.2.2.2.2 (fun ht => by cases ht) (fun ht => ?_)
   refine ZaL (Zad (Zag ?_))
   refine Zac (Zah (b := b49) (o := 0) (r := .agg [vI s42.term, vI s42.vote, vI s42.bi, vI s42.bt, q48_0, q48_1, q48_2, q48_3, q48_v]) he.2.1 hb53 Zhy Zdx rfl ?_)
   refine ZdP (b := b1) rfl Zl2 rfl fun u1 => ?_
   refine Zac (Zae (b := b1) (o := 0 + 0) rfl Zo3 rfl ?_)
   refine Zac (ZaB (b := b1) (o := 0 + 0 + 0) (u := .agg [vI s42.term, vI s42.vote, vI s42.bi, vI s42.bt, q48_0, q48_1, q48_2, q48_3, q48_v]) (cs' := [vI s42.term, vI s42.vote, vI s42.bi, vI s42.bt, q48_0, q48_1, q48_2, q48_3, q48_v, ptr bb 0, .raw (sV (Zbp g))]) rfl rfl hj Zdx (by obtain ⟨_, _, rfl, _⟩ := q48_z0 <;> obtain ⟨_, _, rfl, _⟩ := q48_z1 <;> obtain ⟨_, _, rfl, _⟩ := q48_z2 <;> obtain ⟨_, _, rfl, _⟩ := q48_z3 <;> obtain ⟨_, _, _, _, rfl, _⟩ := q48_E <;> rfl) rfl fun υ62 hj k63 => ?_)
   have huj := k63.used _ huj
   have hD := hD.but k63 (fun c hc q => nS8 (q ▸ hc))
   have hSu := fun c hc => k63.used _ (hSu c hc)
   have kB := But.ext2 kB (fun g hg => .inr (by rw [hg]; exact z9.1)) k63
   refine Zaf ?_
   show ZaA _ _ _ _ _ _
   refine kp4 6 49 50 51 ?_
   clear he e
   intro e he
   refine Zad (Zby i 1 ?_)
   refine Zag ?_
   refine Zaf ?_
   have hfo : Zgl Zhr ((ZaV (Za7 fs (Zbp g))).1.take (i + 1)) = some s42 := by rw [List.take_succ_eq_append_getElem hlt, Zhq, p2]; show (Zc5 s _ _).bind _ = _; rw [hst45]; rfl
   have hOk : JOk s42 (Zka ((ZaV (Za7 fs (Zbp g))).1.take (i + 1))) := by rw [Zjt _ _ hlt]; exact ZkZ pO hst45
   show ∃ n', n' < _ /\ _
   refine ⟨_, (by omega), i + 1, s42, _, rfl, ⟨by simp only [EV,Nat.reduceEqDiff,↓reduceIte,he];try rfl, by simp only [EV,Nat.reduceEqDiff,↓reduceIte,he];try rfl, by simp only [EV,Nat.reduceEqDiff,↓reduceIte,he];try rfl, by simp only [EV,Nat.reduceEqDiff,↓reduceIte,he];try rfl⟩, (by omega), hfo, hOk, ⟨⟨[vI s42.term, vI s42.vote, vI s42.bi, vI s42.bt, q48_0, q48_1, q48_2, q48_3, q48_v], hj, ⟨_, _, _, _, _, rfl, q48_C, q48_E⟩⟩, huj⟩, hD, hSu, kB⟩
  refine ⟨fun _ => hX47, ?_⟩
  have hD := hD.ext hX47
  have hSu := fun c hc => hX47.used _ (hSu c hc)
  have kB := kB.trans (Ext.but hX47)
  obtain ⟨q64_0, q64_1, q64_2, q64_3, q64_v, rfl, q64_C, q64_E⟩ := hJ46
  obtain ⟨_, _, _, _, _, q64_z0, q64_z1, q64_z2, q64_z3⟩ := q64_C.tis
  refine Zax ?_
  refine Zas ?_
  refine Zaw (l := [.agg [vI s42.term, vI s42.vote, vI s42.bi, vI s42.bt, q64_0, q64_1, q64_2, q64_3, q64_v], vT false]) (r := .agg [vI s42.term, vI s42.vote, vI s42.bi, vI s42.bt, q64_0, q64_1, q64_2, q64_3, q64_v]) rfl rfl ?_
  refine Zaz ?_
  refine Zas ?_
  refine Zaw (l := [.agg [vI s42.term, vI s42.vote, vI s42.bi, vI s42.bt, q64_0, q64_1, q64_2, q64_3, q64_v], vT false]) (r := vT false) rfl rfl ?_
  refine Zaz ?_
  refine Zas ?_
  refine ZaH (cs := [vI 0, vI 0, vI 0, vI 0, .lst none 0 0 [], .lst none 0 0 [], .lst none 0 0 [], .lst none 0 0 [], .lst none 0 0 []]) Zgq rfl fun b65 υ66 hn67 hu68 hb69 hv70 hX71 => ?_
  refine ⟨fun q => (by cases q), ?_⟩
  have nS74 : ¬ S b65 := fun q => hu68 (hSu _ q)
  have z75 : Za9 σ b65 := ⟨kB.noneOfB hSu0 hu68 hn67, fun q => hu68 (kB.used _ q)⟩
  have hD := hD.ext hX71
  have hSu := fun c hc => hX71.used _ (hSu c hc)
  have kB := kB.trans (Ext.but hX71)
  refine Zas ?_
  refine ZaB (b := b65) (o := 0) (u := .agg [vI s42.term, vI s42.vote, vI s42.bi, vI s42.bt, q64_0, q64_1, q64_2, q64_3, q64_v]) (cs' := [vI s42.term, vI s42.vote, vI s42.bi, vI s42.bt, q64_0, q64_1, q64_2, q64_3, q64_v]) rfl rfl hb69 Zdx (by obtain ⟨_, _, rfl, _⟩ := q64_z0 <;> obtain ⟨_, _, rfl, _⟩ := q64_z1 <;> obtain ⟨_, _, rfl, _⟩ := q64_z2 <;> obtain ⟨_, _, rfl, _⟩ := q64_z3 <;> obtain ⟨_, _, _, _, rfl, _⟩ := q64_E <;> rfl) rfl fun υ76 hb69 k77 => ?_
  refine ⟨fun q => (by cases q), ?_⟩
  have hD := hD.but k77 (fun c hc q => nS74 (q ▸ hc))
  have hSu := fun c hc => k77.used _ (hSu c hc)
  have kB := But.ext2 kB (fun g hg => .inr (by rw [hg]; exact z75.1)) k77
  refine Zax ?_
  refine ZbI (kp6 6 13 14 49 50 51 ?_)
  clear he e
  intro e he
  refine Zab (Zaa (Zag ?_))
  refine ZcU ?_
  refine Zaf (kp6 6 13 49 50 51 65 ?_)
  clear he e
  intro e he
  refine ZaC (t := true) he.2.2.2.2.2 (fun ht => ?_) (fun ht => by cases ht)
  refine Zab (Zaa (Zag ?_))
  refine Zag ?_
  refine Zaf (kp2 4 5 ?_)
  clear he e
  intro e he
  refine ZbB ?_
  have hno : Zgl Zhr (ZaV (Za7 fs (Zbp g))).1 = none := by rw [<- List.take_append_drop (i + 1) (ZaV (Za7 fs (Zbp g))).1, Zhq, List.take_succ_eq_append_getElem hlt, Zhq, p2]; show Option.bind ((Zc5 s _ _).bind _) _ = none; rw [hst45]; rfl
  show ∃ r, ZaM _ _ _ _ r /\ _
  exact ⟨_, Zbd rfl (ZaO he.1) (ZaO he.2), hK9 hno _ _ _ _ hD hC24 kB⟩
 have bht52 := ht52
 have ht52 := of_decide_eq_false bht52
 refine Zbu ?_
 show ZaA _ _ _ _ _ _
 refine Zaa (Zag ?_)
 refine Zag ?_
 refine Zag ?_
 refine Zaf (kp2 4 5 ?_)
 clear he e
 intro e he
 refine Zap ?_
 obtain rfl : i = (ZaV (Za7 fs (Zbp g))).1.length := by omega
 rw [List.take_length] at p2 pO
 show ∃ r, ZaM _ _ _ _ r /\ _
 exact ⟨_, Zbd rfl (ZaO he.1) (ZaO he.2), hK0 _ p2 pO _ _ _ _ _ hD hC24 pJ z9 kB⟩
end
section
variable {σ : St} {K : AV -> St -> Prop}
theorem Znu {f0 : Fl} {v : AV} {d : List UInt8} : ∀ {fs : List Fl}, (fs.map (·.b)).Nodup -> f0 ∈ fs -> Zec (fs.map (ZcA f0.b v d)) + f0.d.length = Zec fs + d.length
 | f :: fs, hn, h => by
  simp only [List.map_cons, List.nodup_cons] at hn
  have hs : ∀ (g : Fl) (l : List Fl), Zec (g :: l) = g.d.length + Zec l := fun g l => by unfold Zec; simp
  rw [List.map_cons, hs, hs]
  rcases List.mem_cons.1 h with rfl | h
  ·have h1 : fs.map (ZcA f0.b v d) = fs := by
    conv => rhs; rw [<- List.map_id fs]
    refine List.map_congr_left fun g hg => ?_
    unfold ZcA
    rw [if_neg (fun q => hn.1 (by rw [<- q]; exact List.mem_map_of_mem hg))]
    rfl
   rw [h1, show (ZcA f0.b v d f0).d = d from by unfold ZcA; rw [if_pos rfl]]
   omega
  ·have h2 : ZcA f0.b v d f = f := by
    unfold ZcA
    rw [if_neg (fun q => hn.1 (by rw [q]; exact List.mem_map_of_mem h))]
   have h3 := Znu (v := v) (d := d) hn.2 h
   rw [h2]
   omega
theorem ZoR {fs fs' : List Fl} {pcs pcs' : List (Nat × Nat)} {k d : List UInt8} (h : Zr2 fs pcs k d fs' pcs') (hn : (fs'.map (·.b)).Nodup) : Zec fs' <= Zec fs + d.length /\ pcs'.length <= pcs.length + 1 := by
 obtain ⟨fs1, f0, v', h1, h2, _, rfl, rfl⟩ := h
 rw [List.map_map, show ((fun f : Fl => f.b) ∘ ZcA f0.b v' (f0.d ++ d)) = fun f : Fl => f.b from funext fun f => Zep f] at hn
 have h3 := Znu (v := v') (d := f0.d ++ d) hn h2
 rw [List.length_append] at h3
 refine ⟨?_, ?_⟩
 ·rcases h1 with rfl | ⟨_, rfl, h5⟩
  ·omega
  ·have : Zec (fs ++ [f0]) = Zec fs := by unfold Zec; simp [h5]
   omega
 ·rw [List.length_append]
  split <;> simp
structure JW (σ τ : St) (jb bb mb : Nat) (S : Nat -> Prop) (fs : List Fl) (pcs : List (Nat × Nat)) (size : Int) (pv : AV) (s : JSt) (m : Nat) (nm : List UInt8) : Prop where
 hJ : JAt τ jb s bb nm
 hs : JOk s m
 hD : DAt τ bb S fs pcs size mb pv
 hSu : ∀ c, S c -> τ.used c
 hjS : ¬ S jb
 nw : ∀ c, S c \/ c = jb -> Za9 σ c
 kX : Ext σ τ
section
variable {τ υ : St} {jb bb mb : Nat} {S : Nat -> Prop} {fs : List Fl} {pcs : List (Nat × Nat)} {size : Int} {pv : AV} {s s2 : JSt} {m kd : Nat} {nm bs : List UInt8}
theorem JW.ext (h : JW σ τ jb bb mb S fs pcs size pv s m nm) (k : Ext τ υ) : JW σ υ jb bb mb S fs pcs size pv s m nm := ⟨h.hJ.ext k, h.hs, h.hD.ext k, fun c hc => k.used _ (h.hSu c hc), h.hjS, h.nw, h.kX.trans k⟩
theorem JW.putk (h : JW σ τ jb bb mb S fs pcs size pv s m nm) (hsz : size < 1) (hst : Zc5 s kd bs = some s2) (hb : bs.length <= 262144)
 (hK : ∀ υ S' fs' pcs' pv', JW σ υ jb bb mb S' fs' pcs' size pv' s2 (m + bs.length) nm -> Zec fs' <= Zec fs + (9 + bs.length) -> pcs'.length <= pcs.length + 1 -> K (vI 0) υ) : Zj6 K S jb bb mb s nm fs pcs size kd false bs τ := by
 refine ⟨fun q => ?_, fun s3 _ _ q => absurd hb (by omega), fun s3 _ _ _ q => absurd (.inl hsz) q, fun s3 _ q _ _ υ S2 fs2 pcs2 pv2 g1 g2 g3 g4 g5 g6 g7 => ?_⟩
 ·rcases q with q | q
  ·cases q
  ·rw [hst] at q; cases q
 ·rw [hst] at q
  cases q
  have h1 := ZoR g7 g1.nd
  rw [Zdj] at h1
  refine hK υ S2 fs2 pcs2 pv2 ⟨g2, ZkZ h.hs hst, g1, g6, fun q => (g5 _ q).elim h.hjS fun n => n.2 h.hJ.used, fun c hc => ?_, But.ext h.kX (fun c hc => (h.nw c hc).1) g3⟩ h1.1 h1.2
  rcases hc with hc | hc
  ·exact (g5 c hc).elim (fun q => h.nw c (.inl q)) fun q => Za9.of q h.kX
  ·exact h.nw c (.inr hc)
end
theorem Zth : JOk Zhr 0 := ⟨⟨Int.le_refl _, by decide⟩, Nat.zero_le _, (fun e h => by cases h), (by intro l hl; simp only [List.mem_cons, List.not_mem_nil, or_false] at hl; rcases hl with rfl | rfl | rfl | rfl <;> exact Nat.zero_le _)⟩
abbrev ZdJ (t : Int) : Ent := ⟨t, 1, [], [[], [], [], []]⟩
abbrev cN (t : Int) : List AV := [vI t, .raw (.int .u8 1), .lst none 0 0 [], .lst none 0 0 [], .lst none 0 0 [], .lst none 0 0 [], .lst none 0 0 []]
theorem Zf4 (t : Int) : Za5 σ (.lst none 0 0 []) [] /\ ZbM σ [.lst none 0 0 [], .lst none 0 0 [], .lst none 0 0 [], .lst none 0 0 []] [[], [], [], []] := ⟨ZdQ.at_, Zch.at_⟩
theorem ZsD {A : Addr} {c : Nat} (t : Int) : Zlw σ (.lst (some A) 1 c (cN t)) [ZdJ t] (cN t) :=
 ⟨⟨rfl, (by intro a ha; simp only [List.mem_cons, List.not_mem_nil, or_false] at ha; rcases ha with rfl | rfl | rfl | rfl | rfl | rfl | rfl <;> rfl), .inl ⟨some A, c, [], by simp, fun q => by cases q⟩⟩, fun i hi => match i, hi with
  | 0, _ => ⟨rfl, (Zf4 t).1, (Zf4 t).2, rfl⟩⟩
theorem ZsE {A : Addr} {c : Nat} (t u : Int) : Zlw σ (.lst (some A) 2 c (cN t ++ cN u)) [ZdJ t, ZdJ u] (cN t ++ cN u) :=
 ⟨⟨rfl, (by intro a ha; simp only [List.cons_append, List.nil_append, List.mem_cons, List.not_mem_nil, or_false] at ha; rcases ha with rfl | rfl | rfl | rfl | rfl | rfl | rfl | rfl | rfl | rfl | rfl | rfl | rfl | rfl <;> rfl), .inl ⟨some A, c, [], by simp, fun q => by cases q⟩⟩, fun i hi => match i, hi with
  | 0, _ => ⟨rfl, (Zf4 t).1, (Zf4 t).2, rfl⟩
  | 1, _ => ⟨rfl, (Zf4 u).1, (Zf4 u).2, rfl⟩⟩
abbrev ZrN : List (List Int) := [[], [], [], []]
theorem ZsF : Zc5 Zhr ((1 : Nat) : Int) (nsB [3, 2]) = some ⟨3, 2, 0, 0, ZrN, []⟩ := by kernel_rfl
theorem ZsG : Zc5 ⟨3, 2, 0, 0, ZrN, []⟩ ((2 : Nat) : Int) (nsB [1, (([ZdJ 3, ZdJ 3].length : Nat) : Int)] ++ esB [ZdJ 3, ZdJ 3]) = some ⟨3, 2, 0, 0, ZrN, [ZdJ 3, ZdJ 3]⟩ := by kernel_rfl
theorem ZsH : Zc5 ⟨3, 2, 0, 0, ZrN, [ZdJ 3, ZdJ 3]⟩ ((2 : Nat) : Int) (nsB [2, (([ZdJ 4].length : Nat) : Int)] ++ esB [ZdJ 4]) = some ⟨3, 2, 0, 0, ZrN, [ZdJ 3, ZdJ 4]⟩ := by kernel_rfl
theorem Zhs {t : Int} (hK : ∀ τ, Ext σ τ -> K (.agg (cN t)) τ) : Zan Tryz.prog 43 [vI t] σ K := by
 refine Zai Zam Tryz.func43 rfl rfl rfl (Nat.le_of_ble_eq_true rfl) ?_
 refine Zbf 0 (v0 := vI t) rfl ?_
 intro e he
 refine Zaa (Zac (ZaH (cs := [vI 0, .raw (.int .u8 0), .lst none 0 0 [], .lst none 0 0 [], .lst none 0 0 [], .lst none 0 0 [], .lst none 0 0 []]) Zfo rfl fun b1 υ2 hn3 hu4 hb5 hv6 hX7 => ?_))
 refine Zaf (kp2 0 2 ?_)
 clear he e
 intro e he
 refine Zaa (Zag ?_)
 refine Zac (Zbj (vs := [vI t, .raw (.int .u8 1)]) (cells := [vI t, .raw (.int .u8 1), .lst none 0 0 [], .lst none 0 0 [], .lst none 0 0 [], .lst none 0 0 [], .lst none 0 0 []]) (by simp only [List.map_cons, List.map_nil, EV,Nat.reduceEqDiff,↓reduceIte,he];try rfl) Zfo Zra rfl ?_)
 refine Zac (ZaB (b := b1) (o := 0) (u := .agg [vI t, .raw (.int .u8 1), .lst none 0 0 [], .lst none 0 0 [], .lst none 0 0 [], .lst none 0 0 [], .lst none 0 0 []]) (cs' := [vI t, .raw (.int .u8 1), .lst none 0 0 [], .lst none 0 0 [], .lst none 0 0 [], .lst none 0 0 [], .lst none 0 0 []]) he.2 rfl hb5 ZbZ rfl rfl fun υ8 hb5 k9 => ?_)
 have hv6 := k9.used _ hv6
 refine Zaf (kp1 2 ?_)
 clear he e
 intro e he
 refine Zap ?_
 show ∃ r, ZaM _ _ _ _ r /\ _
 exact ⟨_, ZdE rfl (ZaJ he hb5 fa8 ZbZ rfl), hK _ (But.ext hX7 (fun g hg => by rw [hg]; exact hn3) k9)⟩
theorem Zf5 {es : List Ent} (h : ∀ e ∈ es, ∃ t, e = ZdJ t) : (∀ e ∈ es, ∀ l ∈ e.ls, l.length <= 140737488355328) /\ (∀ e ∈ es, e.k <= 255) /\ ∀ e ∈ es, e.ls.flatten.length <= 1000000 := by
 refine ⟨fun e he l hl => ?_, fun e he => ?_, fun e he => ?_⟩ <;> obtain ⟨t, rfl⟩ := h e he
 ·simp only [List.mem_cons, List.not_mem_nil, or_false] at hl
  rcases hl with rfl | rfl | rfl | rfl <;> exact Nat.zero_le _
 ·show (1 : Nat) <= 255
  decide
 ·exact Nat.zero_le _
theorem sm1 (t : Int) : ∀ e ∈ [ZdJ t], ∃ t, e = ZdJ t := fun e h => ⟨t, List.mem_singleton.1 h⟩
theorem sm2 (t u : Int) : ∀ e ∈ [ZdJ t, ZdJ u], ∃ t, e = ZdJ t := fun e h => by
 simp only [List.mem_cons, List.not_mem_nil, or_false] at h
 rcases h with rfl | rfl
 ·exact ⟨_, rfl⟩
 ·exact ⟨_, rfl⟩
theorem ZrO : Zgl Zhr (ZaV (Za7 [] (Zbp 1))).1 = some Zhr := by kernel_rfl
theorem Zti : (nsB [3, 2]).length = 2 := by kernel_rfl
theorem Zs2 : (nsB [1, (([ZdJ 3, ZdJ 3].length : Nat) : Int)] ++ esB [ZdJ 3, ZdJ 3]).length = 16 := by kernel_rfl
theorem Ztj : (nsB [2, (([ZdJ 4].length : Nat) : Int)] ++ esB [ZdJ 4]).length = 9 := by kernel_rfl
set_option maxHeartbeats 2000000 in
theorem Zez (hK : ∀ τ, Ext σ τ -> K (vT true) τ) : Zan Tryz.prog 9 [] σ K := by
 refine Zai Zam Tryz.func9 rfl rfl rfl (Nat.le_of_ble_eq_true rfl) ?_
 have he : True := trivial
 generalize ZiP [] = e
 refine Zaa (Zag ?_)
 refine Zaf (Zaa (Zao [vI 0] ?_))
 refine Zrs fun bb mb τ hD hX hb hm => ?_
 have hSu : ∀ c, c = bb \/ c = mb -> τ.used c := fun c hc => hc.elim (fun q => q ▸ hD.used) fun q => q ▸ hD.umap
 have hn : ∀ c, c = bb \/ c = mb -> Za9 σ c := fun c hc => hc.elim (fun q => q ▸ hb) fun q => q ▸ hm
 refine Zao [ptr bb 0, vI 1] ?_
 refine ZqD (g := 1) hD hSu (Nat.zero_le _) (fun p h => by cases h) (fun f h => by cases h) (by decide) (fun q => by rw [ZrO] at q; cases q) fun s hs _ υ jb fs pcs pv hD2 hC hJ hN kB => ?_
 rw [ZrO] at hs
 cases hs
 obtain ⟨rfl, rfl⟩ : fs = [] /\ pcs = [] := by
  rcases hC with ⟨_, rfl, rfl⟩ | ⟨f0, h, _⟩
  ·exact ⟨rfl, rfl⟩
  ·cases h
 have hw : JW σ υ jb bb mb (fun b => b = bb \/ b = mb) [] [] 0 pv Zhr 0 (Zbp 1) := ⟨hJ, Zth, hD2, fun c hc => kB.used _ (hSu c hc), fun q => hN.2 (hSu _ q), fun c hc => hc.elim (hn c) (fun e => e ▸ Za9.of hN hX), But.ext hX (fun c hc => (hn c hc).1) kB⟩
 have hsm : Zec ([] : List Fl) <= 0 := Nat.le_refl _
 have hpl : ([] : List (Nat × Nat)).length <= 0 := Nat.le_refl _
 refine Zag ?_
 refine Zac (Zaw (l := [ptr jb 0, vI 0]) (r := ptr jb 0) rfl rfl ?_)
 refine Zac (Zaw (l := [ptr jb 0, vI 0]) (r := vI 0) rfl rfl ?_)
 refine Zag ?_
 refine Zag ?_
 refine Zaf (kp2 1 2 ?_)
 clear he e
 intro e he
 refine Zab (Zaa (Zag ?_))
 refine Zac (Zdo (k := .i64) (a := 0) (b := 0) rfl rfl ?_)
 rw [decide_eq_false (by decide : ¬ (0 : Int) ≠ 0)]
 refine Zag ?_
 refine Zau ?_
 refine Zcb rfl he.1 ?_
 refine Zau ?_
 refine Zay (vs := [ptr jb 0, vI 3, vI 2]) (by simp only [List.map_cons, List.map_nil, EV,Nat.reduceEqDiff,↓reduceIte,he];try rfl) ?_
 have hln := Zti
 refine Znp (t := 3) (v := 2) hw.hJ hw.hs (by omega) hw.hD hw.hSu hw.hjS (Ziz (by decide)) (by omega) (by omega) (show Zj6 _ _ _ _ _ _ _ _ _ _ _ false _ _ from hw.putk (by decide) ZsF (by omega) fun τ10 _ fs11 pcs12 pv13 hw hs14 hp15 => ?_)
 rw [hln] at hw hs14
 have hsm := Nat.le_trans hs14 (Nat.add_le_add_right hsm _)
 have hpl := Nat.le_trans hp15 (Nat.add_le_add_right hpl _)
 refine Zau ?_
 refine Zdo (k := .i64) (a := 0) (b := 0) rfl rfl ?_
 rw [decide_eq_false (by decide : ¬ (0 : Int) ≠ 0)]
 refine Zac (Zak (v := vT false) rfl rfl ?_)
 refine Zag ?_
 refine Zau ?_
 refine Zcb rfl he.1 ?_
 refine Zau ?_
 refine Zay (vs := [vI 3]) (by simp only [List.map_cons, List.map_nil, EV,Nat.reduceEqDiff,↓reduceIte,he];try rfl) ?_
 refine Zhs (t := 3) fun τ16 hX17 => ?_
 have hw := hw.ext hX17
 refine Zau ?_
 refine Zay (vs := [vI 3]) (by simp only [List.map_cons, List.map_nil, EV,Nat.reduceEqDiff,↓reduceIte,he];try rfl) ?_
 refine Zhs (t := 3) fun τ18 hX19 => ?_
 have hw := hw.ext hX19
 refine Zau ?_
 refine ZaN (vs := [.agg [vI 3, (.raw (.int .u8 1)), .lst none 0 0 [], .lst none 0 0 [], .lst none 0 0 [], .lst none 0 0 [], .lst none 0 0 []], .agg [vI 3, (.raw (.int .u8 1)), .lst none 0 0 [], .lst none 0 0 [], .lst none 0 0 [], .lst none 0 0 [], .lst none 0 0 []]]) (cells := [vI 3, (.raw (.int .u8 1)), .lst none 0 0 [], .lst none 0 0 [], .lst none 0 0 [], .lst none 0 0 [], .lst none 0 0 [], vI 3, (.raw (.int .u8 1)), .lst none 0 0 [], .lst none 0 0 [], .lst none 0 0 [], .lst none 0 0 [], .lst none 0 0 []]) (by simp only [List.map_cons, List.map_nil, EV,Nat.reduceEqDiff,↓reduceIte,he];try rfl) Zeb ZbZ Zfo rfl (by decide) rfl fun b20 hu21 hb22 => ?_
 have hX23 := Ext.put (.tail 28 (2 * 7) (2 * 7)) hb22
 have hw := hw.ext hX23
 refine Zau ?_
 refine Zay (vs := [ptr jb 0, vI 1, .lst (some ⟨b20, 0, none⟩) 2 2 [vI 3, (.raw (.int .u8 1)), .lst none 0 0 [], .lst none 0 0 [], .lst none 0 0 [], .lst none 0 0 [], .lst none 0 0 [], vI 3, (.raw (.int .u8 1)), .lst none 0 0 [], .lst none 0 0 [], .lst none 0 0 [], .lst none 0 0 [], .lst none 0 0 []]]) (by simp only [List.map_cons, List.map_nil, EV,Nat.reduceEqDiff,↓reduceIte,he];try rfl) ?_
 have hln := Zs2
 refine Zho (fr := 1) (es := [ZdJ 3, ZdJ 3]) hw.hJ hw.hs (by omega) hw.hD hw.hSu hw.hjS (Ziz (by decide)) (by omega) (by omega) (fun τ _ => ZsE 3 3) (by decide) (Zf5 (sm2 3 3)).1 (Zf5 (sm2 3 3)).2.1 (Zf5 (sm2 3 3)).2.2 (Nat.le_trans (Nat.le_trans (by rw [List.length_append]; omega : (esB [ZdJ 3, ZdJ 3]).length <= (nsB [1, (([ZdJ 3, ZdJ 3].length : Nat) : Int)] ++ esB [ZdJ 3, ZdJ 3]).length) (Nat.le_of_eq hln)) (by decide)) (fun q => by rw [show List.any [ZdJ 3, ZdJ 3] Zdm = false from by kernel_rfl] at q; cases q) (fun _ => (show Zj6 _ _ _ _ _ _ _ _ _ _ _ false _ _ from hw.putk (by decide) ZsG (by omega) fun τ24 _ fs25 pcs26 pv27 hw hs28 hp29 => ?_))
 rw [hln] at hw hs28
 have hsm := Nat.le_trans hs28 (Nat.add_le_add_right hsm _)
 have hpl := Nat.le_trans hp29 (Nat.add_le_add_right hpl _)
 refine Zau ?_
 refine Zdo (k := .i64) (a := 0) (b := 0) rfl rfl ?_
 rw [decide_eq_false (by decide : ¬ (0 : Int) ≠ 0)]
 refine Zac (Zak (v := vT false) rfl rfl ?_)
 refine Zag ?_
 refine Zau ?_
 refine Zcb rfl he.1 ?_
 refine Zau ?_
 refine Zay (vs := [vI 4]) (by simp only [List.map_cons, List.map_nil, EV,Nat.reduceEqDiff,↓reduceIte,he];try rfl) ?_
 refine Zhs (t := 4) fun τ30 hX31 => ?_
 have hw := hw.ext hX31
 refine Zau ?_
 refine ZaN (vs := [.agg [vI 4, (.raw (.int .u8 1)), .lst none 0 0 [], .lst none 0 0 [], .lst none 0 0 [], .lst none 0 0 [], .lst none 0 0 []]]) (cells := [vI 4, (.raw (.int .u8 1)), .lst none 0 0 [], .lst none 0 0 [], .lst none 0 0 [], .lst none 0 0 [], .lst none 0 0 []]) (by simp only [List.map_cons, List.map_nil, EV,Nat.reduceEqDiff,↓reduceIte,he];try rfl) Zeb ZbZ Zfo rfl (by decide) rfl fun b32 hu33 hb34 => ?_
 have hX35 := Ext.put (.tail 28 (1 * 7) (1 * 7)) hb34
 have hw := hw.ext hX35
 refine Zau ?_
 refine Zay (vs := [ptr jb 0, vI 2, .lst (some ⟨b32, 0, none⟩) 1 1 [vI 4, (.raw (.int .u8 1)), .lst none 0 0 [], .lst none 0 0 [], .lst none 0 0 [], .lst none 0 0 [], .lst none 0 0 []]]) (by simp only [List.map_cons, List.map_nil, EV,Nat.reduceEqDiff,↓reduceIte,he];try rfl) ?_
 have hln := Ztj
 refine Zho (fr := 2) (es := [ZdJ 4]) hw.hJ hw.hs (by omega) hw.hD hw.hSu hw.hjS (Ziz (by decide)) (by omega) (by omega) (fun τ _ => ZsD 4) (by decide) (Zf5 (sm1 4)).1 (Zf5 (sm1 4)).2.1 (Zf5 (sm1 4)).2.2 (Nat.le_trans (Nat.le_trans (by rw [List.length_append]; omega : (esB [ZdJ 4]).length <= (nsB [2, (([ZdJ 4].length : Nat) : Int)] ++ esB [ZdJ 4]).length) (Nat.le_of_eq hln)) (by decide)) (fun q => by rw [show List.any [ZdJ 4] Zdm = false from by kernel_rfl] at q; cases q) (fun _ => (show Zj6 _ _ _ _ _ _ _ _ _ _ _ false _ _ from hw.putk (by decide) ZsH (by omega) fun τ36 _ fs37 pcs38 pv39 hw hs40 hp41 => ?_))
 rw [hln] at hw hs40
 have hsm := Nat.le_trans hs40 (Nat.add_le_add_right hsm _)
 have hpl := Nat.le_trans hp41 (Nat.add_le_add_right hpl _)
 refine Zau ?_
 refine Zdo (k := .i64) (a := 0) (b := 0) rfl rfl ?_
 rw [decide_eq_false (by decide : ¬ (0 : Int) ≠ 0)]
 refine Zac (Zak (v := vT false) rfl rfl ?_)
 refine Zaf (kp2 1 30 ?_)
 clear he e
 intro e he
 refine ZaC (t := false) he.2 (fun ht => by cases ht) (fun ht => ?_)
 refine ZaL (Zaa (Zag ?_))
 refine Zao [ptr jb 0] ?_
 refine Znn hw.hJ hw.hs (by omega) fun cs42 τ43 hJ44 hX45 => ?_
 have hw := hw.ext hX45
 have kX := hw.kX
 obtain ⟨a0, a1, a2, a3, v, rfl, hC, hE⟩ := hJ44
 obtain ⟨_, _, _, _, _, z0, z1, z2, z3⟩ := hC.tis
 refine Zac (ZaH (cs := [vI 0, vI 0, vI 0, vI 0, .lst none 0 0 [], .lst none 0 0 [], .lst none 0 0 [], .lst none 0 0 [], .lst none 0 0 []]) Zgq rfl fun b46 υ47 hn48 hu49 hb50 hv51 hX52 => ?_)
 refine Zac (ZaB (b := b46) (o := 0) (u := .agg [vI 3, vI 2, vI 0, vI 0, a0, a1, a2, a3, v]) (cs' := [vI 3, vI 2, vI 0, vI 0, a0, a1, a2, a3, v]) rfl rfl hb50 Zdx (by obtain ⟨_, _, rfl, _⟩ := z0 <;> obtain ⟨_, _, rfl, _⟩ := z1 <;> obtain ⟨_, _, rfl, _⟩ := z2 <;> obtain ⟨_, _, rfl, _⟩ := z3 <;> obtain ⟨_, _, _, _, rfl, _⟩ := hE <;> rfl) rfl fun υ53 hb50 k54 => ?_)
 have hv51 := k54.used _ hv51
 refine Zaf (kp1 3 ?_)
 clear he e
 intro e he
 refine Zaa (Zac (Zae (b := b46) (o := 0) he ZdS rfl ?_))
 refine Zac (Zah (b := b46) (o := 0 + 0) (r := vI 3) rfl hb50 fa9 ZbG rfl ?_)
 refine Zac (ZbQ (k := .i64) (a := 3) (b := 3) rfl rfl ?_)
 rw [decide_eq_true (by decide : (3 : Int) = 3)]
 refine Zag ?_
 refine Zau ?_
 refine Zae (b := b46) (o := 0) he ZdS rfl ?_
 refine Zau ?_
 refine Zah (b := b46) (o := 0 + 1) (r := vI 2) rfl hb50 fa9 ZbG rfl ?_
 refine Zau ?_
 refine ZbQ (k := .i64) (a := 2) (b := 2) rfl rfl ?_
 rw [decide_eq_true (by decide : (2 : Int) = 2)]
 refine Zac (Zaj (v := vT true) rfl rfl ?_)
 refine Zag ?_
 refine Zau ?_
 refine Zae (b := b46) (o := 0) he ZdS rfl ?_
 refine Zau ?_
 refine Zah (b := b46) (o := 0 + 8) (r := v) rfl hb50 ZiB ZfI rfl ?_
 refine Zau ?_
 obtain ⟨cz, hZ, hCe⟩ := hE.lz (σ := υ53)
 refine Zea (n := 2) rfl hZ rfl Zeb ?_
 refine Zau ?_
 refine ZbQ (k := .i64) (a := 2) (b := 2) rfl rfl ?_
 rw [decide_eq_true (by decide : (2 : Int) = 2)]
 refine Zac (Zaj (v := vT true) rfl rfl ?_)
 refine Zag ?_
 refine Zau ?_
 refine Zae (b := b46) (o := 0) he ZdS rfl ?_
 refine Zau ?_
 refine Zah (b := b46) (o := 0 + 8) (r := v) rfl hb50 ZiB ZfI rfl ?_
 obtain ⟨cz, hZ, hCe⟩ := hE.lz (σ := υ53)
 obtain ⟨u9, d0, d1, d2, d3, hr9, _, _⟩ := hCe.get (i := 0) (by decide)
 refine Zau ?_
 refine Zir (i := 0) (r := [vI 3, kV 1, u9, d0, d1, d2, d3]) hZ (by decide) hr9 rfl rfl Zeb ZbZ fun q55 hq56 => ?_
 refine Zau ?_
 refine ZhU hq56 rfl Zcq rfl fun q57 hq58 => ?_
 refine Zau ?_
 refine Zis (v := vI 3) hq58 rfl fa9 ZbG rfl ?_
 refine Zau ?_
 refine ZbQ (k := .i64) (a := 3) (b := 3) rfl rfl ?_
 rw [decide_eq_true (by decide : (3 : Int) = 3)]
 refine Zac (Zaj (v := vT true) rfl rfl ?_)
 refine Zag ?_
 refine Zau ?_
 refine Zae (b := b46) (o := 0) he ZdS rfl ?_
 refine Zau ?_
 refine Zah (b := b46) (o := 0 + 8) (r := v) rfl hb50 ZiB ZfI rfl ?_
 obtain ⟨cz, hZ, hCe⟩ := hE.lz (σ := υ53)
 obtain ⟨u9, d0, d1, d2, d3, hr9, _, _⟩ := hCe.get (i := 1) (by decide)
 refine Zau ?_
 refine Zir (i := 1) (r := [vI 4, kV 1, u9, d0, d1, d2, d3]) hZ (by decide) hr9 rfl rfl Zeb ZbZ fun q59 hq60 => ?_
 refine Zau ?_
 refine ZhU hq60 rfl Zcq rfl fun q61 hq62 => ?_
 refine Zau ?_
 refine Zis (v := vI 4) hq62 rfl fa9 ZbG rfl ?_
 refine Zau ?_
 refine ZbQ (k := .i64) (a := 4) (b := 4) rfl rfl ?_
 rw [decide_eq_true (by decide : (4 : Int) = 4)]
 refine Zac (Zaj (v := vT true) rfl rfl ?_)
 refine Zag ?_
 refine Zaf (kp1 0 ?_)
 clear he e
 intro e he
 refine Zap ?_
 exact ZaD (hK _ (But.ext (kX.trans hX52) (fun g hg => by rw [hg]; exact kX.noneOf hn48) k54))
end
theorem Zpk {N : Nat} {ρ : Nat -> AV} : ∀ {l : List Int} {cs : List AV}, SVs CT N ρ (l.flatMap (CT.enc 0)) cs -> cs = vIs l
 | [], cs, h => by
  rw [List.flatMap_nil, ZdF] at h
  rw [h]
  rfl
 | n :: l, cs, h => by
  rw [List.flatMap_cons] at h
  have h : SVs CT N ρ (XV.int .i64 n :: l.flatMap (CT.enc 0)) cs := h
  obtain ⟨a0, as_, rfl, h0, h1⟩ := h.to
  rw [Zeh.1 h0, Zpk h1]
  rfl
theorem ZeA {l : List Int} {a : AV} (h : SV CT 0 ZdO (.sl 0 l none) a) (σ : St) : Ls σ 3 a l.length (vIs l) := by
 obtain ⟨A, c, cs, rest, rfl, l1, l2, l3, l4, l5⟩ := Zhz.1 h
 rw [Zpk l5]
 exact ⟨Zc1 l, ZeH l, .inl ⟨A, c, rest, rfl, fun q => (l4 q).1⟩⟩
theorem ZfG {E : Nat} {l : List (Ty E)} {a : AV} (h : SV CT 0 ZdO (.sl E l none) a) : a.one = true /\ Zbh a = true /\ a.cells = [a] := by
 obtain ⟨A, c, cs, rest, rfl, _⟩ := Zhz.1 h
 exact ⟨rfl, rfl, rfl⟩
abbrev ZsI (c : ZfV) : List (List Int) := [c.voters, c.old, c.learners, c.want]
theorem Zpl {l0 l1 l2 l3 : List Int} {a0 a1 a2 a3 : AV} {σ : St} (h0 : Ls σ 3 a0 l0.length (vIs l0)) (h1 : Ls σ 3 a1 l1.length (vIs l1)) (h2 : Ls σ 3 a2 l2.length (vIs l2)) (h3 : Ls σ 3 a3 l3.length (vIs l3)) : ZbM σ [a0, a1, a2, a3] [l0, l1, l2, l3] := fun i hi => match i, hi with
 | 0, _ => ⟨_, rfl, h0⟩
 | 1, _ => ⟨_, rfl, h1⟩
 | 2, _ => ⟨_, rfl, h2⟩
 | 3, _ => ⟨_, rfl, h3⟩
 | n + 4, h => absurd h (by simp)
theorem ZoS {x : ZhM} {cs : List AV} (h : SVs CT 0 ZdO (CT.enc 7 x) cs) : ∃ v a0 a1 a2 a3, cs = [vI x.term_, .raw (.int .u8 x.kind), v, a0, a1, a2, a3] /\ (∀ σ, Za5 σ v x.command) /\ (∀ σ, ZbM σ [a0, a1, a2, a3] (ZsI x.config)) /\ ∀ u ∈ [v, a0, a1, a2, a3], u.one = true /\ Zbh u = true /\ u.cells = [u] := by
 have h : SVs CT 0 ZdO [.int .i64 x.term_, .int .u8 x.kind, .sl 1 x.command none, .sl 0 x.config.voters none, .sl 0 x.config.old none, .sl 0 x.config.learners none, .sl 0 x.config.want none] cs := h
 obtain ⟨a0, c0, rfl, h0, h⟩ := h.to
 obtain ⟨a1, c1, rfl, h1, h⟩ := h.to
 obtain ⟨a2, c2, rfl, h2, h⟩ := h.to
 obtain ⟨a3, c3, rfl, h3, h⟩ := h.to
 obtain ⟨a4, c4, rfl, h4, h⟩ := h.to
 obtain ⟨a5, c5, rfl, h5, h⟩ := h.to
 obtain ⟨a6, c6, rfl, h6, h⟩ := h.to
 cases ZdF.1 h
 rw [Zeh.1 h0, Zeh.1 h1]
 exact ⟨_, _, _, _, _, rfl, fun σ => .inr h2, fun σ => Zpl (ZeA h3 σ) (ZeA h4 σ) (ZeA h5 σ) (ZeA h6 σ), fun u hu => by
  simp only [List.mem_cons, List.not_mem_nil, or_false] at hu
  rcases hu with rfl | rfl | rfl | rfl | rfl
  ·exact ZfG h2
  ·exact ZfG h3
  ·exact ZfG h4
  ·exact ZfG h5
  ·exact ZfG h6⟩
theorem ZqE {x : Zms} {cs : List AV} (h : SVs CT 0 ZdO (CT.enc 8 x) cs) : ∃ a0 a1 a2 a3, cs = [vI x.index, vI x.term_, a0, a1, a2, a3] /\ (∀ σ, ZbM σ [a0, a1, a2, a3] (ZsI x.config)) /\ ∀ u ∈ [a0, a1, a2, a3], u.one = true /\ Zbh u = true /\ u.cells = [u] := by
 have h : SVs CT 0 ZdO [.int .i64 x.index, .int .i64 x.term_, .sl 0 x.config.voters none, .sl 0 x.config.old none, .sl 0 x.config.learners none, .sl 0 x.config.want none] cs := h
 obtain ⟨a0, c0, rfl, h0, h⟩ := h.to
 obtain ⟨a1, c1, rfl, h1, h⟩ := h.to
 obtain ⟨a3, c3, rfl, h3, h⟩ := h.to
 obtain ⟨a4, c4, rfl, h4, h⟩ := h.to
 obtain ⟨a5, c5, rfl, h5, h⟩ := h.to
 obtain ⟨a6, c6, rfl, h6, h⟩ := h.to
 cases ZdF.1 h
 rw [Zeh.1 h0, Zeh.1 h1]
 exact ⟨_, _, _, _, rfl, fun σ => Zpl (ZeA h3 σ) (ZeA h4 σ) (ZeA h5 σ) (ZeA h6 σ), fun u hu => by
  simp only [List.mem_cons, List.not_mem_nil, or_false] at hu
  rcases hu with rfl | rfl | rfl | rfl
  ·exact ZfG h3
  ·exact ZfG h4
  ·exact ZfG h5
  ·exact ZfG h6⟩
end Go.Proofs.YtiienjjhlibopaaGreatDoor
