/- The law on loads, by hand (round 09Z). -/
import Derived.Test.YteempnebenjkmaaGreatDoorIu
import Derived.Test.YteempnebenjkmaaGreatDoorMe
namespace Go.Proofs.YteempnebenjkmaaGreatDoor
open Go.RowKit
set_option maxRecDepth 100000
set_option linter.unusedVariables false
set_option linter.unusedSimpArgs false
section
variable {P : Program} {ops : Array Oper} {env : Env} {σ τ : St} {K : Env -> St -> Prop} {ty t : TypeId} {pos : String} {af : Array Edge} {l' : List Oper}
theorem ZAt {d0 : Nat} {x y : Operand} {ts : Array TypeId} (h : aOp P ops ⟨some d0, .call ⟨.builtin .append, #[x, y], ts⟩, ty, pos, af, none⟩ env σ fun env' σ' => ∃ e sz n cells v, env' d0 = v /\ Hd σ' e sz v n cells /\ ∀ A c, n <= c -> c <= maxLen -> (A = none -> n = 0 /\ c = 0) -> Zbx P ops l' (env.put (some d0) (.lst A n c cells)) (Zfq (fun b => hbk v = some b) σ') K) :
 Zbx P ops (⟨some d0, .call ⟨.builtin .append, #[x, y], ts⟩, ty, pos, af, none⟩ :: l') env σ K := by
 rw [ZaN rfl] at h
 refine .inr (.inr (.inr ⟨rfl, fun ρ hρ w Z hH hV => ?_⟩))
 have h : (∃ v, ZcH P _ _ v /\ _) \/ (_ /\ Zjl P _ _ σ _) := h
 have hput : ∀ r, (env.put (some d0) r) d0 = r := fun r => by unfold Env.put; exact if_pos rfl
 rcases h with ⟨v, h1, e, sz, n, cells, v', hv, hd, hk⟩ | ⟨_, h⟩
 ·rw [hput] at hv
  subst hv
  obtain ⟨A, c, hl, g1, g2, g3⟩ := hd.lends (G := fun b => hbk (.raw v) = some b) (fun b hb => hb) (.refl cells)
  refine ⟨.lst A n c cells, _, w, .inl ?_, hk A c g1 g2 g3, Zhp hH, hl.2 w Z hH (ZaL _), Zi6 (Grow.refl _ _)⟩
  rw [hl.1]
  exact h1 ρ hρ w _ hV
 ·obtain ⟨r, σ', w', hr, ⟨e, sz, n, cells, v', hv, hd, hk⟩, hH', hV', hG⟩ := h ρ hρ w Z hH hV
  rw [hput] at hv
  subst hv
  obtain ⟨A, c, hl, g1, g2, g3⟩ := hd.lends (G := fun b => hbk r = some b) (fun b hb => hb) (.refl cells)
  refine ⟨.lst A n c cells, _, w', ?_, hk A c g1 g2 g3, Zhp hH', hl.2 w' Z hH' hV', Zi6 hG⟩
  rcases hr with hr | ⟨_, rfl⟩
  ·exact .inl (by rw [hl.1]; exact hr)
  ·obtain ⟨A', c', q1, _⟩ := hd.val
   exact absurd q1 (by unfold undef; intro q; cases q)
end
section
variable {σ τ : St} {K : AV -> St -> Prop}
theorem ZyO {k : Int} {d : List UInt8} {a : AV} (h0 : 0 <= k) (h1 : k <= 255) (hl : d.length <= 1000000) (ha : SV CT 0 ZaV (.sl 1 d none) a)
 (hK : ∀ v τ, Hd τ 5 1 v (code (k, d)).length (bys (code (k, d))) -> Ext σ τ -> (∀ b, hbk v = some b -> Zc2 σ b) -> K v τ) : Zal Tryz.prog 8 [.agg [.raw (.int .i64 k), a]] σ K := by
 refine ZnZ (Znq h0 h1 hl) (.cons (ZcE.2 ⟨_, rfl, .cons (Zaw.2 rfl) (.cons ha .none)⟩) .none) (Nat.le_refl _) K fun a τ cells q1 q2 q3 q4 => ?_
 have := Zpx (q2 0 ZaV)
 rw [List.take_length] at this
 subst this
 exact hK a τ q1 q3 q4
theorem ZsF {k : Int} {d : List UInt8} {a : AV} (h0 : 0 <= k) (h1 : k <= 255) (hl : d.length <= 1000000) (ha : SV CT 0 ZaV (.sl 1 d none) a)
 (hK : ∀ v τ, SV CT 0 ZaV (.sl 1 (code (k, d)) none) v -> Ext σ τ -> K v τ) : Zal Tryz.prog 8 [.agg [.raw (.int .i64 k), a]] σ K := by
 refine Zal.toldL (ZyO h0 h1 hl ha fun v τ q1 q2 q3 => ⟨5, 1, _, _, q1, fun A c p1 p2 p3 => ?_⟩)
 have hc := Zbz (k, d)
 dsimp only at hc
 exact hK _ _ (ZlV ⟨p1, p2, by omega, p3⟩) (Zhz q2 fun b hb => q3 b hb)
theorem Zwy {d : List UInt8} {v : AV} (hl : d.length <= 1000000) (hv : SV CT 0 ZaV (.sl 1 d none) v) (hK : ∀ u τ, SV CT 0 ZaV (.slx 1 d (ZeY 12)) u -> SV CT 0 ZaV (.sl 1 d none) u -> Ext σ τ -> K u τ) : Zal Tryz.prog 15 [v] σ K := by
 refine Zgd (Zj5.ok (d, ()) () _ (ZB1 hl)) (.cons hv .none) K fun u τ ρ' q1 _ q3 _ => ?_
 have h1 : SV CT 0 ZaV (.slx 1 d (ZeY 12)) u := SVs.shut q1 (by intro x hx; rw [List.mem_singleton.1 hx]; rfl)
 refine hK u τ h1 ?_ q3
 obtain ⟨A, c, cs, rest, rfl, g1, g2, g3, g4, g5⟩ := Zo3.1 h1
 have := Zpx g5
 subst this
 rw [show bys (d ++ ZeY 12) = bys d ++ bys (ZeY 12) from List.map_append, List.append_assoc]
 exact Zk1 ⟨by omega, g2, by omega, fun q => ⟨by have := g4 q; omega, (g4 q).2⟩⟩
theorem Zwz {d : List UInt8} {u v : AV} (hl : d.length <= 1000000) (hu : SV CT 0 ZaV (.slx 1 d (ZeY 12)) u) (hv : SV CT 0 ZaV (.sl 1 d none) v) (hK : ∀ τ, Ext σ τ -> K (vT true) τ) : Zal Tryz.prog 18 [u, v] σ K :=
 ZlN (Zmo.ok ((d, ZeY 12), d, ()) () (true, ()) (ZB2 hl)) (.cons hu (.cons hv .none)) (fun N ρ a h => Za7.1 h) K hK
theorem Zyg (m : Nat) (o : OB) : (ZoF m o).1.length <= m := by
 unfold ZoF
 split
 ·exact Nat.zero_le _
 ·rename_i l h
  have := ZoG h
  split
  ·exact Nat.zero_le _
  ·dsimp only
   rw [List.length_take]
   omega
theorem ZsG (d : List UInt8) : Zjc ((ZgA d).getD Zql).base.config /\ ((ZgA d).getD Zql).bytes.length <= 1000000 := by
 unfold ZgA
 split
 ·obtain ⟨q1, q2, q3, q4⟩ := Zjd d
  refine ⟨?_, Nat.le_trans (Zyg _ _) (by omega)⟩
  unfold Zjc
  show (Za8 d).1.config.voters.length + (Za8 d).1.config.old.length + (Za8 d).1.config.learners.length + (Za8 d).1.config.want.length <= 10000
  omega
 ·exact ⟨by unfold Zjc; decide, by decide⟩
theorem ZwA (d : List UInt8) : Zjc ((Zb3 d).getD Zql).base.config /\ ((Zb3 d).getD Zql).bytes.length <= 1000000 := by
 unfold Zb3
 split
 ·split
  ·exact ZsG _
  ·exact ⟨by unfold Zjc; decide, by decide⟩
 ·exact ⟨by unfold Zjc; decide, by decide⟩
theorem ZnC {x : Zb6} {as_ bs_ : List AV} (hf : Zjc x.base.config) (hb : x.bytes.length <= 1000000) (hx : SVs CT 0 ZaV (CT.enc 10 x) as_) (hy : SVs CT 0 ZaV (CT.enc 10 x) bs_) (hK : ∀ τ, Ext σ τ -> K (vT true) τ) : Zal Tryz.prog 14 [.agg as_, .agg bs_] σ K := Zqb hx hy (Zmw hf hb) hK
def nm2 : List UInt8 := [105, 109, 97, 103, 101, 46, 50]
theorem ZB7 : ZcV 2 = nm2 := by decide +kernel
theorem ZDM : (Go.Lib.decDigits 2).length <= 21 := by rw [<- Go.Lib.itoa_nonneg 2]; exact Go.Lib.itoa_length_le _ (by omega) (by omega)
theorem ZB8 : Program.underlying Tryz.prog 4 = some .bool := by kernel_rfl
theorem ZDZ {σ : St} {rb : Nat} (hb : σ.blk rb = some (.own 34 [.raw (.int .i64 0), .lst none 0 0 [], .lst none 0 0 []])) (hu : σ.used rb) : RAt σ rb (fun c => c = rb) [] [] 0 (.lst none 0 0 []) (.lst none 0 0 []) :=
 ⟨hb, hu, ⟨rfl, by simp [rfC], .inl ⟨.inl rfl, rfl⟩⟩, by simp, by simp, by simp, ⟨rfl, by simp [rpC], .inl ⟨.inl rfl, rfl⟩⟩, ⟨rfl, (fun x hx => by cases hx), (fun r hr => by cases hr), fun x hx => by cases hx⟩, fun c hc => hc ▸ hu⟩
theorem Zyh {k d : List UInt8} {l' : List Rw} {ps' : PL} (h : ZDk [] [] k d l' ps') : ∃ v, l' = [⟨k, v, d⟩] := by
 obtain ⟨l1, i, v', d0, hM, ⟨hi, rfl⟩, rfl, _⟩ := h
 rcases hM with ⟨rfl, hi', _⟩ | ⟨_, hi', _, _, rfl⟩
 ·cases hi'
 ·obtain rfl : i = 0 := Nat.le_zero.1 hi'
  exact ⟨v', rfl⟩
set_option maxHeartbeats 4000000 in
theorem Zm1 {b data : List UInt8} {vb vd : AV} (hvb : SV CT 0 ZaV (.sl 1 b none) vb) (hvd : SV CT 0 ZaV (.sl 1 data none) vd) (hK : ∀ τ, K (vT true) τ) : Zal Tryz.prog 3 [vb, vd] σ K := by
 obtain ⟨Ab, cb, rb, rfl, hAb⟩ := Zcc hvb
 obtain ⟨Ad, cd, rd, rfl, hAd⟩ := Zcc hvd
 refine Zas ZaH Tryz.func3 rfl rfl rfl (Nat.le_of_ble_eq_true rfl) ?_
 refine ZfJ 0 1 (v0 := .lst Ab b.length cb (bys b ++ rb)) (v1 := .lst Ad data.length cd (bys data ++ rd)) rfl rfl ?_
 intro e he
 repeat refine Zab ?_
 first|refine Zaa ?_|refine Zac ?_
 refine Zah ?_
 refine Zae ?_
 refine kp2 0 1 ?_
 clear he e
 intro e he
 repeat refine Zab ?_
 first|refine Zaa ?_|refine Zac ?_
 refine Zah ?_
 refine Zad ?_
 refine Zfa (A := Ab) (n := b.length) (c := cb) rfl rfl rfl ZeR ?_
 refine Zad ?_
 refine ZnH (k := .i64) (a := (b.length : Int)) (b := 5000) rfl rfl ?_
 refine Zah ?_
 by_cases hb5 : (5000 : Int) < (b.length : Int)
 ·rw [decide_eq_true hb5]
  refine Zbk ?_
  refine Zbk ?_
  refine Zbk ?_
  refine Zad ?_
  refine Zbb (v := vT true) rfl rfl ?_
  refine Zae ?_
  refine kp1 27 ?_
  clear he e
  intro e he
  refine ZaT (t := true) he (fun ht => ?_) (fun ht => by cases ht)
  repeat refine Zab ?_
  first|refine Zaa ?_|refine Zac ?_
  refine ZaK [] ?_
  refine Zkb fun υ hX => ?_
  refine Zah ?_
  refine Zae ?_
  refine kp1 4 ?_
  clear he e
  intro e he
  refine Zfo ?_
  exact ZbW (hK _)
 rw [decide_eq_false hb5]
 refine Zcn ?_
 refine ZjE rfl he.2 ?_
 refine Zcn ?_
 refine Zfa (A := Ad) (n := data.length) (c := cd) rfl rfl rfl ZeR ?_
 refine Zcn ?_
 refine ZnH (k := .i64) (a := (data.length : Int)) (b := 5000) rfl rfl ?_
 refine Zad ?_
 refine ZbR (v := vT (decide ((5000 : Int) < (data.length : Int)))) rfl rfl ?_
 refine Zae ?_
 refine kp3 0 1 27 ?_
 clear he e
 intro e he
 refine ZaT (t := decide ((5000 : Int) < (data.length : Int))) he.2.2 (fun ht => ?_) (fun ht => ?_)
 ·
  repeat refine Zab ?_
  first|refine Zaa ?_|refine Zac ?_
  refine ZaK [] ?_
  refine Zkb fun υ hX => ?_
  refine Zah ?_
  refine Zae ?_
  refine kp1 4 ?_
  clear he e
  intro e he
  refine Zfo ?_
  exact ZbW (hK _)
 refine Za6 ?_
 have hdl : data.length <= 5000 := by have := of_decide_eq_false ht; omega
 have hbl : b.length <= 5000 := by omega
 have hc4 := Zbz (4, data)
 have hc5 := Zbz (5, data)
 dsimp only at hc4 hc5
 repeat refine Zab ?_
 first|refine Zaa ?_|refine Zac ?_
 refine Zah ?_
 refine Zah ?_
 refine Zah ?_
 refine Zad ?_
 refine ZcI (vs := [.raw (.int .i64 4), .lst Ad data.length cd (bys data ++ rd)]) (cells := [.raw (.int .i64 4), .lst Ad data.length cd (bys data ++ rd)]) (by simp only [List.map_cons, List.map_nil, EV,Nat.reduceEqDiff,↓reduceIte,he];try rfl) Zrq Zrr rfl ?_
 refine ZaK [.agg [.raw (.int .i64 4), .lst Ad data.length cd (bys data ++ rd)]] ?_
 refine ZsF (by omega) (by omega) (by omega) hvd fun v1 σ1 hv1 hX1 => ?_
 refine Zah ?_
 refine Zad ?_
 refine ZcI (vs := [.raw (.int .i64 4), .lst Ad data.length cd (bys data ++ rd)]) (cells := [.raw (.int .i64 4), .lst Ad data.length cd (bys data ++ rd)]) (by simp only [List.map_cons, List.map_nil, EV,Nat.reduceEqDiff,↓reduceIte,he];try rfl) Zrq Zrr rfl ?_
 refine ZaK [.agg [.raw (.int .i64 4), .lst Ad data.length cd (bys data ++ rd)]] ?_
 refine ZyO (by omega) (by omega) (by omega) hvd fun v2 σ2 hv2 hX2 hn2 => ?_
 refine Zah ?_
 refine ZAt ?_
 refine Zch (m := b.length) (news := bys b) rfl rfl ZeR Zno Znn ZB6 rfl (by omega) hv2 (Zge (by rw [ZnY, Nat.mul_one]) (ZqS b) fun q => (hAb.none q).1) (by unfold maxLen; omega) (by omega) fun v3 σ3 hv3 hB3 hn3 => ⟨5, 1, _, _, v3, rfl, hv3, fun A3 c3 p1 p2 p3 => ?_⟩
 have hX3 : Ext σ1 (Zfq (fun b => hbk v3 = some b) σ3) := Zhz (But.ext hX2 (fun c hc => (hn2 c hc).1) hB3) fun c hc => (hn3 c hc).elim (hn2 c) fun q => Zc2.of q hX2
 have hv3' : SV CT 0 ZaV (.sl 1 (code (4, data) ++ b) none) (.lst A3 ((code (4, data)).length + b.length) c3 (bys (code (4, data)) ++ bys b)) := by
  rw [<- List.length_append, show bys (code (4, data)) ++ bys b = bys (code (4, data) ++ b) from List.map_append.symm]
  exact ZlV ⟨by rw [List.length_append]; omega, p2, by rw [List.length_append]; omega, fun q => by rw [List.length_append]; exact p3 q⟩
 generalize Zfq (fun b => hbk v3 = some b) σ3 = σ4 at hX3 ⊢
 clear hv3 hB3 hn3 hv2 hn2 hX2
 obtain ⟨A1, c1, r1, rfl, _⟩ := Zcc hv1
 refine Zah ?_
 refine Zad ?_
 refine ZcI (vs := [.raw (.int .i64 5), .lst Ad data.length cd (bys data ++ rd)]) (cells := [.raw (.int .i64 5), .lst Ad data.length cd (bys data ++ rd)]) (by simp only [List.map_cons, List.map_nil, EV,Nat.reduceEqDiff,↓reduceIte,he];try rfl) Zrq Zrr rfl ?_
 refine ZaK [.agg [.raw (.int .i64 5), .lst Ad data.length cd (bys data ++ rd)]] ?_
 refine ZsF (by omega) (by omega) (by omega) hvd fun v5 σ5 hv5 hX5 => ?_
 obtain ⟨A5, c5, r5, rfl, _⟩ := Zcc hv5
 refine Zad ?_
 refine Zif (vs := [.lst Ab b.length cb (bys b ++ rb), .lst Ad data.length cd (bys data ++ rd), .lst A1 (code (4, data)).length c1 (bys (code (4, data)) ++ r1), .lst A3 ((code (4, data)).length + b.length) c3 (bys (code (4, data)) ++ bys b), .lst A5 (code (5, data)).length c5 (bys (code (5, data)) ++ r5)]) (cells := [.lst Ab b.length cb (bys b ++ rb), .lst Ad data.length cd (bys data ++ rd), .lst A1 (code (4, data)).length c1 (bys (code (4, data)) ++ r1), .lst A3 ((code (4, data)).length + b.length) c3 (bys (code (4, data)) ++ bys b), .lst A5 (code (5, data)).length c5 (bys (code (5, data)) ++ r5)]) (by simp only [List.map_cons, List.map_nil, EV,Nat.reduceEqDiff,↓reduceIte,he];try rfl) Zg4 Zdd Zmg rfl (by omega) rfl rfl fun rf σ6 hN6 hX6 => ?_
 refine Zah ?_
 refine Zae ?_
 refine kp2 1 5 ?_
 clear he e
 intro e he
 have hfs : SVs CT 0 ZaV ([b, data, code (4, data), code (4, data) ++ b, code (5, data)].flatMap (CT.enc 3)) [.lst Ab b.length cb (bys b ++ rb), .lst Ad data.length cd (bys data ++ rd), .lst A1 (code (4, data)).length c1 (bys (code (4, data)) ++ r1), .lst A3 ((code (4, data)).length + b.length) c3 (bys (code (4, data)) ++ bys b), .lst A5 (code (5, data)).length c5 (bys (code (5, data)) ++ r5)] := .cons hvb (.cons hvd (.cons hv1 (.cons hv3' (.cons hv5 .none))))
 have hfl : ∀ f ∈ [b, data, code (4, data), code (4, data) ++ b, code (5, data)], f.length <= 20000 := fun f hf => by
  simp only [List.mem_cons, List.not_mem_nil, or_false] at hf
  rcases hf with rfl | rfl | rfl | rfl | rfl
  all_goals first | omega | (rw [List.length_append]; omega)
 have hf5 : [b, data, code (4, data), code (4, data) ++ b, code (5, data)].length = 5 := rfl
 clear hv1 hv3' hv5 hvb
 generalize [AV.lst Ab b.length cb (bys b ++ rb), .lst Ad data.length cd (bys data ++ rd), .lst A1 (code (4, data)).length c1 (bys (code (4, data)) ++ r1), .lst A3 ((code (4, data)).length + b.length) c3 (bys (code (4, data)) ++ bys b), .lst A5 (code (5, data)).length c5 (bys (code (5, data)) ++ r5)] = cs at he hfs
 generalize [b, data, code (4, data), code (4, data) ++ b, code (5, data)] = files at hfs hfl hf5
 repeat refine Zab ?_
 first|refine Zaa ?_|refine Zac ?_
 refine Zah ?_
 refine Zae ?_
 refine kp3 1 5 6 ?_
 clear he e
 intro e he
 refine Zb7 ?_
 refine Zdn (fun μ env υ => ∃ i : Nat, μ = 5 - i /\ i <= 5 /\ (env 1 = .lst Ad data.length cd (bys data ++ rd) /\ env 5 = .lst (some ⟨rf, 0, none⟩) 5 5 cs /\ env 6 = vI i)) ⟨_, 0, rfl, Nat.zero_le _, he⟩ ?_
 clear he e
 rintro _ e υ ⟨i, rfl, hi, he⟩
 repeat refine Zab ?_
 first|refine Zaa ?_|refine Zac ?_
 refine Zah ?_
 refine Zah ?_
 refine Zad ?_
 refine Zfa (A := some ⟨rf, 0, none⟩) (n := 5) (c := 5) rfl rfl rfl Zg4 ?_
 refine ZjG i 5 ?_
 refine Zae ?_
 refine kp4 1 5 6 46 ?_
 clear he e
 intro e he
 refine ZaT (t := decide (i < 5)) he.2.2.2 (fun ht => ?_) (fun ht => ?_)
 ·have hlt : i < 5 := of_decide_eq_true ht
  have hfi : i < files.length := by omega
  obtain ⟨vi, hvi, hsi⟩ := Zlc hfs i hfi
  have hdi := hfl _ (List.getElem_mem hfi)
  generalize files[i] = d at hsi hdi
  obtain ⟨Ai, ci, ri, rfl, hAi⟩ := Zcc hsi
  have hci : (cs.drop (i * 1))[0]? = some (.lst Ai d.length ci (bys d ++ ri)) := by rw [List.getElem?_drop, Nat.mul_one, Nat.add_zero]; exact hvi
  refine Za6 ?_
  refine Zb7 ?_
  repeat refine Zab ?_
  first|refine Zaa ?_|refine Zac ?_
  refine ZaK [vI 0] ?_
  refine ZyA fun bb mb σ1 h1 hX1 hnb hnm => ?_
  refine Zad ?_
  refine ZcI (vs := []) (cells := [.raw (.int .i64 0), .lst none 0 0 [], .lst none 0 0 []]) rfl ZAq ZAr rfl ?_
  refine Zad ?_
  refine Zjs (cs := [.raw (.int .i64 0), .lst none 0 0 [], .lst none 0 0 []]) rfl rfl fun br σ2 hn2 hu2 hb2 hub2 hX2 => ?_
  refine Zah ?_
  refine Zah ?_
  refine Zae ?_
  refine kp5 1 5 6 7 8 ?_
  clear he e
  intro e he
  have h2 := h1.ext hX2
  have r2 := ZDZ hb2 hub2
  have hbr : br ≠ bb /\ br ≠ mb := ⟨fun q => hu2 (by rw [q]; exact h1.used), fun q => hu2 (by rw [q]; exact h1.umap)⟩
  repeat refine Zab ?_
  first|refine Zaa ?_|refine Zac ?_
  refine Zah ?_
  refine Zah ?_
  refine Zah ?_
  refine Zad ?_
  refine Zc1 (k := .i64) (j := i) rfl rfl Zg4 Zdd hlt (fun q => by cases q) rfl fun ad => ?_
  refine Zad ?_
  refine Zdo (r := .lst Ai d.length ci (bys d ++ ri)) rfl Zg3 Zdd hci ?_
  refine Zad ?_
  refine Zif (vs := [.lst Ai d.length ci (bys d ++ ri)]) (cells := [.lst Ai d.length ci (bys d ++ ri)]) (by simp only [List.map_cons, List.map_nil, EV,Nat.reduceEqDiff,↓reduceIte,he];try rfl) Zg4 Zdd Zmg rfl (by omega) rfl rfl fun rb3 σ3 hN3 hX3 => ?_
  refine ZaK [ptr bb 0, .raw (sV nm2), .lst (some ⟨rb3, 0, none⟩) 1 1 [.lst Ai d.length ci (bys d ++ ri)]] ?_
  have h3 := h2.ext hX3
  refine ZtO (d := d) h3 (fun c hc => hc.elim (fun q => q ▸ h3.used) (fun q => q ▸ h3.umap)) hsi ⟨by simp [nm2], by simp [nm2]⟩ (by show d.length + 0 <= _; omega) (by simp) (fun hn => absurd (.inl (by omega)) hn) fun _ σ4 S4 fs4 pcs4 pv4 d1 d2 d3 d4 d5 d6 => ?_
  obtain ⟨jb, jv, rfl, _, _⟩ := Zx4 d6 (by simp) d1.nd
  have r4 : RAt σ4 br (fun c => c = br) [] [] 0 (.lst none 0 0 []) (.lst none 0 0 []) := (r2.ext hX3).but d2 fun c hc q => by
   rw [hc] at q
   exact q.elim hbr.1 hbr.2
  refine Zae ?_
  refine kp5 1 5 6 7 8 ?_
  clear he e
  intro e he
  repeat refine Zab ?_
  first|refine Zaa ?_|refine Zac ?_
  refine Zah ?_
  refine Zah ?_
  refine Zah ?_
  refine Zad ?_
  refine Zc1 (k := .i64) (j := i) rfl rfl Zg4 Zdd hlt (fun q => by cases q) rfl fun ad => ?_
  refine Zad ?_
  refine Zdo (r := .lst Ai d.length ci (bys d ++ ri)) rfl Zg3 Zdd hci ?_
  refine Zad ?_
  refine Zif (vs := [.lst Ai d.length ci (bys d ++ ri)]) (cells := [.lst Ai d.length ci (bys d ++ ri)]) (by simp only [List.map_cons, List.map_nil, EV,Nat.reduceEqDiff,↓reduceIte,he];try rfl) Zg4 Zdd Zmg rfl (by omega) rfl rfl fun rb5 σ5 hN5 hX5 => ?_
  refine ZaK [ptr br 0, .raw (sV nm2), .lst (some ⟨rb5, 0, none⟩) 1 1 [.lst Ai d.length ci (bys d ++ ri)]] ?_
  refine ZtT (pa := [d]) (r4.ext hX5) (Zzx (.cons hsi .none) (Zvh rb5 (n := [d].length) (by simp))) (by simp) (by simp) (by simp) (by simp [Zhf]; omega) (fun hn => absurd ⟨by simp [nm2], by simp [nm2]⟩ hn) (fun _ hn => absurd (.inl (by omega)) hn) fun _ _ σ6 S6 l6 ps6 fv6 pr6 e1 e2 e3 e4 e5 => ?_
  rw [List.flatten_cons, List.flatten_nil, List.append_nil] at e5
  obtain ⟨v6, rfl⟩ := Zyh e5
  have hd6 : DAt σ6 bb S4 [⟨nm2, jb, jv, d⟩] pcs4 0 mb pv4 := (d1.ext hX5).but e2 fun c hc q => by
   subst q
   rcases d4 c hc with q | q
   ·exact q.elim hbr.1 hbr.2
   ·have := q.1
    rw [hX3.keep _ _ hb2] at this
    cases this
  refine Zae ?_
  refine kp5 1 5 6 7 8 ?_
  clear he e
  intro e he
  repeat refine Zab ?_
  first|refine Zaa ?_|refine Zac ?_
  refine Zah ?_
  refine ZaK [ptr bb 0, vI ((2 : Nat) : Int)] ?_
  refine Zst (g := 2) (f0 := ⟨nm2, jb, jv, d⟩) hd6 (fun f hf => by rw [List.mem_singleton.1 hf]; dsimp only; omega) (by omega) ZDM (List.mem_singleton.2 rfl) ZB7.symm fun xs σ7 hxs hX7 => ?_
  dsimp only at hxs ⊢
  have hx7 : xs.length = 7 := hxs.len
  have hone : xs.all AV.one = true := List.all_eq_true.2 (hxs.ones (List.all_eq_true.1 (show (CT.enc 10 ((Zb3 d).getD Zql)).all XV.one = true from rfl)))
  refine Zah ?_
  refine Zad ?_
  refine Zax (l := [.agg xs, vT (Zb3 d).isSome, vI (if (Zb3 d).isSome then 0 else 9)]) rfl rfl ?_
  refine Zad ?_
  refine Zax (l := [.agg xs, vT (Zb3 d).isSome, vI (if (Zb3 d).isSome then 0 else 9)]) rfl rfl ?_
  refine Zad ?_
  refine Zax (l := [.agg xs, vT (Zb3 d).isSome, vI (if (Zb3 d).isSome then 0 else 9)]) rfl rfl ?_
  refine Zad ?_
  refine Zck (cs := ZfC) Zdy rfl fun b9 σ8 hn8 hu8 hb8 hub8 hX8 => ?_
  refine Zad ?_
  refine Zbn (b := b9) (o := 0) (u := .agg xs) (cs' := xs) rfl rfl hb8 ZaY (by simp [Zb4, hx7, hone, ZfC]) (by simp [ZaG, hx7, ZfC]) fun σ9 hb9 k9 => ?_
  refine Zah ?_
  refine Zah ?_
  refine Zae ?_
  refine kp7 1 5 6 8 9 10 11 ?_
  clear he e
  intro e he
  have hX69 : Ext σ6 σ9 := But.ext (hX7.trans hX8) (fun c hc => by rw [hc]; exact hX7.noneOf hn8) k9
  repeat refine Zab ?_
  first|refine Zaa ?_|refine Zac ?_
  refine Zah ?_
  refine ZaK [ptr br 0, vI ((2 : Nat) : Int)] ?_
  refine Zwx (g := 2) (f := ⟨nm2, v6, d⟩) (e1.ext hX69) (by simp) (fun f hf => by rw [List.mem_singleton.1 hf]; dsimp only; omega) (by omega) ZDM (List.mem_singleton.2 rfl) ZB7.symm fun ys σ10 hys hX10 => ?_
  dsimp only at hys ⊢
  have hy7 : ys.length = 7 := hys.len
  have hone2 : ys.all AV.one = true := List.all_eq_true.2 (hys.ones (List.all_eq_true.1 (show (CT.enc 10 ((Zb3 d).getD Zql)).all XV.one = true from rfl)))
  refine Zah ?_
  refine Zad ?_
  refine Zax (l := [.agg ys, vT (Zb3 d).isSome, vI (if (Zb3 d).isSome then 0 else 9)]) rfl rfl ?_
  refine Zad ?_
  refine Zax (l := [.agg ys, vT (Zb3 d).isSome, vI (if (Zb3 d).isSome then 0 else 9)]) rfl rfl ?_
  refine Zad ?_
  refine Zax (l := [.agg ys, vT (Zb3 d).isSome, vI (if (Zb3 d).isSome then 0 else 9)]) rfl rfl ?_
  refine Zad ?_
  refine Zck (cs := ZfC) Zdy rfl fun b12 σ11 hn11 hu11 hb11 hub11 hX11 => ?_
  refine Zad ?_
  refine Zbn (b := b12) (o := 0) (u := .agg ys) (cs' := ys) rfl rfl hb11 ZaY (by simp [Zb4, hy7, hone2, ZfC]) (by simp [ZaG, hy7, ZfC]) fun σ12 hb12 k12 => ?_
  refine Zah ?_
  refine Zah ?_
  refine Zae ?_
  refine kp9 1 5 6 9 10 11 12 13 14 ?_
  clear he e
  intro e he
  have hb9' : σ12.blk b9 = some (.own 44 xs) := (But.ext (hX10.trans hX11) (fun c hc => by rw [hc]; exact hX10.noneOf hn11) k12).keep _ _ hb9
  obtain ⟨few1, few2⟩ := ZwA d
  repeat refine Zab ?_
  first|refine Zaa ?_|refine Zac ?_
  refine Zah ?_
  refine Zah ?_
  refine Zad ?_
  refine ZAW (a := (Zb3 d).isSome) (b := (Zb3 d).isSome) ZB8 rfl rfl ?_
  rw [decide_eq_false (p := (Zb3 d).isSome ≠ (Zb3 d).isSome) fun q => q rfl]
  refine Zah ?_
  refine Zcn ?_
  refine ZjE rfl he.2.2.2.2.2.1 ?_
  refine Zcn ?_
  refine ZjE rfl he.2.2.2.2.2.2.2.2 ?_
  refine Zcn ?_
  refine Zjq (k := .i64) (a := if (Zb3 d).isSome then 0 else 9) (b := if (Zb3 d).isSome then 0 else 9) rfl rfl ?_
  rw [decide_eq_false (p := (if (Zb3 d).isSome then (0 : Int) else 9) ≠ if (Zb3 d).isSome then (0 : Int) else 9) fun q => q rfl]
  refine Zad ?_
  refine ZbR (v := vT false) rfl rfl ?_
  refine Zah ?_
  refine Zcn ?_
  refine ZaC (b := b9) (o := 0) (r := .agg xs) he.2.2.2.1 hb9' Zcd ZaY (Zdx hx7) ?_
  refine Zcn ?_
  refine ZaC (b := b12) (o := 0) (r := .agg ys) he.2.2.2.2.2.2.1 hb12 Zcd ZaY (Zdx hy7) ?_
  refine Zcn ?_
  refine Zgt (vs := [.agg xs, .agg ys]) (by simp only [List.map_cons, List.map_nil, EV,Nat.reduceEqDiff,↓reduceIte,he];try rfl) ?_
  refine ZnC few1 few2 hxs hys fun σ13 hX13 => ?_
  refine Zcn ?_
  refine ZrX (b := true) rfl ?_
  refine Zad ?_
  refine ZbR (v := vT false) rfl rfl ?_
  refine Zae ?_
  refine kp4 1 5 6 91 ?_
  clear he e
  intro e he
  refine ZcJ (t := false) he.2.2.2 (fun ht => by cases ht) (fun ht => ?_)
  refine ZeD ?_
  show ZaJ _ _ _ _ _ _
  repeat refine Zab ?_
  first|refine Zaa ?_|refine Zac ?_
  refine Zah ?_
  refine ZfM i 1 ?_
  refine Zah ?_
  refine Zae ?_
  show ∃ n', n' < _ /\ _
  exact ⟨_, (by omega : 5 - (i + 1) < 5 - i), i + 1, rfl, hlt, ⟨by simp only [EV,Nat.reduceEqDiff,↓reduceIte,he];try rfl, by simp only [EV,Nat.reduceEqDiff,↓reduceIte,he];try rfl, by simp only [EV,Nat.reduceEqDiff,↓reduceIte,he];try rfl⟩⟩
 refine Ze5 ?_
 show ZaJ _ _ _ _ _ _
 repeat refine Zab ?_
 first|refine Zaa ?_|refine Zac ?_
 refine Zah ?_
 refine ZaK [.lst Ad data.length cd (bys data ++ rd)] ?_
 refine Zwy (by omega) hvd fun u σ1 hu1 hu2 hX1 => ?_
 refine Zah ?_
 refine Zae ?_
 refine kp2 1 15 ?_
 clear he e
 intro e he
 repeat refine Zab ?_
 first|refine Zaa ?_|refine Zac ?_
 refine Zah ?_
 refine ZaK [u] ?_
 refine Zss (by omega) hu2 fun xs σ2 hxs hX2 => ?_
 have hx7 : xs.length = 7 := hxs.len
 have hone : xs.all AV.one = true := List.all_eq_true.2 (hxs.ones (List.all_eq_true.1 (show (CT.enc 10 ((ZgA data).getD Zql)).all XV.one = true from rfl)))
 refine Zah ?_
 refine Zad ?_
 refine Zax (l := [.agg xs, vT (ZgA data).isSome]) rfl rfl ?_
 refine Zad ?_
 refine Zax (l := [.agg xs, vT (ZgA data).isSome]) rfl rfl ?_
 refine Zad ?_
 refine Zck (cs := ZfC) Zdy rfl fun b16 σ3 hn3 hu3 hb3 hub3 hX3 => ?_
 refine Zad ?_
 refine Zbn (b := b16) (o := 0) (u := .agg xs) (cs' := xs) rfl rfl hb3 ZaY (by simp [Zb4, hx7, hone, ZfC]) (by simp [ZaG, hx7, ZfC]) fun σ4 hb4 k4 => ?_
 refine Zah ?_
 refine Zae ?_
 refine kp4 1 15 16 17 ?_
 clear he e
 intro e he
 repeat refine Zab ?_
 first|refine Zaa ?_|refine Zac ?_
 refine Zah ?_
 refine ZaK [.lst Ad data.length cd (bys data ++ rd)] ?_
 refine ZnB (by omega) hvd fun ys σ5 hys hX5 => ?_
 have hy7 : ys.length = 7 := hys.len
 have hone2 : ys.all AV.one = true := List.all_eq_true.2 (hys.ones (List.all_eq_true.1 (show (CT.enc 10 ((ZgA data).getD Zql)).all XV.one = true from rfl)))
 refine Zah ?_
 refine Zad ?_
 refine Zax (l := [.agg ys, vT (ZgA data).isSome]) rfl rfl ?_
 refine Zad ?_
 refine Zax (l := [.agg ys, vT (ZgA data).isSome]) rfl rfl ?_
 refine Zad ?_
 refine Zck (cs := ZfC) Zdy rfl fun b18 σ6 hn6 hu6 hb6 hub6 hX6 => ?_
 refine Zad ?_
 refine Zbn (b := b18) (o := 0) (u := .agg ys) (cs' := ys) rfl rfl hb6 ZaY (by simp [Zb4, hy7, hone2, ZfC]) (by simp [ZaG, hy7, ZfC]) fun σ7 hb7 k7 => ?_
 refine Zah ?_
 refine Zae ?_
 refine kp6 1 15 16 17 18 19 ?_
 clear he e
 intro e he
 have hb47 : σ7.blk b16 = some (.own 44 xs) := (But.ext (hX5.trans hX6) (fun c hc => by rw [hc]; exact hX5.noneOf hn6) k7).keep _ _ hb4
 obtain ⟨few1, few2⟩ := ZsG data
 repeat refine Zab ?_
 first|refine Zaa ?_|refine Zac ?_
 refine Zah ?_
 refine Zah ?_
 refine Zad ?_
 refine ZAV (a := (ZgA data).isSome) (b := (ZgA data).isSome) ZB8 rfl rfl ?_
 rw [decide_eq_true (p := (ZgA data).isSome = (ZgA data).isSome) rfl]
 refine Zah ?_
 refine Zcn ?_
 refine ZaC (b := b16) (o := 0) (r := .agg xs) he.2.2.1 hb47 Zcd ZaY (Zdx hx7) ?_
 refine Zcn ?_
 refine ZaC (b := b18) (o := 0) (r := .agg ys) he.2.2.2.2.1 hb7 Zcd ZaY (Zdx hy7) ?_
 refine Zcn ?_
 refine Zgt (vs := [.agg xs, .agg ys]) (by simp only [List.map_cons, List.map_nil, EV,Nat.reduceEqDiff,↓reduceIte,he];try rfl) ?_
 refine ZnC few1 few2 hxs hys fun σ8 hX8 => ?_
 refine Zad ?_
 refine Zbb (v := vT true) rfl rfl ?_
 refine Zah ?_
 refine Zcn ?_
 refine ZjE rfl he.2.1 ?_
 refine Zcn ?_
 refine ZjE rfl he.1 ?_
 refine Zcn ?_
 refine Zgt (vs := [u, .lst Ad data.length cd (bys data ++ rd)]) (by simp only [List.map_cons, List.map_nil, EV,Nat.reduceEqDiff,↓reduceIte,he];try rfl) ?_
 refine Zwz (by omega) hu1 hvd fun σ9 hX9 => ?_
 refine Zad ?_
 refine Zbb (v := vT true) rfl rfl ?_
 refine Zah ?_
 refine Zcn ?_
 refine Zgt (vs := []) rfl ?_
 refine Zkb fun σ10 hX10 => ?_
 refine Zad ?_
 refine Zbb (v := vT true) rfl rfl ?_
 refine Zah ?_
 refine Zae ?_
 refine kp1 4 ?_
 clear he e
 intro e he
 refine ZaZ ?_
 exact ZbW (hK _)
theorem ZoP (x0 x1 : List UInt8) (k0 : ZlU x0) (k1 : ZlU x1) : Tr CT Tryz.prog (fun _ => True) 3 [.sl 1 x0 none, .sl 1 x1 none] [] (.bool true) [] := by
 intro ρ σ vs hs _
 obtain ⟨a0, b0, rfl, s0, hs⟩ := hs.to
 obtain ⟨a1, rfl, s1⟩ := ZeG.1 hs
 have s0 : SV CT 0 ZaV (.sl 1 x0 none) a0 := SVs.shut s0 (by intro x hx; rw [List.mem_singleton.1 hx]; rfl)
 have s1 : SV CT 0 ZaV (.sl 1 x1 none) a1 := SVs.shut s1 (by intro x hx; rw [List.mem_singleton.1 hx]; rfl)
 refine Ztb (Zm1 s0 s1 fun τ => rfl) (fun w B => ZaL _) _ fun τ hX => ?_
 exact ⟨ρ, Za7.2 rfl, Zyw _, Nat.zero_le _, fun i hi => absurd hi (Nat.not_lt_zero i), ⟨fun b k _ hk => hX.keep _ _ hk, hX.used⟩, fun b ⟨i, x, hx, _⟩ => by simp at hx⟩
end
end Go.Proofs.YteempnebenjkmaaGreatDoor
