/- Disks that are none. -/
import Derived.Test.YtinpiaibhjmfaaaRef
namespace Go.Proofs.Ytinpiaibhjmfaaa
open Go.RowKit
set_option maxRecDepth 100000
set_option linter.unusedVariables false
set_option linter.unusedSimpArgs false
def NoD (σ : St) (p : AV) : Prop := p = .raw (.pointer none) \/ ∃ b pv n, p = ptr b 0 /\ σ.blk b = some (.own 65 [pv, .raw (.map none), n])
section
variable {σ τ : St} {K : AV -> St -> Prop} {p : AV}
theorem NoD.ext (h : NoD σ p) (k : Ext σ τ) : NoD τ p := by
 rcases h with h | ⟨b, pv, n, h1, h2⟩
 ·exact .inl h
 ·exact .inr ⟨b, pv, n, h1, k.keep _ _ h2⟩
theorem NoD.one (h : NoD σ p) : Zbi p = true /\ p.cells = [p] /\ p.one = true := by
 rcases h with rfl | ⟨b, pv, n, rfl, h2⟩
 ·exact ⟨rfl, rfl, rfl⟩
 ·exact ⟨rfl, rfl, rfl⟩
theorem ZmB {P : Program} {ops : Array Oper} {env : Env} {σ : St} {K : Env -> St -> Prop} {d : Option Nat} {ty ty' t : TypeId} {pos : String} {af : Array Edge} {x y : Operand} {kt et : TypeId} (ht : P.underlying t = some (.map kt et)) (hx : ev env x = .raw (.map none)) (hy : ev env y = .raw (.map none)) (h : K (env.put d (.raw (.bool false))) σ) : aOp P ops ⟨d, .binOp .neq t x y ty', ty, pos, af, none⟩ env σ K :=
 ZdZ hx hy (fun w _ _ => by simp [eqGuard_at_map, run_neq_map_nil w t _ _ _ ht]) h
theorem Zdf (h : NoD σ p) (hK : K (vT false) σ) : Zat Try.prog 34 [p] σ K := by
 refine Zam Zas Try.func34 rfl rfl rfl (Nat.le_of_ble_eq_true rfl) ?_
 refine Zbz 0 (v0 := p) rfl ?_
 intro e he
 refine Zaa ?_
 refine Zab (Zae rfl (by simp only [EV,Nat.reduceEqDiff,↓reduceIte,he];try rfl) ?_)
 refine Zaf ?_
 apply Zbz 0
 ·simp only [EV,Nat.reduceEqDiff,↓reduceIte,he];try rfl
 clear he e
 intro e he
 refine Zaa ?_
 refine Zab (Zae rfl he ?_)
 refine Zab ?_
 rcases h with rfl | ⟨b, pv, n, rfl, hb⟩
 ·refine Zer (p := none) Zis rfl rfl rfl ?_
  refine Zab (Zae rfl (by simp only [EV,Nat.reduceEqDiff,↓reduceIte,he];try rfl) ?_)
  refine Zab (Zan (ZaN rfl (by simp only [EV,Nat.reduceEqDiff,↓reduceIte,he];try rfl)) ?_)
  refine Zab (Zan (ZaN rfl (by simp only [EV,Nat.reduceEqDiff,↓reduceIte,he];try rfl)) ?_)
  refine Zab (Zan (ZaN rfl (by simp only [EV,Nat.reduceEqDiff,↓reduceIte,he];try rfl)) ?_)
  refine Zab (Zan (ZaN rfl (by simp only [EV,Nat.reduceEqDiff,↓reduceIte,he];try rfl)) ?_)
  refine Zab (Zan (ZaN rfl (by simp only [EV,Nat.reduceEqDiff,↓reduceIte,he];try rfl)) ?_)
  refine Zab ?_
  refine Za2 (v := vT false) rfl rfl ?_
  refine Zab (Zae rfl (by simp only [EV,Nat.reduceEqDiff,↓reduceIte,he];try rfl) ?_)
  refine Zaf ?_
  refine Zax ?_
  show ∃ r, Zaj _ _ _ _ r /\ _
  exact ⟨_, Zal rfl rfl, hK⟩
 ·refine Zer (p := some ⟨b, 0, none⟩) Zis rfl rfl rfl ?_
  refine Zab (Zae rfl (by simp only [EV,Nat.reduceEqDiff,↓reduceIte,he];try rfl) ?_)
  refine Zab (Zah (ZaN rfl (by simp only [EV,Nat.reduceEqDiff,↓reduceIte,he];try rfl)) ?_)
  refine Zae rfl he ?_
  refine Zab (Zah (ZaN rfl (by simp only [EV,Nat.reduceEqDiff,↓reduceIte,he];try rfl)) ?_)
  refine Zak (v := ptr b 0) rfl rfl ?_
  refine Zab (Zah (ZaN rfl (by simp only [EV,Nat.reduceEqDiff,↓reduceIte,he];try rfl)) ?_)
  refine Zag (b := b) (o := 0) rfl Zbn rfl ?_
  refine Zab (Zah (ZaN rfl (by simp only [EV,Nat.reduceEqDiff,↓reduceIte,he];try rfl)) ?_)
  refine Zar (b := b) (o := 0 + 1) (r := .raw (.map none)) rfl hb ZcH ZcG rfl ?_
  refine Zab (Zah (ZaN rfl (by simp only [EV,Nat.reduceEqDiff,↓reduceIte,he];try rfl)) ?_)
  refine ZmB ZdF rfl rfl ?_
  refine Zab ?_
  refine ZaG (v := vT false) rfl rfl ?_
  refine Zab (Zae rfl (by simp only [EV,Nat.reduceEqDiff,↓reduceIte,he];try rfl) ?_)
  refine Zaf ?_
  refine Zax ?_
  show ∃ r, Zaj _ _ _ _ r /\ _
  exact ⟨_, Zal rfl rfl, hK⟩
theorem Zi3 {n : Int} (h : NoD σ p) (hK : K (.tup []) σ) : Zat Try.prog 15 [p, .raw (.int .i64 n)] σ K := by
 refine Zam Zas Try.func15 rfl rfl rfl (Nat.le_of_ble_eq_true rfl) ?_
 refine ZaK 0 1 (v0 := p) (v1 := .raw (.int .i64 n)) rfl rfl ?_
 intro e he
 repeat refine Zac ?_
 first|refine Zaa ?_|refine Zad ?_
 refine Zab (Zae rfl he.1 ?_)
 refine Zab ?_
 refine Zao (vs := [p]) (by simp only [List.map_cons, List.map_nil, EV,Nat.reduceEqDiff,↓reduceIte,he];try rfl) ?_
 refine Zdf h ?_
 refine Zab ?_
 with_reducible apply ZbB
 case hx => simp only [EV,Nat.reduceEqDiff,↓reduceIte,he];try rfl
 refine Zaf ?_
 apply ZaL 0 1 9
 iterate 3 ·simp only [EV,Nat.reduceEqDiff,↓reduceIte,he];try rfl
 clear he e
 intro e he
 refine Zav (t := true) he.2.2 (fun _ => ?_) (fun hf => by cases hf)
 refine Zcw ?_
 exact ⟨_, Zce rfl, hK⟩
theorem ZnD {k : List UInt8} (h : NoD σ p) (hK : K (.tup [.lst none 0 0 [], vT false]) σ) : Zat Try.prog 12 [p, .raw (sV k)] σ K := by
 refine Zam Zas Try.func12 rfl rfl rfl (Nat.le_of_ble_eq_true rfl) ?_
 refine ZaK 0 1 (v0 := p) (v1 := .raw (sV k)) rfl rfl ?_
 intro e he
 repeat refine Zac ?_
 first|refine Zaa ?_|refine Zad ?_
 refine Zab (Zae rfl (by simp only [EV,Nat.reduceEqDiff,↓reduceIte,he];try rfl) ?_)
 refine Zab (Zae rfl (by simp only [EV,Nat.reduceEqDiff,↓reduceIte,he];try rfl) ?_)
 refine Zaf ?_
 apply ZaK 0 1
 iterate 2 ·simp only [EV,Nat.reduceEqDiff,↓reduceIte,he];try rfl
 clear he e
 intro e he
 repeat refine Zac ?_
 first|refine Zaa ?_|refine Zad ?_
 refine Zab (Zae rfl he.1 ?_)
 refine Zab ?_
 refine Zao (vs := [p]) (by simp only [List.map_cons, List.map_nil, EV,Nat.reduceEqDiff,↓reduceIte,he];try rfl) ?_
 refine Zdf h ?_
 refine Zab ?_
 with_reducible apply ZbB
 case hx => simp only [EV,Nat.reduceEqDiff,↓reduceIte,he];try rfl
 refine Zab (Zae rfl (by simp only [EV,Nat.reduceEqDiff,↓reduceIte,he];try rfl) ?_)
 refine Zab (Zan (ZaN rfl (by simp only [EV,Nat.reduceEqDiff,↓reduceIte,he];try rfl)) ?_)
 refine Zab (Zan (ZaN rfl (by simp only [EV,Nat.reduceEqDiff,↓reduceIte,he];try rfl)) ?_)
 refine Zab (Zan (ZaN rfl (by simp only [EV,Nat.reduceEqDiff,↓reduceIte,he];try rfl)) ?_)
 refine Zab (Zan (ZaN rfl (by simp only [EV,Nat.reduceEqDiff,↓reduceIte,he];try rfl)) ?_)
 refine Zab (Zan (ZaN rfl (by simp only [EV,Nat.reduceEqDiff,↓reduceIte,he];try rfl)) ?_)
 refine Zab (Zan (ZaN rfl (by simp only [EV,Nat.reduceEqDiff,↓reduceIte,he];try rfl)) ?_)
 refine Zab (Zan (ZaN rfl (by simp only [EV,Nat.reduceEqDiff,↓reduceIte,he];try rfl)) ?_)
 refine Zab ?_
 refine ZaG (v := vT true) rfl rfl ?_
 refine Zaf ?_
 apply ZaL 0 1 17
 iterate 3 ·simp only [EV,Nat.reduceEqDiff,↓reduceIte,he];try rfl
 clear he e
 intro e he
 refine Zav (t := true) he.2.2 (fun _ => ?_) (fun hf => by cases hf)
 repeat refine Zac ?_
 first|refine Zaa ?_|refine Zad ?_
 refine Zab (Zae rfl (by simp only [EV,Nat.reduceEqDiff,↓reduceIte,he];try rfl) ?_)
 refine Zab (Zae rfl (by simp only [EV,Nat.reduceEqDiff,↓reduceIte,he];try rfl) ?_)
 refine Zaf ?_
 refine Zcw ?_
 exact Zfi rfl (Zda rfl) (Zda rfl) hK
theorem Zko (h : NoD σ p) (hK : K (.raw (.pointer none)) σ) : Zat Try.prog 18 [p] σ K := by
 refine Zam Zas Try.func18 rfl rfl rfl (Nat.le_of_ble_eq_true rfl) ?_
 refine Zbz 0 (v0 := p) rfl ?_
 intro e he
 repeat refine Zac ?_
 first|refine Zaa ?_|refine Zad ?_
 refine Zab (Zae rfl (by simp only [EV,Nat.reduceEqDiff,↓reduceIte,he];try rfl) ?_)
 refine Zaf ?_
 apply Zbz 0
 ·simp only [EV,Nat.reduceEqDiff,↓reduceIte,he];try rfl
 clear he e
 intro e he
 repeat refine Zac ?_
 first|refine Zaa ?_|refine Zad ?_
 refine Zab (Zae rfl he ?_)
 refine Zab ?_
 refine Zao (vs := [p]) (by simp only [List.map_cons, List.map_nil, EV,Nat.reduceEqDiff,↓reduceIte,he];try rfl) ?_
 refine Zdf h ?_
 refine Zab ?_
 with_reducible apply ZbB
 case hx => simp only [EV,Nat.reduceEqDiff,↓reduceIte,he];try rfl
 refine Zaf ?_
 apply ZaK 0 11
 iterate 2 ·simp only [EV,Nat.reduceEqDiff,↓reduceIte,he];try rfl
 clear he e
 intro e he
 refine Zav (t := true) he.2 (fun _ => ?_) (fun hf => by cases hf)
 repeat refine Zac ?_
 first|refine Zaa ?_|refine Zad ?_
 refine Zab (Zae rfl (by simp only [EV,Nat.reduceEqDiff,↓reduceIte,he];try rfl) ?_)
 refine Zaf ?_
 refine Zcw ?_
 show ∃ r, Zaj _ _ _ _ r /\ _
 exact ⟨_, Zal rfl rfl, hK⟩
theorem Zi4 (h : NoD σ p) (hK : K (.lst none 0 0 []) σ) : Zat Try.prog 28 [p] σ K := by
 refine Zam Zas Try.func28 rfl rfl rfl (Nat.le_of_ble_eq_true rfl) ?_
 refine Zbz 0 (v0 := p) rfl ?_
 intro e he
 repeat refine Zac ?_
 first|refine Zaa ?_|refine Zad ?_
 refine Zab (Zae rfl (by simp only [EV,Nat.reduceEqDiff,↓reduceIte,he];try rfl) ?_)
 refine Zaf ?_
 apply Zbz 0
 ·simp only [EV,Nat.reduceEqDiff,↓reduceIte,he];try rfl
 clear he e
 intro e he
 repeat refine Zac ?_
 first|refine Zaa ?_|refine Zad ?_
 refine Zab (Zae rfl he ?_)
 refine Zab ?_
 refine Zao (vs := [p]) (by simp only [List.map_cons, List.map_nil, EV,Nat.reduceEqDiff,↓reduceIte,he];try rfl) ?_
 refine Zdf h ?_
 refine Zab ?_
 with_reducible apply ZbB
 case hx => simp only [EV,Nat.reduceEqDiff,↓reduceIte,he];try rfl
 refine Zaf ?_
 apply ZaK 0 5
 iterate 2 ·simp only [EV,Nat.reduceEqDiff,↓reduceIte,he];try rfl
 clear he e
 intro e he
 refine Zav (t := true) he.2 (fun _ => ?_) (fun hf => by cases hf)
 repeat refine Zac ?_
 first|refine Zaa ?_|refine Zad ?_
 refine Zab (Zae rfl (by simp only [EV,Nat.reduceEqDiff,↓reduceIte,he];try rfl) ?_)
 refine Zaf ?_
 refine Zcw ?_
 show ∃ r, Zaj _ _ _ _ r /\ _
 exact ⟨_, Zal rfl rfl, hK⟩
theorem Zi5 (h : NoD σ p) (hK : K (vI 0) σ) : Zat Try.prog 14 [p] σ K := by
 refine Zam Zas Try.func14 rfl rfl rfl (Nat.le_of_ble_eq_true rfl) ?_
 refine Zbz 0 (v0 := p) rfl ?_
 intro e he
 repeat refine Zac ?_
 first|refine Zaa ?_|refine Zad ?_
 refine Zab (Zae rfl (by simp only [EV,Nat.reduceEqDiff,↓reduceIte,he];try rfl) ?_)
 refine Zaf ?_
 apply Zbz 0
 ·simp only [EV,Nat.reduceEqDiff,↓reduceIte,he];try rfl
 clear he e
 intro e he
 repeat refine Zac ?_
 first|refine Zaa ?_|refine Zad ?_
 refine Zab (Zae rfl he ?_)
 refine Zab ?_
 refine Zao (vs := [p]) (by simp only [List.map_cons, List.map_nil, EV,Nat.reduceEqDiff,↓reduceIte,he];try rfl) ?_
 refine Zdf h ?_
 refine Zab ?_
 with_reducible apply ZbB
 case hx => simp only [EV,Nat.reduceEqDiff,↓reduceIte,he];try rfl
 refine Zaf ?_
 apply ZaK 0 5
 iterate 2 ·simp only [EV,Nat.reduceEqDiff,↓reduceIte,he];try rfl
 clear he e
 intro e he
 refine Zav (t := true) he.2 (fun _ => ?_) (fun hf => by cases hf)
 repeat refine Zac ?_
 first|refine Zaa ?_|refine Zad ?_
 refine Zab (Zae rfl (by simp only [EV,Nat.reduceEqDiff,↓reduceIte,he];try rfl) ?_)
 refine Zaf ?_
 refine Zcw ?_
 show ∃ r, Zaj _ _ _ _ r /\ _
 exact ⟨_, Zal rfl rfl, hK⟩
theorem Zhk {k v : AV} (h : NoD σ p) (hK : K (vI 1) σ) : Zat Try.prog 10 [p, k, v] σ K := by
 refine Zam Zas Try.func10 rfl rfl rfl (Nat.le_of_ble_eq_true rfl) ?_
 refine ZaL 0 1 2 (v0 := p) (v1 := k) (v2 := v) rfl rfl rfl ?_
 intro e he
 repeat refine Zac ?_
 first|refine Zaa ?_|refine Zad ?_
 refine Zab (Zae rfl (by simp only [EV,Nat.reduceEqDiff,↓reduceIte,he];try rfl) ?_)
 refine Zaf ?_
 apply ZaL 0 1 2
 iterate 3 ·simp only [EV,Nat.reduceEqDiff,↓reduceIte,he];try rfl
 clear he e
 intro e he
 refine ZaD ?_
 repeat refine Zac ?_
 first|refine Zaa ?_|refine Zad ?_
 refine Zab (Zae rfl he.1 ?_)
 refine Zab ?_
 refine Zao (vs := [p]) (by simp only [List.map_cons, List.map_nil, EV,Nat.reduceEqDiff,↓reduceIte,he];try rfl) ?_
 refine Zdf h ?_
 refine Zab ?_
 with_reducible apply ZbB
 case hx => simp only [EV,Nat.reduceEqDiff,↓reduceIte,he];try rfl
 refine Zab (Zae rfl (by simp only [EV,Nat.reduceEqDiff,↓reduceIte,he];try rfl) ?_)
 refine Zaf ?_
 apply ZaP 0 1 2 9
 iterate 4 ·simp only [EV,Nat.reduceEqDiff,↓reduceIte,he];try rfl
 clear he e
 intro e he
 refine ZaS (t := true) he.2.2.2 (fun _ => ?_) (fun hf => by cases hf)
 repeat refine Zac ?_
 first|refine Zaa ?_|refine Zad ?_
 refine Zab (Zae rfl (by simp only [EV,Nat.reduceEqDiff,↓reduceIte,he];try rfl) ?_)
 refine Zaf ?_
 refine Zcw ?_
 show ∃ r, Zaj _ _ _ _ r /\ _
 exact ⟨_, Zal rfl rfl, hK⟩
theorem Zge {f v : AV} (h : NoD σ p) (hK : K (vI 1) σ) : Zat Try.prog 38 [p, f, v] σ K := by
 refine Zam Zas Try.func38 rfl rfl rfl (Nat.le_of_ble_eq_true rfl) ?_
 refine ZaL 0 1 2 (v0 := p) (v1 := f) (v2 := v) rfl rfl rfl ?_
 intro e he
 repeat refine Zac ?_
 first|refine Zaa ?_|refine Zad ?_
 refine Zab (Zae rfl (by simp only [EV,Nat.reduceEqDiff,↓reduceIte,he];try rfl) ?_)
 refine Zaf ?_
 apply ZaL 0 1 2
 iterate 3 ·simp only [EV,Nat.reduceEqDiff,↓reduceIte,he];try rfl
 clear he e
 intro e he
 repeat refine Zac ?_
 first|refine Zaa ?_|refine Zad ?_
 refine Zab (Zae rfl he.1 ?_)
 refine Zab ?_
 refine Zao (vs := [p]) (by simp only [List.map_cons, List.map_nil, EV,Nat.reduceEqDiff,↓reduceIte,he];try rfl) ?_
 refine Zdf h ?_
 refine Zab ?_
 with_reducible apply ZbB
 case hx => simp only [EV,Nat.reduceEqDiff,↓reduceIte,he];try rfl
 refine Zaf ?_
 apply ZaP 0 1 2 12
 iterate 4 ·simp only [EV,Nat.reduceEqDiff,↓reduceIte,he];try rfl
 clear he e
 intro e he
 refine Zav (t := true) he.2.2.2 (fun _ => ?_) (fun hf => by cases hf)
 repeat refine Zac ?_
 first|refine Zaa ?_|refine Zad ?_
 refine Zab (Zae rfl (by simp only [EV,Nat.reduceEqDiff,↓reduceIte,he];try rfl) ?_)
 refine Zaf ?_
 refine Zcw ?_
 show ∃ r, Zaj _ _ _ _ r /\ _
 exact ⟨_, Zal rfl rfl, hK⟩
theorem ZnE {v : AV} (h : NoD σ p) (hK : ∀ τ, Ext σ τ -> K (vI 1) τ) : Zat Try.prog 11 [p, v] σ K := by
 refine Zam Zas Try.func11 rfl rfl rfl (Nat.le_of_ble_eq_true rfl) ?_
 refine ZaK 0 1 (v0 := p) (v1 := v) rfl rfl ?_
 intro e he
 repeat refine Zac ?_
 first|refine Zaa ?_|refine Zad ?_
 refine Zab ?_
 refine Zdq (cs := [p]) (v := p) he.1 (by simp [h.one]) fun b2 σ1 hn hu hb hub hX => ?_
 refine Zab (Zae rfl (by simp only [EV,Nat.reduceEqDiff,↓reduceIte,he];try rfl) ?_)
 refine Zaf ?_
 apply ZaK 1 2
 iterate 2 ·simp only [EV,Nat.reduceEqDiff,↓reduceIte,he];try rfl
 clear he e
 intro e he
 repeat refine Zac ?_
 first|refine Zaa ?_|refine Zad ?_
 refine Zab ?_
 refine Zar (b := b2) (o := 0) (r := p) he.2 hb ZcJ ZcK rfl ?_
 refine Zab ?_
 refine ZdS (vs := [ptr b2 0]) (by simp only [List.map_cons, List.map_nil, EV,Nat.reduceEqDiff,↓reduceIte,he];try rfl) ?_
 refine Zab (Zae rfl he.1 ?_)
 refine Zab ?_
 refine Zao (vs := [p, .raw (.func (.func 39) #[] (([ptr b2 0].map AV.val).toArray)), v]) (by simp only [List.map_cons, List.map_nil, EV,Nat.reduceEqDiff,↓reduceIte,he];try rfl) ?_
 refine Zge (h.ext hX) ?_
 refine Zab (Zae rfl (by simp only [EV,Nat.reduceEqDiff,↓reduceIte,he];try rfl) ?_)
 refine Zaf ?_
 refine Zax ?_
 show ∃ r, Zaj _ _ _ _ r /\ _
 exact ⟨_, Zal rfl rfl, hK _ hX⟩
theorem ZkT {v : AV} (h : NoD σ p) (hK : K (vI 1) σ) : Zat Try.prog 31 [p, v] σ K := by
 refine Zam Zas Try.func31 rfl rfl rfl (Nat.le_of_ble_eq_true rfl) ?_
 refine ZaK 0 1 (v0 := p) (v1 := v) rfl rfl ?_
 intro e he
 repeat refine Zac ?_
 first|refine Zaa ?_|refine Zad ?_
 refine Zab (Zae rfl (by simp only [EV,Nat.reduceEqDiff,↓reduceIte,he];try rfl) ?_)
 refine Zaf ?_
 apply ZaK 0 1
 iterate 2 ·simp only [EV,Nat.reduceEqDiff,↓reduceIte,he];try rfl
 clear he e
 intro e he
 repeat refine Zac ?_
 first|refine Zaa ?_|refine Zad ?_
 refine Zab (Zae rfl he.1 ?_)
 refine Zab (Zae rfl he.1 ?_)
 refine Zab ?_
 refine Ziu (us := [p]) (vs := []) (by simp only [List.map_cons, List.map_nil, EV,Nat.reduceEqDiff,↓reduceIte,he];try rfl) rfl ?_
 refine Zab (Zae rfl he.2 ?_)
 refine Zab ?_
 refine Zao (vs := [p, .raw (.func (.func 63) (([p].map AV.val).toArray) (([].map AV.val).toArray)), v]) (by simp only [List.map_cons, List.map_nil, EV,Nat.reduceEqDiff,↓reduceIte,he];try rfl) ?_
 refine Zge h ?_
 refine Zab (Zae rfl (by simp only [EV,Nat.reduceEqDiff,↓reduceIte,he];try rfl) ?_)
 refine Zaf ?_
 refine Zax ?_
 show ∃ r, Zaj _ _ _ _ r /\ _
 exact ⟨_, Zal rfl rfl, hK⟩
theorem ZoL {k : List UInt8} {n : Int} (h : NoD σ p) (hK : ∀ τ, Ext σ τ -> K (vI 1) τ) : Zat Try.prog 29 [p, .raw (sV k), .raw (.int .i64 n)] σ K := by
 refine Zam Zas Try.func29 rfl rfl rfl (Nat.le_of_ble_eq_true rfl) ?_
 refine ZaL 0 1 2 (v0 := p) (v1 := .raw (sV k)) (v2 := .raw (.int .i64 n)) rfl rfl rfl ?_
 intro e he
 repeat refine Zac ?_
 first|refine Zaa ?_|refine Zad ?_
 refine Zab ?_
 refine Zdq (cs := [p]) (v := p) he.1 (by simp [h.one]) fun b3 σ1 hn3 hu3 hb3 hub3 hX1 => ?_
 refine Zab ?_
 refine Zdq (cs := [.raw (.int .i64 n)]) (v := .raw (.int .i64 n)) he.2.2 rfl fun b5 σ2 hn5 hu5 hb5 hub5 hX2 => ?_
 refine Zab (Zae rfl (by simp only [EV,Nat.reduceEqDiff,↓reduceIte,he];try rfl) ?_)
 refine Zaf ?_
 apply ZaL 1 3 5
 iterate 3 ·simp only [EV,Nat.reduceEqDiff,↓reduceIte,he];try rfl
 clear he e
 intro e he
 repeat refine Zac ?_
 first|refine Zaa ?_|refine Zad ?_
 refine Zab ?_
 refine Zd0 ZlZ rfl fun b7 σ3 hn7 hu7 hb7 hub7 hX3 => ?_
 refine Zab ?_
 refine ZbQ (b := b7) (o := 0) (v := vI 0) rfl rfl hb7 ZhJ ⟨rfl, rfl, rfl⟩ (Nat.zero_lt_succ _) fun σ4 hb74 k4 => ?_
 refine Zaf ?_
 have hX4 : Ext σ2 σ4 := But.ext hX3 (fun g hg => by rw [hg]; exact hn7) k4
 have hE : Ext σ σ4 := (hX1.trans hX2).trans hX4
 have hb34 := hX4.keep _ _ (hX2.keep _ _ hb3)
 apply ZaP 1 3 5 7
 iterate 4 ·simp only [EV,Nat.reduceEqDiff,↓reduceIte,he];try rfl
 clear he e
 intro e he
 repeat refine Zac ?_
 first|refine Zaa ?_|refine Zad ?_
 refine Zab ?_
 refine Zar (b := b3) (o := 0) (r := p) he.2.1 hb34 ZcJ ZcK rfl ?_
 refine Zab ?_
 refine ZdS (vs := [ptr b5 0, ptr b7 0, ptr b3 0]) (by simp only [List.map_cons, List.map_nil, EV,Nat.reduceEqDiff,↓reduceIte,he];try rfl) ?_
 refine Zab (Zae rfl he.1 ?_)
 refine Zab ?_
 refine Zbd (vs := [.raw (sV k)]) (cells := [.raw (sV k)]) (by simp only [List.map_cons, List.map_nil, EV,Nat.reduceEqDiff,↓reduceIte,he];try rfl) ZaE Zb3 ZdL rfl (by decide) rfl fun b9 hu9 hb9 => ?_
 have hX5 := Ext.put (σ := σ4) (.tail 9 (1 * 1) (1 * 1)) hb9
 refine Zab ?_
 refine Zao (vs := [p, .raw (.func (.func 61) #[] (([ptr b5 0, ptr b7 0, ptr b3 0].map AV.val).toArray)), .lst (some ⟨b9, 0, none⟩) 1 1 [.raw (sV k)]]) (by simp only [List.map_cons, List.map_nil, EV,Nat.reduceEqDiff,↓reduceIte,he];try rfl) ?_
 refine Zge (h.ext (hE.trans hX5)) ?_
 refine Zab (Zae rfl (by simp only [EV,Nat.reduceEqDiff,↓reduceIte,he];try rfl) ?_)
 refine Zaf ?_
 apply ZaK 7 8
 iterate 2 ·simp only [EV,Nat.reduceEqDiff,↓reduceIte,he];try rfl
 clear he e
 intro e he
 repeat refine Zac ?_
 first|refine Zaa ?_|refine Zad ?_
 refine Zab (Zae rfl he.2 ?_)
 refine Zab ?_
 refine Zgu (k := .i64) (a := 1) (b := 0) rfl rfl ?_
 refine Zaf ?_
 apply ZaL 7 8 15
 iterate 3 ·simp only [EV,Nat.reduceEqDiff,↓reduceIte,he];try rfl
 clear he e
 intro e he
 refine Zav (t := true) he.2.2 (fun _ => ?_) (fun hf => by cases hf)
 repeat refine Zac ?_
 first|refine Zaa ?_|refine Zad ?_
 refine Zab (Zae rfl he.2.1 ?_)
 refine Zab (Zae rfl (by simp only [EV,Nat.reduceEqDiff,↓reduceIte,he];try rfl) ?_)
 refine Zaf ?_
 refine Zcw ?_
 show ∃ r, Zaj _ _ _ _ r /\ _
 exact ⟨_, Zal rfl rfl, hK _ (hE.trans hX5)⟩
theorem ZkU {k m : List UInt8} (h : NoD σ p) (hK : ∀ τ, Ext σ τ -> K (vI 1) τ) : Zat Try.prog 30 [p, .raw (sV k), .raw (sV m)] σ K := by
 refine Zam Zas Try.func30 rfl rfl rfl (Nat.le_of_ble_eq_true rfl) ?_
 refine ZaL 0 1 2 (v0 := p) (v1 := .raw (sV k)) (v2 := .raw (sV m)) rfl rfl rfl ?_
 intro e he
 repeat refine Zac ?_
 first|refine Zaa ?_|refine Zad ?_
 refine Zab ?_
 refine Zdq (cs := [p]) (v := p) he.1 (by simp [h.one]) fun b3 σ1 hn3 hu3 hb3 hub3 hX1 => ?_
 refine Zab ?_
 refine Zdq (cs := [.raw (sV k)]) (v := .raw (sV k)) he.2.1 rfl fun b4 σ2 hn4 hu4 hb4 hub4 hX2 => ?_
 refine Zab ?_
 refine Zdq (cs := [.raw (sV m)]) (v := .raw (sV m)) he.2.2 rfl fun b5 σ3 hn5 hu5 hb5 hub5 hX3 => ?_
 have hE : Ext σ σ3 := (hX1.trans hX2).trans hX3
 have hb33 := hX3.keep _ _ (hX2.keep _ _ hb3)
 have hb43 := hX3.keep _ _ hb4
 refine Zab (Zae rfl (by simp only [EV,Nat.reduceEqDiff,↓reduceIte,he];try rfl) ?_)
 refine Zaf ?_
 apply ZaL 3 4 5
 iterate 3 ·simp only [EV,Nat.reduceEqDiff,↓reduceIte,he];try rfl
 clear he e
 intro e he
 refine Zac ?_
 refine Zb5 ?_
 refine ⟨[0, 1, 2, 3, 4, 5, 6, 7, 8, 9, 10, 11, 12, 13, 14, 15], [[], [0], [0, 1], [0, 1, 2], [0, 1, 2, 3], [0, 1, 2, 3, 4], [0, 1, 2, 3, 4, 5], [0, 1, 2], [0, 1, 2, 3, 4, 5, 6, 7], [0, 1, 2, 3, 4, 5, 6, 7, 8], [0, 1, 2, 3, 4, 5, 6, 7, 8, 9], [0, 1, 2, 3, 4, 5, 6, 7, 8, 9, 10], [0, 1, 2, 3, 4, 5, 6, 7, 8, 9, 10, 11], [0, 1, 2, 3, 4, 5, 6, 7, 8, 9, 10, 11, 12], [0, 1, 2, 3, 4, 5, 6, 7, 8, 9, 10, 11, 12, 13], [0, 1, 2, 3, 4, 5, 6, 7, 8, 9, 10, 11, 12, 13, 14]], fun _ => True, [], [], [], by kernel_rfl, ?_⟩
 apply Zai
 case hi => simp only [HIX]; try rfl
 case hw => rfl
 case how => rfl
 refine Zar (b := b3) (o := 0) (r := p) he.1 hb33 ZcJ ZcK rfl ?_
 refine Zaq ?_
 apply Zai
 case hi => simp only [HIX]; try rfl
 case hw => rfl
 case how => rfl
 refine Zao (vs := [p]) (by simp only [List.map_cons, List.map_nil, EV,Nat.reduceEqDiff,↓reduceIte,he];try rfl) ?_
 refine Zdf (h.ext hE) ?_
 refine Zaq ?_
 apply Zai
 case hi => simp only [HIX]; try rfl
 case hw => rfl
 case how => rfl
 refine Zae rfl rfl ?_
 refine Zaq ?_
 apply Zbl
 case hi => simp only [HIX]; try rfl
 case hg => rfl
 case how => rfl
 apply Zbl
 case hi => simp only [HIX]; try rfl
 case hg => rfl
 case how => rfl
 apply Zbl
 case hi => simp only [HIX]; try rfl
 case hg => rfl
 case how => rfl
 apply Zbl
 case hi => simp only [HIX]; try rfl
 case hg => rfl
 case how => rfl
 apply Zbl
 case hi => simp only [HIX]; try rfl
 case hg => rfl
 case how => rfl
 apply Zbl
 case hi => simp only [HIX]; try rfl
 case hg => rfl
 case how => rfl
 apply Zbl
 case hi => simp only [HIX]; try rfl
 case hg => rfl
 case how => rfl
 apply Zai
 case hi => simp only [HIX]; try rfl
 case hw => rfl
 case how => rfl
 refine Za2 (v := vT false) rfl rfl ?_
 refine Zaq ?_
 apply Zai
 case hi => simp only [HIX]; try rfl
 case hw => rfl
 case how => rfl
 refine Zae rfl rfl ?_
 refine Zaq ?_
 apply Zbl
 case hi => simp only [HIX]; try rfl
 case hg => rfl
 case how => rfl
 apply Zbl
 case hi => simp only [HIX]; try rfl
 case hg => rfl
 case how => rfl
 apply Zbl
 case hi => simp only [HIX]; try rfl
 case hg => rfl
 case how => rfl
 apply Zai
 case hi => simp only [HIX]; try rfl
 case hw => rfl
 case how => rfl
 refine Za2 (v := vT false) rfl rfl ?_
 refine Zaq ?_
 refine Zcg ?_
 apply ZaP 3 4 5 22
 iterate 4 ·simp only [EV,Nat.reduceEqDiff,↓reduceIte,he];try rfl
 clear he e
 intro e he
 refine Zav (t := false) he.2.2.2 (fun hf => by cases hf) (fun _ => ?_)
 refine Zaz ?_
 repeat refine Zac ?_
 first|refine Zaa ?_|refine Zad ?_
 refine Zab ?_
 refine Zar (b := b3) (o := 0) (r := p) he.1 hb33 ZcJ ZcK rfl ?_
 refine Zab ?_
 refine ZdS (vs := [ptr b4 0, ptr b5 0, ptr b3 0]) (by simp only [List.map_cons, List.map_nil, EV,Nat.reduceEqDiff,↓reduceIte,he];try rfl) ?_
 refine Zab ?_
 refine Zar (b := b4) (o := 0) (r := .raw (sV k)) he.2.1 hb43 Ze8 Zb3 rfl ?_
 refine Zab ?_
 refine Zbd (vs := [.raw (sV k)]) (cells := [.raw (sV k)]) (by simp only [List.map_cons, List.map_nil, EV,Nat.reduceEqDiff,↓reduceIte,he];try rfl) ZaE Zb3 ZdL rfl (by decide) rfl fun b9 hu9 hb9 => ?_
 have hX5 := Ext.put (σ := σ3) (.tail 9 (1 * 1) (1 * 1)) hb9
 refine Zab ?_
 refine Zao (vs := [p, .raw (.func (.func 62) #[] (([ptr b4 0, ptr b5 0, ptr b3 0].map AV.val).toArray)), .lst (some ⟨b9, 0, none⟩) 1 1 [.raw (sV k)]]) (by simp only [List.map_cons, List.map_nil, EV,Nat.reduceEqDiff,↓reduceIte,he];try rfl) ?_
 refine Zge (h.ext (hE.trans hX5)) ?_
 refine Zab (Zae rfl (by simp only [EV,Nat.reduceEqDiff,↓reduceIte,he];try rfl) ?_)
 refine Zaf ?_
 refine Zax ?_
 show ∃ r, Zaj _ _ _ _ r /\ _
 exact ⟨_, Zal rfl rfl, hK _ (hE.trans hX5)⟩
end
end Go.Proofs.Ytinpiaibhjmfaaa
