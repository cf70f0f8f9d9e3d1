/- Images loaded by the document; the law on loads (round 09Z). -/
import Derived.Test.YteempnebenjkmaaGreatDoorIt
import Derived.Test.YteempnebenjkmaaGreatDoorMe
namespace Go.Proofs.YteempnebenjkmaaGreatDoor
open Go.RowKit
set_option maxRecDepth 100000
set_option linter.unusedVariables false
set_option linter.unusedSimpArgs false
theorem ZoO : Zar Tryz.prog 104 = some 26 := by kernel_rfl
theorem Zww : Zav Tryz.prog 26 = some 2 := by kernel_rfl
theorem Zrq : ZaS Tryz.prog 26 = some (.agg #[.int .i64 0, .slice none 0 0]) := by kernel_rfl
theorem Zrr : ZbS Tryz.prog 26 = some [(0, 1), (1, 1)] := by kernel_rfl
theorem ZAq : ZaS Tryz.prog 34 = some (.agg #[.int .i64 0, .slice none 0 0, .slice none 0 0]) := by kernel_rfl
theorem ZAr : ZbS Tryz.prog 34 = some [(0, 1), (1, 1), (2, 1)] := by kernel_rfl
theorem ZB6 : Zb5 Tryz.prog 5 = some 1 := by kernel_rfl
section
variable {σ τ : St} {rb : Nat} {S : Nat -> Prop} {l : List Rw} {ps : PL} {size : Int} {fv pv : AV} {K : AV -> St -> Prop}
theorem ZAs {g : Nat} (hg : g <= 4) (hd : (Go.Lib.decDigits g).length <= 100) (hK : K (.raw (sV (ZcV g))) σ) : Zal Tryz.prog 46 [vI g] σ K := by
 refine Zas ZaH Tryz.func46 rfl rfl rfl (Nat.le_of_ble_eq_true rfl) ?_
 refine ZmD 0 (v0 := vI g) rfl ?_
 intro e he
 repeat refine Zab ?_
 first|refine Zaa ?_|refine Zac ?_
 refine Zah ?_
 refine Zae ?_
 refine kp1 0 ?_
 clear he e
 intro e he
 repeat refine Zab ?_
 first|refine Zaa ?_|refine Zac ?_
 refine Zah ?_
 refine ZaK [vI g] ?_
 refine ZvJ (by omega) ?_
 refine Zad ?_
 refine Zol (a := [105, 109, 97, 103, 101, 46]) (c := Go.Lib.decDigits g) (by simp; omega) rfl rfl ?_
 refine Zah ?_
 refine Zae ?_
 refine kp1 2 ?_
 clear he e
 intro e he
 refine ZaZ ?_
 exact ZbW (hK)
theorem ZtU (h : RAt σ rb S l ps size fv pv) (hl : l.length <= 1000000000) (hfl : ∀ r ∈ l, r.d.length <= 1000000000) {k : List UInt8}
 (hK1 : (∀ r ∈ l, r.nm ≠ k) -> ∀ τ, Ext σ τ -> K (.tup [.lst none 0 0 [], vT false]) τ)
 (hK2 : ∀ r ∈ l, r.nm = k -> ∀ v τ, SV CT 0 ZaV (.sl 1 r.d none) v -> Ext σ τ -> K (.tup [v, vT true]) τ) : Zal Tryz.prog 45 [ptr rb 0, .raw (sV k)] σ K := by
 refine Zal.tell (Zyc h hl hfl (fun hn => ⟨fun _ => False, _, ZgP.refl _, hK1 hn _ (Zhz (.refl _) fun _ q => q.elim)⟩) fun f0 hf0 hk v τ q1 q2 q3 => ?_)
 obtain ⟨A, c, m, u, w, z⟩ := q1.lends (G := fun b => hbk v = some b) (fun b hb => hb) (.refl _)
 refine ⟨fun b => hbk v = some b, .tup [.lst A f0.d.length c (bys f0.d), vT true], ZgP.tup ⟨m, .refl _, trivial⟩, hK2 f0 hf0 hk _ _ ?_ (Zhz q2 q3)⟩
 have := hfl f0 hf0
 exact Zb8.2 ⟨A, c, bys f0.d, [], by rw [List.append_nil], u, w, by omega, fun q => z q, Zr7 _⟩
set_option maxHeartbeats 2000000 in
theorem Zwx {g : Nat} {f : Rw} (h : RAt σ rb S l ps size fv pv) (hl : l.length <= 1000000) (hfl : ∀ r ∈ l, r.d.length <= 1000000) (hg : g <= 4) (hd : (Go.Lib.decDigits g).length <= 21) (hf0 : f ∈ l) (hnm : f.nm = ZcV g)
 (hK : ∀ as_ τ, SVs CT 0 ZaV (CT.enc 10 ((Zb3 f.d).getD Zql)) as_ -> Ext σ τ -> K (.tup [.agg as_, vT (Zb3 f.d).isSome, vI (if (Zb3 f.d).isSome then 0 else 9)]) τ) : Zal Tryz.prog 13 [ptr rb 0, vI g] σ K := by
 refine Zas ZaH Tryz.func13 rfl rfl rfl (Nat.le_of_ble_eq_true rfl) ?_
 refine ZfJ 0 1 (v0 := ptr rb 0) (v1 := vI g) rfl rfl ?_
 have h4 : decide ((4 : Int) < (g : Int)) = false := decide_eq_false (by omega)
 have h0 : decide ((g : Int) < 0) = false := decide_eq_false (by omega)
 intro e he
 repeat refine Zab ?_
 first|refine Zaa ?_|refine Zac ?_
 refine Zad ?_
 refine Zck (cs := ZfC) Zdy rfl fun b4 σ1 hn1 hu1 hb1 hub1 hX1 => ?_
 refine Zah ?_
 refine Zah ?_
 refine Zae ?_
 refine kp3 0 1 4 ?_
 clear he e
 intro e he
 repeat refine Zab ?_
 first|refine Zaa ?_|refine Zac ?_
 refine Zah ?_
 refine Zad ?_
 refine ZsS (k := .i64) (a := (g : Int)) (b := 0) rfl rfl ?_
 rw [h0]
 refine Zah ?_
 refine Zcn ?_
 refine ZjE rfl he.2.1 ?_
 refine Zcn ?_
 refine ZnH (k := .i64) (a := (g : Int)) (b := 4) rfl rfl ?_
 rw [h4]
 refine Zad ?_
 refine ZbR (v := vT false) rfl rfl ?_
 refine Zae ?_
 refine kp4 0 1 4 18 ?_
 clear he e
 intro e he
 refine ZaT (t := false) he.2.2.2 (fun ht => by cases ht) (fun ht => ?_)
 refine Za6 ?_
 repeat refine Zab ?_
 first|refine Zaa ?_|refine Zac ?_
 refine Zah ?_
 refine Zah ?_
 refine ZaK [vI g] ?_
 refine ZAs hg (by omega) ?_
 refine ZaK [ptr rb 0, .raw (sV (ZcV g))] ?_
 refine ZtU (h.ext hX1) (by omega) (fun r hr => Nat.le_trans (hfl r hr) (by omega)) (fun hn => absurd hnm (hn f hf0)) fun r hr hk v σ5 hv hX5 => ?_
 obtain rfl : r = f := h.uniqN hr hf0 (hk.trans hnm.symm)
 have hfd := hfl r hr
 obtain ⟨A, c, rest, rfl, hA⟩ := Zcc hv
 refine Zah ?_
 refine Zad ?_
 refine Zax (l := [.lst A r.d.length c (bys r.d ++ rest), vT true]) rfl rfl ?_
 refine Zad ?_
 refine Zax (l := [.lst A r.d.length c (bys r.d ++ rest), vT true]) rfl rfl ?_
 refine Zah ?_
 refine Zah ?_
 refine Zae ?_
 refine kp3 4 7 8 ?_
 clear he e
 intro e he
 repeat refine Zab ?_
 first|refine Zaa ?_|refine Zac ?_
 refine Zah ?_
 refine ZjF ?_
 refine Zae ?_
 refine kp3 4 7 28 ?_
 clear he e
 intro e he
 refine ZaT (t := false) he.2.2 (fun ht => by cases ht) (fun ht => ?_)
 refine Za6 ?_
 repeat refine Zab ?_
 first|refine Zaa ?_|refine Zac ?_
 refine Zah ?_
 refine ZaK [.lst A r.d.length c (bys r.d ++ rest)] ?_
 refine Zwv (by omega) hv fun l' σ6 hl' hX6 => ?_
 obtain ⟨A2, c2, cs, rest2, rfl, y1, y2, y3, y4, y5⟩ := Zb8.1 hl'
 rw [List.length_map] at y1 y3 y4
 refine Zah ?_
 refine Zad ?_
 refine Zax (l := [.lst A2 ((ZaB r.d).1.map Zqc).length c2 (cs ++ rest2), vI ((ZaB r.d).2 : Int)]) rfl rfl ?_
 refine Zad ?_
 refine Zax (l := [.lst A2 ((ZaB r.d).1.map Zqc).length c2 (cs ++ rest2), vI ((ZaB r.d).2 : Int)]) rfl rfl ?_
 refine Zah ?_
 refine Zah ?_
 refine Zae ?_
 refine kp4 4 7 9 10 ?_
 clear he e
 intro e he
 have hX46 : Ext σ1 σ6 := hX5.trans hX6
 refine Zab ?_
 refine Zds (fun env υ => υ = σ6 /\ ∃ t : Bool, (env 4 = ptr b4 0 /\ env 9 = AV.lst A2 ((ZaB r.d).1.map Zqc).length c2 (cs ++ rest2) /\ env 50 = vT t) /\ (t = true -> Zb3 r.d = none) /\ (t = false -> ∃ F, (ZaB r.d).1 = [F] /\ Zb3 r.d = ZgA F.2)) ?_ ?_
 ·repeat refine Zab ?_
  first|refine Zaa ?_|refine Zac ?_
  refine Zah ?_
  refine Zad ?_
  refine Zfa (A := A2) (n := ((ZaB r.d).1.map Zqc).length) (c := c2) rfl rfl rfl ZoO ?_
  refine Zad ?_
  refine Zjq (k := .i64) (a := (((ZaB r.d).1.map Zqc).length : Int)) (b := 1) rfl rfl ?_
  refine Zah ?_
  by_cases c1 : (ZaB r.d).1.length = 1
  rotate_left
  ·rw [decide_eq_true (p := (((ZaB r.d).1.map Zqc).length : Int) ≠ 1) (by rw [List.length_map]; omega)]
   refine Zbk ?_
   refine Zbk ?_
   refine Zbk ?_
   refine Zbk ?_
   refine Zad ?_
   refine Zbb (v := vT true) rfl rfl ?_
   refine Zah ?_
   refine Zbk ?_
   refine Zbk ?_
   refine Zbk ?_
   refine Zbk ?_
   refine Zbk ?_
   refine Zad ?_
   refine Zbb (v := vT true) rfl rfl ?_
   refine Zae ?_
   exact ⟨rfl, rfl, true, ⟨by simp only [EV,Nat.reduceEqDiff,↓reduceIte,he];try rfl, by simp only [EV,Nat.reduceEqDiff,↓reduceIte,he];try rfl, by simp only [EV,Nat.reduceEqDiff,↓reduceIte,he];try rfl⟩, fun _ => Zwc c1, fun q => by cases q⟩
  obtain ⟨F, hF⟩ := List.length_eq_one_iff.1 c1
  have hL := Zrl hF
  rw [decide_eq_false (p := (((ZaB r.d).1.map Zqc).length : Int) ≠ 1) (by rw [List.length_map]; omega)]
  refine Zcn ?_
  refine ZjE rfl he.2.2.2 ?_
  refine Zcn ?_
  refine ZjE rfl he.2.1 ?_
  refine Zcn ?_
  refine Zfa (A := A) (n := r.d.length) (c := c) rfl rfl rfl ZeR ?_
  refine Zcn ?_
  refine Zjq (k := .i64) (a := ((ZaB r.d).2 : Int)) (b := (r.d.length : Int)) rfl rfl ?_
  refine Zad ?_
  refine ZbR (v := vT (decide (((ZaB r.d).2 : Int) ≠ (r.d.length : Int)))) rfl rfl ?_
  refine Zah ?_
  by_cases c3 : (ZaB r.d).2 = r.d.length
  rotate_left
  ·rw [decide_eq_true (p := ((ZaB r.d).2 : Int) ≠ (r.d.length : Int)) (by omega)]
   refine Zbk ?_
   refine Zbk ?_
   refine Zbk ?_
   refine Zbk ?_
   refine Zbk ?_
   refine Zad ?_
   refine Zbb (v := vT true) rfl rfl ?_
   refine Zae ?_
   exact ⟨rfl, rfl, true, ⟨by simp only [EV,Nat.reduceEqDiff,↓reduceIte,he];try rfl, by simp only [EV,Nat.reduceEqDiff,↓reduceIte,he];try rfl, by simp only [EV,Nat.reduceEqDiff,↓reduceIte,he];try rfl⟩, fun _ => by rw [hL, if_neg fun q => c3 q.1], fun q => by cases q⟩
  rw [decide_eq_false (p := ((ZaB r.d).2 : Int) ≠ (r.d.length : Int)) (by omega)]
  have hcs : ∃ q2, cs = [.raw (.int .i64 F.1), q2] := by
   rw [hF] at y5
   obtain ⟨q1, _, rfl, z1, z2⟩ := (show SVs CT 0 ZaV [XV.int .i64 F.1, XV.sl 1 F.2 none] cs from y5).to
   obtain ⟨q2, rfl, z3⟩ := ZeG.1 z2
   obtain rfl := Zaw.1 z1
   exact ⟨q2, rfl⟩
  obtain ⟨q2, rfl⟩ := hcs
  have hlen : ((ZaB r.d).1.map Zqc).length = 1 := by rw [List.length_map]; exact c1
  refine Zcn ?_
  refine ZjE rfl he.2.2.1 ?_
  refine Zcn ?_
  refine Zc1 (k := .i64) (j := 0) (cs := [.raw (.int .i64 F.1), q2] ++ rest2) rfl rfl ZoO Zww (by omega) (fun q => by have := y4 q; omega) rfl fun ad => ?_
  refine Zcn ?_
  refine Zep (cells := [.raw (.int .i64 F.1), q2] ++ rest2) rfl Zty rfl ?_
  refine Zcn ?_
  refine Zdo (r := .raw (.int .i64 F.1)) rfl ZyE ZvN rfl ?_
  refine Zcn ?_
  refine Zjq (k := .i64) (a := F.1) (b := 4) rfl rfl ?_
  refine Zad ?_
  refine ZbR (v := vT (decide (F.1 ≠ 4))) rfl rfl ?_
  refine Zae ?_
  refine ⟨rfl, rfl, decide (F.1 ≠ 4), ⟨by simp only [EV,Nat.reduceEqDiff,↓reduceIte,he];try rfl, by simp only [EV,Nat.reduceEqDiff,↓reduceIte,he];try rfl, by simp only [EV,Nat.reduceEqDiff,↓reduceIte,he];try rfl⟩, fun q => by rw [hL, if_neg fun q' => of_decide_eq_true q q'.2], fun q => ⟨F, hF, ?_⟩⟩
  rw [hL, if_pos ⟨c3, Decidable.byContradiction fun q' => by simp [q'] at q⟩]
 rintro e υ ⟨rfl, t, he, ht1, ht2⟩
 have hb4 := hX46.keep _ _ hb1
 refine ZaT (t := t) he.2.2 (fun ht => ?_) (fun ht => ?_)
 ·have hL := ht1 ht
  rw [hL] at hK
  repeat refine Zab ?_
  first|refine Zaa ?_|refine Zac ?_
  refine Zad ?_
  refine ZcI (vs := []) (cells := ZfC) rfl Zdy Zrm rfl ?_
  refine Zad ?_
  refine Zbn (b := b4) (o := 0) (u := .agg ZfC) he.1 rfl hb4 ZaY rfl rfl fun σ7 hb7 k7 => ?_
  refine Zah ?_
  refine Zah ?_
  refine Zae ?_
  refine kp3 4 5 6 ?_
  clear he e
  intro e he
  refine Zfo ?_
  exact ZdM rfl (ZbF he.1 hb7 Zcd ZaY (Zdx rfl)) (Za4 he.2.1) (Za4 he.2.2) (hK _ σ7 Zrk (But.ext (hX1.trans hX46) (fun g hg => by rw [hg]; exact hn1) k7))
 refine Za6 ?_
 obtain ⟨F, hF, hL⟩ := ht2 ht
 have hok := ZyJ hF
 rw [hL] at hK
 have hcs : ∃ q2, cs = [.raw (.int .i64 F.1), q2] /\ SV CT 0 ZaV (.sl 1 F.2 none) q2 := by
  rw [hF] at y5
  obtain ⟨q1, _, rfl, z1, z2⟩ := (show SVs CT 0 ZaV [XV.int .i64 F.1, XV.sl 1 F.2 none] cs from y5).to
  obtain ⟨q2, rfl, z3⟩ := ZeG.1 z2
  obtain rfl := Zaw.1 z1
  exact ⟨q2, rfl, z3⟩
 obtain ⟨q2, rfl, z3⟩ := hcs
 have hlen : ((ZaB r.d).1.map Zqc).length = 1 := by rw [hF]; rfl
 have c1 : (ZaB r.d).1.length = 1 := by rw [hF]; rfl
 repeat refine Zab ?_
 first|refine Zaa ?_|refine Zac ?_
 refine Zah ?_
 refine Zad ?_
 refine Zc1 (k := .i64) (j := 0) (cs := [.raw (.int .i64 F.1), q2] ++ rest2) rfl rfl ZoO Zww (by omega) (fun q => by have := y4 q; omega) rfl fun ad => ?_
 refine Zad ?_
 refine Zep (cells := [.raw (.int .i64 F.1), q2] ++ rest2) rfl Zty rfl ?_
 refine Zad ?_
 refine Zdo (r := q2) rfl Zg3 Zdd rfl ?_
 refine ZaK [q2] ?_
 refine ZnB (by have := hok.2.2; omega) z3 fun as_ σ7 hs hX7 => ?_
 have ha7 : as_.length = 7 := hs.len
 have hone : as_.all AV.one = true := List.all_eq_true.2 (hs.ones (List.all_eq_true.1 (show (CT.enc 10 ((ZgA F.2).getD Zql)).all XV.one = true from rfl)))
 refine Zah ?_
 refine Zad ?_
 refine Zax (l := [.agg as_, vT (ZgA F.2).isSome]) rfl rfl ?_
 refine Zad ?_
 refine Zax (l := [.agg as_, vT (ZgA F.2).isSome]) rfl rfl ?_
 refine Zad ?_
 refine Zck (cs := ZfC) Zdy rfl fun b11 σ8 hn8 hu8 hb8 hub8 hX8 => ?_
 refine Zad ?_
 refine Zbn (b := b11) (o := 0) (u := .agg as_) (cs' := as_) rfl rfl hb8 ZaY (by simp [Zb4, ha7, hone, ZfC]) (by simp [ZaG, ha7, ZfC]) fun σ9 hb9 k9 => ?_
 have hXa : Ext σ1 σ9 := But.ext (hX46.trans (hX7.trans hX8)) (fun g hg => by rw [hg]; exact (hX46.trans hX7).noneOf hn8) k9
 have hb49 := hXa.keep _ _ hb1
 refine Zah ?_
 refine Zae ?_
 refine kp3 4 11 12 ?_
 clear he e
 intro e he
 repeat refine Zab ?_
 first|refine Zaa ?_|refine Zac ?_
 refine Zah ?_
 refine ZjF ?_
 refine Zae ?_
 refine kp3 4 11 61 ?_
 clear he e
 intro e he
 refine ZaT (t := !(ZgA F.2).isSome) he.2.2 (fun ht => ?_) (fun ht => ?_)
 all_goals cases hi : ZgA F.2 with
  | none => ?_
  | some x => ?_
 ·rw [hi] at hK hs
  repeat refine Zab ?_
  first|refine Zaa ?_|refine Zac ?_
  refine Zad ?_
  refine ZcI (vs := []) (cells := ZfC) rfl Zdy Zrm rfl ?_
  refine Zad ?_
  refine Zbn (b := b4) (o := 0) (u := .agg ZfC) he.1 rfl hb49 ZaY rfl rfl fun σ10 hb10 k10 => ?_
  refine Zah ?_
  refine Zah ?_
  refine Zae ?_
  refine kp3 4 5 6 ?_
  clear he e
  intro e he
  refine Zfo ?_
  exact ZdM rfl (ZbF he.1 hb10 Zcd ZaY (Zdx rfl)) (Za4 he.2.1) (Za4 he.2.2) (hK _ σ10 Zrk (But.ext (hX1.trans hXa) (fun g hg => by rw [hg]; exact hn1) k10))
 ·rw [hi] at ht; cases ht
 ·rw [hi] at ht; cases ht
 ·rw [hi] at hK hs
  refine Za6 ?_
  repeat refine Zab ?_
  first|refine Zaa ?_|refine Zac ?_
  refine Zad ?_
  refine ZaC (b := b11) (o := 0) (r := .agg as_) he.2.1 hb9 Zcd ZaY (Zdx ha7) ?_
  refine Zad ?_
  refine Zbn (b := b4) (o := 0) (u := .agg as_) (cs' := as_) he.1 rfl hb49 ZaY (by simp [Zb4, ha7, hone, ZfC]) (by simp [ZaG, ha7, ZfC]) fun σ10 hb10 k10 => ?_
  refine Zah ?_
  refine Zah ?_
  refine Zae ?_
  refine kp3 4 5 6 ?_
  clear he e
  intro e he
  refine ZaZ ?_
  exact ZdM rfl (ZbF he.1 hb10 Zcd ZaY (Zdx ha7)) (Za4 he.2.1) (Za4 he.2.2) (hK as_ σ10 hs (But.ext (hX1.trans hXa) (fun g hg => by rw [hg]; exact hn1) k10))
end
end Go.Proofs.YteempnebenjkmaaGreatDoor
