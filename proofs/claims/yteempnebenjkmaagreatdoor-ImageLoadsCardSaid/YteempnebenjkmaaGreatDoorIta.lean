/- Images loaded of any bytes, by the program (round 09Z). -/
import Derived.Test.YteempnebenjkmaaGreatDoorMg
import Derived.Test.YteempnebenjkmaaGreatDoorMh
import Derived.Test.YteempnebenjkmaaGreatDoorPg
import Derived.Test.YteempnebenjkmaaGreatDoorMe
namespace Go.Proofs.YteempnebenjkmaaGreatDoor
open Go.RowKit
set_option maxRecDepth 100000
set_option linter.unusedVariables false
set_option linter.unusedSimpArgs false
abbrev Zql : Zb6 := ⟨Zz5, []⟩
theorem Zrk : SVs CT 0 ZaV (CT.enc 10 Zql) ZfC := .cons (Zaw.2 rfl) (.cons (Zaw.2 rfl) (.cons (Zg5 0) (.cons (Zg5 0) (.cons (Zg5 0) (.cons (Zg5 0) (.cons (Zg5 1) .none))))))
def Zb3 (b : List UInt8) : Option Zb6 := match (ZaB b).1 with
 | [f] => if (ZaB b).2 = b.length /\ f.1 = 4 then ZgA f.2 else none
 | _ => none
theorem Zwc {b : List UInt8} (h : (ZaB b).1.length ≠ 1) : Zb3 b = none := by
 unfold Zb3
 split
 ·rename_i q; rw [q] at h; exact absurd rfl h
 ·rfl
theorem Zrl {b : List UInt8} {f : Fr} (h : (ZaB b).1 = [f]) : Zb3 b = if (ZaB b).2 = b.length /\ f.1 = 4 then ZgA f.2 else none := by
 unfold Zb3
 rw [h]
theorem ZyJ {b : List UInt8} {f : Fr} (h : (ZaB b).1 = [f]) : Zsr f := (Zv9 b.length b (Nat.le_refl _)).1 f (by rw [h]; exact List.mem_singleton.2 rfl)
section
variable {σ τ : St} {bb mb : Nat} {S : Nat -> Prop} {fs : List Fl} {pcs : List (Nat × Nat)} {size : Int} {pv : AV} {K : AV -> St -> Prop}
theorem Zss {d : List UInt8} {a : AV} (hd : d.length <= 1000000) (ha : SV CT 0 ZaV (.sl 1 d none) a) (hK : ∀ as_ τ, SVs CT 0 ZaV (CT.enc 10 ((ZgA d).getD Zql)) as_ -> Ext σ τ -> K (.tup [.agg as_, vT (ZgA d).isSome]) τ) : Zal Tryz.prog 16 [a] σ K := by
 by_cases h : okG d
 ·obtain ⟨q1, q2, q3, q4⟩ := Zjd d
  have hi : ZgA d = some ⟨(Za8 d).1, (ZoF 131072 (Za8 d).2).1⟩ := if_pos h
  rw [hi] at hK
  refine ZpX (Zz1 hd h) (Nat.le_refl _) (Nat.le_refl _) (Nat.le_refl _) (Nat.le_refl _) ⟨by omega, by omega, by omega, by omega⟩ ha fun as_ τ hs hX => hK as_ τ ?_ hX
  simp only [List.take_length] at hs
  exact hs
 ·have hi : ZgA d = none := if_neg h
  rw [hi] at hK
  exact ZpX (ZBR hd h) (Nat.le_refl _) (Nat.le_refl _) (Nat.le_refl _) (Nat.le_refl _) ⟨by simp, by simp, by simp, by simp⟩ ha fun as_ τ hs hX => hK as_ τ hs hX
set_option maxHeartbeats 2000000 in
theorem Zst {g : Nat} {f0 : Fl} (h : DAt σ bb S fs pcs size mb pv) (hfl : ∀ f ∈ fs, f.d.length <= 1000000) (hg : g <= 4) (hd : (Go.Lib.decDigits g).length <= 21) (hf0 : f0 ∈ fs) (hnm : f0.nm = ZcV g)
 (hK : ∀ as_ τ, SVs CT 0 ZaV (CT.enc 10 ((Zb3 f0.d).getD Zql)) as_ -> Ext σ τ -> K (.tup [.agg as_, vT (Zb3 f0.d).isSome, vI (if (Zb3 f0.d).isSome then 0 else 9)]) τ) : Zal Tryz.prog 12 [ptr bb 0, vI g] σ K := by
 refine Zas ZaH Tryz.func12 rfl rfl rfl (Nat.le_of_ble_eq_true rfl) ?_
 refine ZfJ 0 1 (v0 := ptr bb 0) (v1 := vI g) rfl rfl ?_
 intro e he
 repeat refine Zab ?_
 first|refine Zaa ?_|refine Zac ?_
 refine Zad ?_
 refine Zck (cs := ZfC) Zdy rfl fun b4 σ1 hn1 hu1 hb1 hub1 hX1 => ?_
 refine Zah ?_
 refine Zah ?_
 refine Zae ?_
 refine kp3 0 1 4 ?_
 clear he e
 intro e he
 repeat refine Zab ?_
 first|refine Zaa ?_|refine Zac ?_
 refine Zah ?_
 refine Zah ?_
 refine ZaK [ptr bb 0, vI g] ?_
 refine ZzK hg (by omega) fun σ2 hX2 => ?_
 refine Zah ?_
 refine Zad ?_
 refine Zax (l := [.agg [ptr bb 0, .raw (sV (ZcV g))], vI 0]) rfl rfl ?_
 refine Zad ?_
 refine Zax (l := [.agg [ptr bb 0, .raw (sV (ZcV g))], vI 0]) rfl rfl ?_
 refine Zad ?_
 refine Zck Zmf rfl fun b7 σ3 hn3 hu3 hb3 hub3 hX3 => ?_
 refine Zad ?_
 refine Zbn (b := b7) (o := 0) (u := .agg [ptr bb 0, .raw (sV (ZcV g))]) rfl rfl hb3 Zj2 rfl rfl fun σ4 hb4 k4 => ?_
 refine Zah ?_
 refine Zae ?_
 refine kp3 4 6 7 ?_
 clear he e
 intro e he
 have hX4 : Ext σ σ4 := But.ext ((hX1.trans hX2).trans hX3) (fun g hg => by rw [hg]; exact (hX1.trans hX2).noneOf hn3) k4
 have hb14 : σ4.blk b4 = some (.own 44 ZfC) := k4.keep _ _ (fun q => by rw [q] at hb1; have := hX2.keep _ _ hb1; rw [hn3] at this; cases this) ((hX2.trans hX3).keep _ _ hb1)
 repeat refine Zab ?_
 first|refine Zaa ?_|refine Zac ?_
 refine Zah ?_
 refine Zad ?_
 refine Zjq (k := .i64) (a := 0) (b := 0) rfl rfl ?_
 refine Zae ?_
 refine kp4 4 6 7 19 ?_
 clear he e
 intro e he
 refine ZaT (t := false) he.2.2.2 (fun ht => by cases ht) (fun ht => ?_)
 refine Za6 ?_
 repeat refine Zab ?_
 first|refine Zaa ?_|refine Zac ?_
 refine Zad ?_
 refine Zai (b := b7) (o := 0) he.2.2.1 ZfB rfl ?_
 refine Zad ?_
 refine ZaC (b := b7) (o := 0) (r := ptr bb 0) rfl hb4 Zj3 Zj4 rfl ?_
 refine Zad ?_
 refine Zai (b := b7) (o := 0) he.2.2.1 ZfB rfl ?_
 refine Zad ?_
 refine ZaC (b := b7) (o := 0 + 1) (r := .raw (sV (ZcV g))) rfl hb4 ZcQ ZbX rfl ?_
 refine ZaK [ptr bb 0, .raw (sV (ZcV g))] ?_
 refine ZpY (h.but (U := fun _ => False) hX4.but fun b hb hf => hf) (fun f hf => Nat.le_trans (hfl f hf) (by omega)) (fun hn => absurd hnm (hn f0 hf0)) fun f hf hk v σ5 hv hX5 => ?_
 obtain rfl : f = f0 := h.uniqN hf hf0 (hk.trans hnm.symm)
 have hfd := hfl f hf
 obtain ⟨A, c, rest, rfl, hA⟩ := Zcc hv
 refine Zah ?_
 refine Zad ?_
 refine Zax (l := [.lst A f.d.length c (bys f.d ++ rest), vT true]) rfl rfl ?_
 refine Zad ?_
 refine Zax (l := [.lst A f.d.length c (bys f.d ++ rest), vT true]) rfl rfl ?_
 refine Zah ?_
 refine Zah ?_
 refine Zae ?_
 refine kp3 4 8 9 ?_
 clear he e
 intro e he
 repeat refine Zab ?_
 first|refine Zaa ?_|refine Zac ?_
 refine Zah ?_
 refine ZjF ?_
 refine Zae ?_
 refine kp3 4 8 31 ?_
 clear he e
 intro e he
 refine ZaT (t := false) he.2.2 (fun ht => by cases ht) (fun ht => ?_)
 refine Za6 ?_
 repeat refine Zab ?_
 first|refine Zaa ?_|refine Zac ?_
 refine Zah ?_
 refine ZaK [.lst A f.d.length c (bys f.d ++ rest)] ?_
 refine ZxE (ZDf (by omega)) hv fun l σ6 hl hX6 => ?_
 obtain ⟨A2, c2, cs, rest2, rfl, y1, y2, y3, y4, y5⟩ := Zb8.1 hl
 rw [List.length_map] at y1 y3 y4
 refine Zah ?_
 refine Zad ?_
 refine Zax (l := [.lst A2 ((ZaB f.d).1.map toD).length c2 (cs ++ rest2), vI ((ZaB f.d).2 : Int)]) rfl rfl ?_
 refine Zad ?_
 refine Zax (l := [.lst A2 ((ZaB f.d).1.map toD).length c2 (cs ++ rest2), vI ((ZaB f.d).2 : Int)]) rfl rfl ?_
 refine Zah ?_
 refine Zah ?_
 refine Zae ?_
 refine kp4 4 8 10 11 ?_
 clear he e
 intro e he
 have hX46 : Ext σ4 σ6 := hX5.trans hX6
 refine Zab ?_
 refine Zds (fun env υ => υ = σ6 /\ ∃ t : Bool, (env 4 = ptr b4 0 /\ env 10 = AV.lst A2 ((ZaB f.d).1.map toD).length c2 (cs ++ rest2) /\ env 53 = vT t) /\ (t = true -> Zb3 f.d = none) /\ (t = false -> ∃ F, (ZaB f.d).1 = [F] /\ Zb3 f.d = ZgA F.2)) ?_ ?_
 ·repeat refine Zab ?_
  first|refine Zaa ?_|refine Zac ?_
  refine Zah ?_
  refine Zad ?_
  refine Zfa (A := A2) (n := ((ZaB f.d).1.map toD).length) (c := c2) rfl rfl rfl Zon ?_
  refine Zad ?_
  refine Zjq (k := .i64) (a := (((ZaB f.d).1.map toD).length : Int)) (b := 1) rfl rfl ?_
  refine Zah ?_
  by_cases c1 : (ZaB f.d).1.length = 1
  rotate_left
  ·rw [decide_eq_true (p := (((ZaB f.d).1.map toD).length : Int) ≠ 1) (by rw [List.length_map]; omega)]
   refine Zbk ?_
   refine Zbk ?_
   refine Zbk ?_
   refine Zbk ?_
   refine Zad ?_
   refine Zbb (v := vT true) rfl rfl ?_
   refine Zah ?_
   refine Zbk ?_
   refine Zbk ?_
   refine Zbk ?_
   refine Zbk ?_
   refine Zbk ?_
   refine Zad ?_
   refine Zbb (v := vT true) rfl rfl ?_
   refine Zae ?_
   exact ⟨rfl, rfl, true, ⟨by simp only [EV,Nat.reduceEqDiff,↓reduceIte,he];try rfl, by simp only [EV,Nat.reduceEqDiff,↓reduceIte,he];try rfl, by simp only [EV,Nat.reduceEqDiff,↓reduceIte,he];try rfl⟩, fun _ => Zwc c1, fun q => by cases q⟩
  obtain ⟨F, hF⟩ := List.length_eq_one_iff.1 c1
  have hL := Zrl hF
  rw [decide_eq_false (p := (((ZaB f.d).1.map toD).length : Int) ≠ 1) (by rw [List.length_map]; omega)]
  refine Zcn ?_
  refine ZjE rfl he.2.2.2 ?_
  refine Zcn ?_
  refine ZjE rfl he.2.1 ?_
  refine Zcn ?_
  refine Zfa (A := A) (n := f.d.length) (c := c) rfl rfl rfl ZeR ?_
  refine Zcn ?_
  refine Zjq (k := .i64) (a := ((ZaB f.d).2 : Int)) (b := (f.d.length : Int)) rfl rfl ?_
  refine Zad ?_
  refine ZbR (v := vT (decide (((ZaB f.d).2 : Int) ≠ (f.d.length : Int)))) rfl rfl ?_
  refine Zah ?_
  by_cases c3 : (ZaB f.d).2 = f.d.length
  rotate_left
  ·rw [decide_eq_true (p := ((ZaB f.d).2 : Int) ≠ (f.d.length : Int)) (by omega)]
   refine Zbk ?_
   refine Zbk ?_
   refine Zbk ?_
   refine Zbk ?_
   refine Zbk ?_
   refine Zad ?_
   refine Zbb (v := vT true) rfl rfl ?_
   refine Zae ?_
   exact ⟨rfl, rfl, true, ⟨by simp only [EV,Nat.reduceEqDiff,↓reduceIte,he];try rfl, by simp only [EV,Nat.reduceEqDiff,↓reduceIte,he];try rfl, by simp only [EV,Nat.reduceEqDiff,↓reduceIte,he];try rfl⟩, fun _ => by rw [hL, if_neg fun q => c3 q.1], fun q => by cases q⟩
  rw [decide_eq_false (p := ((ZaB f.d).2 : Int) ≠ (f.d.length : Int)) (by omega)]
  have hcs : ∃ q2, cs = [.raw (.int .i64 F.1), q2] := by
   rw [hF] at y5
   obtain ⟨q1, _, rfl, z1, z2⟩ := (show SVs CT 0 ZaV [XV.int .i64 F.1, XV.sl 1 F.2 none] cs from y5).to
   obtain ⟨q2, rfl, z3⟩ := ZeG.1 z2
   obtain rfl := Zaw.1 z1
   exact ⟨q2, rfl⟩
  obtain ⟨q2, rfl⟩ := hcs
  have hlen : ((ZaB f.d).1.map toD).length = 1 := by rw [List.length_map]; exact c1
  refine Zcn ?_
  refine ZjE rfl he.2.2.1 ?_
  refine Zcn ?_
  refine Zc1 (k := .i64) (j := 0) (cs := [.raw (.int .i64 F.1), q2] ++ rest2) rfl rfl Zon Zq5 (by omega) (fun q => by have := y4 q; omega) rfl fun ad => ?_
  refine Zcn ?_
  refine Zep (cells := [.raw (.int .i64 F.1), q2] ++ rest2) rfl ZvM rfl ?_
  refine Zcn ?_
  refine Zdo (r := .raw (.int .i64 F.1)) rfl ZyE ZvN rfl ?_
  refine Zcn ?_
  refine Zjq (k := .i64) (a := F.1) (b := 4) rfl rfl ?_
  refine Zad ?_
  refine ZbR (v := vT (decide (F.1 ≠ 4))) rfl rfl ?_
  refine Zae ?_
  refine ⟨rfl, rfl, decide (F.1 ≠ 4), ⟨by simp only [EV,Nat.reduceEqDiff,↓reduceIte,he];try rfl, by simp only [EV,Nat.reduceEqDiff,↓reduceIte,he];try rfl, by simp only [EV,Nat.reduceEqDiff,↓reduceIte,he];try rfl⟩, fun q => by rw [hL, if_neg fun q' => of_decide_eq_true q q'.2], fun q => ⟨F, hF, ?_⟩⟩
  rw [hL, if_pos ⟨c3, Decidable.byContradiction fun q' => by simp [q'] at q⟩]
 rintro e υ ⟨rfl, t, he, ht1, ht2⟩
 refine ZaT (t := t) he.2.2 (fun ht => ?_) (fun ht => ?_)
 ·have hL := ht1 ht
  rw [hL] at hK
  repeat refine Zab ?_
  first|refine Zaa ?_|refine Zac ?_
  refine Zad ?_
  refine ZaC (b := b4) (o := 0) (r := .agg ZfC) he.1 (hX46.keep _ _ hb14) Zcd ZaY (Zdx rfl) ?_
  refine Zad ?_
  refine Zbn (b := b4) (o := 0) (u := .agg ZfC) he.1 rfl (hX46.keep _ _ hb14) ZaY rfl rfl fun σ7 hb7 k7 => ?_
  refine Zah ?_
  refine Zah ?_
  refine Zae ?_
  refine kp3 4 5 6 ?_
  clear he e
  intro e he
  refine Zfo ?_
  exact ZdM rfl (ZbF he.1 hb7 Zcd ZaY (Zdx rfl)) (Za4 he.2.1) (Za4 he.2.2) (hK _ σ7 Zrk (But.ext (hX4.trans hX46) (fun g hg => by rw [hg]; exact hn1) k7))
 refine Za6 ?_
 obtain ⟨F, hF, hL⟩ := ht2 ht
 have hok := ZyJ hF
 rw [hL] at hK
 have hcs : ∃ q2, cs = [.raw (.int .i64 F.1), q2] /\ SV CT 0 ZaV (.sl 1 F.2 none) q2 := by
  rw [hF] at y5
  obtain ⟨q1, _, rfl, z1, z2⟩ := (show SVs CT 0 ZaV [XV.int .i64 F.1, XV.sl 1 F.2 none] cs from y5).to
  obtain ⟨q2, rfl, z3⟩ := ZeG.1 z2
  obtain rfl := Zaw.1 z1
  exact ⟨q2, rfl, z3⟩
 obtain ⟨q2, rfl, z3⟩ := hcs
 have hlen : ((ZaB f.d).1.map toD).length = 1 := by rw [hF]; rfl
 have c1 : (ZaB f.d).1.length = 1 := by rw [hF]; rfl
 repeat refine Zab ?_
 first|refine Zaa ?_|refine Zac ?_
 refine Zah ?_
 refine Zad ?_
 refine Zc1 (k := .i64) (j := 0) (cs := [.raw (.int .i64 F.1), q2] ++ rest2) rfl rfl Zon Zq5 (by omega) (fun q => by have := y4 q; omega) rfl fun ad => ?_
 refine Zad ?_
 refine Zep (cells := [.raw (.int .i64 F.1), q2] ++ rest2) rfl ZvM rfl ?_
 refine Zad ?_
 refine Zdo (r := q2) rfl Zg3 Zdd rfl ?_
 refine ZaK [q2] ?_
 refine Zss (by have := hok.2.2; omega) z3 fun as_ σ7 hs hX7 => ?_
 have ha7 : as_.length = 7 := hs.len
 have hX57 : Ext σ4 σ7 := hX46.trans hX7
 refine Zah ?_
 refine Zad ?_
 refine Zax (l := [.agg as_, vT (ZgA F.2).isSome]) rfl rfl ?_
 refine Zad ?_
 refine Zax (l := [.agg as_, vT (ZgA F.2).isSome]) rfl rfl ?_
 have hone : as_.all AV.one = true := List.all_eq_true.2 (hs.ones (List.all_eq_true.1 (show (CT.enc 10 ((ZgA F.2).getD Zql)).all XV.one = true from rfl)))
 refine Zad ?_
 refine Zbn (b := b4) (o := 0) (u := .agg as_) (cs' := as_) he.1 rfl (hX57.keep _ _ hb14) ZaY (by simp [Zb4, ha7, hone, ZfC]) (by simp [ZaG, ha7, ZfC]) fun σ8 hb8 k8 => ?_
 have hX8 : Ext σ σ8 := But.ext (hX4.trans hX57) (fun g hg => by rw [hg]; exact hn1) k8
 refine Zah ?_
 refine Zae ?_
 refine kp2 4 5 ?_
 clear he e
 intro e he
 repeat refine Zab ?_
 first|refine Zaa ?_|refine Zac ?_
 refine Zah ?_
 refine ZjF ?_
 refine Zae ?_
 refine kp2 4 64 ?_
 clear he e
 intro e he
 refine ZaT (t := !(ZgA F.2).isSome) he.2 (fun ht => ?_) (fun ht => ?_)
 all_goals cases hi : ZgA F.2 with
  | none => ?_
  | some x => ?_
 ·rw [hi] at hK hs
  repeat refine Zab ?_
  first|refine Zaa ?_|refine Zac ?_
  refine Zad ?_
  refine ZaC (b := b4) (o := 0) (r := .agg as_) he.1 hb8 Zcd ZaY (Zdx ha7) ?_
  refine Zad ?_
  refine Zbn (b := b4) (o := 0) (u := .agg as_) (cs' := as_) he.1 rfl hb8 ZaY (by simp [Zb4, ha7, hone]) (by simp [ZaG, ha7]) fun σ9 hb9 k9 => ?_
  refine Zah ?_
  refine Zah ?_
  refine Zae ?_
  refine kp3 4 5 6 ?_
  clear he e
  intro e he
  refine Zfo ?_
  exact ZdM rfl (ZbF he.1 hb9 Zcd ZaY (Zdx ha7)) (Za4 he.2.1) (Za4 he.2.2) (hK as_ σ9 hs (But.ext hX8 (fun g hg => by rw [hg]; exact hn1) k9))
 ·rw [hi] at ht; cases ht
 ·rw [hi] at ht; cases ht
 ·rw [hi] at hK hs
  refine Za6 ?_
  repeat refine Zab ?_
  first|refine Zaa ?_|refine Zac ?_
  refine Zad ?_
  refine ZaC (b := b4) (o := 0) (r := .agg as_) he.1 hb8 Zcd ZaY (Zdx ha7) ?_
  refine Zad ?_
  refine Zbn (b := b4) (o := 0) (u := .agg as_) (cs' := as_) he.1 rfl hb8 ZaY (by simp [Zb4, ha7, hone]) (by simp [ZaG, ha7]) fun σ9 hb9 k9 => ?_
  refine Zah ?_
  refine Zah ?_
  refine Zae ?_
  refine kp3 4 5 6 ?_
  clear he e
  intro e he
  refine ZaZ ?_
  exact ZdM rfl (ZbF he.1 hb9 Zcd ZaY (Zdx ha7)) (Za4 he.2.1) (Za4 he.2.2) (hK as_ σ9 hs (But.ext hX8 (fun g hg => by rw [hg]; exact hn1) k9))
end
end Go.Proofs.YteempnebenjkmaaGreatDoor
