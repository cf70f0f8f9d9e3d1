/- XDu0, XIk, XPn, XPq, XIr in one. -/
import Derived.Test.YteempnebenjkmaaGreatDoorMf
import Derived.Test.YteempnebenjkmaaGreatDoorMe
import Derived.Test.YteempnebenjkmaaGreatDoorIta
import Derived.Lib.ItoaLen
import Derived.Test.YteempnebenjkmaaGreatDoorMh
import Derived.Test.YteempnebenjkmaaGreatDoorPg
namespace Go.Proofs.YteempnebenjkmaaGreatDoor
open Go.RowKit
set_option maxRecDepth 100000
set_option linter.unusedVariables false
set_option linter.unusedSimpArgs false
section
variable {σ : St} {bb mb : Nat} {S : Nat -> Prop} {fs : List Fl} {size : Int} {pv : AV} {K : AV -> St -> Prop}
theorem Zwd (h : DAt σ bb S fs [] size mb pv) (hK : ∀ τ, DAt τ bb S fs [] size mb (.lst none 0 0 []) -> But S σ τ -> K (.tup []) τ) : Zal Tryz.prog 31 [ptr bb 0, .raw (.int .i64 0)] σ K := by
 refine Zas ZaH Tryz.func31 rfl rfl rfl (Nat.le_of_ble_eq_true rfl) ?_
 refine ZfJ 0 1 (v0 := ptr bb 0) (v1 := .raw (.int .i64 0)) rfl rfl ?_
 intro e he
 repeat refine Zab ?_
 first|refine Zaa ?_|refine Zac ?_
 refine Zah ?_
 refine ZaK [ptr bb 0] ?_
 refine ZiR h ?_
 refine ZjF ?_
 refine Zae ?_
 refine kp3 0 1 9 ?_
 clear he e
 intro e he
 refine ZaT (t := false) he.2.2 (fun hf => by cases hf) (fun _ => ?_)
 refine Za6 ?_
 refine Zds (fun env υ => env 0 = ptr bb 0 /\ Ext σ υ) ?_ ?_
 ·repeat refine Zab ?_
  first|refine Zaa ?_|refine Zac ?_
  refine Zah ?_
  refine Zad ?_
  refine ZaF (v := ptr bb 0) rfl rfl ?_
  refine Zad ?_
  refine Zai (b := bb) (o := 0) rfl Zcu rfl ?_
  refine ZaK [ptr bb 0] ?_
  refine Zvn h (Nat.zero_le _) (Nat.zero_le _) fun σ1 hX1 => ?_
  refine Zah ?_
  refine Zad ?_
  refine ZCA (k := .i64) (k' := .i64) (a := 0) (b := 0) rfl rfl ?_
  refine Zad ?_
  refine ZCz (k := .i64) (a := (ZfF [] : Int)) (b := 0) (r := 0) rfl rfl rfl ?_
  refine Zah ?_
  refine Zae ?_
  refine kp2 0 4 ?_
  clear he e
  intro e he
  refine ZdT ?_
  refine Zdn (fun μ env υ => (env 0 = ptr bb 0 /\ env 4 = .raw (.int .i64 0)) /\ Ext σ υ) ⟨0, he, hX1⟩ ?_
  clear he e
  rintro _ e υ ⟨he, hX⟩
  repeat refine Zab ?_
  first|refine Zaa ?_|refine Zac ?_
  refine Zah ?_
  refine Zad ?_
  refine ZnH (k := .i64) (a := 0) (b := 0) rfl rfl ?_
  refine Zae ?_
  refine kp2 0 18 ?_
  clear he e
  intro e he
  refine ZaT (t := false) he.2 (fun hf => by cases hf) (fun _ => ?_)
  refine Ze5 ?_
  exact ⟨rfl, by simp only [EV,Nat.reduceEqDiff,↓reduceIte,he];try rfl, hX⟩
 clear he e
 rintro e υ ⟨he, hX⟩
 have h2 := h.ext hX
 refine Zac ?_
 refine Zah ?_
 refine Zad ?_
 refine ZaF (v := ptr bb 0) rfl rfl ?_
 refine Zad ?_
 refine Zai (b := bb) (o := 0) rfl Zcu rfl ?_
 refine Zad ?_
 refine Zai (b := bb) (o := 0 + 0) rfl ZjH rfl ?_
 refine Zad ?_
 refine Zgg (b := bb) (o := 0 + 0 + 0) (v := .lst none 0 0 []) rfl rfl h2.obj ZjJ ⟨rfl, rfl, rfl⟩ (Nat.zero_lt_succ _) fun τ hb k => ?_
 refine Zae ?_
 refine ⟨_, Zhl rfl, hK τ ((h2.setP (pcs' := []) (k.sub fun c hc => .inl hc) hb ⟨by simp [pcC], by simp [pcC], .inl ⟨.inl rfl, rfl⟩⟩ fun p hp => by cases hp).mono fun c hc => ?_) (hX.but.trans (k.sub fun c hc => by rw [hc]; exact h.own.1))⟩
 rcases hc with hc | hc
 ·exact hc
 ·cases hc
end
theorem Zz9 : Zar Tryz.prog 38 = some 3 := by kernel_rfl
theorem ZBY : ZaS Tryz.prog 3 = some (.int .i64 0) := by kernel_rfl
theorem ZAa : ZaS Tryz.prog 40 = some (.agg #[.slice none 0 0, .slice none 0 0, .slice none 0 0, .slice none 0 0]) := by kernel_rfl
theorem ZAb : ZbS Tryz.prog 40 = some [(0, 1), (1, 1), (2, 1), (3, 1)] := by kernel_rfl
theorem ZAc : ZaS Tryz.prog 42 = some (.agg #[.int .i64 0, .int .i64 0, .slice none 0 0, .slice none 0 0, .slice none 0 0, .slice none 0 0]) := by kernel_rfl
theorem ZAd : ZbS Tryz.prog 42 = some [(0, 1), (1, 1), (2, 4)] := by kernel_rfl
theorem Zrm : ZbS Tryz.prog 44 = some [(0, 6), (6, 1)] := by kernel_rfl
abbrev smallD : Zb6 := ⟨⟨3, 2, ⟨[1, 2], [], [], []⟩⟩, [5, 0, 7]⟩
section
variable {σ τ : St} {bb mb : Nat} {S : Nat -> Prop} {fs : List Fl} {pcs : List (Nat × Nat)} {size : Int} {pv : AV} {K : AV -> St -> Prop}
set_option maxHeartbeats 1000000 in
theorem Zsu (hK : ∀ as_ τ, SVs CT 0 ZaV (CT.enc 10 smallD) as_ -> Ext σ τ -> K (.agg as_) τ) : Zal Tryz.prog 29 [] σ K := by
 refine Zas ZaH Tryz.func29 rfl rfl rfl (Nat.le_of_ble_eq_true rfl) ?_
 refine ZuV (fun _ => True) trivial ?_
 intro e he
 repeat refine Zab ?_
 first|refine Zaa ?_|refine Zac ?_
 refine Zad ?_
 refine Zck (cs := ZfC) Zdy rfl fun b0 σ1 hn1 hu1 hb1 hub1 hX1 => ?_
 refine Zae ?_
 refine kp1 0 ?_
 clear he e
 intro e he
 repeat refine Zab ?_
 first|refine Zaa ?_|refine Zac ?_
 refine Zad ?_
 refine Zif (vs := [vI 1, vI 2]) (cells := [vI 1, vI 2]) (by simp only [List.map_cons, List.map_nil, EV,Nat.reduceEqDiff,↓reduceIte,he]; try rfl) Zz9 ZvN ZBY rfl (by omega) rfl rfl fun rb σ2 hN2 hX2 => ?_
 refine Zad ?_
 refine ZcI (vs := [.lst (some ⟨rb, 0, none⟩) 2 2 [vI 1, vI 2]]) (cells := [.lst (some ⟨rb, 0, none⟩) 2 2 [vI 1, vI 2], .lst none 0 0 [], .lst none 0 0 [], .lst none 0 0 []]) (by simp only [List.map_cons, List.map_nil, EV,Nat.reduceEqDiff,↓reduceIte,he]; try rfl) ZAa ZAb rfl ?_
 refine Zad ?_
 refine ZcI (vs := [vI 3, vI 2, .agg [.lst (some ⟨rb, 0, none⟩) 2 2 [vI 1, vI 2], .lst none 0 0 [], .lst none 0 0 [], .lst none 0 0 []]]) (cells := [vI 3, vI 2, .lst (some ⟨rb, 0, none⟩) 2 2 [vI 1, vI 2], .lst none 0 0 [], .lst none 0 0 [], .lst none 0 0 []]) (by simp only [List.map_cons, List.map_nil, EV,Nat.reduceEqDiff,↓reduceIte,he]; try rfl) ZAc ZAd rfl ?_
 refine Zad ?_
 refine Zif (vs := [.raw (.int .u8 5), .raw (.int .u8 0), .raw (.int .u8 7)]) (cells := [.raw (.int .u8 5), .raw (.int .u8 0), .raw (.int .u8 7)]) (by simp only [List.map_cons, List.map_nil, EV,Nat.reduceEqDiff,↓reduceIte,he]; try rfl) ZeR Zno Znn rfl (by omega) rfl rfl fun rb2 σ3 hN3 hX3 => ?_
 refine Zad ?_
 refine ZcI (vs := [.agg [vI 3, vI 2, .lst (some ⟨rb, 0, none⟩) 2 2 [vI 1, vI 2], .lst none 0 0 [], .lst none 0 0 [], .lst none 0 0 []], .lst (some ⟨rb2, 0, none⟩) 3 3 [.raw (.int .u8 5), .raw (.int .u8 0), .raw (.int .u8 7)]]) (cells := [vI 3, vI 2, .lst (some ⟨rb, 0, none⟩) 2 2 [vI 1, vI 2], .lst none 0 0 [], .lst none 0 0 [], .lst none 0 0 [], .lst (some ⟨rb2, 0, none⟩) 3 3 [.raw (.int .u8 5), .raw (.int .u8 0), .raw (.int .u8 7)]]) (by simp only [List.map_cons, List.map_nil, EV,Nat.reduceEqDiff,↓reduceIte,he]; try rfl) Zdy Zrm rfl ?_
 refine Zad ?_
 refine Zbn (b := b0) (o := 0) (u := .agg [vI 3, vI 2, .lst (some ⟨rb, 0, none⟩) 2 2 [vI 1, vI 2], .lst none 0 0 [], .lst none 0 0 [], .lst none 0 0 [], .lst (some ⟨rb2, 0, none⟩) 3 3 [.raw (.int .u8 5), .raw (.int .u8 0), .raw (.int .u8 7)]]) he rfl ((hX2.trans hX3).keep _ _ hb1) ZaY rfl rfl fun σ4 hb4 k4 => ?_
 refine Zae ?_
 refine ZaZ ?_
 refine ZnI rfl (ZbF he hb4 Zcd ZaY (Zdx rfl)) (hK _ σ4 ?_ (But.ext ((hX1.trans hX2).trans hX3) (fun g hg => by rw [hg]; exact hn1) k4))
 exact .cons (Zaw.2 rfl) (.cons (Zaw.2 rfl) (.cons (Zb8.2 ⟨some ⟨rb, 0, none⟩, 2, [vI 1, vI 2], [], rfl, Nat.le_refl _, by decide, by simp, (fun q => by cases q), .cons (Zaw.2 rfl) (.cons (Zaw.2 rfl) .none)⟩) (.cons (Zg5 0) (.cons (Zg5 0) (.cons (Zg5 0) (.cons (ZlV (d := [5, 0, 7]) (Zvh rb2 (by decide))) .none))))))
theorem Zx0 {k nm d : List UInt8} {fs' : List Fl} {pcs' : List (Nat × Nat)} (h : ZvK [] [] k nm d fs' pcs') (hk : k ≠ nm) : ∃ b v, fs' = [⟨nm, b, v, d⟩] /\ pcs' = [] := by
 obtain ⟨fs2, pcs2, f, ⟨fs1, f0, v', h1, h2, h3, rfl, rfl⟩, _, hf, hfk, rfl, rfl⟩ := h.ex
 rcases h1 with rfl | ⟨_, rfl, hd⟩
 ·cases h2
 ·have hset : ([] ++ [f0] : List Fl).map (ZdG f0.b v' (f0.d ++ d)) = [⟨k, f0.b, v', d⟩] := by
   simp [ZdG, h3, hd]
  rw [hset] at hf ⊢
  obtain rfl := List.mem_singleton.1 hf
  refine ⟨f0.b, v', ?_, ?_⟩
  ·simp [rnF, ZkA, hk]
  ·have hs : (ZeP [⟨k, f0.b, v', d⟩] [k] ([] ++ if d = [] then [] else [(f0.b, d.length)])).1 = [] := by
    rw [ZjN (fb := f0.b) (by simp [Zbs, Zjk]), ZpB]
    split <;> simp
   rw [hs]
   unfold rnP
   split <;> rfl
theorem ZDg : (Go.Lib.decDigits 1).length <= 21 := by rw [<- Go.Lib.itoa_nonneg 1]; exact Go.Lib.itoa_length_le _ (by omega) (by omega)
theorem ZAe (g : Nat) : ZfY g ≠ ZcV g := fun q => by
 have := congrArg List.length q
 simp [ZfY] at this
theorem Zqb {x y : Zb6} {r : Bool} {as_ bs_ : List AV} (hx : SVs CT 0 ZaV (CT.enc 10 x) as_) (hy : SVs CT 0 ZaV (CT.enc 10 y) bs_) (hS : Zdg x y = some (r, ())) (hK : ∀ τ, Ext σ τ -> K (vT r) τ) : Zal Tryz.prog 14 [.agg as_, .agg bs_] σ K :=
 ZlN (Zme.ok (x, y, ()) () (r, ()) hS) (.cons (ZcE.2 ⟨_, rfl, hx⟩) (.cons (ZcE.2 ⟨_, rfl, hy⟩) .none)) (fun N ρ a h => Za7.1 h) K hK
set_option maxHeartbeats 4000000 in
theorem Zx1 {bs d : List UInt8}
 (hB : Zdb smallD = some ((bs, 0, ()), ((), ()))) (hP : Zdt [⟨4, bs⟩] = some ((d, 0, ()), ((), ()))) (hdl : d.length <= 1000)
 (hL : Zb3 d = some smallD) (hS : Zdg smallD smallD = some (true, ())) (hK : ∀ τ, Ext σ τ -> K (vT true) τ) : Zal Tryz.prog 7 [] σ K := by
 refine Zas ZaH Tryz.func7 rfl rfl rfl (Nat.le_of_ble_eq_true rfl) ?_
 refine ZuV (fun _ => True) trivial ?_
 intro e he
 repeat refine Zab ?_
 first|refine Zaa ?_|refine Zac ?_
 refine Zah ?_
 refine Zae ?_
 repeat refine Zab ?_
 first|refine Zaa ?_|refine Zac ?_
 refine ZaK [vI 0] ?_
 refine ZyA fun bb mb σ1 h1 hX1 hnb hnm => ?_
 refine Zah ?_
 refine Zae ?_
 refine kp1 1 ?_
 clear he e
 intro e he
 repeat refine Zab ?_
 first|refine Zaa ?_|refine Zac ?_
 refine Zah ?_
 refine ZaK [ptr bb 0, vI 1] ?_
 refine ZvO (g := 1) h1 (by simp) (by omega) ZDg (by simp) fun σ2 hX2 => ?_
 refine Zah ?_
 refine Zad ?_
 refine Zax (l := [.agg ZfC, vT false, vI 0]) rfl rfl ?_
 refine Zad ?_
 refine Zax (l := [.agg ZfC, vT false, vI 0]) rfl rfl ?_
 refine Zad ?_
 refine Zax (l := [.agg ZfC, vT false, vI 0]) rfl rfl ?_
 refine Zad ?_
 refine Zck (cs := ZfC) Zdy rfl fun b2 σ3 hn3 hu3 hb3 hub3 hX3 => ?_
 refine Zad ?_
 refine Zbn (b := b2) (o := 0) (u := .agg ZfC) rfl rfl hb3 ZaY rfl rfl fun σ4 hb4 k4 => ?_
 refine Zah ?_
 refine Zah ?_
 refine Zae ?_
 refine kp3 1 3 4 ?_
 clear he e
 intro e he
 have hX14 : Ext σ1 σ4 := But.ext (hX2.trans hX3) (fun g hg => by rw [hg]; exact hX2.noneOf hn3) k4
 repeat refine Zab ?_
 first|refine Zaa ?_|refine Zac ?_
 refine Zah ?_
 refine ZaK [] ?_
 refine Zsu fun as_ σ5 hs5 hX5 => ?_
 have hX15 : Ext σ1 σ5 := hX14.trans hX5
 have h5 := h1.but (U := fun _ => False) hX15.but fun b hb hf => hf
 refine ZaK [ptr bb 0, vI 1, .agg as_] ?_
 refine ZzP (g := 1) (bs := bs) (d := d) h5 (fun c hc => hc.elim (fun q => q ▸ h5.used) (fun q => q ▸ h5.umap)) (by omega) ZDg hs5 hB hP (by show d.length + 0 <= _; omega) (by simp) (by show 0 <= _; omega) (fun hn => absurd (.inl (by omega)) hn) fun _ σ6 S' fs' pcs' pv' h6 k6 _ q6 u6 hA => ?_
 obtain ⟨fb, fv, rfl, rfl⟩ := Zx0 hA (ZAe 1)
 refine Zah ?_
 refine Zae ?_
 refine kp4 1 3 4 5 ?_
 clear he e
 intro e he
 repeat refine Zab ?_
 first|refine Zaa ?_|refine Zac ?_
 refine Zah ?_
 refine ZaK [ptr bb 0, vI 0] ?_
 refine Zwd h6 fun σ7 h7 k7 => ?_
 refine Zae ?_
 refine kp4 1 3 4 5 ?_
 clear he e
 intro e he
 repeat refine Zab ?_
 first|refine Zaa ?_|refine Zac ?_
 refine Zah ?_
 refine ZaK [ptr bb 0, vI 1] ?_
 refine Zst (g := 1) (f0 := ⟨ZcV 1, fb, fv, d⟩) h7 (fun f hf => by rw [List.mem_singleton.1 hf]; dsimp only; omega) (by omega) ZDg (List.mem_singleton.2 rfl) rfl fun bs_ σ8 hs8 hX8 => ?_
 dsimp only at hs8 ⊢
 rw [hL] at hs8 ⊢
 have hs8 : SVs CT 0 ZaV (CT.enc 10 smallD) bs_ := hs8
 have hb7 : bs_.length = 7 := hs8.len
 have hone : bs_.all AV.one = true := List.all_eq_true.2 (hs8.ones (List.all_eq_true.1 (show (CT.enc 10 smallD).all XV.one = true from rfl)))
 refine Zah ?_
 refine Zad ?_
 refine Zax (l := [.agg bs_, vT true, vI 0]) rfl rfl ?_
 refine Zad ?_
 refine Zax (l := [.agg bs_, vT true, vI 0]) rfl rfl ?_
 refine Zad ?_
 refine Zax (l := [.agg bs_, vT true, vI 0]) rfl rfl ?_
 refine Zad ?_
 refine Zck (cs := ZfC) Zdy rfl fun b6 σ9 hn9 hu9 hb9 hub9 hX9 => ?_
 refine Zad ?_
 refine Zbn (b := b6) (o := 0) (u := .agg bs_) (cs' := bs_) rfl rfl hb9 ZaY (by simp [Zb4, hb7, hone, ZfC]) (by simp [ZaG, hb7, ZfC]) fun σ10 hb10 k10 => ?_
 refine Zah ?_
 refine Zah ?_
 refine Zae ?_
 refine kp6 3 4 5 6 7 8 ?_
 clear he e
 intro e he
 refine Zjr ?_
 refine ⟨[0, 1, 2, 3, 4, 5, 6, 7, 8, 9, 10, 11, 12, 13, 14, 15, 16, 17, 18, 19, 20, 21, 22], [[], [0], [0, 1], [0, 1, 2], [0, 1, 2, 3], [0, 1, 2, 3, 4], [0, 1, 2, 3, 4, 5], [0, 1, 2, 3, 4, 5, 6], [0, 1, 2, 3, 4, 5, 6, 7], [0, 1, 2, 3, 4, 5, 6, 7, 8], [0, 1, 2, 3, 4, 5, 6, 7, 8, 9], [0, 1, 2, 3, 4, 5, 6, 7, 8, 9, 10], [0, 1, 2, 3, 4, 5, 6, 7, 8, 9, 10, 11], [0, 1, 2, 3, 4, 5, 6, 7, 8, 9, 10, 11, 12], [0, 1, 2, 3, 4, 5, 6, 7, 8, 9, 10, 11, 12, 13], [0, 1, 2, 3, 4, 5, 6, 7, 8, 9, 10, 11, 12, 13, 14], [0, 1, 2, 3, 4, 5, 6, 7, 8, 9, 10, 11, 12, 13, 14, 15], [0, 1, 2, 3, 4, 5, 6, 7, 8, 9, 10, 11, 12, 13, 14, 15, 16], [0, 1, 2, 3, 4, 5, 6, 7, 8, 9, 10, 11, 12, 13, 14, 15, 16, 17], [0, 1, 2, 3, 4, 5, 6, 7, 8, 9, 10, 11, 12, 13, 14, 15, 16, 17], [0, 1, 2, 3, 4, 5, 6, 7, 8, 9, 10, 11, 12, 13, 14, 15, 16, 17, 18, 19], [0, 1, 2, 3, 4, 5, 6, 7, 8, 9, 10, 11, 12, 13, 14, 15, 16, 17, 18, 19, 20], [0, 1, 2, 3, 4, 5, 6, 7, 8, 9, 10, 11, 12, 13, 14, 15, 16, 17, 18, 19, 20, 21]], fun _ => True, [18], [19], [], by kernel_rfl, ?_⟩
 refine ZgR ?_
 refine ZdI ?_
 with_reducible apply ZrX
 case hx => simp only [EV,Nat.reduceEqDiff,↓reduceIte,he];try rfl
 refine Zem ?_
 refine ZgR ?_
 refine ZgR ?_
 refine ZdI ?_
 refine Zub (k := .i64) (a := 0) (b := 0) rfl rfl ?_
 refine Zem ?_
 refine ZdI ?_
 refine Zbb (v := vT true) rfl rfl ?_
 refine Zem ?_
 refine ZgR ?_
 refine ZgR ?_
 refine ZdI ?_
 refine Zub (k := .i64) (a := 0) (b := 0) rfl rfl ?_
 refine Zem ?_
 refine ZdI ?_
 refine Zbb (v := vT true) rfl rfl ?_
 refine Zem ?_
 refine ZgR ?_
 refine ZgR ?_
 refine ZdI ?_
 refine Zbb (v := vT true) rfl rfl ?_
 refine Zem ?_
 refine ZgR ?_
 refine ZgR ?_
 refine ZdI ?_
 refine Zub (k := .i64) (a := 0) (b := 0) rfl rfl ?_
 refine Zem ?_
 refine ZdI ?_
 refine Zbb (v := vT true) rfl rfl ?_
 refine Zem ?_
 refine ZgR ?_
 refine ZdI ?_
 refine ZaC (b := b6) (o := 0) (r := .agg bs_) he.2.2.2.1 hb10 Zcd ZaY (Zdx hb7) ?_
 refine Zem ?_
 refine ZdI ?_
 refine Zgt (vs := []) (by simp only [List.map_cons, List.map_nil, EV,Nat.reduceEqDiff,↓reduceIte,he];try rfl) ?_
 refine Zsu fun cs_ σ11 hs11 hX11 => ⟨fun _ => hX11, ?_⟩
 refine ZdI ?_
 refine Zgt (vs := [.agg bs_, .agg cs_]) (by simp only [List.map_cons, List.map_nil, EV,Nat.reduceEqDiff,↓reduceIte,he];try rfl) ?_
 refine Zqb hs8 hs11 hS fun σ12 hX12 => ⟨fun _ => hX12, ?_⟩
 refine ZdI ?_
 refine Zbb (v := vT true) rfl rfl ?_
 refine Zem ?_
 refine ZgR ?_
 refine ZqR ?_
 refine kp1 0 ?_
 clear he e
 intro e he
 refine ZaZ ?_
 have hE5 : Ext σ σ5 := hX1.trans hX15
 have hS0 : ∀ b, (b = bb \/ b = mb) -> σ.blk b = none := fun b hb => hb.elim (fun q => q ▸ hnb.1) (fun q => q ▸ hnm.1)
 have hE7 : Ext σ σ7 := But.ext (But.ext hE5 hS0 k6) (fun b hb => (q6 b hb).elim (hS0 b) (fun hn => (hn.of hE5).1)) k7
 have hE8 : Ext σ σ8 := hE7.trans hX8
 exact ZbW (hK σ12 ((But.ext (hE8.trans hX9) (fun g hg => by rw [hg]; exact hE8.noneOf hn9) k10).trans (hX11.trans hX12)))
end
theorem Zrn (a b : List UInt8) (ha : a.length <= 140737488355328) : Zfj a b = some (decide (a = b), ()) := by
 unfold Zfj
 by_cases hl : a.length = b.length
 ·refine Zaq (dF (by omega)) ?_
  refine Zaf (ZvT (step := Zb0) a b (fun i => ((a, b, i, ()), ())) (.inl ((false, ()), ())) (.inr ((), ())) hl ha (fun i hi hj => ⟨fun he => ?_, fun he => ?_⟩) ?_) ?_
  ·unfold Zb0
   refine Zam (dT (by (try dsimp only); omega)) (Zaf (Zbg hi) (Zaf (Zbg hj) (Zaq (dF (by rw [he]; simp)) ?_)))
   dsimp only
   rw [w64 (by omega)]
   rfl
  ·unfold Zb0
   refine Zam (dT (by (try dsimp only); omega)) (Zaf (Zbg hi) (Zaf (Zbg hj) (Zam (dT ?_) rfl)))
   intro h
   exact he (UInt8.toNat_inj.1 (by omega))
  ·unfold Zb0
   exact Zaq (dF (by (try dsimp only); omega)) rfl
  ·by_cases he : a = b
   ·rw [if_pos he, decide_eq_true he]
   ·rw [if_neg he, decide_eq_false he]
 ·refine Zam (dT (by omega)) ?_
  rw [decide_eq_false (fun e => hl (by rw [e]))]
theorem ZhN {xs : List Int} (hn : xs.length <= 1000000) : Zdc xs xs = some (true, ()) := by
 unfold Zdc
 refine Zaq (by simp) ?_
 refine Zaf (ZfZ (step := ZcU) (fun i : Nat => ((xs, xs, (i : Int), ()), ())) (N := xs.length) (b := .inr ((), ())) (fun i hi => ?_) ?_) rfl
 ·unfold ZcU
  refine Zam (dT (by (try dsimp only); omega)) ?_
  refine Zaf (Zbg hi) ?_
  refine Zaf (Zbg hi) ?_
  refine Zaq (by simp) ?_
  dsimp only
  rw [w64 (by omega)]
  rfl
 ·unfold ZcU
  exact Zaq (dF (by (try dsimp only); omega)) rfl
theorem Zmw {x : Zb6} (hf : Zjc x.base.config) (hb : x.bytes.length <= 1000000) : Zdg x x = some (true, ()) := by
 unfold Zjc at hf
 have hC : Zet x.base.config x.base.config = some (true, ()) := by
  unfold Zet
  exact Zaf (ZhN (by omega)) (Zam rfl (Zaf (ZhN (by omega)) (Zam rfl (Zaf (ZhN (by omega)) (Zam rfl (Zaf (ZhN (by omega)) rfl))))))
 have hB : Zgm x.base x.base = some (true, ()) := by
  unfold Zgm
  exact Zam (by simp) (Zam (by simp) (Zaf hC rfl))
 have hS := Zrn x.bytes x.bytes (by omega)
 rw [decide_eq_true rfl] at hS
 unfold Zdg
 exact Zaf hB (Zam rfl (Zaf hS rfl))
theorem Zro {x : Zb6} (hf : Zjc x.base.config) (hb : x.bytes.length <= 5000) : Zdg x x = some (true, ()) := Zmw hf (by omega)
theorem ZAf {bs : List UInt8} (h : bs.length <= 262144) : Zdt [⟨4, bs⟩] = some ((codes [(4, bs)], 0, ()), ((), ())) := by
 have hok : Zsr (4, bs) := ⟨by show (0 : Int) <= 4; decide, by show (4 : Int) <= 255; decide, by show bs.length <= _; omega⟩
 have hc : (codes [(4, bs)]).length <= 300000 := by
  simp [codes, code, hd, le4]
  omega
 have hp := ZDe [⟨4, bs⟩] (by simp) (by show (codes [(4, bs)]).length <= _; omega)
 rw [show ZfN ([(⟨4, bs⟩ : ZbH)].map fr) = none from Zwa.2 (by intro f hf; rw [List.mem_singleton.1 hf]; exact hok)] at hp
 exact hp
theorem Zwe (bs : List UInt8) : (codes [(4, bs)]).length = 9 + bs.length := by
 simp [codes, code, hd, le4]
 omega
theorem Zny : ZeU smallD.base = true := by decide
theorem Zmx : Zjc smallD.base.config := by unfold Zjc; decide
theorem ZAg {x : Zb6} (hf : Zjc x.base.config) (hb : x.bytes.length <= 5000) (h : ZeU x.base = true) : (Zsm x).length <= 200000 /\ 0 < (Zsm x).length := by
 have hl := Zmu hf
 rw [ZhM hf (ZeW h).2] at hl
 dsimp only at hl
 have h9 := Zhc (n := x.bytes.length) (by omega)
 have h1 := Zsh x.bytes.length
 unfold Zsm ZtW
 rw [List.length_append, List.length_append]
 omega
theorem Zx2 {x : Zb6} (hf : Zjc x.base.config) (hb : x.bytes.length <= 5000) (h : ZeU x.base = true) : Zb3 (codes [(4, Zsm x)]) = some x := by
 have hl := (ZAg hf hb h).1
 have hok : Zsr (4, Zsm x) := ⟨by show (0 : Int) <= 4; decide, by show (4 : Int) <= 255; decide, by show (Zsm x).length <= _; omega⟩
 have ha := ZkG [(4, Zsm x)] (by intro f hf; rw [List.mem_singleton.1 hf]; exact hok) []
 rw [List.append_nil, ZeX (b := []) rfl] at ha
 have hbo : Za8 (Zsm x) = (x.base, some (ZtW x.bytes)) := Zso h
 have hro : ZoF 131072 (some (ZtW x.bytes)) = (x.bytes, some []) := by
  have := Zsn (t := x.bytes) (r := []) (by omega)
  rwa [List.append_nil] at this
 rw [Zrl (f := (4, Zsm x)) (by rw [ha]; rfl), if_pos ⟨by rw [ha]; rfl, rfl⟩]
 unfold ZgA
 rw [if_pos (Zz2 hf hb h), hbo]
 dsimp only
 rw [hro]
theorem Zkb {σ : St} {K : AV -> St -> Prop} (hK : ∀ τ, Ext σ τ -> K (vT true) τ) : Zal Tryz.prog 7 [] σ K := by
 have hB := Zz0 (x := smallD) Zmx (by decide)
 rw [if_pos Zny] at hB
 have hs : (Zsm smallD).length <= 500 := by decide +kernel
 have hd := Zwe (Zsm smallD)
 exact Zx1 hB (ZAf (by omega)) (by omega) (Zx2 Zmx (by decide) Zny) (Zro Zmx (by decide)) hK
theorem Zwf {fb : Nat} {v : AV} {d : List UInt8} {f : Fl} (h : f.b ≠ fb) : ZdG fb v d f = f := by unfold ZdG; rw [if_neg h]
theorem Zx3 {v : AV} {d : List UInt8} {f : Fl} : ZdG f.b v d f = ⟨f.nm, f.b, v, d⟩ := by unfold ZdG; rw [if_pos rfl]
theorem Zwg {fs : List Fl} {fb : Nat} {v : AV} {d : List UInt8} (h : ∀ f ∈ fs, f.b ≠ fb) : fs.map (ZdG fb v d) = fs := by
 conv => rhs; rw [<- List.map_id fs]
 exact List.map_congr_left fun f hf => Zwf (h f hf)
theorem Zx4 {fs fs' : List Fl} {pcs pcs' : List (Nat × Nat)} {k d : List UInt8} (h : Zth fs pcs k d fs' pcs') (hn : ∀ f ∈ fs, f.nm ≠ k) (hd : (fs'.map (·.b)).Nodup) :
 ∃ b v, fs' = fs ++ [⟨k, b, v, d⟩] /\ pcs' = pcs ++ (if d = [] then [] else [(b, d.length)]) /\ ∀ f ∈ fs, f.b ≠ b := by
 obtain ⟨fs1, f0, v', h1, h2, h3, rfl, rfl⟩ := h
 rcases h1 with rfl | ⟨_, rfl, h4⟩
 ·exact absurd h3 (hn f0 h2)
 ·have hb : ((fs ++ [f0]).map (ZdG f0.b v' (f0.d ++ d))).map (·.b) = fs.map (·.b) ++ [f0.b] := by
   rw [List.map_map, List.map_append, List.map_singleton]
   congr 1
   ·exact List.map_congr_left fun f _ => ZeO f
   ·simp [ZeO]
  rw [hb, List.nodup_append] at hd
  have hne : ∀ f ∈ fs, f.b ≠ f0.b := fun f hf e => hd.2.2 f.b (List.mem_map.2 ⟨f, hf, rfl⟩) f0.b (List.mem_singleton.2 rfl) e
  refine ⟨f0.b, v', ?_, rfl, hne⟩
  rw [List.map_append, Zwg hne, List.map_singleton, Zx3, h3, h4]
  rfl
section
variable {σ : St} {bb mb : Nat} {S : Nat -> Prop} {fs fs' fs3 : List Fl} {pcs pcs' pcs3 : List (Nat × Nat)} {size : Int} {pv : AV} {k nm d : List UInt8}
end
section
variable {σ τ : St} {bb mb : Nat} {S : Nat -> Prop} {fs fs' : List Fl} {pcs pcs' : List (Nat × Nat)} {size : Int} {pv : AV} {K : AV -> St -> Prop}
theorem ZtO {k d : List UInt8} {v : AV} {rb : Nat} (h : DAt σ bb S fs pcs size mb pv) (hS : ∀ c, S c -> σ.used c) (hv : SV CT 0 ZaV (.sl 1 d none) v) (hk : k ≠ [] /\ k.length <= 40) (hlen : d.length + Zef fs <= 100000000) (hp : pcs.length <= 100000000)
 (hK8 : ¬ (size < 1 \/ ((d.length + Zef fs : Nat) : Int) <= size) -> ∀ τ, Ext σ τ -> K (vI 8) τ)
 (hK0 : (size < 1 \/ ((d.length + Zef fs : Nat) : Int) <= size) -> ∀ τ S' fs' pcs' pv', DAt τ bb S' fs' pcs' size mb pv' -> But S σ τ -> (∀ c, S c -> S' c) -> (∀ c, S' c -> S c \/ Zc2 σ c) -> (∀ c, S' c -> τ.used c) -> Zth fs pcs k d fs' pcs' -> K (vI 0) τ) : Zal Tryz.prog 10 [ptr bb 0, .raw (sV k), .lst (some ⟨rb, 0, none⟩) 1 1 [v]] σ K := by
 refine ZpA (d := d) h hS (fun τ0 hX0 K' hK' => Zpz (ps := [d]) (Zb8.2 ⟨some ⟨rb, 0, none⟩, 1, [v], [], rfl, Nat.le_refl _, by decide, by simp, fun q => (by cases q), ?_⟩) (by simp) (by simp; omega) K' ?_) hlen hp (fun hn => absurd hk hn) (fun _ hn υ hX => hK8 hn υ hX) (fun _ hf υ S' fs' pcs' pv' g1 g2 g3 g4 g5 g6 => hK0 hf υ S' fs' pcs' pv' g1 g2 g3 g4 g5 g6)
 ·exact .cons hv .none
 ·intro v τ q1 q2 q3
  simp only [List.flatten_cons, List.flatten_nil, List.append_nil] at q1
  exact hK' v τ q1 q2 q3
end
end Go.Proofs.YteempnebenjkmaaGreatDoor
