/- XRdi, XRdj in one. -/
import Derived.Test.YtinpiaibhjmfaaaMl
namespace Go.Proofs.Ytinpiaibhjmfaaa
open Go.RowKit
set_option maxRecDepth 100000
set_option linter.unusedVariables false
set_option linter.unusedSimpArgs false
theorem ZpN {z0 z1 z2 a v : AV} {pl : Nat -> Option (Nat × Nat)} (h0 : pl 0 = some (0, 1)) (h2 : pl 2 = some (2, 1)) (ha : Zbi a = true /\ a.cells = [a]) (hv : Zbi v = true /\ v.cells = [v]) : Zcf pl [z0, z1, z2] ([0, 2].zip [a, v]) = some [a, z1, v] := by
 simp [Zcf, h0, h2, ha.1, ha.2, hv.1, hv.2, ZaR]
section
variable {σ τ : St} {rb : Nat} {S : Nat -> Prop} {l : List Rw} {ps : PL} {size : Int} {fv pv : AV} {K : AV -> St -> Prop}
theorem RAt.addR (h : RAt σ rb S l ps size fv pv) {k : List UInt8} {v : AV} {d : List UInt8} {fv' : AV} (k1 : But (fun c => c = rb \/ hbk fv = some c) σ τ) (hb : τ.blk rb = some (.own 46 [.raw (.int .i64 size), fv', pv])) (hfl : Hd τ 88 2 fv' (l ++ [(⟨k, v, d⟩ : Rw)]).length (rfC (l ++ [⟨k, v, d⟩]))) (hv : Hd τ 5 1 v d.length (bys d)) (hn : ∀ r ∈ l, r.nm ≠ k) (hvS : ∀ c, hbk v = some c -> ¬ S c) :
 RAt τ rb (fun c => S c \/ hbk fv' = some c \/ hbk v = some c) (l ++ [⟨k, v, d⟩]) ps size fv' pv := by
 obtain ⟨o1, o2, o3, o4⟩ := h.own
 refine ⟨hb, k1.used _ h.used, hfl, fun r hr => ?_, ?_, fun r hr q hq x hx hy => ?_, h.pc.but k1 fun c hc hq => ?_, ⟨.inl o1, fun x hx => .inr (.inl hx), fun r hr x hx => ?_, fun x hx => .inl (o4 x hx)⟩, fun c hc => ?_⟩
 ·rcases List.mem_append.1 hr with hr | hr
  ·refine (h.row r hr).but k1 fun c hc hq => ?_
   rcases hq with hq | hq
   ·exact ZcN (h.row r hr) h.obj (by decide) hc hq
   ·exact ZeO (h.row r hr) h.fl (by decide) hc hq
  ·rw [List.mem_singleton.1 hr]
   exact hv
 ·rw [List.map_append, List.nodup_append]
  refine ⟨h.nn, by simp, fun a ha b hb e => ?_⟩
  obtain ⟨r, hr, rfl⟩ := List.mem_map.1 ha
  simp at hb
  exact hn r hr (e.trans hb)
 ·rcases List.mem_append.1 hr with hr | hr <;> rcases List.mem_append.1 hq with hq | hq
  ·exact h.far r hr q hq x hx hy
  ·rw [List.mem_singleton.1 hq] at hy
   exact absurd (o3 r hr x hx) (hvS x hy)
  ·rw [List.mem_singleton.1 hr] at hx
   exact absurd (o3 q hq x hy) (hvS x hx)
  ·rw [List.mem_singleton.1 hr, List.mem_singleton.1 hq]
 ·rcases hq with hq | hq
  ·exact ZcN h.pc h.obj (by decide) hc hq
  ·exact ZeO h.pc h.fl (by decide) hc hq
 ·rcases List.mem_append.1 hr with hr | hr
  ·exact .inl (o3 r hr x hx)
  ·rw [List.mem_singleton.1 hr] at hx
   exact .inr (.inr hx)
 ·rcases hc with hc | hc | hc
  ·exact k1.used _ (h.su c hc)
  ·exact hfl.used hc
  ·exact hv.used hc
set_option maxHeartbeats 2000000 in
theorem Znr (h : RAt σ rb S l ps size fv pv) (hl : l.length <= 10000000) (hp : ps.length <= 10000000) (hfl : ∀ r ∈ l, r.d.length <= 1000000000)
 (hK : ∀ τ cb S2 l2 fv2 pv2, RAt τ cb S2 l2 ps size fv2 pv2 -> ZdO l2 = ZdO l -> Ext σ τ -> (∀ c, S2 c -> Za0 σ c) -> K (ptr cb 0) τ) : Zat Try.prog 19 [ptr rb 0] σ K := by
 refine Zam Zas Try.func19 rfl rfl rfl (Nat.le_of_ble_eq_true rfl) ?_
 refine Zbz 0 (v0 := ptr rb 0) rfl ?_
 intro e he
 repeat refine Zac ?_
 first|refine Zaa ?_|refine Zad ?_
 refine Zab (Zae rfl (by simp only [EV,Nat.reduceEqDiff,↓reduceIte,he];try rfl) ?_)
 refine Zaf ?_
 apply Zbz 0
 ·simp only [EV,Nat.reduceEqDiff,↓reduceIte,he];try rfl
 clear he e
 intro e he
 refine Zb5 ?_
 refine ⟨[0, 1, 2, 5, 6, 7, 3, 8, 4, 9, 10, 11, 12], [[], [0], [0, 1], [0, 1, 2], [], [], [5], [5, 6], [5, 6, 7], [4, 5, 6, 7, 8], [0, 1, 2, 3, 4, 5, 6, 7, 8, 9], [0, 1, 2, 3, 4, 5, 6, 7, 8, 9, 10], [0, 1, 2, 3, 4, 5, 6, 7, 8, 9, 10, 11]], fun _ => True, [3], [9], [], by kernel_rfl, ?_⟩
 apply Zai
 case hi => simp only [HIX]; try rfl
 case hw => rfl
 case how => rfl
 refine Zae rfl he ?_
 refine Zaq ?_
 apply Zai
 case hi => simp only [HIX]; try rfl
 case hw => rfl
 case how => rfl
 refine Zak (v := ptr rb 0) rfl rfl ?_
 refine Zaq ?_
 apply Zai
 case hi => simp only [HIX]; try rfl
 case hw => rfl
 case how => rfl
 refine Zag (b := rb) (o := 0) rfl ZaF rfl ?_
 refine Zaq ?_
 apply Zai
 case hi => simp only [HIX]; try rfl
 case hw => rfl
 case how => rfl
 refine Zae rfl he ?_
 refine Zaq ?_
 apply Zai
 case hi => simp only [HIX]; try rfl
 case hw => rfl
 case how => rfl
 refine Zak (v := ptr rb 0) rfl rfl ?_
 refine Zaq ?_
 apply Zai
 case hi => simp only [HIX]; try rfl
 case hw => rfl
 case how => rfl
 refine Zag (b := rb) (o := 0) rfl ZaF rfl ?_
 refine Zaq ?_
 apply Zai
 case hi => simp only [HIX]; try rfl
 case hw => rfl
 case how => rfl
 refine Zar (b := rb) (o := 0 + 0) (r := .raw (.int .i64 size)) rfl h.obj Zck Zcc rfl ?_
 refine Zaq ?_
 apply Zai
 case hi => simp only [HIX]; try rfl
 case hw => rfl
 case how => rfl
 refine Zar (b := rb) (o := 0 + 2) (r := pv) rfl h.obj Zca ZbR rfl ?_
 refine Zaq ?_
 apply Zai
 case hi => simp only [HIX]; try rfl
 case hw => rfl
 case how => rfl
 refine Zdr (vs := []) (cells := []) rfl ZbE Zby Zdc rfl (by omega) rfl rfl fun b2 υ2 hN2 hX2 => ?_
 refine ⟨fun _ => hX2, ?_⟩
 apply Zai
 case hi => simp only [HIX]; try rfl
 case hw => rfl
 case how => rfl
 refine Zha (m := ps.length) (news := rpC ps) rfl rfl ZbE Zby Zdc Zf8 rfl (by omega) ((h.pc.ext hX2).src (by omega)) (by unfold maxLen; omega) (by omega) fun pv2 υ3 hp3 hX3 hn3 => ?_
 refine ⟨fun _ => hX3, ?_⟩
 have hE3 := hX2.trans hX3
 have hpn : ∀ c, hbk pv2 = some c -> Za0 σ c := fun c hc => Za0.of (hn3 c hc) hX2
 apply Zai
 case hi => simp only [HIX]; try rfl
 case hw => rfl
 case how => rfl
 refine Za4 (vs := [.raw (.int .i64 size), pv2]) (cells := [.raw (.int .i64 size), .lst none 0 0 [], pv2]) (by simp only [List.map_cons, List.map_nil, EV,Nat.reduceEqDiff,↓reduceIte,he];try rfl) Zma Zmc (ZpN rfl rfl ⟨rfl, rfl⟩ hp3.oneV.2) ?_
 refine Zaq ?_
 apply Zai
 case hi => simp only [HIX]; try rfl
 case hw => rfl
 case how => rfl
 refine Zdq (cs := [.raw (.int .i64 size), .lst none 0 0 [], pv2]) (v := .agg [.raw (.int .i64 size), .lst none 0 0 [], pv2]) rfl (by simp [Zbi, AV.one, hp3.oneV.1]) fun cb υ4 hcn hcu hcb hcub hX4 => ?_
 refine ⟨(fun hf => by cases hf), ?_⟩
 apply Zai
 case hi => simp only [HIX]; try rfl
 case hw => rfl
 case how => rfl
 refine Zae rfl rfl ?_
 refine Zaq ?_
 refine Zcg ?_
 have hE4 := hE3.trans hX4
 have hcN : Za0 σ cb := Za0.of ⟨hcn, hcu⟩ hE3
 have h4 : RAt υ4 cb (fun c => c = cb \/ hbk pv2 = some c) [] ps size (.lst none 0 0 []) pv2 := ⟨hcb, hcub, ⟨by simp [rfC], by simp [rfC], .inl ⟨.inl rfl, rfl⟩⟩, (fun r hr => by cases hr), List.nodup_nil, (fun r hr => by cases hr), hp3.ext hX4, ⟨.inl rfl, (fun x hx => by cases hx), (fun r hr => by cases hr), fun x hx => .inr hx⟩, fun c hc => by
  rcases hc with rfl | hc
  ·exact hcub
  ·exact hX4.used _ (hp3.used hc)⟩
 apply ZaK 0 3
 iterate 2 ·simp only [EV,Nat.reduceEqDiff,↓reduceIte,he];try rfl
 clear he e
 intro e he
 repeat refine Zac ?_
 first|refine Zaa ?_|refine Zad ?_
 refine Zab (Zae rfl (by simp only [EV,Nat.reduceEqDiff,↓reduceIte,he];try rfl) ?_)
 refine Zaf ?_
 apply ZaL 0 3 4
 iterate 3 ·simp only [EV,Nat.reduceEqDiff,↓reduceIte,he];try rfl
 clear he e
 intro e he
 refine ZaZ (fun env υ => env 3 = ptr cb 0 /\ ∃ S2 l2 fv2, RAt υ cb S2 l2 ps size fv2 pv2 /\ ZdO l2 = ZdO l /\ Ext σ υ /\ (∀ c, S2 c -> Za0 σ c)) ?_ ?_
 ·refine ZaT ?_
  refine ZaV (fun μ env υ => ∃ (i : Nat), ∃ S2 l2 fv2, μ = l.length - i /\ i <= l.length /\ (env 0 = ptr rb 0 /\ env 3 = ptr cb 0 /\ env 4 = vI i) /\ RAt υ cb S2 l2 ps size fv2 pv2 /\ ZdO l2 = ZdO (l.take i) /\ Ext σ υ /\ (∀ c, S2 c -> Za0 σ c)) ⟨_, 0, _, [], _, rfl, Nat.zero_le _, he, h4, rfl, hE4, fun c hc => ?_⟩ ?_
  ·rcases hc with rfl | hc
   ·exact hcN
   ·exact hpn c hc
  clear he e h4
  rintro _ e υ ⟨i, S2, l2, fv2, rfl, hi, he, h4, hd, hE, hS⟩
  have h1 := h.ext hE
  repeat refine Zac ?_
  first|refine Zaa ?_|refine Zad ?_
  refine Zab (Zae rfl he.2.2 ?_)
  refine ZcX (b := rb) he.1 ZaF rfl h1.obj rfl ZbX ZbF fun u1 u2 u3 => ?_
  refine Zab ?_
  refine ZbS rfl h1.fl rfl Zbh ?_
  refine Zab ?_
  refine Zbs i l.length rfl rfl ?_
  refine Zaf ?_
  apply ZaP 0 3 4 23
  iterate 4 ·simp only [EV,Nat.reduceEqDiff,↓reduceIte,he];try rfl
  clear he e
  intro e he
  refine Zav (t := decide (i < l.length)) (by simp only [EV,Nat.reduceEqDiff,↓reduceIte,he];try rfl) (fun ht => ?_) (fun ht => ?_)
  ·have hlt : i < l.length := of_decide_eq_true ht
   have hm := List.getElem_mem hlt
   have hdi := hfl _ hm
   have hl2 : l2.length = i := by
    have := congrArg List.length hd
    unfold ZdO at this
    rw [List.length_map, List.length_map, List.length_take] at this
    omega
   refine Zaz ?_
   refine ZaD ?_
   refine ZcS ?_
   refine ⟨[0, 1, 2, 3, 5, 6, 7, 9, 14, 15, 16, 18, 4, 8, 10, 11, 12, 17, 19, 20, 21, 13, 22, 23, 24, 25, 26, 27, 28], [[], [], [1], [1, 2], [1, 2, 3], [], [5], [5, 6], [5, 6, 7], [], [5, 6, 7, 8, 9], [5, 6, 7, 8, 9, 10], [5, 6, 7, 8, 9, 10, 11], [], [], [14], [14, 15], [14, 15, 16], [], [14, 15, 16, 17, 18], [14, 15, 16, 17, 18, 19], [14, 15, 16, 17, 18, 19, 20], [13, 14, 15, 16, 17, 18, 19, 20, 21], [5, 6, 7, 8, 9, 10, 11, 12, 13, 14, 15, 16, 17, 18, 19, 20, 21, 22], [5, 6, 7, 8, 9, 10, 11, 12, 13, 14, 15, 16, 17, 18, 19, 20, 21, 22, 23], [1, 2, 3, 4, 5, 6, 7, 8, 9, 10, 11, 12, 13, 14, 15, 16, 17, 18, 19, 20, 21, 22, 23, 24], [0, 1, 2, 3, 4, 5, 6, 7, 8, 9, 10, 11, 12, 13, 14, 15, 16, 17, 18, 19, 20, 21, 22, 23, 24, 25], [0, 1, 2, 3, 4, 5, 6, 7, 8, 9, 10, 11, 12, 13, 14, 15, 16, 17, 18, 19, 20, 21, 22, 23, 24, 25, 26], [0, 1, 2, 3, 4, 5, 6, 7, 8, 9, 10, 11, 12, 13, 14, 15, 16, 17, 18, 19, 20, 21, 22, 23, 24, 25, 26, 27]], fun _ => True, [4, 8, 12], [22], [], by kernel_rfl, ?_⟩
   apply Zai
   case hi => simp only [HIX]; try rfl
   case hw => rfl
   case how => rfl
   refine Zae rfl (by simp only [EV,Nat.reduceEqDiff,↓reduceIte,he];try rfl) ?_
   refine Zaq ?_
   apply Zai
   case hi => simp only [HIX]; try rfl
   case hw => rfl
   case how => rfl
   refine Zae rfl (by simp only [EV,Nat.reduceEqDiff,↓reduceIte,he];try rfl) ?_
   refine Zaq ?_
   apply Zai
   case hi => simp only [HIX]; try rfl
   case hw => rfl
   case how => rfl
   refine Zak (v := ptr cb 0) (by simp only [EV,Nat.reduceEqDiff,↓reduceIte,he];try rfl) rfl ?_
   refine Zaq ?_
   apply Zai
   case hi => simp only [HIX]; try rfl
   case hw => rfl
   case how => rfl
   refine Zag (b := cb) (o := 0) (by simp only [EV,Nat.reduceEqDiff,↓reduceIte,he];try rfl) ZaF rfl ?_
   refine Zaq ?_
   apply Zai
   case hi => simp only [HIX]; try rfl
   case hw => rfl
   case how => rfl
   refine Zae rfl (by simp only [EV,Nat.reduceEqDiff,↓reduceIte,he];try rfl) ?_
   refine Zaq ?_
   apply Zai
   case hi => simp only [HIX]; try rfl
   case hw => rfl
   case how => rfl
   refine Zak (v := ptr rb 0) (by simp only [EV,Nat.reduceEqDiff,↓reduceIte,he];try rfl) rfl ?_
   refine Zaq ?_
   apply Zai
   case hi => simp only [HIX]; try rfl
   case hw => rfl
   case how => rfl
   refine Zag (b := rb) (o := 0) (by simp only [EV,Nat.reduceEqDiff,↓reduceIte,he];try rfl) ZaF rfl ?_
   refine Zaq ?_
   apply Zai
   case hi => simp only [HIX]; try rfl
   case hw => rfl
   case how => rfl
   refine Zae rfl (by simp only [EV,Nat.reduceEqDiff,↓reduceIte,he];try rfl) ?_
   refine Zaq ?_
   apply Zai
   case hi => simp only [HIX]; try rfl
   case hw => rfl
   case how => rfl
   refine Zae rfl (by simp only [EV,Nat.reduceEqDiff,↓reduceIte,he];try rfl) ?_
   refine Zaq ?_
   apply Zai
   case hi => simp only [HIX]; try rfl
   case hw => rfl
   case how => rfl
   refine Zak (v := ptr rb 0) (by simp only [EV,Nat.reduceEqDiff,↓reduceIte,he];try rfl) rfl ?_
   refine Zaq ?_
   apply Zai
   case hi => simp only [HIX]; try rfl
   case hw => rfl
   case how => rfl
   refine Zag (b := rb) (o := 0) (by simp only [EV,Nat.reduceEqDiff,↓reduceIte,he];try rfl) ZaF rfl ?_
   refine Zaq ?_
   apply Zai
   case hi => simp only [HIX]; try rfl
   case hw => rfl
   case how => rfl
   refine Zae rfl (by simp only [EV,Nat.reduceEqDiff,↓reduceIte,he];try rfl) ?_
   refine Zaq ?_
   apply Zai
   case hi => simp only [HIX]; try rfl
   case hw => rfl
   case how => rfl
   refine Zar (b := cb) (o := 0 + 1) (r := fv2) (by simp only [EV,Nat.reduceEqDiff,↓reduceIte,he];try rfl) h4.obj ZbX ZbF rfl ?_
   refine Zaq ?_
   apply Zai
   case hi => simp only [HIX]; try rfl
   case hw => rfl
   case how => rfl
   refine Zar (b := rb) (o := 0 + 1) (r := fv) (by simp only [EV,Nat.reduceEqDiff,↓reduceIte,he];try rfl) h1.obj ZbX ZbF rfl ?_
   refine Zaq ?_
   apply Zai
   case hi => simp only [HIX]; try rfl
   case hw => rfl
   case how => rfl
   refine Zbb (k := .i64) (j := i) (by simp only [EV,Nat.reduceEqDiff,↓reduceIte,he];try rfl) (by simp only [EV,Nat.reduceEqDiff,↓reduceIte,he];try rfl) Zbh ZbA h1.fl hlt fun b5 hb5 => ?_
   refine Zaq ?_
   apply Zai
   case hi => simp only [HIX]; try rfl
   case hw => rfl
   case how => rfl
   refine Zag (b := b5) (o := i * 2) (by simp only [EV,Nat.reduceEqDiff,↓reduceIte,he];try rfl) Zcx rfl ?_
   refine Zaq ?_
   apply Zai
   case hi => simp only [HIX]; try rfl
   case hw => rfl
   case how => rfl
   refine ZgC (by simp only [EV,Nat.reduceEqDiff,↓reduceIte,he];try rfl) h1.fl hb5 (Zeh hlt).1 Zb7 ZbJ ?_
   refine Zaq ?_
   apply Zai
   case hi => simp only [HIX]; try rfl
   case hw => rfl
   case how => rfl
   refine Zar (b := rb) (o := 0 + 1) (r := fv) (by simp only [EV,Nat.reduceEqDiff,↓reduceIte,he];try rfl) h1.obj ZbX ZbF rfl ?_
   refine Zaq ?_
   apply Zai
   case hi => simp only [HIX]; try rfl
   case hw => rfl
   case how => rfl
   refine Zbb (k := .i64) (j := i) (by simp only [EV,Nat.reduceEqDiff,↓reduceIte,he];try rfl) (by simp only [EV,Nat.reduceEqDiff,↓reduceIte,he];try rfl) Zbh ZbA h1.fl hlt fun b6 hb6 => ?_
   refine Zaq ?_
   apply Zai
   case hi => simp only [HIX]; try rfl
   case hw => rfl
   case how => rfl
   refine Zag (b := b6) (o := i * 2) (by simp only [EV,Nat.reduceEqDiff,↓reduceIte,he];try rfl) Zcx rfl ?_
   refine Zaq ?_
   apply Zai
   case hi => simp only [HIX]; try rfl
   case hw => rfl
   case how => rfl
   refine ZgC (by simp only [EV,Nat.reduceEqDiff,↓reduceIte,he];try rfl) h1.fl hb6 (Zeh hlt).2 ZbO ZaJ ?_
   refine Zaq ?_
   apply Zai
   case hi => simp only [HIX]; try rfl
   case hw => rfl
   case how => rfl
   refine Zdr (vs := []) (cells := []) rfl Zaw Zbf ZbT rfl (by omega) rfl rfl fun b7 υ5 hN5 hX5 => ?_
   refine ⟨fun _ => hX5, ?_⟩
   apply Zai
   case hi => simp only [HIX]; try rfl
   case hw => rfl
   case how => rfl
   refine Zha (m := l[i].d.length) (news := bys l[i].d) (by simp only [EV,Nat.reduceEqDiff,↓reduceIte,he];try rfl) (by simp only [EV,Nat.reduceEqDiff,↓reduceIte,he];try rfl) Zaw Zbf ZbT Zke rfl (by omega) (((h1.row _ hm).ext hX5).src (by omega)) (by unfold maxLen; omega) (by omega) fun v6 υ6 hv6 hX6 hn6 => ?_
   refine ⟨fun _ => hX6, ?_⟩
   apply Zai
   case hi => simp only [HIX]; try rfl
   case hw => rfl
   case how => rfl
   refine Za4 (vs := [.raw (sV l[i].nm), v6]) (cells := [.raw (sV l[i].nm), v6]) (by simp only [List.map_cons, List.map_nil, EV,Nat.reduceEqDiff,↓reduceIte,he];try rfl) Zdk Zmb (Zqx rfl rfl ⟨rfl, rfl⟩ hv6.oneV.2) ?_
   refine Zaq ?_
   apply Zai
   case hi => simp only [HIX]; try rfl
   case hw => rfl
   case how => rfl
   refine Zdr (vs := [.agg [.raw (sV l[i].nm), v6]]) (cells := [.raw (sV l[i].nm), v6]) (by simp only [List.map_cons, List.map_nil, EV,Nat.reduceEqDiff,↓reduceIte,he];try rfl) Zbh ZbA Zdk rfl (by omega) (by simp [Zcf, Zbi, AV.cells, ZaR]) rfl fun b8 υ7 hN7 hX7 => ?_
   refine ⟨(fun hf => by cases hf), ?_⟩
   have hE57 := (hX5.trans hX6).trans hX7
   have h7 := h4.ext hE57
   apply Zai
   case hi => simp only [HIX]; try rfl
   case hw => rfl
   case how => rfl
   refine Za9 (m := 1) (news := [.raw (sV l[i].nm), v6]) (r := .lst (some ⟨b8, 0, none⟩) 1 1 ([.raw (sV l[i].nm), v6] ++ [])) (by simp only [EV,Nat.reduceEqDiff,↓reduceIte,he];try rfl) (by simp only [EV,Nat.reduceEqDiff,↓reduceIte,he];try rfl) Zbh ZbA Zdk ZfJ rfl (by omega) h7.fl (ZbY rfl (Zmd rfl hv6.oneV.1) (fun q => by cases q)) (by unfold maxLen; omega) (by omega) fun fv3 υ8 hf8 hB8 hn8 => ?_
   refine ⟨(fun hf => by cases hf), ?_⟩
   apply Zai
   case hi => simp only [HIX]; try rfl
   case hw => rfl
   case how => rfl
   refine Zak (v := ptr cb 0) (by simp only [EV,Nat.reduceEqDiff,↓reduceIte,he];try rfl) rfl ?_
   refine Zaq ?_
   apply Zai
   case hi => simp only [HIX]; try rfl
   case hw => rfl
   case how => rfl
   refine Zag (b := cb) (o := 0) (by simp only [EV,Nat.reduceEqDiff,↓reduceIte,he];try rfl) ZaF rfl ?_
   refine Zaq ?_
   have hobj8 := hB8.keep _ _ (fun hq => ZcN h7.fl h7.obj (by decide) hq rfl) h7.obj
   apply Zai
   case hi => simp only [HIX]; try rfl
   case hw => rfl
   case how => rfl
   refine ZbQ (b := cb) (o := 0 + 1) (v := fv3) (by simp only [EV,Nat.reduceEqDiff,↓reduceIte,he];try rfl) (by simp only [EV,Nat.reduceEqDiff,↓reduceIte,he];try rfl) hobj8 ZbF hf8.oneV (by simp) fun υ9 hb9 k9 => ?_
   refine ⟨(fun hf => by cases hf), ?_⟩
   refine Zcg ?_
   have hB9 : But (fun c => c = cb \/ hbk fv2 = some c) υ7 υ9 := (hB8.sub fun c hc => .inr hc).trans (k9.sub fun c hc => .inl hc)
   have hv7 := hv6.ext hX7
   have hf9 : Hd υ9 88 2 fv3 (l2 ++ [(⟨l[i].nm, v6, l[i].d⟩ : Rw)]).length (rfC (l2 ++ [⟨l[i].nm, v6, l[i].d⟩])) := by
    rw [List.length_append, Zjx]
    exact hf8.but k9 fun c hc hq => ZcN hf8 hobj8 (by decide) hc hq
   have hv9 : Hd υ9 5 1 v6 l[i].d.length (bys l[i].d) := hv7.but hB9 fun c hc hq => by
    rcases hq with hq | hq
    ·exact ZcN hv7 h7.obj (by decide) hc hq
    ·exact ZeO hv7 h7.fl (by decide) hc hq
   have hvN : ∀ c, hbk v6 = some c -> Za0 υ c := fun c hc => Za0.of (hn6 c hc) hX5
   have hnm2 : l2.map (·.nm) = (l.take i).map (·.nm) := by
    have := congrArg (List.map Prod.fst) hd
    unfold ZdO at this
    rw [List.map_map, List.map_map] at this
    exact this
   have h9 := h7.addR hB9 hb9 hf9 hv9 (fun r hr e => ?_) fun c hc hs => (hvN c hc).2 (h4.su c hs)
   ·have hSN : ∀ c, (S2 c \/ hbk fv3 = some c \/ hbk v6 = some c) -> Za0 σ c := fun c hc => by
     rcases hc with hc | hc | hc
     ·exact hS c hc
     ·rcases hn8 c hc with q | q
      ·exact hS c (h4.own.2.1 c q)
      ·exact Za0.of q (hE.trans hE57)
     ·exact Za0.of (hvN c hc) hE
    have hE9 : Ext σ υ9 := But.ext (hE.trans hE57) (fun c hc => by
     rcases hc with hc | hc
     ·rw [hc]; exact (hS cb h4.own.1).1
     ·exact (hS c (h4.own.2.1 c hc)).1) hB9
    have hd9 : ZdO (l2 ++ [⟨l[i].nm, v6, l[i].d⟩]) = ZdO (l.take (i + 1)) := by
     rw [List.take_succ_eq_append_getElem hlt]
     unfold ZdO at hd ⊢
     rw [List.map_append, List.map_append, hd]
     rfl
    show Zay _ _ _ _ _ _
    apply ZaL 0 3 4
    iterate 3 ·simp only [EV,Nat.reduceEqDiff,↓reduceIte,he];try rfl
    clear he e
    intro e he
    refine Zad ?_
    refine Zab (Zae rfl he.2.2 ?_)
    refine Zab ?_
    refine ZaU i 1 rfl rfl (by omega) ?_
    refine Zab (Zae rfl (by simp only [EV,Nat.reduceEqDiff,↓reduceIte,he];try rfl) ?_)
    refine Zaf ?_
    show ∃ n', n' < _ /\ _
    exact ⟨_, (by omega : l.length - (i + 1) < l.length - i), i + 1, _, _, fv3, rfl, hlt, ⟨by simp only [EV,Nat.reduceEqDiff,↓reduceIte,he];try rfl, by simp only [EV,Nat.reduceEqDiff,↓reduceIte,he];try rfl, by simp only [EV,Nat.reduceEqDiff,↓reduceIte,he];try rfl⟩, h9, hd9, hE9, hSN⟩
   ·have hmem : l[i].nm ∈ (l.take i).map (·.nm) := by
     rw [<- hnm2]
     exact List.mem_map.2 ⟨r, hr, e⟩
    have hnn := h.nn
    rw [<- List.take_append_drop i l, List.map_append, List.nodup_append] at hnn
    exact hnn.2.2 _ hmem l[i].nm (by rw [List.drop_eq_getElem_cons hlt]; exact List.mem_cons_self) rfl
  ·have hke : i = l.length := by have := of_decide_eq_false ht; omega
   rw [hke, List.take_length] at hd
   refine Zbe ?_
   exact ⟨rfl, by simp only [EV,Nat.reduceEqDiff,↓reduceIte,he];try rfl, S2, l2, fv2, h4, hd, hE, hS⟩
 clear he e h4
 rintro e υ ⟨he, S2, l2, fv2, h4, hd, hE, hS⟩
 repeat refine Zac ?_
 first|refine Zaa ?_|refine Zad ?_
 refine Zab (Zae rfl he ?_)
 refine Zab (Zae rfl (by simp only [EV,Nat.reduceEqDiff,↓reduceIte,he];try rfl) ?_)
 refine Zaf ?_
 refine Zax ?_
 show ∃ r, Zaj _ _ _ _ r /\ _
 exact ⟨_, Zal rfl rfl, hK υ cb S2 l2 fv2 pv2 h4 hd hE hS⟩
end
end Go.Proofs.Ytinpiaibhjmfaaa
namespace Go.Proofs.Ytinpiaibhjmfaaa
open Go.RowKit
set_option maxRecDepth 100000
set_option linter.unusedVariables false
set_option linter.unusedSimpArgs false
inductive Zej (size : Int) (nm : List UInt8) (ns : List (List UInt8)) (n : Int) (pa : List (List UInt8)) (l : List Rw) (ps : PL) : Nat -> List Rw -> PL -> Nat -> Prop
 | bad {i : Nat} : i < 2 -> ¬ (nm ≠ [] /\ nm.length <= 40) -> Zej size nm ns n pa l ps i l ps 2
 | full {i : Nat} : i < 2 -> (nm ≠ [] /\ nm.length <= 40) -> ¬ (size < 1 \/ ((pa.flatten.length + Zem l : Nat) : Int) <= size) -> Zej size nm ns n pa l ps i l ps 8
 | app {i : Nat} {l' ps'} : i < 2 -> (nm ≠ [] /\ nm.length <= 40) -> (size < 1 \/ ((pa.flatten.length + Zem l : Nat) : Int) <= size) -> ZpL l ps nm pa.flatten l' ps' -> Zej size nm ns n pa l ps i l' ps' 0
 | sync : Zej size nm ns n pa l ps 2 l (ZdW (l.map (·.nm)) ns ps).1 (ZdW (l.map (·.nm)) ns ps).2
 | cut6 : (∀ r ∈ l, r.nm ≠ nm) -> Zej size nm ns n pa l ps 3 l ps 6
 | cut2 {r : Rw} : r ∈ l -> r.nm = nm -> (n < 0 \/ (r.d.length : Int) < n) -> Zej size nm ns n pa l ps 3 l ps 2
 | cut {j : Nat} {v' : AV} (hj : j < l.length) : l[j].nm = nm -> 0 <= n -> n <= (l[j].d.length : Int) -> Zej size nm ns n pa l ps 3 (l.set j ⟨nm, v', l[j].d.take n.toNat⟩) ((Zmg nm (l[j].d.length - n.toNat) ps).filter fun p => decide (0 < p.2)) 0
 | ren2 : (∃ r ∈ l, r.nm = nm) -> ¬ (Zbo nm ns ≠ [] /\ (Zbo nm ns).length <= 40) -> Zej size nm ns n pa l ps 4 l ps 2
 | ren6 : (∀ r ∈ l, r.nm ≠ nm) -> Zej size nm ns n pa l ps 4 l ps 6
 | rens : (∃ r ∈ l, r.nm = nm) -> nm = Zbo nm ns -> (Zbo nm ns ≠ [] /\ (Zbo nm ns).length <= 40) -> Zej size nm ns n pa l ps 4 l ps 0
 | ren {r : Rw} {l1 : List Rw} {j : Nat} {v' : AV} : r ∈ l -> r.nm = nm -> nm ≠ Zbo nm ns -> (Zbo nm ns ≠ [] /\ (Zbo nm ns).length <= 40) -> ZhW (noN nm (noN (Zbo nm ns) l)) (Zbo nm ns) l1 j -> Zej size nm ns n pa l ps 4 (l1.set j ⟨Zbo nm ns, v', r.d⟩) (noP nm (Zfu nm (Zbo nm ns) (noP (Zbo nm ns) ps))) 0
 | rem : Zej size nm ns n pa l ps 5 (Zei ns l ps).1 (Zei ns l ps).2.1 (Zei ns l ps).2.2
 | crash {l'} : ZdO l' = ZdK ((ZdJ ps : Int) - max n 0).toNat (ZdO l) ps.reverse -> Zej size nm ns n pa l ps 6 l' [] 0
 | none {i : Nat} : 7 <= i -> Zej size nm ns n pa l ps i l ps 0
section
variable {σ : St} {rb : Nat} {S : Nat -> Prop} {l : List Rw} {ps : PL} {size : Int} {fv pv : AV} {K : AV -> St -> Prop}
theorem Zmm {kd n : Int} {nm : List UInt8} {pa : List (List UInt8)} {vN vP : AV} {ns : List (List UInt8)} (h : RAt σ rb S l ps size fv pv) (hl : l.length <= 10000000) (hp : ps.length <= 10000000) (hwf : RWf l ps) (hs : ZdJ ps <= 1000000000) (hfl : ∀ r ∈ l, r.d.length <= 1000000000) (hpl : pa.length <= 1000000) (hB : pa.flatten.length + Zem l <= 100000000) (hn : -9223372036854775808 <= n /\ n <= 9223372036854775807)
 (hN : Zc6 σ vN ns) (hNS : ∀ c, hbk vN = some c -> ¬ S c) (hnl : ns.length <= 1000000000) (h1 : vN.one = true /\ vP.one = true) (h1b : Zbi vN = true /\ Zbi vP = true) (hP : SV CT 0 ZdC (.sl 3 pa none) vP)
 (hK : ∀ τ S' l' ps' fv' pv' a, RAt τ rb S' l' ps' size fv' pv' -> But S σ τ -> (∀ c, S c -> S' c) -> (∀ c, S' c -> S c \/ Za0 σ c) -> Zej size nm ns n pa l ps (Zd4 kd 8) l' ps' a -> K (vI a) τ) : Zat Try.prog 23 [ptr rb 0, .agg (Zb2 kd nm vN n vP)] σ K := by
 refine Zam Zas Try.func23 rfl rfl rfl (Nat.le_of_ble_eq_true rfl) ?_
 refine ZaK 0 1 (v0 := ptr rb 0) (v1 := .agg (Zb2 kd nm vN n vP)) rfl rfl ?_
 intro e he
 repeat refine Zac ?_
 first|refine Zaa ?_|refine Zad ?_
 refine Zab ?_
 refine Zdq (cs := Zb2 kd nm vN n vP) (v := .agg (Zb2 kd nm vN n vP)) he.2 (by simp [Zb2, Zbi, AV.one, h1]) fun b3 σ1 hn3 hu3 hb3 hub3 hX1 => ?_
 refine Zab (Zae rfl (by simp only [EV,Nat.reduceEqDiff,↓reduceIte,he];try rfl) ?_)
 refine Zaf ?_
 apply ZaK 0 3
 iterate 2 ·simp only [EV,Nat.reduceEqDiff,↓reduceIte,he];try rfl
 clear he e
 intro e he
 repeat refine Zac ?_
 first|refine Zaa ?_|refine Zad ?_
 refine Zab ?_
 refine Zag (b := b3) (o := 0) he.2 Za5 rfl ?_
 refine Zab ?_
 refine Zar (b := b3) (o := 0 + 0) (r := .raw (.int .i64 kd)) rfl hb3 Zck Zcc rfl ?_
 refine Zab ?_
 refine Zao (vs := [.raw (.int .i64 kd), .raw (.int .i64 8)]) (by simp only [List.map_cons, List.map_nil, EV,Nat.reduceEqDiff,↓reduceIte,he];try rfl) ?_
 refine Zjq kd (by decide) (by decide) _ fun σ2 hX2 => ?_
 refine Zaf ?_
 apply ZaL 0 3 7
 iterate 3 ·simp only [EV,Nat.reduceEqDiff,↓reduceIte,he];try rfl
 clear he e
 intro e he
 have hE := hX1.trans hX2
 have h2r := h.ext hE
 have hb := hX2.keep _ _ hb3
 have hN2 : Zc6 σ2 vN ns := hN.but hE.but fun _ _ => id
 have hp8 : Zd4 kd 8 < 8 := by
  have := Zf5 kd (n := 8) (by decide)
  omega
 have hin : ∀ τ S' l' ps' fv' pv' a, RAt τ rb S' l' ps' size fv' pv' -> But S σ2 τ -> (∀ c, S c -> S' c) -> (∀ c, S' c -> S c \/ Za0 σ2 c) -> Zej size nm ns n pa l ps (Zd4 kd 8) l' ps' a -> K (vI a) τ := fun τ S' l' ps' fv' pv' a q1 q2 q3 q4 q5 => hK τ S' l' ps' fv' pv' a q1 (hE.but.trans q2) q3 (fun c hc => (q4 c hc).imp id fun q => q.of hE) q5
 have hsame : ∀ τ a, Ext σ2 τ -> Zej size nm ns n pa l ps (Zd4 kd 8) l ps a -> K (vI a) τ := fun τ a hX q => hin τ S l ps fv pv a (h2r.ext hX) hX.but (fun c hc => hc) (fun c hc => .inl hc) q
 clear hX1 hX2 hb3 hub3 hn3 hu3
 generalize hi : Zd4 kd 8 = i at he hp8 hin hsame
 refine ZaD ?_
 ·skip
  repeat refine Zac ?_
  first|refine Zaa ?_|refine Zad ?_
  refine Zab ?_
  refine Zcn (k := .i64) (a := (i : Int)) (b := 0) he.2.2 rfl ?_
  refine Zab (Zae rfl (by simp only [EV,Nat.reduceEqDiff,↓reduceIte,he];try rfl) ?_)
  refine Zaf ?_
  apply ZaP 0 3 7 8
  iterate 4 ·simp only [EV,Nat.reduceEqDiff,↓reduceIte,he];try rfl
  clear he e
  intro e he
  refine ZaZ (fun env υ => (env 0 = ptr rb 0 /\ env 3 = ptr b3 0 /\ env 7 = vI i /\ env 8 = vT (decide (i < 2))) /\ υ = σ2) ?_ ?_
  ·refine ZaS (t := decide ((i : Int) = 0)) he.2.2.2 (fun ht => ?_) (fun ht => ?_)
   ·have ht := of_decide_eq_true ht
    refine Zbq ?_
    refine ⟨rfl, ⟨by simp only [EV,Nat.reduceEqDiff,↓reduceIte,he];try rfl, by simp only [EV,Nat.reduceEqDiff,↓reduceIte,he];try rfl, by simp only [EV,Nat.reduceEqDiff,↓reduceIte,he];try rfl, ?_⟩, rfl⟩
    rw [decide_eq_true (by omega : i < 2)]
    have h8 := he.2.2.2
    rw [decide_eq_true ht] at h8
    exact h8
   ·have ht := of_decide_eq_false ht
    repeat refine Zac ?_
    first|refine Zaa ?_|refine Zad ?_
    refine Zab ?_
    refine Zcn (k := .i64) (a := (i : Int)) (b := 1) he.2.2.1 rfl ?_
    refine Zab (Zae rfl (by simp only [EV,Nat.reduceEqDiff,↓reduceIte,he];try rfl) ?_)
    refine Zaf ?_
    refine ⟨rfl, ⟨by simp only [EV,Nat.reduceEqDiff,↓reduceIte,he];try rfl, by simp only [EV,Nat.reduceEqDiff,↓reduceIte,he];try rfl, by simp only [EV,Nat.reduceEqDiff,↓reduceIte,he];try rfl, ?_⟩, rfl⟩
    rw [show decide (i < 2) = decide ((i : Int) = 1) by congr 1; exact propext (by omega)]
    simp only [EV,Nat.reduceEqDiff,↓reduceIte,he];try rfl
  clear he e
  rintro e _ ⟨he, rfl⟩
  refine ZaS (t := decide (i < 2)) he.2.2.2 (fun h2 => ?_) (fun h2 => ?_)
  ·have h2 := of_decide_eq_true h2
   repeat refine Zac ?_
   first|refine Zaa ?_|refine Zad ?_
   refine Zab (Zae rfl he.1 ?_)
   refine Zab ?_
   refine Zag (b := b3) (o := 0) he.2.1 Za5 rfl ?_
   refine Zab ?_
   refine Zar (b := b3) (o := 0 + 1) (r := .raw (sV nm)) rfl hb Zb7 ZbJ rfl ?_
   refine Zab ?_
   refine Zag (b := b3) (o := 0) he.2.1 Za5 rfl ?_
   refine Zab ?_
   refine Zar (b := b3) (o := 0 + 4) (r := vP) rfl hb Zd5 ZdI rfl ?_
   refine Zab ?_
   refine Zao (vs := [ptr rb 0, .raw (sV nm), vP]) (by simp only [List.map_cons, List.map_nil, EV,Nat.reduceEqDiff,↓reduceIte,he];try rfl) ?_
   refine ZkM h2r hP hl hp hpl hB (fun q τ hX => ?_) (fun q1 q τ hX => ?_) fun q1 q2 τ S' l' ps' fv' pv' d1 d2 d3 d4 d6 => ?_
   ·refine Zab (Zae rfl (by simp only [EV,Nat.reduceEqDiff,↓reduceIte,he];try rfl) ?_)
    refine Zaf ?_
    refine Zax ?_
    show ∃ r, Zaj _ _ _ _ r /\ _
    exact ⟨_, Zal rfl rfl, hsame τ 2 hX (.bad h2 q)⟩
   ·refine Zab (Zae rfl (by simp only [EV,Nat.reduceEqDiff,↓reduceIte,he];try rfl) ?_)
    refine Zaf ?_
    refine Zax ?_
    show ∃ r, Zaj _ _ _ _ r /\ _
    exact ⟨_, Zal rfl rfl, hsame τ 8 hX (.full h2 q1 q)⟩
   ·refine Zab (Zae rfl (by simp only [EV,Nat.reduceEqDiff,↓reduceIte,he];try rfl) ?_)
    refine Zaf ?_
    refine Zax ?_
    show ∃ r, Zaj _ _ _ _ r /\ _
    exact ⟨_, Zal rfl rfl, hin τ S' l' ps' fv' pv' 0 d1 d2 d3 d4 (.app h2 q1 q2 d6)⟩
  have h2 := of_decide_eq_false h2
  repeat refine Zac ?_
  first|refine Zaa ?_|refine Zad ?_
  refine Zab ?_
  refine Zcn (k := .i64) (a := (i : Int)) (b := 2) he.2.2.1 rfl ?_
  refine Zab (Zae rfl (by simp only [EV,Nat.reduceEqDiff,↓reduceIte,he];try rfl) ?_)
  refine Zaf ?_
  apply ZaP 0 3 7 17
  iterate 4 ·simp only [EV,Nat.reduceEqDiff,↓reduceIte,he];try rfl
  clear he e
  intro e he
  refine ZaS (t := decide ((i : Int) = 2)) he.2.2.2 (fun h3 => ?_) (fun h3 => ?_)
  ·have h3 := of_decide_eq_true h3
   obtain rfl : i = 2 := by omega
   repeat refine Zac ?_
   first|refine Zaa ?_|refine Zad ?_
   refine Zab (Zae rfl he.1 ?_)
   refine Zab ?_
   refine Zag (b := b3) (o := 0) he.2.1 Za5 rfl ?_
   refine Zab ?_
   refine Zar (b := b3) (o := 0 + 2) (r := vN) rfl hb Zdj Zc7 rfl ?_
   refine Zab ?_
   refine Zao (vs := [ptr rb 0, vN]) (by simp only [List.map_cons, List.map_nil, EV,Nat.reduceEqDiff,↓reduceIte,he];try rfl) ?_
   refine Znn h2r hl hp hN2 hNS hnl fun τ S' pv' d1 d2 d3 d4 => ?_
   refine Zab (Zae rfl (by simp only [EV,Nat.reduceEqDiff,↓reduceIte,he];try rfl) ?_)
   refine Zaf ?_
   refine Zax ?_
   show ∃ r, Zaj _ _ _ _ r /\ _
   exact ⟨_, Zal rfl rfl, hin τ S' l _ fv pv' _ d1 d2 d3 d4 .sync⟩
  have h3 := of_decide_eq_false h3
  repeat refine Zac ?_
  first|refine Zaa ?_|refine Zad ?_
  refine Zab ?_
  refine Zcn (k := .i64) (a := (i : Int)) (b := 3) he.2.2.1 rfl ?_
  refine Zab (Zae rfl (by simp only [EV,Nat.reduceEqDiff,↓reduceIte,he];try rfl) ?_)
  refine Zaf ?_
  apply ZaP 0 3 7 23
  iterate 4 ·simp only [EV,Nat.reduceEqDiff,↓reduceIte,he];try rfl
  clear he e
  intro e he
  refine ZaS (t := decide ((i : Int) = 3)) he.2.2.2 (fun h4 => ?_) (fun h4 => ?_)
  ·have h4 := of_decide_eq_true h4
   obtain rfl : i = 3 := by omega
   repeat refine Zac ?_
   first|refine Zaa ?_|refine Zad ?_
   refine Zab (Zae rfl he.1 ?_)
   refine Zab ?_
   refine Zag (b := b3) (o := 0) he.2.1 Za5 rfl ?_
   refine Zab ?_
   refine Zar (b := b3) (o := 0 + 1) (r := .raw (sV nm)) rfl hb Zb7 ZbJ rfl ?_
   refine Zab ?_
   refine Zag (b := b3) (o := 0) he.2.1 Za5 rfl ?_
   refine Zab ?_
   refine Zar (b := b3) (o := 0 + 3) (r := .raw (.int .i64 n)) rfl hb Zck Zcc rfl ?_
   refine Zab ?_
   refine Zao (vs := [ptr rb 0, .raw (sV nm), .raw (.int .i64 n)]) (by simp only [List.map_cons, List.map_nil, EV,Nat.reduceEqDiff,↓reduceIte,he];try rfl) ?_
   refine ZoE h2r hl hp (fun p hp => by have := ZhY hp; omega) hfl hn (fun q => ?_) (fun r q1 q2 q3 => ?_) fun j hj q2 q3 q4 τ S' v' pv' d1 d2 d3 d4 => ?_
   ·refine Zab (Zae rfl (by simp only [EV,Nat.reduceEqDiff,↓reduceIte,he];try rfl) ?_)
    refine Zaf ?_
    refine Zax ?_
    show ∃ r, Zaj _ _ _ _ r /\ _
    exact ⟨_, Zal rfl rfl, hsame _ 6 (.refl _) (.cut6 q)⟩
   ·refine Zab (Zae rfl (by simp only [EV,Nat.reduceEqDiff,↓reduceIte,he];try rfl) ?_)
    refine Zaf ?_
    refine Zax ?_
    show ∃ r, Zaj _ _ _ _ r /\ _
    exact ⟨_, Zal rfl rfl, hsame _ 2 (.refl _) (.cut2 q1 q2 q3)⟩
   ·refine Zab (Zae rfl (by simp only [EV,Nat.reduceEqDiff,↓reduceIte,he];try rfl) ?_)
    refine Zaf ?_
    refine Zax ?_
    show ∃ r, Zaj _ _ _ _ r /\ _
    exact ⟨_, Zal rfl rfl, hin τ S' _ _ fv pv' 0 d1 d2 d3 d4 (.cut hj q2 q3 q4)⟩
  have h4 := of_decide_eq_false h4
  repeat refine Zac ?_
  first|refine Zaa ?_|refine Zad ?_
  refine Zab ?_
  refine Zcn (k := .i64) (a := (i : Int)) (b := 4) he.2.2.1 rfl ?_
  refine Zab (Zae rfl (by simp only [EV,Nat.reduceEqDiff,↓reduceIte,he];try rfl) ?_)
  refine Zaf ?_
  apply ZaP 0 3 7 31
  iterate 4 ·simp only [EV,Nat.reduceEqDiff,↓reduceIte,he];try rfl
  clear he e
  intro e he
  refine ZaS (t := decide ((i : Int) = 4)) he.2.2.2 (fun h5 => ?_) (fun h5 => ?_)
  ·have h5 := of_decide_eq_true h5
   obtain rfl : i = 4 := by omega
   refine Zb5 ?_
   refine ⟨[0, 1, 2, 3, 4, 5, 6], [[], [], [1], [], [3], [0, 1, 2, 3, 4], [0, 1, 2, 3, 4, 5]], fun _ => True, [2], [4], [], by kernel_rfl, ?_⟩
   apply Zai
   case hi => simp only [HIX]; try rfl
   case hw => rfl
   case how => rfl
   refine Zae rfl he.1 ?_
   refine Zaq ?_
   apply Zai
   case hi => simp only [HIX]; try rfl
   case hw => rfl
   case how => rfl
   refine Zag (b := b3) (o := 0) he.2.1 Za5 rfl ?_
   refine Zaq ?_
   apply Zai
   case hi => simp only [HIX]; try rfl
   case hw => rfl
   case how => rfl
   refine Zar (b := b3) (o := 0 + 1) (r := .raw (sV nm)) rfl hb Zb7 ZbJ rfl ?_
   refine Zaq ?_
   apply Zai
   case hi => simp only [HIX]; try rfl
   case hw => rfl
   case how => rfl
   refine Zar (b := b3) (o := 0) (r := .agg (Zb2 kd nm vN n vP)) he.2.1 hb ZeN Zbw rfl ?_
   refine Zaq ?_
   apply Zai
   case hi => simp only [HIX]; try rfl
   case hw => rfl
   case how => rfl
   refine Zao (vs := [.agg (Zb2 kd nm vN n vP)]) (by simp only [List.map_cons, List.map_nil, EV,Nat.reduceEqDiff,↓reduceIte,he];try rfl) ?_
   refine Zkc hN2 h1 fun τ1 hX1 => ?_
   refine ⟨fun _ => hX1, ?_⟩
   apply Zai
   case hi => simp only [HIX]; try rfl
   case hw => rfl
   case how => rfl
   refine Zao (vs := [ptr rb 0, .raw (sV nm), .raw (sV (Zbo nm ns))]) (by simp only [List.map_cons, List.map_nil, EV,Nat.reduceEqDiff,↓reduceIte,he];try rfl) ?_
   have h3r := h2r.ext hX1
   refine ZkP h3r hl hp hfl hwf.inn (fun q => ?_) (fun q1 q2 τ hX => ?_) (fun q1 q3 q5 τ hX => ?_) fun r q1 q2 q3 q4 τ S' l1 j v' fv' pv' hM d1 d2 d3 d4 => ?_
   ·refine ⟨(fun hf => by cases hf), ?_⟩
    apply Zai
    case hi => simp only [HIX]; try rfl
    case hw => rfl
    case how => rfl
    refine Zae rfl rfl ?_
    refine Zaq ?_
    refine Zcg ?_
    refine Zax ?_
    show ∃ r, Zaj _ _ _ _ r /\ _
    exact ⟨_, Zal rfl rfl, hsame _ 6 hX1 (.ren6 q)⟩
   ·refine ⟨(fun hf => by cases hf), ?_⟩
    apply Zai
    case hi => simp only [HIX]; try rfl
    case hw => rfl
    case how => rfl
    refine Zae rfl rfl ?_
    refine Zaq ?_
    refine Zcg ?_
    refine Zax ?_
    show ∃ r, Zaj _ _ _ _ r /\ _
    exact ⟨_, Zal rfl rfl, hsame τ 2 (hX1.trans hX) (.ren2 q1 q2)⟩
   ·refine ⟨(fun hf => by cases hf), ?_⟩
    apply Zai
    case hi => simp only [HIX]; try rfl
    case hw => rfl
    case how => rfl
    refine Zae rfl rfl ?_
    refine Zaq ?_
    refine Zcg ?_
    refine Zax ?_
    show ∃ r, Zaj _ _ _ _ r /\ _
    exact ⟨_, Zal rfl rfl, hsame τ 0 (hX1.trans hX) (.rens q1 q3 q5)⟩
   ·refine ⟨(fun hf => by cases hf), ?_⟩
    apply Zai
    case hi => simp only [HIX]; try rfl
    case hw => rfl
    case how => rfl
    refine Zae rfl rfl ?_
    refine Zaq ?_
    refine Zcg ?_
    refine Zax ?_
    show ∃ r, Zaj _ _ _ _ r /\ _
    exact ⟨_, Zal rfl rfl, hin τ S' _ _ fv' pv' 0 d1 (hX1.but.trans d2) d3 (fun c hc => (d4 c hc).imp id fun q => q.of hX1) (.ren q1 q2 q3 q4 hM)⟩
  have h5 := of_decide_eq_false h5
  repeat refine Zac ?_
  first|refine Zaa ?_|refine Zad ?_
  refine Zab ?_
  refine Zcn (k := .i64) (a := (i : Int)) (b := 5) he.2.2.1 rfl ?_
  refine Zab (Zae rfl (by simp only [EV,Nat.reduceEqDiff,↓reduceIte,he];try rfl) ?_)
  refine Zaf ?_
  apply ZaP 0 3 7 39
  iterate 4 ·simp only [EV,Nat.reduceEqDiff,↓reduceIte,he];try rfl
  clear he e
  intro e he
  refine ZaS (t := decide ((i : Int) = 5)) he.2.2.2 (fun h6 => ?_) (fun h6 => ?_)
  ·have h6 := of_decide_eq_true h6
   obtain rfl : i = 5 := by omega
   repeat refine Zac ?_
   first|refine Zaa ?_|refine Zad ?_
   refine Zab (Zae rfl he.1 ?_)
   refine Zab ?_
   refine Zag (b := b3) (o := 0) he.2.1 Za5 rfl ?_
   refine Zab ?_
   refine Zar (b := b3) (o := 0 + 2) (r := vN) rfl hb Zdj Zc7 rfl ?_
   refine Zab ?_
   refine Zao (vs := [ptr rb 0, vN]) (by simp only [List.map_cons, List.map_nil, EV,Nat.reduceEqDiff,↓reduceIte,he];try rfl) ?_
   refine ZoD h2r hl hp hN2 hNS hnl fun τ S' fv' pv' d1 d2 d3 d4 => ?_
   refine Zab (Zae rfl (by simp only [EV,Nat.reduceEqDiff,↓reduceIte,he];try rfl) ?_)
   refine Zaf ?_
   refine Zax ?_
   show ∃ r, Zaj _ _ _ _ r /\ _
   exact ⟨_, Zal rfl rfl, hin τ S' _ _ fv' pv' _ d1 d2 d3 d4 .rem⟩
  have h6 := of_decide_eq_false h6
  repeat refine Zac ?_
  first|refine Zaa ?_|refine Zad ?_
  refine Zab ?_
  refine Zcn (k := .i64) (a := (i : Int)) (b := 6) he.2.2.1 rfl ?_
  refine Zab (Zae rfl (by simp only [EV,Nat.reduceEqDiff,↓reduceIte,he];try rfl) ?_)
  refine Zaf ?_
  apply ZaP 0 3 7 45
  iterate 4 ·simp only [EV,Nat.reduceEqDiff,↓reduceIte,he];try rfl
  clear he e
  intro e he
  refine ZaS (t := decide ((i : Int) = 6)) he.2.2.2 (fun h7 => ?_) (fun h7 => ?_)
  ·have h7 := of_decide_eq_true h7
   obtain rfl : i = 6 := by omega
   repeat refine Zac ?_
   first|refine Zaa ?_|refine Zad ?_
   refine Zab (Zae rfl he.1 ?_)
   refine Zab ?_
   refine Zag (b := b3) (o := 0) he.2.1 Za5 rfl ?_
   refine Zab ?_
   refine Zar (b := b3) (o := 0 + 3) (r := .raw (.int .i64 n)) rfl hb Zck Zcc rfl ?_
   refine Zab ?_
   refine Zao (vs := [ptr rb 0, .raw (.int .i64 n)]) (by simp only [List.map_cons, List.map_nil, EV,Nat.reduceEqDiff,↓reduceIte,he];try rfl) ?_
   refine Zml h2r hl hp hwf hs hfl hn fun τ S' l' d1 d2 d3 d4 d5 => ?_
   refine Zaf ?_
   show Zay _ _ _ _ _ _
   repeat refine Zac ?_
   first|refine Zaa ?_|refine Zad ?_
   refine Zab (Zae rfl (by simp only [EV,Nat.reduceEqDiff,↓reduceIte,he];try rfl) ?_)
   refine Zaf ?_
   refine Zax ?_
   show ∃ r, Zaj _ _ _ _ r /\ _
   exact ⟨_, Zal rfl rfl, hin τ S' l' [] fv _ 0 d1 d3 d4 d5 (.crash d2)⟩
  have h7 := of_decide_eq_false h7
  refine Zbq ?_
  show Zay _ _ _ _ _ _
  repeat refine Zac ?_
  first|refine Zaa ?_|refine Zad ?_
  refine Zab (Zae rfl (by simp only [EV,Nat.reduceEqDiff,↓reduceIte,he];try rfl) ?_)
  refine Zaf ?_
  refine Zax ?_
  show ∃ r, Zaj _ _ _ _ r /\ _
  exact ⟨_, Zal rfl rfl, hsame _ 0 (.refl _) (.none (by omega))⟩
end
end Go.Proofs.Ytinpiaibhjmfaaa
