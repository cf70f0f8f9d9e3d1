/- XRdi, XRdj in one. -/
import Derived.Test.YtinpiaibhjmfaaaMl
namespace Go.Proofs.Ytinpiaibhjmfaaa
open Go.RowKit
set_option maxRecDepth 100000
set_option linter.unusedVariables false
set_option linter.unusedSimpArgs false
theorem Zpt {z0 z1 z2 a v : AV} {pl : Nat -> Option (Nat × Nat)} (h0 : pl 0 = some (0, 1)) (h2 : pl 2 = some (2, 1)) (ha : Zbc a = true /\ a.cells = [a]) (hv : Zbc v = true /\ v.cells = [v]) : Zcm pl [z0, z1, z2] ([0, 2].zip [a, v]) = some [a, z1, v] := by
 simp [Zcm, h0, h2, ha.1, ha.2, hv.1, hv.2, ZaJ]
section
variable {σ τ : St} {rb : Nat} {S : Nat -> Prop} {l : List Rw} {ps : PL} {size : Int} {fv pv : AV} {K : AV -> St -> Prop}
theorem RAt.addR (h : RAt σ rb S l ps size fv pv) {k : List UInt8} {v : AV} {d : List UInt8} {fv' : AV} (k1 : But (fun c => c = rb \/ hbk fv = some c) σ τ) (hb : τ.blk rb = some (.own 46 [.raw (.int .i64 size), fv', pv])) (hfl : Hd τ 88 2 fv' (l ++ [(⟨k, v, d⟩ : Rw)]).length (rfC (l ++ [⟨k, v, d⟩]))) (hv : Hd τ 5 1 v d.length (bys d)) (hn : ∀ r ∈ l, r.nm ≠ k) (hvS : ∀ c, hbk v = some c -> ¬ S c) :
 RAt τ rb (fun c => S c \/ hbk fv' = some c \/ hbk v = some c) (l ++ [⟨k, v, d⟩]) ps size fv' pv := by
 obtain ⟨o1, o2, o3, o4⟩ := h.own
 refine ⟨hb, k1.used _ h.used, hfl, fun r hr => ?_, ?_, fun r hr q hq x hx hy => ?_, h.pc.but k1 fun c hc hq => ?_, ⟨.inl o1, fun x hx => .inr (.inl hx), fun r hr x hx => ?_, fun x hx => .inl (o4 x hx)⟩, fun c hc => ?_⟩
 ·rcases List.mem_append.1 hr with hr | hr
  ·refine (h.row r hr).but k1 fun c hc hq => ?_
   rcases hq with hq | hq
   ·exact Zcv (h.row r hr) h.obj (by decide) hc hq
   ·exact ZeB (h.row r hr) h.fl (by decide) hc hq
  ·rw [List.mem_singleton.1 hr]
   exact hv
 ·rw [List.map_append, List.nodup_append]
  refine ⟨h.nn, by simp, fun a ha b hb e => ?_⟩
  obtain ⟨r, hr, rfl⟩ := List.mem_map.1 ha
  simp at hb
  exact hn r hr (e.trans hb)
 ·rcases List.mem_append.1 hr with hr | hr <;> rcases List.mem_append.1 hq with hq | hq
  ·exact h.far r hr q hq x hx hy
  ·rw [List.mem_singleton.1 hq] at hy
   exact absurd (o3 r hr x hx) (hvS x hy)
  ·rw [List.mem_singleton.1 hr] at hx
   exact absurd (o3 q hq x hy) (hvS x hx)
  ·rw [List.mem_singleton.1 hr, List.mem_singleton.1 hq]
 ·rcases hq with hq | hq
  ·exact Zcv h.pc h.obj (by decide) hc hq
  ·exact ZeB h.pc h.fl (by decide) hc hq
 ·rcases List.mem_append.1 hr with hr | hr
  ·exact .inl (o3 r hr x hx)
  ·rw [List.mem_singleton.1 hr] at hx
   exact .inr (.inr hx)
 ·rcases hc with hc | hc | hc
  ·exact k1.used _ (h.su c hc)
  ·exact hfl.used hc
  ·exact hv.used hc
set_option maxHeartbeats 2000000 in
theorem Zm5 (h : RAt σ rb S l ps size fv pv) (hl : l.length <= 10000000) (hp : ps.length <= 10000000) (hfl : ∀ r ∈ l, r.d.length <= 1000000000)
 (hK : ∀ τ cb S2 l2 fv2 pv2, RAt τ cb S2 l2 ps size fv2 pv2 -> ZdA l2 = ZdA l -> Ext σ τ -> (∀ c, S2 c -> ZaT σ c) -> K (ptr cb 0) τ) : Zat Try.prog 19 [ptr rb 0] σ K := by
 refine Zan Zas Try.func19 rfl rfl rfl (Nat.le_of_ble_eq_true rfl) ?_
 refine ZbN 0 (v0 := ptr rb 0) rfl ?_
 intro e he
 repeat refine Zac ?_
 first|refine Zaa ?_|refine Zad ?_
 refine Zab (Zag rfl (by simp only [EV,Nat.reduceEqDiff,↓reduceIte,he];try rfl) ?_)
 refine Zaf ?_
 apply ZbN 0
 ·simp only [EV,Nat.reduceEqDiff,↓reduceIte,he];try rfl
 clear he e
 intro e he
 refine Zb1 ?_
 refine ⟨[0, 1, 2, 5, 6, 7, 3, 8, 4, 9, 10, 11, 12], [[], [0], [0, 1], [0, 1, 2], [], [], [5], [5, 6], [5, 6, 7], [4, 5, 6, 7, 8], [0, 1, 2, 3, 4, 5, 6, 7, 8, 9], [0, 1, 2, 3, 4, 5, 6, 7, 8, 9, 10], [0, 1, 2, 3, 4, 5, 6, 7, 8, 9, 10, 11]], fun _ => True, [3], [9], [], by kernel_rfl, ?_⟩
 apply Zah
 case hi => simp only [HIX]; try rfl
 case hw => rfl
 case how => rfl
 refine Zag rfl (by simp only [EV,Nat.reduceEqDiff,↓reduceIte,he];try rfl) ?_
 refine Zao ?_
 apply Zah
 case hi => simp only [HIX]; try rfl
 case hw => rfl
 case how => rfl
 refine Zak (v := ptr rb 0) (by simp only [EV,Nat.reduceEqDiff,↓reduceIte,he];try rfl) rfl ?_
 refine Zao ?_
 apply Zah
 case hi => simp only [HIX]; try rfl
 case hw => rfl
 case how => rfl
 refine Zae (b := rb) (o := 0) (by simp only [EV,Nat.reduceEqDiff,↓reduceIte,he];try rfl) ZaC rfl ?_
 refine Zao ?_
 apply Zah
 case hi => simp only [HIX]; try rfl
 case hw => rfl
 case how => rfl
 refine Zag rfl (by simp only [EV,Nat.reduceEqDiff,↓reduceIte,he];try rfl) ?_
 refine Zao ?_
 apply Zah
 case hi => simp only [HIX]; try rfl
 case hw => rfl
 case how => rfl
 refine Zak (v := ptr rb 0) (by simp only [EV,Nat.reduceEqDiff,↓reduceIte,he];try rfl) rfl ?_
 refine Zao ?_
 apply Zah
 case hi => simp only [HIX]; try rfl
 case hw => rfl
 case how => rfl
 refine Zae (b := rb) (o := 0) (by simp only [EV,Nat.reduceEqDiff,↓reduceIte,he];try rfl) ZaC rfl ?_
 refine Zao ?_
 apply Zah
 case hi => simp only [HIX]; try rfl
 case hw => rfl
 case how => rfl
 refine Zap (b := rb) (o := 0 + 0) (r := .raw (.int .i64 size)) (by simp only [EV,Nat.reduceEqDiff,↓reduceIte,he];try rfl) h.obj Zb6 ZbX rfl ?_
 refine Zao ?_
 apply Zah
 case hi => simp only [HIX]; try rfl
 case hw => rfl
 case how => rfl
 refine Zap (b := rb) (o := 0 + 2) (r := pv) (by simp only [EV,Nat.reduceEqDiff,↓reduceIte,he];try rfl) h.obj ZbW ZbB rfl ?_
 refine Zao ?_
 apply Zah
 case hi => simp only [HIX]; try rfl
 case hw => rfl
 case how => rfl
 refine Zdc (vs := []) (cells := []) rfl Zbq Zbl ZcV rfl (by omega) rfl rfl fun b2 υ2 hN2 hX2 => ?_
 refine ⟨fun _ => hX2, ?_⟩
 apply Zah
 case hi => simp only [HIX]; try rfl
 case hw => rfl
 case how => rfl
 refine ZjC (m := ps.length) (news := rpC ps) (by simp only [EV,Nat.reduceEqDiff,↓reduceIte,he];try rfl) (by simp only [EV,Nat.reduceEqDiff,↓reduceIte,he];try rfl) Zbq Zbl ZcV Zf2 rfl (by omega) ((h.pc.ext hX2).src (by omega)) (by unfold maxLen; omega) (by omega) fun pv2 υ3 hp3 hX3 hn3 => ?_
 refine ⟨fun _ => hX3, ?_⟩
 have hE3 := hX2.trans hX3
 have hpn : ∀ c, hbk pv2 = some c -> ZaT σ c := fun c hc => ZaT.of (hn3 c hc) hX2
 apply Zah
 case hi => simp only [HIX]; try rfl
 case hw => rfl
 case how => rfl
 refine ZdJ (vs := [.raw (.int .i64 size), pv2]) (cells := [.raw (.int .i64 size), .lst none 0 0 [], pv2]) (by simp only [List.map_cons, List.map_nil, EV,Nat.reduceEqDiff,↓reduceIte,he];try rfl) ZlR ZlT (Zpt rfl rfl ⟨rfl, rfl⟩ hp3.oneV.2) ?_
 refine Zao ?_
 apply Zah
 case hi => simp only [HIX]; try rfl
 case hw => rfl
 case how => rfl
 refine Zek (cs := [.raw (.int .i64 size), .lst none 0 0 [], pv2]) (v := .agg [.raw (.int .i64 size), .lst none 0 0 [], pv2]) (by simp only [EV,Nat.reduceEqDiff,↓reduceIte,he];try rfl) (by simp [Zbc, AV.one, hp3.oneV.1]) fun cb υ4 hcn hcu hcb hcub hX4 => ?_
 refine ⟨(fun hf => by cases hf), ?_⟩
 apply Zah
 case hi => simp only [HIX]; try rfl
 case hw => rfl
 case how => rfl
 refine Zag rfl (by simp only [EV,Nat.reduceEqDiff,↓reduceIte,he];try rfl) ?_
 refine Zao ?_
 refine Zb8 ?_
 have hE4 := hE3.trans hX4
 have hcN : ZaT σ cb := ZaT.of ⟨hcn, hcu⟩ hE3
 have h4 : RAt υ4 cb (fun c => c = cb \/ hbk pv2 = some c) [] ps size (.lst none 0 0 []) pv2 := ⟨hcb, hcub, ⟨by simp [rfC], by simp [rfC], .inl ⟨.inl rfl, rfl⟩⟩, (fun r hr => by cases hr), List.nodup_nil, (fun r hr => by cases hr), hp3.ext hX4, ⟨.inl rfl, (fun x hx => by cases hx), (fun r hr => by cases hr), fun x hx => .inr hx⟩, fun c hc => by
  rcases hc with rfl | hc
  ·exact hcub
  ·exact hX4.used _ (hp3.used hc)⟩
 apply ZaO 0 3
 iterate 2 ·simp only [EV,Nat.reduceEqDiff,↓reduceIte,he];try rfl
 clear he e
 intro e he
 repeat refine Zac ?_
 first|refine Zaa ?_|refine Zad ?_
 refine Zab (Zag rfl (by simp only [EV,Nat.reduceEqDiff,↓reduceIte,he];try rfl) ?_)
 refine Zaf ?_
 apply ZaP 0 3 4
 iterate 3 ·simp only [EV,Nat.reduceEqDiff,↓reduceIte,he];try rfl
 clear he e
 intro e he
 refine ZaQ (fun env υ => env 3 = ptr cb 0 /\ ∃ S2 l2 fv2, RAt υ cb S2 l2 ps size fv2 pv2 /\ ZdA l2 = ZdA l /\ Ext σ υ /\ (∀ c, S2 c -> ZaT σ c)) ?_ ?_
 ·refine ZaI ?_
  refine ZaN (fun μ env υ => ∃ (i : Nat), ∃ S2 l2 fv2, μ = l.length - i /\ i <= l.length /\ (env 0 = ptr rb 0 /\ env 3 = ptr cb 0 /\ env 4 = vI i) /\ RAt υ cb S2 l2 ps size fv2 pv2 /\ ZdA l2 = ZdA (l.take i) /\ Ext σ υ /\ (∀ c, S2 c -> ZaT σ c)) ⟨_, 0, _, [], _, rfl, Nat.zero_le _, he, h4, rfl, hE4, fun c hc => ?_⟩ ?_
  ·rcases hc with rfl | hc
   ·exact hcN
   ·exact hpn c hc
  clear he e h4
  rintro _ e υ ⟨i, S2, l2, fv2, rfl, hi, he, h4, hd, hE, hS⟩
  have h1 := h.ext hE
  repeat refine Zac ?_
  first|refine Zaa ?_|refine Zad ?_
  refine Zab (Zag rfl (by simp only [EV,Nat.reduceEqDiff,↓reduceIte,he];try rfl) ?_)
  refine ZcF (b := rb) (by simp only [EV,Nat.reduceEqDiff,↓reduceIte,he];try rfl) ZaC rfl h1.obj rfl ZbH Zbr fun u1 u2 u3 => ?_
  refine Zab ?_
  refine ZbC (by simp only [EV,Nat.reduceEqDiff,↓reduceIte,he];try rfl) h1.fl rfl Za9 ?_
  refine Zab ?_
  refine Zbm i l.length (by simp only [EV,Nat.reduceEqDiff,↓reduceIte,he];try rfl) (by simp only [EV,Nat.reduceEqDiff,↓reduceIte,he];try rfl) ?_
  refine Zaf ?_
  apply ZaK 0 3 4 23
  iterate 4 ·simp only [EV,Nat.reduceEqDiff,↓reduceIte,he];try rfl
  clear he e
  intro e he
  refine Zav (t := decide (i < l.length)) (by simp only [EV,Nat.reduceEqDiff,↓reduceIte,he];try rfl) (fun ht => ?_) (fun ht => ?_)
  ·have hlt : i < l.length := of_decide_eq_true ht
   have hm := List.getElem_mem hlt
   have hdi := hfl _ hm
   have hl2 : l2.length = i := by
    have := congrArg List.length hd
    unfold ZdA at this
    rw [List.length_map, List.length_map, List.length_take] at this
    omega
   refine Zaz ?_
   refine ZaD ?_
   refine Zcz ?_
   refine ⟨[0, 1, 2, 3, 5, 6, 7, 9, 14, 15, 16, 18, 4, 8, 10, 11, 12, 17, 19, 20, 21, 13, 22, 23, 24, 25, 26, 27, 28], [[], [], [1], [1, 2], [1, 2, 3], [], [5], [5, 6], [5, 6, 7], [], [5, 6, 7, 8, 9], [5, 6, 7, 8, 9, 10], [5, 6, 7, 8, 9, 10, 11], [], [], [14], [14, 15], [14, 15, 16], [], [14, 15, 16, 17, 18], [14, 15, 16, 17, 18, 19], [14, 15, 16, 17, 18, 19, 20], [13, 14, 15, 16, 17, 18, 19, 20, 21], [5, 6, 7, 8, 9, 10, 11, 12, 13, 14, 15, 16, 17, 18, 19, 20, 21, 22], [5, 6, 7, 8, 9, 10, 11, 12, 13, 14, 15, 16, 17, 18, 19, 20, 21, 22, 23], [1, 2, 3, 4, 5, 6, 7, 8, 9, 10, 11, 12, 13, 14, 15, 16, 17, 18, 19, 20, 21, 22, 23, 24], [0, 1, 2, 3, 4, 5, 6, 7, 8, 9, 10, 11, 12, 13, 14, 15, 16, 17, 18, 19, 20, 21, 22, 23, 24, 25], [0, 1, 2, 3, 4, 5, 6, 7, 8, 9, 10, 11, 12, 13, 14, 15, 16, 17, 18, 19, 20, 21, 22, 23, 24, 25, 26], [0, 1, 2, 3, 4, 5, 6, 7, 8, 9, 10, 11, 12, 13, 14, 15, 16, 17, 18, 19, 20, 21, 22, 23, 24, 25, 26, 27]], fun _ => True, [4, 8, 12], [22], [], by kernel_rfl, ?_⟩
   apply Zah
   case hi => simp only [HIX]; try rfl
   case hw => rfl
   case how => rfl
   refine Zag rfl (by simp only [EV,Nat.reduceEqDiff,↓reduceIte,he];try rfl) ?_
   refine Zao ?_
   apply Zah
   case hi => simp only [HIX]; try rfl
   case hw => rfl
   case how => rfl
   refine Zag rfl (by simp only [EV,Nat.reduceEqDiff,↓reduceIte,he];try rfl) ?_
   refine Zao ?_
   apply Zah
   case hi => simp only [HIX]; try rfl
   case hw => rfl
   case how => rfl
   refine Zak (v := ptr cb 0) (by simp only [EV,Nat.reduceEqDiff,↓reduceIte,he];try rfl) rfl ?_
   refine Zao ?_
   apply Zah
   case hi => simp only [HIX]; try rfl
   case hw => rfl
   case how => rfl
   refine Zae (b := cb) (o := 0) (by simp only [EV,Nat.reduceEqDiff,↓reduceIte,he];try rfl) ZaC rfl ?_
   refine Zao ?_
   apply Zah
   case hi => simp only [HIX]; try rfl
   case hw => rfl
   case how => rfl
   refine Zag rfl (by simp only [EV,Nat.reduceEqDiff,↓reduceIte,he];try rfl) ?_
   refine Zao ?_
   apply Zah
   case hi => simp only [HIX]; try rfl
   case hw => rfl
   case how => rfl
   refine Zak (v := ptr rb 0) (by simp only [EV,Nat.reduceEqDiff,↓reduceIte,he];try rfl) rfl ?_
   refine Zao ?_
   apply Zah
   case hi => simp only [HIX]; try rfl
   case hw => rfl
   case how => rfl
   refine Zae (b := rb) (o := 0) (by simp only [EV,Nat.reduceEqDiff,↓reduceIte,he];try rfl) ZaC rfl ?_
   refine Zao ?_
   apply Zah
   case hi => simp only [HIX]; try rfl
   case hw => rfl
   case how => rfl
   refine Zag rfl (by simp only [EV,Nat.reduceEqDiff,↓reduceIte,he];try rfl) ?_
   refine Zao ?_
   apply Zah
   case hi => simp only [HIX]; try rfl
   case hw => rfl
   case how => rfl
   refine Zag rfl (by simp only [EV,Nat.reduceEqDiff,↓reduceIte,he];try rfl) ?_
   refine Zao ?_
   apply Zah
   case hi => simp only [HIX]; try rfl
   case hw => rfl
   case how => rfl
   refine Zak (v := ptr rb 0) (by simp only [EV,Nat.reduceEqDiff,↓reduceIte,he];try rfl) rfl ?_
   refine Zao ?_
   apply Zah
   case hi => simp only [HIX]; try rfl
   case hw => rfl
   case how => rfl
   refine Zae (b := rb) (o := 0) (by simp only [EV,Nat.reduceEqDiff,↓reduceIte,he];try rfl) ZaC rfl ?_
   refine Zao ?_
   apply Zah
   case hi => simp only [HIX]; try rfl
   case hw => rfl
   case how => rfl
   refine Zag rfl (by simp only [EV,Nat.reduceEqDiff,↓reduceIte,he];try rfl) ?_
   refine Zao ?_
   apply Zah
   case hi => simp only [HIX]; try rfl
   case hw => rfl
   case how => rfl
   refine Zap (b := cb) (o := 0 + 1) (r := fv2) (by simp only [EV,Nat.reduceEqDiff,↓reduceIte,he];try rfl) h4.obj ZbH Zbr rfl ?_
   refine Zao ?_
   apply Zah
   case hi => simp only [HIX]; try rfl
   case hw => rfl
   case how => rfl
   refine Zap (b := rb) (o := 0 + 1) (r := fv) (by simp only [EV,Nat.reduceEqDiff,↓reduceIte,he];try rfl) h1.obj ZbH Zbr rfl ?_
   refine Zao ?_
   apply Zah
   case hi => simp only [HIX]; try rfl
   case hw => rfl
   case how => rfl
   refine Za3 (k := .i64) (j := i) (by simp only [EV,Nat.reduceEqDiff,↓reduceIte,he];try rfl) (by simp only [EV,Nat.reduceEqDiff,↓reduceIte,he];try rfl) Za9 Zbo h1.fl hlt fun b5 hb5 => ?_
   refine Zao ?_
   apply Zah
   case hi => simp only [HIX]; try rfl
   case hw => rfl
   case how => rfl
   refine Zae (b := b5) (o := i * 2) (by simp only [EV,Nat.reduceEqDiff,↓reduceIte,he];try rfl) Zck rfl ?_
   refine Zao ?_
   apply Zah
   case hi => simp only [HIX]; try rfl
   case hw => rfl
   case how => rfl
   refine Zgt (by simp only [EV,Nat.reduceEqDiff,↓reduceIte,he];try rfl) h1.fl hb5 (Zd1 hlt).1 ZbT Zbv ?_
   refine Zao ?_
   apply Zah
   case hi => simp only [HIX]; try rfl
   case hw => rfl
   case how => rfl
   refine Zap (b := rb) (o := 0 + 1) (r := fv) (by simp only [EV,Nat.reduceEqDiff,↓reduceIte,he];try rfl) h1.obj ZbH Zbr rfl ?_
   refine Zao ?_
   apply Zah
   case hi => simp only [HIX]; try rfl
   case hw => rfl
   case how => rfl
   refine Za3 (k := .i64) (j := i) (by simp only [EV,Nat.reduceEqDiff,↓reduceIte,he];try rfl) (by simp only [EV,Nat.reduceEqDiff,↓reduceIte,he];try rfl) Za9 Zbo h1.fl hlt fun b6 hb6 => ?_
   refine Zao ?_
   apply Zah
   case hi => simp only [HIX]; try rfl
   case hw => rfl
   case how => rfl
   refine Zae (b := b6) (o := i * 2) (by simp only [EV,Nat.reduceEqDiff,↓reduceIte,he];try rfl) Zck rfl ?_
   refine Zao ?_
   apply Zah
   case hi => simp only [HIX]; try rfl
   case hw => rfl
   case how => rfl
   refine Zgt (by simp only [EV,Nat.reduceEqDiff,↓reduceIte,he];try rfl) h1.fl hb6 (Zd1 hlt).2 Zby ZaS ?_
   refine Zao ?_
   apply Zah
   case hi => simp only [HIX]; try rfl
   case hw => rfl
   case how => rfl
   refine Zdc (vs := []) (cells := []) rfl Zax Zbu Zcg rfl (by omega) rfl rfl fun b7 υ5 hN5 hX5 => ?_
   refine ⟨fun _ => hX5, ?_⟩
   apply Zah
   case hi => simp only [HIX]; try rfl
   case hw => rfl
   case how => rfl
   refine ZjC (m := l[i].d.length) (news := bys l[i].d) (by simp only [EV,Nat.reduceEqDiff,↓reduceIte,he];try rfl) (by simp only [EV,Nat.reduceEqDiff,↓reduceIte,he];try rfl) Zax Zbu Zcg Zj1 rfl (by omega) (((h1.row _ hm).ext hX5).src (by omega)) (by unfold maxLen; omega) (by omega) fun v6 υ6 hv6 hX6 hn6 => ?_
   refine ⟨fun _ => hX6, ?_⟩
   apply Zah
   case hi => simp only [HIX]; try rfl
   case hw => rfl
   case how => rfl
   refine ZdJ (vs := [.raw (sV l[i].nm), v6]) (cells := [.raw (sV l[i].nm), v6]) (by simp only [List.map_cons, List.map_nil, EV,Nat.reduceEqDiff,↓reduceIte,he];try rfl) Zc5 ZlS (Zqc rfl rfl ⟨rfl, rfl⟩ hv6.oneV.2) ?_
   refine Zao ?_
   apply Zah
   case hi => simp only [HIX]; try rfl
   case hw => rfl
   case how => rfl
   refine Zdc (vs := [.agg [.raw (sV l[i].nm), v6]]) (cells := [.raw (sV l[i].nm), v6]) (by simp only [List.map_cons, List.map_nil, EV,Nat.reduceEqDiff,↓reduceIte,he];try rfl) Za9 Zbo Zc5 rfl (by omega) (by simp [Zcm, Zbc, AV.cells, ZaJ]) rfl fun b8 υ7 hN7 hX7 => ?_
   refine ⟨(fun hf => by cases hf), ?_⟩
   have hE57 := (hX5.trans hX6).trans hX7
   have h7 := h4.ext hE57
   apply Zah
   case hi => simp only [HIX]; try rfl
   case hw => rfl
   case how => rfl
   refine Za8 (m := 1) (news := [.raw (sV l[i].nm), v6]) (r := .lst (some ⟨b8, 0, none⟩) 1 1 ([.raw (sV l[i].nm), v6] ++ [])) (by simp only [EV,Nat.reduceEqDiff,↓reduceIte,he];try rfl) (by simp only [EV,Nat.reduceEqDiff,↓reduceIte,he];try rfl) Za9 Zbo Zc5 ZfE rfl (by omega) h7.fl (Zb5 rfl (ZlU rfl hv6.oneV.1) (fun q => by cases q)) (by unfold maxLen; omega) (by omega) fun fv3 υ8 hf8 hB8 hn8 => ?_
   refine ⟨(fun hf => by cases hf), ?_⟩
   apply Zah
   case hi => simp only [HIX]; try rfl
   case hw => rfl
   case how => rfl
   refine Zak (v := ptr cb 0) (by simp only [EV,Nat.reduceEqDiff,↓reduceIte,he];try rfl) rfl ?_
   refine Zao ?_
   apply Zah
   case hi => simp only [HIX]; try rfl
   case hw => rfl
   case how => rfl
   refine Zae (b := cb) (o := 0) (by simp only [EV,Nat.reduceEqDiff,↓reduceIte,he];try rfl) ZaC rfl ?_
   refine Zao ?_
   have hobj8 := hB8.keep _ _ (fun hq => Zcv h7.fl h7.obj (by decide) hq rfl) h7.obj
   apply Zah
   case hi => simp only [HIX]; try rfl
   case hw => rfl
   case how => rfl
   refine ZbJ (b := cb) (o := 0 + 1) (v := fv3) (by simp only [EV,Nat.reduceEqDiff,↓reduceIte,he];try rfl) (by simp only [EV,Nat.reduceEqDiff,↓reduceIte,he];try rfl) hobj8 Zbr hf8.oneV (by simp) fun υ9 hb9 k9 => ?_
   refine ⟨(fun hf => by cases hf), ?_⟩
   refine Zb8 ?_
   have hB9 : But (fun c => c = cb \/ hbk fv2 = some c) υ7 υ9 := (hB8.sub fun c hc => .inr hc).trans (k9.sub fun c hc => .inl hc)
   have hv7 := hv6.ext hX7
   have hf9 : Hd υ9 88 2 fv3 (l2 ++ [(⟨l[i].nm, v6, l[i].d⟩ : Rw)]).length (rfC (l2 ++ [⟨l[i].nm, v6, l[i].d⟩])) := by
    rw [List.length_append, Zjg]
    exact hf8.but k9 fun c hc hq => Zcv hf8 hobj8 (by decide) hc hq
   have hv9 : Hd υ9 5 1 v6 l[i].d.length (bys l[i].d) := hv7.but hB9 fun c hc hq => by
    rcases hq with hq | hq
    ·exact Zcv hv7 h7.obj (by decide) hc hq
    ·exact ZeB hv7 h7.fl (by decide) hc hq
   have hvN : ∀ c, hbk v6 = some c -> ZaT υ c := fun c hc => ZaT.of (hn6 c hc) hX5
   have hnm2 : l2.map (·.nm) = (l.take i).map (·.nm) := by
    have := congrArg (List.map Prod.fst) hd
    unfold ZdA at this
    rw [List.map_map, List.map_map] at this
    exact this
   have h9 := h7.addR hB9 hb9 hf9 hv9 (fun r hr e => ?_) fun c hc hs => (hvN c hc).2 (h4.su c hs)
   ·have hSN : ∀ c, (S2 c \/ hbk fv3 = some c \/ hbk v6 = some c) -> ZaT σ c := fun c hc => by
     rcases hc with hc | hc | hc
     ·exact hS c hc
     ·rcases hn8 c hc with q | q
      ·exact hS c (h4.own.2.1 c q)
      ·exact ZaT.of q (hE.trans hE57)
     ·exact ZaT.of (hvN c hc) hE
    have hE9 : Ext σ υ9 := But.ext (hE.trans hE57) (fun c hc => by
     rcases hc with hc | hc
     ·rw [hc]; exact (hS cb h4.own.1).1
     ·exact (hS c (h4.own.2.1 c hc)).1) hB9
    have hd9 : ZdA (l2 ++ [⟨l[i].nm, v6, l[i].d⟩]) = ZdA (l.take (i + 1)) := by
     rw [List.take_succ_eq_append_getElem hlt]
     unfold ZdA at hd ⊢
     rw [List.map_append, List.map_append, hd]
     rfl
    show Zay _ _ _ _ _ _
    apply ZaP 0 3 4
    iterate 3 ·simp only [EV,Nat.reduceEqDiff,↓reduceIte,he];try rfl
    clear he e
    intro e he
    refine Zad ?_
    refine Zab (Zag rfl (by simp only [EV,Nat.reduceEqDiff,↓reduceIte,he];try rfl) ?_)
    refine Zab ?_
    refine ZaL i 1 (by simp only [EV,Nat.reduceEqDiff,↓reduceIte,he];try rfl) (by simp only [EV,Nat.reduceEqDiff,↓reduceIte,he];try rfl) (by omega) ?_
    refine Zab (Zag rfl (by simp only [EV,Nat.reduceEqDiff,↓reduceIte,he];try rfl) ?_)
    refine Zaf ?_
    show ∃ n', n' < _ /\ _
    exact ⟨_, (by omega : l.length - (i + 1) < l.length - i), i + 1, _, _, fv3, rfl, hlt, ⟨by simp only [EV,Nat.reduceEqDiff,↓reduceIte,he];try rfl, by simp only [EV,Nat.reduceEqDiff,↓reduceIte,he];try rfl, by simp only [EV,Nat.reduceEqDiff,↓reduceIte,he];try rfl⟩, h9, hd9, hE9, hSN⟩
   ·have hmem : l[i].nm ∈ (l.take i).map (·.nm) := by
     rw [<- hnm2]
     exact List.mem_map.2 ⟨r, hr, e⟩
    have hnn := h.nn
    rw [<- List.take_append_drop i l, List.map_append, List.nodup_append] at hnn
    exact hnn.2.2 _ hmem l[i].nm (by rw [List.drop_eq_getElem_cons hlt]; exact List.mem_cons_self) rfl
  ·have hke : i = l.length := by have := of_decide_eq_false ht; omega
   rw [hke, List.take_length] at hd
   refine Zba ?_
   exact ⟨rfl, by simp only [EV,Nat.reduceEqDiff,↓reduceIte,he];try rfl, S2, l2, fv2, h4, hd, hE, hS⟩
 clear he e h4
 rintro e υ ⟨he, S2, l2, fv2, h4, hd, hE, hS⟩
 repeat refine Zac ?_
 first|refine Zaa ?_|refine Zad ?_
 refine Zab (Zag rfl (by simp only [EV,Nat.reduceEqDiff,↓reduceIte,he];try rfl) ?_)
 refine Zab (Zag rfl (by simp only [EV,Nat.reduceEqDiff,↓reduceIte,he];try rfl) ?_)
 refine Zaf ?_
 refine Zaw ?_
 show ∃ r, Zaj _ _ _ _ r /\ _
 exact ⟨_, Zal rfl (by simp only [EV,Nat.reduceEqDiff,↓reduceIte,he];try rfl), hK υ cb S2 l2 fv2 pv2 h4 hd hE hS⟩
end
end Go.Proofs.Ytinpiaibhjmfaaa
namespace Go.Proofs.Ytinpiaibhjmfaaa
open Go.RowKit
set_option maxRecDepth 100000
set_option linter.unusedVariables false
set_option linter.unusedSimpArgs false
inductive Zd3 (size : Int) (nm : List UInt8) (ns : List (List UInt8)) (n : Int) (pa : List (List UInt8)) (l : List Rw) (ps : PL) : Nat -> List Rw -> PL -> Nat -> Prop
 | bad {i : Nat} : i < 2 -> ¬ (nm ≠ [] /\ nm.length <= 40) -> Zd3 size nm ns n pa l ps i l ps 2
 | full {i : Nat} : i < 2 -> (nm ≠ [] /\ nm.length <= 40) -> ¬ (size < 1 \/ ((pa.flatten.length + Zd4 l : Nat) : Int) <= size) -> Zd3 size nm ns n pa l ps i l ps 8
 | app {i : Nat} {l' ps'} : i < 2 -> (nm ≠ [] /\ nm.length <= 40) -> (size < 1 \/ ((pa.flatten.length + Zd4 l : Nat) : Int) <= size) -> Zpr l ps nm pa.flatten l' ps' -> Zd3 size nm ns n pa l ps i l' ps' 0
 | sync : Zd3 size nm ns n pa l ps 2 l (ZdG (l.map (·.nm)) ns ps).1 (ZdG (l.map (·.nm)) ns ps).2
 | cut6 : (∀ r ∈ l, r.nm ≠ nm) -> Zd3 size nm ns n pa l ps 3 l ps 6
 | cut2 {r : Rw} : r ∈ l -> r.nm = nm -> (n < 0 \/ (r.d.length : Int) < n) -> Zd3 size nm ns n pa l ps 3 l ps 2
 | cut {j : Nat} {v' : AV} (hj : j < l.length) : l[j].nm = nm -> 0 <= n -> n <= (l[j].d.length : Int) -> Zd3 size nm ns n pa l ps 3 (l.set j ⟨nm, v', l[j].d.take n.toNat⟩) ((ZlX nm (l[j].d.length - n.toNat) ps).filter fun p => decide (0 < p.2)) 0
 | ren2 : (∃ r ∈ l, r.nm = nm) -> ¬ (Zbd nm ns ≠ [] /\ (Zbd nm ns).length <= 40) -> Zd3 size nm ns n pa l ps 4 l ps 2
 | ren6 : (∀ r ∈ l, r.nm ≠ nm) -> Zd3 size nm ns n pa l ps 4 l ps 6
 | rens : (∃ r ∈ l, r.nm = nm) -> nm = Zbd nm ns -> (Zbd nm ns ≠ [] /\ (Zbd nm ns).length <= 40) -> Zd3 size nm ns n pa l ps 4 l ps 0
 | ren {r : Rw} {l1 : List Rw} {j : Nat} {v' : AV} : r ∈ l -> r.nm = nm -> nm ≠ Zbd nm ns -> (Zbd nm ns ≠ [] /\ (Zbd nm ns).length <= 40) -> ZhO (noN nm (noN (Zbd nm ns) l)) (Zbd nm ns) l1 j -> Zd3 size nm ns n pa l ps 4 (l1.set j ⟨Zbd nm ns, v', r.d⟩) (noP nm (Zfn nm (Zbd nm ns) (noP (Zbd nm ns) ps))) 0
 | rem : Zd3 size nm ns n pa l ps 5 (Zd2 ns l ps).1 (Zd2 ns l ps).2.1 (Zd2 ns l ps).2.2
 | crash {l'} : ZdA l' = Zdw ((Zdv ps : Int) - max n 0).toNat (ZdA l) ps.reverse -> Zd3 size nm ns n pa l ps 6 l' [] 0
 | none {i : Nat} : 7 <= i -> Zd3 size nm ns n pa l ps i l ps 0
section
variable {σ : St} {rb : Nat} {S : Nat -> Prop} {l : List Rw} {ps : PL} {size : Int} {fv pv : AV} {K : AV -> St -> Prop}
theorem Zl3 {kd n : Int} {nm : List UInt8} {pa : List (List UInt8)} {vN vP : AV} {ns : List (List UInt8)} (h : RAt σ rb S l ps size fv pv) (hl : l.length <= 10000000) (hp : ps.length <= 10000000) (hwf : RWf l ps) (hs : Zdv ps <= 1000000000) (hfl : ∀ r ∈ l, r.d.length <= 1000000000) (hpl : pa.length <= 1000000) (hB : pa.flatten.length + Zd4 l <= 100000000) (hn : -9223372036854775808 <= n /\ n <= 9223372036854775807)
 (hN : ZcQ σ vN ns) (hNS : ∀ c, hbk vN = some c -> ¬ S c) (hnl : ns.length <= 1000000000) (h1 : vN.one = true /\ vP.one = true) (h1b : Zbc vN = true /\ Zbc vP = true) (hP : SV CT 0 ZeN (.sl 3 pa none) vP)
 (hK : ∀ τ S' l' ps' fv' pv' a, RAt τ rb S' l' ps' size fv' pv' -> But S σ τ -> (∀ c, S c -> S' c) -> (∀ c, S' c -> S c \/ ZaT σ c) -> Zd3 size nm ns n pa l ps (ZdN kd 8) l' ps' a -> K (vI a) τ) : Zat Try.prog 23 [ptr rb 0, .agg (ZbQ kd nm vN n vP)] σ K := by
 refine Zan Zas Try.func23 rfl rfl rfl (Nat.le_of_ble_eq_true rfl) ?_
 refine ZaO 0 1 (v0 := ptr rb 0) (v1 := .agg (ZbQ kd nm vN n vP)) rfl rfl ?_
 intro e he
 repeat refine Zac ?_
 first|refine Zaa ?_|refine Zad ?_
 refine Zab ?_
 refine Zek (cs := ZbQ kd nm vN n vP) (v := .agg (ZbQ kd nm vN n vP)) (by simp only [EV,Nat.reduceEqDiff,↓reduceIte,he];try rfl) (by simp [ZbQ, Zbc, AV.one, h1]) fun b3 σ1 hn3 hu3 hb3 hub3 hX1 => ?_
 refine Zab (Zag rfl (by simp only [EV,Nat.reduceEqDiff,↓reduceIte,he];try rfl) ?_)
 refine Zaf ?_
 apply ZaO 0 3
 iterate 2 ·simp only [EV,Nat.reduceEqDiff,↓reduceIte,he];try rfl
 clear he e
 intro e he
 repeat refine Zac ?_
 first|refine Zaa ?_|refine Zad ?_
 refine Zab ?_
 refine Zae (b := b3) (o := 0) (by simp only [EV,Nat.reduceEqDiff,↓reduceIte,he];try rfl) ZaX rfl ?_
 refine Zab ?_
 refine Zap (b := b3) (o := 0 + 0) (r := .raw (.int .i64 kd)) (by simp only [EV,Nat.reduceEqDiff,↓reduceIte,he];try rfl) hb3 Zb6 ZbX rfl ?_
 refine Zab ?_
 refine Zar (vs := [.raw (.int .i64 kd), .raw (.int .i64 8)]) (by simp only [List.map_cons, List.map_nil, EV,Nat.reduceEqDiff,↓reduceIte,he];try rfl) ?_
 refine Zi8 kd (by decide) (by decide) _ fun σ2 hX2 => ?_
 refine Zaf ?_
 apply ZaP 0 3 7
 iterate 3 ·simp only [EV,Nat.reduceEqDiff,↓reduceIte,he];try rfl
 clear he e
 intro e he
 have hE := hX1.trans hX2
 have h2r := h.ext hE
 have hb := hX2.keep _ _ hb3
 have hN2 : ZcQ σ2 vN ns := hN.but hE.but fun _ _ => id
 have hp8 : ZdN kd 8 < 8 := by
  have := ZfZ kd (n := 8) (by decide)
  omega
 have hin : ∀ τ S' l' ps' fv' pv' a, RAt τ rb S' l' ps' size fv' pv' -> But S σ2 τ -> (∀ c, S c -> S' c) -> (∀ c, S' c -> S c \/ ZaT σ2 c) -> Zd3 size nm ns n pa l ps (ZdN kd 8) l' ps' a -> K (vI a) τ := fun τ S' l' ps' fv' pv' a q1 q2 q3 q4 q5 => hK τ S' l' ps' fv' pv' a q1 (hE.but.trans q2) q3 (fun c hc => (q4 c hc).imp id fun q => q.of hE) q5
 have hsame : ∀ τ a, Ext σ2 τ -> Zd3 size nm ns n pa l ps (ZdN kd 8) l ps a -> K (vI a) τ := fun τ a hX q => hin τ S l ps fv pv a (h2r.ext hX) hX.but (fun c hc => hc) (fun c hc => .inl hc) q
 clear hX1 hX2 hb3 hub3 hn3 hu3
 generalize hi : ZdN kd 8 = i at he hp8 hin hsame
 refine ZaD ?_
 ·skip
  repeat refine Zac ?_
  first|refine Zaa ?_|refine Zad ?_
  refine Zab ?_
  refine ZcK (k := .i64) (a := (i : Int)) (b := 0) (by simp only [EV,Nat.reduceEqDiff,↓reduceIte,he];try rfl) (by simp only [EV,Nat.reduceEqDiff,↓reduceIte,he];try rfl) ?_
  refine Zab (Zag rfl (by simp only [EV,Nat.reduceEqDiff,↓reduceIte,he];try rfl) ?_)
  refine Zaf ?_
  apply ZaK 0 3 7 8
  iterate 4 ·simp only [EV,Nat.reduceEqDiff,↓reduceIte,he];try rfl
  clear he e
  intro e he
  refine ZaQ (fun env υ => (env 0 = ptr rb 0 /\ env 3 = ptr b3 0 /\ env 7 = vI i /\ env 8 = vT (decide (i < 2))) /\ υ = σ2) ?_ ?_
  ·refine ZaM (t := decide ((i : Int) = 0)) (by simp only [EV,Nat.reduceEqDiff,↓reduceIte,he];try rfl) (fun ht => ?_) (fun ht => ?_)
   ·have ht := of_decide_eq_true ht
    refine Zbh ?_
    refine ⟨rfl, ⟨by simp only [EV,Nat.reduceEqDiff,↓reduceIte,he];try rfl, by simp only [EV,Nat.reduceEqDiff,↓reduceIte,he];try rfl, by simp only [EV,Nat.reduceEqDiff,↓reduceIte,he];try rfl, ?_⟩, rfl⟩
    rw [decide_eq_true (by omega : i < 2)]
    have h8 := he.2.2.2
    rw [decide_eq_true ht] at h8
    exact h8
   ·have ht := of_decide_eq_false ht
    repeat refine Zac ?_
    first|refine Zaa ?_|refine Zad ?_
    refine Zab ?_
    refine ZcK (k := .i64) (a := (i : Int)) (b := 1) (by simp only [EV,Nat.reduceEqDiff,↓reduceIte,he];try rfl) (by simp only [EV,Nat.reduceEqDiff,↓reduceIte,he];try rfl) ?_
    refine Zab (Zag rfl (by simp only [EV,Nat.reduceEqDiff,↓reduceIte,he];try rfl) ?_)
    refine Zaf ?_
    refine ⟨rfl, ⟨by simp only [EV,Nat.reduceEqDiff,↓reduceIte,he];try rfl, by simp only [EV,Nat.reduceEqDiff,↓reduceIte,he];try rfl, by simp only [EV,Nat.reduceEqDiff,↓reduceIte,he];try rfl, ?_⟩, rfl⟩
    rw [show decide (i < 2) = decide ((i : Int) = 1) by congr 1; exact propext (by omega)]
    simp only [EV,Nat.reduceEqDiff,↓reduceIte,he];try rfl
  clear he e
  rintro e _ ⟨he, rfl⟩
  refine ZaM (t := decide (i < 2)) (by simp only [EV,Nat.reduceEqDiff,↓reduceIte,he];try rfl) (fun h2 => ?_) (fun h2 => ?_)
  ·have h2 := of_decide_eq_true h2
   repeat refine Zac ?_
   first|refine Zaa ?_|refine Zad ?_
   refine Zab (Zag rfl (by simp only [EV,Nat.reduceEqDiff,↓reduceIte,he];try rfl) ?_)
   refine Zab ?_
   refine Zae (b := b3) (o := 0) (by simp only [EV,Nat.reduceEqDiff,↓reduceIte,he];try rfl) ZaX rfl ?_
   refine Zab ?_
   refine Zap (b := b3) (o := 0 + 1) (r := .raw (sV nm)) (by simp only [EV,Nat.reduceEqDiff,↓reduceIte,he];try rfl) hb ZbT Zbv rfl ?_
   refine Zab ?_
   refine Zae (b := b3) (o := 0) (by simp only [EV,Nat.reduceEqDiff,↓reduceIte,he];try rfl) ZaX rfl ?_
   refine Zab ?_
   refine Zap (b := b3) (o := 0 + 4) (r := vP) (by simp only [EV,Nat.reduceEqDiff,↓reduceIte,he];try rfl) hb ZdO Zdu rfl ?_
   refine Zab ?_
   refine Zar (vs := [ptr rb 0, .raw (sV nm), vP]) (by simp only [List.map_cons, List.map_nil, EV,Nat.reduceEqDiff,↓reduceIte,he];try rfl) ?_
   refine Zky h2r hP hl hp hpl hB (fun q τ hX => ?_) (fun q1 q τ hX => ?_) fun q1 q2 τ S' l' ps' fv' pv' d1 d2 d3 d4 d6 => ?_
   ·refine Zab (Zag rfl (by simp only [EV,Nat.reduceEqDiff,↓reduceIte,he];try rfl) ?_)
    refine Zaf ?_
    refine Zaw ?_
    show ∃ r, Zaj _ _ _ _ r /\ _
    exact ⟨_, Zal rfl (by simp only [EV,Nat.reduceEqDiff,↓reduceIte,he];try rfl), hsame τ 2 hX (.bad h2 q)⟩
   ·refine Zab (Zag rfl (by simp only [EV,Nat.reduceEqDiff,↓reduceIte,he];try rfl) ?_)
    refine Zaf ?_
    refine Zaw ?_
    show ∃ r, Zaj _ _ _ _ r /\ _
    exact ⟨_, Zal rfl (by simp only [EV,Nat.reduceEqDiff,↓reduceIte,he];try rfl), hsame τ 8 hX (.full h2 q1 q)⟩
   ·refine Zab (Zag rfl (by simp only [EV,Nat.reduceEqDiff,↓reduceIte,he];try rfl) ?_)
    refine Zaf ?_
    refine Zaw ?_
    show ∃ r, Zaj _ _ _ _ r /\ _
    exact ⟨_, Zal rfl (by simp only [EV,Nat.reduceEqDiff,↓reduceIte,he];try rfl), hin τ S' l' ps' fv' pv' 0 d1 d2 d3 d4 (.app h2 q1 q2 d6)⟩
  have h2 := of_decide_eq_false h2
  repeat refine Zac ?_
  first|refine Zaa ?_|refine Zad ?_
  refine Zab ?_
  refine ZcK (k := .i64) (a := (i : Int)) (b := 2) (by simp only [EV,Nat.reduceEqDiff,↓reduceIte,he];try rfl) (by simp only [EV,Nat.reduceEqDiff,↓reduceIte,he];try rfl) ?_
  refine Zab (Zag rfl (by simp only [EV,Nat.reduceEqDiff,↓reduceIte,he];try rfl) ?_)
  refine Zaf ?_
  apply ZaK 0 3 7 17
  iterate 4 ·simp only [EV,Nat.reduceEqDiff,↓reduceIte,he];try rfl
  clear he e
  intro e he
  refine ZaM (t := decide ((i : Int) = 2)) (by simp only [EV,Nat.reduceEqDiff,↓reduceIte,he];try rfl) (fun h3 => ?_) (fun h3 => ?_)
  ·have h3 := of_decide_eq_true h3
   obtain rfl : i = 2 := by omega
   repeat refine Zac ?_
   first|refine Zaa ?_|refine Zad ?_
   refine Zab (Zag rfl (by simp only [EV,Nat.reduceEqDiff,↓reduceIte,he];try rfl) ?_)
   refine Zab ?_
   refine Zae (b := b3) (o := 0) (by simp only [EV,Nat.reduceEqDiff,↓reduceIte,he];try rfl) ZaX rfl ?_
   refine Zab ?_
   refine Zap (b := b3) (o := 0 + 2) (r := vN) (by simp only [EV,Nat.reduceEqDiff,↓reduceIte,he];try rfl) hb Zc4 ZcR rfl ?_
   refine Zab ?_
   refine Zar (vs := [ptr rb 0, vN]) (by simp only [List.map_cons, List.map_nil, EV,Nat.reduceEqDiff,↓reduceIte,he];try rfl) ?_
   refine Zm1 h2r hl hp hN2 hNS hnl fun τ S' pv' d1 d2 d3 d4 => ?_
   refine Zab (Zag rfl (by simp only [EV,Nat.reduceEqDiff,↓reduceIte,he];try rfl) ?_)
   refine Zaf ?_
   refine Zaw ?_
   show ∃ r, Zaj _ _ _ _ r /\ _
   exact ⟨_, Zal rfl (by simp only [EV,Nat.reduceEqDiff,↓reduceIte,he];try rfl), hin τ S' l _ fv pv' _ d1 d2 d3 d4 .sync⟩
  have h3 := of_decide_eq_false h3
  repeat refine Zac ?_
  first|refine Zaa ?_|refine Zad ?_
  refine Zab ?_
  refine ZcK (k := .i64) (a := (i : Int)) (b := 3) (by simp only [EV,Nat.reduceEqDiff,↓reduceIte,he];try rfl) (by simp only [EV,Nat.reduceEqDiff,↓reduceIte,he];try rfl) ?_
  refine Zab (Zag rfl (by simp only [EV,Nat.reduceEqDiff,↓reduceIte,he];try rfl) ?_)
  refine Zaf ?_
  apply ZaK 0 3 7 23
  iterate 4 ·simp only [EV,Nat.reduceEqDiff,↓reduceIte,he];try rfl
  clear he e
  intro e he
  refine ZaM (t := decide ((i : Int) = 3)) (by simp only [EV,Nat.reduceEqDiff,↓reduceIte,he];try rfl) (fun h4 => ?_) (fun h4 => ?_)
  ·have h4 := of_decide_eq_true h4
   obtain rfl : i = 3 := by omega
   repeat refine Zac ?_
   first|refine Zaa ?_|refine Zad ?_
   refine Zab (Zag rfl (by simp only [EV,Nat.reduceEqDiff,↓reduceIte,he];try rfl) ?_)
   refine Zab ?_
   refine Zae (b := b3) (o := 0) (by simp only [EV,Nat.reduceEqDiff,↓reduceIte,he];try rfl) ZaX rfl ?_
   refine Zab ?_
   refine Zap (b := b3) (o := 0 + 1) (r := .raw (sV nm)) (by simp only [EV,Nat.reduceEqDiff,↓reduceIte,he];try rfl) hb ZbT Zbv rfl ?_
   refine Zab ?_
   refine Zae (b := b3) (o := 0) (by simp only [EV,Nat.reduceEqDiff,↓reduceIte,he];try rfl) ZaX rfl ?_
   refine Zab ?_
   refine Zap (b := b3) (o := 0 + 3) (r := .raw (.int .i64 n)) (by simp only [EV,Nat.reduceEqDiff,↓reduceIte,he];try rfl) hb Zb6 ZbX rfl ?_
   refine Zab ?_
   refine Zar (vs := [ptr rb 0, .raw (sV nm), .raw (.int .i64 n)]) (by simp only [List.map_cons, List.map_nil, EV,Nat.reduceEqDiff,↓reduceIte,he];try rfl) ?_
   refine Zol h2r hl hp (fun p hp => by have := ZhQ hp; omega) hfl hn (fun q => ?_) (fun r q1 q2 q3 => ?_) fun j hj q2 q3 q4 τ S' v' pv' d1 d2 d3 d4 => ?_
   ·refine Zab (Zag rfl (by simp only [EV,Nat.reduceEqDiff,↓reduceIte,he];try rfl) ?_)
    refine Zaf ?_
    refine Zaw ?_
    show ∃ r, Zaj _ _ _ _ r /\ _
    exact ⟨_, Zal rfl (by simp only [EV,Nat.reduceEqDiff,↓reduceIte,he];try rfl), hsame _ 6 (.refl _) (.cut6 q)⟩
   ·refine Zab (Zag rfl (by simp only [EV,Nat.reduceEqDiff,↓reduceIte,he];try rfl) ?_)
    refine Zaf ?_
    refine Zaw ?_
    show ∃ r, Zaj _ _ _ _ r /\ _
    exact ⟨_, Zal rfl (by simp only [EV,Nat.reduceEqDiff,↓reduceIte,he];try rfl), hsame _ 2 (.refl _) (.cut2 q1 q2 q3)⟩
   ·refine Zab (Zag rfl (by simp only [EV,Nat.reduceEqDiff,↓reduceIte,he];try rfl) ?_)
    refine Zaf ?_
    refine Zaw ?_
    show ∃ r, Zaj _ _ _ _ r /\ _
    exact ⟨_, Zal rfl (by simp only [EV,Nat.reduceEqDiff,↓reduceIte,he];try rfl), hin τ S' _ _ fv pv' 0 d1 d2 d3 d4 (.cut hj q2 q3 q4)⟩
  have h4 := of_decide_eq_false h4
  repeat refine Zac ?_
  first|refine Zaa ?_|refine Zad ?_
  refine Zab ?_
  refine ZcK (k := .i64) (a := (i : Int)) (b := 4) (by simp only [EV,Nat.reduceEqDiff,↓reduceIte,he];try rfl) (by simp only [EV,Nat.reduceEqDiff,↓reduceIte,he];try rfl) ?_
  refine Zab (Zag rfl (by simp only [EV,Nat.reduceEqDiff,↓reduceIte,he];try rfl) ?_)
  refine Zaf ?_
  apply ZaK 0 3 7 31
  iterate 4 ·simp only [EV,Nat.reduceEqDiff,↓reduceIte,he];try rfl
  clear he e
  intro e he
  refine ZaM (t := decide ((i : Int) = 4)) (by simp only [EV,Nat.reduceEqDiff,↓reduceIte,he];try rfl) (fun h5 => ?_) (fun h5 => ?_)
  ·have h5 := of_decide_eq_true h5
   obtain rfl : i = 4 := by omega
   refine Zb1 ?_
   refine ⟨[0, 1, 2, 3, 4, 5, 6], [[], [], [1], [], [3], [0, 1, 2, 3, 4], [0, 1, 2, 3, 4, 5]], fun _ => True, [2], [4], [], by kernel_rfl, ?_⟩
   apply Zah
   case hi => simp only [HIX]; try rfl
   case hw => rfl
   case how => rfl
   refine Zag rfl (by simp only [EV,Nat.reduceEqDiff,↓reduceIte,he];try rfl) ?_
   refine Zao ?_
   apply Zah
   case hi => simp only [HIX]; try rfl
   case hw => rfl
   case how => rfl
   refine Zae (b := b3) (o := 0) (by simp only [EV,Nat.reduceEqDiff,↓reduceIte,he];try rfl) ZaX rfl ?_
   refine Zao ?_
   apply Zah
   case hi => simp only [HIX]; try rfl
   case hw => rfl
   case how => rfl
   refine Zap (b := b3) (o := 0 + 1) (r := .raw (sV nm)) (by simp only [EV,Nat.reduceEqDiff,↓reduceIte,he];try rfl) hb ZbT Zbv rfl ?_
   refine Zao ?_
   apply Zah
   case hi => simp only [HIX]; try rfl
   case hw => rfl
   case how => rfl
   refine Zap (b := b3) (o := 0) (r := .agg (ZbQ kd nm vN n vP)) (by simp only [EV,Nat.reduceEqDiff,↓reduceIte,he];try rfl) hb ZeA ZlQ rfl ?_
   refine Zao ?_
   apply Zah
   case hi => simp only [HIX]; try rfl
   case hw => rfl
   case how => rfl
   refine Zar (vs := [.agg (ZbQ kd nm vN n vP)]) (by simp only [List.map_cons, List.map_nil, EV,Nat.reduceEqDiff,↓reduceIte,he];try rfl) ?_
   refine ZjZ hN2 h1 fun τ1 hX1 => ?_
   refine ⟨fun _ => hX1, ?_⟩
   apply Zah
   case hi => simp only [HIX]; try rfl
   case hw => rfl
   case how => rfl
   refine Zar (vs := [ptr rb 0, .raw (sV nm), .raw (sV (Zbd nm ns))]) (by simp only [List.map_cons, List.map_nil, EV,Nat.reduceEqDiff,↓reduceIte,he];try rfl) ?_
   have h3r := h2r.ext hX1
   refine ZkB h3r hl hp hfl hwf.inn (fun q => ?_) (fun q1 q2 τ hX => ?_) (fun q1 q3 q5 τ hX => ?_) fun r q1 q2 q3 q4 τ S' l1 j v' fv' pv' hM d1 d2 d3 d4 => ?_
   ·refine ⟨(fun hf => by cases hf), ?_⟩
    apply Zah
    case hi => simp only [HIX]; try rfl
    case hw => rfl
    case how => rfl
    refine Zag rfl (by simp only [EV,Nat.reduceEqDiff,↓reduceIte,he];try rfl) ?_
    refine Zao ?_
    refine Zb8 ?_
    refine Zaw ?_
    show ∃ r, Zaj _ _ _ _ r /\ _
    exact ⟨_, Zal rfl (by simp only [EV,Nat.reduceEqDiff,↓reduceIte,he];try rfl), hsame _ 6 hX1 (.ren6 q)⟩
   ·refine ⟨(fun hf => by cases hf), ?_⟩
    apply Zah
    case hi => simp only [HIX]; try rfl
    case hw => rfl
    case how => rfl
    refine Zag rfl (by simp only [EV,Nat.reduceEqDiff,↓reduceIte,he];try rfl) ?_
    refine Zao ?_
    refine Zb8 ?_
    refine Zaw ?_
    show ∃ r, Zaj _ _ _ _ r /\ _
    exact ⟨_, Zal rfl (by simp only [EV,Nat.reduceEqDiff,↓reduceIte,he];try rfl), hsame τ 2 (hX1.trans hX) (.ren2 q1 q2)⟩
   ·refine ⟨(fun hf => by cases hf), ?_⟩
    apply Zah
    case hi => simp only [HIX]; try rfl
    case hw => rfl
    case how => rfl
    refine Zag rfl (by simp only [EV,Nat.reduceEqDiff,↓reduceIte,he];try rfl) ?_
    refine Zao ?_
    refine Zb8 ?_
    refine Zaw ?_
    show ∃ r, Zaj _ _ _ _ r /\ _
    exact ⟨_, Zal rfl (by simp only [EV,Nat.reduceEqDiff,↓reduceIte,he];try rfl), hsame τ 0 (hX1.trans hX) (.rens q1 q3 q5)⟩
   ·refine ⟨(fun hf => by cases hf), ?_⟩
    apply Zah
    case hi => simp only [HIX]; try rfl
    case hw => rfl
    case how => rfl
    refine Zag rfl (by simp only [EV,Nat.reduceEqDiff,↓reduceIte,he];try rfl) ?_
    refine Zao ?_
    refine Zb8 ?_
    refine Zaw ?_
    show ∃ r, Zaj _ _ _ _ r /\ _
    exact ⟨_, Zal rfl (by simp only [EV,Nat.reduceEqDiff,↓reduceIte,he];try rfl), hin τ S' _ _ fv' pv' 0 d1 (hX1.but.trans d2) d3 (fun c hc => (d4 c hc).imp id fun q => q.of hX1) (.ren q1 q2 q3 q4 hM)⟩
  have h5 := of_decide_eq_false h5
  repeat refine Zac ?_
  first|refine Zaa ?_|refine Zad ?_
  refine Zab ?_
  refine ZcK (k := .i64) (a := (i : Int)) (b := 5) (by simp only [EV,Nat.reduceEqDiff,↓reduceIte,he];try rfl) (by simp only [EV,Nat.reduceEqDiff,↓reduceIte,he];try rfl) ?_
  refine Zab (Zag rfl (by simp only [EV,Nat.reduceEqDiff,↓reduceIte,he];try rfl) ?_)
  refine Zaf ?_
  apply ZaK 0 3 7 39
  iterate 4 ·simp only [EV,Nat.reduceEqDiff,↓reduceIte,he];try rfl
  clear he e
  intro e he
  refine ZaM (t := decide ((i : Int) = 5)) (by simp only [EV,Nat.reduceEqDiff,↓reduceIte,he];try rfl) (fun h6 => ?_) (fun h6 => ?_)
  ·have h6 := of_decide_eq_true h6
   obtain rfl : i = 5 := by omega
   repeat refine Zac ?_
   first|refine Zaa ?_|refine Zad ?_
   refine Zab (Zag rfl (by simp only [EV,Nat.reduceEqDiff,↓reduceIte,he];try rfl) ?_)
   refine Zab ?_
   refine Zae (b := b3) (o := 0) (by simp only [EV,Nat.reduceEqDiff,↓reduceIte,he];try rfl) ZaX rfl ?_
   refine Zab ?_
   refine Zap (b := b3) (o := 0 + 2) (r := vN) (by simp only [EV,Nat.reduceEqDiff,↓reduceIte,he];try rfl) hb Zc4 ZcR rfl ?_
   refine Zab ?_
   refine Zar (vs := [ptr rb 0, vN]) (by simp only [List.map_cons, List.map_nil, EV,Nat.reduceEqDiff,↓reduceIte,he];try rfl) ?_
   refine Zok h2r hl hp hN2 hNS hnl fun τ S' fv' pv' d1 d2 d3 d4 => ?_
   refine Zab (Zag rfl (by simp only [EV,Nat.reduceEqDiff,↓reduceIte,he];try rfl) ?_)
   refine Zaf ?_
   refine Zaw ?_
   show ∃ r, Zaj _ _ _ _ r /\ _
   exact ⟨_, Zal rfl (by simp only [EV,Nat.reduceEqDiff,↓reduceIte,he];try rfl), hin τ S' _ _ fv' pv' _ d1 d2 d3 d4 .rem⟩
  have h6 := of_decide_eq_false h6
  repeat refine Zac ?_
  first|refine Zaa ?_|refine Zad ?_
  refine Zab ?_
  refine ZcK (k := .i64) (a := (i : Int)) (b := 6) (by simp only [EV,Nat.reduceEqDiff,↓reduceIte,he];try rfl) (by simp only [EV,Nat.reduceEqDiff,↓reduceIte,he];try rfl) ?_
  refine Zab (Zag rfl (by simp only [EV,Nat.reduceEqDiff,↓reduceIte,he];try rfl) ?_)
  refine Zaf ?_
  apply ZaK 0 3 7 45
  iterate 4 ·simp only [EV,Nat.reduceEqDiff,↓reduceIte,he];try rfl
  clear he e
  intro e he
  refine ZaM (t := decide ((i : Int) = 6)) (by simp only [EV,Nat.reduceEqDiff,↓reduceIte,he];try rfl) (fun h7 => ?_) (fun h7 => ?_)
  ·have h7 := of_decide_eq_true h7
   obtain rfl : i = 6 := by omega
   repeat refine Zac ?_
   first|refine Zaa ?_|refine Zad ?_
   refine Zab (Zag rfl (by simp only [EV,Nat.reduceEqDiff,↓reduceIte,he];try rfl) ?_)
   refine Zab ?_
   refine Zae (b := b3) (o := 0) (by simp only [EV,Nat.reduceEqDiff,↓reduceIte,he];try rfl) ZaX rfl ?_
   refine Zab ?_
   refine Zap (b := b3) (o := 0 + 3) (r := .raw (.int .i64 n)) (by simp only [EV,Nat.reduceEqDiff,↓reduceIte,he];try rfl) hb Zb6 ZbX rfl ?_
   refine Zab ?_
   refine Zar (vs := [ptr rb 0, .raw (.int .i64 n)]) (by simp only [List.map_cons, List.map_nil, EV,Nat.reduceEqDiff,↓reduceIte,he];try rfl) ?_
   refine Zl2 h2r hl hp hwf hs hfl hn fun τ S' l' d1 d2 d3 d4 d5 => ?_
   refine Zaf ?_
   show Zay _ _ _ _ _ _
   repeat refine Zac ?_
   first|refine Zaa ?_|refine Zad ?_
   refine Zab (Zag rfl (by simp only [EV,Nat.reduceEqDiff,↓reduceIte,he];try rfl) ?_)
   refine Zaf ?_
   refine Zaw ?_
   show ∃ r, Zaj _ _ _ _ r /\ _
   exact ⟨_, Zal rfl (by simp only [EV,Nat.reduceEqDiff,↓reduceIte,he];try rfl), hin τ S' l' [] fv _ 0 d1 d3 d4 d5 (.crash d2)⟩
  have h7 := of_decide_eq_false h7
  refine Zbh ?_
  show Zay _ _ _ _ _ _
  repeat refine Zac ?_
  first|refine Zaa ?_|refine Zad ?_
  refine Zab (Zag rfl (by simp only [EV,Nat.reduceEqDiff,↓reduceIte,he];try rfl) ?_)
  refine Zaf ?_
  refine Zaw ?_
  show ∃ r, Zaj _ _ _ _ r /\ _
  exact ⟨_, Zal rfl (by simp only [EV,Nat.reduceEqDiff,↓reduceIte,he];try rfl), hsame _ 0 (.refl _) (.none (by omega))⟩
end
end Go.Proofs.Ytinpiaibhjmfaaa
