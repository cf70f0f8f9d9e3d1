/- The law JournalBytes. -/
import Derived.Test.YtiienjjhlibopaaGreatDoorFacts
import Derived.Test.YtiienjjhlibopaaGreatDoorMan
import Derived.Test.YtiienjjhlibopaaGreatDoorMaj
import Derived.Test.YtiienjjhlibopaaGreatDoorMal
import Derived.Test.YtiienjjhlibopaaGreatDoorMab
namespace Go.Proofs.YtiienjjhlibopaaGreatDoor
open Go.RowKit
set_option maxRecDepth 100000
set_option linter.unusedVariables false
set_option linter.unusedSimpArgs false
theorem ZoT : Program.underlying Tryz.prog 4 = some (.bool) := by kernel_rfl
theorem Znv : Zba Tryz.prog 54 = some (.agg #[.slice none 0 0, .bool false]) := by kernel_rfl
theorem Znw : ZbE Tryz.prog 54 = some [(0, 1), (1, 1)] := by kernel_rfl
section
variable {σ : St} {K : AV -> St -> Prop}
theorem ZoU {x : Int} {k : Nat} {v a0 a1 a2 a3 : AV} {c : List UInt8} {ls : List (List Int)} {A : Addr} {n : Nat} (hv : Za5 σ v c) (hc : ZbM σ [a0, a1, a2, a3] ls) (h4 : ls.length = 4) (h1 : ∀ u ∈ [v, a0, a1, a2, a3], u.one = true) : Zlw σ (.lst (some A) 1 n [vI x, kV k, v, a0, a1, a2, a3]) [⟨x, k, c, ls⟩] [vI x, kV k, v, a0, a1, a2, a3] :=
 ⟨⟨rfl, (by intro a ha; rcases List.mem_cons.1 ha with rfl | ha; (· rfl); rcases List.mem_cons.1 ha with rfl | ha; (· rfl); exact h1 a ha), .inl ⟨some A, n, [], by simp, fun q => by cases q⟩⟩, fun i hi => match i, hi with
  | 0, _ => ⟨rfl, hv, hc, h4⟩⟩
theorem Zd7 {l : List Int} {ls : List (List Int)} (h : l ∈ ls) : l.length <= ls.flatten.length := by
 obtain ⟨a, b, rfl⟩ := List.append_of_mem h
 rw [List.flatten_append, List.flatten_cons, List.length_append, List.length_append]
 omega
theorem Zkb {x : Int} (h : inB x = true) : nOk x = true := decide_eq_true (by have := of_decide_eq_true h; omega)
theorem ZoV {l : List Int} (h : ZbK l = true) : Zin l = true := List.all_eq_true.2 fun x hx => by
 obtain ⟨i, hi, rfl⟩ := List.getElem_of_mem hx
 have h1 := of_decide_eq_true h i hi
 exact decide_eq_true ⟨by have := h1.1; omega, by have := h1.2.1; omega⟩
theorem Zk2 {ls : List (List Int)} (h : Zd1 ls = true) : ZfX ls = true := List.all_eq_true.2 fun l hl => ZoV (List.all_eq_true.1 h l hl)
theorem Znx {ls : List (List Int)} (h : Zex ls = true) : ZfX ls = true := List.all_eq_true.2 fun l hl => by
 have h1 := Zd7 hl
 have h2 := of_decide_eq_true h
 obtain rfl : l = [] := List.eq_nil_of_length_eq_zero (by omega)
 rfl
theorem ZsJ {x : Int} {k : Nat} {c : List UInt8} {ls : List (List Int)} (hk : k <= 255) (h : Za8 x k c ls = true) : ZqQ ⟨x, k, c, ls⟩ = true := by
 unfold Za8 at h
 rw [Bool.and_eq_true] at h
 obtain ⟨h1, h2⟩ := h
 have h3 : nOk ((k : Nat) : Int) = true := decide_eq_true (by omega)
 have h4 : ZfX ls = true := by
  cases g1 : decide (((k : Nat) : Int) = 1) with
  | true => rw [g1, cond_true, Bool.and_eq_true] at h2; exact Znx h2.2
  | false =>
   rw [g1, cond_false] at h2
   cases g2 : decide (((k : Nat) : Int) = 2) with
   | true => rw [g2, cond_true, Bool.and_eq_true] at h2; exact Znx h2.2
   | false => rw [g2, cond_false, Bool.and_eq_true, Bool.and_eq_true] at h2; exact Zk2 h2.2.2
 show (nOk x && nOk ((k : Nat) : Int) && ZfX ls) = true
 rw [Zkb h1, h3, h4]
 rfl
theorem ZrP {x t : Int} {ls : List (List Int)} (h : Zbl x t ls = true) : (nOk x && nOk t && ZfX ls) = true := by
 unfold Zbl at h
 rw [Bool.and_eq_true, Bool.and_eq_true] at h
 rw [Zkb h.1.1, Zkb h.1.2, Zk2 h.2]
 rfl
theorem cfgb_small {ls : List (List Int)} (h4 : ls.length = 4) (hf : ls.flatten.length <= 100000) : (Ze7 ls).length <= 36 + 9 * ls.flatten.length := by
 obtain ⟨l0, l1, l2, l3, rfl⟩ := Zc3 h4
 have g0 := Zd7 (l := l0) (ls := [l0, l1, l2, l3]) (by simp)
 have g1 := Zd7 (l := l1) (ls := [l0, l1, l2, l3]) (by simp)
 have g2 := Zd7 (l := l2) (ls := [l0, l1, l2, l3]) (by simp)
 have g3 := Zd7 (l := l3) (ls := [l0, l1, l2, l3]) (by simp)
 have f0 := ZcX (l := l0) (by omega)
 have f1 := ZcX (l := l1) (by omega)
 have f2 := ZcX (l := l2) (by omega)
 have f3 := ZcX (l := l3) (by omega)
 have e1 : Ze7 [l0, l1, l2, l3] = Zds l0 ++ (Zds l1 ++ (Zds l2 ++ (Zds l3 ++ []))) := rfl
 rw [e1]
 simp only [List.length_append, List.flatten_cons, List.flatten_nil, List.length_nil] at *
 omega
theorem entb_small {x : Int} {k : Nat} {c : List UInt8} {ls : List (List Int)} (h4 : ls.length = 4) (hf : ls.flatten.length <= 100000) (hc : c.length <= 10000000) : (ZhB ⟨x, k, c, ls⟩).length <= 63 + 9 * ls.flatten.length + c.length := by
 have h1 := Zfx x
 have h2 := Zfx ((k : Nat) : Int)
 have h3 := Zof (p := c) (by omega)
 have h5 := cfgb_small h4 hf
 show (nB x ++ nB ((k : Nat) : Int) ++ ZiD c ++ Ze7 ls).length <= _
 simp only [List.length_append]
 omega
theorem Zny {σ0 : St} {b k : Nat} {x : Int} {u c0 c1 c2 c3 : AV} {c : List UInt8} {ls : List (List Int)} (hB : Zly σ b u c) (hC : Zd3 σ0 σ [c0, c1, c2, c3] ls) (h4 : ls.length = 4) : ∀ a ∈ [vI x, kV k, u, c0, c1, c2, c3, vI x, kV k, u, c0, c1, c2, c3], a.one = true := by
 have hu := (Ls.oneV (Ls.of (hB.hd (Zb1 _)))).1
 have f : ∀ i (h : i < 4) a, [c0, c1, c2, c3][i]? = some a -> a.one = true := fun i h a ha => by
  obtain ⟨_, q1, q2⟩ := hC.at_ i (by omega)
  rw [ha] at q1
  cases q1
  exact (Ls.oneV q2).1
 have f0 := f 0 (by omega) c0 rfl
 have f1 := f 1 (by omega) c1 rfl
 have f2 := f 2 (by omega) c2 rfl
 have f3 := f 3 (by omega) c3 rfl
 intro a ha
 simp only [List.mem_cons, List.not_mem_nil, or_false] at ha
 rcases ha with rfl | rfl | rfl | rfl | rfl | rfl | rfl | rfl | rfl | rfl | rfl | rfl | rfl | rfl <;> first | rfl | assumption
theorem ZoW {σ0 : St} {b k : Nat} {x : Int} {v u c0 c1 c2 c3 : AV} {c : List UInt8} {ls : List (List Int)} (hB : Zly σ b u c) (hC : Zd3 σ0 σ [c0, c1, c2, c3] ls) (h4 : ls.length = 4) (hH : Hd σ 28 7 v 2 [vI x, kV k, u, c0, c1, c2, c3, vI x, kV k, u, c0, c1, c2, c3]) : Zlw σ v [⟨x, k, c, ls⟩, ⟨x, k, c, ls⟩] [vI x, kV k, u, c0, c1, c2, c3, vI x, kV k, u, c0, c1, c2, c3] :=
 ⟨⟨rfl, hH.2.1, .inr hH⟩, fun i hi => match i, hi with
  | 0, _ => ⟨rfl, .inl (hB.hd (Zb1 _)), hC.at_, h4⟩
  | 1, _ => ⟨rfl, .inl (hB.hd (Zb1 _)), hC.at_, h4⟩⟩
theorem ZiA (e : Ent) : esB [e, e] = ZhB e ++ ZhB e := by simp [esB]
theorem ZqF {e : Ent} (h : ZqQ e = true) : esW [e, e] = true := by simp [esW, h]
set_option maxHeartbeats 4000000 in
theorem ZqG {x y t : Int} {k : Nat} {v w a0 a1 a2 a3 d0 d1 d2 d3 : AV} {c bs : List UInt8} {ls ms : List (List Int)} (hv : ∀ σ, Za5 σ v c) (hw : TB w bs) (hc : ∀ σ, ZbM σ [a0, a1, a2, a3] ls) (hd : ∀ σ, ZbM σ [d0, d1, d2, d3] ms) (h4 : ls.length = 4) (h5 : ms.length = 4) (hk : k <= 255) (hcl : c.length <= 140737488355328) (hn : ∀ l ∈ ls, l.length <= 140737488355328) (hm : ∀ l ∈ ms, l.length <= 140737488355328) (h1 : ∀ u ∈ [v, a0, a1, a2, a3], u.one = true /\ Zbh u = true /\ u.cells = [u]) (h2 : ∀ u ∈ [d0, d1, d2, d3], u.one = true /\ Zbh u = true /\ u.cells = [u]) (hK : ∀ τ, Ext σ τ -> K (vT true) τ) : Zan Tryz.prog 3 [.agg [vI x, (kV k), v, a0, a1, a2, a3], .agg [vI y, vI t, d0, d1, d2, d3], w] σ K := by
 refine Zai Zam Tryz.func3 rfl rfl rfl (Nat.le_of_ble_eq_true rfl) ?_
 refine Zhx 0 1 2 (v0 := .agg [vI x, (kV k), v, a0, a1, a2, a3]) (v1 := .agg [vI y, vI t, d0, d1, d2, d3]) (v2 := w) rfl rfl rfl ?_
 intro e he
 refine Zaa (Zac (Zbn (cs := [vI x, (kV k), v, a0, a1, a2, a3]) (v := .agg [vI x, (kV k), v, a0, a1, a2, a3]) he.1 rfl fun b1 υ2 hn3 hu4 hb5 hv6 hX7 => ?_))
 refine Zac (Zbn (cs := [vI y, vI t, d0, d1, d2, d3]) (v := .agg [vI y, vI t, d0, d1, d2, d3]) he.2.1 rfl fun b8 υ9 hn10 hu11 hb12 hv13 hX14 => ?_)
 have ne15 := Zat hb5 hn10
 have hb5 := hX14.keep _ _ hb5
 have hv6 := hX14.used _ hv6
 refine Zag ?_
 refine Zaf (kp3 2 3 4 ?_)
 clear he e
 intro e he
 refine Zab (ZkU (fun e τ => ∃ (b : Bool), (e 2 = w /\ e 3 = ptr b1 0 /\ e 4 = ptr b8 0 /\ e 39 = vT b) /\ (b = false -> eoF [⟨x, k, c, ls⟩] 1500 0 <= 1500 /\ 1 + ms.flatten.length <= 1500 /\ bs.length <= 20000) /\ Ext υ9 τ) ?_ ?_)
 ·refine Zad ?_
  refine Zac (Zah (b := b1) (o := 0) (r := .agg [vI x, (kV k), v, a0, a1, a2, a3]) he.2.1 hb5 fa8 ZbZ rfl ?_)
  refine Zac (ZaN (vs := [.agg [vI x, (kV k), v, a0, a1, a2, a3]]) (cells := [vI x, (kV k), v, a0, a1, a2, a3]) (by simp only [List.map_cons, List.map_nil, EV,Nat.reduceEqDiff,↓reduceIte,he];try rfl) Zeb ZbZ Zfo rfl (by decide) rfl fun b16 hu17 hb18 => ?_)
  have hX19 := Ext.put (.tail 28 (1 * 7) (1 * 7)) hb18
  have hb5 := hX19.keep _ _ hb5
  have hv6 := hX19.used _ hv6
  have hb12 := hX19.keep _ _ hb12
  have hv13 := hX19.used _ hv13
  refine Zao [.lst (some ⟨b16, 0, none⟩) 1 1 [vI x, (kV k), v, a0, a1, a2, a3], vI 1500] ?_
  refine Zjj (es := [⟨x, k, c, ls⟩]) (ZoU (hv _) (hc _) h4 fun u hu => (h1 u hu).1) (show 1 <= 140737488355328 by decide) (by decide) (fun e he => by rw [List.mem_singleton.1 he]; exact ⟨hcl, hn⟩) fun τ22 hX23 => ?_
  have hb5 := hX23.keep _ _ hb5
  have hv6 := hX23.used _ hv6
  have hb12 := hX23.keep _ _ hb12
  have hv13 := hX23.used _ hv13
  refine Zac (Zb3 (k := .i64) (a := ((eoF [⟨x, k, c, ls⟩] 1500 0 : Nat) : Int)) (b := 1500) rfl rfl ?_)
  refine Zag ?_
  cases hg24 : decide ((1500 : Int) < ((eoF [⟨x, k, c, ls⟩] 1500 0 : Nat) : Int)) with
  | false =>
   have bhg24 := hg24
   have hg24 := of_decide_eq_false bhg24
   refine Zau ?_
   refine Zae (b := b8) (o := 0) he.2.2 Zdp rfl ?_
   refine Zau ?_
   refine Zah (b := b8) (o := 0 + 2) (r := .agg [d0, d1, d2, d3]) rfl hb12 fa7 Zdb rfl ?_
   refine Zau ?_
   refine Zay (vs := [.agg [d0, d1, d2, d3]]) (by simp only [List.map_cons, List.map_nil, EV,Nat.reduceEqDiff,↓reduceIte,he];try rfl) ?_
   refine Zhh h5 (hd _) hm fun τ25 hX26 => ?_
   have hb5 := hX26.keep _ _ hb5
   have hv6 := hX26.used _ hv6
   have hb12 := hX26.keep _ _ hb12
   have hv13 := hX26.used _ hv13
   refine Zau ?_
   refine Zb3 (k := .i64) (a := ((1 + ms.flatten.length : Nat) : Int)) (b := 1500) rfl rfl ?_
   refine Zac (Zak (v := vT (decide ((1500 : Int) < ((1 + ms.flatten.length : Nat) : Int)))) rfl rfl ?_)
   refine Zag ?_
   cases hg27 : decide ((1500 : Int) < ((1 + ms.flatten.length : Nat) : Int)) with
   | false =>
    have bhg27 := hg27
    have hg27 := of_decide_eq_false bhg27
    refine Zau ?_
    refine Zcb rfl he.1 ?_
    refine Zau ?_
    refine ZaP (σ := τ25) rfl hw.ls rfl Zbw ?_
    refine Zau ?_
    refine Zb3 (k := .i64) (a := ((bs.length : Nat) : Int)) (b := 20000) rfl rfl ?_
    refine Zac (Zak (v := vT (decide ((20000 : Int) < ((bs.length : Nat) : Int)))) rfl rfl ?_)
    refine Zaf ?_
    show ∃ _, _
    exact ⟨(decide ((20000 : Int) < ((bs.length : Nat) : Int))), ⟨by simp only [EV,Nat.reduceEqDiff,↓reduceIte,he];try rfl, by simp only [EV,Nat.reduceEqDiff,↓reduceIte,he];try rfl, by simp only [EV,Nat.reduceEqDiff,↓reduceIte,he];try rfl, by simp only [EV,Nat.reduceEqDiff,↓reduceIte,he];try rfl⟩, (fun q => by have q := of_decide_eq_false q; omega), ((hX19.trans hX23).trans hX26)⟩
   | true =>
    have bhg27 := hg27
    have hg27 := of_decide_eq_true bhg27
    refine Zal ?_
    refine Zal ?_
    refine Zal ?_
    refine Zac (Zaj (v := vT true) rfl rfl ?_)
    refine Zaf ?_
    show ∃ _, _
    exact ⟨true, ⟨by simp only [EV,Nat.reduceEqDiff,↓reduceIte,he];try rfl, by simp only [EV,Nat.reduceEqDiff,↓reduceIte,he];try rfl, by simp only [EV,Nat.reduceEqDiff,↓reduceIte,he];try rfl, by simp only [EV,Nat.reduceEqDiff,↓reduceIte,he];try rfl⟩, (fun q => by cases q), ((hX19.trans hX23).trans hX26)⟩
  | true =>
   have bhg24 := hg24
   have hg24 := of_decide_eq_true bhg24
   refine Zal ?_
   refine Zal ?_
   refine Zal ?_
   refine Zal ?_
   refine Zac (Zaj (v := vT true) rfl rfl ?_)
   refine Zag ?_
   refine Zal ?_
   refine Zal ?_
   refine Zal ?_
   refine Zac (Zaj (v := vT true) rfl rfl ?_)
   refine Zaf ?_
   show ∃ _, _
   exact ⟨true, ⟨by simp only [EV,Nat.reduceEqDiff,↓reduceIte,he];try rfl, by simp only [EV,Nat.reduceEqDiff,↓reduceIte,he];try rfl, by simp only [EV,Nat.reduceEqDiff,↓reduceIte,he];try rfl, by simp only [EV,Nat.reduceEqDiff,↓reduceIte,he];try rfl⟩, (fun q => by cases q), (hX19.trans hX23)⟩
 clear he e
 rintro e τ28 ⟨b, he, hb, hX29⟩
 have hb5 := hX29.keep _ _ hb5
 have hv6 := hX29.used _ hv6
 have hb12 := hX29.keep _ _ hb12
 have hv13 := hX29.used _ hv13
 refine ZaC (t := b) he.2.2.2 (fun ht39 => ?_) (fun ht39 => ?_)
 ·have bht39 := ht39
  refine Zab (Zaa (Zao [] ?_))
  refine Zez fun τ30 hX31 => ?_
  have hb5 := hX31.keep _ _ hb5
  have hv6 := hX31.used _ hv6
  have hb12 := hX31.keep _ _ hb12
  have hv13 := hX31.used _ hv13
  refine Zag ?_
  refine Zaf (kp1 6 ?_)
  clear he e
  intro e he
  refine ZbB ?_
  exact ZaD (hK _ (((hX7.trans hX14).trans hX29).trans hX31))
 have bht39 := ht39
 obtain ⟨g1, g2, g3⟩ := hb ht39
 have g1 : 0 + 1 + c.length / 8 + (1 + ls.flatten.length) <= 1500 := g1
 have cl : c.length <= 1000000 := by omega
 have fl : ls.flatten.length <= 1500 := by omega
 have fm : ms.flatten.length <= 1500 := by omega
 have bl : bs.length <= 1000000000 := by omega
 have sl : ∀ l ∈ ls, l.length <= 1000000 := fun l hl => Nat.le_trans (Zd7 hl) (by omega)
 have sm : ∀ l ∈ ms, l.length <= 1000000 := fun l hl => Nat.le_trans (Zd7 hl) (by omega)
 have hE := @entb_small x k c ls h4 (by omega) (by omega)
 have hB := @cfgb_small ms h5 (by omega)
 have hy := Zfx y
 have ht := Zfx t
 have hbb : (Zg8 y t ms).length = (nB y).length + (nB t).length + (Ze7 ms).length := by unfold Zg8; rw [List.length_append, List.length_append]
 refine ZaL (Zbt ?_)
 refine ⟨[0, 2, 1, 3, 4, 5, 6, 7], [[], [0], [], [0, 1, 2], [], [], [0, 1, 2, 3, 4, 5], [0, 1, 2, 3, 4, 5, 6]], fun _ => True, [2], [1], [], by kernel_rfl, ?_⟩
 refine Zas ?_
 refine Zah (b := b1) (o := 0) (r := .agg [vI x, (kV k), v, a0, a1, a2, a3]) he.2.1 hb5 fa8 ZbZ rfl ?_
 refine Zaz ?_
 refine Zas ?_
 refine Zah (b := b8) (o := 0) (r := .agg [vI y, vI t, d0, d1, d2, d3]) he.2.2.1 hb12 ZfQ Zd9 rfl ?_
 refine Zaz ?_
 refine Zas ?_
 refine Zay (vs := [.agg [vI x, (kV k), v, a0, a1, a2, a3]]) (by simp only [List.map_cons, List.map_nil, EV,Nat.reduceEqDiff,↓reduceIte,he];try rfl) ?_
 refine Zjk (hv _) cl h4 (hc _) sl fun b32 u33 c34_0 c34_1 c34_2 c34_3 τ35 hB36 hN37 hC38 hX39 => ?_
 refine ⟨fun _ => hX39, ?_⟩
 have hb5 := hX39.keep _ _ hb5
 have hv6 := hX39.used _ hv6
 have hb12 := hX39.keep _ _ hb12
 have hv13 := hX39.used _ hv13
 obtain ⟨_, _, qz, z40, _⟩ := hC38 0 (by omega)
 cases qz
 obtain ⟨_, _, qz, z41, _⟩ := hC38 1 (by omega)
 cases qz
 obtain ⟨_, _, qz, z42, _⟩ := hC38 2 (by omega)
 cases qz
 obtain ⟨_, _, qz, z43, _⟩ := hC38 3 (by omega)
 cases qz
 refine Zas ?_
 refine Zay (vs := [.agg [vI y, vI t, d0, d1, d2, d3]]) (by simp only [List.map_cons, List.map_nil, EV,Nat.reduceEqDiff,↓reduceIte,he];try rfl) ?_
 refine ZjW h5 (hd _) sm fun c44_0 c44_1 c44_2 c44_3 τ45 hC46 hX47 => ?_
 refine ⟨fun q => (by cases q), ?_⟩
 have hb5 := hX47.keep _ _ hb5
 have hv6 := hX47.used _ hv6
 have hb12 := hX47.keep _ _ hb12
 have hv13 := hX47.used _ hv13
 obtain ⟨_, _, qz, z48, _⟩ := hC46 0 (by omega)
 cases qz
 obtain ⟨_, _, qz, z49, _⟩ := hC46 1 (by omega)
 cases qz
 obtain ⟨_, _, qz, z50, _⟩ := hC46 2 (by omega)
 cases qz
 obtain ⟨_, _, qz, z51, _⟩ := hC46 3 (by omega)
 cases qz
 refine Zas ?_
 refine ZaH (cs := [vI 0, .raw (.int .u8 0), .lst none 0 0 [], .lst none 0 0 [], .lst none 0 0 [], .lst none 0 0 [], .lst none 0 0 []]) Zfo rfl fun b52 υ53 hn54 hu55 hb56 hv57 hX58 => ?_
 refine ⟨fun q => (by cases q), ?_⟩
 have ne59 := Zat hb5 hn54
 have ne60 := Zat hb12 hn54
 have hb5 := hX58.keep _ _ hb5
 have hv6 := hX58.used _ hv6
 have hb12 := hX58.keep _ _ hb12
 have hv13 := hX58.used _ hv13
 refine Zas ?_
 refine ZaH (cs := [vI 0, vI 0, .lst none 0 0 [], .lst none 0 0 [], .lst none 0 0 [], .lst none 0 0 []]) ZlK rfl fun b61 υ62 hn63 hu64 hb65 hv66 hX67 => ?_
 refine ⟨fun q => (by cases q), ?_⟩
 have ne68 := Zat hb5 hn63
 have ne69 := Zat hb12 hn63
 have ne70 := Zat hb56 hn63
 have hb5 := hX67.keep _ _ hb5
 have hv6 := hX67.used _ hv6
 have hb12 := hX67.keep _ _ hb12
 have hv13 := hX67.used _ hv13
 have hb56 := hX67.keep _ _ hb56
 have hv57 := hX67.used _ hv57
 refine Zas ?_
 refine ZaB (b := b52) (o := 0) (u := .agg [vI x, (kV k), u33, c34_0, c34_1, c34_2, c34_3]) (cs' := [vI x, (kV k), u33, c34_0, c34_1, c34_2, c34_3]) rfl rfl hb56 ZbZ (by obtain ⟨_, rfl, _⟩ := hB36 <;> obtain ⟨_, rfl, _⟩ := z40 <;> obtain ⟨_, rfl, _⟩ := z41 <;> obtain ⟨_, rfl, _⟩ := z42 <;> obtain ⟨_, rfl, _⟩ := z43 <;> rfl) rfl fun υ71 hb56 k72 => ?_
 refine ⟨fun q => (by cases q), ?_⟩
 have hb5 := k72.keep _ _ (Ne.symm ne59) hb5
 have hv6 := k72.used _ hv6
 have hb12 := k72.keep _ _ (Ne.symm ne60) hb12
 have hv13 := k72.used _ hv13
 have hb65 := k72.keep _ _ ne70 hb65
 have hv66 := k72.used _ hv66
 have hv57 := k72.used _ hv57
 refine Zas ?_
 refine ZaB (b := b61) (o := 0) (u := .agg [vI y, vI t, c44_0, c44_1, c44_2, c44_3]) (cs' := [vI y, vI t, c44_0, c44_1, c44_2, c44_3]) rfl rfl hb65 Zd9 (by obtain ⟨_, rfl, _⟩ := z48 <;> obtain ⟨_, rfl, _⟩ := z49 <;> obtain ⟨_, rfl, _⟩ := z50 <;> obtain ⟨_, rfl, _⟩ := z51 <;> rfl) rfl fun υ73 hb65 k74 => ?_
 refine ⟨fun q => (by cases q), ?_⟩
 have hb5 := k74.keep _ _ (Ne.symm ne68) hb5
 have hv6 := k74.used _ hv6
 have hb12 := k74.keep _ _ (Ne.symm ne69) hb12
 have hv13 := k74.used _ hv13
 have hb56 := k74.keep _ _ (Ne.symm ne70) hb56
 have hv57 := k74.used _ hv57
 have hv66 := k74.used _ hv66
 refine ZbI (kp5 2 3 4 7 8 ?_)
 clear he e
 intro e he
 refine Zab ?_
 have hB75 := (hB36.ext (But.ext (But.ext ((hX47.trans hX58).trans hX67) (fun g hg => by rw [hg]; exact hX47.noneOf hn54) k72) (fun g hg => by rw [hg]; exact (hX47.trans hX58).noneOf hn63) k74))
 have hC76 := (hC38.ext (But.ext (But.ext ((hX47.trans hX58).trans hX67) (fun g hg => by rw [hg]; exact hX47.noneOf hn54) k72) (fun g hg => by rw [hg]; exact (hX47.trans hX58).noneOf hn63) k74))
 have hM77 := (hC46.ext (But.ext (But.ext (hX58.trans hX67) (fun g hg => by rw [hg]; exact hn54) k72) (fun g hg => by rw [hg]; exact hX58.noneOf hn63) k74))
 have hX78 := (But.ext (But.ext ((((((hX7.trans hX14).trans hX29).trans hX39).trans hX47).trans hX58).trans hX67) (fun g hg => by rw [hg]; exact ((((hX7.trans hX14).trans hX29).trans hX39).trans hX47).noneOf hn54) k72) (fun g hg => by rw [hg]; exact (((((hX7.trans hX14).trans hX29).trans hX39).trans hX47).trans hX58).noneOf hn63) k74)
 refine Zbt ?_
 refine ⟨[0, 3, 1, 4, 2, 5, 6, 7, 8, 10, 9, 11, 12, 13], [[], [0], [0, 1], [], [3], [0, 1, 2, 3, 4], [0, 1, 2, 3, 4, 5], [0, 1, 2, 3, 4, 5, 6], [0, 1, 2, 3, 4, 5, 6, 7], [0, 1, 2, 3, 4, 5, 6, 7, 8], [0, 1, 2, 3, 4, 5, 6, 7], [0, 1, 2, 3, 4, 5, 6, 7, 8, 9, 10], [0, 1, 2, 3, 4, 5, 6, 7, 8, 9, 10, 11], [0, 1, 2, 3, 4, 5, 6, 7, 8, 9, 10, 11, 12]], fun _ => True, [4, 10], [2, 9], [], by kernel_rfl, ?_⟩
 refine Zas ?_
 refine Zae (b := b61) (o := 0) he.2.2.2.2 Zdp rfl ?_
 refine Zaz ?_
 refine Zas ?_
 refine Zae (b := b8) (o := 0) he.2.2.1 Zdp rfl ?_
 refine Zaz ?_
 refine Zas ?_
 refine Zah (b := b61) (o := 0 + 2) (r := .agg [c44_0, c44_1, c44_2, c44_3]) rfl hb65 fa7 Zdb rfl ?_
 refine Zaz ?_
 refine Zas ?_
 refine Zah (b := b8) (o := 0 + 2) (r := .agg [d0, d1, d2, d3]) rfl hb12 fa7 Zdb rfl ?_
 refine Zaz ?_
 refine Zas ?_
 refine Zay (vs := [.agg [c44_0, c44_1, c44_2, c44_3]]) (by simp only [List.map_cons, List.map_nil, EV,Nat.reduceEqDiff,↓reduceIte,he];try rfl) ?_
 refine Zfb h5 hM77.at_ (fun l hl => Nat.le_trans (sm l hl) (by decide)) fun τ79 hX80 => ?_
 refine ⟨fun _ => hX80, ?_⟩
 have hb5 := hX80.keep _ _ hb5
 have hv6 := hX80.used _ hv6
 have hb12 := hX80.keep _ _ hb12
 have hv13 := hX80.used _ hv13
 have hb56 := hX80.keep _ _ hb56
 have hv57 := hX80.used _ hv57
 have hb65 := hX80.keep _ _ hb65
 have hv66 := hX80.used _ hv66
 refine Zas ?_
 refine Zay (vs := [.agg [d0, d1, d2, d3]]) (by simp only [List.map_cons, List.map_nil, EV,Nat.reduceEqDiff,↓reduceIte,he];try rfl) ?_
 refine Zew h5 (hd _) (fun l hl => Nat.le_trans (sm l hl) (by decide)) fun τ81 hX82 => ?_
 refine ⟨fun q => (by cases q), ?_⟩
 have hb5 := hX82.keep _ _ hb5
 have hv6 := hX82.used _ hv6
 have hb12 := hX82.keep _ _ hb12
 have hv13 := hX82.used _ hv13
 have hb56 := hX82.keep _ _ hb56
 have hv57 := hX82.used _ hv57
 have hb65 := hX82.keep _ _ hb65
 have hv66 := hX82.used _ hv66
 refine Zas ?_
 refine Zo0 (a := Zd1 ms) (b := Zd1 ms) ZoT rfl rfl ?_
 refine Zaz ?_
 rw [show decide ((Zd1 ms) ≠ (Zd1 ms)) = false by simp]
 refine Zax ?_
 refine Zas ?_
 refine Zah (b := b52) (o := 0) (r := .agg [vI x, (kV k), u33, c34_0, c34_1, c34_2, c34_3]) he.2.2.2.1 hb56 fa8 ZbZ rfl ?_
 refine Zaz ?_
 refine Zas ?_
 refine Zah (b := b1) (o := 0) (r := .agg [vI x, (kV k), v, a0, a1, a2, a3]) he.2.1 hb5 fa8 ZbZ rfl ?_
 refine Zaz ?_
 refine Zas ?_
 refine Zay (vs := [.agg [vI x, (kV k), u33, c34_0, c34_1, c34_2, c34_3]]) (by simp only [List.map_cons, List.map_nil, EV,Nat.reduceEqDiff,↓reduceIte,he];try rfl) ?_
 refine Zf2 (.inl ((hB75.ext (hX80.trans hX82)).hd (Zb1 _))) h4 (hC76.ext (hX80.trans hX82)).at_ (fun l hl => Nat.le_trans (sl l hl) (by decide)) fun τ83 hX84 => ?_
 refine ⟨fun _ => hX84, ?_⟩
 have hb5 := hX84.keep _ _ hb5
 have hv6 := hX84.used _ hv6
 have hb12 := hX84.keep _ _ hb12
 have hv13 := hX84.used _ hv13
 have hb56 := hX84.keep _ _ hb56
 have hv57 := hX84.used _ hv57
 have hb65 := hX84.keep _ _ hb65
 have hv66 := hX84.used _ hv66
 refine Zas ?_
 refine Zay (vs := [.agg [vI x, (kV k), v, a0, a1, a2, a3]]) (by simp only [List.map_cons, List.map_nil, EV,Nat.reduceEqDiff,↓reduceIte,he];try rfl) ?_
 refine Zfd (hv _) h4 (hc _) (fun l hl => Nat.le_trans (sl l hl) (by decide)) fun τ85 hX86 => ?_
 refine ⟨fun q => (by cases q), ?_⟩
 have hb5 := hX86.keep _ _ hb5
 have hv6 := hX86.used _ hv6
 have hb12 := hX86.keep _ _ hb12
 have hv13 := hX86.used _ hv13
 have hb56 := hX86.keep _ _ hb56
 have hv57 := hX86.used _ hv57
 have hb65 := hX86.keep _ _ hb65
 have hv66 := hX86.used _ hv66
 refine Zas ?_
 refine Zo0 (a := Za8 x k c ls) (b := Za8 x k c ls) ZoT rfl rfl ?_
 refine Zaz ?_
 rw [show decide ((Za8 x k c ls) ≠ (Za8 x k c ls)) = false by simp]
 refine Zas ?_
 refine Zak (v := vT false) rfl rfl ?_
 refine Zaz ?_
 refine ZbI (kp6 2 3 4 7 8 58 ?_)
 clear he e
 intro e he
 refine ZaC (t := false) he.2.2.2.2.2 (fun ht => by cases ht) (fun ht => ?_)
 refine ZaL (Zab (ZkU (fun e τ => ∃ (g : Bool), (e 2 = w /\ e 3 = ptr b1 0 /\ e 4 = ptr b8 0 /\ e 7 = ptr b52 0 /\ e 8 = ptr b61 0 /\ e 64 = vT g) /\ (g = true -> Za8 x k c ls = true /\ Zbl y t ms = true) /\ Ext τ85 τ) ?_ ?_))
 ·refine Zad ?_
  refine Zac (Zah (b := b1) (o := 0) (r := .agg [vI x, (kV k), v, a0, a1, a2, a3]) he.2.1 hb5 fa8 ZbZ rfl ?_)
  refine Zao [.agg [vI x, (kV k), v, a0, a1, a2, a3]] ?_
  refine Zfd (hv _) h4 (hc _) (fun l hl => Nat.le_trans (sl l hl) (by decide)) fun τ87 hX88 => ?_
  have hb5 := hX88.keep _ _ hb5
  have hv6 := hX88.used _ hv6
  have hb12 := hX88.keep _ _ hb12
  have hv13 := hX88.used _ hv13
  have hb56 := hX88.keep _ _ hb56
  have hv57 := hX88.used _ hv57
  have hb65 := hX88.keep _ _ hb65
  have hv66 := hX88.used _ hv66
  refine Zag ?_
  cases hg89 : Za8 x k c ls with
  | false =>
   have bhg89 := hg89
   refine Zal ?_
   refine Zal ?_
   refine Zac (Zak (v := vT false) rfl rfl ?_)
   refine Zaf ?_
   show ∃ _, _
   exact ⟨false, ⟨by simp only [EV,Nat.reduceEqDiff,↓reduceIte,he];try rfl, by simp only [EV,Nat.reduceEqDiff,↓reduceIte,he];try rfl, by simp only [EV,Nat.reduceEqDiff,↓reduceIte,he];try rfl, by simp only [EV,Nat.reduceEqDiff,↓reduceIte,he];try rfl, by simp only [EV,Nat.reduceEqDiff,↓reduceIte,he];try rfl, by simp only [EV,Nat.reduceEqDiff,↓reduceIte,he];try rfl⟩, (fun q => by cases q), hX88⟩
  | true =>
   have bhg89 := hg89
   refine Zau ?_
   refine Zah (b := b8) (o := 0) (r := .agg [vI y, vI t, d0, d1, d2, d3]) he.2.2.1 hb12 ZfQ Zd9 rfl ?_
   refine Zau ?_
   refine Zay (vs := [.agg [vI y, vI t, d0, d1, d2, d3]]) (by simp only [List.map_cons, List.map_nil, EV,Nat.reduceEqDiff,↓reduceIte,he];try rfl) ?_
   refine ZhT h5 (hd _) (fun l hl => Nat.le_trans (sm l hl) (by decide)) fun τ90 hX91 => ?_
   have hb5 := hX91.keep _ _ hb5
   have hv6 := hX91.used _ hv6
   have hb12 := hX91.keep _ _ hb12
   have hv13 := hX91.used _ hv13
   have hb56 := hX91.keep _ _ hb56
   have hv57 := hX91.used _ hv57
   have hb65 := hX91.keep _ _ hb65
   have hv66 := hX91.used _ hv66
   refine Zac (Zaj (v := vT (Zbl y t ms)) rfl rfl ?_)
   refine Zaf ?_
   show ∃ _, _
   exact ⟨Zbl y t ms, ⟨by simp only [EV,Nat.reduceEqDiff,↓reduceIte,he];try rfl, by simp only [EV,Nat.reduceEqDiff,↓reduceIte,he];try rfl, by simp only [EV,Nat.reduceEqDiff,↓reduceIte,he];try rfl, by simp only [EV,Nat.reduceEqDiff,↓reduceIte,he];try rfl, by simp only [EV,Nat.reduceEqDiff,↓reduceIte,he];try rfl, by simp only [EV,Nat.reduceEqDiff,↓reduceIte,he];try rfl⟩, (fun q => ⟨by first | rfl | exact bhg89, q⟩), (hX88.trans hX91)⟩
 clear he e
 rintro e τ92 ⟨g, he, hg, hX93⟩
 have hb5 := hX93.keep _ _ hb5
 have hv6 := hX93.used _ hv6
 have hb12 := hX93.keep _ _ hb12
 have hv13 := hX93.used _ hv13
 have hb56 := hX93.keep _ _ hb56
 have hv57 := hX93.used _ hv57
 have hb65 := hX93.keep _ _ hb65
 have hv66 := hX93.used _ hv66
 refine ZkU (fun e τ => (e 2 = w /\ e 3 = ptr b1 0 /\ e 4 = ptr b8 0 /\ e 7 = ptr b52 0 /\ e 8 = ptr b61 0) /\ Ext τ92 τ) ?_ ?_
 ·refine ZaQ (t := g) he.2.2.2.2.2 (fun ht64 => ?_) (fun ht64 => ?_)
  ·have bht64 := ht64
   obtain ⟨o1, o2⟩ := hg ht64
   have o3 := ZsJ hk o1
   have o4 := ZrP o2
   refine Zbt ?_
   refine ⟨[1, 2, 5, 0, 3, 4, 6, 7, 8, 9, 10, 11, 12], [[], [], [], [1, 2], [0, 1, 2, 3], [], [0, 1, 2, 3, 4, 5], [0, 1, 2, 3, 4, 5, 6], [0, 1, 2, 3, 4, 5, 6, 7], [0, 1, 2, 3, 4, 5, 6, 7, 8], [0, 1, 2, 3, 4, 5, 6, 7, 8], [0, 1, 2, 3, 4, 5, 6, 7, 8, 9], [0, 1, 2, 3, 4, 5, 6, 7, 8, 9, 10, 11]], fun c => c = b52 \/ c = b61, [1, 2, 5], [0, 4], [3], by kernel_rfl, ?_⟩
   apply ZeP
   case hi => simp only [HIX]; try rfl
   case hw => rfl
   case how => rfl
   case hx => simp only [EV,Nat.reduceEqDiff,↓reduceIte,he];try rfl
   case hp => exact (.inl rfl)
   case hb => exact hb56
   case ha => exact fa8
   case hn => exact ZbZ
   case hr => exact (show Zbi (some true) (some 7) [vI x, (kV k), u33, c34_0, c34_1, c34_2, c34_3] (0) = some (.agg [vI x, (kV k), u33, c34_0, c34_1, c34_2, c34_3]) from rfl)
   apply ZeP
   case hi => simp only [HIX]; try rfl
   case hw => rfl
   case how => rfl
   case hx => simp only [EV,Nat.reduceEqDiff,↓reduceIte,he];try rfl
   case hp => exact (.inl rfl)
   case hb => exact hb56
   case ha => exact fa8
   case hn => exact ZbZ
   case hr => exact (show Zbi (some true) (some 7) [vI x, (kV k), u33, c34_0, c34_1, c34_2, c34_3] (0) = some (.agg [vI x, (kV k), u33, c34_0, c34_1, c34_2, c34_3]) from rfl)
   apply ZeP
   case hi => simp only [HIX]; try rfl
   case hw => rfl
   case how => rfl
   case hx => simp only [EV,Nat.reduceEqDiff,↓reduceIte,he];try rfl
   case hp => exact (.inr rfl)
   case hb => exact hb65
   case ha => exact ZfQ
   case hn => exact Zd9
   case hr => exact (show Zbi (some true) (some 6) [vI y, vI t, c44_0, c44_1, c44_2, c44_3] (0) = some (.agg [vI y, vI t, c44_0, c44_1, c44_2, c44_3]) from rfl)
   refine Za2 ?_
   refine Zay (vs := []) (by simp only [List.map_cons, List.map_nil, EV,Nat.reduceEqDiff,↓reduceIte,he];try rfl) ?_
   have l99 := hb5
   have l100 := hv6
   have l101 := hb12
   have l102 := hv13
   have l103 := hb56
   have l104 := hv57
   have l105 := hb65
   have l106 := hv66
   refine Zeq fun wb94 τ95 hW96 hN97 hX98 => ?_
   refine ⟨fun _ => hX98.keeps, ?_⟩
   have ne109 := ZbR hb56 hN97
   have ne110 := ZbR hb65 hN97
   have nn : ∀ c, c = wb94 -> τ92.blk c = none := fun c hc => by rw [hc]; exact hN97.1
   have hb5 := hX98.keep _ _ hb5
   have hv6 := hX98.used _ hv6
   have hb12 := hX98.keep _ _ hb12
   have hv13 := hX98.used _ hv13
   have hb56 := hX98.keep _ _ hb56
   have hv57 := hX98.used _ hv57
   have hb65 := hX98.keep _ _ hb65
   have hv66 := hX98.used _ hv66
   refine Zqg (vs := [.agg [vI x, (kV k), u33, c34_0, c34_1, c34_2, c34_3], .agg [vI x, (kV k), u33, c34_0, c34_1, c34_2, c34_3]]) (cells := [vI x, (kV k), u33, c34_0, c34_1, c34_2, c34_3, vI x, (kV k), u33, c34_0, c34_1, c34_2, c34_3]) (by simp only [HIX]; try rfl) rfl (by simp only [List.map_cons, List.map_nil, EV,Nat.reduceEqDiff,↓reduceIte,he];try rfl) Zeb ZbZ Zfo rfl (by omega) (by obtain ⟨_, rfl, _⟩ := hB36 <;> obtain ⟨_, rfl, _⟩ := z40 <;> obtain ⟨_, rfl, _⟩ := z41 <;> obtain ⟨_, rfl, _⟩ := z42 <;> obtain ⟨_, rfl, _⟩ := z43 <;> rfl) fun b111 hu112 hb113 => ?_
   have hX114 := Ext.put (.own 28 [vI x, (kV k), u33, c34_0, c34_1, c34_2, c34_3, vI x, (kV k), u33, c34_0, c34_1, c34_2, c34_3]) hb113
   have ne119 : b111 ≠ wb94 := fun q => hu112 (by rw [q]; exact (hW96).used _ (hW96).ws)
   have hb5 := hX114.keep _ _ hb5
   have hv6 := hX114.used _ hv6
   have hb12 := hX114.keep _ _ hb12
   have hv13 := hX114.used _ hv13
   have hb56 := hX114.keep _ _ hb56
   have hv57 := hX114.used _ hv57
   have hb65 := hX114.keep _ _ hb65
   have hv66 := hX114.used _ hv66
   refine Za2 ?_
   refine Zay (vs := [ptr wb94 0, hdr b111 2 2]) (by simp only [List.map_cons, List.map_nil, EV,Nat.reduceEqDiff,↓reduceIte,he];try rfl) ?_
   refine ZkL (es := [⟨x, k, c, ls⟩, ⟨x, k, c, ls⟩]) (Zj7 hW96 hX114) (fun τ kk => ZoW ((hB75.ext ((((hX80.trans hX82).trans hX84).trans hX86).trans hX93)).ext (But.ext (hX98.trans hX114) nn kk)) ((hC76.ext ((((hX80.trans hX82).trans hX84).trans hX86).trans hX93)).ext (But.ext (hX98.trans hX114) nn kk)) h4 ((ZhI (n := 2) (cells := [vI x, (kV k), u33, c34_0, c34_1, c34_2, c34_3, vI x, (kV k), u33, c34_0, c34_1, c34_2, c34_3]) (by omega) (by omega) rfl (Zny hB75 hC76 h4)).but kk fun c hc q => ne119 ((Zc8 hc).trans q))) (fun i h => match i, h with | 0, _ => hk | 1, _ => hk) (by rw [ZiA, List.length_append, List.length_nil]; omega) (fun e he => by rcases List.mem_cons.1 he with rfl | he; (· show ls.flatten.length <= _; omega); rw [List.mem_singleton.1 he]; show ls.flatten.length <= _; omega) (show 2 <= 10000000 by decide) fun τ120 hT121 => ?_
   obtain ⟨S122, hW123, k124, hS125⟩ := hT121
   have hX126 : Ext τ92 τ120 := But.ext (hX98.trans hX114) nn k124
   refine ⟨fun _ => k124.keeps fun c hp hc => hp.elim (fun q => ne109 (q.symm.trans hc)) fun q => ne110 (q.symm.trans hc), ?_⟩
   have nn : ∀ c, S122 c -> τ92.blk c = none := fun c hc => (hS125 c hc).elim (nn c) fun q => (Za9.of q (hX98.trans hX114)).1
   have hb5 := hX126.keep _ _ l99
   have hv6 := hX126.used _ l100
   have hb12 := hX126.keep _ _ l101
   have hv13 := hX126.used _ l102
   have hb56 := hX126.keep _ _ l103
   have hv57 := hX126.used _ l104
   have hb65 := hX126.keep _ _ l105
   have hv66 := hX126.used _ l106
   refine Za2 ?_
   refine Zay (vs := [ptr wb94 0, .agg [vI y, vI t, c44_0, c44_1, c44_2, c44_3]]) (by simp only [List.map_cons, List.map_nil, EV,Nat.reduceEqDiff,↓reduceIte,he];try rfl) ?_
   refine Zjc (x := y) (t := t) hW123 h5 (fun τ kk => ((hM77.ext ((((hX80.trans hX82).trans hX84).trans hX86).trans hX93)).ext (But.ext hX126 nn kk)).at_) (by rw [List.nil_append, ZiA, List.length_append]; omega) fun τ127 hT128 => ?_
   obtain ⟨S129, hW130, k131, hS132⟩ := hT128
   have hX133 : Ext τ92 τ127 := But.ext hX126 nn k131
   refine ⟨fun q => (by cases q), ?_⟩
   have nn : ∀ c, S129 c -> τ92.blk c = none := fun c hc => (hS132 c hc).elim (nn c) fun q => (Za9.of q hX126).1
   have hb5 := hX133.keep _ _ l99
   have hv6 := hX133.used _ l100
   have hb12 := hX133.keep _ _ l101
   have hv13 := hX133.used _ l102
   have hb56 := hX133.keep _ _ l103
   have hv57 := hX133.used _ l104
   have hb65 := hX133.keep _ _ l105
   have hv66 := hX133.used _ l106
   refine Za2 ?_
   refine Zay (vs := [ptr wb94 0]) (by simp only [List.map_cons, List.map_nil, EV,Nat.reduceEqDiff,↓reduceIte,he];try rfl) ?_
   refine Zil hW130 (by rw [List.length_append, List.nil_append, ZiA, List.length_append]; omega) (fun q => by rw [ZqF o3, o4] at q; cases q) fun _ a134 τ135 hH136 hX137 hN138 => ?_
   refine ⟨fun q => (by cases q), ?_⟩
   have hb5 := hX137.keep _ _ hb5
   have hv6 := hX137.used _ hv6
   have hb12 := hX137.keep _ _ hb12
   have hv13 := hX137.used _ hv13
   have hb56 := hX137.keep _ _ hb56
   have hv57 := hX137.used _ hv57
   have hb65 := hX137.keep _ _ hb65
   have hv66 := hX137.used _ hv66
   refine ZcT ?_
   refine Za2 ?_
   refine Zaw (l := [a134, vI 0]) (r := a134) rfl rfl ?_
   refine Zb5 ?_
   refine Za2 ?_
   refine Zaw (l := [a134, vI 0]) (r := vI 0) rfl rfl ?_
   refine Zb5 ?_
   refine ZcT ?_
   refine ZcT ?_
   refine Zfr (kp7 2 3 4 7 8 9 10 ?_)
   clear he e
   intro e he
   refine Zaa (Zac (Zah (b := b1) (o := 0) (r := .agg [vI x, (kV k), v, a0, a1, a2, a3]) he.2.1 hb5 fa8 ZbZ rfl ?_))
   refine Zao [.agg [vI x, (kV k), v, a0, a1, a2, a3]] ?_
   refine Zjh (hv _) h4 (hc _) hk sl (by omega) fun a139 τ140 ob141 => ?_
   have hb5 := ob141.ext.keep _ _ hb5
   have hv6 := ob141.ext.used _ hv6
   have hb12 := ob141.ext.keep _ _ hb12
   have hv13 := ob141.ext.used _ hv13
   have hb56 := ob141.ext.keep _ _ hb56
   have hv57 := ob141.ext.used _ hv57
   have hb65 := ob141.ext.keep _ _ hb65
   have hv66 := ob141.ext.used _ hv66
   refine Zag ?_
   refine Zaf (kp8 2 3 4 7 8 9 10 11 ?_)
   clear he e
   intro e he
   have l142 := hb5
   have l143 := hv6
   have l144 := hb12
   have l145 := hv13
   have l146 := hb56
   have l147 := hv57
   have l148 := hb65
   have l149 := hv66
   refine Zbt ?_
   refine ⟨[1, 3, 5, 0, 2, 4, 6, 7, 8], [[], [], [0, 1], [], [0, 1, 2, 3], [], [0, 1, 2, 3, 4, 5], [0, 1, 2, 3, 4, 5, 6], [0, 1, 2, 3, 4, 5, 6, 7]], fun c => c = b8, [5], [2, 4], [0], by kernel_rfl, ?_⟩
   refine ZcT ?_
   refine ZcT ?_
   apply ZeP
   case hi => simp only [HIX]; try rfl
   case hw => rfl
   case how => rfl
   case hx => simp only [EV,Nat.reduceEqDiff,↓reduceIte,he];try rfl
   case hp => exact rfl
   case hb => exact hb12
   case ha => exact ZfQ
   case hn => exact Zd9
   case hr => exact (show Zbi (some true) (some 6) [vI y, vI t, d0, d1, d2, d3] (0) = some (.agg [vI y, vI t, d0, d1, d2, d3]) from rfl)
   refine Zqg (vs := []) (cells := []) (by simp only [HIX]; try rfl) rfl (by simp only [List.map_cons, List.map_nil, EV,Nat.reduceEqDiff,↓reduceIte,he];try rfl) Zbw Zcn ZeO rfl (by omega) rfl fun b150 hu151 hb152 => ?_
   have hX153 := Ext.put (.own 5 []) hb152
   have ob154 : OB τ140 _ (hdr b150 0 0) [] := ⟨Zrk _, hX153, fun c q => by cases q⟩
   have hb5 := hX153.keep _ _ hb5
   have hv6 := hX153.used _ hv6
   have hb12 := hX153.keep _ _ hb12
   have hv13 := hX153.used _ hv13
   have hb56 := hX153.keep _ _ hb56
   have hv57 := hX153.used _ hv57
   have hb65 := hX153.keep _ _ hb65
   have hv66 := hX153.used _ hv66
   refine Za2 ?_
   refine Ze8 (d2 := ZhB ⟨x, k, c, ls⟩) ob154 (((ob141.on hX153)).hd.src (by omega)) (by (try simp only [List.length_append, List.length_nil]); omega) rfl rfl Zbw Zcn ZeO ZgQ rfl fun a155 τ156 ob157 k158 => ?_
   refine ⟨fun _ => k158.keeps fun c hp hc => by subst hp; exact (ob154.nw _ hc).2 l145, ?_⟩
   have hb5 := ob157.ext.keep _ _ l142
   have hv6 := ob157.ext.used _ l143
   have hb12 := ob157.ext.keep _ _ l144
   have hv13 := ob157.ext.used _ l145
   have hb56 := ob157.ext.keep _ _ l146
   have hv57 := ob157.ext.used _ l147
   have hb65 := ob157.ext.keep _ _ l148
   have hv66 := ob157.ext.used _ l149
   refine Za2 ?_
   refine Ze8 (d2 := ZhB ⟨x, k, c, ls⟩) ob157 (((ob141.on ob157.ext)).hd.src (by omega)) (by (try simp only [List.length_append, List.length_nil]); omega) rfl rfl Zbw Zcn ZeO ZgQ rfl fun a159 τ160 ob161 k162 => ?_
   refine ⟨fun _ => k162.keeps fun c hp hc => by subst hp; exact (ob157.nw _ hc).2 l145, ?_⟩
   have hb5 := ob161.ext.keep _ _ l142
   have hv6 := ob161.ext.used _ l143
   have hb12 := ob161.ext.keep _ _ l144
   have hv13 := ob161.ext.used _ l145
   have hb56 := ob161.ext.keep _ _ l146
   have hv57 := ob161.ext.used _ l147
   have hb65 := ob161.ext.keep _ _ l148
   have hv66 := ob161.ext.used _ l149
   refine Za2 ?_
   refine Zay (vs := [.agg [vI y, vI t, d0, d1, d2, d3]]) (by simp only [List.map_cons, List.map_nil, EV,Nat.reduceEqDiff,↓reduceIte,he];try rfl) ?_
   refine Zm5 (x := y) (t := t) h5 (hd _) sm (by omega) fun a163 τ164 h165 hX166 hn167 => ?_
   have ob168 : OB _ τ164 a163 (Zg8 y t ms) := ⟨h165, hX166, hn167⟩
   refine ⟨fun q => (by cases q), ?_⟩
   have hb5 := hX166.keep _ _ hb5
   have hv6 := hX166.used _ hv6
   have hb12 := hX166.keep _ _ hb12
   have hv13 := hX166.used _ hv13
   have hb56 := hX166.keep _ _ hb56
   have hv57 := hX166.used _ hv57
   have hb65 := hX166.keep _ _ hb65
   have hv66 := hX166.used _ hv66
   refine Za2 ?_
   refine Ze8 (d2 := Zg8 y t ms) (ob161.on hX166) ((ob168).hd.src (by omega)) (by (try simp only [List.length_append, List.length_nil]); omega) rfl rfl Zbw Zcn ZeO ZgQ rfl fun a169 τ170 ob171 k172 => ?_
   refine ⟨fun q => (by cases q), ?_⟩
   have hb5 := ob171.ext.keep _ _ l142
   have hv6 := ob171.ext.used _ l143
   have hb12 := ob171.ext.keep _ _ l144
   have hv13 := ob171.ext.used _ l145
   have hb56 := ob171.ext.keep _ _ l146
   have hv57 := ob171.ext.used _ l147
   have hb65 := ob171.ext.keep _ _ l148
   have hv66 := ob171.ext.used _ l149
   refine ZcT ?_
   refine Zfr (kp8 2 3 4 7 8 9 10 12 ?_)
   clear he e
   intro e he
   refine Zaa (Zag ?_)
   refine Zac (Zdo (k := .i64) (a := 0) (b := 0) rfl rfl ?_)
   rw [decide_eq_false (by decide : ¬ (0 : Int) ≠ 0)]
   refine Zag ?_
   refine Zau ?_
   refine Zcb rfl he.2.2.2.2.2.1 ?_
   refine Zau ?_
   refine Zcb rfl he.2.2.2.2.2.2.2 ?_
   refine Zau ?_
   refine Zay (vs := [a134, a169]) (by simp only [List.map_cons, List.map_nil, EV,Nat.reduceEqDiff,↓reduceIte,he];try rfl) ?_
   refine Zkw (d1 := (([] ++ esB [⟨x, k, c, ls⟩, ⟨x, k, c, ls⟩]) ++ Zg8 y t ms)) (d2 := [] ++ (ZhB ⟨x, k, c, ls⟩) ++ (ZhB ⟨x, k, c, ls⟩) ++ (Zg8 y t ms)) (.inl (hH136.ext (ob141.ext.trans ob171.ext))) (.inl ob171.hd) (by rw [List.length_append, List.nil_append, ZiA, List.length_append]; omega) (by simp only [List.length_append, List.length_nil]; omega) _ fun τ173 hX174 => ?_
   have hb5 := hX174.keep _ _ hb5
   have hv6 := hX174.used _ hv6
   have hb12 := hX174.keep _ _ hb12
   have hv13 := hX174.used _ hv13
   have hb56 := hX174.keep _ _ hb56
   have hv57 := hX174.used _ hv57
   have hb65 := hX174.keep _ _ hb65
   have hv66 := hX174.used _ hv66
   rw [decide_eq_true (show (([] ++ esB [⟨x, k, c, ls⟩, ⟨x, k, c, ls⟩]) ++ Zg8 y t ms) = [] ++ (ZhB ⟨x, k, c, ls⟩) ++ (ZhB ⟨x, k, c, ls⟩) ++ (Zg8 y t ms) by simp [esB])]
   refine Zau ?_
   refine ZcR (b := true) rfl ?_
   refine Zac (Zak (v := vT (!true)) rfl rfl ?_)
   refine Zaf (kp6 2 3 4 7 8 93 ?_)
   clear he e
   intro e he
   refine ZaQ (t := false) he.2.2.2.2.2 (fun ht => by cases ht) (fun ht => ?_)
   refine Zbm ?_
   show _ /\ _
   exact ⟨⟨by simp only [EV,Nat.reduceEqDiff,↓reduceIte,he];try rfl, by simp only [EV,Nat.reduceEqDiff,↓reduceIte,he];try rfl, by simp only [EV,Nat.reduceEqDiff,↓reduceIte,he];try rfl, by simp only [EV,Nat.reduceEqDiff,↓reduceIte,he];try rfl, by simp only [EV,Nat.reduceEqDiff,↓reduceIte,he];try rfl⟩, ((((hX133.trans hX137).trans ob141.ext).trans ob171.ext).trans hX174)⟩
  have bht64 := ht64
  refine Zbm ?_
  show _ /\ _
  exact ⟨⟨by simp only [EV,Nat.reduceEqDiff,↓reduceIte,he];try rfl, by simp only [EV,Nat.reduceEqDiff,↓reduceIte,he];try rfl, by simp only [EV,Nat.reduceEqDiff,↓reduceIte,he];try rfl, by simp only [EV,Nat.reduceEqDiff,↓reduceIte,he];try rfl, by simp only [EV,Nat.reduceEqDiff,↓reduceIte,he];try rfl⟩, (.refl _)⟩
 clear he e
 rintro e τ175 ⟨he, hX176⟩
 have hb5 := hX176.keep _ _ hb5
 have hv6 := hX176.used _ hv6
 have hb12 := hX176.keep _ _ hb12
 have hv13 := hX176.used _ hv13
 have hb56 := hX176.keep _ _ hb56
 have hv57 := hX176.used _ hv57
 have hb65 := hX176.keep _ _ hb65
 have hv66 := hX176.used _ hv66
 have hB177 := (hB75.ext (((((hX80.trans hX82).trans hX84).trans hX86).trans hX93).trans hX176))
 have hC178 := (hC76.ext (((((hX80.trans hX82).trans hX84).trans hX86).trans hX93).trans hX176))
 have hM179 := (hM77.ext (((((hX80.trans hX82).trans hX84).trans hX86).trans hX93).trans hX176))
 have hX180 := ((((((hX78.trans hX80).trans hX82).trans hX84).trans hX86).trans hX93).trans hX176)
 refine Zaa (Zag ?_)
 refine Zao [w] ?_
 refine Zdy hw.at_ bl fun rb181 τ182 hQ183 hN184 hX185 => ?_
 have ne186 := ZbR hb5 hN184
 have ne187 := ZbR hb12 hN184
 have ne188 := ZbR hb56 hN184
 have ne189 := ZbR hb65 hN184
 have hb5 := hX185.keep _ _ hb5
 have hv6 := hX185.used _ hv6
 have hb12 := hX185.keep _ _ hb12
 have hv13 := hX185.used _ hv13
 have hb56 := hX185.keep _ _ hb56
 have hv57 := hX185.used _ hv57
 have hb65 := hX185.keep _ _ hb65
 have hv66 := hX185.used _ hv66
 refine Zag ?_
 refine Zao [w] ?_
 refine Zdy hw.at_ bl fun rb190 τ191 hQ192 hN193 hX194 => ?_
 have ne195 := ZbR hb5 hN193
 have ne196 := ZbR hb12 hN193
 have ne197 := ZbR hb56 hN193
 have ne198 := ZbR hb65 hN193
 have ne199 : rb181 ≠ rb190 := fun q => by obtain ⟨_, h1, _⟩ := hQ183.ex; rw [q, hN193.1] at h1; cases h1
 have hb5 := hX194.keep _ _ hb5
 have hv6 := hX194.used _ hv6
 have hb12 := hX194.keep _ _ hb12
 have hv13 := hX194.used _ hv13
 have hb56 := hX194.keep _ _ hb56
 have hv57 := hX194.used _ hv57
 have hb65 := hX194.keep _ _ hb65
 have hv66 := hX194.used _ hv66
 have hQ183 := hQ183.ext hX194
 refine Zag ?_
 refine Zag ?_
 refine Zaf (kp7 2 3 4 7 8 13 14 ?_)
 clear he e
 intro e he
 refine Zaa (Zag ?_)
 refine Zac (Zbj (vs := [w]) (cells := [w, vT false]) (by simp only [List.map_cons, List.map_nil, EV,Nat.reduceEqDiff,↓reduceIte,he];try rfl) Znv Znw (by obtain ⟨_, _, _, rfl, _⟩ := hw <;> rfl) ?_)
 refine Zac (Zbn (cs := [w, vT false]) (v := .agg [w, vT false]) rfl rfl fun b200 υ201 hn202 hu203 hb204 hv205 hX206 => ?_)
 have ne207 := Zat hb5 hn202
 have ne208 := Zat hb12 hn202
 have ne209 := Zat hb56 hn202
 have ne210 := Zat hb65 hn202
 have ne211 : b200 ≠ rb181 := fun q => by obtain ⟨_, h1, _⟩ := hQ183.ex; rw [q, h1] at hn202; cases hn202
 have ne212 : b200 ≠ rb190 := fun q => by obtain ⟨_, h1, _⟩ := hQ192.ex; rw [q, h1] at hn202; cases hn202
 have hb5 := hX206.keep _ _ hb5
 have hv6 := hX206.used _ hv6
 have hb12 := hX206.keep _ _ hb12
 have hv13 := hX206.used _ hv13
 have hb56 := hX206.keep _ _ hb56
 have hv57 := hX206.used _ hv57
 have hb65 := hX206.keep _ _ hb65
 have hv66 := hX206.used _ hv66
 have hQ183 := hQ183.ext hX206
 have hQ192 := hQ192.ext hX206
 refine Zag ?_
 refine Zac (Zbj (vs := [w]) (cells := [w, vT false]) (by simp only [List.map_cons, List.map_nil, EV,Nat.reduceEqDiff,↓reduceIte,he];try rfl) Znv Znw (by obtain ⟨_, _, _, rfl, _⟩ := hw <;> rfl) ?_)
 refine Zac (Zbn (cs := [w, vT false]) (v := .agg [w, vT false]) rfl rfl fun b213 υ214 hn215 hu216 hb217 hv218 hX219 => ?_)
 have ne220 := Zat hb5 hn215
 have ne221 := Zat hb12 hn215
 have ne222 := Zat hb56 hn215
 have ne223 := Zat hb65 hn215
 have ne224 := Zat hb204 hn215
 have ne225 : b213 ≠ rb181 := fun q => by obtain ⟨_, h1, _⟩ := hQ183.ex; rw [q, h1] at hn215; cases hn215
 have ne226 : b213 ≠ rb190 := fun q => by obtain ⟨_, h1, _⟩ := hQ192.ex; rw [q, h1] at hn215; cases hn215
 have hb5 := hX219.keep _ _ hb5
 have hv6 := hX219.used _ hv6
 have hb12 := hX219.keep _ _ hb12
 have hv13 := hX219.used _ hv13
 have hb56 := hX219.keep _ _ hb56
 have hv57 := hX219.used _ hv57
 have hb65 := hX219.keep _ _ hb65
 have hv66 := hX219.used _ hv66
 have hb204 := hX219.keep _ _ hb204
 have hv205 := hX219.used _ hv205
 have hQ183 := hQ183.ext hX219
 have hQ192 := hQ192.ext hX219
 refine Zag ?_
 refine Zag ?_
 refine Zaf ?_
 have hD227 : ZfJ _ b200 (some bs) := ⟨⟨w, hb204, hw⟩, hv205⟩
 have hD228 : ZfJ _ b213 (some bs) := ⟨⟨w, hb217, hw⟩, hv218⟩
 obtain ⟨E, hE9⟩ : ∃ E, Zbs (some bs) = E := ⟨_, rfl⟩
 obtain ⟨F, hF9⟩ : ∃ F, Zcg (some bs) = F := ⟨_, rfl⟩
 have m1 := @entS_most (some bs)
 have m2 := @baseS_most (some bs)
 have m3 := @entS_len (some bs)
 rw [hE9] at m1 m3
 rw [hF9] at m2
 refine kp8 3 4 7 8 13 14 15 16 ?_
 clear he e
 intro e he
 have hn229 := hX185.noneOf hN193.1
 have hn230 := (hX185.trans hX194).noneOf hn202
 have hn231 := ((hX185.trans hX194).trans hX206).noneOf hn215
 have hY232 := (((hX185.trans hX194).trans hX206).trans hX219)
 refine Zaa (Zag ?_)
 refine Zao [ptr rb181 0] ?_
 refine ZeK hQ183 bl fun cs233 τ234 hT235 hR236 k237 => ?_
 rw [hE9] at hT235 hR236 ⊢
 have hb5 := k237.keep _ _ ne186 hb5
 have hv6 := k237.used _ hv6
 have hb12 := k237.keep _ _ ne187 hb12
 have hv13 := k237.used _ hv13
 have hb56 := k237.keep _ _ ne188 hb56
 have hv57 := k237.used _ hv57
 have hb65 := k237.keep _ _ ne189 hb65
 have hv66 := k237.used _ hv66
 have hQ192 := hQ192.but k237 (Ne.symm ne199)
 have hD227 := hD227.but k237 ne211
 have hD228 := hD228.but k237 ne225
 obtain ⟨u239, c238_0, c238_1, c238_2, c238_3, rfl, hu240, hC241⟩ := hT235
 obtain ⟨_, _, _, _, _, zc238_0, zc238_1, zc238_2, zc238_3⟩ := hC241.tis
 refine Zag ?_
 refine Zac (Zaw (l := [.agg [vI E.e.x, (kV E.e.k), u239, c238_0, c238_1, c238_2, c238_3], vT E.ok]) (r := .agg [vI E.e.x, (kV E.e.k), u239, c238_0, c238_1, c238_2, c238_3]) rfl rfl ?_)
 refine Zac (Zaw (l := [.agg [vI E.e.x, (kV E.e.k), u239, c238_0, c238_1, c238_2, c238_3], vT E.ok]) (r := vT E.ok) rfl rfl ?_)
 refine Zac (ZaH (cs := [vI 0, .raw (.int .u8 0), .lst none 0 0 [], .lst none 0 0 [], .lst none 0 0 [], .lst none 0 0 [], .lst none 0 0 []]) Zfo rfl fun b242 υ243 hn244 hu245 hb246 hv247 hX248 => ?_)
 have ne249 := Zat hb5 hn244
 have ne250 := Zat hb12 hn244
 have ne251 := Zat hb56 hn244
 have ne252 := Zat hb65 hn244
 have ne253 : b242 ≠ rb181 := fun q => by obtain ⟨_, h1, _⟩ := hR236.ex; rw [q, h1] at hn244; cases hn244
 have ne254 : b242 ≠ rb190 := fun q => by obtain ⟨_, h1, _⟩ := hQ192.ex; rw [q, h1] at hn244; cases hn244
 have ne255 : b242 ≠ b200 := fun q => by obtain ⟨_, h1, _⟩ := hD227.ex; rw [q, h1] at hn244; cases hn244
 have ne256 : b242 ≠ b213 := fun q => by obtain ⟨_, h1, _⟩ := hD228.ex; rw [q, h1] at hn244; cases hn244
 have hb5 := hX248.keep _ _ hb5
 have hv6 := hX248.used _ hv6
 have hb12 := hX248.keep _ _ hb12
 have hv13 := hX248.used _ hv13
 have hb56 := hX248.keep _ _ hb56
 have hv57 := hX248.used _ hv57
 have hb65 := hX248.keep _ _ hb65
 have hv66 := hX248.used _ hv66
 have hQ192 := hQ192.ext hX248
 have hD227 := hD227.ext hX248
 have hD228 := hD228.ext hX248
 have hR236 := hR236.ext hX248
 refine Zac (ZaB (b := b242) (o := 0) (u := .agg [vI E.e.x, (kV E.e.k), u239, c238_0, c238_1, c238_2, c238_3]) (cs' := [vI E.e.x, (kV E.e.k), u239, c238_0, c238_1, c238_2, c238_3]) rfl rfl hb246 ZbZ (by obtain ⟨_, _, _, rfl, _⟩ := hu240 <;> obtain ⟨_, _, rfl, _⟩ := zc238_0 <;> obtain ⟨_, _, rfl, _⟩ := zc238_1 <;> obtain ⟨_, _, rfl, _⟩ := zc238_2 <;> obtain ⟨_, _, rfl, _⟩ := zc238_3 <;> rfl) rfl fun υ257 hb246 k258 => ?_)
 have hb5 := k258.keep _ _ (Ne.symm ne249) hb5
 have hv6 := k258.used _ hv6
 have hb12 := k258.keep _ _ (Ne.symm ne250) hb12
 have hv13 := k258.used _ hv13
 have hb56 := k258.keep _ _ (Ne.symm ne251) hb56
 have hv57 := k258.used _ hv57
 have hb65 := k258.keep _ _ (Ne.symm ne252) hb65
 have hv66 := k258.used _ hv66
 have hv247 := k258.used _ hv247
 have hQ192 := hQ192.but k258 (Ne.symm ne254)
 have hD227 := hD227.but k258 (Ne.symm ne255)
 have hD228 := hD228.but k258 (Ne.symm ne256)
 have hR236 := hR236.but k258 (Ne.symm ne253)
 refine Zag ?_
 refine Zaf (Zta 3 4 7 8 13 14 15 16 17 18 ?_)
 clear he e
 intro e he
 have hY259 := (But.ext ((But.ext hY232 (fun g hg => by rw [hg]; exact hN184.1) k237).trans hX248) (fun g hg => by rw [hg]; exact (But.ext hY232 (fun g hg => by rw [hg]; exact hN184.1) k237).noneOf hn244) k258)
 refine Zaa (Zag ?_)
 refine Zao [ptr b200 0] ?_
 refine ZjU hD227 bl fun cs260 τ261 hT262 hR263 k264 => ?_
 rw [hE9] at hT262 hR263 ⊢
 have hb5 := k264.keep _ _ (Ne.symm ne207) hb5
 have hv6 := k264.used _ hv6
 have hb12 := k264.keep _ _ (Ne.symm ne208) hb12
 have hv13 := k264.used _ hv13
 have hb56 := k264.keep _ _ (Ne.symm ne209) hb56
 have hv57 := k264.used _ hv57
 have hb65 := k264.keep _ _ (Ne.symm ne210) hb65
 have hv66 := k264.used _ hv66
 have hb246 := k264.keep _ _ ne255 hb246
 have hv247 := k264.used _ hv247
 have hQ192 := hQ192.but k264 (Ne.symm ne212)
 have hD228 := hD228.but k264 ne224
 have hR236 := hR236.but k264 (Ne.symm ne211)
 obtain ⟨u266, c265_0, c265_1, c265_2, c265_3, rfl, hu267, hC268⟩ := hT262
 obtain ⟨_, _, _, _, _, zc265_0, zc265_1, zc265_2, zc265_3⟩ := hC268.tis
 refine Zag ?_
 refine Zac (Zaw (l := [.agg [vI E.e.x, (kV E.e.k), u266, c265_0, c265_1, c265_2, c265_3], vT E.ok]) (r := .agg [vI E.e.x, (kV E.e.k), u266, c265_0, c265_1, c265_2, c265_3]) rfl rfl ?_)
 refine Zac (Zaw (l := [.agg [vI E.e.x, (kV E.e.k), u266, c265_0, c265_1, c265_2, c265_3], vT E.ok]) (r := vT E.ok) rfl rfl ?_)
 refine Zac (ZaH (cs := [vI 0, .raw (.int .u8 0), .lst none 0 0 [], .lst none 0 0 [], .lst none 0 0 [], .lst none 0 0 [], .lst none 0 0 []]) Zfo rfl fun b269 υ270 hn271 hu272 hb273 hv274 hX275 => ?_)
 have ne276 := Zat hb5 hn271
 have ne277 := Zat hb12 hn271
 have ne278 := Zat hb56 hn271
 have ne279 := Zat hb65 hn271
 have ne280 := Zat hb246 hn271
 have ne281 : b269 ≠ rb181 := fun q => by obtain ⟨_, h1, _⟩ := hR236.ex; rw [q, h1] at hn271; cases hn271
 have ne282 : b269 ≠ rb190 := fun q => by obtain ⟨_, h1, _⟩ := hQ192.ex; rw [q, h1] at hn271; cases hn271
 have ne283 : b269 ≠ b200 := fun q => by obtain ⟨_, h1, _⟩ := hR263.ex; rw [q, h1] at hn271; cases hn271
 have ne284 : b269 ≠ b213 := fun q => by obtain ⟨_, h1, _⟩ := hD228.ex; rw [q, h1] at hn271; cases hn271
 have hb5 := hX275.keep _ _ hb5
 have hv6 := hX275.used _ hv6
 have hb12 := hX275.keep _ _ hb12
 have hv13 := hX275.used _ hv13
 have hb56 := hX275.keep _ _ hb56
 have hv57 := hX275.used _ hv57
 have hb65 := hX275.keep _ _ hb65
 have hv66 := hX275.used _ hv66
 have hb246 := hX275.keep _ _ hb246
 have hv247 := hX275.used _ hv247
 have hQ192 := hQ192.ext hX275
 have hD228 := hD228.ext hX275
 have hR236 := hR236.ext hX275
 have hR263 := hR263.ext hX275
 refine Zac (ZaB (b := b269) (o := 0) (u := .agg [vI E.e.x, (kV E.e.k), u266, c265_0, c265_1, c265_2, c265_3]) (cs' := [vI E.e.x, (kV E.e.k), u266, c265_0, c265_1, c265_2, c265_3]) rfl rfl hb273 ZbZ (by obtain ⟨_, _, _, rfl, _⟩ := hu267 <;> obtain ⟨_, _, rfl, _⟩ := zc265_0 <;> obtain ⟨_, _, rfl, _⟩ := zc265_1 <;> obtain ⟨_, _, rfl, _⟩ := zc265_2 <;> obtain ⟨_, _, rfl, _⟩ := zc265_3 <;> rfl) rfl fun υ285 hb273 k286 => ?_)
 have hb5 := k286.keep _ _ (Ne.symm ne276) hb5
 have hv6 := k286.used _ hv6
 have hb12 := k286.keep _ _ (Ne.symm ne277) hb12
 have hv13 := k286.used _ hv13
 have hb56 := k286.keep _ _ (Ne.symm ne278) hb56
 have hv57 := k286.used _ hv57
 have hb65 := k286.keep _ _ (Ne.symm ne279) hb65
 have hv66 := k286.used _ hv66
 have hb246 := k286.keep _ _ (Ne.symm ne280) hb246
 have hv247 := k286.used _ hv247
 have hv274 := k286.used _ hv274
 have hQ192 := hQ192.but k286 (Ne.symm ne282)
 have hD228 := hD228.but k286 (Ne.symm ne284)
 have hR236 := hR236.but k286 (Ne.symm ne281)
 have hR263 := hR263.but k286 (Ne.symm ne283)
 refine Zag ?_
 refine Zaf (Ztb 3 4 7 8 13 14 15 16 17 18 19 20 ?_)
 clear he e
 intro e he
 have hY287 := (But.ext ((But.ext hY259 (fun g hg => by rw [hg]; exact hn230) k264).trans hX275) (fun g hg => by rw [hg]; exact (But.ext hY259 (fun g hg => by rw [hg]; exact hn230) k264).noneOf hn271) k286)
 refine Zaa (Zag ?_)
 refine Zao [ptr rb190 0] ?_
 refine Zfc hQ192 fun cs288 τ289 hT290 hR291 k292 => ?_
 rw [hF9] at hT290 hR291 ⊢
 have hb5 := k292.keep _ _ ne195 hb5
 have hv6 := k292.used _ hv6
 have hb12 := k292.keep _ _ ne196 hb12
 have hv13 := k292.used _ hv13
 have hb56 := k292.keep _ _ ne197 hb56
 have hv57 := k292.used _ hv57
 have hb65 := k292.keep _ _ ne198 hb65
 have hv66 := k292.used _ hv66
 have hb246 := k292.keep _ _ ne254 hb246
 have hv247 := k292.used _ hv247
 have hb273 := k292.keep _ _ ne282 hb273
 have hv274 := k292.used _ hv274
 have hD228 := hD228.but k292 ne226
 have hR236 := hR236.but k292 ne199
 have hR263 := hR263.but k292 ne212
 obtain ⟨c293_0, c293_1, c293_2, c293_3, rfl, _⟩ := hT290.four
 obtain ⟨_, _, _, _, _, zc293_0, zc293_1, zc293_2, zc293_3⟩ := hT290.tis
 refine Zag ?_
 refine Zac (Zaw (l := [.agg [vI F.idx, vI F.term, c293_0, c293_1, c293_2, c293_3], vT F.ok]) (r := .agg [vI F.idx, vI F.term, c293_0, c293_1, c293_2, c293_3]) rfl rfl ?_)
 refine Zac (Zaw (l := [.agg [vI F.idx, vI F.term, c293_0, c293_1, c293_2, c293_3], vT F.ok]) (r := vT F.ok) rfl rfl ?_)
 refine Zac (ZaH (cs := [vI 0, vI 0, .lst none 0 0 [], .lst none 0 0 [], .lst none 0 0 [], .lst none 0 0 []]) ZlK rfl fun b294 υ295 hn296 hu297 hb298 hv299 hX300 => ?_)
 have ne301 := Zat hb5 hn296
 have ne302 := Zat hb12 hn296
 have ne303 := Zat hb56 hn296
 have ne304 := Zat hb65 hn296
 have ne305 := Zat hb246 hn296
 have ne306 := Zat hb273 hn296
 have ne307 : b294 ≠ rb181 := fun q => by obtain ⟨_, h1, _⟩ := hR236.ex; rw [q, h1] at hn296; cases hn296
 have ne308 : b294 ≠ rb190 := fun q => by obtain ⟨_, h1, _⟩ := hR291.ex; rw [q, h1] at hn296; cases hn296
 have ne309 : b294 ≠ b200 := fun q => by obtain ⟨_, h1, _⟩ := hR263.ex; rw [q, h1] at hn296; cases hn296
 have ne310 : b294 ≠ b213 := fun q => by obtain ⟨_, h1, _⟩ := hD228.ex; rw [q, h1] at hn296; cases hn296
 have hb5 := hX300.keep _ _ hb5
 have hv6 := hX300.used _ hv6
 have hb12 := hX300.keep _ _ hb12
 have hv13 := hX300.used _ hv13
 have hb56 := hX300.keep _ _ hb56
 have hv57 := hX300.used _ hv57
 have hb65 := hX300.keep _ _ hb65
 have hv66 := hX300.used _ hv66
 have hb246 := hX300.keep _ _ hb246
 have hv247 := hX300.used _ hv247
 have hb273 := hX300.keep _ _ hb273
 have hv274 := hX300.used _ hv274
 have hD228 := hD228.ext hX300
 have hR236 := hR236.ext hX300
 have hR263 := hR263.ext hX300
 have hR291 := hR291.ext hX300
 refine Zac (ZaB (b := b294) (o := 0) (u := .agg [vI F.idx, vI F.term, c293_0, c293_1, c293_2, c293_3]) (cs' := [vI F.idx, vI F.term, c293_0, c293_1, c293_2, c293_3]) rfl rfl hb298 Zd9 (by obtain ⟨_, _, rfl, _⟩ := zc293_0 <;> obtain ⟨_, _, rfl, _⟩ := zc293_1 <;> obtain ⟨_, _, rfl, _⟩ := zc293_2 <;> obtain ⟨_, _, rfl, _⟩ := zc293_3 <;> rfl) rfl fun υ311 hb298 k312 => ?_)
 have hb5 := k312.keep _ _ (Ne.symm ne301) hb5
 have hv6 := k312.used _ hv6
 have hb12 := k312.keep _ _ (Ne.symm ne302) hb12
 have hv13 := k312.used _ hv13
 have hb56 := k312.keep _ _ (Ne.symm ne303) hb56
 have hv57 := k312.used _ hv57
 have hb65 := k312.keep _ _ (Ne.symm ne304) hb65
 have hv66 := k312.used _ hv66
 have hb246 := k312.keep _ _ (Ne.symm ne305) hb246
 have hv247 := k312.used _ hv247
 have hb273 := k312.keep _ _ (Ne.symm ne306) hb273
 have hv274 := k312.used _ hv274
 have hv299 := k312.used _ hv299
 have hD228 := hD228.but k312 (Ne.symm ne310)
 have hR236 := hR236.but k312 (Ne.symm ne307)
 have hR263 := hR263.but k312 (Ne.symm ne309)
 have hR291 := hR291.but k312 (Ne.symm ne308)
 refine Zag ?_
 refine Zaf (Ztc 3 4 7 8 13 14 15 16 17 18 19 20 21 22 ?_)
 clear he e
 intro e he
 have hY313 := (But.ext ((But.ext hY287 (fun g hg => by rw [hg]; exact hn229) k292).trans hX300) (fun g hg => by rw [hg]; exact (But.ext hY287 (fun g hg => by rw [hg]; exact hn229) k292).noneOf hn296) k312)
 refine Zaa (Zag ?_)
 refine Zao [ptr b213 0] ?_
 refine Zjg hD228 fun cs314 τ315 hT316 hR317 k318 => ?_
 rw [hF9] at hT316 hR317 ⊢
 have hb5 := k318.keep _ _ (Ne.symm ne220) hb5
 have hv6 := k318.used _ hv6
 have hb12 := k318.keep _ _ (Ne.symm ne221) hb12
 have hv13 := k318.used _ hv13
 have hb56 := k318.keep _ _ (Ne.symm ne222) hb56
 have hv57 := k318.used _ hv57
 have hb65 := k318.keep _ _ (Ne.symm ne223) hb65
 have hv66 := k318.used _ hv66
 have hb246 := k318.keep _ _ ne256 hb246
 have hv247 := k318.used _ hv247
 have hb273 := k318.keep _ _ ne284 hb273
 have hv274 := k318.used _ hv274
 have hb298 := k318.keep _ _ ne310 hb298
 have hv299 := k318.used _ hv299
 have hR236 := hR236.but k318 (Ne.symm ne225)
 have hR263 := hR263.but k318 (Ne.symm ne224)
 have hR291 := hR291.but k318 (Ne.symm ne226)
 obtain ⟨c319_0, c319_1, c319_2, c319_3, rfl, _⟩ := hT316.four
 obtain ⟨_, _, _, _, _, zc319_0, zc319_1, zc319_2, zc319_3⟩ := hT316.tis
 refine Zag ?_
 refine Zac (Zaw (l := [.agg [vI F.idx, vI F.term, c319_0, c319_1, c319_2, c319_3], vT F.ok]) (r := .agg [vI F.idx, vI F.term, c319_0, c319_1, c319_2, c319_3]) rfl rfl ?_)
 refine Zac (Zaw (l := [.agg [vI F.idx, vI F.term, c319_0, c319_1, c319_2, c319_3], vT F.ok]) (r := vT F.ok) rfl rfl ?_)
 refine Zac (ZaH (cs := [vI 0, vI 0, .lst none 0 0 [], .lst none 0 0 [], .lst none 0 0 [], .lst none 0 0 []]) ZlK rfl fun b320 υ321 hn322 hu323 hb324 hv325 hX326 => ?_)
 have ne327 := Zat hb5 hn322
 have ne328 := Zat hb12 hn322
 have ne329 := Zat hb56 hn322
 have ne330 := Zat hb65 hn322
 have ne331 := Zat hb246 hn322
 have ne332 := Zat hb273 hn322
 have ne333 := Zat hb298 hn322
 have ne334 : b320 ≠ rb181 := fun q => by obtain ⟨_, h1, _⟩ := hR236.ex; rw [q, h1] at hn322; cases hn322
 have ne335 : b320 ≠ rb190 := fun q => by obtain ⟨_, h1, _⟩ := hR291.ex; rw [q, h1] at hn322; cases hn322
 have ne336 : b320 ≠ b200 := fun q => by obtain ⟨_, h1, _⟩ := hR263.ex; rw [q, h1] at hn322; cases hn322
 have ne337 : b320 ≠ b213 := fun q => by obtain ⟨_, h1, _⟩ := hR317.ex; rw [q, h1] at hn322; cases hn322
 have hb5 := hX326.keep _ _ hb5
 have hv6 := hX326.used _ hv6
 have hb12 := hX326.keep _ _ hb12
 have hv13 := hX326.used _ hv13
 have hb56 := hX326.keep _ _ hb56
 have hv57 := hX326.used _ hv57
 have hb65 := hX326.keep _ _ hb65
 have hv66 := hX326.used _ hv66
 have hb246 := hX326.keep _ _ hb246
 have hv247 := hX326.used _ hv247
 have hb273 := hX326.keep _ _ hb273
 have hv274 := hX326.used _ hv274
 have hb298 := hX326.keep _ _ hb298
 have hv299 := hX326.used _ hv299
 have hR236 := hR236.ext hX326
 have hR263 := hR263.ext hX326
 have hR291 := hR291.ext hX326
 have hR317 := hR317.ext hX326
 refine Zac (ZaB (b := b320) (o := 0) (u := .agg [vI F.idx, vI F.term, c319_0, c319_1, c319_2, c319_3]) (cs' := [vI F.idx, vI F.term, c319_0, c319_1, c319_2, c319_3]) rfl rfl hb324 Zd9 (by obtain ⟨_, _, rfl, _⟩ := zc319_0 <;> obtain ⟨_, _, rfl, _⟩ := zc319_1 <;> obtain ⟨_, _, rfl, _⟩ := zc319_2 <;> obtain ⟨_, _, rfl, _⟩ := zc319_3 <;> rfl) rfl fun υ338 hb324 k339 => ?_)
 have hb5 := k339.keep _ _ (Ne.symm ne327) hb5
 have hv6 := k339.used _ hv6
 have hb12 := k339.keep _ _ (Ne.symm ne328) hb12
 have hv13 := k339.used _ hv13
 have hb56 := k339.keep _ _ (Ne.symm ne329) hb56
 have hv57 := k339.used _ hv57
 have hb65 := k339.keep _ _ (Ne.symm ne330) hb65
 have hv66 := k339.used _ hv66
 have hb246 := k339.keep _ _ (Ne.symm ne331) hb246
 have hv247 := k339.used _ hv247
 have hb273 := k339.keep _ _ (Ne.symm ne332) hb273
 have hv274 := k339.used _ hv274
 have hb298 := k339.keep _ _ (Ne.symm ne333) hb298
 have hv299 := k339.used _ hv299
 have hv325 := k339.used _ hv325
 have hR236 := hR236.but k339 (Ne.symm ne334)
 have hR263 := hR263.but k339 (Ne.symm ne336)
 have hR291 := hR291.but k339 (Ne.symm ne335)
 have hR317 := hR317.but k339 (Ne.symm ne337)
 refine Zag ?_
 refine Zaf (Ztd 3 4 7 8 13 14 15 16 17 18 19 20 21 22 23 24 ?_)
 clear he e
 intro e he
 have hY340 := (But.ext ((But.ext hY313 (fun g hg => by rw [hg]; exact hn231) k318).trans hX326) (fun g hg => by rw [hg]; exact (But.ext hY313 (fun g hg => by rw [hg]; exact hn231) k318).noneOf hn322) k339)
 obtain ⟨vv341, hrb342, hvv343⟩ := hR263.ex
 obtain ⟨vv344, hrb345, hvv346⟩ := hR317.ex
 refine Zbt ?_
 refine ⟨[0, 1, 2, 3, 4, 5, 6, 7, 8, 9, 10, 11, 12, 13, 14, 15, 16, 17, 18, 19, 20, 21, 22, 24, 25, 26, 27, 28, 23, 29, 30, 31, 32, 33, 34, 35, 36, 38, 39, 40, 41, 42, 37, 43, 44, 45, 46, 47, 48, 49, 50, 51, 52, 53, 54, 55, 56, 57, 58, 59], [[], [], [0, 1], [0, 1, 2], [0, 1, 2, 3], [0, 1, 2, 3], [0, 1, 2, 3, 4, 5], [0, 1, 2, 3, 4, 5, 6], [0, 1, 2, 3, 4, 5, 6, 7], [0, 1, 2, 3, 4, 5, 6, 7, 8], [0, 1, 2, 3, 4, 5, 6, 7, 8], [0, 1, 2, 3, 4, 5, 6, 7, 8, 9, 10], [0, 1, 2, 3, 4, 5, 6, 7, 8, 9, 10, 11], [0, 1, 2, 3, 4, 5, 6, 7, 8, 9, 10, 11, 12], [0, 1, 2, 3, 4, 5, 6, 7, 8, 9, 10, 11, 12, 13], [0, 1, 2, 3, 4, 5, 6, 7, 8, 9, 10, 11, 12, 13], [0, 1, 2, 3, 4, 5, 6, 7, 8, 9, 10, 11, 12, 13, 14, 15], [0, 1, 2, 3, 4, 5, 6, 7, 8, 9, 10, 11, 12, 13, 14, 15, 16], [0, 1, 2, 3, 4, 5, 6, 7, 8, 9, 10, 11, 12, 13, 14, 15, 16, 17], [0, 1, 2, 3, 4, 5, 6, 7, 8, 9, 10, 11, 12, 13, 14, 15, 16, 17, 18], [0, 1, 2, 3, 4, 5, 6, 7, 8, 9, 10, 11, 12, 13, 14, 15, 16, 17, 18, 19], [0, 1, 2, 3, 4, 5, 6, 7, 8, 9, 10, 11, 12, 13, 14, 15, 16, 17, 18, 19, 20], [0, 1, 2, 3, 4, 5, 6, 7, 8, 9, 10, 11, 12, 13, 14, 15, 16, 17, 18, 19, 20, 21], [0, 1, 2, 3, 4, 5, 6, 7, 8, 9, 10, 11, 12, 13, 14, 15, 16, 17, 18, 19, 20, 21, 22], [0, 1, 2, 3, 4, 5, 6, 7, 8, 9, 10, 11, 12, 13, 14, 15, 16, 17, 18, 19, 20, 21], [0, 1, 2, 3, 4, 5, 6, 7, 8, 9, 10, 11, 12, 13, 14, 15, 16, 17, 18, 19, 20, 21, 24], [0, 1, 2, 3, 4, 5, 6, 7, 8, 9, 10, 11, 12, 13, 14, 15, 16, 17, 18, 19, 20, 21, 24, 25], [0, 1, 2, 3, 4, 5, 6, 7, 8, 9, 10, 11, 12, 13, 14, 15, 16, 17, 18, 19, 20, 21, 24, 25, 26], [0, 1, 2, 3, 4, 5, 6, 7, 8, 9, 10, 11, 12, 13, 14, 15, 16, 17, 18, 19, 20, 21, 24, 25, 26, 27], [0, 1, 2, 3, 4, 5, 6, 7, 8, 9, 10, 11, 12, 13, 14, 15, 16, 17, 18, 19, 20, 21, 22, 23, 24, 25, 26, 27, 28], [0, 1, 2, 3, 4, 5, 6, 7, 8, 9, 10, 11, 12, 13, 14, 15, 16, 17, 18, 19, 20, 21, 22, 23, 24, 25, 26, 27, 28, 29], [0, 1, 2, 3, 4, 5, 6, 7, 8, 9, 10, 11, 12, 13, 14, 15, 16, 17, 18, 19, 20, 21, 22, 23, 24, 25, 26, 27, 28, 29, 30], [0, 1, 2, 3, 4, 5, 6, 7, 8, 9, 10, 11, 12, 13, 14, 15, 16, 17, 18, 19, 20, 21, 22, 23, 24, 25, 26, 27, 28, 29, 30, 31], [0, 1, 2, 3, 4, 5, 6, 7, 8, 9, 10, 11, 12, 13, 14, 15, 16, 17, 18, 19, 20, 21, 22, 23, 24, 25, 26, 27, 28, 29, 30, 31, 32], [0, 1, 2, 3, 4, 5, 6, 7, 8, 9, 10, 11, 12, 13, 14, 15, 16, 17, 18, 19, 20, 21, 22, 23, 24, 25, 26, 27, 28, 29, 30, 31, 32, 33], [0, 1, 2, 3, 4, 5, 6, 7, 8, 9, 10, 11, 12, 13, 14, 15, 16, 17, 18, 19, 20, 21, 22, 23, 24, 25, 26, 27, 28, 29, 30, 31, 32, 33, 34], [0, 1, 2, 3, 4, 5, 6, 7, 8, 9, 10, 11, 12, 13, 14, 15, 16, 17, 18, 19, 20, 21, 22, 23, 24, 25, 26, 27, 28, 29, 30, 31, 32, 33, 34, 35], [0, 1, 2, 3, 4, 5, 6, 7, 8, 9, 10, 11, 12, 13, 14, 15, 16, 17, 18, 19, 20, 21, 22, 23, 24, 25, 26, 27, 28, 29, 30, 31, 32, 33, 34, 35, 36], [0, 1, 2, 3, 4, 5, 6, 7, 8, 9, 10, 11, 12, 13, 14, 15, 16, 17, 18, 19, 20, 21, 22, 23, 24, 25, 26, 27, 28, 29, 30, 31, 32, 33, 34, 35], [0, 1, 2, 3, 4, 5, 6, 7, 8, 9, 10, 11, 12, 13, 14, 15, 16, 17, 18, 19, 20, 21, 22, 23, 24, 25, 26, 27, 28, 29, 30, 31, 32, 33, 34, 35, 38], [0, 1, 2, 3, 4, 5, 6, 7, 8, 9, 10, 11, 12, 13, 14, 15, 16, 17, 18, 19, 20, 21, 22, 23, 24, 25, 26, 27, 28, 29, 30, 31, 32, 33, 34, 35, 38, 39], [0, 1, 2, 3, 4, 5, 6, 7, 8, 9, 10, 11, 12, 13, 14, 15, 16, 17, 18, 19, 20, 21, 22, 23, 24, 25, 26, 27, 28, 29, 30, 31, 32, 33, 34, 35, 38, 39, 40], [0, 1, 2, 3, 4, 5, 6, 7, 8, 9, 10, 11, 12, 13, 14, 15, 16, 17, 18, 19, 20, 21, 22, 23, 24, 25, 26, 27, 28, 29, 30, 31, 32, 33, 34, 35, 38, 39, 40, 41], [0, 1, 2, 3, 4, 5, 6, 7, 8, 9, 10, 11, 12, 13, 14, 15, 16, 17, 18, 19, 20, 21, 22, 23, 24, 25, 26, 27, 28, 29, 30, 31, 32, 33, 34, 35, 36, 37, 38, 39, 40, 41, 42], [0, 1, 2, 3, 4, 5, 6, 7, 8, 9, 10, 11, 12, 13, 14, 15, 16, 17, 18, 19, 20, 21, 22, 23, 24, 25, 26, 27, 28, 29, 30, 31, 32, 33, 34, 35, 36, 37, 38, 39, 40, 41, 42, 43], [0, 1, 2, 3, 4, 5, 6, 7, 8, 9, 10, 11, 12, 13, 14, 15, 16, 17, 18, 19, 20, 21, 22, 23, 24, 25, 26, 27, 28, 29, 30, 31, 32, 33, 34, 35, 36, 37, 38, 39, 40, 41, 42, 43, 44], [0, 1, 2, 3, 4, 5, 6, 7, 8, 9, 10, 11, 12, 13, 14, 15, 16, 17, 18, 19, 20, 21, 22, 23, 24, 25, 26, 27, 28, 29, 30, 31, 32, 33, 34, 35, 36, 37, 38, 39, 40, 41, 42, 43, 44, 45], [0, 1, 2, 3, 4, 5, 6, 7, 8, 9, 10, 11, 12, 13, 14, 15, 16, 17, 18, 19, 20, 21, 22, 23, 24, 25, 26, 27, 28, 29, 30, 31, 32, 33, 34, 35, 36, 37, 38, 39, 40, 41, 42, 43, 44, 45, 46], [0, 1, 2, 3, 4, 5, 6, 7, 8, 9, 10, 11, 12, 13, 14, 15, 16, 17, 18, 19, 20, 21, 22, 23, 24, 25, 26, 27, 28, 29, 30, 31, 32, 33, 34, 35, 36, 37, 38, 39, 40, 41, 42, 43, 44, 45, 46], [0, 1, 2, 3, 4, 5, 6, 7, 8, 9, 10, 11, 12, 13, 14, 15, 16, 17, 18, 19, 20, 21, 22, 23, 24, 25, 26, 27, 28, 29, 30, 31, 32, 33, 34, 35, 36, 37, 38, 39, 40, 41, 42, 43, 44, 45, 46, 47, 48], [0, 1, 2, 3, 4, 5, 6, 7, 8, 9, 10, 11, 12, 13, 14, 15, 16, 17, 18, 19, 20, 21, 22, 23, 24, 25, 26, 27, 28, 29, 30, 31, 32, 33, 34, 35, 36, 37, 38, 39, 40, 41, 42, 43, 44, 45, 46, 47, 48, 49], [0, 1, 2, 3, 4, 5, 6, 7, 8, 9, 10, 11, 12, 13, 14, 15, 16, 17, 18, 19, 20, 21, 22, 23, 24, 25, 26, 27, 28, 29, 30, 31, 32, 33, 34, 35, 36, 37, 38, 39, 40, 41, 42, 43, 44, 45, 46, 47, 48, 49, 50], [0, 1, 2, 3, 4, 5, 6, 7, 8, 9, 10, 11, 12, 13, 14, 15, 16, 17, 18, 19, 20, 21, 22, 23, 24, 25, 26, 27, 28, 29, 30, 31, 32, 33, 34, 35, 36, 37, 38, 39, 40, 41, 42, 43, 44, 45, 46, 47, 48, 49, 50, 51], [0, 1, 2, 3, 4, 5, 6, 7, 8, 9, 10, 11, 12, 13, 14, 15, 16, 17, 18, 19, 20, 21, 22, 23, 24, 25, 26, 27, 28, 29, 30, 31, 32, 33, 34, 35, 36, 37, 38, 39, 40, 41, 42, 43, 44, 45, 46, 47, 48, 49, 50, 51], [0, 1, 2, 3, 4, 5, 6, 7, 8, 9, 10, 11, 12, 13, 14, 15, 16, 17, 18, 19, 20, 21, 22, 23, 24, 25, 26, 27, 28, 29, 30, 31, 32, 33, 34, 35, 36, 37, 38, 39, 40, 41, 42, 43, 44, 45, 46, 47, 48, 49, 50, 51, 52, 53], [0, 1, 2, 3, 4, 5, 6, 7, 8, 9, 10, 11, 12, 13, 14, 15, 16, 17, 18, 19, 20, 21, 22, 23, 24, 25, 26, 27, 28, 29, 30, 31, 32, 33, 34, 35, 36, 37, 38, 39, 40, 41, 42, 43, 44, 45, 46, 47, 48, 49, 50, 51, 52, 53, 54], [0, 1, 2, 3, 4, 5, 6, 7, 8, 9, 10, 11, 12, 13, 14, 15, 16, 17, 18, 19, 20, 21, 22, 23, 24, 25, 26, 27, 28, 29, 30, 31, 32, 33, 34, 35, 36, 37, 38, 39, 40, 41, 42, 43, 44, 45, 46, 47, 48, 49, 50, 51, 52, 53, 54, 55], [0, 1, 2, 3, 4, 5, 6, 7, 8, 9, 10, 11, 12, 13, 14, 15, 16, 17, 18, 19, 20, 21, 22, 23, 24, 25, 26, 27, 28, 29, 30, 31, 32, 33, 34, 35, 36, 37, 38, 39, 40, 41, 42, 43, 44, 45, 46, 47, 48, 49, 50, 51, 52, 53, 54, 55, 56], [0, 1, 2, 3, 4, 5, 6, 7, 8, 9, 10, 11, 12, 13, 14, 15, 16, 17, 18, 19, 20, 21, 22, 23, 24, 25, 26, 27, 28, 29, 30, 31, 32, 33, 34, 35, 36, 37, 38, 39, 40, 41, 42, 43, 44, 45, 46, 47, 48, 49, 50, 51, 52, 53, 54, 55, 56, 57], [0, 1, 2, 3, 4, 5, 6, 7, 8, 9, 10, 11, 12, 13, 14, 15, 16, 17, 18, 19, 20, 21, 22, 23, 24, 25, 26, 27, 28, 29, 30, 31, 32, 33, 34, 35, 36, 37, 38, 39, 40, 41, 42, 43, 44, 45, 46, 47, 48, 49, 50, 51, 52, 53, 54, 55, 56, 57, 58]], fun _ => True, [27, 41], [23, 37], [], by kernel_rfl, ?_⟩
 refine Zax ?_
 refine Zax ?_
 refine Zas ?_
 refine ZoZ (a := E.ok) (b := E.ok) ZoT rfl rfl ?_
 refine Zaz ?_
 rw [show decide (E.ok = E.ok) = true by simp]
 refine Zax ?_
 refine Zax ?_
 refine Zax ?_
 refine Zas ?_
 refine ZoZ (a := F.ok) (b := F.ok) ZoT rfl rfl ?_
 refine Zaz ?_
 rw [show decide (F.ok = F.ok) = true by simp]
 refine Zas ?_
 refine Zaj (v := vT true) rfl rfl ?_
 refine Zaz ?_
 refine Zax ?_
 refine Zas ?_
 refine Zah (b := b242) (o := 0) (r := .agg [vI E.e.x, (kV E.e.k), u239, c238_0, c238_1, c238_2, c238_3]) he.2.2.2.2.2.2.2.2.1 hb246 fa8 ZbZ rfl ?_
 refine Zaz ?_
 refine Zas ?_
 refine Zah (b := b269) (o := 0) (r := .agg [vI E.e.x, (kV E.e.k), u266, c265_0, c265_1, c265_2, c265_3]) he.2.2.2.2.2.2.2.2.2.2.1 hb273 fa8 ZbZ rfl ?_
 refine Zaz ?_
 refine Zas ?_
 refine Zay (vs := [.agg [vI E.e.x, (kV E.e.k), u239, c238_0, c238_1, c238_2, c238_3], .agg [vI E.e.x, (kV E.e.k), u266, c265_0, c265_1, c265_2, c265_3]]) (by simp only [List.map_cons, List.map_nil, EV,Nat.reduceEqDiff,↓reduceIte,he];try rfl) ?_
 refine Zgf hu240.at_ hu267.at_ (Nat.le_trans m1.1 (by decide)) (Nat.le_trans m1.1 (by decide)) hC241.2.1 hC268.2.1 hC241.at_ hC268.at_ (fun l hl => Nat.le_trans (m1.2 l hl) (by decide)) (fun l hl => Nat.le_trans (m1.2 l hl) (by decide)) fun τ347 hX348 => ?_
 refine ⟨fun q => (by cases q), ?_⟩
 have hb5 := hX348.keep _ _ hb5
 have hv6 := hX348.used _ hv6
 have hb12 := hX348.keep _ _ hb12
 have hv13 := hX348.used _ hv13
 have hb56 := hX348.keep _ _ hb56
 have hv57 := hX348.used _ hv57
 have hb65 := hX348.keep _ _ hb65
 have hv66 := hX348.used _ hv66
 have hb246 := hX348.keep _ _ hb246
 have hv247 := hX348.used _ hv247
 have hb273 := hX348.keep _ _ hb273
 have hv274 := hX348.used _ hv274
 have hb298 := hX348.keep _ _ hb298
 have hv299 := hX348.used _ hv299
 have hb324 := hX348.keep _ _ hb324
 have hv325 := hX348.used _ hv325
 have hrb342 := hX348.keep _ _ hrb342
 have hrb345 := hX348.keep _ _ hrb345
 have hR236 := hR236.ext hX348
 have hR263 := hR263.ext hX348
 have hR291 := hR291.ext hX348
 have hR317 := hR317.ext hX348
 rw [ZhV]
 refine Zas ?_
 refine Zaj (v := vT true) rfl rfl ?_
 refine Zaz ?_
 refine Zax ?_
 refine Zas ?_
 refine Zah (b := b294) (o := 0) (r := .agg [vI F.idx, vI F.term, c293_0, c293_1, c293_2, c293_3]) (by simp only [EV,Nat.reduceEqDiff,↓reduceIte,he];try rfl) hb298 ZfQ Zd9 rfl ?_
 refine Zaz ?_
 refine Zas ?_
 refine Zah (b := b320) (o := 0) (r := .agg [vI F.idx, vI F.term, c319_0, c319_1, c319_2, c319_3]) (by simp only [EV,Nat.reduceEqDiff,↓reduceIte,he];try rfl) hb324 ZfQ Zd9 rfl ?_
 refine Zaz ?_
 refine Zas ?_
 refine Zay (vs := [.agg [vI F.idx, vI F.term, c293_0, c293_1, c293_2, c293_3], .agg [vI F.idx, vI F.term, c319_0, c319_1, c319_2, c319_3]]) (by simp only [List.map_cons, List.map_nil, EV,Nat.reduceEqDiff,↓reduceIte,he];try rfl) ?_
 refine Zhf hT290.2.1 hT316.2.1 hT290.at_ hT316.at_ (fun l hl => Nat.le_trans (m2 l hl) (by decide)) (fun l hl => Nat.le_trans (m2 l hl) (by decide)) fun τ349 hX350 => ?_
 refine ⟨fun q => (by cases q), ?_⟩
 have hb5 := hX350.keep _ _ hb5
 have hv6 := hX350.used _ hv6
 have hb12 := hX350.keep _ _ hb12
 have hv13 := hX350.used _ hv13
 have hb56 := hX350.keep _ _ hb56
 have hv57 := hX350.used _ hv57
 have hb65 := hX350.keep _ _ hb65
 have hv66 := hX350.used _ hv66
 have hb246 := hX350.keep _ _ hb246
 have hv247 := hX350.used _ hv247
 have hb273 := hX350.keep _ _ hb273
 have hv274 := hX350.used _ hv274
 have hb298 := hX350.keep _ _ hb298
 have hv299 := hX350.used _ hv299
 have hb324 := hX350.keep _ _ hb324
 have hv325 := hX350.used _ hv325
 have hrb342 := hX350.keep _ _ hrb342
 have hrb345 := hX350.keep _ _ hrb345
 have hR236 := hR236.ext hX350
 have hR263 := hR263.ext hX350
 have hR291 := hR291.ext hX350
 have hR317 := hR317.ext hX350
 rw [show (decide (((F.idx : Nat) : Int) = ((F.idx : Nat) : Int)) && (decide (((F.term : Nat) : Int) = ((F.term : Nat) : Int)) && decide (F.ls = F.ls))) = true by simp]
 refine Zas ?_
 refine Zaj (v := vT true) rfl rfl ?_
 refine Zaz ?_
 refine Zax ?_
 refine Zax ?_
 refine Zas ?_
 with_reducible apply ZcR
 case hx => simp only [EV,Nat.reduceEqDiff,↓reduceIte,he];try rfl
 refine Zaz ?_
 refine Zax ?_
 cases hg351 : !E.ok with
 | false =>
  have bhg351 : (E.ok) = true := by rw [<- Bool.not_not (E.ok), hg351]; rfl
  refine Zax ?_
  refine Zax ?_
  refine Zas ?_
  refine Zav (v := ptr b200 0) rfl rfl ?_
  refine Zaz ?_
  refine Zas ?_
  refine Zae (b := b200) (o := 0) rfl Zju rfl ?_
  refine Zaz ?_
  refine Zas ?_
  refine Zah (b := b200) (o := 0 + 0) (r := vv341) rfl hrb342 fa5 Zb6 rfl ?_
  refine Zaz ?_
  refine Zas ?_
  refine ZaP (σ := τ349) rfl hvv343.ls rfl Zbw ?_
  refine Zaz ?_
  refine Zas ?_
  refine Zay (vs := [ptr rb181 0]) (by simp only [List.map_cons, List.map_nil, EV,Nat.reduceEqDiff,↓reduceIte,he];try rfl) ?_
  refine Ziq hR236 ?_
  refine ⟨fun q => .refl _, ?_⟩
  refine Zas ?_
  refine ZbQ (k := .i64) (a := ((((E.left).getD []).length : Nat) : Int)) (b := ((((E.left).getD []).length : Nat) : Int)) rfl rfl ?_
  refine Zaz ?_
  rw [decide_eq_true (rfl : ((((E.left).getD []).length : Nat) : Int) = ((((E.left).getD []).length : Nat) : Int))]
  refine Zas ?_
  refine Zak (v := vT true) rfl rfl ?_
  refine Zaz ?_
  refine Zas ?_
  refine Zaj (v := vT true) rfl rfl ?_
  refine Zaz ?_
  refine Zax ?_
  refine Zax ?_
  refine Zas ?_
  with_reducible apply ZcR
  case hx => simp only [EV,Nat.reduceEqDiff,↓reduceIte,he];try rfl
  refine Zaz ?_
  refine Zax ?_
  cases hg352 : !F.ok with
  | false =>
   have bhg352 : (F.ok) = true := by rw [<- Bool.not_not (F.ok), hg352]; rfl
   refine Zax ?_
   refine Zax ?_
   refine Zas ?_
   refine Zav (v := ptr b213 0) rfl rfl ?_
   refine Zaz ?_
   refine Zas ?_
   refine Zae (b := b213) (o := 0) rfl Zju rfl ?_
   refine Zaz ?_
   refine Zas ?_
   refine Zah (b := b213) (o := 0 + 0) (r := vv344) rfl hrb345 fa5 Zb6 rfl ?_
   refine Zaz ?_
   refine Zas ?_
   refine ZaP (σ := τ349) rfl hvv346.ls rfl Zbw ?_
   refine Zaz ?_
   refine Zas ?_
   refine Zay (vs := [ptr rb190 0]) (by simp only [List.map_cons, List.map_nil, EV,Nat.reduceEqDiff,↓reduceIte,he];try rfl) ?_
   refine Ziq hR291 ?_
   refine ⟨fun q => .refl _, ?_⟩
   refine Zas ?_
   refine ZbQ (k := .i64) (a := ((((F.left).getD []).length : Nat) : Int)) (b := ((((F.left).getD []).length : Nat) : Int)) rfl rfl ?_
   refine Zaz ?_
   rw [decide_eq_true (rfl : ((((F.left).getD []).length : Nat) : Int) = ((((F.left).getD []).length : Nat) : Int))]
   refine Zas ?_
   refine Zak (v := vT true) rfl rfl ?_
   refine Zaz ?_
   refine Zas ?_
   refine Zaj (v := vT true) rfl rfl ?_
   refine Zaz ?_
   refine Zax ?_
   refine Zas ?_
   refine Zah (b := b52) (o := 0) (r := .agg [vI x, (kV k), u33, c34_0, c34_1, c34_2, c34_3]) he.2.2.1 hb56 fa8 ZbZ rfl ?_
   refine Zaz ?_
   refine Zas ?_
   refine Zah (b := b1) (o := 0) (r := .agg [vI x, (kV k), v, a0, a1, a2, a3]) he.1 hb5 fa8 ZbZ rfl ?_
   refine Zaz ?_
   refine Zas ?_
   refine Zay (vs := [.agg [vI x, (kV k), u33, c34_0, c34_1, c34_2, c34_3], .agg [vI x, (kV k), v, a0, a1, a2, a3]]) (by simp only [List.map_cons, List.map_nil, EV,Nat.reduceEqDiff,↓reduceIte,he];try rfl) ?_
   refine ZdA (hB177.ext ((hY340.trans hX348).trans hX350)) (hv _) cl h4 (hC178.ext ((hY340.trans hX348).trans hX350)) (hc _) sl fun τ353 hX354 => ?_
   refine ⟨fun q => (by cases q), ?_⟩
   have hb5 := hX354.keep _ _ hb5
   have hb12 := hX354.keep _ _ hb12
   have hb56 := hX354.keep _ _ hb56
   have hb65 := hX354.keep _ _ hb65
   have hrb345 := hX354.keep _ _ hrb345
   have hR291 := hR291.ext hX354
   refine Zas ?_
   refine Zaj (v := vT true) rfl rfl ?_
   refine Zaz ?_
   refine Zax ?_
   refine Zas ?_
   refine Zah (b := b61) (o := 0) (r := .agg [vI y, vI t, c44_0, c44_1, c44_2, c44_3]) he.2.2.2.1 hb65 ZfQ Zd9 rfl ?_
   refine Zaz ?_
   refine Zas ?_
   refine Zah (b := b8) (o := 0) (r := .agg [vI y, vI t, d0, d1, d2, d3]) he.2.1 hb12 ZfQ Zd9 rfl ?_
   refine Zaz ?_
   refine Zas ?_
   refine Zay (vs := [.agg [vI y, vI t, c44_0, c44_1, c44_2, c44_3], .agg [vI y, vI t, d0, d1, d2, d3]]) (by simp only [List.map_cons, List.map_nil, EV,Nat.reduceEqDiff,↓reduceIte,he];try rfl) ?_
   refine Zd4 h5 (hM179.ext (((hY340.trans hX348).trans hX350).trans hX354)) (hd _) sm fun τ355 hX356 => ?_
   refine ⟨fun q => (by cases q), ?_⟩
   have hb5 := hX356.keep _ _ hb5
   have hb12 := hX356.keep _ _ hb12
   have hb56 := hX356.keep _ _ hb56
   have hb65 := hX356.keep _ _ hb65
   have hrb345 := hX356.keep _ _ hrb345
   have hR291 := hR291.ext hX356
   refine Zas ?_
   refine Zaj (v := vT true) rfl rfl ?_
   refine Zaz ?_
   refine Zax ?_
   refine Zas ?_
   refine Zay (vs := []) (by simp only [List.map_cons, List.map_nil, EV,Nat.reduceEqDiff,↓reduceIte,he];try rfl) ?_
   refine Zez fun τ357 hX358 => ?_
   refine ⟨fun q => (by cases q), ?_⟩
   have hb5 := hX358.keep _ _ hb5
   have hb12 := hX358.keep _ _ hb12
   have hb56 := hX358.keep _ _ hb56
   have hb65 := hX358.keep _ _ hb65
   have hrb345 := hX358.keep _ _ hrb345
   have hR291 := hR291.ext hX358
   refine Zas ?_
   refine Zaj (v := vT true) rfl rfl ?_
   refine Zaz ?_
   refine Zax ?_
   refine ZbI (kp1 6 ?_)
   clear he e
   intro e he
   refine Zap ?_
   exact ZaD (hK _ ((((((hX180.trans hY340).trans hX348).trans hX350).trans hX354).trans hX356).trans hX358))
  | true =>
   have bhg352 : (F.ok) = false := by rw [<- Bool.not_not (F.ok), hg352]; rfl
   refine Zaq ?_
   refine Zaq ?_
   refine Zaq ?_
   refine Zaq ?_
   refine Zaq ?_
   refine Zaq ?_
   refine Zaq ?_
   refine Zaq ?_
   refine Zas ?_
   refine Zaj (v := vT true) rfl rfl ?_
   refine Zaz ?_
   refine Zas ?_
   refine Zaj (v := vT true) rfl rfl ?_
   refine Zaz ?_
   refine Zax ?_
   refine Zas ?_
   refine Zah (b := b52) (o := 0) (r := .agg [vI x, (kV k), u33, c34_0, c34_1, c34_2, c34_3]) he.2.2.1 hb56 fa8 ZbZ rfl ?_
   refine Zaz ?_
   refine Zas ?_
   refine Zah (b := b1) (o := 0) (r := .agg [vI x, (kV k), v, a0, a1, a2, a3]) he.1 hb5 fa8 ZbZ rfl ?_
   refine Zaz ?_
   refine Zas ?_
   refine Zay (vs := [.agg [vI x, (kV k), u33, c34_0, c34_1, c34_2, c34_3], .agg [vI x, (kV k), v, a0, a1, a2, a3]]) (by simp only [List.map_cons, List.map_nil, EV,Nat.reduceEqDiff,↓reduceIte,he];try rfl) ?_
   refine ZdA (hB177.ext ((hY340.trans hX348).trans hX350)) (hv _) cl h4 (hC178.ext ((hY340.trans hX348).trans hX350)) (hc _) sl fun τ359 hX360 => ?_
   refine ⟨fun q => (by cases q), ?_⟩
   have hb5 := hX360.keep _ _ hb5
   have hb12 := hX360.keep _ _ hb12
   have hb56 := hX360.keep _ _ hb56
   have hb65 := hX360.keep _ _ hb65
   have hrb345 := hX360.keep _ _ hrb345
   have hR291 := hR291.ext hX360
   refine Zas ?_
   refine Zaj (v := vT true) rfl rfl ?_
   refine Zaz ?_
   refine Zax ?_
   refine Zas ?_
   refine Zah (b := b61) (o := 0) (r := .agg [vI y, vI t, c44_0, c44_1, c44_2, c44_3]) he.2.2.2.1 hb65 ZfQ Zd9 rfl ?_
   refine Zaz ?_
   refine Zas ?_
   refine Zah (b := b8) (o := 0) (r := .agg [vI y, vI t, d0, d1, d2, d3]) he.2.1 hb12 ZfQ Zd9 rfl ?_
   refine Zaz ?_
   refine Zas ?_
   refine Zay (vs := [.agg [vI y, vI t, c44_0, c44_1, c44_2, c44_3], .agg [vI y, vI t, d0, d1, d2, d3]]) (by simp only [List.map_cons, List.map_nil, EV,Nat.reduceEqDiff,↓reduceIte,he];try rfl) ?_
   refine Zd4 h5 (hM179.ext (((hY340.trans hX348).trans hX350).trans hX360)) (hd _) sm fun τ361 hX362 => ?_
   refine ⟨fun q => (by cases q), ?_⟩
   have hb5 := hX362.keep _ _ hb5
   have hb12 := hX362.keep _ _ hb12
   have hb56 := hX362.keep _ _ hb56
   have hb65 := hX362.keep _ _ hb65
   have hrb345 := hX362.keep _ _ hrb345
   have hR291 := hR291.ext hX362
   refine Zas ?_
   refine Zaj (v := vT true) rfl rfl ?_
   refine Zaz ?_
   refine Zax ?_
   refine Zas ?_
   refine Zay (vs := []) (by simp only [List.map_cons, List.map_nil, EV,Nat.reduceEqDiff,↓reduceIte,he];try rfl) ?_
   refine Zez fun τ363 hX364 => ?_
   refine ⟨fun q => (by cases q), ?_⟩
   have hb5 := hX364.keep _ _ hb5
   have hb12 := hX364.keep _ _ hb12
   have hb56 := hX364.keep _ _ hb56
   have hb65 := hX364.keep _ _ hb65
   have hrb345 := hX364.keep _ _ hrb345
   have hR291 := hR291.ext hX364
   refine Zas ?_
   refine Zaj (v := vT true) rfl rfl ?_
   refine Zaz ?_
   refine Zax ?_
   refine ZbI (kp1 6 ?_)
   clear he e
   intro e he
   refine Zap ?_
   exact ZaD (hK _ ((((((hX180.trans hY340).trans hX348).trans hX350).trans hX360).trans hX362).trans hX364))
 | true =>
  have bhg351 : (E.ok) = false := by rw [<- Bool.not_not (E.ok), hg351]; rfl
  refine Zaq ?_
  refine Zaq ?_
  refine Zaq ?_
  refine Zaq ?_
  refine Zaq ?_
  refine Zaq ?_
  refine Zaq ?_
  refine Zaq ?_
  refine Zas ?_
  refine Zaj (v := vT true) rfl rfl ?_
  refine Zaz ?_
  refine Zas ?_
  refine Zaj (v := vT true) rfl rfl ?_
  refine Zaz ?_
  refine Zax ?_
  refine Zax ?_
  refine Zas ?_
  with_reducible apply ZcR
  case hx => simp only [EV,Nat.reduceEqDiff,↓reduceIte,he];try rfl
  refine Zaz ?_
  refine Zax ?_
  cases hg365 : !F.ok with
  | false =>
   have bhg365 : (F.ok) = true := by rw [<- Bool.not_not (F.ok), hg365]; rfl
   refine Zax ?_
   refine Zax ?_
   refine Zas ?_
   refine Zav (v := ptr b213 0) rfl rfl ?_
   refine Zaz ?_
   refine Zas ?_
   refine Zae (b := b213) (o := 0) rfl Zju rfl ?_
   refine Zaz ?_
   refine Zas ?_
   refine Zah (b := b213) (o := 0 + 0) (r := vv344) rfl hrb345 fa5 Zb6 rfl ?_
   refine Zaz ?_
   refine Zas ?_
   refine ZaP (σ := τ349) rfl hvv346.ls rfl Zbw ?_
   refine Zaz ?_
   refine Zas ?_
   refine Zay (vs := [ptr rb190 0]) (by simp only [List.map_cons, List.map_nil, EV,Nat.reduceEqDiff,↓reduceIte,he];try rfl) ?_
   refine Ziq hR291 ?_
   refine ⟨fun q => .refl _, ?_⟩
   refine Zas ?_
   refine ZbQ (k := .i64) (a := ((((F.left).getD []).length : Nat) : Int)) (b := ((((F.left).getD []).length : Nat) : Int)) rfl rfl ?_
   refine Zaz ?_
   rw [decide_eq_true (rfl : ((((F.left).getD []).length : Nat) : Int) = ((((F.left).getD []).length : Nat) : Int))]
   refine Zas ?_
   refine Zak (v := vT true) rfl rfl ?_
   refine Zaz ?_
   refine Zas ?_
   refine Zaj (v := vT true) rfl rfl ?_
   refine Zaz ?_
   refine Zax ?_
   refine Zas ?_
   refine Zah (b := b52) (o := 0) (r := .agg [vI x, (kV k), u33, c34_0, c34_1, c34_2, c34_3]) he.2.2.1 hb56 fa8 ZbZ rfl ?_
   refine Zaz ?_
   refine Zas ?_
   refine Zah (b := b1) (o := 0) (r := .agg [vI x, (kV k), v, a0, a1, a2, a3]) he.1 hb5 fa8 ZbZ rfl ?_
   refine Zaz ?_
   refine Zas ?_
   refine Zay (vs := [.agg [vI x, (kV k), u33, c34_0, c34_1, c34_2, c34_3], .agg [vI x, (kV k), v, a0, a1, a2, a3]]) (by simp only [List.map_cons, List.map_nil, EV,Nat.reduceEqDiff,↓reduceIte,he];try rfl) ?_
   refine ZdA (hB177.ext ((hY340.trans hX348).trans hX350)) (hv _) cl h4 (hC178.ext ((hY340.trans hX348).trans hX350)) (hc _) sl fun τ366 hX367 => ?_
   refine ⟨fun q => (by cases q), ?_⟩
   have hb5 := hX367.keep _ _ hb5
   have hb12 := hX367.keep _ _ hb12
   have hb56 := hX367.keep _ _ hb56
   have hb65 := hX367.keep _ _ hb65
   refine Zas ?_
   refine Zaj (v := vT true) rfl rfl ?_
   refine Zaz ?_
   refine Zax ?_
   refine Zas ?_
   refine Zah (b := b61) (o := 0) (r := .agg [vI y, vI t, c44_0, c44_1, c44_2, c44_3]) he.2.2.2.1 hb65 ZfQ Zd9 rfl ?_
   refine Zaz ?_
   refine Zas ?_
   refine Zah (b := b8) (o := 0) (r := .agg [vI y, vI t, d0, d1, d2, d3]) he.2.1 hb12 ZfQ Zd9 rfl ?_
   refine Zaz ?_
   refine Zas ?_
   refine Zay (vs := [.agg [vI y, vI t, c44_0, c44_1, c44_2, c44_3], .agg [vI y, vI t, d0, d1, d2, d3]]) (by simp only [List.map_cons, List.map_nil, EV,Nat.reduceEqDiff,↓reduceIte,he];try rfl) ?_
   refine Zd4 h5 (hM179.ext (((hY340.trans hX348).trans hX350).trans hX367)) (hd _) sm fun τ368 hX369 => ?_
   refine ⟨fun q => (by cases q), ?_⟩
   have hb5 := hX369.keep _ _ hb5
   have hb12 := hX369.keep _ _ hb12
   have hb56 := hX369.keep _ _ hb56
   have hb65 := hX369.keep _ _ hb65
   refine Zas ?_
   refine Zaj (v := vT true) rfl rfl ?_
   refine Zaz ?_
   refine Zax ?_
   refine Zas ?_
   refine Zay (vs := []) (by simp only [List.map_cons, List.map_nil, EV,Nat.reduceEqDiff,↓reduceIte,he];try rfl) ?_
   refine Zez fun τ370 hX371 => ?_
   refine ⟨fun q => (by cases q), ?_⟩
   have hb5 := hX371.keep _ _ hb5
   have hb12 := hX371.keep _ _ hb12
   have hb56 := hX371.keep _ _ hb56
   have hb65 := hX371.keep _ _ hb65
   refine Zas ?_
   refine Zaj (v := vT true) rfl rfl ?_
   refine Zaz ?_
   refine Zax ?_
   refine ZbI (kp1 6 ?_)
   clear he e
   intro e he
   refine Zap ?_
   exact ZaD (hK _ ((((((hX180.trans hY340).trans hX348).trans hX350).trans hX367).trans hX369).trans hX371))
  | true =>
   have bhg365 : (F.ok) = false := by rw [<- Bool.not_not (F.ok), hg365]; rfl
   refine Zaq ?_
   refine Zaq ?_
   refine Zaq ?_
   refine Zaq ?_
   refine Zaq ?_
   refine Zaq ?_
   refine Zaq ?_
   refine Zaq ?_
   refine Zas ?_
   refine Zaj (v := vT true) rfl rfl ?_
   refine Zaz ?_
   refine Zas ?_
   refine Zaj (v := vT true) rfl rfl ?_
   refine Zaz ?_
   refine Zax ?_
   refine Zas ?_
   refine Zah (b := b52) (o := 0) (r := .agg [vI x, (kV k), u33, c34_0, c34_1, c34_2, c34_3]) he.2.2.1 hb56 fa8 ZbZ rfl ?_
   refine Zaz ?_
   refine Zas ?_
   refine Zah (b := b1) (o := 0) (r := .agg [vI x, (kV k), v, a0, a1, a2, a3]) he.1 hb5 fa8 ZbZ rfl ?_
   refine Zaz ?_
   refine Zas ?_
   refine Zay (vs := [.agg [vI x, (kV k), u33, c34_0, c34_1, c34_2, c34_3], .agg [vI x, (kV k), v, a0, a1, a2, a3]]) (by simp only [List.map_cons, List.map_nil, EV,Nat.reduceEqDiff,↓reduceIte,he];try rfl) ?_
   refine ZdA (hB177.ext ((hY340.trans hX348).trans hX350)) (hv _) cl h4 (hC178.ext ((hY340.trans hX348).trans hX350)) (hc _) sl fun τ372 hX373 => ?_
   refine ⟨fun q => (by cases q), ?_⟩
   have hb12 := hX373.keep _ _ hb12
   have hb65 := hX373.keep _ _ hb65
   refine Zas ?_
   refine Zaj (v := vT true) rfl rfl ?_
   refine Zaz ?_
   refine Zax ?_
   refine Zas ?_
   refine Zah (b := b61) (o := 0) (r := .agg [vI y, vI t, c44_0, c44_1, c44_2, c44_3]) he.2.2.2.1 hb65 ZfQ Zd9 rfl ?_
   refine Zaz ?_
   refine Zas ?_
   refine Zah (b := b8) (o := 0) (r := .agg [vI y, vI t, d0, d1, d2, d3]) he.2.1 hb12 ZfQ Zd9 rfl ?_
   refine Zaz ?_
   refine Zas ?_
   refine Zay (vs := [.agg [vI y, vI t, c44_0, c44_1, c44_2, c44_3], .agg [vI y, vI t, d0, d1, d2, d3]]) (by simp only [List.map_cons, List.map_nil, EV,Nat.reduceEqDiff,↓reduceIte,he];try rfl) ?_
   refine Zd4 h5 (hM179.ext (((hY340.trans hX348).trans hX350).trans hX373)) (hd _) sm fun τ374 hX375 => ?_
   refine ⟨fun q => (by cases q), ?_⟩
   refine Zas ?_
   refine Zaj (v := vT true) rfl rfl ?_
   refine Zaz ?_
   refine Zax ?_
   refine Zas ?_
   refine Zay (vs := []) (by simp only [List.map_cons, List.map_nil, EV,Nat.reduceEqDiff,↓reduceIte,he];try rfl) ?_
   refine Zez fun τ376 hX377 => ?_
   refine ⟨fun q => (by cases q), ?_⟩
   refine Zas ?_
   refine Zaj (v := vT true) rfl rfl ?_
   refine Zaz ?_
   refine Zax ?_
   refine ZbI (kp1 6 ?_)
   clear he e
   intro e he
   refine Zap ?_
   exact ZaD (hK _ ((((((hX180.trans hY340).trans hX348).trans hX350).trans hX373).trans hX375).trans hX377))
theorem ZsK {d : List UInt8} {a : AV} (h : SV CT 0 ZdO (.sl 1 d none) a) : TB a d := by
 obtain ⟨A, c, cs, rest, rfl, l1, l2, l3, l4, l5⟩ := Zhz.1 h
 cases Zmw l5
 exact ⟨A, c, rest, rfl, ⟨l1, l2, l3, l4⟩⟩
theorem ZfH {E : Nat} {α : Type} {p : α -> Prop} {l : List α} (h : OkL E p l) : l.length <= 140737488355328 := h.len
theorem Zh0 {c : ZfV} (h : ZfW c) : ∀ l ∈ ZsI c, l.length <= 140737488355328 := fun l hl => by
 simp only [List.mem_cons, List.not_mem_nil, or_false] at hl
 rcases hl with rfl | rfl | rfl | rfl
 ·exact ZfH h.1
 ·exact ZfH h.2.1
 ·exact ZfH h.2.2.1
 ·exact ZfH h.2.2.2.1
theorem Zht (x0 : ZhM) (x1 : Zms) (x2 : List UInt8) (k0 : Zi5 x0) (k1 : Zks x1) (k2 : Zg3 x2) : Tr CT Tryz.prog (fun _ => True) 3 [.agg (CT.enc 7 x0), .agg (CT.enc 8 x1), .sl 1 x2 none] [] (.bool true) [] := by
 intro ρ σ vs hs _
 obtain ⟨a0, b0, rfl, s0, hs⟩ := hs.to
 obtain ⟨a1, b1, rfl, s1, hs⟩ := hs.to
 obtain ⟨a2, rfl, s2⟩ := Zsi.1 hs
 obtain ⟨c0, rfl, r0⟩ := Zl5.1 s0
 obtain ⟨c1, rfl, r1⟩ := Zl5.1 s1
 have s2 : SV CT 0 ZdO (.sl 1 x2 none) a2 := SVs.shut s2 (by intro x hx; rw [List.mem_singleton.1 hx]; rfl)
 have hc7 : ∀ v ∈ CT.enc 7 x0, v.closed = true := fun v hv => by
  have hv : v ∈ ([.int .i64 x0.term_, .int .u8 x0.kind, .sl 1 x0.command none, .sl 0 x0.config.voters none, .sl 0 x0.config.old none, .sl 0 x0.config.learners none, .sl 0 x0.config.want none] : List (XV Ty)) := hv
  simp only [List.mem_cons, List.not_mem_nil, or_false] at hv
  rcases hv with rfl | rfl | rfl | rfl | rfl | rfl | rfl <;> rfl
 have hc8 : ∀ v ∈ CT.enc 8 x1, v.closed = true := fun v hv => by
  have hv : v ∈ ([.int .i64 x1.index, .int .i64 x1.term_, .sl 0 x1.config.voters none, .sl 0 x1.config.old none, .sl 0 x1.config.learners none, .sl 0 x1.config.want none] : List (XV Ty)) := hv
  simp only [List.mem_cons, List.not_mem_nil, or_false] at hv
  rcases hv with rfl | rfl | rfl | rfl | rfl | rfl <;> rfl
 have s0 : SVs CT 0 ZdO (CT.enc 7 x0) c0 := SVs.shut r0 hc7
 have s1 : SVs CT 0 ZdO (CT.enc 8 x1) c1 := SVs.shut r1 hc8
 obtain ⟨v, e0, e1, e2, e3, rfl, g1, g2, g3⟩ := ZoS s0
 obtain ⟨d0, d1, d2, d3, rfl, g4, g5⟩ := ZqE s1
 obtain ⟨k, hk, hk2⟩ : ∃ k : Nat, x0.kind = (k : Int) /\ k <= 255 := by
  have := k0.2.1
  have h1 : 0 <= x0.kind /\ x0.kind <= 255 := by
   simp [Zpb, InK, Lit.wf, IntKind.bits, IntKind.signed, IntKind.min, IntKind.max] at this
   omega
  exact ⟨x0.kind.toNat, by omega, by omega⟩
 rw [hk]
 refine ZqG (t := x1.term_) g1 (ZsK s2) g2 g4 rfl rfl hk2 (ZfH k0.2.2.1) (Zh0 k0.2.2.2.1) (Zh0 k1.2.2.1) g3 g5 fun τ hX => ⟨ρ, Zl4.2 rfl, Zo8 _, Nat.zero_le _, fun i hi => absurd hi (Nat.not_lt_zero i), ⟨fun b k _ hk => hX.keep _ _ hk, hX.used⟩, fun b ⟨i, x, hx, _⟩ => by simp at hx⟩
end
end Go.Proofs.YtiienjjhlibopaaGreatDoor
