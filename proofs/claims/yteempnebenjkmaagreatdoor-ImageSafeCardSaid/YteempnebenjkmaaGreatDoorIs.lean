/- The law on images that are safe (round 09Z). -/
import Derived.Test.YteempnebenjkmaaGreatDoorIr
import Derived.Test.YteempnebenjkmaaGreatDoorMi
import Derived.Test.YteempnebenjkmaaGreatDoorMe
namespace Go.Proofs.YteempnebenjkmaaGreatDoor
open Go.RowKit
set_option maxRecDepth 100000
set_option linter.unusedVariables false
set_option linter.unusedSimpArgs false
def nmJ : List UInt8 := [106, 111, 117, 114, 110, 97, 108, 46, 51]
def nmI : List UInt8 := [105, 109, 97, 103, 101, 46, 52]
theorem ZqY : Zch 3 = [105, 109, 97, 103, 101, 46, 51] := by decide +kernel
theorem ZB2 : Zem 3 = [105, 109, 97, 103, 101, 46, 51, 46, 110, 101, 119] := by unfold Zem; rw [ZqY]; rfl
theorem ZA1 : (Go.Lib.decDigits 3).length <= 21 := by rw [<- Go.Lib.itoa_nonneg 3]; exact Go.Lib.itoa_length_le _ (by omega) (by omega)
section
variable {σ τ υ : St} {bb mb : Nat} {S : Nat -> Prop} {fs fs' : List Fl} {pcs pcs' : List (Nat × Nat)} {size : Int} {pv : AV} {K : AV -> St -> Prop}
theorem Zj7 {k d : List UInt8} {v : AV} {rb : Nat} (h : DAt σ bb S fs pcs size mb pv) (hS : ∀ c, S c -> σ.used c) (hv : SV CT 0 ZbF (.sl 1 d none) v) (hk : k ≠ [] /\ k.length <= 40) (hlen : d.length + Zde fs <= 100000000) (hp : pcs.length <= 100000000)
 (hK8 : ¬ (size < 1 \/ ((d.length + Zde fs : Nat) : Int) <= size) -> ∀ τ, Ext σ τ -> K (vI 8) τ)
 (hK0 : (size < 1 \/ ((d.length + Zde fs : Nat) : Int) <= size) -> ∀ τ S' fs' pcs' pv', DAt τ bb S' fs' pcs' size mb pv' -> But S σ τ -> (∀ c, S c -> S' c) -> (∀ c, S' c -> S c \/ Zei σ c) -> (∀ c, S' c -> τ.used c) -> ZsT fs pcs k d fs' pcs' -> K (vI 0) τ) : Zan Tryz.prog 10 [ptr bb 0, .raw (sV k), .lst (some ⟨rb, 0, none⟩) 1 1 [v]] σ K := by
 refine Zo7 (d := d) h hS (fun τ0 hX0 K' hK' => Zo4 (ps := [d]) (Zcu.2 ⟨some ⟨rb, 0, none⟩, 1, [v], [], rfl, Nat.le_refl _, by decide, by simp, fun q => (by cases q), ?_⟩) (by simp) (by simp; omega) K' ?_) hlen hp (fun hn => absurd hk hn) (fun _ hn υ hX => hK8 hn υ hX) (fun _ hf υ S' fs' pcs' pv' g1 g2 g3 g4 g5 g6 => hK0 hf υ S' fs' pcs' pv' g1 g2 g3 g4 g5 g6)
 ·exact .cons hv .none
 ·intro v τ q1 q2 q3
  simp only [List.flatten_cons, List.flatten_nil, List.append_nil] at q1
  exact hK' v τ q1 q2 q3
def Zxk (o : Option Zbe) (im : List Fl) : Prop := match o with
 | none => im = []
 | some x => ∃ b v, im = [⟨Zch 3, b, v, codes [(4, Zoi x)]⟩] /\ Zfk x.base = true /\ Zkv x.base.config /\ x.bytes.length <= 5000
structure Zjb (σ υ : St) (bb mb : Nat) (size : Int) (other dj : List UInt8) (nw : Nat -> Nat -> List (Nat × Nat)) (o : Option Zbe) : Prop where
 ex : ∃ S fs pcs pv jb jv ib iv im, DAt υ bb S fs pcs size mb pv /\ (∀ c, S c -> υ.used c /\ Zei σ c) /\ fs = ⟨nmJ, jb, jv, dj⟩ :: ⟨nmI, ib, iv, other⟩ :: im /\ pcs = nw jb ib /\ Zxk o im
 ext : Ext σ υ
theorem Zxk.len {o : Option Zbe} {im : List Fl} (h : Zxk o im) : im.length <= 1 /\ Zde im <= 200009 /\ (∀ f ∈ im, f.nm = Zch 3 /\ f.d.length <= 200009) := by
 cases o with
 | none => obtain rfl : im = [] := h; exact ⟨by simp, by simp [Zde], by simp⟩
 | some x =>
  obtain ⟨b, v, rfl, h1, h2, h3⟩ := h
  have := (ZqX h2 h3 h1).1
  have hc := Zi8 (Zoi x)
  exact ⟨by simp, by simp [Zde]; omega, fun f hf => by rw [List.mem_singleton.1 hf]; exact ⟨rfl, by dsimp only; omega⟩⟩
def nw1 (n : Nat) (jb ib : Nat) : List (Nat × Nat) := if n = 0 then [] else [(jb, n), (ib, n)]
theorem Zjb.ext1 {other dj : List UInt8} {nw : Nat -> Nat -> List (Nat × Nat)} {o : Option Zbe} (h : Zjb σ υ bb mb size other dj nw o) (k : Ext υ τ) : Zjb σ τ bb mb size other dj nw o := by
 obtain ⟨S, fs, pcs, pv, jb, jv, ib, iv, im, h1, h2, h3⟩ := h.ex
 exact ⟨⟨S, fs, pcs, pv, jb, jv, ib, iv, im, h1.ext k, fun c hc => ⟨k.used _ (h2 c hc).1, (h2 c hc).2⟩, h3⟩, h.ext.trans k⟩
set_option maxHeartbeats 1000000 in
theorem ZpQ {other : List UInt8} {o : Option Zbe} {x : Zbe} {as_ : List AV} (h : Zjb σ υ bb mb size other other (nw1 other.length) o) (ho : other.length <= 5000) (hx : SVs CT 0 ZbF (CT.enc 10 x) as_) (hf : Zkv x.base.config) (hb : x.bytes.length <= 5000)
 (hK : ∀ τ e o', (e = 0 /\ o' = some x \/ e ≠ 0 /\ o' = o) -> Zjb σ τ bb mb size other other (nw1 other.length) o' -> K (vI e) τ) : Zan Tryz.prog 21 [ptr bb 0, vI ((3 : Nat) : Int), .agg as_] υ K := by
 obtain ⟨S, fs, pcs, pv, jb, jv, ib, iv, im, h1, h2, rfl, rfl, h5⟩ := h.ex
 obtain ⟨l1, l2, l3⟩ := h5.len
 have hB := Zvm hf hb
 have hnx : ∀ f ∈ (⟨nmJ, jb, jv, other⟩ :: ⟨nmI, ib, iv, other⟩ :: im : List Fl), f.nm ≠ Zem 3 := fun f hf => by
  rw [ZB2]
  rcases List.mem_cons.1 hf with rfl | hf
  ·simp [nmJ]
  rcases List.mem_cons.1 hf with rfl | hf
  ·simp [nmI]
  ·rw [(l3 f hf).1, ZqY]; simp
 have hr : ZfS [Zem 3] (⟨nmJ, jb, jv, other⟩ :: ⟨nmI, ib, iv, other⟩ :: im) (nw1 other.length jb ib) = (⟨nmJ, jb, jv, other⟩ :: ⟨nmI, ib, iv, other⟩ :: im, nw1 other.length jb ib, 6) := Zpv (Zcv.2 hnx)
 have hpl : (nw1 other.length jb ib).length <= 2 := by unfold nw1; split <;> simp
 have hSe : ∀ c, S c -> υ.used c := fun c hc => (h2 c hc).1
 have hsum : Zde (⟨nmJ, jb, jv, other⟩ :: ⟨nmI, ib, iv, other⟩ :: im) <= 1000000 := by
  have : Zde (⟨nmJ, jb, jv, other⟩ :: ⟨nmI, ib, iv, other⟩ :: im) = other.length + (other.length + Zde im) := by simp [Zde]
  omega
 cases hbb : Zfk x.base with
 | false =>
  rw [hbb] at hB
  refine Zn8 (er := 2) (bs := []) (d := []) h1 hSe (by omega) ZA1 hx hB (fun q => absurd q (by decide)) (fun _ τ hX => hK τ 2 o (.inr ⟨by decide, rfl⟩) (h.ext1 hX)) ?_ (by omega) ?_ (fun q => absurd q (by decide)) fun q => absurd q (by decide)
  ·rw [hr]; dsimp only [List.length_nil]; omega
  ·rw [hr]; dsimp only; omega
 | true =>
  rw [hbb, if_pos rfl] at hB
  obtain ⟨i1, i2⟩ := ZqX hf hb hbb
  have hco := Zi8 (Zoi x)
  refine Zn8 (er := 0) (bs := Zoi x) (d := codes [(4, Zoi x)]) h1 hSe (by omega) ZA1 hx hB (fun _ => Zvt (by omega)) (fun q => absurd rfl q) ?_ (by omega) ?_ (fun _ _ τ pv' q1 q2 => ?_) fun _ _ τ S' fs' pcs' pv' q1 q2 q3 q4 q5 q6 => ?_
  ·rw [hr]; dsimp only; omega
  ·rw [hr]; dsimp only; omega
  ·rw [hr] at q1
   exact hK τ 8 o (.inr ⟨by decide, rfl⟩) ⟨⟨S, _, _, pv', jb, jv, ib, iv, im, q1, fun c hc => ⟨q2.used _ (hSe c hc), (h2 c hc).2⟩, rfl, rfl, h5⟩, But.ext h.ext (fun c hc => (h2 c hc).2.1) q2⟩
  ·rw [hr] at q6
   obtain ⟨b, v, rfl, rfl, hne⟩ := Zxe h1 q6 hnx (Zvc 3)
   have hn : ZhD (Zch 3) (⟨nmJ, jb, jv, other⟩ :: ⟨nmI, ib, iv, other⟩ :: im) = [⟨nmJ, jb, jv, other⟩, ⟨nmI, ib, iv, other⟩] := by
    have : ZhD (Zch 3) im = [] := List.filter_eq_nil_iff.2 fun f hf => by simp [(l3 f hf).1]
    rw [show (⟨nmJ, jb, jv, other⟩ :: ⟨nmI, ib, iv, other⟩ :: im : List Fl) = [⟨nmJ, jb, jv, other⟩, ⟨nmI, ib, iv, other⟩] ++ im from rfl, Zof, this, List.append_nil, Zi0]
    intro f hf
    rw [ZqY]
    rcases List.mem_cons.1 hf with rfl | hf
    ·simp [nmJ]
    ·rw [List.mem_singleton.1 hf]; simp [nmI]
   have hp : rnP (⟨nmJ, jb, jv, other⟩ :: ⟨nmI, ib, iv, other⟩ :: im) (nw1 other.length jb ib) (Zch 3) = nw1 other.length jb ib := by
    unfold rnP
    cases hg : ZgL (Za3 (⟨nmJ, jb, jv, other⟩ :: ⟨nmI, ib, iv, other⟩ :: im : List Fl)) (Zch 3) with
    | none => rfl
    | some ob =>
     obtain ⟨f, hf, hfn, rfl⟩ := ZdO hg
     have hnd := h1.nd
     simp only [List.map_cons, List.nodup_cons, List.mem_cons, not_or] at hnd
     have hfi : f ∈ im := by
      rcases List.mem_cons.1 hf with rfl | hf
      ·rw [ZqY] at hfn; simp [nmJ] at hfn
      rcases List.mem_cons.1 hf with rfl | hf
      ·rw [ZqY] at hfn; simp [nmI] at hfn
      ·exact hf
     have hm : f.b ∈ im.map (·.b) := List.mem_map.2 ⟨f, hfi, rfl⟩
     dsimp only
     refine List.filter_eq_self.2 fun p hp => ?_
     unfold nw1 at hp
     split at hp
     ·cases hp
     ·rcases List.mem_cons.1 hp with rfl | hp
      ·simp only [Bool.not_eq_true', decide_eq_false_iff_not]; intro e; rw [<- e] at hm; exact hnd.1.2 hm
      ·rw [List.mem_singleton.1 hp]; simp only [Bool.not_eq_true', decide_eq_false_iff_not]; intro e; rw [<- e] at hm; exact hnd.2.1 hm
   rw [hn, hp] at q1
   exact hK τ 0 (some x) (.inl ⟨rfl, rfl⟩) ⟨⟨S', _, _, pv', jb, jv, ib, iv, _, q1, fun c hc => ⟨q5 c hc, (q4 c hc).elim (fun q => (h2 c q).2) fun q => q.of h.ext⟩, rfl, rfl, b, v, rfl, hbb, hf, hb⟩, But.ext h.ext (fun c hc => (h2 c hc).2.1) q2⟩
structure ZvD (σ τ : St) (bb mb : Nat) (size : Int) (other : List UInt8) (o : Option Zbe) : Prop where
 ex : ∃ S fs f0 ib iv im m, DAt τ bb S fs [] size mb (.lst none 0 0 []) /\ (∀ c, S c -> τ.used c /\ Zei σ c) /\ fs = f0 :: ⟨nmI, ib, iv, other.take m⟩ :: im /\ f0.nm = nmJ /\ f0.d.length <= 10000 /\ Zxk o im
 ext : Ext σ τ
def ZA2 (dj other : List UInt8) (nw : Nat -> Nat -> List (Nat × Nat)) : Prop := ∀ jb ib, jb ≠ ib -> (∀ p ∈ nw jb ib, (p.1 = jb \/ p.1 = ib) /\ 0 < p.2) /\ ZcP jb (nw jb ib) <= dj.length /\ ZcP ib (nw jb ib) <= other.length /\ (nw jb ib).length <= 3 /\ ZcB (nw jb ib) <= 15000
theorem ZpR {b : Nat} {ps : List (Nat × Nat)} (h : ∀ p ∈ ps, p.1 ≠ b) : ZcP b ps = 0 := by
 unfold ZcP
 rw [List.filter_eq_nil_iff.2 fun p hp => by simp [h p hp]]
 rfl
set_option maxHeartbeats 1000000 in
theorem Ztj {other dj : List UInt8} {nw : Nat -> Nat -> List (Nat × Nat)} {o : Option Zbe} {keep : Int} (h : Zjb σ υ bb mb size other dj nw o) (ho : other.length <= 5000) (hj : dj.length <= 10000) (hn : ZA2 dj other nw) (hk : -9223372036854775808 <= keep /\ keep <= 9223372036854775807)
 (hK : ∀ τ, ZvD σ τ bb mb size other o -> K (.tup []) τ) : Zan Tryz.prog 31 [ptr bb 0, .raw (.int .i64 keep)] υ K := by
 obtain ⟨S, fs, pcs, pv, jb, jv, ib, iv, im, h1, h2, rfl, rfl, h5⟩ := h.ex
 obtain ⟨l1, l2, l3⟩ := h5.len
 have hnd := h1.nd
 simp only [List.map_cons, List.nodup_cons, List.mem_cons, not_or] at hnd
 obtain ⟨n1, n2, n3, n4, n5⟩ := hn jb ib hnd.1.1
 have him : ∀ f ∈ im, ∀ p ∈ nw jb ib, p.1 ≠ f.b := fun f hf p hp e => by
  have hm : f.b ∈ im.map (·.b) := List.mem_map.2 ⟨f, hf, rfl⟩
  rcases (n1 p hp).1 with q | q
  ·exact hnd.1.2 (by rw [<- q, e]; exact hm)
  ·exact hnd.2.1 (by rw [<- q, e]; exact hm)
 refine ZrR h1 (by omega) ⟨fun p hp => (n1 p hp).2, fun f hf => ?_⟩ (by omega) (fun f hf => ?_) hk fun τ fs' g1 g2 g3 => ?_
 ·rcases List.mem_cons.1 hf with rfl | hf
  ·exact n2
  rcases List.mem_cons.1 hf with rfl | hf
  ·exact n3
  ·rw [ZpR (him f hf)]; exact Nat.zero_le _
 ·rcases List.mem_cons.1 hf with rfl | hf
  ·dsimp only; omega
  rcases List.mem_cons.1 hf with rfl | hf
  ·dsimp only; omega
  ·have := (l3 f hf).2; omega
 ·rw [Zmd] at g2
  have hz : ∀ f ∈ im, ∀ L, Ztm f.b L (nw jb ib).reverse = 0 := fun f hf L => by
   have := ZvC f.b (nw jb ib).reverse L
   rw [ZpR fun p hp => him f hf p (List.mem_reverse.1 hp)] at this
   omega
  refine hK τ ⟨?_, But.ext h.ext (fun c hc => (h2 c hc).2.1) g3⟩
  match fs', g1, g2 with
  | f0 :: f1 :: rest, g1, g2 =>
   simp only [dat, List.map_cons, List.cons.injEq, Prod.mk.injEq] at g2
   obtain ⟨⟨e1, e2, e3⟩, ⟨e4, e5, e6⟩, e7⟩ := g2
   obtain ⟨fn, fb, fv, fd⟩ := f1
   dsimp only at e4 e5 e6
   subst e4 e6
   refine ⟨S, _, f0, fb, fv, rest, _, g1, fun c hc => ⟨g3.used _ (h2 c hc).1, (h2 c hc).2⟩, rfl, e1, by rw [e3, List.length_take]; omega, ?_⟩
   cases o with
   | none =>
    obtain rfl : im = [] := h5
    show rest = []
    simpa using e7
   | some x =>
    obtain ⟨b, v, rfl, w1, w2, w3⟩ := h5
    match rest, e7 with
    | [⟨qn, qb, qv, qd⟩], e7 =>
     simp only [List.map_cons, List.map_nil, List.cons.injEq, Prod.mk.injEq, and_true] at e7
     obtain ⟨q1, q2, q3⟩ := e7
     have := hz _ (List.mem_singleton.2 rfl) ((ZcB (nw jb ib) : Int) - max keep 0).toNat
     dsimp only at this
     rw [this, Nat.sub_zero, List.take_length] at q3
     subst q1 q3
     exact ⟨qb, qv, rfl, w1, w2, w3⟩
    | [], e7 => simp at e7
    | _ :: _ :: _, e7 => simp at e7
  | [], _, g2 => simp [dat] at g2
  | [_], _, g2 => simp [dat] at g2
theorem ZAJ {other : List UInt8} (ho : other.length <= 5000) : ZA2 other other (nw1 other.length) := fun jb ib hne => by
 unfold nw1
 split
 ·exact ⟨by simp, Nat.zero_le _, Nat.zero_le _, by simp, Nat.zero_le _⟩
 ·refine ⟨fun p hp => ?_, by simp [ZcP, ZcB, Ne.symm hne], by simp [ZcP, ZcB, hne], by simp, by simp [ZcB]; omega⟩
  rcases List.mem_cons.1 hp with rfl | hp
  ·exact ⟨.inl rfl, by dsimp only; omega⟩
  ·rw [List.mem_singleton.1 hp]; exact ⟨.inr rfl, by dsimp only; omega⟩
def nw2 (n : Nat) (jb ib : Nat) : List (Nat × Nat) := nw1 n jb ib ++ if n = 0 then [] else [(jb, n)]
theorem ZAK {other : List UInt8} (ho : other.length <= 5000) : ZA2 (other ++ other) other (nw2 other.length) := fun jb ib hne => by
 unfold nw2 nw1
 by_cases h0 : other.length = 0
 ·rw [if_pos h0, if_pos h0]
  exact ⟨by simp, Nat.zero_le _, Nat.zero_le _, by simp, Nat.zero_le _⟩
 ·rw [if_neg h0, if_neg h0]
  refine ⟨fun p hp => ?_, by simp [ZcP, ZcB, Ne.symm hne], by simp [ZcP, ZcB, hne], by simp, by simp [ZcB]; omega⟩
  simp only [List.cons_append, List.nil_append, List.mem_cons, List.not_mem_nil, or_false] at hp
  rcases hp with rfl | rfl | rfl
  ·exact ⟨.inl rfl, by dsimp only; omega⟩
  ·exact ⟨.inr rfl, by dsimp only; omega⟩
  ·exact ⟨.inl rfl, by dsimp only; omega⟩
theorem ZvE {other : List UInt8} {α : Type} (a b : α) : (if other = [] then a else b) = if other.length = 0 then a else b := by
 cases other with
 | nil => rfl
 | cons x l => rw [if_neg (by simp), if_neg (by simp)]
set_option maxHeartbeats 1000000 in
theorem ZqZ {other : List UInt8} {o : Option Zbe} {v : AV} {rb : Nat} (h : Zjb σ υ bb mb size other other (nw1 other.length) o) (ho : other.length <= 5000) (hv : SV CT 0 ZbF (.sl 1 other none) v)
 (hK : ∀ τ e dj nw, Zjb σ τ bb mb size other dj nw o -> ZA2 dj other nw -> dj.length <= 10000 -> K (vI e) τ) : Zan Tryz.prog 10 [ptr bb 0, .raw (sV nmJ), .lst (some ⟨rb, 0, none⟩) 1 1 [v]] υ K := by
 obtain ⟨S, fs, pcs, pv, jb, jv, ib, iv, im, h1, h2, rfl, rfl, h5⟩ := h.ex
 obtain ⟨l1, l2, l3⟩ := h5.len
 have hpl : (nw1 other.length jb ib).length <= 2 := by unfold nw1; split <;> simp
 have hsum : Zde (⟨nmJ, jb, jv, other⟩ :: ⟨nmI, ib, iv, other⟩ :: im) <= 1000000 := by
  have : Zde (⟨nmJ, jb, jv, other⟩ :: ⟨nmI, ib, iv, other⟩ :: im) = other.length + (other.length + Zde im) := by simp [Zde]
  omega
 refine Zj7 (d := other) h1 (fun c hc => (h2 c hc).1) hv ⟨by simp [nmJ], by simp [nmJ]⟩ (by omega) (by omega) (fun _ τ hX => hK τ 8 _ _ (h.ext1 hX) (ZAJ ho) (by omega)) fun _ τ S' fs' pcs' pv' q1 q2 q3 q4 q5 q6 => ?_
 obtain ⟨v', rfl, rfl⟩ := Zxc h1 q6 List.mem_cons_self rfl
 have hnd := h1.nd
 simp only [List.map_cons, List.nodup_cons, List.mem_cons, not_or] at hnd
 refine hK τ 0 (other ++ other) (nw2 other.length) ⟨⟨S', _, _, pv', jb, v', ib, iv, im, q1, fun c hc => ⟨q5 c hc, (q4 c hc).elim (fun q => (h2 c q).2) fun q => q.of h.ext⟩, ?_, ?_, h5⟩, But.ext h.ext (fun c hc => (h2 c hc).2.1) q2⟩ (ZAK ho) (by rw [List.length_append]; omega)
 ·rw [List.map_cons, List.map_cons, Zr6, ZpJ (f := ⟨nmI, ib, iv, other⟩) (fun q => hnd.1.1 q.symm), ZpK fun f hf e => hnd.1.2 (by have e : f.b = jb := e; rw [<- e]; exact List.mem_map.2 ⟨f, hf, rfl⟩)]
 ·dsimp only
  rw [ZvE]
  rfl
abbrev ZB3 : Zbe := ⟨⟨0, 0, ⟨[], [], [], []⟩⟩, []⟩
theorem ZvF : SVs CT 0 ZbF (CT.enc 10 ZB3) ZkD := .cons (Zam.2 rfl) (.cons (Zam.2 rfl) (.cons (Zhb 0) (.cons (Zhb 0) (.cons (Zhb 0) (.cons (Zhb 0) (.cons (Zhb 1) .none))))))
theorem ZvD.ext1 {other : List UInt8} {o : Option Zbe} (h : ZvD σ υ bb mb size other o) (k : Ext υ τ) : ZvD σ τ bb mb size other o := by
 obtain ⟨S, fs, f0, ib, iv, im, m, h1, h2, h3⟩ := h.ex
 exact ⟨⟨S, fs, f0, ib, iv, im, m, h1.ext k, fun c hc => ⟨k.used _ (h2 c hc).1, (h2 c hc).2⟩, h3⟩, h.ext.trans k⟩
theorem Zsd : Zch 3 ≠ nmJ /\ Zch 3 ≠ nmI := by rw [ZqY]; decide
theorem ZvG {other : List UInt8} {o : Option Zbe} (h : ZvD σ υ bb mb size other o) (ho : other.length <= 5000)
 (hK : ∀ τ as_, SVs CT 0 ZbF (CT.enc 10 (o.getD ZB3)) as_ -> Ext υ τ -> K (.tup [.agg as_, vT o.isSome, vI 0]) τ) : Zan Tryz.prog 12 [ptr bb 0, vI ((3 : Nat) : Int)] υ K := by
 obtain ⟨S, fs, f0, ib, iv, im, m, h1, h2, rfl, h3, h4, h5⟩ := h.ex
 obtain ⟨l1, l2, l3⟩ := h5.len
 have hfl : ∀ f ∈ (f0 :: ⟨nmI, ib, iv, other.take m⟩ :: im : List Fl), f.d.length <= 1000000000 := fun f hf => by
  rcases List.mem_cons.1 hf with rfl | hf
  ·omega
  rcases List.mem_cons.1 hf with rfl | hf
  ·dsimp only; rw [List.length_take]; omega
  ·have := (l3 f hf).2; omega
 cases o with
 | none =>
  obtain rfl : im = [] := h5
  refine Zpx (g := 3) h1 hfl (by omega) ZA1 (fun f hf => ?_) fun τ hX => hK τ ZkD ZvF hX
  rcases List.mem_cons.1 hf with rfl | hf
  ·rw [h3]; exact Zsd.1.symm
  ·rw [List.mem_singleton.1 hf]; exact Zsd.2.symm
 | some x =>
  obtain ⟨b, v, rfl, w1, w2, w3⟩ := h5
  obtain ⟨i1, i2⟩ := ZqX w2 w3 w1
  have hG := Zvn (l := Zoi x) (by omega) (Zvo w2 w3 w1)
  have hbo : ZbY (Zoi x) = (x.base, some (Zr0 x.bytes)) := Zod w1
  have hro : ZvN 131072 (some (Zr0 x.bytes)) = (x.bytes, some []) := by
   have := Zoc (t := x.bytes) (r := []) (by omega)
   rwa [List.append_nil] at this
  rw [hbo] at hG
  dsimp only at hG
  rw [hro] at hG
  unfold Zkv at w2
  refine Zpy (g := 3) (f0 := ⟨Zch 3, b, v, codes [(4, Zoi x)]⟩) h1 hfl (by omega) ZA1 (List.mem_cons_of_mem _ (List.mem_cons_of_mem _ (List.mem_singleton.2 rfl))) rfl (Zvu (by omega)) hG (Nat.le_refl _) (Nat.le_refl _) (Nat.le_refl _) (Nat.le_refl _) ⟨by omega, by omega, by omega, by omega⟩ fun as_ τ hs hX => hK τ as_ ?_ hX
  simp only [List.take_length] at hs
  exact hs
theorem Znc {x : Zbe} {r : Bool} {as_ : List AV} (hx : SVs CT 0 ZbF (CT.enc 10 x) as_) (hS : Zb0 x = some (r, ())) (hK : ∀ τ, Ext σ τ -> K (vT r) τ) : Zan Tryz.prog 19 [.agg as_] σ K :=
 ZlC (Zgs.ok (x, ()) () (r, ()) hS) (.cons (ZbV.2 ⟨_, rfl, hx⟩) .none) (fun N ρ a h => ZaO.1 h) K hK
theorem Ztk {a b : List UInt8} {u v : AV} (ha : a.length <= 1000000) (h1 : SV CT 0 ZbF (.sl 1 a none) u) (h2 : SV CT 0 ZbF (.sl 1 b none) v) (hK : ∀ τ, Ext σ τ -> K (vT (decide (a = b))) τ) : Zan Tryz.prog 28 [u, v] σ K :=
 ZlC (ZcW.ok (a, b, ()) () (decide (a = b), ()) (Zl8 a b (by omega))) (.cons h1 (.cons h2 .none)) (fun N ρ a h => ZaO.1 h) K hK
theorem Zxl {e1 f : Int} (hK : K (vI (if e1 = 0 \/ f = 0 then 1 else 0)) σ) : Zan Tryz.prog 34 [vI e1, vI f] σ K := by
 refine Zay ZaF Tryz.func34 rfl rfl rfl (Nat.le_of_ble_eq_true rfl) ?_
 refine Zhx 0 1 (v0 := vI e1) (v1 := vI f) rfl rfl ?_
 intro e he
 repeat refine Zab ?_
 first|refine Zaa ?_|refine Zac ?_
 refine Zah ?_
 refine Zag ?_
 refine kp2 0 1 ?_
 clear he e
 intro e he
 repeat refine Zab ?_
 first|refine Zaa ?_|refine Zac ?_
 refine Zah ?_
 refine Zad ?_
 refine Zmi (k := .i64) (a := e1) (b := 0) rfl rfl ?_
 refine Zah ?_
 by_cases h1 : e1 = 0
 ·rw [decide_eq_true h1]
  refine Zib ?_
  refine Zib ?_
  refine Zad ?_
  refine Zbt (v := vT true) rfl rfl ?_
  refine Zag ?_
  refine kp1 10 ?_
  clear he e
  intro e he
  refine Za0 (t := true) he (fun ht => ?_) (fun ht => by cases ht)
  repeat refine Zab ?_
  first|refine Zaa ?_|refine Zac ?_
  refine Zah ?_
  refine Zag ?_
  refine kp1 4 ?_
  clear he e
  intro e he
  refine ZgI ?_
  rw [if_pos (.inl h1)] at hK
  exact ZbX (hK)
 ·rw [decide_eq_false h1]
  refine Zcp ?_
  refine ZkQ rfl he.2 ?_
  refine Zcp ?_
  refine Zmi (k := .i64) (a := f) (b := 0) rfl rfl ?_
  refine Zad ?_
  refine Zb8 (v := vT (decide (f = 0))) rfl rfl ?_
  refine Zag ?_
  refine kp1 10 ?_
  clear he e
  intro e he
  refine Za0 (t := decide (f = 0)) he (fun ht => ?_) (fun ht => ?_)
  ·repeat refine Zab ?_
   first|refine Zaa ?_|refine Zac ?_
   refine Zah ?_
   refine Zag ?_
   refine kp1 4 ?_
   clear he e
   intro e he
   refine ZgI ?_
   rw [if_pos (.inr (of_decide_eq_true ht))] at hK
   exact ZbX (hK)
  ·refine Zbh ?_
   repeat refine Zab ?_
   first|refine Zaa ?_|refine Zac ?_
   refine Zah ?_
   refine Zag ?_
   refine kp1 4 ?_
   clear he e
   intro e he
   refine Za5 ?_
   rw [if_neg (fun q => q.elim h1 (of_decide_eq_false ht))] at hK
   exact ZbX (hK)
theorem ZvH {n : Int} (h : 9223372036854775808 <= n /\ n < 18446744073709551616) : IntKind.i64.wrap n = n - 18446744073709551616 := by
 unfold IntKind.wrap
 simp [IntKind.signed, IntKind.bits]
 omega
theorem ZvI {x : Zbe} (k : Zfu x) : ∃ b, Zb0 x = some (b, ()) /\ (b = false -> x.bytes.length <= 5000 /\ Zkv x.base.config) := by
 obtain ⟨⟨_, _, ⟨h1, h2, h3, h4, _⟩, _⟩, h5, _⟩ := k
 have h1 := h1.len
 have h2 := h2.len
 have h3 := h3.len
 have h4 := h4.len
 unfold Zb0
 by_cases hb : (5000 : Int) < (x.bytes.length : Int)
 ·exact ⟨true, ZaH (dT hb) rfl, fun q => by cases q⟩
 ·refine ⟨_, ZaM (dF hb) (Zak rfl rfl), fun q => ⟨by omega, ?_⟩⟩
  have q := of_decide_eq_false q
  dsimp only at q
  rw [w64 (n := 1 + (x.base.config.voters.length : Int)) (by omega), w64 (n := 1 + (x.base.config.voters.length : Int) + x.base.config.old.length) (by omega), w64 (n := 1 + (x.base.config.voters.length : Int) + x.base.config.old.length + x.base.config.learners.length) (by omega), w64 (by omega)] at q
  unfold Zkv
  omega
theorem Zzl : Zaq Tryz.prog 69 = some 9 := by kernel_rfl
set_option maxHeartbeats 4000000 in
theorem Zog {xa xb : Zbe} {aa ab : List AV} {other : List UInt8} {vo : AV} {size keep : Int} (ka : Zfu xa) (kb : Zfu xb) (hsz : -9223372036854775808 <= size /\ size <= 9223372036854775807) (hkp : -9223372036854775808 <= keep /\ keep <= 9223372036854775807)
 (ha : SVs CT 0 ZbF (CT.enc 10 xa) aa) (hb : SVs CT 0 ZbF (CT.enc 10 xb) ab) (hvo : SV CT 0 ZbF (.sl 1 other none) vo) (hK : ∀ τ, K (vT true) τ) : Zan Tryz.prog 6 [.raw (.int .i64 size), .agg aa, .agg ab, vo, .raw (.int .i64 keep)] σ K := by
 have ha7 : aa.length = 7 := ha.len
 have hb7 : ab.length = 7 := hb.len
 obtain ⟨Ao, co, ro, rfl, hA⟩ := ZeY hvo
 obtain ⟨g1, hg1, q1⟩ := ZvI ka
 obtain ⟨g2, hg2, q2⟩ := ZvI kb
 refine Zay ZaF Tryz.func6 rfl rfl rfl (Nat.le_of_ble_eq_true rfl) ?_
 refine ZBg 0 1 2 3 4 (v0 := .raw (.int .i64 size)) (v1 := .agg aa) (v2 := .agg ab) (v3 := .lst Ao other.length co (bys other ++ ro)) (v4 := .raw (.int .i64 keep)) rfl rfl rfl rfl rfl ?_
 intro e he
 repeat refine Zab ?_
 first|refine Zaa ?_|refine Zac ?_
 refine Zad ?_
 refine Zh3 (cs := aa) he.2.1 rfl fun b6 σ1 hn1 hu1 hb1 hub1 hX1 => ?_
 refine Zad ?_
 refine Zh3 (cs := ab) he.2.2.1 rfl fun b7 σ2 hn2 hu2 hb2 hub2 hX2 => ?_
 refine Zah ?_
 refine Zag ?_
 refine kp5 0 3 4 6 7 ?_
 clear he e
 intro e he
 repeat refine Zab ?_
 first|refine Zaa ?_|refine Zac ?_
 refine ZaN [] ?_
 refine Ztg fun σ3 hX3 => ?_
 refine ZiJ ?_
 refine Zag ?_
 refine kp6 0 3 4 6 7 21 ?_
 clear he e
 intro e he
 refine Za0 (t := false) he.2.2.2.2.2 (fun ht => by cases ht) (fun ht => ?_)
 refine Zbh ?_
 have hb13 := (hX2.trans hX3).keep _ _ hb1
 have hb23 := hX3.keep _ _ hb2
 repeat refine Zab ?_
 first|refine Zaa ?_|refine Zac ?_
 refine Zad ?_
 refine Zau (b := b6) (o := 0) (r := .agg aa) he.2.2.2.1 hb13 ZcN ZbC (Zed ha7) ?_
 refine ZaN [.agg aa] ?_
 refine Znc ha hg1 fun σ4 hX4 => ?_
 refine Zah ?_
 cases g1 with
 | true =>
  refine Zib ?_
  refine Zib ?_
  refine Zad ?_
  refine Zbt (v := vT true) rfl rfl ?_
  refine Zah ?_
  refine Zib ?_
  refine Zib ?_
  refine Zib ?_
  refine Zad ?_
  refine Zbt (v := vT true) rfl rfl ?_
  refine Zag ?_
  refine kp1 32 ?_
  clear he e
  intro e he
  refine Za0 (t := true) he (fun ht => ?_) (fun ht => by cases ht)
  repeat refine Zab ?_
  first|refine Zaa ?_|refine Zac ?_
  refine Zah ?_
  refine Zag ?_
  refine kp1 10 ?_
  clear he e
  intro e he
  refine ZgI ?_
  exact ZbX (hK _)
 | false =>
 refine Zcp ?_
 refine Zau (b := b7) (o := 0) (r := .agg ab) he.2.2.2.2.1 (hX4.keep _ _ hb23) ZcN ZbC (Zed hb7) ?_
 refine Zcp ?_
 refine ZeR (vs := [.agg ab]) (by simp only [List.map_cons, List.map_nil, EV,Nat.reduceEqDiff,↓reduceIte,he];try rfl) ?_
 refine Znc hb hg2 fun σ5 hX5 => ?_
 refine Zad ?_
 refine Zb8 (v := vT g2) rfl rfl ?_
 refine Zah ?_
 cases g2 with
 | true =>
  refine Zib ?_
  refine Zib ?_
  refine Zib ?_
  refine Zad ?_
  refine Zbt (v := vT true) rfl rfl ?_
  refine Zag ?_
  refine kp1 32 ?_
  clear he e
  intro e he
  refine Za0 (t := true) he (fun ht => ?_) (fun ht => by cases ht)
  repeat refine Zab ?_
  first|refine Zaa ?_|refine Zac ?_
  refine Zah ?_
  refine Zag ?_
  refine kp1 10 ?_
  clear he e
  intro e he
  refine ZgI ?_
  exact ZbX (hK _)
 | false =>
 refine Zcp ?_
 refine ZkQ rfl he.2.1 ?_
 refine Zcp ?_
 refine ZhO (A := Ao) (n := other.length) (c := co) rfl rfl rfl Zgu ?_
 refine Zcp ?_
 refine Zp5 (k := .i64) (a := (other.length : Int)) (b := 5000) rfl rfl ?_
 refine Zad ?_
 refine Zb8 (v := vT (decide ((5000 : Int) < (other.length : Int)))) rfl rfl ?_
 refine Zag ?_
 refine kp6 0 3 4 6 7 32 ?_
 clear he e
 intro e he
 refine Za0 (t := decide ((5000 : Int) < (other.length : Int))) he.2.2.2.2.2 (fun ht => ?_) (fun ht => ?_)
 ·repeat refine Zab ?_
  first|refine Zaa ?_|refine Zac ?_
  refine Zah ?_
  refine Zag ?_
  refine kp1 10 ?_
  clear he e
  intro e he
  refine ZgI ?_
  exact ZbX (hK _)
 refine Zbh ?_
 have hol : other.length <= 5000 := by have := of_decide_eq_false ht; omega
 obtain ⟨ba, fa⟩ := q1 rfl
 obtain ⟨bb_, fb⟩ := q2 rfl
 have hb15 := (hX4.trans hX5).keep _ _ hb13
 have hb25 := (hX4.trans hX5).keep _ _ hb23
 have hs : ∃ sz : Int, IntKind.i64.wrap (4 * (other.length : Int) + (if size < 0 then 0 else size)) = sz /\ (sz < 1 \/ 4 * (other.length : Int) <= sz) := by
  refine ⟨_, rfl, ?_⟩
  by_cases hbig : 4 * (other.length : Int) + (if size < 0 then 0 else size) <= 9223372036854775807
  ·rw [w64 (by split at * <;> omega)]
   right
   split <;> omega
  ·left
   rw [ZvH (by split at * <;> omega)]
   split at * <;> omega
 obtain ⟨sz, hsz1, hfit⟩ := hs
 repeat refine Zab ?_
 first|refine Zaa ?_|refine Zac ?_
 refine Zah ?_
 refine Zad ?_
 refine ZhO (A := Ao) (n := other.length) (c := co) rfl rfl rfl Zgu ?_
 refine Zad ?_
 refine ZzI (k := .i64) (a := 4) (b := (other.length : Int)) rfl rfl (w64 (by omega)) ?_
 refine Zah ?_
 refine Zad ?_
 refine ZzJ (k := .i64) (k' := .i64) (a := size) (b := 0) rfl rfl ?_
 refine Zad ?_
 refine Zx0 (k := .i64) (a := 4 * (other.length : Int)) (b := if size < 0 then 0 else size) rfl rfl hsz1 ?_
 refine ZaN [.raw (.int .i64 sz)] ?_
 refine ZxH fun bb mb σ6 h6 hX6 hnb hnm => ?_
 refine Zah ?_
 refine Zag ?_
 refine kp5 3 4 6 7 11 ?_
 clear he e
 intro e he
 repeat refine Zab ?_
 first|refine Zaa ?_|refine Zac ?_
 refine Zah ?_
 refine Zah ?_
 refine Zad ?_
 refine Zkx (vs := [.lst Ao other.length co (bys other ++ ro)]) (cells := [.lst Ao other.length co (bys other ++ ro)]) (by simp only [List.map_cons, List.map_nil, EV,Nat.reduceEqDiff,↓reduceIte,he]; try rfl) Zn6 Zj2 Zn5 rfl (by omega) rfl rfl fun rb σ7 hN7 hX7 => ?_
 refine ZaN [ptr bb 0, .raw (sV nmJ), .lst (some ⟨rb, 0, none⟩) 1 1 [.lst Ao other.length co (bys other ++ ro)]] ?_
 have h7 := h6.ext hX7
 refine Zj7 (d := other) h7 (fun c hc => hc.elim (fun q => q ▸ h7.used) (fun q => q ▸ h7.umap)) hvo ⟨by simp [nmJ], by simp [nmJ]⟩ (by show other.length + 0 <= _; omega) (by simp) (fun hn => absurd (hfit.imp id fun q => by show ((other.length + 0 : Nat) : Int) <= sz; omega) hn) fun _ σ8 S8 fs8 pcs8 pv8 d1 d2 d3 d4 d5 d6 => ?_
 obtain ⟨jb, jv, rfl, rfl, _⟩ := Zoe d6 (by simp) d1.nd
 have hnew8 : ∀ c, S8 c -> Zei σ5 c := fun c hc => (d4 c hc).elim (fun q => q.elim (fun q => q ▸ hnb) fun q => q ▸ hnm) fun q => q.of (hX6.trans hX7)
 have hX8 : Ext σ5 σ8 := But.ext (hX6.trans hX7) (fun c hc => hc.elim (fun q => q ▸ hnb.1) fun q => q ▸ hnm.1) d2
 refine Zad ?_
 refine Zit (k := .i64) (a := 0) (b := 0) rfl rfl ?_
 refine Zah ?_
 refine Zcp ?_
 refine ZkQ rfl he.2.2.2.2 ?_
 refine Zcp ?_
 refine ZkQ rfl he.1 ?_
 refine Zcp ?_
 refine Zkx (vs := [.lst Ao other.length co (bys other ++ ro)]) (cells := [.lst Ao other.length co (bys other ++ ro)]) (by simp only [List.map_cons, List.map_nil, EV,Nat.reduceEqDiff,↓reduceIte,he]; try rfl) Zn6 Zj2 Zn5 rfl (by omega) rfl rfl fun rb2 σ9 hN9 hX9 => ?_
 refine Zcp ?_
 refine ZeR (vs := [ptr bb 0, .raw (sV nmI), .lst (some ⟨rb2, 0, none⟩) 1 1 [.lst Ao other.length co (bys other ++ ro)]]) (by simp only [List.map_cons, List.map_nil, EV,Nat.reduceEqDiff,↓reduceIte,he];try rfl) ?_
 have h9 := d1.ext hX9
 refine Zj7 (d := other) h9 (fun c hc => hX9.used _ (d5 c hc)) hvo ⟨by simp [nmI], by simp [nmI]⟩ (by simp [Zde]; omega) (by rw [List.nil_append]; split <;> simp) (fun hn => absurd (hfit.imp id fun q => by simp [Zde]; omega) hn) fun _ σ10 S10 fs10 pcs10 pv10 f1 f2 f3 f4 f5 f6 => ?_
 obtain ⟨ib, iv, rfl, rfl, _⟩ := Zoe f6 (by simp [nmJ, nmI]) f1.nd
 have hsafe : Zjb σ5 σ10 bb mb sz other other (nw1 other.length) none := ⟨⟨S10, _, _, pv10, jb, jv, ib, iv, [], f1, fun c hc => ⟨f5 c hc, (f4 c hc).elim (hnew8 c) fun q => q.of (hX8.trans hX9)⟩, rfl, by
  rw [ZvE, ZvE]; unfold nw1; split <;> rfl, rfl⟩, But.ext (hX8.trans hX9) (fun c hc => (hnew8 c hc).1) f2⟩
 refine Zcp ?_
 refine Zit (k := .i64) (a := 0) (b := 0) rfl rfl ?_
 refine Zad ?_
 refine Zb8 (v := vT false) rfl rfl ?_
 refine Zag ?_
 refine kp6 3 4 6 7 11 51 ?_
 clear he e
 intro e he
 refine Za0 (t := false) he.2.2.2.2.2 (fun ht => by cases ht) (fun ht => ?_)
 refine Zbh ?_
 clear d1 d2 d3 d4 d5 d6 f1 f2 f3 f4 f5 f6 h9 h7 h6
 repeat refine Zab ?_
 first|refine Zaa ?_|refine Zac ?_
 refine Zah ?_
 refine Zad ?_
 refine Zau (b := b6) (o := 0) (r := .agg aa) he.2.2.1 (hsafe.ext.keep _ _ hb15) ZcN ZbC (Zed ha7) ?_
 refine ZaN [ptr bb 0, vI ((3 : Nat) : Int), .agg aa] ?_
 refine ZpQ hsafe hol ha fa ba fun σ11 ea oa hoa hs11 => ?_
 refine Zah ?_
 refine Zag ?_
 refine kp6 3 4 6 7 11 12 ?_
 clear he e
 intro e he
 repeat refine Zab ?_
 first|refine Zaa ?_|refine Zac ?_
 refine Zah ?_
 refine Zad ?_
 refine Zau (b := b7) (o := 0) (r := .agg ab) he.2.2.2.1 (hs11.ext.keep _ _ hb25) ZcN ZbC (Zed hb7) ?_
 refine ZaN [ptr bb 0, vI ((3 : Nat) : Int), .agg ab] ?_
 refine ZpQ hs11 hol hb fb bb_ fun σ12 eb ob hob hs12 => ?_
 refine Zah ?_
 refine Zag ?_
 refine kp7 3 4 6 7 11 12 13 ?_
 clear he e
 intro e he
 repeat refine Zab ?_
 first|refine Zaa ?_|refine Zac ?_
 refine Zah ?_
 refine ZaN [ptr bb 0] ?_
 obtain ⟨S, fs, pcs, pv, jb', jv', ib', iv', im, w1, w2, rfl, rfl, w5⟩ := hs12.ex
 have hwl : ZcB (nw1 other.length jb' ib') = 2 * other.length /\ (nw1 other.length jb' ib').length <= 2 := by
  unfold nw1
  split
  ·rename_i h0; rw [h0]; exact ⟨rfl, by simp⟩
  ·exact ⟨by simp [ZcB]; omega, by simp⟩
 refine ZwG w1 (by omega) (by omega) fun σ13 hX13 => ?_
 refine Zah ?_
 refine Zag ?_
 refine kp8 3 4 6 7 11 12 13 14 ?_
 clear he e
 intro e he
 repeat refine Zab ?_
 first|refine Zaa ?_|refine Zac ?_
 refine Zah ?_
 refine Zah ?_
 refine Zad ?_
 refine ZhO (A := Ao) (n := other.length) (c := co) rfl rfl rfl Zgu ?_
 refine Zad ?_
 refine ZzI (k := .i64) (a := 2) (b := (other.length : Int)) rfl rfl (w64 (by omega)) ?_
 refine Zad ?_
 refine Zit (k := .i64) (a := (ZcB (nw1 other.length jb' ib') : Int)) (b := 2 * (other.length : Int)) rfl rfl ?_
 refine Zag ?_
 refine kp8 3 4 6 7 11 12 13 64 ?_
 clear he e
 intro e he
 refine Za0 (t := decide ((ZcB (nw1 other.length jb' ib') : Int) ≠ 2 * (other.length : Int))) he.2.2.2.2.2.2.2 (fun ht => absurd (by rw [hwl.1]; omega) (of_decide_eq_true ht)) (fun ht => ?_)
 refine Zbh ?_
 have hs13 := hs12.ext1 hX13
 clear w1 w2 w5 hwl ht
 repeat refine Zab ?_
 first|refine Zaa ?_|refine Zac ?_
 refine Zah ?_
 refine Zah ?_
 refine Zad ?_
 refine Zkx (vs := [.lst Ao other.length co (bys other ++ ro)]) (cells := [.lst Ao other.length co (bys other ++ ro)]) (by simp only [List.map_cons, List.map_nil, EV,Nat.reduceEqDiff,↓reduceIte,he]; try rfl) Zn6 Zj2 Zn5 rfl (by omega) rfl rfl fun rb3 σ14 hN14 hX14 => ?_
 refine ZaN [ptr bb 0, .raw (sV nmJ), .lst (some ⟨rb3, 0, none⟩) 1 1 [.lst Ao other.length co (bys other ++ ro)]] ?_
 refine ZqZ (hs13.ext1 hX14) hol hvo fun σ15 er dj nw hs15 hnw hdj => ?_
 refine Zag ?_
 refine kp7 3 4 6 7 11 12 13 ?_
 clear he e
 intro e he
 repeat refine Zab ?_
 first|refine Zaa ?_|refine Zac ?_
 refine Zah ?_
 refine Zah ?_
 refine ZaN [ptr bb 0, .raw (.int .i64 keep)] ?_
 refine Ztj hs15 hol hdj hnw hkp fun σ16 h16 => ?_
 refine Zag ?_
 refine kp6 3 6 7 11 12 13 ?_
 clear he e
 intro e he
 repeat refine Zab ?_
 first|refine Zaa ?_|refine Zac ?_
 refine Zah ?_
 refine ZaN [ptr bb 0, vI ((3 : Nat) : Int)] ?_
 refine ZvG h16 hol fun σ17 xs hxs hX17 => ?_
 have hx7 : xs.length = 7 := hxs.len
 have hone : xs.all AV.one = true := List.all_eq_true.2 (hxs.ones (List.all_eq_true.1 (show (CT.enc 10 (ob.getD ZB3)).all XV.one = true from rfl)))
 refine Zah ?_
 refine Zad ?_
 refine ZaK (l := [.agg xs, vT ob.isSome, vI 0]) rfl rfl ?_
 refine Zad ?_
 refine ZaK (l := [.agg xs, vT ob.isSome, vI 0]) rfl rfl ?_
 refine Zad ?_
 refine ZaK (l := [.agg xs, vT ob.isSome, vI 0]) rfl rfl ?_
 refine Zad ?_
 refine Zdn (cs := ZkD) Zha rfl fun b15 σ18 hn18 hu18 hb18 hub18 hX18 => ?_
 refine Zad ?_
 refine Zcs (b := b15) (o := 0) (u := .agg xs) (cs' := xs) rfl rfl hb18 ZbC (by simp [Zdc, hx7, hone, ZkD]) (by simp [ZaC, hx7, ZkD]) fun σ19 hb19 k19 => ?_
 refine Zah ?_
 refine Zah ?_
 refine Zag ?_
 refine kp9 3 6 7 11 12 13 15 16 17 ?_
 clear he e
 intro e he
 have hX19 : Ext σ16 σ19 := But.ext (hX17.trans hX18) (fun c hc => by rw [hc]; exact hX17.noneOf hn18) k19
 have h19 := h16.ext1 hX19
 have hc1 := h19.ext.keep _ _ hb15
 have hc2 := h19.ext.keep _ _ hb25
 obtain ⟨S, fs, f0, ib'', iv'', im'', m, w1, w2, rfl, w3, w4, w5⟩ := h19.ex
 obtain ⟨l1, l2, l3⟩ := w5.len
 repeat refine Zab ?_
 first|refine Zaa ?_|refine Zac ?_
 refine Zah ?_
 refine ZaN [ptr bb 0, .raw (sV nmI)] ?_
 refine Zl1 w1 (fun f hf => ?_) (fun hn => absurd rfl (hn ⟨nmI, ib'', iv'', other.take m⟩ (by simp))) fun f hf hfn v σ20 hv hX20 => ?_
 ·rcases List.mem_cons.1 hf with rfl | hf
  ·omega
  rcases List.mem_cons.1 hf with rfl | hf
  ·dsimp only; rw [List.length_take]; omega
  ·have := (l3 f hf).2; omega
 obtain rfl : f = ⟨nmI, ib'', iv'', other.take m⟩ := w1.uniqN hf (by simp) hfn
 dsimp only at hv
 obtain ⟨As, cs_, rs, rfl, hAs⟩ := ZeY hv
 refine Zah ?_
 refine Zad ?_
 refine ZaK (l := [.lst As (other.take m).length cs_ (bys (other.take m) ++ rs), vT true]) rfl rfl ?_
 refine Zad ?_
 refine ZaK (l := [.lst As (other.take m).length cs_ (bys (other.take m) ++ rs), vT true]) rfl rfl ?_
 refine Zah ?_
 refine Zah ?_
 refine Zag ?_
 refine ZCB 3 6 7 11 12 13 15 16 17 18 ?_
 clear he e
 intro e he
 have hml : (other.take m).length <= other.length := by rw [List.length_take]; omega
 repeat refine Zab ?_
 first|refine Zaa ?_|refine Zac ?_
 refine Zah ?_
 refine Zad ?_
 refine Zit (k := .i64) (a := 0) (b := 0) rfl rfl ?_
 refine Zah ?_
 refine Zcp ?_
 refine ZkQ rfl he.2.2.2.2.2.2.2.2.2 ?_
 refine Zcp ?_
 refine ZhO (A := As) (n := (other.take m).length) (c := cs_) rfl rfl rfl Zgu ?_
 refine Zcp ?_
 refine ZkQ rfl he.1 ?_
 refine Zcp ?_
 refine ZhO (A := Ao) (n := other.length) (c := co) rfl rfl rfl Zgu ?_
 refine Zcp ?_
 refine Zp5 (k := .i64) (a := ((other.take m).length : Int)) (b := (other.length : Int)) rfl rfl ?_
 rw [decide_eq_false (by omega : ¬ (other.length : Int) < ((other.take m).length : Int))]
 refine Zad ?_
 refine Zb8 (v := vT false) rfl rfl ?_
 refine Zah ?_
 refine Zcp ?_
 refine ZkQ rfl he.2.2.2.2.2.2.2.2.2 ?_
 refine Zcp ?_
 refine ZkQ rfl he.1 ?_
 refine Zcp ?_
 refine ZkQ rfl he.2.2.2.2.2.2.2.2.2 ?_
 refine Zcp ?_
 refine ZhO (A := As) (n := (other.take m).length) (c := cs_) rfl rfl rfl Zgu ?_
 refine Zcp ?_
 refine Zx8 (f := fun u : UInt8 => AV.raw (.int .u8 (u.toNat : Int))) (xs := other) (l := 0) (u := (other.take m).length) (ix := [.raw (.int .i64 ((other.take m).length : Int))]) rfl hA (by simp only [Option.toList, List.cons_append, List.nil_append, List.map_cons, List.map_nil, EV,Nat.reduceEqDiff,↓reduceIte,he]; try rfl) Zgu (by kernel_rfl) (ZtF rfl) (Nat.zero_le _) hml fun A' rest' ys hys hL => ?_
 have hys2 : ys = other.take m := by
  rw [hys, List.drop_zero, Nat.sub_zero, List.length_take, List.take_eq_take_iff]
  omega
 refine Zcp ?_
 refine ZeR (vs := [.lst As (other.take m).length cs_ (bys (other.take m) ++ rs), .lst A' ys.length (co - 0) (bys ys ++ rest')]) (by simp only [List.map_cons, List.map_nil, EV,Nat.reduceEqDiff,↓reduceIte,he];try rfl) ?_
 refine Ztk (by omega) hv (ZrJ hL) fun σ21 hX21 => ?_
 rw [decide_eq_true hys2.symm]
 refine Zcp ?_
 refine ZrA (b := true) rfl ?_
 refine Zad ?_
 refine Zb8 (v := vT false) rfl rfl ?_
 refine Zah ?_
 refine Zcp ?_
 refine ZkQ rfl he.2.2.2.1 ?_
 refine Zcp ?_
 refine ZeR (vs := [ptr bb 0]) (by simp only [List.map_cons, List.map_nil, EV,Nat.reduceEqDiff,↓reduceIte,he];try rfl) ?_
 refine Zxi (w1.ext (hX20.trans hX21)) (fun f hf => ?_) (by simp; omega) fun vn σ22 hvn hX22 hnn => ?_
 ·rcases List.mem_cons.1 hf with rfl | hf
  ·rw [w3]; simp [nmJ]
  rcases List.mem_cons.1 hf with rfl | hf
  ·simp [nmI]
  ·rw [(l3 f hf).1, ZqY]; simp
 refine Zcp ?_
 refine ZhP rfl hvn rfl Zzl ?_
 refine Zcp ?_
 refine ZkQ rfl he.2.2.2.2.1 ?_
 refine Zcp ?_
 refine ZkQ rfl he.2.2.2.2.2.1 ?_
 refine Zcp ?_
 refine ZeR (vs := [vI ea, vI eb]) (by simp only [List.map_cons, List.map_nil, EV,Nat.reduceEqDiff,↓reduceIte,he];try rfl) ?_
 refine Zxl ?_
 have hcnt : (((srt ((f0 :: ⟨nmI, ib'', iv'', other.take m⟩ :: im'' : List Fl).map (·.nm))).length : Nat) : Int) = 2 + (if ea = 0 \/ eb = 0 then 1 else 0) := by
  rw [(Zsb _).length_eq, List.length_map]
  rcases hob with ⟨rfl, rfl⟩ | ⟨hbe, rfl⟩
  ·obtain ⟨b, v, rfl, _⟩ := w5
   rw [if_pos (.inr rfl)]; rfl
  ·rcases hoa with ⟨rfl, rfl⟩ | ⟨hae, rfl⟩
   ·obtain ⟨b, v, rfl, _⟩ := w5
    rw [if_pos (.inl rfl)]; rfl
   ·obtain rfl : im'' = [] := w5
    rw [if_neg (fun q => q.elim hae hbe)]; rfl
 refine Zcp ?_
 refine Zx0 (k := .i64) (a := 2) (b := if ea = 0 \/ eb = 0 then 1 else 0) rfl rfl (w64 (by split <;> omega)) ?_
 refine Zcp ?_
 refine Zit (k := .i64) (a := ((srt ((f0 :: ⟨nmI, ib'', iv'', other.take m⟩ :: im'' : List Fl).map (·.nm))).length : Int)) (b := 2 + (if ea = 0 \/ eb = 0 then 1 else 0)) rfl rfl ?_
 have hd : decide (((srt ((f0 :: ⟨nmI, ib'', iv'', other.take m⟩ :: im'' : List Fl).map (·.nm))).length : Int) ≠ 2 + (if ea = 0 \/ eb = 0 then 1 else 0)) = false := decide_eq_false (fun q => q hcnt)
 rw [hd]
 refine Zad ?_
 refine Zb8 (v := vT false) rfl rfl ?_
 refine Zag ?_
 refine kp7 6 7 12 13 15 16 110 ?_
 clear he e
 intro e he
 refine Za0 (t := false) he.2.2.2.2.2.2 (fun ht => by cases ht) (fun ht => ?_)
 refine Zbh ?_
 have hX22' := (hX20.trans hX21).trans hX22
 have c1 := hX22'.keep _ _ hc1
 have c2 := hX22'.keep _ _ hc2
 have c3 := hX22'.keep _ _ hb19
 refine ZdI ?_
 repeat refine Zab ?_
 first|refine Zaa ?_|refine Zac ?_
 refine Zah ?_
 refine Zad ?_
 refine Zmi (k := .i64) (a := eb) (b := 0) rfl rfl ?_
 refine Zah ?_
 refine Zag ?_
 refine kp6 6 7 12 15 16 111 ?_
 clear he e
 intro e he
 refine ZcM (t := decide (eb = 0)) he.2.2.2.2.2 (fun ht => ?_) (fun ht => ?_)
 ·have hob : ob = some xb := hob.elim (·.2) fun q => absurd (of_decide_eq_true ht) q.1
  subst hob
  repeat refine Zab ?_
  first|refine Zaa ?_|refine Zac ?_
  refine Zah ?_
  refine Zah ?_
  refine Zcp ?_
  refine Zau (b := b15) (o := 0) (r := .agg xs) he.2.2.2.1 c3 ZcN ZbC (Zed hx7) ?_
  refine Zcp ?_
  refine Zau (b := b7) (o := 0) (r := .agg ab) he.2.1 c2 ZcN ZbC (Zed hb7) ?_
  refine Zcp ?_
  refine ZeR (vs := [.agg xs, .agg ab]) (by simp only [List.map_cons, List.map_nil, EV,Nat.reduceEqDiff,↓reduceIte,he];try rfl) ?_
  refine Zi2 hxs hb (Zgw fb bb_) fun σ23 hX23 => ?_
  refine Zad ?_
  refine Zbt (v := vT true) rfl rfl ?_
  refine Zah ?_
  refine Zag ?_
  refine kp1 10 ?_
  clear he e
  intro e he
  refine ZgI ?_
  exact ZbX (hK _)
 repeat refine Zab ?_
 first|refine Zaa ?_|refine Zac ?_
 refine Zah ?_
 refine Zad ?_
 refine Zmi (k := .i64) (a := ea) (b := 0) rfl rfl ?_
 refine Zah ?_
 refine Zag ?_
 refine kp4 6 15 16 120 ?_
 clear he e
 intro e he
 have hob : ob = oa := hob.elim (fun q => absurd q.1 (of_decide_eq_false ht)) (·.2)
 subst hob
 clear ht
 refine ZcM (t := decide (ea = 0)) he.2.2.2 (fun ht => ?_) (fun ht => ?_)
 ·have hoa : ob = some xa := hoa.elim (·.2) fun q => absurd (of_decide_eq_true ht) q.1
  subst hoa
  repeat refine Zab ?_
  first|refine Zaa ?_|refine Zac ?_
  refine Zah ?_
  refine Zah ?_
  refine Zcp ?_
  refine Zau (b := b15) (o := 0) (r := .agg xs) he.2.1 c3 ZcN ZbC (Zed hx7) ?_
  refine Zcp ?_
  refine Zau (b := b6) (o := 0) (r := .agg aa) he.1 c1 ZcN ZbC (Zed ha7) ?_
  refine Zcp ?_
  refine ZeR (vs := [.agg xs, .agg aa]) (by simp only [List.map_cons, List.map_nil, EV,Nat.reduceEqDiff,↓reduceIte,he];try rfl) ?_
  refine Zi2 hxs ha (Zgw fa ba) fun σ23 hX23 => ?_
  refine Zad ?_
  refine Zbt (v := vT true) rfl rfl ?_
  refine Zah ?_
  refine Zag ?_
  refine kp1 10 ?_
  clear he e
  intro e he
  refine ZgI ?_
  exact ZbX (hK _)
 have hoa : ob = none := hoa.elim (fun q => absurd q.1 (of_decide_eq_false ht)) (·.2)
 subst hoa
 refine Ze7 ?_
 show ZaG _ _ _ _ _ _
 repeat refine Zab ?_
 first|refine Zaa ?_|refine Zac ?_
 refine Zah ?_
 refine ZiJ ?_
 refine Zah ?_
 refine Zcp ?_
 refine Zau (b := b15) (o := 0) (r := .agg xs) he.2.1 c3 ZcN ZbC (Zed hx7) ?_
 refine Zcp ?_
 refine Zf3 (vs := []) (cells := ZkD) rfl Zha Zvb rfl ?_
 refine Zcp ?_
 refine ZeR (vs := [.agg xs, .agg ZkD]) (by simp only [List.map_cons, List.map_nil, EV,Nat.reduceEqDiff,↓reduceIte,he];try rfl) ?_
 refine Zi2 hxs ZvF (Zgw (by unfold Zkv; decide) (by decide)) fun σ23 hX23 => ?_
 refine Zad ?_
 refine Zbt (v := vT true) rfl rfl ?_
 refine Zah ?_
 refine Zag ?_
 refine kp1 10 ?_
 clear he e
 intro e he
 refine Za5 ?_
 exact ZbX (hK _)
theorem ZpS (x0 : Int) (x1 x2 : Zbe) (x3 : List UInt8) (x4 : Int) (k0 : ZjA x0) (k1 : Zfu x1) (k2 : Zfu x2) (k3 : ZlI x3) (k4 : ZjA x4) : Tr CT Tryz.prog (fun _ => True) 6 [.int .i64 x0, .agg (CT.enc 10 x1), .agg (CT.enc 10 x2), .sl 1 x3 none, .int .i64 x4] [] (.bool true) [] := by
 intro ρ σ vs hs _
 obtain ⟨a0, b0, rfl, s0, hs⟩ := hs.to
 obtain ⟨a1, b1, rfl, s1, hs⟩ := hs.to
 obtain ⟨a2, b2, rfl, s2, hs⟩ := hs.to
 obtain ⟨a3, b3, rfl, s3, hs⟩ := hs.to
 obtain ⟨a4, rfl, s4⟩ := Zef.1 hs
 obtain rfl := Zam.1 s0
 obtain rfl := Zam.1 s4
 have s3 : SV CT 0 ZbF (.sl 1 x3 none) a3 := SVs.shut s3 (by intro x hx; rw [List.mem_singleton.1 hx]; rfl)
 obtain ⟨c1, rfl, u1⟩ := ZbV.1 s1
 obtain ⟨c2, rfl, u2⟩ := ZbV.1 s2
 have u1 : SVs CT 0 ZbF (CT.enc 10 x1) c1 := SVs.shut u1 (List.all_eq_true.1 (show (CT.enc 10 x1).all XV.closed = true from rfl))
 have u2 : SVs CT 0 ZbF (CT.enc 10 x2) c2 := SVs.shut u2 (List.all_eq_true.1 (show (CT.enc 10 x2).all XV.closed = true from rfl))
 refine ZsK (Zog k1 k2 (InK.i64 k0) (InK.i64 k4) u1 u2 s3 fun τ => rfl) (fun w B => Zaz _) _ fun τ hX => ?_
 exact ⟨ρ, ZaO.2 rfl, ZxC _, Nat.zero_le _, fun i hi => absurd hi (Nat.not_lt_zero i), ⟨fun b k _ hk => hX.keep _ _ hk, hX.used⟩, fun b ⟨i, x, hx, _⟩ => by simp at hx⟩
end
end Go.Proofs.YteempnebenjkmaaGreatDoor
