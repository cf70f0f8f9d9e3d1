/- A disk's functions, by hand: what is known, made, read; what waits. -/
import Derived.Test.YtinpiaibhjmfaaaDk
import Derived.Test.YtinpiaibhjmfaaaDl
import Derived.Test.YtinpiaibhjmfaaaG0
import Derived.Test.YtinpiaibhjmfaaaPl
namespace Go.Proofs.Ytinpiaibhjmfaaa
open Go.RowKit
set_option maxRecDepth 100000
set_option linter.unusedVariables false
set_option linter.unusedSimpArgs false
theorem ZtR (d : List UInt8) : d.flatMap (CT.enc 1) = d.map fun b => XV.int .u8 (b.toNat : Int) := by
 induction d with
 | nil => rfl
 | cons x d ih => rw [List.flatMap_cons, ih]; rfl
theorem ZtS {N : Nat} {ρ : Nat -> AV} (d : List UInt8) : SVs CT N ρ (d.flatMap (CT.enc 1)) (bys d) := by
 rw [ZtR]
 exact Zl1 d
theorem Znk {N : Nat} {ρ : Nat -> AV} : ∀ {d : List UInt8} {cs : List AV}, SVs CT N ρ (d.flatMap (CT.enc 1)) cs -> cs = bys d
 | [], cs, h => Za4.1 h
 | b :: d, cs, h => by
  rw [List.flatMap_cons] at h
  obtain ⟨a, as_, rfl, h1, h2⟩ := SVs.to (v := XV.int .u8 (b.toNat : Int)) h
  rw [Znk h2, Zap.1 h1]
  rfl
theorem Zra {N : Nat} {ρ : Nat -> AV} {d : List UInt8} {a : AV} (h : SV CT N ρ (.sl 1 d none) a) : ∃ A c rest, a = .lst A d.length c (bys d ++ rest) /\ Lst A d.length c := by
 obtain ⟨A, c, cs, rest, rfl, l1, l2, l3, l4, l5⟩ := ZcC.1 h
 rw [Znk l5]
 exact ⟨A, c, rest, rfl, l1, l2, l3, l4⟩
theorem Znl {N : Nat} {ρ : Nat -> AV} {d : List UInt8} {A : Option Addr} {c : Nat} {rest : List AV} (h : Lst A d.length c) : SV CT N ρ (.sl 1 d none) (.lst A d.length c (bys d ++ rest)) :=
 ZcC.2 ⟨A, c, bys d, rest, rfl, h.le, h.most, h.small, h.none, ZtS d⟩
theorem Zom {σ : St} {d : List UInt8} {v : AV} (hv : SV CT 0 Zf2 (.sl 1 d none) v) (hl : d.length <= 1000000000) (K : AV -> St -> Prop) (hK : ∀ a τ, Hd τ 5 1 a d.length (bys d) -> Ext σ τ -> (∀ b, hbk a = some b -> Zde σ b) -> K a τ) : Zau Try.prog 41 [v] σ K := by
 refine Znc (Zmb.ok (d, ()) () (d.length, (d, ())) ?_) hv (Nat.le_refl _) K fun a τ cells h1 h2 h3 h4 => ?_
 ·show ZhI d = _
  unfold ZhI
  exact Zud (by omega) rfl
 ·have := Znk (h2 0 Zf2)
  rw [List.take_length] at this
  subst this
  exact hK a τ h1 h3 h4
theorem Zlf {σ : St} {d : List UInt8} {v : AV} (hv : Hd σ 5 1 v d.length (bys d)) (hl : d.length <= 1000000000) (K : AV -> St -> Prop) (hK : ∀ a τ, Hd τ 5 1 a d.length (bys d) -> Ext σ τ -> (∀ b, hbk a = some b -> Zde σ b) -> K a τ) : Zau Try.prog 41 [v] σ K := by
 obtain ⟨A, c, hL, l1, l2, l3⟩ := hv.lends (G := fun b => hbk v = some b) (fun b hb => hb) (ZcD.refl _)
 refine ZsD (G := fun b => hbk v = some b) (Q := fun cells => cells = bys d) (args' := [.lst A d.length c (bys d)]) (fun b hb => ?_) (show ZcD _ _ [v] _ from ⟨hL, trivial⟩) ?_ (fun cells hq => by rw [hq]; exact Zpx d) K fun a τ cells h1 h2 h3 h4 => hK a τ (h2 ▸ h1) h3 h4
 ·obtain ⟨all, h1⟩ := hv.blk hb
  exact ⟨_, _, h1, hv.used hb⟩
 ·refine Zom (by rw [<- List.append_nil (bys d)]; exact Znl ⟨l1, l2, by omega, l3⟩) hl _ fun a τ h1 h2 h3 => ⟨_, h1, rfl, h2, h3⟩
section
variable {σ : St} {bb mb : Nat} {S : Nat -> Prop} {fs : List Fl} {pcs : List (Nat × Nat)} {size : Int} {pv : AV} {K : AV -> St -> Prop}
theorem Zd7 (h : DAt σ bb S fs pcs size mb pv) (hK : K (vT true) σ) : Zau Try.prog 34 [ptr bb 0] σ K := by
 refine ZaA ZaL Try.func34 rfl rfl rfl (Nat.le_of_ble_eq_true rfl) ?_
 refine ZdU 0 (v0 := ptr bb 0) rfl ?_
 intro e he
 refine Zaa ?_
 refine Zab (Zai rfl (by simp only [EV, Nat.reduceEqDiff, ↓reduceIte, he] <;> try rfl) ?_)
 refine Zah ?_
 apply ZdU 0
 ·simp only [EV, Nat.reduceEqDiff, ↓reduceIte, he] <;> try rfl
 clear he e
 intro e he
 refine Zaa ?_
 refine Zab (Zai rfl (by simp only [EV, Nat.reduceEqDiff, ↓reduceIte, he] <;> try rfl) ?_)
 refine Zab ?_
 refine Zgm (p := some ⟨bb, 0, none⟩) ZtN (by simp only [EV, Nat.reduceEqDiff, ↓reduceIte, he] <;> try rfl) rfl (by simp only [EV, Nat.reduceEqDiff, ↓reduceIte, he] <;> try rfl) ?_
 refine Zab (Zai rfl (by simp only [EV, Nat.reduceEqDiff, ↓reduceIte, he] <;> try rfl) ?_)
 refine Zab (Zag (ZbV rfl (by simp only [EV, Nat.reduceEqDiff, ↓reduceIte, he] <;> try rfl)) ?_)
 refine Zai rfl (by simp only [EV, Nat.reduceEqDiff, ↓reduceIte, he] <;> try rfl) ?_
 refine Zab (Zag (ZbV rfl (by simp only [EV, Nat.reduceEqDiff, ↓reduceIte, he] <;> try rfl)) ?_)
 refine Zam (v := ptr bb 0) (by simp only [EV, Nat.reduceEqDiff, ↓reduceIte, he] <;> try rfl) rfl ?_
 refine Zab (Zag (ZbV rfl (by simp only [EV, Nat.reduceEqDiff, ↓reduceIte, he] <;> try rfl)) ?_)
 refine Zae (b := bb) (o := 0) (by simp only [EV, Nat.reduceEqDiff, ↓reduceIte, he] <;> try rfl) Za3 rfl ?_
 refine Zab (Zag (ZbV rfl (by simp only [EV, Nat.reduceEqDiff, ↓reduceIte, he] <;> try rfl)) ?_)
 refine Zar (b := bb) (o := 0 + 1) (r := Zbv mb) (by simp only [EV, Nat.reduceEqDiff, ↓reduceIte, he] <;> try rfl) h.obj ZcN ZcM rfl ?_
 refine Zab (Zag (ZbV rfl (by simp only [EV, Nat.reduceEqDiff, ↓reduceIte, he] <;> try rfl)) ?_)
 refine Zq3 Zd6 (by simp only [EV, Nat.reduceEqDiff, ↓reduceIte, he] <;> try rfl) (by simp only [EV, Nat.reduceEqDiff, ↓reduceIte, he] <;> try rfl) ?_
 refine Zab ?_
 refine ZbP (v := vT true) (by simp only [EV, Nat.reduceEqDiff, ↓reduceIte, he] <;> try rfl) (by simp only [EV, Nat.reduceEqDiff, ↓reduceIte, he] <;> try rfl) ?_
 refine Zab (Zai rfl (by simp only [EV, Nat.reduceEqDiff, ↓reduceIte, he] <;> try rfl) ?_)
 refine Zah ?_
 refine ZaW ?_
 show ∃ r, Zan _ _ _ _ r /\ _
 exact ⟨_, ZaD rfl (by simp only [EV, Nat.reduceEqDiff, ↓reduceIte, he] <;> try rfl), hK⟩
theorem ZpP {sz : Int} (hK : ∀ bb mb τ, DAt τ bb (fun b => b = bb \/ b = mb) [] [] sz mb (.lst none 0 0 []) -> Ext σ τ -> Zde σ bb -> Zde σ mb -> K (ptr bb 0) τ) : Zau Try.prog 9 [.raw (.int .i64 sz)] σ K := by
 refine ZaA ZaL Try.func9 rfl rfl rfl (Nat.le_of_ble_eq_true rfl) ?_
 refine ZdU 0 (v0 := .raw (.int .i64 sz)) rfl ?_
 intro e he
 refine Zaa ?_
 refine Zab (Zai rfl (by simp only [EV, Nat.reduceEqDiff, ↓reduceIte, he] <;> try rfl) ?_)
 refine Zah ?_
 apply ZdU 0
 ·simp only [EV, Nat.reduceEqDiff, ↓reduceIte, he] <;> try rfl
 clear he e
 intro e he
 refine Zaa ?_
 refine Zab ?_
 refine Zg5 (hm := Zd6) fun mb hu1 hn1 => ?_
 refine Zab (Zai rfl (by simp only [EV, Nat.reduceEqDiff, ↓reduceIte, he] <;> try rfl) ?_)
 refine Zab ?_
 refine ZhU (vs := [Zbv mb, .raw (.int .i64 sz)]) (cells := [.lst none 0 0 [], Zbv mb, .raw (.int .i64 sz)]) (by simp only [List.map_cons, List.map_nil, EV, Nat.reduceEqDiff, ↓reduceIte, he]; try rfl) ZsE ZsF rfl ?_
 refine Zab ?_
 refine ZfU (by simp only [EV, Nat.reduceEqDiff, ↓reduceIte, he] <;> try rfl) rfl fun bb τ hn2 hu2 hb2 hub2 hX2 => ?_
 refine Zab (Zai rfl (by simp only [EV, Nat.reduceEqDiff, ↓reduceIte, he] <;> try rfl) ?_)
 refine Zah ?_
 refine ZaW ?_
 show ∃ r, Zan _ _ _ _ r /\ _
 have hX1 : Ext σ (σ.put mb (.map [])) := Ext.put _ hn1
 have hmb : τ.blk mb = some (.map []) := hX2.keep _ _ (ZaE _ _ _)
 refine ⟨_, ZaD rfl (by simp only [EV, Nat.reduceEqDiff, ↓reduceIte, he] <;> try rfl), hK bb mb τ ⟨hb2, hub2, hmb, hX2.used _ (.inr rfl), fun f hf => by simp at hf, .nil, .nil, fun f hf => by simp at hf, ⟨rfl, by simp [pcC], .inl ⟨.inl rfl, rfl⟩⟩, ⟨.inl rfl, .inr rfl, fun f hf => by simp at hf, fun x hx => by cases hx⟩, fun p hp => by simp at hp⟩ (hX1.trans hX2) (Zde.of ⟨hn2, hu2⟩ hX1) ⟨hn1, hu1⟩⟩
set_option maxHeartbeats 1000000 in
theorem Zlg (h : DAt σ bb S fs pcs size mb pv) (hs : ZbG pcs <= 1000000000) (hl : pcs.length <= 1000000000) (hK : ∀ τ, Ext σ τ -> K (.raw (.int .i64 (ZbG pcs : Int))) τ) : Zau Try.prog 42 [ptr bb 0] σ K := by
 have hps := h.pc
 refine ZaA ZaL Try.func42 rfl rfl rfl (Nat.le_of_ble_eq_true rfl) ?_
 refine ZdU 0 (v0 := ptr bb 0) rfl ?_
 intro e he
 refine Zaa ?_
 refine Zab (Zai rfl (by simp only [EV, Nat.reduceEqDiff, ↓reduceIte, he] <;> try rfl) ?_)
 refine Zah ?_
 refine Zaa ?_
 refine Zab (Zai rfl (by simp only [EV, Nat.reduceEqDiff, ↓reduceIte, he] <;> try rfl) ?_)
 refine Zah ?_
 apply ZcX 0 2 3
 ·simp only [EV, Nat.reduceEqDiff, ↓reduceIte, he] <;> try rfl
 ·simp only [EV, Nat.reduceEqDiff, ↓reduceIte, he] <;> try rfl
 ·simp only [EV, Nat.reduceEqDiff, ↓reduceIte, he] <;> try rfl
 clear he e
 intro e he
 refine Zcq (fun env υ => env 3 = vI (ZbG pcs) /\ Ext σ υ) ?_ ?_
 ·first | refine Zaa ?_ | refine Zad ?_ | (refine Zac ?_; refine Zaa ?_) | (refine Zac ?_; refine Zac ?_; refine Zaa ?_)
  refine Zab (Zai rfl (by simp only [EV, Nat.reduceEqDiff, ↓reduceIte, he] <;> try rfl) ?_)
  refine Zab ?_
  refine Zam (v := ptr bb 0) (by simp only [EV, Nat.reduceEqDiff, ↓reduceIte, he] <;> try rfl) rfl ?_
  refine Zab ?_
  refine Zae (b := bb) (o := 0) (by simp only [EV, Nat.reduceEqDiff, ↓reduceIte, he] <;> try rfl) Zca rfl ?_
  refine Zab ?_
  refine Zar (b := bb) (o := 0) (r := pv) (by simp only [EV, Nat.reduceEqDiff, ↓reduceIte, he] <;> try rfl) h.obj Zdf Zcb rfl ?_
  refine Zab ?_
  refine ZcT (by simp only [EV, Nat.reduceEqDiff, ↓reduceIte, he] <;> try rfl) hps rfl Zbt ?_
  refine Zab (Zai rfl (by simp only [EV, Nat.reduceEqDiff, ↓reduceIte, he] <;> try rfl) ?_)
  refine Zah ?_
  apply Zcm 3 9 10 11
  ·simp only [EV, Nat.reduceEqDiff, ↓reduceIte, he] <;> try rfl
  ·simp only [EV, Nat.reduceEqDiff, ↓reduceIte, he] <;> try rfl
  ·simp only [EV, Nat.reduceEqDiff, ↓reduceIte, he] <;> try rfl
  ·simp only [EV, Nat.reduceEqDiff, ↓reduceIte, he] <;> try rfl
  clear he e
  intro e he
  refine ZbB ?_
  refine ZcV (fun μ env υ => ∃ i : Nat, μ = pcs.length - i /\ i <= pcs.length /\ (env 3 = vI (ZbG (pcs.take i)) /\ env 9 = pv /\ env 10 = vI pcs.length /\ env 11 = vI i) /\ Ext σ υ) ⟨_, 0, rfl, Nat.zero_le _, he, .refl _⟩ ?_
  clear he e
  rintro _ e υ ⟨i, rfl, hi, he, hX⟩
  refine Zaa ?_
  refine Zab ?_
  refine Zho i pcs.length (by simp only [EV, Nat.reduceEqDiff, ↓reduceIte, he] <;> try rfl) (by simp only [EV, Nat.reduceEqDiff, ↓reduceIte, he] <;> try rfl) ?_
  refine Zah ?_
  apply ZcI 3 9 10 11 12
  ·simp only [EV, Nat.reduceEqDiff, ↓reduceIte, he] <;> try rfl
  ·simp only [EV, Nat.reduceEqDiff, ↓reduceIte, he] <;> try rfl
  ·simp only [EV, Nat.reduceEqDiff, ↓reduceIte, he] <;> try rfl
  ·simp only [EV, Nat.reduceEqDiff, ↓reduceIte, he] <;> try rfl
  ·simp only [EV, Nat.reduceEqDiff, ↓reduceIte, he] <;> try rfl
  clear he e
  intro e he
  refine ZaX (t := decide (i < pcs.length)) (by simp only [EV, Nat.reduceEqDiff, ↓reduceIte, he] <;> try rfl) (fun ht => ?_) (fun ht => ?_)
  ·have hlt : i < pcs.length := of_decide_eq_true ht
   have hp := hps.ext hX
   have hcell : ((pcC pcs).drop (i * 2)).take 2 = [ptr pcs[i].1 0, .raw (.int .i64 (pcs[i].2 : Int))] := by
    have h1 : pcs = pcs.take i ++ (pcs[i] :: pcs.drop (i + 1)) := by
     rw [<- List.drop_eq_getElem_cons hlt, List.take_append_drop]
    conv => lhs; rw [h1]
    rw [Zg7, List.drop_append, Zl9, List.length_take, Nat.min_eq_left (by omega), Nat.sub_self, List.drop_zero, List.drop_eq_nil_of_le (by rw [Zl9, List.length_take]; omega)]
    rfl
   have hsum : ZbG (pcs.take (i + 1)) = ZbG (pcs.take i) + pcs[i].2 := by
    unfold ZbG
    rw [List.take_succ_eq_append_getElem hlt, List.map_append, List.sum_append]
    simp
   have hle : ZbG (pcs.take (i + 1)) <= ZbG pcs := by
    unfold ZbG
    conv => rhs; rw [<- List.take_append_drop (i + 1) pcs, List.map_append, List.sum_append]
    omega
   refine Zbb ?_
   refine ZdD ?_
   refine Zaa ?_
   refine Zab ?_
   refine ZcL (k := .i64) (j := i) (by simp only [EV, Nat.reduceEqDiff, ↓reduceIte, he] <;> try rfl) (by simp only [EV, Nat.reduceEqDiff, ↓reduceIte, he] <;> try rfl) Zbt Za6 hp hlt fun b hb => ?_
   refine Zab ?_
   refine Zps (by simp only [EV, Nat.reduceEqDiff, ↓reduceIte, he] <;> try rfl) hp hb hlt Zf5 Za6 ?_
   rw [hcell]
   refine Zab ?_
   refine ZhW ZdK rfl fun b5 υ5 hn5 hu5 hb5 hub5 hX5 => ?_
   refine Zab ?_
   refine ZfV (b := b5) (o := 0) (u := .agg [ptr pcs[i].1 0, .raw (.int .i64 (pcs[i].2 : Int))]) (cs' := [ptr pcs[i].1 0, .raw (.int .i64 (pcs[i].2 : Int))]) (by simp only [EV, Nat.reduceEqDiff, ↓reduceIte, he] <;> try rfl) (by simp only [EV, Nat.reduceEqDiff, ↓reduceIte, he] <;> try rfl) hb5 Za6 rfl rfl fun υ6 hb6 k6 => ?_
   refine Zah ?_
   refine Zad ?_
   refine Zab (Zai rfl (by simp only [EV, Nat.reduceEqDiff, ↓reduceIte, he] <;> try rfl) ?_)
   refine Zab ?_
   refine Zae (b := b5) (o := 0) (by simp only [EV, Nat.reduceEqDiff, ↓reduceIte, he] <;> try rfl) ZdJ rfl ?_
   refine Zab ?_
   refine Zar (b := b5) (o := 0 + 1) (r := .raw (.int .i64 (pcs[i].2 : Int))) (by simp only [EV, Nat.reduceEqDiff, ↓reduceIte, he] <;> try rfl) hb6 Zek Zd5 rfl ?_
   refine Zab ?_
   refine Zd4 (ZbG (pcs.take i)) (pcs[i].2) (by simp only [EV, Nat.reduceEqDiff, ↓reduceIte, he] <;> try rfl) (by simp only [EV, Nat.reduceEqDiff, ↓reduceIte, he] <;> try rfl) (by omega) ?_
   refine Zab (Zai rfl (by simp only [EV, Nat.reduceEqDiff, ↓reduceIte, he] <;> try rfl) ?_)
   refine Zah ?_
   show ZaI _ _ _ _ _ _
   refine Zad ?_
   refine Zab ?_
   refine Zd4 i 1 (by simp only [EV, Nat.reduceEqDiff, ↓reduceIte, he] <;> try rfl) (by simp only [EV, Nat.reduceEqDiff, ↓reduceIte, he] <;> try rfl) (by omega) ?_
   refine Zab (Zai rfl (by simp only [EV, Nat.reduceEqDiff, ↓reduceIte, he] <;> try rfl) ?_)
   refine Zah ?_
   show ∃ n', n' < _ /\ _
   refine ⟨_, (by omega : pcs.length - (i + 1) < pcs.length - i), i + 1, rfl, hlt, ⟨?_, by simp only [EV, Nat.reduceEqDiff, ↓reduceIte, he] <;> try rfl, by simp only [EV, Nat.reduceEqDiff, ↓reduceIte, he] <;> try rfl, by simp only [EV, Nat.reduceEqDiff, ↓reduceIte, he] <;> try rfl⟩, But.ext (hX.trans hX5) (fun g hg => by rw [hg]; exact hX.noneOf hn5) k6⟩
   rw [hsum]
   simp only [EV, Nat.reduceEqDiff, ↓reduceIte, he] <;> try rfl
  ·have hke : i = pcs.length := by have := of_decide_eq_false ht; omega
   subst hke
   rw [List.take_length] at he
   refine ZdZ ?_
   exact ⟨rfl, by simp only [EV, Nat.reduceEqDiff, ↓reduceIte, he] <;> try rfl, hX⟩
 clear he e
 rintro e υ ⟨he, hX⟩
 refine Zaa ?_
 refine Zab (Zai rfl (by simp only [EV, Nat.reduceEqDiff, ↓reduceIte, he] <;> try rfl) ?_)
 refine Zab (Zai rfl (by simp only [EV, Nat.reduceEqDiff, ↓reduceIte, he] <;> try rfl) ?_)
 refine Zah ?_
 refine ZaW ?_
 show ∃ r, Zan _ _ _ _ r /\ _
 exact ⟨_, ZaD rfl (by simp only [EV, Nat.reduceEqDiff, ↓reduceIte, he] <;> try rfl), hK υ hX⟩
end
end Go.Proofs.Ytinpiaibhjmfaaa
