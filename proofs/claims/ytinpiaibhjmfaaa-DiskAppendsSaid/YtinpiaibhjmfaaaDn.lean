/- A disk's functions, by hand: what is known, made, read; what waits. -/
import Derived.Test.YtinpiaibhjmfaaaDk
import Derived.Test.YtinpiaibhjmfaaaDl
import Derived.Test.YtinpiaibhjmfaaaG0
import Derived.Test.YtinpiaibhjmfaaaPl
namespace Go.Proofs.Ytinpiaibhjmfaaa
open Go.RowKit
set_option maxRecDepth 100000
set_option linter.unusedVariables false
set_option linter.unusedSimpArgs false
theorem enc_u8 (d : List UInt8) : d.flatMap (CT.enc 1) = d.map fun b => XV.int .u8 (b.toNat : Int) := by
 induction d with
 | nil => rfl
 | cons x d ih => rw [List.flatMap_cons, ih]; rfl
theorem bys_sv {N : Nat} {ρ : Nat → AV} (d : List UInt8) : SVs CT N ρ (d.flatMap (CT.enc 1)) (bys d) := by
 rw [enc_u8]
 exact ints_sv d
theorem sv_bys {N : Nat} {ρ : Nat → AV} : ∀ {d : List UInt8} {cs : List AV}, SVs CT N ρ (d.flatMap (CT.enc 1)) cs → cs = bys d
 | [], cs, h => SVs_nil.1 h
 | b :: d, cs, h => by
  rw [List.flatMap_cons] at h
  obtain ⟨a, as_, rfl, h1, h2⟩ := SVs.to (v := XV.int .u8 (b.toNat : Int)) h
  rw [sv_bys h2, sv_int.1 h1]
  rfl
/-- A list of bytes that is told, as it lies. -/
theorem sv_bytes {N : Nat} {ρ : Nat → AV} {d : List UInt8} {a : AV} (h : SV CT N ρ (.sl 1 d none) a) : ∃ A c rest, a = .lst A d.length c (bys d ++ rest) ∧ Lst A d.length c := by
 obtain ⟨A, c, cs, rest, rfl, l1, l2, l3, l4, l5⟩ := sv_sl.1 h
 rw [sv_bys l5]
 exact ⟨A, c, rest, rfl, l1, l2, l3, l4⟩
theorem bytes_sv {N : Nat} {ρ : Nat → AV} {d : List UInt8} {A : Option Addr} {c : Nat} {rest : List AV} (h : Lst A d.length c) : SV CT N ρ (.sl 1 d none) (.lst A d.length c (bys d ++ rest)) :=
 sv_sl.2 ⟨A, c, bys d, rest, rfl, h.le, h.most, h.small, h.none, bys_sv d⟩
theorem clone_call {σ : St} {d : List UInt8} {v : AV} (hv : SV CT 0 noRho (.sl 1 d none) v) (hl : d.length ≤ 1000000000) (K : AV → St → Prop) (hK : ∀ a τ, Hd τ 5 1 a d.length (bys d) → Ext σ τ → (∀ b, hbk a = some b → NewB σ b) → K a τ) : CallsA Try.prog 41 [v] σ K := by
 refine call_arr (cloneE41_ce.ok (d, ()) () (d.length, (d, ())) ?_) hv (Nat.le_refl _) K fun a τ cells h1 h2 h3 h4 => ?_
 ·show cloneE41 d = _
  unfold cloneE41
  exact iteT (by omega) rfl
 ·have := sv_bys (h2 0 noRho)
  rw [List.take_length] at this
  subst this
  exact hK a τ h1 h3 h4
/-- slices.Clone of a list of ours. -/
theorem clone_own {σ : St} {d : List UInt8} {v : AV} (hv : Hd σ 5 1 v d.length (bys d)) (hl : d.length ≤ 1000000000) (K : AV → St → Prop) (hK : ∀ a τ, Hd τ 5 1 a d.length (bys d) → Ext σ τ → (∀ b, hbk a = some b → NewB σ b) → K a τ) : CallsA Try.prog 41 [v] σ K := by
 obtain ⟨A, c, hL, l1, l2, l3⟩ := hv.lends (G := fun b => hbk v = some b) (fun b hb => hb) (LendL.refl _)
 refine lend_hd (G := fun b => hbk v = some b) (Q := fun cells => cells = bys d) (args' := [.lst A d.length c (bys d)]) (fun b hb => ?_) (show LendL _ _ [v] _ from ⟨hL, trivial⟩) ?_ (fun cells hq => by rw [hq]; exact bys_plain d) K fun a τ cells h1 h2 h3 h4 => hK a τ (h2 ▸ h1) h3 h4
 ·obtain ⟨all, h1⟩ := hv.blk hb
  exact ⟨_, _, h1, hv.used hb⟩
 ·refine clone_call (by rw [← List.append_nil (bys d)]; exact bytes_sv ⟨l1, l2, by omega, l3⟩) hl _ fun a τ h1 h2 h3 => ⟨_, h1, rfl, h2, h3⟩
section
variable {σ : St} {bb mb : Nat} {S : Nat → Prop} {fs : List Fl} {pcs : List (Nat × Nat)} {size : Int} {pv : AV} {K : AV → St → Prop}
theorem known_ok (h : DAt σ bb S fs pcs size mb pv) (hK : K (vT true) σ) : CallsA Try.prog 34 [ptr bb 0] σ K := by
 refine callsA_of dk_mixed Try.func34 rfl rfl rfl (Nat.le_of_ble_eq_true rfl) ?_
 refine comp1 0 (v0 := ptr bb 0) rfl ?_
 intro e he
 refine k_region ?_
 refine k_cons (c_mv rfl (by simp only [EV, Nat.reduceEqDiff, ↓reduceIte, he] <;> try rfl) ?_)
 refine k_nil ?_
 apply comp1 0
 ·simp only [EV, Nat.reduceEqDiff, ↓reduceIte, he] <;> try rfl
 clear he e
 intro e he
 refine k_region ?_
 refine k_cons (c_mv rfl (by simp only [EV, Nat.reduceEqDiff, ↓reduceIte, he] <;> try rfl) ?_)
 refine k_cons ?_
 refine s_neqptr (p := some ⟨bb, 0, none⟩) dk_p30 (by simp only [EV, Nat.reduceEqDiff, ↓reduceIte, he] <;> try rfl) rfl (by simp only [EV, Nat.reduceEqDiff, ↓reduceIte, he] <;> try rfl) ?_
 refine k_cons (c_mv rfl (by simp only [EV, Nat.reduceEqDiff, ↓reduceIte, he] <;> try rfl) ?_)
 refine k_cons (s_guard_on (y_is rfl (by simp only [EV, Nat.reduceEqDiff, ↓reduceIte, he] <;> try rfl)) ?_)
 refine c_mv rfl (by simp only [EV, Nat.reduceEqDiff, ↓reduceIte, he] <;> try rfl) ?_
 refine k_cons (s_guard_on (y_is rfl (by simp only [EV, Nat.reduceEqDiff, ↓reduceIte, he] <;> try rfl)) ?_)
 refine s_nilCheck (v := ptr bb 0) (by simp only [EV, Nat.reduceEqDiff, ↓reduceIte, he] <;> try rfl) rfl ?_
 refine k_cons (s_guard_on (y_is rfl (by simp only [EV, Nat.reduceEqDiff, ↓reduceIte, he] <;> try rfl)) ?_)
 refine s_fieldAddr (b := bb) (o := 0) (by simp only [EV, Nat.reduceEqDiff, ↓reduceIte, he] <;> try rfl) dk_st65 rfl ?_
 refine k_cons (s_guard_on (y_is rfl (by simp only [EV, Nat.reduceEqDiff, ↓reduceIte, he] <;> try rfl)) ?_)
 refine r_load (b := bb) (o := 0 + 1) (r := mapv mb) (by simp only [EV, Nat.reduceEqDiff, ↓reduceIte, he] <;> try rfl) h.obj dk_ag63 dk_sz63 rfl ?_
 refine k_cons (s_guard_on (y_is rfl (by simp only [EV, Nat.reduceEqDiff, ↓reduceIte, he] <;> try rfl)) ?_)
 refine s_neqmap dk_u63 (by simp only [EV, Nat.reduceEqDiff, ↓reduceIte, he] <;> try rfl) (by simp only [EV, Nat.reduceEqDiff, ↓reduceIte, he] <;> try rfl) ?_
 refine k_cons ?_
 refine s_pick_t (v := vT true) (by simp only [EV, Nat.reduceEqDiff, ↓reduceIte, he] <;> try rfl) (by simp only [EV, Nat.reduceEqDiff, ↓reduceIte, he] <;> try rfl) ?_
 refine k_cons (c_mv rfl (by simp only [EV, Nat.reduceEqDiff, ↓reduceIte, he] <;> try rfl) ?_)
 refine k_nil ?_
 refine k_ret1 ?_
 show ∃ r, aResults _ _ _ _ r ∧ _
 exact ⟨_, res_tmp rfl (by simp only [EV, Nat.reduceEqDiff, ↓reduceIte, he] <;> try rfl), hK⟩
theorem new_ok {sz : Int} (hK : ∀ bb mb τ, DAt τ bb (fun b => b = bb ∨ b = mb) [] [] sz mb (.lst none 0 0 []) → Ext σ τ → NewB σ bb → NewB σ mb → K (ptr bb 0) τ) : CallsA Try.prog 9 [.raw (.int .i64 sz)] σ K := by
 refine callsA_of dk_mixed Try.func9 rfl rfl rfl (Nat.le_of_ble_eq_true rfl) ?_
 refine comp1 0 (v0 := .raw (.int .i64 sz)) rfl ?_
 intro e he
 refine k_region ?_
 refine k_cons (c_mv rfl (by simp only [EV, Nat.reduceEqDiff, ↓reduceIte, he] <;> try rfl) ?_)
 refine k_nil ?_
 apply comp1 0
 ·simp only [EV, Nat.reduceEqDiff, ↓reduceIte, he] <;> try rfl
 clear he e
 intro e he
 refine k_region ?_
 refine k_cons ?_
 refine s_makeMapN (hm := dk_u63) fun mb hu1 hn1 => ?_
 refine k_cons (c_mv rfl (by simp only [EV, Nat.reduceEqDiff, ↓reduceIte, he] <;> try rfl) ?_)
 refine k_cons ?_
 refine s_build (vs := [mapv mb, .raw (.int .i64 sz)]) (cells := [.lst none 0 0 [], mapv mb, .raw (.int .i64 sz)]) (by simp only [List.map_cons, List.map_nil, EV, Nat.reduceEqDiff, ↓reduceIte, he]; try rfl) dk_ze65 dk_pl65 rfl ?_
 refine k_cons ?_
 refine r_box (by simp only [EV, Nat.reduceEqDiff, ↓reduceIte, he] <;> try rfl) rfl fun bb τ hn2 hu2 hb2 hub2 hX2 => ?_
 refine k_cons (c_mv rfl (by simp only [EV, Nat.reduceEqDiff, ↓reduceIte, he] <;> try rfl) ?_)
 refine k_nil ?_
 refine k_ret1 ?_
 show ∃ r, aResults _ _ _ _ r ∧ _
 have hX1 : Ext σ (σ.put mb (.map [])) := Ext.put _ hn1
 have hmb : τ.blk mb = some (.map []) := hX2.keep _ _ (put_same _ _ _)
 refine ⟨_, res_tmp rfl (by simp only [EV, Nat.reduceEqDiff, ↓reduceIte, he] <;> try rfl), hK bb mb τ ⟨hb2, hub2, hmb, hX2.used _ (.inr rfl), fun f hf => by simp at hf, .nil, .nil, fun f hf => by simp at hf, ⟨rfl, by simp [pcC], .inl ⟨.inl rfl, rfl⟩⟩, ⟨.inl rfl, .inr rfl, fun f hf => by simp at hf, fun x hx => by cases hx⟩, fun p hp => by simp at hp⟩ (hX1.trans hX2) (NewB.of ⟨hn2, hu2⟩ hX1) ⟨hn1, hu1⟩⟩
set_option maxHeartbeats 1000000 in
theorem qwaits_ok (h : DAt σ bb S fs pcs size mb pv) (hs : sumP pcs ≤ 1000000000) (hl : pcs.length ≤ 1000000000) (hK : ∀ τ, Ext σ τ → K (.raw (.int .i64 (sumP pcs : Int))) τ) : CallsA Try.prog 42 [ptr bb 0] σ K := by
 have hps := h.pc
 refine callsA_of dk_mixed Try.func42 rfl rfl rfl (Nat.le_of_ble_eq_true rfl) ?_
 refine comp1 0 (v0 := ptr bb 0) rfl ?_
 intro e he
 refine k_region ?_
 refine k_cons (c_mv rfl (by simp only [EV, Nat.reduceEqDiff, ↓reduceIte, he] <;> try rfl) ?_)
 refine k_nil ?_
 refine k_region ?_
 refine k_cons (c_mv rfl (by simp only [EV, Nat.reduceEqDiff, ↓reduceIte, he] <;> try rfl) ?_)
 refine k_nil ?_
 apply comp3 0 2 3
 ·simp only [EV, Nat.reduceEqDiff, ↓reduceIte, he] <;> try rfl
 ·simp only [EV, Nat.reduceEqDiff, ↓reduceIte, he] <;> try rfl
 ·simp only [EV, Nat.reduceEqDiff, ↓reduceIte, he] <;> try rfl
 clear he e
 intro e he
 refine k_cutS (fun env υ => env 3 = vI (sumP pcs) ∧ Ext σ υ) ?_ ?_
 ·first | refine k_region ?_ | refine k_region1 ?_ | (refine k_assoc ?_; refine k_region ?_) | (refine k_assoc ?_; refine k_assoc ?_; refine k_region ?_)
  refine k_cons (c_mv rfl (by simp only [EV, Nat.reduceEqDiff, ↓reduceIte, he] <;> try rfl) ?_)
  refine k_cons ?_
  refine s_nilCheck (v := ptr bb 0) (by simp only [EV, Nat.reduceEqDiff, ↓reduceIte, he] <;> try rfl) rfl ?_
  refine k_cons ?_
  refine s_fieldAddr (b := bb) (o := 0) (by simp only [EV, Nat.reduceEqDiff, ↓reduceIte, he] <;> try rfl) dk_st62 rfl ?_
  refine k_cons ?_
  refine r_load (b := bb) (o := 0) (r := pv) (by simp only [EV, Nat.reduceEqDiff, ↓reduceIte, he] <;> try rfl) h.obj dk_ag60 dk_sz60 rfl ?_
  refine k_cons ?_
  refine s_lenH (by simp only [EV, Nat.reduceEqDiff, ↓reduceIte, he] <;> try rfl) hps rfl dk_sl60 ?_
  refine k_cons (c_mv rfl (by simp only [EV, Nat.reduceEqDiff, ↓reduceIte, he] <;> try rfl) ?_)
  refine k_nil ?_
  apply comp4 3 9 10 11
  ·simp only [EV, Nat.reduceEqDiff, ↓reduceIte, he] <;> try rfl
  ·simp only [EV, Nat.reduceEqDiff, ↓reduceIte, he] <;> try rfl
  ·simp only [EV, Nat.reduceEqDiff, ↓reduceIte, he] <;> try rfl
  ·simp only [EV, Nat.reduceEqDiff, ↓reduceIte, he] <;> try rfl
  clear he e
  intro e he
  refine k_block1 ?_
  refine k_loopE (fun μ env υ => ∃ i : Nat, μ = pcs.length - i ∧ i ≤ pcs.length ∧ (env 3 = vI (sumP (pcs.take i)) ∧ env 9 = pv ∧ env 10 = vI pcs.length ∧ env 11 = vI i) ∧ Ext σ υ) ⟨_, 0, rfl, Nat.zero_le _, he, .refl _⟩ ?_
  clear he e
  rintro _ e υ ⟨i, rfl, hi, he, hX⟩
  refine k_region ?_
  refine k_cons ?_
  refine s_lssN i pcs.length (by simp only [EV, Nat.reduceEqDiff, ↓reduceIte, he] <;> try rfl) (by simp only [EV, Nat.reduceEqDiff, ↓reduceIte, he] <;> try rfl) ?_
  refine k_nil ?_
  apply comp5 3 9 10 11 12
  ·simp only [EV, Nat.reduceEqDiff, ↓reduceIte, he] <;> try rfl
  ·simp only [EV, Nat.reduceEqDiff, ↓reduceIte, he] <;> try rfl
  ·simp only [EV, Nat.reduceEqDiff, ↓reduceIte, he] <;> try rfl
  ·simp only [EV, Nat.reduceEqDiff, ↓reduceIte, he] <;> try rfl
  ·simp only [EV, Nat.reduceEqDiff, ↓reduceIte, he] <;> try rfl
  clear he e
  intro e he
  refine k_cond (t := decide (i < pcs.length)) (by simp only [EV, Nat.reduceEqDiff, ↓reduceIte, he] <;> try rfl) (fun ht => ?_) (fun ht => ?_)
  ·have hlt : i < pcs.length := of_decide_eq_true ht
   have hp := hps.ext hX
   have hcell : ((pcC pcs).drop (i * 2)).take 2 = [ptr pcs[i].1 0, .raw (.int .i64 (pcs[i].2 : Int))] := by
    have h1 : pcs = pcs.take i ++ (pcs[i] :: pcs.drop (i + 1)) := by
     rw [← List.drop_eq_getElem_cons hlt, List.take_append_drop]
    conv => lhs; rw [h1]
    rw [pcC_app, List.drop_append, pcC_len, List.length_take, Nat.min_eq_left (by omega), Nat.sub_self, List.drop_zero, List.drop_eq_nil_of_le (by rw [pcC_len, List.length_take]; omega)]
    rfl
   have hsum : sumP (pcs.take (i + 1)) = sumP (pcs.take i) + pcs[i].2 := by
    unfold sumP
    rw [List.take_succ_eq_append_getElem hlt, List.map_append, List.sum_append]
    simp
   have hle : sumP (pcs.take (i + 1)) ≤ sumP pcs := by
    unfold sumP
    conv => rhs; rw [← List.take_append_drop (i + 1) pcs, List.map_append, List.sum_append]
    omega
   refine k_skip ?_
   refine k_block ?_
   refine k_region ?_
   refine k_cons ?_
   refine s_indexH (k := .i64) (j := i) (by simp only [EV, Nat.reduceEqDiff, ↓reduceIte, he] <;> try rfl) (by simp only [EV, Nat.reduceEqDiff, ↓reduceIte, he] <;> try rfl) dk_sl60 dk_sz80 hp hlt fun b hb => ?_
   refine k_cons ?_
   refine s_ldH (by simp only [EV, Nat.reduceEqDiff, ↓reduceIte, he] <;> try rfl) hp hb hlt dk_ag80 dk_sz80 ?_
   rw [hcell]
   refine k_cons ?_
   refine r_alloc dk_ze80 rfl fun b5 υ5 hn5 hu5 hb5 hub5 hX5 => ?_
   refine k_cons ?_
   refine r_store (b := b5) (o := 0) (u := .agg [ptr pcs[i].1 0, .raw (.int .i64 (pcs[i].2 : Int))]) (cs' := [ptr pcs[i].1 0, .raw (.int .i64 (pcs[i].2 : Int))]) (by simp only [EV, Nat.reduceEqDiff, ↓reduceIte, he] <;> try rfl) (by simp only [EV, Nat.reduceEqDiff, ↓reduceIte, he] <;> try rfl) hb5 dk_sz80 rfl rfl fun υ6 hb6 k6 => ?_
   refine k_nil ?_
   refine k_region1 ?_
   refine k_cons (c_mv rfl (by simp only [EV, Nat.reduceEqDiff, ↓reduceIte, he] <;> try rfl) ?_)
   refine k_cons ?_
   refine s_fieldAddr (b := b5) (o := 0) (by simp only [EV, Nat.reduceEqDiff, ↓reduceIte, he] <;> try rfl) dk_st80 rfl ?_
   refine k_cons ?_
   refine r_load (b := b5) (o := 0 + 1) (r := .raw (.int .i64 (pcs[i].2 : Int))) (by simp only [EV, Nat.reduceEqDiff, ↓reduceIte, he] <;> try rfl) hb6 dk_ag3 dk_sz3 rfl ?_
   refine k_cons ?_
   refine s_addN (sumP (pcs.take i)) (pcs[i].2) (by simp only [EV, Nat.reduceEqDiff, ↓reduceIte, he] <;> try rfl) (by simp only [EV, Nat.reduceEqDiff, ↓reduceIte, he] <;> try rfl) (by omega) ?_
   refine k_cons (c_mv rfl (by simp only [EV, Nat.reduceEqDiff, ↓reduceIte, he] <;> try rfl) ?_)
   refine k_nil ?_
   show aCode _ _ _ _ _ _
   refine k_region1 ?_
   refine k_cons ?_
   refine s_addN i 1 (by simp only [EV, Nat.reduceEqDiff, ↓reduceIte, he] <;> try rfl) (by simp only [EV, Nat.reduceEqDiff, ↓reduceIte, he] <;> try rfl) (by omega) ?_
   refine k_cons (c_mv rfl (by simp only [EV, Nat.reduceEqDiff, ↓reduceIte, he] <;> try rfl) ?_)
   refine k_nil ?_
   show ∃ n', n' < _ ∧ _
   refine ⟨_, (by omega : pcs.length - (i + 1) < pcs.length - i), i + 1, rfl, hlt, ⟨?_, by simp only [EV, Nat.reduceEqDiff, ↓reduceIte, he] <;> try rfl, by simp only [EV, Nat.reduceEqDiff, ↓reduceIte, he] <;> try rfl, by simp only [EV, Nat.reduceEqDiff, ↓reduceIte, he] <;> try rfl⟩, But.ext (hX.trans hX5) (fun g hg => by rw [hg]; exact hX.noneOf hn5) k6⟩
   rw [hsum]
   simp only [EV, Nat.reduceEqDiff, ↓reduceIte, he] <;> try rfl
  ·have hke : i = pcs.length := by have := of_decide_eq_false ht; omega
   subst hke
   rw [List.take_length] at he
   refine k_exit ?_
   exact ⟨rfl, by simp only [EV, Nat.reduceEqDiff, ↓reduceIte, he] <;> try rfl, hX⟩
 clear he e
 rintro e υ ⟨he, hX⟩
 refine k_region ?_
 refine k_cons (c_mv rfl (by simp only [EV, Nat.reduceEqDiff, ↓reduceIte, he] <;> try rfl) ?_)
 refine k_cons (c_mv rfl (by simp only [EV, Nat.reduceEqDiff, ↓reduceIte, he] <;> try rfl) ?_)
 refine k_nil ?_
 refine k_ret1 ?_
 show ∃ r, aResults _ _ _ _ r ∧ _
 exact ⟨_, res_tmp rfl (by simp only [EV, Nat.reduceEqDiff, ↓reduceIte, he] <;> try rfl), hK υ hX⟩
end
end Go.Proofs.Ytinpiaibhjmfaaa
