/- next, by hand: the frame's data lie in a place of their own. -/
import Derived.Test.YtklmbkkeiihgdaaFo
namespace Go.Proofs.Ytklmbkkeiihgdaa
open Go.RowKit
set_option maxRecDepth 100000
set_option linter.unusedVariables false
set_option linter.unusedSimpArgs false
theorem fn_st61 : structA Try.prog 61 = some [(0, some 1, some true), (1, some 1, some false)] := by kernel_rfl
theorem fn_st59 : structA Try.prog 59 = some [(0, some 1, some false)] := by kernel_rfl
theorem fn_st28 : structA Try.prog 28 = some [(0, some 1, some false), (1, some 1, some false)] := by kernel_rfl
theorem fn_pl28 : placesB Try.prog 28 = some [(0, 1), (1, 1)] := by kernel_rfl
theorem fn_ze28 : zeroA Try.prog 28 = some (.agg #[.int .i64 0, .slice none 0 0]) := by kernel_rfl
theorem fn_ag28 : aggA Try.prog 28 = some true := by kernel_rfl
theorem fn_sz28 : sizeA Try.prog 28 = some 2 := by kernel_rfl
/-- No frame. -/
abbrev fr0 : List AV := [.raw (.int .i64 0), .lst none 0 0 []]
/-- A reader's cells. -/
abbrev rdC (A : Option Addr) (c : Nat) (rest : List AV) (b : List UInt8) (at_ : Nat) : List AV := [.lst A b.length c (bys b ++ rest), .raw (.int .i64 (at_ : Int))]
theorem number_call {σ : St} {bb at_ k c : Nat} {A : Option Addr} {rest : List AV} {b : List UInt8} (h : k + 4 ≤ b.length) (hA : Lst A b.length c) (hb : σ.blk bb = some (.own 61 (rdC A c rest b at_))) (hu : σ.used bb) (K : AV → St → Prop) (hK : ∀ τ, Ext σ τ → K (.raw (.int .u32 (num b k : Int))) τ) : CallsA Try.prog 36 [ptr bb 0, .raw (.int .i64 (k : Int))] σ K := by
 have hp : Hp CT (fun _ => ptr bb 0) [.obj 61 [.sl 1 b none, .int .i64 (at_ : Int)]] σ := hp_obj hb hu (.cons (bytes_sv hA) (sv_int.2 rfl))
 refine (numberT_tr (U := fun _ => False) ((), (k : Int), ()) (⟨⟨b⟩, (at_ : Int)⟩, ()) ((num b k : Int), (⟨⟨b⟩, (at_ : Int)⟩, ())) ?_ (fun _ => ptr bb 0) σ _ (.cons (sv_ptr.2 ⟨bb, rfl, Nat.zero_lt_one, rfl⟩) (sv_int.2 rfl)) hp).mono fun a τ ⟨ρ', q1, q2, q3⟩ => ?_
 ·show numberT (k : Int) ⟨⟨b⟩, (at_ : Int)⟩ = _
  unfold numberT
  exact iteT ⟨by omega, by dsimp only; omega⟩ rfl
 ·rw [sv_int.1 q1]
  exact hK τ ⟨fun b k hb => q3.but.keep _ _ (fun ⟨_, _, hf, _⟩ => hf) hb, q3.but.used⟩
theorem clone_call {σ : St} {d : List UInt8} {v : AV} (hv : SV CT 0 noRho (.sl 1 d none) v) (hl : d.length ≤ 1000000000) (K : AV → St → Prop) (hK : ∀ a τ, Hd τ 5 1 a d.length (bys d) → Ext σ τ → (∀ b, hbk a = some b → σ.blk b = none ∧ ¬ σ.used b) → K a τ) : CallsA Try.prog 37 [v] σ K := by
 refine call_arr (cloneE37_ce.ok (d, ()) () (d.length, (d, ())) ?_) hv (Nat.le_refl _) K fun a τ cells h1 h2 h3 h4 => ?_
 ·show cloneE37 d = _
  unfold cloneE37
  exact iteT (by omega) rfl
 ·have := sv_bys (h2 0 noRho)
  rw [List.take_length] at this
  subst this
  exact hK a τ h1 h3 h4
theorem sum_call {rs : List (List UInt8)} {σ : St} {vs : List AV} (hs : SVs CT 0 noRho [.sl 3 rs none] vs) (K : AV → St → Prop) (hK : ∀ τ, Ext σ τ → K (.raw (.int .u32 ((Crc.more 0#32 rs.flatten).toNat : Int))) τ) : CallsA Try.prog 22 vs σ K :=
 call_same (sumT_ce.ok (rs, ()) () (((Crc.more 0#32 rs.flatten).toNat : Int), ()) (by show sumT rs = _; unfold sumT; rw [if_pos trivial]; rfl)) hs (fun N ρ a h => sv_int.1 h) K hK
set_option maxHeartbeats 4000000 in
theorem next_ok {σ : St} {bb at_ c : Nat} {A : Option Addr} {rest : List AV} {b : List UInt8} (hbl : b.length ≤ 1000000000) (hat : at_ ≤ 1000000000) (hA : Lst A b.length c) (hb : σ.blk bb = some (.own 61 (rdC A c rest b at_))) (hu : σ.used bb) (K : AV → St → Prop)
  (h0 : nextFr b = none → ∀ τ, Ext σ τ → K (.tup [.agg fr0, vT false]) τ)
  (h1 : ∀ f, nextFr b = some f → ∀ τ v A' c' rest', Hd τ 5 1 v f.2.length (bys f.2) → (∀ g, hbk v = some g → σ.blk g = none ∧ ¬ σ.used g) → But (fun x => x = bb) σ τ → Lst A' (b.drop (9 + f.2.length)).length c' → τ.blk bb = some (.own 61 (rdC A' c' rest' (b.drop (9 + f.2.length)) (at_ + 9 + f.2.length))) → K (.tup [.agg [.raw (.int .i64 f.1), v], vT true]) τ) :
  CallsA Try.prog 27 [ptr bb 0] σ K := by
 refine callsA_of fl_mixed Try.func27 rfl rfl rfl (Nat.le_of_ble_eq_true rfl) ?_
 refine comp1 0 (v0 := ptr bb 0) rfl ?_
 intro e he
 refine k_region ?_
 refine k_cons ?_
 refine r_alloc fn_ze28 rfl fun b2 υ hn2 hu2 hb2 hub2 hX2 => ?_
 refine k_cons (c_mv rfl (by simp only [EV, Nat.reduceEqDiff, ↓reduceIte, he] <;> try rfl) ?_)
 refine k_nil ?_
 have hbb := hX2.keep _ _ hb
 have hne : b2 ≠ bb := fun q => by rw [q, hb] at hn2; cases hn2
 apply comp2 0 2
 ·simp only [EV, Nat.reduceEqDiff, ↓reduceIte, he] <;> try rfl
 ·simp only [EV, Nat.reduceEqDiff, ↓reduceIte, he] <;> try rfl
 clear he e
 intro e he
 refine k_assoc ?_
 refine k_region ?_
 refine k_cons (c_mv rfl (by simp only [EV, Nat.reduceEqDiff, ↓reduceIte, he] <;> try rfl) ?_)
 refine k_cons ?_
 refine s_nilCheck (v := ptr bb 0) (by simp only [EV, Nat.reduceEqDiff, ↓reduceIte, he] <;> try rfl) rfl ?_
 refine k_cons ?_
 refine s_fieldAddr (b := bb) (o := 0) (by simp only [EV, Nat.reduceEqDiff, ↓reduceIte, he] <;> try rfl) fn_st61 rfl ?_
 refine k_cons ?_
 refine s_fieldAddr (b := bb) (o := 0) (by simp only [EV, Nat.reduceEqDiff, ↓reduceIte, he] <;> try rfl) fn_st59 rfl ?_
 refine k_cons ?_
 refine r_load (b := bb) (o := 0) (r := .lst A b.length c (bys b ++ rest)) (by simp only [EV, Nat.reduceEqDiff, ↓reduceIte, he] <;> try rfl) hbb fl_agS fl_szS rfl ?_
 refine k_cons ?_
 refine s_lenN (by simp only [EV, Nat.reduceEqDiff, ↓reduceIte, he] <;> try rfl) (AV.val_lst _ _ _ _) rfl fl_slS ?_
 refine k_cons ?_
 refine s_lssN b.length 9 (by simp only [EV, Nat.reduceEqDiff, ↓reduceIte, he] <;> try rfl) (by simp only [EV, Nat.reduceEqDiff, ↓reduceIte, he] <;> try rfl) ?_
 refine k_nil ?_
 apply comp3 0 2 12
 ·simp only [EV, Nat.reduceEqDiff, ↓reduceIte, he] <;> try rfl
 ·simp only [EV, Nat.reduceEqDiff, ↓reduceIte, he] <;> try rfl
 ·simp only [EV, Nat.reduceEqDiff, ↓reduceIte, he] <;> try rfl
 clear he e
 intro e he
 refine k_cond (t := decide (b.length < 9)) (by simp only [EV, Nat.reduceEqDiff, ↓reduceIte, he] <;> try rfl) (fun ht => ?_) (fun ht => ?_)
 ·have h9 : b.length < 9 := of_decide_eq_true ht
  have hf : nextFr b = none := by unfold nextFr; rw [if_pos h9]
  refine k_assoc ?_
  refine k_region ?_
  refine k_cons ?_
  refine s_build (vs := []) (cells := fr0) rfl fn_ze28 fn_pl28 rfl ?_
  refine k_cons ?_
  refine r_store (b := b2) (o := 0) (u := .agg fr0) (by simp only [EV, Nat.reduceEqDiff, ↓reduceIte, he] <;> try rfl) (by simp only [EV, Nat.reduceEqDiff, ↓reduceIte, he] <;> try rfl) hb2 fn_sz28 rfl rfl fun τ h3 k3 => ?_
  refine k_cons (c_mv rfl (by simp only [EV, Nat.reduceEqDiff, ↓reduceIte, he] <;> try rfl) ?_)
  refine k_nil ?_
  refine k_ret ?_
  show ∃ r, aResults _ _ _ _ r ∧ _
  exact res_two_ rfl (aResult_cell (by simp only [EV, Nat.reduceEqDiff, ↓reduceIte, he] <;> try rfl) h3 fn_ag28 fn_sz28 rfl) (res_tmp_ (by simp only [EV, Nat.reduceEqDiff, ↓reduceIte, he] <;> try rfl)) (h0 hf τ (But.ext hX2 (fun g hg => by rw [hg]; exact hn2) k3))
 have h9 : ¬ b.length < 9 := of_decide_eq_false ht
 refine k_skip ?_
 refine k_region ?_
 refine k_cons (c_mv rfl (by simp only [EV, Nat.reduceEqDiff, ↓reduceIte, he] <;> try rfl) ?_)
 refine k_cons ?_
 refine s_nilCheck (v := ptr bb 0) (by simp only [EV, Nat.reduceEqDiff, ↓reduceIte, he] <;> try rfl) rfl ?_
 refine k_cons ?_
 refine s_fieldAddr (b := bb) (o := 0) (by simp only [EV, Nat.reduceEqDiff, ↓reduceIte, he] <;> try rfl) fn_st61 rfl ?_
 refine k_cons ?_
 refine s_call (vs := [ptr bb 0, .raw (.int .i64 ((0 : Nat) : Int))]) (by simp only [List.map_cons, List.map_nil, EV, Nat.reduceEqDiff, ↓reduceIte, he]; rfl) ?_
 refine number_call (k := 0) (by omega) hA hbb (hX2.used _ hu) _ fun τ3 hX3 => ?_
 have hn0 := num_lt b 0
 refine k_cons ?_
 refine s_convI (r := (num b 0 : Int)) fo_u51 fo_u3 (by simp only [EV, Nat.reduceEqDiff, ↓reduceIte, he] <;> try rfl) (w64 (by omega)) ?_
 refine k_cons (c_mv rfl (by simp only [EV, Nat.reduceEqDiff, ↓reduceIte, he] <;> try rfl) ?_)
 refine k_nil ?_
 have hb3 := hX3.keep _ _ hbb
 have hb23 := hX3.keep _ _ hb2
 apply comp3 0 2 4
 ·simp only [EV, Nat.reduceEqDiff, ↓reduceIte, he] <;> try rfl
 ·simp only [EV, Nat.reduceEqDiff, ↓reduceIte, he] <;> try rfl
 ·simp only [EV, Nat.reduceEqDiff, ↓reduceIte, he] <;> try rfl
 clear he e
 intro e he
 refine k_assoc ?_
 by_cases hbad : 262144 < num b 0 ∨ b.length - 9 < num b 0
 ·have hf : nextFr b = none := by unfold nextFr; rw [if_neg h9, if_pos hbad]
  refine k_cutS (fun env υ => env 2 = ptr b2 0 ∧ env 31 = vT true ∧ υ = τ3) ?_ ?_
  ·by_cases hbig : 262144 < num b 0
   ·refine k_region1 ?_
    refine k_cons (c_mv rfl (by simp only [EV, Nat.reduceEqDiff, ↓reduceIte, he] <;> try rfl) ?_)
    refine k_cons ?_
    refine s_gtr (k := .i64) (a := (num b 0 : Int)) (b := 262144) (by simp only [EV, Nat.reduceEqDiff, ↓reduceIte, he] <;> try rfl) (by simp only [EV, Nat.reduceEqDiff, ↓reduceIte, he] <;> try rfl) ?_
    rw [decide_eq_true (by omega : (262144 : Int) < (num b 0 : Int))]
    refine k_cons (c_mv rfl (by simp only [EV, Nat.reduceEqDiff, ↓reduceIte, he] <;> try rfl) ?_)
    refine k_cons (s_guard_off (y_is rfl (by simp only [EV, Nat.reduceEqDiff, ↓reduceIte, he] <;> try rfl)) ?_)
    refine k_cons (s_guard_off (y_is rfl (by simp only [EV, Nat.reduceEqDiff, ↓reduceIte, he] <;> try rfl)) ?_)
    refine k_cons (s_guard_off (y_is rfl (by simp only [EV, Nat.reduceEqDiff, ↓reduceIte, he] <;> try rfl)) ?_)
    refine k_cons (s_guard_off (y_is rfl (by simp only [EV, Nat.reduceEqDiff, ↓reduceIte, he] <;> try rfl)) ?_)
    refine k_cons (s_guard_off (y_is rfl (by simp only [EV, Nat.reduceEqDiff, ↓reduceIte, he] <;> try rfl)) ?_)
    refine k_cons (s_guard_off (y_is rfl (by simp only [EV, Nat.reduceEqDiff, ↓reduceIte, he] <;> try rfl)) ?_)
    refine k_cons (s_guard_off (y_is rfl (by simp only [EV, Nat.reduceEqDiff, ↓reduceIte, he] <;> try rfl)) ?_)
    refine k_cons (s_guard_off (y_is rfl (by simp only [EV, Nat.reduceEqDiff, ↓reduceIte, he] <;> try rfl)) ?_)
    refine k_cons (s_guard_off (y_is rfl (by simp only [EV, Nat.reduceEqDiff, ↓reduceIte, he] <;> try rfl)) ?_)
    refine k_cons ?_
    refine s_pick_t (v := vT true) (by simp only [EV, Nat.reduceEqDiff, ↓reduceIte, he] <;> try rfl) (by simp only [EV, Nat.reduceEqDiff, ↓reduceIte, he] <;> try rfl) ?_
    refine k_nil ?_
    exact ⟨rfl, by simp only [EV, Nat.reduceEqDiff, ↓reduceIte, he] <;> try rfl, by simp only [EV, Nat.reduceEqDiff, ↓reduceIte, he] <;> try rfl, rfl⟩
   ·refine k_region1 ?_
    refine k_cons (c_mv rfl (by simp only [EV, Nat.reduceEqDiff, ↓reduceIte, he] <;> try rfl) ?_)
    refine k_cons ?_
    refine s_gtr (k := .i64) (a := (num b 0 : Int)) (b := 262144) (by simp only [EV, Nat.reduceEqDiff, ↓reduceIte, he] <;> try rfl) (by simp only [EV, Nat.reduceEqDiff, ↓reduceIte, he] <;> try rfl) ?_
    rw [decide_eq_false (by omega : ¬ (262144 : Int) < (num b 0 : Int))]
    refine k_cons (c_mv rfl (by simp only [EV, Nat.reduceEqDiff, ↓reduceIte, he] <;> try rfl) ?_)
    refine k_cons (s_guard_on (y_is rfl (by simp only [EV, Nat.reduceEqDiff, ↓reduceIte, he] <;> try rfl)) ?_)
    refine c_mv rfl (by simp only [EV, Nat.reduceEqDiff, ↓reduceIte, he] <;> try rfl) ?_
    refine k_cons (s_guard_on (y_is rfl (by simp only [EV, Nat.reduceEqDiff, ↓reduceIte, he] <;> try rfl)) ?_)
    refine c_mv rfl (by simp only [EV, Nat.reduceEqDiff, ↓reduceIte, he] <;> try rfl) ?_
    refine k_cons (s_guard_on (y_is rfl (by simp only [EV, Nat.reduceEqDiff, ↓reduceIte, he] <;> try rfl)) ?_)
    refine s_nilCheck (v := ptr bb 0) (by simp only [EV, Nat.reduceEqDiff, ↓reduceIte, he] <;> try rfl) rfl ?_
    refine k_cons (s_guard_on (y_is rfl (by simp only [EV, Nat.reduceEqDiff, ↓reduceIte, he] <;> try rfl)) ?_)
    refine s_fieldAddr (b := bb) (o := 0) (by simp only [EV, Nat.reduceEqDiff, ↓reduceIte, he] <;> try rfl) fn_st61 rfl ?_
    refine k_cons (s_guard_on (y_is rfl (by simp only [EV, Nat.reduceEqDiff, ↓reduceIte, he] <;> try rfl)) ?_)
    refine s_fieldAddr (b := bb) (o := 0) (by simp only [EV, Nat.reduceEqDiff, ↓reduceIte, he] <;> try rfl) fn_st59 rfl ?_
    refine k_cons (s_guard_on (y_is rfl (by simp only [EV, Nat.reduceEqDiff, ↓reduceIte, he] <;> try rfl)) ?_)
    refine r_load (b := bb) (o := 0) (r := .lst A b.length c (bys b ++ rest)) (by simp only [EV, Nat.reduceEqDiff, ↓reduceIte, he] <;> try rfl) hb3 fl_agS fl_szS rfl ?_
    refine k_cons (s_guard_on (y_is rfl (by simp only [EV, Nat.reduceEqDiff, ↓reduceIte, he] <;> try rfl)) ?_)
    refine s_lenN (by simp only [EV, Nat.reduceEqDiff, ↓reduceIte, he] <;> try rfl) (AV.val_lst _ _ _ _) rfl fl_slS ?_
    refine k_cons (s_guard_on (y_is rfl (by simp only [EV, Nat.reduceEqDiff, ↓reduceIte, he] <;> try rfl)) ?_)
    refine s_sub (k := .i64) (a := (b.length : Int)) (b := 9) (r := (b.length : Int) - 9) (by simp only [EV, Nat.reduceEqDiff, ↓reduceIte, he] <;> try rfl) (by simp only [EV, Nat.reduceEqDiff, ↓reduceIte, he] <;> try rfl) (w64 (by omega)) ?_
    refine k_cons (s_guard_on (y_is rfl (by simp only [EV, Nat.reduceEqDiff, ↓reduceIte, he] <;> try rfl)) ?_)
    refine s_gtr (k := .i64) (a := (num b 0 : Int)) (b := (b.length : Int) - 9) (by simp only [EV, Nat.reduceEqDiff, ↓reduceIte, he] <;> try rfl) (by simp only [EV, Nat.reduceEqDiff, ↓reduceIte, he] <;> try rfl) ?_
    rw [decide_eq_true (by omega : (b.length : Int) - 9 < (num b 0 : Int))]
    refine k_cons ?_
    refine s_pick_f (v := vT true) (by simp only [EV, Nat.reduceEqDiff, ↓reduceIte, he] <;> try rfl) (by simp only [EV, Nat.reduceEqDiff, ↓reduceIte, he] <;> try rfl) ?_
    refine k_nil ?_
    exact ⟨rfl, by simp only [EV, Nat.reduceEqDiff, ↓reduceIte, he] <;> try rfl, by simp only [EV, Nat.reduceEqDiff, ↓reduceIte, he] <;> try rfl, rfl⟩
  ·clear he e
   rintro e υ3 ⟨he2, he31, rfl⟩
   have he := And.intro he2 he31
   refine k_cond (t := true) (by simp only [EV, Nat.reduceEqDiff, ↓reduceIte, he] <;> try rfl) (fun _ => ?_) (fun q => by cases q)
   refine k_assoc ?_
   refine k_region ?_
   refine k_cons ?_
   refine s_build (vs := []) (cells := fr0) rfl fn_ze28 fn_pl28 rfl ?_
   refine k_cons ?_
   refine r_store (b := b2) (o := 0) (u := .agg fr0) (by simp only [EV, Nat.reduceEqDiff, ↓reduceIte, he] <;> try rfl) (by simp only [EV, Nat.reduceEqDiff, ↓reduceIte, he] <;> try rfl) hb23 fn_sz28 rfl rfl fun τ h3 k3 => ?_
   refine k_cons (c_mv rfl (by simp only [EV, Nat.reduceEqDiff, ↓reduceIte, he] <;> try rfl) ?_)
   refine k_nil ?_
   refine k_ret ?_
   show ∃ r, aResults _ _ _ _ r ∧ _
   exact res_two_ rfl (aResult_cell (by simp only [EV, Nat.reduceEqDiff, ↓reduceIte, he] <;> try rfl) h3 fn_ag28 fn_sz28 rfl) (res_tmp_ (by simp only [EV, Nat.reduceEqDiff, ↓reduceIte, he] <;> try rfl)) (h0 hf τ (But.ext (hX2.trans hX3) (fun g hg => by rw [hg]; exact hn2) k3))
 have hbig : ¬ 262144 < num b 0 := fun q => hbad (.inl q)
 have hlow : ¬ b.length - 9 < num b 0 := fun q => hbad (.inr q)
 refine k_region ?_
 refine k_cons (c_mv rfl (by simp only [EV, Nat.reduceEqDiff, ↓reduceIte, he] <;> try rfl) ?_)
 refine k_cons ?_
 refine s_gtr (k := .i64) (a := (num b 0 : Int)) (b := 262144) (by simp only [EV, Nat.reduceEqDiff, ↓reduceIte, he] <;> try rfl) (by simp only [EV, Nat.reduceEqDiff, ↓reduceIte, he] <;> try rfl) ?_
 rw [decide_eq_false (by omega : ¬ (262144 : Int) < (num b 0 : Int))]
 refine k_cons (c_mv rfl (by simp only [EV, Nat.reduceEqDiff, ↓reduceIte, he] <;> try rfl) ?_)
 refine k_cons (s_guard_on (y_is rfl (by simp only [EV, Nat.reduceEqDiff, ↓reduceIte, he] <;> try rfl)) ?_)
 refine c_mv rfl (by simp only [EV, Nat.reduceEqDiff, ↓reduceIte, he] <;> try rfl) ?_
 refine k_cons (s_guard_on (y_is rfl (by simp only [EV, Nat.reduceEqDiff, ↓reduceIte, he] <;> try rfl)) ?_)
 refine c_mv rfl (by simp only [EV, Nat.reduceEqDiff, ↓reduceIte, he] <;> try rfl) ?_
 refine k_cons (s_guard_on (y_is rfl (by simp only [EV, Nat.reduceEqDiff, ↓reduceIte, he] <;> try rfl)) ?_)
 refine s_nilCheck (v := ptr bb 0) (by simp only [EV, Nat.reduceEqDiff, ↓reduceIte, he] <;> try rfl) rfl ?_
 refine k_cons (s_guard_on (y_is rfl (by simp only [EV, Nat.reduceEqDiff, ↓reduceIte, he] <;> try rfl)) ?_)
 refine s_fieldAddr (b := bb) (o := 0) (by simp only [EV, Nat.reduceEqDiff, ↓reduceIte, he] <;> try rfl) fn_st61 rfl ?_
 refine k_cons (s_guard_on (y_is rfl (by simp only [EV, Nat.reduceEqDiff, ↓reduceIte, he] <;> try rfl)) ?_)
 refine s_fieldAddr (b := bb) (o := 0) (by simp only [EV, Nat.reduceEqDiff, ↓reduceIte, he] <;> try rfl) fn_st59 rfl ?_
 refine k_cons (s_guard_on (y_is rfl (by simp only [EV, Nat.reduceEqDiff, ↓reduceIte, he] <;> try rfl)) ?_)
 refine r_load (b := bb) (o := 0) (r := .lst A b.length c (bys b ++ rest)) (by simp only [EV, Nat.reduceEqDiff, ↓reduceIte, he] <;> try rfl) hb3 fl_agS fl_szS rfl ?_
 refine k_cons (s_guard_on (y_is rfl (by simp only [EV, Nat.reduceEqDiff, ↓reduceIte, he] <;> try rfl)) ?_)
 refine s_lenN (by simp only [EV, Nat.reduceEqDiff, ↓reduceIte, he] <;> try rfl) (AV.val_lst _ _ _ _) rfl fl_slS ?_
 refine k_cons (s_guard_on (y_is rfl (by simp only [EV, Nat.reduceEqDiff, ↓reduceIte, he] <;> try rfl)) ?_)
 refine s_sub (k := .i64) (a := (b.length : Int)) (b := 9) (r := (b.length : Int) - 9) (by simp only [EV, Nat.reduceEqDiff, ↓reduceIte, he] <;> try rfl) (by simp only [EV, Nat.reduceEqDiff, ↓reduceIte, he] <;> try rfl) (w64 (by omega)) ?_
 refine k_cons (s_guard_on (y_is rfl (by simp only [EV, Nat.reduceEqDiff, ↓reduceIte, he] <;> try rfl)) ?_)
 refine s_gtr (k := .i64) (a := (num b 0 : Int)) (b := (b.length : Int) - 9) (by simp only [EV, Nat.reduceEqDiff, ↓reduceIte, he] <;> try rfl) (by simp only [EV, Nat.reduceEqDiff, ↓reduceIte, he] <;> try rfl) ?_
 rw [decide_eq_false (by omega : ¬ (b.length : Int) - 9 < (num b 0 : Int))]
 refine k_cons ?_
 refine s_pick_f (v := vT false) (by simp only [EV, Nat.reduceEqDiff, ↓reduceIte, he] <;> try rfl) (by simp only [EV, Nat.reduceEqDiff, ↓reduceIte, he] <;> try rfl) ?_
 refine k_nil ?_
 apply comp4 0 2 4 31
 ·simp only [EV, Nat.reduceEqDiff, ↓reduceIte, he] <;> try rfl
 ·simp only [EV, Nat.reduceEqDiff, ↓reduceIte, he] <;> try rfl
 ·simp only [EV, Nat.reduceEqDiff, ↓reduceIte, he] <;> try rfl
 ·simp only [EV, Nat.reduceEqDiff, ↓reduceIte, he] <;> try rfl
 clear he e
 intro e he
 refine k_cond (t := false) (by simp only [EV, Nat.reduceEqDiff, ↓reduceIte, he] <;> try rfl) (fun q => by cases q) (fun _ => ?_)
 refine k_skip ?_
 generalize hdd : (b.drop 9).take (num b 0) = dd0
 have hdl : dd0.length = num b 0 := by rw [← hdd, List.length_take, List.length_drop]; omega
 have hg4 : b[4]? = some (b.getD 4 0) := by rw [List.getD_eq_getElem?_getD, List.getElem?_eq_getElem (by omega : 4 < b.length)]; rfl
 -- the frame
 refine k_drawn ?_
 refine ⟨[0, 1, 2, 3, 8, 9, 10, 11, 13, 14, 4, 5, 6, 7, 12, 15, 16, 17, 18, 19], [[], [0], [0, 1], [0, 1, 2], [0, 1, 2, 3], [0, 1, 2, 3, 4], [0, 1, 2, 3, 4, 5], [0, 1, 2, 3, 4, 5, 6], [], [8], [8, 9], [8, 9, 10], [8, 9, 10, 11], [], [13], [8, 9, 10, 11, 12, 13, 14], [8, 9, 10, 11, 12, 13, 14, 15], [0, 1, 2, 3, 4, 5, 6, 7, 8, 9, 10, 11, 12, 13, 14, 15, 16], [], [0, 1, 2, 3, 4, 5, 6, 7, 8, 9, 10, 11, 12, 13, 14, 15, 16, 17, 18]], fun _ => True, [4, 6], [16], [], by kernel_rfl, ?_⟩
 apply d_any
 case hi => simp only [HIX]; try rfl
 case hw => rfl
 case how => rfl
 refine c_mv rfl (by simp only [EV, Nat.reduceEqDiff, ↓reduceIte, he] <;> try rfl) ?_
 refine d_ok ?_
 apply d_any
 case hi => simp only [HIX]; try rfl
 case hw => rfl
 case how => rfl
 refine s_nilCheck (v := ptr bb 0) (by simp only [EV, Nat.reduceEqDiff, ↓reduceIte, he] <;> try rfl) rfl ?_
 refine d_ok ?_
 apply d_any
 case hi => simp only [HIX]; try rfl
 case hw => rfl
 case how => rfl
 refine s_fieldAddr (b := bb) (o := 0) (by simp only [EV, Nat.reduceEqDiff, ↓reduceIte, he] <;> try rfl) fn_st61 rfl ?_
 refine d_ok ?_
 apply d_any
 case hi => simp only [HIX]; try rfl
 case hw => rfl
 case how => rfl
 refine s_fieldAddr (b := bb) (o := 0) (by simp only [EV, Nat.reduceEqDiff, ↓reduceIte, he] <;> try rfl) fn_st59 rfl ?_
 refine d_ok ?_
 apply d_any
 case hi => simp only [HIX]; try rfl
 case hw => rfl
 case how => rfl
 refine c_mv rfl (by simp only [EV, Nat.reduceEqDiff, ↓reduceIte, he] <;> try rfl) ?_
 refine d_ok ?_
 apply d_any
 case hi => simp only [HIX]; try rfl
 case hw => rfl
 case how => rfl
 refine s_nilCheck (v := ptr bb 0) (by simp only [EV, Nat.reduceEqDiff, ↓reduceIte, he] <;> try rfl) rfl ?_
 refine d_ok ?_
 apply d_any
 case hi => simp only [HIX]; try rfl
 case hw => rfl
 case how => rfl
 refine s_fieldAddr (b := bb) (o := 0) (by simp only [EV, Nat.reduceEqDiff, ↓reduceIte, he] <;> try rfl) fn_st61 rfl ?_
 refine d_ok ?_
 apply d_any
 case hi => simp only [HIX]; try rfl
 case hw => rfl
 case how => rfl
 refine s_fieldAddr (b := bb) (o := 0) (by simp only [EV, Nat.reduceEqDiff, ↓reduceIte, he] <;> try rfl) fn_st59 rfl ?_
 refine d_ok ?_
 apply d_any
 case hi => simp only [HIX]; try rfl
 case hw => rfl
 case how => rfl
 refine c_mv rfl (by simp only [EV, Nat.reduceEqDiff, ↓reduceIte, he] <;> try rfl) ?_
 refine d_ok ?_
 apply d_any
 case hi => simp only [HIX]; try rfl
 case hw => rfl
 case how => rfl
 refine s_addN 9 (num b 0) (by simp only [EV, Nat.reduceEqDiff, ↓reduceIte, he] <;> try rfl) (by simp only [EV, Nat.reduceEqDiff, ↓reduceIte, he] <;> try rfl) (by omega) ?_
 refine d_ok ?_
 apply d_any
 case hi => simp only [HIX]; try rfl
 case hw => rfl
 case how => rfl
 refine r_load (b := bb) (o := 0) (r := .lst A b.length c (bys b ++ rest)) (by simp only [EV, Nat.reduceEqDiff, ↓reduceIte, he] <;> try rfl) hb3 fl_agS fl_szS rfl ?_
 refine d_ok ?_
 apply d_any
 case hi => simp only [HIX]; try rfl
 case hw => rfl
 case how => rfl
 refine s_indexD (k := .i64) (j := 4) (by simp only [EV, Nat.reduceEqDiff, ↓reduceIte, he] <;> try rfl) (by simp only [EV, Nat.reduceEqDiff, ↓reduceIte, he] <;> try rfl) fl_slS fl_szE (by omega) (fun q => (hA.none q).1) rfl fun ad => ?_
 refine d_ok ?_
 apply d_any
 case hi => simp only [HIX]; try rfl
 case hw => rfl
 case how => rfl
 refine r_load_e (r := .raw (.int .u8 ((b.getD 4 0).toNat : Int))) (by simp only [EV, Nat.reduceEqDiff, ↓reduceIte, he] <;> try rfl) fl_agE fl_szE ?_ ?_
 ·show ((bys b ++ rest).drop (4 * 1))[0]? = _
  rw [List.getElem?_drop, List.getElem?_append_left (by rw [bys_len]; omega)]
  unfold bys
  rw [List.getElem?_map, show 4 * 1 + 0 = 4 from rfl, hg4]
  rfl
 refine d_ok ?_
 apply d_any
 case hi => simp only [HIX]; try rfl
 case hw => rfl
 case how => rfl
 refine s_convI (r := ((b.getD 4 0).toNat : Int)) fo_u5 fo_u3 (by simp only [EV, Nat.reduceEqDiff, ↓reduceIte, he] <;> try rfl) (w64 (by have := (b.getD 4 0).toNat_lt; omega)) ?_
 refine d_ok ?_
 apply d_any
 case hi => simp only [HIX]; try rfl
 case hw => rfl
 case how => rfl
 refine r_load (b := bb) (o := 0) (r := .lst A b.length c (bys b ++ rest)) (by simp only [EV, Nat.reduceEqDiff, ↓reduceIte, he] <;> try rfl) hb3 fl_agS fl_szS rfl ?_
 refine d_ok ?_
 apply d_any
 case hi => simp only [HIX]; try rfl
 case hw => rfl
 case how => rfl
 refine r_slice (f := fun u : UInt8 => AV.raw (.int .u8 (u.toNat : Int))) (xs := b) (l := 9) (u := 9 + num b 0) (ix := [.raw (.int .i64 9), .raw (.int .i64 ((9 + num b 0 : Nat) : Int))]) (by simp only [EV, Nat.reduceEqDiff, ↓reduceIte, he] <;> try rfl) hA (by simp only [Option.toList, List.cons_append, List.nil_append, List.map_cons, List.map_nil, EV, Nat.reduceEqDiff, ↓reduceIte, he]; try rfl) fl_slS fl_szE (ends2 rfl rfl) (by omega) (by omega) fun A2 r2 dd hys hA2 => ?_
 rw [Nat.add_sub_cancel_left, hdd] at hys
 subst hys
 refine d_ok ?_
 apply d_any
 case hi => simp only [HIX]; try rfl
 case hw => rfl
 case how => rfl
 refine s_call (vs := [.lst A2 dd.length (c - 9) (bys dd ++ r2)]) (by simp only [List.map_cons, List.map_nil, EV, Nat.reduceEqDiff, ↓reduceIte, he]; try rfl) ?_
 refine clone_call (bytes_sv hA2) (by omega) _ fun v τ4 hv hX4 hn4 => ⟨fun _ => hX4, ?_⟩
 have hv1 := hv.oneV
 apply d_any
 case hi => simp only [HIX]; try rfl
 case hw => rfl
 case how => rfl
 refine s_build (vs := [.raw (.int .i64 ((b.getD 4 0).toNat : Int)), v]) (cells := [.raw (.int .i64 ((b.getD 4 0).toNat : Int)), v]) (by simp only [List.map_cons, List.map_nil, EV, Nat.reduceEqDiff, ↓reduceIte, he]; try rfl) fn_ze28 fn_pl28 (fill2 rfl rfl ⟨rfl, rfl⟩ hv1.2) ?_
 refine d_ok ?_
 apply d_any
 case hi => simp only [HIX]; try rfl
 case hw => rfl
 case how => rfl
 refine r_alloc fn_ze28 rfl fun b5 υ5 hn5 hu5 hb5 hub5 hX5 => ⟨(fun h => absurd h Bool.false_ne_true), ?_⟩
 apply d_any
 case hi => simp only [HIX]; try rfl
 case hw => rfl
 case how => rfl
 refine r_store (b := b5) (o := 0) (u := .agg [.raw (.int .i64 ((b.getD 4 0).toNat : Int)), v]) (cs' := [.raw (.int .i64 ((b.getD 4 0).toNat : Int)), v]) (by simp only [EV, Nat.reduceEqDiff, ↓reduceIte, he] <;> try rfl) (by simp only [EV, Nat.reduceEqDiff, ↓reduceIte, he] <;> try rfl) hb5 fn_sz28 ?_ rfl fun τ6 hb6 k6 => ⟨(fun h => absurd h Bool.false_ne_true), ?_⟩
 ·show (true && true && (true && (v.one && true)) && true) = true
  rw [hv1.1]
  rfl
 refine d_nil ?_
 have hX6 : Ext υ5 τ6 → Ext τ3 τ6 := fun h => (hX4.trans hX5).trans h
 have hx6 : Ext τ3 τ6 := But.ext (hX4.trans hX5) (fun g hg => by rw [hg]; exact hX4.noneOf hn5) k6
 have hb7 := hx6.keep _ _ hb3
 have hv6 := (hv.ext hX5).but k6 (fun g hg q => by
  rw [q] at hg
  obtain ⟨_, q2⟩ := hv.blk hg
  rw [hn5] at q2
  cases q2)
 have hnv : ∀ g, hbk v = some g → σ.blk g = none ∧ ¬ σ.used g := fun g hg => ⟨(hX2.trans hX3).noneOf (hn4 g hg).1, (hX2.trans hX3).unused (hn4 g hg).2⟩
 have hs6 : Ext σ τ6 := (hX2.trans hX3).trans hx6
 have hb26 := hx6.keep _ _ hb23
 clear hX6 k6 hX5 hX4 hv hn4
 apply comp4 0 2 4 5
 ·simp only [EV, Nat.reduceEqDiff, ↓reduceIte, he] <;> try rfl
 ·simp only [EV, Nat.reduceEqDiff, ↓reduceIte, he] <;> try rfl
 ·simp only [EV, Nat.reduceEqDiff, ↓reduceIte, he] <;> try rfl
 ·simp only [EV, Nat.reduceEqDiff, ↓reduceIte, he] <;> try rfl
 clear he e
 intro e he
 refine k_assoc ?_
 refine k_drawn ?_
 refine ⟨[0, 1, 2, 4, 5, 6, 7, 10, 8, 9, 11, 3, 12, 13, 14], [[], [0], [0, 1], [0, 1, 2], [], [4], [4, 5], [4, 5, 6], [4, 5, 6, 7], [4, 5, 6, 7, 8], [], [10], [4, 5, 6, 7, 8, 9, 10, 11], [0, 1, 2, 3, 4, 5, 6, 7, 8, 9, 10, 11, 12], [0, 1, 2, 3, 4, 5, 6, 7, 8, 9, 10, 11, 12, 13]], fun _ => True, [8, 11], [3], [12], by kernel_rfl, ?_⟩
 apply d_any
 case hi => simp only [HIX]; try rfl
 case hw => rfl
 case how => rfl
 refine c_mv rfl (by simp only [EV, Nat.reduceEqDiff, ↓reduceIte, he] <;> try rfl) ?_
 refine d_ok ?_
 apply d_any
 case hi => simp only [HIX]; try rfl
 case hw => rfl
 case how => rfl
 refine s_nilCheck (v := ptr bb 0) (by simp only [EV, Nat.reduceEqDiff, ↓reduceIte, he] <;> try rfl) rfl ?_
 refine d_ok ?_
 apply d_any
 case hi => simp only [HIX]; try rfl
 case hw => rfl
 case how => rfl
 refine s_fieldAddr (b := bb) (o := 0) (by simp only [EV, Nat.reduceEqDiff, ↓reduceIte, he] <;> try rfl) fn_st61 rfl ?_
 refine d_ok ?_
 apply d_any
 case hi => simp only [HIX]; try rfl
 case hw => rfl
 case how => rfl
 refine c_mv rfl (by simp only [EV, Nat.reduceEqDiff, ↓reduceIte, he] <;> try rfl) ?_
 refine d_ok ?_
 apply d_any
 case hi => simp only [HIX]; try rfl
 case hw => rfl
 case how => rfl
 refine s_nilCheck (v := ptr bb 0) (by simp only [EV, Nat.reduceEqDiff, ↓reduceIte, he] <;> try rfl) rfl ?_
 refine d_ok ?_
 apply d_any
 case hi => simp only [HIX]; try rfl
 case hw => rfl
 case how => rfl
 refine s_fieldAddr (b := bb) (o := 0) (by simp only [EV, Nat.reduceEqDiff, ↓reduceIte, he] <;> try rfl) fn_st61 rfl ?_
 refine d_ok ?_
 apply d_any
 case hi => simp only [HIX]; try rfl
 case hw => rfl
 case how => rfl
 refine s_fieldAddr (b := bb) (o := 0) (by simp only [EV, Nat.reduceEqDiff, ↓reduceIte, he] <;> try rfl) fn_st59 rfl ?_
 refine d_ok ?_
 apply d_any
 case hi => simp only [HIX]; try rfl
 case hw => rfl
 case how => rfl
 refine s_fieldAddr (b := b5) (o := 0) (by simp only [EV, Nat.reduceEqDiff, ↓reduceIte, he] <;> try rfl) fn_st28 rfl ?_
 refine d_ok ?_
 apply d_any
 case hi => simp only [HIX]; try rfl
 case hw => rfl
 case how => rfl
 refine r_load (b := bb) (o := 0) (r := .lst A b.length c (bys b ++ rest)) (by simp only [EV, Nat.reduceEqDiff, ↓reduceIte, he] <;> try rfl) hb7 fl_agS fl_szS rfl ?_
 refine d_ok ?_
 apply d_any
 case hi => simp only [HIX]; try rfl
 case hw => rfl
 case how => rfl
 refine r_slice (f := fun u : UInt8 => AV.raw (.int .u8 (u.toNat : Int))) (xs := b) (l := 0) (u := 5) (ix := [.raw (.int .i64 5)]) (by simp only [EV, Nat.reduceEqDiff, ↓reduceIte, he] <;> try rfl) hA (by simp only [Option.toList, List.cons_append, List.nil_append, List.map_cons, List.map_nil, EV, Nat.reduceEqDiff, ↓reduceIte, he]; try rfl) fl_slS fl_szE (endsH rfl) (by omega) (by omega) fun A7 r7 d5 hd5 hA7 => ?_
 have hd5l : d5.length = 5 := by rw [hd5, List.length_take, List.length_drop]; omega
 rw [List.drop_zero] at hd5
 refine d_ok ?_
 apply d_any
 case hi => simp only [HIX]; try rfl
 case hw => rfl
 case how => rfl
 refine r_load (b := b5) (o := 0 + 1) (r := v) (by simp only [EV, Nat.reduceEqDiff, ↓reduceIte, he] <;> try rfl) hb6 fl_agS fl_szS rfl ?_
 refine d_ok ?_
 apply d_any
 case hi => simp only [HIX]; try rfl
 case hw => rfl
 case how => rfl
 refine s_call (vs := [ptr bb 0, .raw (.int .i64 ((5 : Nat) : Int))]) (by simp only [List.map_cons, List.map_nil, EV, Nat.reduceEqDiff, ↓reduceIte, he]; rfl) ?_
 refine number_call (k := 5) (by omega) hA hb7 (hs6.used _ hu) _ fun τ8 hX8 => ⟨fun _ => hX8, ?_⟩
 refine d_ow (vs := [.lst A7 d5.length (c - 0) (bys d5 ++ r7), v]) (cells := [.lst A7 d5.length (c - 0) (bys d5 ++ r7), v]) (by simp only [HIX]; try rfl) rfl (by simp only [List.map_cons, List.map_nil, EV, Nat.reduceEqDiff, ↓reduceIte, he]; try rfl) fl_slL fl_szS fl_zeS rfl (by omega) (fill2 rfl rfl ⟨rfl, rfl⟩ hv1.2) fun b9 hb9u hb9n => ?_
 have hX9 : Ext τ8 (τ8.put b9 (.own 23 [.lst A7 d5.length (c - 0) (bys d5 ++ r7), v])) := Ext.put _ hb9n
 have h9' : Hd (τ8.put b9 (.own 23 [.lst A7 d5.length (c - 0) (bys d5 ++ r7), v])) 23 1 (hdr b9 2 2) 2 [.lst A7 d5.length (c - 0) (bys d5 ++ r7), v] := hd_new (by omega) (by omega) rfl (fun a ha => by
  rcases List.mem_cons.1 ha with rfl | ha
  ·rfl
  ·rw [List.mem_singleton.1 ha]; exact hv1.1)
 have hv9 := (hv6.ext hX8).ext hX9
 obtain ⟨Av, cv, lv1, lv2, lv3, lv4⟩ := hv9.lends (G := fun g => hbk v = some g ∨ g = b9) (fun g hg => .inl hg) (LendL.refl _)
 obtain ⟨Aw, cw, lw1, lw2, lw3, lw4⟩ := h9'.lends (G := fun g => hbk v = some g ∨ g = b9) (m := [.lst A7 d5.length (c - 0) (bys d5 ++ r7), .lst Av dd.length cv (bys dd)]) (fun g hg => .inr (hbk_of hg).symm) ⟨Lends.refl _, lv1, trivial⟩
 apply d_any
 case hi => simp only [HIX]; try rfl
 case hw => rfl
 case how => rfl
 refine s_call (vs := [hdr b9 2 2]) (by simp only [List.map_cons, List.map_nil, EV, Nat.reduceEqDiff, ↓reduceIte, he]; try rfl) ?_
 refine lend_call (G := fun g => hbk v = some g ∨ g = b9) (σ := τ8.put b9 (.own 23 [.lst A7 d5.length (c - 0) (bys d5 ++ r7), v])) (args := [hdr b9 2 2]) (args' := [.lst Aw 2 cw [.lst A7 d5.length (c - 0) (bys d5 ++ r7), .lst Av dd.length cv (bys dd)]]) (rv := .raw (.int .u32 ((Crc.more 0#32 (d5 ++ dd)).toNat : Int))) (fun g hg => by
  rcases hg with hg | rfl
  ·obtain ⟨all, q⟩ := hv9.blk hg
   exact ⟨_, _, q, hv9.used hg⟩
  ·exact ⟨_, _, put_same _ _ _, .inr rfl⟩) ⟨lw1, trivial⟩ (sum_call (rs := [d5, dd]) (sv_sl.2 ⟨Aw, cw, [.lst A7 d5.length (c - 0) (bys d5 ++ r7), .lst Av dd.length cv (bys dd)], [], rfl, lw2, lw3, by simp, (fun q => by have := (lw4 q).1; omega), .cons (bytes_sv hA7) (by
    have := bytes_sv (N := 0) (ρ := noRho) (d := dd) (A := Av) (c := cv) (rest := []) ⟨lv2, lv3, by omega, lv4⟩
    rw [List.append_nil] at this
    exact this)⟩) _ fun τ hX => ⟨by
     have : ([d5, dd] : List (List UInt8)).flatten = d5 ++ dd := by simp
     rw [this], hX⟩) (fun w B => valid_raw _) _ fun τ10 hX10 => ⟨(fun h => absurd h Bool.false_ne_true), ?_⟩
 apply d_any
 case hi => simp only [HIX]; try rfl
 case hw => rfl
 case how => rfl
 refine s_neq (k := .u32) (a := (num b 5 : Int)) (b := ((Crc.more 0#32 (d5 ++ dd)).toNat : Int)) (by simp only [EV, Nat.reduceEqDiff, ↓reduceIte, he] <;> try rfl) (by simp only [EV, Nat.reduceEqDiff, ↓reduceIte, he] <;> try rfl) ?_
 refine d_ok ?_
 refine d_nil ?_
 have hx10 : Ext τ6 τ10 := (hX8.trans hX9).trans hX10
 have hb10 := hx10.keep _ _ hb7
 have hb210 := hx10.keep _ _ hb26
 have hb510 := hx10.keep _ _ hb6
 have hv10 := hv6.ext hx10
 have hs10 := hs6.trans hx10
 have e5 : d5 = b.take 5 := hd5
 rw [e5]
 apply comp5 0 2 4 5 65
 ·simp only [EV, Nat.reduceEqDiff, ↓reduceIte, he] <;> try rfl
 ·simp only [EV, Nat.reduceEqDiff, ↓reduceIte, he] <;> try rfl
 ·simp only [EV, Nat.reduceEqDiff, ↓reduceIte, he] <;> try rfl
 ·simp only [EV, Nat.reduceEqDiff, ↓reduceIte, he] <;> try rfl
 ·simp only [EV, Nat.reduceEqDiff, ↓reduceIte, he] <;> try rfl
 clear he e
 intro e he
 by_cases hcrc : num b 5 = (Crc.more 0#32 (b.take 5 ++ dd)).toNat
 ·have hf : nextFr b = some (((b.getD 4 0).toNat : Int), dd) := by
   unfold nextFr
   rw [if_neg h9, if_neg hbad, hdd, if_pos hcrc]
  refine k_cond (t := false) (by simp only [EV, he]; rw [decide_eq_false (by omega)]) (fun q => by cases q) (fun _ => ?_)
  refine k_skip ?_
  refine k_drawn ?_
  refine ⟨[0, 1, 2, 3, 4, 5, 7, 8, 10, 11, 12, 15, 6, 9, 13, 14, 16, 17, 18, 19, 20, 21, 22, 23], [[], [], [], [2], [2, 3], [2, 3, 4], [2, 3, 4, 5], [], [7], [2, 3, 4, 5, 6, 7, 8], [], [10], [10, 11], [10, 11, 12], [10, 11, 12, 13], [], [10, 11, 12, 13, 14, 15], [0, 2, 3, 4, 5, 6, 7, 8, 9, 10, 11, 12, 13], [0, 2, 3, 4, 5, 6, 7, 8, 9, 10, 11, 12, 13, 17], [0, 2, 3, 4, 5, 6, 7, 8, 9, 10, 11, 12, 13, 17, 18], [0, 2, 3, 4, 5, 6, 7, 8, 9, 10, 11, 12, 13, 17, 18, 19], [0, 1, 2, 3, 4, 5, 6, 7, 8, 9, 10, 11, 12, 13, 14, 15, 16, 17, 18, 19, 20], [0, 1, 2, 3, 4, 5, 6, 7, 8, 9, 10, 11, 12, 13, 14, 15, 16, 17, 18, 19, 20, 21], [0, 1, 2, 3, 4, 5, 6, 7, 8, 9, 10, 11, 12, 13, 14, 15, 16, 17, 18, 19, 20, 21, 22]], fun _ => True, [], [], [], by kernel_rfl, ?_⟩
  apply d_any
  case hi => simp only [HIX]; try rfl
  case hw => rfl
  case how => rfl
  refine c_mv rfl (by simp only [EV, Nat.reduceEqDiff, ↓reduceIte, he] <;> try rfl) ?_
  refine d_ok ?_
  apply d_any
  case hi => simp only [HIX]; try rfl
  case hw => rfl
  case how => rfl
  refine c_mv rfl (by simp only [EV, Nat.reduceEqDiff, ↓reduceIte, he] <;> try rfl) ?_
  refine d_ok ?_
  apply d_any
  case hi => simp only [HIX]; try rfl
  case hw => rfl
  case how => rfl
  refine c_mv rfl (by simp only [EV, Nat.reduceEqDiff, ↓reduceIte, he] <;> try rfl) ?_
  refine d_ok ?_
  apply d_any
  case hi => simp only [HIX]; try rfl
  case hw => rfl
  case how => rfl
  refine s_nilCheck (v := ptr bb 0) (by simp only [EV, Nat.reduceEqDiff, ↓reduceIte, he] <;> try rfl) rfl ?_
  refine d_ok ?_
  apply d_any
  case hi => simp only [HIX]; try rfl
  case hw => rfl
  case how => rfl
  refine s_fieldAddr (b := bb) (o := 0) (by simp only [EV, Nat.reduceEqDiff, ↓reduceIte, he] <;> try rfl) fn_st61 rfl ?_
  refine d_ok ?_
  apply d_any
  case hi => simp only [HIX]; try rfl
  case hw => rfl
  case how => rfl
  refine s_fieldAddr (b := bb) (o := 0) (by simp only [EV, Nat.reduceEqDiff, ↓reduceIte, he] <;> try rfl) fn_st59 rfl ?_
  refine d_ok ?_
  apply d_any
  case hi => simp only [HIX]; try rfl
  case hw => rfl
  case how => rfl
  refine c_mv rfl (by simp only [EV, Nat.reduceEqDiff, ↓reduceIte, he] <;> try rfl) ?_
  refine d_ok ?_
  apply d_any
  case hi => simp only [HIX]; try rfl
  case hw => rfl
  case how => rfl
  refine s_addN 9 (num b 0) (by simp only [EV, Nat.reduceEqDiff, ↓reduceIte, he] <;> try rfl) (by simp only [EV, Nat.reduceEqDiff, ↓reduceIte, he] <;> try rfl) (by omega) ?_
  refine d_ok ?_
  apply d_any
  case hi => simp only [HIX]; try rfl
  case hw => rfl
  case how => rfl
  refine c_mv rfl (by simp only [EV, Nat.reduceEqDiff, ↓reduceIte, he] <;> try rfl) ?_
  refine d_ok ?_
  apply d_any
  case hi => simp only [HIX]; try rfl
  case hw => rfl
  case how => rfl
  refine s_nilCheck (v := ptr bb 0) (by simp only [EV, Nat.reduceEqDiff, ↓reduceIte, he] <;> try rfl) rfl ?_
  refine d_ok ?_
  apply d_any
  case hi => simp only [HIX]; try rfl
  case hw => rfl
  case how => rfl
  refine s_fieldAddr (b := bb) (o := 0) (by simp only [EV, Nat.reduceEqDiff, ↓reduceIte, he] <;> try rfl) fn_st61 rfl ?_
  refine d_ok ?_
  apply d_any
  case hi => simp only [HIX]; try rfl
  case hw => rfl
  case how => rfl
  refine c_mv rfl (by simp only [EV, Nat.reduceEqDiff, ↓reduceIte, he] <;> try rfl) ?_
  refine d_ok ?_
  apply d_any
  case hi => simp only [HIX]; try rfl
  case hw => rfl
  case how => rfl
  refine r_load (b := bb) (o := 0) (r := .lst A b.length c (bys b ++ rest)) (by simp only [EV, Nat.reduceEqDiff, ↓reduceIte, he] <;> try rfl) hb10 fl_agS fl_szS rfl ?_
  refine d_ok ?_
  apply d_any
  case hi => simp only [HIX]; try rfl
  case hw => rfl
  case how => rfl
  refine r_slice (f := fun u : UInt8 => AV.raw (.int .u8 (u.toNat : Int))) (xs := b) (l := 9 + num b 0) (u := b.length) (ix := [.raw (.int .i64 ((9 + num b 0 : Nat) : Int))]) (by simp only [EV, Nat.reduceEqDiff, ↓reduceIte, he] <;> try rfl) hA (by simp only [Option.toList, List.cons_append, List.nil_append, List.map_cons, List.map_nil, EV, Nat.reduceEqDiff, ↓reduceIte, he]; try rfl) fl_slS fl_szE (endsL rfl) (by omega) (by omega) fun A11 r11 dr hdr hA11 => ?_
  rw [List.take_of_length_le (by rw [List.length_drop]; exact Nat.le_refl _)] at hdr
  refine d_ok ?_
  apply d_any
  case hi => simp only [HIX]; try rfl
  case hw => rfl
  case how => rfl
  refine r_load (b := bb) (o := 0 + 1) (r := .raw (.int .i64 (at_ : Int))) (by simp only [EV, Nat.reduceEqDiff, ↓reduceIte, he] <;> try rfl) hb10 fo_ag3 fo_sz3 rfl ?_
  refine d_ok ?_
  apply d_any
  case hi => simp only [HIX]; try rfl
  case hw => rfl
  case how => rfl
  refine s_addN at_ 9 (by simp only [EV, Nat.reduceEqDiff, ↓reduceIte, he] <;> try rfl) (by simp only [EV, Nat.reduceEqDiff, ↓reduceIte, he] <;> try rfl) (by omega) ?_
  refine d_ok ?_
  apply d_any
  case hi => simp only [HIX]; try rfl
  case hw => rfl
  case how => rfl
  refine s_addN (at_ + 9) (num b 0) (by simp only [EV, Nat.reduceEqDiff, ↓reduceIte, he] <;> try rfl) (by simp only [EV, Nat.reduceEqDiff, ↓reduceIte, he] <;> try rfl) (by omega) ?_
  refine d_ok ?_
  apply d_any
  case hi => simp only [HIX]; try rfl
  case hw => rfl
  case how => rfl
  refine s_nilCheck (v := ptr bb 0) (by simp only [EV, Nat.reduceEqDiff, ↓reduceIte, he] <;> try rfl) rfl ?_
  refine d_ok ?_
  apply d_any
  case hi => simp only [HIX]; try rfl
  case hw => rfl
  case how => rfl
  refine s_fieldAddr (b := bb) (o := 0) (by simp only [EV, Nat.reduceEqDiff, ↓reduceIte, he] <;> try rfl) fn_st61 rfl ?_
  refine d_ok ?_
  apply d_any
  case hi => simp only [HIX]; try rfl
  case hw => rfl
  case how => rfl
  refine s_fieldAddr (b := bb) (o := 0) (by simp only [EV, Nat.reduceEqDiff, ↓reduceIte, he] <;> try rfl) fn_st59 rfl ?_
  refine d_ok ?_
  apply d_any
  case hi => simp only [HIX]; try rfl
  case hw => rfl
  case how => rfl
  refine r_store (b := bb) (o := 0) (u := .lst A11 dr.length (c - (9 + num b 0)) (bys dr ++ r11)) (cs' := [.lst A11 dr.length (c - (9 + num b 0)) (bys dr ++ r11), .raw (.int .i64 (at_ : Int))]) (by simp only [EV, Nat.reduceEqDiff, ↓reduceIte, he] <;> try rfl) (by simp only [EV, Nat.reduceEqDiff, ↓reduceIte, he] <;> try rfl) hb10 fl_szS rfl rfl fun τ11 hb11 k11 => ⟨(fun h => absurd h Bool.false_ne_true), ?_⟩
  apply d_any
  case hi => simp only [HIX]; try rfl
  case hw => rfl
  case how => rfl
  refine s_nilCheck (v := ptr bb 0) (by simp only [EV, Nat.reduceEqDiff, ↓reduceIte, he] <;> try rfl) rfl ?_
  refine d_ok ?_
  apply d_any
  case hi => simp only [HIX]; try rfl
  case hw => rfl
  case how => rfl
  refine s_fieldAddr (b := bb) (o := 0) (by simp only [EV, Nat.reduceEqDiff, ↓reduceIte, he] <;> try rfl) fn_st61 rfl ?_
  refine d_ok ?_
  apply d_any
  case hi => simp only [HIX]; try rfl
  case hw => rfl
  case how => rfl
  refine r_store (b := bb) (o := 0 + 1) (u := .raw (.int .i64 ((at_ + 9 + num b 0 : Nat) : Int))) (cs' := [.lst A11 dr.length (c - (9 + num b 0)) (bys dr ++ r11), .raw (.int .i64 ((at_ + 9 + num b 0 : Nat) : Int))]) (by simp only [EV, Nat.reduceEqDiff, ↓reduceIte, he] <;> try rfl) (by simp only [EV, Nat.reduceEqDiff, ↓reduceIte, he] <;> try rfl) hb11 fo_sz3 rfl rfl fun τ12 hb12 k12 => ⟨(fun h => absurd h Bool.false_ne_true), ?_⟩
  refine d_nil ?_
  have hk12 : But (fun x => x = bb) τ10 τ12 := k11.trans k12
  have hn2' : b2 ≠ bb := hne
  have hb212 := hk12.keep _ _ hn2' hb210
  have h5ne : b5 ≠ bb := fun q => by
   rw [q, hb7] at hb6
   injection hb6 with hb6
   injection hb6 with hb6
   cases hb6
  have hb512 := hk12.keep _ _ h5ne hb510
  have hvne : ∀ g, hbk v = some g → ¬ g = bb := fun g hg q => by
   rw [q] at hg
   rw [(hnv _ hg).1] at hb
   cases hb
  have hv12 := hv10.but hk12 hvne
  apply comp2 2 5
  ·simp only [EV, Nat.reduceEqDiff, ↓reduceIte, he] <;> try rfl
  ·simp only [EV, Nat.reduceEqDiff, ↓reduceIte, he] <;> try rfl
  clear he e
  intro e he
  refine k_region ?_
  refine k_cons ?_
  refine r_load (b := b5) (o := 0) (r := .agg [.raw (.int .i64 ((b.getD 4 0).toNat : Int)), v]) (by simp only [EV, Nat.reduceEqDiff, ↓reduceIte, he] <;> try rfl) hb512 fn_ag28 fn_sz28 rfl ?_
  refine k_cons ?_
  refine r_store (b := b2) (o := 0) (u := .agg [.raw (.int .i64 ((b.getD 4 0).toNat : Int)), v]) (cs' := [.raw (.int .i64 ((b.getD 4 0).toNat : Int)), v]) (by simp only [EV, Nat.reduceEqDiff, ↓reduceIte, he] <;> try rfl) (by simp only [EV, Nat.reduceEqDiff, ↓reduceIte, he] <;> try rfl) hb212 fn_sz28 ?_ rfl fun τ13 hb13 k13 => ?_
  ·show (true && true && (true && (v.one && true)) && true) = true
   rw [hv1.1]
   rfl
  refine k_cons (c_mv rfl (by simp only [EV, Nat.reduceEqDiff, ↓reduceIte, he] <;> try rfl) ?_)
  refine k_nil ?_
  refine k_ret1 ?_
  show ∃ r, aResults _ _ _ _ r ∧ _
  have hvn2 : ∀ g, hbk v = some g → ¬ g = b2 := fun g hg q => by
   rw [q] at hg
   obtain ⟨_, q2⟩ := hv12.blk hg
   rw [hb212] at q2
   injection q2 with q2
   injection q2 with q2
   cases q2
  refine res_two_ rfl (aResult_cell (by simp only [EV, Nat.reduceEqDiff, ↓reduceIte, he] <;> try rfl) hb13 fn_ag28 fn_sz28 rfl) (res_tmp_ (by simp only [EV, Nat.reduceEqDiff, ↓reduceIte, he] <;> try rfl)) (h1 _ hf τ13 v A11 (c - (9 + num b 0)) r11 (hv12.but k13 hvn2) hnv ⟨fun g k hg hk => ?_, fun g hg => k13.used _ (hk12.used _ (hs10.used _ hg))⟩ ?_ ?_)
  ·have h10 := hs10.keep _ _ hk
   have h12 := hk12.keep _ _ hg h10
   refine k13.keep _ _ (fun q => ?_) h12
   rw [q, hn2] at hk
   cases hk
  ·rw [show 9 + dd.length = 9 + num b 0 by omega, ← hdr]
   exact hA11
  ·rw [show 9 + dd.length = 9 + num b 0 by omega, show at_ + 9 + dd.length = at_ + 9 + num b 0 by omega, ← hdr]
   exact k13.keep _ _ (fun q => hne q.symm) hb12
 ·have hf : nextFr b = none := by
   unfold nextFr
   rw [if_neg h9, if_neg hbad, hdd, if_neg hcrc]
  refine k_cond (t := true) (by simp only [EV, he]; rw [decide_eq_true (by omega)]) (fun _ => ?_) (fun q => by cases q)
  refine k_assoc ?_
  refine k_region ?_
  refine k_cons ?_
  refine s_build (vs := []) (cells := fr0) rfl fn_ze28 fn_pl28 rfl ?_
  refine k_cons ?_
  refine r_store (b := b2) (o := 0) (u := .agg fr0) (by simp only [EV, Nat.reduceEqDiff, ↓reduceIte, he] <;> try rfl) (by simp only [EV, Nat.reduceEqDiff, ↓reduceIte, he] <;> try rfl) hb210 fn_sz28 rfl rfl fun τ h3 k3 => ?_
  refine k_cons (c_mv rfl (by simp only [EV, Nat.reduceEqDiff, ↓reduceIte, he] <;> try rfl) ?_)
  refine k_nil ?_
  refine k_ret ?_
  show ∃ r, aResults _ _ _ _ r ∧ _
  exact res_two_ rfl (aResult_cell (by simp only [EV, Nat.reduceEqDiff, ↓reduceIte, he] <;> try rfl) h3 fn_ag28 fn_sz28 rfl) (res_tmp_ (by simp only [EV, Nat.reduceEqDiff, ↓reduceIte, he] <;> try rfl)) (h0 hf τ (But.ext hs10 (fun g hg => by rw [hg]; exact hn2) k3))
end Go.Proofs.Ytklmbkkeiihgdaa
