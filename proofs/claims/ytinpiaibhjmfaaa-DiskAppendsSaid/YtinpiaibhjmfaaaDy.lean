/- DiskAppends, by hand: the walk. -/
import Derived.Test.YtinpiaibhjmfaaaMd
namespace Go.Proofs.Ytinpiaibhjmfaaa
open Go.RowKit
set_option maxRecDepth 100000
set_option linter.unusedVariables false
set_option linter.unusedSimpArgs false
set_option maxHeartbeats 8000000 in
theorem appends_ok {x0 : List (List UInt8)} {x1 : List Bool} {keep : Int} {A0 A1 : Option Addr} {c0 c1 : Nat} {cs0 cs1 rest0 rest1 : List AV} {σ : St} (K : AV → St → Prop) (k0 : ok_LLUInt8 x0) (hl1 : x1.length ≤ 140737488355328) (hkeep : -9223372036854775808 ≤ keep ∧ keep ≤ 9223372036854775807)
  (hL0 : x0.length ≤ c0 ∧ c0 ≤ maxLen ∧ (A0 = none → x0.length = 0 ∧ c0 = 0)) (hs0 : SVs CT 0 noRho (x0.flatMap (CT.enc 3)) cs0) (hL1 : A1 = none → x1.length = 0) (hs1 : SVs CT 0 noRho (x1.flatMap (CT.enc 7)) cs1) (hK : ∀ τ, K (vT true) τ) :
  CallsA Try.prog 3 [.lst A0 x0.length c0 (cs0 ++ rest0), .lst A1 x1.length c1 (cs1 ++ rest1), .raw (.int .i64 keep)] σ K := by
 have hl0 := k0.len
 have hsa0 : SV CT 0 noRho (.sl 3 x0 none) (.lst A0 x0.length c0 (cs0 ++ rest0)) := sv_sl.2 ⟨A0, c0, cs0, rest0, rfl, hL0.1, hL0.2.1, hl0, hL0.2.2, hs0⟩
 have hA0 : A0 = none → x0.length = 0 := fun q => (hL0.2.2 q).1
 have hD : ok_DDeed ⟨0, [], [], 0, x0⟩ := ⟨rfl, Nat.zero_le _, ⟨by simp, by simp, by simp⟩, rfl, k0, trivial⟩
 obtain ⟨rl, hr1, hr2⟩ := light_p (l := [⟨0, [], [], 0, x0⟩]) (fun x hx => by rw [List.mem_singleton.1 hx]; exact hD) (by simp)
 refine callsA_of dk_mixed Try.func3 rfl rfl rfl (Nat.le_of_ble_eq_true rfl) ?_
 refine comp3 0 1 2 (v0 := .lst A0 x0.length c0 (cs0 ++ rest0)) (v1 := .lst A1 x1.length c1 (cs1 ++ rest1)) (v2 := .raw (.int .i64 keep)) rfl rfl rfl ?_
 intro e he
 first | refine k_region ?_ | refine k_region1 ?_ | (refine k_assoc ?_; refine k_region ?_) | (refine k_assoc ?_; refine k_assoc ?_; refine k_region ?_)
 refine k_cons (c_mv rfl (by simp only [EV, Nat.reduceEqDiff, ↓reduceIte, he] <;> try rfl) ?_)
 refine k_nil ?_
 apply comp3 0 1 2
 ·simp only [EV, Nat.reduceEqDiff, ↓reduceIte, he] <;> try rfl
 ·simp only [EV, Nat.reduceEqDiff, ↓reduceIte, he] <;> try rfl
 ·simp only [EV, Nat.reduceEqDiff, ↓reduceIte, he] <;> try rfl
 clear he e
 intro e he
 first | refine k_region ?_ | refine k_region1 ?_ | (refine k_assoc ?_; refine k_region ?_) | (refine k_assoc ?_; refine k_assoc ?_; refine k_region ?_)
 refine k_cons ?_
 refine s_call (vs := []) (by simp only [List.map_cons, List.map_nil, EV, Nat.reduceEqDiff, ↓reduceIte, he] <;> try rfl) ?_
 refine awake_ok fun σ1 hX1 => ?_
 refine k_cons ?_
 with_reducible apply s_notT
 case hx => simp only [EV, Nat.reduceEqDiff, ↓reduceIte, he] <;> try rfl
 refine k_nil ?_
 apply comp4 0 1 2 17
 ·simp only [EV, Nat.reduceEqDiff, ↓reduceIte, he] <;> try rfl
 ·simp only [EV, Nat.reduceEqDiff, ↓reduceIte, he] <;> try rfl
 ·simp only [EV, Nat.reduceEqDiff, ↓reduceIte, he] <;> try rfl
 ·simp only [EV, Nat.reduceEqDiff, ↓reduceIte, he] <;> try rfl
 clear he e
 intro e he
 refine k_cond (t := false) (by simp only [EV, Nat.reduceEqDiff, ↓reduceIte, he] <;> try rfl) (fun hf => by cases hf) (fun _ => ?_)
 refine k_skip ?_
 first | refine k_region ?_ | refine k_region1 ?_ | (refine k_assoc ?_; refine k_region ?_) | (refine k_assoc ?_; refine k_assoc ?_; refine k_region ?_)
 refine k_cons (c_mv rfl (by simp only [EV, Nat.reduceEqDiff, ↓reduceIte, he] <;> try rfl) ?_)
 refine k_cons ?_
 refine s_build (vs := [.lst A0 x0.length c0 (cs0 ++ rest0)]) (cells := [.raw (.int .i64 0), .raw (sV []), .lst none 0 0 [], .raw (.int .i64 0), .lst A0 x0.length c0 (cs0 ++ rest0)]) (by simp only [List.map_cons, List.map_nil, EV, Nat.reduceEqDiff, ↓reduceIte, he]; try rfl) dk_ze28 dk_pl28 rfl ?_
 refine k_cons ?_
 refine r_row (vs := [.agg [.raw (.int .i64 0), .raw (sV []), .lst none 0 0 [], .raw (.int .i64 0), .lst A0 x0.length c0 (cs0 ++ rest0)]]) (cells := [.raw (.int .i64 0), .raw (sV []), .lst none 0 0 [], .raw (.int .i64 0), .lst A0 x0.length c0 (cs0 ++ rest0)]) (by simp only [List.map_cons, List.map_nil, EV, Nat.reduceEqDiff, ↓reduceIte, he]; try rfl) dk_sl29 dk_sz28 dk_ze28 rfl (by omega) rfl rfl fun rb σ2 hN2 hX2 => ?_
 refine k_cons ?_
 refine s_call (vs := [.lst (some ⟨rb, 0, none⟩) 1 1 [.raw (.int .i64 0), .raw (sV []), .lst none 0 0 [], .raw (.int .i64 0), .lst A0 x0.length c0 (cs0 ++ rest0)]]) (by simp only [List.map_cons, List.map_nil, EV, Nat.reduceEqDiff, ↓reduceIte, he] <;> try rfl) ?_
 refine call_same (watershedlaw07_light_ce.ok ([⟨0, [], [], 0, x0⟩], ()) () (rl, ()) hr1) (svs1.2 ⟨_, rfl, sv_sl.2 ⟨some ⟨rb, 0, none⟩, 1, [.raw (.int .i64 0), .raw (sV []), .lst none 0 0 [], .raw (.int .i64 0), .lst A0 x0.length c0 (cs0 ++ rest0)], [], rfl, Nat.le_refl _, by decide, by simp, fun q => (by cases q), ?_⟩⟩) (fun N ρ a h => sv_bool.1 h) _ fun σ3 hX3 => ?_
 ·show SVs CT 0 noRho [XV.int .i64 0, XV.str [], XV.sl 2 [] none, XV.int .i64 0, XV.sl 3 x0 none] _
  exact .cons (sv_int.2 rfl) (.cons (sv_str.2 rfl) (.cons (empty_sv 2) (.cons (sv_int.2 rfl) (.cons hsa0 .none))))
 refine k_cons ?_
 with_reducible apply s_notT
 case hx => simp only [EV, Nat.reduceEqDiff, ↓reduceIte, he] <;> try rfl
 refine k_cons (c_mv rfl (by simp only [EV, Nat.reduceEqDiff, ↓reduceIte, he] <;> try rfl) ?_)
 cases rl with
 | false =>
  refine k_cons (s_guard_off (y_is rfl (by simp only [EV, Nat.reduceEqDiff, ↓reduceIte, he] <;> try rfl)) ?_)
  refine k_cons (s_guard_off (y_is rfl (by simp only [EV, Nat.reduceEqDiff, ↓reduceIte, he] <;> try rfl)) ?_)
  refine k_cons (s_guard_off (y_is rfl (by simp only [EV, Nat.reduceEqDiff, ↓reduceIte, he] <;> try rfl)) ?_)
  refine k_cons ?_
  refine s_pick_t (v := vT true) (by simp only [EV, Nat.reduceEqDiff, ↓reduceIte, he] <;> try rfl) (by simp only [EV, Nat.reduceEqDiff, ↓reduceIte, he] <;> try rfl) ?_
  refine k_nil ?_
  refine k_cond (t := true) (by simp only [EV, Nat.reduceEqDiff, ↓reduceIte, he] <;> try rfl) (fun _ => ?_) (fun hf => by cases hf)
  first | refine k_region ?_ | refine k_region1 ?_ | (refine k_assoc ?_; refine k_region ?_) | (refine k_assoc ?_; refine k_assoc ?_; refine k_region ?_)
  refine k_cons (c_mv rfl (by simp only [EV, Nat.reduceEqDiff, ↓reduceIte, he] <;> try rfl) ?_)
  refine k_nil ?_
  refine k_ret ?_
  show ∃ r, aResults _ _ _ _ r ∧ _
  exact ⟨_, res_tmp rfl (by simp only [EV, Nat.reduceEqDiff, ↓reduceIte, he] <;> try rfl), hK σ3⟩
 | true =>
 obtain ⟨_, hW⟩ := hr2 rfl
 have hlenS : x0.length + lenS x0 ≤ 20000 := by
  simp only [deedsW, deedW, List.map_cons, List.map_nil, List.sum_cons, List.sum_nil] at hW
  omega
 clear hr1 hr2 hW hD hN2
 refine k_cons (s_guard_on (y_is rfl (by simp only [EV, Nat.reduceEqDiff, ↓reduceIte, he] <;> try rfl)) ?_)
 refine c_mv rfl (by simp only [EV, Nat.reduceEqDiff, ↓reduceIte, he] <;> try rfl) ?_
 refine k_cons (s_guard_on (y_is rfl (by simp only [EV, Nat.reduceEqDiff, ↓reduceIte, he] <;> try rfl)) ?_)
 refine s_lenN (n := x0.length) (c := c0) (A := A0) (by simp only [EV, Nat.reduceEqDiff, ↓reduceIte, he] <;> try rfl) rfl rfl dk_sl22 ?_
 refine k_cons (s_guard_on (y_is rfl (by simp only [EV, Nat.reduceEqDiff, ↓reduceIte, he] <;> try rfl)) ?_)
 refine s_gtr (k := .i64) (a := (x0.length : Int)) (b := 300) (by simp only [EV, Nat.reduceEqDiff, ↓reduceIte, he] <;> try rfl) (by simp only [EV, Nat.reduceEqDiff, ↓reduceIte, he] <;> try rfl) ?_
 refine k_cons ?_
 refine s_pick_f (v := vT (decide ((300 : Int) < (x0.length : Int)))) (by simp only [EV, Nat.reduceEqDiff, ↓reduceIte, he] <;> try rfl) (by simp only [EV, Nat.reduceEqDiff, ↓reduceIte, he] <;> try rfl) ?_
 refine k_nil ?_
 apply comp4 0 1 2 27
 ·simp only [EV, Nat.reduceEqDiff, ↓reduceIte, he] <;> try rfl
 ·simp only [EV, Nat.reduceEqDiff, ↓reduceIte, he] <;> try rfl
 ·simp only [EV, Nat.reduceEqDiff, ↓reduceIte, he] <;> try rfl
 ·simp only [EV, Nat.reduceEqDiff, ↓reduceIte, he] <;> try rfl
 clear he e
 intro e he
 refine k_cond (t := decide ((300 : Int) < (x0.length : Int))) (by simp only [EV, Nat.reduceEqDiff, ↓reduceIte, he] <;> try rfl) (fun hb => ?_) (fun hb => ?_)
 ·first | refine k_region ?_ | refine k_region1 ?_ | (refine k_assoc ?_; refine k_region ?_) | (refine k_assoc ?_; refine k_assoc ?_; refine k_region ?_)
  refine k_cons (c_mv rfl (by simp only [EV, Nat.reduceEqDiff, ↓reduceIte, he] <;> try rfl) ?_)
  refine k_nil ?_
  refine k_ret ?_
  show ∃ r, aResults _ _ _ _ r ∧ _
  exact ⟨_, res_tmp rfl (by simp only [EV, Nat.reduceEqDiff, ↓reduceIte, he] <;> try rfl), hK σ3⟩
 have hb := of_decide_eq_false hb
 have h300 : x0.length ≤ 300 := by omega
 refine k_skip ?_
 have hfl : ∀ i, (x0.take i).flatten.length ≤ 20000 := fun i => by
  have := flat_le x0 i
  rw [lenS_flat] at hlenS
  omega
 first | refine k_region ?_ | refine k_region1 ?_ | (refine k_assoc ?_; refine k_region ?_) | (refine k_assoc ?_; refine k_assoc ?_; refine k_region ?_)
 refine k_cons ?_
 refine s_call (vs := [.raw (.int .i64 0)]) (by simp only [List.map_cons, List.map_nil, EV, Nat.reduceEqDiff, ↓reduceIte, he] <;> try rfl) ?_
 refine new_ok fun bb mb σ4 h4 hE4 hnb hnm => ?_
 refine k_cons (c_mv rfl (by simp only [EV, Nat.reduceEqDiff, ↓reduceIte, he] <;> try rfl) ?_)
 refine k_nil ?_
 apply comp4 0 1 2 7
 ·simp only [EV, Nat.reduceEqDiff, ↓reduceIte, he] <;> try rfl
 ·simp only [EV, Nat.reduceEqDiff, ↓reduceIte, he] <;> try rfl
 ·simp only [EV, Nat.reduceEqDiff, ↓reduceIte, he] <;> try rfl
 ·simp only [EV, Nat.reduceEqDiff, ↓reduceIte, he] <;> try rfl
 clear he e
 intro e he
 first | refine k_region ?_ | refine k_region1 ?_ | (refine k_assoc ?_; refine k_region ?_) | (refine k_assoc ?_; refine k_assoc ?_; refine k_region ?_)
 refine k_cons (c_mv rfl (by simp only [EV, Nat.reduceEqDiff, ↓reduceIte, he] <;> try rfl) ?_)
 refine k_nil ?_
 first | refine k_region ?_ | refine k_region1 ?_ | (refine k_assoc ?_; refine k_region ?_) | (refine k_assoc ?_; refine k_assoc ?_; refine k_region ?_)
 refine k_cons (c_mv rfl (by simp only [EV, Nat.reduceEqDiff, ↓reduceIte, he] <;> try rfl) ?_)
 refine k_nil ?_
 apply comp6 0 1 2 7 8 9
 ·simp only [EV, Nat.reduceEqDiff, ↓reduceIte, he] <;> try rfl
 ·simp only [EV, Nat.reduceEqDiff, ↓reduceIte, he] <;> try rfl
 ·simp only [EV, Nat.reduceEqDiff, ↓reduceIte, he] <;> try rfl
 ·simp only [EV, Nat.reduceEqDiff, ↓reduceIte, he] <;> try rfl
 ·simp only [EV, Nat.reduceEqDiff, ↓reduceIte, he] <;> try rfl
 ·simp only [EV, Nat.reduceEqDiff, ↓reduceIte, he] <;> try rfl
 clear he e
 intro e he
 refine k_cutS (fun env υ => ∃ S fs pcs pv av, ∃ safe : Nat, (env 0 = .lst A0 x0.length c0 (cs0 ++ rest0) ∧ env 2 = .raw (.int .i64 keep) ∧ env 7 = ptr bb 0 ∧ env 8 = av ∧ env 9 = vI safe) ∧ At x0 bb mb x0.length υ S fs pcs pv av safe) ?_ ?_
 ·first | refine k_region ?_ | refine k_region1 ?_ | (refine k_assoc ?_; refine k_region ?_) | (refine k_assoc ?_; refine k_assoc ?_; refine k_region ?_)
  refine k_cons (c_mv rfl (by simp only [EV, Nat.reduceEqDiff, ↓reduceIte, he] <;> try rfl) ?_)
  refine k_nil ?_
  apply comp7 0 1 2 7 8 9 10
  ·simp only [EV, Nat.reduceEqDiff, ↓reduceIte, he] <;> try rfl
  ·simp only [EV, Nat.reduceEqDiff, ↓reduceIte, he] <;> try rfl
  ·simp only [EV, Nat.reduceEqDiff, ↓reduceIte, he] <;> try rfl
  ·simp only [EV, Nat.reduceEqDiff, ↓reduceIte, he] <;> try rfl
  ·simp only [EV, Nat.reduceEqDiff, ↓reduceIte, he] <;> try rfl
  ·simp only [EV, Nat.reduceEqDiff, ↓reduceIte, he] <;> try rfl
  ·simp only [EV, Nat.reduceEqDiff, ↓reduceIte, he] <;> try rfl
  clear he e
  intro e he
  refine k_block1 ?_
  refine k_loopE (fun μ env υ => ∃ (i : Nat), ∃ S fs pcs pv av, ∃ safe : Nat, μ = x0.length - i ∧ i ≤ x0.length ∧ (env 0 = .lst A0 x0.length c0 (cs0 ++ rest0) ∧ env 1 = .lst A1 x1.length c1 (cs1 ++ rest1) ∧ env 2 = .raw (.int .i64 keep) ∧ env 7 = ptr bb 0 ∧ env 8 = av ∧ env 9 = vI safe ∧ env 10 = vI i) ∧ At x0 bb mb i υ S fs pcs pv av safe) ⟨_, 0, _, [], [], _, .lst none 0 0 [], 0, rfl, Nat.zero_le _, he, h4, fun c hc => ?_, ⟨(fun p hp => by cases hp), fun f hf => by cases hf⟩, Nat.le_refl _, ⟨rfl, by simp [bys], .inl ⟨.inl rfl, rfl⟩⟩, (fun c hc => by cases hc), Nat.zero_le _, rfl, .inl ⟨rfl, rfl, rfl⟩⟩ ?_
  ·rcases hc with rfl | rfl
   ·exact h4.used
   ·exact h4.umap
  clear he e h4
  rintro _ e υ ⟨i, S, fs, pcs, pv, av, safe, rfl, hi, he, hAt⟩
  first | refine k_region ?_ | refine k_region1 ?_ | (refine k_assoc ?_; refine k_region ?_) | (refine k_assoc ?_; refine k_assoc ?_; refine k_region ?_)
  refine k_cons (c_mv rfl (by simp only [EV, Nat.reduceEqDiff, ↓reduceIte, he] <;> try rfl) ?_)
  refine k_cons (c_mv rfl (by simp only [EV, Nat.reduceEqDiff, ↓reduceIte, he] <;> try rfl) ?_)
  refine k_cons ?_
  refine s_lenN (n := x0.length) (c := c0) (A := A0) (by simp only [EV, Nat.reduceEqDiff, ↓reduceIte, he] <;> try rfl) rfl rfl dk_sl22 ?_
  refine k_cons ?_
  refine s_lssN i x0.length (by simp only [EV, Nat.reduceEqDiff, ↓reduceIte, he] <;> try rfl) (by simp only [EV, Nat.reduceEqDiff, ↓reduceIte, he] <;> try rfl) ?_
  refine k_nil ?_
  apply comp8 0 1 2 7 8 9 10 32
  ·simp only [EV, Nat.reduceEqDiff, ↓reduceIte, he] <;> try rfl
  ·simp only [EV, Nat.reduceEqDiff, ↓reduceIte, he] <;> try rfl
  ·simp only [EV, Nat.reduceEqDiff, ↓reduceIte, he] <;> try rfl
  ·simp only [EV, Nat.reduceEqDiff, ↓reduceIte, he] <;> try rfl
  ·simp only [EV, Nat.reduceEqDiff, ↓reduceIte, he] <;> try rfl
  ·simp only [EV, Nat.reduceEqDiff, ↓reduceIte, he] <;> try rfl
  ·simp only [EV, Nat.reduceEqDiff, ↓reduceIte, he] <;> try rfl
  ·simp only [EV, Nat.reduceEqDiff, ↓reduceIte, he] <;> try rfl
  clear he e
  intro e he
  refine k_cond (t := decide (i < x0.length)) (by simp only [EV, Nat.reduceEqDiff, ↓reduceIte, he] <;> try rfl) (fun ht => ?_) (fun ht => ?_)
  ·have hlt : i < x0.length := of_decide_eq_true ht
   obtain ⟨v, hv, hvs⟩ := row_cell hs0 i hlt
   obtain ⟨Av, cv, rv, hvf, hvL⟩ := sv_bytes hvs
   subst hvf
   have hcl : i < cs0.length := lt_of_get hv
   have hvi : (cs0 ++ rest0)[i]? = some (.lst Av x0[i].length cv (bys x0[i] ++ rv)) := by rw [List.getElem?_append_left hcl]; exact hv
   have hsn := flat_snoc x0 i hlt
   have hfi := hfl i
   have hfi1 := hfl (i + 1)
   rw [hsn, List.length_append] at hfi1
   refine k_skip ?_
   refine k_cutS (fun env υ => ∃ S fs pcs pv av, ∃ safe : Nat, (env 0 = .lst A0 x0.length c0 (cs0 ++ rest0) ∧ env 1 = .lst A1 x1.length c1 (cs1 ++ rest1) ∧ env 2 = .raw (.int .i64 keep) ∧ env 7 = ptr bb 0 ∧ env 8 = av ∧ env 9 = vI safe ∧ env 10 = vI i) ∧ At x0 bb mb (i + 1) υ S fs pcs pv av safe) ?_ ?_
   ·refine k_block1 ?_
    first | refine k_region ?_ | refine k_region1 ?_ | (refine k_assoc ?_; refine k_region ?_) | (refine k_assoc ?_; refine k_assoc ?_; refine k_region ?_)
    refine k_cons (c_mv rfl (by simp only [EV, Nat.reduceEqDiff, ↓reduceIte, he] <;> try rfl) ?_)
    refine k_cons (c_mv rfl (by simp only [EV, Nat.reduceEqDiff, ↓reduceIte, he] <;> try rfl) ?_)
    refine k_cons (c_mv rfl (by simp only [EV, Nat.reduceEqDiff, ↓reduceIte, he] <;> try rfl) ?_)
    refine k_cons ?_
    refine s_indexD (k := .i64) (j := i) (A := A0) (n := x0.length) (c := c0) (cells := cs0 ++ rest0) (by simp only [EV, Nat.reduceEqDiff, ↓reduceIte, he] <;> try rfl) (by simp only [EV, Nat.reduceEqDiff, ↓reduceIte, he] <;> try rfl) dk_sl22 dk_sz32 hlt hA0 rfl fun ad => ?_
    refine k_cons ?_
    refine r_load_e (r := .lst Av x0[i].length cv (bys x0[i] ++ rv)) (by simp only [EV, Nat.reduceEqDiff, ↓reduceIte, he] <;> try rfl) dk_ag32 dk_sz32 ?_ ?_
    ·show ((cs0 ++ rest0).drop (i * 1))[0]? = _
     rw [List.getElem?_drop, Nat.mul_one, Nat.add_zero]
     exact hvi
    refine k_cons ?_
    refine r_row (vs := [.lst Av x0[i].length cv (bys x0[i] ++ rv)]) (cells := [.lst Av x0[i].length cv (bys x0[i] ++ rv)]) (by simp only [List.map_cons, List.map_nil, EV, Nat.reduceEqDiff, ↓reduceIte, he]; try rfl) dk_sl22 dk_sz32 dk_ze32 rfl (by omega) rfl rfl fun b40 υ1 hN1 hX1 => ?_
    have hAt1 := hAt.ext hX1
    refine k_cons ?_
    refine s_call (vs := [ptr bb 0, .raw (sV [102]), .lst (some ⟨b40, 0, none⟩) 1 1 [.lst Av x0[i].length cv (bys x0[i] ++ rv)]]) (by simp only [List.map_cons, List.map_nil, EV, Nat.reduceEqDiff, ↓reduceIte, he] <;> try rfl) ?_
    have hfew := hAt.few
    have hfl1 : [x0[i]].flatten = x0[i] := by simp
    refine append_ok hAt1.disk hAt1.used (d := [x0[i]].flatten) (fun τ0 _ K' hK' => concat_ok (ps := [x0[i]]) (rows_sv (ps := [x0[i]]) (.cons hvs .none) (lst_row _ (by simp))) (by simp) (by rw [hfl1]; omega) K' hK') (by rw [hAt.sumD, hfl1]; omega) (by omega) (fun q => absurd ⟨by decide, by decide⟩ q) (fun q => absurd (.inl (by decide)) q) fun _ _ υ2 S2 fs2 pcs2 pv2 h2 hB2 hS12 hS21 hSu2 ha2 => ?_
    rw [hfl1] at ha2
    obtain ⟨hwf2, hs2, hl2, hd2⟩ := appD_wf hAt.disk h2 ha2 hAt.wf
    have hav2 : Hd υ2 5 1 av (x0.take i).flatten.length (bys (x0.take i).flatten) := hAt1.all.but hB2 hAt.apart
    have hap2 : ∀ c, hbk av = some c → ¬ S2 c := fun c hc hs => by
     rcases hS21 c hs with q | q
     ·exact hAt.apart c hc q
     ·exact q.2 (hAt1.all.used hc)
    have hdata2 : ∃ fb, dat fs2 = [([102], fb, (x0.take (i + 1)).flatten)] ∧ ∀ p ∈ pcs2, p.1 = fb := by
     rw [hsn]
     rcases hAt.data with ⟨rfl, hdt, hpc⟩ | ⟨_, fb, hdt, hpc⟩
     ·rcases appD_data hAt.disk h2 ha2 with ⟨nb, _, _, g1, rfl⟩ | ⟨f0, hf0, _⟩
      ·refine ⟨nb, by rw [g1, hdt]; rfl, fun p hp => ?_⟩
       rw [hpc, List.nil_append] at hp
       unfold pcs1 at hp
       split at hp
       ·cases hp
       ·rw [List.mem_singleton.1 hp]
      ·have := mem_dat hf0
       rw [hdt] at this
       cases this
     ·rcases appD_data hAt.disk h2 ha2 with ⟨nb, gn, _⟩ | ⟨f0, hf0, hq, g1, rfl⟩
      ·obtain ⟨f, hf, hfn, _⟩ := dget_of hdt List.mem_cons_self
       exact absurd hfn (gn f hf)
      ·have hm := mem_dat hf0
       rw [hdt, hq] at hm
       have hfb : f0.b = fb := by simp at hm; exact hm.1
       rw [hfb] at g1 ⊢
       refine ⟨fb, by rw [g1, hdt]; simp [addD], fun p hp => ?_⟩
       rcases List.mem_append.1 hp with hp | hp
       ·exact hpc p hp
       ·unfold pcs1 at hp
        split at hp
        ·cases hp
        ·rw [List.mem_singleton.1 hp]
    refine k_cons ?_
    refine s_neq (k := .i64) (a := 0) (b := 0) (by simp only [EV, Nat.reduceEqDiff, ↓reduceIte, he] <;> try rfl) (by simp only [EV, Nat.reduceEqDiff, ↓reduceIte, he] <;> try rfl) ?_
    rw [decide_eq_false (by omega : ¬ (0 : Int) ≠ 0)]
    refine k_nil ?_
    apply comp8 0 1 2 7 8 9 10 42
    ·simp only [EV, Nat.reduceEqDiff, ↓reduceIte, he] <;> try rfl
    ·simp only [EV, Nat.reduceEqDiff, ↓reduceIte, he] <;> try rfl
    ·simp only [EV, Nat.reduceEqDiff, ↓reduceIte, he] <;> try rfl
    ·simp only [EV, Nat.reduceEqDiff, ↓reduceIte, he] <;> try rfl
    ·simp only [EV, Nat.reduceEqDiff, ↓reduceIte, he] <;> try rfl
    ·simp only [EV, Nat.reduceEqDiff, ↓reduceIte, he] <;> try rfl
    ·simp only [EV, Nat.reduceEqDiff, ↓reduceIte, he] <;> try rfl
    ·simp only [EV, Nat.reduceEqDiff, ↓reduceIte, he] <;> try rfl
    clear he e
    intro e he
    refine k_cond (t := false) (by simp only [EV, Nat.reduceEqDiff, ↓reduceIte, he] <;> try rfl) (fun hf => by cases hf) (fun _ => ?_)
    refine k_skip ?_
    first | refine k_region ?_ | refine k_region1 ?_ | (refine k_assoc ?_; refine k_region ?_) | (refine k_assoc ?_; refine k_assoc ?_; refine k_region ?_)
    refine k_cons (c_mv rfl (by simp only [EV, Nat.reduceEqDiff, ↓reduceIte, he] <;> try rfl) ?_)
    refine k_cons (c_mv rfl (by simp only [EV, Nat.reduceEqDiff, ↓reduceIte, he] <;> try rfl) ?_)
    refine k_cons (c_mv rfl (by simp only [EV, Nat.reduceEqDiff, ↓reduceIte, he] <;> try rfl) ?_)
    refine k_cons ?_
    refine s_indexD (k := .i64) (j := i) (A := A0) (n := x0.length) (c := c0) (cells := cs0 ++ rest0) (by simp only [EV, Nat.reduceEqDiff, ↓reduceIte, he] <;> try rfl) (by simp only [EV, Nat.reduceEqDiff, ↓reduceIte, he] <;> try rfl) dk_sl22 dk_sz32 hlt hA0 rfl fun ad2 => ?_
    refine k_cons ?_
    refine r_load_e (r := .lst Av x0[i].length cv (bys x0[i] ++ rv)) (by simp only [EV, Nat.reduceEqDiff, ↓reduceIte, he] <;> try rfl) dk_ag32 dk_sz32 ?_ ?_
    ·show ((cs0 ++ rest0).drop (i * 1))[0]? = _
     rw [List.getElem?_drop, Nat.mul_one, Nat.add_zero]
     exact hvi
    refine k_cons ?_
    refine s_appendA (m := x0[i].length) (news := bys x0[i]) (by simp only [EV, Nat.reduceEqDiff, ↓reduceIte, he] <;> try rfl) (by simp only [EV, Nat.reduceEqDiff, ↓reduceIte, he] <;> try rfl) dk_sl32 dk_sz5 dk_ze5 dk_by5 rfl (by omega) hav2 (src_told (by rw [bys_len, Nat.mul_one]) (bys_one _) fun q => (hvL.none q).1) (by unfold maxLen; omega) (by omega) fun av3 υ3 hav3 hB3 hn3 => ?_
    refine k_cons (c_mv rfl (by simp only [EV, Nat.reduceEqDiff, ↓reduceIte, he] <;> try rfl) ?_)
    refine k_nil ?_
    have hbys : bys (x0.take i).flatten ++ bys x0[i] = bys (x0.take (i + 1)).flatten := by
     rw [hsn]
     unfold bys
     rw [List.map_append]
    have hav4 : Hd υ3 5 1 av3 (x0.take (i + 1)).flatten.length (bys (x0.take (i + 1)).flatten) := by
     rw [← hbys]
     have e : (x0.take (i + 1)).flatten.length = (x0.take i).flatten.length + x0[i].length := by rw [hsn, List.length_append]
     rw [e]
     exact hav3
    have hsafe := hAt.sf
    have hsum := hAt.sum
    have hAt3 : At x0 bb mb (i + 1) υ3 S2 fs2 pcs2 pv2 av3 safe := by
     refine ⟨h2.but hB3 fun c hs hc => hap2 c hc hs, fun c hc => hB3.used _ (hSu2 c hc), hwf2, by omega, hav4, fun c hc hs => ?_, ?_, ?_, .inr ⟨Nat.succ_pos _, hdata2⟩⟩
     ·rcases hn3 c hc with q | q
      ·exact hap2 c q hs
      ·exact q.2 (hSu2 c hs)
     ·rw [hsn, List.length_append]; omega
     ·rw [hs2, hsum, hsn, List.length_append]; omega
    clear hAt hAt1 h2 hB2 hS12 hS21 hSu2 ha2 hwf2 hs2 hl2 hd2 hav2 hap2 hdata2 hav3 hav4 hB3 hn3 hsafe hsum hfew
    apply comp7 0 1 2 7 8 9 10
    ·simp only [EV, Nat.reduceEqDiff, ↓reduceIte, he] <;> try rfl
    ·simp only [EV, Nat.reduceEqDiff, ↓reduceIte, he] <;> try rfl
    ·simp only [EV, Nat.reduceEqDiff, ↓reduceIte, he] <;> try rfl
    ·simp only [EV, Nat.reduceEqDiff, ↓reduceIte, he] <;> try rfl
    ·simp only [EV, Nat.reduceEqDiff, ↓reduceIte, he] <;> try rfl
    ·simp only [EV, Nat.reduceEqDiff, ↓reduceIte, he] <;> try rfl
    ·simp only [EV, Nat.reduceEqDiff, ↓reduceIte, he] <;> try rfl
    clear he e
    intro e he
    have hno : ∀ (env : Env), (env 0 = .lst A0 x0.length c0 (cs0 ++ rest0) ∧ env 1 = .lst A1 x1.length c1 (cs1 ++ rest1) ∧ env 2 = .raw (.int .i64 keep) ∧ env 7 = ptr bb 0 ∧ env 8 = av3 ∧ env 9 = vI safe ∧ env 10 = vI i) → ∃ S fs pcs pv av, ∃ safe : Nat, (env 0 = .lst A0 x0.length c0 (cs0 ++ rest0) ∧ env 1 = .lst A1 x1.length c1 (cs1 ++ rest1) ∧ env 2 = .raw (.int .i64 keep) ∧ env 7 = ptr bb 0 ∧ env 8 = av ∧ env 9 = vI safe ∧ env 10 = vI i) ∧ At x0 bb mb (i + 1) υ3 S fs pcs pv av safe := fun env q => ⟨_, _, _, _, _, _, q, hAt3⟩
    by_cases hi1 : i < x1.length
    ·have hbi : (cs1 ++ rest1)[i]? = some (vT x1[i]) := by
      have := bool_cell hs1 i hi1
      rw [List.getElem?_append_left (lt_of_get this)]
      exact this
     first | refine k_region ?_ | refine k_region1 ?_ | (refine k_assoc ?_; refine k_region ?_) | (refine k_assoc ?_; refine k_assoc ?_; refine k_region ?_)
     refine k_cons (c_mv rfl (by simp only [EV, Nat.reduceEqDiff, ↓reduceIte, he] <;> try rfl) ?_)
     refine k_cons (c_mv rfl (by simp only [EV, Nat.reduceEqDiff, ↓reduceIte, he] <;> try rfl) ?_)
     refine k_cons ?_
     refine s_lenN (n := x1.length) (c := c1) (A := A1) (by simp only [EV, Nat.reduceEqDiff, ↓reduceIte, he] <;> try rfl) rfl rfl dk_sl23 ?_
     refine k_cons ?_
     refine s_lssT i x1.length (by simp only [EV, Nat.reduceEqDiff, ↓reduceIte, he] <;> try rfl) (by simp only [EV, Nat.reduceEqDiff, ↓reduceIte, he] <;> try rfl) hi1 ?_
     refine k_cons (c_mv rfl (by simp only [EV, Nat.reduceEqDiff, ↓reduceIte, he] <;> try rfl) ?_)
     refine k_cons (s_guard_on (y_is rfl (by simp only [EV, Nat.reduceEqDiff, ↓reduceIte, he] <;> try rfl)) ?_)
     refine c_mv rfl (by simp only [EV, Nat.reduceEqDiff, ↓reduceIte, he] <;> try rfl) ?_
     refine k_cons (s_guard_on (y_is rfl (by simp only [EV, Nat.reduceEqDiff, ↓reduceIte, he] <;> try rfl)) ?_)
     refine c_mv rfl (by simp only [EV, Nat.reduceEqDiff, ↓reduceIte, he] <;> try rfl) ?_
     refine k_cons (s_guard_on (y_is rfl (by simp only [EV, Nat.reduceEqDiff, ↓reduceIte, he] <;> try rfl)) ?_)
     refine s_indexD (k := .i64) (j := i) (A := A1) (n := x1.length) (c := c1) (cells := cs1 ++ rest1) (by simp only [EV, Nat.reduceEqDiff, ↓reduceIte, he] <;> try rfl) (by simp only [EV, Nat.reduceEqDiff, ↓reduceIte, he] <;> try rfl) dk_sl23 dk_sz4 hi1 hL1 rfl fun ad3 => ?_
     refine k_cons (s_guard_on (y_is rfl (by simp only [EV, Nat.reduceEqDiff, ↓reduceIte, he] <;> try rfl)) ?_)
     refine r_load_e (r := vT x1[i]) (by simp only [EV, Nat.reduceEqDiff, ↓reduceIte, he] <;> try rfl) dk_ag4 dk_sz4 ?_ ?_
     ·show ((cs1 ++ rest1).drop (i * 1))[0]? = _
      rw [List.getElem?_drop, Nat.mul_one, Nat.add_zero]
      exact hbi
     refine k_cons ?_
     refine s_pick_t (v := vT x1[i]) (by simp only [EV, Nat.reduceEqDiff, ↓reduceIte, he] <;> try rfl) (by simp only [EV, Nat.reduceEqDiff, ↓reduceIte, he] <;> try rfl) ?_
     refine k_nil ?_
     apply comp8 0 1 2 7 8 9 10 58
     ·simp only [EV, Nat.reduceEqDiff, ↓reduceIte, he] <;> try rfl
     ·simp only [EV, Nat.reduceEqDiff, ↓reduceIte, he] <;> try rfl
     ·simp only [EV, Nat.reduceEqDiff, ↓reduceIte, he] <;> try rfl
     ·simp only [EV, Nat.reduceEqDiff, ↓reduceIte, he] <;> try rfl
     ·simp only [EV, Nat.reduceEqDiff, ↓reduceIte, he] <;> try rfl
     ·simp only [EV, Nat.reduceEqDiff, ↓reduceIte, he] <;> try rfl
     ·simp only [EV, Nat.reduceEqDiff, ↓reduceIte, he] <;> try rfl
     ·simp only [EV, Nat.reduceEqDiff, ↓reduceIte, he] <;> try rfl
     clear he e
     intro e he
     refine k_cond1 (t := x1[i]) (by simp only [EV, Nat.reduceEqDiff, ↓reduceIte, he] <;> try rfl) (fun hbt => ?_) (fun hbf => ?_)
     ·first | refine k_region ?_ | refine k_region1 ?_ | (refine k_assoc ?_; refine k_region ?_) | (refine k_assoc ?_; refine k_assoc ?_; refine k_region ?_)
      refine k_cons (c_mv rfl (by simp only [EV, Nat.reduceEqDiff, ↓reduceIte, he] <;> try rfl) ?_)
      refine k_cons ?_
      refine r_row (vs := [.raw (sV [102])]) (cells := [.raw (sV [102])]) rfl dk_sl26 dk_sz9 dk_ze9 rfl (by omega) rfl rfl fun b60 υ4 hN4 hX4 => ?_
      have hAt4 := hAt3.ext hX4
      refine k_cons ?_
      refine s_call (vs := [ptr bb 0, .lst (some ⟨b60, 0, none⟩) 1 1 [.raw (sV [102])]]) (by simp only [List.map_cons, List.map_nil, EV, Nat.reduceEqDiff, ↓reduceIte, he] <;> try rfl) ?_
      have hfew := hAt3.few
      obtain ⟨fb, hdt, hpc⟩ : ∃ fb, dat fs2 = [([102], fb, (x0.take (i + 1)).flatten)] ∧ ∀ p ∈ pcs2, p.1 = fb := by
       rcases hAt3.data with ⟨q, _⟩ | ⟨_, q⟩
       ·exact absurd q (Nat.succ_ne_zero _)
       ·exact q
      have hsy : syncD fs2 [[102]] pcs2 = ([], 0) := by
       rw [syncD_some (dget_dat hdt), syncD_nil, List.filter_eq_nil_iff.2 fun p hp => by simp [hpc p hp]]
      refine sync_ok hAt4.disk hAt4.used (ns := [[102]]) (by omega) (.inl ⟨some ⟨b60, 0, none⟩, 1, [], rfl, fun q => (by cases q)⟩) (fun c hc => by cases hc) (by simp) fun υ5 pv5 h5 hB5 => ?_
      rw [hsy] at h5 ⊢
      refine k_cons ?_
      refine s_neq (k := .i64) (a := 0) (b := 0) (by simp only [EV, Nat.reduceEqDiff, ↓reduceIte, he] <;> try rfl) (by simp only [EV, Nat.reduceEqDiff, ↓reduceIte, he] <;> try rfl) ?_
      rw [decide_eq_false (by omega : ¬ (0 : Int) ≠ 0)]
      refine k_nil ?_
      apply comp8 0 1 2 7 8 9 10 62
      ·simp only [EV, Nat.reduceEqDiff, ↓reduceIte, he] <;> try rfl
      ·simp only [EV, Nat.reduceEqDiff, ↓reduceIte, he] <;> try rfl
      ·simp only [EV, Nat.reduceEqDiff, ↓reduceIte, he] <;> try rfl
      ·simp only [EV, Nat.reduceEqDiff, ↓reduceIte, he] <;> try rfl
      ·simp only [EV, Nat.reduceEqDiff, ↓reduceIte, he] <;> try rfl
      ·simp only [EV, Nat.reduceEqDiff, ↓reduceIte, he] <;> try rfl
      ·simp only [EV, Nat.reduceEqDiff, ↓reduceIte, he] <;> try rfl
      ·simp only [EV, Nat.reduceEqDiff, ↓reduceIte, he] <;> try rfl
      clear he e
      intro e he
      refine k_cond (t := false) (by simp only [EV, Nat.reduceEqDiff, ↓reduceIte, he] <;> try rfl) (fun hf => by cases hf) (fun _ => ?_)
      refine k_skip ?_
      have hall5 := hAt4.all.but hB5 hAt4.apart
      refine k_region1 ?_
      refine k_cons (c_mv rfl (by simp only [EV, Nat.reduceEqDiff, ↓reduceIte, he] <;> try rfl) ?_)
      refine k_cons ?_
      refine s_lenH (by simp only [EV, Nat.reduceEqDiff, ↓reduceIte, he] <;> try rfl) hall5 rfl dk_sl32 ?_
      refine k_cons (c_mv rfl (by simp only [EV, Nat.reduceEqDiff, ↓reduceIte, he] <;> try rfl) ?_)
      refine k_nil ?_
      refine ⟨rfl, S2, fs2, [], pv5, av3, (x0.take (i + 1)).flatten.length, ⟨by simp only [EV, Nat.reduceEqDiff, ↓reduceIte, he] <;> try rfl, by simp only [EV, Nat.reduceEqDiff, ↓reduceIte, he] <;> try rfl, by simp only [EV, Nat.reduceEqDiff, ↓reduceIte, he] <;> try rfl, by simp only [EV, Nat.reduceEqDiff, ↓reduceIte, he] <;> try rfl, by simp only [EV, Nat.reduceEqDiff, ↓reduceIte, he] <;> try rfl, by simp only [EV, Nat.reduceEqDiff, ↓reduceIte, he] <;> try rfl, by simp only [EV, Nat.reduceEqDiff, ↓reduceIte, he] <;> try rfl⟩, h5, fun c hc => hB5.used _ (hAt4.used c hc), ⟨(fun p hp => by cases hp), fun f hf => Nat.zero_le _⟩, Nat.zero_le _, hall5, hAt4.apart, Nat.le_refl _, by rw [Nat.sub_self]; rfl, .inr ⟨Nat.succ_pos _, fb, hdt, fun p hp => by cases hp⟩⟩
     ·refine k_skip1 ?_
      exact ⟨rfl, hno _ ⟨by simp only [EV, Nat.reduceEqDiff, ↓reduceIte, he] <;> try rfl, by simp only [EV, Nat.reduceEqDiff, ↓reduceIte, he] <;> try rfl, by simp only [EV, Nat.reduceEqDiff, ↓reduceIte, he] <;> try rfl, by simp only [EV, Nat.reduceEqDiff, ↓reduceIte, he] <;> try rfl, by simp only [EV, Nat.reduceEqDiff, ↓reduceIte, he] <;> try rfl, by simp only [EV, Nat.reduceEqDiff, ↓reduceIte, he] <;> try rfl, by simp only [EV, Nat.reduceEqDiff, ↓reduceIte, he] <;> try rfl⟩⟩
    ·first | refine k_region ?_ | refine k_region1 ?_ | (refine k_assoc ?_; refine k_region ?_) | (refine k_assoc ?_; refine k_assoc ?_; refine k_region ?_)
     refine k_cons (c_mv rfl (by simp only [EV, Nat.reduceEqDiff, ↓reduceIte, he] <;> try rfl) ?_)
     refine k_cons (c_mv rfl (by simp only [EV, Nat.reduceEqDiff, ↓reduceIte, he] <;> try rfl) ?_)
     refine k_cons ?_
     refine s_lenN (n := x1.length) (c := c1) (A := A1) (by simp only [EV, Nat.reduceEqDiff, ↓reduceIte, he] <;> try rfl) rfl rfl dk_sl23 ?_
     refine k_cons ?_
     refine s_lssF i x1.length (by simp only [EV, Nat.reduceEqDiff, ↓reduceIte, he] <;> try rfl) (by simp only [EV, Nat.reduceEqDiff, ↓reduceIte, he] <;> try rfl) hi1 ?_
     refine k_cons (c_mv rfl (by simp only [EV, Nat.reduceEqDiff, ↓reduceIte, he] <;> try rfl) ?_)
     refine k_cons (s_guard_off (y_is rfl (by simp only [EV, Nat.reduceEqDiff, ↓reduceIte, he] <;> try rfl)) ?_)
     refine k_cons (s_guard_off (y_is rfl (by simp only [EV, Nat.reduceEqDiff, ↓reduceIte, he] <;> try rfl)) ?_)
     refine k_cons (s_guard_off (y_is rfl (by simp only [EV, Nat.reduceEqDiff, ↓reduceIte, he] <;> try rfl)) ?_)
     refine k_cons (s_guard_off (y_is rfl (by simp only [EV, Nat.reduceEqDiff, ↓reduceIte, he] <;> try rfl)) ?_)
     refine k_cons ?_
     refine s_pick_f (v := vT false) (by simp only [EV, Nat.reduceEqDiff, ↓reduceIte, he] <;> try rfl) (by simp only [EV, Nat.reduceEqDiff, ↓reduceIte, he] <;> try rfl) ?_
     refine k_nil ?_
     apply comp8 0 1 2 7 8 9 10 58
     ·simp only [EV, Nat.reduceEqDiff, ↓reduceIte, he] <;> try rfl
     ·simp only [EV, Nat.reduceEqDiff, ↓reduceIte, he] <;> try rfl
     ·simp only [EV, Nat.reduceEqDiff, ↓reduceIte, he] <;> try rfl
     ·simp only [EV, Nat.reduceEqDiff, ↓reduceIte, he] <;> try rfl
     ·simp only [EV, Nat.reduceEqDiff, ↓reduceIte, he] <;> try rfl
     ·simp only [EV, Nat.reduceEqDiff, ↓reduceIte, he] <;> try rfl
     ·simp only [EV, Nat.reduceEqDiff, ↓reduceIte, he] <;> try rfl
     ·simp only [EV, Nat.reduceEqDiff, ↓reduceIte, he] <;> try rfl
     clear he e
     intro e he
     refine k_cond1 (t := false) (by simp only [EV, Nat.reduceEqDiff, ↓reduceIte, he] <;> try rfl) (fun hf => by cases hf) (fun _ => ?_)
     refine k_skip1 ?_
     exact ⟨rfl, hno _ ⟨by simp only [EV, Nat.reduceEqDiff, ↓reduceIte, he] <;> try rfl, by simp only [EV, Nat.reduceEqDiff, ↓reduceIte, he] <;> try rfl, by simp only [EV, Nat.reduceEqDiff, ↓reduceIte, he] <;> try rfl, by simp only [EV, Nat.reduceEqDiff, ↓reduceIte, he] <;> try rfl, by simp only [EV, Nat.reduceEqDiff, ↓reduceIte, he] <;> try rfl, by simp only [EV, Nat.reduceEqDiff, ↓reduceIte, he] <;> try rfl, by simp only [EV, Nat.reduceEqDiff, ↓reduceIte, he] <;> try rfl⟩⟩
   ·clear he e hAt
    rintro e υ ⟨S, fs, pcs, pv, av, safe, he, hAt⟩
    refine k_region1 ?_
    refine k_cons (c_mv rfl (by simp only [EV, Nat.reduceEqDiff, ↓reduceIte, he] <;> try rfl) ?_)
    refine k_cons ?_
    refine s_addN i 1 (by simp only [EV, Nat.reduceEqDiff, ↓reduceIte, he] <;> try rfl) (by simp only [EV, Nat.reduceEqDiff, ↓reduceIte, he] <;> try rfl) (by omega) ?_
    refine k_cons (c_mv rfl (by simp only [EV, Nat.reduceEqDiff, ↓reduceIte, he] <;> try rfl) ?_)
    refine k_nil ?_
    show ∃ n', n' < _ ∧ _
    exact ⟨_, (by omega : x0.length - (i + 1) < x0.length - i), i + 1, S, fs, pcs, pv, av, safe, rfl, hlt, ⟨by simp only [EV, Nat.reduceEqDiff, ↓reduceIte, he] <;> try rfl, by simp only [EV, Nat.reduceEqDiff, ↓reduceIte, he] <;> try rfl, by simp only [EV, Nat.reduceEqDiff, ↓reduceIte, he] <;> try rfl, by simp only [EV, Nat.reduceEqDiff, ↓reduceIte, he] <;> try rfl, by simp only [EV, Nat.reduceEqDiff, ↓reduceIte, he] <;> try rfl, by simp only [EV, Nat.reduceEqDiff, ↓reduceIte, he] <;> try rfl, by simp only [EV, Nat.reduceEqDiff, ↓reduceIte, he] <;> try rfl⟩, hAt⟩
  ·have hke : i = x0.length := by have := of_decide_eq_false ht; omega
   subst hke
   refine k_exit ?_
   exact ⟨rfl, S, fs, pcs, pv, av, safe, ⟨by simp only [EV, Nat.reduceEqDiff, ↓reduceIte, he] <;> try rfl, by simp only [EV, Nat.reduceEqDiff, ↓reduceIte, he] <;> try rfl, by simp only [EV, Nat.reduceEqDiff, ↓reduceIte, he] <;> try rfl, by simp only [EV, Nat.reduceEqDiff, ↓reduceIte, he] <;> try rfl, by simp only [EV, Nat.reduceEqDiff, ↓reduceIte, he] <;> try rfl⟩, hAt⟩
 clear he e h4
 rintro e υ ⟨S, fs, pcs, pv, av, safe, he, hAt⟩
 have hflx := hfl x0.length
 have hsafe := hAt.sf
 have hsum := hAt.sum
 have hfew := hAt.few
 have hsD := hAt.sumD
 have hdata := hAt.data
 have hallA := hAt.all
 rw [List.take_length] at hflx hsafe hsum hsD hdata hallA
 have hcut : ∀ (fs' : List Fl), (∃ L : Nat, dat fs' = crashR L (dat fs) pcs.reverse) → True := fun _ _ => trivial
 -- all is read
 refine k_cutS (fun env υ => ∃ bv, (env 0 = .lst A0 x0.length c0 (cs0 ++ rest0) ∧ env 2 = .raw (.int .i64 keep) ∧ env 7 = ptr bb 0 ∧ env 8 = av ∧ env 9 = vI safe ∧ env 11 = bv ∧ env 12 = vT (decide (0 < x0.length))) ∧ BytesAt υ bv x0.flatten ∧ At x0 bb mb x0.length υ S fs pcs pv av safe) ?_ ?_
 ·refine k_region1 ?_
  refine k_cons (c_mv rfl (by simp only [EV, Nat.reduceEqDiff, ↓reduceIte, he] <;> try rfl) ?_)
  refine k_cons ?_
  refine s_call (vs := [ptr bb 0, .raw (sV [102])]) (by simp only [List.map_cons, List.map_nil, EV, Nat.reduceEqDiff, ↓reduceIte, he] <;> try rfl) ?_
  refine read_ok hAt.disk (fun f hf => by
   have := sumD_mem hf
   omega) (fun hno => ?_) fun f0 hf0 hnm υ2 v2 hv2 hX2 _ => ?_
  ·have hz : x0.length = 0 := by
    rcases hdata with ⟨q, _⟩ | ⟨_, fb, hdt, _⟩
    ·exact q
    ·obtain ⟨f, hf, hfn, _⟩ := dget_of hdt List.mem_cons_self
     exact absurd hfn (hno f hf)
   have hx : x0 = [] := List.eq_nil_of_length_eq_zero hz
   refine k_cons (c_mv rfl (by simp only [EV, Nat.reduceEqDiff, ↓reduceIte, he] <;> try rfl) ?_)
   refine k_cons ?_
   refine s_extract (l := [.lst none 0 0 [], vT false]) (by simp only [EV, Nat.reduceEqDiff, ↓reduceIte, he] <;> try rfl) rfl ?_
   refine k_cons ?_
   refine s_extract (l := [.lst none 0 0 [], vT false]) (by simp only [EV, Nat.reduceEqDiff, ↓reduceIte, he] <;> try rfl) rfl ?_
   refine k_cons (c_mv rfl (by simp only [EV, Nat.reduceEqDiff, ↓reduceIte, he] <;> try rfl) ?_)
   refine k_cons (c_mv rfl (by simp only [EV, Nat.reduceEqDiff, ↓reduceIte, he] <;> try rfl) ?_)
   refine k_nil ?_
   refine ⟨rfl, .lst none 0 0 [], ⟨by simp only [EV, Nat.reduceEqDiff, ↓reduceIte, he] <;> try rfl, by simp only [EV, Nat.reduceEqDiff, ↓reduceIte, he] <;> try rfl, by simp only [EV, Nat.reduceEqDiff, ↓reduceIte, he] <;> try rfl, by simp only [EV, Nat.reduceEqDiff, ↓reduceIte, he] <;> try rfl, by simp only [EV, Nat.reduceEqDiff, ↓reduceIte, he] <;> try rfl, by simp only [EV, Nat.reduceEqDiff, ↓reduceIte, he] <;> try rfl, ?_⟩, .inl ?_, hAt⟩
   ·rw [decide_eq_false (by omega : ¬ 0 < x0.length)]
    simp only [EV, Nat.reduceEqDiff, ↓reduceIte, he] <;> try rfl
   ·rw [hx]
    exact ⟨rfl, by simp [bys], .inl ⟨.inl rfl, rfl⟩⟩
  ·obtain ⟨hpos, hfd⟩ : 0 < x0.length ∧ f0.d = x0.flatten := by
    have hm := mem_dat hf0
    rcases hdata with ⟨_, hdt, _⟩ | ⟨hp, fb, hdt, _⟩
    ·rw [hdt] at hm
     cases hm
    ·rw [hdt, hnm] at hm
     refine ⟨hp, ?_⟩
     simp at hm
     exact hm.2
   rw [hfd] at hv2
   refine k_cons (c_mv rfl (by simp only [EV, Nat.reduceEqDiff, ↓reduceIte, he] <;> try rfl) ?_)
   refine k_cons ?_
   refine s_extract (l := [v2, vT true]) (by simp only [EV, Nat.reduceEqDiff, ↓reduceIte, he] <;> try rfl) rfl ?_
   refine k_cons ?_
   refine s_extract (l := [v2, vT true]) (by simp only [EV, Nat.reduceEqDiff, ↓reduceIte, he] <;> try rfl) rfl ?_
   refine k_cons (c_mv rfl (by simp only [EV, Nat.reduceEqDiff, ↓reduceIte, he] <;> try rfl) ?_)
   refine k_cons (c_mv rfl (by simp only [EV, Nat.reduceEqDiff, ↓reduceIte, he] <;> try rfl) ?_)
   refine k_nil ?_
   refine ⟨rfl, v2, ⟨by simp only [EV, Nat.reduceEqDiff, ↓reduceIte, he] <;> try rfl, by simp only [EV, Nat.reduceEqDiff, ↓reduceIte, he] <;> try rfl, by simp only [EV, Nat.reduceEqDiff, ↓reduceIte, he] <;> try rfl, by simp only [EV, Nat.reduceEqDiff, ↓reduceIte, he] <;> try rfl, by simp only [EV, Nat.reduceEqDiff, ↓reduceIte, he] <;> try rfl, by simp only [EV, Nat.reduceEqDiff, ↓reduceIte, he] <;> try rfl, ?_⟩, .inl hv2, hAt.ext hX2⟩
   rw [decide_eq_true hpos]
   simp only [EV, Nat.reduceEqDiff, ↓reduceIte, he] <;> try rfl
 clear he e hAt hallA
 rintro e υ ⟨bv, he, hbv, hAt⟩
 have hallA := hAt.all
 rw [List.take_length] at hallA
 first | refine k_region ?_ | refine k_region1 ?_ | (refine k_assoc ?_; refine k_region ?_) | (refine k_assoc ?_; refine k_assoc ?_; refine k_region ?_)
 refine k_cons (c_mv rfl (by simp only [EV, Nat.reduceEqDiff, ↓reduceIte, he] <;> try rfl) ?_)
 refine k_cons (c_mv rfl (by simp only [EV, Nat.reduceEqDiff, ↓reduceIte, he] <;> try rfl) ?_)
 refine k_cons ?_
 refine s_lenN (n := x0.length) (c := c0) (A := A0) (by simp only [EV, Nat.reduceEqDiff, ↓reduceIte, he] <;> try rfl) rfl rfl dk_sl22 ?_
 refine k_cons ?_
 refine s_gtr (k := .i64) (a := (x0.length : Int)) (b := 0) (by simp only [EV, Nat.reduceEqDiff, ↓reduceIte, he] <;> try rfl) (by simp only [EV, Nat.reduceEqDiff, ↓reduceIte, he] <;> try rfl) ?_
 refine k_cons ?_
 refine s_neqb (a := decide (0 < x0.length)) (b := decide ((0 : Int) < (x0.length : Int))) dk_u4 (by simp only [EV, Nat.reduceEqDiff, ↓reduceIte, he] <;> try rfl) (by simp only [EV, Nat.reduceEqDiff, ↓reduceIte, he] <;> try rfl) ?_
 rw [show decide (decide (0 < x0.length) ≠ decide ((0 : Int) < (x0.length : Int))) = false by
  rw [show decide ((0 : Int) < (x0.length : Int)) = decide (0 < x0.length) by congr 1; exact propext (by omega)]
  exact decide_eq_false (fun q => q rfl)]
 refine k_cons (c_mv rfl (by simp only [EV, Nat.reduceEqDiff, ↓reduceIte, he] <;> try rfl) ?_)
 refine k_cons (s_guard_on (y_is rfl (by simp only [EV, Nat.reduceEqDiff, ↓reduceIte, he] <;> try rfl)) ?_)
 refine c_mv rfl (by simp only [EV, Nat.reduceEqDiff, ↓reduceIte, he] <;> try rfl) ?_
 refine k_cons (s_guard_on (y_is rfl (by simp only [EV, Nat.reduceEqDiff, ↓reduceIte, he] <;> try rfl)) ?_)
 refine c_mv rfl (by simp only [EV, Nat.reduceEqDiff, ↓reduceIte, he] <;> try rfl) ?_
 refine k_cons (s_guard_on (y_is rfl (by simp only [EV, Nat.reduceEqDiff, ↓reduceIte, he] <;> try rfl)) ?_)
 refine s_call (vs := [bv, av]) (by simp only [List.map_cons, List.map_nil, EV, Nat.reduceEqDiff, ↓reduceIte, he] <;> try rfl) ?_
 refine sameb_ok (d1 := x0.flatten) (d2 := x0.flatten) hbv (.inl hallA) (by omega) (by omega) _ fun υ2 hX2 => ?_
 rw [decide_eq_true rfl]
 refine k_cons (s_guard_on (y_is rfl (by simp only [EV, Nat.reduceEqDiff, ↓reduceIte, he] <;> try rfl)) ?_)
 refine s_notT (by simp only [EV, Nat.reduceEqDiff, ↓reduceIte, he] <;> try rfl) ?_
 refine k_cons ?_
 refine s_pick_f (v := vT false) (by simp only [EV, Nat.reduceEqDiff, ↓reduceIte, he] <;> try rfl) (by simp only [EV, Nat.reduceEqDiff, ↓reduceIte, he] <;> try rfl) ?_
 refine k_cons (c_mv rfl (by simp only [EV, Nat.reduceEqDiff, ↓reduceIte, he] <;> try rfl) ?_)
 refine k_cons (s_guard_on (y_is rfl (by simp only [EV, Nat.reduceEqDiff, ↓reduceIte, he] <;> try rfl)) ?_)
 refine c_mv rfl (by simp only [EV, Nat.reduceEqDiff, ↓reduceIte, he] <;> try rfl) ?_
 refine k_cons (s_guard_on (y_is rfl (by simp only [EV, Nat.reduceEqDiff, ↓reduceIte, he] <;> try rfl)) ?_)
 refine s_call (vs := [ptr bb 0]) (by simp only [List.map_cons, List.map_nil, EV, Nat.reduceEqDiff, ↓reduceIte, he] <;> try rfl) ?_
 refine waits_ok (hAt.ext hX2).disk (by omega) (by omega) fun υ3 hX3 => ?_
 refine k_cons (s_guard_on (y_is rfl (by simp only [EV, Nat.reduceEqDiff, ↓reduceIte, he] <;> try rfl)) ?_)
 refine c_mv rfl (by simp only [EV, Nat.reduceEqDiff, ↓reduceIte, he] <;> try rfl) ?_
 refine k_cons (s_guard_on (y_is rfl (by simp only [EV, Nat.reduceEqDiff, ↓reduceIte, he] <;> try rfl)) ?_)
 refine s_lenH (by simp only [EV, Nat.reduceEqDiff, ↓reduceIte, he] <;> try rfl) ((hallA.ext hX2).ext hX3) rfl dk_sl32 ?_
 refine k_cons (s_guard_on (y_is rfl (by simp only [EV, Nat.reduceEqDiff, ↓reduceIte, he] <;> try rfl)) ?_)
 refine c_mv rfl (by simp only [EV, Nat.reduceEqDiff, ↓reduceIte, he] <;> try rfl) ?_
 refine k_cons (s_guard_on (y_is rfl (by simp only [EV, Nat.reduceEqDiff, ↓reduceIte, he] <;> try rfl)) ?_)
 refine s_subI (x0.flatten.length : Int) (safe : Int) (by simp only [EV, Nat.reduceEqDiff, ↓reduceIte, he] <;> try rfl) (by simp only [EV, Nat.reduceEqDiff, ↓reduceIte, he] <;> try rfl) (by omega) (by omega) ?_
 refine k_cons (s_guard_on (y_is rfl (by simp only [EV, Nat.reduceEqDiff, ↓reduceIte, he] <;> try rfl)) ?_)
 refine s_neq (k := .i64) (a := (sumP pcs : Int)) (b := (x0.flatten.length : Int) - (safe : Int)) (by simp only [EV, Nat.reduceEqDiff, ↓reduceIte, he] <;> try rfl) (by simp only [EV, Nat.reduceEqDiff, ↓reduceIte, he] <;> try rfl) ?_
 rw [decide_eq_false (by omega : ¬ (sumP pcs : Int) ≠ (x0.flatten.length : Int) - (safe : Int))]
 refine k_cons ?_
 refine s_pick_f (v := vT false) (by simp only [EV, Nat.reduceEqDiff, ↓reduceIte, he] <;> try rfl) (by simp only [EV, Nat.reduceEqDiff, ↓reduceIte, he] <;> try rfl) ?_
 refine k_nil ?_
 apply comp5 2 7 8 9 89
 ·simp only [EV, Nat.reduceEqDiff, ↓reduceIte, he] <;> try rfl
 ·simp only [EV, Nat.reduceEqDiff, ↓reduceIte, he] <;> try rfl
 ·simp only [EV, Nat.reduceEqDiff, ↓reduceIte, he] <;> try rfl
 ·simp only [EV, Nat.reduceEqDiff, ↓reduceIte, he] <;> try rfl
 ·simp only [EV, Nat.reduceEqDiff, ↓reduceIte, he] <;> try rfl
 clear he e
 intro e he
 refine k_cond (t := false) (by simp only [EV, Nat.reduceEqDiff, ↓reduceIte, he] <;> try rfl) (fun hf => by cases hf) (fun _ => ?_)
 refine k_skip ?_
 have hAt3 := (hAt.ext hX2).ext hX3
 clear hAt hallA hbv
 have hallA := hAt3.all
 rw [List.take_length] at hallA
 first | refine k_region ?_ | refine k_region1 ?_ | (refine k_assoc ?_; refine k_region ?_) | (refine k_assoc ?_; refine k_assoc ?_; refine k_region ?_)
 refine k_cons (c_mv rfl (by simp only [EV, Nat.reduceEqDiff, ↓reduceIte, he] <;> try rfl) ?_)
 refine k_cons ?_
 refine s_max (k := .i64) (k' := .i64) (a := keep) (b := 0) (by simp only [EV, Nat.reduceEqDiff, ↓reduceIte, he] <;> try rfl) (by simp only [EV, Nat.reduceEqDiff, ↓reduceIte, he] <;> try rfl) ?_
 rw [show (if keep < 0 then (0 : Int) else keep) = max keep 0 by split <;> omega]
 refine k_cons (c_mv rfl (by simp only [EV, Nat.reduceEqDiff, ↓reduceIte, he] <;> try rfl) ?_)
 refine k_cons ?_
 refine s_lenH (by simp only [EV, Nat.reduceEqDiff, ↓reduceIte, he] <;> try rfl) hallA rfl dk_sl32 ?_
 refine k_cons (c_mv rfl (by simp only [EV, Nat.reduceEqDiff, ↓reduceIte, he] <;> try rfl) ?_)
 refine k_cons ?_
 refine s_subI (x0.flatten.length : Int) (safe : Int) (by simp only [EV, Nat.reduceEqDiff, ↓reduceIte, he] <;> try rfl) (by simp only [EV, Nat.reduceEqDiff, ↓reduceIte, he] <;> try rfl) (by omega) (by omega) ?_
 refine k_cons ?_
 refine s_min (k := .i64) (k' := .i64) (a := max keep 0) (b := (x0.flatten.length : Int) - (safe : Int)) (by simp only [EV, Nat.reduceEqDiff, ↓reduceIte, he] <;> try rfl) (by simp only [EV, Nat.reduceEqDiff, ↓reduceIte, he] <;> try rfl) ?_
 rw [show (if (x0.flatten.length : Int) - (safe : Int) < max keep 0 then (x0.flatten.length : Int) - (safe : Int) else max keep 0) = min (max keep 0) ((x0.flatten.length : Int) - (safe : Int)) by split <;> omega]
 refine k_cons (c_mv rfl (by simp only [EV, Nat.reduceEqDiff, ↓reduceIte, he] <;> try rfl) ?_)
 refine k_nil ?_
 apply comp5 2 7 8 9 13
 ·simp only [EV, Nat.reduceEqDiff, ↓reduceIte, he] <;> try rfl
 ·simp only [EV, Nat.reduceEqDiff, ↓reduceIte, he] <;> try rfl
 ·simp only [EV, Nat.reduceEqDiff, ↓reduceIte, he] <;> try rfl
 ·simp only [EV, Nat.reduceEqDiff, ↓reduceIte, he] <;> try rfl
 ·simp only [EV, Nat.reduceEqDiff, ↓reduceIte, he] <;> try rfl
 clear he e
 intro e he
 first | refine k_region ?_ | refine k_region1 ?_ | (refine k_assoc ?_; refine k_region ?_) | (refine k_assoc ?_; refine k_assoc ?_; refine k_region ?_)
 refine k_cons (c_mv rfl (by simp only [EV, Nat.reduceEqDiff, ↓reduceIte, he] <;> try rfl) ?_)
 refine k_cons (c_mv rfl (by simp only [EV, Nat.reduceEqDiff, ↓reduceIte, he] <;> try rfl) ?_)
 refine k_cons ?_
 refine s_call (vs := [ptr bb 0, .raw (.int .i64 keep)]) (by simp only [List.map_cons, List.map_nil, EV, Nat.reduceEqDiff, ↓reduceIte, he] <;> try rfl) ?_
 refine crash_ok hAt3.disk (by omega) hAt3.wf (by omega) (fun f hf => by
  have := sumD_mem hf
  omega) hkeep fun υ4 fs4 h4 hdat4 hB4 => ?_
 refine k_nil ?_
 apply comp4 7 8 9 13
 ·simp only [EV, Nat.reduceEqDiff, ↓reduceIte, he] <;> try rfl
 ·simp only [EV, Nat.reduceEqDiff, ↓reduceIte, he] <;> try rfl
 ·simp only [EV, Nat.reduceEqDiff, ↓reduceIte, he] <;> try rfl
 ·simp only [EV, Nat.reduceEqDiff, ↓reduceIte, he] <;> try rfl
 clear he e
 intro e he
 have hall4 := hallA.but hB4 hAt3.apart
 -- what is left
 have hleft : (x0.length = 0 ∧ dat fs4 = []) ∨ ∃ fb, dat fs4 = [([102], fb, x0.flatten.take (x0.flatten.length - min ((sumP pcs : Int) - max keep 0).toNat (sumP pcs)))] := by
  rcases hdata with ⟨q, hdt, hpc⟩ | ⟨_, fb, hdt, hpc⟩
  ·left
   refine ⟨q, ?_⟩
   rw [hdat4, hdt, hpc]
   rfl
  ·right
   refine ⟨fb, ?_⟩
   have hrev : sumP pcs.reverse = sumP pcs := by
    unfold sumP
    rw [List.map_reverse, List.sum_reverse]
   rw [hdat4, hdt, crash_one pcs.reverse _ _ (fun p hp => hpc p (List.mem_reverse.1 hp)) (by rw [hrev]; omega), hrev]
 have hsD4 : ∀ f ∈ fs4, f.d.length ≤ 1000000000 := fun f hf => by
  have hm := mem_dat hf
  rcases hleft with ⟨_, hdt⟩ | ⟨fb, hdt⟩
  ·rw [hdt] at hm
   cases hm
  ·rw [hdt] at hm
   have hm := List.mem_singleton.1 hm
   injection hm with _ hm
   injection hm with _ hm
   rw [hm, List.length_take]
   omega
 refine k_cutS (fun env υ => ∃ cv cd, (env 8 = av ∧ env 9 = vI safe ∧ env 13 = .raw (.int .i64 (min (max keep 0) ((x0.flatten.length : Int) - (safe : Int)))) ∧ env 14 = cv) ∧ Hd υ 5 1 cv cd.length (bys cd) ∧ cd = x0.flatten.take (x0.flatten.length - min ((sumP pcs : Int) - max keep 0).toNat (sumP pcs)) ∧ Hd υ 5 1 av x0.flatten.length (bys x0.flatten)) ?_ ?_
 ·refine k_region1 ?_
  refine k_cons (c_mv rfl (by simp only [EV, Nat.reduceEqDiff, ↓reduceIte, he] <;> try rfl) ?_)
  refine k_cons ?_
  refine s_call (vs := [ptr bb 0, .raw (sV [102])]) (by simp only [List.map_cons, List.map_nil, EV, Nat.reduceEqDiff, ↓reduceIte, he] <;> try rfl) ?_
  refine read_ok h4 hsD4 (fun hno => ?_) fun f0 hf0 hnm υ5 v5 hv5 hX5 _ => ?_
  ·have hx : x0 = [] := by
    rcases hleft with ⟨q, _⟩ | ⟨fb, hdt⟩
    ·exact List.eq_nil_of_length_eq_zero q
    ·obtain ⟨f, hf, hfn, _⟩ := dget_of hdt List.mem_cons_self
     exact absurd hfn (hno f hf)
   refine k_cons (c_mv rfl (by simp only [EV, Nat.reduceEqDiff, ↓reduceIte, he] <;> try rfl) ?_)
   refine k_cons ?_
   refine s_extract (l := [.lst none 0 0 [], vT false]) (by simp only [EV, Nat.reduceEqDiff, ↓reduceIte, he] <;> try rfl) rfl ?_
   refine k_cons ?_
   refine s_extract (l := [.lst none 0 0 [], vT false]) (by simp only [EV, Nat.reduceEqDiff, ↓reduceIte, he] <;> try rfl) rfl ?_
   refine k_cons (c_mv rfl (by simp only [EV, Nat.reduceEqDiff, ↓reduceIte, he] <;> try rfl) ?_)
   refine k_cons (c_mv rfl (by simp only [EV, Nat.reduceEqDiff, ↓reduceIte, he] <;> try rfl) ?_)
   refine k_nil ?_
   refine ⟨rfl, .lst none 0 0 [], [], ⟨by simp only [EV, Nat.reduceEqDiff, ↓reduceIte, he] <;> try rfl, by simp only [EV, Nat.reduceEqDiff, ↓reduceIte, he] <;> try rfl, by simp only [EV, Nat.reduceEqDiff, ↓reduceIte, he] <;> try rfl, by simp only [EV, Nat.reduceEqDiff, ↓reduceIte, he] <;> try rfl⟩, ⟨rfl, by simp [bys], .inl ⟨.inl rfl, rfl⟩⟩, ?_, hall4⟩
   rw [hx]
   simp
  ·have hfd : f0.d = x0.flatten.take (x0.flatten.length - min ((sumP pcs : Int) - max keep 0).toNat (sumP pcs)) := by
    have hm := mem_dat hf0
    rcases hleft with ⟨_, hdt⟩ | ⟨fb, hdt⟩
    ·rw [hdt] at hm
     cases hm
    ·rw [hdt, hnm] at hm
     have hm := List.mem_singleton.1 hm
     injection hm with _ hm
     injection hm with _ hm
   refine k_cons (c_mv rfl (by simp only [EV, Nat.reduceEqDiff, ↓reduceIte, he] <;> try rfl) ?_)
   refine k_cons ?_
   refine s_extract (l := [v5, vT true]) (by simp only [EV, Nat.reduceEqDiff, ↓reduceIte, he] <;> try rfl) rfl ?_
   refine k_cons ?_
   refine s_extract (l := [v5, vT true]) (by simp only [EV, Nat.reduceEqDiff, ↓reduceIte, he] <;> try rfl) rfl ?_
   refine k_cons (c_mv rfl (by simp only [EV, Nat.reduceEqDiff, ↓reduceIte, he] <;> try rfl) ?_)
   refine k_cons (c_mv rfl (by simp only [EV, Nat.reduceEqDiff, ↓reduceIte, he] <;> try rfl) ?_)
   refine k_nil ?_
   exact ⟨rfl, v5, f0.d, ⟨by simp only [EV, Nat.reduceEqDiff, ↓reduceIte, he] <;> try rfl, by simp only [EV, Nat.reduceEqDiff, ↓reduceIte, he] <;> try rfl, by simp only [EV, Nat.reduceEqDiff, ↓reduceIte, he] <;> try rfl, by simp only [EV, Nat.reduceEqDiff, ↓reduceIte, he] <;> try rfl⟩, hv5, hfd, hall4.ext hX5⟩
 clear he e h4 hall4
 rintro e υ6 ⟨cv, cd, he, hcv, hcd, hall6⟩
 have hcl : cd.length = x0.flatten.length - min ((sumP pcs : Int) - max keep 0).toNat (sumP pcs) := by
  rw [hcd, List.length_take]
  omega
 first | refine k_region ?_ | refine k_region1 ?_ | (refine k_assoc ?_; refine k_region ?_) | (refine k_assoc ?_; refine k_assoc ?_; refine k_region ?_)
 refine k_cons (c_mv rfl (by simp only [EV, Nat.reduceEqDiff, ↓reduceIte, he] <;> try rfl) ?_)
 refine k_cons (c_mv rfl (by simp only [EV, Nat.reduceEqDiff, ↓reduceIte, he] <;> try rfl) ?_)
 refine k_cons ?_
 refine s_call (vs := [cv, av]) (by simp only [List.map_cons, List.map_nil, EV, Nat.reduceEqDiff, ↓reduceIte, he] <;> try rfl) ?_
 refine begins_ok (d1 := cd) (d2 := x0.flatten) (.inl hcv) (.inl hall6) (by omega) (by omega) (by rw [hcl]; exact hcd) _ fun υ7 hX7 => ?_
 refine k_cons (c_mv rfl (by simp only [EV, Nat.reduceEqDiff, ↓reduceIte, he] <;> try rfl) ?_)
 refine k_cons (s_guard_on (y_is rfl (by simp only [EV, Nat.reduceEqDiff, ↓reduceIte, he] <;> try rfl)) ?_)
 refine c_mv rfl (by simp only [EV, Nat.reduceEqDiff, ↓reduceIte, he] <;> try rfl) ?_
 refine k_cons (s_guard_on (y_is rfl (by simp only [EV, Nat.reduceEqDiff, ↓reduceIte, he] <;> try rfl)) ?_)
 refine s_lenH (by simp only [EV, Nat.reduceEqDiff, ↓reduceIte, he] <;> try rfl) (hcv.ext hX7) rfl dk_sl32 ?_
 refine k_cons (s_guard_on (y_is rfl (by simp only [EV, Nat.reduceEqDiff, ↓reduceIte, he] <;> try rfl)) ?_)
 refine c_mv rfl (by simp only [EV, Nat.reduceEqDiff, ↓reduceIte, he] <;> try rfl) ?_
 refine k_cons (s_guard_on (y_is rfl (by simp only [EV, Nat.reduceEqDiff, ↓reduceIte, he] <;> try rfl)) ?_)
 refine c_mv rfl (by simp only [EV, Nat.reduceEqDiff, ↓reduceIte, he] <;> try rfl) ?_
 refine k_cons (s_guard_on (y_is rfl (by simp only [EV, Nat.reduceEqDiff, ↓reduceIte, he] <;> try rfl)) ?_)
 refine s_add (k := .i64) (a := (safe : Int)) (b := min (max keep 0) ((x0.flatten.length : Int) - (safe : Int))) (by simp only [EV, Nat.reduceEqDiff, ↓reduceIte, he] <;> try rfl) (by simp only [EV, Nat.reduceEqDiff, ↓reduceIte, he] <;> try rfl) (IntWalk.i64_in _ (by omega)) ?_
 refine k_cons (s_guard_on (y_is rfl (by simp only [EV, Nat.reduceEqDiff, ↓reduceIte, he] <;> try rfl)) ?_)
 refine s_eql (k := .i64) (a := (cd.length : Int)) (b := (safe : Int) + min (max keep 0) ((x0.flatten.length : Int) - (safe : Int))) (by simp only [EV, Nat.reduceEqDiff, ↓reduceIte, he] <;> try rfl) (by simp only [EV, Nat.reduceEqDiff, ↓reduceIte, he] <;> try rfl) ?_
 rw [decide_eq_true (by rw [hcl]; omega)]
 refine k_cons ?_
 refine s_pick_t (v := vT true) (by simp only [EV, Nat.reduceEqDiff, ↓reduceIte, he] <;> try rfl) (by simp only [EV, Nat.reduceEqDiff, ↓reduceIte, he] <;> try rfl) ?_
 refine k_cons (c_mv rfl (by simp only [EV, Nat.reduceEqDiff, ↓reduceIte, he] <;> try rfl) ?_)
 refine k_nil ?_
 refine k_ret1 ?_
 show ∃ r, aResults _ _ _ _ r ∧ _
 exact ⟨_, res_tmp rfl (by simp only [EV, Nat.reduceEqDiff, ↓reduceIte, he] <;> try rfl), hK υ7⟩
theorem diskAppends_tr (x0 : List (List UInt8)) (x1 : List Bool) (x2 : Int) (h0 : ok_LLUInt8 x0) (h1 : x1.length ≤ 140737488355328) (h2 : InK .i64 x2) : Tr CT Try.prog (fun _ => True) 3 [.sl 3 x0 none, .sl 7 x1 none, .int .i64 x2] [] (.bool true) [] := by
 intro ρ σ vs hs _
 obtain ⟨a0, b0, rfl, s0, hs⟩ := hs.to
 obtain ⟨a1, b1, rfl, s1, hs⟩ := hs.to
 obtain ⟨a2, rfl, s2⟩ := svs1.1 hs
 obtain rfl := sv_int.1 s2
 have s0 : SV CT 0 noRho (.sl 3 x0 none) a0 := SVs.shut s0 (by intro x hx; rw [List.mem_singleton.1 hx]; rfl)
 have s1 : SV CT 0 noRho (.sl 7 x1 none) a1 := SVs.shut s1 (by intro x hx; rw [List.mem_singleton.1 hx]; rfl)
 obtain ⟨A0, c0, cs0, rest0, rfl, l1, l2, l3, l4, l5⟩ := sv_sl.1 s0
 obtain ⟨A1, c1, cs1, rest1, rfl, m1, m2, m3, m4, m5⟩ := sv_sl.1 s1
 refine frame_call (appends_ok _ h0 h1 h2.i64 ⟨l1, l2, l4⟩ l5 (fun q => (m4 q).1) m5 fun τ => rfl) (fun w B => valid_raw _) _ fun τ hX => ?_
 exact ⟨ρ, sv_bool.2 rfl, hp_nil _, Nat.zero_le _, fun i hi => absurd hi (Nat.not_lt_zero i), ⟨fun b k _ hk => hX.keep _ _ hk, hX.used⟩, fun b ⟨i, x, hx, _⟩ => by simp at hx⟩
end Go.Proofs.Ytinpiaibhjmfaaa
