/- Get, by hand: the frames' data lie apart. -/
import Derived.Test.YtklmbkkeiihgdaaFtn
import Derived.Test.YtklmbkkeiihgdaaFrp
import Derived.Test.YtklmbkkeiihgdaaAp
namespace Go.Proofs.Ytklmbkkeiihgdaa
open Go.RowKit
set_option maxRecDepth 100000
set_option linter.unusedVariables false
set_option linter.unusedSimpArgs false
theorem fg_sl22 : sliceA Try.prog 22 = some 28 := by kernel_rfl
theorem fg_by28 : bytesA Try.prog 28 = some 32 := by kernel_rfl
theorem fg_pl59 : placesB Try.prog 59 = some [(0, 1)] := by kernel_rfl
theorem fg_ze59 : zeroA Try.prog 59 = some (.agg #[.slice none 0 0]) := by kernel_rfl
theorem fg_pl61 : placesB Try.prog 61 = some [(0, 1), (1, 1)] := by kernel_rfl
theorem fg_ze61 : zeroA Try.prog 61 = some (.agg #[.slice none 0 0, .int .i64 0]) := by kernel_rfl
/-- Frames' cells: kinds, and headers. -/
def frC : List Fr → List AV → List AV
 | f :: fs, h :: hs => .raw (.int .i64 f.1) :: h :: frC fs hs
 | _, _ => []
theorem frC_snoc (f : Fr) (h : AV) : ∀ (fs : List Fr) (hs : List AV), hs.length = fs.length → frC (fs ++ [f]) (hs ++ [h]) = frC fs hs ++ [.raw (.int .i64 f.1), h]
 | [], [], _ => rfl
 | g :: fs, u :: hs, e => by
  show _ :: _ :: frC (fs ++ [f]) (hs ++ [h]) = _
  rw [frC_snoc f h fs hs (by simpa using e)]
  rfl
theorem frC_get : ∀ (fs : List Fr) (hs : List AV) (j : Nat), hs.length = fs.length → (frC fs hs)[2 * j + 1]? = hs[j]?
 | [], [], j, _ => by simp [frC]
 | g :: fs, u :: hs, 0, e => rfl
 | g :: fs, u :: hs, j + 1, e => by
  show (frC fs hs)[2 * j + 1]? = hs[j]?
  exact frC_get fs hs j (by simpa using e)
/-- What was not there ahead. -/
def NewB (σ : St) (g : Nat) : Prop := σ.blk g = none ∧ ¬ σ.used g
theorem NewB.of {σ τ : St} {g : Nat} (h : NewB τ g) (k : Ext σ τ) : NewB σ g := ⟨k.noneOf h.1, k.unused h.2⟩
/-- Frames that were got. -/
structure Got (σ τ : St) (fs : List Fr) (hs : List AV) (x : AV) : Prop where
 own : Own τ 28 2 x fs.length (frC fs hs)
 lot : Lot 5 τ (fs.map (·.2)) hs
 nx : ∀ g, x.blk = some g → NewB σ g
 nh : ∀ (j : Nat) (v : AV) (g : Nat), hs[j]? = some v → hbk v = some g → NewB σ g
theorem lot_blk {te : Nat} {σ : St} {ds : List (List UInt8)} {hs : List AV} (h : Lot te σ ds hs) {j : Nat} {v : AV} {g : Nat} (hv : hs[j]? = some v) (hg : hbk v = some g) : ∃ all, σ.blk g = some (.own te all) := by
 obtain ⟨d, _, h1⟩ := h.hd hv
 exact h1.blk hg
theorem Got.but {σ τ υ : St} {fs : List Fr} {hs : List AV} {x : AV} {S : Nat → Prop} (h : Got σ τ fs hs x) (k : But S τ υ) (hS : ∀ b cs t, S b → τ.blk b = some (.own t cs) → t ≠ 5) (hS2 : ∀ b k s t, S b → τ.blk b ≠ some (.tail t k s)) : Got σ υ fs hs x := by
 refine ⟨h.own.but k fun g hg q => ?_, h.lot.but k fun j v g hv hg q => ?_, h.nx, h.nh⟩
 ·obtain ⟨k', s, q2⟩ := h.own.blk_ hg
  exact hS2 _ _ _ _ q q2
 ·obtain ⟨all, q2⟩ := lot_blk h.lot hv hg
  exact hS _ _ _ q q2 rfl
theorem Got.ext {σ τ υ : St} {fs : List Fr} {hs : List AV} {x : AV} (h : Got σ τ fs hs x) (k : Ext τ υ) : Got σ υ fs hs x := h.but (S := fun _ => False) k.but (fun _ _ _ q => q.elim) fun _ _ _ _ q => q.elim
set_option maxHeartbeats 4000000 in
theorem Get_ok {σ : St} {c : Nat} {A : Option Addr} {rest : List AV} {b : List UInt8} (hbl : b.length ≤ 1000000) (hA : Lst A b.length c) (K : AV → St → Prop)
  (hK : ∀ τ x hs, Ext σ τ → Got σ τ (getAll b).1 hs x → K (.tup [x, .raw (.int .i64 ((getAll b).2 : Int))]) τ) : CallsA Try.prog 13 [.lst A b.length c (bys b ++ rest)] σ K := by
 refine callsA_of fl_mixed Try.func13 rfl rfl rfl (Nat.le_of_ble_eq_true rfl) ?_
 refine comp1 0 (v0 := .lst A b.length c (bys b ++ rest)) rfl ?_
 intro e he
 refine k_region ?_
 refine k_cons (c_mv rfl (by simp only [EV, Nat.reduceEqDiff, ↓reduceIte, he] <;> try rfl) ?_)
 refine k_cons (c_mv rfl (by simp only [EV, Nat.reduceEqDiff, ↓reduceIte, he] <;> try rfl) ?_)
 refine k_nil ?_
 refine k_region ?_
 refine k_cons (c_mv rfl (by simp only [EV, Nat.reduceEqDiff, ↓reduceIte, he] <;> try rfl) ?_)
 refine k_nil ?_
 refine k_region ?_
 refine k_cons (c_mv rfl (by simp only [EV, Nat.reduceEqDiff, ↓reduceIte, he] <;> try rfl) ?_)
 refine k_cons ?_
 refine s_build (vs := [.lst A b.length c (bys b ++ rest)]) (cells := [.lst A b.length c (bys b ++ rest)]) (by simp only [List.map_cons, List.map_nil, EV, Nat.reduceEqDiff, ↓reduceIte, he]; try rfl) fg_ze59 fg_pl59 rfl ?_
 refine k_cons ?_
 refine s_build (vs := [.agg [.lst A b.length c (bys b ++ rest)]]) (cells := rdC A c rest b 0) (by simp only [List.map_cons, List.map_nil, EV, Nat.reduceEqDiff, ↓reduceIte, he]; try rfl) fg_ze61 fg_pl61 rfl ?_
 refine k_cons ?_
 refine r_box (v := .agg (rdC A c rest b 0)) (by simp only [EV, Nat.reduceEqDiff, ↓reduceIte, he] <;> try rfl) rfl fun bb υ hbn hbu hb hbv hX => ?_
 refine k_cons (c_mv rfl (by simp only [EV, Nat.reduceEqDiff, ↓reduceIte, he] <;> try rfl) ?_)
 refine k_nil ?_
 apply comp2 4 5
 ·simp only [EV, Nat.reduceEqDiff, ↓reduceIte, he] <;> try rfl
 ·simp only [EV, Nat.reduceEqDiff, ↓reduceIte, he] <;> try rfl
 clear he e
 intro e he
 refine k_block1 ?_
 refine k_loopE (fun μ env υ => ∃ (fs : List Fr) (hs : List AV) (x : AV) (r : List UInt8) (A' : Option Addr) (c' : Nat) (rest' : List AV) (at_ : Nat), μ = r.length ∧ (env 4 = x ∧ env 5 = ptr bb 0) ∧ Ext σ υ ∧ υ.blk bb = some (.own 61 (rdC A' c' rest' r at_)) ∧ υ.used bb ∧ Lst A' r.length c' ∧ (fs ++ (getAll r).1 = (getAll b).1 ∧ at_ + (getAll r).2 = (getAll b).2 ∧ at_ + r.length ≤ b.length) ∧ fs.length * 9 ≤ at_ ∧ Got σ υ fs hs x) ⟨_, [], [], .lst none 0 0 [], b, A, c, rest, 0, rfl, he, hX, hb, hbv, hA, ⟨rfl, Nat.zero_add _, by omega⟩, by simp, ⟨⟨by simp [frC], .inl ⟨rfl, rfl⟩⟩, .nil, (fun g hg => by cases hg), fun j v g hv => by simp at hv⟩⟩ ?_
 clear he e hX hb hbv υ
 rintro _ e υ ⟨fs, hs, x, r, A', c', rest', at_, rfl, he, hX, hb, hu, hA', ⟨g1, g2, g3⟩, g4, hG⟩
 have hbbn : ∀ b2 cs t, b2 = bb → υ.blk b2 = some (.own t cs) → t ≠ 5 := fun b2 cs t q h q2 => by
  subst q q2
  rw [hb] at h
  injection h with h
  injection h with h
  cases h
 refine k_block1 ?_
 refine k_region ?_
 refine k_cons (c_mv rfl (by simp only [EV, Nat.reduceEqDiff, ↓reduceIte, he] <;> try rfl) ?_)
 refine k_cons ?_
 refine s_call (vs := [ptr bb 0]) (by simp only [List.map_cons, List.map_nil, EV, Nat.reduceEqDiff, ↓reduceIte, he]) ?_
 refine next_ok (b := r) (at_ := at_) (by omega) (by omega) hA' hb hu _ (fun hf τ hτ => ?_) (fun f hf τ v A2 c2 rest2 hv hnv hk hA2 hb2 => ?_)
 ·refine k_cons (c_mv rfl (by simp only [EV, Nat.reduceEqDiff, ↓reduceIte, he] <;> try rfl) ?_)
  refine k_cons ?_
  refine s_extract (l := [.agg fr0, vT false]) (r := .agg fr0) (by simp only [EV, Nat.reduceEqDiff, ↓reduceIte, he] <;> try rfl) rfl ?_
  refine k_cons ?_
  refine s_extract (l := [.agg fr0, vT false]) (r := vT false) (by simp only [EV, Nat.reduceEqDiff, ↓reduceIte, he] <;> try rfl) rfl ?_
  refine k_cons ?_
  refine r_alloc fn_ze28 rfl fun b6 υ6 hn6 hu6 hb6 hub6 hX6 => ?_
  refine k_cons ?_
  refine r_store (b := b6) (o := 0) (u := .agg fr0) (by simp only [EV, Nat.reduceEqDiff, ↓reduceIte, he] <;> try rfl) (by simp only [EV, Nat.reduceEqDiff, ↓reduceIte, he] <;> try rfl) hb6 fn_sz28 rfl rfl fun τ7 h7 k7 => ?_
  refine k_cons (c_mv rfl (by simp only [EV, Nat.reduceEqDiff, ↓reduceIte, he] <;> try rfl) ?_)
  refine k_nil ?_
  have hx7 : Ext υ τ7 := But.ext (hτ.trans hX6) (fun g hg => by rw [hg]; exact hτ.noneOf hn6) k7
  apply comp3 4 5 7
  ·simp only [EV, Nat.reduceEqDiff, ↓reduceIte, he] <;> try rfl
  ·simp only [EV, Nat.reduceEqDiff, ↓reduceIte, he] <;> try rfl
  ·simp only [EV, Nat.reduceEqDiff, ↓reduceIte, he] <;> try rfl
  clear he e
  intro e he
  refine k_assoc ?_
  refine k_region ?_
  refine k_cons (c_mv rfl (by simp only [EV, Nat.reduceEqDiff, ↓reduceIte, he] <;> try rfl) ?_)
  refine k_cons ?_
  with_reducible apply s_notT
  case hx => simp only [EV, Nat.reduceEqDiff, ↓reduceIte, he] <;> try rfl
  refine k_nil ?_
  apply comp3 4 5 18
  ·simp only [EV, Nat.reduceEqDiff, ↓reduceIte, he] <;> try rfl
  ·simp only [EV, Nat.reduceEqDiff, ↓reduceIte, he] <;> try rfl
  ·simp only [EV, Nat.reduceEqDiff, ↓reduceIte, he] <;> try rfl
  clear he e
  intro e he
  refine k_cond (t := true) (by simp only [EV, Nat.reduceEqDiff, ↓reduceIte, he] <;> try rfl) (fun _ => ?_) (fun q => by cases q)
  refine k_assoc ?_
  refine k_drawn ?_
  refine ⟨[0, 1, 2, 3, 5, 4, 6], [[], [], [1], [1, 2], [1, 2, 3], [0], [0, 1, 2, 3, 4, 5]], fun _ => True, [], [], [], by kernel_rfl, ?_⟩
  apply d_any
  case hi => simp only [HIX]; try rfl
  case hw => rfl
  case how => rfl
  refine c_mv rfl (by simp only [EV, Nat.reduceEqDiff, ↓reduceIte, he] <;> try rfl) ?_
  refine d_ok ?_
  apply d_any
  case hi => simp only [HIX]; try rfl
  case hw => rfl
  case how => rfl
  refine c_mv rfl (by simp only [EV, Nat.reduceEqDiff, ↓reduceIte, he] <;> try rfl) ?_
  refine d_ok ?_
  apply d_any
  case hi => simp only [HIX]; try rfl
  case hw => rfl
  case how => rfl
  refine s_nilCheck (v := ptr bb 0) (by simp only [EV, Nat.reduceEqDiff, ↓reduceIte, he] <;> try rfl) rfl ?_
  refine d_ok ?_
  apply d_any
  case hi => simp only [HIX]; try rfl
  case hw => rfl
  case how => rfl
  refine s_fieldAddr (b := bb) (o := 0) (by simp only [EV, Nat.reduceEqDiff, ↓reduceIte, he] <;> try rfl) fn_st61 rfl ?_
  refine d_ok ?_
  apply d_any
  case hi => simp only [HIX]; try rfl
  case hw => rfl
  case how => rfl
  refine c_mv rfl (by simp only [EV, Nat.reduceEqDiff, ↓reduceIte, he] <;> try rfl) ?_
  refine d_ok ?_
  apply d_any
  case hi => simp only [HIX]; try rfl
  case hw => rfl
  case how => rfl
  refine r_load (b := bb) (o := 0 + 1) (r := .raw (.int .i64 (at_ : Int))) (by simp only [EV, Nat.reduceEqDiff, ↓reduceIte, he] <;> try rfl) (hx7.keep _ _ hb) fo_ag3 fo_sz3 rfl ?_
  refine d_ok ?_
  apply d_any
  case hi => simp only [HIX]; try rfl
  case hw => rfl
  case how => rfl
  refine c_mv rfl (by simp only [EV, Nat.reduceEqDiff, ↓reduceIte, he] <;> try rfl) ?_
  refine d_ok ?_
  refine d_nil ?_
  refine k_ret ?_
  show ∃ r, aResults _ _ _ _ r ∧ _
  rw [getAll_none hf] at g1 g2
  have g1 : fs = (getAll b).1 := by rw [← g1]; exact (List.append_nil fs).symm
  have g2 : at_ = (getAll b).2 := g2
  rw [g1] at hG
  refine res_two_ rfl (res_tmp_ (by simp only [EV, Nat.reduceEqDiff, ↓reduceIte, he] <;> try rfl)) (res_tmp_ (by simp only [EV, Nat.reduceEqDiff, ↓reduceIte, he] <;> try rfl)) ?_
  rw [g2]
  exact hK τ7 x hs (hX.trans hx7) (hG.ext hx7)
 ·have hv1 := hv.oneV
  refine k_cons (c_mv rfl (by simp only [EV, Nat.reduceEqDiff, ↓reduceIte, he] <;> try rfl) ?_)
  refine k_cons ?_
  refine s_extract (l := [.agg [.raw (.int .i64 f.1), v], vT true]) (r := .agg [.raw (.int .i64 f.1), v]) (by simp only [EV, Nat.reduceEqDiff, ↓reduceIte, he] <;> try rfl) rfl ?_
  refine k_cons ?_
  refine s_extract (l := [.agg [.raw (.int .i64 f.1), v], vT true]) (r := vT true) (by simp only [EV, Nat.reduceEqDiff, ↓reduceIte, he] <;> try rfl) rfl ?_
  refine k_cons ?_
  refine r_alloc fn_ze28 rfl fun b6 υ6 hn6 hu6 hb6 hub6 hX6 => ?_
  refine k_cons ?_
  refine r_store (b := b6) (o := 0) (u := .agg [.raw (.int .i64 f.1), v]) (cs' := [.raw (.int .i64 f.1), v]) (by simp only [EV, Nat.reduceEqDiff, ↓reduceIte, he] <;> try rfl) (by simp only [EV, Nat.reduceEqDiff, ↓reduceIte, he] <;> try rfl) hb6 fn_sz28 (by
   show (true && true && (true && (v.one && true)) && true) = true
   rw [hv1.1]
   rfl) rfl fun τ7 h7 k7 => ?_
  refine k_cons (c_mv rfl (by simp only [EV, Nat.reduceEqDiff, ↓reduceIte, he] <;> try rfl) ?_)
  refine k_nil ?_
  have hx7 : Ext τ τ7 := But.ext hX6 (fun g hg => by rw [hg]; exact hn6) k7
  have hG7 := (hG.but hk hbbn (fun b2 k s t q h => by
   rw [q, hb] at h
   injection h with h
   cases h)).ext hx7
  have hb7 := hx7.keep _ _ hb2
  have hu7 := hx7.used _ (hk.used _ hu)
  have hv7 := hv.ext hx7
  have hX7 : Ext σ τ7 := by
   refine ⟨fun g k hg => ?_, fun g hg => hx7.used _ (hk.used _ (hX.used _ hg))⟩
   refine hx7.keep _ _ (hk.keep _ _ (fun q => ?_) (hX.keep _ _ hg))
   rw [q, hbn] at hg
   cases hg
  have hlen := nextFr_len hf
  apply comp4 4 5 6 7
  ·simp only [EV, Nat.reduceEqDiff, ↓reduceIte, he] <;> try rfl
  ·simp only [EV, Nat.reduceEqDiff, ↓reduceIte, he] <;> try rfl
  ·simp only [EV, Nat.reduceEqDiff, ↓reduceIte, he] <;> try rfl
  ·simp only [EV, Nat.reduceEqDiff, ↓reduceIte, he] <;> try rfl
  clear he e
  intro e he
  refine k_assoc ?_
  refine k_region ?_
  refine k_cons (c_mv rfl (by simp only [EV, Nat.reduceEqDiff, ↓reduceIte, he] <;> try rfl) ?_)
  refine k_cons ?_
  with_reducible apply s_notT
  case hx => simp only [EV, Nat.reduceEqDiff, ↓reduceIte, he] <;> try rfl
  refine k_nil ?_
  apply comp4 4 5 6 18
  ·simp only [EV, Nat.reduceEqDiff, ↓reduceIte, he] <;> try rfl
  ·simp only [EV, Nat.reduceEqDiff, ↓reduceIte, he] <;> try rfl
  ·simp only [EV, Nat.reduceEqDiff, ↓reduceIte, he] <;> try rfl
  ·simp only [EV, Nat.reduceEqDiff, ↓reduceIte, he] <;> try rfl
  clear he e
  intro e he
  refine k_cond (t := false) (by simp only [EV, Nat.reduceEqDiff, ↓reduceIte, he] <;> try rfl) (fun q => by cases q) (fun _ => ?_)
  refine k_skip ?_
  refine k_region1 ?_
  refine k_cons (c_mv rfl (by simp only [EV, Nat.reduceEqDiff, ↓reduceIte, he] <;> try rfl) ?_)
  refine k_cons ?_
  refine r_load (b := b6) (o := 0) (r := .agg [.raw (.int .i64 f.1), v]) (by simp only [EV, Nat.reduceEqDiff, ↓reduceIte, he] <;> try rfl) h7 fn_ag28 fn_sz28 rfl ?_
  refine k_cons ?_
  refine r_row (vs := [.agg [.raw (.int .i64 f.1), v]]) (cells := [.raw (.int .i64 f.1), v]) (by simp only [List.map_cons, List.map_nil, EV, Nat.reduceEqDiff, ↓reduceIte, he]; try rfl) fg_sl22 fn_sz28 fn_ze28 rfl (by omega) rfl rfl fun rb τ8 hN8 hX8 => ?_
  have hG8 := hG7.ext hX8
  refine k_cons ?_
  refine r_append (by simp only [EV, Nat.reduceEqDiff, ↓reduceIte, he] <;> try rfl) (by simp only [EV, Nat.reduceEqDiff, ↓reduceIte, he] <;> try rfl) fg_sl22 fn_sz28 fn_ze28 fg_by28 rfl (by omega) hG8.own (m := 1) (by simp) (fun a ha => by
   have ha := List.mem_of_mem_take ha
   rcases List.mem_cons.1 ha with rfl | ha
   ·rfl
   ·rw [List.mem_singleton.1 ha]; exact hv1.1) (by omega) fun x9 τ9 hO9 hB9 hn9 => ?_
  refine k_cons (c_mv rfl (by simp only [EV, Nat.reduceEqDiff, ↓reduceIte, he] <;> try rfl) ?_)
  refine k_nil ?_
  show ∃ n', n' < _ ∧ _
  have hv9 : Hd τ9 5 1 v f.2.length (bys f.2) := (hv7.ext hX8).but hB9 fun g hg q => by
   obtain ⟨_, q2⟩ := (hv7.ext hX8).blk hg
   obtain ⟨_, _, q3⟩ := hG8.own.blk_ q
   rw [q2] at q3
   injection q3 with q3
   cases q3
  have hL9 : Lot 5 τ9 (fs.map (·.2)) hs := hG8.lot.but hB9 fun j u g hu hg q => by
   obtain ⟨_, q2⟩ := lot_blk hG8.lot hu hg
   obtain ⟨_, _, q3⟩ := hG8.own.blk_ q
   rw [q2] at q3
   injection q3 with q3
   cases q3
  have hb9 : τ9.blk bb = some (.own 61 (rdC A2 c2 rest2 (r.drop (9 + f.2.length)) (at_ + 9 + f.2.length))) := hB9.keep _ _ (fun q => by
   obtain ⟨_, _, q3⟩ := hG8.own.blk_ q
   rw [hX8.keep _ _ hb7] at q3
   injection q3 with q3
   cases q3) (hX8.keep _ _ hb7)
  rw [getAll_some hf] at g1 g2
  refine ⟨_, ?_, fs ++ [f], hs ++ [v], x9, r.drop (9 + f.2.length), A2, c2, rest2, at_ + 9 + f.2.length, rfl, ⟨by simp only [EV, Nat.reduceEqDiff, ↓reduceIte, he] <;> try rfl, by simp only [EV, Nat.reduceEqDiff, ↓reduceIte, he] <;> try rfl⟩, But.ext (hX7.trans hX8) (fun g hg => (hG.nx g hg).1) hB9, hb9, hB9.used _ (hX8.used _ hu7), hA2, ⟨by rw [← g1]; simp, by dsimp only at g2; omega, by rw [List.length_drop]; omega⟩, by rw [List.length_append, List.length_singleton]; omega, ⟨?_, ?_, fun g hg => ?_, fun j u g hu hg => ?_⟩⟩
  ·rw [List.length_drop]; omega
  ·rw [frC_snoc f v fs hs (by rw [hG.lot.len, List.length_map]), List.length_append, List.length_singleton]
   exact hO9
  ·rw [List.map_append, List.map_cons, List.map_nil]
   refine hL9.snoc hv9 fun j u g hu hg q => ?_
   exact (hnv g q).2 (hG.lot.used hu hg)
  ·rcases hn9 g hg with q | q
   ·exact hG.nx g q
   ·exact NewB.of q (hX7.trans hX8)
  ·rcases Nat.lt_or_ge j hs.length with hj | hj
   ·rw [List.getElem?_append_left hj] at hu
    exact hG.nh j u g hu hg
   ·rw [List.getElem?_append_right hj] at hu
    have := lt_of_get hu
    simp at this
    rw [show j - hs.length = 0 by omega] at hu
    injection hu with hu
    subst hu
    exact NewB.of (hnv g hg) hX
end Go.Proofs.Ytklmbkkeiihgdaa
