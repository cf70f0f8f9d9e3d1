/- Chapter 12: those nodes that are so, by hand: a call that writes nothing. -/
import Derived.Test.YtmffcfjdacoigaaGreatWo
import Derived.Test.YtmffcfjdacoigaaGreatHx
import Derived.Test.YtmffcfjdacoigaaGreatDl
import Derived.Test.YtmffcfjdacoigaaGreatTb
namespace Go.Proofs.YtmffcfjdacoigaaGreat
open Go.RowKit
set_option maxRecDepth 100000
set_option linter.unusedVariables false
set_option linter.unusedSimpArgs false
theorem dk_mixed : Tryz.prog.follows .mixedOrders = true := by kernel_rfl
theorem dk_st67 : structA Tryz.prog 67 = some [(0, some 6, some true), (6, some 3, some true), (9, some 1, some false), (10, some 1, some false), (11, some 24, some true), (35, some 1, some false), (36, some 1, some false)] := by kernel_rfl
theorem dk_st38 : structA Tryz.prog 38 = some [(0, some 1, some false), (1, some 1, some false), (2, some 1, some false), (3, some 1, some false), (4, some 1, some false), (5, some 1, some false)] := by kernel_rfl
theorem dk_st64 : structA Tryz.prog 64 = some [(0, some 1, some false), (1, some 1, some false), (2, some 1, some false), (3, some 1, some false)] := by kernel_rfl
theorem dk_ar65 : arrayA Tryz.prog 65 = some (6, 64) := by kernel_rfl
theorem dk_sz64 : sizeA Tryz.prog 64 = some 4 := by kernel_rfl
theorem dk_ag64 : aggA Tryz.prog 64 = some true := by kernel_rfl
theorem dk_sz3 : sizeA Tryz.prog 3 = some 1 := by kernel_rfl
theorem dk_ag3 : aggA Tryz.prog 3 = some false := by kernel_rfl
theorem dk_ze3 : zeroA Tryz.prog 3 = some (.int .i64 0) := by kernel_rfl
theorem dk_by3 : bytesA Tryz.prog 3 = some 8 := by kernel_rfl
theorem dk_sl31 : sliceA Tryz.prog 31 = some 3 := by kernel_rfl
section
variable {P : Program} {ops : Array Oper} {env : Env} {σ : St} {K : Env → St → Prop} {d : Option Nat} {ty t : TypeId} {pos : String} {af : Array Edge} {x y : Operand}
theorem s_arrIx {o len sz b j : Nat} {e : TypeId} (he : arrayA P t = some (len, e)) (hsz : sizeA P e = some sz) (hx : ev env x = ptr b o) (hy : ev env y = vI j) (hj : j < len) (h : K (env.put d (ptr b (o + j * sz))) σ) : aOp P ops ⟨d, .indexAddr t x y, ty, pos, af, none⟩ env σ K := by
 have hu : P.underlying t = some (.array len e) := by
  unfold arrayA at he
  split at he
  ·rename_i n' e' hq
   injection he with he
   injection he with h1 h2
   subst h1 h2
   exact hq
  ·cases he
 refine s_pure (vs := [ptr b o, vI j]) rfl (by simp [Op.operands, hx, hy]) (fun _ _ h => .inl h) (fun ρ hρ w _ _ => ?_) h
 simp [Op.operands, ptr, vI] at hρ
 have hr : (Instr.indexAt t (.pointer (some ⟨b, o, none⟩)) (.int .i64 (j : Int))).run P w = .ok (.pointer (some ⟨b, o + j * sz, none⟩)) w := by
  have ha := add_off_ b o (j * sz)
  simp [Instr.indexAt, asIntOf, run_underlying hu, run_sizeOf' hsz, Instr.sureAddr, hj, ha]
 simp only [execOp, hρ.1, hρ.2, Sem.run_bind, hr, Result.andThen_ok, Sem.run_pure]
end
theorem ptrs1 {N k ib : Nat} {ρ : Nat → AV} {bs : List Nat} (h : PtrsAt N ρ [k] bs) (hk : ρ k = ptr ib 0) : bs = [ib] := by
 match bs, h with
 | [b], h =>
  have h1 := h.1.2
  rw [hk] at h1
  rw [ptr_inj h1]
theorem ints0_sv {N : Nat} {ρ : Nat → AV} : ∀ xs : List Int, SVs CT N ρ (xs.flatMap (CT.enc 0)) (xs.map vI)
 | [] => .none
 | x :: xs => .cons (sv_int.2 rfl) (ints0_sv xs)
section
variable {σ : St} {pb ib : Nat} {pc fc : List AV} {id iv m : Int} {ms : Nat → Int} {K : AV → St → Prop}
theorem agreed1_ok (h4 : fc.length = 4) (hm : fc[1]? = some (vI m)) (hb : σ.blk ib = some (.own 3 [vI iv])) (hK : ∀ τ, Ext σ τ → K (vT (decide (iv ≤ m))) τ) : CallsA Tryz.prog 139 [.agg fc, ptr ib 0] σ K := by
 refine callsA_of dk_mixed Tryz.func139 rfl rfl rfl (Nat.le_of_ble_eq_true rfl) ?_
 refine comp2 0 1 (v0 := .agg fc) (v1 := ptr ib 0) rfl rfl ?_
 intro e he
 first | refine k_region ?_ | refine k_region1 ?_ | (refine k_assoc ?_; refine k_region ?_) | (refine k_assoc ?_; refine k_assoc ?_; refine k_region ?_)
 refine k_cons ?_
 refine r_box (cs := fc) (v := .agg fc) (by simp only [EV, Nat.reduceEqDiff, ↓reduceIte, he] <;> try rfl) rfl fun b υ hn hu hbb hub hX => ?_
 refine k_cons (c_mv rfl (by simp only [EV, Nat.reduceEqDiff, ↓reduceIte, he] <;> try rfl) ?_)
 refine k_nil ?_
 apply comp2 1 2
 ·simp only [EV, Nat.reduceEqDiff, ↓reduceIte, he] <;> try rfl
 ·simp only [EV, Nat.reduceEqDiff, ↓reduceIte, he] <;> try rfl
 clear he e
 intro e he
 first | refine k_region ?_ | refine k_region1 ?_ | (refine k_assoc ?_; refine k_region ?_) | (refine k_assoc ?_; refine k_assoc ?_; refine k_region ?_)
 refine k_cons ?_
 refine s_fieldAddr (b := b) (o := 0) (by simp only [EV, Nat.reduceEqDiff, ↓reduceIte, he] <;> try rfl) dk_st64 rfl ?_
 refine k_cons ?_
 refine r_load (b := b) (o := 0 + 1) (r := vI m) (by simp only [EV, Nat.reduceEqDiff, ↓reduceIte, he] <;> try rfl) hbb dk_ag3 dk_sz3 hm ?_
 refine k_cons ?_
 refine r_load (b := ib) (o := 0) (r := vI iv) (by simp only [EV, Nat.reduceEqDiff, ↓reduceIte, he] <;> try rfl) (hX.keep _ _ hb) dk_ag3 dk_sz3 rfl ?_
 refine k_cons ?_
 refine s_geq (k := .i64) (a := m) (b := iv) (by simp only [EV, Nat.reduceEqDiff, ↓reduceIte, he] <;> try rfl) (by simp only [EV, Nat.reduceEqDiff, ↓reduceIte, he] <;> try rfl) ?_
 refine k_cons (c_mv rfl (by simp only [EV, Nat.reduceEqDiff, ↓reduceIte, he] <;> try rfl) ?_)
 refine k_nil ?_
 apply comp1 3
 ·simp only [EV, Nat.reduceEqDiff, ↓reduceIte, he] <;> try rfl
 clear he e
 intro e he
 refine k_ret1 ?_
 show ∃ r, aResults _ _ _ _ r ∧ _
 exact ⟨_, res_tmp rfl (by simp only [EV, Nat.reduceEqDiff, ↓reduceIte, he] <;> try rfl), hK _ hX⟩
/-- Those up to a number. -/
def thoseN (id iv : Int) (ms : Nat → Int) : Nat → List Int
 | 0 => [id]
 | k + 1 => if ((k + 1 : Nat) : Int) ≠ id ∧ iv ≤ ms (k + 1) then thoseN id iv ms k ++ [((k + 1 : Nat) : Int)] else thoseN id iv ms k
theorem thoseN_len (id iv : Int) (ms : Nat → Int) : ∀ k, (thoseN id iv ms k).length ≤ k + 1
 | 0 => Nat.le_refl _
 | k + 1 => by
  have := thoseN_len id iv ms k
  unfold thoseN
  split
  ·rw [List.length_append]; simp only [List.length_singleton]; omega
  ·omega
theorem those_ok (hpb : σ.blk pb = some (.own 67 pc)) (h37 : pc.length = 37) (hid : pc[0]? = some (vI id)) (hm : ∀ n, 1 ≤ n → n ≤ 5 → pc[11 + n * 4 + 1]? = some (vI (ms n))) (hib : σ.blk ib = some (.own 3 [vI iv]))
  (hK : ∀ v τ, Own τ 3 1 v (thoseN id iv ms 5).length ((thoseN id iv ms 5).map vI) → Ext σ τ → K v τ) : CallsA Tryz.prog 99 [ptr pb 0, .raw (cloV 139 [ib])] σ K := by
 refine callsA_of dk_mixed Tryz.func99 rfl rfl rfl (Nat.le_of_ble_eq_true rfl) ?_
 refine comp2 0 1 (v0 := ptr pb 0) (v1 := .raw (cloV 139 [ib])) rfl rfl ?_
 intro e he
 first | refine k_region ?_ | refine k_region1 ?_ | (refine k_assoc ?_; refine k_region ?_) | (refine k_assoc ?_; refine k_assoc ?_; refine k_region ?_)
 refine k_cons (c_mv rfl (by simp only [EV, Nat.reduceEqDiff, ↓reduceIte, he] <;> try rfl) ?_)
 refine k_nil ?_
 apply comp2 0 1
 ·simp only [EV, Nat.reduceEqDiff, ↓reduceIte, he] <;> try rfl
 ·simp only [EV, Nat.reduceEqDiff, ↓reduceIte, he] <;> try rfl
 clear he e
 intro e he
 first | refine k_region ?_ | refine k_region1 ?_ | (refine k_assoc ?_; refine k_region ?_) | (refine k_assoc ?_; refine k_assoc ?_; refine k_region ?_)
 refine k_cons (c_mv rfl (by simp only [EV, Nat.reduceEqDiff, ↓reduceIte, he] <;> try rfl) ?_)
 refine k_cons ?_
 refine s_nilCheck (v := ptr pb 0) (by simp only [EV, Nat.reduceEqDiff, ↓reduceIte, he] <;> try rfl) rfl ?_
 refine k_cons ?_
 refine s_fieldAddr (b := pb) (o := 0) (by simp only [EV, Nat.reduceEqDiff, ↓reduceIte, he] <;> try rfl) dk_st67 rfl ?_
 refine k_cons ?_
 refine s_fieldAddr (b := pb) (o := 0 + 0) (by simp only [EV, Nat.reduceEqDiff, ↓reduceIte, he] <;> try rfl) dk_st38 rfl ?_
 refine k_cons ?_
 refine r_load (b := pb) (o := 0 + 0 + 0) (r := vI id) (by simp only [EV, Nat.reduceEqDiff, ↓reduceIte, he] <;> try rfl) hpb dk_ag3 dk_sz3 hid ?_
 refine k_cons ?_
 refine r_row (vs := [vI id]) (cells := [vI id]) (by simp only [List.map_cons, List.map_nil, EV, Nat.reduceEqDiff, ↓reduceIte, he] <;> try rfl) dk_sl31 dk_sz3 dk_ze3 rfl (by decide) rfl rfl fun b0 υ0 hN0 hX0 => ?_
 refine k_cons (c_mv rfl (by simp only [EV, Nat.reduceEqDiff, ↓reduceIte, he] <;> try rfl) ?_)
 refine k_nil ?_
 generalize hv0 : AV.lst (some ⟨b0, 0, none⟩) 1 1 [vI id] = v0 at hN0
 apply comp3 0 1 5
 ·simp only [EV, Nat.reduceEqDiff, ↓reduceIte, he] <;> try rfl
 ·simp only [EV, Nat.reduceEqDiff, ↓reduceIte, he] <;> try rfl
 ·simp only [EV, Nat.reduceEqDiff, ↓reduceIte, he] <;> try rfl
 clear he e
 intro e he
 first | refine k_region ?_ | refine k_region1 ?_ | (refine k_assoc ?_; refine k_region ?_) | (refine k_assoc ?_; refine k_assoc ?_; refine k_region ?_)
 refine k_cons (c_mv rfl (by simp only [EV, Nat.reduceEqDiff, ↓reduceIte, he] <;> try rfl) ?_)
 refine k_nil ?_
 apply comp4 0 1 5 6
 ·simp only [EV, Nat.reduceEqDiff, ↓reduceIte, he] <;> try rfl
 ·simp only [EV, Nat.reduceEqDiff, ↓reduceIte, he] <;> try rfl
 ·simp only [EV, Nat.reduceEqDiff, ↓reduceIte, he] <;> try rfl
 ·simp only [EV, Nat.reduceEqDiff, ↓reduceIte, he] <;> try rfl
 clear he e
 intro e he
 refine k_block ?_
 refine k_loopE (fun μ env υ => ∃ (k : Nat) (v : AV), k ≤ 5 ∧ μ = 5 - k ∧ New σ υ 3 1 v (thoseN id iv ms k).length ((thoseN id iv ms k).map vI) ∧ Ext σ υ ∧ env 0 = ptr pb 0 ∧ env 1 = .raw (cloV 139 [ib]) ∧ env 5 = v ∧ env 6 = vI ((k + 1 : Nat) : Int)) ⟨_, 0, v0, Nat.zero_le _, rfl, hN0, hX0, he.1, he.2.1, he.2.2.1, he.2.2.2⟩ ?_
 clear he e
 rintro _ e υ ⟨k, v, hk, rfl, hN, hX, he⟩
 have hlen := thoseN_len id iv ms k
 obtain ⟨A, n1, c1, l1, hvl⟩ := hN.lst
 first | refine k_region ?_ | refine k_region1 ?_ | (refine k_assoc ?_; refine k_region ?_) | (refine k_assoc ?_; refine k_assoc ?_; refine k_region ?_)
 refine k_cons (c_mv rfl (by simp only [EV, Nat.reduceEqDiff, ↓reduceIte, he] <;> try rfl) ?_)
 refine k_cons ?_
 refine s_leq (k := .i64) (a := ((k + 1 : Nat) : Int)) (b := 5) (by simp only [EV, Nat.reduceEqDiff, ↓reduceIte, he] <;> try rfl) (by simp only [EV, Nat.reduceEqDiff, ↓reduceIte, he] <;> try rfl) ?_
 refine k_nil ?_
 apply comp5 0 1 5 6 14
 ·simp only [EV, Nat.reduceEqDiff, ↓reduceIte, he] <;> try rfl
 ·simp only [EV, Nat.reduceEqDiff, ↓reduceIte, he] <;> try rfl
 ·simp only [EV, Nat.reduceEqDiff, ↓reduceIte, he] <;> try rfl
 ·simp only [EV, Nat.reduceEqDiff, ↓reduceIte, he] <;> try rfl
 ·simp only [EV, Nat.reduceEqDiff, ↓reduceIte, he] <;> try rfl
 clear he e
 intro e he
 refine k_cond (t := decide (((k + 1 : Nat) : Int) ≤ 5)) (by simp only [EV, Nat.reduceEqDiff, ↓reduceIte, he] <;> try rfl) (fun ht => ?_) (fun ht => ?_)
 ·have hk5 : k < 5 := by have := of_decide_eq_true ht; omega
  refine k_skip ?_
  refine k_block ?_
  have hpb1 := hX.keep _ _ hpb
  have hib1 := hX.keep _ _ hib
  by_cases hne : ((k + 1 : Nat) : Int) = id
  ·first | refine k_region ?_ | refine k_region1 ?_ | (refine k_assoc ?_; refine k_region ?_) | (refine k_assoc ?_; refine k_assoc ?_; refine k_region ?_)
   refine k_cons (c_mv rfl (by simp only [EV, Nat.reduceEqDiff, ↓reduceIte, he] <;> try rfl) ?_)
   refine k_cons (c_mv rfl (by simp only [EV, Nat.reduceEqDiff, ↓reduceIte, he] <;> try rfl) ?_)
   refine k_cons ?_
   refine s_nilCheck (v := ptr pb 0) (by simp only [EV, Nat.reduceEqDiff, ↓reduceIte, he] <;> try rfl) rfl ?_
   refine k_cons ?_
   refine s_fieldAddr (b := pb) (o := 0) (by simp only [EV, Nat.reduceEqDiff, ↓reduceIte, he] <;> try rfl) dk_st67 rfl ?_
   refine k_cons ?_
   refine s_fieldAddr (b := pb) (o := 0 + 0) (by simp only [EV, Nat.reduceEqDiff, ↓reduceIte, he] <;> try rfl) dk_st38 rfl ?_
   refine k_cons ?_
   refine r_load (b := pb) (o := 0 + 0 + 0) (r := vI id) (by simp only [EV, Nat.reduceEqDiff, ↓reduceIte, he] <;> try rfl) hpb1 dk_ag3 dk_sz3 hid ?_
   refine k_cons ?_
   refine s_neq (k := .i64) (a := ((k + 1 : Nat) : Int)) (b := id) (by simp only [EV, Nat.reduceEqDiff, ↓reduceIte, he] <;> try rfl) (by simp only [EV, Nat.reduceEqDiff, ↓reduceIte, he] <;> try rfl) ?_
   rw [decide_eq_false (by simpa using hne)]
   refine k_cons (c_mv rfl (by simp only [EV, Nat.reduceEqDiff, ↓reduceIte, he] <;> try rfl) ?_)
   refine k_cons (s_guard_off (y_is rfl (by simp only [EV, Nat.reduceEqDiff, ↓reduceIte, he] <;> try rfl)) ?_)
   refine k_cons (s_guard_off (y_is rfl (by simp only [EV, Nat.reduceEqDiff, ↓reduceIte, he] <;> try rfl)) ?_)
   refine k_cons (s_guard_off (y_is rfl (by simp only [EV, Nat.reduceEqDiff, ↓reduceIte, he] <;> try rfl)) ?_)
   refine k_cons (s_guard_off (y_is rfl (by simp only [EV, Nat.reduceEqDiff, ↓reduceIte, he] <;> try rfl)) ?_)
   refine k_cons (s_guard_off (y_is rfl (by simp only [EV, Nat.reduceEqDiff, ↓reduceIte, he] <;> try rfl)) ?_)
   refine k_cons (s_guard_off (y_is rfl (by simp only [EV, Nat.reduceEqDiff, ↓reduceIte, he] <;> try rfl)) ?_)
   refine k_cons (s_guard_off (y_is rfl (by simp only [EV, Nat.reduceEqDiff, ↓reduceIte, he] <;> try rfl)) ?_)
   refine k_cons (s_guard_off (y_is rfl (by simp only [EV, Nat.reduceEqDiff, ↓reduceIte, he] <;> try rfl)) ?_)
   refine k_cons ?_
   refine s_pick_f (v := vT false) (by simp only [EV, Nat.reduceEqDiff, ↓reduceIte, he] <;> try rfl) (by simp only [EV, Nat.reduceEqDiff, ↓reduceIte, he] <;> try rfl) ?_
   refine k_nil ?_
   apply comp5 0 1 5 6 33
   ·simp only [EV, Nat.reduceEqDiff, ↓reduceIte, he] <;> try rfl
   ·simp only [EV, Nat.reduceEqDiff, ↓reduceIte, he] <;> try rfl
   ·simp only [EV, Nat.reduceEqDiff, ↓reduceIte, he] <;> try rfl
   ·simp only [EV, Nat.reduceEqDiff, ↓reduceIte, he] <;> try rfl
   ·simp only [EV, Nat.reduceEqDiff, ↓reduceIte, he] <;> try rfl
   clear he e
   intro e he
   refine k_cond1F (by simp only [EV, Nat.reduceEqDiff, ↓reduceIte, he] <;> try rfl) ?_
   refine k_skip1 ?_
   show aCode _ _ _ _ _ _
   first | refine k_region ?_ | refine k_region1 ?_ | (refine k_assoc ?_; refine k_region ?_) | (refine k_assoc ?_; refine k_assoc ?_; refine k_region ?_)
   refine k_cons (c_mv rfl (by simp only [EV, Nat.reduceEqDiff, ↓reduceIte, he] <;> try rfl) ?_)
   refine k_cons ?_
   refine s_addN (k + 1) 1 (by simp only [EV, Nat.reduceEqDiff, ↓reduceIte, he] <;> try rfl) (by simp only [EV, Nat.reduceEqDiff, ↓reduceIte, he] <;> try rfl) (by omega) ?_
   refine k_cons (c_mv rfl (by simp only [EV, Nat.reduceEqDiff, ↓reduceIte, he] <;> try rfl) ?_)
   refine k_nil ?_
   have ht1 : thoseN id iv ms (k + 1) = thoseN id iv ms k := by
    show (if _ then _ else _) = _
    rw [if_neg (fun h => h.1 hne)]
   refine ⟨_, by omega, k + 1, v, by omega, rfl, by rw [ht1]; exact hN, hX, ?_, ?_, ?_, ?_⟩
   all_goals simp only [EV, Nat.reduceEqDiff, ↓reduceIte, he] <;> try rfl
  ·first | refine k_region ?_ | refine k_region1 ?_ | (refine k_assoc ?_; refine k_region ?_) | (refine k_assoc ?_; refine k_assoc ?_; refine k_region ?_)
   refine k_cons (c_mv rfl (by simp only [EV, Nat.reduceEqDiff, ↓reduceIte, he] <;> try rfl) ?_)
   refine k_cons (c_mv rfl (by simp only [EV, Nat.reduceEqDiff, ↓reduceIte, he] <;> try rfl) ?_)
   refine k_cons ?_
   refine s_nilCheck (v := ptr pb 0) (by simp only [EV, Nat.reduceEqDiff, ↓reduceIte, he] <;> try rfl) rfl ?_
   refine k_cons ?_
   refine s_fieldAddr (b := pb) (o := 0) (by simp only [EV, Nat.reduceEqDiff, ↓reduceIte, he] <;> try rfl) dk_st67 rfl ?_
   refine k_cons ?_
   refine s_fieldAddr (b := pb) (o := 0 + 0) (by simp only [EV, Nat.reduceEqDiff, ↓reduceIte, he] <;> try rfl) dk_st38 rfl ?_
   refine k_cons ?_
   refine r_load (b := pb) (o := 0 + 0 + 0) (r := vI id) (by simp only [EV, Nat.reduceEqDiff, ↓reduceIte, he] <;> try rfl) hpb1 dk_ag3 dk_sz3 hid ?_
   refine k_cons ?_
   refine s_neq (k := .i64) (a := ((k + 1 : Nat) : Int)) (b := id) (by simp only [EV, Nat.reduceEqDiff, ↓reduceIte, he] <;> try rfl) (by simp only [EV, Nat.reduceEqDiff, ↓reduceIte, he] <;> try rfl) ?_
   rw [decide_eq_true hne]
   refine k_cons (c_mv rfl (by simp only [EV, Nat.reduceEqDiff, ↓reduceIte, he] <;> try rfl) ?_)
   refine k_cons (s_guard_on (y_is rfl (by simp only [EV, Nat.reduceEqDiff, ↓reduceIte, he] <;> try rfl)) ?_)
   refine c_mv rfl (by simp only [EV, Nat.reduceEqDiff, ↓reduceIte, he] <;> try rfl) ?_
   refine k_cons (s_guard_on (y_is rfl (by simp only [EV, Nat.reduceEqDiff, ↓reduceIte, he] <;> try rfl)) ?_)
   refine c_mv rfl (by simp only [EV, Nat.reduceEqDiff, ↓reduceIte, he] <;> try rfl) ?_
   refine k_cons (s_guard_on (y_is rfl (by simp only [EV, Nat.reduceEqDiff, ↓reduceIte, he] <;> try rfl)) ?_)
   refine c_mv rfl (by simp only [EV, Nat.reduceEqDiff, ↓reduceIte, he] <;> try rfl) ?_
   refine k_cons (s_guard_on (y_is rfl (by simp only [EV, Nat.reduceEqDiff, ↓reduceIte, he] <;> try rfl)) ?_)
   refine s_nilCheck (v := ptr pb 0) (by simp only [EV, Nat.reduceEqDiff, ↓reduceIte, he] <;> try rfl) rfl ?_
   refine k_cons (s_guard_on (y_is rfl (by simp only [EV, Nat.reduceEqDiff, ↓reduceIte, he] <;> try rfl)) ?_)
   refine s_fieldAddr (b := pb) (o := 0) (by simp only [EV, Nat.reduceEqDiff, ↓reduceIte, he] <;> try rfl) dk_st67 rfl ?_
   refine k_cons (s_guard_on (y_is rfl (by simp only [EV, Nat.reduceEqDiff, ↓reduceIte, he] <;> try rfl)) ?_)
   refine s_arrIx (b := pb) (o := 0 + 11) (j := k + 1) dk_ar65 dk_sz64 (by simp only [EV, Nat.reduceEqDiff, ↓reduceIte, he] <;> try rfl) (by simp only [EV, Nat.reduceEqDiff, ↓reduceIte, he] <;> try rfl) (by omega) ?_
   refine k_cons (s_guard_on (y_is rfl (by simp only [EV, Nat.reduceEqDiff, ↓reduceIte, he] <;> try rfl)) ?_)
   refine r_load (b := pb) (o := 0 + 11 + (k + 1) * 4) (r := .agg ((pc.drop (0 + 11 + (k + 1) * 4)).take 4)) (by simp only [EV, Nat.reduceEqDiff, ↓reduceIte, he] <;> try rfl) hpb1 dk_ag64 dk_sz64 (by show (if _ then _ else _) = _; rw [if_pos (by omega)]) ?_
   refine k_cons (s_guard_on (y_is rfl (by simp only [EV, Nat.reduceEqDiff, ↓reduceIte, he] <;> try rfl)) ?_)
   refine s_callF (g := 139) (caps := #[.pointer (some ⟨ib, 0, none⟩)]) (vs := [.agg ((pc.drop (0 + 11 + (k + 1) * 4)).take 4)]) (by simp only [EV, Nat.reduceEqDiff, ↓reduceIte, he] <;> try rfl) (by simp only [List.map_cons, List.map_nil, EV, Nat.reduceEqDiff, ↓reduceIte, he] <;> try rfl) ?_
   refine agreed1_ok (m := ms (k + 1)) (iv := iv) (by rw [List.length_take, List.length_drop]; omega) (by rw [List.getElem?_take, if_pos (by omega), List.getElem?_drop]; have := hm (k + 1) (by omega) (by omega); rw [show 0 + 11 + (k + 1) * 4 + 1 = 11 + (k + 1) * 4 + 1 by omega]; exact this) hib1 fun τ hX1 => ?_
   refine k_cons ?_
   refine s_pick_t (v := vT (decide (iv ≤ ms (k + 1)))) (by simp only [EV, Nat.reduceEqDiff, ↓reduceIte, he] <;> try rfl) (by simp only [EV, Nat.reduceEqDiff, ↓reduceIte, he] <;> try rfl) ?_
   refine k_nil ?_
   apply comp5 0 1 5 6 33
   ·simp only [EV, Nat.reduceEqDiff, ↓reduceIte, he] <;> try rfl
   ·simp only [EV, Nat.reduceEqDiff, ↓reduceIte, he] <;> try rfl
   ·simp only [EV, Nat.reduceEqDiff, ↓reduceIte, he] <;> try rfl
   ·simp only [EV, Nat.reduceEqDiff, ↓reduceIte, he] <;> try rfl
   ·simp only [EV, Nat.reduceEqDiff, ↓reduceIte, he] <;> try rfl
   clear he e
   intro e he
   have hN1 : New σ τ 3 1 v (thoseN id iv ms k).length ((thoseN id iv ms k).map vI) := ⟨hN.1.but hX1.but (fun _ _ h => h), hN.2⟩
   have hX2 := hX.trans hX1
   refine k_cond1 (t := decide (iv ≤ ms (k + 1))) (by simp only [EV, Nat.reduceEqDiff, ↓reduceIte, he] <;> try rfl) (fun hc => ?_) (fun hc => ?_)
   ·have hge := of_decide_eq_true hc
    first | refine k_region ?_ | refine k_region1 ?_ | (refine k_assoc ?_; refine k_region ?_) | (refine k_assoc ?_; refine k_assoc ?_; refine k_region ?_)
    refine k_cons (c_mv rfl (by simp only [EV, Nat.reduceEqDiff, ↓reduceIte, he] <;> try rfl) ?_)
    refine k_cons (c_mv rfl (by simp only [EV, Nat.reduceEqDiff, ↓reduceIte, he] <;> try rfl) ?_)
    refine k_cons ?_
    refine r_row (vs := [vI ((k + 1 : Nat) : Int)]) (cells := [vI ((k + 1 : Nat) : Int)]) (by simp only [List.map_cons, List.map_nil, EV, Nat.reduceEqDiff, ↓reduceIte, he] <;> try rfl) dk_sl31 dk_sz3 dk_ze3 rfl (by decide) rfl rfl fun b3 υ3 hN3 hX3 => ?_
    refine k_cons ?_
    refine r_append (v := v) (n := (thoseN id iv ms k).length) (m := 1) (bytes := 8) (cells := (thoseN id iv ms k).map vI) (by simp only [EV, Nat.reduceEqDiff, ↓reduceIte, he] <;> try rfl) (by simp only [EV, Nat.reduceEqDiff, ↓reduceIte, he] <;> try rfl) dk_sl31 dk_sz3 dk_ze3 dk_by3 rfl (by decide) (hN1.1.but hX3.but (fun _ _ h => h)) (by simp) (by intro c hc; simp at hc; subst hc; rfl) ⟨by omega, by omega⟩ fun v' υ4 hO hB hnew => ?_
    refine k_cons (c_mv rfl (by simp only [EV, Nat.reduceEqDiff, ↓reduceIte, he] <;> try rfl) ?_)
    refine k_nil ?_
    apply comp4 0 1 5 6
    ·simp only [EV, Nat.reduceEqDiff, ↓reduceIte, he] <;> try rfl
    ·simp only [EV, Nat.reduceEqDiff, ↓reduceIte, he] <;> try rfl
    ·simp only [EV, Nat.reduceEqDiff, ↓reduceIte, he] <;> try rfl
    ·simp only [EV, Nat.reduceEqDiff, ↓reduceIte, he] <;> try rfl
    clear he e
    intro e he
    show aCode _ _ _ _ _ _
    first | refine k_region ?_ | refine k_region1 ?_ | (refine k_assoc ?_; refine k_region ?_) | (refine k_assoc ?_; refine k_assoc ?_; refine k_region ?_)
    refine k_cons (c_mv rfl (by simp only [EV, Nat.reduceEqDiff, ↓reduceIte, he] <;> try rfl) ?_)
    refine k_cons ?_
    refine s_addN (k + 1) 1 (by simp only [EV, Nat.reduceEqDiff, ↓reduceIte, he] <;> try rfl) (by simp only [EV, Nat.reduceEqDiff, ↓reduceIte, he] <;> try rfl) (by omega) ?_
    refine k_cons (c_mv rfl (by simp only [EV, Nat.reduceEqDiff, ↓reduceIte, he] <;> try rfl) ?_)
    refine k_nil ?_
    have ht1 : thoseN id iv ms (k + 1) = thoseN id iv ms k ++ [((k + 1 : Nat) : Int)] := by
     show (if _ then _ else _) = _
     rw [if_pos ⟨hne, hge⟩]
    have hX4 : Ext σ υ4 := ⟨fun b q hq => hB.keep b q (fun hv => by
     have := (hN1.2 b hv).1
     rw [hq] at this; cases this) (hX3.keep _ _ (hX2.keep _ _ hq)), fun b hb => hB.used _ (hX3.used _ (hX2.used _ hb))⟩
    refine ⟨_, by omega, k + 1, v', by omega, rfl, ⟨by rw [ht1, List.length_append, List.map_append]; simpa using hO, fun g hg => ?_⟩, hX4, ?_, ?_, ?_, ?_⟩
    ·rcases hnew g hg with h1 | ⟨h1, h2⟩
     ·exact hN1.2 g h1
     ·refine ⟨?_, fun hu => h2 (hX3.used _ (hX2.used _ hu))⟩
      cases hs : σ.blk g with
      | none => rfl
      | some q =>
       have := hX3.keep _ _ (hX2.keep _ _ hs)
       rw [h1] at this; cases this
    all_goals simp only [EV, Nat.reduceEqDiff, ↓reduceIte, he] <;> try rfl
   ·have hge := of_decide_eq_false hc
    refine k_skip1 ?_
    show aCode _ _ _ _ _ _
    first | refine k_region ?_ | refine k_region1 ?_ | (refine k_assoc ?_; refine k_region ?_) | (refine k_assoc ?_; refine k_assoc ?_; refine k_region ?_)
    refine k_cons (c_mv rfl (by simp only [EV, Nat.reduceEqDiff, ↓reduceIte, he] <;> try rfl) ?_)
    refine k_cons ?_
    refine s_addN (k + 1) 1 (by simp only [EV, Nat.reduceEqDiff, ↓reduceIte, he] <;> try rfl) (by simp only [EV, Nat.reduceEqDiff, ↓reduceIte, he] <;> try rfl) (by omega) ?_
    refine k_cons (c_mv rfl (by simp only [EV, Nat.reduceEqDiff, ↓reduceIte, he] <;> try rfl) ?_)
    refine k_nil ?_
    have ht1 : thoseN id iv ms (k + 1) = thoseN id iv ms k := by
     show (if _ then _ else _) = _
     rw [if_neg (fun h => hge h.2)]
    refine ⟨_, by omega, k + 1, v, by omega, rfl, by rw [ht1]; exact hN1, hX2, ?_, ?_, ?_, ?_⟩
    all_goals simp only [EV, Nat.reduceEqDiff, ↓reduceIte, he] <;> try rfl
 ·have hk5 : k = 5 := by have := of_decide_eq_false ht; omega
  subst hk5
  refine k_exit ?_
  show aCode _ _ _ _ _ _
  first | refine k_region ?_ | refine k_region1 ?_ | (refine k_assoc ?_; refine k_region ?_) | (refine k_assoc ?_; refine k_assoc ?_; refine k_region ?_)
  refine k_cons (c_mv rfl (by simp only [EV, Nat.reduceEqDiff, ↓reduceIte, he] <;> try rfl) ?_)
  refine k_cons (c_mv rfl (by simp only [EV, Nat.reduceEqDiff, ↓reduceIte, he] <;> try rfl) ?_)
  refine k_nil ?_
  apply comp1 4
  ·simp only [EV, Nat.reduceEqDiff, ↓reduceIte, he] <;> try rfl
  clear he e
  intro e he
  refine k_ret1 ?_
  show ∃ r, aResults _ _ _ _ r ∧ _
  exact ⟨_, res_tmp rfl (by simp only [EV, Nat.reduceEqDiff, ↓reduceIte, he] <;> try rfl), hK v _ hN.1 hX⟩
end
end Go.Proofs.YtmffcfjdacoigaaGreat
