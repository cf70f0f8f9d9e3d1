/- SharesEnds, plainly. -/
import Derived.Test.YtnmimignbgdfgaaGreatMe
namespace Go.Proofs.YtnmimignbgdfgaaGreat
open Go.RowKit
set_option maxRecDepth 100000
set_option linter.unusedVariables false
set_option linter.unusedSimpArgs false
/-- A turn of right shares that is taken. -/
theorem Turn_q {s : DShares} (h : OkSh s) (hr : rightW s = true) {a : DSpan} (ha : OkSp a) (hra : rightB a = true) {g : Int} (hg : 1 ≤ g ∧ g ≤ 4) {i : Nat} (hi : i < s.list.length) (hx : ixF (fun x => withinB a x.span) s.list = (i : Int)) (hp : withinB a s.list[i].span = true) (hgr : s.list[i].group ≠ g) (hme : s.epoch ≠ 1073741824) :
    shares_Turn s a g = if (turnF s i a g).list.length ≤ 40 then some ((((turnF s i a g).epoch, (turnF s i a g).list, ()), 0, ()), ((), ())) else some (((0, [], ()), 8, ()), ((), ())) := by
  unfold shares_Turn
  rw [at_in h ha, Option.bind_some, right_p h, Option.bind_some, hr]
  simp only [Bool.not_true, cond_false, cond_true]
  rw [Right_p ha, Option.bind_some, hra]
  simp only [Bool.not_true, cond_false]
  have hgb : (!(decide (1 ≤ g) && decide (g ≤ 4))) = false := by rw [dT hg.1, dT hg.2]; rfl
  rw [within_p, Option.bind_some, hgb, cond_false, hx]
  rw [dF (by omega : ¬ (i : Int) < 0), cond_false, getI_lt hi, Option.bind_some, Option.bind_some]
  rw [dF hgr, cond_false]
  have hsx : OkSp s.list[i].span := h.sp _ (List.getElem_mem hi)
  have hlen := h.len
  have hc : cloneA32 s.list = some (s.list.length, (s.list, ())) := by
    unfold cloneA32
    exact if_pos (by omega)
  have he : 1 ≤ s.epoch ∧ s.epoch ≤ 1073741824 := by
    unfold rightW at hr
    simp only [Bool.and_eq_true, decide_eq_true_eq] at hr
    exact hr.1
  have hw : IntKind.i64.wrap (s.epoch + 1) = s.epoch + 1 := w64 (by omega)
  have hl1 := cutF_len s.list[i].span (at2 a.lo a.hi)
  have hl2 := at2_len a.lo a.hi
  have hl3 := cutF_ne s.list[i].span (at2 a.lo a.hi)
  have hpl : (partF s.list[i] a g (s.epoch + 1)).length = (cutF s.list[i].span (at2 a.lo a.hi)).length := by unfold partF; simp
  rw [hc, Option.bind_some, hw, parted_p hsx ha (within_right hp).2, Option.bind_some]
  dsimp only
  rw [w64 (by omega)]
  have hrp : replace s.list.length (i : Int) ((i : Int) + 1) (partF s.list[i] a g (s.epoch + 1)) s.list = some (s.list.take i ++ partF s.list[i] a g (s.epoch + 1) ++ s.list.drop (i + 1), ((), (), ())) := by
    unfold replace
    rw [if_pos ⟨rfl, by omega, by omega, by omega, by omega, by omega⟩]
    have : ((i : Int) + 1).toNat = i + 1 := by omega
    rw [this, Int.toNat_natCast]
  rw [hrp, Option.bind_some, dF hme, cond_false]
  have htf : turnF s i a g = ⟨s.epoch + 1, s.list.take i ++ partF s.list[i] a g (s.epoch + 1) ++ s.list.drop (i + 1)⟩ := by
    unfold turnF
    rw [List.getElem?_eq_getElem hi]
    rfl
  rw [htf]
  by_cases hmx : (40 : Int) < ((s.list.take i ++ partF s.list[i] a g (s.epoch + 1) ++ s.list.drop (i + 1)).length : Int)
  · rw [dT hmx, cond_true, if_neg (by dsimp only; omega)]
  · rw [dF hmx, cond_false, if_pos (by dsimp only; omega)]
theorem Turn_there {s : DShares} (h : OkSh s) (hr : rightW s = true) {a : DSpan} (ha : OkSp a) (hra : rightB a = true) {g : Int} (hg : 1 ≤ g ∧ g ≤ 4) {i : Nat} (hi : i < s.list.length) (hx : ixF (fun x => withinB a x.span) s.list = (i : Int)) (hgr : s.list[i].group = g) :
    shares_Turn s a g = some (((0, [], ()), 7, ()), ((), ())) := by
  unfold shares_Turn
  rw [at_in h ha, Option.bind_some, right_p h, Option.bind_some, hr]
  simp only [Bool.not_true, cond_false, cond_true]
  rw [Right_p ha, Option.bind_some, hra]
  simp only [Bool.not_true, cond_false]
  have hgb : (!(decide (1 ≤ g) && decide (g ≤ 4))) = false := by rw [dT hg.1, dT hg.2]; rfl
  rw [within_p, Option.bind_some, hgb, cond_false, hx]
  rw [dF (by omega : ¬ (i : Int) < 0), cond_false, getI_lt hi, Option.bind_some, dT hgr, cond_true]
/-- The keys of the law, its groups, and the shares behind n turns. -/
def kkF (i : Nat) : Tx := [97, UInt8.ofNat (97 + i / 10), UInt8.ofNat (48 + i % 10)]
def ggF (i : Nat) : Int := 2 + ((i % 3 : Nat) : Int)
def shF (n j : Nat) : DShare := ⟨⟨if j = 0 then [] else kkF (j - 1), if j = n then [] else kkF j⟩, if j = 0 then 1 else ggF (j - 1), ((j + 1 : Nat) : Int)⟩
def fullF (n : Nat) : DShares := ⟨((n + 1 : Nat) : Int), (List.range (n + 1)).map (shF n)⟩
theorem fullF_len (n : Nat) : (fullF n).list.length = n + 1 := by simp [fullF]
theorem shF_ok (n j : Nat) : OkSp (shF n j).span := by
  constructor
  · show OkT (if j = 0 then [] else kkF (j - 1))
    split <;> simp [OkT, kkF]
  · show OkT (if j = n then [] else kkF j)
    split <;> simp [OkT, kkF]
theorem fullF_ok {n : Nat} (hn : n < 40) : OkSh (fullF n) := ⟨by rw [fullF_len]; omega, fun x hx => by
  obtain ⟨j, _, rfl⟩ := List.mem_map.1 hx
  exact shF_ok n j⟩
def checkF (i : Nat) : Bool := rightW (fullF (min i 39)) && (rightB ⟨kkF i, []⟩ && (decide (ixF (fun x => withinB ⟨kkF i, []⟩ x.span) (fullF (min i 39)).list = ((min i 39 : Nat) : Int)) && (withinB ⟨kkF i, []⟩ (shF (min i 39) (min i 39)).span && (bif decide (i < 39) then (!decide ((shF (min i 39) (min i 39)).group = ggF i) && decide (turnF (fullF (min i 39)) (min i 39) ⟨kkF i, []⟩ (ggF i) = fullF (i + 1))) else decide ((turnF (fullF (min i 39)) (min i 39) ⟨kkF i, []⟩ (ggF i)).list.length = 41)))))
theorem check_all : ∀ i : Nat, i < 45 → checkF i = true := by decide +kernel
def numF (i : Nat) : Bool := decide (b8 (IntKind.u8.wrap (IntKind.i64.wrap (97 + (IntKind.i64.wrap ((i : Int).tdiv 10))))) = some (UInt8.ofNat (97 + i / 10))) && (decide (b8 (IntKind.u8.wrap (IntKind.i64.wrap (48 + ((i : Int).tmod 10)))) = some (UInt8.ofNat (48 + i % 10))) && (decide (IntKind.i64.wrap (2 + ((i : Int).tmod 3)) = ggF i) && (Lit.int .i64 (IntKind.i64.wrap ((IntKind.i64.wrap (1 + (((IntKind.i64.wrap ((i : Int) + 1)) : Int).tmod 2))) + 1))).wf))
theorem num_all : ∀ i : Nat, i < 45 → numF i = true := by decide +kernel
theorem ends_turn {i : Nat} (hi : i < 45) : ∃ t e, shares_Turn (fullF (min i 39)) ⟨kkF i, []⟩ (ggF i) = some (((t.epoch, t.list, ()), e, ()), ((), ())) ∧ (bif decide (e = 0) then t else fullF (min i 39)) = fullF (min (i + 1) 39) := by
  have hc := check_all i hi
  simp only [checkF] at hc
  rw [Bool.and_eq_true, Bool.and_eq_true, Bool.and_eq_true, Bool.and_eq_true, decide_eq_true_eq] at hc
  obtain ⟨c1, c2, c3, c4, c6⟩ := hc
  have hk : OkSp ⟨kkF i, []⟩ := ⟨by simp [OkT, kkF], by simp [OkT]⟩
  have hl : min i 39 < (fullF (min i 39)).list.length := by rw [fullF_len]; omega
  have hg : (fullF (min i 39)).list[min i 39]'hl = shF (min i 39) (min i 39) := by simp [fullF]
  have hgg : 1 ≤ ggF i ∧ ggF i ≤ 4 := by unfold ggF; omega
  have he : (fullF (min i 39)).epoch ≠ 1073741824 := by show ((min i 39 + 1 : Nat) : Int) ≠ 1073741824; omega
  by_cases h : i < 39
  · rw [decide_eq_true h, cond_true, Bool.and_eq_true, Bool.not_eq_true', decide_eq_false_iff_not, decide_eq_true_eq] at c6
    have q := Turn_q (fullF_ok (by omega)) c1 hk c2 hgg hl c3 (by rw [hg]; exact c4) (by rw [hg]; exact c6.1) he
    rw [c6.2, if_pos (by rw [fullF_len]; omega)] at q
    refine ⟨_, _, q, ?_⟩
    rw [show min (i + 1) 39 = i + 1 from by omega]
    rfl
  · rw [decide_eq_false h, cond_false, decide_eq_true_eq] at c6
    by_cases h5 : (shF (min i 39) (min i 39)).group = ggF i
    · have q := Turn_there (fullF_ok (by omega)) c1 hk c2 hgg hl c3 (by rw [hg]; exact h5)
      refine ⟨⟨0, []⟩, _, q, ?_⟩
      rw [show min (i + 1) 39 = min i 39 from by omega]
      rfl
    · have q := Turn_q (fullF_ok (by omega)) c1 hk c2 hgg hl c3 (by rw [hg]; exact c4) (by rw [hg]; exact h5) he
      rw [c6, if_neg (by omega)] at q
      refine ⟨⟨0, []⟩, _, q, ?_⟩
      rw [show min (i + 1) 39 = min i 39 from by omega]
      rfl
theorem full_k {n : Nat} (hn : n < 40) : ok_DShares (fullF n) := by
  refine ⟨?_, ⟨by rw [fullF_len]; omega, fun x hx => ?_, by rw [fullF_len]; omega⟩, trivial⟩
  · show InK .i64 ((n + 1 : Nat) : Int)
    simp [InK, Lit.wf, IntKind.bits, IntKind.signed, IntKind.min, IntKind.max]; omega
  · obtain ⟨j, hj, rfl⟩ := List.mem_map.1 hx
    have hj := List.mem_range.1 hj
    have h := shF_ok n j
    refine ⟨⟨h.1, h.2, trivial⟩, ?_, ?_, trivial⟩
    · show InK .i64 (if j = 0 then 1 else ggF (j - 1))
      split
      · unfold InK; decide
      · unfold ggF; simp [InK, Lit.wf, IntKind.bits, IntKind.signed, IntKind.min, IntKind.max]; omega
    · show InK .i64 ((j + 1 : Nat) : Int)
      simp [InK, Lit.wf, IntKind.bits, IntKind.signed, IntKind.min, IntKind.max]; omega
theorem endsL1 : loopM watershedlaw05_SharesEnds_l1 (((), 0, ()), (fullF 0, ())) = some (.inr (((), ()), (fullF 39, ()))) := by
  refine loopM_run (step := watershedlaw05_SharesEnds_l1) (fun i : Nat => (((), (i : Int), ()), (fullF (min i 39), ()))) (N := 45) (fun i hi => ?_) ?_
  · have hn := num_all i hi
    simp only [numF, Bool.and_eq_true, decide_eq_true_eq] at hn
    obtain ⟨n1, n2, n3, n4⟩ := hn
    obtain ⟨t, e, t1, t2⟩ := ends_turn hi
    have hkk : ([97] : Tx) ++ [UInt8.ofNat (97 + i / 10), UInt8.ofNat (48 + i % 10)] = kkF i := rfl
    unfold watershedlaw05_SharesEnds_l1
    refine condT (dT (by dsimp only; omega)) (bindS n1 (bindS n2 (iteT (by simp) ?_)))
    rw [hkk]
    refine bindS (SharesTells_p _ _ _ _ (full_k (by omega)) ⟨by simp [ok_ListUInt8, kkF], by simp [ok_ListUInt8], trivial⟩ n4 ⟨by simp, fun x hx => ?_, by simp⟩) (condF rfl ?_)
    · simp only [List.mem_cons, List.not_mem_nil, or_false] at hx
      rcases hx with rfl | rfl | rfl <;> simp [ok_ListUInt8, kkF]
    dsimp only
    rw [n3]
    refine bindS t1 ?_
    dsimp only
    rw [w64 (by omega), ← t2]
    cases decide (e = 0) <;> rfl
  · unfold watershedlaw05_SharesEnds_l1
    exact condF (by decide) rfl
def numsF : List Int := [(-1), 0, 1, 2, 4, 5, 1073741824, 1073741825]
theorem nums_in : ∀ x ∈ numsF, InK .i64 x := by unfold InK; decide
theorem ok1 {e g p : Int} (he : InK .i64 e) (hg : InK .i64 g) (hp : InK .i64 p) : ok_DShares ⟨e, [⟨⟨[], []⟩, g, p⟩]⟩ := by
  refine ⟨he, ⟨by simp, fun x hx => ?_, by simp⟩, trivial⟩
  rw [List.mem_singleton] at hx
  subst hx
  exact ⟨⟨by simp [ok_ListUInt8], by simp [ok_ListUInt8], trivial⟩, hg, hp, trivial⟩
theorem endsL3 {s : DShares} {i : Nat} (hi : i < 8) : loopM watershedlaw05_SharesEnds_l3 (((), numsF, (i : Int), 0, ()), (s, (), ())) = some (.inr (((), numsF, (i : Int), ()), (s, (), (), ()))) := by
  refine loopM_run (step := watershedlaw05_SharesEnds_l3) (fun k : Nat => (((), numsF, (i : Int), (k : Int), ()), (s, (), ()))) (N := 8) (fun k hk => ?_) ?_
  · have ok : ∀ {k : Nat} (hk : k < numsF.length), InK .i64 numsF[k] := fun hk => nums_in _ (List.getElem_mem hk)
    have hl : numsF.length = 8 := rfl
    have hi8 : i < numsF.length := by omega
    have hk8 : k < numsF.length := by omega
    have k1 : InK .i64 1 := by unfold InK; decide
    have hm : (i + k) % 8 < numsF.length := Nat.mod_lt _ (by omega)
    have okm : ok_DSpan ⟨[109], []⟩ := ⟨by simp [ok_ListUInt8], by simp [ok_ListUInt8], trivial⟩
    have okl : ok_LListUInt8 [[109]] := ⟨by simp, by simp [ok_ListUInt8], by simp⟩
    unfold watershedlaw05_SharesEnds_l3
    refine condT (dT (by dsimp only; omega)) (bindS (getI_lt hi8) (bindS (getI_lt hk8) (iteF (by dsimp only; omega) ?_)))
    refine bindS (v := numsF[(i + k) % 8]) (by
      dsimp only
      rw [w64 (by omega), hl, ← Int.natCast_add, ← Int.ofNat_tmod]
      exact getI_lt hm) ?_
    refine bindS (getI_lt hi8) (bindS (getI_lt hk8) ?_)
    refine bindS (SharesTells_p _ _ _ _ (ok1 (ok hi8) (ok hk8) (ok hm)) okm (ok hk8) okl) (condF rfl ?_)
    refine bindS (getI_lt hk8) ?_
    refine bindS (SharesTells_p _ _ _ _ (ok1 (ok hi8) k1 k1) okm (ok hk8) okl) (condF rfl ?_)
    refine bindS (SharesTells_p _ _ _ _ (ok1 (ok hi8) k1 k1) ⟨by simp [ok_ListUInt8], by simp [ok_ListUInt8], trivial⟩ (show InK .i64 2 by unfold InK; decide) ⟨by simp, by simp, by simp⟩) (condF rfl ?_)
    dsimp only
    rw [w64 (by omega)]
    rfl
  · unfold watershedlaw05_SharesEnds_l3
    exact condF rfl rfl
theorem endsL2 {s : DShares} : loopM watershedlaw05_SharesEnds_l2 (((), numsF, 0, ()), (s, (), ())) = some (.inr (((), ()), (s, (), ()))) := by
  refine loopM_run (step := watershedlaw05_SharesEnds_l2) (fun i : Nat => (((), numsF, (i : Int), ()), (s, (), ()))) (N := 8) (fun i hi => ?_) ?_
  · have hl : numsF.length = 8 := rfl
    unfold watershedlaw05_SharesEnds_l2
    refine condT (dT (by dsimp only; omega)) (bindS (endsL3 hi) ?_)
    dsimp only
    rw [w64 (by omega)]
    rfl
  · unfold watershedlaw05_SharesEnds_l2
    exact condF rfl rfl
theorem SharesEnds_p : watershedlaw05_SharesEnds = some (true, ()) := by
  unfold watershedlaw05_SharesEnds
  refine bindS awake_p (condF rfl ?_)
  refine bindS First_p (bindS endsL1 ?_)
  refine bindS (endsL2 (s := fullF 39)) ?_
  dsimp only
  rw [fullF_len]
  rfl
end Go.Proofs.YtnmimignbgdfgaaGreat
