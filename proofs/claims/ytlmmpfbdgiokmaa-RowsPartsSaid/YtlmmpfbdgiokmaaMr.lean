/- XLl, XRk, XRb, XRo in one. -/
import Derived.Test.YtlmmpfbdgiokmaaRa
import Derived.Test.YtlmmpfbdgiokmaaMw
import Derived.Test.YtlmmpfbdgiokmaaSpp
import Derived.Test.YtlmmpfbdgiokmaaG2
import Derived.Test.YtlmmpfbdgiokmaaCv
/- Rows that are lent, and kept (written by plain15.py). -/
namespace Go.Proofs.Ytlmmpfbdgiokmaa
open Go.RowKit
set_option maxRecDepth 100000
set_option linter.unusedVariables false
set_option linter.unusedSimpArgs false
def noRow : DRow := ⟨[], []⟩
theorem b8_w (n : Int) : ∃ u, b8 (IntKind.u8.wrap n) = some u := by
  have h : 0 ≤ IntKind.u8.wrap n ∧ IntKind.u8.wrap n < 256 := by rw [IntKind.wrap_u8]; omega
  exact ⟨_, b8_q h⟩
theorem mark_ex (x : Int) : ∃ t, watershedkit_markRow 1 x = some (t, ()) := by
  obtain ⟨u2, h2⟩ := b8_w 1
  obtain ⟨u3, h3⟩ := b8_w ((1 : Int).fdiv (2 ^ min (8 : Int).toNat (IntKind.i64.bits)))
  obtain ⟨u4, h4⟩ := b8_w ((1 : Int).fdiv (2 ^ min (16 : Int).toNat (IntKind.i64.bits)))
  obtain ⟨u6, h6⟩ := b8_w x
  obtain ⟨u7, h7⟩ := b8_w (x.fdiv (2 ^ min (8 : Int).toNat (IntKind.i64.bits)))
  obtain ⟨u8, h8⟩ := b8_w (x.fdiv (2 ^ min (16 : Int).toNat (IntKind.i64.bits)))
  unfold watershedkit_markRow watershedkit_markText
  exact ⟨_, bindS (bindS rfl (bindS h2 (bindS h3 (bindS h4 (bindS rfl (bindS h6 (bindS h7 (bindS h8 rfl)))))))) rfl⟩
noncomputable def mkT (j : Nat) : DRow := (mark_ex (j : Int)).choose
theorem mark_p (j : Nat) : watershedkit_markRow 1 (j : Int) = some (mkT j, ()) := (mark_ex (j : Int)).choose_spec
noncomputable def marks (j : Nat) : List DRow := (List.range j).map mkT
theorem marks_len (j : Nat) : (marks j).length = j := by simp [marks]
theorem marks_succ (j : Nat) : marks (j + 1) = marks j ++ [mkT j] := by simp [marks, List.range_succ]
theorem marks_get {j n : Nat} (h : j < n) : (marks n)[j]? = some (mkT j) := by simp [marks, h]
theorem Lent_p {l : List DRow} (hn : l.length ≤ 1200) : watershedkit_LentLines_x l = some ((l, marks 12), ()) := by
  have hw : IntKind.i64.wrap ((l.length : Int) + 12) = ((l.length + 12 : Nat) : Int) := by rw [w64 (by omega)]; rfl
  have hloop : loopM watershedkit_LentLines_l1 ((l, (0, l.length, l.length + 12), 0, ()), (l ++ List.replicate 12 noRow, ())) = some ((l, (0, l.length + 12, l.length + 12), ()), (l ++ marks 12, ())) := by
    refine loopM_run (step := watershedkit_LentLines_l1) (fun j : Nat => ((l, (0, l.length + j, l.length + 12), (j : Int), ()), (l ++ (marks j ++ List.replicate (12 - j) noRow), ()))) (N := 12) (fun j hj => ?_) ?_
    · have hml := marks_len j
      unfold watershedkit_LentLines_l1
      refine condT (dT (by dsimp only; omega)) (bindS (mark_p j) ?_)
      dsimp only
      simp only [List.length_singleton, Nat.zero_add]
      refine iteT (by simp only [List.length_append, List.length_replicate, hml]; omega) ?_
      refine iteT (by omega) ?_
      rw [w64 (by omega)]
      have e1 : (l ++ (marks j ++ List.replicate (12 - j) noRow)).take (l.length + j) = l ++ marks j := by
        rw [← List.append_assoc]
        exact List.take_left' (by rw [List.length_append, hml])
      have e2 : (l ++ (marks j ++ List.replicate (12 - j) noRow)).drop (l.length + j + 1) = List.replicate (12 - (j + 1)) noRow := by
        rw [← List.append_assoc, List.drop_append, List.drop_of_length_le (by rw [List.length_append, hml]; omega), List.nil_append, List.drop_replicate, List.length_append, hml]
        congr 1
        omega
      rw [e1, e2, marks_succ]
      simp only [List.append_assoc, Nat.add_assoc]
      rfl
    · unfold watershedkit_LentLines_l1
      exact condF (dF (by dsimp only; omega)) rfl
  have hL : watershedkit_LentLines l = some ((0, l.length, l.length + 12), (l ++ marks 12, ())) := by
    unfold watershedkit_LentLines
    simp only [hw, Int.toNat_natCast, Int.toNat_zero, Nat.zero_add, List.take_zero, List.nil_append, Nat.add_zero, Nat.sub_zero, List.length_replicate, List.drop_replicate, Nat.add_sub_cancel_left]
    refine iteT (by omega) ?_
    refine iteT (by omega) ?_
    refine iteT (by omega) ?_
    refine bindS hloop ?_
    dsimp only
    refine iteT (by omega) ?_
    simp
  unfold watershedkit_LentLines_x
  refine bindS hL ?_
  dsimp only
  refine iteT ⟨rfl, by rw [List.length_append]; omega, by rw [List.length_append, marks_len]; omega⟩ ?_
  rw [List.take_left, List.drop_left]
theorem Kept_p {l : List DRow} (hn : l.length ≤ 1200) : watershedkit_KeptLines (l, marks 12) l = some (true, ()) := by
  have hw : IntKind.i64.wrap ((l.length : Int) + 12) = ((l.length + 12 : Nat) : Int) := by rw [w64 (by omega)]; rfl
  have hml := marks_len 12
  have hloop : loopM watershedkit_KeptLines_l1 ((l, l ++ marks 12, 0, ()), ()) = some (.inr ((), ())) := by
    refine loopM_run (step := watershedkit_KeptLines_l1) (fun j : Nat => ((l, l ++ marks 12, (j : Int), ()), ())) (N := l.length + 12) (fun j hj => ?_) ?_
    · unfold watershedkit_KeptLines_l1
      refine condT (dT (by dsimp only; rw [List.length_append]; omega)) ?_
      by_cases hjl : j < l.length
      · refine condT (dT (by dsimp only; omega)) ?_
        refine bindS (v := l[j]) (by dsimp only; rw [getI_nat, List.getElem?_append_left hjl, List.getElem?_eq_getElem hjl]) ?_
        refine bindS (getI_lt hjl) ?_
        refine condF (by simp) ?_
        refine condF (dF (by dsimp only; omega)) ?_
        dsimp only
        rw [w64 (by omega)]
        rfl
      · refine condF (dF (by dsimp only; omega)) ?_
        refine condT (dT (by dsimp only; omega)) ?_
        refine bindS (v := mkT (j - l.length)) (by dsimp only; rw [getI_nat, List.getElem?_append_right (by omega)]; exact marks_get (by omega)) ?_
        refine bindS (v := (mkT (j - l.length), ())) (by
          dsimp only
          rw [w64 (by omega), show (j : Int) - (l.length : Int) = ((j - l.length : Nat) : Int) from by omega]
          exact mark_p _) ?_
        refine condF (by simp) ?_
        dsimp only
        rw [w64 (by omega)]
        rfl
    · unfold watershedkit_KeptLines_l1
      exact condF (dF (by dsimp only; rw [List.length_append]; omega)) rfl
  unfold watershedkit_KeptLines
  refine condF (dF (by simp)) ?_
  simp only [hw, Int.toNat_natCast, Int.toNat_zero, List.drop_zero, Nat.sub_zero]
  refine iteT (by rw [List.length_append, hml]; omega) ?_
  rw [List.take_of_length_le (by rw [List.length_append, hml]; omega)]
  exact bindS hloop rfl
end Go.Proofs.Ytlmmpfbdgiokmaa
/- The key of the reference of chapter 04, plainly (written by plain15.py). -/
namespace Go.Proofs.Ytlmmpfbdgiokmaa
open Go.RowKit
set_option maxRecDepth 100000
set_option linter.unusedVariables false
set_option linter.unusedSimpArgs false
theorem refKey_p {s : Tx} (h : OkT s) : watershedref04_Key s = some (keyB s, ()) := by
  unfold OkT at h
  unfold watershedref04_Key keyB
  by_cases h1 : s = []
  · subst h1; rfl
  have h0 : 0 < s.length := List.length_pos_iff.2 h1
  rw [dF (by omega), cond_false, dF h1]
  by_cases h2 : s.length ≤ 20
  · have key : loopM watershedref04_Key_l1 ((s, 0, ()), ()) = some (if s.all charB then .inr ((), ()) else .inl ((false, ()), ())) := by
      refine loopM_eq_of (fun n a => ∃ i : Nat, a = ((s, (i : Int), ()), ()) ∧ i ≤ s.length ∧ (s.drop i).all charB = s.all charB ∧ n = s.length - i) _ ?_ (n := s.length) ⟨0, rfl, Nat.zero_le _, rfl, rfl⟩
      rintro n a ⟨i, rfl, g1, g2, rfl⟩
      unfold watershedref04_Key_l1
      dsimp only
      by_cases hi : i < s.length
      · rw [List.drop_eq_getElem_cons hi, List.all_cons] at g2
        simp only [getI_lt hi, Option.bind_some]
        rw [dT (by omega), cond_true, w64 (by omega)]
        cases hc : charB s[i]
        · right
          rw [hc] at g2
          rw [← g2]
          unfold charB at hc
          by_cases q1 : (97 : Int) ≤ (s[i].toNat : Int) <;> by_cases q2 : (s[i].toNat : Int) ≤ 122 <;> by_cases q3 : (48 : Int) ≤ (s[i].toNat : Int) <;> by_cases q4 : (s[i].toNat : Int) ≤ 57 <;> simp [q1, q2, q3, q4] at hc ⊢
        · left
          rw [hc, Bool.true_and] at g2
          refine ⟨s.length - (i + 1), _, by omega, ?_, i + 1, rfl, by omega, g2, rfl⟩
          unfold charB at hc
          by_cases q1 : (97 : Int) ≤ (s[i].toNat : Int) <;> by_cases q2 : (s[i].toNat : Int) ≤ 122 <;> by_cases q3 : (48 : Int) ≤ (s[i].toNat : Int) <;> by_cases q4 : (s[i].toNat : Int) ≤ 57 <;> simp [q1, q2, q3, q4] at hc ⊢
      · right
        obtain rfl : i = s.length := by omega
        rw [dF (by omega), cond_false, ← g2, List.drop_length]
        rfl
    rw [dF (by omega), cond_false, key, dT h2]
    cases s.all charB <;> rfl
  · rw [dT (by omega), cond_true, dF h2]
    simp
end Go.Proofs.Ytlmmpfbdgiokmaa
/- RowsBytes, plainly. -/
namespace Go.Proofs.Ytlmmpfbdgiokmaa
open Go.RowKit
set_option maxRecDepth 100000
set_option linter.unusedVariables false
set_option linter.unusedSimpArgs false
/-- How much rows weigh. -/
def wgt : List DRow → Nat
  | [] => 0
  | r :: l => 1 + r.key.length / 8 + r.value.length / 8 + wgt l
theorem wgt_snoc : ∀ (l : List DRow) (r : DRow), wgt (l ++ [r]) = wgt l + (1 + r.key.length / 8 + r.value.length / 8)
  | [], r => by simp [wgt]
  | x :: l, r => by
    have := wgt_snoc l r
    simp only [List.cons_append, wgt, this]; omega
theorem LinesOf_p {l : List DRow} (hl : l.length ≤ 140737488355328) (hx : ∀ r ∈ l, OkT r.key ∧ OkT r.value) : ∃ n : Int, watershedkit_LinesOf l 1200 = some (n, ()) ∧ (n ≤ 1200 → wgt l ≤ 1200) := by
  have key : ∃ z, loopM watershedkit_LinesOf_l1 ((l, 1200, 0, 0, ()), ()) = some z ∧ ∃ n : Int, z = ((n, ()), ()) ∧ (n ≤ 1200 → wgt l ≤ 1200) := by
    refine loopM_spec (fun m a => ∃ i : Nat, a = ((l, 1200, ((wgt (l.take i) : Nat) : Int), (i : Int), ()), ()) ∧ i ≤ l.length ∧ wgt (l.take i) ≤ 1200 + 2 * 17592186044416 + 1 ∧ m = l.length - i) _ ?_ (n := l.length) ⟨0, by simp [wgt], Nat.zero_le _, by simp [wgt], rfl⟩
    rintro m a ⟨i, rfl, h1, h2, rfl⟩
    unfold watershedkit_LinesOf_l1
    by_cases hi : i < l.length
    · by_cases hn : wgt (l.take i) ≤ 1200
      · left
        have h3 := hx _ (List.getElem_mem hi)
        unfold OkT at h3
        have hs := wgt_snoc (l.take i) l[i]
        rw [← List.take_succ_eq_append_getElem hi] at hs
        have d1 : IntKind.i64.wrap ((l[i].key.length : Int).tdiv 8) = ((l[i].key.length / 8 : Nat) : Int) := by
          rw [Int.tdiv_eq_ediv_of_nonneg (by omega), w64 (by omega)]; omega
        have d2 : IntKind.i64.wrap ((l[i].value.length : Int).tdiv 8) = ((l[i].value.length / 8 : Nat) : Int) := by
          rw [Int.tdiv_eq_ediv_of_nonneg (by omega), w64 (by omega)]; omega
        refine ⟨l.length - (i + 1), _, by omega, condT (dT (by dsimp only; omega)) (condT (dT (by dsimp only; omega)) (bindS (getI_lt hi) (bindS (getI_lt hi) rfl))), i + 1, ?_, by omega, by omega, rfl⟩
        dsimp only
        rw [d1, d2, w64 (n := ((wgt (l.take i) : Nat) : Int) + 1) (by omega), w64 (n := ((wgt (l.take i) : Nat) : Int) + 1 + _) (by omega), w64 (n := ((wgt (l.take i) : Nat) : Int) + 1 + _ + _) (by omega), w64 (n := (i : Int) + 1) (by omega), hs]
        congr 3
        have : (((wgt (l.take i) + (1 + l[i].key.length / 8 + l[i].value.length / 8) : Nat)) : Int) = ((wgt (l.take i) : Nat) : Int) + 1 + ((l[i].key.length / 8 : Nat) : Int) + ((l[i].value.length / 8 : Nat) : Int) := by omega
        rw [this]
        rfl
      · right
        exact ⟨_, condT (dT (by dsimp only; omega)) (condF (dF (by dsimp only; omega)) rfl), _, rfl, fun h => by dsimp only at h; omega⟩
    · right
      obtain rfl : i = l.length := by omega
      refine ⟨_, condF (dF (by dsimp only; omega)) rfl, _, rfl, fun h => ?_⟩
      dsimp only at h
      rw [List.take_length] at h
      omega
  obtain ⟨z, hz, n, rfl, hn⟩ := key
  exact ⟨n, by unfold watershedkit_LinesOf; exact bindS hz rfl, hn⟩
theorem wgt_len : ∀ l : List DRow, l.length ≤ wgt l
  | [] => Nat.le_refl _
  | r :: l => by have := wgt_len l; simp only [List.length_cons, wgt]; omega
theorem wgt_mem : ∀ {l : List DRow} {r : DRow}, r ∈ l → r.key.length ≤ 8 * wgt l ∧ r.value.length ≤ 8 * wgt l
  | x :: l, r, h => by
    rcases List.mem_cons.1 h with rfl | h
    · simp only [wgt]; omega
    · have := wgt_mem h
      simp only [wgt]; omega
def rowB (r : DRow) : List UInt8 := rowF r.key ++ rowF r.value
def bodyB (l : List DRow) : List UInt8 := (l.map rowB).flatten
theorem bodyB_snoc (l : List DRow) (r : DRow) : bodyB (l ++ [r]) = bodyB l ++ rowB r := by simp [bodyB]
def bytesB (l : List DRow) : List UInt8 := numF l.length ++ bodyB l
theorem rowF_len {t : List UInt8} (h : t.length ≤ 1000000) : (rowF t).length ≤ t.length + 9 := by
  have := numF_len9 (n := t.length) (by omega)
  unfold rowF
  rw [List.length_append]; omega
theorem bodyB_len : ∀ (l : List DRow), wgt l ≤ 1200 → (bodyB l).length ≤ 32 * wgt l
  | [], _ => by simp [bodyB]
  | r :: l, h => by
    have hm := wgt_mem (l := r :: l) (r := r) List.mem_cons_self
    have h1 := rowF_len (t := r.key) (by omega)
    have h2 := rowF_len (t := r.value) (by omega)
    simp only [wgt] at h ⊢
    have ih := bodyB_len l (by omega)
    have : bodyB (r :: l) = rowF r.key ++ rowF r.value ++ bodyB l := by simp [bodyB, rowB]
    rw [this, List.length_append, List.length_append]; omega
theorem bodyB_take (l : List DRow) (h : wgt l ≤ 1200) (i : Nat) : (bodyB (l.take i)).length ≤ 38400 := by
  have h1 : wgt (l.take i) ≤ wgt l := by
    clear h
    induction l generalizing i with
    | nil => simp [wgt]
    | cons r l ih =>
      cases i with
      | zero => simp [wgt]
      | succ i => simp only [List.take_succ_cons, wgt]; have := ih i; omega
  have := bodyB_len (l.take i) (by omega)
  omega
theorem Write_p {l : List DRow} (h : wgt l ≤ 1200) : rows_Write l (true, false, [], ()) = some ((), ((true, false, bytesB l, ()), (), (), ())) := by
  have hlen := wgt_len l
  have hg : [(l.length : Int)].all goodB = true := by
    simp only [List.all_cons, List.all_nil, Bool.and_true]
    exact goodB_iff.2 (by omega)
  have hn := Numbers_p (xs := [(l.length : Int)]) (sp := false) (b := []) (by simp) (by simp)
  rw [numsW_good _ _ _ hg] at hn
  have hc : catN [(l.length : Int)] = numF l.length := by simp [catN]
  rw [List.nil_append, hc] at hn
  have h9 := numF_len9 (n := l.length) (by omega)
  unfold rows_Write
  refine bindS hn ?_
  have hrun := loopM_run (step := rows_Write_l1) (fun i : Nat => (((), l, (l.length : Int), (i : Int), ()), ((true, false, numF l.length ++ bodyB (l.take i), ()), (), ()))) (N := l.length) (b := (((), ()), ((true, false, bytesB l, ()), (), (), ()))) (fun i hi => ?_) ?_
  · have e0 : numF l.length ++ bodyB (l.take 0) = numF l.length := by simp [bodyB]
    rw [e0] at hrun
    exact bindS hrun rfl
  · have hm := wgt_mem (List.getElem_mem hi)
    have ht := bodyB_take l h i
    unfold rows_Write_l1
    refine condT (dT (by dsimp only; omega)) (bindS (getI_lt hi) (bindS (Texts2_p (by omega) (by omega) (by rw [List.length_append]; omega)) ?_))
    dsimp only
    rw [w64 (by omega), List.take_succ_eq_append_getElem hi, bodyB_snoc]
    simp only [rowB, List.append_assoc]
    rfl
  · unfold rows_Write_l1
    refine condF (dF (by dsimp only; omega)) ?_
    dsimp only
    rw [List.take_length]
    rfl
theorem refBytes_p {l : List DRow} (h : wgt l ≤ 1200) : watershedref15_Bytes l = some (bytesB l, ((), ())) := by
  have hlen := wgt_len l
  have hg : [(l.length : Int)].all goodB = true := by
    simp only [List.all_cons, List.all_nil, Bool.and_true]
    exact goodB_iff.2 (by omega)
  have hn := refWriteN_p (xs := [(l.length : Int)]) (by simp)
  rw [if_pos hg] at hn
  have hc : catN [(l.length : Int)] = numF l.length := by simp [catN]
  rw [hc] at hn
  have h9 := numF_len9 (n := l.length) (by omega)
  unfold watershedref15_Bytes
  refine bindS hn ?_
  have hrun := loopM_run (step := watershedref15_Bytes_l1) (fun i : Nat => ((l, numF l.length ++ bodyB (l.take i), (i : Int), ()), ((), ()))) (N := l.length) (b := ((bytesB l, ()), ((), (), ()))) (fun i hi => ?_) ?_
  · have e0 : numF l.length ++ bodyB (l.take 0) = numF l.length := by simp [bodyB]
    rw [e0] at hrun
    exact bindS hrun rfl
  · have hm := wgt_mem (List.getElem_mem hi)
    have ht := bodyB_take l h i
    have h1 := rowF_len (t := l[i].key) (by omega)
    have h2 := rowF_len (t := l[i].value) (by omega)
    unfold watershedref15_Bytes_l1
    refine condT (dT (by dsimp only; omega)) (bindS (getI_lt hi) (bindS (getI_lt hi) (bindS (refWriteT_p (by omega) (by omega)) (iteT (by dsimp only; simp only [List.length_append]; omega) ?_))))
    dsimp only
    rw [w64 (by omega), List.take_succ_eq_append_getElem hi, bodyB_snoc]
    simp only [rowB, List.append_assoc]
    rfl
  · unfold watershedref15_Bytes_l1
    refine condF (dF (by dsimp only; omega)) ?_
    dsimp only
    rw [List.take_length]
    rfl
theorem sameBytes_p (l : List UInt8) (hl : l.length ≤ 140737488355328) : watershedkit_SameBytes l l = some (true, ()) := by
  have hrun := loopM_run (step := watershedkit_SameBytes_l1) (fun i : Nat => ((l, l, (i : Int), ()), ())) (N := l.length) (b := .inr ((), ())) (fun i hi => ?_) ?_
  · unfold watershedkit_SameBytes
    exact condF (by simp) (bindS hrun rfl)
  · unfold watershedkit_SameBytes_l1
    refine condT (dT (by dsimp only; omega)) (bindS (getI_lt hi) (bindS (getI_lt hi) (condF (by simp) ?_)))
    dsimp only
    rw [w64 (by omega)]
    rfl
  · unfold watershedkit_SameBytes_l1
    exact condF (dF (by dsimp only; omega)) rfl
/-- Rows, read. -/
def goodR (out : List DRow) (x : DRow) : Bool := rightR x && match out.getLast? with
  | some y => decide (y.key < x.key)
  | none => true
def readN : Nat → List DRow → Option (List UInt8) → Option (List DRow × Option (List UInt8))
  | 0, out, o => some (out, o)
  | k + 1, out, o =>
    let x : DRow := ⟨(rowO 20 o).1, (rowO 20 (rowO 20 o).2).1⟩
    if ((rowO 20 (rowO 20 o).2).2.isSome && goodR out x) = true then readN k (out ++ [x]) (rowO 20 (rowO 20 o).2).2 else none
theorem rowO_small {most : Nat} {o : Option (List UInt8)} : (rowO most o).1.length ≤ most := by
  unfold rowO
  cases h : (numO most o).2 with
  | none => exact Nat.zero_le _
  | some l =>
    have := numO_le h
    dsimp only
    split
    · exact Nat.zero_le _
    · dsimp only
      rw [List.length_take]; omega
theorem failed_p (o : Option (List UInt8)) : rows_Read1 ((), ()) (rdR o) = some (o.isNone, (((), ()), rdR o, ())) := by
  unfold rows_Read1
  cases o with
  | none => exact bindS (v := (0, (rdR none, ()))) rfl (condT rfl (bindS (v := (4, (rdR none, ()))) rfl rfl))
  | some l =>
    refine bindS (v := ((l.length : Int), (rdR (some l), ()))) rfl ?_
    cases l with
    | nil => exact condT rfl (bindS (v := (0, (rdR (some []), ()))) rfl rfl)
    | cons b l => exact condF (dF (by simp only [List.length_cons]; omega)) rfl
theorem one_p (o : Option (List UInt8)) : rows_Read2 ((), ()) ((), ()) (rdR o) = some (((⟨(rowO 20 o).1, (rowO 20 (rowO 20 o).2).1⟩ : DRow), (rowO 20 (rowO 20 o).2).2.isSome && rightR ⟨(rowO 20 o).1, (rowO 20 (rowO 20 o).2).1⟩, ()), (((), ()), ((), ()), rdR (rowO 20 (rowO 20 o).2).2, ())) := by
  have h1 : (rowO 20 o).1.length ≤ 20 := rowO_small
  have hr := right_r (x := ⟨(rowO 20 o).1, (rowO 20 (rowO 20 o).2).1⟩) (by unfold OkT; dsimp only; omega)
  unfold rows_Read2
  refine bindS (Text_p 20 (by omega) _) (bindS (Text_p 20 (by omega) _) (bindS (failed_p _) ?_))
  dsimp only
  cases h : (rowO 20 (rowO 20 o).2).2 with
  | none => exact condF rfl rfl
  | some l => exact condT rfl (bindS hr rfl)
theorem last_get {out : List DRow} (h : 0 < out.length) (hl : out.length ≤ 1000) : ∃ y, out.getLast? = some y ∧ getI out (IntKind.i64.wrap ((out.length : Int) - 1)) = some y := by
  refine ⟨out[out.length - 1], ?_, ?_⟩
  · rw [List.getLast?_eq_getElem?, List.getElem?_eq_getElem (by omega)]
  · rw [w64 (by omega), show (out.length : Int) - 1 = ((out.length - 1 : Nat) : Int) by omega]
    exact getI_lt (by omega)
theorem readLoop_p {n : Nat} (hn : n ≤ 400) (o : Option (List UInt8)) : ∃ z, loopM rows_read_l1 (((), [], (n : Int), 0, ()), (((), ()), ((), ()), rdR o, (), ())) = some z ∧ match readN n [] o with
    | some (l, o') => z = .inr ((l, ()), (((), ()), ((), ()), rdR o', (), (), ()))
    | none => ∃ o', z = .inl (((), false, ()), (((), ()), ((), ()), rdR o', (), ())) := by
  refine loopM_spec (fun m a => ∃ (i : Nat) (out : List DRow) (q : Option (List UInt8)), a = (((), out, (n : Int), (i : Int), ()), (((), ()), ((), ()), rdR q, (), ())) ∧ i ≤ n ∧ out.length = i ∧ m = n - i ∧ readN n [] o = readN (n - i) out q) _ ?_ (n := n) ⟨0, [], o, rfl, Nat.zero_le _, rfl, rfl, rfl⟩
  rintro m a ⟨i, out, q, rfl, h1, h2, rfl, h3⟩
  unfold rows_read_l1
  by_cases hi : i < n
  · have hk : readN (n - i) out q = if ((rowO 20 (rowO 20 q).2).2.isSome && goodR out ⟨(rowO 20 q).1, (rowO 20 (rowO 20 q).2).1⟩) = true then readN (n - (i + 1)) (out ++ [⟨(rowO 20 q).1, (rowO 20 (rowO 20 q).2).1⟩]) (rowO 20 (rowO 20 q).2).2 else none := by
      rw [show n - i = (n - (i + 1)) + 1 by omega]; rfl
    have hp := one_p q
    generalize (⟨(rowO 20 q).1, (rowO 20 (rowO 20 q).2).1⟩ : DRow) = x at *
    generalize (rowO 20 (rowO 20 q).2).2 = q2 at *
    cases hs : (q2.isSome && rightR x) with
    | false =>
      right
      rw [hs] at hp
      have hno : ¬ (q2.isSome && goodR out x) = true := by
        unfold goodR
        cases hq : q2.isSome with
        | false => simp
        | true => rw [hq, Bool.true_and] at hs; rw [hs]; simp
      rw [h3, hk, if_neg hno]
      exact ⟨_, condT (dT (by dsimp only; omega)) (bindS hp (condT rfl rfl)), _, rfl⟩
    | true =>
      rw [hs] at hp
      rw [Bool.and_eq_true] at hs
      by_cases h0 : 0 < out.length
      · obtain ⟨y, y1, y2⟩ := last_get h0 (by omega)
        have hgood : (q2.isSome && goodR out x) = decide (y.key < x.key) := by
          unfold goodR; rw [hs.1, hs.2, y1]; simp
        by_cases hlt : y.key < x.key
        · left
          refine ⟨n - (i + 1), (((), out ++ [x], (n : Int), ((i + 1 : Nat) : Int), ()), (((), ()), ((), ()), rdR q2, (), ())), by omega, condT (dT (by dsimp only; omega)) (bindS hp (condF rfl (condT (dT (by dsimp only; omega)) (bindS y2 (condF (by simp [hlt]) (iteT (by simp only [List.length_singleton]; omega) ?_)))))), i + 1, _, _, rfl, by omega, by rw [List.length_append]; simp; omega, rfl, ?_⟩
          · dsimp only
            rw [w64 (by omega)]; rfl
          · rw [h3, hk, hgood, dT hlt, if_pos rfl]
        · right
          rw [h3, hk, hgood, dF hlt, if_neg Bool.false_ne_true]
          exact ⟨_, condT (dT (by dsimp only; omega)) (bindS hp (condF rfl (condT (dT (by dsimp only; omega)) (bindS y2 (condT (by simp [hlt]) rfl))))), _, rfl⟩
      · left
        have hnil : out = [] := List.eq_nil_of_length_eq_zero (by omega)
        have hgood : (q2.isSome && goodR out x) = true := by
          unfold goodR; rw [hs.1, hs.2, hnil]; rfl
        refine ⟨n - (i + 1), (((), out ++ [x], (n : Int), ((i + 1 : Nat) : Int), ()), (((), ()), ((), ()), rdR q2, (), ())), by omega, condT (dT (by dsimp only; omega)) (bindS hp (condF rfl (condF (dF (by dsimp only; omega)) (iteT (by simp only [List.length_singleton]; omega) ?_)))), i + 1, _, _, rfl, by omega, by rw [List.length_append]; simp; omega, rfl, ?_⟩
        · dsimp only
          rw [w64 (by omega)]; rfl
        · rw [h3, hk, if_pos hgood]
  · right
    obtain rfl : i = n := by omega
    rw [h3, Nat.sub_self]
    exact ⟨_, condF (dF (by dsimp only; omega)) rfl, rfl⟩
theorem refRight_r {x : DRow} (hx : OkT x.key) : watershedref15_Right x = some (rightR x, ()) := by
  unfold watershedref15_Right rightR
  refine bindS (refKey_p hx) ?_
  cases keyB x.key with
  | true =>
    refine condT rfl ?_
    have : decide ((x.value.length : Int) ≤ 20) = decide (x.value.length ≤ 20) := by
      by_cases h : x.value.length ≤ 20
      · rw [dT h, dT (by omega)]
      · rw [dF h, dF (by omega)]
    rw [this]; rfl
  | false => exact condF rfl rfl
theorem refLoop_p {n : Nat} (hn : n ≤ 400) {o : Option (List UInt8)} (ho : okL o) : ∃ z, loopM watershedref15_Read_l1 (((), (n : Int), [], 0, ()), (rfR o, (), ())) = some z ∧ match readN n [] o with
    | some (l, o') => z = .inr (((), l, ()), (rfR o', (), (), ()))
    | none => ∃ o', z = .inl (((), false, ()), (rfR o', (), ())) := by
  refine loopM_spec (fun m a => ∃ (i : Nat) (out : List DRow) (q : Option (List UInt8)), a = (((), (n : Int), out, (i : Int), ()), (rfR q, (), ())) ∧ okL q ∧ i ≤ n ∧ out.length = i ∧ m = n - i ∧ readN n [] o = readN (n - i) out q) _ ?_ (n := n) ⟨0, [], o, rfl, ho, Nat.zero_le _, rfl, rfl, rfl⟩
  rintro m a ⟨i, out, q, rfl, hq, h1, h2, rfl, h3⟩
  unfold watershedref15_Read_l1
  by_cases hi : i < n
  · have hk : readN (n - i) out q = if ((rowO 20 (rowO 20 q).2).2.isSome && goodR out ⟨(rowO 20 q).1, (rowO 20 (rowO 20 q).2).1⟩) = true then readN (n - (i + 1)) (out ++ [⟨(rowO 20 q).1, (rowO 20 (rowO 20 q).2).1⟩]) (rowO 20 (rowO 20 q).2).2 else none := by
      rw [show n - i = (n - (i + 1)) + 1 by omega]; rfl
    have k1 := rowO_ok (most := 20) hq
    have k2 := rowO_ok (most := 20) k1
    have hp1 := refRow2_p 20 (by omega) hq
    have hp2 := refRow2_p 20 (by omega) k1
    have hlen : (rowO 20 q).1.length ≤ 20 := rowO_small
    have hr := refRight_r (x := ⟨(rowO 20 q).1, (rowO 20 (rowO 20 q).2).1⟩) (by unfold OkT; dsimp only; omega)
    cases hs : (rowO 20 (rowO 20 q).2).2 with
    | none =>
      right
      rw [hs] at hp2
      rw [h3, hk, hs, if_neg (by simp)]
      exact ⟨_, condT (dT (by dsimp only; omega)) (bindS hp1 (bindS hp2 (condT rfl rfl))), none, rfl⟩
    | some l2 =>
      rw [hs] at hp2 k2
      cases hrr : rightR ⟨(rowO 20 q).1, (rowO 20 (rowO 20 q).2).1⟩ with
      | false =>
        right
        rw [hrr] at hr
        rw [h3, hk, hs, if_neg (by unfold goodR; rw [hrr]; simp)]
        exact ⟨_, condT (dT (by dsimp only; omega)) (bindS hp1 (bindS hp2 (condF rfl (bindS hr (condT rfl rfl))))), some l2, rfl⟩
      | true =>
        rw [hrr] at hr
        by_cases h0 : 0 < out.length
        · obtain ⟨y, y1, y2⟩ := last_get h0 (by omega)
          rw [h2] at y2
          have hgood : ((some l2).isSome && goodR out ⟨(rowO 20 q).1, (rowO 20 (rowO 20 q).2).1⟩) = decide (y.key < (rowO 20 q).1) := by
            unfold goodR; rw [hrr, y1]; simp
          by_cases hlt : y.key < (rowO 20 q).1
          · left
            refine ⟨n - (i + 1), (((), (n : Int), out ++ [⟨(rowO 20 q).1, (rowO 20 (rowO 20 q).2).1⟩], ((i + 1 : Nat) : Int), ()), (rfR (some l2), (), ())), by omega, condT (dT (by dsimp only; omega)) (bindS hp1 (bindS hp2 (condF rfl (bindS hr (condF rfl (condT (dT (by dsimp only; omega)) (bindS y2 (condF (by simp [hlt]) (iteT (by simp only [List.length_singleton]; omega) ?_))))))))), i + 1, _, _, rfl, k2, by omega, by rw [List.length_append]; simp; omega, rfl, ?_⟩
            · dsimp only
              rw [w64 (by omega)]; rfl
            · rw [h3, hk, hs, hgood, dT hlt, if_pos rfl]
          · right
            rw [h3, hk, hs, hgood, dF hlt, if_neg Bool.false_ne_true]
            exact ⟨_, condT (dT (by dsimp only; omega)) (bindS hp1 (bindS hp2 (condF rfl (bindS hr (condF rfl (condT (dT (by dsimp only; omega)) (bindS y2 (condT (by simp [hlt]) rfl)))))))), some l2, rfl⟩
        · left
          have hnil : out = [] := List.eq_nil_of_length_eq_zero (by omega)
          have hgood : ((some l2).isSome && goodR out ⟨(rowO 20 q).1, (rowO 20 (rowO 20 q).2).1⟩) = true := by
            unfold goodR; rw [hrr, hnil]; rfl
          refine ⟨n - (i + 1), (((), (n : Int), out ++ [⟨(rowO 20 q).1, (rowO 20 (rowO 20 q).2).1⟩], ((i + 1 : Nat) : Int), ()), (rfR (some l2), (), ())), by omega, condT (dT (by dsimp only; omega)) (bindS hp1 (bindS hp2 (condF rfl (bindS hr (condF rfl (condF (dF (by dsimp only; omega)) (iteT (by simp only [List.length_singleton]; omega) ?_))))))), i + 1, _, _, rfl, k2, by omega, by rw [List.length_append]; simp; omega, rfl, ?_⟩
          · dsimp only
            rw [w64 (by omega)]; rfl
          · rw [h3, hk, hs, if_pos hgood]
  · right
    obtain rfl : i = n := by omega
    rw [h3, Nat.sub_self]
    exact ⟨_, condF (dF (by dsimp only; omega)) rfl, rfl⟩
/-- What is read: rows, and what is left. -/
def readR (l : List UInt8) : Option (List DRow × Option (List UInt8)) := match (numO 400 (some l)).2 with
  | none => none
  | some r => readN (numO 400 (some l)).1.toNat [] (some r)
theorem readN_some : ∀ (k : Nat) (out : List DRow) (r : List UInt8) {l : List DRow} {o : Option (List UInt8)}, readN k out (some r) = some (l, o) → ∃ r', o = some r'
  | 0, out, r, l, o, h => by
    injection h with h
    injection h with h1 h2
    exact ⟨r, h2.symm⟩
  | k + 1, out, r, l, o, h => by
    unfold readN at h
    dsimp only at h
    split at h
    · rename_i hc
      rw [Bool.and_eq_true] at hc
      obtain ⟨r', hr⟩ := Option.isSome_iff_exists.1 hc.1
      rw [hr] at h
      exact readN_some k _ r' h
    · cases h
theorem Read_p (l : List UInt8) : ∃ o, rows_Read (true, false, l, ()) = some ((match readR l with | some p => (p.1, true, ()) | none => ([], false, ())), (rdR o, (), (), ())) ∧ ∀ p, readR l = some p → o = p.2 := by
  have hn := Num1_p 400 l
  unfold rows_Read readR
  cases h : (numO 400 (some l)).2 with
  | none =>
    rw [h] at hn
    exact ⟨none, bindS hn (bindS (failed_p none) (condT rfl rfl)), fun p hp => by cases hp⟩
  | some r =>
    rw [h] at hn
    obtain ⟨h1, h2⟩ := numO_le h
    obtain ⟨n, hn'⟩ : ∃ n : Nat, (numO 400 (some l)).1 = (n : Int) := ⟨(numO 400 (some l)).1.toNat, by omega⟩
    rw [hn', Int.toNat_natCast]
    rw [hn'] at hn
    obtain ⟨z, hz, hm⟩ := readLoop_p (n := n) (by omega) (some r)
    dsimp only
    cases hr : readN n [] (some r) with
    | none =>
      rw [hr] at hm
      obtain ⟨o', rfl⟩ := hm
      refine ⟨o', bindS hn (bindS (failed_p (some r)) (condF rfl (bindS (v := (([], false, ()), (((), ()), ((), ()), rdR o', (), ()))) (by unfold rows_read; exact bindS hz rfl) rfl))), fun p hp => by cases hp⟩
    | some p =>
      obtain ⟨l', o'⟩ := p
      rw [hr] at hm
      dsimp only at hm
      subst hm
      refine ⟨o', bindS hn (bindS (failed_p (some r)) (condF rfl (bindS (v := ((l', true, ()), (((), ()), ((), ()), rdR o', (), ()))) (by unfold rows_read; exact bindS hz rfl) rfl))), fun p hp => by injection hp with hp; subst hp; rfl⟩
theorem refRead_p {l : List UInt8} (hl : l.length ≤ 140737488355328) : ∃ o, watershedref15_Read ⟨l, false⟩ = some ((match readR l with | some p => (p.1, true, ()) | none => ([], false, ())), (rfR o, (), ())) ∧ ∀ p, readR l = some p → o = p.2 := by
  have k0 : okL (some l) := hl
  have k1 := numO_ok (most := 400) k0
  have hn := refNum2_p 400 k0
  unfold watershedref15_Read readR
  cases h : (numO 400 (some l)).2 with
  | none =>
    rw [h] at hn
    have hz : (numO 400 (some l)).1 = 0 := by
      unfold numO at h ⊢
      dsimp only at h ⊢
      cases hq : numR 400 l with
      | none => rfl
      | some p => rw [hq] at h; cases h
    rw [hz] at hn
    obtain ⟨z, hzz, hm⟩ := refLoop_p (n := 0) (by omega) (o := none) trivial
    change z = _ at hm
    subst hm
    exact ⟨none, bindS hn (bindS hzz (condT rfl rfl)), fun p hp => by cases hp⟩
  | some r =>
    rw [h] at hn k1
    obtain ⟨h1, h2⟩ := numO_le h
    obtain ⟨n, hn'⟩ : ∃ n : Nat, (numO 400 (some l)).1 = (n : Int) := ⟨(numO 400 (some l)).1.toNat, by omega⟩
    rw [hn', Int.toNat_natCast]
    rw [hn'] at hn
    obtain ⟨z, hz, hm⟩ := refLoop_p (n := n) (by omega) k1
    dsimp only
    cases hr : readN n [] (some r) with
    | none =>
      rw [hr] at hm
      obtain ⟨o', rfl⟩ := hm
      exact ⟨o', bindS hn (bindS hz rfl), fun p hp => by cases hp⟩
    | some p =>
      obtain ⟨l', o'⟩ := p
      rw [hr] at hm
      dsimp only at hm
      subst hm
      obtain ⟨r', rfl⟩ := readN_some _ _ _ hr
      exact ⟨some r', bindS hn (bindS hz (condF rfl rfl)), fun p hp => by injection hp with hp; subst hp; rfl⟩
theorem readN_len : ∀ (k : Nat) (out : List DRow) (o : Option (List UInt8)) {l : List DRow} {o' : Option (List UInt8)}, readN k out o = some (l, o') → l.length ≤ out.length + k
  | 0, out, o, l, o', h => by
    injection h with h
    injection h with h1 h2
    subst h1
    exact Nat.le_refl _
  | k + 1, out, o, l, o', h => by
    unfold readN at h
    dsimp only at h
    split at h
    · have := readN_len k _ _ h
      rw [List.length_append, List.length_singleton] at this
      omega
    · cases h
theorem bytesLoop_p {s b : List UInt8} (hs : s.length ≤ 140737488355328) (hb : b.length ≤ 140737488355328) : loopM watershedlaw15_RowsBytes_l1 (([s, b], 0, ()), ((), ())) = some (.inr ((), ((), ()))) := by
  have step (l : List UInt8) (hl : l.length ≤ 140737488355328) (i : Int) (hi : getI [s, b] i = some l) (h2 : i < 2) (h0 : 0 ≤ i) : watershedlaw15_RowsBytes_l1 (([s, b], i, ()), ((), ())) = some (.inl (([s, b], i + 1, ()), ((), ()))) := by
    obtain ⟨o1, r1, q1⟩ := Read_p l
    obtain ⟨o2, r2, q2⟩ := refRead_p hl
    unfold watershedlaw15_RowsBytes_l1
    refine condT (dT h2) (bindS hi (bindS hi (bindS (v := ((), ((true, false, l, ()), (), ()))) (by unfold wire_NewReader clone42; exact bindS (iteT (by omega) rfl) rfl) (bindS r1 (bindS r2 ?_)))))
    cases hs : readR l with
    | some p =>
      obtain ⟨rows, o⟩ := p
      have e1 := q1 _ hs
      have e2 := q2 _ hs
      have hrl : rows.length ≤ 400 ∧ ∃ r', o = some r' := by
        unfold readR at hs
        cases hn : (numO 400 (some l)).2 with
        | none => rw [hn] at hs; cases hs
        | some r =>
          rw [hn] at hs
          have h1 := numO_le hn
          have h3 := readN_len _ _ _ hs
          simp only [List.length_nil] at h3
          exact ⟨by omega, readN_some _ _ _ hs⟩
      obtain ⟨hrl, r', rfl⟩ := hrl
      dsimp only at e1 e2
      subst e1 e2
      refine condF (by simp) (bindS (SameLines_p (a := rows) (by omega)) (condF (by simp) (condT rfl ?_)))
      refine bindS (v := ((r'.length : Int), (rdR (some r'), ()))) rfl (condF (by simp [rfR]) ?_)
      dsimp only
      rw [w64 (by omega)]
    | none =>
      refine condF (by simp) (bindS (SameLines_p (by simp)) (condF (by simp) (condF rfl ?_)))
      dsimp only
      rw [w64 (by omega)]
  refine (loopM_next (step s hs 0 rfl (by omega) (by omega))).trans ((loopM_next (step b hb 1 rfl (by omega) (by omega))).trans (loopM_end ?_))
  unfold watershedlaw15_RowsBytes_l1
  exact condF rfl rfl
theorem RowsBytes_p (x0 : List DRow) (x1 : List UInt8) (k0 : ok_LDRow x0) (k1 : ok_LUInt8 x1) : watershedlaw15_RowsBytes x0 x1 = some (true, ()) := by
  obtain ⟨n, n1, n2⟩ := LinesOf_p k0.len (fun r hr => ⟨(k0.all r hr).1, (k0.all r hr).2.1⟩)
  have hl1 := k1.len
  unfold watershedlaw15_RowsBytes
  refine bindS n1 ?_
  by_cases hn : (1200 : Int) < n
  · exact condT (dT hn) (bindS awake_p rfl)
  refine condF (dF hn) ?_
  by_cases hlong : (20000 : Int) < (x1.length : Int)
  · exact condT (dT hlong) (bindS awake_p rfl)
  have hw := n2 (by omega)
  have hlen := wgt_len x0
  have hbl : (bytesB x0).length ≤ 40000 := by
    have := bodyB_len x0 hw
    have := numF_len9 (n := x0.length) (by omega)
    unfold bytesB
    rw [List.length_append]; omega
  obtain ⟨st, d1⟩ := Done_p (sp := false) (b := bytesB x0) (by omega)
  rw [if_neg Bool.false_ne_true] at d1
  refine condF (dF hlong) (bindS (Lent_p (l := x0) (by omega)) (bindS (v := ((), ((true, false, [], ()), (), ()))) rfl (bindS (Write_p hw) (bindS d1 (condF rfl (bindS (refBytes_p hw) (bindS (sameBytes_p (bytesB x0) (by omega)) (condF rfl (bindS (Kept_p (l := x0) (by omega)) (condF rfl (bindS (bytesLoop_p (s := bytesB x0) (b := x1) (by omega) hl1) (bindS awake_p rfl))))))))))))
end Go.Proofs.Ytlmmpfbdgiokmaa
/- RowsParts, plainly. -/
namespace Go.Proofs.Ytlmmpfbdgiokmaa
open Go.RowKit
set_option maxRecDepth 100000
set_option linter.unusedVariables false
set_option linter.unusedSimpArgs false
theorem LinesOf_q {l : List DRow} (hl : l.length ≤ 140737488355328) (hx : ∀ r ∈ l, OkT r.key ∧ OkT r.value) : ∃ n : Int, watershedkit_LinesOf l 1200 = some (n, ()) ∧ (n ≤ 1200 → wgt l ≤ 1200) ∧ 0 ≤ n ∧ n ≤ 35184372090033 := by
  have key : ∃ z, loopM watershedkit_LinesOf_l1 ((l, 1200, 0, 0, ()), ()) = some z ∧ ∃ n : Int, z = ((n, ()), ()) ∧ (n ≤ 1200 → wgt l ≤ 1200) ∧ 0 ≤ n ∧ n ≤ 35184372090033 := by
    refine loopM_spec (fun m a => ∃ i : Nat, a = ((l, 1200, ((wgt (l.take i) : Nat) : Int), (i : Int), ()), ()) ∧ i ≤ l.length ∧ wgt (l.take i) ≤ 1200 + 2 * 17592186044416 + 1 ∧ m = l.length - i) _ ?_ (n := l.length) ⟨0, by simp [wgt], Nat.zero_le _, by simp [wgt], rfl⟩
    rintro m a ⟨i, rfl, h1, h2, rfl⟩
    unfold watershedkit_LinesOf_l1
    by_cases hi : i < l.length
    · by_cases hn : wgt (l.take i) ≤ 1200
      · left
        have h3 := hx _ (List.getElem_mem hi)
        unfold OkT at h3
        have hs := wgt_snoc (l.take i) l[i]
        rw [← List.take_succ_eq_append_getElem hi] at hs
        have d1 : IntKind.i64.wrap ((l[i].key.length : Int).tdiv 8) = ((l[i].key.length / 8 : Nat) : Int) := by
          rw [Int.tdiv_eq_ediv_of_nonneg (by omega), w64 (by omega)]; omega
        have d2 : IntKind.i64.wrap ((l[i].value.length : Int).tdiv 8) = ((l[i].value.length / 8 : Nat) : Int) := by
          rw [Int.tdiv_eq_ediv_of_nonneg (by omega), w64 (by omega)]; omega
        refine ⟨l.length - (i + 1), _, by omega, condT (dT (by dsimp only; omega)) (condT (dT (by dsimp only; omega)) (bindS (getI_lt hi) (bindS (getI_lt hi) rfl))), i + 1, ?_, by omega, by omega, rfl⟩
        dsimp only
        rw [d1, d2, w64 (n := ((wgt (l.take i) : Nat) : Int) + 1) (by omega), w64 (n := ((wgt (l.take i) : Nat) : Int) + 1 + _) (by omega), w64 (n := ((wgt (l.take i) : Nat) : Int) + 1 + _ + _) (by omega), w64 (n := (i : Int) + 1) (by omega), hs]
        congr 3
        have : (((wgt (l.take i) + (1 + l[i].key.length / 8 + l[i].value.length / 8) : Nat)) : Int) = ((wgt (l.take i) : Nat) : Int) + 1 + ((l[i].key.length / 8 : Nat) : Int) + ((l[i].value.length / 8 : Nat) : Int) := by omega
        rw [this]
        rfl
      · right
        exact ⟨_, condT (dT (by dsimp only; omega)) (condF (dF (by dsimp only; omega)) rfl), _, rfl, by dsimp only; omega, by dsimp only; omega, by dsimp only; omega⟩
    · right
      obtain rfl : i = l.length := by omega
      refine ⟨_, condF (dF (by dsimp only; omega)) rfl, _, rfl, fun h => ?_, by dsimp only; omega, by dsimp only; omega⟩
      dsimp only at h
      rw [List.take_length] at h
      omega
  obtain ⟨z, hz, n, rfl, hn⟩ := key
  exact ⟨n, by unfold watershedkit_LinesOf; exact bindS hz rfl, hn⟩
theorem light_p {l : List DDeed} (hl : l.length ≤ 140737488355328) (hx : ∀ d ∈ l, OkSp d.span ∧ d.rows.length ≤ 140737488355328 ∧ ∀ r ∈ d.rows, OkT r.key ∧ OkT r.value) : ∃ b, watershedlaw15_light l = some (b, ()) ∧ (b = true → l.length ≤ 60 ∧ ∀ d ∈ l, wgt d.rows ≤ 1200) := by
  have key : ∃ z, loopM watershedlaw15_light_l1 ((l, (l.length : Int), 0, ()), ()) = some z ∧ ∃ n : Int, z = ((l, n, ()), ()) ∧ (n ≤ 1200 → ∀ d ∈ l, wgt d.rows ≤ 1200) := by
    refine loopM_spec (fun m a => ∃ (i : Nat) (n : Int), a = ((l, n, (i : Int), ()), ()) ∧ i ≤ l.length ∧ 0 ≤ n ∧ n ≤ 300000000000000 ∧ (n ≤ 1200 → ∀ d ∈ l.take i, wgt d.rows ≤ 1200) ∧ m = l.length - i) _ ?_ (n := l.length) ⟨0, _, rfl, Nat.zero_le _, by omega, by omega, fun _ d hd => by simp at hd, rfl⟩
    rintro m a ⟨i, n, rfl, h1, h2, h3, h4, rfl⟩
    unfold watershedlaw15_light_l1
    by_cases hi : i < l.length
    · by_cases hn : n ≤ 1200
      · left
        obtain ⟨⟨q1, q2⟩, q3, q4⟩ := hx _ (List.getElem_mem hi)
        unfold OkT at q1 q2
        obtain ⟨k, k1, k2, k3, k4⟩ := LinesOf_q q3 q4
        have d1 : IntKind.i64.wrap ((l[i].span.lo.length : Int).tdiv 8) = ((l[i].span.lo.length / 8 : Nat) : Int) := by
          rw [Int.tdiv_eq_ediv_of_nonneg (by omega), w64 (by omega)]; omega
        have d2 : IntKind.i64.wrap ((l[i].span.hi.length : Int).tdiv 8) = ((l[i].span.hi.length / 8 : Nat) : Int) := by
          rw [Int.tdiv_eq_ediv_of_nonneg (by omega), w64 (by omega)]; omega
        refine ⟨l.length - (i + 1), _, by omega, condT (dT (by dsimp only; omega)) (condT (dT hn) (bindS (getI_lt hi) (bindS (getI_lt hi) (bindS (getI_lt hi) (bindS k1 rfl))))), i + 1, n + k + ((l[i].span.lo.length / 8 : Nat) : Int) + ((l[i].span.hi.length / 8 : Nat) : Int), ?_, by omega, by omega, by omega, fun h d hd => ?_, rfl⟩
        · dsimp only
          rw [d1, d2, w64 (n := n + k) (by omega), w64 (n := n + k + _) (by omega), w64 (n := n + k + _ + _) (by omega), w64 (n := (i : Int) + 1) (by omega)]
          rfl
        · rw [List.take_succ_eq_append_getElem hi] at hd
          rcases List.mem_append.1 hd with hd | hd
          · exact h4 hn d hd
          · rw [List.mem_singleton.1 hd]
            exact k2 (by omega)
      · right
        exact ⟨_, condT (dT (by dsimp only; omega)) (condF (dF hn) rfl), _, rfl, fun h => absurd h hn⟩
    · right
      obtain rfl : i = l.length := by omega
      rw [List.take_length] at h4
      exact ⟨_, condF (dF (by dsimp only; omega)) rfl, _, rfl, h4⟩
  obtain ⟨z, hz, n, rfl, hn⟩ := key
  unfold watershedlaw15_light
  by_cases h : n ≤ 1200
  · refine ⟨decide ((l.length : Int) ≤ 60), bindS hz (condT (dT h) rfl), fun hb => ⟨?_, hn h⟩⟩
    have := of_decide_eq_true hb
    omega
  · exact ⟨false, bindS hz (condF (dF h) rfl), fun hb => by cases hb⟩
theorem Pick_p (k n : Int) (hn : 1 ≤ n) : ∃ v, watershedkit_Pick k n = some (v, ()) := by
  unfold watershedkit_Pick
  by_cases h : (k.tmod n) < 0
  · exact ⟨_, condF (dF (by omega)) (iteF (by omega) (condT (dT h) rfl))⟩
  · exact ⟨_, condF (dF (by omega)) (iteF (by omega) (condF (dF h) rfl))⟩
/-- A table, as it must be. -/
def TabOk (L : List DRow) : Prop := srt L ∧ L.length ≤ 400 ∧ ∀ r ∈ L, rightR r = true
theorem deeds_p {x0 : List DDeed} (x1 : List Tx) (x2 : DSpan) (hl : x0.length ≤ 60) (hw : ∀ d ∈ x0, wgt d.rows ≤ 1200) (ho : ∀ d ∈ x0, OkSp d.span) : ∃ L, TabOk L ∧ loopM watershedlaw15_RowsParts_l1 ((x0, x1, (), (), 0, ()), (x2, (0, true, ()), [], ())) = some ((x1, (), (), ()), (x2, (L.length, true, ()), (), L, ())) := by
  have key : ∃ z, loopM watershedlaw15_RowsParts_l1 ((x0, x1, (), (), 0, ()), (x2, (0, true, ()), [], ())) = some z ∧ ∃ L, TabOk L ∧ z = ((x1, (), (), ()), (x2, (L.length, true, ()), (), L, ())) := by
    refine loopM_spec (fun m a => ∃ (i : Nat) (L : List DRow), a = ((x0, x1, (), (), (i : Int), ()), (x2, (L.length, true, ()), L, ())) ∧ i ≤ x0.length ∧ TabOk L ∧ m = x0.length - i) _ ?_ (n := x0.length) ⟨0, [], rfl, Nat.zero_le _, ⟨List.Pairwise.nil, Nat.zero_le _, fun r hr => by cases hr⟩, rfl⟩
    rintro m a ⟨i, L, rfl, h1, h2, rfl⟩
    unfold watershedlaw15_RowsParts_l1
    by_cases hi : i < x0.length
    · left
      have hm := List.getElem_mem hi
      obtain ⟨v, hv⟩ := Pick_p x0[i].kind 5 (by omega)
      have hwl := wgt_len x0[i].rows
      have hww := hw _ hm
      by_cases h4 : v = 4
      · refine ⟨x0.length - (i + 1), _, by omega, condT (dT (by dsimp only; omega)) (bindS (getI_lt hi) (bindS hv (condT (dT h4) (bindS (getI_lt hi) (bindS (Take_p h2.1 h2.2.1 h2.2.2 (ho _ hm)) rfl))))), i + 1, outF x0[i].span L, ?_, by omega, outF_ok h2.1 h2.2.1 h2.2.2, rfl⟩
        dsimp only
        rw [w64 (by omega)]; rfl
      · by_cases h3 : v = 3
        · refine ⟨x0.length - (i + 1), _, by omega, condT (dT (by dsimp only; omega)) (bindS (getI_lt hi) (bindS hv (condF (dF h4) (condT (dT h3) rfl)))), i + 1, L, ?_, by omega, h2, rfl⟩
          dsimp only
          rw [w64 (by omega)]; rfl
        · refine ⟨x0.length - (i + 1), _, by omega, condT (dT (by dsimp only; omega)) (bindS (getI_lt hi) (bindS hv (condF (dF h4) (condF (dF h3) (bindS (getI_lt hi) (bindS (Put_p h2.1 h2.2.1 (fun r hr => by have := wgt_mem hr; unfold OkT; omega) (by omega)) rfl)))))), i + 1, (putF x0[i].rows L).2, ?_, by omega, putF_ok h2.1 h2.2.1 h2.2.2, rfl⟩
          dsimp only
          rw [w64 (by omega)]; rfl
    · right
      exact ⟨_, condF (dF (by dsimp only; omega)) rfl, L, h2, rfl⟩
  obtain ⟨z, hz, L, h1, rfl⟩ := key
  exact ⟨L, h1, hz⟩
theorem in_all {L : List DRow} (h : ∀ r ∈ L, rightR r = true) : inF ⟨[], []⟩ L = L := by
  unfold inF
  refine List.filter_eq_self.2 fun r hr => ?_
  unfold hasB
  rw [rightR_key (h r hr)]
  have : ¬ r.key < [] := by simp
  simp [rightB, this]
theorem keyB_lt {s : DSpan} {k : Tx} (h : hasB s k = true) : rightB s = true ∧ keyB k = true ∧ ¬ k < s.lo ∧ (s.hi = [] ∨ k < s.hi) := by
  unfold hasB at h
  simp only [Bool.and_eq_true, Bool.or_eq_true, Bool.not_eq_true', decide_eq_true_eq, decide_eq_false_iff_not] at h
  exact h
theorem keyB_ne {k : Tx} (h : keyB k = true) : k ≠ [] := by
  intro e
  subst e
  simp [keyB] at h
theorem right_of {s : DSpan} {k : Tx} (h : hasB s k = true) (hne : k ≠ s.lo) : rightB ⟨s.lo, k⟩ = true ∧ rightB ⟨k, s.hi⟩ = true := by
  obtain ⟨h1, h2, h3, h4⟩ := keyB_lt h
  have h5 : s.lo < k := ltTri h3 hne
  unfold rightB at h1 ⊢
  simp only [Bool.and_eq_true, Bool.or_eq_true, decide_eq_true_eq] at h1 ⊢
  exact ⟨⟨h1.1, .inr h2, .inr h5⟩, .inr h2, h1.2.1, h4⟩
/-- The rows of two halves are those of the whole. -/
theorem in_halves {s : DSpan} {k : Tx} {L : List DRow} (hL : TabOk L) (h : hasB s k = true) (hne : k ≠ s.lo) : inF ⟨s.lo, k⟩ L ++ inF ⟨k, s.hi⟩ L = inF s L := by
  obtain ⟨h1, h2, h3, h4⟩ := keyB_lt h
  obtain ⟨r1, r2⟩ := right_of h hne
  have h5 : s.lo < k := ltTri h3 hne
  have hkn := keyB_ne h2
  have e : L = L.filter (fun r => decide (r.key < k)) ++ L.filter (fun r => !decide (r.key < k)) := by rw [← lb_take hL.1, ← lb_drop hL.1, List.take_append_drop]
  have e1 : inF s L = inF s (L.filter fun r => decide (r.key < k)) ++ inF s (L.filter fun r => !decide (r.key < k)) := by
    unfold inF
    rw [← List.filter_append, ← e]
  rw [e1]
  unfold inF
  rw [List.filter_filter, List.filter_filter]
  congr 1
  · refine List.filter_congr fun r hr => ?_
    unfold hasB
    rw [r1, h1, rightR_key (hL.2.2 r hr)]
    by_cases hk : r.key < k
    · have : s.hi = [] ∨ r.key < s.hi := h4.imp id fun h => ltTr hk h
      rcases this with h | h <;> simp [hk, h]
    · simp [hk, hkn]
  · refine List.filter_congr fun r hr => ?_
    unfold hasB
    rw [r2, h1, rightR_key (hL.2.2 r hr)]
    by_cases hk : r.key < k
    · simp [hk]
    · have : ¬ r.key < s.lo := fun h => hk (ltTr h h5)
      simp [hk, this]
theorem in_cut {L : List DRow} (hL : TabOk L) : ∀ (ks : List Tx) (s : DSpan), (cutF s ks).flatMap (fun s => inF s L) = inF s L
  | [], s => by simp [cutF]
  | k :: ks, s => by
    rw [cutF_cons]
    cases h : hasB s k with
    | false => exact in_cut hL ks s
    | true =>
      rw [Bool.not_true, cond_false]
      by_cases hne : k = s.lo
      · rw [dT hne, cond_true]; exact in_cut hL ks s
      · rw [dF hne, cond_false, List.flatMap_cons, in_cut hL ks ⟨k, s.hi⟩]
        exact in_halves hL h hne
theorem cutF_ok : ∀ (ks : List Tx) (s : DSpan), OkSp s → (∀ k ∈ ks, OkT k) → ∀ x ∈ cutF s ks, OkSp x
  | [], s, hs, _, x, hx => by
    simp only [cutF, List.mem_singleton] at hx
    rw [hx]; exact hs
  | k :: ks, s, hs, hk, x, hx => by
    have h1 := hk k List.mem_cons_self
    have h2 : ∀ k ∈ ks, OkT k := fun k h => hk k (List.mem_cons_of_mem _ h)
    rw [cutF_cons] at hx
    cases h : hasB s k with
    | false => rw [h, Bool.not_false, cond_true] at hx; exact cutF_ok ks s hs h2 x hx
    | true =>
      rw [h, Bool.not_true, cond_false] at hx
      by_cases hne : k = s.lo
      · rw [dT hne, cond_true] at hx; exact cutF_ok ks s hs h2 x hx
      · rw [dF hne, cond_false] at hx
        rcases List.mem_cons.1 hx with rfl | hx
        · exact ⟨hs.1, h1⟩
        · exact cutF_ok ks ⟨k, s.hi⟩ ⟨h1, hs.2⟩ h2 x hx
theorem parts_p {L : List DRow} (hL : TabOk L) (x2 : DSpan) {cut : List DSpan} (hc : cut.length ≤ 1000) (ho : ∀ s ∈ cut, OkSp s) : loopM watershedlaw15_RowsParts_l2 (((), (), L, [], cut, 0, ()), (x2, (L.length, true, ()), (), (), (), L, ())) = some (((), (), L, cut.flatMap fun s => inF s L, ()), (x2, (L.length, true, ()), (), (), (), (), (), (), L, ())) := by
  have hlen : ∀ i, ((cut.take i).flatMap fun s => inF s L).length ≤ 400 * i := by
    intro i
    induction i with
    | zero => simp
    | succ i ih =>
      by_cases hi : i < cut.length
      · rw [List.take_succ_eq_append_getElem hi, List.flatMap_append, List.length_append]
        have : (inF cut[i] L).length ≤ 400 := Nat.le_trans (List.length_filter_le _ _) hL.2.1
        simp only [List.flatMap_cons, List.flatMap_nil, List.append_nil]
        omega
      · rw [List.take_of_length_le (by omega)]
        rw [List.take_of_length_le (by omega)] at ih
        omega
  refine loopM_run (step := watershedlaw15_RowsParts_l2) (fun i : Nat => (((), (), L, (cut.take i).flatMap (fun s => inF s L), cut, (i : Int), ()), (x2, (L.length, true, ()), (), (), (), L, ()))) (N := cut.length) (fun i hi => ?_) ?_
  · have h1 := hlen i
    have h2 : (inF cut[i] L).length ≤ 400 := Nat.le_trans (List.length_filter_le _ _) hL.2.1
    unfold watershedlaw15_RowsParts_l2
    refine condT (dT (by dsimp only; omega)) (bindS (getI_lt hi) (bindS (In_p hL.1 hL.2.1 hL.2.2 (ho _ (List.getElem_mem hi))) (iteT (by dsimp only; omega) ?_)))
    dsimp only
    rw [w64 (by omega), List.take_succ_eq_append_getElem hi, List.flatMap_append]
    simp only [List.flatMap_cons, List.flatMap_nil, List.append_nil]
    rfl
  · unfold watershedlaw15_RowsParts_l2
    refine condF (dF (by dsimp only; omega)) ?_
    dsimp only
    rw [List.take_length]
theorem Get_p {k : Tx} {l : List DRow} (hs : srt l) (hl : l.length ≤ 400) : ∃ v, rows_Get k (l.length, true, ()) l = some ((v, fnd k l, ()), ((l.length, true, ()), l, ())) ∧ ∀ r ∈ l, r.key = k → fnd k l = true ∧ v = r.value := by
  have huniq : ∀ (h : fnd k l = true), ∀ r ∈ l, r.key = k → r = l[lb k l]'(fnd_get h).1 := by
    intro h r hr hk
    obtain ⟨h1, h2⟩ := fnd_get h
    obtain ⟨i, hi, hri⟩ := List.getElem_of_mem hr
    have hii : i = lb k l := by
      rcases Nat.lt_trichotomy i (lb k l) with h3 | h3 | h3
      · have := List.pairwise_iff_getElem.1 hs i (lb k l) hi h1 h3
        rw [hri, hk, h2] at this
        exact absurd this (ltT _)
      · exact h3
      · have := List.pairwise_iff_getElem.1 hs (lb k l) i h1 hi h3
        rw [hri, hk, h2] at this
        exact absurd this (ltT _)
    subst hii
    exact hri.symm
  have hex : ∀ r ∈ l, r.key = k → fnd k l = true := by
    intro r hr hk
    obtain ⟨i, hi, hri⟩ := List.getElem_of_mem hr
    have h1 : ¬ i < lb k l := fun h2 => by
      have := (lb_get hs hi).2 h2
      rw [hri, hk] at this
      exact ltT _ this
    have hlt : lb k l < l.length := by omega
    unfold fnd
    rw [List.getElem?_eq_getElem hlt]
    simp only [decide_eq_true_eq]
    rcases Nat.lt_or_ge (lb k l) i with h4 | h4
    · have h5 := List.pairwise_iff_getElem.1 hs (lb k l) i hlt hi h4
      rw [hri, hk] at h5
      exact absurd ((lb_get hs hlt).1 h5) (Nat.lt_irrefl _)
    · obtain rfl : i = lb k l := by omega
      rw [hri, hk]
  unfold rows_Get
  cases h : fnd k l with
  | false =>
    have ha := at2_p (k := k) hs (by omega : l.length ≤ 140737488355328)
    rw [h] at ha
    exact ⟨[], bindS (v := (true, ((l.length, true, ()), l, ()))) rfl (condF rfl (bindS ha (condT rfl rfl))), fun r hr hk => by rw [hex r hr hk] at h; cases h⟩
  | true =>
    have ha := at2_p (k := k) hs (by omega : l.length ≤ 140737488355328)
    rw [h] at ha
    obtain ⟨h1, h2⟩ := fnd_get h
    have hg : l[0 + ((lb k l : Nat) : Int).toNat]? = some l[lb k l] := by rw [Nat.zero_add, Int.toNat_natCast, List.getElem?_eq_getElem h1]
    exact ⟨l[lb k l].value, bindS (v := (true, ((l.length, true, ()), l, ()))) rfl (condF rfl (bindS ha (condF rfl (iteT (by dsimp only; omega) (bindS hg rfl))))), fun r hr hk => ⟨rfl, by rw [huniq h r hr hk]⟩⟩
theorem fnd_mem {k : Tx} {l : List DRow} (h : fnd k l = true) : ∃ r ∈ l, r.key = k := by
  obtain ⟨h1, h2⟩ := fnd_get h
  exact ⟨_, List.getElem_mem h1, h2⟩
theorem srt_uniq {L : List DRow} (hs : srt L) {a b : DRow} (ha : a ∈ L) (hb : b ∈ L) (hk : a.key = b.key) : a = b := by
  obtain ⟨i, hi, rfl⟩ := List.getElem_of_mem ha
  obtain ⟨j, hj, rfl⟩ := List.getElem_of_mem hb
  rcases Nat.lt_trichotomy i j with h | h | h
  · have := List.pairwise_iff_getElem.1 hs i j hi hj h
    rw [hk] at this; exact absurd this (ltT _)
  · subst h; rfl
  · have := List.pairwise_iff_getElem.1 hs j i hj hi h
    rw [hk] at this; exact absurd this (ltT _)
theorem gone_p {L : List DRow} (hL : TabOk L) {s : DSpan} (ho : OkSp s) : loopM watershedlaw15_RowsParts_l3 (((), (), L, inF s L, 0, ()), (s, ((outF s L).length, true, ()), (), (), outF s L, ())) = some (.inr (((), L, inF s L, ()), (s, ((outF s L).length, true, ()), (), (), (), (), (), outF s L, ()))) := by
  obtain ⟨o1, o2, o3⟩ := outF_ok (s := s) hL.1 hL.2.1 hL.2.2
  refine loopM_run (step := watershedlaw15_RowsParts_l3) (fun i : Nat => (((), (), L, inF s L, (i : Int), ()), (s, ((outF s L).length, true, ()), (), (), outF s L, ()))) (N := L.length) (fun i hi => ?_) ?_
  · have hm := List.getElem_mem hi
    obtain ⟨v, g1, g2⟩ := Get_p (k := L[i].key) o1 o2
    have hk : OkT L[i].key := by have := (rightR_ok (hL.2.2 _ hm)).1; unfold OkT; omega
    have hil : L.length ≤ 400 := hL.2.1
    unfold watershedlaw15_RowsParts_l3
    refine condT (dT (by dsimp only; omega)) (bindS (getI_lt hi) (bindS g1 (bindS (getI_lt hi) (bindS (Has_p ho hk) ?_))))
    cases hh : hasB s L[i].key with
    | true =>
      have hno : fnd L[i].key (outF s L) = false := by
        cases hf : fnd L[i].key (outF s L) with
        | false => rfl
        | true =>
          obtain ⟨r, hr, hrk⟩ := fnd_mem hf
          have := (List.mem_filter.1 hr).2
          rw [hrk, hh] at this
          cases this
      rw [hno]
      refine condF (by simp) (condF rfl ?_)
      dsimp only
      rw [w64 (by omega)]; rfl
    | false =>
      have hmem : L[i] ∈ outF s L := List.mem_filter.2 ⟨hm, by rw [hh]; rfl⟩
      obtain ⟨q1, q2⟩ := g2 _ hmem rfl
      rw [q1]
      refine condF (by simp) (condT rfl (bindS (getI_lt hi) (condF (by simp [q2]) ?_)))
      dsimp only
      rw [w64 (by omega)]; rfl
  · unfold watershedlaw15_RowsParts_l3
    exact condF (dF (by dsimp only; omega)) rfl
/-- What is written, read. -/
theorem getF_num : ∀ (k i acc n : Nat) (r : List UInt8), n < 128 ^ (k + 1) → (0 < i → 0 < n) → acc + n * 2 ^ (7 * i) ≤ top → getF (k + 1) i acc (numF n ++ r) = some (acc + n * 2 ^ (7 * i), r) := by
  intro k
  induction k with
  | zero =>
    intro i acc n r h h0 ht
    have hn : n < 128 := by simpa using h
    rw [numF_lo hn, List.singleton_append]
    have hb : (UInt8.ofNat n).toNat = n := by rw [UInt8.toNat_ofNat']; omega
    have hm : n % 128 = n := Nat.mod_eq_of_lt hn
    unfold getF
    dsimp only
    rw [hb, hm, if_pos hn, if_neg (by omega)]
  | succ k ih =>
    intro i acc n r h h0 ht
    by_cases hn : n < 128
    · rw [numF_lo hn, List.singleton_append]
      have hb : (UInt8.ofNat n).toNat = n := by rw [UInt8.toNat_ofNat']; omega
      have hm : n % 128 = n := Nat.mod_eq_of_lt hn
      unfold getF
      dsimp only
      rw [hb, hm, if_pos hn, if_neg (by omega)]
    · rw [numF_hi hn, List.cons_append]
      have hb : (UInt8.ofNat (n % 128 + 128)).toNat = n % 128 + 128 := by rw [UInt8.toNat_ofNat']; omega
      have hm : (n % 128 + 128) % 128 = n % 128 := by omega
      have hp : 2 ^ (7 * (i + 1)) = 128 * 2 ^ (7 * i) := by rw [Nat.mul_add, Nat.pow_add, Nat.mul_comm]
      have hsum : acc + n % 128 * 2 ^ (7 * i) + n / 128 * 2 ^ (7 * (i + 1)) = acc + n * 2 ^ (7 * i) := by
        rw [hp, ← Nat.mul_assoc, Nat.add_assoc, ← Nat.add_mul]
        congr 2
        omega
      unfold getF
      dsimp only
      rw [hb, hm, if_neg (by omega), ih (i + 1) _ (n / 128) r (by rw [Nat.pow_succ] at h; omega) (by omega) (by rw [hsum]; exact ht), hsum]
theorem numO_num {most n : Nat} (r : List UInt8) (h : n ≤ most) (ht : n ≤ top) : numO most (some (numF n ++ r)) = ((n : Int), some r) := by
  have := getF_num 8 0 0 n r (by unfold top at ht; omega) (by omega) (by simpa using ht)
  simp only [Nat.mul_zero, Nat.pow_zero, Nat.mul_one, Nat.zero_add] at this
  rw [numO_yes this, if_neg (by dsimp only; omega)]
theorem rowO_row {most : Nat} {t : List UInt8} (r : List UInt8) (h : t.length ≤ most) (hm : most ≤ 1000000) : rowO most (some (rowF t ++ r)) = (t, some r) := by
  unfold rowO rowF
  rw [List.append_assoc, numO_num (t ++ r) h (by unfold top; omega)]
  dsimp only
  rw [if_neg (by rw [List.length_append]; omega), Int.toNat_natCast, List.take_left, List.drop_left]
theorem readN_rows : ∀ (l out : List DRow) (r : List UInt8), srt (out ++ l) → (∀ x ∈ l, rightR x = true) → readN l.length out (some (bodyB l ++ r)) = some (out ++ l, some r)
  | [], out, r, _, _ => by simp [readN, bodyB]
  | x :: l, out, r, hs, hr => by
    have hx := hr x List.mem_cons_self
    obtain ⟨k1, k2⟩ := rightR_ok hx
    have hb : bodyB (x :: l) ++ r = rowF x.key ++ (rowF x.value ++ (bodyB l ++ r)) := by simp [bodyB, rowB]
    have hg : goodR out x = true := by
      unfold goodR
      rw [hx, Bool.true_and]
      cases hl : out.getLast? with
      | none => rfl
      | some y =>
        have hy : y ∈ out := List.mem_of_getLast? hl
        have := (List.pairwise_append.1 hs).2.2 y hy x List.mem_cons_self
        simpa using this
    rw [List.length_cons]
    unfold readN
    rw [hb, rowO_row _ k1 (by omega)]
    dsimp only
    rw [rowO_row _ k2 (by omega)]
    dsimp only
    rw [Option.isSome_some, Bool.true_and]
    have e : (⟨x.key, x.value⟩ : DRow) = x := rfl
    rw [e, if_pos hg, readN_rows l (out ++ [x]) r (by rw [List.append_assoc]; exact hs) (fun y hy => hr y (List.mem_cons_of_mem _ hy)), List.append_assoc]
    rfl
theorem readR_bytes {l : List DRow} (h : TabOk l) : readR (bytesB l) = some (l, some []) := by
  have hlen : l.length ≤ 400 := h.2.1
  unfold readR bytesB
  rw [numO_num (bodyB l) hlen (by unfold top; omega)]
  dsimp only
  rw [Int.toNat_natCast]
  have := readN_rows l [] [] h.1 h.2.2
  rw [List.append_nil, List.nil_append] at this
  exact this
theorem body_ok {l : List DRow} (h : TabOk l) (i : Nat) : (bodyB (l.take i)).length ≤ 58 * 400 := by
  have hl : ∀ l : List DRow, (∀ r ∈ l, rightR r = true) → (bodyB l).length ≤ 58 * l.length := by
    intro l
    induction l with
    | nil => intro _; simp [bodyB]
    | cons r l ih =>
      intro hr
      obtain ⟨k1, k2⟩ := rightR_ok (hr r List.mem_cons_self)
      have h1 := rowF_len (t := r.key) (by omega)
      have h2 := rowF_len (t := r.value) (by omega)
      have h3 := ih fun x hx => hr x (List.mem_cons_of_mem _ hx)
      have : bodyB (r :: l) = rowF r.key ++ rowF r.value ++ bodyB l := by simp [bodyB, rowB]
      rw [this, List.length_append, List.length_append, List.length_cons]; omega
  have h1 := hl (l.take i) fun r hr => h.2.2 r (List.mem_of_mem_take hr)
  have h2 : (l.take i).length ≤ 400 := by rw [List.length_take]; have := h.2.1; omega
  omega
theorem Write_g {l : List DRow} (h : TabOk l) : rows_Write l (true, false, [], ()) = some ((), ((true, false, bytesB l, ()), (), (), ())) := by
  have hlen : l.length ≤ 400 := h.2.1
  have hg : [(l.length : Int)].all goodB = true := by
    simp only [List.all_cons, List.all_nil, Bool.and_true]
    exact goodB_iff.2 (by omega)
  have hn := Numbers_p (xs := [(l.length : Int)]) (sp := false) (b := []) (by simp) (by simp)
  rw [numsW_good _ _ _ hg] at hn
  have hc : catN [(l.length : Int)] = numF l.length := by simp [catN]
  rw [List.nil_append, hc] at hn
  have h9 := numF_len9 (n := l.length) (by omega)
  unfold rows_Write
  refine bindS hn ?_
  have hrun := loopM_run (step := rows_Write_l1) (fun i : Nat => (((), l, (l.length : Int), (i : Int), ()), ((true, false, numF l.length ++ bodyB (l.take i), ()), (), ()))) (N := l.length) (b := (((), ()), ((true, false, bytesB l, ()), (), (), ()))) (fun i hi => ?_) ?_
  · have e0 : numF l.length ++ bodyB (l.take 0) = numF l.length := by simp [bodyB]
    rw [e0] at hrun
    exact bindS hrun rfl
  · have hm := rightR_ok (h.2.2 _ (List.getElem_mem hi))
    have ht := body_ok h i
    unfold rows_Write_l1
    refine condT (dT (by dsimp only; omega)) (bindS (getI_lt hi) (bindS (Texts2_p (by omega) (by omega) (by rw [List.length_append]; omega)) ?_))
    dsimp only
    rw [w64 (by omega), List.take_succ_eq_append_getElem hi, bodyB_snoc]
    simp only [rowB, List.append_assoc]
    rfl
  · unfold rows_Write_l1
    refine condF (dF (by dsimp only; omega)) ?_
    dsimp only
    rw [List.take_length]
    rfl
/-- Two rising lists of the same rows. -/
theorem srt_ext : ∀ {a b : List DRow}, srt a → srt b → (∀ r, r ∈ a ↔ r ∈ b) → a = b
  | [], [], _, _, _ => rfl
  | [], y :: b, _, _, h => by have := (h y).2 List.mem_cons_self; cases this
  | x :: a, [], _, _, h => by have := (h x).1 List.mem_cons_self; cases this
  | x :: a, y :: b, ha, hb, h => by
    have ha' := List.pairwise_cons.1 ha
    have hb' := List.pairwise_cons.1 hb
    have hxy : x = y := by
      rcases List.mem_cons.1 ((h x).1 List.mem_cons_self) with h1 | h1
      · exact h1
      · rcases List.mem_cons.1 ((h y).2 List.mem_cons_self) with h2 | h2
        · exact h2.symm
        · exact absurd (hb'.1 x h1) (ltAs (ha'.1 y h2))
    subst hxy
    congr 1
    refine srt_ext ha'.2 hb'.2 fun r => ⟨fun hr => ?_, fun hr => ?_⟩
    · rcases List.mem_cons.1 ((h r).1 (List.mem_cons_of_mem _ hr)) with rfl | h1
      · exact absurd (ha'.1 _ hr) (ltT _)
      · exact h1
    · rcases List.mem_cons.1 ((h r).2 (List.mem_cons_of_mem _ hr)) with rfl | h1
      · exact absurd (hb'.1 _ hr) (ltT _)
      · exact h1
theorem mem_putAll : ∀ (xs : List DRow) {l : List DRow} (hs : srt l) (hx : srt xs) (hd : ∀ x ∈ xs, ∀ y ∈ l, y.key ≠ x.key) (r : DRow), r ∈ putAll xs l ↔ r ∈ xs ∨ r ∈ l
  | [], l, _, _, _, r => by simp [putAll]
  | x :: xs, l, hs, hx, hd, r => by
    have hx' := List.pairwise_cons.1 hx
    have e : putAll (x :: xs) l = putAll xs (putL x l) := rfl
    rw [e, mem_putAll xs (putL_srt hs) hx'.2 (fun z hz y hy => by
      rcases (mem_putL hs).1 hy with rfl | ⟨hy, _⟩
      · intro he
        have := hx'.1 z hz
        rw [he] at this
        exact ltT _ this
      · exact hd z (List.mem_cons_of_mem _ hz) y hy) r, mem_putL hs, List.mem_cons]
    constructor
    · rintro (h | rfl | ⟨h, _⟩)
      · exact .inl (.inr h)
      · exact .inl (.inl rfl)
      · exact .inr h
    · rintro ((rfl | h) | h)
      · exact .inr (.inl rfl)
      · exact .inl h
      · exact .inr (.inr ⟨h, hd x List.mem_cons_self r h⟩)
theorem back_p {L : List DRow} (hL : TabOk L) (s : DSpan) : putF (inF s L) (outF s L) = (0, L) := by
  have h1 : srt (inF s L) := hL.1.filter _
  have h2 : srt (outF s L) := hL.1.filter _
  have he : putAll (inF s L) (outF s L) = L := by
    refine srt_ext (putAll_srt _ h2) hL.1 fun r => ?_
    rw [mem_putAll _ h2 h1 (fun x hx y hy he => ?_)]
    · unfold inF outF
      rw [List.mem_filter, List.mem_filter]
      cases hasB s r.key <;> simp
    · have hx2 := (List.mem_filter.1 hx).2
      have hy2 := (List.mem_filter.1 hy).2
      rw [he, hx2] at hy2
      cases hy2
  have hlen : L.length ≤ 400 := hL.2.1
  have ha : (inF s L).all rightR = true := List.all_eq_true.2 fun r hr => hL.2.2 r (List.mem_filter.1 hr).1
  unfold putF
  rw [if_pos ha, he, if_neg (by omega)]
theorem in_out (L : List DRow) (s : DSpan) : inF s (outF s L) = [] := by
  unfold inF outF
  rw [List.filter_filter]
  refine List.filter_eq_nil_iff.2 fun r _ => ?_
  cases hasB s r.key <;> simp
theorem in_out_len (L : List DRow) (s : DSpan) : (inF s L).length + (outF s L).length = L.length := by
  unfold inF outF
  induction L with
  | nil => rfl
  | cons r L ih =>
    cases h : hasB s r.key with
    | true => rw [List.filter_cons_of_pos (by rw [h]), List.filter_cons_of_neg (by rw [h]; simp)]; simp only [List.length_cons]; omega
    | false => rw [List.filter_cons_of_neg (by rw [h]; simp), List.filter_cons_of_pos (by rw [h]; rfl)]; simp only [List.length_cons]; omega
theorem Many_p {L : List DRow} : rows_Many (L.length, true, ()) L = some (((L.length : Nat) : Int), ((L.length, true, ()), L, ())) := by
  unfold rows_Many
  exact bindS (v := (true, ((L.length, true, ()), L, ()))) rfl (condF rfl rfl)
theorem RowsParts_p (x0 : List DDeed) (x1 : List Tx) (x2 : DSpan) (k0 : ok_LDDeed x0) (k1 : ok_LListUInt8 x1) (k2 : ok_DSpan x2) : watershedlaw15_RowsParts x0 x1 x2 = some (true, ()) := by
  have hs : OkSp x2 := .of k2
  have hd : ∀ d ∈ x0, OkSp d.span ∧ d.rows.length ≤ 140737488355328 ∧ ∀ r ∈ d.rows, OkT r.key ∧ OkT r.value := fun d hd => by
    obtain ⟨_, h2, h3, _⟩ := k0.all d hd
    exact ⟨.of h3, h2.len, fun r hr => ⟨(h2.all r hr).1, (h2.all r hr).2.1⟩⟩
  obtain ⟨b, b1, b2⟩ := light_p k0.len hd
  unfold watershedlaw15_RowsParts
  refine bindS awake_p (condF rfl (bindS b1 ?_))
  cases b with
  | false => exact condT rfl rfl
  | true =>
  obtain ⟨l1, l2⟩ := b2 rfl
  refine condF rfl ?_
  by_cases hlong : (100 : Int) < (x1.length : Int)
  · exact condT (dT hlong) rfl
  obtain ⟨L, hL, hrun⟩ := deeds_p x1 x2 l1 l2 (fun d h => (hd d h).1)
  have hAll : OkSp ⟨[], []⟩ := ⟨Nat.zero_le _, Nat.zero_le _⟩
  have hin : ∀ {l : List DRow}, TabOk l → rows_In ⟨[], []⟩ (l.length, true, ()) l = some (l, ((l.length, true, ()), l, (), ())) := fun {l} h => by
    have := In_p (s := ⟨[], []⟩) h.1 h.2.1 h.2.2 hAll
    rw [in_all h.2.2] at this
    exact this
  have hkeys : ∀ k ∈ x1, OkT k := fun k hk => k1.all k hk
  have hcut := Cut_p (s := ⟨[], []⟩) (xs := x1) hAll hkeys (by omega)
  have hr0 : rightB ⟨[], []⟩ = true := by simp [rightB]
  rw [hr0, cond_true] at hcut
  have hsl : (sdF x1).length ≤ x1.length := sdF_len x1
  have hcl := cutF_len ⟨[], []⟩ (sdF x1)
  have hp := parts_p hL x2 (cut := cutF ⟨[], []⟩ (sdF x1)) (by omega) (cutF_ok _ _ hAll fun k hk => hkeys k (mem_sdF.1 hk))
  rw [in_cut hL, in_all hL.2.2] at hp
  have hlen : L.length ≤ 400 := hL.2.1
  have hi := In_p (s := x2) hL.1 hL.2.1 hL.2.2 hs
  have ht := Take_p (s := x2) hL.1 hL.2.1 hL.2.2 hs
  have hO := outF_ok (s := x2) hL.1 hL.2.1 hL.2.2
  have hI : TabOk (inF x2 L) := ⟨hL.1.filter _, Nat.le_trans (List.length_filter_le _ _) hlen, fun r hr => hL.2.2 r (List.mem_filter.1 hr).1⟩
  have hi2 := In_p (s := x2) hO.1 hO.2.1 hO.2.2 hs
  rw [in_out] at hi2
  have hsum := in_out_len L x2
  have hbl : (bytesB (inF x2 L)).length ≤ 40000 := by
    have h1 := body_ok hI (inF x2 L).length
    rw [List.take_length] at h1
    have h2 := numF_len9 (n := (inF x2 L).length) (by omega)
    unfold bytesB
    rw [List.length_append]; omega
  obtain ⟨st, d1⟩ := Done_p (sp := false) (b := bytesB (inF x2 L)) (by omega)
  rw [if_neg Bool.false_ne_true] at d1
  obtain ⟨o, r1, r2⟩ := Read_p (bytesB (inF x2 L))
  rw [readR_bytes hI] at r1
  have hput := Put_p (xs := inF x2 L) hO.1 hO.2.1 (fun r hr => by have := (rightR_ok (hI.2.2 r hr)).1; unfold OkT; omega) (by omega)
  rw [back_p hL x2] at hput
  have hsl2 := SameLines_p (a := inF x2 L) (b := inF x2 L) (by omega)
  have hslL := SameLines_p (a := L) (b := L) (by omega)
  rw [dT rfl] at hsl2 hslL
  refine condF (dF hlong) (bindS (v := ((), ((0, true, ()), [], ()))) rfl (bindS hrun (bindS rfl (bindS (hin hL) (bindS rfl (bindS hcut (bindS hp (bindS hslL (condF rfl (bindS Many_p (condF (by simp) (bindS hi (bindS ht (bindS hsl2 (condF rfl (bindS hi2 (condF (by simp) (bindS Many_p (condF ?_ (bindS (gone_p hL hs) ?_))))))))))))))))))))
  · refine dF ?_
    dsimp only
    rw [w64 (by omega)]; omega
  · refine bindS (v := ((), ((true, false, [], ()), (), ()))) rfl (bindS (Write_g hI) (bindS d1 (bindS (v := ((), ((true, false, bytesB (inF x2 L), ()), (), ()))) (by unfold wire_NewReader clone42; exact bindS (iteT (by dsimp only; omega) rfl) rfl) (bindS r1 (condT rfl (condT rfl (bindS hsl2 (condT rfl (bindS hput (condT rfl (bindS rfl (bindS (hin hL) (bindS hslL rfl)))))))))))))
end Go.Proofs.Ytlmmpfbdgiokmaa
