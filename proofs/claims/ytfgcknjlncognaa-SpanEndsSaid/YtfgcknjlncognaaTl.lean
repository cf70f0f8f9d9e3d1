/- Texts that are lent, and kept; SpanTells, plainly. -/
import Derived.Test.YtfgcknjlncognaaTl0
namespace Go.Proofs.Ytfgcknjlncognaa
open Go.RowKit
set_option maxRecDepth 100000
set_option linter.unusedVariables false
set_option linter.unusedSimpArgs false
theorem b8w (x : Int) : ∃ u, b8 (IntKind.u8.wrap x) = some u := by
  rw [IntKind.wrap_u8]
  unfold b8 g8
  dsimp only
  rw [if_pos (by omega)]
  exact ⟨_, rfl⟩
theorem mark_ex (x : Int) : ∃ t, watershedkit_markText 1 x = some (t, ()) := by
  obtain ⟨u1, h1⟩ := b8w 1
  obtain ⟨u2, h2⟩ := b8w ((1 : Int).fdiv (2 ^ min (8 : Int).toNat (IntKind.i64.bits)))
  obtain ⟨u3, h3⟩ := b8w ((1 : Int).fdiv (2 ^ min (16 : Int).toNat (IntKind.i64.bits)))
  obtain ⟨u4, h4⟩ := b8w x
  obtain ⟨u5, h5⟩ := b8w ((x : Int).fdiv (2 ^ min (8 : Int).toNat (IntKind.i64.bits)))
  obtain ⟨u6, h6⟩ := b8w ((x : Int).fdiv (2 ^ min (16 : Int).toNat (IntKind.i64.bits)))
  unfold watershedkit_markText
  rw [h1, h2, h3, h4, h5, h6]
  exact ⟨_, rfl⟩
noncomputable def mkT (j : Nat) : Tx := (mark_ex (j : Int)).choose
theorem mark_p (j : Nat) : watershedkit_markText 1 (j : Int) = some (mkT j, ()) := (mark_ex (j : Int)).choose_spec
noncomputable def marks (j : Nat) : List Tx := (List.range j).map mkT
theorem marks_len (j : Nat) : (marks j).length = j := by simp [marks]
theorem marks_succ (j : Nat) : marks (j + 1) = marks j ++ [mkT j] := by simp [marks, List.range_succ]
theorem marks_get {j n : Nat} (h : j < n) : (marks n)[j]? = some (mkT j) := by simp [marks, h]
theorem Lent_p {l : List Tx} (hn : l.length ≤ 1000) : watershedkit_LentTexts_x l = some ((l, marks 12), ()) := by
  have hw : IntKind.i64.wrap ((l.length : Int) + 12) = ((l.length + 12 : Nat) : Int) := by rw [w64 (by omega)]; rfl
  have hloop : loopM watershedkit_LentTexts_l1 ((l, (0, l.length, l.length + 12), 0, ()), (l ++ List.replicate 12 [], ())) = some ((l, (0, l.length + 12, l.length + 12), ()), (l ++ marks 12, ())) := by
    refine loopM_run (step := watershedkit_LentTexts_l1) (fun j : Nat => ((l, (0, l.length + j, l.length + 12), (j : Int), ()), (l ++ (marks j ++ List.replicate (12 - j) []), ()))) (N := 12) (fun j hj => ?_) ?_
    · have hml := marks_len j
      unfold watershedkit_LentTexts_l1
      refine condT (dT (by dsimp only; omega)) (bindS (mark_p j) ?_)
      dsimp only
      simp only [List.length_singleton, Nat.zero_add]
      refine iteT (by simp only [List.length_append, List.length_replicate, hml]; omega) ?_
      refine iteT (by omega) ?_
      rw [w64 (by omega)]
      have e1 : (l ++ (marks j ++ List.replicate (12 - j) [])).take (l.length + j) = l ++ marks j := by
        rw [← List.append_assoc]
        exact List.take_left' (by rw [List.length_append, hml])
      have e2 : (l ++ (marks j ++ List.replicate (12 - j) [])).drop (l.length + j + 1) = List.replicate (12 - (j + 1)) [] := by
        rw [← List.append_assoc, List.drop_append, List.drop_of_length_le (by rw [List.length_append, hml]; omega), List.nil_append, List.drop_replicate, List.length_append, hml]
        congr 1
        omega
      rw [e1, e2, marks_succ]
      simp only [List.append_assoc, Nat.add_assoc]
      rfl
    · unfold watershedkit_LentTexts_l1
      exact condF (dF (by dsimp only; omega)) rfl
  have hL : watershedkit_LentTexts l = some ((0, l.length, l.length + 12), (l ++ marks 12, ())) := by
    unfold watershedkit_LentTexts
    simp only [hw, Int.toNat_natCast, Int.toNat_zero, Nat.zero_add, List.take_zero, List.nil_append, Nat.add_zero, Nat.sub_zero, List.length_replicate, List.drop_replicate, Nat.add_sub_cancel_left]
    refine iteT (by omega) ?_
    refine iteT (by omega) ?_
    refine iteT (by omega) ?_
    refine bindS hloop ?_
    dsimp only
    refine iteT (by omega) ?_
    simp
  unfold watershedkit_LentTexts_x
  refine bindS hL ?_
  dsimp only
  refine iteT ⟨rfl, by rw [List.length_append]; omega, by rw [List.length_append, marks_len]; omega⟩ ?_
  rw [List.take_left, List.drop_left]
theorem Kept_p {l : List Tx} (hn : l.length ≤ 1000) : watershedkit_KeptTexts (l, marks 12) l = some (true, ()) := by
  have hw : IntKind.i64.wrap ((l.length : Int) + 12) = ((l.length + 12 : Nat) : Int) := by rw [w64 (by omega)]; rfl
  have hml := marks_len 12
  have hloop : loopM watershedkit_KeptTexts_l1 ((l, l ++ marks 12, 0, ()), ()) = some (.inr ((), ())) := by
    refine loopM_run (step := watershedkit_KeptTexts_l1) (fun j : Nat => ((l, l ++ marks 12, (j : Int), ()), ())) (N := l.length + 12) (fun j hj => ?_) ?_
    · unfold watershedkit_KeptTexts_l1
      refine condT (dT (by dsimp only; rw [List.length_append]; omega)) ?_
      by_cases hjl : j < l.length
      · refine condT (dT (by dsimp only; omega)) ?_
        refine bindS (v := l[j]) (by dsimp only; rw [getI_nat, List.getElem?_append_left hjl, List.getElem?_eq_getElem hjl]) ?_
        refine bindS (getI_lt hjl) ?_
        refine condF (by simp) ?_
        refine condF (dF (by dsimp only; omega)) ?_
        dsimp only
        rw [w64 (by omega)]
        rfl
      · refine condF (dF (by dsimp only; omega)) ?_
        refine condT (dT (by dsimp only; omega)) ?_
        refine bindS (v := mkT (j - l.length)) (by dsimp only; rw [getI_nat, List.getElem?_append_right (by omega)]; exact marks_get (by omega)) ?_
        refine bindS (v := (mkT (j - l.length), ())) (by
          dsimp only
          rw [w64 (by omega), show (j : Int) - (l.length : Int) = ((j - l.length : Nat) : Int) from by omega]
          exact mark_p _) ?_
        refine condF (by simp) ?_
        dsimp only
        rw [w64 (by omega)]
        rfl
    · unfold watershedkit_KeptTexts_l1
      exact condF (dF (by dsimp only; rw [List.length_append]; omega)) rfl
  unfold watershedkit_KeptTexts
  refine condF (dF (by simp)) ?_
  simp only [hw, Int.toNat_natCast, Int.toNat_zero, List.drop_zero, Nat.sub_zero]
  refine iteT (by rw [List.length_append, hml]; omega) ?_
  rw [List.take_of_length_le (by rw [List.length_append, hml]; omega)]
  exact bindS hloop rfl
theorem SpanTells_p (x0 x1 : DSpan) (x2 : List Tx) (k0 : ok_DSpan x0) (k1 : ok_DSpan x1) (k2 : ok_LListUInt8 x2) : watershedlaw04_SpanTells x0 x1 x2 = some (true, ()) := by
  have hs : OkSp x0 := .of k0
  have ht : OkSp x1 := .of k1
  unfold watershedlaw04_SpanTells
  refine bindS awake_p (condF rfl ?_)
  have hroom := k2.room
  refine iteT (by simp only [List.length_cons, List.length_nil]; omega) ?_
  obtain ⟨r, hr, hr2⟩ := few_q ([x0.lo, x0.hi, x1.lo, x1.hi] ++ x2) (by simp only [List.length_append, List.length_cons, List.length_nil]; omega)
  refine bindS hr ?_
  cases r with
  | false => exact condT rfl rfl
  | true =>
  have hl2 : x2.length ≤ 60 := by have := hr2 rfl; simp only [List.length_append] at this; omega
  refine condF rfl (bindS (Meet_p hs ht) (bindS (refMeet_p hs ht) (condF (by simp) (condF (by simp) (bindS (Within_p hs ht) (bindS (refWithin_p hs ht) (condF (by simp) (bindS (Right_p hs) (bindS (refRight_p hs) (condF (by simp) ?_))))))))))
  have hloop : loopM watershedlaw04_SpanTells_l1 ((x2, (), 0, ()), (x0, ())) = some (.inr ((x2, (), ()), (x0, ()))) := by
    refine loopM_run (step := watershedlaw04_SpanTells_l1) (fun j : Nat => ((x2, (), (j : Int), ()), (x0, ()))) (N := x2.length) (fun j hj => ?_) ?_
    · have hkj : OkT x2[j] := k2.all _ (List.getElem_mem hj)
      unfold watershedlaw04_SpanTells_l1
      refine condT (dT (by dsimp only; omega)) (bindS (getI_lt hj) (bindS (getI_lt hj) (bindS (Key_p hkj) (bindS (refKey_p hkj) (condF (by simp) (bindS (getI_lt hj) (bindS (getI_lt hj) (bindS (Has_p hs hkj) (bindS (refHas_p hs hkj) (condF (by simp) ?_))))))))))
      dsimp only
      rw [w64 (by omega)]
      rfl
    · unfold watershedlaw04_SpanTells_l1
      exact condF (dF (by dsimp only; omega)) rfl
  have hpl := pieces_len x0 x2
  refine bindS hloop ?_
  refine bindS (Lent_p (l := x2) (by omega)) (bindS (Cut_q (xs := x2) hs k2.all (by omega)) (bindS (refCut_p (at_ := x2) hs k2.all (by omega)) (bindS (same_p (piecesF x0 x2) (by omega)) (condT rfl (bindS (Kept_p (l := x2) (by omega)) rfl)))))
end Go.Proofs.Ytfgcknjlncognaa
