/- Rows that are lent, and kept (written by plain15.py). -/
import Derived.Test.YtlmmpfbdgiokmaaGreatRar
import Derived.Test.YtlmmpfbdgiokmaaGreatAv
namespace Go.Proofs.YtlmmpfbdgiokmaaGreat
open Go.RowKit
set_option maxRecDepth 100000
set_option linter.unusedVariables false
set_option linter.unusedSimpArgs false
def noRow : DRow := ⟨[], []⟩
theorem b8_w (n : Int) : ∃ u, b8 (IntKind.u8.wrap n) = some u := b8_any n
theorem mark_ex (x : Int) : ∃ t, watershedkit_markRow 1 x = some (t, ()) := by
  obtain ⟨u2, h2⟩ := b8_w 1
  obtain ⟨u3, h3⟩ := b8_w ((1 : Int).fdiv (2 ^ min (8 : Int).toNat (IntKind.i64.bits)))
  obtain ⟨u4, h4⟩ := b8_w ((1 : Int).fdiv (2 ^ min (16 : Int).toNat (IntKind.i64.bits)))
  obtain ⟨u6, h6⟩ := b8_w x
  obtain ⟨u7, h7⟩ := b8_w (x.fdiv (2 ^ min (8 : Int).toNat (IntKind.i64.bits)))
  obtain ⟨u8, h8⟩ := b8_w (x.fdiv (2 ^ min (16 : Int).toNat (IntKind.i64.bits)))
  unfold watershedkit_markRow watershedkit_markText
  exact ⟨_, bindS (bindS rfl (bindS h2 (bindS h3 (bindS h4 (bindS rfl (bindS h6 (bindS h7 (bindS h8 rfl)))))))) rfl⟩
noncomputable def mkT (j : Nat) : DRow := (mark_ex (j : Int)).choose
theorem mark_p (j : Nat) : watershedkit_markRow 1 (j : Int) = some (mkT j, ()) := (mark_ex (j : Int)).choose_spec
noncomputable def marks (j : Nat) : List DRow := (List.range j).map mkT
theorem marks_len (j : Nat) : (marks j).length = j := by simp [marks]
theorem marks_succ (j : Nat) : marks (j + 1) = marks j ++ [mkT j] := by simp [marks, List.range_succ]
theorem marks_get {j n : Nat} (h : j < n) : (marks n)[j]? = some (mkT j) := by simp [marks, h]
theorem Lent_p {l : List DRow} (hn : l.length ≤ 1200) : watershedkit_LentLines_x l = some ((l, marks 12), ()) := by
  have hw : IntKind.i64.wrap ((l.length : Int) + 12) = ((l.length + 12 : Nat) : Int) := by rw [w64 (by omega)]; rfl
  have hloop : loopM watershedkit_LentLines_l1 ((l, (0, l.length, l.length + 12), 0, ()), (l ++ List.replicate 12 noRow, ())) = some ((l, (0, l.length + 12, l.length + 12), ()), (l ++ marks 12, ())) := by
    refine loopM_run (step := watershedkit_LentLines_l1) (fun j : Nat => ((l, (0, l.length + j, l.length + 12), (j : Int), ()), (l ++ (marks j ++ List.replicate (12 - j) noRow), ()))) (N := 12) (fun j hj => ?_) ?_
    · have hml := marks_len j
      unfold watershedkit_LentLines_l1
      refine condT (dT (by dsimp only; omega)) (bindS (mark_p j) ?_)
      dsimp only
      simp only [List.length_singleton, Nat.zero_add]
      refine iteT (by simp only [List.length_append, List.length_replicate, hml]; omega) ?_
      refine iteT (by omega) ?_
      rw [w64 (by omega)]
      have e1 : (l ++ (marks j ++ List.replicate (12 - j) noRow)).take (l.length + j) = l ++ marks j := by
        rw [← List.append_assoc]
        exact List.take_left' (by rw [List.length_append, hml])
      have e2 : (l ++ (marks j ++ List.replicate (12 - j) noRow)).drop (l.length + j + 1) = List.replicate (12 - (j + 1)) noRow := by
        rw [← List.append_assoc, List.drop_append, List.drop_of_length_le (by rw [List.length_append, hml]; omega), List.nil_append, List.drop_replicate, List.length_append, hml]
        congr 1
        omega
      rw [e1, e2, marks_succ]
      simp only [List.append_assoc, Nat.add_assoc]
      rfl
    · unfold watershedkit_LentLines_l1
      exact condF (dF (by dsimp only; omega)) rfl
  have hL : watershedkit_LentLines l = some ((0, l.length, l.length + 12), (l ++ marks 12, ())) := by
    unfold watershedkit_LentLines
    simp only [hw, Int.toNat_natCast, Int.toNat_zero, Nat.zero_add, List.take_zero, List.nil_append, Nat.add_zero, Nat.sub_zero, List.length_replicate, List.drop_replicate, Nat.add_sub_cancel_left]
    refine iteT (by omega) ?_
    refine iteT (by omega) ?_
    refine iteT (by omega) ?_
    refine bindS hloop ?_
    dsimp only
    refine iteT (by omega) ?_
    simp
  unfold watershedkit_LentLines_x
  refine bindS hL ?_
  dsimp only
  refine iteT ⟨rfl, by rw [List.length_append]; omega, by rw [List.length_append, marks_len]; omega⟩ ?_
  rw [List.take_left, List.drop_left]
theorem Kept_p {l : List DRow} (hn : l.length ≤ 1200) : watershedkit_KeptLines (l, marks 12) l = some (true, ()) := by
  have hw : IntKind.i64.wrap ((l.length : Int) + 12) = ((l.length + 12 : Nat) : Int) := by rw [w64 (by omega)]; rfl
  have hml := marks_len 12
  have hloop : loopM watershedkit_KeptLines_l1 ((l, l ++ marks 12, 0, ()), ()) = some (.inr ((), ())) := by
    refine loopM_run (step := watershedkit_KeptLines_l1) (fun j : Nat => ((l, l ++ marks 12, (j : Int), ()), ())) (N := l.length + 12) (fun j hj => ?_) ?_
    · unfold watershedkit_KeptLines_l1
      refine condT (dT (by dsimp only; rw [List.length_append]; omega)) ?_
      by_cases hjl : j < l.length
      · refine condT (dT (by dsimp only; omega)) ?_
        refine bindS (v := l[j]) (by dsimp only; rw [getI_nat, List.getElem?_append_left hjl, List.getElem?_eq_getElem hjl]) ?_
        refine bindS (getI_lt hjl) ?_
        refine condF (by simp) ?_
        refine condF (dF (by dsimp only; omega)) ?_
        dsimp only
        rw [w64 (by omega)]
        rfl
      · refine condF (dF (by dsimp only; omega)) ?_
        refine condT (dT (by dsimp only; omega)) ?_
        refine bindS (v := mkT (j - l.length)) (by dsimp only; rw [getI_nat, List.getElem?_append_right (by omega)]; exact marks_get (by omega)) ?_
        refine bindS (v := (mkT (j - l.length), ())) (by
          dsimp only
          rw [w64 (by omega), show (j : Int) - (l.length : Int) = ((j - l.length : Nat) : Int) from by omega]
          exact mark_p _) ?_
        refine condF (by simp) ?_
        dsimp only
        rw [w64 (by omega)]
        rfl
    · unfold watershedkit_KeptLines_l1
      exact condF (dF (by dsimp only; rw [List.length_append]; omega)) rfl
  unfold watershedkit_KeptLines
  refine condF (dF (by simp)) ?_
  simp only [hw, Int.toNat_natCast, Int.toNat_zero, List.drop_zero, Nat.sub_zero]
  refine iteT (by rw [List.length_append, hml]; omega) ?_
  rw [List.take_of_length_le (by rw [List.length_append, hml]; omega)]
  exact bindS hloop rfl
end Go.Proofs.YtlmmpfbdgiokmaaGreat
