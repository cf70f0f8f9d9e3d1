/- The nodes of a configuration, by the program and by the reference. -/
import Derived.Test.YthlalhjocefbbaaQr
import Derived.Test.YthlalhjocefbbaaQc
namespace Go.Proofs.Ythlalhjocefbbaa
open Go.RowKit
set_option maxRecDepth 100000
set_option linter.unusedVariables false
set_option linter.unusedSimpArgs false
theorem flat_le (rows : List (List Int)) (i : Nat) : (rows.take i).flatten.length ≤ rows.flatten.length := by
  conv => rhs; rw [← List.take_append_drop i rows, List.flatten_append, List.length_append]
  omega
theorem Concat_p (rows : List (List Int)) (hr : rows.length ≤ 1000) (hf : rows.flatten.length ≤ 1000) : slices_Concat rows = some (rows.flatten.length, (rows.flatten, ())) := by
  have hstep : ∀ {i : Nat} (hi : i < rows.length), (rows.take (i + 1)).flatten = (rows.take i).flatten ++ rows[i] := fun {i} hi => by
    rw [List.take_succ_eq_append_getElem hi, List.flatten_append]; simp
  have k1 : loopM slices_Concat_l1 ((rows, 0, rows, (rows.length : Int), 0, ()), ()) = some ((rows, (rows.flatten.length : Int), ()), ()) := by
    refine loopM_run (step := slices_Concat_l1) (fun i : Nat => ((rows, (((rows.take i).flatten.length : Nat) : Int), rows, (rows.length : Int), (i : Int), ()), ())) (N := rows.length) (fun i hi => ?_) ?_
    · have h1 := flat_le rows (i + 1)
      rw [hstep hi, List.length_append] at h1
      unfold slices_Concat_l1
      refine condT (dT (by dsimp only; omega)) (bindS (getI_lt hi) ?_)
      dsimp only
      rw [w64 (by omega), w64 (by omega)]
      refine condF (dF (by omega)) ?_
      rw [hstep hi, List.length_append, Int.natCast_add]
      rfl
    · unfold slices_Concat_l1
      refine condF (dF (by dsimp only; omega)) ?_
      dsimp only
      rw [List.take_length]
  have k2 : loopM slices_Concat_l2 ((0, rows, (rows.length : Int), 0, ()), ([], ())) = some ((rows.flatten.length, ()), ((), rows.flatten, ())) := by
    refine loopM_run (step := slices_Concat_l2) (fun i : Nat => (((rows.take i).flatten.length, rows, (rows.length : Int), (i : Int), ()), ((rows.take i).flatten, ()))) (N := rows.length) (fun i hi => ?_) ?_
    · have h1 := flat_le rows (i + 1)
      rw [hstep hi, List.length_append] at h1
      unfold slices_Concat_l2
      refine condT (dT (by dsimp only; omega)) (bindS (getI_lt hi) (iteT (by dsimp only; omega) ?_))
      dsimp only
      rw [w64 (by omega), hstep hi, List.length_append, List.take_length]
      rfl
    · unfold slices_Concat_l2
      refine condF (dF (by dsimp only; omega)) ?_
      dsimp only
      rw [List.take_length]
  unfold slices_Concat
  refine bindS k1 ?_
  refine bindS (v := (0, ([], ()))) (by unfold growN55; exact iteT (by dsimp only; omega) rfl) ?_
  exact bindS k2 rfl
def nodesF (c : DConfig) : List Int := dd ((c.voters ++ (c.old ++ c.learners)).mergeSort leI)
theorem nodes_len (c : DConfig) (hc : c.few) : (nodesF c).length ≤ 120 := by
  obtain ⟨h1, h2, h3, h4⟩ := hc
  have := dd_len ((c.voters ++ (c.old ++ c.learners)).mergeSort leI)
  rw [List.length_mergeSort] at this
  simp only [List.length_append] at this
  unfold nodesF
  omega
theorem Nodes_p (c : DConfig) (hc : c.few) : ∃ arr : List Int, quorum_Nodes c = some ((0, (nodesF c).length), (arr, ())) ∧ arr.take (nodesF c).length = nodesF c := by
  obtain ⟨h1, h2, h3, h4⟩ := id hc
  have hfl : ([c.voters, c.old, c.learners] : List (List Int)).flatten = c.voters ++ (c.old ++ c.learners) := by simp
  have hl : (c.voters ++ (c.old ++ c.learners)).length ≤ 120 := by simp only [List.length_append]; omega
  obtain ⟨arr, g1, g2⟩ := CompactI_p (xs := (c.voters ++ (c.old ++ c.learners)).mergeSort leI) (by rw [List.length_mergeSort]; omega)
  refine ⟨arr, ?_, g2⟩
  unfold quorum_Nodes
  refine bindS (Concat_p _ (by simp) (by rw [hfl]; omega)) ?_
  rw [hfl]
  refine bindS (v := ((), ((c.voters ++ (c.old ++ c.learners)).mergeSort leI, ()))) (by unfold sortI; exact iteT ⟨rfl, by dsimp only; omega⟩ rfl) ?_
  rw [List.length_mergeSort] at g1
  exact bindS g1 rfl
/-- The least of a number and others. -/
def minF (m : Int) : List Int → Int
  | [] => m
  | a :: l => minF (if a < m then a else m) l
theorem minF_le : ∀ (m : Int) (l : List Int), minF m l ≤ m ∧ ∀ x ∈ l, minF m l ≤ x
  | m, [] => ⟨Int.le_refl _, fun x h => by cases h⟩
  | m, a :: l => by
    obtain ⟨h1, h2⟩ := minF_le (if a < m then a else m) l
    show minF (if a < m then a else m) l ≤ m ∧ ∀ x ∈ a :: l, minF (if a < m then a else m) l ≤ x
    by_cases ha : a < m
    · rw [if_pos ha] at h1 h2 ⊢
      refine ⟨by omega, fun x hx => ?_⟩
      rcases List.mem_cons.1 hx with rfl | hx
      · exact h1
      · exact h2 x hx
    · rw [if_neg ha] at h1 h2 ⊢
      refine ⟨h1, fun x hx => ?_⟩
      rcases List.mem_cons.1 hx with rfl | hx
      · omega
      · exact h2 x hx
theorem minF_mem : ∀ (m : Int) (l : List Int), minF m l = m ∨ minF m l ∈ l
  | m, [] => .inl rfl
  | m, a :: l => by
    show minF (if a < m then a else m) l = m ∨ minF (if a < m then a else m) l ∈ a :: l
    rcases minF_mem (if a < m then a else m) l with h | h
    · by_cases ha : a < m
      · right; rw [if_pos ha] at h ⊢; rw [h]; exact List.mem_cons_self
      · left; rw [if_neg ha] at h ⊢; exact h
    · right; exact List.mem_cons_of_mem _ h
theorem refLeast_p (all out : List Int) (hl : all.length ≤ 1000) (m : Int) : loopM watershedref06_Nodes_l2 ((all, out, m, 0, ()), ((), (), ())) = some ((all, out, minF m all, ()), ((), (), (), (), ())) := by
  refine loopM_eq_of (fun n a => ∃ (i : Nat) (q : Int), a = ((all, out, q, (i : Int), ()), ((), (), ())) ∧ i ≤ all.length ∧ minF q (all.drop i) = minF m all ∧ n = all.length - i) _ ?_ (n := all.length) ⟨0, m, rfl, Nat.zero_le _, rfl, rfl⟩
  rintro n a ⟨i, q, rfl, g1, g2, rfl⟩
  unfold watershedref06_Nodes_l2
  by_cases hi : i < all.length
  · rw [List.drop_eq_getElem_cons hi] at g2
    left
    refine ⟨all.length - (i + 1), _, by omega, condT (dT (by dsimp only; omega)) (bindS (getI_lt hi) rfl), i + 1, (if all[i] < q then all[i] else q), ?_, by omega, g2, rfl⟩
    dsimp only
    rw [w64 (by omega)]; rfl
  · right
    obtain rfl : i = all.length := by omega
    rw [List.drop_length] at g2
    refine condF (dF (by dsimp only; omega)) ?_
    dsimp only
    rw [← g2]; rfl
theorem refNodesL_p : ∀ (n : Nat) (all out : List Int), all.length ≤ n → n ≤ 1000 → out.length + n ≤ 1000 → ∃ r, loopM watershedref06_Nodes_l1 ((all, out, ()), ((), (), ())) = some ((out ++ r, ()), ((), (), (), ())) ∧ r.Pairwise (· < ·) ∧ ∀ x, x ∈ r ↔ x ∈ all
  | 0, all, out, h, _, _ => by
    obtain rfl : all = [] := List.length_eq_zero_iff.1 (by omega)
    refine ⟨[], loopM_end (by unfold watershedref06_Nodes_l1; rw [List.append_nil]; exact condF rfl rfl), .nil, fun x => Iff.rfl⟩
  | n + 1, [], out, h, _, _ => ⟨[], loopM_end (by unfold watershedref06_Nodes_l1; rw [List.append_nil]; exact condF rfl rfl), .nil, fun x => Iff.rfl⟩
  | n + 1, a :: l, out, h, h2, h3 => by
    have hle := minF_le a (a :: l)
    have hmem : minF a (a :: l) ∈ a :: l := by
      rcases minF_mem a (a :: l) with h | h
      · rw [h]; exact List.mem_cons_self
      · exact h
    generalize hm : minF a (a :: l) = m at *
    have hless : (woL (a :: l) [m]).length ≤ n := by
      have : (woL (a :: l) [m]).length < (a :: l).length := by
        unfold woL
        exact List.length_filter_lt_length_iff_exists.2 ⟨m, hmem, by simp⟩
      omega
    obtain ⟨r, r1, r2, r3⟩ := refNodesL_p n (woL (a :: l) [m]) (out ++ [m]) hless (by omega) (by rw [List.length_append, List.length_singleton]; omega)
    refine ⟨m :: r, ?_, List.pairwise_cons.2 ⟨fun x hx => ?_, r2⟩, fun x => ?_⟩
    · rw [show out ++ m :: r = out ++ [m] ++ r from by simp, ← r1]
      refine loopM_next ?_
      unfold watershedref06_Nodes_l1
      refine condT (dT (by dsimp only; simp only [List.length_cons]; omega)) (bindS (v := a) rfl ?_)
      refine bindS (refLeast_p (a :: l) out (by omega) a) ?_
      rw [hm]
      refine iteT (by dsimp only; simp only [List.length_singleton]; omega) ?_
      exact bindS (refLess_p _ _ (by dsimp only; omega) (by simp)) rfl
    · have h1 := woL_mem.1 ((r3 x).1 hx)
      have h2 := hle.2 x h1.1
      have h3 : x ≠ m := fun e => h1.2 (by rw [e]; exact List.mem_singleton.2 rfl)
      omega
    · rw [List.mem_cons, r3, woL_mem, List.mem_singleton]
      constructor
      · rintro (rfl | h)
        · exact hmem
        · exact h.1
      · intro h
        by_cases e : x = m
        · exact .inl e
        · exact .inr ⟨h, e⟩
theorem refNodes_p (c : DConfig) (hc : c.few) : watershedref06_Nodes c = some (nodesF c, ((), ())) := by
  obtain ⟨h1, h2, h3, h4⟩ := id hc
  obtain ⟨r, r1, r2, r3⟩ := refNodesL_p 120 (c.voters ++ c.old ++ c.learners) [] (by simp only [List.length_append]; omega) (by omega) (by simp)
  have hr : r = nodesF c := sorted_ext r2 (dd_lt (sortI_pw _)) fun x => by
    rw [r3]; unfold nodesF; rw [mem_dd, List.mem_mergeSort, List.append_assoc]
  unfold watershedref06_Nodes
  refine iteT (by simp only [List.length_nil]; omega) (iteT (by simp only [List.length_append, List.length_nil]; omega) (iteT (by simp only [List.length_append, List.length_nil]; omega) ?_))
  rw [List.nil_append] at r1 ⊢
  refine bindS r1 ?_
  rw [hr]
end Go.Proofs.Ythlalhjocefbbaa
