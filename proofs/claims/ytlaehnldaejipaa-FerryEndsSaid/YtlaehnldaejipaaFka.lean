/- Numbers and bytes: the same, lent, kept (written by plain13b.py). -/
import Derived.Test.YtlaehnldaejipaaG1
import Derived.Test.YtlaehnldaejipaaPl
namespace Go.Proofs.Ytlaehnldaejipaa
open Go.RowKit
set_option maxRecDepth 100000
set_option linter.unusedVariables false
set_option linter.unusedSimpArgs false
theorem acc_p {α : Type} {xs t : List α} {i : Nat} (hi : i < xs.length) : (xs ++ t)[0 + ((i : Nat) : Int).toNat]? = some xs[i] := by
  rw [Int.toNat_natCast, Nat.zero_add, List.getElem?_append_left hi, List.getElem?_eq_getElem hi]
theorem mark_ex (x : Int) : ∃ t, wk_mark 1 x = some (t, ()) := ⟨_, rfl⟩
noncomputable def mkT (j : Nat) : Int := (mark_ex (j : Int)).choose
theorem mark_p (j : Nat) : wk_mark 1 (j : Int) = some (mkT j, ()) := (mark_ex (j : Int)).choose_spec
noncomputable def marks (j : Nat) : List Int := (List.range j).map mkT
theorem marks_len (j : Nat) : (marks j).length = j := by simp [marks]
theorem marks_succ (j : Nat) : marks (j + 1) = marks j ++ [mkT j] := by simp [marks, List.range_succ]
theorem b8_u (u : UInt8) : b8 (u.toNat : Int) = some u := by
  have := u.toNat_lt
  unfold b8 g8
  dsimp only
  rw [if_pos (by omega)]
  simp
theorem markByte_ex (k x : Int) : ∃ u : UInt8, wk_markByte k x = some ((u.toNat : Int), ()) := by
  have hw : ∀ z : Int, ∃ u : UInt8, IntKind.u8.wrap z = (u.toNat : Int) := fun z => by
    have h : 0 ≤ IntKind.u8.wrap z ∧ IntKind.u8.wrap z < 256 := by simp [IntKind.wrap, IntKind.bits, IntKind.signed]; omega
    refine ⟨UInt8.ofNat (IntKind.u8.wrap z).toNat, ?_⟩
    rw [UInt8.toNat_ofNat_of_lt' (by show (IntKind.u8.wrap z).toNat < 256; omega)]
    omega
  obtain ⟨y, hy⟩ : ∃ y, wk_mark k x = some (y, ()) := ⟨_, rfl⟩
  obtain ⟨u, hu⟩ := hw ((IntKind.u64.wrap (IntKind.u64.wrap y * 11400714819323198485) : Int).fdiv (2 ^ min (56 : Int).toNat (IntKind.u64.bits)))
  exact ⟨u, by unfold wk_markByte; rw [hy]; simp only [Option.bind_some]; rw [← hu]⟩
noncomputable def mkB (j : Nat) : UInt8 := (markByte_ex 1 (j : Int)).choose
theorem markB_p (j : Nat) : wk_markByte 1 (j : Int) = some (((mkB j).toNat : Int), ()) := (markByte_ex 1 (j : Int)).choose_spec
noncomputable def marksB (j : Nat) : List UInt8 := (List.range j).map mkB
theorem marksB_len (j : Nat) : (marksB j).length = j := by simp [marksB]
theorem marksB_succ (j : Nat) : marksB (j + 1) = marksB j ++ [mkB j] := by simp [marksB, List.range_succ]
theorem accM_p {xs : List Int} {j : Nat} (h1 : xs.length ≤ j) (h2 : j < xs.length + 12) : (xs ++ marks 12)[0 + ((j : Nat) : Int).toNat]? = some (mkT (j - xs.length)) := by
  rw [Int.toNat_natCast, Nat.zero_add, List.getElem?_append_right h1]
  simp [marks, show j - xs.length < 12 by omega]
theorem accMB_p {xs : List UInt8} {j : Nat} (h1 : xs.length ≤ j) (h2 : j < xs.length + 12) : (xs ++ marksB 12)[0 + ((j : Nat) : Int).toNat]? = some (mkB (j - xs.length)) := by
  rw [Int.toNat_natCast, Nat.zero_add, List.getElem?_append_right h1]
  simp [marksB, show j - xs.length < 12 by omega]
theorem LentInts_p {l : List Int} (hn : l.length ≤ 1000000) : wk_LentInts l = some ((0, l.length, l.length + 12), (l ++ marks 12, ())) := by
  have hw : IntKind.i64.wrap ((l.length : Int) + 12) = ((l.length + 12 : Nat) : Int) := by rw [w64 (by omega)]; rfl
  have hloop : loopM wk_LentInts_l1 ((l, (0, l.length, l.length + 12), 0, ()), (l ++ List.replicate 12 (0 : Int), ())) = some ((l, (0, l.length + 12, l.length + 12), ()), (l ++ marks 12, ())) := by
    refine loopM_run (step := wk_LentInts_l1) (fun j : Nat => ((l, (0, l.length + j, l.length + 12), (j : Int), ()), (l ++ (marks j ++ List.replicate (12 - j) (0 : Int)), ()))) (N := 12) (fun j hj => ?_) ?_
    · have hml := marks_len j
      unfold wk_LentInts_l1
      refine condT (dT (by dsimp only; omega)) (bindS (mark_p j) ?_)
      dsimp only
      simp only [List.length_singleton, Nat.zero_add]
      refine iteT (by simp only [List.length_append, List.length_replicate, hml]; omega) ?_
      refine iteT (by omega) ?_
      rw [w64 (by omega)]
      have e1 : (l ++ (marks j ++ List.replicate (12 - j) (0 : Int))).take (l.length + j) = l ++ marks j := by
        rw [← List.append_assoc]
        exact List.take_left' (by rw [List.length_append, hml])
      have e2 : (l ++ (marks j ++ List.replicate (12 - j) (0 : Int))).drop (l.length + j + 1) = List.replicate (12 - (j + 1)) (0 : Int) := by
        rw [← List.append_assoc, List.drop_append, List.drop_of_length_le (by rw [List.length_append, hml]; omega), List.nil_append, List.drop_replicate, List.length_append, hml]
        congr 1
        omega
      rw [e1, e2, marks_succ]
      simp only [List.append_assoc, Nat.add_assoc]
      rfl
    · unfold wk_LentInts_l1
      exact condF (dF (by dsimp only; omega)) rfl
  unfold wk_LentInts
  simp only [hw, Int.toNat_natCast, Int.toNat_zero, Nat.zero_add, List.take_zero, List.nil_append, Nat.add_zero, Nat.sub_zero, List.length_replicate, List.drop_replicate, Nat.add_sub_cancel_left]
  refine iteT (by omega) ?_
  refine iteT (by omega) ?_
  refine iteT (by omega) ?_
  refine bindS hloop ?_
  dsimp only
  refine iteT (by omega) ?_
  simp
theorem LentBytes_p {l : List UInt8} (hn : l.length ≤ 1000000) : wk_LentBytes l = some ((0, l.length, l.length + 12), (l ++ marksB 12, ())) := by
  have hw : IntKind.i64.wrap ((l.length : Int) + 12) = ((l.length + 12 : Nat) : Int) := by rw [w64 (by omega)]; rfl
  have hloop : loopM wk_LentBytes_l1 ((l, (0, l.length, l.length + 12), 0, ()), (l ++ List.replicate 12 (0 : UInt8), ())) = some ((l, (0, l.length + 12, l.length + 12), ()), (l ++ marksB 12, ())) := by
    refine loopM_run (step := wk_LentBytes_l1) (fun j : Nat => ((l, (0, l.length + j, l.length + 12), (j : Int), ()), (l ++ (marksB j ++ List.replicate (12 - j) (0 : UInt8)), ()))) (N := 12) (fun j hj => ?_) ?_
    · have hml := marksB_len j
      unfold wk_LentBytes_l1
      refine condT (dT (by dsimp only; omega)) (bindS (markB_p j) (bindS (b8_u _) ?_))
      dsimp only
      simp only [List.length_singleton, Nat.zero_add]
      refine iteT (by simp only [List.length_append, List.length_replicate, hml]; omega) ?_
      refine iteT (by omega) ?_
      rw [w64 (by omega)]
      have e1 : (l ++ (marksB j ++ List.replicate (12 - j) (0 : UInt8))).take (l.length + j) = l ++ marksB j := by
        rw [← List.append_assoc]
        exact List.take_left' (by rw [List.length_append, hml])
      have e2 : (l ++ (marksB j ++ List.replicate (12 - j) (0 : UInt8))).drop (l.length + j + 1) = List.replicate (12 - (j + 1)) (0 : UInt8) := by
        rw [← List.append_assoc, List.drop_append, List.drop_of_length_le (by rw [List.length_append, hml]; omega), List.nil_append, List.drop_replicate, List.length_append, hml]
        congr 1
        omega
      rw [e1, e2, marksB_succ]
      simp only [List.append_assoc, Nat.add_assoc]
      rfl
    · unfold wk_LentBytes_l1
      exact condF (dF (by dsimp only; omega)) rfl
  unfold wk_LentBytes
  simp only [hw, Int.toNat_natCast, Int.toNat_zero, Nat.zero_add, List.take_zero, List.nil_append, Nat.add_zero, Nat.sub_zero, List.length_replicate, List.drop_replicate, Nat.add_sub_cancel_left]
  refine iteT (by omega) ?_
  refine iteT (by omega) ?_
  refine iteT (by omega) ?_
  refine bindS hloop ?_
  dsimp only
  refine iteT (by omega) ?_
  simp
theorem SameInts_p {xs t : List Int} (hn : xs.length ≤ 1000000) : wk_SameInts xs xs.length (xs ++ t) = some (true, (xs ++ t, ())) := by
  unfold wk_SameInts
  refine condF (by simp) ?_
  refine bindS (loopM_run (step := wk_SameInts_l1) (fun i : Nat => ((xs, xs.length, (i : Int), ()), (xs ++ t, ()))) (N := xs.length) (b := .inr ((), (xs ++ t, ()))) (fun i hi => ?_) ?_) rfl
  · unfold wk_SameInts_l1
    refine condT (dT (by dsimp only; omega)) ?_
    refine bindS (getI_lt hi) ?_
    refine iteT (by dsimp only; omega) ?_
    refine bindS (v := xs[i]) (acc_p hi) ?_
    refine condF (by simp) ?_
    dsimp only
    rw [w64 (by omega)]
    rfl
  · unfold wk_SameInts_l1
    exact condF (dF (by dsimp only; omega)) rfl
theorem SameBytes_p {xs t : List UInt8} (hn : xs.length ≤ 1000000) : wk_SameBytes xs xs.length (xs ++ t) = some (true, (xs ++ t, ())) := by
  unfold wk_SameBytes
  refine condF (by simp) ?_
  refine bindS (loopM_run (step := wk_SameBytes_l1) (fun i : Nat => ((xs, xs.length, (i : Int), ()), (xs ++ t, ()))) (N := xs.length) (b := .inr ((), (xs ++ t, ()))) (fun i hi => ?_) ?_) rfl
  · unfold wk_SameBytes_l1
    refine condT (dT (by dsimp only; omega)) ?_
    refine bindS (getI_lt hi) ?_
    refine iteT (by dsimp only; omega) ?_
    refine bindS (v := xs[i]) (acc_p hi) ?_
    refine condF (by simp) ?_
    dsimp only
    rw [w64 (by omega)]
    rfl
  · unfold wk_SameBytes_l1
    exact condF (dF (by dsimp only; omega)) rfl
theorem SameInts_2_p {xs : List Int} (hn : xs.length ≤ 1000000) : wk_SameInts_2 xs xs = some (true, ()) := by
  unfold wk_SameInts_2
  refine condF (by simp) ?_
  refine bindS (loopM_run (step := wk_SameInts_2_l1) (fun i : Nat => ((xs, xs, (i : Int), ()), ())) (N := xs.length) (b := .inr ((), ())) (fun i hi => ?_) ?_) rfl
  · unfold wk_SameInts_2_l1
    refine condT (dT (by dsimp only; omega)) ?_
    refine bindS (getI_lt hi) ?_
    refine bindS (getI_lt hi) ?_
    refine condF (by simp) ?_
    dsimp only
    rw [w64 (by omega)]
    rfl
  · unfold wk_SameInts_2_l1
    exact condF (dF (by dsimp only; omega)) rfl
theorem SameBytes_2_p {xs : List UInt8} (hn : xs.length ≤ 1000000) : wk_SameBytes_2 xs xs = some (true, ()) := by
  unfold wk_SameBytes_2
  refine condF (by simp) ?_
  refine bindS (loopM_run (step := wk_SameBytes_2_l1) (fun i : Nat => ((xs, xs, (i : Int), ()), ())) (N := xs.length) (b := .inr ((), ())) (fun i hi => ?_) ?_) rfl
  · unfold wk_SameBytes_2_l1
    refine condT (dT (by dsimp only; omega)) ?_
    refine bindS (getI_lt hi) ?_
    refine bindS (getI_lt hi) ?_
    refine condF (by simp) ?_
    dsimp only
    rw [w64 (by omega)]
    rfl
  · unfold wk_SameBytes_2_l1
    exact condF (dF (by dsimp only; omega)) rfl
theorem SameInts_3_p {xs t : List Int} (hn : xs.length ≤ 1000000) : wk_SameInts_3 xs.length xs (xs ++ t) = some (true, (xs ++ t, ())) := by
  unfold wk_SameInts_3
  refine condF (by simp) ?_
  refine bindS (loopM_run (step := wk_SameInts_3_l1) (fun i : Nat => ((xs.length, xs, (i : Int), ()), (xs ++ t, ()))) (N := xs.length) (b := .inr ((), (xs ++ t, ()))) (fun i hi => ?_) ?_) rfl
  · unfold wk_SameInts_3_l1
    refine condT (dT (by dsimp only; omega)) ?_
    refine iteT (by dsimp only; omega) ?_
    refine bindS (getI_lt hi) ?_
    refine bindS (v := xs[i]) (acc_p hi) ?_
    refine condF (by simp) ?_
    dsimp only
    rw [w64 (by omega)]
    rfl
  · unfold wk_SameInts_3_l1
    exact condF (dF (by dsimp only; omega)) rfl
theorem SameBytes_3_p {xs t : List UInt8} (hn : xs.length ≤ 1000000) : wk_SameBytes_3 xs.length xs (xs ++ t) = some (true, (xs ++ t, ())) := by
  unfold wk_SameBytes_3
  refine condF (by simp) ?_
  refine bindS (loopM_run (step := wk_SameBytes_3_l1) (fun i : Nat => ((xs.length, xs, (i : Int), ()), (xs ++ t, ()))) (N := xs.length) (b := .inr ((), (xs ++ t, ()))) (fun i hi => ?_) ?_) rfl
  · unfold wk_SameBytes_3_l1
    refine condT (dT (by dsimp only; omega)) ?_
    refine iteT (by dsimp only; omega) ?_
    refine bindS (getI_lt hi) ?_
    refine bindS (v := xs[i]) (acc_p hi) ?_
    refine condF (by simp) ?_
    dsimp only
    rw [w64 (by omega)]
    rfl
  · unfold wk_SameBytes_3_l1
    exact condF (dF (by dsimp only; omega)) rfl
theorem SameInts_4_p {xs : List Int} {h : List DEntryX} {k n c : Nat} {e : DEntryX} (hn : xs.length ≤ 1000000) (hk : h[k]? = some e) (he : e.config.voters.1 = xs) (hl : n = xs.length) : wk_SameInts_4 (k, 0, n, c, ()) xs h = some (true, (h, ())) := by
  subst hl
  unfold wk_SameInts_4
  refine condF (by simp) ?_
  refine bindS (loopM_run (step := wk_SameInts_4_l1) (fun i : Nat => (((k, 0, xs.length, c, ()), xs, (i : Int), ()), (h, ()))) (N := xs.length) (b := .inr ((), (h, ()))) (fun i hi => ?_) ?_) rfl
  · unfold wk_SameInts_4_l1
    refine condT (dT (by dsimp only; omega)) ?_
    refine iteT (by dsimp only; omega) ?_
    refine bindS (getI_lt hi) ?_
    refine bindS hk ?_
    refine bindS (v := xs[i]) (by dsimp only; rw [he]; exact acc_p hi) ?_
    refine condF (by simp) ?_
    dsimp only
    rw [w64 (by omega)]
    rfl
  · unfold wk_SameInts_4_l1
    exact condF (dF (by dsimp only; omega)) rfl
theorem SameInts_5_p {xs : List Int} {h : List DEntryX} {k n c : Nat} {e : DEntryX} (hn : xs.length ≤ 1000000) (hk : h[k]? = some e) (he : e.config.old.1 = xs) (hl : n = xs.length) : wk_SameInts_5 (k, 0, n, c, ()) xs h = some (true, (h, ())) := by
  subst hl
  unfold wk_SameInts_5
  refine condF (by simp) ?_
  refine bindS (loopM_run (step := wk_SameInts_5_l1) (fun i : Nat => (((k, 0, xs.length, c, ()), xs, (i : Int), ()), (h, ()))) (N := xs.length) (b := .inr ((), (h, ()))) (fun i hi => ?_) ?_) rfl
  · unfold wk_SameInts_5_l1
    refine condT (dT (by dsimp only; omega)) ?_
    refine iteT (by dsimp only; omega) ?_
    refine bindS (getI_lt hi) ?_
    refine bindS hk ?_
    refine bindS (v := xs[i]) (by dsimp only; rw [he]; exact acc_p hi) ?_
    refine condF (by simp) ?_
    dsimp only
    rw [w64 (by omega)]
    rfl
  · unfold wk_SameInts_5_l1
    exact condF (dF (by dsimp only; omega)) rfl
theorem SameInts_6_p {xs : List Int} {h : List DEntryX} {k n c : Nat} {e : DEntryX} (hn : xs.length ≤ 1000000) (hk : h[k]? = some e) (he : e.config.learners.1 = xs) (hl : n = xs.length) : wk_SameInts_6 (k, 0, n, c, ()) xs h = some (true, (h, ())) := by
  subst hl
  unfold wk_SameInts_6
  refine condF (by simp) ?_
  refine bindS (loopM_run (step := wk_SameInts_6_l1) (fun i : Nat => (((k, 0, xs.length, c, ()), xs, (i : Int), ()), (h, ()))) (N := xs.length) (b := .inr ((), (h, ()))) (fun i hi => ?_) ?_) rfl
  · unfold wk_SameInts_6_l1
    refine condT (dT (by dsimp only; omega)) ?_
    refine iteT (by dsimp only; omega) ?_
    refine bindS (getI_lt hi) ?_
    refine bindS hk ?_
    refine bindS (v := xs[i]) (by dsimp only; rw [he]; exact acc_p hi) ?_
    refine condF (by simp) ?_
    dsimp only
    rw [w64 (by omega)]
    rfl
  · unfold wk_SameInts_6_l1
    exact condF (dF (by dsimp only; omega)) rfl
theorem SameInts_7_p {xs : List Int} {h : List DEntryX} {k n c : Nat} {e : DEntryX} (hn : xs.length ≤ 1000000) (hk : h[k]? = some e) (he : e.config.want.1 = xs) (hl : n = xs.length) : wk_SameInts_7 (k, 0, n, c, ()) xs h = some (true, (h, ())) := by
  subst hl
  unfold wk_SameInts_7
  refine condF (by simp) ?_
  refine bindS (loopM_run (step := wk_SameInts_7_l1) (fun i : Nat => (((k, 0, xs.length, c, ()), xs, (i : Int), ()), (h, ()))) (N := xs.length) (b := .inr ((), (h, ()))) (fun i hi => ?_) ?_) rfl
  · unfold wk_SameInts_7_l1
    refine condT (dT (by dsimp only; omega)) ?_
    refine iteT (by dsimp only; omega) ?_
    refine bindS (getI_lt hi) ?_
    refine bindS hk ?_
    refine bindS (v := xs[i]) (by dsimp only; rw [he]; exact acc_p hi) ?_
    refine condF (by simp) ?_
    dsimp only
    rw [w64 (by omega)]
    rfl
  · unfold wk_SameInts_7_l1
    exact condF (dF (by dsimp only; omega)) rfl
theorem SameBytes_4_p {xs : List UInt8} {h : List DEntryX} {k n c : Nat} {e : DEntryX} (hn : xs.length ≤ 1000000) (hk : h[k]? = some e) (he : e.command.1 = xs) (hl : n = xs.length) : wk_SameBytes_4 (k, 0, n, c, ()) xs h = some (true, (h, ())) := by
  subst hl
  unfold wk_SameBytes_4
  refine condF (by simp) ?_
  refine bindS (loopM_run (step := wk_SameBytes_4_l1) (fun i : Nat => (((k, 0, xs.length, c, ()), xs, (i : Int), ()), (h, ()))) (N := xs.length) (b := .inr ((), (h, ()))) (fun i hi => ?_) ?_) rfl
  · unfold wk_SameBytes_4_l1
    refine condT (dT (by dsimp only; omega)) ?_
    refine iteT (by dsimp only; omega) ?_
    refine bindS (getI_lt hi) ?_
    refine bindS hk ?_
    refine bindS (v := xs[i]) (by dsimp only; rw [he]; exact acc_p hi) ?_
    refine condF (by simp) ?_
    dsimp only
    rw [w64 (by omega)]
    rfl
  · unfold wk_SameBytes_4_l1
    exact condF (dF (by dsimp only; omega)) rfl
theorem SameInts_8_p {xs t : List Int} {c : Nat} (hn : xs.length ≤ 1000000) : wk_SameInts_8 (0, xs.length, c) xs (xs ++ t) = some (true, (xs ++ t, ())) := by
  unfold wk_SameInts_8
  refine condF (by simp) ?_
  refine bindS (loopM_run (step := wk_SameInts_8_l1) (fun i : Nat => (((0, xs.length, c), xs, (i : Int), ()), (xs ++ t, ()))) (N := xs.length) (b := .inr ((), (xs ++ t, ()))) (fun i hi => ?_) ?_) rfl
  · unfold wk_SameInts_8_l1
    refine condT (dT (by dsimp only; omega)) ?_
    refine iteT (by dsimp only; omega) ?_
    refine bindS (getI_lt hi) ?_
    refine bindS (v := xs[i]) (acc_p hi) ?_
    refine condF (by simp) ?_
    dsimp only
    rw [w64 (by omega)]
    rfl
  · unfold wk_SameInts_8_l1
    exact condF (dF (by dsimp only; omega)) rfl
theorem SameBytes_5_p {xs t : List UInt8} {c : Nat} (hn : xs.length ≤ 1000000) : wk_SameBytes_5 (0, xs.length, c) xs (xs ++ t) = some (true, (xs ++ t, ())) := by
  unfold wk_SameBytes_5
  refine condF (by simp) ?_
  refine bindS (loopM_run (step := wk_SameBytes_5_l1) (fun i : Nat => (((0, xs.length, c), xs, (i : Int), ()), (xs ++ t, ()))) (N := xs.length) (b := .inr ((), (xs ++ t, ()))) (fun i hi => ?_) ?_) rfl
  · unfold wk_SameBytes_5_l1
    refine condT (dT (by dsimp only; omega)) ?_
    refine iteT (by dsimp only; omega) ?_
    refine bindS (getI_lt hi) ?_
    refine bindS (v := xs[i]) (acc_p hi) ?_
    refine condF (by simp) ?_
    dsimp only
    rw [w64 (by omega)]
    rfl
  · unfold wk_SameBytes_5_l1
    exact condF (dF (by dsimp only; omega)) rfl
theorem KeptInts_p {xs : List Int} {h : List DEntryX} {k n c : Nat} {e : DEntryX} (hn : xs.length ≤ 1000000) (hk : h[k]? = some e) (he : e.config.voters = (xs, marks 12)) (hl : n = xs.length) (hc : c = xs.length + 12) : wk_KeptInts (k, 0, n, c, ()) xs h = some (true, (h, ())) := by
  subst hl; subst hc
  have hw : IntKind.i64.wrap ((xs.length : Int) + 12) = ((xs.length + 12 : Nat) : Int) := by rw [w64 (by omega)]; rfl
  unfold wk_KeptInts
  refine condF (by simp) ?_
  simp only [hw, Int.toNat_natCast, Int.toNat_zero, Nat.add_zero, Nat.sub_zero]
  refine iteT ⟨by omega, by omega, by omega, .inl trivial⟩ ?_
  refine bindS (loopM_run (step := wk_KeptInts_l1) (fun j : Nat => ((xs, (k, 0, xs.length + 12, xs.length + 12, ()), (j : Int), ()), (h, ()))) (N := xs.length + 12) (b := .inr ((), (h, ()))) (fun j hj => ?_) ?_) rfl
  · unfold wk_KeptInts_l1
    refine condT (dT (by dsimp only; omega)) ?_
    by_cases hjl : j < xs.length
    · refine condT (dT (by dsimp only; omega)) ?_
      refine iteT (by dsimp only; omega) ?_
      refine bindS (getI_lt hjl) ?_
      refine bindS hk ?_
      refine bindS (v := xs[j]) (by dsimp only; rw [he]; exact acc_p hjl) ?_
      refine condF (by simp) ?_
      refine condF (dF (by dsimp only; omega)) ?_
      dsimp only
      rw [w64 (by omega)]
      rfl
    · refine condF (dF (by dsimp only; omega)) ?_
      refine condT (dT (by dsimp only; omega)) ?_
      refine iteT (by dsimp only; omega) ?_
      refine bindS hk ?_
      refine bindS (v := mkT (j - xs.length)) (by dsimp only; rw [he]; exact accM_p (xs := xs) (j := j) (by omega) (by omega)) ?_
      refine bindS (v := (mkT (j - xs.length), ())) (by
        dsimp only
        rw [w64 (by omega), show (j : Int) - (xs.length : Int) = ((j - xs.length : Nat) : Int) from by omega]
        exact mark_p _) ?_
      refine condF (by simp) ?_
      dsimp only
      rw [w64 (by omega)]
      rfl
  · unfold wk_KeptInts_l1
    exact condF (dF (by dsimp only; omega)) rfl
theorem KeptInts_2_p {xs : List Int} {h : List DEntryX} {k n c : Nat} {e : DEntryX} (hn : xs.length ≤ 1000000) (hk : h[k]? = some e) (he : e.config.old = (xs, marks 12)) (hl : n = xs.length) (hc : c = xs.length + 12) : wk_KeptInts_2 (k, 0, n, c, ()) xs h = some (true, (h, ())) := by
  subst hl; subst hc
  have hw : IntKind.i64.wrap ((xs.length : Int) + 12) = ((xs.length + 12 : Nat) : Int) := by rw [w64 (by omega)]; rfl
  unfold wk_KeptInts_2
  refine condF (by simp) ?_
  simp only [hw, Int.toNat_natCast, Int.toNat_zero, Nat.add_zero, Nat.sub_zero]
  refine iteT ⟨by omega, by omega, by omega, .inl trivial⟩ ?_
  refine bindS (loopM_run (step := wk_KeptInts_2_l1) (fun j : Nat => ((xs, (k, 0, xs.length + 12, xs.length + 12, ()), (j : Int), ()), (h, ()))) (N := xs.length + 12) (b := .inr ((), (h, ()))) (fun j hj => ?_) ?_) rfl
  · unfold wk_KeptInts_2_l1
    refine condT (dT (by dsimp only; omega)) ?_
    by_cases hjl : j < xs.length
    · refine condT (dT (by dsimp only; omega)) ?_
      refine iteT (by dsimp only; omega) ?_
      refine bindS (getI_lt hjl) ?_
      refine bindS hk ?_
      refine bindS (v := xs[j]) (by dsimp only; rw [he]; exact acc_p hjl) ?_
      refine condF (by simp) ?_
      refine condF (dF (by dsimp only; omega)) ?_
      dsimp only
      rw [w64 (by omega)]
      rfl
    · refine condF (dF (by dsimp only; omega)) ?_
      refine condT (dT (by dsimp only; omega)) ?_
      refine iteT (by dsimp only; omega) ?_
      refine bindS hk ?_
      refine bindS (v := mkT (j - xs.length)) (by dsimp only; rw [he]; exact accM_p (xs := xs) (j := j) (by omega) (by omega)) ?_
      refine bindS (v := (mkT (j - xs.length), ())) (by
        dsimp only
        rw [w64 (by omega), show (j : Int) - (xs.length : Int) = ((j - xs.length : Nat) : Int) from by omega]
        exact mark_p _) ?_
      refine condF (by simp) ?_
      dsimp only
      rw [w64 (by omega)]
      rfl
  · unfold wk_KeptInts_2_l1
    exact condF (dF (by dsimp only; omega)) rfl
theorem KeptInts_3_p {xs : List Int} {h : List DEntryX} {k n c : Nat} {e : DEntryX} (hn : xs.length ≤ 1000000) (hk : h[k]? = some e) (he : e.config.learners = (xs, marks 12)) (hl : n = xs.length) (hc : c = xs.length + 12) : wk_KeptInts_3 (k, 0, n, c, ()) xs h = some (true, (h, ())) := by
  subst hl; subst hc
  have hw : IntKind.i64.wrap ((xs.length : Int) + 12) = ((xs.length + 12 : Nat) : Int) := by rw [w64 (by omega)]; rfl
  unfold wk_KeptInts_3
  refine condF (by simp) ?_
  simp only [hw, Int.toNat_natCast, Int.toNat_zero, Nat.add_zero, Nat.sub_zero]
  refine iteT ⟨by omega, by omega, by omega, .inl trivial⟩ ?_
  refine bindS (loopM_run (step := wk_KeptInts_3_l1) (fun j : Nat => ((xs, (k, 0, xs.length + 12, xs.length + 12, ()), (j : Int), ()), (h, ()))) (N := xs.length + 12) (b := .inr ((), (h, ()))) (fun j hj => ?_) ?_) rfl
  · unfold wk_KeptInts_3_l1
    refine condT (dT (by dsimp only; omega)) ?_
    by_cases hjl : j < xs.length
    · refine condT (dT (by dsimp only; omega)) ?_
      refine iteT (by dsimp only; omega) ?_
      refine bindS (getI_lt hjl) ?_
      refine bindS hk ?_
      refine bindS (v := xs[j]) (by dsimp only; rw [he]; exact acc_p hjl) ?_
      refine condF (by simp) ?_
      refine condF (dF (by dsimp only; omega)) ?_
      dsimp only
      rw [w64 (by omega)]
      rfl
    · refine condF (dF (by dsimp only; omega)) ?_
      refine condT (dT (by dsimp only; omega)) ?_
      refine iteT (by dsimp only; omega) ?_
      refine bindS hk ?_
      refine bindS (v := mkT (j - xs.length)) (by dsimp only; rw [he]; exact accM_p (xs := xs) (j := j) (by omega) (by omega)) ?_
      refine bindS (v := (mkT (j - xs.length), ())) (by
        dsimp only
        rw [w64 (by omega), show (j : Int) - (xs.length : Int) = ((j - xs.length : Nat) : Int) from by omega]
        exact mark_p _) ?_
      refine condF (by simp) ?_
      dsimp only
      rw [w64 (by omega)]
      rfl
  · unfold wk_KeptInts_3_l1
    exact condF (dF (by dsimp only; omega)) rfl
theorem KeptInts_4_p {xs : List Int} {h : List DEntryX} {k n c : Nat} {e : DEntryX} (hn : xs.length ≤ 1000000) (hk : h[k]? = some e) (he : e.config.want = (xs, marks 12)) (hl : n = xs.length) (hc : c = xs.length + 12) : wk_KeptInts_4 (k, 0, n, c, ()) xs h = some (true, (h, ())) := by
  subst hl; subst hc
  have hw : IntKind.i64.wrap ((xs.length : Int) + 12) = ((xs.length + 12 : Nat) : Int) := by rw [w64 (by omega)]; rfl
  unfold wk_KeptInts_4
  refine condF (by simp) ?_
  simp only [hw, Int.toNat_natCast, Int.toNat_zero, Nat.add_zero, Nat.sub_zero]
  refine iteT ⟨by omega, by omega, by omega, .inl trivial⟩ ?_
  refine bindS (loopM_run (step := wk_KeptInts_4_l1) (fun j : Nat => ((xs, (k, 0, xs.length + 12, xs.length + 12, ()), (j : Int), ()), (h, ()))) (N := xs.length + 12) (b := .inr ((), (h, ()))) (fun j hj => ?_) ?_) rfl
  · unfold wk_KeptInts_4_l1
    refine condT (dT (by dsimp only; omega)) ?_
    by_cases hjl : j < xs.length
    · refine condT (dT (by dsimp only; omega)) ?_
      refine iteT (by dsimp only; omega) ?_
      refine bindS (getI_lt hjl) ?_
      refine bindS hk ?_
      refine bindS (v := xs[j]) (by dsimp only; rw [he]; exact acc_p hjl) ?_
      refine condF (by simp) ?_
      refine condF (dF (by dsimp only; omega)) ?_
      dsimp only
      rw [w64 (by omega)]
      rfl
    · refine condF (dF (by dsimp only; omega)) ?_
      refine condT (dT (by dsimp only; omega)) ?_
      refine iteT (by dsimp only; omega) ?_
      refine bindS hk ?_
      refine bindS (v := mkT (j - xs.length)) (by dsimp only; rw [he]; exact accM_p (xs := xs) (j := j) (by omega) (by omega)) ?_
      refine bindS (v := (mkT (j - xs.length), ())) (by
        dsimp only
        rw [w64 (by omega), show (j : Int) - (xs.length : Int) = ((j - xs.length : Nat) : Int) from by omega]
        exact mark_p _) ?_
      refine condF (by simp) ?_
      dsimp only
      rw [w64 (by omega)]
      rfl
  · unfold wk_KeptInts_4_l1
    exact condF (dF (by dsimp only; omega)) rfl
theorem KeptBytes_p {xs : List UInt8} {h : List DEntryX} {k n c : Nat} {e : DEntryX} (hn : xs.length ≤ 1000000) (hk : h[k]? = some e) (he : e.command = (xs, marksB 12)) (hl : n = xs.length) (hc : c = xs.length + 12) : wk_KeptBytes (k, 0, n, c, ()) xs h = some (true, (h, ())) := by
  subst hl; subst hc
  have hw : IntKind.i64.wrap ((xs.length : Int) + 12) = ((xs.length + 12 : Nat) : Int) := by rw [w64 (by omega)]; rfl
  unfold wk_KeptBytes
  refine condF (by simp) ?_
  simp only [hw, Int.toNat_natCast, Int.toNat_zero, Nat.add_zero, Nat.sub_zero]
  refine iteT ⟨by omega, by omega, by omega, .inl trivial⟩ ?_
  refine bindS (loopM_run (step := wk_KeptBytes_l1) (fun j : Nat => ((xs, (k, 0, xs.length + 12, xs.length + 12, ()), (j : Int), ()), (h, ()))) (N := xs.length + 12) (b := .inr ((), (h, ()))) (fun j hj => ?_) ?_) rfl
  · unfold wk_KeptBytes_l1
    refine condT (dT (by dsimp only; omega)) ?_
    by_cases hjl : j < xs.length
    · refine condT (dT (by dsimp only; omega)) ?_
      refine iteT (by dsimp only; omega) ?_
      refine bindS (getI_lt hjl) ?_
      refine bindS hk ?_
      refine bindS (v := xs[j]) (by dsimp only; rw [he]; exact acc_p hjl) ?_
      refine condF (by simp) ?_
      refine condF (dF (by dsimp only; omega)) ?_
      dsimp only
      rw [w64 (by omega)]
      rfl
    · refine condF (dF (by dsimp only; omega)) ?_
      refine condT (dT (by dsimp only; omega)) ?_
      refine iteT (by dsimp only; omega) ?_
      refine bindS hk ?_
      refine bindS (v := mkB (j - xs.length)) (by dsimp only; rw [he]; exact accMB_p (xs := xs) (j := j) (by omega) (by omega)) ?_
      refine bindS (v := (((mkB (j - xs.length)).toNat : Int), ())) (by
        dsimp only
        rw [w64 (by omega), show (j : Int) - (xs.length : Int) = ((j - xs.length : Nat) : Int) from by omega]
        exact markB_p _) ?_
      refine condF (by simp) ?_
      dsimp only
      rw [w64 (by omega)]
      rfl
  · unfold wk_KeptBytes_l1
    exact condF (dF (by dsimp only; omega)) rfl
theorem KeptInts_5_p {xs : List Int} (hn : xs.length ≤ 1000000) : wk_KeptInts_5 (0, xs.length, xs.length + 12) xs (xs ++ marks 12) = some (true, (xs ++ marks 12, ())) := by
  have hw : IntKind.i64.wrap ((xs.length : Int) + 12) = ((xs.length + 12 : Nat) : Int) := by rw [w64 (by omega)]; rfl
  unfold wk_KeptInts_5
  refine condF (by simp) ?_
  simp only [hw, Int.toNat_natCast, Int.toNat_zero, Nat.add_zero, Nat.sub_zero]
  refine iteT (by omega) ?_
  refine bindS (loopM_run (step := wk_KeptInts_5_l1) (fun j : Nat => ((xs, (0, xs.length + 12, xs.length + 12), (j : Int), ()), (xs ++ marks 12, ()))) (N := xs.length + 12) (b := .inr ((), (xs ++ marks 12, ()))) (fun j hj => ?_) ?_) rfl
  · unfold wk_KeptInts_5_l1
    refine condT (dT (by dsimp only; omega)) ?_
    by_cases hjl : j < xs.length
    · refine condT (dT (by dsimp only; omega)) ?_
      refine iteT (by dsimp only; omega) ?_
      refine bindS (getI_lt hjl) ?_
      refine bindS (v := xs[j]) (acc_p hjl) ?_
      refine condF (by simp) ?_
      refine condF (dF (by dsimp only; omega)) ?_
      dsimp only
      rw [w64 (by omega)]
      rfl
    · refine condF (dF (by dsimp only; omega)) ?_
      refine condT (dT (by dsimp only; omega)) ?_
      refine iteT (by dsimp only; omega) ?_
      refine bindS (v := mkT (j - xs.length)) (accM_p (by omega) (by omega)) ?_
      refine bindS (v := (mkT (j - xs.length), ())) (by
        dsimp only
        rw [w64 (by omega), show (j : Int) - (xs.length : Int) = ((j - xs.length : Nat) : Int) from by omega]
        exact mark_p _) ?_
      refine condF (by simp) ?_
      dsimp only
      rw [w64 (by omega)]
      rfl
  · unfold wk_KeptInts_5_l1
    exact condF (dF (by dsimp only; omega)) rfl
theorem KeptBytes_2_p {xs : List UInt8} (hn : xs.length ≤ 1000000) : wk_KeptBytes_2 (0, xs.length, xs.length + 12) xs (xs ++ marksB 12) = some (true, (xs ++ marksB 12, ())) := by
  have hw : IntKind.i64.wrap ((xs.length : Int) + 12) = ((xs.length + 12 : Nat) : Int) := by rw [w64 (by omega)]; rfl
  unfold wk_KeptBytes_2
  refine condF (by simp) ?_
  simp only [hw, Int.toNat_natCast, Int.toNat_zero, Nat.add_zero, Nat.sub_zero]
  refine iteT (by omega) ?_
  refine bindS (loopM_run (step := wk_KeptBytes_2_l1) (fun j : Nat => ((xs, (0, xs.length + 12, xs.length + 12), (j : Int), ()), (xs ++ marksB 12, ()))) (N := xs.length + 12) (b := .inr ((), (xs ++ marksB 12, ()))) (fun j hj => ?_) ?_) rfl
  · unfold wk_KeptBytes_2_l1
    refine condT (dT (by dsimp only; omega)) ?_
    by_cases hjl : j < xs.length
    · refine condT (dT (by dsimp only; omega)) ?_
      refine iteT (by dsimp only; omega) ?_
      refine bindS (getI_lt hjl) ?_
      refine bindS (v := xs[j]) (acc_p hjl) ?_
      refine condF (by simp) ?_
      refine condF (dF (by dsimp only; omega)) ?_
      dsimp only
      rw [w64 (by omega)]
      rfl
    · refine condF (dF (by dsimp only; omega)) ?_
      refine condT (dT (by dsimp only; omega)) ?_
      refine iteT (by dsimp only; omega) ?_
      refine bindS (v := mkB (j - xs.length)) (accMB_p (by omega) (by omega)) ?_
      refine bindS (v := (((mkB (j - xs.length)).toNat : Int), ())) (by
        dsimp only
        rw [w64 (by omega), show (j : Int) - (xs.length : Int) = ((j - xs.length : Nat) : Int) from by omega]
        exact markB_p _) ?_
      refine condF (by simp) ?_
      dsimp only
      rw [w64 (by omega)]
      rfl
  · unfold wk_KeptBytes_2_l1
    exact condF (dF (by dsimp only; omega)) rfl
end Go.Proofs.Ytlaehnldaejipaa
