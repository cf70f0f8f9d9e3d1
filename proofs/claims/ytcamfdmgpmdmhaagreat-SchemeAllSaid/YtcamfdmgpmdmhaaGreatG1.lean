/- Models, by program. -/
import Derived.Test.YtcamfdmgpmdmhaaGreatRp
import Derived.Test.YtcamfdmgpmdmhaaGreatOsh
import Derived.Test.YtcamfdmgpmdmhaaGreatOa
import Derived.Test.YtcamfdmgpmdmhaaGreatTw
import Derived.Test.YtcamfdmgpmdmhaaGreatWy
import Derived.Test.YtcamfdmgpmdmhaaGreatSl
import Derived.Test.YtcamfdmgpmdmhaaGreatFx
import Derived.Test.YtcamfdmgpmdmhaaGreatUn
import Derived.Test.YtcamfdmgpmdmhaaGreatFt
namespace Go.Proofs.YtcamfdmgpmdmhaaGreat
open Go.RowKit
set_option maxRecDepth 100000
set_option linter.unusedVariables false
noncomputable def appendSeq (h0 : List (List UInt8)) : Option ((Nat × Nat) × ((List (List UInt8)) × (List (List UInt8)) × Unit)) :=
  if h0.length ≤ 8796093022208 then some ((0, h0.length), (h0, h0, ())) else none
noncomputable def appendSeq_ce : CE CT Tryz.prog where
  f := 127
  args := [.one .nil, .one (.clo 126 [0])]
  hs := [.cobj 99 3]
  res := .val (.one (.asu 2 1))
  outs := [.cobj 99 3, .arr 9 2 true]
  m := fun d dh => appendSeq dh.1
  ok := fun d dh r hr => by
    unfold appendSeq at hr
    split at hr
    · rename_i hc
      injection hr with hr
      subst hr
      by_cases h0 : dh.1 = []
      · obtain ⟨xs, u⟩ := dh
        dsimp only at h0
        subst h0
        exact appendSeq_tr0
      · exact appendSeq_tr dh.1 (fun h => h0 (List.eq_nil_of_length_eq_zero h)) hc
    · cases hr

theorem sortT_cells {N : Nat} {ρ : Nat → AV} : ∀ {xs : List (List UInt8)} {cells : List AV}, SVs CT N ρ (xs.flatMap (CT.enc 2)) cells → cells.map AV.val = xs.map Go.Proofs.encStr
  | [], cells, h => by rw [SVs_nil.1 h]; rfl
  | x :: xs, cells, h => by
    change SVs CT N ρ (.str x :: xs.flatMap (CT.enc 2)) cells at h
    obtain ⟨a, bs, rfl, h1, h2⟩ := h.to
    rw [sv_str.1 h1, List.map_cons, sortT_cells h2, AV.val_raw]
    rfl
theorem sortT_svs {N : Nat} {ρ : Nat → AV} : ∀ (xs : List (List UInt8)), SVs CT N ρ (xs.flatMap (CT.enc 2)) (xs.map fun d => AV.raw (Go.Proofs.encStr d))
  | [] => .none
  | x :: xs => by
    change SVs CT N ρ (.str x :: xs.flatMap (CT.enc 2)) (AV.raw (Go.Proofs.encStr x) :: xs.map fun d => AV.raw (Go.Proofs.encStr d))
    exact .cons (sv_str.2 rfl) (sortT_svs xs)
noncomputable def sortT (x0 : Nat × Nat) (h0 : List (List UInt8)) : Option (Unit × ((List (List UInt8)) × Unit)) :=
  if x0.1 = 0 ∧ x0.2 = h0.length ∧ h0.length < 4611686018427387904 then some ((), (h0.mergeSort (fun x y => decide (x ≤ y)), ())) else none
noncomputable def sortT_ce : CE CT Tryz.prog where
  f := 125
  args := [.one (.asu 2 0)]
  hs := [.arr 9 2 true]
  res := .tup []
  outs := [.arr 9 2 true]
  m := fun d dh => sortT d.1 dh.1
  ok := fun d dh r hr => by
    obtain ⟨⟨lo, n⟩, u⟩ := d
    obtain ⟨xs, u2⟩ := dh
    unfold sortT at hr
    split at hr
    · rename_i hc
      injection hr with hr
      subst hr
      obtain ⟨rfl, rfl, hc⟩ := hc
      dsimp only at hc
      exact sortedA_tr Go.Proofs.encStr xs xs (List.mergeSort (α := List UInt8) xs fun x y => decide (x ≤ y)) true rfl rfl (fun N ρ cs h => sortT_cells h) (List.mergeSort (α := List UInt8) xs fun x y => decide (x ≤ y)) (List.length_mergeSort (α := List UInt8) xs) (fun N ρ => sortT_svs _) (by kernel_rfl) rfl (fun h => by subst h; exact List.mergeSort_nil)
        (fun blk cap w h1 h2 => Tryz.slices_Sort_string blk 0 cap xs w h1 h2 hc) (fun p cap w => Tryz.slices_Sort_string_none p cap w)
    · cases hr

def waysM50_mk (base : Nat) : Array MapEntry := #[⟨.int .u8 1, .slice (some ⟨base + 1 + 0, 0, none⟩) 2 2, 0⟩, ⟨.int .u8 2, .slice (some ⟨base + 1 + 1, 0, none⟩) 2 2, 1⟩, ⟨.int .u8 3, .slice (some ⟨base + 1 + 2, 0, none⟩) 2 2, 2⟩, ⟨.int .u8 4, .slice (some ⟨base + 1 + 3, 0, none⟩) 1 1, 3⟩, ⟨.int .u8 5, .slice (some ⟨base + 1 + 4, 0, none⟩) 1 1, 4⟩, ⟨.int .u8 7, .slice (some ⟨base + 1 + 5, 0, none⟩) 1 1, 5⟩, ⟨.int .u8 8, .slice (some ⟨base + 1 + 6, 0, none⟩) 1 1, 6⟩, ⟨.int .u8 6, .slice none 0 0, 7⟩, ⟨.int .u8 9, .slice none 0 0, 8⟩]
def waysM50_rows : List Obj := [Obj.cells #[Value.int IntKind.u8 2, Value.int IntKind.u8 7] 24, Obj.cells #[Value.int IntKind.u8 3, Value.int IntKind.u8 7] 24, Obj.cells #[Value.int IntKind.u8 4, Value.int IntKind.u8 7] 24, Obj.cells #[Value.int IntKind.u8 5] 24, Obj.cells #[Value.int IntKind.u8 6] 24, Obj.cells #[Value.int IntKind.u8 8] 24, Obj.cells #[Value.int IntKind.u8 9] 24]
theorem waysM50_q (w : World) : Calls Tryz.prog 50 #[] w fun e w' => e = .returned (.map (some w.heap.size)) ∧ Wy w waysM50_rows (waysM50_mk w.heap.size) 9 w' := by
  have hmm := @run_makeMap Tryz.prog
  go_enter Tryz.func50, Tryz.ntmps50
  have F0 := Wy.new w
  go_wp2_with (first | (refine wpList_ins (F0.add _) rfl (.tmp 1) (.const (.int .u8 1)) (.tmp 2) 87 rfl Tryz.underlying87 Tryz.underlying24 rfl 1 rfl rfl ?_) | go_in)
  intro w1 F1
  have s1 := F1.size
  go_wp2_with (first | (refine wpList_ins (F1.add _) rfl (.tmp 1) (.const (.int .u8 2)) (.tmp 3) 87 rfl Tryz.underlying87 Tryz.underlying24 rfl 2 rfl rfl ?_) | go_in)
  intro w2 F2
  have s2 := F2.size
  go_wp2_with (first | (refine wpList_ins (F2.add _) rfl (.tmp 1) (.const (.int .u8 3)) (.tmp 4) 87 rfl Tryz.underlying87 Tryz.underlying24 rfl 3 rfl rfl ?_) | go_in)
  intro w3 F3
  have s3 := F3.size
  go_wp2_with (first | (refine wpList_ins (F3.add _) rfl (.tmp 1) (.const (.int .u8 4)) (.tmp 5) 87 rfl Tryz.underlying87 Tryz.underlying24 rfl 4 rfl rfl ?_) | go_in)
  intro w4 F4
  have s4 := F4.size
  go_wp2_with (first | (refine wpList_ins (F4.add _) rfl (.tmp 1) (.const (.int .u8 5)) (.tmp 6) 87 rfl Tryz.underlying87 Tryz.underlying24 rfl 5 rfl rfl ?_) | go_in)
  intro w5 F5
  have s5 := F5.size
  go_wp2_with (first | (refine wpList_ins (F5.add _) rfl (.tmp 1) (.const (.int .u8 7)) (.tmp 7) 87 rfl Tryz.underlying87 Tryz.underlying24 rfl 7 rfl rfl ?_) | go_in)
  intro w6 F6
  have s6 := F6.size
  go_wp2_with (first | (refine wpList_ins (F6.add _) rfl (.tmp 1) (.const (.int .u8 8)) (.tmp 8) 87 rfl Tryz.underlying87 Tryz.underlying24 rfl 8 rfl rfl ?_) | go_in)
  intro w7 F7
  have s7 := F7.size
  go_wp2_with (first | (refine wpList_ins F7 rfl (.tmp 1) (.const (.int .u8 6)) (.const (.slice none 0 0)) 87 rfl Tryz.underlying87 Tryz.underlying24 rfl 6 rfl rfl ?_) | go_in)
  intro w8 F8
  have s8 := F8.size
  go_wp2_with (first | (refine wpList_ins F8 rfl (.tmp 1) (.const (.int .u8 9)) (.const (.slice none 0 0)) 87 rfl Tryz.underlying87 Tryz.underlying24 rfl 9 rfl rfl ?_) | go_in)
  intro w9 F9
  have s9 := F9.size
  go_wp2
  go_ret
  exact ⟨rfl, F9⟩
theorem rowA_sv (N : Nat) (ρ : Nat → AV) (base i : Nat) (xs : List UInt8) (h : xs.length ≤ 140737488355328 := by decide) : SV CT N ρ (.sl 1 xs none) (rowA base i xs) := by
  have h1 : SVs CT N ρ (xs.flatMap (CT.enc 1)) (xs.map fun b => AV.raw (.int .u8 (b.toNat : Int))) := by
    rw [show CT.enc 1 = encT 1 from rfl, enc_b1]
    exact bytes_sv_ xs
  have h2 := SVs.sl (C := CT) (N := N) (ρ := ρ) 1 xs (some ⟨base + 1 + i, 0, none⟩) xs.length _ [] (Nat.le_refl _) (by unfold maxLen; omega) h (fun h => by cases h) h1 .none
  rw [List.append_nil] at h2
  exact h2
def waysM50_t : List (Int × List UInt8) := [(1, [2, 7]), (2, [3, 7]), (3, [4, 7]), (4, [5]), (5, [6]), (7, [8]), (8, [9]), (6, []), (9, [])]
noncomputable def waysM50 : Option ((List (Int × List UInt8)) × Unit) := some (waysM50_t, ())
noncomputable def waysM50_ce : CE CT Tryz.prog where
  f := 50
  args := []
  hs := []
  res := .val (.one (.mp 1 .u8))
  outs := []
  m := fun d dh => waysM50
  ok := fun d dh r hr => by
    injection hr with hr
    subst hr
    refine Wy.tr (C := CT) (E := 1) (kk := .u8) (tb := waysM50_t) (rows := waysM50_rows) (mk := waysM50_mk) (c := 9) (by kernel_rfl) waysM50_q fun base => ⟨[rowA base 0 [2, 7], rowA base 1 [3, 7], rowA base 2 [4, 7], rowA base 3 [5], rowA base 4 [6], rowA base 5 [8], rowA base 6 [9], .lst none 0 0 [], .lst none 0 0 []], fun N ρ => .cons (rowA_sv _ _ _ _ [2, 7]) (.cons (rowA_sv _ _ _ _ [3, 7]) (.cons (rowA_sv _ _ _ _ [4, 7]) (.cons (rowA_sv _ _ _ _ [5]) (.cons (rowA_sv _ _ _ _ [6]) (.cons (rowA_sv _ _ _ _ [8]) (.cons (rowA_sv _ _ _ _ [9]) (.cons ((Wk.nil 1).sv (sv_nil.2 rfl)) (.cons ((Wk.nil 1).sv (sv_nil.2 rfl)) (.none))))))))), rfl, ?_, fun w' B h => Valids.iff.2 fun a ha => ?_⟩
    · simp [AV.vals, rowA, waysM50_mk]
    simp only [List.mem_cons, List.not_mem_nil, or_false] at ha
    rcases ha with rfl | rfl | rfl | rfl | rfl | rfl | rfl | rfl | rfl
    · exact rowA_valid (h 0 _ rfl)
    · exact rowA_valid (h 1 _ rfl)
    · exact rowA_valid (h 2 _ rfl)
    · exact rowA_valid (h 3 _ rfl)
    · exact rowA_valid (h 4 _ rfl)
    · exact rowA_valid (h 5 _ rfl)
    · exact rowA_valid (h 6 _ rfl)
    · exact valid_nil_
    · exact valid_nil_

noncomputable def replace (n : Nat) (i j : Int) (ys xs : List (DShare)) : Option (List (DShare) × (Unit × Unit × Unit)) :=
  if ReplaceOk n i j ys xs then some (xs.take i.toNat ++ ys ++ xs.drop j.toNat, ((), (), ())) else none
noncomputable def replace_ce : CE CT Tryz.prog where
  f := 70
  args := [.one (.asz 6 0), .one (.int .i64), .one (.int .i64), .one (.sl 5)]
  hs := [.arr 71 6 true]
  res := .val (.one (.own 5 1))
  outs := [.dead, .row 71 4]
  m := fun d dh => replace d.1 d.2.1 d.2.2.1 d.2.2.2.1 dh.1
  ok := fun d dh r hr => by
    unfold replace at hr
    split at hr
    · rename_i hc
      injection hr with hr
      subst hr
      exact replace_tr hc
    · cases hr

noncomputable def watershedkit_OverShareRows_v (n : Nat) (xs : List (DShare)) : Option (Unit × (List (DShare) × Unit)) := if n ≤ 1000000 then some ((), ([], ())) else none
noncomputable def watershedkit_OverShareRows_v_ce : CE CT Tryz.prog where
  f := 51
  args := [.one (.asz 5 0)]
  hs := [.arr 71 5 true]
  res := .tup []
  outs := [.arr 71 5 true]
  m := fun d dh => watershedkit_OverShareRows_v d.1 dh.1
  ok := fun d dh r hr => by
    unfold watershedkit_OverShareRows_v at hr
    split at hr
    · rename_i hn
      injection hr with hr
      subst hr
      exact Tr.overA (S := 7) rfl rfl rfl (fun c h1 h2 h3 => by
        obtain ⟨ys, hy⟩ := watershedkit_OverShareRows_all d.1 c h1 h2 hn
        exact ⟨ys, watershedkit_OverShareRows_ce.ok ((0, d.1, c), ()) ([], ()) _ hy⟩)
    · cases hr

def shares_within_dr : Nat → DrA
  | _ => ⟨[], [], [], [], [], false, []⟩
noncomputable def shares_within_tb : List (CE CT Tryz.prog) := []
noncomputable def shares_within_lt : List (LE CT Tryz.prog) := []
noncomputable def shares_within (x0 : Int) (x1 : Int) (x2 : Int) : Option ((Bool) × (Unit)) :=
  (bif (decide ((x1 : Int) ≤ x0)) then
  some ((decide ((x0 : Int) ≤ x2)), ())
  else
  some (false, ()))
noncomputable def shares_within_ce : CE CT Tryz.prog where
  f := 69
  args := [.one (.int .i64), .one (.int .i64), .one (.int .i64)]
  hs := []
  res := .val (.one (.bool))
  outs := []
  m := fun d dh => shares_within d.1 d.2.1 d.2.2.1
  ok := ce_ok mixedP Tryz.func69 (by kernel_rfl) (orcOf_ok shares_within_tb) (dr := shares_within_dr) (lps := lpsOf shares_within_lt) (lps_fn (no_loop (by kernel_rfl))) (fun d dh => by kernel_rfl)

def span_All_dr : Nat → DrA
  | _ => ⟨[], [], [], [], [], false, []⟩
noncomputable def span_All_tb : List (CE CT Tryz.prog) := []
noncomputable def span_All_lt : List (LE CT Tryz.prog) := []
noncomputable def span_All  : Option ((DSpan) × (Unit)) :=
  some ((⟨([] : List UInt8), ([] : List UInt8)⟩ : DSpan), ())
noncomputable def span_All_ce : CE CT Tryz.prog where
  f := 73
  args := []
  hs := []
  res := .val (.cod 4)
  outs := []
  m := fun d dh => span_All
  ok := ce_ok mixedP Tryz.func73 (by kernel_rfl) (orcOf_ok span_All_tb) (dr := span_All_dr) (lps := lpsOf span_All_lt) (lps_fn (no_loop (by kernel_rfl))) (fun d dh => by kernel_rfl)

def shares_First_dr : Nat → DrA
  | _ => ⟨[], [], [], [], [], false, []⟩
noncomputable def shares_First_tb : List (CE CT Tryz.prog) := [shares_within_ce, span_All_ce]
noncomputable def shares_First_lt : List (LE CT Tryz.prog) := []
noncomputable def shares_First (x0 : Int) : Option ((DShares) × (Unit)) :=
  (shares_within x0 1 4).bind fun r1 =>
  (bif (!r1.1) then
  (span_All).bind fun r2 =>
  some ((⟨1, ([(⟨r2.1, 1, 1⟩ : DShare)] : List (DShare))⟩ : DShares), ())
  else
  (span_All).bind fun r3 =>
  some ((⟨1, ([(⟨r3.1, x0, 1⟩ : DShare)] : List (DShare))⟩ : DShares), ()))
noncomputable def shares_First_ce : CE CT Tryz.prog where
  f := 32
  args := [.one (.int .i64)]
  hs := []
  res := .val (.cod 11)
  outs := []
  m := fun d dh => shares_First d.1
  ok := ce_ok mixedP Tryz.func32 (by kernel_rfl) (orcOf_ok shares_First_tb) (dr := shares_First_dr) (lps := lpsOf shares_First_lt) (lps_fn (no_loop (by kernel_rfl))) (fun d dh => by kernel_rfl)

def scheme_within_dr : Nat → DrA
  | _ => ⟨[], [], [], [], [], false, []⟩
noncomputable def scheme_within_tb : List (CE CT Tryz.prog) := []
noncomputable def scheme_within_lt : List (LE CT Tryz.prog) := []
noncomputable def scheme_within (x0 : Int) (x1 : Int) (x2 : Int) : Option ((Bool) × (Unit)) :=
  (bif (decide ((x1 : Int) ≤ x0)) then
  some ((decide ((x0 : Int) ≤ x2)), ())
  else
  some (false, ()))
noncomputable def scheme_within_ce : CE CT Tryz.prog where
  f := 44
  args := [.one (.int .i64), .one (.int .i64), .one (.int .i64)]
  hs := []
  res := .val (.one (.bool))
  outs := []
  m := fun d dh => scheme_within d.1 d.2.1 d.2.2.1
  ok := ce_ok mixedP Tryz.func44 (by kernel_rfl) (orcOf_ok scheme_within_tb) (dr := scheme_within_dr) (lps := lpsOf scheme_within_lt) (lps_fn (no_loop (by kernel_rfl))) (fun d dh => by kernel_rfl)

def shares_right1_dr : Nat → DrA
  | _ => ⟨[], [], [], [], [], false, []⟩
noncomputable def shares_right1_tb : List (CE CT Tryz.prog) := [shares_within_ce]
noncomputable def shares_right1_lt : List (LE CT Tryz.prog) := []
noncomputable def shares_right1 (x0 : DShare) (h0 : DWork) : Option ((Bool) × ((DWork) × Unit)) :=
  (shares_within x0.group 1 4).bind fun r1 =>
  (bif (!r1.1) then
  some (true, (h0, ()))
  else
  (shares_within x0.epoch 1 h0.shares.epoch).bind fun r2 =>
  some ((!r2.1), (h0, ())))
noncomputable def shares_right1_ce : CE CT Tryz.prog where
  f := 102
  args := [.cod 5, .one (.ptr 0 0)]
  hs := [.cobj 111 12]
  res := .val (.one (.bool))
  outs := [.cobj 111 12]
  m := fun d dh => shares_right1 d.1 dh.1
  ok := ce_ok mixedP Tryz.func102 (by kernel_rfl) (orcOf_ok shares_right1_tb) (dr := shares_right1_dr) (lps := lpsOf shares_right1_lt) (lps_fn (no_loop (by kernel_rfl))) (fun d dh => by kernel_rfl)

def slices_IndexFunc_dr : Nat → DrA
  | _ => ⟨[], [], [], [], [], false, []⟩
noncomputable def slices_IndexFunc_tb : List (CE CT Tryz.prog) := [shares_right1_ce]
noncomputable def slices_IndexFunc_l1 (a : ((List (DShare)) × (Unit) × (Int) × (Int) × Unit) × ((DWork) × Unit)) : Option ((((List (DShare)) × (Unit) × (Int) × (Int) × Unit) × ((DWork) × Unit)) ⊕ ((((Int) × Unit) × ((DWork) × Unit)) ⊕ ((Unit) × ((DWork) × Unit)))) :=
  (bif (decide ((a.1.2.2.2.1 : Int) < a.1.2.2.1)) then
  (getI a.1.1 a.1.2.2.2.1).bind fun e1 =>
  (shares_right1 e1 a.2.1).bind fun r2 =>
  (bif r2.1 then
  some (.inr (.inl ((a.1.2.2.2.1, ()), (r2.2.1, ()))))
  else
  some (.inl ((a.1.1, (), a.1.2.2.1, (IntKind.i64.wrap (a.1.2.2.2.1 + 1)), ()), (r2.2.1, ()))))
  else
  some (.inr (.inr ((), (a.2.1, ())))))
noncomputable def slices_IndexFunc_e1 : LE CT Tryz.prog := ⟨2, [0, 1, 7, 8], [.one (.sl 5), .one (.clo 102 [0]), .one (.int .i64), .one (.int .i64)], [.cobj 111 12], [⟨.ret, [4], [.one (.int .i64)], [.cobj 111 12]⟩, ⟨.exit 0, [], [], [.cobj 111 12]⟩], slices_IndexFunc_l1⟩
noncomputable def slices_IndexFunc_lt : List (LE CT Tryz.prog) := [slices_IndexFunc_e1]
theorem slices_IndexFunc_e1_ok : LeOk slices_IndexFunc_e1 (nthL (bodyOf Tryz.f96) 0) := fun A env h k z hk => le_ok (E := slices_IndexFunc_e1) (orcOf_ok slices_IndexFunc_tb) (dr := slices_IndexFunc_dr) (lps := lpsOf slices_IndexFunc_lt) (no_loop (by kernel_rfl)) (fun a => by kernel_rfl) env h k z hk
noncomputable def slices_IndexFunc (x0 : List (DShare)) (h0 : DWork) : Option ((Int) × ((DWork) × Unit)) :=
  (loopM slices_IndexFunc_l1 ((x0, (), (x0.length : Int), 0, ()), (h0, ()))).bind fun b1 =>
  (match b1 with
  | .inl b2 =>
  some (b2.1.1, (b2.2.1, ()))
  | .inr b3 =>
  some ((-1), (b3.2.1, ())))
noncomputable def slices_IndexFunc_ce : CE CT Tryz.prog where
  f := 96
  args := [.one (.sl 5), .one (.clo 102 [0])]
  hs := [.cobj 111 12]
  res := .val (.one (.int .i64))
  outs := [.cobj 111 12]
  m := fun d dh => slices_IndexFunc d.1 dh.1
  ok := ce_ok mixedP Tryz.func96 (by kernel_rfl) (orcOf_ok slices_IndexFunc_tb) (dr := slices_IndexFunc_dr) (lps := lpsOf slices_IndexFunc_lt) (lps_fn (lps_of (n := 1) (by kernel_rfl) fun i hi => match i, hi with | 0, _ => lp_ok (E := slices_IndexFunc_e1) (by kernel_rfl) slices_IndexFunc_e1_ok)) (fun d dh => by kernel_rfl)

def slices_ContainsFunc_dr : Nat → DrA
  | _ => ⟨[], [], [], [], [], false, []⟩
noncomputable def slices_ContainsFunc_tb : List (CE CT Tryz.prog) := [slices_IndexFunc_ce]
noncomputable def slices_ContainsFunc_lt : List (LE CT Tryz.prog) := []
noncomputable def slices_ContainsFunc (x0 : List (DShare)) (h0 : DWork) : Option ((Bool) × ((DWork) × Unit)) :=
  (slices_IndexFunc x0 h0).bind fun r1 =>
  some ((decide ((0 : Int) ≤ r1.1)), (r1.2.1, ()))
noncomputable def slices_ContainsFunc_ce : CE CT Tryz.prog where
  f := 101
  args := [.one (.sl 5), .one (.clo 102 [0])]
  hs := [.cobj 111 12]
  res := .val (.one (.bool))
  outs := [.cobj 111 12]
  m := fun d dh => slices_ContainsFunc d.1 dh.1
  ok := ce_ok mixedP Tryz.func101 (by kernel_rfl) (orcOf_ok slices_ContainsFunc_tb) (dr := slices_ContainsFunc_dr) (lps := lpsOf slices_ContainsFunc_lt) (lps_fn (no_loop (by kernel_rfl))) (fun d dh => by kernel_rfl)

def shares_spans_dr : Nat → DrA
  | _ => ⟨[], [], [], [], [], false, []⟩
noncomputable def shares_spans_tb : List (CE CT Tryz.prog) := []
noncomputable def shares_spans_l1 (a : ((List (DSpan)) × (List (DShare)) × (Int) × (Int) × Unit) × ((Unit) × Unit)) : Option ((((List (DSpan)) × (List (DShare)) × (Int) × (Int) × Unit) × ((Unit) × Unit)) ⊕ ((((List (DSpan)) × Unit) × ((Unit) × (Unit) × Unit)))) :=
  (bif (decide ((a.1.2.2.2.1 : Int) < a.1.2.2.1)) then
  (getI a.1.2.1 a.1.2.2.2.1).bind fun e1 =>
  (if a.1.1.length + ([e1.span] : List (DSpan)).length ≤ 140737488355328 ∧ (a.1.1.length + ([e1.span] : List (DSpan)).length) * 32 ≤ 140737488355328 then
  some (.inl (((a.1.1 ++ ([e1.span] : List (DSpan))), a.1.2.1, a.1.2.2.1, (IntKind.i64.wrap (a.1.2.2.2.1 + 1)), ()), ((), ())))
  else none)
  else
  some (.inr ((a.1.1, ()), ((), (), ()))))
noncomputable def shares_spans_e1 : LE CT Tryz.prog := ⟨3, [3, 8, 9, 10], [.one (.own 4 0), .one (.sl 5), .one (.int .i64), .one (.int .i64)], [.row 23 2], [⟨.exit 0, [3], [.one (.own 4 1)], [.dead, .row 23 2]⟩], shares_spans_l1⟩
noncomputable def shares_spans_lt : List (LE CT Tryz.prog) := [shares_spans_e1]
theorem shares_spans_e1_ok : LeOk shares_spans_e1 (nthL (bodyOf Tryz.f104) 0) := fun A env h k z hk => le_ok (E := shares_spans_e1) (orcOf_ok shares_spans_tb) (dr := shares_spans_dr) (lps := lpsOf shares_spans_lt) (no_loop (by kernel_rfl)) (fun a => by kernel_rfl) env h k z hk
noncomputable def shares_spans (x0 : DWork) : Option ((List (DSpan)) × ((Unit) × Unit)) :=
  (loopM shares_spans_l1 (([], x0.shares.list, (x0.shares.list.length : Int), 0, ()), ((), ()))).bind fun b1 =>
  some (b1.1.1, ((), ()))
noncomputable def shares_spans_ce : CE CT Tryz.prog where
  f := 104
  args := [.cod 12]
  hs := []
  res := .val (.one (.own 4 0))
  outs := [.row 23 2]
  m := fun d dh => shares_spans d.1
  ok := ce_ok mixedP Tryz.func104 (by kernel_rfl) (orcOf_ok shares_spans_tb) (dr := shares_spans_dr) (lps := lpsOf shares_spans_lt) (lps_fn (lps_of (n := 1) (by kernel_rfl) fun i hi => match i, hi with | 0, _ => lp_ok (E := shares_spans_e1) (by kernel_rfl) shares_spans_e1_ok)) (fun d dh => by kernel_rfl)

def span_ends_dr : Nat → DrA
  | 1 => ⟨[0, 4, 1, 2, 3, 5, 6, 7, 8, 9], [[], [0], [0, 1], [0, 1, 2], [], [4], [4, 5], [4, 5, 6], [0, 1, 2, 3], [0, 1, 2, 3, 4, 5, 6, 7, 8]], [5], [8], [0], false, []⟩
  | _ => ⟨[], [], [], [], [], false, []⟩
noncomputable def span_ends_tb : List (CE CT Tryz.prog) := []
noncomputable def span_ends_lt : List (LE CT Tryz.prog) := []
noncomputable def span_ends (x0 : DSpan) : Option (((DLow) × (DHigh) × Unit) × (Unit)) :=
  some (((⟨(⟨x0.lo⟩ : DText)⟩ : DLow), (⟨(⟨x0.hi⟩ : DText)⟩ : DHigh), ()), ())
noncomputable def span_ends_ce : CE CT Tryz.prog where
  f := 98
  args := [.cod 4]
  hs := []
  res := .tup [.cod 14, .cod 15]
  outs := []
  m := fun d dh => span_ends d.1
  ok := ce_ok mixedP Tryz.func98 (by kernel_rfl) (orcOf_ok span_ends_tb) (dr := span_ends_dr) (lps := lpsOf span_ends_lt) (lps_fn (no_loop (by kernel_rfl))) (fun d dh => by kernel_rfl)

def span_none_dr : Nat → DrA
  | _ => ⟨[], [], [], [], [], false, []⟩
noncomputable def span_none_tb : List (CE CT Tryz.prog) := []
noncomputable def span_none_lt : List (LE CT Tryz.prog) := []
noncomputable def span_none (x0 : DText) : Option ((Bool) × (Unit)) :=
  some ((decide (x0.s = ([] : List UInt8))), ())
noncomputable def span_none_ce : CE CT Tryz.prog where
  f := 105
  args := [.cod 13]
  hs := []
  res := .val (.one (.bool))
  outs := []
  m := fun d dh => span_none d.1
  ok := ce_ok mixedP Tryz.func105 (by kernel_rfl) (orcOf_ok span_none_tb) (dr := span_none_dr) (lps := lpsOf span_none_lt) (lps_fn (no_loop (by kernel_rfl))) (fun d dh => by kernel_rfl)

def cmp_isNaN_dr : Nat → DrA
  | _ => ⟨[], [], [], [], [], false, []⟩
noncomputable def cmp_isNaN_tb : List (CE CT Tryz.prog) := []
noncomputable def cmp_isNaN_lt : List (LE CT Tryz.prog) := []
noncomputable def cmp_isNaN (x0 : List UInt8) : Option ((Bool) × (Unit)) :=
  some ((decide (x0 ≠ x0)), ())
noncomputable def cmp_isNaN_ce : CE CT Tryz.prog where
  f := 122
  args := [.one (.str)]
  hs := []
  res := .val (.one (.bool))
  outs := []
  m := fun d dh => cmp_isNaN d.1
  ok := ce_ok mixedP Tryz.func122 (by kernel_rfl) (orcOf_ok cmp_isNaN_tb) (dr := cmp_isNaN_dr) (lps := lpsOf cmp_isNaN_lt) (lps_fn (no_loop (by kernel_rfl))) (fun d dh => by kernel_rfl)

def cmp_Compare_dr : Nat → DrA
  | _ => ⟨[], [], [], [], [], false, []⟩
noncomputable def cmp_Compare_tb : List (CE CT Tryz.prog) := [cmp_isNaN_ce]
noncomputable def cmp_Compare_lt : List (LE CT Tryz.prog) := []
noncomputable def cmp_Compare (x0 : List UInt8) (x1 : List UInt8) : Option ((Int) × (Unit)) :=
  (cmp_isNaN x0).bind fun r1 =>
  (cmp_isNaN x1).bind fun r2 =>
  (bif r1.1 then
  (bif r2.1 then
  some (0, ())
  else
  some ((-1), ()))
  else
  (bif r2.1 then
  some (1, ())
  else
  (bif (decide (x0 < x1)) then
  some ((-1), ())
  else
  (bif (!(decide (x0 < x1) || decide (x0 = x1))) then
  some (1, ())
  else
  some (0, ())))))
noncomputable def cmp_Compare_ce : CE CT Tryz.prog where
  f := 117
  args := [.one (.str), .one (.str)]
  hs := []
  res := .val (.one (.int .i64))
  outs := []
  m := fun d dh => cmp_Compare d.1 d.2.1
  ok := ce_ok mixedP Tryz.func117 (by kernel_rfl) (orcOf_ok cmp_Compare_tb) (dr := cmp_Compare_dr) (lps := lpsOf cmp_Compare_lt) (lps_fn (no_loop (by kernel_rfl))) (fun d dh => by kernel_rfl)

def span_compare_dr : Nat → DrA
  | _ => ⟨[], [], [], [], [], false, []⟩
noncomputable def span_compare_tb : List (CE CT Tryz.prog) := [cmp_Compare_ce]
noncomputable def span_compare_lt : List (LE CT Tryz.prog) := []
noncomputable def span_compare (x0 : DText) (x1 : DText) : Option ((Int) × (Unit)) :=
  (cmp_Compare x0.s x1.s).bind fun r1 =>
  some (r1.1, ())
noncomputable def span_compare_ce : CE CT Tryz.prog where
  f := 99
  args := [.cod 13, .cod 13]
  hs := []
  res := .val (.one (.int .i64))
  outs := []
  m := fun d dh => span_compare d.1 d.2.1
  ok := ce_ok mixedP Tryz.func99 (by kernel_rfl) (orcOf_ok span_compare_tb) (dr := span_compare_dr) (lps := lpsOf span_compare_lt) (lps_fn (no_loop (by kernel_rfl))) (fun d dh => by kernel_rfl)

def span_above_dr : Nat → DrA
  | _ => ⟨[], [], [], [], [], false, []⟩
noncomputable def span_above_tb : List (CE CT Tryz.prog) := [span_none_ce, span_compare_ce]
noncomputable def span_above_lt : List (LE CT Tryz.prog) := []
noncomputable def span_above (x0 : DHigh) (x1 : DText) : Option ((Bool) × (Unit)) :=
  (span_none x0.text).bind fun r1 =>
  (bif r1.1 then
  some (true, ())
  else
  (span_compare x0.text x1).bind fun r2 =>
  some ((decide ((0 : Int) < r2.1)), ()))
noncomputable def span_above_ce : CE CT Tryz.prog where
  f := 107
  args := [.cod 15, .cod 13]
  hs := []
  res := .val (.one (.bool))
  outs := []
  m := fun d dh => span_above d.1 d.2.1
  ok := ce_ok mixedP Tryz.func107 (by kernel_rfl) (orcOf_ok span_above_tb) (dr := span_above_dr) (lps := lpsOf span_above_lt) (lps_fn (no_loop (by kernel_rfl))) (fun d dh => by kernel_rfl)

def span_Key_dr : Nat → DrA
  | _ => ⟨[], [], [], [], [], false, []⟩
noncomputable def span_Key_tb : List (CE CT Tryz.prog) := []
noncomputable def span_Key_l1 (a : ((List UInt8) × (Int) × (Int) × Unit) × (Unit)) : Option ((((List UInt8) × (Int) × (Int) × Unit) × (Unit)) ⊕ ((((Bool) × Unit) × (Unit)) ⊕ ((Unit) × (Unit)))) :=
  (bif (decide ((a.1.2.2.1 : Int) < a.1.2.1)) then
  (getI a.1.1 a.1.2.2.1).bind fun e1 =>
  (bif (decide ((97 : Int) ≤ (e1.toNat : Int))) then
  (bif (decide (((e1.toNat : Int) : Int) ≤ 122)) then
  some (.inl ((a.1.1, a.1.2.1, (IntKind.i64.wrap (a.1.2.2.1 + 1)), ()), ()))
  else
  (bif (decide ((48 : Int) ≤ (e1.toNat : Int))) then
  (bif (!(decide (((e1.toNat : Int) : Int) ≤ 57))) then
  some (.inr (.inl ((false, ()), ())))
  else
  some (.inl ((a.1.1, a.1.2.1, (IntKind.i64.wrap (a.1.2.2.1 + 1)), ()), ())))
  else
  some (.inr (.inl ((false, ()), ())))))
  else
  (bif (decide ((48 : Int) ≤ (e1.toNat : Int))) then
  (bif (!(decide (((e1.toNat : Int) : Int) ≤ 57))) then
  some (.inr (.inl ((false, ()), ())))
  else
  some (.inl ((a.1.1, a.1.2.1, (IntKind.i64.wrap (a.1.2.2.1 + 1)), ()), ())))
  else
  some (.inr (.inl ((false, ()), ())))))
  else
  some (.inr (.inr ((), ()))))
noncomputable def span_Key_e1 : LE CT Tryz.prog := ⟨4, [0, 13, 14], [.one (.str), .one (.int .i64), .one (.int .i64)], [], [⟨.ret, [2], [.one (.bool)], []⟩, ⟨.exit 0, [], [], []⟩], span_Key_l1⟩
noncomputable def span_Key_lt : List (LE CT Tryz.prog) := [span_Key_e1]
theorem span_Key_e1_ok : LeOk span_Key_e1 (nthL (bodyOf Tryz.f106) 0) := fun A env h k z hk => le_ok (E := span_Key_e1) (orcOf_ok span_Key_tb) (dr := span_Key_dr) (lps := lpsOf span_Key_lt) (no_loop (by kernel_rfl)) (fun a => by kernel_rfl) env h k z hk
noncomputable def span_Key (x0 : List UInt8) : Option ((Bool) × (Unit)) :=
  (bif (decide (x0 = ([] : List UInt8))) then
  some (false, ())
  else
  (bif (decide ((20 : Int) < (x0.length : Int))) then
  some (false, ())
  else
  (loopM span_Key_l1 ((x0, (x0.length : Int), 0, ()), ())).bind fun b1 =>
  (match b1 with
  | .inl b2 =>
  some (b2.1.1, ())
  | .inr b3 =>
  some (true, ()))))
noncomputable def span_Key_ce : CE CT Tryz.prog where
  f := 106
  args := [.one (.str)]
  hs := []
  res := .val (.one (.bool))
  outs := []
  m := fun d dh => span_Key d.1
  ok := ce_ok mixedP Tryz.func106 (by kernel_rfl) (orcOf_ok span_Key_tb) (dr := span_Key_dr) (lps := lpsOf span_Key_lt) (lps_fn (lps_of (n := 1) (by kernel_rfl) fun i hi => match i, hi with | 0, _ => lp_ok (E := span_Key_e1) (by kernel_rfl) span_Key_e1_ok)) (fun d dh => by kernel_rfl)

def span_Right_dr : Nat → DrA
  | _ => ⟨[], [], [], [], [], false, []⟩
noncomputable def span_Right_tb : List (CE CT Tryz.prog) := [span_ends_ce, span_none_ce, span_above_ce, span_Key_ce]
noncomputable def span_Right_lt : List (LE CT Tryz.prog) := []
noncomputable def span_Right (x0 : DSpan) : Option ((Bool) × (Unit)) :=
  (span_ends x0).bind fun r1 =>
  (span_none r1.1.1.text).bind fun r2 =>
  (bif r2.1 then
  (span_none r1.1.2.1.text).bind fun r3 =>
  (bif r3.1 then
  (span_above r1.1.2.1 r1.1.1.text).bind fun r4 =>
  some (r4.1, ())
  else
  (span_Key x0.hi).bind fun r5 =>
  (bif r5.1 then
  (span_above r1.1.2.1 r1.1.1.text).bind fun r6 =>
  some (r6.1, ())
  else
  some (false, ())))
  else
  (span_Key x0.lo).bind fun r7 =>
  (bif r7.1 then
  (span_none r1.1.2.1.text).bind fun r8 =>
  (bif r8.1 then
  (span_above r1.1.2.1 r1.1.1.text).bind fun r9 =>
  some (r9.1, ())
  else
  (span_Key x0.hi).bind fun r10 =>
  (bif r10.1 then
  (span_above r1.1.2.1 r1.1.1.text).bind fun r11 =>
  some (r11.1, ())
  else
  some (false, ())))
  else
  some (false, ())))
noncomputable def span_Right_ce : CE CT Tryz.prog where
  f := 68
  args := [.cod 4]
  hs := []
  res := .val (.one (.bool))
  outs := []
  m := fun d dh => span_Right d.1
  ok := ce_ok mixedP Tryz.func68 (by kernel_rfl) (orcOf_ok span_Right_tb) (dr := span_Right_dr) (lps := lpsOf span_Right_lt) (lps_fn (no_loop (by kernel_rfl))) (fun d dh => by kernel_rfl)

def span_Parts_dr : Nat → DrA
  | 7 => ⟨[0, 2, 1, 5, 3, 4, 6], [[], [0], [], [2], [2, 3], [0, 1], [0, 1, 2, 3, 4, 5]], [], [], [], false, []⟩
  | _ => ⟨[], [], [], [], [], false, []⟩
noncomputable def span_Parts_tb : List (CE CT Tryz.prog) := [span_Right_ce]
noncomputable def span_Parts_l1 (a : ((List (DSpan)) × (List UInt8) × (Bool) × (List (DSpan)) × (Int) × (Int) × Unit) × (Unit)) : Option ((((List (DSpan)) × (List UInt8) × (Bool) × (List (DSpan)) × (Int) × (Int) × Unit) × (Unit)) ⊕ ((((Bool) × Unit) × (Unit)) ⊕ (((Bool) × Unit) × (Unit)))) :=
  (bif (decide ((a.1.2.2.2.2.2.1 : Int) < a.1.2.2.2.2.1)) then
  (getI a.1.2.2.2.1 a.1.2.2.2.2.2.1).bind fun e1 =>
  (span_Right e1).bind fun r2 =>
  (bif (!r2.1) then
  some (.inr (.inl ((false, ()), ())))
  else
  (bif (decide (e1.lo ≠ a.1.2.1)) then
  some (.inr (.inl ((false, ()), ())))
  else
  (bif a.1.2.2.1 then
  some (.inr (.inl ((false, ()), ())))
  else
  (bif (decide (e1.hi = ([] : List UInt8))) then
  (bif (decide ((a.1.2.2.2.2.2.1 : Int) < (IntKind.i64.wrap ((a.1.1.length : Int) - 1)))) then
  some (.inr (.inl ((false, ()), ())))
  else
  some (.inl ((a.1.1, e1.hi, (decide (e1.hi = ([] : List UInt8))), a.1.2.2.2.1, a.1.2.2.2.2.1, (IntKind.i64.wrap (a.1.2.2.2.2.2.1 + 1)), ()), ())))
  else
  some (.inl ((a.1.1, e1.hi, (decide (e1.hi = ([] : List UInt8))), a.1.2.2.2.1, a.1.2.2.2.2.1, (IntKind.i64.wrap (a.1.2.2.2.2.2.1 + 1)), ()), ()))))))
  else
  some (.inr (.inr ((a.1.2.2.1, ()), ()))))
noncomputable def span_Parts_e1 : LE CT Tryz.prog := ⟨3, [0, 3, 4, 7, 8, 9], [.one (.sl 4), .one (.str), .one (.bool), .one (.sl 4), .one (.int .i64), .one (.int .i64)], [], [⟨.ret, [2], [.one (.bool)], []⟩, ⟨.exit 0, [4], [.one (.bool)], []⟩], span_Parts_l1⟩
noncomputable def span_Parts_lt : List (LE CT Tryz.prog) := [span_Parts_e1]
theorem span_Parts_e1_ok : LeOk span_Parts_e1 (nthL (bodyOf Tryz.f103) 0) := fun A env h k z hk => le_ok (E := span_Parts_e1) (orcOf_ok span_Parts_tb) (dr := span_Parts_dr) (lps := lpsOf span_Parts_lt) (no_loop (by kernel_rfl)) (fun a => by kernel_rfl) env h k z hk
noncomputable def span_Parts (x0 : List (DSpan)) : Option ((Bool) × (Unit)) :=
  (loopM span_Parts_l1 ((x0, ([] : List UInt8), false, x0, (x0.length : Int), 0, ()), ())).bind fun b1 =>
  (match b1 with
  | .inl b2 =>
  some (b2.1.1, ())
  | .inr b3 =>
  some (b3.1.1, ()))
noncomputable def span_Parts_ce : CE CT Tryz.prog where
  f := 103
  args := [.one (.sl 4)]
  hs := []
  res := .val (.one (.bool))
  outs := []
  m := fun d dh => span_Parts d.1
  ok := ce_ok mixedP Tryz.func103 (by kernel_rfl) (orcOf_ok span_Parts_tb) (dr := span_Parts_dr) (lps := lpsOf span_Parts_lt) (lps_fn (lps_of (n := 1) (by kernel_rfl) fun i hi => match i, hi with | 0, _ => lp_ok (E := span_Parts_e1) (by kernel_rfl) span_Parts_e1_ok)) (fun d dh => by kernel_rfl)

def shares_right_dr : Nat → DrA
  | _ => ⟨[], [], [], [], [], false, []⟩
noncomputable def shares_right_tb : List (CE CT Tryz.prog) := [slices_ContainsFunc_ce, shares_within_ce, shares_spans_ce, span_Parts_ce]
noncomputable def shares_right_lt : List (LE CT Tryz.prog) := []
noncomputable def shares_right (x0 : DWork) : Option ((Bool) × (Unit)) :=
  (slices_ContainsFunc x0.shares.list x0).bind fun r1 =>
  (shares_within r1.2.1.shares.epoch 1 1073741824).bind fun r2 =>
  (bif r2.1 then
  (bif (decide (((r1.2.1.shares.list.length : Int) : Int) ≤ 40)) then
  (bif (!r1.1) then
  (shares_spans r1.2.1).bind fun r3 =>
  (span_Parts r3.1).bind fun r4 =>
  some (r4.1, ())
  else
  some (false, ()))
  else
  some (false, ()))
  else
  some (false, ()))
noncomputable def shares_right_ce : CE CT Tryz.prog where
  f := 67
  args := [.cod 12]
  hs := []
  res := .val (.one (.bool))
  outs := []
  m := fun d dh => shares_right d.1
  ok := ce_ok mixedP Tryz.func67 (by kernel_rfl) (orcOf_ok shares_right_tb) (dr := shares_right_dr) (lps := lpsOf shares_right_lt) (lps_fn (no_loop (by kernel_rfl))) (fun d dh => by kernel_rfl)

def span_over_dr : Nat → DrA
  | _ => ⟨[], [], [], [], [], false, []⟩
noncomputable def span_over_tb : List (CE CT Tryz.prog) := [span_none_ce, span_compare_ce]
noncomputable def span_over_lt : List (LE CT Tryz.prog) := []
noncomputable def span_over (x0 : DHigh) (x1 : DHigh) : Option ((Bool) × (Unit)) :=
  (span_none x0.text).bind fun r1 =>
  (bif r1.1 then
  some (true, ())
  else
  (span_none x1.text).bind fun r2 =>
  (bif (!r2.1) then
  (span_compare x0.text x1.text).bind fun r3 =>
  some ((decide ((0 : Int) ≤ r3.1)), ())
  else
  some (false, ())))
noncomputable def span_over_ce : CE CT Tryz.prog where
  f := 100
  args := [.cod 15, .cod 15]
  hs := []
  res := .val (.one (.bool))
  outs := []
  m := fun d dh => span_over d.1 d.2.1
  ok := ce_ok mixedP Tryz.func100 (by kernel_rfl) (orcOf_ok span_over_tb) (dr := span_over_dr) (lps := lpsOf span_over_lt) (lps_fn (no_loop (by kernel_rfl))) (fun d dh => by kernel_rfl)

def span_Within_dr : Nat → DrA
  | _ => ⟨[], [], [], [], [], false, []⟩
noncomputable def span_Within_tb : List (CE CT Tryz.prog) := [span_ends_ce, span_Right_ce, span_compare_ce, span_over_ce]
noncomputable def span_Within_lt : List (LE CT Tryz.prog) := []
noncomputable def span_Within (x0 : DSpan) (x1 : DSpan) : Option ((Bool) × (Unit)) :=
  (span_ends x0).bind fun r1 =>
  (span_ends x1).bind fun r2 =>
  (span_Right x0).bind fun r3 =>
  (bif r3.1 then
  (span_Right x1).bind fun r4 =>
  (bif r4.1 then
  (span_compare r2.1.1.text r1.1.1.text).bind fun r5 =>
  (bif (decide ((r5.1 : Int) ≤ 0)) then
  (span_over r2.1.2.1 r1.1.2.1).bind fun r6 =>
  some (r6.1, ())
  else
  some (false, ()))
  else
  some (false, ()))
  else
  some (false, ()))
noncomputable def span_Within_ce : CE CT Tryz.prog where
  f := 66
  args := [.cod 4, .cod 4]
  hs := []
  res := .val (.one (.bool))
  outs := []
  m := fun d dh => span_Within d.1 d.2.1
  ok := ce_ok mixedP Tryz.func66 (by kernel_rfl) (orcOf_ok span_Within_tb) (dr := span_Within_dr) (lps := lpsOf span_Within_lt) (lps_fn (no_loop (by kernel_rfl))) (fun d dh => by kernel_rfl)

def shares_Turn1_dr : Nat → DrA
  | _ => ⟨[], [], [], [], [], false, []⟩
noncomputable def shares_Turn1_tb : List (CE CT Tryz.prog) := [span_Within_ce]
noncomputable def shares_Turn1_lt : List (LE CT Tryz.prog) := []
noncomputable def shares_Turn1 (x0 : DSpan) (h0 : DSpan) : Option ((Bool) × ((DSpan) × Unit)) :=
  (span_Within h0 x0).bind fun r1 =>
  some (r1.1, (h0, ()))
noncomputable def shares_Turn1_ce : CE CT Tryz.prog where
  f := 65
  args := [.cod 4, .one (.ptr 0 0)]
  hs := [.cobj 23 4]
  res := .val (.one (.bool))
  outs := [.cobj 23 4]
  m := fun d dh => shares_Turn1 d.1 dh.1
  ok := ce_ok mixedP Tryz.func65 (by kernel_rfl) (orcOf_ok shares_Turn1_tb) (dr := shares_Turn1_dr) (lps := lpsOf shares_Turn1_lt) (lps_fn (no_loop (by kernel_rfl))) (fun d dh => by kernel_rfl)

def shares_at1_dr : Nat → DrA
  | _ => ⟨[], [], [], [], [], false, []⟩
noncomputable def shares_at1_tb : List (CE CT Tryz.prog) := [shares_Turn1_ce]
noncomputable def shares_at1_lt : List (LE CT Tryz.prog) := []
noncomputable def shares_at1 (x0 : DShare) (h0 : (Unit) × Unit) (h1 : DSpan) : Option ((Bool) × (((Unit) × Unit) × (DSpan) × Unit)) :=
  (shares_Turn1 x0.span h1).bind fun r1 =>
  some (r1.1, (((), ()), r1.2.1, ()))
noncomputable def shares_at1_ce : CE CT Tryz.prog where
  f := 97
  args := [.cod 5, .one (.ptr 0 0)]
  hs := [.obj 114 [.clo 65 [1]], .cobj 23 4]
  res := .val (.one (.bool))
  outs := [.obj 114 [.clo 65 [1]], .cobj 23 4]
  m := fun d dh => shares_at1 d.1 dh.1 dh.2.1
  ok := ce_ok mixedP Tryz.func97 (by kernel_rfl) (orcOf_ok shares_at1_tb) (dr := shares_at1_dr) (lps := lpsOf shares_at1_lt) (lps_fn (no_loop (by kernel_rfl))) (fun d dh => by kernel_rfl)

def slices_IndexFunc_2_dr : Nat → DrA
  | _ => ⟨[], [], [], [], [], false, []⟩
noncomputable def slices_IndexFunc_2_tb : List (CE CT Tryz.prog) := [shares_at1_ce]
noncomputable def slices_IndexFunc_2_l1 (a : ((List (DShare)) × (Unit) × (Int) × (Int) × Unit) × (((Unit) × Unit) × (DSpan) × Unit)) : Option ((((List (DShare)) × (Unit) × (Int) × (Int) × Unit) × (((Unit) × Unit) × (DSpan) × Unit)) ⊕ ((((Int) × Unit) × (((Unit) × Unit) × (DSpan) × Unit)) ⊕ ((Unit) × (((Unit) × Unit) × (DSpan) × Unit)))) :=
  (bif (decide ((a.1.2.2.2.1 : Int) < a.1.2.2.1)) then
  (getI a.1.1 a.1.2.2.2.1).bind fun e1 =>
  (shares_at1 e1 ((), ()) a.2.2.1).bind fun r2 =>
  (bif r2.1 then
  some (.inr (.inl ((a.1.2.2.2.1, ()), (((), ()), r2.2.2.1, ()))))
  else
  some (.inl ((a.1.1, (), a.1.2.2.1, (IntKind.i64.wrap (a.1.2.2.2.1 + 1)), ()), (((), ()), r2.2.2.1, ()))))
  else
  some (.inr (.inr ((), (((), ()), a.2.2.1, ())))))
noncomputable def slices_IndexFunc_2_e1 : LE CT Tryz.prog := ⟨2, [0, 1, 7, 8], [.one (.sl 5), .one (.clo 97 [0]), .one (.int .i64), .one (.int .i64)], [.obj 114 [.clo 65 [1]], .cobj 23 4], [⟨.ret, [4], [.one (.int .i64)], [.obj 114 [.clo 65 [1]], .cobj 23 4]⟩, ⟨.exit 0, [], [], [.obj 114 [.clo 65 [1]], .cobj 23 4]⟩], slices_IndexFunc_2_l1⟩
noncomputable def slices_IndexFunc_2_lt : List (LE CT Tryz.prog) := [slices_IndexFunc_2_e1]
theorem slices_IndexFunc_2_e1_ok : LeOk slices_IndexFunc_2_e1 (nthL (bodyOf Tryz.f96) 0) := fun A env h k z hk => le_ok (E := slices_IndexFunc_2_e1) (orcOf_ok slices_IndexFunc_2_tb) (dr := slices_IndexFunc_2_dr) (lps := lpsOf slices_IndexFunc_2_lt) (no_loop (by kernel_rfl)) (fun a => by kernel_rfl) env h k z hk
noncomputable def slices_IndexFunc_2 (x0 : List (DShare)) (h0 : (Unit) × Unit) (h1 : DSpan) : Option ((Int) × (((Unit) × Unit) × (DSpan) × Unit)) :=
  (loopM slices_IndexFunc_2_l1 ((x0, (), (x0.length : Int), 0, ()), (((), ()), h1, ()))).bind fun b1 =>
  (match b1 with
  | .inl b2 =>
  some (b2.1.1, (((), ()), b2.2.2.1, ()))
  | .inr b3 =>
  some ((-1), (((), ()), b3.2.2.1, ())))
noncomputable def slices_IndexFunc_2_ce : CE CT Tryz.prog where
  f := 96
  args := [.one (.sl 5), .one (.clo 97 [0])]
  hs := [.obj 114 [.clo 65 [1]], .cobj 23 4]
  res := .val (.one (.int .i64))
  outs := [.obj 114 [.clo 65 [1]], .cobj 23 4]
  m := fun d dh => slices_IndexFunc_2 d.1 dh.1 dh.2.1
  ok := ce_ok mixedP Tryz.func96 (by kernel_rfl) (orcOf_ok slices_IndexFunc_2_tb) (dr := slices_IndexFunc_2_dr) (lps := lpsOf slices_IndexFunc_2_lt) (lps_fn (lps_of (n := 1) (by kernel_rfl) fun i hi => match i, hi with | 0, _ => lp_ok (E := slices_IndexFunc_2_e1) (by kernel_rfl) slices_IndexFunc_2_e1_ok)) (fun d dh => by kernel_rfl)

def shares_at_dr : Nat → DrA
  | _ => ⟨[], [], [], [], [], false, []⟩
noncomputable def shares_at_tb : List (CE CT Tryz.prog) := [shares_right_ce, slices_IndexFunc_2_ce]
noncomputable def shares_at_lt : List (LE CT Tryz.prog) := []
noncomputable def shares_at (x0 : DWork) (h0 : DSpan) : Option ((Int) × ((DSpan) × Unit)) :=
  (shares_right x0).bind fun r1 =>
  (bif (!r1.1) then
  some ((-1), (h0, ()))
  else
  (slices_IndexFunc_2 x0.shares.list ((), ()) h0).bind fun r2 =>
  some (r2.1, (r2.2.2.1, ())))
noncomputable def shares_at_ce : CE CT Tryz.prog where
  f := 64
  args := [.cod 12, .one (.clo 65 [0])]
  hs := [.cobj 23 4]
  res := .val (.one (.int .i64))
  outs := [.cobj 23 4]
  m := fun d dh => shares_at d.1 dh.1
  ok := ce_ok mixedP Tryz.func64 (by kernel_rfl) (orcOf_ok shares_at_tb) (dr := shares_at_dr) (lps := lpsOf shares_at_lt) (lps_fn (no_loop (by kernel_rfl))) (fun d dh => by kernel_rfl)

noncomputable def cloneA71 (x : List (DShare)) : Option (Nat × ((List (DShare)) × Unit)) :=
  if x.length ≠ 0 ∧ x.length ≤ 140737488355328 ∧ x.length * 48 ≤ 140737488355328 then some (x.length, (x, ())) else none
noncomputable def cloneA71_ce : CE CT Tryz.prog where
  f := 71
  args := [.one (.sl 5)]
  hs := []
  res := .val (.one (.asz 6 0))
  outs := [.arr 71 6 true]
  m := fun d dh => cloneA71 d.1
  ok := fun d dh r hr => by
    unfold cloneA71 at hr
    split at hr
    · rename_i hroom
      injection hr with hr
      subst hr
      exact cloneF_tr mixedP Tryz.func71 (by kernel_rfl) rfl rfl (zv := .agg #[.string ⟨#[]⟩, .string ⟨#[]⟩, .int .i64 0, .int .i64 0]) (he := by kernel_rfl) (hsz := by kernel_rfl) (hz := by kernel_rfl) (hby := by kernel_rfl) rfl rfl (F := 6) (zt := ((⟨(⟨([] : List UInt8), ([] : List UInt8)⟩ : DSpan), 0, 0⟩ : DShare) : DShare)) d.1 d.1 (by kernel_rfl) rfl rfl (fun _ _ _ h => h) hroom.1 hroom.2
    · cases hr

def slices_Values_dr : Nat → DrA
  | _ => ⟨[], [], [], [], [], false, []⟩
noncomputable def slices_Values_tb : List (CE CT Tryz.prog) := []
noncomputable def slices_Values_lt : List (LE CT Tryz.prog) := []
noncomputable def slices_Values (x0 : List (List UInt8)) : Option ((Unit) × ((List (List UInt8)) × Unit)) :=
  some ((), (x0, ()))
noncomputable def slices_Values_ce : CE CT Tryz.prog where
  f := 121
  args := [.one (.sl 2)]
  hs := []
  res := .val (.one (.clo 126 [0]))
  outs := [.cobj 99 3]
  m := fun d dh => slices_Values d.1
  ok := ce_ok mixedP Tryz.func121 (by kernel_rfl) (orcOf_ok slices_Values_tb) (dr := slices_Values_dr) (lps := lpsOf slices_Values_lt) (lps_fn (no_loop (by kernel_rfl))) (fun d dh => by kernel_rfl)

def slices_Collect_dr : Nat → DrA
  | _ => ⟨[], [], [], [], [], false, []⟩
noncomputable def slices_Collect_tb : List (CE CT Tryz.prog) := [appendSeq_ce]
noncomputable def slices_Collect_lt : List (LE CT Tryz.prog) := []
noncomputable def slices_Collect (h0 : List (List UInt8)) : Option ((Nat × Nat) × ((List (List UInt8)) × (List (List UInt8)) × Unit)) :=
  (appendSeq h0).bind fun r1 =>
  some ((r1.1.1, r1.1.2), (r1.2.1, r1.2.2.1, ()))
noncomputable def slices_Collect_ce : CE CT Tryz.prog where
  f := 124
  args := [.one (.clo 126 [0])]
  hs := [.cobj 99 3]
  res := .val (.one (.asu 2 1))
  outs := [.cobj 99 3, .arr 9 2 false]
  m := fun d dh => slices_Collect dh.1
  ok := ce_ok mixedP Tryz.func124 (by kernel_rfl) (orcOf_ok slices_Collect_tb) (dr := slices_Collect_dr) (lps := lpsOf slices_Collect_lt) (lps_fn (no_loop (by kernel_rfl))) (fun d dh => by kernel_rfl)

def slices_Sorted_dr : Nat → DrA
  | _ => ⟨[], [], [], [], [], false, []⟩
noncomputable def slices_Sorted_tb : List (CE CT Tryz.prog) := [slices_Collect_ce, sortT_ce]
noncomputable def slices_Sorted_lt : List (LE CT Tryz.prog) := []
noncomputable def slices_Sorted (h0 : List (List UInt8)) : Option ((Nat × Nat) × ((List (List UInt8)) × (List (List UInt8)) × Unit)) :=
  (slices_Collect h0).bind fun r1 =>
  (sortT (r1.1.1, r1.1.2) r1.2.2.1).bind fun r2 =>
  some ((r1.1.1, r1.1.2), (r1.2.1, r2.2.1, ()))
noncomputable def slices_Sorted_ce : CE CT Tryz.prog where
  f := 120
  args := [.one (.clo 126 [0])]
  hs := [.cobj 99 3]
  res := .val (.one (.asu 2 1))
  outs := [.cobj 99 3, .arr 9 2 false]
  m := fun d dh => slices_Sorted dh.1
  ok := ce_ok mixedP Tryz.func120 (by kernel_rfl) (orcOf_ok slices_Sorted_tb) (dr := slices_Sorted_dr) (lps := lpsOf slices_Sorted_lt) (lps_fn (no_loop (by kernel_rfl))) (fun d dh => by kernel_rfl)

def slices_Compact_dr : Nat → DrA
  | 6 => ⟨[0, 1, 2, 4, 5, 6, 7, 3, 8, 9], [[], [], [0, 1], [0, 1, 2], [], [], [5], [4, 5, 6], [4, 5, 6, 7], [0, 1, 2, 3, 4, 5, 6, 7, 8]], [], [], [], false, []⟩
  | 11 => ⟨[0, 1, 2, 4, 5, 6, 7, 3, 8, 9], [[], [], [0, 1], [0, 1, 2], [], [], [5], [4, 5, 6], [4, 5, 6, 7], [0, 1, 2, 3, 4, 5, 6, 7, 8]], [], [], [], false, []⟩
  | _ => ⟨[], [], [], [], [], false, []⟩
noncomputable def slices_Compact_tb : List (CE CT Tryz.prog) := []
noncomputable def slices_Compact_l2 (a : ((Nat × Nat) × (Int) × (Nat × Nat) × (Int) × Unit) × ((List (List UInt8)) × Unit)) : Option ((((Nat × Nat) × (Int) × (Nat × Nat) × (Int) × Unit) × ((List (List UInt8)) × Unit)) ⊕ ((((Nat × Nat) × (Int) × Unit) × ((List (List UInt8)) × Unit)))) :=
  (bif (decide ((a.1.2.2.2.1 : Int) < ((a.1.2.2.1.2 : Nat) : Int))) then
  (if 0 ≤ (a.1.2.2.2.1 : Int) ∧ (a.1.2.2.2.1 : Int) < ((a.1.2.2.1.2 : Nat) : Int) then
  (if 0 ≤ ((IntKind.i64.wrap (a.1.2.2.2.1 - 1)) : Int) ∧ ((IntKind.i64.wrap (a.1.2.2.2.1 - 1)) : Int) < ((a.1.2.2.1.2 : Nat) : Int) then
  (a.2.1[(a.1.2.2.1.1 + (a.1.2.2.2.1 : Int).toNat)]?).bind fun e1 =>
  (a.2.1[(a.1.2.2.1.1 + ((IntKind.i64.wrap (a.1.2.2.2.1 - 1)) : Int).toNat)]?).bind fun e2 =>
  (bif (decide (e1 ≠ e2)) then
  (if 0 ≤ (a.1.2.2.2.1 : Int) ∧ (a.1.2.2.2.1 : Int) < ((a.1.2.2.1.2 : Nat) : Int) then
  (a.2.1[(a.1.2.2.1.1 + (a.1.2.2.2.1 : Int).toNat)]?).bind fun e3 =>
  (if 0 ≤ (a.1.2.1 : Int) ∧ (a.1.2.1 : Int) < ((a.1.1.2 : Nat) : Int) then
  (a.2.1[(a.1.1.1 + (a.1.2.1 : Int).toNat)]?).bind fun e4 =>
  some (.inl (((a.1.1.1, a.1.1.2), (IntKind.i64.wrap (a.1.2.1 + 1)), (a.1.2.2.1.1, a.1.2.2.1.2), (IntKind.i64.wrap (a.1.2.2.2.1 + 1)), ()), ((a.2.1.set (a.1.1.1 + (a.1.2.1 : Int).toNat) e3), ())))
  else none)
  else none)
  else
  some (.inl (((a.1.1.1, a.1.1.2), a.1.2.1, (a.1.2.2.1.1, a.1.2.2.1.2), (IntKind.i64.wrap (a.1.2.2.2.1 + 1)), ()), (a.2.1, ()))))
  else none)
  else none)
  else
  some (.inr (((a.1.1.1, a.1.1.2), a.1.2.1, ()), (a.2.1, ()))))
noncomputable def slices_Compact_e2 : LE CT Tryz.prog := ⟨9, [0, 3, 4, 5], [.one (.asu 2 0), .one (.int .i64), .one (.asu 2 0), .one (.int .i64)], [.arr 9 2 true], [⟨.exit 2, [0, 3], [.one (.asu 2 0), .one (.int .i64)], [.arr 9 2 true]⟩], slices_Compact_l2⟩
noncomputable def slices_Compact_l1 (a : ((Nat × Nat) × (Int) × Unit) × ((List (List UInt8)) × Unit)) : Option ((((Nat × Nat) × (Int) × Unit) × ((List (List UInt8)) × Unit)) ⊕ ((((Nat × Nat) × Unit) × ((List (List UInt8)) × Unit)) ⊕ (((Nat × Nat) × Unit) × ((List (List UInt8)) × Unit)))) :=
  (bif (decide ((a.1.2.1 : Int) < ((a.1.1.2 : Nat) : Int))) then
  (if 0 ≤ (a.1.2.1 : Int) ∧ (a.1.2.1 : Int) < ((a.1.1.2 : Nat) : Int) then
  (if 0 ≤ ((IntKind.i64.wrap (a.1.2.1 - 1)) : Int) ∧ ((IntKind.i64.wrap (a.1.2.1 - 1)) : Int) < ((a.1.1.2 : Nat) : Int) then
  (a.2.1[(a.1.1.1 + (a.1.2.1 : Int).toNat)]?).bind fun e1 =>
  (a.2.1[(a.1.1.1 + ((IntKind.i64.wrap (a.1.2.1 - 1)) : Int).toNat)]?).bind fun e2 =>
  (bif (decide (e1 = e2)) then
  (if 0 ≤ ((a.1.2.1 : Int) : Int) ∧ ((a.1.2.1 : Int) : Int) ≤ ((a.1.1.2 : Nat) : Int) ∧ ((a.1.1.2 : Nat) : Int) ≤ ((a.1.1.2 : Nat) : Int) ∧ ((a.1.1.2 : Nat) : Int) ≤ 140737488355328 then
  (loopM slices_Compact_l2 (((a.1.1.1, a.1.1.2), a.1.2.1, ((a.1.1.1 + (a.1.2.1 : Int).toNat), (((a.1.1.2 : Nat) : Int).toNat - (a.1.2.1 : Int).toNat)), 1, ()), (a.2.1, ()))).bind fun b3 =>
  (if 0 ≤ ((b3.1.2.1 : Int) : Int) ∧ ((b3.1.2.1 : Int) : Int) ≤ ((b3.1.1.2 : Nat) : Int) ∧ ((b3.1.1.2 : Nat) : Int) ≤ ((b3.1.1.2 : Nat) : Int) ∧ ((b3.1.1.2 : Nat) : Int) ≤ 140737488355328 then
  (if (b3.1.1.1 + (b3.1.2.1 : Int).toNat) ≤ b3.2.1.length then
  let y4 : List (List UInt8) := (b3.2.1.take (b3.1.1.1 + (b3.1.2.1 : Int).toNat) ++ List.replicate (((b3.1.1.2 : Nat) : Int).toNat - (b3.1.2.1 : Int).toNat) (([] : List UInt8) : List UInt8) ++ b3.2.1.drop ((b3.1.1.1 + (b3.1.2.1 : Int).toNat) + (((b3.1.1.2 : Nat) : Int).toNat - (b3.1.2.1 : Int).toNat)))
  (if 0 ≤ ((0 : Int) : Int) ∧ ((0 : Int) : Int) ≤ (b3.1.2.1 : Int) ∧ (b3.1.2.1 : Int) ≤ ((b3.1.1.2 : Nat) : Int) ∧ (b3.1.2.1 : Int) ≤ 140737488355328 then
  some (.inr (.inl ((((b3.1.1.1 + (0 : Int).toNat), ((b3.1.2.1 : Int).toNat - (0 : Int).toNat)), ()), (y4, ()))))
  else none)
  else none)
  else none)
  else none)
  else
  some (.inl (((a.1.1.1, a.1.1.2), (IntKind.i64.wrap (a.1.2.1 + 1)), ()), (a.2.1, ()))))
  else none)
  else none)
  else
  some (.inr (.inr (((a.1.1.1, a.1.1.2), ()), (a.2.1, ())))))
noncomputable def slices_Compact_e1 : LE CT Tryz.prog := ⟨4, [0, 3], [.one (.asu 2 0), .one (.int .i64)], [.arr 9 2 true], [⟨.ret, [2], [.one (.asu 2 0)], [.arr 9 2 true]⟩, ⟨.exit 0, [0], [.one (.asu 2 0)], [.arr 9 2 true]⟩], slices_Compact_l1⟩
noncomputable def slices_Compact_lt : List (LE CT Tryz.prog) := [slices_Compact_e2, slices_Compact_e1]
theorem slices_Compact_e2_ok : LeOk slices_Compact_e2 (nthL (nthL (bodyOf Tryz.f119) 0) 0) := fun A env h k z hk => le_ok (E := slices_Compact_e2) (orcOf_ok slices_Compact_tb) (dr := slices_Compact_dr) (lps := lpsOf slices_Compact_lt) (no_loop (by kernel_rfl)) (fun a => by kernel_rfl) env h k z hk
theorem slices_Compact_e1_ok : LeOk slices_Compact_e1 (nthL (bodyOf Tryz.f119) 0) := fun A env h k z hk => le_ok (E := slices_Compact_e1) (orcOf_ok slices_Compact_tb) (dr := slices_Compact_dr) (lps := lpsOf slices_Compact_lt) (lps_of (n := 1) (by kernel_rfl) fun i hi => match i, hi with | 0, _ => lp_ok (E := slices_Compact_e2) (by kernel_rfl) slices_Compact_e2_ok) (fun a => by kernel_rfl) env h k z hk
noncomputable def slices_Compact (x0 : Nat × Nat) (h0 : List (List UInt8)) : Option ((Nat × Nat) × ((List (List UInt8)) × Unit)) :=
  (bif (decide ((((x0.2 : Nat) : Int) : Int) < 2)) then
  some ((x0.1, x0.2), (h0, ()))
  else
  (loopM slices_Compact_l1 (((x0.1, x0.2), 1, ()), (h0, ()))).bind fun b1 =>
  (match b1 with
  | .inl b2 =>
  some ((b2.1.1.1, b2.1.1.2), (b2.2.1, ()))
  | .inr b3 =>
  some ((b3.1.1.1, b3.1.1.2), (b3.2.1, ()))))
noncomputable def slices_Compact_ce : CE CT Tryz.prog where
  f := 119
  args := [.one (.asu 2 0)]
  hs := [.arr 9 2 true]
  res := .val (.one (.asu 2 0))
  outs := [.arr 9 2 true]
  m := fun d dh => slices_Compact d.1 dh.1
  ok := ce_ok mixedP Tryz.func119 (by kernel_rfl) (orcOf_ok slices_Compact_tb) (dr := slices_Compact_dr) (lps := lpsOf slices_Compact_lt) (lps_fn (lps_of (n := 1) (by kernel_rfl) fun i hi => match i, hi with | 0, _ => lp_ok (E := slices_Compact_e1) (by kernel_rfl) slices_Compact_e1_ok)) (fun d dh => by kernel_rfl)

def span_Has_dr : Nat → DrA
  | _ => ⟨[], [], [], [], [], false, []⟩
noncomputable def span_Has_tb : List (CE CT Tryz.prog) := [span_ends_ce, span_Right_ce, span_Key_ce, span_compare_ce, span_above_ce]
noncomputable def span_Has_lt : List (LE CT Tryz.prog) := []
noncomputable def span_Has (x0 : DSpan) (x1 : List UInt8) : Option ((Bool) × (Unit)) :=
  (span_ends x0).bind fun r1 =>
  (span_Right x0).bind fun r2 =>
  (bif r2.1 then
  (span_Key x1).bind fun r3 =>
  (bif r3.1 then
  (span_compare r1.1.1.text (⟨x1⟩ : DText)).bind fun r4 =>
  (bif (decide ((r4.1 : Int) ≤ 0)) then
  (span_above r1.1.2.1 (⟨x1⟩ : DText)).bind fun r5 =>
  some (r5.1, ())
  else
  some (false, ()))
  else
  some (false, ()))
  else
  some (false, ()))
noncomputable def span_Has_ce : CE CT Tryz.prog where
  f := 76
  args := [.cod 4, .one (.str)]
  hs := []
  res := .val (.one (.bool))
  outs := []
  m := fun d dh => span_Has d.1 d.2.1
  ok := ce_ok mixedP Tryz.func76 (by kernel_rfl) (orcOf_ok span_Has_tb) (dr := span_Has_dr) (lps := lpsOf span_Has_lt) (lps_fn (no_loop (by kernel_rfl))) (fun d dh => by kernel_rfl)

def span_Cut_dr : Nat → DrA
  | _ => ⟨[], [], [], [], [], false, []⟩
noncomputable def span_Cut_tb : List (CE CT Tryz.prog) := [span_Right_ce, slices_Values_ce, slices_Sorted_ce, slices_Compact_ce, span_Has_ce]
noncomputable def span_Cut_l1 (a : ((Unit) × (List (DSpan)) × (Nat × Nat) × (Int) × (Int) × Unit) × ((DSpan) × (List (List UInt8)) × (Unit) × Unit)) : Option ((((Unit) × (List (DSpan)) × (Nat × Nat) × (Int) × (Int) × Unit) × ((DSpan) × (List (List UInt8)) × (Unit) × Unit)) ⊕ ((((Unit) × (List (DSpan)) × Unit) × ((DSpan) × (List (List UInt8)) × (Unit) × (Unit) × Unit)))) :=
  (bif (decide ((a.1.2.2.2.2.1 : Int) < a.1.2.2.2.1)) then
  (if 0 ≤ (a.1.2.2.2.2.1 : Int) ∧ (a.1.2.2.2.2.1 : Int) < ((a.1.2.2.1.2 : Nat) : Int) then
  (a.2.2.1[(a.1.2.2.1.1 + (a.1.2.2.2.2.1 : Int).toNat)]?).bind fun e1 =>
  (span_Has a.2.1 e1).bind fun r2 =>
  (bif (!r2.1) then
  some (.inl (((), a.1.2.1, (a.1.2.2.1.1, a.1.2.2.1.2), a.1.2.2.2.1, (IntKind.i64.wrap (a.1.2.2.2.2.1 + 1)), ()), (a.2.1, a.2.2.1, (), ())))
  else
  (bif (decide (e1 = a.2.1.lo)) then
  some (.inl (((), a.1.2.1, (a.1.2.2.1.1, a.1.2.2.1.2), a.1.2.2.2.1, (IntKind.i64.wrap (a.1.2.2.2.2.1 + 1)), ()), (a.2.1, a.2.2.1, (), ())))
  else
  (if a.1.2.1.length + ([(⟨a.2.1.lo, e1⟩ : DSpan)] : List (DSpan)).length ≤ 140737488355328 ∧ (a.1.2.1.length + ([(⟨a.2.1.lo, e1⟩ : DSpan)] : List (DSpan)).length) * 32 ≤ 140737488355328 then
  some (.inl (((), (a.1.2.1 ++ ([(⟨a.2.1.lo, e1⟩ : DSpan)] : List (DSpan))), (a.1.2.2.1.1, a.1.2.2.1.2), a.1.2.2.2.1, (IntKind.i64.wrap (a.1.2.2.2.2.1 + 1)), ()), ((⟨e1, a.2.1.hi⟩ : DSpan), a.2.2.1, (), ())))
  else none)))
  else none)
  else
  some (.inr (((), a.1.2.1, ()), (a.2.1, a.2.2.1, (), (), ()))))
noncomputable def span_Cut_e1 : LE CT Tryz.prog := ⟨5, [2, 5, 14, 15, 16], [.one (.ptr 0 0), .one (.own 4 2), .one (.asu 2 1), .one (.int .i64), .one (.int .i64)], [.cobj 23 4, .arr 9 2 true, .row 23 2], [⟨.exit 0, [2, 5], [.one (.ptr 0 0), .one (.own 4 3)], [.cobj 23 4, .arr 9 2 true, .dead, .row 23 2]⟩], span_Cut_l1⟩
noncomputable def span_Cut_lt : List (LE CT Tryz.prog) := [span_Cut_e1]
theorem span_Cut_e1_ok : LeOk span_Cut_e1 (nthL (bodyOf Tryz.f112) 0) := fun A env h k z hk => le_ok (E := span_Cut_e1) (orcOf_ok span_Cut_tb) (dr := span_Cut_dr) (lps := lpsOf span_Cut_lt) (no_loop (by kernel_rfl)) (fun a => by kernel_rfl) env h k z hk
noncomputable def span_Cut (x0 : DSpan) (x1 : List (List UInt8)) : Option ((List (DSpan)) × ((Unit) × Unit)) :=
  (span_Right x0).bind fun r1 =>
  (bif (!r1.1) then
  some ([], ((), ()))
  else
  (slices_Values x1).bind fun r2 =>
  (slices_Sorted r2.2.1).bind fun r3 =>
  (slices_Compact (r3.1.1, r3.1.2) r3.2.2.1).bind fun r4 =>
  (loopM span_Cut_l1 (((), [], (r4.1.1, r4.1.2), ((r4.1.2 : Nat) : Int), 0, ()), (x0, r4.2.1, (), ()))).bind fun b5 =>
  (if b5.1.2.1.length + ([b5.2.1] : List (DSpan)).length ≤ 140737488355328 ∧ (b5.1.2.1.length + ([b5.2.1] : List (DSpan)).length) * 32 ≤ 140737488355328 then
  some ((b5.1.2.1 ++ ([b5.2.1] : List (DSpan))), ((), ()))
  else none))
noncomputable def span_Cut_ce : CE CT Tryz.prog where
  f := 112
  args := [.cod 4, .one (.sl 2)]
  hs := []
  res := .val (.one (.own 4 0))
  outs := [.row 23 2]
  m := fun d dh => span_Cut d.1 d.2.1
  ok := ce_ok mixedP Tryz.func112 (by kernel_rfl) (orcOf_ok span_Cut_tb) (dr := span_Cut_dr) (lps := lpsOf span_Cut_lt) (lps_fn (lps_of (n := 1) (by kernel_rfl) fun i hi => match i, hi with | 0, _ => lp_ok (E := span_Cut_e1) (by kernel_rfl) span_Cut_e1_ok)) (fun d dh => by kernel_rfl)

def shares_parted_dr : Nat → DrA
  | _ => ⟨[], [], [], [], [], false, []⟩
noncomputable def shares_parted_tb : List (CE CT Tryz.prog) := [span_Cut_ce]
noncomputable def shares_parted_l1 (a : ((Int) × (Int) × (Unit) × (Unit) × (List (DShare)) × (List (DSpan)) × (Int) × (Int) × Unit) × ((DShare) × (DSpan) × (Unit) × (Unit) × Unit)) : Option ((((Int) × (Int) × (Unit) × (Unit) × (List (DShare)) × (List (DSpan)) × (Int) × (Int) × Unit) × ((DShare) × (DSpan) × (Unit) × (Unit) × Unit)) ⊕ ((((List (DShare)) × Unit) × ((DShare) × (DSpan) × (Unit) × (Unit) × (Unit) × Unit)))) :=
  (bif (decide ((a.1.2.2.2.2.2.2.2.1 : Int) < a.1.2.2.2.2.2.2.1)) then
  (getI a.1.2.2.2.2.2.1 a.1.2.2.2.2.2.2.2.1).bind fun e1 =>
  (bif (decide (e1.lo = a.2.2.1.lo) && (decide (e1.hi = a.2.2.1.hi) && true)) then
  (if a.1.2.2.2.2.1.length + ([(⟨e1, a.1.1, a.1.2.1⟩ : DShare)] : List (DShare)).length ≤ 140737488355328 ∧ (a.1.2.2.2.2.1.length + ([(⟨e1, a.1.1, a.1.2.1⟩ : DShare)] : List (DShare)).length) * 48 ≤ 140737488355328 then
  some (.inl ((a.1.1, a.1.2.1, (), (), (a.1.2.2.2.2.1 ++ ([(⟨e1, a.1.1, a.1.2.1⟩ : DShare)] : List (DShare))), a.1.2.2.2.2.2.1, a.1.2.2.2.2.2.2.1, (IntKind.i64.wrap (a.1.2.2.2.2.2.2.2.1 + 1)), ()), (a.2.1, a.2.2.1, (), (), ())))
  else none)
  else
  (if a.1.2.2.2.2.1.length + ([(⟨e1, a.2.1.group, a.2.1.epoch⟩ : DShare)] : List (DShare)).length ≤ 140737488355328 ∧ (a.1.2.2.2.2.1.length + ([(⟨e1, a.2.1.group, a.2.1.epoch⟩ : DShare)] : List (DShare)).length) * 48 ≤ 140737488355328 then
  let y2 : List (DShare) := (a.1.2.2.2.2.1 ++ ([(⟨e1, a.2.1.group, a.2.1.epoch⟩ : DShare)] : List (DShare)))
  some (.inl ((a.1.1, a.1.2.1, (), (), y2, a.1.2.2.2.2.2.1, a.1.2.2.2.2.2.2.1, (IntKind.i64.wrap (a.1.2.2.2.2.2.2.2.1 + 1)), ()), (a.2.1, a.2.2.1, (), (), ())))
  else none))
  else
  some (.inr ((a.1.2.2.2.2.1, ()), (a.2.1, a.2.2.1, (), (), (), ()))))
noncomputable def shares_parted_e1 : LE CT Tryz.prog := ⟨3, [2, 3, 4, 5, 9, 20, 21, 22], [.one (.int .i64), .one (.int .i64), .one (.ptr 0 0), .one (.ptr 1 0), .one (.own 5 2), .one (.own 4 3), .one (.int .i64), .one (.int .i64)], [.cobj 71 5, .cobj 23 4, .row 71 4, .row 23 2], [⟨.exit 0, [9], [.one (.own 5 4)], [.cobj 71 5, .cobj 23 4, .dead, .dead, .row 71 4]⟩], shares_parted_l1⟩
noncomputable def shares_parted_lt : List (LE CT Tryz.prog) := [shares_parted_e1]
theorem shares_parted_e1_ok : LeOk shares_parted_e1 (nthL (bodyOf Tryz.f72) 0) := fun A env h k z hk => le_ok (E := shares_parted_e1) (orcOf_ok shares_parted_tb) (dr := shares_parted_dr) (lps := lpsOf shares_parted_lt) (no_loop (by kernel_rfl)) (fun a => by kernel_rfl) env h k z hk
noncomputable def shares_parted (x0 : DShare) (x1 : DSpan) (x2 : Int) (x3 : Int) : Option ((List (DShare)) × ((Unit) × Unit)) :=
  (span_Cut x0.span ([x1.lo, x1.hi] : List (List UInt8))).bind fun r1 =>
  (loopM shares_parted_l1 ((x2, x3, (), (), [], r1.1, (r1.1.length : Int), 0, ()), (x0, x1, (), (), ()))).bind fun b2 =>
  some (b2.1.1, ((), ()))
noncomputable def shares_parted_ce : CE CT Tryz.prog where
  f := 72
  args := [.cod 5, .cod 4, .one (.int .i64), .one (.int .i64)]
  hs := []
  res := .val (.one (.own 5 0))
  outs := [.row 71 4]
  m := fun d dh => shares_parted d.1 d.2.1 d.2.2.1 d.2.2.2.1
  ok := ce_ok mixedP Tryz.func72 (by kernel_rfl) (orcOf_ok shares_parted_tb) (dr := shares_parted_dr) (lps := lpsOf shares_parted_lt) (lps_fn (lps_of (n := 1) (by kernel_rfl) fun i hi => match i, hi with | 0, _ => lp_ok (E := shares_parted_e1) (by kernel_rfl) shares_parted_e1_ok)) (fun d dh => by kernel_rfl)

def shares_Turn_dr : Nat → DrA
  | 11 => ⟨[0, 1, 4, 5, 6, 7, 8, 10, 14, 15, 16, 2, 9, 11, 12, 13, 17, 18, 3, 19, 20, 21], [[], [0], [0, 1], [0, 1, 2], [], [], [5], [], [7], [7, 8], [], [7, 8, 9, 10], [7, 8, 9, 10, 11], [], [], [], [15], [15, 16], [15, 16, 17], [0, 1, 2, 3, 7, 8, 9, 10, 11, 12, 13, 14, 15, 16, 17, 18], [0, 1, 2, 3, 4, 5, 6, 7, 8, 9, 10, 11, 12, 13, 14, 15, 16, 17, 18, 19], [0, 1, 2, 3, 4, 5, 6, 7, 8, 9, 10, 11, 12, 13, 14, 15, 16, 17, 18, 19, 20]], [9, 12, 13, 17], [3], [1, 3], false, []⟩
  | _ => ⟨[], [], [], [], [], false, []⟩
noncomputable def shares_Turn_tb : List (CE CT Tryz.prog) := [shares_at_ce, shares_right_ce, span_Right_ce, shares_within_ce, cloneA71_ce, shares_parted_ce, replace_ce]
noncomputable def shares_Turn_lt : List (LE CT Tryz.prog) := []
noncomputable def shares_Turn (x0 : DShares) (x1 : DSpan) (x2 : Int) : Option ((((Int) × (List (DShare)) × Unit) × (Int) × Unit) × ((Unit) × Unit)) :=
  (shares_at (⟨x0⟩ : DWork) x1).bind fun r1 =>
  (shares_right (⟨x0⟩ : DWork)).bind fun r2 =>
  (bif (!r2.1) then
  some (((0, [], ()), 2, ()), ((), ()))
  else
  (span_Right r1.2.1).bind fun r3 =>
  (bif (!r3.1) then
  some (((0, [], ()), 2, ()), ((), ()))
  else
  (shares_within x2 1 4).bind fun r4 =>
  (bif (!r4.1) then
  some (((0, [], ()), 2, ()), ((), ()))
  else
  (bif (decide ((r1.1 : Int) < 0)) then
  some (((0, [], ()), 6, ()), ((), ()))
  else
  (getI x0.list r1.1).bind fun e5 =>
  (bif (decide ((e5.group : Int) = x2)) then
  some (((0, [], ()), 7, ()), ((), ()))
  else
  (getI x0.list r1.1).bind fun e6 =>
  (cloneA71 x0.list).bind fun r7 =>
  (shares_parted e6 r1.2.1 x2 (IntKind.i64.wrap (x0.epoch + 1))).bind fun r8 =>
  (replace r7.1 r1.1 (IntKind.i64.wrap (r1.1 + 1)) r8.1 r7.2.1).bind fun r9 =>
  (bif (decide ((x0.epoch : Int) = 1073741824)) then
  some (((0, [], ()), 8, ()), ((), ()))
  else
  (bif (decide ((40 : Int) < (r9.1.length : Int))) then
  some (((0, [], ()), 8, ()), ((), ()))
  else
  some ((((IntKind.i64.wrap (x0.epoch + 1)), r9.1, ()), 0, ()), ((), ())))))))))
noncomputable def shares_Turn_ce : CE CT Tryz.prog where
  f := 31
  args := [.cod 11, .cod 4, .one (.int .i64)]
  hs := []
  res := .tup [.agg [.int .i64, .own 5 0], .one (.int .i64)]
  outs := [.row 71 4]
  m := fun d dh => shares_Turn d.1 d.2.1 d.2.2.1
  ok := ce_ok mixedP Tryz.func31 (by kernel_rfl) (orcOf_ok shares_Turn_tb) (dr := shares_Turn_dr) (lps := lpsOf shares_Turn_lt) (lps_fn (no_loop (by kernel_rfl))) (fun d dh => by kernel_rfl)

def shares_In1_dr : Nat → DrA
  | _ => ⟨[], [], [], [], [], false, []⟩
noncomputable def shares_In1_tb : List (CE CT Tryz.prog) := [span_Within_ce]
noncomputable def shares_In1_lt : List (LE CT Tryz.prog) := []
noncomputable def shares_In1 (x0 : DSpan) (h0 : DSpan) : Option ((Bool) × ((DSpan) × Unit)) :=
  (span_Within h0 x0).bind fun r1 =>
  some (r1.1, (h0, ()))
noncomputable def shares_In1_ce : CE CT Tryz.prog where
  f := 83
  args := [.cod 4, .one (.ptr 0 0)]
  hs := [.cobj 23 4]
  res := .val (.one (.bool))
  outs := [.cobj 23 4]
  m := fun d dh => shares_In1 d.1 dh.1
  ok := ce_ok mixedP Tryz.func83 (by kernel_rfl) (orcOf_ok shares_In1_tb) (dr := shares_In1_dr) (lps := lpsOf shares_In1_lt) (lps_fn (no_loop (by kernel_rfl))) (fun d dh => by kernel_rfl)

def shares_at1_2_dr : Nat → DrA
  | _ => ⟨[], [], [], [], [], false, []⟩
noncomputable def shares_at1_2_tb : List (CE CT Tryz.prog) := [shares_In1_ce]
noncomputable def shares_at1_2_lt : List (LE CT Tryz.prog) := []
noncomputable def shares_at1_2 (x0 : DShare) (h0 : (Unit) × Unit) (h1 : DSpan) : Option ((Bool) × (((Unit) × Unit) × (DSpan) × Unit)) :=
  (shares_In1 x0.span h1).bind fun r1 =>
  some (r1.1, (((), ()), r1.2.1, ()))
noncomputable def shares_at1_2_ce : CE CT Tryz.prog where
  f := 97
  args := [.cod 5, .one (.ptr 0 0)]
  hs := [.obj 114 [.clo 83 [1]], .cobj 23 4]
  res := .val (.one (.bool))
  outs := [.obj 114 [.clo 83 [1]], .cobj 23 4]
  m := fun d dh => shares_at1_2 d.1 dh.1 dh.2.1
  ok := ce_ok mixedP Tryz.func97 (by kernel_rfl) (orcOf_ok shares_at1_2_tb) (dr := shares_at1_2_dr) (lps := lpsOf shares_at1_2_lt) (lps_fn (no_loop (by kernel_rfl))) (fun d dh => by kernel_rfl)

def slices_IndexFunc_3_dr : Nat → DrA
  | _ => ⟨[], [], [], [], [], false, []⟩
noncomputable def slices_IndexFunc_3_tb : List (CE CT Tryz.prog) := [shares_at1_2_ce]
noncomputable def slices_IndexFunc_3_l1 (a : ((List (DShare)) × (Unit) × (Int) × (Int) × Unit) × (((Unit) × Unit) × (DSpan) × Unit)) : Option ((((List (DShare)) × (Unit) × (Int) × (Int) × Unit) × (((Unit) × Unit) × (DSpan) × Unit)) ⊕ ((((Int) × Unit) × (((Unit) × Unit) × (DSpan) × Unit)) ⊕ ((Unit) × (((Unit) × Unit) × (DSpan) × Unit)))) :=
  (bif (decide ((a.1.2.2.2.1 : Int) < a.1.2.2.1)) then
  (getI a.1.1 a.1.2.2.2.1).bind fun e1 =>
  (shares_at1_2 e1 ((), ()) a.2.2.1).bind fun r2 =>
  (bif r2.1 then
  some (.inr (.inl ((a.1.2.2.2.1, ()), (((), ()), r2.2.2.1, ()))))
  else
  some (.inl ((a.1.1, (), a.1.2.2.1, (IntKind.i64.wrap (a.1.2.2.2.1 + 1)), ()), (((), ()), r2.2.2.1, ()))))
  else
  some (.inr (.inr ((), (((), ()), a.2.2.1, ())))))
noncomputable def slices_IndexFunc_3_e1 : LE CT Tryz.prog := ⟨2, [0, 1, 7, 8], [.one (.sl 5), .one (.clo 97 [0]), .one (.int .i64), .one (.int .i64)], [.obj 114 [.clo 83 [1]], .cobj 23 4], [⟨.ret, [4], [.one (.int .i64)], [.obj 114 [.clo 83 [1]], .cobj 23 4]⟩, ⟨.exit 0, [], [], [.obj 114 [.clo 83 [1]], .cobj 23 4]⟩], slices_IndexFunc_3_l1⟩
noncomputable def slices_IndexFunc_3_lt : List (LE CT Tryz.prog) := [slices_IndexFunc_3_e1]
theorem slices_IndexFunc_3_e1_ok : LeOk slices_IndexFunc_3_e1 (nthL (bodyOf Tryz.f96) 0) := fun A env h k z hk => le_ok (E := slices_IndexFunc_3_e1) (orcOf_ok slices_IndexFunc_3_tb) (dr := slices_IndexFunc_3_dr) (lps := lpsOf slices_IndexFunc_3_lt) (no_loop (by kernel_rfl)) (fun a => by kernel_rfl) env h k z hk
noncomputable def slices_IndexFunc_3 (x0 : List (DShare)) (h0 : (Unit) × Unit) (h1 : DSpan) : Option ((Int) × (((Unit) × Unit) × (DSpan) × Unit)) :=
  (loopM slices_IndexFunc_3_l1 ((x0, (), (x0.length : Int), 0, ()), (((), ()), h1, ()))).bind fun b1 =>
  (match b1 with
  | .inl b2 =>
  some (b2.1.1, (((), ()), b2.2.2.1, ()))
  | .inr b3 =>
  some ((-1), (((), ()), b3.2.2.1, ())))
noncomputable def slices_IndexFunc_3_ce : CE CT Tryz.prog where
  f := 96
  args := [.one (.sl 5), .one (.clo 97 [0])]
  hs := [.obj 114 [.clo 83 [1]], .cobj 23 4]
  res := .val (.one (.int .i64))
  outs := [.obj 114 [.clo 83 [1]], .cobj 23 4]
  m := fun d dh => slices_IndexFunc_3 d.1 dh.1 dh.2.1
  ok := ce_ok mixedP Tryz.func96 (by kernel_rfl) (orcOf_ok slices_IndexFunc_3_tb) (dr := slices_IndexFunc_3_dr) (lps := lpsOf slices_IndexFunc_3_lt) (lps_fn (lps_of (n := 1) (by kernel_rfl) fun i hi => match i, hi with | 0, _ => lp_ok (E := slices_IndexFunc_3_e1) (by kernel_rfl) slices_IndexFunc_3_e1_ok)) (fun d dh => by kernel_rfl)

def shares_at_2_dr : Nat → DrA
  | _ => ⟨[], [], [], [], [], false, []⟩
noncomputable def shares_at_2_tb : List (CE CT Tryz.prog) := [shares_right_ce, slices_IndexFunc_3_ce]
noncomputable def shares_at_2_lt : List (LE CT Tryz.prog) := []
noncomputable def shares_at_2 (x0 : DWork) (h0 : DSpan) : Option ((Int) × ((DSpan) × Unit)) :=
  (shares_right x0).bind fun r1 =>
  (bif (!r1.1) then
  some ((-1), (h0, ()))
  else
  (slices_IndexFunc_3 x0.shares.list ((), ()) h0).bind fun r2 =>
  some (r2.1, (r2.2.2.1, ())))
noncomputable def shares_at_2_ce : CE CT Tryz.prog where
  f := 64
  args := [.cod 12, .one (.clo 83 [0])]
  hs := [.cobj 23 4]
  res := .val (.one (.int .i64))
  outs := [.cobj 23 4]
  m := fun d dh => shares_at_2 d.1 dh.1
  ok := ce_ok mixedP Tryz.func64 (by kernel_rfl) (orcOf_ok shares_at_2_tb) (dr := shares_at_2_dr) (lps := lpsOf shares_at_2_lt) (lps_fn (no_loop (by kernel_rfl))) (fun d dh => by kernel_rfl)

def shares_share_dr : Nat → DrA
  | _ => ⟨[], [], [], [], [], false, []⟩
noncomputable def shares_share_tb : List (CE CT Tryz.prog) := []
noncomputable def shares_share_lt : List (LE CT Tryz.prog) := []
noncomputable def shares_share (x0 : DWork) (x1 : Int) : Option (((DShare) × (Bool) × Unit) × (Unit)) :=
  (bif (decide ((x1 : Int) < 0)) then
  some (((⟨(⟨([] : List UInt8), ([] : List UInt8)⟩ : DSpan), 0, 0⟩ : DShare), false, ()), ())
  else
  (getI x0.shares.list x1).bind fun e1 =>
  some ((e1, true, ()), ()))
noncomputable def shares_share_ce : CE CT Tryz.prog where
  f := 74
  args := [.cod 12, .one (.int .i64)]
  hs := []
  res := .tup [.cod 5, .one (.bool)]
  outs := []
  m := fun d dh => shares_share d.1 d.2.1
  ok := ce_ok mixedP Tryz.func74 (by kernel_rfl) (orcOf_ok shares_share_tb) (dr := shares_share_dr) (lps := lpsOf shares_share_lt) (lps_fn (no_loop (by kernel_rfl))) (fun d dh => by kernel_rfl)

def shares_In_dr : Nat → DrA
  | 2 => ⟨[2, 0, 1, 3, 4, 5, 6, 7, 8], [[], [], [], [1, 2], [0, 1, 2, 3], [0, 1, 2, 3, 4], [0, 1, 2, 3, 4], [0, 1, 2, 3, 4, 5, 6], [0, 1, 2, 3, 4, 5, 6, 7]], [0], [3], [3], false, []⟩
  | _ => ⟨[], [], [], [], [], false, []⟩
noncomputable def shares_In_tb : List (CE CT Tryz.prog) := [shares_at_2_ce, shares_share_ce]
noncomputable def shares_In_lt : List (LE CT Tryz.prog) := []
noncomputable def shares_In (x0 : DShares) (x1 : DSpan) : Option (((DShare) × (Bool) × Unit) × (Unit)) :=
  (shares_at_2 (⟨x0⟩ : DWork) x1).bind fun r1 =>
  (shares_share (⟨x0⟩ : DWork) r1.1).bind fun r2 =>
  some ((r2.1.1, r2.1.2.1, ()), ())
noncomputable def shares_In_ce : CE CT Tryz.prog where
  f := 45
  args := [.cod 11, .cod 4]
  hs := []
  res := .tup [.cod 5, .one (.bool)]
  outs := []
  m := fun d dh => shares_In d.1 d.2.1
  ok := ce_ok mixedP Tryz.func45 (by kernel_rfl) (orcOf_ok shares_In_tb) (dr := shares_In_dr) (lps := lpsOf shares_In_lt) (lps_fn (no_loop (by kernel_rfl))) (fun d dh => by kernel_rfl)

def scheme_Begin_dr : Nat → DrA
  | _ => ⟨[], [], [], [], [], false, []⟩
noncomputable def scheme_Begin_tb : List (CE CT Tryz.prog) := [scheme_within_ce, shares_Turn_ce, shares_In_ce]
noncomputable def scheme_Begin_lt : List (LE CT Tryz.prog) := []
noncomputable def scheme_Begin (x0 : DShares) (x1 : Int) (x2 : DSpan) (x3 : Int) : Option (((DScheme) × (Int) × Unit) × (Unit)) :=
  (scheme_within x1 1 1073741824).bind fun r1 =>
  (bif (!r1.1) then
  some (((⟨0, (⟨([] : List UInt8), ([] : List UInt8)⟩ : DSpan), 0, 0, 0, 0, 0⟩ : DScheme), 2, ()), ())
  else
  (shares_Turn x0 x2 x3).bind fun r2 =>
  (bif (decide ((r2.1.2.1 : Int) ≠ 0)) then
  some (((⟨0, (⟨([] : List UInt8), ([] : List UInt8)⟩ : DSpan), 0, 0, 0, 0, 0⟩ : DScheme), r2.1.2.1, ()), ())
  else
  (shares_In x0 x2).bind fun r3 =>
  some (((⟨x1, x2, r3.1.1.group, x3, r3.1.1.epoch, 0, 1⟩ : DScheme), 0, ()), ())))
noncomputable def scheme_Begin_ce : CE CT Tryz.prog where
  f := 11
  args := [.cod 11, .one (.int .i64), .cod 4, .one (.int .i64)]
  hs := []
  res := .tup [.cod 9, .one (.int .i64)]
  outs := []
  m := fun d dh => scheme_Begin d.1 d.2.1 d.2.2.1 d.2.2.2.1
  ok := ce_ok mixedP Tryz.func11 (by kernel_rfl) (orcOf_ok scheme_Begin_tb) (dr := scheme_Begin_dr) (lps := lpsOf scheme_Begin_lt) (lps_fn (no_loop (by kernel_rfl))) (fun d dh => by kernel_rfl)

def slices_Index_dr : Nat → DrA
  | _ => ⟨[], [], [], [], [], false, []⟩
noncomputable def slices_Index_tb : List (CE CT Tryz.prog) := []
noncomputable def slices_Index_l1 (a : ((List (UInt8)) × (Int) × (Int) × (Int) × Unit) × (Unit)) : Option ((((List (UInt8)) × (Int) × (Int) × (Int) × Unit) × (Unit)) ⊕ ((((Int) × Unit) × (Unit)) ⊕ ((Unit) × (Unit)))) :=
  (bif (decide ((a.1.2.2.2.1 : Int) < a.1.2.2.1)) then
  (getI a.1.1 a.1.2.2.2.1).bind fun e1 =>
  (bif (decide ((a.1.2.1 : Int) = (e1.toNat : Int))) then
  some (.inr (.inl ((a.1.2.2.2.1, ()), ())))
  else
  some (.inl ((a.1.1, a.1.2.1, a.1.2.2.1, (IntKind.i64.wrap (a.1.2.2.2.1 + 1)), ()), ())))
  else
  some (.inr (.inr ((), ()))))
noncomputable def slices_Index_e1 : LE CT Tryz.prog := ⟨2, [0, 1, 7, 8], [.one (.sl 1), .one (.int .u8), .one (.int .i64), .one (.int .i64)], [], [⟨.ret, [4], [.one (.int .i64)], []⟩, ⟨.exit 0, [], [], []⟩], slices_Index_l1⟩
noncomputable def slices_Index_lt : List (LE CT Tryz.prog) := [slices_Index_e1]
theorem slices_Index_e1_ok : LeOk slices_Index_e1 (nthL (bodyOf Tryz.f85) 0) := fun A env h k z hk => le_ok (E := slices_Index_e1) (orcOf_ok slices_Index_tb) (dr := slices_Index_dr) (lps := lpsOf slices_Index_lt) (no_loop (by kernel_rfl)) (fun a => by kernel_rfl) env h k z hk
noncomputable def slices_Index (x0 : List (UInt8)) (x1 : Int) : Option ((Int) × (Unit)) :=
  (loopM slices_Index_l1 ((x0, x1, (x0.length : Int), 0, ()), ())).bind fun b1 =>
  (match b1 with
  | .inl b2 =>
  some (b2.1.1, ())
  | .inr b3 =>
  some ((-1), ()))
noncomputable def slices_Index_ce : CE CT Tryz.prog where
  f := 85
  args := [.one (.sl 1), .one (.int .u8)]
  hs := []
  res := .val (.one (.int .i64))
  outs := []
  m := fun d dh => slices_Index d.1 d.2.1
  ok := ce_ok mixedP Tryz.func85 (by kernel_rfl) (orcOf_ok slices_Index_tb) (dr := slices_Index_dr) (lps := lpsOf slices_Index_lt) (lps_fn (lps_of (n := 1) (by kernel_rfl) fun i hi => match i, hi with | 0, _ => lp_ok (E := slices_Index_e1) (by kernel_rfl) slices_Index_e1_ok)) (fun d dh => by kernel_rfl)

def slices_Contains_dr : Nat → DrA
  | _ => ⟨[], [], [], [], [], false, []⟩
noncomputable def slices_Contains_tb : List (CE CT Tryz.prog) := [slices_Index_ce]
noncomputable def slices_Contains_lt : List (LE CT Tryz.prog) := []
noncomputable def slices_Contains (x0 : List (UInt8)) (x1 : Int) : Option ((Bool) × (Unit)) :=
  (slices_Index x0 x1).bind fun r1 =>
  some ((decide ((0 : Int) ≤ r1.1)), ())
noncomputable def slices_Contains_ce : CE CT Tryz.prog where
  f := 49
  args := [.one (.sl 1), .one (.int .u8)]
  hs := []
  res := .val (.one (.bool))
  outs := []
  m := fun d dh => slices_Contains d.1 d.2.1
  ok := ce_ok mixedP Tryz.func49 (by kernel_rfl) (orcOf_ok slices_Contains_tb) (dr := slices_Contains_dr) (lps := lpsOf slices_Contains_lt) (lps_fn (no_loop (by kernel_rfl))) (fun d dh => by kernel_rfl)

def scheme_turned_dr : Nat → DrA
  | _ => ⟨[], [], [], [], [], false, []⟩
noncomputable def scheme_turned_tb : List (CE CT Tryz.prog) := [slices_Contains_ce]
noncomputable def scheme_turned_lt : List (LE CT Tryz.prog) := []
noncomputable def scheme_turned (x0 : DWork2) : Option ((Bool) × (Unit)) :=
  (b8 4).bind fun u1 =>
  (b8 5).bind fun u2 =>
  (b8 6).bind fun u3 =>
  (slices_Contains ([u1, u2, u3] : List (UInt8)) x0.scheme.stage).bind fun r4 =>
  some (r4.1, ())
noncomputable def scheme_turned_ce : CE CT Tryz.prog where
  f := 78
  args := [.cod 16]
  hs := []
  res := .val (.one (.bool))
  outs := []
  m := fun d dh => scheme_turned d.1
  ok := ce_ok mixedP Tryz.func78 (by kernel_rfl) (orcOf_ok scheme_turned_tb) (dr := scheme_turned_dr) (lps := lpsOf scheme_turned_lt) (lps_fn (no_loop (by kernel_rfl))) (fun d dh => by kernel_rfl)

def scheme_right_dr : Nat → DrA
  | 1 => ⟨[1, 2, 3, 0, 4, 5, 6, 7, 8, 9], [[], [], [1], [1, 2], [0, 1, 2, 3], [0, 1, 2, 3, 4], [0, 1, 2, 3, 4, 5], [0, 1, 2, 3, 4, 5], [0, 1, 2, 3, 4, 5, 6], [0, 1, 2, 3, 4, 5, 6, 7, 8]], [3], [0], [0], false, []⟩
  | _ => ⟨[], [], [], [], [], false, []⟩
noncomputable def scheme_right_tb : List (CE CT Tryz.prog) := [waysM50_ce, scheme_turned_ce, scheme_within_ce, span_Right_ce]
noncomputable def scheme_right_lt : List (LE CT Tryz.prog) := []
noncomputable def scheme_right (x0 : DWork2) : Option ((Bool) × (Unit)) :=
  (waysM50).bind fun r1 =>
  (scheme_turned x0).bind fun r2 =>
  (bif r2.1 then
  (scheme_within x0.scheme.under (IntKind.i64.wrap (x0.scheme.epoch + 1)) 1073741824).bind fun r3 =>
  (scheme_within x0.scheme.from_ 1 4).bind fun r4 =>
  (bif r4.1 then
  (scheme_within x0.scheme.to_ 1 4).bind fun r5 =>
  (bif r5.1 then
  (scheme_within x0.scheme.num 1 1073741824).bind fun r6 =>
  (bif r6.1 then
  (span_Right x0.scheme.span).bind fun r7 =>
  (bif r7.1 then
  (bif (decide ((x0.scheme.from_ : Int) ≠ x0.scheme.to_)) then
  (scheme_within x0.scheme.epoch 1 1073741824).bind fun r8 =>
  (bif r8.1 then
  (bif (lkp r1.1 x0.scheme.stage).isSome then
  some (r3.1, ())
  else
  some (false, ()))
  else
  some (false, ()))
  else
  some (false, ()))
  else
  some (false, ()))
  else
  some (false, ()))
  else
  (scheme_within x0.scheme.num 1 1073741824).bind fun r9 =>
  (bif r9.1 then
  (span_Right x0.scheme.span).bind fun r10 =>
  (bif r10.1 then
  some (false, ())
  else
  some (false, ()))
  else
  some (false, ())))
  else
  (scheme_within x0.scheme.num 1 1073741824).bind fun r11 =>
  (bif r11.1 then
  (span_Right x0.scheme.span).bind fun r12 =>
  (bif r12.1 then
  some (false, ())
  else
  some (false, ()))
  else
  some (false, ())))
  else
  (scheme_within x0.scheme.from_ 1 4).bind fun r13 =>
  (bif r13.1 then
  (scheme_within x0.scheme.to_ 1 4).bind fun r14 =>
  (bif r14.1 then
  (scheme_within x0.scheme.num 1 1073741824).bind fun r15 =>
  (bif r15.1 then
  (span_Right x0.scheme.span).bind fun r16 =>
  (bif r16.1 then
  (bif (decide ((x0.scheme.from_ : Int) ≠ x0.scheme.to_)) then
  (scheme_within x0.scheme.epoch 1 1073741824).bind fun r17 =>
  (bif r17.1 then
  (bif (lkp r1.1 x0.scheme.stage).isSome then
  some ((decide ((x0.scheme.under : Int) = 0)), ())
  else
  some (false, ()))
  else
  some (false, ()))
  else
  some (false, ()))
  else
  some (false, ()))
  else
  some (false, ()))
  else
  (scheme_within x0.scheme.num 1 1073741824).bind fun r18 =>
  (bif r18.1 then
  (span_Right x0.scheme.span).bind fun r19 =>
  (bif r19.1 then
  some (false, ())
  else
  some (false, ()))
  else
  some (false, ())))
  else
  (scheme_within x0.scheme.num 1 1073741824).bind fun r20 =>
  (bif r20.1 then
  (span_Right x0.scheme.span).bind fun r21 =>
  (bif r21.1 then
  some (false, ())
  else
  some (false, ()))
  else
  some (false, ()))))
noncomputable def scheme_right_ce : CE CT Tryz.prog where
  f := 36
  args := [.cod 16]
  hs := []
  res := .val (.one (.bool))
  outs := []
  m := fun d dh => scheme_right d.1
  ok := ce_ok mixedP Tryz.func36 (by kernel_rfl) (orcOf_ok scheme_right_tb) (dr := scheme_right_dr) (lps := lpsOf scheme_right_lt) (lps_fn (no_loop (by kernel_rfl))) (fun d dh => by kernel_rfl)

def shares_Right_dr : Nat → DrA
  | _ => ⟨[], [], [], [], [], false, []⟩
noncomputable def shares_Right_tb : List (CE CT Tryz.prog) := [shares_right_ce]
noncomputable def shares_Right_lt : List (LE CT Tryz.prog) := []
noncomputable def shares_Right (x0 : DShares) : Option ((Bool) × (Unit)) :=
  (shares_right (⟨x0⟩ : DWork)).bind fun r1 =>
  some (r1.1, ())
noncomputable def shares_Right_ce : CE CT Tryz.prog where
  f := 37
  args := [.cod 11]
  hs := []
  res := .val (.one (.bool))
  outs := []
  m := fun d dh => shares_Right d.1
  ok := ce_ok mixedP Tryz.func37 (by kernel_rfl) (orcOf_ok shares_Right_tb) (dr := shares_Right_dr) (lps := lpsOf shares_Right_lt) (lps_fn (no_loop (by kernel_rfl))) (fun d dh => by kernel_rfl)

noncomputable def clone71 (x : List (DShare)) : Option ((List (DShare)) × (Unit × Unit)) :=
  if x.length ≤ 140737488355328 ∧ x.length * 48 ≤ 140737488355328 then some (x, ((), ())) else none
noncomputable def clone71_ce : CE CT Tryz.prog where
  f := 71
  args := [.one (.sl 5)]
  hs := []
  res := .val (.one (.own 5 0))
  outs := [.row 71 4]
  m := fun d dh => clone71 d.1
  ok := fun d dh r hr => by
    unfold clone71 at hr
    split at hr
    · rename_i hroom
      injection hr with hr
      subst hr
      exact clone_tr mixedP Tryz.func71 (by kernel_rfl) rfl rfl (zv := .agg #[.string ⟨#[]⟩, .string ⟨#[]⟩, .int .i64 0, .int .i64 0]) (he := by kernel_rfl) (hsz := by kernel_rfl) (hz := by kernel_rfl) (hby := by kernel_rfl) rfl rfl d.1 hroom
    · cases hr

def scheme_own_dr : Nat → DrA
  | _ => ⟨[], [], [], [], [], false, []⟩
noncomputable def scheme_own_tb : List (CE CT Tryz.prog) := [clone71_ce]
noncomputable def scheme_own_lt : List (LE CT Tryz.prog) := []
noncomputable def scheme_own (x0 : DShares) : Option (((Int) × (List (DShare)) × Unit) × ((Unit) × Unit)) :=
  (clone71 x0.list).bind fun r1 =>
  some ((x0.epoch, r1.1, ()), ((), ()))
noncomputable def scheme_own_ce : CE CT Tryz.prog where
  f := 38
  args := [.cod 11]
  hs := []
  res := .val (.agg [.int .i64, .own 5 0])
  outs := [.row 71 4]
  m := fun d dh => scheme_own d.1
  ok := ce_ok mixedP Tryz.func38 (by kernel_rfl) (orcOf_ok scheme_own_tb) (dr := scheme_own_dr) (lps := lpsOf scheme_own_lt) (lps_fn (no_loop (by kernel_rfl))) (fun d dh => by kernel_rfl)

def scheme_Goes_dr : Nat → DrA
  | _ => ⟨[], [], [], [], [], false, []⟩
noncomputable def scheme_Goes_tb : List (CE CT Tryz.prog) := [waysM50_ce, slices_Contains_ce]
noncomputable def scheme_Goes_lt : List (LE CT Tryz.prog) := []
noncomputable def scheme_Goes (x0 : Int) (x1 : Int) : Option ((Bool) × (Unit)) :=
  (waysM50).bind fun r1 =>
  (slices_Contains ((lkp r1.1 x0).getD []) x1).bind fun r2 =>
  some (r2.1, ())
noncomputable def scheme_Goes_ce : CE CT Tryz.prog where
  f := 18
  args := [.one (.int .u8), .one (.int .u8)]
  hs := []
  res := .val (.one (.bool))
  outs := []
  m := fun d dh => scheme_Goes d.1 d.2.1
  ok := ce_ok mixedP Tryz.func18 (by kernel_rfl) (orcOf_ok scheme_Goes_tb) (dr := scheme_Goes_dr) (lps := lpsOf scheme_Goes_lt) (lps_fn (no_loop (by kernel_rfl))) (fun d dh => by kernel_rfl)

def scheme_turn_dr : Nat → DrA
  | 1 => ⟨[1, 2, 3, 4, 6, 7, 8, 9, 0, 5, 10, 11, 12, 13, 14, 15, 16, 17], [[], [], [1], [1, 2], [1, 2, 3], [1, 2, 3, 4], [], [6], [6, 7], [6, 7, 8], [6, 7, 8, 9], [0, 1, 2, 3, 4, 5, 6, 7, 8, 9, 10], [0, 1, 2, 3, 4, 5, 6, 7, 8, 9, 10, 11], [0, 1, 2, 3, 4, 5, 6, 7, 8, 9, 10, 11, 12], [0, 1, 2, 3, 4, 5, 6, 7, 8, 9, 10, 11, 12], [], [0, 1, 2, 3, 4, 5, 6, 7, 8, 9, 10, 11, 12, 13, 15], [0, 1, 2, 3, 4, 5, 6, 7, 8, 9, 10, 11, 12, 13, 14, 15, 16]], [], [], [], false, []⟩
  | 4 => ⟨[1, 2, 3, 4, 0, 5, 6, 7, 8, 9, 10, 11, 12], [[], [], [1], [1, 2], [1, 2, 3], [1, 2, 3, 4], [0, 1, 2, 3, 4, 5], [0, 1, 2, 3, 4, 5, 6], [0, 1, 2, 3, 4, 5, 6, 7], [0, 1, 2, 3, 4, 5, 6, 7], [], [0, 1, 2, 3, 4, 5, 6, 7, 8, 10], [0, 1, 2, 3, 4, 5, 6, 7, 8, 9, 10, 11]], [], [], [], false, []⟩
  | 5 => ⟨[0, 2, 3, 4, 5, 1, 6, 7, 8, 9, 11, 12, 13, 14, 10, 15, 16, 17], [[], [0], [], [2], [2, 3], [2, 3, 4], [2, 3, 4, 5], [0, 1, 2, 3, 4, 5, 6], [0, 1, 2, 3, 4, 5, 6, 7], [0, 1, 2, 3, 4, 5, 6, 7, 8], [0, 1, 2, 3, 4, 5, 6, 7, 8, 9], [0, 1, 2, 3, 4, 5, 6, 7, 8], [0, 1, 2, 3, 4, 5, 6, 7, 8, 11], [0, 1, 2, 3, 4, 5, 6, 7, 8, 11, 12], [0, 1, 2, 3, 4, 5, 6, 7, 8, 11, 12, 13], [0, 1, 2, 3, 4, 5, 6, 7, 8, 11, 12, 13, 14], [0, 1, 2, 3, 4, 5, 6, 7, 8, 9, 10, 11, 12, 13, 14, 15], [0, 1, 2, 3, 4, 5, 6, 7, 8, 9, 10, 11, 12, 13, 14, 15, 16]], [], [], [], false, []⟩
  | _ => ⟨[], [], [], [], [], false, []⟩
noncomputable def scheme_turn_tb : List (CE CT Tryz.prog) := [shares_Turn_ce, shares_In_ce]
noncomputable def scheme_turn_lt : List (LE CT Tryz.prog) := []
noncomputable def scheme_turn (x1 : DShares) (h0 : DWork2) : Option ((((Int) × (List (DShare)) × Unit) × (Int) × Unit) × ((DWork2) × (Unit) × Unit)) :=
  (shares_Turn x1 h0.scheme.span h0.scheme.to_).bind fun r1 =>
  (bif (decide ((r1.1.2.1 : Int) ≠ 0)) then
  some (((r1.1.1.1, r1.1.1.2.1, ()), r1.1.2.1, ()), (h0, (), ()))
  else
  (shares_In x1 h0.scheme.span).bind fun r2 =>
  (bif (decide ((r2.1.1.group : Int) ≠ h0.scheme.from_)) then
  some (((0, [], ()), 26, ()), (h0, (), ()))
  else
  (bif (decide ((r2.1.1.epoch : Int) ≠ h0.scheme.epoch)) then
  some (((0, [], ()), 26, ()), (h0, (), ()))
  else
  some (((r1.1.1.1, r1.1.1.2.1, ()), 0, ()), ((⟨(⟨h0.scheme.num, h0.scheme.span, h0.scheme.from_, h0.scheme.to_, h0.scheme.epoch, r1.1.1.1, h0.scheme.stage⟩ : DScheme)⟩ : DWork2), (), ())))))
noncomputable def scheme_turn_ce : CE CT Tryz.prog where
  f := 39
  args := [.one (.ptr 0 0), .cod 11]
  hs := [.cobj 79 16]
  res := .tup [.agg [.int .i64, .own 5 1], .one (.int .i64)]
  outs := [.cobj 79 16, .row 71 4]
  m := fun d dh => scheme_turn d.2.1 dh.1
  ok := ce_ok mixedP Tryz.func39 (by kernel_rfl) (orcOf_ok scheme_turn_tb) (dr := scheme_turn_dr) (lps := lpsOf scheme_turn_lt) (lps_fn (no_loop (by kernel_rfl))) (fun d dh => by kernel_rfl)

def scheme_Step_dr : Nat → DrA
  | 6 => ⟨[0, 1, 2, 3, 4, 5], [[], [], [1], [0, 1, 2], [0, 1, 2, 3], [0, 1, 2, 3, 4]], [0], [2], [0], false, []⟩
  | 16 => ⟨[0, 1, 2, 3, 4, 5, 6, 7], [[], [0], [0, 1], [0, 1, 2], [], [0, 1, 2, 3], [0, 1, 2, 3, 4, 5], [0, 1, 2, 3, 4, 5, 6]], [4], [5], [6], false, []⟩
  | _ => ⟨[], [], [], [], [], false, []⟩
noncomputable def scheme_Step_tb : List (CE CT Tryz.prog) := [scheme_right_ce, shares_Right_ce, scheme_own_ce, scheme_Goes_ce, scheme_turn_ce]
noncomputable def scheme_Step_lt : List (LE CT Tryz.prog) := []
noncomputable def scheme_Step (x0 : DScheme) (x1 : DShares) (x2 : Int) : Option (((DScheme) × ((Int) × (List (DShare)) × Unit) × (Int) × Unit) × ((Unit) × Unit)) :=
  (scheme_right (⟨x0⟩ : DWork2)).bind fun r1 =>
  (bif (!r1.1) then
  some (((⟨0, (⟨([] : List UInt8), ([] : List UInt8)⟩ : DSpan), 0, 0, 0, 0, 0⟩ : DScheme), (0, [], ()), 2, ()), ((), ()))
  else
  (shares_Right x1).bind fun r2 =>
  (bif (!r2.1) then
  some (((⟨0, (⟨([] : List UInt8), ([] : List UInt8)⟩ : DSpan), 0, 0, 0, 0, 0⟩ : DScheme), (0, [], ()), 2, ()), ((), ()))
  else
  (bif (decide ((x0.stage : Int) = x2)) then
  (scheme_own x1).bind fun r3 =>
  some ((x0, (r3.1.1, r3.1.2.1, ()), 0, ()), ((), ()))
  else
  (scheme_Goes x0.stage x2).bind fun r4 =>
  (bif (!r4.1) then
  some (((⟨0, (⟨([] : List UInt8), ([] : List UInt8)⟩ : DSpan), 0, 0, 0, 0, 0⟩ : DScheme), (0, [], ()), 26, ()), ((), ()))
  else
  (scheme_own x1).bind fun r5 =>
  (bif (decide ((x2 : Int) = 4)) then
  (scheme_turn x1 (⟨x0⟩ : DWork2)).bind fun r6 =>
  (bif (decide ((r6.1.2.1 : Int) ≠ 0)) then
  some (((⟨0, (⟨([] : List UInt8), ([] : List UInt8)⟩ : DSpan), 0, 0, 0, 0, 0⟩ : DScheme), (0, [], ()), r6.1.2.1, ()), ((), ()))
  else
  some (((⟨r6.2.1.scheme.num, r6.2.1.scheme.span, r6.2.1.scheme.from_, r6.2.1.scheme.to_, r6.2.1.scheme.epoch, r6.2.1.scheme.under, x2⟩ : DScheme), (r6.1.1.1, r6.1.1.2.1, ()), 0, ()), ((), ())))
  else
  some (((⟨x0.num, x0.span, x0.from_, x0.to_, x0.epoch, x0.under, x2⟩ : DScheme), (r5.1.1, r5.1.2.1, ()), 0, ()), ((), ())))))))
noncomputable def scheme_Step_ce : CE CT Tryz.prog where
  f := 9
  args := [.cod 9, .cod 11, .one (.int .u8)]
  hs := []
  res := .tup [.cod 9, .agg [.int .i64, .own 5 0], .one (.int .i64)]
  outs := [.row 71 4]
  m := fun d dh => scheme_Step d.1 d.2.1 d.2.2.1
  ok := ce_ok mixedP Tryz.func9 (by kernel_rfl) (orcOf_ok scheme_Step_tb) (dr := scheme_Step_dr) (lps := lpsOf scheme_Step_lt) (lps_fn (no_loop (by kernel_rfl))) (fun d dh => by kernel_rfl)

def shares_Of1_dr : Nat → DrA
  | _ => ⟨[], [], [], [], [], false, []⟩
noncomputable def shares_Of1_tb : List (CE CT Tryz.prog) := [span_Has_ce]
noncomputable def shares_Of1_lt : List (LE CT Tryz.prog) := []
noncomputable def shares_Of1 (x0 : DSpan) (h0 : List UInt8) : Option ((Bool) × ((List UInt8) × Unit)) :=
  (span_Has x0 h0).bind fun r1 =>
  some (r1.1, (h0, ()))
noncomputable def shares_Of1_ce : CE CT Tryz.prog where
  f := 75
  args := [.cod 4, .one (.ptr 0 0)]
  hs := [.cobj 9 2]
  res := .val (.one (.bool))
  outs := [.cobj 9 2]
  m := fun d dh => shares_Of1 d.1 dh.1
  ok := ce_ok mixedP Tryz.func75 (by kernel_rfl) (orcOf_ok shares_Of1_tb) (dr := shares_Of1_dr) (lps := lpsOf shares_Of1_lt) (lps_fn (no_loop (by kernel_rfl))) (fun d dh => by kernel_rfl)

def shares_at1_3_dr : Nat → DrA
  | _ => ⟨[], [], [], [], [], false, []⟩
noncomputable def shares_at1_3_tb : List (CE CT Tryz.prog) := [shares_Of1_ce]
noncomputable def shares_at1_3_lt : List (LE CT Tryz.prog) := []
noncomputable def shares_at1_3 (x0 : DShare) (h0 : (Unit) × Unit) (h1 : List UInt8) : Option ((Bool) × (((Unit) × Unit) × (List UInt8) × Unit)) :=
  (shares_Of1 x0.span h1).bind fun r1 =>
  some (r1.1, (((), ()), r1.2.1, ()))
noncomputable def shares_at1_3_ce : CE CT Tryz.prog where
  f := 97
  args := [.cod 5, .one (.ptr 0 0)]
  hs := [.obj 114 [.clo 75 [1]], .cobj 9 2]
  res := .val (.one (.bool))
  outs := [.obj 114 [.clo 75 [1]], .cobj 9 2]
  m := fun d dh => shares_at1_3 d.1 dh.1 dh.2.1
  ok := ce_ok mixedP Tryz.func97 (by kernel_rfl) (orcOf_ok shares_at1_3_tb) (dr := shares_at1_3_dr) (lps := lpsOf shares_at1_3_lt) (lps_fn (no_loop (by kernel_rfl))) (fun d dh => by kernel_rfl)

def slices_IndexFunc_4_dr : Nat → DrA
  | _ => ⟨[], [], [], [], [], false, []⟩
noncomputable def slices_IndexFunc_4_tb : List (CE CT Tryz.prog) := [shares_at1_3_ce]
noncomputable def slices_IndexFunc_4_l1 (a : ((List (DShare)) × (Unit) × (Int) × (Int) × Unit) × (((Unit) × Unit) × (List UInt8) × Unit)) : Option ((((List (DShare)) × (Unit) × (Int) × (Int) × Unit) × (((Unit) × Unit) × (List UInt8) × Unit)) ⊕ ((((Int) × Unit) × (((Unit) × Unit) × (List UInt8) × Unit)) ⊕ ((Unit) × (((Unit) × Unit) × (List UInt8) × Unit)))) :=
  (bif (decide ((a.1.2.2.2.1 : Int) < a.1.2.2.1)) then
  (getI a.1.1 a.1.2.2.2.1).bind fun e1 =>
  (shares_at1_3 e1 ((), ()) a.2.2.1).bind fun r2 =>
  (bif r2.1 then
  some (.inr (.inl ((a.1.2.2.2.1, ()), (((), ()), r2.2.2.1, ()))))
  else
  some (.inl ((a.1.1, (), a.1.2.2.1, (IntKind.i64.wrap (a.1.2.2.2.1 + 1)), ()), (((), ()), r2.2.2.1, ()))))
  else
  some (.inr (.inr ((), (((), ()), a.2.2.1, ())))))
noncomputable def slices_IndexFunc_4_e1 : LE CT Tryz.prog := ⟨2, [0, 1, 7, 8], [.one (.sl 5), .one (.clo 97 [0]), .one (.int .i64), .one (.int .i64)], [.obj 114 [.clo 75 [1]], .cobj 9 2], [⟨.ret, [4], [.one (.int .i64)], [.obj 114 [.clo 75 [1]], .cobj 9 2]⟩, ⟨.exit 0, [], [], [.obj 114 [.clo 75 [1]], .cobj 9 2]⟩], slices_IndexFunc_4_l1⟩
noncomputable def slices_IndexFunc_4_lt : List (LE CT Tryz.prog) := [slices_IndexFunc_4_e1]
theorem slices_IndexFunc_4_e1_ok : LeOk slices_IndexFunc_4_e1 (nthL (bodyOf Tryz.f96) 0) := fun A env h k z hk => le_ok (E := slices_IndexFunc_4_e1) (orcOf_ok slices_IndexFunc_4_tb) (dr := slices_IndexFunc_4_dr) (lps := lpsOf slices_IndexFunc_4_lt) (no_loop (by kernel_rfl)) (fun a => by kernel_rfl) env h k z hk
noncomputable def slices_IndexFunc_4 (x0 : List (DShare)) (h0 : (Unit) × Unit) (h1 : List UInt8) : Option ((Int) × (((Unit) × Unit) × (List UInt8) × Unit)) :=
  (loopM slices_IndexFunc_4_l1 ((x0, (), (x0.length : Int), 0, ()), (((), ()), h1, ()))).bind fun b1 =>
  (match b1 with
  | .inl b2 =>
  some (b2.1.1, (((), ()), b2.2.2.1, ()))
  | .inr b3 =>
  some ((-1), (((), ()), b3.2.2.1, ())))
noncomputable def slices_IndexFunc_4_ce : CE CT Tryz.prog where
  f := 96
  args := [.one (.sl 5), .one (.clo 97 [0])]
  hs := [.obj 114 [.clo 75 [1]], .cobj 9 2]
  res := .val (.one (.int .i64))
  outs := [.obj 114 [.clo 75 [1]], .cobj 9 2]
  m := fun d dh => slices_IndexFunc_4 d.1 dh.1 dh.2.1
  ok := ce_ok mixedP Tryz.func96 (by kernel_rfl) (orcOf_ok slices_IndexFunc_4_tb) (dr := slices_IndexFunc_4_dr) (lps := lpsOf slices_IndexFunc_4_lt) (lps_fn (lps_of (n := 1) (by kernel_rfl) fun i hi => match i, hi with | 0, _ => lp_ok (E := slices_IndexFunc_4_e1) (by kernel_rfl) slices_IndexFunc_4_e1_ok)) (fun d dh => by kernel_rfl)

def shares_at_3_dr : Nat → DrA
  | _ => ⟨[], [], [], [], [], false, []⟩
noncomputable def shares_at_3_tb : List (CE CT Tryz.prog) := [shares_right_ce, slices_IndexFunc_4_ce]
noncomputable def shares_at_3_lt : List (LE CT Tryz.prog) := []
noncomputable def shares_at_3 (x0 : DWork) (h0 : List UInt8) : Option ((Int) × ((List UInt8) × Unit)) :=
  (shares_right x0).bind fun r1 =>
  (bif (!r1.1) then
  some ((-1), (h0, ()))
  else
  (slices_IndexFunc_4 x0.shares.list ((), ()) h0).bind fun r2 =>
  some (r2.1, (r2.2.2.1, ())))
noncomputable def shares_at_3_ce : CE CT Tryz.prog where
  f := 64
  args := [.cod 12, .one (.clo 75 [0])]
  hs := [.cobj 9 2]
  res := .val (.one (.int .i64))
  outs := [.cobj 9 2]
  m := fun d dh => shares_at_3 d.1 dh.1
  ok := ce_ok mixedP Tryz.func64 (by kernel_rfl) (orcOf_ok shares_at_3_tb) (dr := shares_at_3_dr) (lps := lpsOf shares_at_3_lt) (lps_fn (no_loop (by kernel_rfl))) (fun d dh => by kernel_rfl)

def shares_Of_dr : Nat → DrA
  | 2 => ⟨[2, 0, 1, 3, 4, 5, 6, 7, 8], [[], [], [], [1, 2], [0, 1, 2, 3], [0, 1, 2, 3, 4], [0, 1, 2, 3, 4], [0, 1, 2, 3, 4, 5, 6], [0, 1, 2, 3, 4, 5, 6, 7]], [0], [3], [3], false, []⟩
  | _ => ⟨[], [], [], [], [], false, []⟩
noncomputable def shares_Of_tb : List (CE CT Tryz.prog) := [shares_at_3_ce, shares_share_ce]
noncomputable def shares_Of_lt : List (LE CT Tryz.prog) := []
noncomputable def shares_Of (x0 : DShares) (x1 : List UInt8) : Option (((DShare) × (Bool) × Unit) × (Unit)) :=
  (shares_at_3 (⟨x0⟩ : DWork) x1).bind fun r1 =>
  (shares_share (⟨x0⟩ : DWork) r1.1).bind fun r2 =>
  some ((r2.1.1, r2.1.2.1, ()), ())
noncomputable def shares_Of_ce : CE CT Tryz.prog where
  f := 33
  args := [.cod 11, .one (.str)]
  hs := []
  res := .tup [.cod 5, .one (.bool)]
  outs := []
  m := fun d dh => shares_Of d.1 d.2.1
  ok := ce_ok mixedP Tryz.func33 (by kernel_rfl) (orcOf_ok shares_Of_tb) (dr := shares_Of_dr) (lps := lpsOf shares_Of_lt) (lps_fn (no_loop (by kernel_rfl))) (fun d dh => by kernel_rfl)

def watershedlaw20_awake_dr : Nat → DrA
  | 7 => ⟨[2, 3, 4, 0, 1, 5, 6, 7, 8, 9, 10, 11, 12, 13], [[], [], [], [], [2, 3], [2, 3, 4], [0, 1, 2, 3, 4, 5], [0, 1, 2, 3, 4, 5, 6], [0, 1, 2, 3, 4, 5, 6, 7], [0, 1, 2, 3, 4, 5, 6, 7], [0, 1, 2, 3, 4, 5, 6, 7], [0, 1, 2, 3, 4, 5, 6, 7, 8], [0, 1, 2, 3, 4, 5, 6, 7, 8, 9, 11], [0, 1, 2, 3, 4, 5, 6, 7, 8, 9, 10, 11, 12]], [], [], [], false, []⟩
  | _ => ⟨[], [], [], [], [], false, []⟩
noncomputable def watershedlaw20_awake_tb : List (CE CT Tryz.prog) := [shares_First_ce, scheme_Begin_ce, scheme_Step_ce, shares_Of_ce]
noncomputable def watershedlaw20_awake_l1 (a : ((Unit) × (Unit) × (Int) × (List (UInt8)) × (Int) × Unit) × ((DShares) × (DScheme) × (Unit) × Unit)) : Option ((((Unit) × (Unit) × (Int) × (List (UInt8)) × (Int) × Unit) × ((DShares) × (DScheme) × (Unit) × Unit)) ⊕ ((((Unit) × (Unit) × (Int) × Unit) × ((DShares) × (DScheme) × (Unit) × Unit)))) :=
  (bif (decide ((a.1.2.2.2.2.1 : Int) < (a.1.2.2.2.1.length : Int))) then
  (bif (decide ((a.1.2.2.1 : Int) = 0)) then
  (getI a.1.2.2.2.1 a.1.2.2.2.2.1).bind fun e1 =>
  (scheme_Step a.2.2.1 a.2.1 (e1.toNat : Int)).bind fun r2 =>
  some (.inl (((), (), r2.1.2.2.1, a.1.2.2.2.1, (IntKind.i64.wrap (a.1.2.2.2.2.1 + 1)), ()), ((⟨r2.1.2.1.1, r2.1.2.1.2.1⟩ : DShares), r2.1.1, (), ())))
  else
  some (.inr (((), (), a.1.2.2.1, ()), (a.2.1, a.2.2.1, (), ()))))
  else
  some (.inr (((), (), a.1.2.2.1, ()), (a.2.1, a.2.2.1, (), ()))))
noncomputable def watershedlaw20_awake_e1 : LE CT Tryz.prog := ⟨5, [1, 2, 3, 4, 5], [.one (.ptr 0 0), .one (.ptr 1 0), .one (.int .i64), .one (.own 1 2), .one (.int .i64)], [.cobj 29 11, .cobj 26 9, .row 24 1], [⟨.exit 0, [1, 2, 3], [.one (.ptr 0 0), .one (.ptr 1 0), .one (.int .i64)], [.cobj 29 11, .cobj 26 9, .dead]⟩], watershedlaw20_awake_l1⟩
noncomputable def watershedlaw20_awake_lt : List (LE CT Tryz.prog) := [watershedlaw20_awake_e1]
theorem watershedlaw20_awake_e1_ok : LeOk watershedlaw20_awake_e1 (nthL (bodyOf Tryz.f6) 0) := fun A env h k z hk => le_ok (E := watershedlaw20_awake_e1) (orcOf_ok watershedlaw20_awake_tb) (dr := watershedlaw20_awake_dr) (lps := lpsOf watershedlaw20_awake_lt) (no_loop (by kernel_rfl)) (fun a => by kernel_rfl) env h k z hk
noncomputable def watershedlaw20_awake  : Option ((Bool) × (Unit)) :=
  (shares_First 1).bind fun r1 =>
  (scheme_Begin r1.1 1 (⟨([109] : List UInt8), ([] : List UInt8)⟩ : DSpan) 2).bind fun r2 =>
  (b8 2).bind fun u3 =>
  (b8 3).bind fun u4 =>
  (b8 4).bind fun u5 =>
  (loopM watershedlaw20_awake_l1 (((), (), r2.1.2.1, ([u3, u4, u5] : List (UInt8)), 0, ()), (r1.1, r2.1.1, (), ()))).bind fun b6 =>
  (shares_Of b6.2.1 ([122] : List UInt8)).bind fun r7 =>
  (bif (decide ((b6.1.2.2.1 : Int) = 0)) then
  (bif (decide ((b6.2.2.1.num : Int) = 1) && (decide (b6.2.2.1.span.lo = ([109] : List UInt8)) && (decide (b6.2.2.1.span.hi = ([] : List UInt8)) && (decide ((b6.2.2.1.from_ : Int) = 1) && (decide ((b6.2.2.1.to_ : Int) = 2) && (decide ((b6.2.2.1.epoch : Int) = 1) && (decide ((b6.2.2.1.under : Int) = 2) && (decide ((b6.2.2.1.stage : Int) = 4) && true)))))))) then
  (bif r7.1.2.1 then
  (bif (decide ((r7.1.1.group : Int) = 2)) then
  some ((decide ((b6.2.1.epoch : Int) = 2)), ())
  else
  some (false, ()))
  else
  some (false, ()))
  else
  some (false, ()))
  else
  some (false, ()))
noncomputable def watershedlaw20_awake_ce : CE CT Tryz.prog where
  f := 6
  args := []
  hs := []
  res := .val (.one (.bool))
  outs := []
  m := fun d dh => watershedlaw20_awake
  ok := ce_ok mixedP Tryz.func6 (by kernel_rfl) (orcOf_ok watershedlaw20_awake_tb) (dr := watershedlaw20_awake_dr) (lps := lpsOf watershedlaw20_awake_lt) (lps_fn (lps_of (n := 1) (by kernel_rfl) fun i hi => match i, hi with | 0, _ => lp_ok (E := watershedlaw20_awake_e1) (by kernel_rfl) watershedlaw20_awake_e1_ok)) (fun d dh => by kernel_rfl)

def watershedkit_SharesOf_dr : Nat → DrA
  | 5 => ⟨[0, 1, 2, 4, 12, 14, 3, 5, 6, 7, 8, 9, 10, 11, 13, 15, 16, 17, 18, 19, 20, 21, 22], [[], [0], [], [2], [], [2, 3, 4], [2, 3, 4, 5], [2, 3, 4, 5, 6], [2, 3, 4, 5, 6, 7], [2, 3, 4, 5, 6, 7, 8], [2, 3, 4, 5, 6, 7, 8, 9], [0, 1, 2, 3, 4, 5, 6, 7, 8, 9, 10], [], [12], [], [12, 13, 14], [12, 13, 14, 15], [12, 13, 14, 15, 16], [12, 13, 14, 15, 16, 17], [12, 13, 14, 15, 16, 17, 18], [12, 13, 14, 15, 16, 17, 18, 19], [0, 1, 2, 3, 4, 5, 6, 7, 8, 9, 10, 11, 12, 13, 14, 15, 16, 17, 18, 19, 20], [0, 1, 2, 3, 4, 5, 6, 7, 8, 9, 10, 11, 12, 13, 14, 15, 16, 17, 18, 19, 20, 21]], [], [], [], false, []⟩
  | _ => ⟨[], [], [], [], [], false, []⟩
noncomputable def watershedkit_SharesOf_tb : List (CE CT Tryz.prog) := []
noncomputable def watershedkit_SharesOf_l1 (a : ((Int) × (Unit) × (Int) × (Int) × Unit) × ((DShares) × Unit)) : Option ((((Int) × (Unit) × (Int) × (Int) × Unit) × ((DShares) × Unit)) ⊕ ((((Int) × Unit) × ((DShares) × Unit)))) :=
  (bif (decide ((a.1.2.2.2.1 : Int) < (a.2.1.list.length : Int))) then
  (bif (decide ((a.1.2.2.1 : Int) ≤ a.1.1)) then
  (getI a.2.1.list a.1.2.2.2.1).bind fun e1 =>
  (getI a.2.1.list a.1.2.2.2.1).bind fun e2 =>
  let y3 : Int := (IntKind.i64.wrap ((IntKind.i64.wrap ((IntKind.i64.wrap (a.1.2.2.1 + 1)) + (IntKind.i64.wrap (((e1.span.lo.length : Int) : Int).tdiv 8)))) + (IntKind.i64.wrap (((e2.span.hi.length : Int) : Int).tdiv 8))))
  some (.inl ((a.1.1, (), y3, (IntKind.i64.wrap (a.1.2.2.2.1 + 1)), ()), (a.2.1, ())))
  else
  some (.inr ((a.1.2.2.1, ()), (a.2.1, ()))))
  else
  some (.inr ((a.1.2.2.1, ()), (a.2.1, ()))))
noncomputable def watershedkit_SharesOf_e1 : LE CT Tryz.prog := ⟨3, [1, 2, 5, 6], [.one (.int .i64), .one (.ptr 0 0), .one (.int .i64), .one (.int .i64)], [.cobj 29 11], [⟨.exit 0, [5], [.one (.int .i64)], [.cobj 29 11]⟩], watershedkit_SharesOf_l1⟩
noncomputable def watershedkit_SharesOf_lt : List (LE CT Tryz.prog) := [watershedkit_SharesOf_e1]
theorem watershedkit_SharesOf_e1_ok : LeOk watershedkit_SharesOf_e1 (nthL (bodyOf Tryz.f34) 0) := fun A env h k z hk => le_ok (E := watershedkit_SharesOf_e1) (orcOf_ok watershedkit_SharesOf_tb) (dr := watershedkit_SharesOf_dr) (lps := lpsOf watershedkit_SharesOf_lt) (no_loop (by kernel_rfl)) (fun a => by kernel_rfl) env h k z hk
noncomputable def watershedkit_SharesOf (x0 : DShares) (x1 : Int) : Option ((Int) × (Unit)) :=
  (loopM watershedkit_SharesOf_l1 ((x1, (), 1, 0, ()), (x0, ()))).bind fun b1 =>
  some (b1.1.1, ())
noncomputable def watershedkit_SharesOf_ce : CE CT Tryz.prog where
  f := 34
  args := [.cod 11, .one (.int .i64)]
  hs := []
  res := .val (.one (.int .i64))
  outs := []
  m := fun d dh => watershedkit_SharesOf d.1 d.2.1
  ok := ce_ok mixedP Tryz.func34 (by kernel_rfl) (orcOf_ok watershedkit_SharesOf_tb) (dr := watershedkit_SharesOf_dr) (lps := lpsOf watershedkit_SharesOf_lt) (lps_fn (lps_of (n := 1) (by kernel_rfl) fun i hi => match i, hi with | 0, _ => lp_ok (E := watershedkit_SharesOf_e1) (by kernel_rfl) watershedkit_SharesOf_e1_ok)) (fun d dh => by kernel_rfl)

def watershedlaw20_great_dr : Nat → DrA
  | 4 => ⟨[0, 1, 2, 3, 6, 7, 8, 9, 4, 5, 10, 11, 12, 13], [[], [], [0, 1], [0, 1, 2], [0, 1, 2, 3], [0, 1, 2, 3, 4], [], [], [6, 7], [6, 7, 8], [6, 7, 8, 9], [6, 7, 8, 9, 10], [0, 1, 2, 3, 4, 5, 6, 7, 8, 9, 10, 11], [0, 1, 2, 3, 4, 5, 6, 7, 8, 9, 10, 11, 12]], [], [], [], false, []⟩
  | _ => ⟨[], [], [], [], [], false, []⟩
noncomputable def watershedlaw20_great_tb : List (CE CT Tryz.prog) := [watershedkit_SharesOf_ce]
noncomputable def watershedlaw20_great_l1 (a : ((List (DSpan)) × (Unit) × (Int) × Unit) × ((DShares) × Unit)) : Option ((((List (DSpan)) × (Unit) × (Int) × Unit) × ((DShares) × Unit)) ⊕ ((((Bool) × Unit) × ((DShares) × Unit)) ⊕ (((Unit) × Unit) × ((DShares) × Unit)))) :=
  (bif (decide ((a.1.2.2.1 : Int) < (a.1.1.length : Int))) then
  (getI a.1.1 a.1.2.2.1).bind fun e1 =>
  (getI a.1.1 a.1.2.2.1).bind fun e2 =>
  (bif (decide ((100 : Int) < (IntKind.i64.wrap ((e1.lo.length : Int) + (e2.hi.length : Int))))) then
  some (.inr (.inl ((true, ()), (a.2.1, ()))))
  else
  some (.inl ((a.1.1, (), (IntKind.i64.wrap (a.1.2.2.1 + 1)), ()), (a.2.1, ()))))
  else
  some (.inr (.inr (((), ()), (a.2.1, ())))))
noncomputable def watershedlaw20_great_e1 : LE CT Tryz.prog := ⟨2, [1, 2, 5], [.one (.sl 4), .one (.ptr 0 0), .one (.int .i64)], [.cobj 29 11], [⟨.ret, [4], [.one (.bool)], [.cobj 29 11]⟩, ⟨.exit 0, [2], [.one (.ptr 0 0)], [.cobj 29 11]⟩], watershedlaw20_great_l1⟩
noncomputable def watershedlaw20_great_lt : List (LE CT Tryz.prog) := [watershedlaw20_great_e1]
theorem watershedlaw20_great_e1_ok : LeOk watershedlaw20_great_e1 (nthL (bodyOf Tryz.f7) 0) := fun A env h k z hk => le_ok (E := watershedlaw20_great_e1) (orcOf_ok watershedlaw20_great_tb) (dr := watershedlaw20_great_dr) (lps := lpsOf watershedlaw20_great_lt) (no_loop (by kernel_rfl)) (fun a => by kernel_rfl) env h k z hk
noncomputable def watershedlaw20_great (x0 : DShares) (x1 : List (DSpan)) : Option ((Bool) × (Unit)) :=
  (loopM watershedlaw20_great_l1 ((x1, (), 0, ()), (x0, ()))).bind fun b1 =>
  (match b1 with
  | .inl b2 =>
  some (b2.1.1, ())
  | .inr b3 =>
  (watershedkit_SharesOf b3.2.1 400).bind fun r4 =>
  some ((decide ((400 : Int) < r4.1)), ()))
noncomputable def watershedlaw20_great_ce : CE CT Tryz.prog where
  f := 7
  args := [.cod 11, .one (.sl 4)]
  hs := []
  res := .val (.one (.bool))
  outs := []
  m := fun d dh => watershedlaw20_great d.1 d.2.1
  ok := ce_ok mixedP Tryz.func7 (by kernel_rfl) (orcOf_ok watershedlaw20_great_tb) (dr := watershedlaw20_great_dr) (lps := lpsOf watershedlaw20_great_lt) (lps_fn (lps_of (n := 1) (by kernel_rfl) fun i hi => match i, hi with | 0, _ => lp_ok (E := watershedlaw20_great_e1) (by kernel_rfl) watershedlaw20_great_e1_ok)) (fun d dh => by kernel_rfl)

def watershedkit_LentShareRows_dr : Nat → DrA
  | _ => ⟨[], [], [], [], [], false, []⟩
noncomputable def watershedkit_LentShareRows_tb : List (CE CT Tryz.prog) := [watershedkit_markShare_ce]
noncomputable def watershedkit_LentShareRows_l1 (a : ((List (DShare)) × (Nat × Nat × Nat) × (Int) × Unit) × ((List (DShare)) × Unit)) : Option ((((List (DShare)) × (Nat × Nat × Nat) × (Int) × Unit) × ((List (DShare)) × Unit)) ⊕ ((((List (DShare)) × (Nat × Nat × Nat) × Unit) × ((List (DShare)) × Unit)))) :=
  (bif (decide ((a.1.2.2.1 : Int) < 12)) then
  (watershedkit_markShare 1 a.1.2.2.1).bind fun r1 =>
  (if (a.1.2.1.2.1 + ([r1.1] : List (DShare)).length) ≤ 140737488355328 ∧ (a.1.2.1.2.1 + ([r1.1] : List (DShare)).length) * 48 ≤ 140737488355328 ∧ a.1.2.1.1 + a.1.2.1.2.1 ≤ a.2.1.length then
  (if (a.1.2.1.2.1 + ([r1.1] : List (DShare)).length) ≤ a.1.2.1.2.2 then
  let y2 : List (DShare) := (a.2.1.take (a.1.2.1.1 + a.1.2.1.2.1) ++ ([r1.1] : List (DShare)) ++ a.2.1.drop (a.1.2.1.1 + a.1.2.1.2.1 + ([r1.1] : List (DShare)).length))
  some (.inl ((a.1.1, (a.1.2.1.1, (a.1.2.1.2.1 + ([r1.1] : List (DShare)).length), a.1.2.1.2.2), (IntKind.i64.wrap (a.1.2.2.1 + 1)), ()), (y2, ())))
  else none)
  else none)
  else
  some (.inr ((a.1.1, (a.1.2.1.1, a.1.2.1.2.1, a.1.2.1.2.2), ()), (a.2.1, ()))))
noncomputable def watershedkit_LentShareRows_e1 : LE CT Tryz.prog := ⟨4, [0, 3, 4], [.one (.sl 5), .one (.as 5 0), .one (.int .i64)], [.arr 71 5 true], [⟨.exit 0, [0, 3], [.one (.sl 5), .one (.as 5 0)], [.arr 71 5 true]⟩], watershedkit_LentShareRows_l1⟩
noncomputable def watershedkit_LentShareRows_lt : List (LE CT Tryz.prog) := [watershedkit_LentShareRows_e1]
theorem watershedkit_LentShareRows_e1_ok : LeOk watershedkit_LentShareRows_e1 (nthL (bodyOf Tryz.f35) 0) := fun A env h k z hk => le_ok (E := watershedkit_LentShareRows_e1) (orcOf_ok watershedkit_LentShareRows_tb) (dr := watershedkit_LentShareRows_dr) (lps := lpsOf watershedkit_LentShareRows_lt) (no_loop (by kernel_rfl)) (fun a => by kernel_rfl) env h k z hk
noncomputable def watershedkit_LentShareRows (x0 : List (DShare)) : Option ((Nat × Nat × Nat) × ((List (DShare)) × Unit)) :=
  (if 0 ≤ (0 : Int) ∧ (0 : Int) ≤ (IntKind.i64.wrap ((x0.length : Int) + 12)) ∧ ((IntKind.i64.wrap ((x0.length : Int) + 12)) : Int) ≤ 140737488355328 ∧ ((48 : Nat) : Int) * (IntKind.i64.wrap ((x0.length : Int) + 12)) ≤ 140737488355328 then
  let y1 : List (DShare) := (List.replicate ((IntKind.i64.wrap ((x0.length : Int) + 12)) : Int).toNat ((⟨(⟨([] : List UInt8), ([] : List UInt8)⟩ : DSpan), 0, 0⟩ : DShare) : DShare))
  (if ((0 : Int).toNat + x0.length) ≤ 140737488355328 ∧ ((0 : Int).toNat + x0.length) * 48 ≤ 140737488355328 ∧ 0 + (0 : Int).toNat ≤ y1.length then
  (if ((0 : Int).toNat + x0.length) ≤ ((IntKind.i64.wrap ((x0.length : Int) + 12)) : Int).toNat then
  let y2 : List (DShare) := (y1.take (0 + (0 : Int).toNat) ++ x0 ++ y1.drop (0 + (0 : Int).toNat + x0.length))
  (loopM watershedkit_LentShareRows_l1 ((x0, (0, ((0 : Int).toNat + x0.length), ((IntKind.i64.wrap ((x0.length : Int) + 12)) : Int).toNat), 0, ()), (y2, ()))).bind fun b3 =>
  (if 0 ≤ ((0 : Int) : Int) ∧ ((0 : Int) : Int) ≤ ((b3.1.1.length : Int) : Int) ∧ ((b3.1.1.length : Int) : Int) ≤ ((b3.1.2.1.2.2 : Nat) : Int) ∧ ((b3.1.1.length : Int) : Int) ≤ 140737488355328 then
  some (((b3.1.2.1.1 + (0 : Int).toNat), (((b3.1.1.length : Int) : Int).toNat - (0 : Int).toNat), (b3.1.2.1.2.2 - (0 : Int).toNat)), (b3.2.1, ()))
  else none)
  else none)
  else none)
  else none)
noncomputable def watershedkit_LentShareRows_ce : CE CT Tryz.prog where
  f := 35
  args := [.one (.sl 5)]
  hs := []
  res := .val (.one (.as 5 0))
  outs := [.arr 71 5 false]
  m := fun d dh => watershedkit_LentShareRows d.1
  ok := ce_ok mixedP Tryz.func35 (by kernel_rfl) (orcOf_ok watershedkit_LentShareRows_tb) (dr := watershedkit_LentShareRows_dr) (lps := lpsOf watershedkit_LentShareRows_lt) (lps_fn (lps_of (n := 1) (by kernel_rfl) fun i hi => match i, hi with | 0, _ => lp_ok (E := watershedkit_LentShareRows_e1) (by kernel_rfl) watershedkit_LentShareRows_e1_ok)) (fun d dh => by kernel_rfl)

noncomputable def watershedkit_LentShareRows_x (x0 : List (DShare)) : Option ((List (DShare) × List (DShare)) × Unit) :=
  (watershedkit_LentShareRows x0).bind fun r => if r.1.1 = 0 ∧ r.1.2.1 ≤ r.2.1.length ∧ r.2.1.length ≤ 140737488355328 then some ((r.2.1.take r.1.2.1, r.2.1.drop r.1.2.1), ()) else none
noncomputable def watershedkit_LentShareRows_x_ce : CE CT Tryz.prog where
  f := 35
  args := [.one (.sl 5)]
  hs := []
  res := .val (.one (.slx 5))
  outs := []
  m := fun d dh => watershedkit_LentShareRows_x d.1
  ok := fun d dh r hr => by
    unfold watershedkit_LentShareRows_x at hr
    obtain ⟨⟨⟨lo, n, c⟩, xs, u⟩, h1, h2⟩ := bind_some' hr
    dsimp only at h2
    split at h2
    · rename_i hc
      injection h2 with h2
      subst h2
      obtain ⟨rfl, hc2, hc3⟩ := hc
      exact Tr.freezeX hc2 hc3 (watershedkit_LentShareRows_ce.ok d dh _ h1)
    · cases h2

def watershedkit_LentShares_dr : Nat → DrA
  | _ => ⟨[], [], [], [], [], false, []⟩
noncomputable def watershedkit_LentShares_tb : List (CE CT Tryz.prog) := [watershedkit_LentShareRows_x_ce]
noncomputable def watershedkit_LentShares_lt : List (LE CT Tryz.prog) := []
noncomputable def watershedkit_LentShares (x0 : DShares) : Option (((Int) × (List (DShare) × List (DShare)) × Unit) × (Unit)) :=
  (watershedkit_LentShareRows_x x0.list).bind fun r1 =>
  some ((x0.epoch, (r1.1.1, r1.1.2), ()), ())
noncomputable def watershedkit_LentShares_ce : CE CT Tryz.prog where
  f := 8
  args := [.cod 11]
  hs := []
  res := .val (.agg [.int .i64, .slx 5])
  outs := []
  m := fun d dh => watershedkit_LentShares d.1
  ok := ce_ok mixedP Tryz.func8 (by kernel_rfl) (orcOf_ok watershedkit_LentShares_tb) (dr := watershedkit_LentShares_dr) (lps := lpsOf watershedkit_LentShares_lt) (lps_fn (no_loop (by kernel_rfl))) (fun d dh => by kernel_rfl)

noncomputable def scheme_Step_ar (x0 : DScheme) (x1 : DShares) (x2 : Int) : Option (((DScheme) × ((Int) × (Nat) × Unit) × (Int) × Unit) × ((List (DShare)) × Unit)) :=
  (scheme_Step x0 x1 x2).bind fun r => some ((r.1.1, (r.1.2.1.1, r.1.2.1.2.1.length, ()), r.1.2.2.1, ()), (r.1.2.1.2.1, ()))
noncomputable def scheme_Step_ar_ce : CE CT Tryz.prog where
  f := 9
  args := [.cod 9, .cod 11, .one (.int .u8)]
  hs := []
  res := .tup [.cod 9, .agg [.int .i64, .asz 5 0], .one (.int .i64)]
  outs := [.arr 71 5 true]
  m := fun d dh => scheme_Step_ar d.1 d.2.1 d.2.2.1
  ok := fun d dh r2 hr => by
    unfold scheme_Step_ar at hr
    obtain ⟨r, h1, h2⟩ := bind_some' hr
    injection h2 with h2
    subst h2
    exact Tr.asArr (scheme_Step_ce.ok d dh r h1) rfl rfl (fun i x hx => match i, hx with | 0, hx => ⟨71, 5, r.1.2.1.2.1, by injection hx with hx; exact hx.symm, rfl, ⟨_, .tail _ (.head _), ⟨_, .tail _ (.head _), rfl, rfl⟩⟩, fun y => rfl, rfl⟩ | i + 1, hx => by cases hx)

def watershedref04_Key_dr : Nat → DrA
  | _ => ⟨[], [], [], [], [], false, []⟩
noncomputable def watershedref04_Key_tb : List (CE CT Tryz.prog) := []
noncomputable def watershedref04_Key_l1 (a : ((List UInt8) × (Int) × Unit) × (Unit)) : Option ((((List UInt8) × (Int) × Unit) × (Unit)) ⊕ ((((Bool) × Unit) × (Unit)) ⊕ ((Unit) × (Unit)))) :=
  (bif (decide ((a.1.2.1 : Int) < (a.1.1.length : Int))) then
  (getI a.1.1 a.1.2.1).bind fun e1 =>
  (bif (decide ((97 : Int) ≤ (e1.toNat : Int))) then
  (getI a.1.1 a.1.2.1).bind fun e2 =>
  (bif (decide (((e2.toNat : Int) : Int) ≤ 122)) then
  some (.inl ((a.1.1, (IntKind.i64.wrap (a.1.2.1 + 1)), ()), ()))
  else
  (getI a.1.1 a.1.2.1).bind fun e3 =>
  (bif (decide ((48 : Int) ≤ (e3.toNat : Int))) then
  (getI a.1.1 a.1.2.1).bind fun e4 =>
  (bif (!(decide (((e4.toNat : Int) : Int) ≤ 57))) then
  some (.inr (.inl ((false, ()), ())))
  else
  some (.inl ((a.1.1, (IntKind.i64.wrap (a.1.2.1 + 1)), ()), ())))
  else
  some (.inr (.inl ((false, ()), ())))))
  else
  (getI a.1.1 a.1.2.1).bind fun e5 =>
  (bif (decide ((48 : Int) ≤ (e5.toNat : Int))) then
  (getI a.1.1 a.1.2.1).bind fun e6 =>
  (bif (!(decide (((e6.toNat : Int) : Int) ≤ 57))) then
  some (.inr (.inl ((false, ()), ())))
  else
  some (.inl ((a.1.1, (IntKind.i64.wrap (a.1.2.1 + 1)), ()), ())))
  else
  some (.inr (.inl ((false, ()), ())))))
  else
  some (.inr (.inr ((), ()))))
noncomputable def watershedref04_Key_e1 : LE CT Tryz.prog := ⟨4, [0, 3], [.one (.str), .one (.int .i64)], [], [⟨.ret, [2], [.one (.bool)], []⟩, ⟨.exit 0, [], [], []⟩], watershedref04_Key_l1⟩
noncomputable def watershedref04_Key_lt : List (LE CT Tryz.prog) := [watershedref04_Key_e1]
theorem watershedref04_Key_e1_ok : LeOk watershedref04_Key_e1 (nthL (bodyOf Tryz.f114) 0) := fun A env h k z hk => le_ok (E := watershedref04_Key_e1) (orcOf_ok watershedref04_Key_tb) (dr := watershedref04_Key_dr) (lps := lpsOf watershedref04_Key_lt) (no_loop (by kernel_rfl)) (fun a => by kernel_rfl) env h k z hk
noncomputable def watershedref04_Key (x0 : List UInt8) : Option ((Bool) × (Unit)) :=
  (bif (decide (((x0.length : Int) : Int) < 1)) then
  some (false, ())
  else
  (bif (decide ((20 : Int) < (x0.length : Int))) then
  some (false, ())
  else
  (loopM watershedref04_Key_l1 ((x0, 0, ()), ())).bind fun b1 =>
  (match b1 with
  | .inl b2 =>
  some (b2.1.1, ())
  | .inr b3 =>
  some (true, ()))))
noncomputable def watershedref04_Key_ce : CE CT Tryz.prog where
  f := 114
  args := [.one (.str)]
  hs := []
  res := .val (.one (.bool))
  outs := []
  m := fun d dh => watershedref04_Key d.1
  ok := ce_ok mixedP Tryz.func114 (by kernel_rfl) (orcOf_ok watershedref04_Key_tb) (dr := watershedref04_Key_dr) (lps := lpsOf watershedref04_Key_lt) (lps_fn (lps_of (n := 1) (by kernel_rfl) fun i hi => match i, hi with | 0, _ => lp_ok (E := watershedref04_Key_e1) (by kernel_rfl) watershedref04_Key_e1_ok)) (fun d dh => by kernel_rfl)

def watershedref04_Right_dr : Nat → DrA
  | _ => ⟨[], [], [], [], [], false, []⟩
noncomputable def watershedref04_Right_tb : List (CE CT Tryz.prog) := [watershedref04_Key_ce]
noncomputable def watershedref04_Right_lt : List (LE CT Tryz.prog) := []
noncomputable def watershedref04_Right (x0 : DSpan) : Option ((Bool) × (Unit)) :=
  (bif (decide (x0.lo ≠ ([] : List UInt8))) then
  (watershedref04_Key x0.lo).bind fun r1 =>
  (bif (!r1.1) then
  some (false, ())
  else
  (bif (decide (x0.hi = ([] : List UInt8))) then
  some (true, ())
  else
  (watershedref04_Key x0.hi).bind fun r2 =>
  (bif r2.1 then
  some ((decide (x0.lo < x0.hi)), ())
  else
  some (false, ()))))
  else
  (bif (decide (x0.hi = ([] : List UInt8))) then
  some (true, ())
  else
  (watershedref04_Key x0.hi).bind fun r3 =>
  (bif r3.1 then
  some ((decide (x0.lo < x0.hi)), ())
  else
  some (false, ()))))
noncomputable def watershedref04_Right_ce : CE CT Tryz.prog where
  f := 79
  args := [.cod 4]
  hs := []
  res := .val (.one (.bool))
  outs := []
  m := fun d dh => watershedref04_Right d.1
  ok := ce_ok mixedP Tryz.func79 (by kernel_rfl) (orcOf_ok watershedref04_Right_tb) (dr := watershedref04_Right_dr) (lps := lpsOf watershedref04_Right_lt) (lps_fn (no_loop (by kernel_rfl))) (fun d dh => by kernel_rfl)

def watershedref20_one_dr : Nat → DrA
  | _ => ⟨[], [], [], [], [], false, []⟩
noncomputable def watershedref20_one_tb : List (CE CT Tryz.prog) := [watershedref04_Right_ce]
noncomputable def watershedref20_one_lt : List (LE CT Tryz.prog) := []
noncomputable def watershedref20_one (x0 : DScheme) : Option ((Bool) × (Unit)) :=
  (bif (decide ((x0.num : Int) < 1)) then
  some (false, ())
  else
  (bif (decide ((1073741824 : Int) < x0.num)) then
  some (false, ())
  else
  (watershedref04_Right x0.span).bind fun r1 =>
  (bif (!r1.1) then
  some (false, ())
  else
  (bif (decide ((x0.from_ : Int) < 1)) then
  some (false, ())
  else
  (bif (decide ((4 : Int) < x0.from_)) then
  some (false, ())
  else
  (bif (decide ((x0.to_ : Int) < 1)) then
  some (false, ())
  else
  (bif (decide ((4 : Int) < x0.to_)) then
  some (false, ())
  else
  (bif (decide ((x0.from_ : Int) = x0.to_)) then
  some (false, ())
  else
  (bif (decide ((x0.epoch : Int) < 1)) then
  some (false, ())
  else
  (bif (decide ((1073741824 : Int) < x0.epoch)) then
  some (false, ())
  else
  (bif (decide ((x0.stage : Int) < 1)) then
  some (false, ())
  else
  (bif (decide ((9 : Int) < x0.stage)) then
  some (false, ())
  else
  (bif (decide ((4 : Int) ≤ x0.stage)) then
  (bif (decide ((x0.stage : Int) ≤ 6)) then
  (bif (decide ((x0.epoch : Int) < x0.under)) then
  some ((decide ((x0.under : Int) ≤ 1073741824)), ())
  else
  some (false, ()))
  else
  some ((decide ((x0.under : Int) = 0)), ()))
  else
  some ((decide ((x0.under : Int) = 0)), ()))))))))))))))
noncomputable def watershedref20_one_ce : CE CT Tryz.prog where
  f := 40
  args := [.cod 9]
  hs := []
  res := .val (.one (.bool))
  outs := []
  m := fun d dh => watershedref20_one d.1
  ok := ce_ok mixedP Tryz.func40 (by kernel_rfl) (orcOf_ok watershedref20_one_tb) (dr := watershedref20_one_dr) (lps := lpsOf watershedref20_one_lt) (lps_fn (no_loop (by kernel_rfl))) (fun d dh => by kernel_rfl)

def watershedref04_Parts_dr : Nat → DrA
  | 6 => ⟨[0, 1, 2, 3, 4, 5, 6, 7, 8, 9, 10, 11, 12, 13, 14, 15, 16, 17, 18, 19, 20, 21, 22, 24, 25, 26, 27, 23, 28, 29, 30, 31, 32], [[], [], [0, 1], [0, 1, 2], [0, 1, 2, 3], [0, 1, 2, 3, 4], [0, 1, 2, 3, 4, 5], [0, 1, 2, 3, 4, 5, 6], [0, 1, 2, 3, 4, 5, 6, 7], [0, 1, 2, 3, 4, 5, 6, 7, 8], [0, 1, 2, 3, 4, 5, 6, 7, 8, 9], [0, 1, 2, 3, 4, 5, 6, 7, 8, 9], [0, 1, 2, 3, 4, 5, 6, 7, 8, 9, 11], [0, 1, 2, 3, 4, 5, 6, 7, 8, 9, 10, 11, 12], [0, 1, 2, 3, 4, 5, 6, 7, 8, 9, 10, 11, 12, 13], [0, 1, 2, 3, 4, 5, 6, 7, 8, 9, 10, 11, 12, 13, 14], [0, 1, 2, 3, 4, 5, 6, 7, 8, 9, 10, 11, 12, 13, 14, 15], [0, 1, 2, 3, 4, 5, 6, 7, 8, 9, 10, 11, 12, 13, 14, 15, 16], [0, 1, 2, 3, 4, 5, 6, 7, 8, 9, 10, 11, 12, 13, 14, 15, 16, 17], [0, 1, 2, 3, 4, 5, 6, 7, 8, 9, 10, 11, 12, 13, 14, 15, 16, 17], [0, 1, 2, 3, 4, 5, 6, 7, 8, 9, 10, 11, 12, 13, 14, 15, 16, 17, 19], [0, 1, 2, 3, 4, 5, 6, 7, 8, 9, 10, 11, 12, 13, 14, 15, 16, 17, 18, 19, 20], [0, 1, 2, 3, 4, 5, 6, 7, 8, 9, 10, 11, 12, 13, 14, 15, 16, 17, 18, 19, 20, 21], [0, 1, 2, 3, 4, 5, 6, 7, 8, 9, 10, 11, 12, 13, 14, 15, 16, 17, 18, 19, 20, 21, 22], [0, 1, 2, 3, 4, 5, 6, 7, 8, 9, 10, 11, 12, 13, 14, 15, 16, 17], [0, 1, 2, 3, 4, 5, 6, 7, 8, 9, 10, 11, 12, 13, 14, 15, 16, 17], [0, 1, 2, 3, 4, 5, 6, 7, 8, 9, 10, 11, 12, 13, 14, 15, 16, 17, 24, 25], [0, 1, 2, 3, 4, 5, 6, 7, 8, 9, 10, 11, 12, 13, 14, 15, 16, 17, 24, 25, 26], [0, 1, 2, 3, 4, 5, 6, 7, 8, 9, 10, 11, 12, 13, 14, 15, 16, 17, 24, 25, 26, 27], [0, 1, 2, 3, 4, 5, 6, 7, 8, 9, 10, 11, 12, 13, 14, 15, 16, 17, 18, 19, 20, 21, 22, 23, 24, 25, 26, 27, 28], [0, 1, 2, 3, 4, 5, 6, 7, 8, 9, 10, 11, 12, 13, 14, 15, 16, 17, 18, 19, 20, 21, 22, 23, 24, 25, 26, 27, 28, 29], [0, 1, 2, 3, 4, 5, 6, 7, 8, 9, 10, 11, 12, 13, 14, 15, 16, 17, 18, 19, 20, 21, 22, 23, 24, 25, 26, 27, 28, 29, 30], [0, 1, 2, 3, 4, 5, 6, 7, 8, 9, 10, 11, 12, 13, 14, 15, 16, 17, 18, 19, 20, 21, 22, 23, 24, 25, 26, 27, 28, 29, 30, 31]], [], [], [], false, []⟩
  | _ => ⟨[], [], [], [], [], false, []⟩
noncomputable def watershedref04_Parts_tb : List (CE CT Tryz.prog) := [watershedref04_Right_ce]
noncomputable def watershedref04_Parts_l1 (a : ((List (DSpan)) × (Int) × Unit) × (Unit)) : Option ((((List (DSpan)) × (Int) × Unit) × (Unit)) ⊕ ((((Bool) × Unit) × (Unit)) ⊕ ((Unit) × (Unit)))) :=
  (bif (decide ((a.1.2.1 : Int) < (a.1.1.length : Int))) then
  (getI a.1.1 a.1.2.1).bind fun e1 =>
  (watershedref04_Right e1).bind fun r2 =>
  (bif (!r2.1) then
  some (.inr (.inl ((false, ()), ())))
  else
  (bif (decide ((0 : Int) < a.1.2.1)) then
  (getI a.1.1 (IntKind.i64.wrap (a.1.2.1 - 1))).bind fun e3 =>
  (bif (decide (e3.hi = ([] : List UInt8))) then
  some (.inr (.inl ((false, ()), ())))
  else
  (getI a.1.1 (IntKind.i64.wrap (a.1.2.1 - 1))).bind fun e4 =>
  (getI a.1.1 a.1.2.1).bind fun e5 =>
  (bif (decide (e4.hi ≠ e5.lo)) then
  some (.inr (.inl ((false, ()), ())))
  else
  some (.inl ((a.1.1, (IntKind.i64.wrap (a.1.2.1 + 1)), ()), ()))))
  else
  some (.inl ((a.1.1, (IntKind.i64.wrap (a.1.2.1 + 1)), ()), ()))))
  else
  some (.inr (.inr ((), ()))))
noncomputable def watershedref04_Parts_e1 : LE CT Tryz.prog := ⟨4, [0, 3], [.one (.sl 4), .one (.int .i64)], [], [⟨.ret, [2], [.one (.bool)], []⟩, ⟨.exit 0, [], [], []⟩], watershedref04_Parts_l1⟩
noncomputable def watershedref04_Parts_lt : List (LE CT Tryz.prog) := [watershedref04_Parts_e1]
theorem watershedref04_Parts_e1_ok : LeOk watershedref04_Parts_e1 (nthL (bodyOf Tryz.f80) 0) := fun A env h k z hk => le_ok (E := watershedref04_Parts_e1) (orcOf_ok watershedref04_Parts_tb) (dr := watershedref04_Parts_dr) (lps := lpsOf watershedref04_Parts_lt) (no_loop (by kernel_rfl)) (fun a => by kernel_rfl) env h k z hk
noncomputable def watershedref04_Parts (x0 : List (DSpan)) : Option ((Bool) × (Unit)) :=
  (bif (decide (((x0.length : Int) : Int) = 0)) then
  some (false, ())
  else
  (getI x0 0).bind fun e1 =>
  (bif (decide (e1.lo ≠ ([] : List UInt8))) then
  some (false, ())
  else
  (getI x0 (IntKind.i64.wrap ((x0.length : Int) - 1))).bind fun e2 =>
  (bif (decide (e2.hi ≠ ([] : List UInt8))) then
  some (false, ())
  else
  (loopM watershedref04_Parts_l1 ((x0, 0, ()), ())).bind fun b3 =>
  (match b3 with
  | .inl b4 =>
  some (b4.1.1, ())
  | .inr b5 =>
  some (true, ())))))
noncomputable def watershedref04_Parts_ce : CE CT Tryz.prog where
  f := 80
  args := [.one (.sl 4)]
  hs := []
  res := .val (.one (.bool))
  outs := []
  m := fun d dh => watershedref04_Parts d.1
  ok := ce_ok mixedP Tryz.func80 (by kernel_rfl) (orcOf_ok watershedref04_Parts_tb) (dr := watershedref04_Parts_dr) (lps := lpsOf watershedref04_Parts_lt) (lps_fn (lps_of (n := 1) (by kernel_rfl) fun i hi => match i, hi with | 0, _ => lp_ok (E := watershedref04_Parts_e1) (by kernel_rfl) watershedref04_Parts_e1_ok)) (fun d dh => by kernel_rfl)

def watershedref05_Right_dr : Nat → DrA
  | _ => ⟨[], [], [], [], [], false, []⟩
noncomputable def watershedref05_Right_tb : List (CE CT Tryz.prog) := [watershedref04_Parts_ce]
noncomputable def watershedref05_Right_l1 (a : ((Unit) × (List (DSpan)) × (Int) × Unit) × ((DShares) × (Unit) × Unit)) : Option ((((Unit) × (List (DSpan)) × (Int) × Unit) × ((DShares) × (Unit) × Unit)) ⊕ ((((Bool) × Unit) × ((DShares) × (Unit) × Unit)) ⊕ (((List (DSpan)) × Unit) × ((DShares) × (Unit) × (Unit) × Unit)))) :=
  (bif (decide ((a.1.2.2.1 : Int) < (a.2.1.list.length : Int))) then
  (getI a.2.1.list a.1.2.2.1).bind fun e1 =>
  (bif (decide ((e1.group : Int) < 1)) then
  some (.inr (.inl ((false, ()), (a.2.1, (), ()))))
  else
  (bif (decide ((4 : Int) < e1.group)) then
  some (.inr (.inl ((false, ()), (a.2.1, (), ()))))
  else
  (bif (decide ((e1.epoch : Int) < 1)) then
  some (.inr (.inl ((false, ()), (a.2.1, (), ()))))
  else
  (bif (decide ((a.2.1.epoch : Int) < e1.epoch)) then
  some (.inr (.inl ((false, ()), (a.2.1, (), ()))))
  else
  (if a.1.2.1.length + ([e1.span] : List (DSpan)).length ≤ 140737488355328 ∧ (a.1.2.1.length + ([e1.span] : List (DSpan)).length) * 32 ≤ 140737488355328 then
  some (.inl (((), (a.1.2.1 ++ ([e1.span] : List (DSpan))), (IntKind.i64.wrap (a.1.2.2.1 + 1)), ()), (a.2.1, (), ())))
  else none)))))
  else
  some (.inr (.inr ((a.1.2.1, ()), (a.2.1, (), (), ())))))
noncomputable def watershedref05_Right_e1 : LE CT Tryz.prog := ⟨5, [1, 3, 4], [.one (.ptr 0 0), .one (.own 4 1), .one (.int .i64)], [.cobj 29 11, .row 23 2], [⟨.ret, [2], [.one (.bool)], [.cobj 29 11, .dead]⟩, ⟨.exit 0, [3], [.one (.own 4 2)], [.cobj 29 11, .dead, .row 23 2]⟩], watershedref05_Right_l1⟩
noncomputable def watershedref05_Right_lt : List (LE CT Tryz.prog) := [watershedref05_Right_e1]
theorem watershedref05_Right_e1_ok : LeOk watershedref05_Right_e1 (nthL (bodyOf Tryz.f41) 0) := fun A env h k z hk => le_ok (E := watershedref05_Right_e1) (orcOf_ok watershedref05_Right_tb) (dr := watershedref05_Right_dr) (lps := lpsOf watershedref05_Right_lt) (no_loop (by kernel_rfl)) (fun a => by kernel_rfl) env h k z hk
noncomputable def watershedref05_Right (x0 : DShares) : Option ((Bool) × (Unit)) :=
  (bif (decide ((x0.epoch : Int) < 1)) then
  some (false, ())
  else
  (bif (decide ((1073741824 : Int) < x0.epoch)) then
  some (false, ())
  else
  (bif (decide ((40 : Int) < (x0.list.length : Int))) then
  some (false, ())
  else
  (loopM watershedref05_Right_l1 (((), [], 0, ()), (x0, (), ()))).bind fun b1 =>
  (match b1 with
  | .inl b2 =>
  some (b2.1.1, ())
  | .inr b3 =>
  (watershedref04_Parts b3.1.1).bind fun r4 =>
  some (r4.1, ())))))
noncomputable def watershedref05_Right_ce : CE CT Tryz.prog where
  f := 41
  args := [.cod 11]
  hs := []
  res := .val (.one (.bool))
  outs := []
  m := fun d dh => watershedref05_Right d.1
  ok := ce_ok mixedP Tryz.func41 (by kernel_rfl) (orcOf_ok watershedref05_Right_tb) (dr := watershedref05_Right_dr) (lps := lpsOf watershedref05_Right_lt) (lps_fn (lps_of (n := 1) (by kernel_rfl) fun i hi => match i, hi with | 0, _ => lp_ok (E := watershedref05_Right_e1) (by kernel_rfl) watershedref05_Right_e1_ok)) (fun d dh => by kernel_rfl)

def watershedref20_Goes_dr : Nat → DrA
  | _ => ⟨[], [], [], [], [], false, []⟩
noncomputable def watershedref20_Goes_tb : List (CE CT Tryz.prog) := []
noncomputable def watershedref20_Goes_lt : List (LE CT Tryz.prog) := []
noncomputable def watershedref20_Goes (x0 : Int) (x1 : Int) : Option ((Bool) × (Unit)) :=
  (bif (decide ((x0 : Int) = 1)) then
  (bif (decide ((x1 : Int) = (IntKind.u8.wrap (x0 + 1)))) then
  some (true, ())
  else
  some ((decide ((x1 : Int) = 7)), ()))
  else
  (bif (decide ((x0 : Int) = 2)) then
  (bif (decide ((x1 : Int) = (IntKind.u8.wrap (x0 + 1)))) then
  some (true, ())
  else
  some ((decide ((x1 : Int) = 7)), ()))
  else
  (bif (decide ((x0 : Int) = 3)) then
  (bif (decide ((x1 : Int) = (IntKind.u8.wrap (x0 + 1)))) then
  some (true, ())
  else
  some ((decide ((x1 : Int) = 7)), ()))
  else
  (bif (decide ((x0 : Int) = 4)) then
  some ((decide ((x1 : Int) = (IntKind.u8.wrap (x0 + 1)))), ())
  else
  (bif (decide ((x0 : Int) = 5)) then
  some ((decide ((x1 : Int) = (IntKind.u8.wrap (x0 + 1)))), ())
  else
  (bif (decide ((x0 : Int) = 7)) then
  some ((decide ((x1 : Int) = (IntKind.u8.wrap (x0 + 1)))), ())
  else
  (bif (decide ((x0 : Int) = 8)) then
  some ((decide ((x1 : Int) = (IntKind.u8.wrap (x0 + 1)))), ())
  else
  some (false, ()))))))))
noncomputable def watershedref20_Goes_ce : CE CT Tryz.prog where
  f := 19
  args := [.one (.int .u8), .one (.int .u8)]
  hs := []
  res := .val (.one (.bool))
  outs := []
  m := fun d dh => watershedref20_Goes d.1 d.2.1
  ok := ce_ok mixedP Tryz.func19 (by kernel_rfl) (orcOf_ok watershedref20_Goes_tb) (dr := watershedref20_Goes_dr) (lps := lpsOf watershedref20_Goes_lt) (lps_fn (no_loop (by kernel_rfl))) (fun d dh => by kernel_rfl)

def watershedref04_Within_dr : Nat → DrA
  | _ => ⟨[], [], [], [], [], false, []⟩
noncomputable def watershedref04_Within_tb : List (CE CT Tryz.prog) := [watershedref04_Right_ce]
noncomputable def watershedref04_Within_lt : List (LE CT Tryz.prog) := []
noncomputable def watershedref04_Within (x0 : DSpan) (x1 : DSpan) : Option ((Bool) × (Unit)) :=
  (watershedref04_Right x0).bind fun r1 =>
  (bif r1.1 then
  (watershedref04_Right x1).bind fun r2 =>
  (bif r2.1 then
  (bif (decide (x1.lo < x0.lo) || decide (x1.lo = x0.lo)) then
  (bif (decide (x1.hi = ([] : List UInt8))) then
  some (true, ())
  else
  (bif (decide (x0.hi ≠ ([] : List UInt8))) then
  some ((decide (x0.hi < x1.hi) || decide (x0.hi = x1.hi)), ())
  else
  some (false, ())))
  else
  some (false, ()))
  else
  some (false, ()))
  else
  some (false, ()))
noncomputable def watershedref04_Within_ce : CE CT Tryz.prog where
  f := 82
  args := [.cod 4, .cod 4]
  hs := []
  res := .val (.one (.bool))
  outs := []
  m := fun d dh => watershedref04_Within d.1 d.2.1
  ok := ce_ok mixedP Tryz.func82 (by kernel_rfl) (orcOf_ok watershedref04_Within_tb) (dr := watershedref04_Within_dr) (lps := lpsOf watershedref04_Within_lt) (lps_fn (no_loop (by kernel_rfl))) (fun d dh => by kernel_rfl)

def watershedref05_In_dr : Nat → DrA
  | 4 => ⟨[1, 3, 0, 2, 4, 5, 6, 7], [[], [], [1], [], [1, 2, 3], [1, 2, 3, 4], [1, 2, 3, 4, 5], [0, 1, 2, 3, 4, 5, 6]], [], [], [], false, []⟩
  | _ => ⟨[], [], [], [], [], false, []⟩
noncomputable def watershedref05_In_tb : List (CE CT Tryz.prog) := [watershedref05_Right_ce, watershedref04_Within_ce]
noncomputable def watershedref05_In_l1 (a : ((Unit) × (Unit) × (Unit) × (Int) × Unit) × ((DShares) × (DSpan) × (DShare) × Unit)) : Option ((((Unit) × (Unit) × (Unit) × (Int) × Unit) × ((DShares) × (DSpan) × (DShare) × Unit)) ⊕ ((((Unit) × (Bool) × Unit) × ((DShares) × (DSpan) × (DShare) × Unit)) ⊕ (((Unit) × Unit) × ((DShares) × (DSpan) × (DShare) × Unit)))) :=
  (bif (decide ((a.1.2.2.2.1 : Int) < (a.2.1.list.length : Int))) then
  (watershedref05_Right a.2.1).bind fun r1 =>
  (bif r1.1 then
  (getI a.2.1.list a.1.2.2.2.1).bind fun e2 =>
  (watershedref04_Within a.2.2.1 e2.span).bind fun r3 =>
  (bif r3.1 then
  (getI a.2.1.list a.1.2.2.2.1).bind fun e4 =>
  some (.inr (.inl (((), true, ()), (a.2.1, a.2.2.1, e4, ()))))
  else
  some (.inl (((), (), (), (IntKind.i64.wrap (a.1.2.2.2.1 + 1)), ()), (a.2.1, a.2.2.1, a.2.2.2.1, ()))))
  else
  some (.inr (.inr (((), ()), (a.2.1, a.2.2.1, a.2.2.2.1, ())))))
  else
  some (.inr (.inr (((), ()), (a.2.1, a.2.2.1, a.2.2.2.1, ())))))
noncomputable def watershedref05_In_e1 : LE CT Tryz.prog := ⟨2, [2, 3, 4, 6], [.one (.ptr 0 0), .one (.ptr 1 0), .one (.ptr 2 0), .one (.int .i64)], [.cobj 29 11, .cobj 23 4, .cobj 71 5], [⟨.ret, [4, 5], [.one (.ptr 2 0), .one (.bool)], [.cobj 29 11, .cobj 23 4, .cobj 71 5]⟩, ⟨.exit 0, [4], [.one (.ptr 2 0)], [.cobj 29 11, .cobj 23 4, .cobj 71 5]⟩], watershedref05_In_l1⟩
noncomputable def watershedref05_In_lt : List (LE CT Tryz.prog) := [watershedref05_In_e1]
theorem watershedref05_In_e1_ok : LeOk watershedref05_In_e1 (nthL (bodyOf Tryz.f43) 0) := fun A env h k z hk => le_ok (E := watershedref05_In_e1) (orcOf_ok watershedref05_In_tb) (dr := watershedref05_In_dr) (lps := lpsOf watershedref05_In_lt) (no_loop (by kernel_rfl)) (fun a => by kernel_rfl) env h k z hk
noncomputable def watershedref05_In (x0 : DShares) (x1 : DSpan) : Option (((DShare) × (Bool) × Unit) × (Unit)) :=
  (loopM watershedref05_In_l1 (((), (), (), 0, ()), (x0, x1, (⟨(⟨([] : List UInt8), ([] : List UInt8)⟩ : DSpan), 0, 0⟩ : DShare), ()))).bind fun b1 =>
  (match b1 with
  | .inl b2 =>
  some ((b2.2.2.2.1, b2.1.2.1, ()), ())
  | .inr b3 =>
  some (((⟨(⟨([] : List UInt8), ([] : List UInt8)⟩ : DSpan), 0, 0⟩ : DShare), false, ()), ()))
noncomputable def watershedref05_In_ce : CE CT Tryz.prog where
  f := 43
  args := [.cod 11, .cod 4]
  hs := []
  res := .tup [.cod 5, .one (.bool)]
  outs := []
  m := fun d dh => watershedref05_In d.1 d.2.1
  ok := ce_ok mixedP Tryz.func43 (by kernel_rfl) (orcOf_ok watershedref05_In_tb) (dr := watershedref05_In_dr) (lps := lpsOf watershedref05_In_lt) (lps_fn (lps_of (n := 1) (by kernel_rfl) fun i hi => match i, hi with | 0, _ => lp_ok (E := watershedref05_In_e1) (by kernel_rfl) watershedref05_In_e1_ok)) (fun d dh => by kernel_rfl)

def watershedref04_Has_dr : Nat → DrA
  | _ => ⟨[], [], [], [], [], false, []⟩
noncomputable def watershedref04_Has_tb : List (CE CT Tryz.prog) := [watershedref04_Right_ce, watershedref04_Key_ce]
noncomputable def watershedref04_Has_lt : List (LE CT Tryz.prog) := []
noncomputable def watershedref04_Has (x0 : DSpan) (x1 : List UInt8) : Option ((Bool) × (Unit)) :=
  (watershedref04_Right x0).bind fun r1 =>
  (bif r1.1 then
  (watershedref04_Key x1).bind fun r2 =>
  (bif r2.1 then
  (bif (decide (x0.lo < x1) || decide (x0.lo = x1)) then
  (bif (decide (x0.hi = ([] : List UInt8))) then
  some (true, ())
  else
  some ((decide (x1 < x0.hi)), ()))
  else
  some (false, ()))
  else
  some (false, ()))
  else
  some (false, ()))
noncomputable def watershedref04_Has_ce : CE CT Tryz.prog where
  f := 115
  args := [.cod 4, .one (.str)]
  hs := []
  res := .val (.one (.bool))
  outs := []
  m := fun d dh => watershedref04_Has d.1 d.2.1
  ok := ce_ok mixedP Tryz.func115 (by kernel_rfl) (orcOf_ok watershedref04_Has_tb) (dr := watershedref04_Has_dr) (lps := lpsOf watershedref04_Has_lt) (lps_fn (no_loop (by kernel_rfl))) (fun d dh => by kernel_rfl)

def watershedref04_Cut_dr : Nat → DrA
  | 3 => ⟨[], [], [], [], [], true, []⟩
  | 11 => ⟨[1, 2, 3, 0, 4, 5, 6, 7, 8, 9, 10, 12, 11, 13, 14, 15], [[], [], [], [1, 2], [1, 2, 3], [0, 1, 2, 3, 4], [0, 1, 2, 3, 4, 5], [0, 1, 2, 3, 4, 5, 6], [0, 1, 2, 3, 4, 5, 6, 7], [0, 1, 2, 3, 4, 5, 6, 7], [0, 1, 2, 3, 4, 5, 6, 7, 8, 9], [0, 1, 2, 3, 4, 5, 6, 7, 8, 9, 10], [0, 1, 2, 3, 4, 5, 6, 7], [0, 1, 2, 3, 4, 5, 6, 7, 12], [0, 1, 2, 3, 4, 5, 6, 7, 8, 9, 10, 11, 12, 13], [0, 1, 2, 3, 4, 5, 6, 7, 8, 9, 10, 11, 12, 13, 14]], [], [], [], false, []⟩
  | 12 => ⟨[], [], [], [], [], true, []⟩
  | 13 => ⟨[0, 1, 2, 3, 5, 6, 7, 10, 11, 12, 14, 19, 4, 8, 9, 13, 15, 16, 17, 18, 20, 21], [[], [], [0, 1], [], [3], [], [], [5, 6], [5, 6, 7], [3, 4, 5, 6, 7, 8], [], [], [10, 11], [10, 11, 12], [], [14], [10, 11, 12, 13, 14, 15], [3, 4, 5, 6, 7, 8, 9, 10, 11, 12, 13, 14, 15, 16], [0, 1, 2, 3, 4, 5, 6, 7, 8, 9, 10, 11, 12, 13, 14, 15, 16, 17], [], [0, 1, 2, 3, 4, 5, 6, 7, 8, 9, 10, 11, 12, 13, 14, 15, 16, 17, 18, 19], [0, 1, 2, 3, 4, 5, 6, 7, 8, 9, 10, 11, 12, 13, 14, 15, 16, 17, 18, 19, 20]], [], [], [], false, []⟩
  | _ => ⟨[], [], [], [], [], false, []⟩
noncomputable def watershedref04_Cut_tb : List (CE CT Tryz.prog) := [watershedref04_Right_ce, watershedref04_Has_ce]
noncomputable def watershedref04_Cut_l2 (a : ((List (List UInt8)) × (Nat) × (Int) × (Int) × Unit) × ((List (DSpan)) × Unit)) : Option ((((List (List UInt8)) × (Nat) × (Int) × (Int) × Unit) × ((List (DSpan)) × Unit)) ⊕ ((((List (List UInt8)) × (Nat) × (Int) × Unit) × ((Unit) × (List (DSpan)) × Unit)))) :=
  (bif (decide ((a.1.2.2.2.1 : Int) < ((a.1.2.1 : Nat) : Int))) then
  (if 0 ≤ (a.1.2.2.2.1 : Int) ∧ (a.1.2.2.2.1 : Int) < ((a.1.2.1 : Nat) : Int) then
  (a.2.1[(0 + (a.1.2.2.2.1 : Int).toNat)]?).bind fun e1 =>
  (getI a.1.1 a.1.2.2.1).bind fun e2 =>
  (watershedref04_Has e1 e2).bind fun r3 =>
  (bif (!r3.1) then
  some (.inl ((a.1.1, a.1.2.1, a.1.2.2.1, (IntKind.i64.wrap (a.1.2.2.2.1 + 1)), ()), (a.2.1, ())))
  else
  (getI a.1.1 a.1.2.2.1).bind fun e4 =>
  (bif (decide (e4 = e1.lo)) then
  some (.inl ((a.1.1, a.1.2.1, a.1.2.2.1, (IntKind.i64.wrap (a.1.2.2.2.1 + 1)), ()), (a.2.1, ())))
  else
  (if 0 ≤ (((IntKind.i64.wrap (a.1.2.2.2.1 + 1)) : Int) : Int) ∧ (((IntKind.i64.wrap (a.1.2.2.2.1 + 1)) : Int) : Int) ≤ ((a.1.2.1 : Nat) : Int) ∧ ((a.1.2.1 : Nat) : Int) ≤ ((a.1.2.1 : Nat) : Int) ∧ ((a.1.2.1 : Nat) : Int) ≤ 140737488355328 then
  (if (0 + ((IntKind.i64.wrap (a.1.2.2.2.1 + 1)) : Int).toNat) + (((a.1.2.1 : Nat) : Int).toNat - ((IntKind.i64.wrap (a.1.2.2.2.1 + 1)) : Int).toNat) ≤ a.2.1.length then
  let y5 : List (DSpan) := ((a.2.1.drop (0 + ((IntKind.i64.wrap (a.1.2.2.2.1 + 1)) : Int).toNat)).take (((a.1.2.1 : Nat) : Int).toNat - ((IntKind.i64.wrap (a.1.2.2.2.1 + 1)) : Int).toNat))
  (if (0 + y5.length) ≤ 140737488355328 ∧ (0 + y5.length) * 32 ≤ 140737488355328 ∧ 0 + 0 ≤ ([] : List (DSpan)).length then
  (if (0 + y5.length) ≤ 0 then
  let y6 : List (DSpan) := (([] : List (DSpan)).take (0 + 0) ++ y5 ++ ([] : List (DSpan)).drop (0 + 0 + y5.length))
  (if 0 ≤ ((0 : Int) : Int) ∧ ((0 : Int) : Int) ≤ (a.1.2.2.2.1 : Int) ∧ (a.1.2.2.2.1 : Int) ≤ ((a.1.2.1 : Nat) : Int) ∧ (a.1.2.2.2.1 : Int) ≤ 140737488355328 then
  (getI a.1.1 a.1.2.2.1).bind fun e7 =>
  (getI a.1.1 a.1.2.2.1).bind fun e8 =>
  (if (((a.1.2.2.2.1 : Int).toNat - (0 : Int).toNat) + ([(⟨e1.lo, e7⟩ : DSpan), (⟨e8, e1.hi⟩ : DSpan)] : List (DSpan)).length) ≤ 140737488355328 ∧ (((a.1.2.2.2.1 : Int).toNat - (0 : Int).toNat) + ([(⟨e1.lo, e7⟩ : DSpan), (⟨e8, e1.hi⟩ : DSpan)] : List (DSpan)).length) * 32 ≤ 140737488355328 ∧ 0 + ((a.1.2.2.2.1 : Int).toNat - (0 : Int).toNat) ≤ a.2.1.length then
  let y9 : List (DSpan) := (a.2.1.take ((a.1.2.2.2.1 : Int).toNat - (0 : Int).toNat) ++ ([(⟨e1.lo, e7⟩ : DSpan), (⟨e8, e1.hi⟩ : DSpan)] : List (DSpan)))
  (if 0 + (0 + y5.length) ≤ y6.length then
  (if ((((a.1.2.2.2.1 : Int).toNat - (0 : Int).toNat) + ([(⟨e1.lo, e7⟩ : DSpan), (⟨e8, e1.hi⟩ : DSpan)] : List (DSpan)).length) + ((y6.drop 0).take (0 + y5.length)).length) ≤ 140737488355328 ∧ ((((a.1.2.2.2.1 : Int).toNat - (0 : Int).toNat) + ([(⟨e1.lo, e7⟩ : DSpan), (⟨e8, e1.hi⟩ : DSpan)] : List (DSpan)).length) + ((y6.drop 0).take (0 + y5.length)).length) * 32 ≤ 140737488355328 ∧ 0 + (((a.1.2.2.2.1 : Int).toNat - (0 : Int).toNat) + ([(⟨e1.lo, e7⟩ : DSpan), (⟨e8, e1.hi⟩ : DSpan)] : List (DSpan)).length) ≤ y9.length then
  let y10 : List (DSpan) := (y9.take (((a.1.2.2.2.1 : Int).toNat - (0 : Int).toNat) + ([(⟨e1.lo, e7⟩ : DSpan), (⟨e8, e1.hi⟩ : DSpan)] : List (DSpan)).length) ++ ((y6.drop 0).take (0 + y5.length)))
  some (.inr ((a.1.1, ((((a.1.2.2.2.1 : Int).toNat - (0 : Int).toNat) + ([(⟨e1.lo, e7⟩ : DSpan), (⟨e8, e1.hi⟩ : DSpan)] : List (DSpan)).length) + ((y6.drop 0).take (0 + y5.length)).length), a.1.2.2.1, ()), ((), y10, ())))
  else none)
  else none)
  else none)
  else none)
  else
  (if 0 ≤ ((0 : Int) : Int) ∧ ((0 : Int) : Int) ≤ (a.1.2.2.2.1 : Int) ∧ (a.1.2.2.2.1 : Int) ≤ ((a.1.2.1 : Nat) : Int) ∧ (a.1.2.2.2.1 : Int) ≤ 140737488355328 then
  (getI a.1.1 a.1.2.2.1).bind fun e11 =>
  (getI a.1.1 a.1.2.2.1).bind fun e12 =>
  (if (((a.1.2.2.2.1 : Int).toNat - (0 : Int).toNat) + ([(⟨e1.lo, e11⟩ : DSpan), (⟨e12, e1.hi⟩ : DSpan)] : List (DSpan)).length) ≤ 140737488355328 ∧ (((a.1.2.2.2.1 : Int).toNat - (0 : Int).toNat) + ([(⟨e1.lo, e11⟩ : DSpan), (⟨e12, e1.hi⟩ : DSpan)] : List (DSpan)).length) * 32 ≤ 140737488355328 ∧ 0 + ((a.1.2.2.2.1 : Int).toNat - (0 : Int).toNat) ≤ a.2.1.length then
  let y13 : List (DSpan) := (a.2.1.take ((a.1.2.2.2.1 : Int).toNat - (0 : Int).toNat) ++ ([(⟨e1.lo, e11⟩ : DSpan), (⟨e12, e1.hi⟩ : DSpan)] : List (DSpan)))
  (if 0 + (0 + y5.length) ≤ ((([] : List (DSpan)).drop 0).take 0 ++ y5).length then
  let y14 : List (DSpan) := ((((([] : List (DSpan)).drop 0).take 0 ++ y5).drop 0).take (0 + y5.length))
  (if ((((a.1.2.2.2.1 : Int).toNat - (0 : Int).toNat) + ([(⟨e1.lo, e11⟩ : DSpan), (⟨e12, e1.hi⟩ : DSpan)] : List (DSpan)).length) + y14.length) ≤ 140737488355328 ∧ ((((a.1.2.2.2.1 : Int).toNat - (0 : Int).toNat) + ([(⟨e1.lo, e11⟩ : DSpan), (⟨e12, e1.hi⟩ : DSpan)] : List (DSpan)).length) + y14.length) * 32 ≤ 140737488355328 ∧ 0 + (((a.1.2.2.2.1 : Int).toNat - (0 : Int).toNat) + ([(⟨e1.lo, e11⟩ : DSpan), (⟨e12, e1.hi⟩ : DSpan)] : List (DSpan)).length) ≤ y13.length then
  let y15 : List (DSpan) := (y13.take (((a.1.2.2.2.1 : Int).toNat - (0 : Int).toNat) + ([(⟨e1.lo, e11⟩ : DSpan), (⟨e12, e1.hi⟩ : DSpan)] : List (DSpan)).length) ++ y14)
  some (.inr ((a.1.1, ((((a.1.2.2.2.1 : Int).toNat - (0 : Int).toNat) + ([(⟨e1.lo, e11⟩ : DSpan), (⟨e12, e1.hi⟩ : DSpan)] : List (DSpan)).length) + y14.length), a.1.2.2.1, ()), ((), y15, ())))
  else none)
  else none)
  else none)
  else none))
  else none)
  else none)
  else none)))
  else none)
  else
  some (.inr ((a.1.1, a.1.2.1, a.1.2.2.1, ()), ((), a.2.1, ()))))
noncomputable def watershedref04_Cut_e2 : LE CT Tryz.prog := ⟨8, [1, 5, 6, 7], [.one (.sl 2), .one (.asz 4 0), .one (.int .i64), .one (.int .i64)], [.arr 23 4 false], [⟨.exit 2, [1, 5, 6], [.one (.sl 2), .one (.asz 4 1), .one (.int .i64)], [.dead, .arr 23 4 false]⟩], watershedref04_Cut_l2⟩
noncomputable def watershedref04_Cut_l1 (a : ((List (List UInt8)) × (Nat) × (Int) × Unit) × ((List (DSpan)) × Unit)) : Option ((((List (List UInt8)) × (Nat) × (Int) × Unit) × ((List (DSpan)) × Unit)) ⊕ ((((Nat) × Unit) × ((Unit) × (List (DSpan)) × Unit)))) :=
  (bif (decide ((a.1.2.2.1 : Int) < (a.1.1.length : Int))) then
  (loopM watershedref04_Cut_l2 ((a.1.1, a.1.2.1, a.1.2.2.1, 0, ()), (a.2.1, ()))).bind fun b1 =>
  some (.inl ((b1.1.1, b1.1.2.1, (IntKind.i64.wrap (b1.1.2.2.1 + 1)), ()), (b1.2.2.1, ())))
  else
  some (.inr ((a.1.2.1, ()), ((), a.2.1, ()))))
noncomputable def watershedref04_Cut_e1 : LE CT Tryz.prog := ⟨5, [1, 5, 6], [.one (.sl 2), .one (.asz 4 0), .one (.int .i64)], [.arr 23 4 false], [⟨.exit 0, [5], [.one (.asz 4 1)], [.dead, .arr 23 4 false]⟩], watershedref04_Cut_l1⟩
noncomputable def watershedref04_Cut_lt : List (LE CT Tryz.prog) := [watershedref04_Cut_e2, watershedref04_Cut_e1]
theorem watershedref04_Cut_e2_ok : LeOk watershedref04_Cut_e2 (nthL (nthL (bodyOf Tryz.f81) 0) 0) := fun A env h k z hk => le_ok (E := watershedref04_Cut_e2) (orcOf_ok watershedref04_Cut_tb) (dr := watershedref04_Cut_dr) (lps := lpsOf watershedref04_Cut_lt) (no_loop (by kernel_rfl)) (fun a => by kernel_rfl) env h k z hk
theorem watershedref04_Cut_e1_ok : LeOk watershedref04_Cut_e1 (nthL (bodyOf Tryz.f81) 0) := fun A env h k z hk => le_ok (E := watershedref04_Cut_e1) (orcOf_ok watershedref04_Cut_tb) (dr := watershedref04_Cut_dr) (lps := lpsOf watershedref04_Cut_lt) (lps_of (n := 1) (by kernel_rfl) fun i hi => match i, hi with | 0, _ => lp_ok (E := watershedref04_Cut_e2) (by kernel_rfl) watershedref04_Cut_e2_ok) (fun a => by kernel_rfl) env h k z hk
noncomputable def watershedref04_Cut (x0 : DSpan) (x1 : List (List UInt8)) : Option ((Nat) × ((List (DSpan)) × Unit)) :=
  (watershedref04_Right x0).bind fun r1 =>
  (bif (!r1.1) then
  some (0, ([], ()))
  else
  (loopM watershedref04_Cut_l1 ((x1, 1, 0, ()), (([x0] : List (DSpan)), ()))).bind fun b2 =>
  some (b2.1.1, (b2.2.2.1, ())))
noncomputable def watershedref04_Cut_ce : CE CT Tryz.prog where
  f := 81
  args := [.cod 4, .one (.sl 2)]
  hs := []
  res := .val (.one (.asz 4 0))
  outs := [.arr 23 4 false]
  m := fun d dh => watershedref04_Cut d.1 d.2.1
  ok := ce_ok mixedP Tryz.func81 (by kernel_rfl) (orcOf_ok watershedref04_Cut_tb) (dr := watershedref04_Cut_dr) (lps := lpsOf watershedref04_Cut_lt) (lps_fn (lps_of (n := 1) (by kernel_rfl) fun i hi => match i, hi with | 0, _ => lp_ok (E := watershedref04_Cut_e1) (by kernel_rfl) watershedref04_Cut_e1_ok)) (fun d dh => by kernel_rfl)

def watershedref05_Turn_dr : Nat → DrA
  | 24 => ⟨[0, 1, 2, 4, 6, 3, 5, 7, 8, 9, 10], [[], [], [0, 1], [0, 1, 2], [], [4], [], [6], [0, 1, 2, 3, 4, 5, 6, 7], [], [0, 1, 2, 3, 4, 5, 6, 7, 8, 9]], [], [], [], false, []⟩
  | 25 => ⟨[0, 1, 2, 3, 4, 5], [[], [], [0, 1], [0, 1, 2], [], [0, 1, 2, 3, 4]], [], [], [], false, []⟩
  | _ => ⟨[], [], [], [], [], false, []⟩
noncomputable def watershedref05_Turn_tb : List (CE CT Tryz.prog) := [watershedref05_Right_ce, watershedref04_Right_ce, watershedref05_In_ce, watershedref04_Cut_ce]
noncomputable def watershedref05_Turn_l2 (a : ((Int) × (Unit) × (Unit) × (Unit) × (Unit) × (Unit) × (Int) × (Unit) × (Nat) × (Int) × Unit) × ((DShares) × (DSpan) × ((Int) × (List (DShare)) × Unit) × (DShare) × ((Int) × (List (DShare)) × Unit) × (DShare) × (List (DSpan)) × (Unit) × (Unit) × Unit)) : Option ((((Int) × (Unit) × (Unit) × (Unit) × (Unit) × (Unit) × (Int) × (Unit) × (Nat) × (Int) × Unit) × ((DShares) × (DSpan) × ((Int) × (List (DShare)) × Unit) × (DShare) × ((Int) × (List (DShare)) × Unit) × (DShare) × (List (DSpan)) × (Unit) × (Unit) × Unit)) ⊕ ((((Int) × (Unit) × (Unit) × (Unit) × (Unit) × (Unit) × (Int) × Unit) × ((DShares) × (DSpan) × ((Int) × (List (DShare)) × Unit) × (DShare) × ((Int) × (List (DShare)) × Unit) × (DShare) × (Unit) × (Unit) × (Unit) × (Unit) × (Unit) × Unit)))) :=
  (bif (decide ((a.1.2.2.2.2.2.2.2.2.2.1 : Int) < ((a.1.2.2.2.2.2.2.2.2.1 : Nat) : Int))) then
  (if 0 ≤ (a.1.2.2.2.2.2.2.2.2.2.1 : Int) ∧ (a.1.2.2.2.2.2.2.2.2.2.1 : Int) < ((a.1.2.2.2.2.2.2.2.2.1 : Nat) : Int) then
  (a.2.2.2.2.2.2.2.1[(0 + (a.1.2.2.2.2.2.2.2.2.2.1 : Int).toNat)]?).bind fun e1 =>
  (if 0 ≤ (a.1.2.2.2.2.2.2.2.2.2.1 : Int) ∧ (a.1.2.2.2.2.2.2.2.2.2.1 : Int) < ((a.1.2.2.2.2.2.2.2.2.1 : Nat) : Int) then
  (a.2.2.2.2.2.2.2.1[(0 + (a.1.2.2.2.2.2.2.2.2.2.1 : Int).toNat)]?).bind fun e2 =>
  (bif (decide (e2.lo = a.2.2.1.lo) && (decide (e2.hi = a.2.2.1.hi) && true)) then
  (if a.2.2.2.2.2.1.2.1.length + ([(⟨e1, a.1.1, a.2.2.2.2.2.1.1⟩ : DShare)] : List (DShare)).length ≤ 140737488355328 ∧ (a.2.2.2.2.2.1.2.1.length + ([(⟨e1, a.1.1, a.2.2.2.2.2.1.1⟩ : DShare)] : List (DShare)).length) * 48 ≤ 140737488355328 then
  let y3 : List (DShare) := (a.2.2.2.2.2.1.2.1 ++ ([(⟨e1, a.1.1, a.2.2.2.2.2.1.1⟩ : DShare)] : List (DShare)))
  some (.inl ((a.1.1, (), (), (), (), (), a.1.2.2.2.2.2.2.1, (), a.1.2.2.2.2.2.2.2.2.1, (IntKind.i64.wrap (a.1.2.2.2.2.2.2.2.2.2.1 + 1)), ()), (a.2.1, a.2.2.1, (a.2.2.2.1.1, a.2.2.2.1.2.1, ()), a.2.2.2.2.1, (a.2.2.2.2.2.1.1, y3, ()), a.2.2.2.2.2.2.1, a.2.2.2.2.2.2.2.1, (), (), ())))
  else none)
  else
  (if a.2.2.2.2.2.1.2.1.length + ([(⟨e1, a.2.2.2.2.2.2.1.group, a.2.2.2.2.2.2.1.epoch⟩ : DShare)] : List (DShare)).length ≤ 140737488355328 ∧ (a.2.2.2.2.2.1.2.1.length + ([(⟨e1, a.2.2.2.2.2.2.1.group, a.2.2.2.2.2.2.1.epoch⟩ : DShare)] : List (DShare)).length) * 48 ≤ 140737488355328 then
  let y4 : List (DShare) := (a.2.2.2.2.2.1.2.1 ++ ([(⟨e1, a.2.2.2.2.2.2.1.group, a.2.2.2.2.2.2.1.epoch⟩ : DShare)] : List (DShare)))
  some (.inl ((a.1.1, (), (), (), (), (), a.1.2.2.2.2.2.2.1, (), a.1.2.2.2.2.2.2.2.2.1, (IntKind.i64.wrap (a.1.2.2.2.2.2.2.2.2.2.1 + 1)), ()), (a.2.1, a.2.2.1, (a.2.2.2.1.1, a.2.2.2.1.2.1, ()), a.2.2.2.2.1, (a.2.2.2.2.2.1.1, y4, ()), a.2.2.2.2.2.2.1, a.2.2.2.2.2.2.2.1, (), (), ())))
  else none))
  else none)
  else none)
  else
  some (.inr ((a.1.1, (), (), (), (), (), a.1.2.2.2.2.2.2.1, ()), (a.2.1, a.2.2.1, (a.2.2.2.1.1, a.2.2.2.1.2.1, ()), a.2.2.2.2.1, (a.2.2.2.2.2.1.1, a.2.2.2.2.2.1.2.1, ()), a.2.2.2.2.2.2.1, (), (), (), (), (), ()))))
noncomputable def watershedref05_Turn_e2 : LE CT Tryz.prog := ⟨22, [2, 3, 4, 6, 8, 10, 11, 12, 14, 15], [.one (.int .i64), .one (.ptr 0 0), .one (.ptr 1 0), .one (.ptr 2 0), .one (.ptr 3 0), .one (.ptr 4 0), .one (.int .i64), .one (.ptr 5 0), .one (.asz 4 6), .one (.int .i64)], [.cobj 29 11, .cobj 23 4, .obj 29 [.int .i64, .own 5 7], .cobj 71 5, .obj 29 [.int .i64, .own 5 8], .cobj 71 5, .arr 23 4 false, .row 71 4, .row 71 4], [⟨.exit 2, [2, 3, 4, 6, 8, 10, 11], [.one (.int .i64), .one (.ptr 0 0), .one (.ptr 1 0), .one (.ptr 2 0), .one (.ptr 3 0), .one (.ptr 4 0), .one (.int .i64)], [.cobj 29 11, .cobj 23 4, .obj 29 [.int .i64, .own 5 9], .cobj 71 5, .obj 29 [.int .i64, .own 5 10], .cobj 71 5, .dead, .dead, .dead, .row 71 4, .row 71 4]⟩], watershedref05_Turn_l2⟩
noncomputable def watershedref05_Turn_l1 (a : ((Int) × (Unit) × (Unit) × (Unit) × (Unit) × (Unit) × (Int) × Unit) × ((DShares) × (DSpan) × ((Int) × (List (DShare)) × Unit) × (DShare) × ((Int) × (List (DShare)) × Unit) × (Unit) × (Unit) × Unit)) : Option ((((Int) × (Unit) × (Unit) × (Unit) × (Unit) × (Unit) × (Int) × Unit) × ((DShares) × (DSpan) × ((Int) × (List (DShare)) × Unit) × (DShare) × ((Int) × (List (DShare)) × Unit) × (Unit) × (Unit) × Unit)) ⊕ ((((Unit) × (Unit) × (Unit) × Unit) × ((DShares) × (DSpan) × ((Int) × (List (DShare)) × Unit) × (DShare) × ((Int) × (List (DShare)) × Unit) × (Unit) × (Unit) × (Unit) × (Unit) × Unit)))) :=
  (bif (decide ((a.1.2.2.2.2.2.2.1 : Int) < (a.2.1.list.length : Int))) then
  (getI a.2.1.list a.1.2.2.2.2.2.2.1).bind fun e1 =>
  (bif (!(decide (e1.span.lo = a.2.2.2.2.1.span.lo) && (decide (e1.span.hi = a.2.2.2.2.1.span.hi) && (decide ((e1.group : Int) = a.2.2.2.2.1.group) && (decide ((e1.epoch : Int) = a.2.2.2.2.1.epoch) && true))))) then
  (if a.2.2.2.2.2.1.2.1.length + ([e1] : List (DShare)).length ≤ 140737488355328 ∧ (a.2.2.2.2.2.1.2.1.length + ([e1] : List (DShare)).length) * 48 ≤ 140737488355328 then
  some (.inl ((a.1.1, (), (), (), (), (), (IntKind.i64.wrap (a.1.2.2.2.2.2.2.1 + 1)), ()), (a.2.1, a.2.2.1, (a.2.2.2.1.1, a.2.2.2.1.2.1, ()), a.2.2.2.2.1, (a.2.2.2.2.2.1.1, (a.2.2.2.2.2.1.2.1 ++ ([e1] : List (DShare))), ()), (), (), ())))
  else none)
  else
  (bif (decide (a.2.2.1.lo ≠ ([] : List UInt8))) then
  (if ([a.2.2.1.lo] : List (List UInt8)).length ≤ 140737488355328 ∧ ([a.2.2.1.lo] : List (List UInt8)).length * 16 ≤ 140737488355328 then
  (bif (decide (a.2.2.1.hi ≠ ([] : List UInt8))) then
  (if ([a.2.2.1.lo] : List (List UInt8)).length + ([a.2.2.1.hi] : List (List UInt8)).length ≤ 140737488355328 ∧ (([a.2.2.1.lo] : List (List UInt8)).length + ([a.2.2.1.hi] : List (List UInt8)).length) * 16 ≤ 140737488355328 then
  let y2 : List (List UInt8) := (([a.2.2.1.lo] : List (List UInt8)) ++ ([a.2.2.1.hi] : List (List UInt8)))
  (watershedref04_Cut e1.span y2).bind fun r3 =>
  (loopM watershedref05_Turn_l2 ((a.1.1, (), (), (), (), (), a.1.2.2.2.2.2.2.1, (), r3.1, 0, ()), (a.2.1, a.2.2.1, (a.2.2.2.1.1, a.2.2.2.1.2.1, ()), a.2.2.2.2.1, (a.2.2.2.2.2.1.1, a.2.2.2.2.2.1.2.1, ()), (⟨e1.span, e1.group, e1.epoch⟩ : DShare), r3.2.1, (), (), ()))).bind fun b4 =>
  some (.inl ((b4.1.1, (), (), (), (), (), (IntKind.i64.wrap (b4.1.2.2.2.2.2.2.1 + 1)), ()), (b4.2.1, b4.2.2.1, (b4.2.2.2.1.1, b4.2.2.2.1.2.1, ()), b4.2.2.2.2.1, (b4.2.2.2.2.2.1.1, b4.2.2.2.2.2.1.2.1, ()), (), (), ())))
  else none)
  else
  (watershedref04_Cut e1.span ([a.2.2.1.lo] : List (List UInt8))).bind fun r5 =>
  (loopM watershedref05_Turn_l2 ((a.1.1, (), (), (), (), (), a.1.2.2.2.2.2.2.1, (), r5.1, 0, ()), (a.2.1, a.2.2.1, (a.2.2.2.1.1, a.2.2.2.1.2.1, ()), a.2.2.2.2.1, (a.2.2.2.2.2.1.1, a.2.2.2.2.2.1.2.1, ()), (⟨e1.span, e1.group, e1.epoch⟩ : DShare), r5.2.1, (), (), ()))).bind fun b6 =>
  some (.inl ((b6.1.1, (), (), (), (), (), (IntKind.i64.wrap (b6.1.2.2.2.2.2.2.1 + 1)), ()), (b6.2.1, b6.2.2.1, (b6.2.2.2.1.1, b6.2.2.2.1.2.1, ()), b6.2.2.2.2.1, (b6.2.2.2.2.2.1.1, b6.2.2.2.2.2.1.2.1, ()), (), (), ()))))
  else none)
  else
  (bif (decide (a.2.2.1.hi ≠ ([] : List UInt8))) then
  (if ([a.2.2.1.hi] : List (List UInt8)).length ≤ 140737488355328 ∧ ([a.2.2.1.hi] : List (List UInt8)).length * 16 ≤ 140737488355328 then
  (watershedref04_Cut e1.span ([a.2.2.1.hi] : List (List UInt8))).bind fun r7 =>
  (loopM watershedref05_Turn_l2 ((a.1.1, (), (), (), (), (), a.1.2.2.2.2.2.2.1, (), r7.1, 0, ()), (a.2.1, a.2.2.1, (a.2.2.2.1.1, a.2.2.2.1.2.1, ()), a.2.2.2.2.1, (a.2.2.2.2.2.1.1, a.2.2.2.2.2.1.2.1, ()), (⟨e1.span, e1.group, e1.epoch⟩ : DShare), r7.2.1, (), (), ()))).bind fun b9 =>
  some (.inl ((b9.1.1, (), (), (), (), (), (IntKind.i64.wrap (b9.1.2.2.2.2.2.2.1 + 1)), ()), (b9.2.1, b9.2.2.1, (b9.2.2.2.1.1, b9.2.2.2.1.2.1, ()), b9.2.2.2.2.1, (b9.2.2.2.2.2.1.1, b9.2.2.2.2.2.1.2.1, ()), (), (), ())))
  else none)
  else
  (watershedref04_Cut e1.span []).bind fun r10 =>
  (loopM watershedref05_Turn_l2 ((a.1.1, (), (), (), (), (), a.1.2.2.2.2.2.2.1, (), r10.1, 0, ()), (a.2.1, a.2.2.1, (a.2.2.2.1.1, a.2.2.2.1.2.1, ()), a.2.2.2.2.1, (a.2.2.2.2.2.1.1, a.2.2.2.2.2.1.2.1, ()), (⟨e1.span, e1.group, e1.epoch⟩ : DShare), r10.2.1, (), (), ()))).bind fun b11 =>
  some (.inl ((b11.1.1, (), (), (), (), (), (IntKind.i64.wrap (b11.1.2.2.2.2.2.2.1 + 1)), ()), (b11.2.1, b11.2.2.1, (b11.2.2.2.1.1, b11.2.2.2.1.2.1, ()), b11.2.2.2.2.1, (b11.2.2.2.2.2.1.1, b11.2.2.2.2.2.1.2.1, ()), (), (), ()))))))
  else
  some (.inr (((), (), (), ()), (a.2.1, a.2.2.1, (a.2.2.2.1.1, a.2.2.2.1.2.1, ()), a.2.2.2.2.1, (a.2.2.2.2.2.1.1, a.2.2.2.2.2.1.2.1, ()), (), (), (), (), ()))))
noncomputable def watershedref05_Turn_e1 : LE CT Tryz.prog := ⟨10, [2, 3, 4, 6, 8, 10, 11], [.one (.int .i64), .one (.ptr 0 0), .one (.ptr 1 0), .one (.ptr 2 0), .one (.ptr 3 0), .one (.ptr 4 0), .one (.int .i64)], [.cobj 29 11, .cobj 23 4, .obj 29 [.int .i64, .own 5 5], .cobj 71 5, .obj 29 [.int .i64, .own 5 6], .row 71 4, .row 71 4], [⟨.exit 0, [3, 6, 10], [.one (.ptr 0 0), .one (.ptr 2 0), .one (.ptr 4 0)], [.cobj 29 11, .cobj 23 4, .obj 29 [.int .i64, .own 5 7], .cobj 71 5, .obj 29 [.int .i64, .own 5 8], .dead, .dead, .row 71 4, .row 71 4]⟩], watershedref05_Turn_l1⟩
noncomputable def watershedref05_Turn_lt : List (LE CT Tryz.prog) := [watershedref05_Turn_e2, watershedref05_Turn_e1]
theorem watershedref05_Turn_e2_ok : LeOk watershedref05_Turn_e2 (nthL (nthL (bodyOf Tryz.f42) 0) 0) := fun A env h k z hk => le_ok (E := watershedref05_Turn_e2) (orcOf_ok watershedref05_Turn_tb) (dr := watershedref05_Turn_dr) (lps := lpsOf watershedref05_Turn_lt) (no_loop (by kernel_rfl)) (fun a => by kernel_rfl) env h k z hk
theorem watershedref05_Turn_e1_ok : LeOk watershedref05_Turn_e1 (nthL (bodyOf Tryz.f42) 0) := fun A env h k z hk => le_ok (E := watershedref05_Turn_e1) (orcOf_ok watershedref05_Turn_tb) (dr := watershedref05_Turn_dr) (lps := lpsOf watershedref05_Turn_lt) (lps_of (n := 1) (by kernel_rfl) fun i hi => match i, hi with | 0, _ => lp_ok (E := watershedref05_Turn_e2) (by kernel_rfl) watershedref05_Turn_e2_ok) (fun a => by kernel_rfl) env h k z hk
noncomputable def watershedref05_Turn (x0 : DShares) (x1 : DSpan) (x2 : Int) : Option (((DShares) × (Int) × Unit) × (Unit)) :=
  (watershedref05_Right x0).bind fun r1 =>
  (bif (!r1.1) then
  some (((⟨0, []⟩ : DShares), 2, ()), ())
  else
  (watershedref04_Right x1).bind fun r2 =>
  (bif (!r2.1) then
  some (((⟨0, []⟩ : DShares), 2, ()), ())
  else
  (bif (decide ((x2 : Int) < 1)) then
  some (((⟨0, []⟩ : DShares), 2, ()), ())
  else
  (bif (decide ((4 : Int) < x2)) then
  some (((⟨0, []⟩ : DShares), 2, ()), ())
  else
  (watershedref05_In x0 x1).bind fun r3 =>
  (bif (!r3.1.2.1) then
  some (((⟨0, []⟩ : DShares), 6, ()), ())
  else
  (bif (decide ((r3.1.1.group : Int) = x2)) then
  some (((⟨0, []⟩ : DShares), 7, ()), ())
  else
  (loopM watershedref05_Turn_l1 ((x2, (), (), (), (), (), 0, ()), (x0, x1, (0, [], ()), r3.1.1, ((IntKind.i64.wrap (x0.epoch + 1)), [], ()), (), (), ()))).bind fun b4 =>
  (bif (decide ((b4.2.1.epoch : Int) = 1073741824)) then
  some (((⟨0, []⟩ : DShares), 8, ()), ())
  else
  (bif (decide ((40 : Int) < (b4.2.2.2.2.2.1.2.1.length : Int))) then
  some (((⟨0, []⟩ : DShares), 8, ()), ())
  else
  some (((⟨b4.2.2.2.2.2.1.1, b4.2.2.2.2.2.1.2.1⟩ : DShares), 0, ()), ())))))))))
noncomputable def watershedref05_Turn_ce : CE CT Tryz.prog where
  f := 42
  args := [.cod 11, .cod 4, .one (.int .i64)]
  hs := []
  res := .tup [.cod 11, .one (.int .i64)]
  outs := []
  m := fun d dh => watershedref05_Turn d.1 d.2.1 d.2.2.1
  ok := ce_ok mixedP Tryz.func42 (by kernel_rfl) (orcOf_ok watershedref05_Turn_tb) (dr := watershedref05_Turn_dr) (lps := lpsOf watershedref05_Turn_lt) (lps_fn (lps_of (n := 1) (by kernel_rfl) fun i hi => match i, hi with | 0, _ => lp_ok (E := watershedref05_Turn_e1) (by kernel_rfl) watershedref05_Turn_e1_ok)) (fun d dh => by kernel_rfl)

def watershedref20_Step_dr : Nat → DrA
  | 4 => ⟨[0, 1, 2, 3, 4], [[], [], [0], [0, 1, 2], [0, 1, 2, 3]], [1], [2], [1], false, []⟩
  | 17 => ⟨[0, 1, 2, 3, 4], [[], [], [0], [0, 1, 2], [0, 1, 2, 3]], [1], [2], [1], false, []⟩
  | _ => ⟨[], [], [], [], [], false, []⟩
noncomputable def watershedref20_Step_tb : List (CE CT Tryz.prog) := [watershedref20_one_ce, watershedref05_Right_ce, watershedref20_Goes_ce, watershedref05_Turn_ce, watershedref05_In_ce]
noncomputable def watershedref20_Step_lt : List (LE CT Tryz.prog) := []
noncomputable def watershedref20_Step (x0 : DScheme) (x1 : DShares) (x2 : Int) : Option (((DScheme) × (DShares) × (Int) × Unit) × (Unit)) :=
  (watershedref20_one x0).bind fun r1 =>
  (bif (!r1.1) then
  some (((⟨0, (⟨([] : List UInt8), ([] : List UInt8)⟩ : DSpan), 0, 0, 0, 0, 0⟩ : DScheme), (⟨0, []⟩ : DShares), 2, ()), ())
  else
  (watershedref05_Right x1).bind fun r2 =>
  (bif (!r2.1) then
  some (((⟨0, (⟨([] : List UInt8), ([] : List UInt8)⟩ : DSpan), 0, 0, 0, 0, 0⟩ : DScheme), (⟨0, []⟩ : DShares), 2, ()), ())
  else
  (bif (decide ((x0.stage : Int) = x2)) then
  some ((x0, x1, 0, ()), ())
  else
  (watershedref20_Goes x0.stage x2).bind fun r3 =>
  (bif (!r3.1) then
  some (((⟨0, (⟨([] : List UInt8), ([] : List UInt8)⟩ : DSpan), 0, 0, 0, 0, 0⟩ : DScheme), (⟨0, []⟩ : DShares), 26, ()), ())
  else
  (bif (decide ((x2 : Int) = 4)) then
  (watershedref05_Turn x1 x0.span x0.to_).bind fun r4 =>
  (bif (decide ((r4.1.2.1 : Int) ≠ 0)) then
  some (((⟨0, (⟨([] : List UInt8), ([] : List UInt8)⟩ : DSpan), 0, 0, 0, 0, 0⟩ : DScheme), (⟨0, []⟩ : DShares), r4.1.2.1, ()), ())
  else
  (watershedref05_In x1 x0.span).bind fun r5 =>
  (bif (decide ((r5.1.1.group : Int) ≠ x0.from_)) then
  some (((⟨0, (⟨([] : List UInt8), ([] : List UInt8)⟩ : DSpan), 0, 0, 0, 0, 0⟩ : DScheme), (⟨0, []⟩ : DShares), 26, ()), ())
  else
  (bif (decide ((r5.1.1.epoch : Int) ≠ x0.epoch)) then
  some (((⟨0, (⟨([] : List UInt8), ([] : List UInt8)⟩ : DSpan), 0, 0, 0, 0, 0⟩ : DScheme), (⟨0, []⟩ : DShares), 26, ()), ())
  else
  some (((⟨x0.num, x0.span, x0.from_, x0.to_, x0.epoch, r4.1.1.epoch, x2⟩ : DScheme), r4.1.1, 0, ()), ()))))
  else
  some (((⟨x0.num, x0.span, x0.from_, x0.to_, x0.epoch, x0.under, x2⟩ : DScheme), x1, 0, ()), ()))))))
noncomputable def watershedref20_Step_ce : CE CT Tryz.prog where
  f := 10
  args := [.cod 9, .cod 11, .one (.int .u8)]
  hs := []
  res := .tup [.cod 9, .cod 11, .one (.int .i64)]
  outs := []
  m := fun d dh => watershedref20_Step d.1 d.2.1 d.2.2.1
  ok := ce_ok mixedP Tryz.func10 (by kernel_rfl) (orcOf_ok watershedref20_Step_tb) (dr := watershedref20_Step_dr) (lps := lpsOf watershedref20_Step_lt) (lps_fn (no_loop (by kernel_rfl))) (fun d dh => by kernel_rfl)

def watershedref20_Begin_dr : Nat → DrA
  | _ => ⟨[], [], [], [], [], false, []⟩
noncomputable def watershedref20_Begin_tb : List (CE CT Tryz.prog) := [watershedref05_Turn_ce, watershedref05_In_ce]
noncomputable def watershedref20_Begin_lt : List (LE CT Tryz.prog) := []
noncomputable def watershedref20_Begin (x0 : DShares) (x1 : Int) (x2 : DSpan) (x3 : Int) : Option (((DScheme) × (Int) × Unit) × (Unit)) :=
  (bif (decide ((x1 : Int) < 1)) then
  some (((⟨0, (⟨([] : List UInt8), ([] : List UInt8)⟩ : DSpan), 0, 0, 0, 0, 0⟩ : DScheme), 2, ()), ())
  else
  (bif (decide ((1073741824 : Int) < x1)) then
  some (((⟨0, (⟨([] : List UInt8), ([] : List UInt8)⟩ : DSpan), 0, 0, 0, 0, 0⟩ : DScheme), 2, ()), ())
  else
  (watershedref05_Turn x0 x2 x3).bind fun r1 =>
  (bif (decide ((r1.1.2.1 : Int) ≠ 0)) then
  some (((⟨0, (⟨([] : List UInt8), ([] : List UInt8)⟩ : DSpan), 0, 0, 0, 0, 0⟩ : DScheme), r1.1.2.1, ()), ())
  else
  (watershedref05_In x0 x2).bind fun r2 =>
  some (((⟨x1, x2, r2.1.1.group, x3, r2.1.1.epoch, 0, 1⟩ : DScheme), 0, ()), ()))))
noncomputable def watershedref20_Begin_ce : CE CT Tryz.prog where
  f := 12
  args := [.cod 11, .one (.int .i64), .cod 4, .one (.int .i64)]
  hs := []
  res := .tup [.cod 9, .one (.int .i64)]
  outs := []
  m := fun d dh => watershedref20_Begin d.1 d.2.1 d.2.2.1 d.2.2.2.1
  ok := ce_ok mixedP Tryz.func12 (by kernel_rfl) (orcOf_ok watershedref20_Begin_tb) (dr := watershedref20_Begin_dr) (lps := lpsOf watershedref20_Begin_lt) (lps_fn (no_loop (by kernel_rfl))) (fun d dh => by kernel_rfl)

def watershedkit_SameShareRows_dr : Nat → DrA
  | 6 => ⟨[0, 1, 2, 4, 5, 6, 3, 7, 8], [[], [], [0, 1], [0, 1, 2], [], [], [4, 5], [4, 5, 6], [0, 1, 2, 3, 4, 5, 6, 7]], [], [], [], false, []⟩
  | _ => ⟨[], [], [], [], [], false, []⟩
noncomputable def watershedkit_SameShareRows_tb : List (CE CT Tryz.prog) := []
noncomputable def watershedkit_SameShareRows_l1 (a : ((Nat) × (List (DShare)) × (Int) × Unit) × ((List (DShare)) × Unit)) : Option ((((Nat) × (List (DShare)) × (Int) × Unit) × ((List (DShare)) × Unit)) ⊕ ((((Bool) × Unit) × ((List (DShare)) × Unit)) ⊕ ((Unit) × ((List (DShare)) × Unit)))) :=
  (bif (decide ((a.1.2.2.1 : Int) < ((a.1.1 : Nat) : Int))) then
  (if 0 ≤ (a.1.2.2.1 : Int) ∧ (a.1.2.2.1 : Int) < ((a.1.1 : Nat) : Int) then
  (getI a.1.2.1 a.1.2.2.1).bind fun e1 =>
  (a.2.1[(0 + (a.1.2.2.1 : Int).toNat)]?).bind fun e2 =>
  (bif (!(decide (e2.span.lo = e1.span.lo) && (decide (e2.span.hi = e1.span.hi) && (decide ((e2.group : Int) = e1.group) && (decide ((e2.epoch : Int) = e1.epoch) && true))))) then
  some (.inr (.inl ((false, ()), (a.2.1, ()))))
  else
  some (.inl ((a.1.1, a.1.2.1, (IntKind.i64.wrap (a.1.2.2.1 + 1)), ()), (a.2.1, ()))))
  else none)
  else
  some (.inr (.inr ((), (a.2.1, ())))))
noncomputable def watershedkit_SameShareRows_e1 : LE CT Tryz.prog := ⟨4, [0, 1, 5], [.one (.asz 5 0), .one (.sl 5), .one (.int .i64)], [.arr 71 5 true], [⟨.ret, [4], [.one (.bool)], [.arr 71 5 true]⟩, ⟨.exit 0, [], [], [.arr 71 5 true]⟩], watershedkit_SameShareRows_l1⟩
noncomputable def watershedkit_SameShareRows_lt : List (LE CT Tryz.prog) := [watershedkit_SameShareRows_e1]
theorem watershedkit_SameShareRows_e1_ok : LeOk watershedkit_SameShareRows_e1 (nthL (bodyOf Tryz.f46) 0) := fun A env h k z hk => le_ok (E := watershedkit_SameShareRows_e1) (orcOf_ok watershedkit_SameShareRows_tb) (dr := watershedkit_SameShareRows_dr) (lps := lpsOf watershedkit_SameShareRows_lt) (no_loop (by kernel_rfl)) (fun a => by kernel_rfl) env h k z hk
noncomputable def watershedkit_SameShareRows (x0 : Nat) (x1 : List (DShare)) (h0 : List (DShare)) : Option ((Bool) × ((List (DShare)) × Unit)) :=
  (bif (decide ((((x0 : Nat) : Int) : Int) ≠ (x1.length : Int))) then
  some (false, (h0, ()))
  else
  (loopM watershedkit_SameShareRows_l1 ((x0, x1, 0, ()), (h0, ()))).bind fun b1 =>
  (match b1 with
  | .inl b2 =>
  some (b2.1.1, (b2.2.1, ()))
  | .inr b3 =>
  some (true, (b3.2.1, ()))))
noncomputable def watershedkit_SameShareRows_ce : CE CT Tryz.prog where
  f := 46
  args := [.one (.asz 5 0), .one (.sl 5)]
  hs := [.arr 71 5 true]
  res := .val (.one (.bool))
  outs := [.arr 71 5 true]
  m := fun d dh => watershedkit_SameShareRows d.1 d.2.1 dh.1
  ok := ce_ok mixedP Tryz.func46 (by kernel_rfl) (orcOf_ok watershedkit_SameShareRows_tb) (dr := watershedkit_SameShareRows_dr) (lps := lpsOf watershedkit_SameShareRows_lt) (lps_fn (lps_of (n := 1) (by kernel_rfl) fun i hi => match i, hi with | 0, _ => lp_ok (E := watershedkit_SameShareRows_e1) (by kernel_rfl) watershedkit_SameShareRows_e1_ok)) (fun d dh => by kernel_rfl)

def watershedkit_SameShares_dr : Nat → DrA
  | _ => ⟨[], [], [], [], [], false, []⟩
noncomputable def watershedkit_SameShares_tb : List (CE CT Tryz.prog) := [watershedkit_SameShareRows_ce]
noncomputable def watershedkit_SameShares_lt : List (LE CT Tryz.prog) := []
noncomputable def watershedkit_SameShares (x0 : (Int) × (Nat) × Unit) (x1 : DShares) (h0 : List (DShare)) : Option ((Bool) × ((List (DShare)) × Unit)) :=
  (bif (decide ((x0.1 : Int) = x1.epoch)) then
  (watershedkit_SameShareRows x0.2.1 x1.list h0).bind fun r1 =>
  some (r1.1, (r1.2.1, ()))
  else
  some (false, (h0, ())))
noncomputable def watershedkit_SameShares_ce : CE CT Tryz.prog where
  f := 13
  args := [.agg [.int .i64, .asz 5 0], .cod 11]
  hs := [.arr 71 5 true]
  res := .val (.one (.bool))
  outs := [.arr 71 5 true]
  m := fun d dh => watershedkit_SameShares d.1 d.2.1 dh.1
  ok := ce_ok mixedP Tryz.func13 (by kernel_rfl) (orcOf_ok watershedkit_SameShares_tb) (dr := watershedkit_SameShares_dr) (lps := lpsOf watershedkit_SameShares_lt) (lps_fn (no_loop (by kernel_rfl))) (fun d dh => by kernel_rfl)

def scheme_Right1_dr : Nat → DrA
  | _ => ⟨[], [], [], [], [], false, []⟩
noncomputable def scheme_Right1_tb : List (CE CT Tryz.prog) := [scheme_right_ce]
noncomputable def scheme_Right1_lt : List (LE CT Tryz.prog) := []
noncomputable def scheme_Right1 (x0 : DScheme) : Option ((Bool) × (Unit)) :=
  (scheme_right (⟨x0⟩ : DWork2)).bind fun r1 =>
  some ((!r1.1), ())
noncomputable def scheme_Right1_ce : CE CT Tryz.prog where
  f := 48
  args := [.cod 9]
  hs := []
  res := .val (.one (.bool))
  outs := []
  m := fun d dh => scheme_Right1 d.1
  ok := ce_ok mixedP Tryz.func48 (by kernel_rfl) (orcOf_ok scheme_Right1_tb) (dr := scheme_Right1_dr) (lps := lpsOf scheme_Right1_lt) (lps_fn (no_loop (by kernel_rfl))) (fun d dh => by kernel_rfl)

def slices_IndexFunc_5_dr : Nat → DrA
  | _ => ⟨[], [], [], [], [], false, []⟩
noncomputable def slices_IndexFunc_5_tb : List (CE CT Tryz.prog) := [scheme_Right1_ce]
noncomputable def slices_IndexFunc_5_l1 (a : ((List (DScheme)) × (Unit) × (Int) × (Int) × Unit) × (Unit)) : Option ((((List (DScheme)) × (Unit) × (Int) × (Int) × Unit) × (Unit)) ⊕ ((((Int) × Unit) × (Unit)) ⊕ ((Unit) × (Unit)))) :=
  (bif (decide ((a.1.2.2.2.1 : Int) < a.1.2.2.1)) then
  (getI a.1.1 a.1.2.2.2.1).bind fun e1 =>
  (scheme_Right1 e1).bind fun r2 =>
  (bif r2.1 then
  some (.inr (.inl ((a.1.2.2.2.1, ()), ())))
  else
  some (.inl ((a.1.1, (), a.1.2.2.1, (IntKind.i64.wrap (a.1.2.2.2.1 + 1)), ()), ())))
  else
  some (.inr (.inr ((), ()))))
noncomputable def slices_IndexFunc_5_e1 : LE CT Tryz.prog := ⟨2, [0, 1, 7, 8], [.one (.sl 9), .one (.fn 48), .one (.int .i64), .one (.int .i64)], [], [⟨.ret, [4], [.one (.int .i64)], []⟩, ⟨.exit 0, [], [], []⟩], slices_IndexFunc_5_l1⟩
noncomputable def slices_IndexFunc_5_lt : List (LE CT Tryz.prog) := [slices_IndexFunc_5_e1]
theorem slices_IndexFunc_5_e1_ok : LeOk slices_IndexFunc_5_e1 (nthL (bodyOf Tryz.f84) 0) := fun A env h k z hk => le_ok (E := slices_IndexFunc_5_e1) (orcOf_ok slices_IndexFunc_5_tb) (dr := slices_IndexFunc_5_dr) (lps := lpsOf slices_IndexFunc_5_lt) (no_loop (by kernel_rfl)) (fun a => by kernel_rfl) env h k z hk
noncomputable def slices_IndexFunc_5 (x0 : List (DScheme)) : Option ((Int) × (Unit)) :=
  (loopM slices_IndexFunc_5_l1 ((x0, (), (x0.length : Int), 0, ()), ())).bind fun b1 =>
  (match b1 with
  | .inl b2 =>
  some (b2.1.1, ())
  | .inr b3 =>
  some ((-1), ()))
noncomputable def slices_IndexFunc_5_ce : CE CT Tryz.prog where
  f := 84
  args := [.one (.sl 9), .one (.fn 48)]
  hs := []
  res := .val (.one (.int .i64))
  outs := []
  m := fun d dh => slices_IndexFunc_5 d.1
  ok := ce_ok mixedP Tryz.func84 (by kernel_rfl) (orcOf_ok slices_IndexFunc_5_tb) (dr := slices_IndexFunc_5_dr) (lps := lpsOf slices_IndexFunc_5_lt) (lps_fn (lps_of (n := 1) (by kernel_rfl) fun i hi => match i, hi with | 0, _ => lp_ok (E := slices_IndexFunc_5_e1) (by kernel_rfl) slices_IndexFunc_5_e1_ok)) (fun d dh => by kernel_rfl)

def slices_ContainsFunc_2_dr : Nat → DrA
  | _ => ⟨[], [], [], [], [], false, []⟩
noncomputable def slices_ContainsFunc_2_tb : List (CE CT Tryz.prog) := [slices_IndexFunc_5_ce]
noncomputable def slices_ContainsFunc_2_lt : List (LE CT Tryz.prog) := []
noncomputable def slices_ContainsFunc_2 (x0 : List (DScheme)) : Option ((Bool) × (Unit)) :=
  (slices_IndexFunc_5 x0).bind fun r1 =>
  some ((decide ((0 : Int) ≤ r1.1)), ())
noncomputable def slices_ContainsFunc_2_ce : CE CT Tryz.prog where
  f := 47
  args := [.one (.sl 9), .one (.fn 48)]
  hs := []
  res := .val (.one (.bool))
  outs := []
  m := fun d dh => slices_ContainsFunc_2 d.1
  ok := ce_ok mixedP Tryz.func47 (by kernel_rfl) (orcOf_ok slices_ContainsFunc_2_tb) (dr := slices_ContainsFunc_2_dr) (lps := lpsOf slices_ContainsFunc_2_lt) (lps_fn (no_loop (by kernel_rfl))) (fun d dh => by kernel_rfl)

def scheme_Right_dr : Nat → DrA
  | _ => ⟨[], [], [], [], [], false, []⟩
noncomputable def scheme_Right_tb : List (CE CT Tryz.prog) := [slices_ContainsFunc_2_ce]
noncomputable def scheme_Right_lt : List (LE CT Tryz.prog) := []
noncomputable def scheme_Right (x0 : List (DScheme)) : Option ((Bool) × (Unit)) :=
  (slices_ContainsFunc_2 x0).bind fun r1 =>
  some ((!r1.1), ())
noncomputable def scheme_Right_ce : CE CT Tryz.prog where
  f := 14
  args := [.one (.sl 9)]
  hs := []
  res := .val (.one (.bool))
  outs := []
  m := fun d dh => scheme_Right d.1
  ok := ce_ok mixedP Tryz.func14 (by kernel_rfl) (orcOf_ok scheme_Right_tb) (dr := scheme_Right_dr) (lps := lpsOf scheme_Right_lt) (lps_fn (no_loop (by kernel_rfl))) (fun d dh => by kernel_rfl)

def watershedref20_Right_dr : Nat → DrA
  | _ => ⟨[], [], [], [], [], false, []⟩
noncomputable def watershedref20_Right_tb : List (CE CT Tryz.prog) := [watershedref20_one_ce]
noncomputable def watershedref20_Right_l1 (a : ((Nat × Nat × Nat) × (Int) × Unit) × ((List (DScheme)) × Unit)) : Option ((((Nat × Nat × Nat) × (Int) × Unit) × ((List (DScheme)) × Unit)) ⊕ ((((Bool) × Unit) × ((List (DScheme)) × Unit)) ⊕ ((Unit) × ((List (DScheme)) × Unit)))) :=
  (bif (decide ((a.1.2.1 : Int) < ((a.1.1.2.1 : Nat) : Int))) then
  (if 0 ≤ (a.1.2.1 : Int) ∧ (a.1.2.1 : Int) < ((a.1.1.2.1 : Nat) : Int) then
  (a.2.1[(a.1.1.1 + (a.1.2.1 : Int).toNat)]?).bind fun e1 =>
  (watershedref20_one e1).bind fun r2 =>
  (bif (!r2.1) then
  some (.inr (.inl ((false, ()), (a.2.1, ()))))
  else
  some (.inl (((a.1.1.1, a.1.1.2.1, a.1.1.2.2), (IntKind.i64.wrap (a.1.2.1 + 1)), ()), (a.2.1, ()))))
  else none)
  else
  some (.inr (.inr ((), (a.2.1, ())))))
noncomputable def watershedref20_Right_e1 : LE CT Tryz.prog := ⟨2, [0, 3], [.one (.as 9 0), .one (.int .i64)], [.arr 26 9 true], [⟨.ret, [2], [.one (.bool)], [.arr 26 9 true]⟩, ⟨.exit 0, [], [], [.arr 26 9 true]⟩], watershedref20_Right_l1⟩
noncomputable def watershedref20_Right_lt : List (LE CT Tryz.prog) := [watershedref20_Right_e1]
theorem watershedref20_Right_e1_ok : LeOk watershedref20_Right_e1 (nthL (bodyOf Tryz.f15) 0) := fun A env h k z hk => le_ok (E := watershedref20_Right_e1) (orcOf_ok watershedref20_Right_tb) (dr := watershedref20_Right_dr) (lps := lpsOf watershedref20_Right_lt) (no_loop (by kernel_rfl)) (fun a => by kernel_rfl) env h k z hk
noncomputable def watershedref20_Right (x0 : Nat × Nat × Nat) (h0 : List (DScheme)) : Option ((Bool) × ((List (DScheme)) × Unit)) :=
  (loopM watershedref20_Right_l1 (((x0.1, x0.2.1, x0.2.2), 0, ()), (h0, ()))).bind fun b1 =>
  (match b1 with
  | .inl b2 =>
  some (b2.1.1, (b2.2.1, ()))
  | .inr b3 =>
  some (true, (b3.2.1, ())))
noncomputable def watershedref20_Right_ce : CE CT Tryz.prog where
  f := 15
  args := [.one (.as 9 0)]
  hs := [.arr 26 9 true]
  res := .val (.one (.bool))
  outs := [.arr 26 9 true]
  m := fun d dh => watershedref20_Right d.1 dh.1
  ok := ce_ok mixedP Tryz.func15 (by kernel_rfl) (orcOf_ok watershedref20_Right_tb) (dr := watershedref20_Right_dr) (lps := lpsOf watershedref20_Right_lt) (lps_fn (lps_of (n := 1) (by kernel_rfl) fun i hi => match i, hi with | 0, _ => lp_ok (E := watershedref20_Right_e1) (by kernel_rfl) watershedref20_Right_e1_ok)) (fun d dh => by kernel_rfl)

def scheme_Over_dr : Nat → DrA
  | _ => ⟨[], [], [], [], [], false, []⟩
noncomputable def scheme_Over_tb : List (CE CT Tryz.prog) := []
noncomputable def scheme_Over_lt : List (LE CT Tryz.prog) := []
noncomputable def scheme_Over (x0 : DScheme) : Option ((Bool) × (Unit)) :=
  (bif (decide ((x0.stage : Int) = 6)) then
  some (true, ())
  else
  some ((decide ((x0.stage : Int) = 9)), ()))
noncomputable def scheme_Over_ce : CE CT Tryz.prog where
  f := 16
  args := [.cod 9]
  hs := []
  res := .val (.one (.bool))
  outs := []
  m := fun d dh => scheme_Over d.1
  ok := ce_ok mixedP Tryz.func16 (by kernel_rfl) (orcOf_ok scheme_Over_tb) (dr := scheme_Over_dr) (lps := lpsOf scheme_Over_lt) (lps_fn (no_loop (by kernel_rfl))) (fun d dh => by kernel_rfl)

def watershedref20_Over_dr : Nat → DrA
  | _ => ⟨[], [], [], [], [], false, []⟩
noncomputable def watershedref20_Over_tb : List (CE CT Tryz.prog) := []
noncomputable def watershedref20_Over_lt : List (LE CT Tryz.prog) := []
noncomputable def watershedref20_Over (x0 : DScheme) : Option ((Bool) × (Unit)) :=
  (bif (decide ((x0.stage : Int) = 6)) then
  some (true, ())
  else
  some ((decide ((x0.stage : Int) = 9)), ()))
noncomputable def watershedref20_Over_ce : CE CT Tryz.prog where
  f := 17
  args := [.cod 9]
  hs := []
  res := .val (.one (.bool))
  outs := []
  m := fun d dh => watershedref20_Over d.1
  ok := ce_ok mixedP Tryz.func17 (by kernel_rfl) (orcOf_ok watershedref20_Over_tb) (dr := watershedref20_Over_dr) (lps := lpsOf watershedref20_Over_lt) (lps_fn (no_loop (by kernel_rfl))) (fun d dh => by kernel_rfl)

def watershedkit_OverShares_dr : Nat → DrA
  | _ => ⟨[], [], [], [], [], false, []⟩
noncomputable def watershedkit_OverShares_tb : List (CE CT Tryz.prog) := [watershedkit_OverShareRows_v_ce]
noncomputable def watershedkit_OverShares_lt : List (LE CT Tryz.prog) := []
noncomputable def watershedkit_OverShares (x0 : (Int) × (Nat) × Unit) (h0 : List (DShare)) : Option ((Unit) × ((List (DShare)) × Unit)) :=
  (watershedkit_OverShareRows_v x0.2.1 h0).bind fun r1 =>
  some ((), (r1.2.1, ()))
noncomputable def watershedkit_OverShares_ce : CE CT Tryz.prog where
  f := 20
  args := [.agg [.int .i64, .asz 5 0]]
  hs := [.arr 71 5 true]
  res := .tup []
  outs := [.arr 71 5 true]
  m := fun d dh => watershedkit_OverShares d.1 dh.1
  ok := ce_ok mixedP Tryz.func20 (by kernel_rfl) (orcOf_ok watershedkit_OverShares_tb) (dr := watershedkit_OverShares_dr) (lps := lpsOf watershedkit_OverShares_lt) (lps_fn (no_loop (by kernel_rfl))) (fun d dh => by kernel_rfl)

def watershedkit_SameShareRows_2_dr : Nat → DrA
  | 6 => ⟨[0, 1, 2, 4, 5, 6, 3, 7, 8], [[], [], [0, 1], [0, 1, 2], [], [], [4, 5], [4, 5, 6], [0, 1, 2, 3, 4, 5, 6, 7]], [], [], [], false, []⟩
  | _ => ⟨[], [], [], [], [], false, []⟩
noncomputable def watershedkit_SameShareRows_2_tb : List (CE CT Tryz.prog) := []
noncomputable def watershedkit_SameShareRows_2_l1 (a : ((List (DShare)) × (List (DShare)) × (Int) × Unit) × (Unit)) : Option ((((List (DShare)) × (List (DShare)) × (Int) × Unit) × (Unit)) ⊕ ((((Bool) × Unit) × (Unit)) ⊕ ((Unit) × (Unit)))) :=
  (bif (decide ((a.1.2.2.1 : Int) < (a.1.1.length : Int))) then
  (getI a.1.1 a.1.2.2.1).bind fun e1 =>
  (getI a.1.2.1 a.1.2.2.1).bind fun e2 =>
  (bif (!(decide (e1.span.lo = e2.span.lo) && (decide (e1.span.hi = e2.span.hi) && (decide ((e1.group : Int) = e2.group) && (decide ((e1.epoch : Int) = e2.epoch) && true))))) then
  some (.inr (.inl ((false, ()), ())))
  else
  some (.inl ((a.1.1, a.1.2.1, (IntKind.i64.wrap (a.1.2.2.1 + 1)), ()), ())))
  else
  some (.inr (.inr ((), ()))))
noncomputable def watershedkit_SameShareRows_2_e1 : LE CT Tryz.prog := ⟨4, [0, 1, 5], [.one (.sl 5), .one (.sl 5), .one (.int .i64)], [], [⟨.ret, [4], [.one (.bool)], []⟩, ⟨.exit 0, [], [], []⟩], watershedkit_SameShareRows_2_l1⟩
noncomputable def watershedkit_SameShareRows_2_lt : List (LE CT Tryz.prog) := [watershedkit_SameShareRows_2_e1]
theorem watershedkit_SameShareRows_2_e1_ok : LeOk watershedkit_SameShareRows_2_e1 (nthL (bodyOf Tryz.f46) 0) := fun A env h k z hk => le_ok (E := watershedkit_SameShareRows_2_e1) (orcOf_ok watershedkit_SameShareRows_2_tb) (dr := watershedkit_SameShareRows_2_dr) (lps := lpsOf watershedkit_SameShareRows_2_lt) (no_loop (by kernel_rfl)) (fun a => by kernel_rfl) env h k z hk
noncomputable def watershedkit_SameShareRows_2 (x0 : List (DShare)) (x1 : List (DShare)) : Option ((Bool) × (Unit)) :=
  (bif (decide (((x0.length : Int) : Int) ≠ (x1.length : Int))) then
  some (false, ())
  else
  (loopM watershedkit_SameShareRows_2_l1 ((x0, x1, 0, ()), ())).bind fun b1 =>
  (match b1 with
  | .inl b2 =>
  some (b2.1.1, ())
  | .inr b3 =>
  some (true, ())))
noncomputable def watershedkit_SameShareRows_2_ce : CE CT Tryz.prog where
  f := 46
  args := [.one (.sl 5), .one (.sl 5)]
  hs := []
  res := .val (.one (.bool))
  outs := []
  m := fun d dh => watershedkit_SameShareRows_2 d.1 d.2.1
  ok := ce_ok mixedP Tryz.func46 (by kernel_rfl) (orcOf_ok watershedkit_SameShareRows_2_tb) (dr := watershedkit_SameShareRows_2_dr) (lps := lpsOf watershedkit_SameShareRows_2_lt) (lps_fn (lps_of (n := 1) (by kernel_rfl) fun i hi => match i, hi with | 0, _ => lp_ok (E := watershedkit_SameShareRows_2_e1) (by kernel_rfl) watershedkit_SameShareRows_2_e1_ok)) (fun d dh => by kernel_rfl)

def watershedkit_SameShares_2_dr : Nat → DrA
  | _ => ⟨[], [], [], [], [], false, []⟩
noncomputable def watershedkit_SameShares_2_tb : List (CE CT Tryz.prog) := [watershedkit_SameShareRows_2_ce]
noncomputable def watershedkit_SameShares_2_lt : List (LE CT Tryz.prog) := []
noncomputable def watershedkit_SameShares_2 (x0 : DShares) (x1 : DShares) : Option ((Bool) × (Unit)) :=
  (bif (decide ((x0.epoch : Int) = x1.epoch)) then
  (watershedkit_SameShareRows_2 x0.list x1.list).bind fun r1 =>
  some (r1.1, ())
  else
  some (false, ()))
noncomputable def watershedkit_SameShares_2_ce : CE CT Tryz.prog where
  f := 13
  args := [.cod 11, .cod 11]
  hs := []
  res := .val (.one (.bool))
  outs := []
  m := fun d dh => watershedkit_SameShares_2 d.1 d.2.1
  ok := ce_ok mixedP Tryz.func13 (by kernel_rfl) (orcOf_ok watershedkit_SameShares_2_tb) (dr := watershedkit_SameShares_2_dr) (lps := lpsOf watershedkit_SameShares_2_lt) (lps_fn (no_loop (by kernel_rfl))) (fun d dh => by kernel_rfl)

def watershedkit_KeptShareRows_dr : Nat → DrA
  | 7 => ⟨[0, 1, 2, 3, 4, 5, 6, 7, 9, 10, 11, 8, 12, 13, 14, 15, 16, 17, 18, 19, 20, 21, 22, 23, 24, 26, 27, 28, 29, 25, 30, 31, 32, 33, 34], [[], [], [1], [0, 1, 2], [0, 1, 2, 3], [0, 1, 2, 3, 4], [0, 1, 2, 3, 4], [0, 1, 2, 3, 4, 5, 6], [0, 1, 2, 3, 4, 5, 6, 7], [0, 1, 2, 3, 4], [0, 1, 2, 3, 4], [0, 1, 2, 3, 4, 9, 10], [0, 1, 2, 3, 4, 9, 10, 11], [0, 1, 2, 3, 4, 5, 6, 7, 8, 9, 10, 11, 12], [0, 1, 2, 3, 4, 5, 6, 7, 8, 9, 10, 11, 12, 13], [0, 1, 2, 3, 4, 5, 6, 7, 8, 9, 10, 11, 12, 13, 14], [0, 1, 2, 3, 4, 5, 6, 7, 8, 9, 10, 11, 12, 13, 14, 15], [0, 1, 2, 3, 4, 5, 6, 7, 8, 9, 10, 11, 12, 13, 14, 15, 16], [0, 1, 2, 3, 4, 5, 6, 7, 8, 9, 10, 11, 12, 13, 14, 15, 16], [0, 1, 2, 3, 4, 5, 6, 7, 8, 9, 10, 11, 12, 13, 14, 15, 16, 18], [0, 1, 2, 3, 4, 5, 6, 7, 8, 9, 10, 11, 12, 13, 14, 15, 16, 17, 18, 19], [0, 1, 2, 3, 4, 5, 6, 7, 8, 9, 10, 11, 12, 13, 14, 15, 16, 17, 18, 19, 20], [0, 1, 2, 3, 4, 5, 6, 7, 8, 9, 10, 11, 12, 13, 14, 15, 16, 17, 18, 19, 20, 21], [0, 1, 2, 3, 4, 5, 6, 7, 8, 9, 10, 11, 12, 13, 14, 15, 16, 17, 18, 19, 20, 21], [0, 1, 2, 3, 4, 5, 6, 7, 8, 9, 10, 11, 12, 13, 14, 15, 16, 17, 18, 19, 20, 21, 22, 23], [0, 1, 2, 3, 4, 5, 6, 7, 8, 9, 10, 11, 12, 13, 14, 15, 16, 17, 18, 19, 20, 21, 22, 23, 24], [0, 1, 2, 3, 4, 5, 6, 7, 8, 9, 10, 11, 12, 13, 14, 15, 16, 17, 18, 19, 20, 21], [0, 1, 2, 3, 4, 5, 6, 7, 8, 9, 10, 11, 12, 13, 14, 15, 16, 17, 18, 19, 20, 21], [0, 1, 2, 3, 4, 5, 6, 7, 8, 9, 10, 11, 12, 13, 14, 15, 16, 17, 18, 19, 20, 21, 27], [0, 1, 2, 3, 4, 5, 6, 7, 8, 9, 10, 11, 12, 13, 14, 15, 16, 17, 18, 19, 20, 21, 26, 27, 28], [0, 1, 2, 3, 4, 5, 6, 7, 8, 9, 10, 11, 12, 13, 14, 15, 16, 17, 18, 19, 20, 21, 26, 27, 28, 29], [0, 1, 2, 3, 4, 5, 6, 7, 8, 9, 10, 11, 12, 13, 14, 15, 16, 17, 18, 19, 20, 21, 22, 23, 24, 25, 26, 27, 28, 29, 30], [0, 1, 2, 3, 4, 5, 6, 7, 8, 9, 10, 11, 12, 13, 14, 15, 16, 17, 18, 19, 20, 21, 22, 23, 24, 25, 26, 27, 28, 29, 30, 31], [0, 1, 2, 3, 4, 5, 6, 7, 8, 9, 10, 11, 12, 13, 14, 15, 16, 17, 18, 19, 20, 21, 22, 23, 24, 25, 26, 27, 28, 29, 30, 31, 32], [0, 1, 2, 3, 4, 5, 6, 7, 8, 9, 10, 11, 12, 13, 14, 15, 16, 17, 18, 19, 20, 21, 22, 23, 24, 25, 26, 27, 28, 29, 30, 31, 32, 33]], [25], [30], [], false, []⟩
  | _ => ⟨[], [], [], [], [], false, []⟩
noncomputable def watershedkit_KeptShareRows_tb : List (CE CT Tryz.prog) := [watershedkit_markShare_ce]
noncomputable def watershedkit_KeptShareRows_l1 (a : ((List (DShare)) × (List (DShare)) × (Int) × Unit) × (Unit)) : Option ((((List (DShare)) × (List (DShare)) × (Int) × Unit) × (Unit)) ⊕ ((((Bool) × Unit) × (Unit)) ⊕ ((Unit) × (Unit)))) :=
  (bif (decide ((a.1.2.2.1 : Int) < (a.1.2.1.length : Int))) then
  (bif (decide ((a.1.2.2.1 : Int) < (a.1.1.length : Int))) then
  (getI a.1.2.1 a.1.2.2.1).bind fun e1 =>
  (getI a.1.1 a.1.2.2.1).bind fun e2 =>
  (bif (!(decide (e1.span.lo = e2.span.lo) && (decide (e1.span.hi = e2.span.hi) && (decide ((e1.group : Int) = e2.group) && (decide ((e1.epoch : Int) = e2.epoch) && true))))) then
  some (.inr (.inl ((false, ()), ())))
  else
  (bif (decide (((a.1.1.length : Int) : Int) ≤ a.1.2.2.1)) then
  (getI a.1.2.1 a.1.2.2.1).bind fun e3 =>
  (watershedkit_markShare 1 (IntKind.i64.wrap (a.1.2.2.1 - (a.1.1.length : Int)))).bind fun r4 =>
  (bif (!(decide (e3.span.lo = r4.1.span.lo) && (decide (e3.span.hi = r4.1.span.hi) && (decide ((e3.group : Int) = r4.1.group) && (decide ((e3.epoch : Int) = r4.1.epoch) && true))))) then
  some (.inr (.inl ((false, ()), ())))
  else
  some (.inl ((a.1.1, a.1.2.1, (IntKind.i64.wrap (a.1.2.2.1 + 1)), ()), ())))
  else
  some (.inl ((a.1.1, a.1.2.1, (IntKind.i64.wrap (a.1.2.2.1 + 1)), ()), ()))))
  else
  (bif (decide (((a.1.1.length : Int) : Int) ≤ a.1.2.2.1)) then
  (getI a.1.2.1 a.1.2.2.1).bind fun e5 =>
  (watershedkit_markShare 1 (IntKind.i64.wrap (a.1.2.2.1 - (a.1.1.length : Int)))).bind fun r6 =>
  (bif (!(decide (e5.span.lo = r6.1.span.lo) && (decide (e5.span.hi = r6.1.span.hi) && (decide ((e5.group : Int) = r6.1.group) && (decide ((e5.epoch : Int) = r6.1.epoch) && true))))) then
  some (.inr (.inl ((false, ()), ())))
  else
  some (.inl ((a.1.1, a.1.2.1, (IntKind.i64.wrap (a.1.2.2.1 + 1)), ()), ())))
  else
  some (.inl ((a.1.1, a.1.2.1, (IntKind.i64.wrap (a.1.2.2.1 + 1)), ()), ()))))
  else
  some (.inr (.inr ((), ()))))
noncomputable def watershedkit_KeptShareRows_e1 : LE CT Tryz.prog := ⟨5, [1, 5, 6], [.one (.sl 5), .one (.sl 5), .one (.int .i64)], [], [⟨.ret, [4], [.one (.bool)], []⟩, ⟨.exit 0, [], [], []⟩], watershedkit_KeptShareRows_l1⟩
noncomputable def watershedkit_KeptShareRows_lt : List (LE CT Tryz.prog) := [watershedkit_KeptShareRows_e1]
theorem watershedkit_KeptShareRows_e1_ok : LeOk watershedkit_KeptShareRows_e1 (nthL (bodyOf Tryz.f52) 0) := fun A env h k z hk => le_ok (E := watershedkit_KeptShareRows_e1) (orcOf_ok watershedkit_KeptShareRows_tb) (dr := watershedkit_KeptShareRows_dr) (lps := lpsOf watershedkit_KeptShareRows_lt) (no_loop (by kernel_rfl)) (fun a => by kernel_rfl) env h k z hk
noncomputable def watershedkit_KeptShareRows (x0 : List (DShare) × List (DShare)) (x1 : List (DShare)) : Option ((Bool) × (Unit)) :=
  (bif (decide (((x0.1.length : Int) : Int) ≠ (x1.length : Int))) then
  some (false, ())
  else
  (if 0 ≤ ((0 : Int) : Int) ∧ ((0 : Int) : Int) ≤ (IntKind.i64.wrap ((x1.length : Int) + 12)) ∧ (IntKind.i64.wrap ((x1.length : Int) + 12)) ≤ ((x0.1 ++ x0.2).length : Int) then
  let y1 : List (DShare) := (((x0.1 ++ x0.2).drop ((0 : Int) : Int).toNat).take (((IntKind.i64.wrap ((x1.length : Int) + 12)) : Int).toNat - ((0 : Int) : Int).toNat))
  (loopM watershedkit_KeptShareRows_l1 ((x1, y1, 0, ()), ())).bind fun b2 =>
  (match b2 with
  | .inl b3 =>
  some (b3.1.1, ())
  | .inr b4 =>
  some (true, ()))
  else none))
noncomputable def watershedkit_KeptShareRows_ce : CE CT Tryz.prog where
  f := 52
  args := [.one (.slx 5), .one (.sl 5)]
  hs := []
  res := .val (.one (.bool))
  outs := []
  m := fun d dh => watershedkit_KeptShareRows d.1 d.2.1
  ok := ce_ok mixedP Tryz.func52 (by kernel_rfl) (orcOf_ok watershedkit_KeptShareRows_tb) (dr := watershedkit_KeptShareRows_dr) (lps := lpsOf watershedkit_KeptShareRows_lt) (lps_fn (lps_of (n := 1) (by kernel_rfl) fun i hi => match i, hi with | 0, _ => lp_ok (E := watershedkit_KeptShareRows_e1) (by kernel_rfl) watershedkit_KeptShareRows_e1_ok)) (fun d dh => by kernel_rfl)

def watershedkit_KeptShares_dr : Nat → DrA
  | _ => ⟨[], [], [], [], [], false, []⟩
noncomputable def watershedkit_KeptShares_tb : List (CE CT Tryz.prog) := [watershedkit_SameShares_2_ce, watershedkit_KeptShareRows_ce]
noncomputable def watershedkit_KeptShares_lt : List (LE CT Tryz.prog) := []
noncomputable def watershedkit_KeptShares (x0 : (Int) × (List (DShare) × List (DShare)) × Unit) (x1 : DShares) : Option ((Bool) × (Unit)) :=
  (watershedkit_SameShares_2 (⟨x0.1, x0.2.1.1⟩ : DShares) x1).bind fun r1 =>
  (bif r1.1 then
  (watershedkit_KeptShareRows (x0.2.1.1, x0.2.1.2) x1.list).bind fun r2 =>
  some (r2.1, ())
  else
  some (false, ()))
noncomputable def watershedkit_KeptShares_ce : CE CT Tryz.prog where
  f := 21
  args := [.agg [.int .i64, .slx 5], .cod 11]
  hs := []
  res := .val (.one (.bool))
  outs := []
  m := fun d dh => watershedkit_KeptShares d.1 d.2.1
  ok := ce_ok mixedP Tryz.func21 (by kernel_rfl) (orcOf_ok watershedkit_KeptShares_tb) (dr := watershedkit_KeptShares_dr) (lps := lpsOf watershedkit_KeptShares_lt) (lps_fn (no_loop (by kernel_rfl))) (fun d dh => by kernel_rfl)

def wire_NewWriter_dr : Nat → DrA
  | _ => ⟨[], [], [], [], [], false, []⟩
noncomputable def wire_NewWriter_tb : List (CE CT Tryz.prog) := []
noncomputable def wire_NewWriter_lt : List (LE CT Tryz.prog) := []
noncomputable def wire_NewWriter  : Option ((Unit) × (((Bool) × (Bool) × (List (UInt8)) × Unit) × (Unit) × Unit)) :=
  some ((), ((true, false, [], ()), (), ()))
noncomputable def wire_NewWriter_ce : CE CT Tryz.prog where
  f := 23
  args := []
  hs := []
  res := .val (.one (.ptr 0 0))
  outs := [.obj 95 [.bool, .bool, .own 1 1], .row 5 1]
  m := fun d dh => wire_NewWriter
  ok := ce_ok mixedP Tryz.func23 (by kernel_rfl) (orcOf_ok wire_NewWriter_tb) (dr := wire_NewWriter_dr) (lps := lpsOf wire_NewWriter_lt) (lps_fn (no_loop (by kernel_rfl))) (fun d dh => by kernel_rfl)

def wire_known_dr : Nat → DrA
  | _ => ⟨[], [], [], [], [], false, []⟩
noncomputable def wire_known_tb : List (CE CT Tryz.prog) := []
noncomputable def wire_known_lt : List (LE CT Tryz.prog) := []
noncomputable def wire_known (h0 : (Bool) × (Bool) × (List (UInt8)) × Unit) : Option ((Bool) × (((Bool) × (Bool) × (List (UInt8)) × Unit) × (Unit) × (Unit) × Unit)) :=
  some (h0.1, ((h0.1, h0.2.1, h0.2.2.1, ()), (), (), ()))
noncomputable def wire_known_ce : CE CT Tryz.prog where
  f := 55
  args := [.one (.ptr 0 0)]
  hs := [.obj 95 [.bool, .bool, .own 1 1], .row 5 1]
  res := .val (.one (.bool))
  outs := [.obj 95 [.bool, .bool, .own 1 2], .dead, .row 5 1]
  m := fun d dh => wire_known dh.1
  ok := ce_ok mixedP Tryz.func55 (by kernel_rfl) (orcOf_ok wire_known_tb) (dr := wire_known_dr) (lps := lpsOf wire_known_lt) (lps_fn (no_loop (by kernel_rfl))) (fun d dh => by kernel_rfl)

def wire_put_dr : Nat → DrA
  | _ => ⟨[], [], [], [], [], false, []⟩
noncomputable def wire_put_tb : List (CE CT Tryz.prog) := []
noncomputable def wire_put_lt : List (LE CT Tryz.prog) := []
noncomputable def wire_put (x1 : List (UInt8)) (h0 : (Bool) × (Bool) × (List (UInt8)) × Unit) : Option ((Unit) × (((Bool) × (Bool) × (List (UInt8)) × Unit) × (Unit) × (Unit) × Unit)) :=
  (bif h0.1 then
  (if h0.2.2.1.length + x1.length ≤ 140737488355328 ∧ (h0.2.2.1.length + x1.length) * 1 ≤ 140737488355328 then
  some ((), ((h0.1, h0.2.1, (h0.2.2.1 ++ x1), ()), (), (), ()))
  else none)
  else
  some ((), ((h0.1, h0.2.1, h0.2.2.1, ()), (), (), ())))
noncomputable def wire_put_ce : CE CT Tryz.prog where
  f := 116
  args := [.one (.ptr 0 0), .one (.sl 1)]
  hs := [.obj 95 [.bool, .bool, .own 1 1], .row 5 1]
  res := .tup []
  outs := [.obj 95 [.bool, .bool, .own 1 2], .dead, .row 5 1]
  m := fun d dh => wire_put d.2.1 dh.1
  ok := ce_ok mixedP Tryz.func116 (by kernel_rfl) (orcOf_ok wire_put_tb) (dr := wire_put_dr) (lps := lpsOf wire_put_lt) (lps_fn (no_loop (by kernel_rfl))) (fun d dh => by kernel_rfl)

def wire_number_dr : Nat → DrA
  | _ => ⟨[], [], [], [], [], false, []⟩
noncomputable def wire_number_tb : List (CE CT Tryz.prog) := [wire_put_ce]
noncomputable def wire_number_l1 (a : ((Unit) × (Int) × Unit) × (((Bool) × (Bool) × (List (UInt8)) × Unit) × (Unit) × Unit)) : Option ((((Unit) × (Int) × Unit) × (((Bool) × (Bool) × (List (UInt8)) × Unit) × (Unit) × Unit)) ⊕ ((((Unit) × (Int) × Unit) × (((Bool) × (Bool) × (List (UInt8)) × Unit) × (Unit) × (Unit) × Unit)))) :=
  (bif (decide ((127 : Int) < a.1.2.1)) then
  (b8 (IntKind.u8.wrap ((BitVec.ofInt (IntKind.u8.bits) (IntKind.u8.wrap a.1.2.1) ||| BitVec.ofInt (IntKind.u8.bits) 128).toNat))).bind fun u1 =>
  (wire_put ([u1] : List (UInt8)) (a.2.1.1, a.2.1.2.1, a.2.1.2.2.1, ())).bind fun r2 =>
  some (.inl (((), ((a.1.2.1 : Int).fdiv (2 ^ min (7 : Int).toNat (IntKind.i64.bits))), ()), ((r2.2.1.1, r2.2.1.2.1, r2.2.1.2.2.1, ()), (), ())))
  else
  some (.inr (((), a.1.2.1, ()), ((a.2.1.1, a.2.1.2.1, a.2.1.2.2.1, ()), (), (), ()))))
noncomputable def wire_number_e1 : LE CT Tryz.prog := ⟨2, [0, 1], [.one (.ptr 0 0), .one (.int .i64)], [.obj 95 [.bool, .bool, .own 1 1], .row 5 1], [⟨.exit 0, [0, 1], [.one (.ptr 0 0), .one (.int .i64)], [.obj 95 [.bool, .bool, .own 1 2], .dead, .row 5 1]⟩], wire_number_l1⟩
noncomputable def wire_number_lt : List (LE CT Tryz.prog) := [wire_number_e1]
theorem wire_number_e1_ok : LeOk wire_number_e1 (nthL (bodyOf Tryz.f86) 0) := fun A env h k z hk => le_ok (E := wire_number_e1) (orcOf_ok wire_number_tb) (dr := wire_number_dr) (lps := lpsOf wire_number_lt) (no_loop (by kernel_rfl)) (fun a => by kernel_rfl) env h k z hk
noncomputable def wire_number (x1 : Int) (h0 : (Bool) × (Bool) × (List (UInt8)) × Unit) : Option ((Unit) × (((Bool) × (Bool) × (List (UInt8)) × Unit) × (Unit) × (Unit) × Unit)) :=
  (bif (decide ((x1 : Int) < 0)) then
  some ((), ((h0.1, true, h0.2.2.1, ()), (), (), ()))
  else
  (bif (decide ((4611686018427387903 : Int) < x1)) then
  some ((), ((h0.1, true, h0.2.2.1, ()), (), (), ()))
  else
  (loopM wire_number_l1 (((), x1, ()), ((h0.1, h0.2.1, h0.2.2.1, ()), (), ()))).bind fun b1 =>
  (b8 (IntKind.u8.wrap b1.1.2.1)).bind fun u2 =>
  (wire_put ([u2] : List (UInt8)) (b1.2.1.1, b1.2.1.2.1, b1.2.1.2.2.1, ())).bind fun r3 =>
  some ((), ((r3.2.1.1, r3.2.1.2.1, r3.2.1.2.2.1, ()), (), (), ()))))
noncomputable def wire_number_ce : CE CT Tryz.prog where
  f := 86
  args := [.one (.ptr 0 0), .one (.int .i64)]
  hs := [.obj 95 [.bool, .bool, .own 1 1], .row 5 1]
  res := .tup []
  outs := [.obj 95 [.bool, .bool, .own 1 2], .dead, .row 5 1]
  m := fun d dh => wire_number d.2.1 dh.1
  ok := ce_ok mixedP Tryz.func86 (by kernel_rfl) (orcOf_ok wire_number_tb) (dr := wire_number_dr) (lps := lpsOf wire_number_lt) (lps_fn (lps_of (n := 1) (by kernel_rfl) fun i hi => match i, hi with | 0, _ => lp_ok (E := wire_number_e1) (by kernel_rfl) wire_number_e1_ok)) (fun d dh => by kernel_rfl)

def wire_Numbers_dr : Nat → DrA
  | _ => ⟨[], [], [], [], [], false, []⟩
noncomputable def wire_Numbers_tb : List (CE CT Tryz.prog) := [wire_known_ce, wire_number_ce]
noncomputable def wire_Numbers_l1 (a : ((Unit) × (List (Int)) × (Int) × (Int) × Unit) × (((Bool) × (Bool) × (List (UInt8)) × Unit) × (Unit) × Unit)) : Option ((((Unit) × (List (Int)) × (Int) × (Int) × Unit) × (((Bool) × (Bool) × (List (UInt8)) × Unit) × (Unit) × Unit)) ⊕ ((((Unit) × Unit) × (((Bool) × (Bool) × (List (UInt8)) × Unit) × (Unit) × (Unit) × Unit)))) :=
  (bif (decide ((a.1.2.2.2.1 : Int) < a.1.2.2.1)) then
  (getI a.1.2.1 a.1.2.2.2.1).bind fun e1 =>
  (wire_number e1 (a.2.1.1, a.2.1.2.1, a.2.1.2.2.1, ())).bind fun r2 =>
  some (.inl (((), a.1.2.1, a.1.2.2.1, (IntKind.i64.wrap (a.1.2.2.2.1 + 1)), ()), ((r2.2.1.1, r2.2.1.2.1, r2.2.1.2.2.1, ()), (), ())))
  else
  some (.inr (((), ()), ((a.2.1.1, a.2.1.2.1, a.2.1.2.2.1, ()), (), (), ()))))
noncomputable def wire_Numbers_e1 : LE CT Tryz.prog := ⟨3, [0, 9, 10, 11], [.one (.ptr 0 0), .one (.sl 0), .one (.int .i64), .one (.int .i64)], [.obj 95 [.bool, .bool, .own 1 1], .row 5 1], [⟨.exit 0, [0], [.one (.ptr 0 0)], [.obj 95 [.bool, .bool, .own 1 2], .dead, .row 5 1]⟩], wire_Numbers_l1⟩
noncomputable def wire_Numbers_lt : List (LE CT Tryz.prog) := [wire_Numbers_e1]
theorem wire_Numbers_e1_ok : LeOk wire_Numbers_e1 (nthL (bodyOf Tryz.f53) 0) := fun A env h k z hk => le_ok (E := wire_Numbers_e1) (orcOf_ok wire_Numbers_tb) (dr := wire_Numbers_dr) (lps := lpsOf wire_Numbers_lt) (no_loop (by kernel_rfl)) (fun a => by kernel_rfl) env h k z hk
noncomputable def wire_Numbers (x1 : List (Int)) (h0 : (Bool) × (Bool) × (List (UInt8)) × Unit) : Option ((Unit) × (((Bool) × (Bool) × (List (UInt8)) × Unit) × (Unit) × (Unit) × Unit)) :=
  (wire_known (h0.1, h0.2.1, h0.2.2.1, ())).bind fun r1 =>
  (bif r1.1 then
  (loopM wire_Numbers_l1 (((), x1, (x1.length : Int), 0, ()), ((r1.2.1.1, r1.2.1.2.1, r1.2.1.2.2.1, ()), (), ()))).bind fun b2 =>
  some ((), ((b2.2.1.1, b2.2.1.2.1, b2.2.1.2.2.1, ()), (), (), ()))
  else
  some ((), ((r1.2.1.1, r1.2.1.2.1, r1.2.1.2.2.1, ()), (), (), ())))
noncomputable def wire_Numbers_ce : CE CT Tryz.prog where
  f := 53
  args := [.one (.ptr 0 0), .one (.sl 0)]
  hs := [.obj 95 [.bool, .bool, .own 1 1], .row 5 1]
  res := .val (.one (.ptr 0 0))
  outs := [.obj 95 [.bool, .bool, .own 1 2], .dead, .row 5 1]
  m := fun d dh => wire_Numbers d.2.1 dh.1
  ok := ce_ok mixedP Tryz.func53 (by kernel_rfl) (orcOf_ok wire_Numbers_tb) (dr := wire_Numbers_dr) (lps := lpsOf wire_Numbers_lt) (lps_fn (lps_of (n := 1) (by kernel_rfl) fun i hi => match i, hi with | 0, _ => lp_ok (E := wire_Numbers_e1) (by kernel_rfl) wire_Numbers_e1_ok)) (fun d dh => by kernel_rfl)

def wire_Rows_dr : Nat → DrA
  | _ => ⟨[], [], [], [], [], false, []⟩
noncomputable def wire_Rows_tb : List (CE CT Tryz.prog) := [wire_known_ce, wire_number_ce, wire_put_ce]
noncomputable def wire_Rows_l1 (a : ((Unit) × (List (List (UInt8))) × (Int) × (Int) × Unit) × (((Bool) × (Bool) × (List (UInt8)) × Unit) × (Unit) × Unit)) : Option ((((Unit) × (List (List (UInt8))) × (Int) × (Int) × Unit) × (((Bool) × (Bool) × (List (UInt8)) × Unit) × (Unit) × Unit)) ⊕ ((((Unit) × Unit) × (((Bool) × (Bool) × (List (UInt8)) × Unit) × (Unit) × (Unit) × Unit)))) :=
  (bif (decide ((a.1.2.2.2.1 : Int) < a.1.2.2.1)) then
  (getI a.1.2.1 a.1.2.2.2.1).bind fun e1 =>
  (wire_number (e1.length : Int) (a.2.1.1, a.2.1.2.1, a.2.1.2.2.1, ())).bind fun r2 =>
  (wire_put e1 (r2.2.1.1, r2.2.1.2.1, r2.2.1.2.2.1, ())).bind fun r3 =>
  some (.inl (((), a.1.2.1, a.1.2.2.1, (IntKind.i64.wrap (a.1.2.2.2.1 + 1)), ()), ((r3.2.1.1, r3.2.1.2.1, r3.2.1.2.2.1, ()), (), ())))
  else
  some (.inr (((), ()), ((a.2.1.1, a.2.1.2.1, a.2.1.2.2.1, ()), (), (), ()))))
noncomputable def wire_Rows_e1 : LE CT Tryz.prog := ⟨3, [0, 9, 10, 11], [.one (.ptr 0 0), .one (.sl 17), .one (.int .i64), .one (.int .i64)], [.obj 95 [.bool, .bool, .own 1 1], .row 5 1], [⟨.exit 0, [0], [.one (.ptr 0 0)], [.obj 95 [.bool, .bool, .own 1 2], .dead, .row 5 1]⟩], wire_Rows_l1⟩
noncomputable def wire_Rows_lt : List (LE CT Tryz.prog) := [wire_Rows_e1]
theorem wire_Rows_e1_ok : LeOk wire_Rows_e1 (nthL (bodyOf Tryz.f87) 0) := fun A env h k z hk => le_ok (E := wire_Rows_e1) (orcOf_ok wire_Rows_tb) (dr := wire_Rows_dr) (lps := lpsOf wire_Rows_lt) (no_loop (by kernel_rfl)) (fun a => by kernel_rfl) env h k z hk
noncomputable def wire_Rows (x1 : List (List (UInt8))) (h0 : (Bool) × (Bool) × (List (UInt8)) × Unit) : Option ((Unit) × (((Bool) × (Bool) × (List (UInt8)) × Unit) × (Unit) × (Unit) × Unit)) :=
  (wire_known (h0.1, h0.2.1, h0.2.2.1, ())).bind fun r1 =>
  (bif r1.1 then
  (loopM wire_Rows_l1 (((), x1, (x1.length : Int), 0, ()), ((r1.2.1.1, r1.2.1.2.1, r1.2.1.2.2.1, ()), (), ()))).bind fun b2 =>
  some ((), ((b2.2.1.1, b2.2.1.2.1, b2.2.1.2.2.1, ()), (), (), ()))
  else
  some ((), ((r1.2.1.1, r1.2.1.2.1, r1.2.1.2.2.1, ()), (), (), ())))
noncomputable def wire_Rows_ce : CE CT Tryz.prog where
  f := 87
  args := [.one (.ptr 0 0), .one (.sl 17)]
  hs := [.obj 95 [.bool, .bool, .own 1 1], .row 5 1]
  res := .val (.one (.ptr 0 0))
  outs := [.obj 95 [.bool, .bool, .own 1 2], .dead, .row 5 1]
  m := fun d dh => wire_Rows d.2.1 dh.1
  ok := ce_ok mixedP Tryz.func87 (by kernel_rfl) (orcOf_ok wire_Rows_tb) (dr := wire_Rows_dr) (lps := lpsOf wire_Rows_lt) (lps_fn (lps_of (n := 1) (by kernel_rfl) fun i hi => match i, hi with | 0, _ => lp_ok (E := wire_Rows_e1) (by kernel_rfl) wire_Rows_e1_ok)) (fun d dh => by kernel_rfl)

def wire_Texts_dr : Nat → DrA
  | _ => ⟨[], [], [], [], [], false, []⟩
noncomputable def wire_Texts_tb : List (CE CT Tryz.prog) := [wire_known_ce, wire_Rows_ce]
noncomputable def wire_Texts_l1 (a : ((Unit) × (Nat × Nat × Nat) × (Int) × (Int) × Unit) × (((Bool) × (Bool) × (List (UInt8)) × Unit) × (List (List UInt8)) × (Unit) × Unit)) : Option ((((Unit) × (Nat × Nat × Nat) × (Int) × (Int) × Unit) × (((Bool) × (Bool) × (List (UInt8)) × Unit) × (List (List UInt8)) × (Unit) × Unit)) ⊕ ((((Unit) × Unit) × (((Bool) × (Bool) × (List (UInt8)) × Unit) × (List (List UInt8)) × (Unit) × (Unit) × Unit)))) :=
  (bif (decide ((a.1.2.2.2.1 : Int) < a.1.2.2.1)) then
  (if 0 ≤ (a.1.2.2.2.1 : Int) ∧ (a.1.2.2.2.1 : Int) < ((a.1.2.1.2.1 : Nat) : Int) then
  (a.2.2.1[(a.1.2.1.1 + (a.1.2.2.2.1 : Int).toNat)]?).bind fun e1 =>
  (if e1.length ≤ 140737488355328 then
  (wire_Rows ([e1] : List (List (UInt8))) (a.2.1.1, a.2.1.2.1, a.2.1.2.2.1, ())).bind fun r2 =>
  some (.inl (((), (a.1.2.1.1, a.1.2.1.2.1, a.1.2.1.2.2), a.1.2.2.1, (IntKind.i64.wrap (a.1.2.2.2.1 + 1)), ()), ((r2.2.1.1, r2.2.1.2.1, r2.2.1.2.2.1, ()), a.2.2.1, (), ())))
  else none)
  else none)
  else
  some (.inr (((), ()), ((a.2.1.1, a.2.1.2.1, a.2.1.2.2.1, ()), a.2.2.1, (), (), ()))))
noncomputable def wire_Texts_e1 : LE CT Tryz.prog := ⟨3, [0, 9, 10, 11], [.one (.ptr 0 0), .one (.as 2 1), .one (.int .i64), .one (.int .i64)], [.obj 95 [.bool, .bool, .own 1 2], .arr 9 2 true, .row 5 1], [⟨.exit 0, [0], [.one (.ptr 0 0)], [.obj 95 [.bool, .bool, .own 1 3], .arr 9 2 true, .dead, .row 5 1]⟩], wire_Texts_l1⟩
noncomputable def wire_Texts_lt : List (LE CT Tryz.prog) := [wire_Texts_e1]
theorem wire_Texts_e1_ok : LeOk wire_Texts_e1 (nthL (bodyOf Tryz.f54) 0) := fun A env h k z hk => le_ok (E := wire_Texts_e1) (orcOf_ok wire_Texts_tb) (dr := wire_Texts_dr) (lps := lpsOf wire_Texts_lt) (no_loop (by kernel_rfl)) (fun a => by kernel_rfl) env h k z hk
noncomputable def wire_Texts (x1 : Nat × Nat × Nat) (h0 : (Bool) × (Bool) × (List (UInt8)) × Unit) (h1 : List (List UInt8)) : Option ((Unit) × (((Bool) × (Bool) × (List (UInt8)) × Unit) × (List (List UInt8)) × (Unit) × (Unit) × Unit)) :=
  (wire_known (h0.1, h0.2.1, h0.2.2.1, ())).bind fun r1 =>
  (bif r1.1 then
  (loopM wire_Texts_l1 (((), (x1.1, x1.2.1, x1.2.2), ((x1.2.1 : Nat) : Int), 0, ()), ((r1.2.1.1, r1.2.1.2.1, r1.2.1.2.2.1, ()), h1, (), ()))).bind fun b2 =>
  some ((), ((b2.2.1.1, b2.2.1.2.1, b2.2.1.2.2.1, ()), b2.2.2.1, (), (), ()))
  else
  some ((), ((r1.2.1.1, r1.2.1.2.1, r1.2.1.2.2.1, ()), h1, (), (), ())))
noncomputable def wire_Texts_ce : CE CT Tryz.prog where
  f := 54
  args := [.one (.ptr 0 0), .one (.as 2 1)]
  hs := [.obj 95 [.bool, .bool, .own 1 2], .arr 9 2 true, .row 5 1]
  res := .val (.one (.ptr 0 0))
  outs := [.obj 95 [.bool, .bool, .own 1 3], .arr 9 2 true, .dead, .row 5 1]
  m := fun d dh => wire_Texts d.2.1 dh.1 dh.2.1
  ok := ce_ok mixedP Tryz.func54 (by kernel_rfl) (orcOf_ok wire_Texts_tb) (dr := wire_Texts_dr) (lps := lpsOf wire_Texts_lt) (lps_fn (lps_of (n := 1) (by kernel_rfl) fun i hi => match i, hi with | 0, _ => lp_ok (E := wire_Texts_e1) (by kernel_rfl) wire_Texts_e1_ok)) (fun d dh => by kernel_rfl)

def wire_Numbers_2_dr : Nat → DrA
  | _ => ⟨[], [], [], [], [], false, []⟩
noncomputable def wire_Numbers_2_tb : List (CE CT Tryz.prog) := [wire_known_ce, wire_number_ce]
noncomputable def wire_Numbers_2_l1 (a : ((Unit) × (Nat × Nat × Nat) × (Int) × (Int) × Unit) × (((Bool) × (Bool) × (List (UInt8)) × Unit) × (List (Int)) × (Unit) × Unit)) : Option ((((Unit) × (Nat × Nat × Nat) × (Int) × (Int) × Unit) × (((Bool) × (Bool) × (List (UInt8)) × Unit) × (List (Int)) × (Unit) × Unit)) ⊕ ((((Unit) × Unit) × (((Bool) × (Bool) × (List (UInt8)) × Unit) × (List (Int)) × (Unit) × (Unit) × Unit)))) :=
  (bif (decide ((a.1.2.2.2.1 : Int) < a.1.2.2.1)) then
  (if 0 ≤ (a.1.2.2.2.1 : Int) ∧ (a.1.2.2.2.1 : Int) < ((a.1.2.1.2.1 : Nat) : Int) then
  (a.2.2.1[(a.1.2.1.1 + (a.1.2.2.2.1 : Int).toNat)]?).bind fun e1 =>
  (wire_number e1 (a.2.1.1, a.2.1.2.1, a.2.1.2.2.1, ())).bind fun r2 =>
  some (.inl (((), (a.1.2.1.1, a.1.2.1.2.1, a.1.2.1.2.2), a.1.2.2.1, (IntKind.i64.wrap (a.1.2.2.2.1 + 1)), ()), ((r2.2.1.1, r2.2.1.2.1, r2.2.1.2.2.1, ()), a.2.2.1, (), ())))
  else none)
  else
  some (.inr (((), ()), ((a.2.1.1, a.2.1.2.1, a.2.1.2.2.1, ()), a.2.2.1, (), (), ()))))
noncomputable def wire_Numbers_2_e1 : LE CT Tryz.prog := ⟨3, [0, 9, 10, 11], [.one (.ptr 0 0), .one (.as 0 1), .one (.int .i64), .one (.int .i64)], [.obj 95 [.bool, .bool, .own 1 2], .arr 3 0 true, .row 5 1], [⟨.exit 0, [0], [.one (.ptr 0 0)], [.obj 95 [.bool, .bool, .own 1 3], .arr 3 0 true, .dead, .row 5 1]⟩], wire_Numbers_2_l1⟩
noncomputable def wire_Numbers_2_lt : List (LE CT Tryz.prog) := [wire_Numbers_2_e1]
theorem wire_Numbers_2_e1_ok : LeOk wire_Numbers_2_e1 (nthL (bodyOf Tryz.f53) 0) := fun A env h k z hk => le_ok (E := wire_Numbers_2_e1) (orcOf_ok wire_Numbers_2_tb) (dr := wire_Numbers_2_dr) (lps := lpsOf wire_Numbers_2_lt) (no_loop (by kernel_rfl)) (fun a => by kernel_rfl) env h k z hk
noncomputable def wire_Numbers_2 (x1 : Nat × Nat × Nat) (h0 : (Bool) × (Bool) × (List (UInt8)) × Unit) (h1 : List (Int)) : Option ((Unit) × (((Bool) × (Bool) × (List (UInt8)) × Unit) × (List (Int)) × (Unit) × (Unit) × Unit)) :=
  (wire_known (h0.1, h0.2.1, h0.2.2.1, ())).bind fun r1 =>
  (bif r1.1 then
  (loopM wire_Numbers_2_l1 (((), (x1.1, x1.2.1, x1.2.2), ((x1.2.1 : Nat) : Int), 0, ()), ((r1.2.1.1, r1.2.1.2.1, r1.2.1.2.2.1, ()), h1, (), ()))).bind fun b2 =>
  some ((), ((b2.2.1.1, b2.2.1.2.1, b2.2.1.2.2.1, ()), b2.2.2.1, (), (), ()))
  else
  some ((), ((r1.2.1.1, r1.2.1.2.1, r1.2.1.2.2.1, ()), h1, (), (), ())))
noncomputable def wire_Numbers_2_ce : CE CT Tryz.prog where
  f := 53
  args := [.one (.ptr 0 0), .one (.as 0 1)]
  hs := [.obj 95 [.bool, .bool, .own 1 2], .arr 3 0 true, .row 5 1]
  res := .val (.one (.ptr 0 0))
  outs := [.obj 95 [.bool, .bool, .own 1 3], .arr 3 0 true, .dead, .row 5 1]
  m := fun d dh => wire_Numbers_2 d.2.1 dh.1 dh.2.1
  ok := ce_ok mixedP Tryz.func53 (by kernel_rfl) (orcOf_ok wire_Numbers_2_tb) (dr := wire_Numbers_2_dr) (lps := lpsOf wire_Numbers_2_lt) (lps_fn (lps_of (n := 1) (by kernel_rfl) fun i hi => match i, hi with | 0, _ => lp_ok (E := wire_Numbers_2_e1) (by kernel_rfl) wire_Numbers_2_e1_ok)) (fun d dh => by kernel_rfl)

def scheme_Write_dr : Nat → DrA
  | 1 => ⟨[0, 1, 5, 6, 8, 9, 13, 15, 17, 19, 21, 2, 7, 10, 14, 16, 18, 20, 22, 23, 3, 4, 11, 12, 24, 25, 26], [[], [], [1], [1, 2], [0, 1, 2, 3], [], [5], [5, 6], [], [8], [8, 9], [5, 6, 7, 8, 9, 10], [0, 1, 2, 3, 4, 5, 6, 7, 8, 9, 10, 11], [], [13], [], [15], [], [17], [], [19], [], [21], [21, 22], [13, 14, 15, 16, 17, 18, 19, 20, 21, 22, 23], [0, 1, 2, 3, 4, 5, 6, 7, 8, 9, 10, 11, 12, 13, 14, 15, 16, 17, 18, 19, 20, 21, 22, 23, 24], [0, 1, 2, 3, 4, 5, 6, 7, 8, 9, 10, 11, 12, 13, 14, 15, 16, 17, 18, 19, 20, 21, 22, 23, 24, 25]], [7, 10, 14, 16, 18, 20, 22], [4, 12], [2], false, [11, 24]⟩
  | _ => ⟨[], [], [], [], [], false, []⟩
noncomputable def scheme_Write_tb : List (CE CT Tryz.prog) := [wire_Numbers_ce, wire_Texts_ce, wire_Numbers_2_ce]
noncomputable def scheme_Write_lt : List (LE CT Tryz.prog) := []
noncomputable def scheme_Write (x1 : DScheme) (h0 : (Bool) × (Bool) × (List (UInt8)) × Unit) : Option ((Unit) × (((Bool) × (Bool) × (List (UInt8)) × Unit) × (Unit) × (Unit) × Unit)) :=
  (wire_Numbers ([x1.num] : List (Int)) (h0.1, h0.2.1, h0.2.2.1, ())).bind fun r1 =>
  (wire_Texts (0, 2, 2) (r1.2.1.1, r1.2.1.2.1, r1.2.1.2.2.1, ()) ([x1.span.lo, x1.span.hi] : List (List UInt8))).bind fun r2 =>
  (wire_Numbers_2 (0, 5, 5) (r2.2.1.1, r2.2.1.2.1, r2.2.1.2.2.1, ()) ([x1.from_, x1.to_, x1.epoch, x1.under, (IntKind.i64.wrap x1.stage)] : List (Int))).bind fun r3 =>
  some ((), ((r3.2.1.1, r3.2.1.2.1, r3.2.1.2.2.1, ()), (), (), ()))
noncomputable def scheme_Write_ce : CE CT Tryz.prog where
  f := 22
  args := [.one (.ptr 0 0), .cod 9]
  hs := [.obj 95 [.bool, .bool, .own 1 1], .row 5 1]
  res := .val (.one (.ptr 0 0))
  outs := [.obj 95 [.bool, .bool, .own 1 2], .dead, .row 5 1]
  m := fun d dh => scheme_Write d.2.1 dh.1
  ok := ce_ok mixedP Tryz.func22 (by kernel_rfl) (orcOf_ok scheme_Write_tb) (dr := scheme_Write_dr) (lps := lpsOf scheme_Write_lt) (lps_fn (no_loop (by kernel_rfl))) (fun d dh => by kernel_rfl)

noncomputable def clone56 (x : List (UInt8)) : Option ((List (UInt8)) × (Unit × Unit)) :=
  if x.length ≤ 140737488355328 ∧ x.length * 1 ≤ 140737488355328 then some (x, ((), ())) else none
noncomputable def clone56_ce : CE CT Tryz.prog where
  f := 56
  args := [.one (.sl 1)]
  hs := []
  res := .val (.one (.own 1 0))
  outs := [.row 5 1]
  m := fun d dh => clone56 d.1
  ok := fun d dh r hr => by
    unfold clone56 at hr
    split at hr
    · rename_i hroom
      injection hr with hr
      subst hr
      exact clone_tr mixedP Tryz.func56 (by kernel_rfl) rfl rfl (zv := .int .u8 0) (he := by kernel_rfl) (hsz := by kernel_rfl) (hz := by kernel_rfl) (hby := by kernel_rfl) rfl rfl d.1 hroom
    · cases hr

def wire_Done_dr : Nat → DrA
  | _ => ⟨[], [], [], [], [], false, []⟩
noncomputable def wire_Done_tb : List (CE CT Tryz.prog) := [wire_known_ce, clone56_ce]
noncomputable def wire_Done_lt : List (LE CT Tryz.prog) := []
noncomputable def wire_Done (h0 : (Bool) × (Bool) × (List (UInt8)) × Unit) : Option (((List (UInt8)) × (Int) × Unit) × (((Bool) × (Bool) × (List (UInt8)) × Unit) × (Unit) × (Unit) × (Unit) × Unit)) :=
  (wire_known (h0.1, h0.2.1, h0.2.2.1, ())).bind fun r1 =>
  (bif (!r1.1) then
  some (([], 1, ()), ((r1.2.1.1, r1.2.1.2.1, r1.2.1.2.2.1, ()), (), (), (), ()))
  else
  (bif r1.2.1.2.1 then
  some (([], 2, ()), ((r1.2.1.1, r1.2.1.2.1, r1.2.1.2.2.1, ()), (), (), (), ()))
  else
  (clone56 r1.2.1.2.2.1).bind fun r2 =>
  some ((r2.1, 0, ()), ((r1.2.1.1, r1.2.1.2.1, r1.2.1.2.2.1, ()), (), (), (), ()))))
noncomputable def wire_Done_ce : CE CT Tryz.prog where
  f := 24
  args := [.one (.ptr 0 0)]
  hs := [.obj 95 [.bool, .bool, .own 1 1], .row 5 1]
  res := .tup [.one (.own 1 2), .one (.int .i64)]
  outs := [.obj 95 [.bool, .bool, .own 1 3], .dead, .row 5 1, .row 5 1]
  m := fun d dh => wire_Done dh.1
  ok := ce_ok mixedP Tryz.func24 (by kernel_rfl) (orcOf_ok wire_Done_tb) (dr := wire_Done_dr) (lps := lpsOf wire_Done_lt) (lps_fn (no_loop (by kernel_rfl))) (fun d dh => by kernel_rfl)

def watershedref02_Number_dr : Nat → DrA
  | 3 => ⟨[], [], [], [], [], true, []⟩
  | _ => ⟨[], [], [], [], [], false, []⟩
noncomputable def watershedref02_Number_tb : List (CE CT Tryz.prog) := []
noncomputable def watershedref02_Number_l1 (a : ((Int) × (Nat) × Unit) × ((List (UInt8)) × Unit)) : Option ((((Int) × (Nat) × Unit) × ((List (UInt8)) × Unit)) ⊕ ((((Nat) × Unit) × ((Unit) × (List (UInt8)) × Unit)))) :=
  (bif (decide ((0 : Int) < a.1.1)) then
  (if 0 ≤ ((IntKind.i64.wrap (((a.1.2.1 : Nat) : Int) - 1)) : Int) ∧ ((IntKind.i64.wrap (((a.1.2.1 : Nat) : Int) - 1)) : Int) < ((a.1.2.1 : Nat) : Int) then
  (a.2.1[(0 + ((IntKind.i64.wrap (((a.1.2.1 : Nat) : Int) - 1)) : Int).toNat)]?).bind fun e1 =>
  (if 0 ≤ ((IntKind.i64.wrap (((a.1.2.1 : Nat) : Int) - 1)) : Int) ∧ ((IntKind.i64.wrap (((a.1.2.1 : Nat) : Int) - 1)) : Int) < ((a.1.2.1 : Nat) : Int) then
  (a.2.1[(0 + ((IntKind.i64.wrap (((a.1.2.1 : Nat) : Int) - 1)) : Int).toNat)]?).bind fun e2 =>
  (b8 (IntKind.u8.wrap ((BitVec.ofInt (IntKind.u8.bits) (e1.toNat : Int) ||| BitVec.ofInt (IntKind.u8.bits) 128).toNat))).bind fun u3 =>
  let y4 : List (UInt8) := (a.2.1.set (0 + ((IntKind.i64.wrap (((a.1.2.1 : Nat) : Int) - 1)) : Int).toNat) u3)
  (b8 (IntKind.u8.wrap (IntKind.i64.wrap ((BitVec.ofInt (IntKind.i64.bits) a.1.1 &&& BitVec.ofInt (IntKind.i64.bits) 127).toNat)))).bind fun u5 =>
  (if (a.1.2.1 + ([u5] : List (UInt8)).length) ≤ 140737488355328 ∧ (a.1.2.1 + ([u5] : List (UInt8)).length) * 1 ≤ 140737488355328 ∧ 0 + a.1.2.1 ≤ y4.length then
  some (.inl ((((a.1.1 : Int).fdiv (2 ^ min (7 : Int).toNat (IntKind.i64.bits))), (a.1.2.1 + ([u5] : List (UInt8)).length), ()), ((y4.take a.1.2.1 ++ ([u5] : List (UInt8))), ())))
  else none)
  else none)
  else none)
  else
  some (.inr ((a.1.2.1, ()), ((), a.2.1, ()))))
noncomputable def watershedref02_Number_e1 : LE CT Tryz.prog := ⟨5, [0, 4], [.one (.int .i64), .one (.asz 1 0)], [.arr 5 1 false], [⟨.exit 0, [4], [.one (.asz 1 1)], [.dead, .arr 5 1 false]⟩], watershedref02_Number_l1⟩
noncomputable def watershedref02_Number_lt : List (LE CT Tryz.prog) := [watershedref02_Number_e1]
theorem watershedref02_Number_e1_ok : LeOk watershedref02_Number_e1 (nthL (bodyOf Tryz.f88) 0) := fun A env h k z hk => le_ok (E := watershedref02_Number_e1) (orcOf_ok watershedref02_Number_tb) (dr := watershedref02_Number_dr) (lps := lpsOf watershedref02_Number_lt) (no_loop (by kernel_rfl)) (fun a => by kernel_rfl) env h k z hk
noncomputable def watershedref02_Number (x0 : Int) : Option (((Nat) × (Bool) × Unit) × ((List (UInt8)) × Unit)) :=
  (bif (decide ((x0 : Int) < 0)) then
  some ((0, false, ()), ([], ()))
  else
  (bif (decide ((4611686018427387903 : Int) < x0)) then
  some ((0, false, ()), ([], ()))
  else
  (b8 (IntKind.u8.wrap (IntKind.i64.wrap ((BitVec.ofInt (IntKind.i64.bits) x0 &&& BitVec.ofInt (IntKind.i64.bits) 127).toNat)))).bind fun u1 =>
  (loopM watershedref02_Number_l1 ((((x0 : Int).fdiv (2 ^ min (7 : Int).toNat (IntKind.i64.bits))), 1, ()), (([u1] : List (UInt8)), ()))).bind fun b2 =>
  some ((b2.1.1, true, ()), (b2.2.2.1, ()))))
noncomputable def watershedref02_Number_ce : CE CT Tryz.prog where
  f := 88
  args := [.one (.int .i64)]
  hs := []
  res := .tup [.one (.asz 1 0), .one (.bool)]
  outs := [.arr 5 1 false]
  m := fun d dh => watershedref02_Number d.1
  ok := ce_ok mixedP Tryz.func88 (by kernel_rfl) (orcOf_ok watershedref02_Number_tb) (dr := watershedref02_Number_dr) (lps := lpsOf watershedref02_Number_lt) (lps_fn (lps_of (n := 1) (by kernel_rfl) fun i hi => match i, hi with | 0, _ => lp_ok (E := watershedref02_Number_e1) (by kernel_rfl) watershedref02_Number_e1_ok)) (fun d dh => by kernel_rfl)

noncomputable def watershedref02_Number_n (x0 : Int) := (watershedref02_Number x0).bind fun r => if r.1.1 ≤ r.2.1.length then some ((r.2.1.take r.1.1, r.1.2), ()) else none
noncomputable def watershedref02_Number_n_ce : CE CT Tryz.prog where
  f := 88
  args := [.one (.int .i64)]
  hs := []
  res := .tup [.one (.sl 1), .one (.bool)]
  outs := []
  m := fun d dh => watershedref02_Number_n d.1
  ok := fun d dh r hr => by
    unfold watershedref02_Number_n at hr
    obtain ⟨⟨n, xs, u⟩, h1, h2⟩ := bind_some' hr
    dsimp only at h2
    split at h2
    · rename_i hc
      injection h2 with h2
      subst h2
      exact Tr.tellT hc rfl (watershedref02_Number_ce.ok d dh _ h1)
    · cases h2

def watershedref02_Flag_dr : Nat → DrA
  | _ => ⟨[], [], [], [], [], false, []⟩
noncomputable def watershedref02_Flag_tb : List (CE CT Tryz.prog) := []
noncomputable def watershedref02_Flag_lt : List (LE CT Tryz.prog) := []
noncomputable def watershedref02_Flag (x0 : Bool) : Option ((List (UInt8)) × ((Unit) × Unit)) :=
  (bif x0 then
  (b8 1).bind fun u1 =>
  some (([u1] : List (UInt8)), ((), ()))
  else
  (b8 0).bind fun u2 =>
  some (([u2] : List (UInt8)), ((), ())))
noncomputable def watershedref02_Flag_ce : CE CT Tryz.prog where
  f := 89
  args := [.one (.bool)]
  hs := []
  res := .val (.one (.own 1 0))
  outs := [.row 5 1]
  m := fun d dh => watershedref02_Flag d.1
  ok := ce_ok mixedP Tryz.func89 (by kernel_rfl) (orcOf_ok watershedref02_Flag_tb) (dr := watershedref02_Flag_dr) (lps := lpsOf watershedref02_Flag_lt) (lps_fn (no_loop (by kernel_rfl))) (fun d dh => by kernel_rfl)

def watershedref02_Row_dr : Nat → DrA
  | _ => ⟨[], [], [], [], [], false, []⟩
noncomputable def watershedref02_Row_tb : List (CE CT Tryz.prog) := [watershedref02_Number_ce]
noncomputable def watershedref02_Row_lt : List (LE CT Tryz.prog) := []
noncomputable def watershedref02_Row (x0 : List (UInt8)) : Option ((Nat) × ((List (UInt8)) × Unit)) :=
  (watershedref02_Number (x0.length : Int)).bind fun r1 =>
  (if (r1.1.1 + x0.length) ≤ 140737488355328 ∧ (r1.1.1 + x0.length) * 1 ≤ 140737488355328 ∧ 0 + r1.1.1 ≤ r1.2.1.length then
  some ((r1.1.1 + x0.length), ((r1.2.1.take r1.1.1 ++ x0), ()))
  else none)
noncomputable def watershedref02_Row_ce : CE CT Tryz.prog where
  f := 90
  args := [.one (.sl 1)]
  hs := []
  res := .val (.one (.asz 1 0))
  outs := [.arr 5 1 false]
  m := fun d dh => watershedref02_Row d.1
  ok := ce_ok mixedP Tryz.func90 (by kernel_rfl) (orcOf_ok watershedref02_Row_tb) (dr := watershedref02_Row_dr) (lps := lpsOf watershedref02_Row_lt) (lps_fn (no_loop (by kernel_rfl))) (fun d dh => by kernel_rfl)

noncomputable def watershedref02_Row_n (x0 : List (UInt8)) := (watershedref02_Row x0).bind fun r => if r.1 ≤ r.2.1.length then some (r.2.1.take r.1, ()) else none
noncomputable def watershedref02_Row_n_ce : CE CT Tryz.prog where
  f := 90
  args := [.one (.sl 1)]
  hs := []
  res := .val (.one (.sl 1))
  outs := []
  m := fun d dh => watershedref02_Row_n d.1
  ok := fun d dh r hr => by
    unfold watershedref02_Row_n at hr
    obtain ⟨⟨n, xs, u⟩, h1, h2⟩ := bind_some' hr
    dsimp only at h2
    split at h2
    · rename_i hc
      injection h2 with h2
      subst h2
      exact Tr.tellS hc (watershedref02_Row_ce.ok d dh _ h1)
    · cases h2

def watershedref02_Write_dr : Nat → DrA
  | _ => ⟨[], [], [], [], [], false, []⟩
noncomputable def watershedref02_Write_tb : List (CE CT Tryz.prog) := [watershedref02_Number_n_ce, watershedref02_Flag_ce, watershedref02_Row_n_ce]
noncomputable def watershedref02_Write_l1 (a : ((List (Int)) × (List (Bool)) × (List (List UInt8)) × (List (List (UInt8))) × (List (UInt8)) × (Int) × Unit) × ((Unit) × Unit)) : Option ((((List (Int)) × (List (Bool)) × (List (List UInt8)) × (List (List (UInt8))) × (List (UInt8)) × (Int) × Unit) × ((Unit) × Unit)) ⊕ ((((Unit) × (Int) × Unit) × ((Unit) × Unit)) ⊕ (((List (Bool)) × (List (List UInt8)) × (List (List (UInt8))) × (List (UInt8)) × Unit) × ((Unit) × (Unit) × Unit)))) :=
  (bif (decide ((a.1.2.2.2.2.2.1 : Int) < (a.1.1.length : Int))) then
  (getI a.1.1 a.1.2.2.2.2.2.1).bind fun e1 =>
  (watershedref02_Number_n e1).bind fun r2 =>
  (bif (!r2.1.2.1) then
  some (.inr (.inl (((), 2, ()), ((), ()))))
  else
  (if a.1.2.2.2.2.1.length + r2.1.1.length ≤ 140737488355328 ∧ (a.1.2.2.2.2.1.length + r2.1.1.length) * 1 ≤ 140737488355328 then
  some (.inl ((a.1.1, a.1.2.1, a.1.2.2.1, a.1.2.2.2.1, (a.1.2.2.2.2.1 ++ r2.1.1), (IntKind.i64.wrap (a.1.2.2.2.2.2.1 + 1)), ()), ((), ())))
  else none))
  else
  some (.inr (.inr ((a.1.2.1, a.1.2.2.1, a.1.2.2.2.1, a.1.2.2.2.2.1, ()), ((), (), ())))))
noncomputable def watershedref02_Write_e1 : LE CT Tryz.prog := ⟨3, [0, 1, 2, 3, 10, 11], [.one (.sl 0), .one (.sl 18), .one (.sl 2), .one (.sl 17), .one (.own 1 0), .one (.int .i64)], [.row 5 1], [⟨.ret, [8, 9], [.one (.nil), .one (.int .i64)], [.dead]⟩, ⟨.exit 0, [1, 2, 3, 10], [.one (.sl 18), .one (.sl 2), .one (.sl 17), .one (.own 1 1)], [.dead, .row 5 1]⟩], watershedref02_Write_l1⟩
noncomputable def watershedref02_Write_l2 (a : ((List (Bool)) × (List (List UInt8)) × (List (List (UInt8))) × (List (UInt8)) × (Int) × Unit) × ((Unit) × Unit)) : Option ((((List (Bool)) × (List (List UInt8)) × (List (List (UInt8))) × (List (UInt8)) × (Int) × Unit) × ((Unit) × Unit)) ⊕ ((((List (List UInt8)) × (List (List (UInt8))) × (List (UInt8)) × Unit) × ((Unit) × (Unit) × Unit)))) :=
  (bif (decide ((a.1.2.2.2.2.1 : Int) < (a.1.1.length : Int))) then
  (getI a.1.1 a.1.2.2.2.2.1).bind fun e1 =>
  (watershedref02_Flag e1).bind fun r2 =>
  (if a.1.2.2.2.1.length + r2.1.length ≤ 140737488355328 ∧ (a.1.2.2.2.1.length + r2.1.length) * 1 ≤ 140737488355328 then
  some (.inl ((a.1.1, a.1.2.1, a.1.2.2.1, (a.1.2.2.2.1 ++ r2.1), (IntKind.i64.wrap (a.1.2.2.2.2.1 + 1)), ()), ((), ())))
  else none)
  else
  some (.inr ((a.1.2.1, a.1.2.2.1, a.1.2.2.2.1, ()), ((), (), ()))))
noncomputable def watershedref02_Write_e2 : LE CT Tryz.prog := ⟨10, [1, 2, 3, 10, 14], [.one (.sl 18), .one (.sl 2), .one (.sl 17), .one (.own 1 0), .one (.int .i64)], [.row 5 1], [⟨.exit 2, [2, 3, 10], [.one (.sl 2), .one (.sl 17), .one (.own 1 1)], [.dead, .row 5 1]⟩], watershedref02_Write_l2⟩
noncomputable def watershedref02_Write_l3 (a : ((List (List UInt8)) × (List (List (UInt8))) × (List (UInt8)) × (Int) × Unit) × ((Unit) × Unit)) : Option ((((List (List UInt8)) × (List (List (UInt8))) × (List (UInt8)) × (Int) × Unit) × ((Unit) × Unit)) ⊕ ((((List (List (UInt8))) × (List (UInt8)) × Unit) × ((Unit) × (Unit) × Unit)))) :=
  (bif (decide ((a.1.2.2.2.1 : Int) < (a.1.1.length : Int))) then
  (getI a.1.1 a.1.2.2.2.1).bind fun e1 =>
  (if e1.length ≤ 140737488355328 then
  (watershedref02_Row_n e1).bind fun r2 =>
  (if a.1.2.2.1.length + r2.1.length ≤ 140737488355328 ∧ (a.1.2.2.1.length + r2.1.length) * 1 ≤ 140737488355328 then
  some (.inl ((a.1.1, a.1.2.1, (a.1.2.2.1 ++ r2.1), (IntKind.i64.wrap (a.1.2.2.2.1 + 1)), ()), ((), ())))
  else none)
  else none)
  else
  some (.inr ((a.1.2.1, a.1.2.2.1, ()), ((), (), ()))))
noncomputable def watershedref02_Write_e3 : LE CT Tryz.prog := ⟨14, [2, 3, 10, 15], [.one (.sl 2), .one (.sl 17), .one (.own 1 0), .one (.int .i64)], [.row 5 1], [⟨.exit 4, [3, 10], [.one (.sl 17), .one (.own 1 1)], [.dead, .row 5 1]⟩], watershedref02_Write_l3⟩
noncomputable def watershedref02_Write_l4 (a : ((List (List (UInt8))) × (List (UInt8)) × (Int) × Unit) × ((Unit) × Unit)) : Option ((((List (List (UInt8))) × (List (UInt8)) × (Int) × Unit) × ((Unit) × Unit)) ⊕ ((((List (UInt8)) × Unit) × ((Unit) × (Unit) × Unit)))) :=
  (bif (decide ((a.1.2.2.1 : Int) < (a.1.1.length : Int))) then
  (getI a.1.1 a.1.2.2.1).bind fun e1 =>
  (watershedref02_Row_n e1).bind fun r2 =>
  (if a.1.2.1.length + r2.1.length ≤ 140737488355328 ∧ (a.1.2.1.length + r2.1.length) * 1 ≤ 140737488355328 then
  some (.inl ((a.1.1, (a.1.2.1 ++ r2.1), (IntKind.i64.wrap (a.1.2.2.1 + 1)), ()), ((), ())))
  else none)
  else
  some (.inr ((a.1.2.1, ()), ((), (), ()))))
noncomputable def watershedref02_Write_e4 : LE CT Tryz.prog := ⟨18, [3, 10, 16], [.one (.sl 17), .one (.own 1 0), .one (.int .i64)], [.row 5 1], [⟨.exit 6, [10], [.one (.own 1 1)], [.dead, .row 5 1]⟩], watershedref02_Write_l4⟩
noncomputable def watershedref02_Write_lt : List (LE CT Tryz.prog) := [watershedref02_Write_e1, watershedref02_Write_e2, watershedref02_Write_e3, watershedref02_Write_e4]
theorem watershedref02_Write_e1_ok : LeOk watershedref02_Write_e1 (nthL (bodyOf Tryz.f57) 0) := fun A env h k z hk => le_ok (E := watershedref02_Write_e1) (orcOf_ok watershedref02_Write_tb) (dr := watershedref02_Write_dr) (lps := lpsOf watershedref02_Write_lt) (no_loop (by kernel_rfl)) (fun a => by kernel_rfl) env h k z hk
theorem watershedref02_Write_e2_ok : LeOk watershedref02_Write_e2 (nthL (bodyOf Tryz.f57) 1) := fun A env h k z hk => le_ok (E := watershedref02_Write_e2) (orcOf_ok watershedref02_Write_tb) (dr := watershedref02_Write_dr) (lps := lpsOf watershedref02_Write_lt) (no_loop (by kernel_rfl)) (fun a => by kernel_rfl) env h k z hk
theorem watershedref02_Write_e3_ok : LeOk watershedref02_Write_e3 (nthL (bodyOf Tryz.f57) 2) := fun A env h k z hk => le_ok (E := watershedref02_Write_e3) (orcOf_ok watershedref02_Write_tb) (dr := watershedref02_Write_dr) (lps := lpsOf watershedref02_Write_lt) (no_loop (by kernel_rfl)) (fun a => by kernel_rfl) env h k z hk
theorem watershedref02_Write_e4_ok : LeOk watershedref02_Write_e4 (nthL (bodyOf Tryz.f57) 3) := fun A env h k z hk => le_ok (E := watershedref02_Write_e4) (orcOf_ok watershedref02_Write_tb) (dr := watershedref02_Write_dr) (lps := lpsOf watershedref02_Write_lt) (no_loop (by kernel_rfl)) (fun a => by kernel_rfl) env h k z hk
noncomputable def watershedref02_Write (x0 : List (Int)) (x1 : List (Bool)) (x2 : List (List UInt8)) (x3 : List (List (UInt8))) : Option (((List (UInt8)) × (Int) × Unit) × ((Unit) × Unit)) :=
  (loopM watershedref02_Write_l1 ((x0, x1, x2, x3, [], 0, ()), ((), ()))).bind fun b1 =>
  (match b1 with
  | .inl b2 =>
  some (([], b2.1.2.1, ()), ((), ()))
  | .inr b3 =>
  (loopM watershedref02_Write_l2 ((b3.1.1, b3.1.2.1, b3.1.2.2.1, b3.1.2.2.2.1, 0, ()), ((), ()))).bind fun b4 =>
  (loopM watershedref02_Write_l3 ((b4.1.1, b4.1.2.1, b4.1.2.2.1, 0, ()), ((), ()))).bind fun b5 =>
  (loopM watershedref02_Write_l4 ((b5.1.1, b5.1.2.1, 0, ()), ((), ()))).bind fun b6 =>
  some ((b6.1.1, 0, ()), ((), ())))
noncomputable def watershedref02_Write_ce : CE CT Tryz.prog where
  f := 57
  args := [.one (.sl 0), .one (.sl 18), .one (.sl 2), .one (.sl 17)]
  hs := []
  res := .tup [.one (.own 1 0), .one (.int .i64)]
  outs := [.row 5 1]
  m := fun d dh => watershedref02_Write d.1 d.2.1 d.2.2.1 d.2.2.2.1
  ok := ce_ok mixedP Tryz.func57 (by kernel_rfl) (orcOf_ok watershedref02_Write_tb) (dr := watershedref02_Write_dr) (lps := lpsOf watershedref02_Write_lt) (lps_fn (lps_of (n := 4) (by kernel_rfl) fun i hi => match i, hi with | 0, _ => lp_ok (E := watershedref02_Write_e1) (by kernel_rfl) watershedref02_Write_e1_ok | 1, _ => lp_ok (E := watershedref02_Write_e2) (by kernel_rfl) watershedref02_Write_e2_ok | 2, _ => lp_ok (E := watershedref02_Write_e3) (by kernel_rfl) watershedref02_Write_e3_ok | 3, _ => lp_ok (E := watershedref02_Write_e4) (by kernel_rfl) watershedref02_Write_e4_ok)) (fun d dh => by kernel_rfl)

def watershedref20_Bytes_dr : Nat → DrA
  | _ => ⟨[], [], [], [], [], false, []⟩
noncomputable def watershedref20_Bytes_tb : List (CE CT Tryz.prog) := [watershedref02_Write_ce]
noncomputable def watershedref20_Bytes_lt : List (LE CT Tryz.prog) := []
noncomputable def watershedref20_Bytes (x0 : DScheme) : Option (((List (UInt8)) × (Bool) × Unit) × ((Unit) × Unit)) :=
  (watershedref02_Write ([x0.num] : List (Int)) [] [] []).bind fun r1 =>
  (watershedref02_Write [] [] ([x0.span.lo, x0.span.hi] : List (List UInt8)) []).bind fun r2 =>
  (watershedref02_Write ([x0.from_, x0.to_, x0.epoch, x0.under, (IntKind.i64.wrap x0.stage)] : List (Int)) [] [] []).bind fun r3 =>
  (if r1.1.1.length + r2.1.1.length ≤ 140737488355328 ∧ (r1.1.1.length + r2.1.1.length) * 1 ≤ 140737488355328 then
  (if (r1.1.1 ++ r2.1.1).length + r3.1.1.length ≤ 140737488355328 ∧ ((r1.1.1 ++ r2.1.1).length + r3.1.1.length) * 1 ≤ 140737488355328 then
  (bif (decide ((r1.1.2.1 : Int) = 0)) then
  some ((((r1.1.1 ++ r2.1.1) ++ r3.1.1), (decide ((r3.1.2.1 : Int) = 0)), ()), ((), ()))
  else
  some ((((r1.1.1 ++ r2.1.1) ++ r3.1.1), false, ()), ((), ())))
  else none)
  else none)
noncomputable def watershedref20_Bytes_ce : CE CT Tryz.prog where
  f := 25
  args := [.cod 9]
  hs := []
  res := .tup [.one (.own 1 0), .one (.bool)]
  outs := [.row 5 1]
  m := fun d dh => watershedref20_Bytes d.1
  ok := ce_ok mixedP Tryz.func25 (by kernel_rfl) (orcOf_ok watershedref20_Bytes_tb) (dr := watershedref20_Bytes_dr) (lps := lpsOf watershedref20_Bytes_lt) (lps_fn (no_loop (by kernel_rfl))) (fun d dh => by kernel_rfl)

def watershedkit_SameBytes_dr : Nat → DrA
  | 6 => ⟨[0, 1, 2, 4, 5, 6, 3, 7, 8], [[], [], [0, 1], [0, 1, 2], [], [], [4, 5], [4, 5, 6], [0, 1, 2, 3, 4, 5, 6, 7]], [], [], [], false, []⟩
  | _ => ⟨[], [], [], [], [], false, []⟩
noncomputable def watershedkit_SameBytes_tb : List (CE CT Tryz.prog) := []
noncomputable def watershedkit_SameBytes_l1 (a : ((List (UInt8)) × (List (UInt8)) × (Int) × Unit) × (Unit)) : Option ((((List (UInt8)) × (List (UInt8)) × (Int) × Unit) × (Unit)) ⊕ ((((Bool) × Unit) × (Unit)) ⊕ ((Unit) × (Unit)))) :=
  (bif (decide ((a.1.2.2.1 : Int) < (a.1.1.length : Int))) then
  (getI a.1.1 a.1.2.2.1).bind fun e1 =>
  (getI a.1.2.1 a.1.2.2.1).bind fun e2 =>
  (bif (decide (((e1.toNat : Int) : Int) ≠ (e2.toNat : Int))) then
  some (.inr (.inl ((false, ()), ())))
  else
  some (.inl ((a.1.1, a.1.2.1, (IntKind.i64.wrap (a.1.2.2.1 + 1)), ()), ())))
  else
  some (.inr (.inr ((), ()))))
noncomputable def watershedkit_SameBytes_e1 : LE CT Tryz.prog := ⟨4, [0, 1, 5], [.one (.sl 1), .one (.sl 1), .one (.int .i64)], [], [⟨.ret, [4], [.one (.bool)], []⟩, ⟨.exit 0, [], [], []⟩], watershedkit_SameBytes_l1⟩
noncomputable def watershedkit_SameBytes_lt : List (LE CT Tryz.prog) := [watershedkit_SameBytes_e1]
theorem watershedkit_SameBytes_e1_ok : LeOk watershedkit_SameBytes_e1 (nthL (bodyOf Tryz.f26) 0) := fun A env h k z hk => le_ok (E := watershedkit_SameBytes_e1) (orcOf_ok watershedkit_SameBytes_tb) (dr := watershedkit_SameBytes_dr) (lps := lpsOf watershedkit_SameBytes_lt) (no_loop (by kernel_rfl)) (fun a => by kernel_rfl) env h k z hk
noncomputable def watershedkit_SameBytes (x0 : List (UInt8)) (x1 : List (UInt8)) : Option ((Bool) × (Unit)) :=
  (bif (decide (((x0.length : Int) : Int) ≠ (x1.length : Int))) then
  some (false, ())
  else
  (loopM watershedkit_SameBytes_l1 ((x0, x1, 0, ()), ())).bind fun b1 =>
  (match b1 with
  | .inl b2 =>
  some (b2.1.1, ())
  | .inr b3 =>
  some (true, ())))
noncomputable def watershedkit_SameBytes_ce : CE CT Tryz.prog where
  f := 26
  args := [.one (.sl 1), .one (.sl 1)]
  hs := []
  res := .val (.one (.bool))
  outs := []
  m := fun d dh => watershedkit_SameBytes d.1 d.2.1
  ok := ce_ok mixedP Tryz.func26 (by kernel_rfl) (orcOf_ok watershedkit_SameBytes_tb) (dr := watershedkit_SameBytes_dr) (lps := lpsOf watershedkit_SameBytes_lt) (lps_fn (lps_of (n := 1) (by kernel_rfl) fun i hi => match i, hi with | 0, _ => lp_ok (E := watershedkit_SameBytes_e1) (by kernel_rfl) watershedkit_SameBytes_e1_ok)) (fun d dh => by kernel_rfl)

def wire_NewReader_dr : Nat → DrA
  | _ => ⟨[], [], [], [], [], false, []⟩
noncomputable def wire_NewReader_tb : List (CE CT Tryz.prog) := [clone56_ce]
noncomputable def wire_NewReader_lt : List (LE CT Tryz.prog) := []
noncomputable def wire_NewReader (x0 : List (UInt8)) : Option ((Unit) × (((Bool) × (Bool) × (List (UInt8)) × Unit) × (Unit) × Unit)) :=
  (clone56 x0).bind fun r1 =>
  some ((), ((true, false, r1.1, ()), (), ()))
noncomputable def wire_NewReader_ce : CE CT Tryz.prog where
  f := 27
  args := [.one (.sl 1)]
  hs := []
  res := .val (.one (.ptr 0 0))
  outs := [.obj 103 [.bool, .bool, .own 1 1], .row 5 1]
  m := fun d dh => wire_NewReader d.1
  ok := ce_ok mixedP Tryz.func27 (by kernel_rfl) (orcOf_ok wire_NewReader_tb) (dr := wire_NewReader_dr) (lps := lpsOf wire_NewReader_lt) (lps_fn (no_loop (by kernel_rfl))) (fun d dh => by kernel_rfl)

def wire_on_dr : Nat → DrA
  | _ => ⟨[], [], [], [], [], false, []⟩
noncomputable def wire_on_tb : List (CE CT Tryz.prog) := []
noncomputable def wire_on_lt : List (LE CT Tryz.prog) := []
noncomputable def wire_on (h0 : (Bool) × (Bool) × (List (UInt8)) × Unit) : Option ((Bool) × (((Bool) × (Bool) × (List (UInt8)) × Unit) × (Unit) × (Unit) × Unit)) :=
  (bif h0.1 then
  some ((!h0.2.1), ((h0.1, h0.2.1, h0.2.2.1, ()), (), (), ()))
  else
  some (false, ((h0.1, h0.2.1, h0.2.2.1, ()), (), (), ())))
noncomputable def wire_on_ce : CE CT Tryz.prog where
  f := 63
  args := [.one (.ptr 0 0)]
  hs := [.obj 103 [.bool, .bool, .own 1 1], .row 5 1]
  res := .val (.one (.bool))
  outs := [.obj 103 [.bool, .bool, .own 1 2], .dead, .row 5 1]
  m := fun d dh => wire_on dh.1
  ok := ce_ok mixedP Tryz.func63 (by kernel_rfl) (orcOf_ok wire_on_tb) (dr := wire_on_dr) (lps := lpsOf wire_on_lt) (lps_fn (no_loop (by kernel_rfl))) (fun d dh => by kernel_rfl)

def wire_fail_2_dr : Nat → DrA
  | _ => ⟨[], [], [], [], [], false, []⟩
noncomputable def wire_fail_2_tb : List (CE CT Tryz.prog) := []
noncomputable def wire_fail_2_lt : List (LE CT Tryz.prog) := []
noncomputable def wire_fail_2 (h0 : DReader) : Option ((Unit) × (((Bool) × (Bool) × (List (UInt8)) × Unit) × (Unit) × Unit)) :=
  some ((), ((h0.place.made, true, [], ()), (), ()))
noncomputable def wire_fail_2_ce : CE CT Tryz.prog where
  f := 92
  args := [.one (.ptr 0 0)]
  hs := [.cobj 103 20]
  res := .tup []
  outs := [.obj 103 [.bool, .bool, .own 1 1], .row 5 1]
  m := fun d dh => wire_fail_2 dh.1
  ok := ce_ok mixedP Tryz.func92 (by kernel_rfl) (orcOf_ok wire_fail_2_tb) (dr := wire_fail_2_dr) (lps := lpsOf wire_fail_2_lt) (lps_fn (no_loop (by kernel_rfl))) (fun d dh => by kernel_rfl)

def wire_take_2_dr : Nat → DrA
  | _ => ⟨[], [], [], [], [], false, []⟩
noncomputable def wire_take_2_tb : List (CE CT Tryz.prog) := [wire_fail_2_ce]
noncomputable def wire_take_2_lt : List (LE CT Tryz.prog) := []
noncomputable def wire_take_2 (x1 : Int) (h0 : DReader) : Option ((List (UInt8)) × ((DReader) × Unit)) :=
  (bif (decide (((h0.place.left.length : Int) : Int) < x1)) then
  (wire_fail_2 h0).bind fun r1 =>
  some ([], ((⟨(⟨r1.2.1.1, r1.2.1.2.1, r1.2.1.2.2.1⟩ : DPlace)⟩ : DReader), ()))
  else
  (if 0 ≤ ((0 : Int) : Int) ∧ ((0 : Int) : Int) ≤ x1 ∧ (x1 : Int) ≤ x1 ∧ x1 ≤ (h0.place.left.length : Int) then
  let y2 : List (UInt8) := ((h0.place.left.drop ((0 : Int) : Int).toNat).take ((x1 : Int).toNat - ((0 : Int) : Int).toNat))
  (if 0 ≤ (x1 : Int) ∧ (x1 : Int) ≤ (h0.place.left.length : Int) ∧ (h0.place.left.length : Int) ≤ (h0.place.left.length : Int) then
  let y3 : List (UInt8) := ((h0.place.left.drop (x1 : Int).toNat).take (((h0.place.left.length : Int) : Int).toNat - (x1 : Int).toNat))
  some (y2, ((⟨(⟨h0.place.made, h0.place.failed, y3⟩ : DPlace)⟩ : DReader), ()))
  else none)
  else none))
noncomputable def wire_take_2_ce : CE CT Tryz.prog where
  f := 91
  args := [.one (.ptr 0 0), .one (.int .i64)]
  hs := [.cobj 103 20]
  res := .val (.one (.sl 1))
  outs := [.cobj 103 20]
  m := fun d dh => wire_take_2 d.2.1 dh.1
  ok := ce_ok mixedP Tryz.func91 (by kernel_rfl) (orcOf_ok wire_take_2_tb) (dr := wire_take_2_dr) (lps := lpsOf wire_take_2_lt) (lps_fn (no_loop (by kernel_rfl))) (fun d dh => by kernel_rfl)

def wire_Number_dr : Nat → DrA
  | _ => ⟨[], [], [], [], [], false, []⟩
noncomputable def wire_Number_tb : List (CE CT Tryz.prog) := [wire_on_ce, wire_take_2_ce, wire_fail_2_ce]
noncomputable def wire_Number_l1 (a : ((Unit) × (Int) × (Int) × (Int) × Unit) × ((DReader) × Unit)) : Option ((((Unit) × (Int) × (Int) × (Int) × Unit) × ((DReader) × Unit)) ⊕ ((((Int) × Unit) × ((DReader) × Unit)) ⊕ (((Unit) × Unit) × ((DReader) × Unit)))) :=
  (bif (decide ((a.1.2.2.2.1 : Int) < 63)) then
  (wire_take_2 1 a.2.1).bind fun r1 =>
  (bif r1.2.1.place.failed then
  some (.inr (.inl ((0, ()), (r1.2.1, ()))))
  else
  (getI r1.1 0).bind fun e2 =>
  (if (a.1.2.2.2.1 : Int) < 0 then none else
  let y3 : Int := (IntKind.i64.wrap ((BitVec.ofInt (IntKind.i64.bits) a.1.2.2.1 ||| BitVec.ofInt (IntKind.i64.bits) (IntKind.i64.wrap ((IntKind.i64.wrap (IntKind.u8.wrap ((BitVec.ofInt (IntKind.u8.bits) (e2.toNat : Int) &&& BitVec.ofInt (IntKind.u8.bits) 127).toNat))) * 2 ^ min (a.1.2.2.2.1 : Int).toNat (IntKind.i64.bits)))).toNat))
  (getI r1.1 0).bind fun e4 =>
  (bif (decide (((e4.toNat : Int) : Int) < 128)) then
  (bif (decide ((0 : Int) < a.1.2.2.2.1)) then
  (getI r1.1 0).bind fun e5 =>
  (bif (decide (((e5.toNat : Int) : Int) = 0)) then
  (wire_fail_2 r1.2.1).bind fun r6 =>
  some (.inr (.inl ((0, ()), ((⟨(⟨r6.2.1.1, r6.2.1.2.1, r6.2.1.2.2.1⟩ : DPlace)⟩ : DReader), ()))))
  else
  (bif (decide ((4611686018427387903 : Int) < y3)) then
  (wire_fail_2 r1.2.1).bind fun r7 =>
  some (.inr (.inl ((0, ()), ((⟨(⟨r7.2.1.1, r7.2.1.2.1, r7.2.1.2.2.1⟩ : DPlace)⟩ : DReader), ()))))
  else
  (bif (decide ((a.1.2.1 : Int) < y3)) then
  (wire_fail_2 r1.2.1).bind fun r8 =>
  some (.inr (.inl ((0, ()), ((⟨(⟨r8.2.1.1, r8.2.1.2.1, r8.2.1.2.2.1⟩ : DPlace)⟩ : DReader), ()))))
  else
  some (.inr (.inl ((y3, ()), (r1.2.1, ())))))))
  else
  (bif (decide ((4611686018427387903 : Int) < y3)) then
  (wire_fail_2 r1.2.1).bind fun r9 =>
  some (.inr (.inl ((0, ()), ((⟨(⟨r9.2.1.1, r9.2.1.2.1, r9.2.1.2.2.1⟩ : DPlace)⟩ : DReader), ()))))
  else
  (bif (decide ((a.1.2.1 : Int) < y3)) then
  (wire_fail_2 r1.2.1).bind fun r10 =>
  some (.inr (.inl ((0, ()), ((⟨(⟨r10.2.1.1, r10.2.1.2.1, r10.2.1.2.2.1⟩ : DPlace)⟩ : DReader), ()))))
  else
  some (.inr (.inl ((y3, ()), (r1.2.1, ())))))))
  else
  some (.inl (((), a.1.2.1, y3, (IntKind.i64.wrap (a.1.2.2.2.1 + 7)), ()), (r1.2.1, ()))))))
  else
  some (.inr (.inr (((), ()), (a.2.1, ())))))
noncomputable def wire_Number_e1 : LE CT Tryz.prog := ⟨5, [0, 1, 5, 6], [.one (.ptr 0 0), .one (.int .i64), .one (.int .i64), .one (.int .i64)], [.cobj 103 20], [⟨.ret, [4], [.one (.int .i64)], [.cobj 103 20]⟩, ⟨.exit 0, [0], [.one (.ptr 0 0)], [.cobj 103 20]⟩], wire_Number_l1⟩
noncomputable def wire_Number_lt : List (LE CT Tryz.prog) := [wire_Number_e1]
theorem wire_Number_e1_ok : LeOk wire_Number_e1 (nthL (bodyOf Tryz.f58) 0) := fun A env h k z hk => le_ok (E := wire_Number_e1) (orcOf_ok wire_Number_tb) (dr := wire_Number_dr) (lps := lpsOf wire_Number_lt) (no_loop (by kernel_rfl)) (fun a => by kernel_rfl) env h k z hk
noncomputable def wire_Number (x1 : Int) (h0 : (Bool) × (Bool) × (List (UInt8)) × Unit) : Option ((Int) × ((DReader) × (Unit) × Unit)) :=
  (wire_on (h0.1, h0.2.1, h0.2.2.1, ())).bind fun r1 =>
  (bif (!r1.1) then
  some (0, ((⟨(⟨r1.2.1.1, r1.2.1.2.1, r1.2.1.2.2.1⟩ : DPlace)⟩ : DReader), (), ()))
  else
  (loopM wire_Number_l1 (((), x1, 0, 0, ()), ((⟨(⟨r1.2.1.1, r1.2.1.2.1, r1.2.1.2.2.1⟩ : DPlace)⟩ : DReader), ()))).bind fun b2 =>
  (match b2 with
  | .inl b3 =>
  some (b3.1.1, (b3.2.1, (), ()))
  | .inr b4 =>
  (wire_fail_2 b4.2.1).bind fun r5 =>
  some (0, ((⟨(⟨r5.2.1.1, r5.2.1.2.1, r5.2.1.2.2.1⟩ : DPlace)⟩ : DReader), (), ()))))
noncomputable def wire_Number_ce : CE CT Tryz.prog where
  f := 58
  args := [.one (.ptr 0 0), .one (.int .i64)]
  hs := [.obj 103 [.bool, .bool, .own 1 1], .row 5 1]
  res := .val (.one (.int .i64))
  outs := [.cobj 103 20, .dead]
  m := fun d dh => wire_Number d.2.1 dh.1
  ok := ce_ok mixedP Tryz.func58 (by kernel_rfl) (orcOf_ok wire_Number_tb) (dr := wire_Number_dr) (lps := lpsOf wire_Number_lt) (lps_fn (lps_of (n := 1) (by kernel_rfl) fun i hi => match i, hi with | 0, _ => lp_ok (E := wire_Number_e1) (by kernel_rfl) wire_Number_e1_ok)) (fun d dh => by kernel_rfl)

def wire_on_2_dr : Nat → DrA
  | _ => ⟨[], [], [], [], [], false, []⟩
noncomputable def wire_on_2_tb : List (CE CT Tryz.prog) := []
noncomputable def wire_on_2_lt : List (LE CT Tryz.prog) := []
noncomputable def wire_on_2 (h0 : DReader) : Option ((Bool) × ((DReader) × Unit)) :=
  (bif h0.place.made then
  some ((!h0.place.failed), (h0, ()))
  else
  some (false, (h0, ())))
noncomputable def wire_on_2_ce : CE CT Tryz.prog where
  f := 63
  args := [.one (.ptr 0 0)]
  hs := [.cobj 103 20]
  res := .val (.one (.bool))
  outs := [.cobj 103 20]
  m := fun d dh => wire_on_2 dh.1
  ok := ce_ok mixedP Tryz.func63 (by kernel_rfl) (orcOf_ok wire_on_2_tb) (dr := wire_on_2_dr) (lps := lpsOf wire_on_2_lt) (lps_fn (no_loop (by kernel_rfl))) (fun d dh => by kernel_rfl)

def wire_Number_2_dr : Nat → DrA
  | _ => ⟨[], [], [], [], [], false, []⟩
noncomputable def wire_Number_2_tb : List (CE CT Tryz.prog) := [wire_on_2_ce, wire_take_2_ce, wire_fail_2_ce]
noncomputable def wire_Number_2_l1 (a : ((Unit) × (Int) × (Int) × (Int) × Unit) × ((DReader) × Unit)) : Option ((((Unit) × (Int) × (Int) × (Int) × Unit) × ((DReader) × Unit)) ⊕ ((((Int) × Unit) × ((DReader) × Unit)) ⊕ (((Unit) × Unit) × ((DReader) × Unit)))) :=
  (bif (decide ((a.1.2.2.2.1 : Int) < 63)) then
  (wire_take_2 1 a.2.1).bind fun r1 =>
  (bif r1.2.1.place.failed then
  some (.inr (.inl ((0, ()), (r1.2.1, ()))))
  else
  (getI r1.1 0).bind fun e2 =>
  (if (a.1.2.2.2.1 : Int) < 0 then none else
  let y3 : Int := (IntKind.i64.wrap ((BitVec.ofInt (IntKind.i64.bits) a.1.2.2.1 ||| BitVec.ofInt (IntKind.i64.bits) (IntKind.i64.wrap ((IntKind.i64.wrap (IntKind.u8.wrap ((BitVec.ofInt (IntKind.u8.bits) (e2.toNat : Int) &&& BitVec.ofInt (IntKind.u8.bits) 127).toNat))) * 2 ^ min (a.1.2.2.2.1 : Int).toNat (IntKind.i64.bits)))).toNat))
  (getI r1.1 0).bind fun e4 =>
  (bif (decide (((e4.toNat : Int) : Int) < 128)) then
  (bif (decide ((0 : Int) < a.1.2.2.2.1)) then
  (getI r1.1 0).bind fun e5 =>
  (bif (decide (((e5.toNat : Int) : Int) = 0)) then
  (wire_fail_2 r1.2.1).bind fun r6 =>
  some (.inr (.inl ((0, ()), ((⟨(⟨r6.2.1.1, r6.2.1.2.1, r6.2.1.2.2.1⟩ : DPlace)⟩ : DReader), ()))))
  else
  (bif (decide ((4611686018427387903 : Int) < y3)) then
  (wire_fail_2 r1.2.1).bind fun r7 =>
  some (.inr (.inl ((0, ()), ((⟨(⟨r7.2.1.1, r7.2.1.2.1, r7.2.1.2.2.1⟩ : DPlace)⟩ : DReader), ()))))
  else
  (bif (decide ((a.1.2.1 : Int) < y3)) then
  (wire_fail_2 r1.2.1).bind fun r8 =>
  some (.inr (.inl ((0, ()), ((⟨(⟨r8.2.1.1, r8.2.1.2.1, r8.2.1.2.2.1⟩ : DPlace)⟩ : DReader), ()))))
  else
  some (.inr (.inl ((y3, ()), (r1.2.1, ())))))))
  else
  (bif (decide ((4611686018427387903 : Int) < y3)) then
  (wire_fail_2 r1.2.1).bind fun r9 =>
  some (.inr (.inl ((0, ()), ((⟨(⟨r9.2.1.1, r9.2.1.2.1, r9.2.1.2.2.1⟩ : DPlace)⟩ : DReader), ()))))
  else
  (bif (decide ((a.1.2.1 : Int) < y3)) then
  (wire_fail_2 r1.2.1).bind fun r10 =>
  some (.inr (.inl ((0, ()), ((⟨(⟨r10.2.1.1, r10.2.1.2.1, r10.2.1.2.2.1⟩ : DPlace)⟩ : DReader), ()))))
  else
  some (.inr (.inl ((y3, ()), (r1.2.1, ())))))))
  else
  some (.inl (((), a.1.2.1, y3, (IntKind.i64.wrap (a.1.2.2.2.1 + 7)), ()), (r1.2.1, ()))))))
  else
  some (.inr (.inr (((), ()), (a.2.1, ())))))
noncomputable def wire_Number_2_e1 : LE CT Tryz.prog := ⟨5, [0, 1, 5, 6], [.one (.ptr 0 0), .one (.int .i64), .one (.int .i64), .one (.int .i64)], [.cobj 103 20], [⟨.ret, [4], [.one (.int .i64)], [.cobj 103 20]⟩, ⟨.exit 0, [0], [.one (.ptr 0 0)], [.cobj 103 20]⟩], wire_Number_2_l1⟩
noncomputable def wire_Number_2_lt : List (LE CT Tryz.prog) := [wire_Number_2_e1]
theorem wire_Number_2_e1_ok : LeOk wire_Number_2_e1 (nthL (bodyOf Tryz.f58) 0) := fun A env h k z hk => le_ok (E := wire_Number_2_e1) (orcOf_ok wire_Number_2_tb) (dr := wire_Number_2_dr) (lps := lpsOf wire_Number_2_lt) (no_loop (by kernel_rfl)) (fun a => by kernel_rfl) env h k z hk
noncomputable def wire_Number_2 (x1 : Int) (h0 : DReader) : Option ((Int) × ((DReader) × Unit)) :=
  (wire_on_2 h0).bind fun r1 =>
  (bif (!r1.1) then
  some (0, (r1.2.1, ()))
  else
  (loopM wire_Number_2_l1 (((), x1, 0, 0, ()), (r1.2.1, ()))).bind fun b2 =>
  (match b2 with
  | .inl b3 =>
  some (b3.1.1, (b3.2.1, ()))
  | .inr b4 =>
  (wire_fail_2 b4.2.1).bind fun r5 =>
  some (0, ((⟨(⟨r5.2.1.1, r5.2.1.2.1, r5.2.1.2.2.1⟩ : DPlace)⟩ : DReader), ()))))
noncomputable def wire_Number_2_ce : CE CT Tryz.prog where
  f := 58
  args := [.one (.ptr 0 0), .one (.int .i64)]
  hs := [.cobj 103 20]
  res := .val (.one (.int .i64))
  outs := [.cobj 103 20]
  m := fun d dh => wire_Number_2 d.2.1 dh.1
  ok := ce_ok mixedP Tryz.func58 (by kernel_rfl) (orcOf_ok wire_Number_2_tb) (dr := wire_Number_2_dr) (lps := lpsOf wire_Number_2_lt) (lps_fn (lps_of (n := 1) (by kernel_rfl) fun i hi => match i, hi with | 0, _ => lp_ok (E := wire_Number_2_e1) (by kernel_rfl) wire_Number_2_e1_ok)) (fun d dh => by kernel_rfl)

def wire_Row_dr : Nat → DrA
  | _ => ⟨[], [], [], [], [], false, []⟩
noncomputable def wire_Row_tb : List (CE CT Tryz.prog) := [wire_Number_2_ce, wire_on_2_ce, wire_take_2_ce, clone56_ce]
noncomputable def wire_Row_lt : List (LE CT Tryz.prog) := []
noncomputable def wire_Row (x1 : Int) (h0 : DReader) : Option ((List (UInt8)) × ((DReader) × (Unit) × Unit)) :=
  (wire_Number_2 x1 h0).bind fun r1 =>
  (wire_on_2 r1.2.1).bind fun r2 =>
  (bif (!r2.1) then
  some ([], (r2.2.1, (), ()))
  else
  (wire_take_2 r1.1 r2.2.1).bind fun r3 =>
  (clone56 r3.1).bind fun r4 =>
  some (r4.1, (r3.2.1, (), ())))
noncomputable def wire_Row_ce : CE CT Tryz.prog where
  f := 93
  args := [.one (.ptr 0 0), .one (.int .i64)]
  hs := [.cobj 103 20]
  res := .val (.one (.own 1 1))
  outs := [.cobj 103 20, .row 5 1]
  m := fun d dh => wire_Row d.2.1 dh.1
  ok := ce_ok mixedP Tryz.func93 (by kernel_rfl) (orcOf_ok wire_Row_tb) (dr := wire_Row_dr) (lps := lpsOf wire_Row_lt) (lps_fn (no_loop (by kernel_rfl))) (fun d dh => by kernel_rfl)

def wire_Text_dr : Nat → DrA
  | _ => ⟨[], [], [], [], [], false, []⟩
noncomputable def wire_Text_tb : List (CE CT Tryz.prog) := [wire_Row_ce]
noncomputable def wire_Text_lt : List (LE CT Tryz.prog) := []
noncomputable def wire_Text (x1 : Int) (h0 : DReader) : Option ((List UInt8) × ((DReader) × Unit)) :=
  (wire_Row x1 h0).bind fun r1 =>
  some (r1.1, (r1.2.1, ()))
noncomputable def wire_Text_ce : CE CT Tryz.prog where
  f := 59
  args := [.one (.ptr 0 0), .one (.int .i64)]
  hs := [.cobj 103 20]
  res := .val (.one (.str))
  outs := [.cobj 103 20]
  m := fun d dh => wire_Text d.2.1 dh.1
  ok := ce_ok mixedP Tryz.func59 (by kernel_rfl) (orcOf_ok wire_Text_tb) (dr := wire_Text_dr) (lps := lpsOf wire_Text_lt) (lps_fn (no_loop (by kernel_rfl))) (fun d dh => by kernel_rfl)

def wire_Left_dr : Nat → DrA
  | _ => ⟨[], [], [], [], [], false, []⟩
noncomputable def wire_Left_tb : List (CE CT Tryz.prog) := [wire_on_2_ce]
noncomputable def wire_Left_lt : List (LE CT Tryz.prog) := []
noncomputable def wire_Left (h0 : DReader) : Option ((Int) × ((DReader) × Unit)) :=
  (wire_on_2 h0).bind fun r1 =>
  (bif (!r1.1) then
  some (0, (r1.2.1, ()))
  else
  some ((r1.2.1.place.left.length : Int), (r1.2.1, ())))
noncomputable def wire_Left_ce : CE CT Tryz.prog where
  f := 30
  args := [.one (.ptr 0 0)]
  hs := [.cobj 103 20]
  res := .val (.one (.int .i64))
  outs := [.cobj 103 20]
  m := fun d dh => wire_Left dh.1
  ok := ce_ok mixedP Tryz.func30 (by kernel_rfl) (orcOf_ok wire_Left_tb) (dr := wire_Left_dr) (lps := lpsOf wire_Left_lt) (lps_fn (no_loop (by kernel_rfl))) (fun d dh => by kernel_rfl)

def wire_End_dr : Nat → DrA
  | _ => ⟨[], [], [], [], [], false, []⟩
noncomputable def wire_End_tb : List (CE CT Tryz.prog) := []
noncomputable def wire_End_lt : List (LE CT Tryz.prog) := []
noncomputable def wire_End (h0 : DReader) : Option ((Int) × ((DReader) × Unit)) :=
  (bif (!h0.place.made) then
  some (1, (h0, ()))
  else
  (bif h0.place.failed then
  some (4, (h0, ()))
  else
  (bif (decide ((0 : Int) < (h0.place.left.length : Int))) then
  some (4, (h0, ()))
  else
  some (0, (h0, ())))))
noncomputable def wire_End_ce : CE CT Tryz.prog where
  f := 60
  args := [.one (.ptr 0 0)]
  hs := [.cobj 103 20]
  res := .val (.one (.int .i64))
  outs := [.cobj 103 20]
  m := fun d dh => wire_End dh.1
  ok := ce_ok mixedP Tryz.func60 (by kernel_rfl) (orcOf_ok wire_End_tb) (dr := wire_End_dr) (lps := lpsOf wire_End_lt) (lps_fn (no_loop (by kernel_rfl))) (fun d dh => by kernel_rfl)

def scheme_Read_dr : Nat → DrA
  | _ => ⟨[], [], [], [], [], false, []⟩
noncomputable def scheme_Read_tb : List (CE CT Tryz.prog) := [wire_Number_ce, wire_Text_ce, wire_Number_2_ce, scheme_Right_ce, wire_Left_ce, wire_End_ce]
noncomputable def scheme_Read_lt : List (LE CT Tryz.prog) := []
noncomputable def scheme_Read_us : List (Code × Nat) := [((nthL (bodyOf Tryz.f28) 0), 4), ((nthL (bodyOf Tryz.f28) 1), 4)]
noncomputable def scheme_Read (h0 : (Bool) × (Bool) × (List (UInt8)) × Unit) : Option (((DScheme) × (Bool) × Unit) × ((DReader) × (Unit) × Unit)) :=
  (wire_Number 1073741824 (h0.1, h0.2.1, h0.2.2.1, ())).bind fun r1 =>
  (wire_Text 20 r1.2.1).bind fun r2 =>
  (wire_Text 20 r2.2.1).bind fun r3 =>
  (wire_Number_2 4 r3.2.1).bind fun r4 =>
  (wire_Number_2 4 r4.2.1).bind fun r5 =>
  (wire_Number_2 1073741824 r5.2.1).bind fun r6 =>
  (wire_Number_2 1073741824 r6.2.1).bind fun r7 =>
  (wire_Number_2 9 r7.2.1).bind fun r8 =>
  (scheme_Right ([(⟨r1.1, (⟨r2.1, r3.1⟩ : DSpan), r4.1, r5.1, r6.1, r7.1, (IntKind.u8.wrap r8.1)⟩ : DScheme)] : List (DScheme))).bind fun r9 =>
  (bif (!r9.1) then
  some (((⟨0, (⟨([] : List UInt8), ([] : List UInt8)⟩ : DSpan), 0, 0, 0, 0, 0⟩ : DScheme), false, ()), (r8.2.1, (), ()))
  else
  (wire_Left r8.2.1).bind fun r10 =>
  (bif (decide ((r10.1 : Int) = 0)) then
  (wire_End r10.2.1).bind fun r11 =>
  (bif (decide ((r11.1 : Int) ≠ 0)) then
  some (((⟨0, (⟨([] : List UInt8), ([] : List UInt8)⟩ : DSpan), 0, 0, 0, 0, 0⟩ : DScheme), false, ()), (r11.2.1, (), ()))
  else
  some (((⟨r1.1, (⟨r2.1, r3.1⟩ : DSpan), r4.1, r5.1, r6.1, r7.1, (IntKind.u8.wrap r8.1)⟩ : DScheme), true, ()), (r11.2.1, (), ())))
  else
  some (((⟨r1.1, (⟨r2.1, r3.1⟩ : DSpan), r4.1, r5.1, r6.1, r7.1, (IntKind.u8.wrap r8.1)⟩ : DScheme), true, ()), (r10.2.1, (), ()))))
noncomputable def scheme_Read_ce : CE CT Tryz.prog where
  f := 28
  args := [.one (.ptr 0 0)]
  hs := [.obj 103 [.bool, .bool, .own 1 1], .row 5 1]
  res := .tup [.cod 9, .one (.bool)]
  outs := [.cobj 103 20, .dead]
  m := fun d dh => scheme_Read dh.1
  ok := ce_ok mixedP Tryz.func28 (by kernel_rfl) (orcOf_ok scheme_Read_tb) (dr := scheme_Read_dr) (lps := lpsU CT Tryz.prog (touOf scheme_Read_tb) (orcOf scheme_Read_tb) scheme_Read_dr (lpsOf scheme_Read_lt) scheme_Read_us) (lps_fn (lps_of (n := 2) (by kernel_rfl) fun i hi => match i, hi with | 0, _ => lpsU_hit (n := 4) (orcOf_ok scheme_Read_tb) (no_loop (by kernel_rfl)) (by kernel_rfl) | 1, _ => lpsU_hit (n := 4) (orcOf_ok scheme_Read_tb) (no_loop (by kernel_rfl)) (by kernel_rfl))) (fun d dh => by kernel_rfl)

def watershedref02_Get_dr : Nat → DrA
  | _ => ⟨[], [], [], [], [], false, []⟩
noncomputable def watershedref02_Get_tb : List (CE CT Tryz.prog) := []
noncomputable def watershedref02_Get_l1 (a : ((List (UInt8)) × (Int) × (Int) × Unit) × (Unit)) : Option ((((List (UInt8)) × (Int) × (Int) × Unit) × (Unit)) ⊕ ((((Int) × (Int) × Unit) × (Unit)) ⊕ ((Unit) × (Unit)))) :=
  (bif (decide ((a.1.2.2.1 : Int) < (a.1.1.length : Int))) then
  (bif (decide ((a.1.2.2.1 : Int) < 9)) then
  (getI a.1.1 a.1.2.2.1).bind fun e1 =>
  (if ((IntKind.u64.wrap (IntKind.i64.wrap (7 * a.1.2.2.1))) : Int) < 0 then none else
  let y2 : Int := (IntKind.i64.wrap ((BitVec.ofInt (IntKind.i64.bits) a.1.2.1 ||| BitVec.ofInt (IntKind.i64.bits) (IntKind.i64.wrap ((IntKind.i64.wrap (IntKind.u8.wrap ((BitVec.ofInt (IntKind.u8.bits) (e1.toNat : Int) &&& BitVec.ofInt (IntKind.u8.bits) 127).toNat))) * 2 ^ min ((IntKind.u64.wrap (IntKind.i64.wrap (7 * a.1.2.2.1))) : Int).toNat (IntKind.i64.bits)))).toNat))
  (getI a.1.1 a.1.2.2.1).bind fun e3 =>
  (bif (decide (((e3.toNat : Int) : Int) < 128)) then
  (bif (decide ((0 : Int) < a.1.2.2.1)) then
  (getI a.1.1 a.1.2.2.1).bind fun e4 =>
  (bif (decide (((e4.toNat : Int) : Int) = 0)) then
  some (.inr (.inl ((0, 0, ()), ())))
  else
  (bif (decide ((4611686018427387903 : Int) < y2)) then
  some (.inr (.inl ((0, 0, ()), ())))
  else
  (bif (decide ((y2 : Int) < 0)) then
  some (.inr (.inl ((0, 0, ()), ())))
  else
  some (.inr (.inl ((y2, (IntKind.i64.wrap (a.1.2.2.1 + 1)), ()), ()))))))
  else
  (bif (decide ((4611686018427387903 : Int) < y2)) then
  some (.inr (.inl ((0, 0, ()), ())))
  else
  (bif (decide ((y2 : Int) < 0)) then
  some (.inr (.inl ((0, 0, ()), ())))
  else
  some (.inr (.inl ((y2, (IntKind.i64.wrap (a.1.2.2.1 + 1)), ()), ()))))))
  else
  some (.inl ((a.1.1, y2, (IntKind.i64.wrap (a.1.2.2.1 + 1)), ()), ()))))
  else
  some (.inr (.inr ((), ()))))
  else
  some (.inr (.inr ((), ()))))
noncomputable def watershedref02_Get_e1 : LE CT Tryz.prog := ⟨3, [0, 4, 5], [.one (.sl 1), .one (.int .i64), .one (.int .i64)], [], [⟨.ret, [2, 3], [.one (.int .i64), .one (.int .i64)], []⟩, ⟨.exit 0, [], [], []⟩], watershedref02_Get_l1⟩
noncomputable def watershedref02_Get_lt : List (LE CT Tryz.prog) := [watershedref02_Get_e1]
theorem watershedref02_Get_e1_ok : LeOk watershedref02_Get_e1 (nthL (bodyOf Tryz.f94) 0) := fun A env h k z hk => le_ok (E := watershedref02_Get_e1) (orcOf_ok watershedref02_Get_tb) (dr := watershedref02_Get_dr) (lps := lpsOf watershedref02_Get_lt) (no_loop (by kernel_rfl)) (fun a => by kernel_rfl) env h k z hk
noncomputable def watershedref02_Get (x0 : List (UInt8)) : Option (((Int) × (Int) × Unit) × (Unit)) :=
  (loopM watershedref02_Get_l1 ((x0, 0, 0, ()), ())).bind fun b1 =>
  (match b1 with
  | .inl b2 =>
  some ((b2.1.1, b2.1.2.1, ()), ())
  | .inr b3 =>
  some ((0, 0, ()), ()))
noncomputable def watershedref02_Get_ce : CE CT Tryz.prog where
  f := 94
  args := [.one (.sl 1)]
  hs := []
  res := .tup [.one (.int .i64), .one (.int .i64)]
  outs := []
  m := fun d dh => watershedref02_Get d.1
  ok := ce_ok mixedP Tryz.func94 (by kernel_rfl) (orcOf_ok watershedref02_Get_tb) (dr := watershedref02_Get_dr) (lps := lpsOf watershedref02_Get_lt) (lps_fn (lps_of (n := 1) (by kernel_rfl) fun i hi => match i, hi with | 0, _ => lp_ok (E := watershedref02_Get_e1) (by kernel_rfl) watershedref02_Get_e1_ok)) (fun d dh => by kernel_rfl)

def watershedref02_fail_dr : Nat → DrA
  | _ => ⟨[], [], [], [], [], false, []⟩
noncomputable def watershedref02_fail_tb : List (CE CT Tryz.prog) := []
noncomputable def watershedref02_fail_lt : List (LE CT Tryz.prog) := []
noncomputable def watershedref02_fail (h0 : DReader2) : Option ((Unit) × (((List (UInt8)) × (Bool) × Unit) × (Unit) × Unit)) :=
  some ((), (([], true, ()), (), ()))
noncomputable def watershedref02_fail_ce : CE CT Tryz.prog where
  f := 95
  args := [.one (.ptr 0 0)]
  hs := [.cobj 60 21]
  res := .tup []
  outs := [.obj 60 [.own 1 1, .bool], .row 5 1]
  m := fun d dh => watershedref02_fail dh.1
  ok := ce_ok mixedP Tryz.func95 (by kernel_rfl) (orcOf_ok watershedref02_fail_tb) (dr := watershedref02_fail_dr) (lps := lpsOf watershedref02_fail_lt) (lps_fn (no_loop (by kernel_rfl))) (fun d dh => by kernel_rfl)

def watershedref02_Number_2_dr : Nat → DrA
  | _ => ⟨[], [], [], [], [], false, []⟩
noncomputable def watershedref02_Number_2_tb : List (CE CT Tryz.prog) := [watershedref02_Get_ce, watershedref02_fail_ce]
noncomputable def watershedref02_Number_2_lt : List (LE CT Tryz.prog) := []
noncomputable def watershedref02_Number_2 (x1 : Int) (h0 : DReader2) : Option ((Int) × ((DReader2) × Unit)) :=
  (bif h0.failed then
  some (0, (h0, ()))
  else
  (watershedref02_Get h0.left).bind fun r1 =>
  (bif (decide ((r1.1.2.1 : Int) = 0)) then
  (watershedref02_fail h0).bind fun r2 =>
  some (0, ((⟨r2.2.1.1, r2.2.1.2.1⟩ : DReader2), ()))
  else
  (bif (decide ((x1 : Int) < r1.1.1)) then
  (watershedref02_fail h0).bind fun r3 =>
  some (0, ((⟨r3.2.1.1, r3.2.1.2.1⟩ : DReader2), ()))
  else
  (if 0 ≤ (r1.1.2.1 : Int) ∧ (r1.1.2.1 : Int) ≤ (h0.left.length : Int) ∧ (h0.left.length : Int) ≤ (h0.left.length : Int) then
  let y4 : List (UInt8) := ((h0.left.drop (r1.1.2.1 : Int).toNat).take (((h0.left.length : Int) : Int).toNat - (r1.1.2.1 : Int).toNat))
  some (r1.1.1, ((⟨y4, h0.failed⟩ : DReader2), ()))
  else none))))
noncomputable def watershedref02_Number_2_ce : CE CT Tryz.prog where
  f := 61
  args := [.one (.ptr 0 0), .one (.int .i64)]
  hs := [.cobj 60 21]
  res := .val (.one (.int .i64))
  outs := [.cobj 60 21]
  m := fun d dh => watershedref02_Number_2 d.2.1 dh.1
  ok := ce_ok mixedP Tryz.func61 (by kernel_rfl) (orcOf_ok watershedref02_Number_2_tb) (dr := watershedref02_Number_2_dr) (lps := lpsOf watershedref02_Number_2_lt) (lps_fn (no_loop (by kernel_rfl))) (fun d dh => by kernel_rfl)

def watershedref02_Row_2_dr : Nat → DrA
  | _ => ⟨[], [], [], [], [], false, []⟩
noncomputable def watershedref02_Row_2_tb : List (CE CT Tryz.prog) := [watershedref02_Number_2_ce, watershedref02_fail_ce]
noncomputable def watershedref02_Row_2_lt : List (LE CT Tryz.prog) := []
noncomputable def watershedref02_Row_2 (x1 : Int) (h0 : DReader2) : Option ((List (UInt8)) × ((DReader2) × (Unit) × Unit)) :=
  (watershedref02_Number_2 x1 h0).bind fun r1 =>
  (bif r1.2.1.failed then
  some ([], (r1.2.1, (), ()))
  else
  (bif (decide (((r1.2.1.left.length : Int) : Int) < r1.1)) then
  (watershedref02_fail r1.2.1).bind fun r2 =>
  some ([], ((⟨r2.2.1.1, r2.2.1.2.1⟩ : DReader2), (), ()))
  else
  (if 0 ≤ ((0 : Int) : Int) ∧ ((0 : Int) : Int) ≤ r1.1 ∧ r1.1 ≤ (r1.2.1.left.length : Int) then
  let y3 : List (UInt8) := ((r1.2.1.left.drop ((0 : Int) : Int).toNat).take ((r1.1 : Int).toNat - ((0 : Int) : Int).toNat))
  (if ([] : List (UInt8)).length + y3.length ≤ 140737488355328 ∧ (([] : List (UInt8)).length + y3.length) * 1 ≤ 140737488355328 then
  (if 0 ≤ (r1.1 : Int) ∧ (r1.1 : Int) ≤ (r1.2.1.left.length : Int) ∧ (r1.2.1.left.length : Int) ≤ (r1.2.1.left.length : Int) then
  let y4 : List (UInt8) := ((r1.2.1.left.drop (r1.1 : Int).toNat).take (((r1.2.1.left.length : Int) : Int).toNat - (r1.1 : Int).toNat))
  some ((([] : List (UInt8)) ++ y3), ((⟨y4, r1.2.1.failed⟩ : DReader2), (), ()))
  else none)
  else none)
  else none)))
noncomputable def watershedref02_Row_2_ce : CE CT Tryz.prog where
  f := 62
  args := [.one (.ptr 0 0), .one (.int .i64)]
  hs := [.cobj 60 21]
  res := .val (.one (.own 1 1))
  outs := [.cobj 60 21, .row 5 1]
  m := fun d dh => watershedref02_Row_2 d.2.1 dh.1
  ok := ce_ok mixedP Tryz.func62 (by kernel_rfl) (orcOf_ok watershedref02_Row_2_tb) (dr := watershedref02_Row_2_dr) (lps := lpsOf watershedref02_Row_2_lt) (lps_fn (no_loop (by kernel_rfl))) (fun d dh => by kernel_rfl)

def watershedref20_Read_dr : Nat → DrA
  | _ => ⟨[], [], [], [], [], false, []⟩
noncomputable def watershedref20_Read_tb : List (CE CT Tryz.prog) := [watershedref02_Number_2_ce, watershedref02_Row_2_ce, watershedref20_one_ce]
noncomputable def watershedref20_Read_lt : List (LE CT Tryz.prog) := []
noncomputable def watershedref20_Read (h0 : DReader2) : Option (((DScheme) × (Bool) × Unit) × ((DReader2) × Unit)) :=
  (watershedref02_Number_2 1073741824 h0).bind fun r1 =>
  (watershedref02_Row_2 20 r1.2.1).bind fun r2 =>
  (watershedref02_Row_2 20 r2.2.1).bind fun r3 =>
  (watershedref02_Number_2 4 r3.2.1).bind fun r4 =>
  (watershedref02_Number_2 4 r4.2.1).bind fun r5 =>
  (watershedref02_Number_2 1073741824 r5.2.1).bind fun r6 =>
  (watershedref02_Number_2 1073741824 r6.2.1).bind fun r7 =>
  (watershedref02_Number_2 9 r7.2.1).bind fun r8 =>
  (bif r8.2.1.failed then
  some (((⟨0, (⟨([] : List UInt8), ([] : List UInt8)⟩ : DSpan), 0, 0, 0, 0, 0⟩ : DScheme), false, ()), (r8.2.1, ()))
  else
  (watershedref20_one (⟨r1.1, (⟨r2.1, r3.1⟩ : DSpan), r4.1, r5.1, r6.1, r7.1, (IntKind.u8.wrap r8.1)⟩ : DScheme)).bind fun r9 =>
  (bif (!r9.1) then
  some (((⟨0, (⟨([] : List UInt8), ([] : List UInt8)⟩ : DSpan), 0, 0, 0, 0, 0⟩ : DScheme), false, ()), (r8.2.1, ()))
  else
  some (((⟨r1.1, (⟨r2.1, r3.1⟩ : DSpan), r4.1, r5.1, r6.1, r7.1, (IntKind.u8.wrap r8.1)⟩ : DScheme), true, ()), (r8.2.1, ()))))
noncomputable def watershedref20_Read_ce : CE CT Tryz.prog where
  f := 29
  args := [.one (.ptr 0 0)]
  hs := [.cobj 60 21]
  res := .tup [.cod 9, .one (.bool)]
  outs := [.cobj 60 21]
  m := fun d dh => watershedref20_Read dh.1
  ok := ce_ok mixedP Tryz.func29 (by kernel_rfl) (orcOf_ok watershedref20_Read_tb) (dr := watershedref20_Read_dr) (lps := lpsOf watershedref20_Read_lt) (lps_fn (no_loop (by kernel_rfl))) (fun d dh => by kernel_rfl)
end Go.Proofs.YtcamfdmgpmdmhaaGreat
