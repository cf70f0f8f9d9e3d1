/- Models, by program. -/
import Derived.Test.YtaihdjknneiciaaGreatRp
import Derived.Test.YtaihdjknneiciaaGreatOa
import Derived.Test.YtaihdjknneiciaaGreatTw
import Derived.Test.YtaihdjknneiciaaGreatWy
import Derived.Test.YtaihdjknneiciaaGreatSl
import Derived.Test.YtaihdjknneiciaaGreatFx
import Derived.Test.YtaihdjknneiciaaGreatUn
import Derived.Test.YtaihdjknneiciaaGreatFt
namespace Go.Proofs.YtaihdjknneiciaaGreat
open Go.RowKit
set_option maxRecDepth 100000
set_option linter.unusedVariables false
noncomputable def appendSeq (h0 : List (List UInt8)) : Option ((Nat × Nat) × ((List (List UInt8)) × (List (List UInt8)) × Unit)) :=
  if h0.length ≤ 8796093022208 then some ((0, h0.length), (h0, h0, ())) else none
noncomputable def appendSeq_ce : CE CT Tryz.prog where
  f := 269
  args := [.one .nil, .one (.clo 268 [0])]
  hs := [.cobj 84 3]
  res := .val (.one (.asu 2 1))
  outs := [.cobj 84 3, .arr 9 2 true]
  m := fun d dh => appendSeq dh.1
  ok := fun d dh r hr => by
    unfold appendSeq at hr
    split at hr
    · rename_i hc
      injection hr with hr
      subst hr
      by_cases h0 : dh.1 = []
      · obtain ⟨xs, u⟩ := dh
        dsimp only at h0
        subst h0
        exact appendSeq_tr0
      · exact appendSeq_tr dh.1 (fun h => h0 (List.eq_nil_of_length_eq_zero h)) hc
    · cases hr

theorem sortT_cells {N : Nat} {ρ : Nat → AV} : ∀ {xs : List (List UInt8)} {cells : List AV}, SVs CT N ρ (xs.flatMap (CT.enc 2)) cells → cells.map AV.val = xs.map Go.Proofs.encStr
  | [], cells, h => by rw [SVs_nil.1 h]; rfl
  | x :: xs, cells, h => by
    change SVs CT N ρ (.str x :: xs.flatMap (CT.enc 2)) cells at h
    obtain ⟨a, bs, rfl, h1, h2⟩ := h.to
    rw [sv_str.1 h1, List.map_cons, sortT_cells h2, AV.val_raw]
    rfl
theorem sortT_svs {N : Nat} {ρ : Nat → AV} : ∀ (xs : List (List UInt8)), SVs CT N ρ (xs.flatMap (CT.enc 2)) (xs.map fun d => AV.raw (Go.Proofs.encStr d))
  | [] => .none
  | x :: xs => by
    change SVs CT N ρ (.str x :: xs.flatMap (CT.enc 2)) (AV.raw (Go.Proofs.encStr x) :: xs.map fun d => AV.raw (Go.Proofs.encStr d))
    exact .cons (sv_str.2 rfl) (sortT_svs xs)
noncomputable def sortT (x0 : Nat × Nat) (h0 : List (List UInt8)) : Option (Unit × ((List (List UInt8)) × Unit)) :=
  if x0.1 = 0 ∧ x0.2 = h0.length ∧ h0.length < 4611686018427387904 then some ((), (h0.mergeSort (fun x y => decide (x ≤ y)), ())) else none
noncomputable def sortT_ce : CE CT Tryz.prog where
  f := 267
  args := [.one (.asu 2 0)]
  hs := [.arr 9 2 true]
  res := .tup []
  outs := [.arr 9 2 true]
  m := fun d dh => sortT d.1 dh.1
  ok := fun d dh r hr => by
    obtain ⟨⟨lo, n⟩, u⟩ := d
    obtain ⟨xs, u2⟩ := dh
    unfold sortT at hr
    split at hr
    · rename_i hc
      injection hr with hr
      subst hr
      obtain ⟨rfl, rfl, hc⟩ := hc
      dsimp only at hc
      exact sortedA_tr Go.Proofs.encStr xs xs (List.mergeSort (α := List UInt8) xs fun x y => decide (x ≤ y)) true rfl rfl (fun N ρ cs h => sortT_cells h) (List.mergeSort (α := List UInt8) xs fun x y => decide (x ≤ y)) (List.length_mergeSort (α := List UInt8) xs) (fun N ρ => sortT_svs _) (by kernel_rfl) rfl (fun h => by subst h; exact List.mergeSort_nil)
        (fun blk cap w h1 h2 => Tryz.slices_Sort_string blk 0 cap xs w h1 h2 hc) (fun p cap w => Tryz.slices_Sort_string_none p cap w)
    · cases hr

def waysM227_mk (base : Nat) : Array MapEntry := #[⟨.int .u8 1, .slice (some ⟨base + 1 + 0, 0, none⟩) 2 2, 0⟩, ⟨.int .u8 2, .slice (some ⟨base + 1 + 1, 0, none⟩) 2 2, 1⟩, ⟨.int .u8 3, .slice (some ⟨base + 1 + 2, 0, none⟩) 2 2, 2⟩, ⟨.int .u8 4, .slice (some ⟨base + 1 + 3, 0, none⟩) 1 1, 3⟩, ⟨.int .u8 5, .slice (some ⟨base + 1 + 4, 0, none⟩) 1 1, 4⟩, ⟨.int .u8 7, .slice (some ⟨base + 1 + 5, 0, none⟩) 1 1, 5⟩, ⟨.int .u8 8, .slice (some ⟨base + 1 + 6, 0, none⟩) 1 1, 6⟩, ⟨.int .u8 6, .slice none 0 0, 7⟩, ⟨.int .u8 9, .slice none 0 0, 8⟩]
def waysM227_rows : List Obj := [Obj.cells #[Value.int IntKind.u8 2, Value.int IntKind.u8 7] 36, Obj.cells #[Value.int IntKind.u8 3, Value.int IntKind.u8 7] 36, Obj.cells #[Value.int IntKind.u8 4, Value.int IntKind.u8 7] 36, Obj.cells #[Value.int IntKind.u8 5] 36, Obj.cells #[Value.int IntKind.u8 6] 36, Obj.cells #[Value.int IntKind.u8 8] 36, Obj.cells #[Value.int IntKind.u8 9] 36]
theorem waysM227_q (w : World) : Calls Tryz.prog 227 #[] w fun e w' => e = .returned (.map (some w.heap.size)) ∧ Wy w waysM227_rows (waysM227_mk w.heap.size) 9 w' := by
  have hmm := @run_makeMap Tryz.prog
  go_enter Tryz.func227, Tryz.ntmps227
  have F0 := Wy.new w
  go_wp2_with (first | (refine wpList_ins (F0.add _) rfl (.tmp 1) (.const (.int .u8 1)) (.tmp 2) 356 rfl Tryz.underlying356 Tryz.underlying36 rfl 1 rfl rfl ?_) | go_in)
  intro w1 F1
  have s1 := F1.size
  go_wp2_with (first | (refine wpList_ins (F1.add _) rfl (.tmp 1) (.const (.int .u8 2)) (.tmp 3) 356 rfl Tryz.underlying356 Tryz.underlying36 rfl 2 rfl rfl ?_) | go_in)
  intro w2 F2
  have s2 := F2.size
  go_wp2_with (first | (refine wpList_ins (F2.add _) rfl (.tmp 1) (.const (.int .u8 3)) (.tmp 4) 356 rfl Tryz.underlying356 Tryz.underlying36 rfl 3 rfl rfl ?_) | go_in)
  intro w3 F3
  have s3 := F3.size
  go_wp2_with (first | (refine wpList_ins (F3.add _) rfl (.tmp 1) (.const (.int .u8 4)) (.tmp 5) 356 rfl Tryz.underlying356 Tryz.underlying36 rfl 4 rfl rfl ?_) | go_in)
  intro w4 F4
  have s4 := F4.size
  go_wp2_with (first | (refine wpList_ins (F4.add _) rfl (.tmp 1) (.const (.int .u8 5)) (.tmp 6) 356 rfl Tryz.underlying356 Tryz.underlying36 rfl 5 rfl rfl ?_) | go_in)
  intro w5 F5
  have s5 := F5.size
  go_wp2_with (first | (refine wpList_ins (F5.add _) rfl (.tmp 1) (.const (.int .u8 7)) (.tmp 7) 356 rfl Tryz.underlying356 Tryz.underlying36 rfl 7 rfl rfl ?_) | go_in)
  intro w6 F6
  have s6 := F6.size
  go_wp2_with (first | (refine wpList_ins (F6.add _) rfl (.tmp 1) (.const (.int .u8 8)) (.tmp 8) 356 rfl Tryz.underlying356 Tryz.underlying36 rfl 8 rfl rfl ?_) | go_in)
  intro w7 F7
  have s7 := F7.size
  go_wp2_with (first | (refine wpList_ins F7 rfl (.tmp 1) (.const (.int .u8 6)) (.const (.slice none 0 0)) 356 rfl Tryz.underlying356 Tryz.underlying36 rfl 6 rfl rfl ?_) | go_in)
  intro w8 F8
  have s8 := F8.size
  go_wp2_with (first | (refine wpList_ins F8 rfl (.tmp 1) (.const (.int .u8 9)) (.const (.slice none 0 0)) 356 rfl Tryz.underlying356 Tryz.underlying36 rfl 9 rfl rfl ?_) | go_in)
  intro w9 F9
  have s9 := F9.size
  go_wp2
  go_ret
  exact ⟨rfl, F9⟩
theorem rowA_sv (N : Nat) (ρ : Nat → AV) (base i : Nat) (xs : List UInt8) (h : xs.length ≤ 140737488355328 := by decide) : SV CT N ρ (.sl 1 xs none) (rowA base i xs) := by
  have h1 : SVs CT N ρ (xs.flatMap (CT.enc 1)) (xs.map fun b => AV.raw (.int .u8 (b.toNat : Int))) := by
    rw [show CT.enc 1 = encT 1 from rfl, enc_b1]
    exact bytes_sv_ xs
  have h2 := SVs.sl (C := CT) (N := N) (ρ := ρ) 1 xs (some ⟨base + 1 + i, 0, none⟩) xs.length _ [] (Nat.le_refl _) (by unfold maxLen; omega) h (fun h => by cases h) h1 .none
  rw [List.append_nil] at h2
  exact h2
def waysM227_t : List (Int × List UInt8) := [(1, [2, 7]), (2, [3, 7]), (3, [4, 7]), (4, [5]), (5, [6]), (7, [8]), (8, [9]), (6, []), (9, [])]
noncomputable def waysM227 : Option ((List (Int × List UInt8)) × Unit) := some (waysM227_t, ())
noncomputable def waysM227_ce : CE CT Tryz.prog where
  f := 227
  args := []
  hs := []
  res := .val (.one (.mp 1 .u8))
  outs := []
  m := fun d dh => waysM227
  ok := fun d dh r hr => by
    injection hr with hr
    subst hr
    refine Wy.tr (C := CT) (E := 1) (kk := .u8) (tb := waysM227_t) (rows := waysM227_rows) (mk := waysM227_mk) (c := 9) (by kernel_rfl) waysM227_q fun base => ⟨[rowA base 0 [2, 7], rowA base 1 [3, 7], rowA base 2 [4, 7], rowA base 3 [5], rowA base 4 [6], rowA base 5 [8], rowA base 6 [9], .lst none 0 0 [], .lst none 0 0 []], fun N ρ => .cons (rowA_sv _ _ _ _ [2, 7]) (.cons (rowA_sv _ _ _ _ [3, 7]) (.cons (rowA_sv _ _ _ _ [4, 7]) (.cons (rowA_sv _ _ _ _ [5]) (.cons (rowA_sv _ _ _ _ [6]) (.cons (rowA_sv _ _ _ _ [8]) (.cons (rowA_sv _ _ _ _ [9]) (.cons ((Wk.nil 1).sv (sv_nil.2 rfl)) (.cons ((Wk.nil 1).sv (sv_nil.2 rfl)) (.none))))))))), rfl, ?_, fun w' B h => Valids.iff.2 fun a ha => ?_⟩
    · simp [AV.vals, rowA, waysM227_mk]
    simp only [List.mem_cons, List.not_mem_nil, or_false] at ha
    rcases ha with rfl | rfl | rfl | rfl | rfl | rfl | rfl | rfl | rfl
    · exact rowA_valid (h 0 _ rfl)
    · exact rowA_valid (h 1 _ rfl)
    · exact rowA_valid (h 2 _ rfl)
    · exact rowA_valid (h 3 _ rfl)
    · exact rowA_valid (h 4 _ rfl)
    · exact rowA_valid (h 5 _ rfl)
    · exact rowA_valid (h 6 _ rfl)
    · exact valid_nil_
    · exact valid_nil_

noncomputable def replace (n : Nat) (i j : Int) (ys xs : List (DShare)) : Option (List (DShare) × (Unit × Unit × Unit)) :=
  if ReplaceOk n i j ys xs then some (xs.take i.toNat ++ ys ++ xs.drop j.toNat, ((), (), ())) else none
noncomputable def replace_ce : CE CT Tryz.prog where
  f := 231
  args := [.one (.asz 6 0), .one (.int .i64), .one (.int .i64), .one (.sl 5)]
  hs := [.arr 99 6 true]
  res := .val (.one (.own 5 1))
  outs := [.dead, .row 99 4]
  m := fun d dh => replace d.1 d.2.1 d.2.2.1 d.2.2.2.1 dh.1
  ok := fun d dh r hr => by
    unfold replace at hr
    split at hr
    · rename_i hc
      injection hr with hr
      subst hr
      exact replace_tr hc
    · cases hr

def shares_within_dr : Nat → Nat → DrA
  | _, _ => ⟨[], [], [], [], [], false, []⟩
noncomputable def shares_within_tb : List (CE CT Tryz.prog) := []
noncomputable def shares_within_lt : List (LE CT Tryz.prog) := []
noncomputable def shares_within (x0 : Int) (x1 : Int) (x2 : Int) : Option ((Bool) × (Unit)) :=
  (bif (decide ((x1 : Int) ≤ x0)) then
  some ((decide ((x0 : Int) ≤ x2)), ())
  else
  some (false, ()))
noncomputable def shares_within_ce : CE CT Tryz.prog where
  f := 51
  args := [.one (.int .i64), .one (.int .i64), .one (.int .i64)]
  hs := []
  res := .val (.one (.bool))
  outs := []
  m := fun d dh => shares_within d.1 d.2.1 d.2.2.1
  ok := ce_ok mixedP Tryz.func51 (by kernel_rfl) (orcOf_ok shares_within_tb) (dr := shares_within_dr) (lps := lpsOf shares_within_lt) (lps_fn (no_loop (by kernel_rfl))) (fun d dh => by kernel_rfl)

def span_All_dr : Nat → Nat → DrA
  | _, _ => ⟨[], [], [], [], [], false, []⟩
noncomputable def span_All_tb : List (CE CT Tryz.prog) := []
noncomputable def span_All_lt : List (LE CT Tryz.prog) := []
noncomputable def span_All  : Option ((DSpan) × (Unit)) :=
  some ((⟨([] : List UInt8), ([] : List UInt8)⟩ : DSpan), ())
noncomputable def span_All_ce : CE CT Tryz.prog where
  f := 52
  args := []
  hs := []
  res := .val (.cod 4)
  outs := []
  m := fun d dh => span_All
  ok := ce_ok mixedP Tryz.func52 (by kernel_rfl) (orcOf_ok span_All_tb) (dr := span_All_dr) (lps := lpsOf span_All_lt) (lps_fn (no_loop (by kernel_rfl))) (fun d dh => by kernel_rfl)

def shares_First_dr : Nat → Nat → DrA
  | _, _ => ⟨[], [], [], [], [], false, []⟩
noncomputable def shares_First_tb : List (CE CT Tryz.prog) := [shares_within_ce, span_All_ce]
noncomputable def shares_First_lt : List (LE CT Tryz.prog) := []
noncomputable def shares_First (x0 : Int) : Option ((DShares) × (Unit)) :=
  (shares_within x0 1 4).bind fun r1 =>
  (bif (!r1.1) then
  (span_All).bind fun r2 =>
  some ((⟨1, ([(⟨r2.1, 1, 1⟩ : DShare)] : List (DShare))⟩ : DShares), ())
  else
  (span_All).bind fun r3 =>
  some ((⟨1, ([(⟨r3.1, x0, 1⟩ : DShare)] : List (DShare))⟩ : DShares), ()))
noncomputable def shares_First_ce : CE CT Tryz.prog where
  f := 10
  args := [.one (.int .i64)]
  hs := []
  res := .val (.cod 15)
  outs := []
  m := fun d dh => shares_First d.1
  ok := ce_ok mixedP Tryz.func10 (by kernel_rfl) (orcOf_ok shares_First_tb) (dr := shares_First_dr) (lps := lpsOf shares_First_lt) (lps_fn (no_loop (by kernel_rfl))) (fun d dh => by kernel_rfl)

def shares_right1_dr : Nat → Nat → DrA
  | _, _ => ⟨[], [], [], [], [], false, []⟩
noncomputable def shares_right1_tb : List (CE CT Tryz.prog) := [shares_within_ce]
noncomputable def shares_right1_lt : List (LE CT Tryz.prog) := []
noncomputable def shares_right1 (x0 : DShare) (h0 : DWork) : Option ((Bool) × ((DWork) × Unit)) :=
  (shares_within x0.group 1 4).bind fun r1 =>
  (bif (!r1.1) then
  some (true, (h0, ()))
  else
  (shares_within x0.epoch 1 h0.shares.epoch).bind fun r2 =>
  some ((!r2.1), (h0, ())))
noncomputable def shares_right1_ce : CE CT Tryz.prog where
  f := 181
  args := [.cod 5, .one (.ptr 0 0)]
  hs := [.cobj 188 16]
  res := .val (.one (.bool))
  outs := [.cobj 188 16]
  m := fun d dh => shares_right1 d.1 dh.1
  ok := ce_ok mixedP Tryz.func181 (by kernel_rfl) (orcOf_ok shares_right1_tb) (dr := shares_right1_dr) (lps := lpsOf shares_right1_lt) (lps_fn (no_loop (by kernel_rfl))) (fun d dh => by kernel_rfl)

def slices_IndexFunc_dr : Nat → Nat → DrA
  | _, _ => ⟨[], [], [], [], [], false, []⟩
noncomputable def slices_IndexFunc_tb : List (CE CT Tryz.prog) := [shares_right1_ce]
noncomputable def slices_IndexFunc_l1 (a : ((List (DShare)) × (Unit) × (Int) × (Int) × Unit) × ((DWork) × Unit)) : Option ((((List (DShare)) × (Unit) × (Int) × (Int) × Unit) × ((DWork) × Unit)) ⊕ ((((Int) × Unit) × ((DWork) × Unit)) ⊕ ((Unit) × ((DWork) × Unit)))) :=
  (bif (decide ((a.1.2.2.2.1 : Int) < a.1.2.2.1)) then
  (getI a.1.1 a.1.2.2.2.1).bind fun e1 =>
  (shares_right1 e1 a.2.1).bind fun r2 =>
  (bif r2.1 then
  some (.inr (.inl ((a.1.2.2.2.1, ()), (r2.2.1, ()))))
  else
  some (.inl ((a.1.1, (), a.1.2.2.1, (IntKind.i64.wrap (a.1.2.2.2.1 + 1)), ()), (r2.2.1, ()))))
  else
  some (.inr (.inr ((), (a.2.1, ())))))
noncomputable def slices_IndexFunc_e1 : LE CT Tryz.prog := ⟨2, [0, 1, 7, 8], [.one (.sl 5), .one (.clo 181 [0]), .one (.int .i64), .one (.int .i64)], [.cobj 188 16], [⟨.ret, [4], [.one (.int .i64)], [.cobj 188 16]⟩, ⟨.exit 0, [], [], [.cobj 188 16]⟩], slices_IndexFunc_l1⟩
noncomputable def slices_IndexFunc_lt : List (LE CT Tryz.prog) := [slices_IndexFunc_e1]
theorem slices_IndexFunc_e1_ok : LeOk slices_IndexFunc_e1 (nthL (bodyOf Tryz.f173) 0) := fun A env h k z hk => le_ok (E := slices_IndexFunc_e1) (orcOf_ok slices_IndexFunc_tb) (dr := slices_IndexFunc_dr) (lps := lpsOf slices_IndexFunc_lt) (no_loop (by kernel_rfl)) (fun a => by kernel_rfl) env h k z hk
noncomputable def slices_IndexFunc (x0 : List (DShare)) (h0 : DWork) : Option ((Int) × ((DWork) × Unit)) :=
  (loopM slices_IndexFunc_l1 ((x0, (), (x0.length : Int), 0, ()), (h0, ()))).bind fun b1 =>
  (match b1 with
  | .inl b2 =>
  some (b2.1.1, (b2.2.1, ()))
  | .inr b3 =>
  some ((-1), (b3.2.1, ())))
noncomputable def slices_IndexFunc_ce : CE CT Tryz.prog where
  f := 173
  args := [.one (.sl 5), .one (.clo 181 [0])]
  hs := [.cobj 188 16]
  res := .val (.one (.int .i64))
  outs := [.cobj 188 16]
  m := fun d dh => slices_IndexFunc d.1 dh.1
  ok := ce_ok mixedP Tryz.func173 (by kernel_rfl) (orcOf_ok slices_IndexFunc_tb) (dr := slices_IndexFunc_dr) (lps := lpsOf slices_IndexFunc_lt) (lps_fn (lps_of (n := 1) (by kernel_rfl) fun i hi => match i, hi with | 0, _ => lp_ok (E := slices_IndexFunc_e1) (by kernel_rfl) slices_IndexFunc_e1_ok)) (fun d dh => by kernel_rfl)

def slices_ContainsFunc_dr : Nat → Nat → DrA
  | _, _ => ⟨[], [], [], [], [], false, []⟩
noncomputable def slices_ContainsFunc_tb : List (CE CT Tryz.prog) := [slices_IndexFunc_ce]
noncomputable def slices_ContainsFunc_lt : List (LE CT Tryz.prog) := []
noncomputable def slices_ContainsFunc (x0 : List (DShare)) (h0 : DWork) : Option ((Bool) × ((DWork) × Unit)) :=
  (slices_IndexFunc x0 h0).bind fun r1 =>
  some ((decide ((0 : Int) ≤ r1.1)), (r1.2.1, ()))
noncomputable def slices_ContainsFunc_ce : CE CT Tryz.prog where
  f := 180
  args := [.one (.sl 5), .one (.clo 181 [0])]
  hs := [.cobj 188 16]
  res := .val (.one (.bool))
  outs := [.cobj 188 16]
  m := fun d dh => slices_ContainsFunc d.1 dh.1
  ok := ce_ok mixedP Tryz.func180 (by kernel_rfl) (orcOf_ok slices_ContainsFunc_tb) (dr := slices_ContainsFunc_dr) (lps := lpsOf slices_ContainsFunc_lt) (lps_fn (no_loop (by kernel_rfl))) (fun d dh => by kernel_rfl)

def shares_spans_dr : Nat → Nat → DrA
  | _, _ => ⟨[], [], [], [], [], false, []⟩
noncomputable def shares_spans_tb : List (CE CT Tryz.prog) := []
noncomputable def shares_spans_l1 (a : ((List (DSpan)) × (List (DShare)) × (Int) × (Int) × Unit) × ((Unit) × Unit)) : Option ((((List (DSpan)) × (List (DShare)) × (Int) × (Int) × Unit) × ((Unit) × Unit)) ⊕ ((((List (DSpan)) × Unit) × ((Unit) × (Unit) × Unit)))) :=
  (bif (decide ((a.1.2.2.2.1 : Int) < a.1.2.2.1)) then
  (getI a.1.2.1 a.1.2.2.2.1).bind fun e1 =>
  (if a.1.1.length + ([e1.span] : List (DSpan)).length ≤ 140737488355328 ∧ (a.1.1.length + ([e1.span] : List (DSpan)).length) * 32 ≤ 140737488355328 then
  some (.inl (((a.1.1 ++ ([e1.span] : List (DSpan))), a.1.2.1, a.1.2.2.1, (IntKind.i64.wrap (a.1.2.2.2.1 + 1)), ()), ((), ())))
  else none)
  else
  some (.inr ((a.1.1, ()), ((), (), ()))))
noncomputable def shares_spans_e1 : LE CT Tryz.prog := ⟨3, [3, 8, 9, 10], [.one (.own 4 0), .one (.sl 5), .one (.int .i64), .one (.int .i64)], [.row 35 2], [⟨.exit 0, [3], [.one (.own 4 1)], [.dead, .row 35 2]⟩], shares_spans_l1⟩
noncomputable def shares_spans_lt : List (LE CT Tryz.prog) := [shares_spans_e1]
theorem shares_spans_e1_ok : LeOk shares_spans_e1 (nthL (bodyOf Tryz.f183) 0) := fun A env h k z hk => le_ok (E := shares_spans_e1) (orcOf_ok shares_spans_tb) (dr := shares_spans_dr) (lps := lpsOf shares_spans_lt) (no_loop (by kernel_rfl)) (fun a => by kernel_rfl) env h k z hk
noncomputable def shares_spans (x0 : DWork) : Option ((List (DSpan)) × ((Unit) × Unit)) :=
  (loopM shares_spans_l1 (([], x0.shares.list, (x0.shares.list.length : Int), 0, ()), ((), ()))).bind fun b1 =>
  some (b1.1.1, ((), ()))
noncomputable def shares_spans_ce : CE CT Tryz.prog where
  f := 183
  args := [.cod 16]
  hs := []
  res := .val (.one (.own 4 0))
  outs := [.row 35 2]
  m := fun d dh => shares_spans d.1
  ok := ce_ok mixedP Tryz.func183 (by kernel_rfl) (orcOf_ok shares_spans_tb) (dr := shares_spans_dr) (lps := lpsOf shares_spans_lt) (lps_fn (lps_of (n := 1) (by kernel_rfl) fun i hi => match i, hi with | 0, _ => lp_ok (E := shares_spans_e1) (by kernel_rfl) shares_spans_e1_ok)) (fun d dh => by kernel_rfl)

def span_ends_dr : Nat → Nat → DrA
  | 1, _ => ⟨[0, 4, 1, 2, 3, 5, 6, 7, 8, 9], [[], [0], [0, 1], [0, 1, 2], [], [4], [4, 5], [4, 5, 6], [0, 1, 2, 3], [0, 1, 2, 3, 4, 5, 6, 7, 8]], [5], [8], [0], false, []⟩
  | _, _ => ⟨[], [], [], [], [], false, []⟩
noncomputable def span_ends_tb : List (CE CT Tryz.prog) := []
noncomputable def span_ends_lt : List (LE CT Tryz.prog) := []
noncomputable def span_ends (x0 : DSpan) : Option (((DLow) × (DHigh) × Unit) × (Unit)) :=
  some (((⟨(⟨x0.lo⟩ : DText)⟩ : DLow), (⟨(⟨x0.hi⟩ : DText)⟩ : DHigh), ()), ())
noncomputable def span_ends_ce : CE CT Tryz.prog where
  f := 175
  args := [.cod 4]
  hs := []
  res := .tup [.cod 18, .cod 19]
  outs := []
  m := fun d dh => span_ends d.1
  ok := ce_ok mixedP Tryz.func175 (by kernel_rfl) (orcOf_ok span_ends_tb) (dr := span_ends_dr) (lps := lpsOf span_ends_lt) (lps_fn (no_loop (by kernel_rfl))) (fun d dh => by kernel_rfl)

def span_none_dr : Nat → Nat → DrA
  | _, _ => ⟨[], [], [], [], [], false, []⟩
noncomputable def span_none_tb : List (CE CT Tryz.prog) := []
noncomputable def span_none_lt : List (LE CT Tryz.prog) := []
noncomputable def span_none (x0 : DText) : Option ((Bool) × (Unit)) :=
  some ((decide (x0.s = ([] : List UInt8))), ())
noncomputable def span_none_ce : CE CT Tryz.prog where
  f := 235
  args := [.cod 17]
  hs := []
  res := .val (.one (.bool))
  outs := []
  m := fun d dh => span_none d.1
  ok := ce_ok mixedP Tryz.func235 (by kernel_rfl) (orcOf_ok span_none_tb) (dr := span_none_dr) (lps := lpsOf span_none_lt) (lps_fn (no_loop (by kernel_rfl))) (fun d dh => by kernel_rfl)

def cmp_isNaN_dr : Nat → Nat → DrA
  | _, _ => ⟨[], [], [], [], [], false, []⟩
noncomputable def cmp_isNaN_tb : List (CE CT Tryz.prog) := []
noncomputable def cmp_isNaN_lt : List (LE CT Tryz.prog) := []
noncomputable def cmp_isNaN (x0 : List UInt8) : Option ((Bool) × (Unit)) :=
  some ((decide (x0 ≠ x0)), ())
noncomputable def cmp_isNaN_ce : CE CT Tryz.prog where
  f := 257
  args := [.one (.str)]
  hs := []
  res := .val (.one (.bool))
  outs := []
  m := fun d dh => cmp_isNaN d.1
  ok := ce_ok mixedP Tryz.func257 (by kernel_rfl) (orcOf_ok cmp_isNaN_tb) (dr := cmp_isNaN_dr) (lps := lpsOf cmp_isNaN_lt) (lps_fn (no_loop (by kernel_rfl))) (fun d dh => by kernel_rfl)

def cmp_Compare_dr : Nat → Nat → DrA
  | _, _ => ⟨[], [], [], [], [], false, []⟩
noncomputable def cmp_Compare_tb : List (CE CT Tryz.prog) := [cmp_isNaN_ce]
noncomputable def cmp_Compare_lt : List (LE CT Tryz.prog) := []
noncomputable def cmp_Compare (x0 : List UInt8) (x1 : List UInt8) : Option ((Int) × (Unit)) :=
  (cmp_isNaN x0).bind fun r1 =>
  (cmp_isNaN x1).bind fun r2 =>
  (bif r1.1 then
  (bif r2.1 then
  some (0, ())
  else
  some ((-1), ()))
  else
  (bif r2.1 then
  some (1, ())
  else
  (bif (decide (x0 < x1)) then
  some ((-1), ())
  else
  (bif (!(decide (x0 < x1) || decide (x0 = x1))) then
  some (1, ())
  else
  some (0, ())))))
noncomputable def cmp_Compare_ce : CE CT Tryz.prog where
  f := 236
  args := [.one (.str), .one (.str)]
  hs := []
  res := .val (.one (.int .i64))
  outs := []
  m := fun d dh => cmp_Compare d.1 d.2.1
  ok := ce_ok mixedP Tryz.func236 (by kernel_rfl) (orcOf_ok cmp_Compare_tb) (dr := cmp_Compare_dr) (lps := lpsOf cmp_Compare_lt) (lps_fn (no_loop (by kernel_rfl))) (fun d dh => by kernel_rfl)

def span_compare_dr : Nat → Nat → DrA
  | _, _ => ⟨[], [], [], [], [], false, []⟩
noncomputable def span_compare_tb : List (CE CT Tryz.prog) := [cmp_Compare_ce]
noncomputable def span_compare_lt : List (LE CT Tryz.prog) := []
noncomputable def span_compare (x0 : DText) (x1 : DText) : Option ((Int) × (Unit)) :=
  (cmp_Compare x0.s x1.s).bind fun r1 =>
  some (r1.1, ())
noncomputable def span_compare_ce : CE CT Tryz.prog where
  f := 178
  args := [.cod 17, .cod 17]
  hs := []
  res := .val (.one (.int .i64))
  outs := []
  m := fun d dh => span_compare d.1 d.2.1
  ok := ce_ok mixedP Tryz.func178 (by kernel_rfl) (orcOf_ok span_compare_tb) (dr := span_compare_dr) (lps := lpsOf span_compare_lt) (lps_fn (no_loop (by kernel_rfl))) (fun d dh => by kernel_rfl)

def span_above_dr : Nat → Nat → DrA
  | _, _ => ⟨[], [], [], [], [], false, []⟩
noncomputable def span_above_tb : List (CE CT Tryz.prog) := [span_none_ce, span_compare_ce]
noncomputable def span_above_lt : List (LE CT Tryz.prog) := []
noncomputable def span_above (x0 : DHigh) (x1 : DText) : Option ((Bool) × (Unit)) :=
  (span_none x0.text).bind fun r1 =>
  (bif r1.1 then
  some (true, ())
  else
  (span_compare x0.text x1).bind fun r2 =>
  some ((decide ((0 : Int) < r2.1)), ()))
noncomputable def span_above_ce : CE CT Tryz.prog where
  f := 179
  args := [.cod 19, .cod 17]
  hs := []
  res := .val (.one (.bool))
  outs := []
  m := fun d dh => span_above d.1 d.2.1
  ok := ce_ok mixedP Tryz.func179 (by kernel_rfl) (orcOf_ok span_above_tb) (dr := span_above_dr) (lps := lpsOf span_above_lt) (lps_fn (no_loop (by kernel_rfl))) (fun d dh => by kernel_rfl)

def span_Key_dr : Nat → Nat → DrA
  | _, _ => ⟨[], [], [], [], [], false, []⟩
noncomputable def span_Key_tb : List (CE CT Tryz.prog) := []
noncomputable def span_Key_l1 (a : ((List UInt8) × (Int) × (Int) × Unit) × (Unit)) : Option ((((List UInt8) × (Int) × (Int) × Unit) × (Unit)) ⊕ ((((Bool) × Unit) × (Unit)) ⊕ ((Unit) × (Unit)))) :=
  (bif (decide ((a.1.2.2.1 : Int) < a.1.2.1)) then
  (getI a.1.1 a.1.2.2.1).bind fun e1 =>
  (bif (decide ((97 : Int) ≤ (e1.toNat : Int))) then
  (bif (decide (((e1.toNat : Int) : Int) ≤ 122)) then
  some (.inl ((a.1.1, a.1.2.1, (IntKind.i64.wrap (a.1.2.2.1 + 1)), ()), ()))
  else
  (bif (decide ((48 : Int) ≤ (e1.toNat : Int))) then
  (bif (!(decide (((e1.toNat : Int) : Int) ≤ 57))) then
  some (.inr (.inl ((false, ()), ())))
  else
  some (.inl ((a.1.1, a.1.2.1, (IntKind.i64.wrap (a.1.2.2.1 + 1)), ()), ())))
  else
  some (.inr (.inl ((false, ()), ())))))
  else
  (bif (decide ((48 : Int) ≤ (e1.toNat : Int))) then
  (bif (!(decide (((e1.toNat : Int) : Int) ≤ 57))) then
  some (.inr (.inl ((false, ()), ())))
  else
  some (.inl ((a.1.1, a.1.2.1, (IntKind.i64.wrap (a.1.2.2.1 + 1)), ()), ())))
  else
  some (.inr (.inl ((false, ()), ())))))
  else
  some (.inr (.inr ((), ()))))
noncomputable def span_Key_e1 : LE CT Tryz.prog := ⟨4, [0, 13, 14], [.one (.str), .one (.int .i64), .one (.int .i64)], [], [⟨.ret, [2], [.one (.bool)], []⟩, ⟨.exit 0, [], [], []⟩], span_Key_l1⟩
noncomputable def span_Key_lt : List (LE CT Tryz.prog) := [span_Key_e1]
theorem span_Key_e1_ok : LeOk span_Key_e1 (nthL (bodyOf Tryz.f177) 0) := fun A env h k z hk => le_ok (E := span_Key_e1) (orcOf_ok span_Key_tb) (dr := span_Key_dr) (lps := lpsOf span_Key_lt) (no_loop (by kernel_rfl)) (fun a => by kernel_rfl) env h k z hk
noncomputable def span_Key (x0 : List UInt8) : Option ((Bool) × (Unit)) :=
  (bif (decide (x0 = ([] : List UInt8))) then
  some (false, ())
  else
  (bif (decide ((20 : Int) < (x0.length : Int))) then
  some (false, ())
  else
  (loopM span_Key_l1 ((x0, (x0.length : Int), 0, ()), ())).bind fun b1 =>
  (match b1 with
  | .inl b2 =>
  some (b2.1.1, ())
  | .inr b3 =>
  some (true, ()))))
noncomputable def span_Key_ce : CE CT Tryz.prog where
  f := 177
  args := [.one (.str)]
  hs := []
  res := .val (.one (.bool))
  outs := []
  m := fun d dh => span_Key d.1
  ok := ce_ok mixedP Tryz.func177 (by kernel_rfl) (orcOf_ok span_Key_tb) (dr := span_Key_dr) (lps := lpsOf span_Key_lt) (lps_fn (lps_of (n := 1) (by kernel_rfl) fun i hi => match i, hi with | 0, _ => lp_ok (E := span_Key_e1) (by kernel_rfl) span_Key_e1_ok)) (fun d dh => by kernel_rfl)

def span_Right_dr : Nat → Nat → DrA
  | _, _ => ⟨[], [], [], [], [], false, []⟩
noncomputable def span_Right_tb : List (CE CT Tryz.prog) := [span_ends_ce, span_none_ce, span_above_ce, span_Key_ce]
noncomputable def span_Right_lt : List (LE CT Tryz.prog) := []
noncomputable def span_Right (x0 : DSpan) : Option ((Bool) × (Unit)) :=
  (span_ends x0).bind fun r1 =>
  (span_none r1.1.1.text).bind fun r2 =>
  (bif r2.1 then
  (span_none r1.1.2.1.text).bind fun r3 =>
  (bif r3.1 then
  (span_above r1.1.2.1 r1.1.1.text).bind fun r4 =>
  some (r4.1, ())
  else
  (span_Key x0.hi).bind fun r5 =>
  (bif r5.1 then
  (span_above r1.1.2.1 r1.1.1.text).bind fun r6 =>
  some (r6.1, ())
  else
  some (false, ())))
  else
  (span_Key x0.lo).bind fun r7 =>
  (bif r7.1 then
  (span_none r1.1.2.1.text).bind fun r8 =>
  (bif r8.1 then
  (span_above r1.1.2.1 r1.1.1.text).bind fun r9 =>
  some (r9.1, ())
  else
  (span_Key x0.hi).bind fun r10 =>
  (bif r10.1 then
  (span_above r1.1.2.1 r1.1.1.text).bind fun r11 =>
  some (r11.1, ())
  else
  some (false, ())))
  else
  some (false, ())))
noncomputable def span_Right_ce : CE CT Tryz.prog where
  f := 176
  args := [.cod 4]
  hs := []
  res := .val (.one (.bool))
  outs := []
  m := fun d dh => span_Right d.1
  ok := ce_ok mixedP Tryz.func176 (by kernel_rfl) (orcOf_ok span_Right_tb) (dr := span_Right_dr) (lps := lpsOf span_Right_lt) (lps_fn (no_loop (by kernel_rfl))) (fun d dh => by kernel_rfl)

def span_Parts_dr : Nat → Nat → DrA
  | 7, _ => ⟨[0, 2, 1, 5, 3, 4, 6], [[], [0], [], [2], [2, 3], [0, 1], [0, 1, 2, 3, 4, 5]], [], [], [], false, []⟩
  | _, _ => ⟨[], [], [], [], [], false, []⟩
noncomputable def span_Parts_tb : List (CE CT Tryz.prog) := [span_Right_ce]
noncomputable def span_Parts_l1 (a : ((List (DSpan)) × (List UInt8) × (Bool) × (List (DSpan)) × (Int) × (Int) × Unit) × (Unit)) : Option ((((List (DSpan)) × (List UInt8) × (Bool) × (List (DSpan)) × (Int) × (Int) × Unit) × (Unit)) ⊕ ((((Bool) × Unit) × (Unit)) ⊕ (((Bool) × Unit) × (Unit)))) :=
  (bif (decide ((a.1.2.2.2.2.2.1 : Int) < a.1.2.2.2.2.1)) then
  (getI a.1.2.2.2.1 a.1.2.2.2.2.2.1).bind fun e1 =>
  (span_Right e1).bind fun r2 =>
  (bif (!r2.1) then
  some (.inr (.inl ((false, ()), ())))
  else
  (bif (decide (e1.lo ≠ a.1.2.1)) then
  some (.inr (.inl ((false, ()), ())))
  else
  (bif a.1.2.2.1 then
  some (.inr (.inl ((false, ()), ())))
  else
  (bif (decide (e1.hi = ([] : List UInt8))) then
  (bif (decide ((a.1.2.2.2.2.2.1 : Int) < (IntKind.i64.wrap ((a.1.1.length : Int) - 1)))) then
  some (.inr (.inl ((false, ()), ())))
  else
  some (.inl ((a.1.1, e1.hi, (decide (e1.hi = ([] : List UInt8))), a.1.2.2.2.1, a.1.2.2.2.2.1, (IntKind.i64.wrap (a.1.2.2.2.2.2.1 + 1)), ()), ())))
  else
  some (.inl ((a.1.1, e1.hi, (decide (e1.hi = ([] : List UInt8))), a.1.2.2.2.1, a.1.2.2.2.2.1, (IntKind.i64.wrap (a.1.2.2.2.2.2.1 + 1)), ()), ()))))))
  else
  some (.inr (.inr ((a.1.2.2.1, ()), ()))))
noncomputable def span_Parts_e1 : LE CT Tryz.prog := ⟨3, [0, 3, 4, 7, 8, 9], [.one (.sl 4), .one (.str), .one (.bool), .one (.sl 4), .one (.int .i64), .one (.int .i64)], [], [⟨.ret, [2], [.one (.bool)], []⟩, ⟨.exit 0, [4], [.one (.bool)], []⟩], span_Parts_l1⟩
noncomputable def span_Parts_lt : List (LE CT Tryz.prog) := [span_Parts_e1]
theorem span_Parts_e1_ok : LeOk span_Parts_e1 (nthL (bodyOf Tryz.f182) 0) := fun A env h k z hk => le_ok (E := span_Parts_e1) (orcOf_ok span_Parts_tb) (dr := span_Parts_dr) (lps := lpsOf span_Parts_lt) (no_loop (by kernel_rfl)) (fun a => by kernel_rfl) env h k z hk
noncomputable def span_Parts (x0 : List (DSpan)) : Option ((Bool) × (Unit)) :=
  (loopM span_Parts_l1 ((x0, ([] : List UInt8), false, x0, (x0.length : Int), 0, ()), ())).bind fun b1 =>
  (match b1 with
  | .inl b2 =>
  some (b2.1.1, ())
  | .inr b3 =>
  some (b3.1.1, ()))
noncomputable def span_Parts_ce : CE CT Tryz.prog where
  f := 182
  args := [.one (.sl 4)]
  hs := []
  res := .val (.one (.bool))
  outs := []
  m := fun d dh => span_Parts d.1
  ok := ce_ok mixedP Tryz.func182 (by kernel_rfl) (orcOf_ok span_Parts_tb) (dr := span_Parts_dr) (lps := lpsOf span_Parts_lt) (lps_fn (lps_of (n := 1) (by kernel_rfl) fun i hi => match i, hi with | 0, _ => lp_ok (E := span_Parts_e1) (by kernel_rfl) span_Parts_e1_ok)) (fun d dh => by kernel_rfl)

def shares_right_dr : Nat → Nat → DrA
  | _, _ => ⟨[], [], [], [], [], false, []⟩
noncomputable def shares_right_tb : List (CE CT Tryz.prog) := [slices_ContainsFunc_ce, shares_within_ce, shares_spans_ce, span_Parts_ce]
noncomputable def shares_right_lt : List (LE CT Tryz.prog) := []
noncomputable def shares_right (x0 : DWork) : Option ((Bool) × (Unit)) :=
  (slices_ContainsFunc x0.shares.list x0).bind fun r1 =>
  (shares_within r1.2.1.shares.epoch 1 1073741824).bind fun r2 =>
  (bif r2.1 then
  (bif (decide (((r1.2.1.shares.list.length : Int) : Int) ≤ 40)) then
  (bif (!r1.1) then
  (shares_spans r1.2.1).bind fun r3 =>
  (span_Parts r3.1).bind fun r4 =>
  some (r4.1, ())
  else
  some (false, ()))
  else
  some (false, ()))
  else
  some (false, ()))
noncomputable def shares_right_ce : CE CT Tryz.prog where
  f := 99
  args := [.cod 16]
  hs := []
  res := .val (.one (.bool))
  outs := []
  m := fun d dh => shares_right d.1
  ok := ce_ok mixedP Tryz.func99 (by kernel_rfl) (orcOf_ok shares_right_tb) (dr := shares_right_dr) (lps := lpsOf shares_right_lt) (lps_fn (no_loop (by kernel_rfl))) (fun d dh => by kernel_rfl)

def shares_Right_dr : Nat → Nat → DrA
  | _, _ => ⟨[], [], [], [], [], false, []⟩
noncomputable def shares_Right_tb : List (CE CT Tryz.prog) := [shares_right_ce]
noncomputable def shares_Right_lt : List (LE CT Tryz.prog) := []
noncomputable def shares_Right (x0 : DShares) : Option ((Bool) × (Unit)) :=
  (shares_right (⟨x0⟩ : DWork)).bind fun r1 =>
  some (r1.1, ())
noncomputable def shares_Right_ce : CE CT Tryz.prog where
  f := 48
  args := [.cod 15]
  hs := []
  res := .val (.one (.bool))
  outs := []
  m := fun d dh => shares_Right d.1
  ok := ce_ok mixedP Tryz.func48 (by kernel_rfl) (orcOf_ok shares_Right_tb) (dr := shares_Right_dr) (lps := lpsOf shares_Right_lt) (lps_fn (no_loop (by kernel_rfl))) (fun d dh => by kernel_rfl)

def ruling_New_dr : Nat → Nat → DrA
  | _, _ => ⟨[], [], [], [], [], false, []⟩
noncomputable def ruling_New_tb : List (CE CT Tryz.prog) := []
noncomputable def ruling_New_lt : List (LE CT Tryz.prog) := []
noncomputable def ruling_New  : Option ((Unit) × (((List (DVerdict)) × (Unit) × Unit) × (List ((Int × Int) × (Int))) × (Unit) × Unit)) :=
  some ((), (([], (), ()), ([] : List ((Int × Int) × (Int))), (), ()))
noncomputable def ruling_New_ce : CE CT Tryz.prog where
  f := 49
  args := []
  hs := []
  res := .val (.one (.ptr 0 0))
  outs := [.obj 197 [.own 12 2, .mo 1], .mmap (.two .i64 .i64) (.int .i64), .row 41 5]
  m := fun d dh => ruling_New
  ok := ce_ok mixedP Tryz.func49 (by kernel_rfl) (orcOf_ok ruling_New_tb) (dr := ruling_New_dr) (lps := lpsOf ruling_New_lt) (lps_fn (no_loop (by kernel_rfl))) (fun d dh => by kernel_rfl)

noncomputable def clone100 (x : List (DShare)) : Option ((List (DShare)) × (Unit × Unit)) :=
  if x.length ≤ 140737488355328 ∧ x.length * 48 ≤ 140737488355328 then some (x, ((), ())) else none
noncomputable def clone100_ce : CE CT Tryz.prog where
  f := 100
  args := [.one (.sl 5)]
  hs := []
  res := .val (.one (.own 5 0))
  outs := [.row 99 4]
  m := fun d dh => clone100 d.1
  ok := fun d dh r hr => by
    unfold clone100 at hr
    split at hr
    · rename_i hroom
      injection hr with hr
      subst hr
      exact clone_tr mixedP Tryz.func100 (by kernel_rfl) rfl rfl (zv := .agg #[.string ⟨#[]⟩, .string ⟨#[]⟩, .int .i64 0, .int .i64 0]) (he := by kernel_rfl) (hsz := by kernel_rfl) (hz := by kernel_rfl) (hby := by kernel_rfl) rfl rfl d.1 hroom
    · cases hr

def registry_copied_dr : Nat → Nat → DrA
  | _, _ => ⟨[], [], [], [], [], false, []⟩
noncomputable def registry_copied_tb : List (CE CT Tryz.prog) := [clone100_ce]
noncomputable def registry_copied_lt : List (LE CT Tryz.prog) := []
noncomputable def registry_copied (x0 : DPlan) : Option ((DPlan) × (Unit)) :=
  (clone100 x0.shares.list).bind fun r1 =>
  some ((⟨(⟨x0.shares.epoch, r1.1⟩ : DShares), x0.under, x0.x⟩ : DPlan), ())
noncomputable def registry_copied_ce : CE CT Tryz.prog where
  f := 50
  args := [.cod 21]
  hs := []
  res := .val (.cod 21)
  outs := []
  m := fun d dh => registry_copied d.1
  ok := ce_ok mixedP Tryz.func50 (by kernel_rfl) (orcOf_ok registry_copied_tb) (dr := registry_copied_dr) (lps := lpsOf registry_copied_lt) (lps_fn (no_loop (by kernel_rfl))) (fun d dh => by kernel_rfl)

def registry_New_dr : Nat → Nat → DrA
  | 3, _ => ⟨[2, 3, 0, 1, 4, 5, 6, 7], [[], [0], [], [2], [0, 2, 3], [0, 1, 2, 3, 4], [0, 1, 2, 3, 4, 5], [0, 1, 2, 3, 4, 5, 6]], [2], [0], [0], false, []⟩
  | _, _ => ⟨[], [], [], [], [], false, []⟩
noncomputable def registry_New_tb : List (CE CT Tryz.prog) := [shares_Right_ce, ruling_New_ce, registry_copied_ce]
noncomputable def registry_New_lt : List (LE CT Tryz.prog) := []
noncomputable def registry_New (x0 : DShares) : Option ((Unit) × (((Unit) × (Int) × (List (DShare)) × (Bool) × (Int) × (List UInt8) × (List UInt8) × (Int) × (Int) × (Int) × (Int) × (Int) × (Int) × Unit) × ((List (DVerdict)) × (Unit) × Unit) × (List ((Int × Int) × (Int))) × (Unit) × Unit)) :=
  (shares_Right x0).bind fun r1 =>
  (bif (!r1.1) then
  none
  else
  (ruling_New).bind fun r2 =>
  (registry_copied (⟨x0, false, (⟨0, (⟨([] : List UInt8), ([] : List UInt8)⟩ : DSpan), 0, 0, 0, 0, 0⟩ : DScheme)⟩ : DPlan)).bind fun r3 =>
  some ((), (((), r3.1.shares.epoch, r3.1.shares.list, r3.1.under, r3.1.x.num, r3.1.x.span.lo, r3.1.x.span.hi, r3.1.x.from_, r3.1.x.to_, r3.1.x.epoch, r3.1.x.under, r3.1.x.stage, 0, ()), (r2.2.1.1, (), ()), r2.2.2.1, (), ())))
noncomputable def registry_New_ce : CE CT Tryz.prog where
  f := 9
  args := [.cod 15]
  hs := []
  res := .val (.one (.ptr 0 0))
  outs := [.obj 110 [.ptr 1 0, .int .i64, .sl 5, .bool, .int .i64, .str, .str, .int .i64, .int .i64, .int .i64, .int .i64, .int .u8, .int .i64], .obj 197 [.own 12 3, .mo 2], .mmap (.two .i64 .i64) (.int .i64), .row 41 5]
  m := fun d dh => registry_New d.1
  ok := ce_ok mixedP Tryz.func9 (by kernel_rfl) (orcOf_ok registry_New_tb) (dr := registry_New_dr) (lps := lpsOf registry_New_lt) (lps_fn (no_loop (by kernel_rfl))) (fun d dh => by kernel_rfl)

def registry_known_dr : Nat → Nat → DrA
  | _, _ => ⟨[], [], [], [], [], false, []⟩
noncomputable def registry_known_tb : List (CE CT Tryz.prog) := []
noncomputable def registry_known_lt : List (LE CT Tryz.prog) := []
noncomputable def registry_known (h0 : (Unit) × (Int) × (List (DShare)) × (Bool) × (Int) × (List UInt8) × (List UInt8) × (Int) × (Int) × (Int) × (Int) × (Int) × (Int) × Unit) (h1 : (List (DVerdict)) × (Unit) × Unit) (h2 : List ((Int × Int) × (Int))) : Option ((Bool) × (((Unit) × (Int) × (List (DShare)) × (Bool) × (Int) × (List UInt8) × (List UInt8) × (Int) × (Int) × (Int) × (Int) × (Int) × (Int) × Unit) × ((List (DVerdict)) × (Unit) × Unit) × (List ((Int × Int) × (Int))) × (Unit) × (Unit) × Unit)) :=
  some (true, (((), h0.2.1, h0.2.2.1, h0.2.2.2.1, h0.2.2.2.2.1, h0.2.2.2.2.2.1, h0.2.2.2.2.2.2.1, h0.2.2.2.2.2.2.2.1, h0.2.2.2.2.2.2.2.2.1, h0.2.2.2.2.2.2.2.2.2.1, h0.2.2.2.2.2.2.2.2.2.2.1, h0.2.2.2.2.2.2.2.2.2.2.2.1, h0.2.2.2.2.2.2.2.2.2.2.2.2.1, ()), (h1.1, (), ()), h2, (), (), ()))
noncomputable def registry_known_ce : CE CT Tryz.prog where
  f := 54
  args := [.one (.ptr 0 0)]
  hs := [.obj 110 [.ptr 1 0, .int .i64, .sl 5, .bool, .int .i64, .str, .str, .int .i64, .int .i64, .int .i64, .int .i64, .int .u8, .int .i64], .obj 197 [.own 12 3, .mo 2], .mmap (.two .i64 .i64) (.int .i64), .row 41 5]
  res := .val (.one (.bool))
  outs := [.obj 110 [.ptr 1 0, .int .i64, .sl 5, .bool, .int .i64, .str, .str, .int .i64, .int .i64, .int .i64, .int .i64, .int .u8, .int .i64], .obj 197 [.own 12 4, .mo 2], .mmap (.two .i64 .i64) (.int .i64), .dead, .row 41 5]
  m := fun d dh => registry_known dh.1 dh.2.1 dh.2.2.1
  ok := ce_ok mixedP Tryz.func54 (by kernel_rfl) (orcOf_ok registry_known_tb) (dr := registry_known_dr) (lps := lpsOf registry_known_lt) (lps_fn (no_loop (by kernel_rfl))) (fun d dh => by kernel_rfl)

def scheme_within_dr : Nat → Nat → DrA
  | _, _ => ⟨[], [], [], [], [], false, []⟩
noncomputable def scheme_within_tb : List (CE CT Tryz.prog) := []
noncomputable def scheme_within_lt : List (LE CT Tryz.prog) := []
noncomputable def scheme_within (x0 : Int) (x1 : Int) (x2 : Int) : Option ((Bool) × (Unit)) :=
  (bif (decide ((x1 : Int) ≤ x0)) then
  some ((decide ((x0 : Int) ≤ x2)), ())
  else
  some (false, ()))
noncomputable def scheme_within_ce : CE CT Tryz.prog where
  f := 167
  args := [.one (.int .i64), .one (.int .i64), .one (.int .i64)]
  hs := []
  res := .val (.one (.bool))
  outs := []
  m := fun d dh => scheme_within d.1 d.2.1 d.2.2.1
  ok := ce_ok mixedP Tryz.func167 (by kernel_rfl) (orcOf_ok scheme_within_tb) (dr := scheme_within_dr) (lps := lpsOf scheme_within_lt) (lps_fn (no_loop (by kernel_rfl))) (fun d dh => by kernel_rfl)

def span_over_dr : Nat → Nat → DrA
  | _, _ => ⟨[], [], [], [], [], false, []⟩
noncomputable def span_over_tb : List (CE CT Tryz.prog) := [span_none_ce, span_compare_ce]
noncomputable def span_over_lt : List (LE CT Tryz.prog) := []
noncomputable def span_over (x0 : DHigh) (x1 : DHigh) : Option ((Bool) × (Unit)) :=
  (span_none x0.text).bind fun r1 =>
  (bif r1.1 then
  some (true, ())
  else
  (span_none x1.text).bind fun r2 =>
  (bif (!r2.1) then
  (span_compare x0.text x1.text).bind fun r3 =>
  some ((decide ((0 : Int) ≤ r3.1)), ())
  else
  some (false, ())))
noncomputable def span_over_ce : CE CT Tryz.prog where
  f := 250
  args := [.cod 19, .cod 19]
  hs := []
  res := .val (.one (.bool))
  outs := []
  m := fun d dh => span_over d.1 d.2.1
  ok := ce_ok mixedP Tryz.func250 (by kernel_rfl) (orcOf_ok span_over_tb) (dr := span_over_dr) (lps := lpsOf span_over_lt) (lps_fn (no_loop (by kernel_rfl))) (fun d dh => by kernel_rfl)

def span_Within_dr : Nat → Nat → DrA
  | _, _ => ⟨[], [], [], [], [], false, []⟩
noncomputable def span_Within_tb : List (CE CT Tryz.prog) := [span_ends_ce, span_Right_ce, span_compare_ce, span_over_ce]
noncomputable def span_Within_lt : List (LE CT Tryz.prog) := []
noncomputable def span_Within (x0 : DSpan) (x1 : DSpan) : Option ((Bool) × (Unit)) :=
  (span_ends x0).bind fun r1 =>
  (span_ends x1).bind fun r2 =>
  (span_Right x0).bind fun r3 =>
  (bif r3.1 then
  (span_Right x1).bind fun r4 =>
  (bif r4.1 then
  (span_compare r2.1.1.text r1.1.1.text).bind fun r5 =>
  (bif (decide ((r5.1 : Int) ≤ 0)) then
  (span_over r2.1.2.1 r1.1.2.1).bind fun r6 =>
  some (r6.1, ())
  else
  some (false, ()))
  else
  some (false, ()))
  else
  some (false, ()))
noncomputable def span_Within_ce : CE CT Tryz.prog where
  f := 230
  args := [.cod 4, .cod 4]
  hs := []
  res := .val (.one (.bool))
  outs := []
  m := fun d dh => span_Within d.1 d.2.1
  ok := ce_ok mixedP Tryz.func230 (by kernel_rfl) (orcOf_ok span_Within_tb) (dr := span_Within_dr) (lps := lpsOf span_Within_lt) (lps_fn (no_loop (by kernel_rfl))) (fun d dh => by kernel_rfl)

def shares_Turn1_dr : Nat → Nat → DrA
  | _, _ => ⟨[], [], [], [], [], false, []⟩
noncomputable def shares_Turn1_tb : List (CE CT Tryz.prog) := [span_Within_ce]
noncomputable def shares_Turn1_lt : List (LE CT Tryz.prog) := []
noncomputable def shares_Turn1 (x0 : DSpan) (h0 : DSpan) : Option ((Bool) × ((DSpan) × Unit)) :=
  (span_Within h0 x0).bind fun r1 =>
  some (r1.1, (h0, ()))
noncomputable def shares_Turn1_ce : CE CT Tryz.prog where
  f := 229
  args := [.cod 4, .one (.ptr 0 0)]
  hs := [.cobj 35 4]
  res := .val (.one (.bool))
  outs := [.cobj 35 4]
  m := fun d dh => shares_Turn1 d.1 dh.1
  ok := ce_ok mixedP Tryz.func229 (by kernel_rfl) (orcOf_ok shares_Turn1_tb) (dr := shares_Turn1_dr) (lps := lpsOf shares_Turn1_lt) (lps_fn (no_loop (by kernel_rfl))) (fun d dh => by kernel_rfl)

def shares_at1_dr : Nat → Nat → DrA
  | _, _ => ⟨[], [], [], [], [], false, []⟩
noncomputable def shares_at1_tb : List (CE CT Tryz.prog) := [shares_Turn1_ce]
noncomputable def shares_at1_lt : List (LE CT Tryz.prog) := []
noncomputable def shares_at1 (x0 : DShare) (h0 : (Unit) × Unit) (h1 : DSpan) : Option ((Bool) × (((Unit) × Unit) × (DSpan) × Unit)) :=
  (shares_Turn1 x0.span h1).bind fun r1 =>
  some (r1.1, (((), ()), r1.2.1, ()))
noncomputable def shares_at1_ce : CE CT Tryz.prog where
  f := 174
  args := [.cod 5, .one (.ptr 0 0)]
  hs := [.obj 192 [.clo 229 [1]], .cobj 35 4]
  res := .val (.one (.bool))
  outs := [.obj 192 [.clo 229 [1]], .cobj 35 4]
  m := fun d dh => shares_at1 d.1 dh.1 dh.2.1
  ok := ce_ok mixedP Tryz.func174 (by kernel_rfl) (orcOf_ok shares_at1_tb) (dr := shares_at1_dr) (lps := lpsOf shares_at1_lt) (lps_fn (no_loop (by kernel_rfl))) (fun d dh => by kernel_rfl)

def slices_IndexFunc_2_dr : Nat → Nat → DrA
  | _, _ => ⟨[], [], [], [], [], false, []⟩
noncomputable def slices_IndexFunc_2_tb : List (CE CT Tryz.prog) := [shares_at1_ce]
noncomputable def slices_IndexFunc_2_l1 (a : ((List (DShare)) × (Unit) × (Int) × (Int) × Unit) × (((Unit) × Unit) × (DSpan) × Unit)) : Option ((((List (DShare)) × (Unit) × (Int) × (Int) × Unit) × (((Unit) × Unit) × (DSpan) × Unit)) ⊕ ((((Int) × Unit) × (((Unit) × Unit) × (DSpan) × Unit)) ⊕ ((Unit) × (((Unit) × Unit) × (DSpan) × Unit)))) :=
  (bif (decide ((a.1.2.2.2.1 : Int) < a.1.2.2.1)) then
  (getI a.1.1 a.1.2.2.2.1).bind fun e1 =>
  (shares_at1 e1 ((), ()) a.2.2.1).bind fun r2 =>
  (bif r2.1 then
  some (.inr (.inl ((a.1.2.2.2.1, ()), (((), ()), r2.2.2.1, ()))))
  else
  some (.inl ((a.1.1, (), a.1.2.2.1, (IntKind.i64.wrap (a.1.2.2.2.1 + 1)), ()), (((), ()), r2.2.2.1, ()))))
  else
  some (.inr (.inr ((), (((), ()), a.2.2.1, ())))))
noncomputable def slices_IndexFunc_2_e1 : LE CT Tryz.prog := ⟨2, [0, 1, 7, 8], [.one (.sl 5), .one (.clo 174 [0]), .one (.int .i64), .one (.int .i64)], [.obj 192 [.clo 229 [1]], .cobj 35 4], [⟨.ret, [4], [.one (.int .i64)], [.obj 192 [.clo 229 [1]], .cobj 35 4]⟩, ⟨.exit 0, [], [], [.obj 192 [.clo 229 [1]], .cobj 35 4]⟩], slices_IndexFunc_2_l1⟩
noncomputable def slices_IndexFunc_2_lt : List (LE CT Tryz.prog) := [slices_IndexFunc_2_e1]
theorem slices_IndexFunc_2_e1_ok : LeOk slices_IndexFunc_2_e1 (nthL (bodyOf Tryz.f173) 0) := fun A env h k z hk => le_ok (E := slices_IndexFunc_2_e1) (orcOf_ok slices_IndexFunc_2_tb) (dr := slices_IndexFunc_2_dr) (lps := lpsOf slices_IndexFunc_2_lt) (no_loop (by kernel_rfl)) (fun a => by kernel_rfl) env h k z hk
noncomputable def slices_IndexFunc_2 (x0 : List (DShare)) (h0 : (Unit) × Unit) (h1 : DSpan) : Option ((Int) × (((Unit) × Unit) × (DSpan) × Unit)) :=
  (loopM slices_IndexFunc_2_l1 ((x0, (), (x0.length : Int), 0, ()), (((), ()), h1, ()))).bind fun b1 =>
  (match b1 with
  | .inl b2 =>
  some (b2.1.1, (((), ()), b2.2.2.1, ()))
  | .inr b3 =>
  some ((-1), (((), ()), b3.2.2.1, ())))
noncomputable def slices_IndexFunc_2_ce : CE CT Tryz.prog where
  f := 173
  args := [.one (.sl 5), .one (.clo 174 [0])]
  hs := [.obj 192 [.clo 229 [1]], .cobj 35 4]
  res := .val (.one (.int .i64))
  outs := [.obj 192 [.clo 229 [1]], .cobj 35 4]
  m := fun d dh => slices_IndexFunc_2 d.1 dh.1 dh.2.1
  ok := ce_ok mixedP Tryz.func173 (by kernel_rfl) (orcOf_ok slices_IndexFunc_2_tb) (dr := slices_IndexFunc_2_dr) (lps := lpsOf slices_IndexFunc_2_lt) (lps_fn (lps_of (n := 1) (by kernel_rfl) fun i hi => match i, hi with | 0, _ => lp_ok (E := slices_IndexFunc_2_e1) (by kernel_rfl) slices_IndexFunc_2_e1_ok)) (fun d dh => by kernel_rfl)

def shares_at_dr : Nat → Nat → DrA
  | _, _ => ⟨[], [], [], [], [], false, []⟩
noncomputable def shares_at_tb : List (CE CT Tryz.prog) := [shares_right_ce, slices_IndexFunc_2_ce]
noncomputable def shares_at_lt : List (LE CT Tryz.prog) := []
noncomputable def shares_at (x0 : DWork) (h0 : DSpan) : Option ((Int) × ((DSpan) × Unit)) :=
  (shares_right x0).bind fun r1 =>
  (bif (!r1.1) then
  some ((-1), (h0, ()))
  else
  (slices_IndexFunc_2 x0.shares.list ((), ()) h0).bind fun r2 =>
  some (r2.1, (r2.2.2.1, ())))
noncomputable def shares_at_ce : CE CT Tryz.prog where
  f := 96
  args := [.cod 16, .one (.clo 229 [0])]
  hs := [.cobj 35 4]
  res := .val (.one (.int .i64))
  outs := [.cobj 35 4]
  m := fun d dh => shares_at d.1 dh.1
  ok := ce_ok mixedP Tryz.func96 (by kernel_rfl) (orcOf_ok shares_at_tb) (dr := shares_at_dr) (lps := lpsOf shares_at_lt) (lps_fn (no_loop (by kernel_rfl))) (fun d dh => by kernel_rfl)

noncomputable def cloneA100 (x : List (DShare)) : Option (Nat × ((List (DShare)) × Unit)) :=
  if x.length ≠ 0 ∧ x.length ≤ 140737488355328 ∧ x.length * 48 ≤ 140737488355328 then some (x.length, (x, ())) else none
noncomputable def cloneA100_ce : CE CT Tryz.prog where
  f := 100
  args := [.one (.sl 5)]
  hs := []
  res := .val (.one (.asz 6 0))
  outs := [.arr 99 6 true]
  m := fun d dh => cloneA100 d.1
  ok := fun d dh r hr => by
    unfold cloneA100 at hr
    split at hr
    · rename_i hroom
      injection hr with hr
      subst hr
      exact cloneF_tr mixedP Tryz.func100 (by kernel_rfl) rfl rfl (zv := .agg #[.string ⟨#[]⟩, .string ⟨#[]⟩, .int .i64 0, .int .i64 0]) (he := by kernel_rfl) (hsz := by kernel_rfl) (hz := by kernel_rfl) (hby := by kernel_rfl) rfl rfl (F := 6) (zt := ((⟨(⟨([] : List UInt8), ([] : List UInt8)⟩ : DSpan), 0, 0⟩ : DShare) : DShare)) d.1 d.1 (by kernel_rfl) rfl rfl (fun _ _ _ h => h) hroom.1 hroom.2
    · cases hr

def slices_Values_dr : Nat → Nat → DrA
  | _, _ => ⟨[], [], [], [], [], false, []⟩
noncomputable def slices_Values_tb : List (CE CT Tryz.prog) := []
noncomputable def slices_Values_lt : List (LE CT Tryz.prog) := []
noncomputable def slices_Values (x0 : List (List UInt8)) : Option ((Unit) × ((List (List UInt8)) × Unit)) :=
  some ((), (x0, ()))
noncomputable def slices_Values_ce : CE CT Tryz.prog where
  f := 264
  args := [.one (.sl 2)]
  hs := []
  res := .val (.one (.clo 268 [0]))
  outs := [.cobj 84 3]
  m := fun d dh => slices_Values d.1
  ok := ce_ok mixedP Tryz.func264 (by kernel_rfl) (orcOf_ok slices_Values_tb) (dr := slices_Values_dr) (lps := lpsOf slices_Values_lt) (lps_fn (no_loop (by kernel_rfl))) (fun d dh => by kernel_rfl)

def slices_Collect_dr : Nat → Nat → DrA
  | _, _ => ⟨[], [], [], [], [], false, []⟩
noncomputable def slices_Collect_tb : List (CE CT Tryz.prog) := [appendSeq_ce]
noncomputable def slices_Collect_lt : List (LE CT Tryz.prog) := []
noncomputable def slices_Collect (h0 : List (List UInt8)) : Option ((Nat × Nat) × ((List (List UInt8)) × (List (List UInt8)) × Unit)) :=
  (appendSeq h0).bind fun r1 =>
  some ((r1.1.1, r1.1.2), (r1.2.1, r1.2.2.1, ()))
noncomputable def slices_Collect_ce : CE CT Tryz.prog where
  f := 266
  args := [.one (.clo 268 [0])]
  hs := [.cobj 84 3]
  res := .val (.one (.asu 2 1))
  outs := [.cobj 84 3, .arr 9 2 false]
  m := fun d dh => slices_Collect dh.1
  ok := ce_ok mixedP Tryz.func266 (by kernel_rfl) (orcOf_ok slices_Collect_tb) (dr := slices_Collect_dr) (lps := lpsOf slices_Collect_lt) (lps_fn (no_loop (by kernel_rfl))) (fun d dh => by kernel_rfl)

def slices_Sorted_dr : Nat → Nat → DrA
  | _, _ => ⟨[], [], [], [], [], false, []⟩
noncomputable def slices_Sorted_tb : List (CE CT Tryz.prog) := [slices_Collect_ce, sortT_ce]
noncomputable def slices_Sorted_lt : List (LE CT Tryz.prog) := []
noncomputable def slices_Sorted (h0 : List (List UInt8)) : Option ((Nat × Nat) × ((List (List UInt8)) × (List (List UInt8)) × Unit)) :=
  (slices_Collect h0).bind fun r1 =>
  (sortT (r1.1.1, r1.1.2) r1.2.2.1).bind fun r2 =>
  some ((r1.1.1, r1.1.2), (r1.2.1, r2.2.1, ()))
noncomputable def slices_Sorted_ce : CE CT Tryz.prog where
  f := 263
  args := [.one (.clo 268 [0])]
  hs := [.cobj 84 3]
  res := .val (.one (.asu 2 1))
  outs := [.cobj 84 3, .arr 9 2 false]
  m := fun d dh => slices_Sorted dh.1
  ok := ce_ok mixedP Tryz.func263 (by kernel_rfl) (orcOf_ok slices_Sorted_tb) (dr := slices_Sorted_dr) (lps := lpsOf slices_Sorted_lt) (lps_fn (no_loop (by kernel_rfl))) (fun d dh => by kernel_rfl)

def slices_Compact_dr : Nat → Nat → DrA
  | 6, _ => ⟨[0, 1, 2, 4, 5, 6, 7, 3, 8, 9], [[], [], [0, 1], [0, 1, 2], [], [], [5], [4, 5, 6], [4, 5, 6, 7], [0, 1, 2, 3, 4, 5, 6, 7, 8]], [], [], [], false, []⟩
  | 11, _ => ⟨[0, 1, 2, 4, 5, 6, 7, 3, 8, 9], [[], [], [0, 1], [0, 1, 2], [], [], [5], [4, 5, 6], [4, 5, 6, 7], [0, 1, 2, 3, 4, 5, 6, 7, 8]], [], [], [], false, []⟩
  | _, _ => ⟨[], [], [], [], [], false, []⟩
noncomputable def slices_Compact_tb : List (CE CT Tryz.prog) := []
noncomputable def slices_Compact_l2 (a : ((Nat × Nat) × (Int) × (Nat × Nat) × (Int) × Unit) × ((List (List UInt8)) × Unit)) : Option ((((Nat × Nat) × (Int) × (Nat × Nat) × (Int) × Unit) × ((List (List UInt8)) × Unit)) ⊕ ((((Nat × Nat) × (Int) × Unit) × ((List (List UInt8)) × Unit)))) :=
  (bif (decide ((a.1.2.2.2.1 : Int) < ((a.1.2.2.1.2 : Nat) : Int))) then
  (if 0 ≤ (a.1.2.2.2.1 : Int) ∧ (a.1.2.2.2.1 : Int) < ((a.1.2.2.1.2 : Nat) : Int) then
  (if 0 ≤ ((IntKind.i64.wrap (a.1.2.2.2.1 - 1)) : Int) ∧ ((IntKind.i64.wrap (a.1.2.2.2.1 - 1)) : Int) < ((a.1.2.2.1.2 : Nat) : Int) then
  (a.2.1[(a.1.2.2.1.1 + (a.1.2.2.2.1 : Int).toNat)]?).bind fun e1 =>
  (a.2.1[(a.1.2.2.1.1 + ((IntKind.i64.wrap (a.1.2.2.2.1 - 1)) : Int).toNat)]?).bind fun e2 =>
  (bif (decide (e1 ≠ e2)) then
  (if 0 ≤ (a.1.2.2.2.1 : Int) ∧ (a.1.2.2.2.1 : Int) < ((a.1.2.2.1.2 : Nat) : Int) then
  (a.2.1[(a.1.2.2.1.1 + (a.1.2.2.2.1 : Int).toNat)]?).bind fun e3 =>
  (if 0 ≤ (a.1.2.1 : Int) ∧ (a.1.2.1 : Int) < ((a.1.1.2 : Nat) : Int) then
  (a.2.1[(a.1.1.1 + (a.1.2.1 : Int).toNat)]?).bind fun e4 =>
  some (.inl (((a.1.1.1, a.1.1.2), (IntKind.i64.wrap (a.1.2.1 + 1)), (a.1.2.2.1.1, a.1.2.2.1.2), (IntKind.i64.wrap (a.1.2.2.2.1 + 1)), ()), ((a.2.1.set (a.1.1.1 + (a.1.2.1 : Int).toNat) e3), ())))
  else none)
  else none)
  else
  some (.inl (((a.1.1.1, a.1.1.2), a.1.2.1, (a.1.2.2.1.1, a.1.2.2.1.2), (IntKind.i64.wrap (a.1.2.2.2.1 + 1)), ()), (a.2.1, ()))))
  else none)
  else none)
  else
  some (.inr (((a.1.1.1, a.1.1.2), a.1.2.1, ()), (a.2.1, ()))))
noncomputable def slices_Compact_e2 : LE CT Tryz.prog := ⟨9, [0, 3, 4, 5], [.one (.asu 2 0), .one (.int .i64), .one (.asu 2 0), .one (.int .i64)], [.arr 9 2 true], [⟨.exit 2, [0, 3], [.one (.asu 2 0), .one (.int .i64)], [.arr 9 2 true]⟩], slices_Compact_l2⟩
noncomputable def slices_Compact_l1 (a : ((Nat × Nat) × (Int) × Unit) × ((List (List UInt8)) × Unit)) : Option ((((Nat × Nat) × (Int) × Unit) × ((List (List UInt8)) × Unit)) ⊕ ((((Nat × Nat) × Unit) × ((List (List UInt8)) × Unit)) ⊕ (((Nat × Nat) × Unit) × ((List (List UInt8)) × Unit)))) :=
  (bif (decide ((a.1.2.1 : Int) < ((a.1.1.2 : Nat) : Int))) then
  (if 0 ≤ (a.1.2.1 : Int) ∧ (a.1.2.1 : Int) < ((a.1.1.2 : Nat) : Int) then
  (if 0 ≤ ((IntKind.i64.wrap (a.1.2.1 - 1)) : Int) ∧ ((IntKind.i64.wrap (a.1.2.1 - 1)) : Int) < ((a.1.1.2 : Nat) : Int) then
  (a.2.1[(a.1.1.1 + (a.1.2.1 : Int).toNat)]?).bind fun e1 =>
  (a.2.1[(a.1.1.1 + ((IntKind.i64.wrap (a.1.2.1 - 1)) : Int).toNat)]?).bind fun e2 =>
  (bif (decide (e1 = e2)) then
  (if 0 ≤ ((a.1.2.1 : Int) : Int) ∧ ((a.1.2.1 : Int) : Int) ≤ ((a.1.1.2 : Nat) : Int) ∧ ((a.1.1.2 : Nat) : Int) ≤ ((a.1.1.2 : Nat) : Int) ∧ ((a.1.1.2 : Nat) : Int) ≤ 140737488355328 then
  (loopM slices_Compact_l2 (((a.1.1.1, a.1.1.2), a.1.2.1, ((a.1.1.1 + (a.1.2.1 : Int).toNat), (((a.1.1.2 : Nat) : Int).toNat - (a.1.2.1 : Int).toNat)), 1, ()), (a.2.1, ()))).bind fun b3 =>
  (if 0 ≤ ((b3.1.2.1 : Int) : Int) ∧ ((b3.1.2.1 : Int) : Int) ≤ ((b3.1.1.2 : Nat) : Int) ∧ ((b3.1.1.2 : Nat) : Int) ≤ ((b3.1.1.2 : Nat) : Int) ∧ ((b3.1.1.2 : Nat) : Int) ≤ 140737488355328 then
  (if (b3.1.1.1 + (b3.1.2.1 : Int).toNat) ≤ b3.2.1.length then
  let y4 : List (List UInt8) := (b3.2.1.take (b3.1.1.1 + (b3.1.2.1 : Int).toNat) ++ List.replicate (((b3.1.1.2 : Nat) : Int).toNat - (b3.1.2.1 : Int).toNat) (([] : List UInt8) : List UInt8) ++ b3.2.1.drop ((b3.1.1.1 + (b3.1.2.1 : Int).toNat) + (((b3.1.1.2 : Nat) : Int).toNat - (b3.1.2.1 : Int).toNat)))
  (if 0 ≤ ((0 : Int) : Int) ∧ ((0 : Int) : Int) ≤ (b3.1.2.1 : Int) ∧ (b3.1.2.1 : Int) ≤ ((b3.1.1.2 : Nat) : Int) ∧ (b3.1.2.1 : Int) ≤ 140737488355328 then
  some (.inr (.inl ((((b3.1.1.1 + (0 : Int).toNat), ((b3.1.2.1 : Int).toNat - (0 : Int).toNat)), ()), (y4, ()))))
  else none)
  else none)
  else none)
  else none)
  else
  some (.inl (((a.1.1.1, a.1.1.2), (IntKind.i64.wrap (a.1.2.1 + 1)), ()), (a.2.1, ()))))
  else none)
  else none)
  else
  some (.inr (.inr (((a.1.1.1, a.1.1.2), ()), (a.2.1, ())))))
noncomputable def slices_Compact_e1 : LE CT Tryz.prog := ⟨4, [0, 3], [.one (.asu 2 0), .one (.int .i64)], [.arr 9 2 true], [⟨.ret, [2], [.one (.asu 2 0)], [.arr 9 2 true]⟩, ⟨.exit 0, [0], [.one (.asu 2 0)], [.arr 9 2 true]⟩], slices_Compact_l1⟩
noncomputable def slices_Compact_lt : List (LE CT Tryz.prog) := [slices_Compact_e2, slices_Compact_e1]
theorem slices_Compact_e2_ok : LeOk slices_Compact_e2 (nthL (nthL (bodyOf Tryz.f262) 0) 0) := fun A env h k z hk => le_ok (E := slices_Compact_e2) (orcOf_ok slices_Compact_tb) (dr := slices_Compact_dr) (lps := lpsOf slices_Compact_lt) (no_loop (by kernel_rfl)) (fun a => by kernel_rfl) env h k z hk
theorem slices_Compact_e1_ok : LeOk slices_Compact_e1 (nthL (bodyOf Tryz.f262) 0) := fun A env h k z hk => le_ok (E := slices_Compact_e1) (orcOf_ok slices_Compact_tb) (dr := slices_Compact_dr) (lps := lpsOf slices_Compact_lt) (lps_of (n := 1) (by kernel_rfl) fun i hi => match i, hi with | 0, _ => lp_ok (E := slices_Compact_e2) (by kernel_rfl) slices_Compact_e2_ok) (fun a => by kernel_rfl) env h k z hk
noncomputable def slices_Compact (x0 : Nat × Nat) (h0 : List (List UInt8)) : Option ((Nat × Nat) × ((List (List UInt8)) × Unit)) :=
  (bif (decide ((((x0.2 : Nat) : Int) : Int) < 2)) then
  some ((x0.1, x0.2), (h0, ()))
  else
  (loopM slices_Compact_l1 (((x0.1, x0.2), 1, ()), (h0, ()))).bind fun b1 =>
  (match b1 with
  | .inl b2 =>
  some ((b2.1.1.1, b2.1.1.2), (b2.2.1, ()))
  | .inr b3 =>
  some ((b3.1.1.1, b3.1.1.2), (b3.2.1, ()))))
noncomputable def slices_Compact_ce : CE CT Tryz.prog where
  f := 262
  args := [.one (.asu 2 0)]
  hs := [.arr 9 2 true]
  res := .val (.one (.asu 2 0))
  outs := [.arr 9 2 true]
  m := fun d dh => slices_Compact d.1 dh.1
  ok := ce_ok mixedP Tryz.func262 (by kernel_rfl) (orcOf_ok slices_Compact_tb) (dr := slices_Compact_dr) (lps := lpsOf slices_Compact_lt) (lps_fn (lps_of (n := 1) (by kernel_rfl) fun i hi => match i, hi with | 0, _ => lp_ok (E := slices_Compact_e1) (by kernel_rfl) slices_Compact_e1_ok)) (fun d dh => by kernel_rfl)

def span_Has_dr : Nat → Nat → DrA
  | _, _ => ⟨[], [], [], [], [], false, []⟩
noncomputable def span_Has_tb : List (CE CT Tryz.prog) := [span_ends_ce, span_Right_ce, span_Key_ce, span_compare_ce, span_above_ce]
noncomputable def span_Has_lt : List (LE CT Tryz.prog) := []
noncomputable def span_Has (x0 : DSpan) (x1 : List UInt8) : Option ((Bool) × (Unit)) :=
  (span_ends x0).bind fun r1 =>
  (span_Right x0).bind fun r2 =>
  (bif r2.1 then
  (span_Key x1).bind fun r3 =>
  (bif r3.1 then
  (span_compare r1.1.1.text (⟨x1⟩ : DText)).bind fun r4 =>
  (bif (decide ((r4.1 : Int) ≤ 0)) then
  (span_above r1.1.2.1 (⟨x1⟩ : DText)).bind fun r5 =>
  some (r5.1, ())
  else
  some (false, ()))
  else
  some (false, ()))
  else
  some (false, ()))
noncomputable def span_Has_ce : CE CT Tryz.prog where
  f := 98
  args := [.cod 4, .one (.str)]
  hs := []
  res := .val (.one (.bool))
  outs := []
  m := fun d dh => span_Has d.1 d.2.1
  ok := ce_ok mixedP Tryz.func98 (by kernel_rfl) (orcOf_ok span_Has_tb) (dr := span_Has_dr) (lps := lpsOf span_Has_lt) (lps_fn (no_loop (by kernel_rfl))) (fun d dh => by kernel_rfl)

def span_Cut_dr : Nat → Nat → DrA
  | _, _ => ⟨[], [], [], [], [], false, []⟩
noncomputable def span_Cut_tb : List (CE CT Tryz.prog) := [span_Right_ce, slices_Values_ce, slices_Sorted_ce, slices_Compact_ce, span_Has_ce]
noncomputable def span_Cut_l1 (a : ((Unit) × (List (DSpan)) × (Nat × Nat) × (Int) × (Int) × Unit) × ((DSpan) × (List (List UInt8)) × (Unit) × Unit)) : Option ((((Unit) × (List (DSpan)) × (Nat × Nat) × (Int) × (Int) × Unit) × ((DSpan) × (List (List UInt8)) × (Unit) × Unit)) ⊕ ((((Unit) × (List (DSpan)) × Unit) × ((DSpan) × (List (List UInt8)) × (Unit) × (Unit) × Unit)))) :=
  (bif (decide ((a.1.2.2.2.2.1 : Int) < a.1.2.2.2.1)) then
  (if 0 ≤ (a.1.2.2.2.2.1 : Int) ∧ (a.1.2.2.2.2.1 : Int) < ((a.1.2.2.1.2 : Nat) : Int) then
  (a.2.2.1[(a.1.2.2.1.1 + (a.1.2.2.2.2.1 : Int).toNat)]?).bind fun e1 =>
  (span_Has a.2.1 e1).bind fun r2 =>
  (bif (!r2.1) then
  some (.inl (((), a.1.2.1, (a.1.2.2.1.1, a.1.2.2.1.2), a.1.2.2.2.1, (IntKind.i64.wrap (a.1.2.2.2.2.1 + 1)), ()), (a.2.1, a.2.2.1, (), ())))
  else
  (bif (decide (e1 = a.2.1.lo)) then
  some (.inl (((), a.1.2.1, (a.1.2.2.1.1, a.1.2.2.1.2), a.1.2.2.2.1, (IntKind.i64.wrap (a.1.2.2.2.2.1 + 1)), ()), (a.2.1, a.2.2.1, (), ())))
  else
  (if a.1.2.1.length + ([(⟨a.2.1.lo, e1⟩ : DSpan)] : List (DSpan)).length ≤ 140737488355328 ∧ (a.1.2.1.length + ([(⟨a.2.1.lo, e1⟩ : DSpan)] : List (DSpan)).length) * 32 ≤ 140737488355328 then
  some (.inl (((), (a.1.2.1 ++ ([(⟨a.2.1.lo, e1⟩ : DSpan)] : List (DSpan))), (a.1.2.2.1.1, a.1.2.2.1.2), a.1.2.2.2.1, (IntKind.i64.wrap (a.1.2.2.2.2.1 + 1)), ()), ((⟨e1, a.2.1.hi⟩ : DSpan), a.2.2.1, (), ())))
  else none)))
  else none)
  else
  some (.inr (((), a.1.2.1, ()), (a.2.1, a.2.2.1, (), (), ()))))
noncomputable def span_Cut_e1 : LE CT Tryz.prog := ⟨5, [2, 5, 14, 15, 16], [.one (.ptr 0 0), .one (.own 4 2), .one (.asu 2 1), .one (.int .i64), .one (.int .i64)], [.cobj 35 4, .arr 9 2 true, .row 35 2], [⟨.exit 0, [2, 5], [.one (.ptr 0 0), .one (.own 4 3)], [.cobj 35 4, .arr 9 2 true, .dead, .row 35 2]⟩], span_Cut_l1⟩
noncomputable def span_Cut_lt : List (LE CT Tryz.prog) := [span_Cut_e1]
theorem span_Cut_e1_ok : LeOk span_Cut_e1 (nthL (bodyOf Tryz.f255) 0) := fun A env h k z hk => le_ok (E := span_Cut_e1) (orcOf_ok span_Cut_tb) (dr := span_Cut_dr) (lps := lpsOf span_Cut_lt) (no_loop (by kernel_rfl)) (fun a => by kernel_rfl) env h k z hk
noncomputable def span_Cut (x0 : DSpan) (x1 : List (List UInt8)) : Option ((List (DSpan)) × ((Unit) × Unit)) :=
  (span_Right x0).bind fun r1 =>
  (bif (!r1.1) then
  some ([], ((), ()))
  else
  (slices_Values x1).bind fun r2 =>
  (slices_Sorted r2.2.1).bind fun r3 =>
  (slices_Compact (r3.1.1, r3.1.2) r3.2.2.1).bind fun r4 =>
  (loopM span_Cut_l1 (((), [], (r4.1.1, r4.1.2), ((r4.1.2 : Nat) : Int), 0, ()), (x0, r4.2.1, (), ()))).bind fun b5 =>
  (if b5.1.2.1.length + ([b5.2.1] : List (DSpan)).length ≤ 140737488355328 ∧ (b5.1.2.1.length + ([b5.2.1] : List (DSpan)).length) * 32 ≤ 140737488355328 then
  some ((b5.1.2.1 ++ ([b5.2.1] : List (DSpan))), ((), ()))
  else none))
noncomputable def span_Cut_ce : CE CT Tryz.prog where
  f := 255
  args := [.cod 4, .one (.sl 2)]
  hs := []
  res := .val (.one (.own 4 0))
  outs := [.row 35 2]
  m := fun d dh => span_Cut d.1 d.2.1
  ok := ce_ok mixedP Tryz.func255 (by kernel_rfl) (orcOf_ok span_Cut_tb) (dr := span_Cut_dr) (lps := lpsOf span_Cut_lt) (lps_fn (lps_of (n := 1) (by kernel_rfl) fun i hi => match i, hi with | 0, _ => lp_ok (E := span_Cut_e1) (by kernel_rfl) span_Cut_e1_ok)) (fun d dh => by kernel_rfl)

def shares_parted_dr : Nat → Nat → DrA
  | _, _ => ⟨[], [], [], [], [], false, []⟩
noncomputable def shares_parted_tb : List (CE CT Tryz.prog) := [span_Cut_ce]
noncomputable def shares_parted_l1 (a : ((Int) × (Int) × (Unit) × (Unit) × (List (DShare)) × (List (DSpan)) × (Int) × (Int) × Unit) × ((DShare) × (DSpan) × (Unit) × (Unit) × Unit)) : Option ((((Int) × (Int) × (Unit) × (Unit) × (List (DShare)) × (List (DSpan)) × (Int) × (Int) × Unit) × ((DShare) × (DSpan) × (Unit) × (Unit) × Unit)) ⊕ ((((List (DShare)) × Unit) × ((DShare) × (DSpan) × (Unit) × (Unit) × (Unit) × Unit)))) :=
  (bif (decide ((a.1.2.2.2.2.2.2.2.1 : Int) < a.1.2.2.2.2.2.2.1)) then
  (getI a.1.2.2.2.2.2.1 a.1.2.2.2.2.2.2.2.1).bind fun e1 =>
  (bif (decide (e1.lo = a.2.2.1.lo) && (decide (e1.hi = a.2.2.1.hi) && true)) then
  (if a.1.2.2.2.2.1.length + ([(⟨e1, a.1.1, a.1.2.1⟩ : DShare)] : List (DShare)).length ≤ 140737488355328 ∧ (a.1.2.2.2.2.1.length + ([(⟨e1, a.1.1, a.1.2.1⟩ : DShare)] : List (DShare)).length) * 48 ≤ 140737488355328 then
  some (.inl ((a.1.1, a.1.2.1, (), (), (a.1.2.2.2.2.1 ++ ([(⟨e1, a.1.1, a.1.2.1⟩ : DShare)] : List (DShare))), a.1.2.2.2.2.2.1, a.1.2.2.2.2.2.2.1, (IntKind.i64.wrap (a.1.2.2.2.2.2.2.2.1 + 1)), ()), (a.2.1, a.2.2.1, (), (), ())))
  else none)
  else
  (if a.1.2.2.2.2.1.length + ([(⟨e1, a.2.1.group, a.2.1.epoch⟩ : DShare)] : List (DShare)).length ≤ 140737488355328 ∧ (a.1.2.2.2.2.1.length + ([(⟨e1, a.2.1.group, a.2.1.epoch⟩ : DShare)] : List (DShare)).length) * 48 ≤ 140737488355328 then
  let y2 : List (DShare) := (a.1.2.2.2.2.1 ++ ([(⟨e1, a.2.1.group, a.2.1.epoch⟩ : DShare)] : List (DShare)))
  some (.inl ((a.1.1, a.1.2.1, (), (), y2, a.1.2.2.2.2.2.1, a.1.2.2.2.2.2.2.1, (IntKind.i64.wrap (a.1.2.2.2.2.2.2.2.1 + 1)), ()), (a.2.1, a.2.2.1, (), (), ())))
  else none))
  else
  some (.inr ((a.1.2.2.2.2.1, ()), (a.2.1, a.2.2.1, (), (), (), ()))))
noncomputable def shares_parted_e1 : LE CT Tryz.prog := ⟨3, [2, 3, 4, 5, 9, 20, 21, 22], [.one (.int .i64), .one (.int .i64), .one (.ptr 0 0), .one (.ptr 1 0), .one (.own 5 2), .one (.own 4 3), .one (.int .i64), .one (.int .i64)], [.cobj 99 5, .cobj 35 4, .row 99 4, .row 35 2], [⟨.exit 0, [9], [.one (.own 5 4)], [.cobj 99 5, .cobj 35 4, .dead, .dead, .row 99 4]⟩], shares_parted_l1⟩
noncomputable def shares_parted_lt : List (LE CT Tryz.prog) := [shares_parted_e1]
theorem shares_parted_e1_ok : LeOk shares_parted_e1 (nthL (bodyOf Tryz.f232) 0) := fun A env h k z hk => le_ok (E := shares_parted_e1) (orcOf_ok shares_parted_tb) (dr := shares_parted_dr) (lps := lpsOf shares_parted_lt) (no_loop (by kernel_rfl)) (fun a => by kernel_rfl) env h k z hk
noncomputable def shares_parted (x0 : DShare) (x1 : DSpan) (x2 : Int) (x3 : Int) : Option ((List (DShare)) × ((Unit) × Unit)) :=
  (span_Cut x0.span ([x1.lo, x1.hi] : List (List UInt8))).bind fun r1 =>
  (loopM shares_parted_l1 ((x2, x3, (), (), [], r1.1, (r1.1.length : Int), 0, ()), (x0, x1, (), (), ()))).bind fun b2 =>
  some (b2.1.1, ((), ()))
noncomputable def shares_parted_ce : CE CT Tryz.prog where
  f := 232
  args := [.cod 5, .cod 4, .one (.int .i64), .one (.int .i64)]
  hs := []
  res := .val (.one (.own 5 0))
  outs := [.row 99 4]
  m := fun d dh => shares_parted d.1 d.2.1 d.2.2.1 d.2.2.2.1
  ok := ce_ok mixedP Tryz.func232 (by kernel_rfl) (orcOf_ok shares_parted_tb) (dr := shares_parted_dr) (lps := lpsOf shares_parted_lt) (lps_fn (lps_of (n := 1) (by kernel_rfl) fun i hi => match i, hi with | 0, _ => lp_ok (E := shares_parted_e1) (by kernel_rfl) shares_parted_e1_ok)) (fun d dh => by kernel_rfl)

def shares_Turn_dr : Nat → Nat → DrA
  | 11, _ => ⟨[0, 1, 4, 5, 6, 7, 8, 10, 14, 15, 16, 2, 9, 11, 12, 13, 17, 18, 3, 19, 20, 21], [[], [0], [0, 1], [0, 1, 2], [], [], [5], [], [7], [7, 8], [], [7, 8, 9, 10], [7, 8, 9, 10, 11], [], [], [], [15], [15, 16], [15, 16, 17], [0, 1, 2, 3, 7, 8, 9, 10, 11, 12, 13, 14, 15, 16, 17, 18], [0, 1, 2, 3, 4, 5, 6, 7, 8, 9, 10, 11, 12, 13, 14, 15, 16, 17, 18, 19], [0, 1, 2, 3, 4, 5, 6, 7, 8, 9, 10, 11, 12, 13, 14, 15, 16, 17, 18, 19, 20]], [9, 12, 13, 17], [3], [1, 3], false, []⟩
  | _, _ => ⟨[], [], [], [], [], false, []⟩
noncomputable def shares_Turn_tb : List (CE CT Tryz.prog) := [shares_at_ce, shares_right_ce, span_Right_ce, shares_within_ce, cloneA100_ce, shares_parted_ce, replace_ce]
noncomputable def shares_Turn_lt : List (LE CT Tryz.prog) := []
noncomputable def shares_Turn (x0 : DShares) (x1 : DSpan) (x2 : Int) : Option (((DShares) × (Int) × Unit) × (Unit)) :=
  (shares_at (⟨x0⟩ : DWork) x1).bind fun r1 =>
  (shares_right (⟨x0⟩ : DWork)).bind fun r2 =>
  (bif (!r2.1) then
  some (((⟨0, []⟩ : DShares), 2, ()), ())
  else
  (span_Right r1.2.1).bind fun r3 =>
  (bif (!r3.1) then
  some (((⟨0, []⟩ : DShares), 2, ()), ())
  else
  (shares_within x2 1 4).bind fun r4 =>
  (bif (!r4.1) then
  some (((⟨0, []⟩ : DShares), 2, ()), ())
  else
  (bif (decide ((r1.1 : Int) < 0)) then
  some (((⟨0, []⟩ : DShares), 6, ()), ())
  else
  (getI x0.list r1.1).bind fun e5 =>
  (bif (decide ((e5.group : Int) = x2)) then
  some (((⟨0, []⟩ : DShares), 7, ()), ())
  else
  (getI x0.list r1.1).bind fun e6 =>
  (cloneA100 x0.list).bind fun r7 =>
  (shares_parted e6 r1.2.1 x2 (IntKind.i64.wrap (x0.epoch + 1))).bind fun r8 =>
  (replace r7.1 r1.1 (IntKind.i64.wrap (r1.1 + 1)) r8.1 r7.2.1).bind fun r9 =>
  (bif (decide ((x0.epoch : Int) = 1073741824)) then
  some (((⟨0, []⟩ : DShares), 8, ()), ())
  else
  (bif (decide ((40 : Int) < (r9.1.length : Int))) then
  some (((⟨0, []⟩ : DShares), 8, ()), ())
  else
  some (((⟨(IntKind.i64.wrap (x0.epoch + 1)), r9.1⟩ : DShares), 0, ()), ()))))))))
noncomputable def shares_Turn_ce : CE CT Tryz.prog where
  f := 168
  args := [.cod 15, .cod 4, .one (.int .i64)]
  hs := []
  res := .tup [.cod 15, .one (.int .i64)]
  outs := []
  m := fun d dh => shares_Turn d.1 d.2.1 d.2.2.1
  ok := ce_ok mixedP Tryz.func168 (by kernel_rfl) (orcOf_ok shares_Turn_tb) (dr := shares_Turn_dr) (lps := lpsOf shares_Turn_lt) (lps_fn (no_loop (by kernel_rfl))) (fun d dh => by kernel_rfl)

def shares_In1_dr : Nat → Nat → DrA
  | _, _ => ⟨[], [], [], [], [], false, []⟩
noncomputable def shares_In1_tb : List (CE CT Tryz.prog) := [span_Within_ce]
noncomputable def shares_In1_lt : List (LE CT Tryz.prog) := []
noncomputable def shares_In1 (x0 : DSpan) (h0 : DSpan) : Option ((Bool) × ((DSpan) × Unit)) :=
  (span_Within h0 x0).bind fun r1 =>
  some (r1.1, (h0, ()))
noncomputable def shares_In1_ce : CE CT Tryz.prog where
  f := 233
  args := [.cod 4, .one (.ptr 0 0)]
  hs := [.cobj 35 4]
  res := .val (.one (.bool))
  outs := [.cobj 35 4]
  m := fun d dh => shares_In1 d.1 dh.1
  ok := ce_ok mixedP Tryz.func233 (by kernel_rfl) (orcOf_ok shares_In1_tb) (dr := shares_In1_dr) (lps := lpsOf shares_In1_lt) (lps_fn (no_loop (by kernel_rfl))) (fun d dh => by kernel_rfl)

def shares_at1_2_dr : Nat → Nat → DrA
  | _, _ => ⟨[], [], [], [], [], false, []⟩
noncomputable def shares_at1_2_tb : List (CE CT Tryz.prog) := [shares_In1_ce]
noncomputable def shares_at1_2_lt : List (LE CT Tryz.prog) := []
noncomputable def shares_at1_2 (x0 : DShare) (h0 : (Unit) × Unit) (h1 : DSpan) : Option ((Bool) × (((Unit) × Unit) × (DSpan) × Unit)) :=
  (shares_In1 x0.span h1).bind fun r1 =>
  some (r1.1, (((), ()), r1.2.1, ()))
noncomputable def shares_at1_2_ce : CE CT Tryz.prog where
  f := 174
  args := [.cod 5, .one (.ptr 0 0)]
  hs := [.obj 192 [.clo 233 [1]], .cobj 35 4]
  res := .val (.one (.bool))
  outs := [.obj 192 [.clo 233 [1]], .cobj 35 4]
  m := fun d dh => shares_at1_2 d.1 dh.1 dh.2.1
  ok := ce_ok mixedP Tryz.func174 (by kernel_rfl) (orcOf_ok shares_at1_2_tb) (dr := shares_at1_2_dr) (lps := lpsOf shares_at1_2_lt) (lps_fn (no_loop (by kernel_rfl))) (fun d dh => by kernel_rfl)

def slices_IndexFunc_3_dr : Nat → Nat → DrA
  | _, _ => ⟨[], [], [], [], [], false, []⟩
noncomputable def slices_IndexFunc_3_tb : List (CE CT Tryz.prog) := [shares_at1_2_ce]
noncomputable def slices_IndexFunc_3_l1 (a : ((List (DShare)) × (Unit) × (Int) × (Int) × Unit) × (((Unit) × Unit) × (DSpan) × Unit)) : Option ((((List (DShare)) × (Unit) × (Int) × (Int) × Unit) × (((Unit) × Unit) × (DSpan) × Unit)) ⊕ ((((Int) × Unit) × (((Unit) × Unit) × (DSpan) × Unit)) ⊕ ((Unit) × (((Unit) × Unit) × (DSpan) × Unit)))) :=
  (bif (decide ((a.1.2.2.2.1 : Int) < a.1.2.2.1)) then
  (getI a.1.1 a.1.2.2.2.1).bind fun e1 =>
  (shares_at1_2 e1 ((), ()) a.2.2.1).bind fun r2 =>
  (bif r2.1 then
  some (.inr (.inl ((a.1.2.2.2.1, ()), (((), ()), r2.2.2.1, ()))))
  else
  some (.inl ((a.1.1, (), a.1.2.2.1, (IntKind.i64.wrap (a.1.2.2.2.1 + 1)), ()), (((), ()), r2.2.2.1, ()))))
  else
  some (.inr (.inr ((), (((), ()), a.2.2.1, ())))))
noncomputable def slices_IndexFunc_3_e1 : LE CT Tryz.prog := ⟨2, [0, 1, 7, 8], [.one (.sl 5), .one (.clo 174 [0]), .one (.int .i64), .one (.int .i64)], [.obj 192 [.clo 233 [1]], .cobj 35 4], [⟨.ret, [4], [.one (.int .i64)], [.obj 192 [.clo 233 [1]], .cobj 35 4]⟩, ⟨.exit 0, [], [], [.obj 192 [.clo 233 [1]], .cobj 35 4]⟩], slices_IndexFunc_3_l1⟩
noncomputable def slices_IndexFunc_3_lt : List (LE CT Tryz.prog) := [slices_IndexFunc_3_e1]
theorem slices_IndexFunc_3_e1_ok : LeOk slices_IndexFunc_3_e1 (nthL (bodyOf Tryz.f173) 0) := fun A env h k z hk => le_ok (E := slices_IndexFunc_3_e1) (orcOf_ok slices_IndexFunc_3_tb) (dr := slices_IndexFunc_3_dr) (lps := lpsOf slices_IndexFunc_3_lt) (no_loop (by kernel_rfl)) (fun a => by kernel_rfl) env h k z hk
noncomputable def slices_IndexFunc_3 (x0 : List (DShare)) (h0 : (Unit) × Unit) (h1 : DSpan) : Option ((Int) × (((Unit) × Unit) × (DSpan) × Unit)) :=
  (loopM slices_IndexFunc_3_l1 ((x0, (), (x0.length : Int), 0, ()), (((), ()), h1, ()))).bind fun b1 =>
  (match b1 with
  | .inl b2 =>
  some (b2.1.1, (((), ()), b2.2.2.1, ()))
  | .inr b3 =>
  some ((-1), (((), ()), b3.2.2.1, ())))
noncomputable def slices_IndexFunc_3_ce : CE CT Tryz.prog where
  f := 173
  args := [.one (.sl 5), .one (.clo 174 [0])]
  hs := [.obj 192 [.clo 233 [1]], .cobj 35 4]
  res := .val (.one (.int .i64))
  outs := [.obj 192 [.clo 233 [1]], .cobj 35 4]
  m := fun d dh => slices_IndexFunc_3 d.1 dh.1 dh.2.1
  ok := ce_ok mixedP Tryz.func173 (by kernel_rfl) (orcOf_ok slices_IndexFunc_3_tb) (dr := slices_IndexFunc_3_dr) (lps := lpsOf slices_IndexFunc_3_lt) (lps_fn (lps_of (n := 1) (by kernel_rfl) fun i hi => match i, hi with | 0, _ => lp_ok (E := slices_IndexFunc_3_e1) (by kernel_rfl) slices_IndexFunc_3_e1_ok)) (fun d dh => by kernel_rfl)

def shares_at_2_dr : Nat → Nat → DrA
  | _, _ => ⟨[], [], [], [], [], false, []⟩
noncomputable def shares_at_2_tb : List (CE CT Tryz.prog) := [shares_right_ce, slices_IndexFunc_3_ce]
noncomputable def shares_at_2_lt : List (LE CT Tryz.prog) := []
noncomputable def shares_at_2 (x0 : DWork) (h0 : DSpan) : Option ((Int) × ((DSpan) × Unit)) :=
  (shares_right x0).bind fun r1 =>
  (bif (!r1.1) then
  some ((-1), (h0, ()))
  else
  (slices_IndexFunc_3 x0.shares.list ((), ()) h0).bind fun r2 =>
  some (r2.1, (r2.2.2.1, ())))
noncomputable def shares_at_2_ce : CE CT Tryz.prog where
  f := 96
  args := [.cod 16, .one (.clo 233 [0])]
  hs := [.cobj 35 4]
  res := .val (.one (.int .i64))
  outs := [.cobj 35 4]
  m := fun d dh => shares_at_2 d.1 dh.1
  ok := ce_ok mixedP Tryz.func96 (by kernel_rfl) (orcOf_ok shares_at_2_tb) (dr := shares_at_2_dr) (lps := lpsOf shares_at_2_lt) (lps_fn (no_loop (by kernel_rfl))) (fun d dh => by kernel_rfl)

def shares_share_dr : Nat → Nat → DrA
  | _, _ => ⟨[], [], [], [], [], false, []⟩
noncomputable def shares_share_tb : List (CE CT Tryz.prog) := []
noncomputable def shares_share_lt : List (LE CT Tryz.prog) := []
noncomputable def shares_share (x0 : DWork) (x1 : Int) : Option (((DShare) × (Bool) × Unit) × (Unit)) :=
  (bif (decide ((x1 : Int) < 0)) then
  some (((⟨(⟨([] : List UInt8), ([] : List UInt8)⟩ : DSpan), 0, 0⟩ : DShare), false, ()), ())
  else
  (getI x0.shares.list x1).bind fun e1 =>
  some ((e1, true, ()), ()))
noncomputable def shares_share_ce : CE CT Tryz.prog where
  f := 95
  args := [.cod 16, .one (.int .i64)]
  hs := []
  res := .tup [.cod 5, .one (.bool)]
  outs := []
  m := fun d dh => shares_share d.1 d.2.1
  ok := ce_ok mixedP Tryz.func95 (by kernel_rfl) (orcOf_ok shares_share_tb) (dr := shares_share_dr) (lps := lpsOf shares_share_lt) (lps_fn (no_loop (by kernel_rfl))) (fun d dh => by kernel_rfl)

def shares_In_dr : Nat → Nat → DrA
  | 2, _ => ⟨[2, 0, 1, 3, 4, 5, 6, 7, 8], [[], [], [], [1, 2], [0, 1, 2, 3], [0, 1, 2, 3, 4], [0, 1, 2, 3, 4], [0, 1, 2, 3, 4, 5, 6], [0, 1, 2, 3, 4, 5, 6, 7]], [0], [3], [3], false, []⟩
  | _, _ => ⟨[], [], [], [], [], false, []⟩
noncomputable def shares_In_tb : List (CE CT Tryz.prog) := [shares_at_2_ce, shares_share_ce]
noncomputable def shares_In_lt : List (LE CT Tryz.prog) := []
noncomputable def shares_In (x0 : DShares) (x1 : DSpan) : Option (((DShare) × (Bool) × Unit) × (Unit)) :=
  (shares_at_2 (⟨x0⟩ : DWork) x1).bind fun r1 =>
  (shares_share (⟨x0⟩ : DWork) r1.1).bind fun r2 =>
  some ((r2.1.1, r2.1.2.1, ()), ())
noncomputable def shares_In_ce : CE CT Tryz.prog where
  f := 169
  args := [.cod 15, .cod 4]
  hs := []
  res := .tup [.cod 5, .one (.bool)]
  outs := []
  m := fun d dh => shares_In d.1 d.2.1
  ok := ce_ok mixedP Tryz.func169 (by kernel_rfl) (orcOf_ok shares_In_tb) (dr := shares_In_dr) (lps := lpsOf shares_In_lt) (lps_fn (no_loop (by kernel_rfl))) (fun d dh => by kernel_rfl)

def scheme_Begin_dr : Nat → Nat → DrA
  | _, _ => ⟨[], [], [], [], [], false, []⟩
noncomputable def scheme_Begin_tb : List (CE CT Tryz.prog) := [scheme_within_ce, shares_Turn_ce, shares_In_ce]
noncomputable def scheme_Begin_lt : List (LE CT Tryz.prog) := []
noncomputable def scheme_Begin (x0 : DShares) (x1 : Int) (x2 : DSpan) (x3 : Int) : Option (((DScheme) × (Int) × Unit) × (Unit)) :=
  (scheme_within x1 1 1073741824).bind fun r1 =>
  (bif (!r1.1) then
  some (((⟨0, (⟨([] : List UInt8), ([] : List UInt8)⟩ : DSpan), 0, 0, 0, 0, 0⟩ : DScheme), 2, ()), ())
  else
  (shares_Turn x0 x2 x3).bind fun r2 =>
  (bif (decide ((r2.1.2.1 : Int) ≠ 0)) then
  some (((⟨0, (⟨([] : List UInt8), ([] : List UInt8)⟩ : DSpan), 0, 0, 0, 0, 0⟩ : DScheme), r2.1.2.1, ()), ())
  else
  (shares_In x0 x2).bind fun r3 =>
  some (((⟨x1, x2, r3.1.1.group, x3, r3.1.1.epoch, 0, 1⟩ : DScheme), 0, ()), ())))
noncomputable def scheme_Begin_ce : CE CT Tryz.prog where
  f := 93
  args := [.cod 15, .one (.int .i64), .cod 4, .one (.int .i64)]
  hs := []
  res := .tup [.cod 20, .one (.int .i64)]
  outs := []
  m := fun d dh => scheme_Begin d.1 d.2.1 d.2.2.1 d.2.2.2.1
  ok := ce_ok mixedP Tryz.func93 (by kernel_rfl) (orcOf_ok scheme_Begin_tb) (dr := scheme_Begin_dr) (lps := lpsOf scheme_Begin_lt) (lps_fn (no_loop (by kernel_rfl))) (fun d dh => by kernel_rfl)

def registry_Begin_dr : Nat → Nat → DrA
  | 5, _ => ⟨[0, 1, 2, 3, 5, 6, 7, 11, 4, 8, 9, 10, 12, 13, 14, 15, 16, 17, 18], [[], [0], [0, 1], [0, 1, 2], [0, 1, 2, 3], [], [5], [5, 6], [5, 6, 7], [5, 6, 7, 8], [], [], [0, 1, 2, 3, 4, 5, 6, 7, 8, 9, 10, 11], [0, 1, 2, 3, 4, 5, 6, 7, 8, 9, 10, 11, 12], [0, 1, 2, 3, 4, 5, 6, 7, 8, 9, 10, 11, 12, 13], [0, 1, 2, 3, 4, 5, 6, 7, 8, 9, 10, 11, 12, 13], [], [0, 1, 2, 3, 4, 5, 6, 7, 8, 9, 10, 11, 12, 13, 14, 16], [0, 1, 2, 3, 4, 5, 6, 7, 8, 9, 10, 11, 12, 13, 14, 15, 16, 17]], [], [], [], false, []⟩
  | 8, _ => ⟨[0, 1, 2, 4, 3, 6, 7, 8, 5, 9, 10, 11, 12, 13, 14, 15, 16], [[], [], [], [], [], [4], [0, 3], [0, 3, 6], [0, 3, 6, 7], [0, 3, 6, 7, 8], [0, 1, 3, 6, 7, 8, 9], [0, 1, 3, 6, 7, 8, 9, 10], [0, 1, 3, 6, 7, 8, 9, 10, 11], [0, 1, 3, 6, 7, 8, 9, 10, 11, 12], [0, 1, 2, 3, 4, 5, 6, 7, 8, 9, 10, 11, 12, 13], [0, 1, 2, 3, 4, 5, 6, 7, 8, 9, 10, 11, 12, 13, 14], [0, 1, 2, 3, 4, 5, 6, 7, 8, 9, 10, 11, 12, 13, 14, 15]], [5], [9, 13], [6], false, []⟩
  | _, _ => ⟨[], [], [], [], [], false, []⟩
noncomputable def registry_Begin_tb : List (CE CT Tryz.prog) := [registry_known_ce, scheme_Begin_ce]
noncomputable def registry_Begin_lt : List (LE CT Tryz.prog) := []
noncomputable def registry_Begin (x1 : DSpan) (x2 : Int) (h0 : (Unit) × (Int) × (List (DShare)) × (Bool) × (Int) × (List UInt8) × (List UInt8) × (Int) × (Int) × (Int) × (Int) × (Int) × (Int) × Unit) (h1 : (List (DVerdict)) × (Unit) × Unit) (h2 : List ((Int × Int) × (Int))) : Option (((Int) × (Int) × Unit) × (((Unit) × (Int) × (List (DShare)) × (Bool) × (Int) × (List UInt8) × (List UInt8) × (Int) × (Int) × (Int) × (Int) × (Int) × (Int) × Unit) × ((List (DVerdict)) × (Unit) × Unit) × (List ((Int × Int) × (Int))) × (Unit) × (Unit) × Unit)) :=
  (registry_known ((), h0.2.1, h0.2.2.1, h0.2.2.2.1, h0.2.2.2.2.1, h0.2.2.2.2.2.1, h0.2.2.2.2.2.2.1, h0.2.2.2.2.2.2.2.1, h0.2.2.2.2.2.2.2.2.1, h0.2.2.2.2.2.2.2.2.2.1, h0.2.2.2.2.2.2.2.2.2.2.1, h0.2.2.2.2.2.2.2.2.2.2.2.1, h0.2.2.2.2.2.2.2.2.2.2.2.2.1, ()) (h1.1, (), ()) h2).bind fun r1 =>
  (bif (!r1.1) then
  some ((0, 1, ()), (((), r1.2.1.2.1, r1.2.1.2.2.1, r1.2.1.2.2.2.1, r1.2.1.2.2.2.2.1, r1.2.1.2.2.2.2.2.1, r1.2.1.2.2.2.2.2.2.1, r1.2.1.2.2.2.2.2.2.2.1, r1.2.1.2.2.2.2.2.2.2.2.1, r1.2.1.2.2.2.2.2.2.2.2.2.1, r1.2.1.2.2.2.2.2.2.2.2.2.2.1, r1.2.1.2.2.2.2.2.2.2.2.2.2.2.1, r1.2.1.2.2.2.2.2.2.2.2.2.2.2.2.1, ()), (r1.2.2.1.1, (), ()), r1.2.2.2.1, (), (), ()))
  else
  (bif r1.2.1.2.2.2.1 then
  some ((0, 26, ()), (((), r1.2.1.2.1, r1.2.1.2.2.1, r1.2.1.2.2.2.1, r1.2.1.2.2.2.2.1, r1.2.1.2.2.2.2.2.1, r1.2.1.2.2.2.2.2.2.1, r1.2.1.2.2.2.2.2.2.2.1, r1.2.1.2.2.2.2.2.2.2.2.1, r1.2.1.2.2.2.2.2.2.2.2.2.1, r1.2.1.2.2.2.2.2.2.2.2.2.2.1, r1.2.1.2.2.2.2.2.2.2.2.2.2.2.1, r1.2.1.2.2.2.2.2.2.2.2.2.2.2.2.1, ()), (r1.2.2.1.1, (), ()), r1.2.2.2.1, (), (), ()))
  else
  (scheme_Begin (⟨r1.2.1.2.1, r1.2.1.2.2.1⟩ : DShares) (IntKind.i64.wrap (r1.2.1.2.2.2.2.2.2.2.2.2.2.2.2.1 + 1)) x1 x2).bind fun r2 =>
  (bif (decide ((r2.1.2.1 : Int) ≠ 0)) then
  some ((0, r2.1.2.1, ()), (((), r1.2.1.2.1, r1.2.1.2.2.1, r1.2.1.2.2.2.1, r1.2.1.2.2.2.2.1, r1.2.1.2.2.2.2.2.1, r1.2.1.2.2.2.2.2.2.1, r1.2.1.2.2.2.2.2.2.2.1, r1.2.1.2.2.2.2.2.2.2.2.1, r1.2.1.2.2.2.2.2.2.2.2.2.1, r1.2.1.2.2.2.2.2.2.2.2.2.2.1, r1.2.1.2.2.2.2.2.2.2.2.2.2.2.1, r1.2.1.2.2.2.2.2.2.2.2.2.2.2.2.1, ()), (r1.2.2.1.1, (), ()), r1.2.2.2.1, (), (), ()))
  else
  some ((r2.1.1.num, 0, ()), (((), r1.2.1.2.1, r1.2.1.2.2.1, true, r2.1.1.num, r2.1.1.span.lo, r2.1.1.span.hi, r2.1.1.from_, r2.1.1.to_, r2.1.1.epoch, r2.1.1.under, r2.1.1.stage, r2.1.1.num, ()), (r1.2.2.1.1, (), ()), r1.2.2.2.1, (), (), ())))))
noncomputable def registry_Begin_ce : CE CT Tryz.prog where
  f := 45
  args := [.one (.ptr 0 0), .cod 4, .one (.int .i64)]
  hs := [.obj 110 [.ptr 1 0, .int .i64, .sl 5, .bool, .int .i64, .str, .str, .int .i64, .int .i64, .int .i64, .int .i64, .int .u8, .int .i64], .obj 197 [.own 12 3, .mo 2], .mmap (.two .i64 .i64) (.int .i64), .row 41 5]
  res := .tup [.one (.int .i64), .one (.int .i64)]
  outs := [.obj 110 [.ptr 1 0, .int .i64, .sl 5, .bool, .int .i64, .str, .str, .int .i64, .int .i64, .int .i64, .int .i64, .int .u8, .int .i64], .obj 197 [.own 12 4, .mo 2], .mmap (.two .i64 .i64) (.int .i64), .dead, .row 41 5]
  m := fun d dh => registry_Begin d.2.1 d.2.2.1 dh.1 dh.2.1 dh.2.2.1
  ok := ce_ok mixedP Tryz.func45 (by kernel_rfl) (orcOf_ok registry_Begin_tb) (dr := registry_Begin_dr) (lps := lpsOf registry_Begin_lt) (lps_fn (no_loop (by kernel_rfl))) (fun d dh => by kernel_rfl)

def slices_Index_dr : Nat → Nat → DrA
  | _, _ => ⟨[], [], [], [], [], false, []⟩
noncomputable def slices_Index_tb : List (CE CT Tryz.prog) := []
noncomputable def slices_Index_l1 (a : ((List (UInt8)) × (Int) × (Int) × (Int) × Unit) × (Unit)) : Option ((((List (UInt8)) × (Int) × (Int) × (Int) × Unit) × (Unit)) ⊕ ((((Int) × Unit) × (Unit)) ⊕ ((Unit) × (Unit)))) :=
  (bif (decide ((a.1.2.2.2.1 : Int) < a.1.2.2.1)) then
  (getI a.1.1 a.1.2.2.2.1).bind fun e1 =>
  (bif (decide ((a.1.2.1 : Int) = (e1.toNat : Int))) then
  some (.inr (.inl ((a.1.2.2.2.1, ()), ())))
  else
  some (.inl ((a.1.1, a.1.2.1, a.1.2.2.1, (IntKind.i64.wrap (a.1.2.2.2.1 + 1)), ()), ())))
  else
  some (.inr (.inr ((), ()))))
noncomputable def slices_Index_e1 : LE CT Tryz.prog := ⟨2, [0, 1, 7, 8], [.one (.sl 1), .one (.int .u8), .one (.int .i64), .one (.int .i64)], [], [⟨.ret, [4], [.one (.int .i64)], []⟩, ⟨.exit 0, [], [], []⟩], slices_Index_l1⟩
noncomputable def slices_Index_lt : List (LE CT Tryz.prog) := [slices_Index_e1]
theorem slices_Index_e1_ok : LeOk slices_Index_e1 (nthL (bodyOf Tryz.f256) 0) := fun A env h k z hk => le_ok (E := slices_Index_e1) (orcOf_ok slices_Index_tb) (dr := slices_Index_dr) (lps := lpsOf slices_Index_lt) (no_loop (by kernel_rfl)) (fun a => by kernel_rfl) env h k z hk
noncomputable def slices_Index (x0 : List (UInt8)) (x1 : Int) : Option ((Int) × (Unit)) :=
  (loopM slices_Index_l1 ((x0, x1, (x0.length : Int), 0, ()), ())).bind fun b1 =>
  (match b1 with
  | .inl b2 =>
  some (b2.1.1, ())
  | .inr b3 =>
  some ((-1), ()))
noncomputable def slices_Index_ce : CE CT Tryz.prog where
  f := 256
  args := [.one (.sl 1), .one (.int .u8)]
  hs := []
  res := .val (.one (.int .i64))
  outs := []
  m := fun d dh => slices_Index d.1 d.2.1
  ok := ce_ok mixedP Tryz.func256 (by kernel_rfl) (orcOf_ok slices_Index_tb) (dr := slices_Index_dr) (lps := lpsOf slices_Index_lt) (lps_fn (lps_of (n := 1) (by kernel_rfl) fun i hi => match i, hi with | 0, _ => lp_ok (E := slices_Index_e1) (by kernel_rfl) slices_Index_e1_ok)) (fun d dh => by kernel_rfl)

def slices_Contains_dr : Nat → Nat → DrA
  | _, _ => ⟨[], [], [], [], [], false, []⟩
noncomputable def slices_Contains_tb : List (CE CT Tryz.prog) := [slices_Index_ce]
noncomputable def slices_Contains_lt : List (LE CT Tryz.prog) := []
noncomputable def slices_Contains (x0 : List (UInt8)) (x1 : Int) : Option ((Bool) × (Unit)) :=
  (slices_Index x0 x1).bind fun r1 =>
  some ((decide ((0 : Int) ≤ r1.1)), ())
noncomputable def slices_Contains_ce : CE CT Tryz.prog where
  f := 234
  args := [.one (.sl 1), .one (.int .u8)]
  hs := []
  res := .val (.one (.bool))
  outs := []
  m := fun d dh => slices_Contains d.1 d.2.1
  ok := ce_ok mixedP Tryz.func234 (by kernel_rfl) (orcOf_ok slices_Contains_tb) (dr := slices_Contains_dr) (lps := lpsOf slices_Contains_lt) (lps_fn (no_loop (by kernel_rfl))) (fun d dh => by kernel_rfl)

def scheme_turned_dr : Nat → Nat → DrA
  | _, _ => ⟨[], [], [], [], [], false, []⟩
noncomputable def scheme_turned_tb : List (CE CT Tryz.prog) := [slices_Contains_ce]
noncomputable def scheme_turned_lt : List (LE CT Tryz.prog) := []
noncomputable def scheme_turned (x0 : DWork2) : Option ((Bool) × (Unit)) :=
  (b8 4).bind fun u1 =>
  (b8 5).bind fun u2 =>
  (b8 6).bind fun u3 =>
  (slices_Contains ([u1, u2, u3] : List (UInt8)) x0.scheme.stage).bind fun r4 =>
  some (r4.1, ())
noncomputable def scheme_turned_ce : CE CT Tryz.prog where
  f := 228
  args := [.cod 22]
  hs := []
  res := .val (.one (.bool))
  outs := []
  m := fun d dh => scheme_turned d.1
  ok := ce_ok mixedP Tryz.func228 (by kernel_rfl) (orcOf_ok scheme_turned_tb) (dr := scheme_turned_dr) (lps := lpsOf scheme_turned_lt) (lps_fn (no_loop (by kernel_rfl))) (fun d dh => by kernel_rfl)

def scheme_right_dr : Nat → Nat → DrA
  | 1, _ => ⟨[1, 2, 3, 0, 4, 5, 6, 7, 8, 9], [[], [], [1], [1, 2], [0, 1, 2, 3], [0, 1, 2, 3, 4], [0, 1, 2, 3, 4, 5], [0, 1, 2, 3, 4, 5], [0, 1, 2, 3, 4, 5, 6], [0, 1, 2, 3, 4, 5, 6, 7, 8]], [3], [0], [0], false, []⟩
  | _, _ => ⟨[], [], [], [], [], false, []⟩
noncomputable def scheme_right_tb : List (CE CT Tryz.prog) := [waysM227_ce, scheme_turned_ce, scheme_within_ce, span_Right_ce]
noncomputable def scheme_right_lt : List (LE CT Tryz.prog) := []
noncomputable def scheme_right (x0 : DWork2) : Option ((Bool) × (Unit)) :=
  (waysM227).bind fun r1 =>
  (scheme_turned x0).bind fun r2 =>
  (bif r2.1 then
  (scheme_within x0.scheme.under (IntKind.i64.wrap (x0.scheme.epoch + 1)) 1073741824).bind fun r3 =>
  (scheme_within x0.scheme.from_ 1 4).bind fun r4 =>
  (bif r4.1 then
  (scheme_within x0.scheme.to_ 1 4).bind fun r5 =>
  (bif r5.1 then
  (scheme_within x0.scheme.num 1 1073741824).bind fun r6 =>
  (bif r6.1 then
  (span_Right x0.scheme.span).bind fun r7 =>
  (bif r7.1 then
  (bif (decide ((x0.scheme.from_ : Int) ≠ x0.scheme.to_)) then
  (scheme_within x0.scheme.epoch 1 1073741824).bind fun r8 =>
  (bif r8.1 then
  (bif (lkp r1.1 x0.scheme.stage).isSome then
  some (r3.1, ())
  else
  some (false, ()))
  else
  some (false, ()))
  else
  some (false, ()))
  else
  some (false, ()))
  else
  some (false, ()))
  else
  (scheme_within x0.scheme.num 1 1073741824).bind fun r9 =>
  (bif r9.1 then
  (span_Right x0.scheme.span).bind fun r10 =>
  (bif r10.1 then
  some (false, ())
  else
  some (false, ()))
  else
  some (false, ())))
  else
  (scheme_within x0.scheme.num 1 1073741824).bind fun r11 =>
  (bif r11.1 then
  (span_Right x0.scheme.span).bind fun r12 =>
  (bif r12.1 then
  some (false, ())
  else
  some (false, ()))
  else
  some (false, ())))
  else
  (scheme_within x0.scheme.from_ 1 4).bind fun r13 =>
  (bif r13.1 then
  (scheme_within x0.scheme.to_ 1 4).bind fun r14 =>
  (bif r14.1 then
  (scheme_within x0.scheme.num 1 1073741824).bind fun r15 =>
  (bif r15.1 then
  (span_Right x0.scheme.span).bind fun r16 =>
  (bif r16.1 then
  (bif (decide ((x0.scheme.from_ : Int) ≠ x0.scheme.to_)) then
  (scheme_within x0.scheme.epoch 1 1073741824).bind fun r17 =>
  (bif r17.1 then
  (bif (lkp r1.1 x0.scheme.stage).isSome then
  some ((decide ((x0.scheme.under : Int) = 0)), ())
  else
  some (false, ()))
  else
  some (false, ()))
  else
  some (false, ()))
  else
  some (false, ()))
  else
  some (false, ()))
  else
  (scheme_within x0.scheme.num 1 1073741824).bind fun r18 =>
  (bif r18.1 then
  (span_Right x0.scheme.span).bind fun r19 =>
  (bif r19.1 then
  some (false, ())
  else
  some (false, ()))
  else
  some (false, ())))
  else
  (scheme_within x0.scheme.num 1 1073741824).bind fun r20 =>
  (bif r20.1 then
  (span_Right x0.scheme.span).bind fun r21 =>
  (bif r21.1 then
  some (false, ())
  else
  some (false, ()))
  else
  some (false, ()))))
noncomputable def scheme_right_ce : CE CT Tryz.prog where
  f := 166
  args := [.cod 22]
  hs := []
  res := .val (.one (.bool))
  outs := []
  m := fun d dh => scheme_right d.1
  ok := ce_ok mixedP Tryz.func166 (by kernel_rfl) (orcOf_ok scheme_right_tb) (dr := scheme_right_dr) (lps := lpsOf scheme_right_lt) (lps_fn (no_loop (by kernel_rfl))) (fun d dh => by kernel_rfl)

def scheme_own_dr : Nat → Nat → DrA
  | _, _ => ⟨[], [], [], [], [], false, []⟩
noncomputable def scheme_own_tb : List (CE CT Tryz.prog) := [clone100_ce]
noncomputable def scheme_own_lt : List (LE CT Tryz.prog) := []
noncomputable def scheme_own (x0 : DShares) : Option ((DShares) × (Unit)) :=
  (clone100 x0.list).bind fun r1 =>
  some ((⟨x0.epoch, r1.1⟩ : DShares), ())
noncomputable def scheme_own_ce : CE CT Tryz.prog where
  f := 170
  args := [.cod 15]
  hs := []
  res := .val (.cod 15)
  outs := []
  m := fun d dh => scheme_own d.1
  ok := ce_ok mixedP Tryz.func170 (by kernel_rfl) (orcOf_ok scheme_own_tb) (dr := scheme_own_dr) (lps := lpsOf scheme_own_lt) (lps_fn (no_loop (by kernel_rfl))) (fun d dh => by kernel_rfl)

def scheme_Goes_dr : Nat → Nat → DrA
  | _, _ => ⟨[], [], [], [], [], false, []⟩
noncomputable def scheme_Goes_tb : List (CE CT Tryz.prog) := [waysM227_ce, slices_Contains_ce]
noncomputable def scheme_Goes_lt : List (LE CT Tryz.prog) := []
noncomputable def scheme_Goes (x0 : Int) (x1 : Int) : Option ((Bool) × (Unit)) :=
  (waysM227).bind fun r1 =>
  (slices_Contains ((lkp r1.1 x0).getD []) x1).bind fun r2 =>
  some (r2.1, ())
noncomputable def scheme_Goes_ce : CE CT Tryz.prog where
  f := 171
  args := [.one (.int .u8), .one (.int .u8)]
  hs := []
  res := .val (.one (.bool))
  outs := []
  m := fun d dh => scheme_Goes d.1 d.2.1
  ok := ce_ok mixedP Tryz.func171 (by kernel_rfl) (orcOf_ok scheme_Goes_tb) (dr := scheme_Goes_dr) (lps := lpsOf scheme_Goes_lt) (lps_fn (no_loop (by kernel_rfl))) (fun d dh => by kernel_rfl)

def scheme_turn_dr : Nat → Nat → DrA
  | 1, _ => ⟨[1, 2, 3, 4, 6, 7, 8, 9, 0, 5, 10, 11, 12, 13, 14, 15, 16, 17], [[], [], [1], [1, 2], [1, 2, 3], [1, 2, 3, 4], [], [6], [6, 7], [6, 7, 8], [6, 7, 8, 9], [0, 1, 2, 3, 4, 5, 6, 7, 8, 9, 10], [0, 1, 2, 3, 4, 5, 6, 7, 8, 9, 10, 11], [0, 1, 2, 3, 4, 5, 6, 7, 8, 9, 10, 11, 12], [0, 1, 2, 3, 4, 5, 6, 7, 8, 9, 10, 11, 12], [], [0, 1, 2, 3, 4, 5, 6, 7, 8, 9, 10, 11, 12, 13, 15], [0, 1, 2, 3, 4, 5, 6, 7, 8, 9, 10, 11, 12, 13, 14, 15, 16]], [], [], [], false, []⟩
  | 4, _ => ⟨[1, 2, 3, 4, 0, 5, 6, 7, 8, 9, 10, 11, 12], [[], [], [1], [1, 2], [1, 2, 3], [1, 2, 3, 4], [0, 1, 2, 3, 4, 5], [0, 1, 2, 3, 4, 5, 6], [0, 1, 2, 3, 4, 5, 6, 7], [0, 1, 2, 3, 4, 5, 6, 7], [], [0, 1, 2, 3, 4, 5, 6, 7, 8, 10], [0, 1, 2, 3, 4, 5, 6, 7, 8, 9, 10, 11]], [], [], [], false, []⟩
  | 5, _ => ⟨[0, 2, 3, 4, 5, 1, 6, 7, 8, 9, 11, 12, 13, 14, 10, 15, 16, 17], [[], [0], [], [2], [2, 3], [2, 3, 4], [2, 3, 4, 5], [0, 1, 2, 3, 4, 5, 6], [0, 1, 2, 3, 4, 5, 6, 7], [0, 1, 2, 3, 4, 5, 6, 7, 8], [0, 1, 2, 3, 4, 5, 6, 7, 8, 9], [0, 1, 2, 3, 4, 5, 6, 7, 8], [0, 1, 2, 3, 4, 5, 6, 7, 8, 11], [0, 1, 2, 3, 4, 5, 6, 7, 8, 11, 12], [0, 1, 2, 3, 4, 5, 6, 7, 8, 11, 12, 13], [0, 1, 2, 3, 4, 5, 6, 7, 8, 11, 12, 13, 14], [0, 1, 2, 3, 4, 5, 6, 7, 8, 9, 10, 11, 12, 13, 14, 15], [0, 1, 2, 3, 4, 5, 6, 7, 8, 9, 10, 11, 12, 13, 14, 15, 16]], [], [], [], false, []⟩
  | _, _ => ⟨[], [], [], [], [], false, []⟩
noncomputable def scheme_turn_tb : List (CE CT Tryz.prog) := [shares_Turn_ce, shares_In_ce]
noncomputable def scheme_turn_lt : List (LE CT Tryz.prog) := []
noncomputable def scheme_turn (x1 : DShares) (h0 : DWork2) : Option (((DShares) × (Int) × Unit) × ((DWork2) × Unit)) :=
  (shares_Turn x1 h0.scheme.span h0.scheme.to_).bind fun r1 =>
  (bif (decide ((r1.1.2.1 : Int) ≠ 0)) then
  some ((r1.1.1, r1.1.2.1, ()), (h0, ()))
  else
  (shares_In x1 h0.scheme.span).bind fun r2 =>
  (bif (decide ((r2.1.1.group : Int) ≠ h0.scheme.from_)) then
  some (((⟨0, []⟩ : DShares), 26, ()), (h0, ()))
  else
  (bif (decide ((r2.1.1.epoch : Int) ≠ h0.scheme.epoch)) then
  some (((⟨0, []⟩ : DShares), 26, ()), (h0, ()))
  else
  some ((r1.1.1, 0, ()), ((⟨(⟨h0.scheme.num, h0.scheme.span, h0.scheme.from_, h0.scheme.to_, h0.scheme.epoch, r1.1.1.epoch, h0.scheme.stage⟩ : DScheme)⟩ : DWork2), ())))))
noncomputable def scheme_turn_ce : CE CT Tryz.prog where
  f := 172
  args := [.one (.ptr 0 0), .cod 15]
  hs := [.cobj 252 22]
  res := .tup [.cod 15, .one (.int .i64)]
  outs := [.cobj 252 22]
  m := fun d dh => scheme_turn d.2.1 dh.1
  ok := ce_ok mixedP Tryz.func172 (by kernel_rfl) (orcOf_ok scheme_turn_tb) (dr := scheme_turn_dr) (lps := lpsOf scheme_turn_lt) (lps_fn (no_loop (by kernel_rfl))) (fun d dh => by kernel_rfl)

def scheme_Step_dr : Nat → Nat → DrA
  | 6, _ => ⟨[0, 1, 2, 3, 4, 5], [[], [], [1], [0, 1, 2], [0, 1, 2, 3], [0, 1, 2, 3, 4]], [0], [2], [0], false, []⟩
  | 16, _ => ⟨[0, 1, 2, 3, 4, 5, 6, 7], [[], [0], [0, 1], [0, 1, 2], [], [0, 1, 2, 3], [0, 1, 2, 3, 4, 5], [0, 1, 2, 3, 4, 5, 6]], [4], [5], [5], false, []⟩
  | _, _ => ⟨[], [], [], [], [], false, []⟩
noncomputable def scheme_Step_tb : List (CE CT Tryz.prog) := [scheme_right_ce, shares_Right_ce, scheme_own_ce, scheme_Goes_ce, scheme_turn_ce]
noncomputable def scheme_Step_lt : List (LE CT Tryz.prog) := []
noncomputable def scheme_Step (x0 : DScheme) (x1 : DShares) (x2 : Int) : Option (((DScheme) × (DShares) × (Int) × Unit) × (Unit)) :=
  (scheme_right (⟨x0⟩ : DWork2)).bind fun r1 =>
  (bif (!r1.1) then
  some (((⟨0, (⟨([] : List UInt8), ([] : List UInt8)⟩ : DSpan), 0, 0, 0, 0, 0⟩ : DScheme), (⟨0, []⟩ : DShares), 2, ()), ())
  else
  (shares_Right x1).bind fun r2 =>
  (bif (!r2.1) then
  some (((⟨0, (⟨([] : List UInt8), ([] : List UInt8)⟩ : DSpan), 0, 0, 0, 0, 0⟩ : DScheme), (⟨0, []⟩ : DShares), 2, ()), ())
  else
  (bif (decide ((x0.stage : Int) = x2)) then
  (scheme_own x1).bind fun r3 =>
  some ((x0, r3.1, 0, ()), ())
  else
  (scheme_Goes x0.stage x2).bind fun r4 =>
  (bif (!r4.1) then
  some (((⟨0, (⟨([] : List UInt8), ([] : List UInt8)⟩ : DSpan), 0, 0, 0, 0, 0⟩ : DScheme), (⟨0, []⟩ : DShares), 26, ()), ())
  else
  (scheme_own x1).bind fun r5 =>
  (bif (decide ((x2 : Int) = 4)) then
  (scheme_turn x1 (⟨x0⟩ : DWork2)).bind fun r6 =>
  (bif (decide ((r6.1.2.1 : Int) ≠ 0)) then
  some (((⟨0, (⟨([] : List UInt8), ([] : List UInt8)⟩ : DSpan), 0, 0, 0, 0, 0⟩ : DScheme), (⟨0, []⟩ : DShares), r6.1.2.1, ()), ())
  else
  some (((⟨r6.2.1.scheme.num, r6.2.1.scheme.span, r6.2.1.scheme.from_, r6.2.1.scheme.to_, r6.2.1.scheme.epoch, r6.2.1.scheme.under, x2⟩ : DScheme), r6.1.1, 0, ()), ()))
  else
  some (((⟨x0.num, x0.span, x0.from_, x0.to_, x0.epoch, x0.under, x2⟩ : DScheme), r5.1, 0, ()), ()))))))
noncomputable def scheme_Step_ce : CE CT Tryz.prog where
  f := 94
  args := [.cod 20, .cod 15, .one (.int .u8)]
  hs := []
  res := .tup [.cod 20, .cod 15, .one (.int .i64)]
  outs := []
  m := fun d dh => scheme_Step d.1 d.2.1 d.2.2.1
  ok := ce_ok mixedP Tryz.func94 (by kernel_rfl) (orcOf_ok scheme_Step_tb) (dr := scheme_Step_dr) (lps := lpsOf scheme_Step_lt) (lps_fn (no_loop (by kernel_rfl))) (fun d dh => by kernel_rfl)

def scheme_Over_dr : Nat → Nat → DrA
  | _, _ => ⟨[], [], [], [], [], false, []⟩
noncomputable def scheme_Over_tb : List (CE CT Tryz.prog) := []
noncomputable def scheme_Over_lt : List (LE CT Tryz.prog) := []
noncomputable def scheme_Over (x0 : DScheme) : Option ((Bool) × (Unit)) :=
  (bif (decide ((x0.stage : Int) = 6)) then
  some (true, ())
  else
  some ((decide ((x0.stage : Int) = 9)), ()))
noncomputable def scheme_Over_ce : CE CT Tryz.prog where
  f := 92
  args := [.cod 20]
  hs := []
  res := .val (.one (.bool))
  outs := []
  m := fun d dh => scheme_Over d.1
  ok := ce_ok mixedP Tryz.func92 (by kernel_rfl) (orcOf_ok scheme_Over_tb) (dr := scheme_Over_dr) (lps := lpsOf scheme_Over_lt) (lps_fn (no_loop (by kernel_rfl))) (fun d dh => by kernel_rfl)

def registry_Step_dr : Nat → Nat → DrA
  | 9, _ => ⟨[0, 1, 2, 3, 5, 6, 7, 8, 10, 4, 9, 11, 12, 13, 14, 15, 16, 17, 18, 19, 20], [[], [0], [0, 1], [0, 1, 2], [0, 1, 2, 3], [], [5], [5, 6], [5, 6, 7], [5, 6, 7, 8], [], [0, 1, 2, 3, 4, 5, 6, 7, 8, 9, 10], [0, 1, 2, 3, 4, 5, 6, 7, 8, 9, 10, 11], [0, 1, 2, 3, 4, 5, 6, 7, 8, 9, 10, 11, 12], [0, 1, 2, 3, 4, 5, 6, 7, 8, 9, 10, 11, 12], [0, 1, 2, 3, 4, 5, 6, 7, 8, 9, 10, 11, 12], [], [], [0, 1, 2, 3, 4, 5, 6, 7, 8, 9, 10, 11, 12, 13, 16, 17], [0, 1, 2, 3, 4, 5, 6, 7, 8, 9, 10, 11, 12, 13, 14, 16, 17, 18], [0, 1, 2, 3, 4, 5, 6, 7, 8, 9, 10, 11, 12, 13, 14, 15, 16, 17, 18, 19]], [], [], [], false, []⟩
  | 12, _ => ⟨[0, 1, 2, 4, 5, 6, 3, 7, 8, 9, 10, 11], [[], [], [], [], [0, 2], [0, 2, 4], [0, 2, 4, 5], [0, 2, 4, 5, 6], [0, 1, 2, 3, 4, 5, 6, 7], [0, 1, 2, 3, 4, 5, 6, 7, 8], [0, 1, 2, 3, 4, 5, 6, 7, 8, 9], [0, 1, 2, 3, 4, 5, 6, 7, 8, 9, 10]], [3], [7], [6], false, []⟩
  | _, _ => ⟨[], [], [], [], [], false, []⟩
noncomputable def registry_Step_tb : List (CE CT Tryz.prog) := [registry_known_ce, scheme_Step_ce, scheme_Over_ce]
noncomputable def registry_Step_lt : List (LE CT Tryz.prog) := []
noncomputable def registry_Step (x1 : Int) (x2 : Int) (h0 : (Unit) × (Int) × (List (DShare)) × (Bool) × (Int) × (List UInt8) × (List UInt8) × (Int) × (Int) × (Int) × (Int) × (Int) × (Int) × Unit) (h1 : (List (DVerdict)) × (Unit) × Unit) (h2 : List ((Int × Int) × (Int))) : Option (((Int) × (Int) × Unit) × (((Unit) × (Int) × (List (DShare)) × (Bool) × (Int) × (List UInt8) × (List UInt8) × (Int) × (Int) × (Int) × (Int) × (Int) × (Int) × Unit) × ((List (DVerdict)) × (Unit) × Unit) × (List ((Int × Int) × (Int))) × (Unit) × (Unit) × Unit)) :=
  (registry_known ((), h0.2.1, h0.2.2.1, h0.2.2.2.1, h0.2.2.2.2.1, h0.2.2.2.2.2.1, h0.2.2.2.2.2.2.1, h0.2.2.2.2.2.2.2.1, h0.2.2.2.2.2.2.2.2.1, h0.2.2.2.2.2.2.2.2.2.1, h0.2.2.2.2.2.2.2.2.2.2.1, h0.2.2.2.2.2.2.2.2.2.2.2.1, h0.2.2.2.2.2.2.2.2.2.2.2.2.1, ()) (h1.1, (), ()) h2).bind fun r1 =>
  (bif (!r1.1) then
  some ((0, 1, ()), (((), r1.2.1.2.1, r1.2.1.2.2.1, r1.2.1.2.2.2.1, r1.2.1.2.2.2.2.1, r1.2.1.2.2.2.2.2.1, r1.2.1.2.2.2.2.2.2.1, r1.2.1.2.2.2.2.2.2.2.1, r1.2.1.2.2.2.2.2.2.2.2.1, r1.2.1.2.2.2.2.2.2.2.2.2.1, r1.2.1.2.2.2.2.2.2.2.2.2.2.1, r1.2.1.2.2.2.2.2.2.2.2.2.2.2.1, r1.2.1.2.2.2.2.2.2.2.2.2.2.2.2.1, ()), (r1.2.2.1.1, (), ()), r1.2.2.2.1, (), (), ()))
  else
  (bif (decide ((x1 : Int) < 1)) then
  some ((0, 2, ()), (((), r1.2.1.2.1, r1.2.1.2.2.1, r1.2.1.2.2.2.1, r1.2.1.2.2.2.2.1, r1.2.1.2.2.2.2.2.1, r1.2.1.2.2.2.2.2.2.1, r1.2.1.2.2.2.2.2.2.2.1, r1.2.1.2.2.2.2.2.2.2.2.1, r1.2.1.2.2.2.2.2.2.2.2.2.1, r1.2.1.2.2.2.2.2.2.2.2.2.2.1, r1.2.1.2.2.2.2.2.2.2.2.2.2.2.1, r1.2.1.2.2.2.2.2.2.2.2.2.2.2.2.1, ()), (r1.2.2.1.1, (), ()), r1.2.2.2.1, (), (), ()))
  else
  (bif (decide ((1073741824 : Int) < x1)) then
  some ((0, 2, ()), (((), r1.2.1.2.1, r1.2.1.2.2.1, r1.2.1.2.2.2.1, r1.2.1.2.2.2.2.1, r1.2.1.2.2.2.2.2.1, r1.2.1.2.2.2.2.2.2.1, r1.2.1.2.2.2.2.2.2.2.1, r1.2.1.2.2.2.2.2.2.2.2.1, r1.2.1.2.2.2.2.2.2.2.2.2.1, r1.2.1.2.2.2.2.2.2.2.2.2.2.1, r1.2.1.2.2.2.2.2.2.2.2.2.2.2.1, r1.2.1.2.2.2.2.2.2.2.2.2.2.2.2.1, ()), (r1.2.2.1.1, (), ()), r1.2.2.2.1, (), (), ()))
  else
  (bif (decide ((x2 : Int) < 1)) then
  some ((0, 2, ()), (((), r1.2.1.2.1, r1.2.1.2.2.1, r1.2.1.2.2.2.1, r1.2.1.2.2.2.2.1, r1.2.1.2.2.2.2.2.1, r1.2.1.2.2.2.2.2.2.1, r1.2.1.2.2.2.2.2.2.2.1, r1.2.1.2.2.2.2.2.2.2.2.1, r1.2.1.2.2.2.2.2.2.2.2.2.1, r1.2.1.2.2.2.2.2.2.2.2.2.2.1, r1.2.1.2.2.2.2.2.2.2.2.2.2.2.1, r1.2.1.2.2.2.2.2.2.2.2.2.2.2.2.1, ()), (r1.2.2.1.1, (), ()), r1.2.2.2.1, (), (), ()))
  else
  (bif (decide ((9 : Int) < x2)) then
  some ((0, 2, ()), (((), r1.2.1.2.1, r1.2.1.2.2.1, r1.2.1.2.2.2.1, r1.2.1.2.2.2.2.1, r1.2.1.2.2.2.2.2.1, r1.2.1.2.2.2.2.2.2.1, r1.2.1.2.2.2.2.2.2.2.1, r1.2.1.2.2.2.2.2.2.2.2.1, r1.2.1.2.2.2.2.2.2.2.2.2.1, r1.2.1.2.2.2.2.2.2.2.2.2.2.1, r1.2.1.2.2.2.2.2.2.2.2.2.2.2.1, r1.2.1.2.2.2.2.2.2.2.2.2.2.2.2.1, ()), (r1.2.2.1.1, (), ()), r1.2.2.2.1, (), (), ()))
  else
  (bif (decide ((r1.2.1.2.2.2.2.2.2.2.2.2.2.2.2.1 : Int) < x1)) then
  some ((0, 26, ()), (((), r1.2.1.2.1, r1.2.1.2.2.1, r1.2.1.2.2.2.1, r1.2.1.2.2.2.2.1, r1.2.1.2.2.2.2.2.1, r1.2.1.2.2.2.2.2.2.1, r1.2.1.2.2.2.2.2.2.2.1, r1.2.1.2.2.2.2.2.2.2.2.1, r1.2.1.2.2.2.2.2.2.2.2.2.1, r1.2.1.2.2.2.2.2.2.2.2.2.2.1, r1.2.1.2.2.2.2.2.2.2.2.2.2.2.1, r1.2.1.2.2.2.2.2.2.2.2.2.2.2.2.1, ()), (r1.2.2.1.1, (), ()), r1.2.2.2.1, (), (), ()))
  else
  (bif (!r1.2.1.2.2.2.1) then
  some ((0, 0, ()), (((), r1.2.1.2.1, r1.2.1.2.2.1, r1.2.1.2.2.2.1, r1.2.1.2.2.2.2.1, r1.2.1.2.2.2.2.2.1, r1.2.1.2.2.2.2.2.2.1, r1.2.1.2.2.2.2.2.2.2.1, r1.2.1.2.2.2.2.2.2.2.2.1, r1.2.1.2.2.2.2.2.2.2.2.2.1, r1.2.1.2.2.2.2.2.2.2.2.2.2.1, r1.2.1.2.2.2.2.2.2.2.2.2.2.2.1, r1.2.1.2.2.2.2.2.2.2.2.2.2.2.2.1, ()), (r1.2.2.1.1, (), ()), r1.2.2.2.1, (), (), ()))
  else
  (bif (decide ((r1.2.1.2.2.2.2.1 : Int) ≠ x1)) then
  some ((0, 0, ()), (((), r1.2.1.2.1, r1.2.1.2.2.1, r1.2.1.2.2.2.1, r1.2.1.2.2.2.2.1, r1.2.1.2.2.2.2.2.1, r1.2.1.2.2.2.2.2.2.1, r1.2.1.2.2.2.2.2.2.2.1, r1.2.1.2.2.2.2.2.2.2.2.1, r1.2.1.2.2.2.2.2.2.2.2.2.1, r1.2.1.2.2.2.2.2.2.2.2.2.2.1, r1.2.1.2.2.2.2.2.2.2.2.2.2.2.1, r1.2.1.2.2.2.2.2.2.2.2.2.2.2.2.1, ()), (r1.2.2.1.1, (), ()), r1.2.2.2.1, (), (), ()))
  else
  (scheme_Step (⟨r1.2.1.2.2.2.2.1, (⟨r1.2.1.2.2.2.2.2.1, r1.2.1.2.2.2.2.2.2.1⟩ : DSpan), r1.2.1.2.2.2.2.2.2.2.1, r1.2.1.2.2.2.2.2.2.2.2.1, r1.2.1.2.2.2.2.2.2.2.2.2.1, r1.2.1.2.2.2.2.2.2.2.2.2.2.1, r1.2.1.2.2.2.2.2.2.2.2.2.2.2.1⟩ : DScheme) (⟨r1.2.1.2.1, r1.2.1.2.2.1⟩ : DShares) x2).bind fun r2 =>
  (bif (decide ((r2.1.2.2.1 : Int) ≠ 0)) then
  some ((0, r2.1.2.2.1, ()), (((), r1.2.1.2.1, r1.2.1.2.2.1, r1.2.1.2.2.2.1, r1.2.1.2.2.2.2.1, r1.2.1.2.2.2.2.2.1, r1.2.1.2.2.2.2.2.2.1, r1.2.1.2.2.2.2.2.2.2.1, r1.2.1.2.2.2.2.2.2.2.2.1, r1.2.1.2.2.2.2.2.2.2.2.2.1, r1.2.1.2.2.2.2.2.2.2.2.2.2.1, r1.2.1.2.2.2.2.2.2.2.2.2.2.2.1, r1.2.1.2.2.2.2.2.2.2.2.2.2.2.2.1, ()), (r1.2.2.1.1, (), ()), r1.2.2.2.1, (), (), ()))
  else
  (scheme_Over r2.1.1).bind fun r3 =>
  (bif r3.1 then
  some ((x2, 0, ()), (((), r2.1.2.1.epoch, r2.1.2.1.list, false, 0, ([] : List UInt8), ([] : List UInt8), 0, 0, 0, 0, 0, r1.2.1.2.2.2.2.2.2.2.2.2.2.2.2.1, ()), (r1.2.2.1.1, (), ()), r1.2.2.2.1, (), (), ()))
  else
  some ((x2, 0, ()), (((), r2.1.2.1.epoch, r2.1.2.1.list, r1.2.1.2.2.2.1, r2.1.1.num, r2.1.1.span.lo, r2.1.1.span.hi, r2.1.1.from_, r2.1.1.to_, r2.1.1.epoch, r2.1.1.under, r2.1.1.stage, r1.2.1.2.2.2.2.2.2.2.2.2.2.2.2.1, ()), (r1.2.2.1.1, (), ()), r1.2.2.2.1, (), (), ()))))))))))))
noncomputable def registry_Step_ce : CE CT Tryz.prog where
  f := 46
  args := [.one (.ptr 0 0), .one (.int .i64), .one (.int .u8)]
  hs := [.obj 110 [.ptr 1 0, .int .i64, .sl 5, .bool, .int .i64, .str, .str, .int .i64, .int .i64, .int .i64, .int .i64, .int .u8, .int .i64], .obj 197 [.own 12 3, .mo 2], .mmap (.two .i64 .i64) (.int .i64), .row 41 5]
  res := .tup [.one (.int .u8), .one (.int .i64)]
  outs := [.obj 110 [.ptr 1 0, .int .i64, .sl 5, .bool, .int .i64, .str, .str, .int .i64, .int .i64, .int .i64, .int .i64, .int .u8, .int .i64], .obj 197 [.own 12 4, .mo 2], .mmap (.two .i64 .i64) (.int .i64), .dead, .row 41 5]
  m := fun d dh => registry_Step d.2.1 d.2.2.1 dh.1 dh.2.1 dh.2.2.1
  ok := ce_ok mixedP Tryz.func46 (by kernel_rfl) (orcOf_ok registry_Step_tb) (dr := registry_Step_dr) (lps := lpsOf registry_Step_lt) (lps_fn (no_loop (by kernel_rfl))) (fun d dh => by kernel_rfl)

def registry_Scheme_dr : Nat → Nat → DrA
  | 3, _ => ⟨[0, 1, 2, 3, 5, 6, 7, 8, 4, 9, 10, 11], [[], [0], [0, 1], [0, 1, 2], [0, 1, 2, 3], [], [5], [5, 6], [5, 6, 7], [5, 6, 7, 8], [0, 1, 2, 3, 4], [0, 1, 2, 3, 4, 5, 6, 7, 8, 9, 10]], [9], [10], [0], false, []⟩
  | _, _ => ⟨[], [], [], [], [], false, []⟩
noncomputable def registry_Scheme_tb : List (CE CT Tryz.prog) := [registry_known_ce]
noncomputable def registry_Scheme_lt : List (LE CT Tryz.prog) := []
noncomputable def registry_Scheme (h0 : (Unit) × (Int) × (List (DShare)) × (Bool) × (Int) × (List UInt8) × (List UInt8) × (Int) × (Int) × (Int) × (Int) × (Int) × (Int) × Unit) (h1 : (List (DVerdict)) × (Unit) × Unit) (h2 : List ((Int × Int) × (Int))) : Option (((DScheme) × (Bool) × Unit) × (((Unit) × (Int) × (List (DShare)) × (Bool) × (Int) × (List UInt8) × (List UInt8) × (Int) × (Int) × (Int) × (Int) × (Int) × (Int) × Unit) × ((List (DVerdict)) × (Unit) × Unit) × (List ((Int × Int) × (Int))) × (Unit) × (Unit) × Unit)) :=
  (registry_known ((), h0.2.1, h0.2.2.1, h0.2.2.2.1, h0.2.2.2.2.1, h0.2.2.2.2.2.1, h0.2.2.2.2.2.2.1, h0.2.2.2.2.2.2.2.1, h0.2.2.2.2.2.2.2.2.1, h0.2.2.2.2.2.2.2.2.2.1, h0.2.2.2.2.2.2.2.2.2.2.1, h0.2.2.2.2.2.2.2.2.2.2.2.1, h0.2.2.2.2.2.2.2.2.2.2.2.2.1, ()) (h1.1, (), ()) h2).bind fun r1 =>
  (bif (!r1.1) then
  some (((⟨0, (⟨([] : List UInt8), ([] : List UInt8)⟩ : DSpan), 0, 0, 0, 0, 0⟩ : DScheme), false, ()), (((), r1.2.1.2.1, r1.2.1.2.2.1, r1.2.1.2.2.2.1, r1.2.1.2.2.2.2.1, r1.2.1.2.2.2.2.2.1, r1.2.1.2.2.2.2.2.2.1, r1.2.1.2.2.2.2.2.2.2.1, r1.2.1.2.2.2.2.2.2.2.2.1, r1.2.1.2.2.2.2.2.2.2.2.2.1, r1.2.1.2.2.2.2.2.2.2.2.2.2.1, r1.2.1.2.2.2.2.2.2.2.2.2.2.2.1, r1.2.1.2.2.2.2.2.2.2.2.2.2.2.2.1, ()), (r1.2.2.1.1, (), ()), r1.2.2.2.1, (), (), ()))
  else
  some (((⟨r1.2.1.2.2.2.2.1, (⟨r1.2.1.2.2.2.2.2.1, r1.2.1.2.2.2.2.2.2.1⟩ : DSpan), r1.2.1.2.2.2.2.2.2.2.1, r1.2.1.2.2.2.2.2.2.2.2.1, r1.2.1.2.2.2.2.2.2.2.2.2.1, r1.2.1.2.2.2.2.2.2.2.2.2.2.1, r1.2.1.2.2.2.2.2.2.2.2.2.2.2.1⟩ : DScheme), r1.2.1.2.2.2.1, ()), (((), r1.2.1.2.1, r1.2.1.2.2.1, r1.2.1.2.2.2.1, r1.2.1.2.2.2.2.1, r1.2.1.2.2.2.2.2.1, r1.2.1.2.2.2.2.2.2.1, r1.2.1.2.2.2.2.2.2.2.1, r1.2.1.2.2.2.2.2.2.2.2.1, r1.2.1.2.2.2.2.2.2.2.2.2.1, r1.2.1.2.2.2.2.2.2.2.2.2.2.1, r1.2.1.2.2.2.2.2.2.2.2.2.2.2.1, r1.2.1.2.2.2.2.2.2.2.2.2.2.2.2.1, ()), (r1.2.2.1.1, (), ()), r1.2.2.2.1, (), (), ())))
noncomputable def registry_Scheme_ce : CE CT Tryz.prog where
  f := 42
  args := [.one (.ptr 0 0)]
  hs := [.obj 110 [.ptr 1 0, .int .i64, .sl 5, .bool, .int .i64, .str, .str, .int .i64, .int .i64, .int .i64, .int .i64, .int .u8, .int .i64], .obj 197 [.own 12 3, .mo 2], .mmap (.two .i64 .i64) (.int .i64), .row 41 5]
  res := .tup [.cod 20, .one (.bool)]
  outs := [.obj 110 [.ptr 1 0, .int .i64, .sl 5, .bool, .int .i64, .str, .str, .int .i64, .int .i64, .int .i64, .int .i64, .int .u8, .int .i64], .obj 197 [.own 12 4, .mo 2], .mmap (.two .i64 .i64) (.int .i64), .dead, .row 41 5]
  m := fun d dh => registry_Scheme dh.1 dh.2.1 dh.2.2.1
  ok := ce_ok mixedP Tryz.func42 (by kernel_rfl) (orcOf_ok registry_Scheme_tb) (dr := registry_Scheme_dr) (lps := lpsOf registry_Scheme_lt) (lps_fn (no_loop (by kernel_rfl))) (fun d dh => by kernel_rfl)

def registry_Shares_dr : Nat → Nat → DrA
  | _, _ => ⟨[], [], [], [], [], false, []⟩
noncomputable def registry_Shares_tb : List (CE CT Tryz.prog) := [registry_known_ce, registry_copied_ce]
noncomputable def registry_Shares_lt : List (LE CT Tryz.prog) := []
noncomputable def registry_Shares (h0 : (Unit) × (Int) × (List (DShare)) × (Bool) × (Int) × (List UInt8) × (List UInt8) × (Int) × (Int) × (Int) × (Int) × (Int) × (Int) × Unit) (h1 : (List (DVerdict)) × (Unit) × Unit) (h2 : List ((Int × Int) × (Int))) : Option ((DShares) × (((Unit) × (Int) × (List (DShare)) × (Bool) × (Int) × (List UInt8) × (List UInt8) × (Int) × (Int) × (Int) × (Int) × (Int) × (Int) × Unit) × ((List (DVerdict)) × (Unit) × Unit) × (List ((Int × Int) × (Int))) × (Unit) × (Unit) × Unit)) :=
  (registry_known ((), h0.2.1, h0.2.2.1, h0.2.2.2.1, h0.2.2.2.2.1, h0.2.2.2.2.2.1, h0.2.2.2.2.2.2.1, h0.2.2.2.2.2.2.2.1, h0.2.2.2.2.2.2.2.2.1, h0.2.2.2.2.2.2.2.2.2.1, h0.2.2.2.2.2.2.2.2.2.2.1, h0.2.2.2.2.2.2.2.2.2.2.2.1, h0.2.2.2.2.2.2.2.2.2.2.2.2.1, ()) (h1.1, (), ()) h2).bind fun r1 =>
  (bif (!r1.1) then
  some ((⟨0, []⟩ : DShares), (((), r1.2.1.2.1, r1.2.1.2.2.1, r1.2.1.2.2.2.1, r1.2.1.2.2.2.2.1, r1.2.1.2.2.2.2.2.1, r1.2.1.2.2.2.2.2.2.1, r1.2.1.2.2.2.2.2.2.2.1, r1.2.1.2.2.2.2.2.2.2.2.1, r1.2.1.2.2.2.2.2.2.2.2.2.1, r1.2.1.2.2.2.2.2.2.2.2.2.2.1, r1.2.1.2.2.2.2.2.2.2.2.2.2.2.1, r1.2.1.2.2.2.2.2.2.2.2.2.2.2.2.1, ()), (r1.2.2.1.1, (), ()), r1.2.2.2.1, (), (), ()))
  else
  (registry_copied (⟨(⟨r1.2.1.2.1, r1.2.1.2.2.1⟩ : DShares), r1.2.1.2.2.2.1, (⟨r1.2.1.2.2.2.2.1, (⟨r1.2.1.2.2.2.2.2.1, r1.2.1.2.2.2.2.2.2.1⟩ : DSpan), r1.2.1.2.2.2.2.2.2.2.1, r1.2.1.2.2.2.2.2.2.2.2.1, r1.2.1.2.2.2.2.2.2.2.2.2.1, r1.2.1.2.2.2.2.2.2.2.2.2.2.1, r1.2.1.2.2.2.2.2.2.2.2.2.2.2.1⟩ : DScheme)⟩ : DPlan)).bind fun r2 =>
  some (r2.1.shares, (((), r1.2.1.2.1, r1.2.1.2.2.1, r1.2.1.2.2.2.1, r1.2.1.2.2.2.2.1, r1.2.1.2.2.2.2.2.1, r1.2.1.2.2.2.2.2.2.1, r1.2.1.2.2.2.2.2.2.2.1, r1.2.1.2.2.2.2.2.2.2.2.1, r1.2.1.2.2.2.2.2.2.2.2.2.1, r1.2.1.2.2.2.2.2.2.2.2.2.2.1, r1.2.1.2.2.2.2.2.2.2.2.2.2.2.1, r1.2.1.2.2.2.2.2.2.2.2.2.2.2.2.1, ()), (r1.2.2.1.1, (), ()), r1.2.2.2.1, (), (), ())))
noncomputable def registry_Shares_ce : CE CT Tryz.prog where
  f := 28
  args := [.one (.ptr 0 0)]
  hs := [.obj 110 [.ptr 1 0, .int .i64, .sl 5, .bool, .int .i64, .str, .str, .int .i64, .int .i64, .int .i64, .int .i64, .int .u8, .int .i64], .obj 197 [.own 12 3, .mo 2], .mmap (.two .i64 .i64) (.int .i64), .row 41 5]
  res := .val (.cod 15)
  outs := [.obj 110 [.ptr 1 0, .int .i64, .sl 5, .bool, .int .i64, .str, .str, .int .i64, .int .i64, .int .i64, .int .i64, .int .u8, .int .i64], .obj 197 [.own 12 4, .mo 2], .mmap (.two .i64 .i64) (.int .i64), .dead, .row 41 5]
  m := fun d dh => registry_Shares dh.1 dh.2.1 dh.2.2.1
  ok := ce_ok mixedP Tryz.func28 (by kernel_rfl) (orcOf_ok registry_Shares_tb) (dr := registry_Shares_dr) (lps := lpsOf registry_Shares_lt) (lps_fn (no_loop (by kernel_rfl))) (fun d dh => by kernel_rfl)

def shares_Of1_dr : Nat → Nat → DrA
  | _, _ => ⟨[], [], [], [], [], false, []⟩
noncomputable def shares_Of1_tb : List (CE CT Tryz.prog) := [span_Has_ce]
noncomputable def shares_Of1_lt : List (LE CT Tryz.prog) := []
noncomputable def shares_Of1 (x0 : DSpan) (h0 : List UInt8) : Option ((Bool) × ((List UInt8) × Unit)) :=
  (span_Has x0 h0).bind fun r1 =>
  some (r1.1, (h0, ()))
noncomputable def shares_Of1_ce : CE CT Tryz.prog where
  f := 97
  args := [.cod 4, .one (.ptr 0 0)]
  hs := [.cobj 9 2]
  res := .val (.one (.bool))
  outs := [.cobj 9 2]
  m := fun d dh => shares_Of1 d.1 dh.1
  ok := ce_ok mixedP Tryz.func97 (by kernel_rfl) (orcOf_ok shares_Of1_tb) (dr := shares_Of1_dr) (lps := lpsOf shares_Of1_lt) (lps_fn (no_loop (by kernel_rfl))) (fun d dh => by kernel_rfl)

def shares_at1_3_dr : Nat → Nat → DrA
  | _, _ => ⟨[], [], [], [], [], false, []⟩
noncomputable def shares_at1_3_tb : List (CE CT Tryz.prog) := [shares_Of1_ce]
noncomputable def shares_at1_3_lt : List (LE CT Tryz.prog) := []
noncomputable def shares_at1_3 (x0 : DShare) (h0 : (Unit) × Unit) (h1 : List UInt8) : Option ((Bool) × (((Unit) × Unit) × (List UInt8) × Unit)) :=
  (shares_Of1 x0.span h1).bind fun r1 =>
  some (r1.1, (((), ()), r1.2.1, ()))
noncomputable def shares_at1_3_ce : CE CT Tryz.prog where
  f := 174
  args := [.cod 5, .one (.ptr 0 0)]
  hs := [.obj 192 [.clo 97 [1]], .cobj 9 2]
  res := .val (.one (.bool))
  outs := [.obj 192 [.clo 97 [1]], .cobj 9 2]
  m := fun d dh => shares_at1_3 d.1 dh.1 dh.2.1
  ok := ce_ok mixedP Tryz.func174 (by kernel_rfl) (orcOf_ok shares_at1_3_tb) (dr := shares_at1_3_dr) (lps := lpsOf shares_at1_3_lt) (lps_fn (no_loop (by kernel_rfl))) (fun d dh => by kernel_rfl)

def slices_IndexFunc_4_dr : Nat → Nat → DrA
  | _, _ => ⟨[], [], [], [], [], false, []⟩
noncomputable def slices_IndexFunc_4_tb : List (CE CT Tryz.prog) := [shares_at1_3_ce]
noncomputable def slices_IndexFunc_4_l1 (a : ((List (DShare)) × (Unit) × (Int) × (Int) × Unit) × (((Unit) × Unit) × (List UInt8) × Unit)) : Option ((((List (DShare)) × (Unit) × (Int) × (Int) × Unit) × (((Unit) × Unit) × (List UInt8) × Unit)) ⊕ ((((Int) × Unit) × (((Unit) × Unit) × (List UInt8) × Unit)) ⊕ ((Unit) × (((Unit) × Unit) × (List UInt8) × Unit)))) :=
  (bif (decide ((a.1.2.2.2.1 : Int) < a.1.2.2.1)) then
  (getI a.1.1 a.1.2.2.2.1).bind fun e1 =>
  (shares_at1_3 e1 ((), ()) a.2.2.1).bind fun r2 =>
  (bif r2.1 then
  some (.inr (.inl ((a.1.2.2.2.1, ()), (((), ()), r2.2.2.1, ()))))
  else
  some (.inl ((a.1.1, (), a.1.2.2.1, (IntKind.i64.wrap (a.1.2.2.2.1 + 1)), ()), (((), ()), r2.2.2.1, ()))))
  else
  some (.inr (.inr ((), (((), ()), a.2.2.1, ())))))
noncomputable def slices_IndexFunc_4_e1 : LE CT Tryz.prog := ⟨2, [0, 1, 7, 8], [.one (.sl 5), .one (.clo 174 [0]), .one (.int .i64), .one (.int .i64)], [.obj 192 [.clo 97 [1]], .cobj 9 2], [⟨.ret, [4], [.one (.int .i64)], [.obj 192 [.clo 97 [1]], .cobj 9 2]⟩, ⟨.exit 0, [], [], [.obj 192 [.clo 97 [1]], .cobj 9 2]⟩], slices_IndexFunc_4_l1⟩
noncomputable def slices_IndexFunc_4_lt : List (LE CT Tryz.prog) := [slices_IndexFunc_4_e1]
theorem slices_IndexFunc_4_e1_ok : LeOk slices_IndexFunc_4_e1 (nthL (bodyOf Tryz.f173) 0) := fun A env h k z hk => le_ok (E := slices_IndexFunc_4_e1) (orcOf_ok slices_IndexFunc_4_tb) (dr := slices_IndexFunc_4_dr) (lps := lpsOf slices_IndexFunc_4_lt) (no_loop (by kernel_rfl)) (fun a => by kernel_rfl) env h k z hk
noncomputable def slices_IndexFunc_4 (x0 : List (DShare)) (h0 : (Unit) × Unit) (h1 : List UInt8) : Option ((Int) × (((Unit) × Unit) × (List UInt8) × Unit)) :=
  (loopM slices_IndexFunc_4_l1 ((x0, (), (x0.length : Int), 0, ()), (((), ()), h1, ()))).bind fun b1 =>
  (match b1 with
  | .inl b2 =>
  some (b2.1.1, (((), ()), b2.2.2.1, ()))
  | .inr b3 =>
  some ((-1), (((), ()), b3.2.2.1, ())))
noncomputable def slices_IndexFunc_4_ce : CE CT Tryz.prog where
  f := 173
  args := [.one (.sl 5), .one (.clo 174 [0])]
  hs := [.obj 192 [.clo 97 [1]], .cobj 9 2]
  res := .val (.one (.int .i64))
  outs := [.obj 192 [.clo 97 [1]], .cobj 9 2]
  m := fun d dh => slices_IndexFunc_4 d.1 dh.1 dh.2.1
  ok := ce_ok mixedP Tryz.func173 (by kernel_rfl) (orcOf_ok slices_IndexFunc_4_tb) (dr := slices_IndexFunc_4_dr) (lps := lpsOf slices_IndexFunc_4_lt) (lps_fn (lps_of (n := 1) (by kernel_rfl) fun i hi => match i, hi with | 0, _ => lp_ok (E := slices_IndexFunc_4_e1) (by kernel_rfl) slices_IndexFunc_4_e1_ok)) (fun d dh => by kernel_rfl)

def shares_at_3_dr : Nat → Nat → DrA
  | _, _ => ⟨[], [], [], [], [], false, []⟩
noncomputable def shares_at_3_tb : List (CE CT Tryz.prog) := [shares_right_ce, slices_IndexFunc_4_ce]
noncomputable def shares_at_3_lt : List (LE CT Tryz.prog) := []
noncomputable def shares_at_3 (x0 : DWork) (h0 : List UInt8) : Option ((Int) × ((List UInt8) × Unit)) :=
  (shares_right x0).bind fun r1 =>
  (bif (!r1.1) then
  some ((-1), (h0, ()))
  else
  (slices_IndexFunc_4 x0.shares.list ((), ()) h0).bind fun r2 =>
  some (r2.1, (r2.2.2.1, ())))
noncomputable def shares_at_3_ce : CE CT Tryz.prog where
  f := 96
  args := [.cod 16, .one (.clo 97 [0])]
  hs := [.cobj 9 2]
  res := .val (.one (.int .i64))
  outs := [.cobj 9 2]
  m := fun d dh => shares_at_3 d.1 dh.1
  ok := ce_ok mixedP Tryz.func96 (by kernel_rfl) (orcOf_ok shares_at_3_tb) (dr := shares_at_3_dr) (lps := lpsOf shares_at_3_lt) (lps_fn (no_loop (by kernel_rfl))) (fun d dh => by kernel_rfl)

def shares_Of_dr : Nat → Nat → DrA
  | 2, _ => ⟨[2, 0, 1, 3, 4, 5, 6, 7, 8], [[], [], [], [1, 2], [0, 1, 2, 3], [0, 1, 2, 3, 4], [0, 1, 2, 3, 4], [0, 1, 2, 3, 4, 5, 6], [0, 1, 2, 3, 4, 5, 6, 7]], [0], [3], [3], false, []⟩
  | _, _ => ⟨[], [], [], [], [], false, []⟩
noncomputable def shares_Of_tb : List (CE CT Tryz.prog) := [shares_at_3_ce, shares_share_ce]
noncomputable def shares_Of_lt : List (LE CT Tryz.prog) := []
noncomputable def shares_Of (x0 : DShares) (x1 : List UInt8) : Option (((DShare) × (Bool) × Unit) × (Unit)) :=
  (shares_at_3 (⟨x0⟩ : DWork) x1).bind fun r1 =>
  (shares_share (⟨x0⟩ : DWork) r1.1).bind fun r2 =>
  some ((r2.1.1, r2.1.2.1, ()), ())
noncomputable def shares_Of_ce : CE CT Tryz.prog where
  f := 47
  args := [.cod 15, .one (.str)]
  hs := []
  res := .tup [.cod 5, .one (.bool)]
  outs := []
  m := fun d dh => shares_Of d.1 d.2.1
  ok := ce_ok mixedP Tryz.func47 (by kernel_rfl) (orcOf_ok shares_Of_tb) (dr := shares_Of_dr) (lps := lpsOf shares_Of_lt) (lps_fn (no_loop (by kernel_rfl))) (fun d dh => by kernel_rfl)

def watershedlaw21_awake_dr : Nat → Nat → DrA
  | _, _ => ⟨[], [], [], [], [], false, []⟩
noncomputable def watershedlaw21_awake_tb : List (CE CT Tryz.prog) := [shares_First_ce, registry_New_ce, registry_Begin_ce, registry_Step_ce, registry_Scheme_ce, registry_Shares_ce, shares_Of_ce]
noncomputable def watershedlaw21_awake_l1 (a : ((Unit) × (Int) × (Int) × (Int) × (Int) × Unit) × (((Unit) × (Int) × (List (DShare)) × (Bool) × (Int) × (List UInt8) × (List UInt8) × (Int) × (Int) × (Int) × (Int) × (Int) × (Int) × Unit) × ((List (DVerdict)) × (Unit) × Unit) × (List ((Int × Int) × (Int))) × (Unit) × Unit)) : Option ((((Unit) × (Int) × (Int) × (Int) × (Int) × Unit) × (((Unit) × (Int) × (List (DShare)) × (Bool) × (Int) × (List UInt8) × (List UInt8) × (Int) × (Int) × (Int) × (Int) × (Int) × (Int) × Unit) × ((List (DVerdict)) × (Unit) × Unit) × (List ((Int × Int) × (Int))) × (Unit) × Unit)) ⊕ ((((Bool) × Unit) × (((Unit) × (Int) × (List (DShare)) × (Bool) × (Int) × (List UInt8) × (List UInt8) × (Int) × (Int) × (Int) × (Int) × (Int) × (Int) × Unit) × ((List (DVerdict)) × (Unit) × Unit) × (List ((Int × Int) × (Int))) × (Unit) × (Unit) × Unit)) ⊕ (((Unit) × (Int) × (Int) × (Int) × Unit) × (((Unit) × (Int) × (List (DShare)) × (Bool) × (Int) × (List UInt8) × (List UInt8) × (Int) × (Int) × (Int) × (Int) × (Int) × (Int) × Unit) × ((List (DVerdict)) × (Unit) × Unit) × (List ((Int × Int) × (Int))) × (Unit) × (Unit) × Unit)))) :=
  (bif (decide ((a.1.2.2.2.2.1 : Int) ≤ 6)) then
  (registry_Step 1 a.1.2.2.2.2.1 ((), a.2.1.2.1, a.2.1.2.2.1, a.2.1.2.2.2.1, a.2.1.2.2.2.2.1, a.2.1.2.2.2.2.2.1, a.2.1.2.2.2.2.2.2.1, a.2.1.2.2.2.2.2.2.2.1, a.2.1.2.2.2.2.2.2.2.2.1, a.2.1.2.2.2.2.2.2.2.2.2.1, a.2.1.2.2.2.2.2.2.2.2.2.2.1, a.2.1.2.2.2.2.2.2.2.2.2.2.2.1, a.2.1.2.2.2.2.2.2.2.2.2.2.2.2.1, ()) (a.2.2.1.1, (), ()) a.2.2.2.1).bind fun r1 =>
  (bif (decide ((r1.1.1 : Int) ≠ a.1.2.2.2.2.1)) then
  some (.inr (.inl ((false, ()), (((), r1.2.1.2.1, r1.2.1.2.2.1, r1.2.1.2.2.2.1, r1.2.1.2.2.2.2.1, r1.2.1.2.2.2.2.2.1, r1.2.1.2.2.2.2.2.2.1, r1.2.1.2.2.2.2.2.2.2.1, r1.2.1.2.2.2.2.2.2.2.2.1, r1.2.1.2.2.2.2.2.2.2.2.2.1, r1.2.1.2.2.2.2.2.2.2.2.2.2.1, r1.2.1.2.2.2.2.2.2.2.2.2.2.2.1, r1.2.1.2.2.2.2.2.2.2.2.2.2.2.2.1, ()), (r1.2.2.1.1, (), ()), r1.2.2.2.1, (), (), ()))))
  else
  (bif (decide ((r1.1.2.1 : Int) ≠ 0)) then
  some (.inr (.inl ((false, ()), (((), r1.2.1.2.1, r1.2.1.2.2.1, r1.2.1.2.2.2.1, r1.2.1.2.2.2.2.1, r1.2.1.2.2.2.2.2.1, r1.2.1.2.2.2.2.2.2.1, r1.2.1.2.2.2.2.2.2.2.1, r1.2.1.2.2.2.2.2.2.2.2.1, r1.2.1.2.2.2.2.2.2.2.2.2.1, r1.2.1.2.2.2.2.2.2.2.2.2.2.1, r1.2.1.2.2.2.2.2.2.2.2.2.2.2.1, r1.2.1.2.2.2.2.2.2.2.2.2.2.2.2.1, ()), (r1.2.2.1.1, (), ()), r1.2.2.2.1, (), (), ()))))
  else
  some (.inl (((), a.1.2.1, a.1.2.2.1, a.1.2.2.2.1, (IntKind.u8.wrap (a.1.2.2.2.2.1 + 1)), ()), (((), r1.2.1.2.1, r1.2.1.2.2.1, r1.2.1.2.2.2.1, r1.2.1.2.2.2.2.1, r1.2.1.2.2.2.2.2.1, r1.2.1.2.2.2.2.2.2.1, r1.2.1.2.2.2.2.2.2.2.1, r1.2.1.2.2.2.2.2.2.2.2.1, r1.2.1.2.2.2.2.2.2.2.2.2.1, r1.2.1.2.2.2.2.2.2.2.2.2.2.1, r1.2.1.2.2.2.2.2.2.2.2.2.2.2.1, r1.2.1.2.2.2.2.2.2.2.2.2.2.2.2.1, ()), (r1.2.2.1.1, (), ()), r1.2.2.2.1, (), ())))))
  else
  some (.inr (.inr (((), a.1.2.1, a.1.2.2.1, a.1.2.2.2.1, ()), (((), a.2.1.2.1, a.2.1.2.2.1, a.2.1.2.2.2.1, a.2.1.2.2.2.2.1, a.2.1.2.2.2.2.2.1, a.2.1.2.2.2.2.2.2.1, a.2.1.2.2.2.2.2.2.2.1, a.2.1.2.2.2.2.2.2.2.2.1, a.2.1.2.2.2.2.2.2.2.2.2.1, a.2.1.2.2.2.2.2.2.2.2.2.2.1, a.2.1.2.2.2.2.2.2.2.2.2.2.2.1, a.2.1.2.2.2.2.2.2.2.2.2.2.2.2.1, ()), (a.2.2.1.1, (), ()), a.2.2.2.1, (), (), ())))))
noncomputable def watershedlaw21_awake_e1 : LE CT Tryz.prog := ⟨5, [1, 2, 3, 5, 6], [.one (.ptr 0 0), .one (.int .i64), .one (.int .i64), .one (.int .i64), .one (.int .u8)], [.obj 110 [.ptr 1 0, .int .i64, .sl 5, .bool, .int .i64, .str, .str, .int .i64, .int .i64, .int .i64, .int .i64, .int .u8, .int .i64], .obj 197 [.own 12 3, .mo 2], .mmap (.two .i64 .i64) (.int .i64), .row 41 5], [⟨.ret, [0], [.one (.bool)], [.obj 110 [.ptr 1 0, .int .i64, .sl 5, .bool, .int .i64, .str, .str, .int .i64, .int .i64, .int .i64, .int .i64, .int .u8, .int .i64], .obj 197 [.own 12 4, .mo 2], .mmap (.two .i64 .i64) (.int .i64), .dead, .row 41 5]⟩, ⟨.exit 0, [1, 2, 3, 5], [.one (.ptr 0 0), .one (.int .i64), .one (.int .i64), .one (.int .i64)], [.obj 110 [.ptr 1 0, .int .i64, .sl 5, .bool, .int .i64, .str, .str, .int .i64, .int .i64, .int .i64, .int .i64, .int .u8, .int .i64], .obj 197 [.own 12 4, .mo 2], .mmap (.two .i64 .i64) (.int .i64), .dead, .row 41 5]⟩], watershedlaw21_awake_l1⟩
noncomputable def watershedlaw21_awake_lt : List (LE CT Tryz.prog) := [watershedlaw21_awake_e1]
theorem watershedlaw21_awake_e1_ok : LeOk watershedlaw21_awake_e1 (nthL (bodyOf Tryz.f7) 0) := fun A env h k z hk => le_ok (E := watershedlaw21_awake_e1) (orcOf_ok watershedlaw21_awake_tb) (dr := watershedlaw21_awake_dr) (lps := lpsOf watershedlaw21_awake_lt) (no_loop (by kernel_rfl)) (fun a => by kernel_rfl) env h k z hk
noncomputable def watershedlaw21_awake  : Option ((Bool) × (Unit)) :=
  (shares_First 1).bind fun r1 =>
  (registry_New r1.1).bind fun r2 =>
  (registry_Begin (⟨([109] : List UInt8), ([] : List UInt8)⟩ : DSpan) 2 ((), r2.2.1.2.1, r2.2.1.2.2.1, r2.2.1.2.2.2.1, r2.2.1.2.2.2.2.1, r2.2.1.2.2.2.2.2.1, r2.2.1.2.2.2.2.2.2.1, r2.2.1.2.2.2.2.2.2.2.1, r2.2.1.2.2.2.2.2.2.2.2.1, r2.2.1.2.2.2.2.2.2.2.2.2.1, r2.2.1.2.2.2.2.2.2.2.2.2.2.1, r2.2.1.2.2.2.2.2.2.2.2.2.2.2.1, r2.2.1.2.2.2.2.2.2.2.2.2.2.2.2.1, ()) (r2.2.2.1.1, (), ()) r2.2.2.2.1).bind fun r3 =>
  (registry_Begin (⟨([109] : List UInt8), ([] : List UInt8)⟩ : DSpan) 2 ((), r3.2.1.2.1, r3.2.1.2.2.1, r3.2.1.2.2.2.1, r3.2.1.2.2.2.2.1, r3.2.1.2.2.2.2.2.1, r3.2.1.2.2.2.2.2.2.1, r3.2.1.2.2.2.2.2.2.2.1, r3.2.1.2.2.2.2.2.2.2.2.1, r3.2.1.2.2.2.2.2.2.2.2.2.1, r3.2.1.2.2.2.2.2.2.2.2.2.2.1, r3.2.1.2.2.2.2.2.2.2.2.2.2.2.1, r3.2.1.2.2.2.2.2.2.2.2.2.2.2.2.1, ()) (r3.2.2.1.1, (), ()) r3.2.2.2.1).bind fun r4 =>
  (loopM watershedlaw21_awake_l1 (((), r3.1.1, r3.1.2.1, r4.1.2.1, 2, ()), (((), r4.2.1.2.1, r4.2.1.2.2.1, r4.2.1.2.2.2.1, r4.2.1.2.2.2.2.1, r4.2.1.2.2.2.2.2.1, r4.2.1.2.2.2.2.2.2.1, r4.2.1.2.2.2.2.2.2.2.1, r4.2.1.2.2.2.2.2.2.2.2.1, r4.2.1.2.2.2.2.2.2.2.2.2.1, r4.2.1.2.2.2.2.2.2.2.2.2.2.1, r4.2.1.2.2.2.2.2.2.2.2.2.2.2.1, r4.2.1.2.2.2.2.2.2.2.2.2.2.2.2.1, ()), (r4.2.2.1.1, (), ()), r4.2.2.2.1, (), ()))).bind fun b5 =>
  (match b5 with
  | .inl b6 =>
  some (b6.1.1, ())
  | .inr b7 =>
  (registry_Scheme ((), b7.2.1.2.1, b7.2.1.2.2.1, b7.2.1.2.2.2.1, b7.2.1.2.2.2.2.1, b7.2.1.2.2.2.2.2.1, b7.2.1.2.2.2.2.2.2.1, b7.2.1.2.2.2.2.2.2.2.1, b7.2.1.2.2.2.2.2.2.2.2.1, b7.2.1.2.2.2.2.2.2.2.2.2.1, b7.2.1.2.2.2.2.2.2.2.2.2.2.1, b7.2.1.2.2.2.2.2.2.2.2.2.2.2.1, b7.2.1.2.2.2.2.2.2.2.2.2.2.2.2.1, ()) (b7.2.2.1.1, (), ()) b7.2.2.2.1).bind fun r8 =>
  (registry_Step 1 2 ((), r8.2.1.2.1, r8.2.1.2.2.1, r8.2.1.2.2.2.1, r8.2.1.2.2.2.2.1, r8.2.1.2.2.2.2.2.1, r8.2.1.2.2.2.2.2.2.1, r8.2.1.2.2.2.2.2.2.2.1, r8.2.1.2.2.2.2.2.2.2.2.1, r8.2.1.2.2.2.2.2.2.2.2.2.1, r8.2.1.2.2.2.2.2.2.2.2.2.2.1, r8.2.1.2.2.2.2.2.2.2.2.2.2.2.1, r8.2.1.2.2.2.2.2.2.2.2.2.2.2.2.1, ()) (r8.2.2.1.1, (), ()) r8.2.2.2.1).bind fun r9 =>
  (registry_Shares ((), r9.2.1.2.1, r9.2.1.2.2.1, r9.2.1.2.2.2.1, r9.2.1.2.2.2.2.1, r9.2.1.2.2.2.2.2.1, r9.2.1.2.2.2.2.2.2.1, r9.2.1.2.2.2.2.2.2.2.1, r9.2.1.2.2.2.2.2.2.2.2.1, r9.2.1.2.2.2.2.2.2.2.2.2.1, r9.2.1.2.2.2.2.2.2.2.2.2.2.1, r9.2.1.2.2.2.2.2.2.2.2.2.2.2.1, r9.2.1.2.2.2.2.2.2.2.2.2.2.2.2.1, ()) (r9.2.2.1.1, (), ()) r9.2.2.2.1).bind fun r10 =>
  (shares_Of r10.1 ([110] : List UInt8)).bind fun r11 =>
  (bif (decide ((b7.1.2.1 : Int) = 1)) then
  (bif (decide ((b7.1.2.2.1 : Int) = 0)) then
  (bif (decide ((b7.1.2.2.2.1 : Int) = 26)) then
  (bif (!r8.1.2.1) then
  (bif (decide ((r9.1.1 : Int) = 0)) then
  (bif (decide ((r9.1.2.1 : Int) = 0)) then
  (bif r11.1.2.1 then
  some ((decide ((r11.1.1.group : Int) = 2)), ())
  else
  some (false, ()))
  else
  some (false, ()))
  else
  some (false, ()))
  else
  some (false, ()))
  else
  some (false, ()))
  else
  some (false, ()))
  else
  some (false, ())))
noncomputable def watershedlaw21_awake_ce : CE CT Tryz.prog where
  f := 7
  args := []
  hs := []
  res := .val (.one (.bool))
  outs := []
  m := fun d dh => watershedlaw21_awake
  ok := ce_ok mixedP Tryz.func7 (by kernel_rfl) (orcOf_ok watershedlaw21_awake_tb) (dr := watershedlaw21_awake_dr) (lps := lpsOf watershedlaw21_awake_lt) (lps_fn (lps_of (n := 1) (by kernel_rfl) fun i hi => match i, hi with | 0, _ => lp_ok (E := watershedlaw21_awake_e1) (by kernel_rfl) watershedlaw21_awake_e1_ok)) (fun d dh => by kernel_rfl)

def watershedlaw21_light_dr : Nat → Nat → DrA
  | 6, _ => ⟨[0, 1, 2, 3, 4, 5, 6, 7, 8, 9, 10, 11, 12, 13, 16, 17, 18, 19, 20, 14, 15, 21, 22, 23, 24, 25], [[], [], [0, 1], [0, 1, 2], [0, 1, 2, 3], [0, 1, 2, 3, 4], [0, 1, 2, 3, 4, 5], [0, 1, 2, 3, 4, 5, 6], [0, 1, 2, 3, 4, 5, 6, 7], [0, 1, 2, 3, 4, 5, 6, 7, 8], [0, 1, 2, 3, 4, 5, 6, 7, 8], [0, 1, 2, 3, 4, 5, 6, 7, 8, 9, 10], [0, 1, 2, 3, 4, 5, 6, 7, 8, 9, 10, 11], [0, 1, 2, 3, 4, 5, 6, 7, 8, 9, 10, 11, 12], [0, 1, 2, 3, 4, 5, 6, 7, 8, 9, 10, 11, 12, 13], [0, 1, 2, 3, 4, 5, 6, 7, 8, 9, 10, 11, 12, 13, 14], [0, 1, 2, 3, 4, 5, 6, 7, 8], [0, 1, 2, 3, 4, 5, 6, 7, 8], [0, 1, 2, 3, 4, 5, 6, 7, 8, 16, 17], [0, 1, 2, 3, 4, 5, 6, 7, 8, 16, 17, 18], [0, 1, 2, 3, 4, 5, 6, 7, 8, 16, 17, 18, 19], [0, 1, 2, 3, 4, 5, 6, 7, 8, 16, 17, 18, 19, 20], [0, 1, 2, 3, 4, 5, 6, 7, 8, 16, 17, 18, 19, 20, 21], [0, 1, 2, 3, 4, 5, 6, 7, 8, 9, 10, 11, 12, 13, 14, 15, 16, 17, 18, 19, 20, 21, 22], [0, 1, 2, 3, 4, 5, 6, 7, 8, 9, 10, 11, 12, 13, 14, 15, 16, 17, 18, 19, 20, 21, 22, 23], [0, 1, 2, 3, 4, 5, 6, 7, 8, 9, 10, 11, 12, 13, 14, 15, 16, 17, 18, 19, 20, 21, 22, 23, 24]], [], [], [], false, []⟩
  | _, _ => ⟨[], [], [], [], [], false, []⟩
noncomputable def watershedlaw21_light_tb : List (CE CT Tryz.prog) := []
noncomputable def watershedlaw21_light_l1 (a : ((List (DDeed)) × (Int) × Unit) × (Unit)) : Option ((((List (DDeed)) × (Int) × Unit) × (Unit)) ⊕ ((((Bool) × Unit) × (Unit)) ⊕ ((Unit) × (Unit)))) :=
  (bif (decide ((a.1.2.1 : Int) < (a.1.1.length : Int))) then
  (getI a.1.1 a.1.2.1).bind fun e1 =>
  (bif (decide ((20 : Int) < (e1.verdict.reads.length : Int))) then
  some (.inr (.inl ((false, ()), ())))
  else
  (getI a.1.1 a.1.2.1).bind fun e2 =>
  (getI a.1.1 a.1.2.1).bind fun e3 =>
  (bif (decide ((500 : Int) < (IntKind.i64.wrap ((e2.span.lo.length : Int) + (e3.span.hi.length : Int))))) then
  some (.inr (.inl ((false, ()), ())))
  else
  some (.inl ((a.1.1, (IntKind.i64.wrap (a.1.2.1 + 1)), ()), ()))))
  else
  some (.inr (.inr ((), ()))))
noncomputable def watershedlaw21_eight_e1 : LE CT Tryz.prog := ⟨4, [0, 3], [.one (.sl 13), .one (.int .i64)], [], [⟨.ret, [2], [.one (.bool)], []⟩, ⟨.exit 0, [], [], []⟩], watershedlaw21_light_l1⟩
noncomputable def watershedlaw21_light_lt : List (LE CT Tryz.prog) := [watershedlaw21_eight_e1]
theorem watershedlaw21_eight_e1_ok : LeOk watershedlaw21_eight_e1 (nthL (bodyOf Tryz.f8) 0) := fun A env h k z hk => le_ok (E := watershedlaw21_eight_e1) (orcOf_ok watershedlaw21_light_tb) (dr := watershedlaw21_light_dr) (lps := lpsOf watershedlaw21_light_lt) (no_loop (by kernel_rfl)) (fun a => by kernel_rfl) env h k z hk
noncomputable def watershedlaw21_light (x0 : List (DDeed)) : Option ((Bool) × (Unit)) :=
  (bif (decide ((60 : Int) < (x0.length : Int))) then
  some (false, ())
  else
  (loopM watershedlaw21_light_l1 ((x0, 0, ()), ())).bind fun b1 =>
  (match b1 with
  | .inl b2 =>
  some (b2.1.1, ())
  | .inr b3 =>
  some (true, ())))
noncomputable def watershedlaw21_light_ce : CE CT Tryz.prog where
  f := 8
  args := [.one (.sl 13)]
  hs := []
  res := .val (.one (.bool))
  outs := []
  m := fun d dh => watershedlaw21_light d.1
  ok := ce_ok mixedP Tryz.func8 (by kernel_rfl) (orcOf_ok watershedlaw21_light_tb) (dr := watershedlaw21_light_dr) (lps := lpsOf watershedlaw21_light_lt) (lps_fn (lps_of (n := 1) (by kernel_rfl) fun i hi => match i, hi with | 0, _ => lp_ok (E := watershedlaw21_eight_e1) (by kernel_rfl) watershedlaw21_eight_e1_ok)) (fun d dh => by kernel_rfl)

def watershedkit_Pick_dr : Nat → Nat → DrA
  | _, _ => ⟨[], [], [], [], [], false, []⟩
noncomputable def watershedkit_Pick_tb : List (CE CT Tryz.prog) := []
noncomputable def watershedkit_Pick_lt : List (LE CT Tryz.prog) := []
noncomputable def watershedkit_Pick (x0 : Int) (x1 : Int) : Option ((Int) × (Unit)) :=
  (bif (decide ((x1 : Int) < 1)) then
  some (0, ())
  else
  (if (x1 : Int) = 0 then none else
  (bif (decide ((((x0 : Int).tmod x1) : Int) < 0)) then
  some ((IntKind.i64.wrap (((x0 : Int).tmod x1) + x1)), ())
  else
  some (((x0 : Int).tmod x1), ()))))
noncomputable def watershedkit_Pick_ce : CE CT Tryz.prog where
  f := 12
  args := [.one (.int .i64), .one (.int .i64)]
  hs := []
  res := .val (.one (.int .i64))
  outs := []
  m := fun d dh => watershedkit_Pick d.1 d.2.1
  ok := ce_ok mixedP Tryz.func12 (by kernel_rfl) (orcOf_ok watershedkit_Pick_tb) (dr := watershedkit_Pick_dr) (lps := lpsOf watershedkit_Pick_lt) (lps_fn (no_loop (by kernel_rfl))) (fun d dh => by kernel_rfl)

def ruling_known_dr : Nat → Nat → DrA
  | _, _ => ⟨[], [], [], [], [], false, []⟩
noncomputable def ruling_known_tb : List (CE CT Tryz.prog) := []
noncomputable def ruling_known_lt : List (LE CT Tryz.prog) := []
noncomputable def ruling_known (h0 : (List (DVerdict)) × (Unit) × Unit) (h1 : List ((Int × Int) × (Int))) : Option ((Bool) × (((List (DVerdict)) × (Unit) × Unit) × (List ((Int × Int) × (Int))) × (Unit) × (Unit) × Unit)) :=
  some (true, ((h0.1, (), ()), h1, (), (), ()))
noncomputable def ruling_known_ce : CE CT Tryz.prog where
  f := 102
  args := [.one (.ptr 0 0)]
  hs := [.obj 197 [.own 12 2, .mo 1], .mmap (.two .i64 .i64) (.int .i64), .row 41 5]
  res := .val (.one (.bool))
  outs := [.obj 197 [.own 12 3, .mo 1], .mmap (.two .i64 .i64) (.int .i64), .dead, .row 41 5]
  m := fun d dh => ruling_known dh.1 dh.2.1
  ok := ce_ok mixedP Tryz.func102 (by kernel_rfl) (orcOf_ok ruling_known_tb) (dr := ruling_known_dr) (lps := lpsOf ruling_known_lt) (lps_fn (no_loop (by kernel_rfl))) (fun d dh => by kernel_rfl)

def act_Name_dr : Nat → Nat → DrA
  | _, _ => ⟨[], [], [], [], [], false, []⟩
noncomputable def act_Name_tb : List (CE CT Tryz.prog) := []
noncomputable def act_Name_lt : List (LE CT Tryz.prog) := []
noncomputable def act_Name (x0 : DName) : Option ((Bool) × (Unit)) :=
  (bif (decide ((1 : Int) ≤ x0.client)) then
  (bif (decide ((x0.client : Int) ≤ 8)) then
  (bif (decide ((1 : Int) ≤ x0.num)) then
  some ((decide ((x0.num : Int) ≤ 1073741824)), ())
  else
  some (false, ()))
  else
  some (false, ()))
  else
  some (false, ()))
noncomputable def act_Name_ce : CE CT Tryz.prog where
  f := 239
  args := [.cod 8]
  hs := []
  res := .val (.one (.bool))
  outs := []
  m := fun d dh => act_Name d.1
  ok := ce_ok mixedP Tryz.func239 (by kernel_rfl) (orcOf_ok act_Name_tb) (dr := act_Name_dr) (lps := lpsOf act_Name_lt) (lps_fn (no_loop (by kernel_rfl))) (fun d dh => by kernel_rfl)

def ruling_wrong_dr : Nat → Nat → DrA
  | _, _ => ⟨[], [], [], [], [], false, []⟩
noncomputable def ruling_wrong_tb : List (CE CT Tryz.prog) := [span_Key_ce]
noncomputable def ruling_wrong_lt : List (LE CT Tryz.prog) := []
noncomputable def ruling_wrong (x0 : DRead) : Option ((Bool) × (Unit)) :=
  (span_Key x0.key).bind fun r1 =>
  (bif (!r1.1) then
  some (true, ())
  else
  (bif (decide ((20 : Int) < (x0.value.length : Int))) then
  some (true, ())
  else
  (bif (!x0.is) then
  some ((decide (x0.value ≠ ([] : List UInt8))), ())
  else
  some (false, ()))))
noncomputable def ruling_wrong_ce : CE CT Tryz.prog where
  f := 241
  args := [.cod 10]
  hs := []
  res := .val (.one (.bool))
  outs := []
  m := fun d dh => ruling_wrong d.1
  ok := ce_ok mixedP Tryz.func241 (by kernel_rfl) (orcOf_ok ruling_wrong_tb) (dr := ruling_wrong_dr) (lps := lpsOf ruling_wrong_lt) (lps_fn (no_loop (by kernel_rfl))) (fun d dh => by kernel_rfl)

def slices_IndexFunc_6_dr : Nat → Nat → DrA
  | _, _ => ⟨[], [], [], [], [], false, []⟩
noncomputable def slices_IndexFunc_6_tb : List (CE CT Tryz.prog) := [ruling_wrong_ce]
noncomputable def slices_IndexFunc_6_l1 (a : ((List (DRead)) × (Unit) × (Int) × (Int) × Unit) × (Unit)) : Option ((((List (DRead)) × (Unit) × (Int) × (Int) × Unit) × (Unit)) ⊕ ((((Int) × Unit) × (Unit)) ⊕ ((Unit) × (Unit)))) :=
  (bif (decide ((a.1.2.2.2.1 : Int) < a.1.2.2.1)) then
  (getI a.1.1 a.1.2.2.2.1).bind fun e1 =>
  (ruling_wrong e1).bind fun r2 =>
  (bif r2.1 then
  some (.inr (.inl ((a.1.2.2.2.1, ()), ())))
  else
  some (.inl ((a.1.1, (), a.1.2.2.1, (IntKind.i64.wrap (a.1.2.2.2.1 + 1)), ()), ())))
  else
  some (.inr (.inr ((), ()))))
noncomputable def slices_IndexFunc_6_e1 : LE CT Tryz.prog := ⟨2, [0, 1, 7, 8], [.one (.sl 10), .one (.fn 241), .one (.int .i64), .one (.int .i64)], [], [⟨.ret, [4], [.one (.int .i64)], []⟩, ⟨.exit 0, [], [], []⟩], slices_IndexFunc_6_l1⟩
noncomputable def slices_IndexFunc_6_lt : List (LE CT Tryz.prog) := [slices_IndexFunc_6_e1]
theorem slices_IndexFunc_6_e1_ok : LeOk slices_IndexFunc_6_e1 (nthL (bodyOf Tryz.f259) 0) := fun A env h k z hk => le_ok (E := slices_IndexFunc_6_e1) (orcOf_ok slices_IndexFunc_6_tb) (dr := slices_IndexFunc_6_dr) (lps := lpsOf slices_IndexFunc_6_lt) (no_loop (by kernel_rfl)) (fun a => by kernel_rfl) env h k z hk
noncomputable def slices_IndexFunc_6 (x0 : List (DRead)) : Option ((Int) × (Unit)) :=
  (loopM slices_IndexFunc_6_l1 ((x0, (), (x0.length : Int), 0, ()), ())).bind fun b1 =>
  (match b1 with
  | .inl b2 =>
  some (b2.1.1, ())
  | .inr b3 =>
  some ((-1), ()))
noncomputable def slices_IndexFunc_6_ce : CE CT Tryz.prog where
  f := 259
  args := [.one (.sl 10), .one (.fn 241)]
  hs := []
  res := .val (.one (.int .i64))
  outs := []
  m := fun d dh => slices_IndexFunc_6 d.1
  ok := ce_ok mixedP Tryz.func259 (by kernel_rfl) (orcOf_ok slices_IndexFunc_6_tb) (dr := slices_IndexFunc_6_dr) (lps := lpsOf slices_IndexFunc_6_lt) (lps_fn (lps_of (n := 1) (by kernel_rfl) fun i hi => match i, hi with | 0, _ => lp_ok (E := slices_IndexFunc_6_e1) (by kernel_rfl) slices_IndexFunc_6_e1_ok)) (fun d dh => by kernel_rfl)

def slices_ContainsFunc_3_dr : Nat → Nat → DrA
  | _, _ => ⟨[], [], [], [], [], false, []⟩
noncomputable def slices_ContainsFunc_3_tb : List (CE CT Tryz.prog) := [slices_IndexFunc_6_ce]
noncomputable def slices_ContainsFunc_3_lt : List (LE CT Tryz.prog) := []
noncomputable def slices_ContainsFunc_3 (x0 : List (DRead)) : Option ((Bool) × (Unit)) :=
  (slices_IndexFunc_6 x0).bind fun r1 =>
  some ((decide ((0 : Int) ≤ r1.1)), ())
noncomputable def slices_ContainsFunc_3_ce : CE CT Tryz.prog where
  f := 240
  args := [.one (.sl 10), .one (.fn 241)]
  hs := []
  res := .val (.one (.bool))
  outs := []
  m := fun d dh => slices_ContainsFunc_3 d.1
  ok := ce_ok mixedP Tryz.func240 (by kernel_rfl) (orcOf_ok slices_ContainsFunc_3_tb) (dr := slices_ContainsFunc_3_dr) (lps := lpsOf slices_ContainsFunc_3_lt) (lps_fn (no_loop (by kernel_rfl))) (fun d dh => by kernel_rfl)

def ruling_Right1_dr : Nat → Nat → DrA
  | _, _ => ⟨[], [], [], [], [], false, []⟩
noncomputable def ruling_Right1_tb : List (CE CT Tryz.prog) := [act_Name_ce, slices_ContainsFunc_3_ce]
noncomputable def ruling_Right1_lt : List (LE CT Tryz.prog) := []
noncomputable def ruling_Right1 (x0 : DVerdict) : Option ((Bool) × (Unit)) :=
  (act_Name x0.name).bind fun r1 =>
  (bif (!r1.1) then
  some (true, ())
  else
  (bif (decide ((x0.at_ : Int) < 1)) then
  some (true, ())
  else
  (bif (decide ((1073741824 : Int) < x0.at_)) then
  some (true, ())
  else
  (bif (decide ((6 : Int) < (x0.reads.length : Int))) then
  some (true, ())
  else
  (bif (!x0.commit) then
  (bif (decide ((0 : Int) < (x0.reads.length : Int))) then
  some (true, ())
  else
  (slices_ContainsFunc_3 x0.reads).bind fun r2 =>
  some (r2.1, ()))
  else
  (slices_ContainsFunc_3 x0.reads).bind fun r3 =>
  some (r3.1, ()))))))
noncomputable def ruling_Right1_ce : CE CT Tryz.prog where
  f := 238
  args := [.cod 12]
  hs := []
  res := .val (.one (.bool))
  outs := []
  m := fun d dh => ruling_Right1 d.1
  ok := ce_ok mixedP Tryz.func238 (by kernel_rfl) (orcOf_ok ruling_Right1_tb) (dr := ruling_Right1_dr) (lps := lpsOf ruling_Right1_lt) (lps_fn (no_loop (by kernel_rfl))) (fun d dh => by kernel_rfl)

def slices_IndexFunc_5_dr : Nat → Nat → DrA
  | _, _ => ⟨[], [], [], [], [], false, []⟩
noncomputable def slices_IndexFunc_5_tb : List (CE CT Tryz.prog) := [ruling_Right1_ce]
noncomputable def slices_IndexFunc_5_l1 (a : ((List (DVerdict)) × (Unit) × (Int) × (Int) × Unit) × (Unit)) : Option ((((List (DVerdict)) × (Unit) × (Int) × (Int) × Unit) × (Unit)) ⊕ ((((Int) × Unit) × (Unit)) ⊕ ((Unit) × (Unit)))) :=
  (bif (decide ((a.1.2.2.2.1 : Int) < a.1.2.2.1)) then
  (getI a.1.1 a.1.2.2.2.1).bind fun e1 =>
  (ruling_Right1 e1).bind fun r2 =>
  (bif r2.1 then
  some (.inr (.inl ((a.1.2.2.2.1, ()), ())))
  else
  some (.inl ((a.1.1, (), a.1.2.2.1, (IntKind.i64.wrap (a.1.2.2.2.1 + 1)), ()), ())))
  else
  some (.inr (.inr ((), ()))))
noncomputable def slices_IndexFunc_5_e1 : LE CT Tryz.prog := ⟨2, [0, 1, 7, 8], [.one (.sl 12), .one (.fn 238), .one (.int .i64), .one (.int .i64)], [], [⟨.ret, [4], [.one (.int .i64)], []⟩, ⟨.exit 0, [], [], []⟩], slices_IndexFunc_5_l1⟩
noncomputable def slices_IndexFunc_5_lt : List (LE CT Tryz.prog) := [slices_IndexFunc_5_e1]
theorem slices_IndexFunc_5_e1_ok : LeOk slices_IndexFunc_5_e1 (nthL (bodyOf Tryz.f258) 0) := fun A env h k z hk => le_ok (E := slices_IndexFunc_5_e1) (orcOf_ok slices_IndexFunc_5_tb) (dr := slices_IndexFunc_5_dr) (lps := lpsOf slices_IndexFunc_5_lt) (no_loop (by kernel_rfl)) (fun a => by kernel_rfl) env h k z hk
noncomputable def slices_IndexFunc_5 (x0 : List (DVerdict)) : Option ((Int) × (Unit)) :=
  (loopM slices_IndexFunc_5_l1 ((x0, (), (x0.length : Int), 0, ()), ())).bind fun b1 =>
  (match b1 with
  | .inl b2 =>
  some (b2.1.1, ())
  | .inr b3 =>
  some ((-1), ()))
noncomputable def slices_IndexFunc_5_ce : CE CT Tryz.prog where
  f := 258
  args := [.one (.sl 12), .one (.fn 238)]
  hs := []
  res := .val (.one (.int .i64))
  outs := []
  m := fun d dh => slices_IndexFunc_5 d.1
  ok := ce_ok mixedP Tryz.func258 (by kernel_rfl) (orcOf_ok slices_IndexFunc_5_tb) (dr := slices_IndexFunc_5_dr) (lps := lpsOf slices_IndexFunc_5_lt) (lps_fn (lps_of (n := 1) (by kernel_rfl) fun i hi => match i, hi with | 0, _ => lp_ok (E := slices_IndexFunc_5_e1) (by kernel_rfl) slices_IndexFunc_5_e1_ok)) (fun d dh => by kernel_rfl)

def slices_ContainsFunc_2_dr : Nat → Nat → DrA
  | _, _ => ⟨[], [], [], [], [], false, []⟩
noncomputable def slices_ContainsFunc_2_tb : List (CE CT Tryz.prog) := [slices_IndexFunc_5_ce]
noncomputable def slices_ContainsFunc_2_lt : List (LE CT Tryz.prog) := []
noncomputable def slices_ContainsFunc_2 (x0 : List (DVerdict)) : Option ((Bool) × (Unit)) :=
  (slices_IndexFunc_5 x0).bind fun r1 =>
  some ((decide ((0 : Int) ≤ r1.1)), ())
noncomputable def slices_ContainsFunc_2_ce : CE CT Tryz.prog where
  f := 237
  args := [.one (.sl 12), .one (.fn 238)]
  hs := []
  res := .val (.one (.bool))
  outs := []
  m := fun d dh => slices_ContainsFunc_2 d.1
  ok := ce_ok mixedP Tryz.func237 (by kernel_rfl) (orcOf_ok slices_ContainsFunc_2_tb) (dr := slices_ContainsFunc_2_dr) (lps := lpsOf slices_ContainsFunc_2_lt) (lps_fn (no_loop (by kernel_rfl))) (fun d dh => by kernel_rfl)

def ruling_Right_dr : Nat → Nat → DrA
  | _, _ => ⟨[], [], [], [], [], false, []⟩
noncomputable def ruling_Right_tb : List (CE CT Tryz.prog) := [slices_ContainsFunc_2_ce]
noncomputable def ruling_Right_lt : List (LE CT Tryz.prog) := []
noncomputable def ruling_Right (x0 : List (DVerdict)) : Option ((Bool) × (Unit)) :=
  (slices_ContainsFunc_2 x0).bind fun r1 =>
  some ((!r1.1), ())
noncomputable def ruling_Right_ce : CE CT Tryz.prog where
  f := 184
  args := [.one (.sl 12)]
  hs := []
  res := .val (.one (.bool))
  outs := []
  m := fun d dh => ruling_Right d.1
  ok := ce_ok mixedP Tryz.func184 (by kernel_rfl) (orcOf_ok ruling_Right_tb) (dr := ruling_Right_dr) (lps := lpsOf ruling_Right_lt) (lps_fn (no_loop (by kernel_rfl))) (fun d dh => by kernel_rfl)

noncomputable def clone187 (x : List (DRead)) : Option ((List (DRead)) × (Unit × Unit)) :=
  if x.length ≤ 140737488355328 ∧ x.length * 40 ≤ 140737488355328 then some (x, ((), ())) else none
noncomputable def clone187_ce : CE CT Tryz.prog where
  f := 187
  args := [.one (.sl 10)]
  hs := []
  res := .val (.one (.own 10 0))
  outs := [.row 247 3]
  m := fun d dh => clone187 d.1
  ok := fun d dh r hr => by
    unfold clone187 at hr
    split at hr
    · rename_i hroom
      injection hr with hr
      subst hr
      exact clone_tr mixedP Tryz.func187 (by kernel_rfl) rfl rfl (zv := .agg #[.string ⟨#[]⟩, .bool false, .string ⟨#[]⟩]) (he := by kernel_rfl) (hsz := by kernel_rfl) (hz := by kernel_rfl) (hby := by kernel_rfl) rfl rfl d.1 hroom
    · cases hr

def ruling_copied_dr : Nat → Nat → DrA
  | _, _ => ⟨[], [], [], [], [], false, []⟩
noncomputable def ruling_copied_tb : List (CE CT Tryz.prog) := [clone187_ce]
noncomputable def ruling_copied_lt : List (LE CT Tryz.prog) := []
noncomputable def ruling_copied (x0 : DVerdict) : Option ((DVerdict) × (Unit)) :=
  (clone187 x0.reads).bind fun r1 =>
  some ((⟨x0.name, x0.commit, x0.at_, r1.1⟩ : DVerdict), ())
noncomputable def ruling_copied_ce : CE CT Tryz.prog where
  f := 104
  args := [.cod 12]
  hs := []
  res := .val (.cod 12)
  outs := []
  m := fun d dh => ruling_copied d.1
  ok := ce_ok mixedP Tryz.func104 (by kernel_rfl) (orcOf_ok ruling_copied_tb) (dr := ruling_copied_dr) (lps := lpsOf ruling_copied_lt) (lps_fn (no_loop (by kernel_rfl))) (fun d dh => by kernel_rfl)

def ruling_Of_dr : Nat → Nat → DrA
  | 3, _ => ⟨[0, 1, 2, 3, 4, 5, 6, 7, 8, 9, 10, 11], [[], [0], [0, 1], [0, 1, 2], [0, 1, 2, 3], [], [0, 1, 2, 3, 4, 5], [0, 1, 2, 3, 4, 5, 6], [0, 1, 2, 3, 4, 5, 6, 7], [0, 1, 2, 3, 4, 5, 6, 7], [0, 1, 2, 3, 4, 5, 6, 7, 8], [0, 1, 2, 3, 4, 5, 6, 7, 8, 9, 10]], [], [], [], false, []⟩
  | _, _ => ⟨[], [], [], [], [], false, []⟩
noncomputable def ruling_Of_tb : List (CE CT Tryz.prog) := [ruling_known_ce, ruling_copied_ce]
noncomputable def ruling_Of_lt : List (LE CT Tryz.prog) := []
noncomputable def ruling_Of (x1 : DName) (h0 : (List (DVerdict)) × (Unit) × Unit) (h1 : List ((Int × Int) × (Int))) : Option (((DVerdict) × (Bool) × Unit) × (((List (DVerdict)) × (Unit) × Unit) × (List ((Int × Int) × (Int))) × (Unit) × (Unit) × Unit)) :=
  (ruling_known (h0.1, (), ()) h1).bind fun r1 =>
  (bif (!r1.1) then
  some (((⟨(⟨0, 0⟩ : DName), false, 0, []⟩ : DVerdict), false, ()), ((r1.2.1.1, (), ()), r1.2.2.1, (), (), ()))
  else
  (bif (!(mget (.two .i64 .i64) r1.2.2.1 (x1.client, x1.num)).isSome) then
  some (((⟨(⟨0, 0⟩ : DName), false, 0, []⟩ : DVerdict), false, ()), ((r1.2.1.1, (), ()), r1.2.2.1, (), (), ()))
  else
  (getI r1.2.1.1 ((mget (.two .i64 .i64) r1.2.2.1 (x1.client, x1.num)).getD 0)).bind fun e2 =>
  (ruling_copied e2).bind fun r3 =>
  some ((r3.1, true, ()), ((r1.2.1.1, (), ()), r1.2.2.1, (), (), ()))))
noncomputable def ruling_Of_ce : CE CT Tryz.prog where
  f := 57
  args := [.one (.ptr 0 0), .cod 8]
  hs := [.obj 197 [.own 12 2, .mo 1], .mmap (.two .i64 .i64) (.int .i64), .row 41 5]
  res := .tup [.cod 12, .one (.bool)]
  outs := [.obj 197 [.own 12 3, .mo 1], .mmap (.two .i64 .i64) (.int .i64), .dead, .row 41 5]
  m := fun d dh => ruling_Of d.2.1 dh.1 dh.2.1
  ok := ce_ok mixedP Tryz.func57 (by kernel_rfl) (orcOf_ok ruling_Of_tb) (dr := ruling_Of_dr) (lps := lpsOf ruling_Of_lt) (lps_fn (no_loop (by kernel_rfl))) (fun d dh => by kernel_rfl)

def ruling_last_dr : Nat → Nat → DrA
  | 3, _ => ⟨[0, 1, 2, 4, 5, 6, 3, 7, 8, 9, 10, 11, 12, 13], [[], [0], [0, 1], [0, 1, 2], [], [4], [4, 5], [4, 5, 6], [4, 5, 6, 7], [4, 5, 6, 7, 8], [0, 1, 2, 3, 4, 5, 6, 7, 8, 9], [0, 1, 2, 3, 4, 5, 6, 7, 8, 9, 10], [0, 1, 2, 3, 4, 5, 6, 7, 8, 9, 10, 11], [0, 1, 2, 3, 4, 5, 6, 7, 8, 9, 10, 11, 12]], [], [], [], false, []⟩
  | _, _ => ⟨[], [], [], [], [], false, []⟩
noncomputable def ruling_last_tb : List (CE CT Tryz.prog) := []
noncomputable def ruling_last_lt : List (LE CT Tryz.prog) := []
noncomputable def ruling_last (h0 : (List (DVerdict)) × (Unit) × Unit) (h1 : List ((Int × Int) × (Int))) : Option ((Int) × (((List (DVerdict)) × (Unit) × Unit) × (List ((Int × Int) × (Int))) × (Unit) × (Unit) × Unit)) :=
  (bif (decide (((h0.1.length : Int) : Int) = 0)) then
  some (0, ((h0.1, (), ()), h1, (), (), ()))
  else
  (getI h0.1 (IntKind.i64.wrap ((h0.1.length : Int) - 1))).bind fun e1 =>
  some (e1.at_, ((h0.1, (), ()), h1, (), (), ())))
noncomputable def ruling_last_ce : CE CT Tryz.prog where
  f := 185
  args := [.one (.ptr 0 0)]
  hs := [.obj 197 [.own 12 2, .mo 1], .mmap (.two .i64 .i64) (.int .i64), .row 41 5]
  res := .val (.one (.int .i64))
  outs := [.obj 197 [.own 12 3, .mo 1], .mmap (.two .i64 .i64) (.int .i64), .dead, .row 41 5]
  m := fun d dh => ruling_last dh.1 dh.2.1
  ok := ce_ok mixedP Tryz.func185 (by kernel_rfl) (orcOf_ok ruling_last_tb) (dr := ruling_last_dr) (lps := lpsOf ruling_last_lt) (lps_fn (no_loop (by kernel_rfl))) (fun d dh => by kernel_rfl)

def ruling_put_dr : Nat → Nat → DrA
  | 1, _ => ⟨[0, 1, 2, 4, 6, 7, 8, 3, 5, 9, 10, 11], [[], [0], [0, 1], [0, 1, 2], [], [4], [], [6], [6, 7], [6, 7, 8], [6, 7, 8, 9], [0, 1, 2, 3, 4, 5, 6, 7, 8, 9, 10]], [], [], [], false, []⟩
  | 2, _ => ⟨[0, 1, 2, 3, 4, 5, 6, 7, 8, 9, 10, 11], [[], [], [1], [1, 2], [1, 2, 3], [], [5], [5, 6], [1, 2, 3, 4, 5, 6, 7], [0, 1, 2, 3, 4, 5, 6, 7, 8], [0, 1, 2, 3, 4, 5, 6, 7, 8, 9], [0, 1, 2, 3, 4, 5, 6, 7, 8, 9, 10]], [4], [6], [0], false, []⟩
  | _, _ => ⟨[], [], [], [], [], false, []⟩
noncomputable def ruling_put_tb : List (CE CT Tryz.prog) := [ruling_copied_ce]
noncomputable def ruling_put_lt : List (LE CT Tryz.prog) := []
noncomputable def ruling_put (x1 : DVerdict) (h0 : (List (DVerdict)) × (Unit) × Unit) (h1 : List ((Int × Int) × (Int))) : Option ((Unit) × (((List (DVerdict)) × (Unit) × Unit) × (List ((Int × Int) × (Int))) × (Unit) × (Unit) × Unit)) :=
  (ruling_copied x1).bind fun r1 =>
  (if h0.1.length + ([r1.1] : List (DVerdict)).length ≤ 140737488355328 ∧ (h0.1.length + ([r1.1] : List (DVerdict)).length) * 56 ≤ 140737488355328 then
  some ((), (((h0.1 ++ ([r1.1] : List (DVerdict))), (), ()), (mput (.two .i64 .i64) h1 (x1.name.client, x1.name.num) (h0.1.length : Int)), (), (), ()))
  else none)
noncomputable def ruling_put_ce : CE CT Tryz.prog where
  f := 112
  args := [.one (.ptr 0 0), .cod 12]
  hs := [.obj 197 [.own 12 2, .mo 1], .mmap (.two .i64 .i64) (.int .i64), .row 41 5]
  res := .tup []
  outs := [.obj 197 [.own 12 3, .mo 1], .mmap (.two .i64 .i64) (.int .i64), .dead, .row 41 5]
  m := fun d dh => ruling_put d.2.1 dh.1 dh.2.1
  ok := ce_ok mixedP Tryz.func112 (by kernel_rfl) (orcOf_ok ruling_put_tb) (dr := ruling_put_dr) (lps := lpsOf ruling_put_lt) (lps_fn (no_loop (by kernel_rfl))) (fun d dh => by kernel_rfl)

def ruling_Decide_dr : Nat → Nat → DrA
  | 8, _ => ⟨[0, 2, 3, 4, 1, 5, 6], [[], [0], [], [2], [2, 3], [2, 3, 4], [0, 1, 2, 3, 4, 5]], [1], [5], [3], false, []⟩
  | 10, _ => ⟨[0, 1, 2, 3, 4], [[], [0], [0, 1], [], [0, 1, 2, 3]], [], [], [], false, []⟩
  | _, _ => ⟨[], [], [], [], [], false, []⟩
noncomputable def ruling_Decide_tb : List (CE CT Tryz.prog) := [ruling_known_ce, ruling_Right_ce, ruling_Of_ce, ruling_last_ce, ruling_put_ce, ruling_copied_ce]
noncomputable def ruling_Decide_lt : List (LE CT Tryz.prog) := []
noncomputable def ruling_Decide (x1 : DVerdict) (h0 : (List (DVerdict)) × (Unit) × Unit) (h1 : List ((Int × Int) × (Int))) : Option (((DVerdict) × (Int) × Unit) × (((List (DVerdict)) × (Unit) × Unit) × (List ((Int × Int) × (Int))) × (Unit) × (Unit) × Unit)) :=
  (ruling_known (h0.1, (), ()) h1).bind fun r1 =>
  (bif (!r1.1) then
  some (((⟨(⟨0, 0⟩ : DName), false, 0, []⟩ : DVerdict), 1, ()), ((r1.2.1.1, (), ()), r1.2.2.1, (), (), ()))
  else
  (ruling_Right ([x1] : List (DVerdict))).bind fun r2 =>
  (bif (!r2.1) then
  some (((⟨(⟨0, 0⟩ : DName), false, 0, []⟩ : DVerdict), 2, ()), ((r1.2.1.1, (), ()), r1.2.2.1, (), (), ()))
  else
  (ruling_Of x1.name (r1.2.1.1, (), ()) r1.2.2.1).bind fun r3 =>
  (bif r3.1.2.1 then
  some ((r3.1.1, 0, ()), ((r3.2.1.1, (), ()), r3.2.2.1, (), (), ()))
  else
  (ruling_last (r3.2.1.1, (), ()) r3.2.2.1).bind fun r4 =>
  (bif (decide ((x1.at_ : Int) ≤ r4.1)) then
  some (((⟨(⟨0, 0⟩ : DName), false, 0, []⟩ : DVerdict), 2, ()), ((r4.2.1.1, (), ()), r4.2.2.1, (), (), ()))
  else
  (ruling_put x1 (r4.2.1.1, (), ()) r4.2.2.1).bind fun r5 =>
  (ruling_copied x1).bind fun r6 =>
  some ((r6.1, 0, ()), ((r5.2.1.1, (), ()), r5.2.2.1, (), (), ()))))))
noncomputable def ruling_Decide_ce : CE CT Tryz.prog where
  f := 101
  args := [.one (.ptr 0 0), .cod 12]
  hs := [.obj 197 [.own 12 2, .mo 1], .mmap (.two .i64 .i64) (.int .i64), .row 41 5]
  res := .tup [.cod 12, .one (.int .i64)]
  outs := [.obj 197 [.own 12 3, .mo 1], .mmap (.two .i64 .i64) (.int .i64), .dead, .row 41 5]
  m := fun d dh => ruling_Decide d.2.1 dh.1 dh.2.1
  ok := ce_ok mixedP Tryz.func101 (by kernel_rfl) (orcOf_ok ruling_Decide_tb) (dr := ruling_Decide_dr) (lps := lpsOf ruling_Decide_lt) (lps_fn (no_loop (by kernel_rfl))) (fun d dh => by kernel_rfl)

def registry_Decide_dr : Nat → Nat → DrA
  | 3, _ => ⟨[0, 1, 2, 3, 4, 5, 6, 7, 8, 9, 10], [[], [0], [0, 1], [0, 1, 2], [0, 1, 2, 3], [], [0, 1, 2, 3, 4, 5], [0, 1, 2, 3, 4, 5, 6], [0, 1, 2, 3, 4, 5, 6], [0, 1, 2, 3, 4, 5, 6, 7, 8], [0, 1, 2, 3, 4, 5, 6, 7, 8, 9]], [], [], [], false, []⟩
  | _, _ => ⟨[], [], [], [], [], false, []⟩
noncomputable def registry_Decide_tb : List (CE CT Tryz.prog) := [registry_known_ce, ruling_Decide_ce]
noncomputable def registry_Decide_lt : List (LE CT Tryz.prog) := []
noncomputable def registry_Decide (x1 : DVerdict) (h0 : (Unit) × (Int) × (List (DShare)) × (Bool) × (Int) × (List UInt8) × (List UInt8) × (Int) × (Int) × (Int) × (Int) × (Int) × (Int) × Unit) (h1 : (List (DVerdict)) × (Unit) × Unit) (h2 : List ((Int × Int) × (Int))) : Option (((DVerdict) × (Int) × Unit) × (((Unit) × (Int) × (List (DShare)) × (Bool) × (Int) × (List UInt8) × (List UInt8) × (Int) × (Int) × (Int) × (Int) × (Int) × (Int) × Unit) × ((List (DVerdict)) × (Unit) × Unit) × (List ((Int × Int) × (Int))) × (Unit) × (Unit) × Unit)) :=
  (registry_known ((), h0.2.1, h0.2.2.1, h0.2.2.2.1, h0.2.2.2.2.1, h0.2.2.2.2.2.1, h0.2.2.2.2.2.2.1, h0.2.2.2.2.2.2.2.1, h0.2.2.2.2.2.2.2.2.1, h0.2.2.2.2.2.2.2.2.2.1, h0.2.2.2.2.2.2.2.2.2.2.1, h0.2.2.2.2.2.2.2.2.2.2.2.1, h0.2.2.2.2.2.2.2.2.2.2.2.2.1, ()) (h1.1, (), ()) h2).bind fun r1 =>
  (bif (!r1.1) then
  some (((⟨(⟨0, 0⟩ : DName), false, 0, []⟩ : DVerdict), 1, ()), (((), r1.2.1.2.1, r1.2.1.2.2.1, r1.2.1.2.2.2.1, r1.2.1.2.2.2.2.1, r1.2.1.2.2.2.2.2.1, r1.2.1.2.2.2.2.2.2.1, r1.2.1.2.2.2.2.2.2.2.1, r1.2.1.2.2.2.2.2.2.2.2.1, r1.2.1.2.2.2.2.2.2.2.2.2.1, r1.2.1.2.2.2.2.2.2.2.2.2.2.1, r1.2.1.2.2.2.2.2.2.2.2.2.2.2.1, r1.2.1.2.2.2.2.2.2.2.2.2.2.2.2.1, ()), (r1.2.2.1.1, (), ()), r1.2.2.2.1, (), (), ()))
  else
  (ruling_Decide x1 (r1.2.2.1.1, (), ()) r1.2.2.2.1).bind fun r2 =>
  some ((r2.1.1, r2.1.2.1, ()), (((), r1.2.1.2.1, r1.2.1.2.2.1, r1.2.1.2.2.2.1, r1.2.1.2.2.2.2.1, r1.2.1.2.2.2.2.2.1, r1.2.1.2.2.2.2.2.2.1, r1.2.1.2.2.2.2.2.2.2.1, r1.2.1.2.2.2.2.2.2.2.2.1, r1.2.1.2.2.2.2.2.2.2.2.2.1, r1.2.1.2.2.2.2.2.2.2.2.2.2.1, r1.2.1.2.2.2.2.2.2.2.2.2.2.2.1, r1.2.1.2.2.2.2.2.2.2.2.2.2.2.2.1, ()), (r2.2.1.1, (), ()), r2.2.2.1, (), (), ())))
noncomputable def registry_Decide_ce : CE CT Tryz.prog where
  f := 53
  args := [.one (.ptr 0 0), .cod 12]
  hs := [.obj 110 [.ptr 1 0, .int .i64, .sl 5, .bool, .int .i64, .str, .str, .int .i64, .int .i64, .int .i64, .int .i64, .int .u8, .int .i64], .obj 197 [.own 12 3, .mo 2], .mmap (.two .i64 .i64) (.int .i64), .row 41 5]
  res := .tup [.cod 12, .one (.int .i64)]
  outs := [.obj 110 [.ptr 1 0, .int .i64, .sl 5, .bool, .int .i64, .str, .str, .int .i64, .int .i64, .int .i64, .int .i64, .int .u8, .int .i64], .obj 197 [.own 12 4, .mo 2], .mmap (.two .i64 .i64) (.int .i64), .dead, .row 41 5]
  m := fun d dh => registry_Decide d.2.1 dh.1 dh.2.1 dh.2.2.1
  ok := ce_ok mixedP Tryz.func53 (by kernel_rfl) (orcOf_ok registry_Decide_tb) (dr := registry_Decide_dr) (lps := lpsOf registry_Decide_lt) (lps_fn (no_loop (by kernel_rfl))) (fun d dh => by kernel_rfl)

def watershedlaw21_do_dr : Nat → Nat → DrA
  | _, _ => ⟨[], [], [], [], [], false, []⟩
noncomputable def watershedlaw21_do_tb : List (CE CT Tryz.prog) := [watershedkit_Pick_ce, registry_Begin_ce, registry_Decide_ce, registry_Step_ce]
noncomputable def watershedlaw21_do_lt : List (LE CT Tryz.prog) := []
noncomputable def watershedlaw21_do (x1 : DDeed) (h0 : (Unit) × (Int) × (List (DShare)) × (Bool) × (Int) × (List UInt8) × (List UInt8) × (Int) × (Int) × (Int) × (Int) × (Int) × (Int) × Unit) (h1 : (List (DVerdict)) × (Unit) × Unit) (h2 : List ((Int × Int) × (Int))) : Option (((Int) × (Int) × Unit) × (((Unit) × (Int) × (List (DShare)) × (Bool) × (Int) × (List UInt8) × (List UInt8) × (Int) × (Int) × (Int) × (Int) × (Int) × (Int) × Unit) × ((List (DVerdict)) × (Unit) × Unit) × (List ((Int × Int) × (Int))) × (Unit) × (Unit) × Unit)) :=
  (watershedkit_Pick x1.kind 8).bind fun r1 =>
  (bif (decide ((r1.1 : Int) = 0)) then
  (registry_Begin x1.span x1.to_ ((), h0.2.1, h0.2.2.1, h0.2.2.2.1, h0.2.2.2.2.1, h0.2.2.2.2.2.1, h0.2.2.2.2.2.2.1, h0.2.2.2.2.2.2.2.1, h0.2.2.2.2.2.2.2.2.1, h0.2.2.2.2.2.2.2.2.2.1, h0.2.2.2.2.2.2.2.2.2.2.1, h0.2.2.2.2.2.2.2.2.2.2.2.1, h0.2.2.2.2.2.2.2.2.2.2.2.2.1, ()) (h1.1, (), ()) h2).bind fun r2 =>
  some ((r2.1.1, r2.1.2.1, ()), (((), r2.2.1.2.1, r2.2.1.2.2.1, r2.2.1.2.2.2.1, r2.2.1.2.2.2.2.1, r2.2.1.2.2.2.2.2.1, r2.2.1.2.2.2.2.2.2.1, r2.2.1.2.2.2.2.2.2.2.1, r2.2.1.2.2.2.2.2.2.2.2.1, r2.2.1.2.2.2.2.2.2.2.2.2.1, r2.2.1.2.2.2.2.2.2.2.2.2.2.1, r2.2.1.2.2.2.2.2.2.2.2.2.2.2.1, r2.2.1.2.2.2.2.2.2.2.2.2.2.2.2.1, ()), (r2.2.2.1.1, (), ()), r2.2.2.2.1, (), (), ()))
  else
  (bif (decide ((r1.1 : Int) = 1)) then
  (registry_Begin x1.span x1.to_ ((), h0.2.1, h0.2.2.1, h0.2.2.2.1, h0.2.2.2.2.1, h0.2.2.2.2.2.1, h0.2.2.2.2.2.2.1, h0.2.2.2.2.2.2.2.1, h0.2.2.2.2.2.2.2.2.1, h0.2.2.2.2.2.2.2.2.2.1, h0.2.2.2.2.2.2.2.2.2.2.1, h0.2.2.2.2.2.2.2.2.2.2.2.1, h0.2.2.2.2.2.2.2.2.2.2.2.2.1, ()) (h1.1, (), ()) h2).bind fun r3 =>
  some ((r3.1.1, r3.1.2.1, ()), (((), r3.2.1.2.1, r3.2.1.2.2.1, r3.2.1.2.2.2.1, r3.2.1.2.2.2.2.1, r3.2.1.2.2.2.2.2.1, r3.2.1.2.2.2.2.2.2.1, r3.2.1.2.2.2.2.2.2.2.1, r3.2.1.2.2.2.2.2.2.2.2.1, r3.2.1.2.2.2.2.2.2.2.2.2.1, r3.2.1.2.2.2.2.2.2.2.2.2.2.1, r3.2.1.2.2.2.2.2.2.2.2.2.2.2.1, r3.2.1.2.2.2.2.2.2.2.2.2.2.2.2.1, ()), (r3.2.2.1.1, (), ()), r3.2.2.2.1, (), (), ()))
  else
  (bif (decide ((r1.1 : Int) = 6)) then
  (registry_Decide x1.verdict ((), h0.2.1, h0.2.2.1, h0.2.2.2.1, h0.2.2.2.2.1, h0.2.2.2.2.2.1, h0.2.2.2.2.2.2.1, h0.2.2.2.2.2.2.2.1, h0.2.2.2.2.2.2.2.2.1, h0.2.2.2.2.2.2.2.2.2.1, h0.2.2.2.2.2.2.2.2.2.2.1, h0.2.2.2.2.2.2.2.2.2.2.2.1, h0.2.2.2.2.2.2.2.2.2.2.2.2.1, ()) (h1.1, (), ()) h2).bind fun r4 =>
  some ((0, r4.1.2.1, ()), (((), r4.2.1.2.1, r4.2.1.2.2.1, r4.2.1.2.2.2.1, r4.2.1.2.2.2.2.1, r4.2.1.2.2.2.2.2.1, r4.2.1.2.2.2.2.2.2.1, r4.2.1.2.2.2.2.2.2.2.1, r4.2.1.2.2.2.2.2.2.2.2.1, r4.2.1.2.2.2.2.2.2.2.2.2.1, r4.2.1.2.2.2.2.2.2.2.2.2.2.1, r4.2.1.2.2.2.2.2.2.2.2.2.2.2.1, r4.2.1.2.2.2.2.2.2.2.2.2.2.2.2.1, ()), (r4.2.2.1.1, (), ()), r4.2.2.2.1, (), (), ()))
  else
  (bif (decide ((r1.1 : Int) = 7)) then
  some ((0, 0, ()), (((), h0.2.1, h0.2.2.1, h0.2.2.2.1, h0.2.2.2.2.1, h0.2.2.2.2.2.1, h0.2.2.2.2.2.2.1, h0.2.2.2.2.2.2.2.1, h0.2.2.2.2.2.2.2.2.1, h0.2.2.2.2.2.2.2.2.2.1, h0.2.2.2.2.2.2.2.2.2.2.1, h0.2.2.2.2.2.2.2.2.2.2.2.1, h0.2.2.2.2.2.2.2.2.2.2.2.2.1, ()), (h1.1, (), ()), h2, (), (), ()))
  else
  (registry_Step x1.num x1.stage ((), h0.2.1, h0.2.2.1, h0.2.2.2.1, h0.2.2.2.2.1, h0.2.2.2.2.2.1, h0.2.2.2.2.2.2.1, h0.2.2.2.2.2.2.2.1, h0.2.2.2.2.2.2.2.2.1, h0.2.2.2.2.2.2.2.2.2.1, h0.2.2.2.2.2.2.2.2.2.2.1, h0.2.2.2.2.2.2.2.2.2.2.2.1, h0.2.2.2.2.2.2.2.2.2.2.2.2.1, ()) (h1.1, (), ()) h2).bind fun r5 =>
  some (((IntKind.i64.wrap r5.1.1), r5.1.2.1, ()), (((), r5.2.1.2.1, r5.2.1.2.2.1, r5.2.1.2.2.2.1, r5.2.1.2.2.2.2.1, r5.2.1.2.2.2.2.2.1, r5.2.1.2.2.2.2.2.2.1, r5.2.1.2.2.2.2.2.2.2.1, r5.2.1.2.2.2.2.2.2.2.2.1, r5.2.1.2.2.2.2.2.2.2.2.2.1, r5.2.1.2.2.2.2.2.2.2.2.2.2.1, r5.2.1.2.2.2.2.2.2.2.2.2.2.2.1, r5.2.1.2.2.2.2.2.2.2.2.2.2.2.2.1, ()), (r5.2.2.1.1, (), ()), r5.2.2.2.1, (), (), ()))))))
noncomputable def watershedlaw21_do_ce : CE CT Tryz.prog where
  f := 11
  args := [.one (.ptr 0 0), .cod 13]
  hs := [.obj 110 [.ptr 1 0, .int .i64, .sl 5, .bool, .int .i64, .str, .str, .int .i64, .int .i64, .int .i64, .int .i64, .int .u8, .int .i64], .obj 197 [.own 12 3, .mo 2], .mmap (.two .i64 .i64) (.int .i64), .row 41 5]
  res := .tup [.one (.int .i64), .one (.int .i64)]
  outs := [.obj 110 [.ptr 1 0, .int .i64, .sl 5, .bool, .int .i64, .str, .str, .int .i64, .int .i64, .int .i64, .int .i64, .int .u8, .int .i64], .obj 197 [.own 12 4, .mo 2], .mmap (.two .i64 .i64) (.int .i64), .dead, .row 41 5]
  m := fun d dh => watershedlaw21_do d.2.1 dh.1 dh.2.1 dh.2.2.1
  ok := ce_ok mixedP Tryz.func11 (by kernel_rfl) (orcOf_ok watershedlaw21_do_tb) (dr := watershedlaw21_do_dr) (lps := lpsOf watershedlaw21_do_lt) (lps_fn (no_loop (by kernel_rfl))) (fun d dh => by kernel_rfl)

def slices_Index_2_dr : Nat → Nat → DrA
  | _, _ => ⟨[], [], [], [], [], false, []⟩
noncomputable def slices_Index_2_tb : List (CE CT Tryz.prog) := []
noncomputable def slices_Index_2_l1 (a : ((List (Bool)) × (Bool) × (Int) × (Int) × Unit) × (Unit)) : Option ((((List (Bool)) × (Bool) × (Int) × (Int) × Unit) × (Unit)) ⊕ ((((Int) × Unit) × (Unit)) ⊕ ((Unit) × (Unit)))) :=
  (bif (decide ((a.1.2.2.2.1 : Int) < a.1.2.2.1)) then
  (getI a.1.1 a.1.2.2.2.1).bind fun e1 =>
  (bif (decide (a.1.2.1 = e1)) then
  some (.inr (.inl ((a.1.2.2.2.1, ()), ())))
  else
  some (.inl ((a.1.1, a.1.2.1, a.1.2.2.1, (IntKind.i64.wrap (a.1.2.2.2.1 + 1)), ()), ())))
  else
  some (.inr (.inr ((), ()))))
noncomputable def slices_Index_2_e1 : LE CT Tryz.prog := ⟨2, [0, 1, 7, 8], [.one (.sl 9), .one (.bool), .one (.int .i64), .one (.int .i64)], [], [⟨.ret, [4], [.one (.int .i64)], []⟩, ⟨.exit 0, [], [], []⟩], slices_Index_2_l1⟩
noncomputable def slices_Index_2_lt : List (LE CT Tryz.prog) := [slices_Index_2_e1]
theorem slices_Index_2_e1_ok : LeOk slices_Index_2_e1 (nthL (bodyOf Tryz.f186) 0) := fun A env h k z hk => le_ok (E := slices_Index_2_e1) (orcOf_ok slices_Index_2_tb) (dr := slices_Index_2_dr) (lps := lpsOf slices_Index_2_lt) (no_loop (by kernel_rfl)) (fun a => by kernel_rfl) env h k z hk
noncomputable def slices_Index_2 (x0 : List (Bool)) (x1 : Bool) : Option ((Int) × (Unit)) :=
  (loopM slices_Index_2_l1 ((x0, x1, (x0.length : Int), 0, ()), ())).bind fun b1 =>
  (match b1 with
  | .inl b2 =>
  some (b2.1.1, ())
  | .inr b3 =>
  some ((-1), ()))
noncomputable def slices_Index_2_ce : CE CT Tryz.prog where
  f := 186
  args := [.one (.sl 9), .one (.bool)]
  hs := []
  res := .val (.one (.int .i64))
  outs := []
  m := fun d dh => slices_Index_2 d.1 d.2.1
  ok := ce_ok mixedP Tryz.func186 (by kernel_rfl) (orcOf_ok slices_Index_2_tb) (dr := slices_Index_2_dr) (lps := lpsOf slices_Index_2_lt) (lps_fn (lps_of (n := 1) (by kernel_rfl) fun i hi => match i, hi with | 0, _ => lp_ok (E := slices_Index_2_e1) (by kernel_rfl) slices_Index_2_e1_ok)) (fun d dh => by kernel_rfl)

def slices_Contains_2_dr : Nat → Nat → DrA
  | _, _ => ⟨[], [], [], [], [], false, []⟩
noncomputable def slices_Contains_2_tb : List (CE CT Tryz.prog) := [slices_Index_2_ce]
noncomputable def slices_Contains_2_lt : List (LE CT Tryz.prog) := []
noncomputable def slices_Contains_2 (x0 : List (Bool)) (x1 : Bool) : Option ((Bool) × (Unit)) :=
  (slices_Index_2 x0 x1).bind fun r1 =>
  some ((decide ((0 : Int) ≤ r1.1)), ())
noncomputable def slices_Contains_2_ce : CE CT Tryz.prog where
  f := 103
  args := [.one (.sl 9), .one (.bool)]
  hs := []
  res := .val (.one (.bool))
  outs := []
  m := fun d dh => slices_Contains_2 d.1 d.2.1
  ok := ce_ok mixedP Tryz.func103 (by kernel_rfl) (orcOf_ok slices_Contains_2_tb) (dr := slices_Contains_2_dr) (lps := lpsOf slices_Contains_2_lt) (lps_fn (no_loop (by kernel_rfl))) (fun d dh => by kernel_rfl)

def ruling_All_dr : Nat → Nat → DrA
  | _, _ => ⟨[], [], [], [], [], false, []⟩
noncomputable def ruling_All_tb : List (CE CT Tryz.prog) := [ruling_known_ce, ruling_copied_ce, slices_Contains_2_ce]
noncomputable def ruling_All_l1 (a : ((List (Bool)) × (List (DVerdict)) × (List (DVerdict)) × (Int) × (Int) × Unit) × ((Unit) × Unit)) : Option ((((List (Bool)) × (List (DVerdict)) × (List (DVerdict)) × (Int) × (Int) × Unit) × ((Unit) × Unit)) ⊕ ((((List (DVerdict)) × Unit) × ((Unit) × (Unit) × Unit)))) :=
  (bif (decide ((a.1.2.2.2.2.1 : Int) < a.1.2.2.2.1)) then
  (getI a.1.2.2.1 a.1.2.2.2.2.1).bind fun e1 =>
  (bif (decide (((a.1.1.length : Int) : Int) = 0)) then
  (ruling_copied e1).bind fun r2 =>
  (if a.1.2.1.length + ([r2.1] : List (DVerdict)).length ≤ 140737488355328 ∧ (a.1.2.1.length + ([r2.1] : List (DVerdict)).length) * 56 ≤ 140737488355328 then
  some (.inl ((a.1.1, (a.1.2.1 ++ ([r2.1] : List (DVerdict))), a.1.2.2.1, a.1.2.2.2.1, (IntKind.i64.wrap (a.1.2.2.2.2.1 + 1)), ()), ((), ())))
  else none)
  else
  (slices_Contains_2 a.1.1 e1.commit).bind fun r3 =>
  (bif r3.1 then
  (ruling_copied e1).bind fun r4 =>
  (if a.1.2.1.length + ([r4.1] : List (DVerdict)).length ≤ 140737488355328 ∧ (a.1.2.1.length + ([r4.1] : List (DVerdict)).length) * 56 ≤ 140737488355328 then
  some (.inl ((a.1.1, (a.1.2.1 ++ ([r4.1] : List (DVerdict))), a.1.2.2.1, a.1.2.2.2.1, (IntKind.i64.wrap (a.1.2.2.2.2.1 + 1)), ()), ((), ())))
  else none)
  else
  some (.inl ((a.1.1, a.1.2.1, a.1.2.2.1, a.1.2.2.2.1, (IntKind.i64.wrap (a.1.2.2.2.2.1 + 1)), ()), ((), ())))))
  else
  some (.inr ((a.1.2.1, ()), ((), (), ()))))
noncomputable def ruling_All_e1 : LE CT Tryz.prog := ⟨5, [1, 5, 15, 16, 17], [.one (.sl 9), .one (.own 12 0), .one (.sl 12), .one (.int .i64), .one (.int .i64)], [.row 41 5], [⟨.exit 0, [5], [.one (.own 12 1)], [.dead, .row 41 5]⟩], ruling_All_l1⟩
noncomputable def ruling_All_lt : List (LE CT Tryz.prog) := [ruling_All_e1]
theorem ruling_All_e1_ok : LeOk ruling_All_e1 (nthL (bodyOf Tryz.f55) 0) := fun A env h k z hk => le_ok (E := ruling_All_e1) (orcOf_ok ruling_All_tb) (dr := ruling_All_dr) (lps := lpsOf ruling_All_lt) (no_loop (by kernel_rfl)) (fun a => by kernel_rfl) env h k z hk
noncomputable def ruling_All (x1 : List (Bool)) (h0 : (List (DVerdict)) × (Unit) × Unit) (h1 : List ((Int × Int) × (Int))) : Option ((List (DVerdict)) × (((List (DVerdict)) × (Unit) × Unit) × (List ((Int × Int) × (Int))) × (Unit) × (Unit) × (Unit) × Unit)) :=
  (ruling_known (h0.1, (), ()) h1).bind fun r1 =>
  (bif (!r1.1) then
  some ([], ((r1.2.1.1, (), ()), r1.2.2.1, (), (), (), ()))
  else
  (loopM ruling_All_l1 ((x1, [], r1.2.1.1, (r1.2.1.1.length : Int), 0, ()), ((), ()))).bind fun b2 =>
  some (b2.1.1, ((r1.2.1.1, (), ()), r1.2.2.1, (), (), (), ())))
noncomputable def ruling_All_ce : CE CT Tryz.prog where
  f := 55
  args := [.one (.ptr 0 0), .one (.sl 9)]
  hs := [.obj 197 [.own 12 2, .mo 1], .mmap (.two .i64 .i64) (.int .i64), .row 41 5]
  res := .val (.one (.own 12 3))
  outs := [.obj 197 [.own 12 4, .mo 1], .mmap (.two .i64 .i64) (.int .i64), .dead, .row 41 5, .row 41 5]
  m := fun d dh => ruling_All d.2.1 dh.1 dh.2.1
  ok := ce_ok mixedP Tryz.func55 (by kernel_rfl) (orcOf_ok ruling_All_tb) (dr := ruling_All_dr) (lps := lpsOf ruling_All_lt) (lps_fn (lps_of (n := 1) (by kernel_rfl) fun i hi => match i, hi with | 0, _ => lp_ok (E := ruling_All_e1) (by kernel_rfl) ruling_All_e1_ok)) (fun d dh => by kernel_rfl)

def registry_Rulings_dr : Nat → Nat → DrA
  | _, _ => ⟨[], [], [], [], [], false, []⟩
noncomputable def registry_Rulings_tb : List (CE CT Tryz.prog) := [registry_known_ce, ruling_All_ce]
noncomputable def registry_Rulings_lt : List (LE CT Tryz.prog) := []
noncomputable def registry_Rulings (x1 : List (Bool)) (h0 : (Unit) × (Int) × (List (DShare)) × (Bool) × (Int) × (List UInt8) × (List UInt8) × (Int) × (Int) × (Int) × (Int) × (Int) × (Int) × Unit) (h1 : (List (DVerdict)) × (Unit) × Unit) (h2 : List ((Int × Int) × (Int))) : Option ((List (DVerdict)) × (((Unit) × (Int) × (List (DShare)) × (Bool) × (Int) × (List UInt8) × (List UInt8) × (Int) × (Int) × (Int) × (Int) × (Int) × (Int) × Unit) × ((List (DVerdict)) × (Unit) × Unit) × (List ((Int × Int) × (Int))) × (Unit) × (Unit) × (Unit) × Unit)) :=
  (registry_known ((), h0.2.1, h0.2.2.1, h0.2.2.2.1, h0.2.2.2.2.1, h0.2.2.2.2.2.1, h0.2.2.2.2.2.2.1, h0.2.2.2.2.2.2.2.1, h0.2.2.2.2.2.2.2.2.1, h0.2.2.2.2.2.2.2.2.2.1, h0.2.2.2.2.2.2.2.2.2.2.1, h0.2.2.2.2.2.2.2.2.2.2.2.1, h0.2.2.2.2.2.2.2.2.2.2.2.2.1, ()) (h1.1, (), ()) h2).bind fun r1 =>
  (bif (!r1.1) then
  some ([], (((), r1.2.1.2.1, r1.2.1.2.2.1, r1.2.1.2.2.2.1, r1.2.1.2.2.2.2.1, r1.2.1.2.2.2.2.2.1, r1.2.1.2.2.2.2.2.2.1, r1.2.1.2.2.2.2.2.2.2.1, r1.2.1.2.2.2.2.2.2.2.2.1, r1.2.1.2.2.2.2.2.2.2.2.2.1, r1.2.1.2.2.2.2.2.2.2.2.2.2.1, r1.2.1.2.2.2.2.2.2.2.2.2.2.2.1, r1.2.1.2.2.2.2.2.2.2.2.2.2.2.2.1, ()), (r1.2.2.1.1, (), ()), r1.2.2.2.1, (), (), (), ()))
  else
  (ruling_All x1 (r1.2.2.1.1, (), ()) r1.2.2.2.1).bind fun r2 =>
  some (r2.1, (((), r1.2.1.2.1, r1.2.1.2.2.1, r1.2.1.2.2.2.1, r1.2.1.2.2.2.2.1, r1.2.1.2.2.2.2.2.1, r1.2.1.2.2.2.2.2.2.1, r1.2.1.2.2.2.2.2.2.2.1, r1.2.1.2.2.2.2.2.2.2.2.1, r1.2.1.2.2.2.2.2.2.2.2.2.1, r1.2.1.2.2.2.2.2.2.2.2.2.2.1, r1.2.1.2.2.2.2.2.2.2.2.2.2.2.1, r1.2.1.2.2.2.2.2.2.2.2.2.2.2.2.1, ()), (r2.2.1.1, (), ()), r2.2.2.1, (), (), (), ())))
noncomputable def registry_Rulings_ce : CE CT Tryz.prog where
  f := 13
  args := [.one (.ptr 0 0), .one (.sl 9)]
  hs := [.obj 110 [.ptr 1 0, .int .i64, .sl 5, .bool, .int .i64, .str, .str, .int .i64, .int .i64, .int .i64, .int .i64, .int .u8, .int .i64], .obj 197 [.own 12 3, .mo 2], .mmap (.two .i64 .i64) (.int .i64), .row 41 5]
  res := .val (.one (.own 12 4))
  outs := [.obj 110 [.ptr 1 0, .int .i64, .sl 5, .bool, .int .i64, .str, .str, .int .i64, .int .i64, .int .i64, .int .i64, .int .u8, .int .i64], .obj 197 [.own 12 5, .mo 2], .mmap (.two .i64 .i64) (.int .i64), .dead, .row 41 5, .row 41 5]
  m := fun d dh => registry_Rulings d.2.1 dh.1 dh.2.1 dh.2.2.1
  ok := ce_ok mixedP Tryz.func13 (by kernel_rfl) (orcOf_ok registry_Rulings_tb) (dr := registry_Rulings_dr) (lps := lpsOf registry_Rulings_lt) (lps_fn (no_loop (by kernel_rfl))) (fun d dh => by kernel_rfl)

def wire_NewWriter_dr : Nat → Nat → DrA
  | _, _ => ⟨[], [], [], [], [], false, []⟩
noncomputable def wire_NewWriter_tb : List (CE CT Tryz.prog) := []
noncomputable def wire_NewWriter_lt : List (LE CT Tryz.prog) := []
noncomputable def wire_NewWriter  : Option ((Unit) × (((Bool) × (Bool) × (List (UInt8)) × Unit) × (Unit) × Unit)) :=
  some ((), ((true, false, [], ()), (), ()))
noncomputable def wire_NewWriter_ce : CE CT Tryz.prog where
  f := 40
  args := []
  hs := []
  res := .val (.one (.ptr 0 0))
  outs := [.obj 180 [.bool, .bool, .own 1 1], .row 5 1]
  m := fun d dh => wire_NewWriter
  ok := ce_ok mixedP Tryz.func40 (by kernel_rfl) (orcOf_ok wire_NewWriter_tb) (dr := wire_NewWriter_dr) (lps := lpsOf wire_NewWriter_lt) (lps_fn (no_loop (by kernel_rfl))) (fun d dh => by kernel_rfl)

def wire_known_dr : Nat → Nat → DrA
  | _, _ => ⟨[], [], [], [], [], false, []⟩
noncomputable def wire_known_tb : List (CE CT Tryz.prog) := []
noncomputable def wire_known_lt : List (LE CT Tryz.prog) := []
noncomputable def wire_known (h0 : (Bool) × (Bool) × (List (UInt8)) × Unit) : Option ((Bool) × (((Bool) × (Bool) × (List (UInt8)) × Unit) × (Unit) × (Unit) × Unit)) :=
  some (h0.1, ((h0.1, h0.2.1, h0.2.2.1, ()), (), (), ()))
noncomputable def wire_known_ce : CE CT Tryz.prog where
  f := 90
  args := [.one (.ptr 0 0)]
  hs := [.obj 180 [.bool, .bool, .own 1 1], .row 5 1]
  res := .val (.one (.bool))
  outs := [.obj 180 [.bool, .bool, .own 1 2], .dead, .row 5 1]
  m := fun d dh => wire_known dh.1
  ok := ce_ok mixedP Tryz.func90 (by kernel_rfl) (orcOf_ok wire_known_tb) (dr := wire_known_dr) (lps := lpsOf wire_known_lt) (lps_fn (no_loop (by kernel_rfl))) (fun d dh => by kernel_rfl)

def wire_put_dr : Nat → Nat → DrA
  | _, _ => ⟨[], [], [], [], [], false, []⟩
noncomputable def wire_put_tb : List (CE CT Tryz.prog) := []
noncomputable def wire_put_lt : List (LE CT Tryz.prog) := []
noncomputable def wire_put (x1 : List (UInt8)) (h0 : (Bool) × (Bool) × (List (UInt8)) × Unit) : Option ((Unit) × (((Bool) × (Bool) × (List (UInt8)) × Unit) × (Unit) × (Unit) × Unit)) :=
  (bif h0.1 then
  (if h0.2.2.1.length + x1.length ≤ 140737488355328 ∧ (h0.2.2.1.length + x1.length) * 1 ≤ 140737488355328 then
  some ((), ((h0.1, h0.2.1, (h0.2.2.1 ++ x1), ()), (), (), ()))
  else none)
  else
  some ((), ((h0.1, h0.2.1, h0.2.2.1, ()), (), (), ())))
noncomputable def wire_put_ce : CE CT Tryz.prog where
  f := 189
  args := [.one (.ptr 0 0), .one (.sl 1)]
  hs := [.obj 180 [.bool, .bool, .own 1 1], .row 5 1]
  res := .tup []
  outs := [.obj 180 [.bool, .bool, .own 1 2], .dead, .row 5 1]
  m := fun d dh => wire_put d.2.1 dh.1
  ok := ce_ok mixedP Tryz.func189 (by kernel_rfl) (orcOf_ok wire_put_tb) (dr := wire_put_dr) (lps := lpsOf wire_put_lt) (lps_fn (no_loop (by kernel_rfl))) (fun d dh => by kernel_rfl)

def wire_number_dr : Nat → Nat → DrA
  | _, _ => ⟨[], [], [], [], [], false, []⟩
noncomputable def wire_number_tb : List (CE CT Tryz.prog) := [wire_put_ce]
noncomputable def wire_number_l1 (a : ((Unit) × (Int) × Unit) × (((Bool) × (Bool) × (List (UInt8)) × Unit) × (Unit) × Unit)) : Option ((((Unit) × (Int) × Unit) × (((Bool) × (Bool) × (List (UInt8)) × Unit) × (Unit) × Unit)) ⊕ ((((Unit) × (Int) × Unit) × (((Bool) × (Bool) × (List (UInt8)) × Unit) × (Unit) × (Unit) × Unit)))) :=
  (bif (decide ((127 : Int) < a.1.2.1)) then
  (b8 (IntKind.u8.wrap ((BitVec.ofInt (IntKind.u8.bits) (IntKind.u8.wrap a.1.2.1) ||| BitVec.ofInt (IntKind.u8.bits) 128).toNat))).bind fun u1 =>
  (wire_put ([u1] : List (UInt8)) (a.2.1.1, a.2.1.2.1, a.2.1.2.2.1, ())).bind fun r2 =>
  some (.inl (((), ((a.1.2.1 : Int).fdiv (2 ^ min (7 : Int).toNat (IntKind.i64.bits))), ()), ((r2.2.1.1, r2.2.1.2.1, r2.2.1.2.2.1, ()), (), ())))
  else
  some (.inr (((), a.1.2.1, ()), ((a.2.1.1, a.2.1.2.1, a.2.1.2.2.1, ()), (), (), ()))))
noncomputable def wire_number_e1 : LE CT Tryz.prog := ⟨2, [0, 1], [.one (.ptr 0 0), .one (.int .i64)], [.obj 180 [.bool, .bool, .own 1 1], .row 5 1], [⟨.exit 0, [0, 1], [.one (.ptr 0 0), .one (.int .i64)], [.obj 180 [.bool, .bool, .own 1 2], .dead, .row 5 1]⟩], wire_number_l1⟩
noncomputable def wire_number_lt : List (LE CT Tryz.prog) := [wire_number_e1]
theorem wire_number_e1_ok : LeOk wire_number_e1 (nthL (bodyOf Tryz.f163) 0) := fun A env h k z hk => le_ok (E := wire_number_e1) (orcOf_ok wire_number_tb) (dr := wire_number_dr) (lps := lpsOf wire_number_lt) (no_loop (by kernel_rfl)) (fun a => by kernel_rfl) env h k z hk
noncomputable def wire_number (x1 : Int) (h0 : (Bool) × (Bool) × (List (UInt8)) × Unit) : Option ((Unit) × (((Bool) × (Bool) × (List (UInt8)) × Unit) × (Unit) × (Unit) × Unit)) :=
  (bif (decide ((x1 : Int) < 0)) then
  some ((), ((h0.1, true, h0.2.2.1, ()), (), (), ()))
  else
  (bif (decide ((4611686018427387903 : Int) < x1)) then
  some ((), ((h0.1, true, h0.2.2.1, ()), (), (), ()))
  else
  (loopM wire_number_l1 (((), x1, ()), ((h0.1, h0.2.1, h0.2.2.1, ()), (), ()))).bind fun b1 =>
  (b8 (IntKind.u8.wrap b1.1.2.1)).bind fun u2 =>
  (wire_put ([u2] : List (UInt8)) (b1.2.1.1, b1.2.1.2.1, b1.2.1.2.2.1, ())).bind fun r3 =>
  some ((), ((r3.2.1.1, r3.2.1.2.1, r3.2.1.2.2.1, ()), (), (), ()))))
noncomputable def wire_number_ce : CE CT Tryz.prog where
  f := 163
  args := [.one (.ptr 0 0), .one (.int .i64)]
  hs := [.obj 180 [.bool, .bool, .own 1 1], .row 5 1]
  res := .tup []
  outs := [.obj 180 [.bool, .bool, .own 1 2], .dead, .row 5 1]
  m := fun d dh => wire_number d.2.1 dh.1
  ok := ce_ok mixedP Tryz.func163 (by kernel_rfl) (orcOf_ok wire_number_tb) (dr := wire_number_dr) (lps := lpsOf wire_number_lt) (lps_fn (lps_of (n := 1) (by kernel_rfl) fun i hi => match i, hi with | 0, _ => lp_ok (E := wire_number_e1) (by kernel_rfl) wire_number_e1_ok)) (fun d dh => by kernel_rfl)

def wire_Numbers_dr : Nat → Nat → DrA
  | _, _ => ⟨[], [], [], [], [], false, []⟩
noncomputable def wire_Numbers_tb : List (CE CT Tryz.prog) := [wire_known_ce, wire_number_ce]
noncomputable def wire_Numbers_l1 (a : ((Unit) × (List (Int)) × (Int) × (Int) × Unit) × (((Bool) × (Bool) × (List (UInt8)) × Unit) × (Unit) × Unit)) : Option ((((Unit) × (List (Int)) × (Int) × (Int) × Unit) × (((Bool) × (Bool) × (List (UInt8)) × Unit) × (Unit) × Unit)) ⊕ ((((Unit) × Unit) × (((Bool) × (Bool) × (List (UInt8)) × Unit) × (Unit) × (Unit) × Unit)))) :=
  (bif (decide ((a.1.2.2.2.1 : Int) < a.1.2.2.1)) then
  (getI a.1.2.1 a.1.2.2.2.1).bind fun e1 =>
  (wire_number e1 (a.2.1.1, a.2.1.2.1, a.2.1.2.2.1, ())).bind fun r2 =>
  some (.inl (((), a.1.2.1, a.1.2.2.1, (IntKind.i64.wrap (a.1.2.2.2.1 + 1)), ()), ((r2.2.1.1, r2.2.1.2.1, r2.2.1.2.2.1, ()), (), ())))
  else
  some (.inr (((), ()), ((a.2.1.1, a.2.1.2.1, a.2.1.2.2.1, ()), (), (), ()))))
noncomputable def wire_Numbers_e1 : LE CT Tryz.prog := ⟨3, [0, 9, 10, 11], [.one (.ptr 0 0), .one (.sl 0), .one (.int .i64), .one (.int .i64)], [.obj 180 [.bool, .bool, .own 1 1], .row 5 1], [⟨.exit 0, [0], [.one (.ptr 0 0)], [.obj 180 [.bool, .bool, .own 1 2], .dead, .row 5 1]⟩], wire_Numbers_l1⟩
noncomputable def wire_Numbers_lt : List (LE CT Tryz.prog) := [wire_Numbers_e1]
theorem wire_Numbers_e1_ok : LeOk wire_Numbers_e1 (nthL (bodyOf Tryz.f89) 0) := fun A env h k z hk => le_ok (E := wire_Numbers_e1) (orcOf_ok wire_Numbers_tb) (dr := wire_Numbers_dr) (lps := lpsOf wire_Numbers_lt) (no_loop (by kernel_rfl)) (fun a => by kernel_rfl) env h k z hk
noncomputable def wire_Numbers (x1 : List (Int)) (h0 : (Bool) × (Bool) × (List (UInt8)) × Unit) : Option ((Unit) × (((Bool) × (Bool) × (List (UInt8)) × Unit) × (Unit) × (Unit) × Unit)) :=
  (wire_known (h0.1, h0.2.1, h0.2.2.1, ())).bind fun r1 =>
  (bif r1.1 then
  (loopM wire_Numbers_l1 (((), x1, (x1.length : Int), 0, ()), ((r1.2.1.1, r1.2.1.2.1, r1.2.1.2.2.1, ()), (), ()))).bind fun b2 =>
  some ((), ((b2.2.1.1, b2.2.1.2.1, b2.2.1.2.2.1, ()), (), (), ()))
  else
  some ((), ((r1.2.1.1, r1.2.1.2.1, r1.2.1.2.2.1, ()), (), (), ())))
noncomputable def wire_Numbers_ce : CE CT Tryz.prog where
  f := 89
  args := [.one (.ptr 0 0), .one (.sl 0)]
  hs := [.obj 180 [.bool, .bool, .own 1 1], .row 5 1]
  res := .val (.one (.ptr 0 0))
  outs := [.obj 180 [.bool, .bool, .own 1 2], .dead, .row 5 1]
  m := fun d dh => wire_Numbers d.2.1 dh.1
  ok := ce_ok mixedP Tryz.func89 (by kernel_rfl) (orcOf_ok wire_Numbers_tb) (dr := wire_Numbers_dr) (lps := lpsOf wire_Numbers_lt) (lps_fn (lps_of (n := 1) (by kernel_rfl) fun i hi => match i, hi with | 0, _ => lp_ok (E := wire_Numbers_e1) (by kernel_rfl) wire_Numbers_e1_ok)) (fun d dh => by kernel_rfl)

def wire_Rows_dr : Nat → Nat → DrA
  | _, _ => ⟨[], [], [], [], [], false, []⟩
noncomputable def wire_Rows_tb : List (CE CT Tryz.prog) := [wire_known_ce, wire_number_ce, wire_put_ce]
noncomputable def wire_Rows_l1 (a : ((Unit) × (List (List (UInt8))) × (Int) × (Int) × Unit) × (((Bool) × (Bool) × (List (UInt8)) × Unit) × (Unit) × Unit)) : Option ((((Unit) × (List (List (UInt8))) × (Int) × (Int) × Unit) × (((Bool) × (Bool) × (List (UInt8)) × Unit) × (Unit) × Unit)) ⊕ ((((Unit) × Unit) × (((Bool) × (Bool) × (List (UInt8)) × Unit) × (Unit) × (Unit) × Unit)))) :=
  (bif (decide ((a.1.2.2.2.1 : Int) < a.1.2.2.1)) then
  (getI a.1.2.1 a.1.2.2.2.1).bind fun e1 =>
  (wire_number (e1.length : Int) (a.2.1.1, a.2.1.2.1, a.2.1.2.2.1, ())).bind fun r2 =>
  (wire_put e1 (r2.2.1.1, r2.2.1.2.1, r2.2.1.2.2.1, ())).bind fun r3 =>
  some (.inl (((), a.1.2.1, a.1.2.2.1, (IntKind.i64.wrap (a.1.2.2.2.1 + 1)), ()), ((r3.2.1.1, r3.2.1.2.1, r3.2.1.2.2.1, ()), (), ())))
  else
  some (.inr (((), ()), ((a.2.1.1, a.2.1.2.1, a.2.1.2.2.1, ()), (), (), ()))))
noncomputable def wire_Rows_e1 : LE CT Tryz.prog := ⟨3, [0, 9, 10, 11], [.one (.ptr 0 0), .one (.sl 23), .one (.int .i64), .one (.int .i64)], [.obj 180 [.bool, .bool, .own 1 1], .row 5 1], [⟨.exit 0, [0], [.one (.ptr 0 0)], [.obj 180 [.bool, .bool, .own 1 2], .dead, .row 5 1]⟩], wire_Rows_l1⟩
noncomputable def wire_Rows_lt : List (LE CT Tryz.prog) := [wire_Rows_e1]
theorem wire_Rows_e1_ok : LeOk wire_Rows_e1 (nthL (bodyOf Tryz.f188) 0) := fun A env h k z hk => le_ok (E := wire_Rows_e1) (orcOf_ok wire_Rows_tb) (dr := wire_Rows_dr) (lps := lpsOf wire_Rows_lt) (no_loop (by kernel_rfl)) (fun a => by kernel_rfl) env h k z hk
noncomputable def wire_Rows (x1 : List (List (UInt8))) (h0 : (Bool) × (Bool) × (List (UInt8)) × Unit) : Option ((Unit) × (((Bool) × (Bool) × (List (UInt8)) × Unit) × (Unit) × (Unit) × Unit)) :=
  (wire_known (h0.1, h0.2.1, h0.2.2.1, ())).bind fun r1 =>
  (bif r1.1 then
  (loopM wire_Rows_l1 (((), x1, (x1.length : Int), 0, ()), ((r1.2.1.1, r1.2.1.2.1, r1.2.1.2.2.1, ()), (), ()))).bind fun b2 =>
  some ((), ((b2.2.1.1, b2.2.1.2.1, b2.2.1.2.2.1, ()), (), (), ()))
  else
  some ((), ((r1.2.1.1, r1.2.1.2.1, r1.2.1.2.2.1, ()), (), (), ())))
noncomputable def wire_Rows_ce : CE CT Tryz.prog where
  f := 188
  args := [.one (.ptr 0 0), .one (.sl 23)]
  hs := [.obj 180 [.bool, .bool, .own 1 1], .row 5 1]
  res := .val (.one (.ptr 0 0))
  outs := [.obj 180 [.bool, .bool, .own 1 2], .dead, .row 5 1]
  m := fun d dh => wire_Rows d.2.1 dh.1
  ok := ce_ok mixedP Tryz.func188 (by kernel_rfl) (orcOf_ok wire_Rows_tb) (dr := wire_Rows_dr) (lps := lpsOf wire_Rows_lt) (lps_fn (lps_of (n := 1) (by kernel_rfl) fun i hi => match i, hi with | 0, _ => lp_ok (E := wire_Rows_e1) (by kernel_rfl) wire_Rows_e1_ok)) (fun d dh => by kernel_rfl)

def wire_Texts_dr : Nat → Nat → DrA
  | _, _ => ⟨[], [], [], [], [], false, []⟩
noncomputable def wire_Texts_tb : List (CE CT Tryz.prog) := [wire_known_ce, wire_Rows_ce]
noncomputable def wire_Texts_l1 (a : ((Unit) × (List (List UInt8)) × (Int) × (Int) × Unit) × (((Bool) × (Bool) × (List (UInt8)) × Unit) × (Unit) × Unit)) : Option ((((Unit) × (List (List UInt8)) × (Int) × (Int) × Unit) × (((Bool) × (Bool) × (List (UInt8)) × Unit) × (Unit) × Unit)) ⊕ ((((Unit) × Unit) × (((Bool) × (Bool) × (List (UInt8)) × Unit) × (Unit) × (Unit) × Unit)))) :=
  (bif (decide ((a.1.2.2.2.1 : Int) < a.1.2.2.1)) then
  (getI a.1.2.1 a.1.2.2.2.1).bind fun e1 =>
  (if e1.length ≤ 140737488355328 then
  (wire_Rows ([e1] : List (List (UInt8))) (a.2.1.1, a.2.1.2.1, a.2.1.2.2.1, ())).bind fun r2 =>
  some (.inl (((), a.1.2.1, a.1.2.2.1, (IntKind.i64.wrap (a.1.2.2.2.1 + 1)), ()), ((r2.2.1.1, r2.2.1.2.1, r2.2.1.2.2.1, ()), (), ())))
  else none)
  else
  some (.inr (((), ()), ((a.2.1.1, a.2.1.2.1, a.2.1.2.2.1, ()), (), (), ()))))
noncomputable def wire_Texts_e1 : LE CT Tryz.prog := ⟨3, [0, 9, 10, 11], [.one (.ptr 0 0), .one (.sl 2), .one (.int .i64), .one (.int .i64)], [.obj 180 [.bool, .bool, .own 1 1], .row 5 1], [⟨.exit 0, [0], [.one (.ptr 0 0)], [.obj 180 [.bool, .bool, .own 1 2], .dead, .row 5 1]⟩], wire_Texts_l1⟩
noncomputable def wire_Texts_lt : List (LE CT Tryz.prog) := [wire_Texts_e1]
theorem wire_Texts_e1_ok : LeOk wire_Texts_e1 (nthL (bodyOf Tryz.f105) 0) := fun A env h k z hk => le_ok (E := wire_Texts_e1) (orcOf_ok wire_Texts_tb) (dr := wire_Texts_dr) (lps := lpsOf wire_Texts_lt) (no_loop (by kernel_rfl)) (fun a => by kernel_rfl) env h k z hk
noncomputable def wire_Texts (x1 : List (List UInt8)) (h0 : (Bool) × (Bool) × (List (UInt8)) × Unit) : Option ((Unit) × (((Bool) × (Bool) × (List (UInt8)) × Unit) × (Unit) × (Unit) × Unit)) :=
  (wire_known (h0.1, h0.2.1, h0.2.2.1, ())).bind fun r1 =>
  (bif r1.1 then
  (loopM wire_Texts_l1 (((), x1, (x1.length : Int), 0, ()), ((r1.2.1.1, r1.2.1.2.1, r1.2.1.2.2.1, ()), (), ()))).bind fun b2 =>
  some ((), ((b2.2.1.1, b2.2.1.2.1, b2.2.1.2.2.1, ()), (), (), ()))
  else
  some ((), ((r1.2.1.1, r1.2.1.2.1, r1.2.1.2.2.1, ()), (), (), ())))
noncomputable def wire_Texts_ce : CE CT Tryz.prog where
  f := 105
  args := [.one (.ptr 0 0), .one (.sl 2)]
  hs := [.obj 180 [.bool, .bool, .own 1 1], .row 5 1]
  res := .val (.one (.ptr 0 0))
  outs := [.obj 180 [.bool, .bool, .own 1 2], .dead, .row 5 1]
  m := fun d dh => wire_Texts d.2.1 dh.1
  ok := ce_ok mixedP Tryz.func105 (by kernel_rfl) (orcOf_ok wire_Texts_tb) (dr := wire_Texts_dr) (lps := lpsOf wire_Texts_lt) (lps_fn (lps_of (n := 1) (by kernel_rfl) fun i hi => match i, hi with | 0, _ => lp_ok (E := wire_Texts_e1) (by kernel_rfl) wire_Texts_e1_ok)) (fun d dh => by kernel_rfl)

def wire_Numbers_2_dr : Nat → Nat → DrA
  | _, _ => ⟨[], [], [], [], [], false, []⟩
noncomputable def wire_Numbers_2_tb : List (CE CT Tryz.prog) := [wire_known_ce, wire_number_ce]
noncomputable def wire_Numbers_2_l1 (a : ((Unit) × (Nat × Nat × Nat) × (Int) × (Int) × Unit) × (((Bool) × (Bool) × (List (UInt8)) × Unit) × (List (Int)) × (Unit) × Unit)) : Option ((((Unit) × (Nat × Nat × Nat) × (Int) × (Int) × Unit) × (((Bool) × (Bool) × (List (UInt8)) × Unit) × (List (Int)) × (Unit) × Unit)) ⊕ ((((Unit) × Unit) × (((Bool) × (Bool) × (List (UInt8)) × Unit) × (List (Int)) × (Unit) × (Unit) × Unit)))) :=
  (bif (decide ((a.1.2.2.2.1 : Int) < a.1.2.2.1)) then
  (if 0 ≤ (a.1.2.2.2.1 : Int) ∧ (a.1.2.2.2.1 : Int) < ((a.1.2.1.2.1 : Nat) : Int) then
  (a.2.2.1[(a.1.2.1.1 + (a.1.2.2.2.1 : Int).toNat)]?).bind fun e1 =>
  (wire_number e1 (a.2.1.1, a.2.1.2.1, a.2.1.2.2.1, ())).bind fun r2 =>
  some (.inl (((), (a.1.2.1.1, a.1.2.1.2.1, a.1.2.1.2.2), a.1.2.2.1, (IntKind.i64.wrap (a.1.2.2.2.1 + 1)), ()), ((r2.2.1.1, r2.2.1.2.1, r2.2.1.2.2.1, ()), a.2.2.1, (), ())))
  else none)
  else
  some (.inr (((), ()), ((a.2.1.1, a.2.1.2.1, a.2.1.2.2.1, ()), a.2.2.1, (), (), ()))))
noncomputable def wire_Numbers_2_e1 : LE CT Tryz.prog := ⟨3, [0, 9, 10, 11], [.one (.ptr 0 0), .one (.as 0 1), .one (.int .i64), .one (.int .i64)], [.obj 180 [.bool, .bool, .own 1 2], .arr 3 0 true, .row 5 1], [⟨.exit 0, [0], [.one (.ptr 0 0)], [.obj 180 [.bool, .bool, .own 1 3], .arr 3 0 true, .dead, .row 5 1]⟩], wire_Numbers_2_l1⟩
noncomputable def wire_Numbers_2_lt : List (LE CT Tryz.prog) := [wire_Numbers_2_e1]
theorem wire_Numbers_2_e1_ok : LeOk wire_Numbers_2_e1 (nthL (bodyOf Tryz.f89) 0) := fun A env h k z hk => le_ok (E := wire_Numbers_2_e1) (orcOf_ok wire_Numbers_2_tb) (dr := wire_Numbers_2_dr) (lps := lpsOf wire_Numbers_2_lt) (no_loop (by kernel_rfl)) (fun a => by kernel_rfl) env h k z hk
noncomputable def wire_Numbers_2 (x1 : Nat × Nat × Nat) (h0 : (Bool) × (Bool) × (List (UInt8)) × Unit) (h1 : List (Int)) : Option ((Unit) × (((Bool) × (Bool) × (List (UInt8)) × Unit) × (List (Int)) × (Unit) × (Unit) × Unit)) :=
  (wire_known (h0.1, h0.2.1, h0.2.2.1, ())).bind fun r1 =>
  (bif r1.1 then
  (loopM wire_Numbers_2_l1 (((), (x1.1, x1.2.1, x1.2.2), ((x1.2.1 : Nat) : Int), 0, ()), ((r1.2.1.1, r1.2.1.2.1, r1.2.1.2.2.1, ()), h1, (), ()))).bind fun b2 =>
  some ((), ((b2.2.1.1, b2.2.1.2.1, b2.2.1.2.2.1, ()), b2.2.2.1, (), (), ()))
  else
  some ((), ((r1.2.1.1, r1.2.1.2.1, r1.2.1.2.2.1, ()), h1, (), (), ())))
noncomputable def wire_Numbers_2_ce : CE CT Tryz.prog where
  f := 89
  args := [.one (.ptr 0 0), .one (.as 0 1)]
  hs := [.obj 180 [.bool, .bool, .own 1 2], .arr 3 0 true, .row 5 1]
  res := .val (.one (.ptr 0 0))
  outs := [.obj 180 [.bool, .bool, .own 1 3], .arr 3 0 true, .dead, .row 5 1]
  m := fun d dh => wire_Numbers_2 d.2.1 dh.1 dh.2.1
  ok := ce_ok mixedP Tryz.func89 (by kernel_rfl) (orcOf_ok wire_Numbers_2_tb) (dr := wire_Numbers_2_dr) (lps := lpsOf wire_Numbers_2_lt) (lps_fn (lps_of (n := 1) (by kernel_rfl) fun i hi => match i, hi with | 0, _ => lp_ok (E := wire_Numbers_2_e1) (by kernel_rfl) wire_Numbers_2_e1_ok)) (fun d dh => by kernel_rfl)

def wire_Flags_dr : Nat → Nat → DrA
  | _, _ => ⟨[], [], [], [], [], false, []⟩
noncomputable def wire_Flags_tb : List (CE CT Tryz.prog) := [wire_known_ce, wire_put_ce]
noncomputable def wire_Flags_l1 (a : ((Unit) × (List (Bool)) × (Int) × (Int) × Unit) × (((Bool) × (Bool) × (List (UInt8)) × Unit) × (Unit) × Unit)) : Option ((((Unit) × (List (Bool)) × (Int) × (Int) × Unit) × (((Bool) × (Bool) × (List (UInt8)) × Unit) × (Unit) × Unit)) ⊕ ((((Unit) × Unit) × (((Bool) × (Bool) × (List (UInt8)) × Unit) × (Unit) × (Unit) × Unit)))) :=
  (bif (decide ((a.1.2.2.2.1 : Int) < a.1.2.2.1)) then
  (getI a.1.2.1 a.1.2.2.2.1).bind fun e1 =>
  (bif e1 then
  (b8 1).bind fun u2 =>
  (wire_put ([u2] : List (UInt8)) (a.2.1.1, a.2.1.2.1, a.2.1.2.2.1, ())).bind fun r3 =>
  some (.inl (((), a.1.2.1, a.1.2.2.1, (IntKind.i64.wrap (a.1.2.2.2.1 + 1)), ()), ((r3.2.1.1, r3.2.1.2.1, r3.2.1.2.2.1, ()), (), ())))
  else
  (b8 0).bind fun u4 =>
  (wire_put ([u4] : List (UInt8)) (a.2.1.1, a.2.1.2.1, a.2.1.2.2.1, ())).bind fun r5 =>
  some (.inl (((), a.1.2.1, a.1.2.2.1, (IntKind.i64.wrap (a.1.2.2.2.1 + 1)), ()), ((r5.2.1.1, r5.2.1.2.1, r5.2.1.2.2.1, ()), (), ()))))
  else
  some (.inr (((), ()), ((a.2.1.1, a.2.1.2.1, a.2.1.2.2.1, ()), (), (), ()))))
noncomputable def wire_Flags_e1 : LE CT Tryz.prog := ⟨3, [0, 9, 10, 11], [.one (.ptr 0 0), .one (.sl 9), .one (.int .i64), .one (.int .i64)], [.obj 180 [.bool, .bool, .own 1 1], .row 5 1], [⟨.exit 0, [0], [.one (.ptr 0 0)], [.obj 180 [.bool, .bool, .own 1 2], .dead, .row 5 1]⟩], wire_Flags_l1⟩
noncomputable def wire_Flags_lt : List (LE CT Tryz.prog) := [wire_Flags_e1]
theorem wire_Flags_e1_ok : LeOk wire_Flags_e1 (nthL (bodyOf Tryz.f106) 0) := fun A env h k z hk => le_ok (E := wire_Flags_e1) (orcOf_ok wire_Flags_tb) (dr := wire_Flags_dr) (lps := lpsOf wire_Flags_lt) (no_loop (by kernel_rfl)) (fun a => by kernel_rfl) env h k z hk
noncomputable def wire_Flags (x1 : List (Bool)) (h0 : (Bool) × (Bool) × (List (UInt8)) × Unit) : Option ((Unit) × (((Bool) × (Bool) × (List (UInt8)) × Unit) × (Unit) × (Unit) × Unit)) :=
  (wire_known (h0.1, h0.2.1, h0.2.2.1, ())).bind fun r1 =>
  (bif r1.1 then
  (loopM wire_Flags_l1 (((), x1, (x1.length : Int), 0, ()), ((r1.2.1.1, r1.2.1.2.1, r1.2.1.2.2.1, ()), (), ()))).bind fun b2 =>
  some ((), ((b2.2.1.1, b2.2.1.2.1, b2.2.1.2.2.1, ()), (), (), ()))
  else
  some ((), ((r1.2.1.1, r1.2.1.2.1, r1.2.1.2.2.1, ()), (), (), ())))
noncomputable def wire_Flags_ce : CE CT Tryz.prog where
  f := 106
  args := [.one (.ptr 0 0), .one (.sl 9)]
  hs := [.obj 180 [.bool, .bool, .own 1 1], .row 5 1]
  res := .val (.one (.ptr 0 0))
  outs := [.obj 180 [.bool, .bool, .own 1 2], .dead, .row 5 1]
  m := fun d dh => wire_Flags d.2.1 dh.1
  ok := ce_ok mixedP Tryz.func106 (by kernel_rfl) (orcOf_ok wire_Flags_tb) (dr := wire_Flags_dr) (lps := lpsOf wire_Flags_lt) (lps_fn (lps_of (n := 1) (by kernel_rfl) fun i hi => match i, hi with | 0, _ => lp_ok (E := wire_Flags_e1) (by kernel_rfl) wire_Flags_e1_ok)) (fun d dh => by kernel_rfl)

def wire_Texts_2_dr : Nat → Nat → DrA
  | _, _ => ⟨[], [], [], [], [], false, []⟩
noncomputable def wire_Texts_2_tb : List (CE CT Tryz.prog) := [wire_known_ce, wire_Rows_ce]
noncomputable def wire_Texts_2_l1 (a : ((Unit) × (Nat × Nat × Nat) × (Int) × (Int) × Unit) × (((Bool) × (Bool) × (List (UInt8)) × Unit) × (List (List UInt8)) × (Unit) × Unit)) : Option ((((Unit) × (Nat × Nat × Nat) × (Int) × (Int) × Unit) × (((Bool) × (Bool) × (List (UInt8)) × Unit) × (List (List UInt8)) × (Unit) × Unit)) ⊕ ((((Unit) × Unit) × (((Bool) × (Bool) × (List (UInt8)) × Unit) × (List (List UInt8)) × (Unit) × (Unit) × Unit)))) :=
  (bif (decide ((a.1.2.2.2.1 : Int) < a.1.2.2.1)) then
  (if 0 ≤ (a.1.2.2.2.1 : Int) ∧ (a.1.2.2.2.1 : Int) < ((a.1.2.1.2.1 : Nat) : Int) then
  (a.2.2.1[(a.1.2.1.1 + (a.1.2.2.2.1 : Int).toNat)]?).bind fun e1 =>
  (if e1.length ≤ 140737488355328 then
  (wire_Rows ([e1] : List (List (UInt8))) (a.2.1.1, a.2.1.2.1, a.2.1.2.2.1, ())).bind fun r2 =>
  some (.inl (((), (a.1.2.1.1, a.1.2.1.2.1, a.1.2.1.2.2), a.1.2.2.1, (IntKind.i64.wrap (a.1.2.2.2.1 + 1)), ()), ((r2.2.1.1, r2.2.1.2.1, r2.2.1.2.2.1, ()), a.2.2.1, (), ())))
  else none)
  else none)
  else
  some (.inr (((), ()), ((a.2.1.1, a.2.1.2.1, a.2.1.2.2.1, ()), a.2.2.1, (), (), ()))))
noncomputable def wire_Texts_2_e1 : LE CT Tryz.prog := ⟨3, [0, 9, 10, 11], [.one (.ptr 0 0), .one (.as 2 1), .one (.int .i64), .one (.int .i64)], [.obj 180 [.bool, .bool, .own 1 2], .arr 9 2 true, .row 5 1], [⟨.exit 0, [0], [.one (.ptr 0 0)], [.obj 180 [.bool, .bool, .own 1 3], .arr 9 2 true, .dead, .row 5 1]⟩], wire_Texts_2_l1⟩
noncomputable def wire_Texts_2_lt : List (LE CT Tryz.prog) := [wire_Texts_2_e1]
theorem wire_Texts_2_e1_ok : LeOk wire_Texts_2_e1 (nthL (bodyOf Tryz.f105) 0) := fun A env h k z hk => le_ok (E := wire_Texts_2_e1) (orcOf_ok wire_Texts_2_tb) (dr := wire_Texts_2_dr) (lps := lpsOf wire_Texts_2_lt) (no_loop (by kernel_rfl)) (fun a => by kernel_rfl) env h k z hk
noncomputable def wire_Texts_2 (x1 : Nat × Nat × Nat) (h0 : (Bool) × (Bool) × (List (UInt8)) × Unit) (h1 : List (List UInt8)) : Option ((Unit) × (((Bool) × (Bool) × (List (UInt8)) × Unit) × (List (List UInt8)) × (Unit) × (Unit) × Unit)) :=
  (wire_known (h0.1, h0.2.1, h0.2.2.1, ())).bind fun r1 =>
  (bif r1.1 then
  (loopM wire_Texts_2_l1 (((), (x1.1, x1.2.1, x1.2.2), ((x1.2.1 : Nat) : Int), 0, ()), ((r1.2.1.1, r1.2.1.2.1, r1.2.1.2.2.1, ()), h1, (), ()))).bind fun b2 =>
  some ((), ((b2.2.1.1, b2.2.1.2.1, b2.2.1.2.2.1, ()), b2.2.2.1, (), (), ()))
  else
  some ((), ((r1.2.1.1, r1.2.1.2.1, r1.2.1.2.2.1, ()), h1, (), (), ())))
noncomputable def wire_Texts_2_ce : CE CT Tryz.prog where
  f := 105
  args := [.one (.ptr 0 0), .one (.as 2 1)]
  hs := [.obj 180 [.bool, .bool, .own 1 2], .arr 9 2 true, .row 5 1]
  res := .val (.one (.ptr 0 0))
  outs := [.obj 180 [.bool, .bool, .own 1 3], .arr 9 2 true, .dead, .row 5 1]
  m := fun d dh => wire_Texts_2 d.2.1 dh.1 dh.2.1
  ok := ce_ok mixedP Tryz.func105 (by kernel_rfl) (orcOf_ok wire_Texts_2_tb) (dr := wire_Texts_2_dr) (lps := lpsOf wire_Texts_2_lt) (lps_fn (lps_of (n := 1) (by kernel_rfl) fun i hi => match i, hi with | 0, _ => lp_ok (E := wire_Texts_2_e1) (by kernel_rfl) wire_Texts_2_e1_ok)) (fun d dh => by kernel_rfl)

def scheme_Write_dr : Nat → Nat → DrA
  | 1, _ => ⟨[0, 1, 5, 6, 8, 9, 13, 15, 17, 19, 21, 2, 7, 10, 14, 16, 18, 20, 22, 23, 3, 4, 11, 12, 24, 25, 26], [[], [], [1], [1, 2], [0, 1, 2, 3], [], [5], [5, 6], [], [8], [8, 9], [5, 6, 7, 8, 9, 10], [0, 1, 2, 3, 4, 5, 6, 7, 8, 9, 10, 11], [], [13], [], [15], [], [17], [], [19], [], [21], [21, 22], [13, 14, 15, 16, 17, 18, 19, 20, 21, 22, 23], [0, 1, 2, 3, 4, 5, 6, 7, 8, 9, 10, 11, 12, 13, 14, 15, 16, 17, 18, 19, 20, 21, 22, 23, 24], [0, 1, 2, 3, 4, 5, 6, 7, 8, 9, 10, 11, 12, 13, 14, 15, 16, 17, 18, 19, 20, 21, 22, 23, 24, 25]], [7, 10, 14, 16, 18, 20, 22], [4, 12], [2], false, [11, 24]⟩
  | _, _ => ⟨[], [], [], [], [], false, []⟩
noncomputable def scheme_Write_tb : List (CE CT Tryz.prog) := [wire_Numbers_ce, wire_Texts_2_ce, wire_Numbers_2_ce]
noncomputable def scheme_Write_lt : List (LE CT Tryz.prog) := []
noncomputable def scheme_Write (x1 : DScheme) (h0 : (Bool) × (Bool) × (List (UInt8)) × Unit) : Option ((Unit) × (((Bool) × (Bool) × (List (UInt8)) × Unit) × (Unit) × (Unit) × Unit)) :=
  (wire_Numbers ([x1.num] : List (Int)) (h0.1, h0.2.1, h0.2.2.1, ())).bind fun r1 =>
  (wire_Texts_2 (0, 2, 2) (r1.2.1.1, r1.2.1.2.1, r1.2.1.2.2.1, ()) ([x1.span.lo, x1.span.hi] : List (List UInt8))).bind fun r2 =>
  (wire_Numbers_2 (0, 5, 5) (r2.2.1.1, r2.2.1.2.1, r2.2.1.2.2.1, ()) ([x1.from_, x1.to_, x1.epoch, x1.under, (IntKind.i64.wrap x1.stage)] : List (Int))).bind fun r3 =>
  some ((), ((r3.2.1.1, r3.2.1.2.1, r3.2.1.2.2.1, ()), (), (), ()))
noncomputable def scheme_Write_ce : CE CT Tryz.prog where
  f := 107
  args := [.one (.ptr 0 0), .cod 20]
  hs := [.obj 180 [.bool, .bool, .own 1 1], .row 5 1]
  res := .val (.one (.ptr 0 0))
  outs := [.obj 180 [.bool, .bool, .own 1 2], .dead, .row 5 1]
  m := fun d dh => scheme_Write d.2.1 dh.1
  ok := ce_ok mixedP Tryz.func107 (by kernel_rfl) (orcOf_ok scheme_Write_tb) (dr := scheme_Write_dr) (lps := lpsOf scheme_Write_lt) (lps_fn (no_loop (by kernel_rfl))) (fun d dh => by kernel_rfl)

def registry_write_dr : Nat → Nat → DrA
  | 5, _ => ⟨[0, 1, 2, 4, 5, 9, 11, 3, 6, 10, 12, 7, 8, 13, 14], [[], [], [1], [1, 2], [], [4], [4, 5], [1, 2, 3, 4, 5, 6], [0, 1, 2, 3, 4, 5, 6, 7], [], [9], [], [11], [9, 10, 11, 12], [0, 1, 2, 3, 4, 5, 6, 7, 8, 9, 10, 11, 12, 13]], [10, 12], [8], [3], false, [13]⟩
  | _, _ => ⟨[], [], [], [], [], false, []⟩
noncomputable def registry_write_tb : List (CE CT Tryz.prog) := [wire_Numbers_ce, wire_Texts_ce, wire_Numbers_2_ce, wire_Flags_ce, scheme_Write_ce]
noncomputable def registry_write_l1 (a : ((Unit) × (Unit) × (List (DShare)) × (Int) × (Int) × Unit) × (((Bool) × (Bool) × (List (UInt8)) × Unit) × (DPlan) × (Unit) × Unit)) : Option ((((Unit) × (Unit) × (List (DShare)) × (Int) × (Int) × Unit) × (((Bool) × (Bool) × (List (UInt8)) × Unit) × (DPlan) × (Unit) × Unit)) ⊕ ((((Unit) × (Unit) × Unit) × (((Bool) × (Bool) × (List (UInt8)) × Unit) × (DPlan) × (Unit) × (Unit) × Unit)))) :=
  (bif (decide ((a.1.2.2.2.2.1 : Int) < a.1.2.2.2.1)) then
  (getI a.1.2.2.1 a.1.2.2.2.2.1).bind fun e1 =>
  (wire_Texts ([e1.span.lo, e1.span.hi] : List (List UInt8)) (a.2.1.1, a.2.1.2.1, a.2.1.2.2.1, ())).bind fun r2 =>
  (wire_Numbers_2 (0, 2, 2) (r2.2.1.1, r2.2.1.2.1, r2.2.1.2.2.1, ()) ([e1.group, e1.epoch] : List (Int))).bind fun r3 =>
  some (.inl (((), (), a.1.2.2.1, a.1.2.2.2.1, (IntKind.i64.wrap (a.1.2.2.2.2.1 + 1)), ()), ((r3.2.1.1, r3.2.1.2.1, r3.2.1.2.2.1, ()), a.2.2.1, (), ())))
  else
  some (.inr (((), (), ()), ((a.2.1.1, a.2.1.2.1, a.2.1.2.2.1, ()), a.2.2.1, (), (), ()))))
noncomputable def registry_write_e1 : LE CT Tryz.prog := ⟨3, [1, 2, 19, 20, 21], [.one (.ptr 0 0), .one (.ptr 1 0), .one (.sl 5), .one (.int .i64), .one (.int .i64)], [.obj 180 [.bool, .bool, .own 1 2], .cobj 107 21, .row 5 1], [⟨.exit 0, [1, 2], [.one (.ptr 0 0), .one (.ptr 1 0)], [.obj 180 [.bool, .bool, .own 1 3], .cobj 107 21, .dead, .row 5 1]⟩], registry_write_l1⟩
noncomputable def registry_write_lt : List (LE CT Tryz.prog) := [registry_write_e1]
theorem registry_write_e1_ok : LeOk registry_write_e1 (nthL (bodyOf Tryz.f56) 0) := fun A env h k z hk => le_ok (E := registry_write_e1) (orcOf_ok registry_write_tb) (dr := registry_write_dr) (lps := lpsOf registry_write_lt) (no_loop (by kernel_rfl)) (fun a => by kernel_rfl) env h k z hk
noncomputable def registry_write (x0 : DPlan) (h0 : (Bool) × (Bool) × (List (UInt8)) × Unit) : Option ((Unit) × (((Bool) × (Bool) × (List (UInt8)) × Unit) × (Unit) × (Unit) × Unit)) :=
  (wire_Numbers ([x0.shares.epoch, (x0.shares.list.length : Int)] : List (Int)) (h0.1, h0.2.1, h0.2.2.1, ())).bind fun r1 =>
  (loopM registry_write_l1 (((), (), x0.shares.list, (x0.shares.list.length : Int), 0, ()), ((r1.2.1.1, r1.2.1.2.1, r1.2.1.2.2.1, ()), x0, (), ()))).bind fun b2 =>
  (wire_Flags ([b2.2.2.1.under] : List (Bool)) (b2.2.1.1, b2.2.1.2.1, b2.2.1.2.2.1, ())).bind fun r3 =>
  (bif b2.2.2.1.under then
  (scheme_Write b2.2.2.1.x (r3.2.1.1, r3.2.1.2.1, r3.2.1.2.2.1, ())).bind fun r4 =>
  some ((), ((r4.2.1.1, r4.2.1.2.1, r4.2.1.2.2.1, ()), (), (), ()))
  else
  some ((), ((r3.2.1.1, r3.2.1.2.1, r3.2.1.2.2.1, ()), (), (), ())))
noncomputable def registry_write_ce : CE CT Tryz.prog where
  f := 56
  args := [.cod 21, .one (.ptr 0 0)]
  hs := [.obj 180 [.bool, .bool, .own 1 1], .row 5 1]
  res := .val (.one (.ptr 0 0))
  outs := [.obj 180 [.bool, .bool, .own 1 2], .dead, .row 5 1]
  m := fun d dh => registry_write d.1 dh.1
  ok := ce_ok mixedP Tryz.func56 (by kernel_rfl) (orcOf_ok registry_write_tb) (dr := registry_write_dr) (lps := lpsOf registry_write_lt) (lps_fn (lps_of (n := 1) (by kernel_rfl) fun i hi => match i, hi with | 0, _ => lp_ok (E := registry_write_e1) (by kernel_rfl) registry_write_e1_ok)) (fun d dh => by kernel_rfl)

noncomputable def clone81 (x : List (UInt8)) : Option ((List (UInt8)) × (Unit × Unit)) :=
  if x.length ≤ 140737488355328 ∧ x.length * 1 ≤ 140737488355328 then some (x, ((), ())) else none
noncomputable def clone81_ce : CE CT Tryz.prog where
  f := 81
  args := [.one (.sl 1)]
  hs := []
  res := .val (.one (.own 1 0))
  outs := [.row 5 1]
  m := fun d dh => clone81 d.1
  ok := fun d dh r hr => by
    unfold clone81 at hr
    split at hr
    · rename_i hroom
      injection hr with hr
      subst hr
      exact clone_tr mixedP Tryz.func81 (by kernel_rfl) rfl rfl (zv := .int .u8 0) (he := by kernel_rfl) (hsz := by kernel_rfl) (hz := by kernel_rfl) (hby := by kernel_rfl) rfl rfl d.1 hroom
    · cases hr

def wire_Done_dr : Nat → Nat → DrA
  | _, _ => ⟨[], [], [], [], [], false, []⟩
noncomputable def wire_Done_tb : List (CE CT Tryz.prog) := [wire_known_ce, clone81_ce]
noncomputable def wire_Done_lt : List (LE CT Tryz.prog) := []
noncomputable def wire_Done (h0 : (Bool) × (Bool) × (List (UInt8)) × Unit) : Option (((List (UInt8)) × (Int) × Unit) × (((Bool) × (Bool) × (List (UInt8)) × Unit) × (Unit) × (Unit) × (Unit) × Unit)) :=
  (wire_known (h0.1, h0.2.1, h0.2.2.1, ())).bind fun r1 =>
  (bif (!r1.1) then
  some (([], 1, ()), ((r1.2.1.1, r1.2.1.2.1, r1.2.1.2.2.1, ()), (), (), (), ()))
  else
  (bif r1.2.1.2.1 then
  some (([], 2, ()), ((r1.2.1.1, r1.2.1.2.1, r1.2.1.2.2.1, ()), (), (), (), ()))
  else
  (clone81 r1.2.1.2.2.1).bind fun r2 =>
  some ((r2.1, 0, ()), ((r1.2.1.1, r1.2.1.2.1, r1.2.1.2.2.1, ()), (), (), (), ()))))
noncomputable def wire_Done_ce : CE CT Tryz.prog where
  f := 41
  args := [.one (.ptr 0 0)]
  hs := [.obj 180 [.bool, .bool, .own 1 1], .row 5 1]
  res := .tup [.one (.own 1 2), .one (.int .i64)]
  outs := [.obj 180 [.bool, .bool, .own 1 3], .dead, .row 5 1, .row 5 1]
  m := fun d dh => wire_Done dh.1
  ok := ce_ok mixedP Tryz.func41 (by kernel_rfl) (orcOf_ok wire_Done_tb) (dr := wire_Done_dr) (lps := lpsOf wire_Done_lt) (lps_fn (no_loop (by kernel_rfl))) (fun d dh => by kernel_rfl)

def registry_View_dr : Nat → Nat → DrA
  | 3, _ => ⟨[0, 1, 2, 3, 4, 5, 6, 7, 8, 9, 10, 11], [[], [0], [0, 1], [0, 1, 2], [], [0, 1, 2, 3, 4], [0, 1, 2, 3, 4, 5], [0, 1, 2, 3, 4, 5, 6], [0, 1, 2, 3, 4, 5, 6, 7], [0, 1, 2, 3, 4, 5, 6, 7], [0, 1, 2, 3, 4, 5, 6, 7, 8], [0, 1, 2, 3, 4, 5, 6, 7, 8, 9, 10]], [3], [4], [0], false, []⟩
  | _, _ => ⟨[], [], [], [], [], false, []⟩
noncomputable def registry_View_tb : List (CE CT Tryz.prog) := [registry_known_ce, wire_NewWriter_ce, registry_write_ce, wire_Done_ce]
noncomputable def registry_View_lt : List (LE CT Tryz.prog) := []
noncomputable def registry_View (h0 : (Unit) × (Int) × (List (DShare)) × (Bool) × (Int) × (List UInt8) × (List UInt8) × (Int) × (Int) × (Int) × (Int) × (Int) × (Int) × Unit) (h1 : (List (DVerdict)) × (Unit) × Unit) (h2 : List ((Int × Int) × (Int))) : Option ((List (UInt8)) × (((Unit) × (Int) × (List (DShare)) × (Bool) × (Int) × (List UInt8) × (List UInt8) × (Int) × (Int) × (Int) × (Int) × (Int) × (Int) × Unit) × ((List (DVerdict)) × (Unit) × Unit) × (List ((Int × Int) × (Int))) × (Unit) × (Unit) × (Unit) × Unit)) :=
  (registry_known ((), h0.2.1, h0.2.2.1, h0.2.2.2.1, h0.2.2.2.2.1, h0.2.2.2.2.2.1, h0.2.2.2.2.2.2.1, h0.2.2.2.2.2.2.2.1, h0.2.2.2.2.2.2.2.2.1, h0.2.2.2.2.2.2.2.2.2.1, h0.2.2.2.2.2.2.2.2.2.2.1, h0.2.2.2.2.2.2.2.2.2.2.2.1, h0.2.2.2.2.2.2.2.2.2.2.2.2.1, ()) (h1.1, (), ()) h2).bind fun r1 =>
  (bif (!r1.1) then
  some ([], (((), r1.2.1.2.1, r1.2.1.2.2.1, r1.2.1.2.2.2.1, r1.2.1.2.2.2.2.1, r1.2.1.2.2.2.2.2.1, r1.2.1.2.2.2.2.2.2.1, r1.2.1.2.2.2.2.2.2.2.1, r1.2.1.2.2.2.2.2.2.2.2.1, r1.2.1.2.2.2.2.2.2.2.2.2.1, r1.2.1.2.2.2.2.2.2.2.2.2.2.1, r1.2.1.2.2.2.2.2.2.2.2.2.2.2.1, r1.2.1.2.2.2.2.2.2.2.2.2.2.2.2.1, ()), (r1.2.2.1.1, (), ()), r1.2.2.2.1, (), (), (), ()))
  else
  (wire_NewWriter).bind fun r2 =>
  (registry_write (⟨(⟨r1.2.1.2.1, r1.2.1.2.2.1⟩ : DShares), r1.2.1.2.2.2.1, (⟨r1.2.1.2.2.2.2.1, (⟨r1.2.1.2.2.2.2.2.1, r1.2.1.2.2.2.2.2.2.1⟩ : DSpan), r1.2.1.2.2.2.2.2.2.2.1, r1.2.1.2.2.2.2.2.2.2.2.1, r1.2.1.2.2.2.2.2.2.2.2.2.1, r1.2.1.2.2.2.2.2.2.2.2.2.2.1, r1.2.1.2.2.2.2.2.2.2.2.2.2.2.1⟩ : DScheme)⟩ : DPlan) (r2.2.1.1, r2.2.1.2.1, r2.2.1.2.2.1, ())).bind fun r3 =>
  (wire_Done (r3.2.1.1, r3.2.1.2.1, r3.2.1.2.2.1, ())).bind fun r4 =>
  some (r4.1.1, (((), r1.2.1.2.1, r1.2.1.2.2.1, r1.2.1.2.2.2.1, r1.2.1.2.2.2.2.1, r1.2.1.2.2.2.2.2.1, r1.2.1.2.2.2.2.2.2.1, r1.2.1.2.2.2.2.2.2.2.1, r1.2.1.2.2.2.2.2.2.2.2.1, r1.2.1.2.2.2.2.2.2.2.2.2.1, r1.2.1.2.2.2.2.2.2.2.2.2.2.1, r1.2.1.2.2.2.2.2.2.2.2.2.2.2.1, r1.2.1.2.2.2.2.2.2.2.2.2.2.2.2.1, ()), (r1.2.2.1.1, (), ()), r1.2.2.2.1, (), (), (), ())))
noncomputable def registry_View_ce : CE CT Tryz.prog where
  f := 15
  args := [.one (.ptr 0 0)]
  hs := [.obj 110 [.ptr 1 0, .int .i64, .sl 5, .bool, .int .i64, .str, .str, .int .i64, .int .i64, .int .i64, .int .i64, .int .u8, .int .i64], .obj 197 [.own 12 3, .mo 2], .mmap (.two .i64 .i64) (.int .i64), .row 41 5]
  res := .val (.one (.own 1 4))
  outs := [.obj 110 [.ptr 1 0, .int .i64, .sl 5, .bool, .int .i64, .str, .str, .int .i64, .int .i64, .int .i64, .int .i64, .int .u8, .int .i64], .obj 197 [.own 12 5, .mo 2], .mmap (.two .i64 .i64) (.int .i64), .dead, .row 5 1, .row 41 5]
  m := fun d dh => registry_View dh.1 dh.2.1 dh.2.2.1
  ok := ce_ok mixedP Tryz.func15 (by kernel_rfl) (orcOf_ok registry_View_tb) (dr := registry_View_dr) (lps := lpsOf registry_View_lt) (lps_fn (no_loop (by kernel_rfl))) (fun d dh => by kernel_rfl)

def watershedkit_SameBytes_dr : Nat → Nat → DrA
  | 6, _ => ⟨[0, 1, 2, 4, 5, 6, 3, 7, 8], [[], [], [0, 1], [0, 1, 2], [], [], [4, 5], [4, 5, 6], [0, 1, 2, 3, 4, 5, 6, 7]], [], [], [], false, []⟩
  | _, _ => ⟨[], [], [], [], [], false, []⟩
noncomputable def watershedkit_SameBytes_tb : List (CE CT Tryz.prog) := []
noncomputable def watershedkit_SameBytes_l1 (a : ((List (UInt8)) × (List (UInt8)) × (Int) × Unit) × (Unit)) : Option ((((List (UInt8)) × (List (UInt8)) × (Int) × Unit) × (Unit)) ⊕ ((((Bool) × Unit) × (Unit)) ⊕ ((Unit) × (Unit)))) :=
  (bif (decide ((a.1.2.2.1 : Int) < (a.1.1.length : Int))) then
  (getI a.1.1 a.1.2.2.1).bind fun e1 =>
  (getI a.1.2.1 a.1.2.2.1).bind fun e2 =>
  (bif (decide (((e1.toNat : Int) : Int) ≠ (e2.toNat : Int))) then
  some (.inr (.inl ((false, ()), ())))
  else
  some (.inl ((a.1.1, a.1.2.1, (IntKind.i64.wrap (a.1.2.2.1 + 1)), ()), ())))
  else
  some (.inr (.inr ((), ()))))
noncomputable def watershedkit_SameBytes_e1 : LE CT Tryz.prog := ⟨4, [0, 1, 5], [.one (.sl 1), .one (.sl 1), .one (.int .i64)], [], [⟨.ret, [4], [.one (.bool)], []⟩, ⟨.exit 0, [], [], []⟩], watershedkit_SameBytes_l1⟩
noncomputable def watershedkit_SameBytes_lt : List (LE CT Tryz.prog) := [watershedkit_SameBytes_e1]
theorem watershedkit_SameBytes_e1_ok : LeOk watershedkit_SameBytes_e1 (nthL (bodyOf Tryz.f14) 0) := fun A env h k z hk => le_ok (E := watershedkit_SameBytes_e1) (orcOf_ok watershedkit_SameBytes_tb) (dr := watershedkit_SameBytes_dr) (lps := lpsOf watershedkit_SameBytes_lt) (no_loop (by kernel_rfl)) (fun a => by kernel_rfl) env h k z hk
noncomputable def watershedkit_SameBytes (x0 : List (UInt8)) (x1 : List (UInt8)) : Option ((Bool) × (Unit)) :=
  (bif (decide (((x0.length : Int) : Int) ≠ (x1.length : Int))) then
  some (false, ())
  else
  (loopM watershedkit_SameBytes_l1 ((x0, x1, 0, ()), ())).bind fun b1 =>
  (match b1 with
  | .inl b2 =>
  some (b2.1.1, ())
  | .inr b3 =>
  some (true, ())))
noncomputable def watershedkit_SameBytes_ce : CE CT Tryz.prog where
  f := 14
  args := [.one (.sl 1), .one (.sl 1)]
  hs := []
  res := .val (.one (.bool))
  outs := []
  m := fun d dh => watershedkit_SameBytes d.1 d.2.1
  ok := ce_ok mixedP Tryz.func14 (by kernel_rfl) (orcOf_ok watershedkit_SameBytes_tb) (dr := watershedkit_SameBytes_dr) (lps := lpsOf watershedkit_SameBytes_lt) (lps_fn (lps_of (n := 1) (by kernel_rfl) fun i hi => match i, hi with | 0, _ => lp_ok (E := watershedkit_SameBytes_e1) (by kernel_rfl) watershedkit_SameBytes_e1_ok)) (fun d dh => by kernel_rfl)

def registry_Last_dr : Nat → Nat → DrA
  | _, _ => ⟨[], [], [], [], [], false, []⟩
noncomputable def registry_Last_tb : List (CE CT Tryz.prog) := [registry_known_ce]
noncomputable def registry_Last_lt : List (LE CT Tryz.prog) := []
noncomputable def registry_Last (h0 : (Unit) × (Int) × (List (DShare)) × (Bool) × (Int) × (List UInt8) × (List UInt8) × (Int) × (Int) × (Int) × (Int) × (Int) × (Int) × Unit) (h1 : (List (DVerdict)) × (Unit) × Unit) (h2 : List ((Int × Int) × (Int))) : Option ((Int) × (((Unit) × (Int) × (List (DShare)) × (Bool) × (Int) × (List UInt8) × (List UInt8) × (Int) × (Int) × (Int) × (Int) × (Int) × (Int) × Unit) × ((List (DVerdict)) × (Unit) × Unit) × (List ((Int × Int) × (Int))) × (Unit) × (Unit) × Unit)) :=
  (registry_known ((), h0.2.1, h0.2.2.1, h0.2.2.2.1, h0.2.2.2.2.1, h0.2.2.2.2.2.1, h0.2.2.2.2.2.2.1, h0.2.2.2.2.2.2.2.1, h0.2.2.2.2.2.2.2.2.1, h0.2.2.2.2.2.2.2.2.2.1, h0.2.2.2.2.2.2.2.2.2.2.1, h0.2.2.2.2.2.2.2.2.2.2.2.1, h0.2.2.2.2.2.2.2.2.2.2.2.2.1, ()) (h1.1, (), ()) h2).bind fun r1 =>
  (bif (!r1.1) then
  some (0, (((), r1.2.1.2.1, r1.2.1.2.2.1, r1.2.1.2.2.2.1, r1.2.1.2.2.2.2.1, r1.2.1.2.2.2.2.2.1, r1.2.1.2.2.2.2.2.2.1, r1.2.1.2.2.2.2.2.2.2.1, r1.2.1.2.2.2.2.2.2.2.2.1, r1.2.1.2.2.2.2.2.2.2.2.2.1, r1.2.1.2.2.2.2.2.2.2.2.2.2.1, r1.2.1.2.2.2.2.2.2.2.2.2.2.2.1, r1.2.1.2.2.2.2.2.2.2.2.2.2.2.2.1, ()), (r1.2.2.1.1, (), ()), r1.2.2.2.1, (), (), ()))
  else
  some (r1.2.1.2.2.2.2.2.2.2.2.2.2.2.2.1, (((), r1.2.1.2.1, r1.2.1.2.2.1, r1.2.1.2.2.2.1, r1.2.1.2.2.2.2.1, r1.2.1.2.2.2.2.2.1, r1.2.1.2.2.2.2.2.2.1, r1.2.1.2.2.2.2.2.2.2.1, r1.2.1.2.2.2.2.2.2.2.2.1, r1.2.1.2.2.2.2.2.2.2.2.2.1, r1.2.1.2.2.2.2.2.2.2.2.2.2.1, r1.2.1.2.2.2.2.2.2.2.2.2.2.2.1, r1.2.1.2.2.2.2.2.2.2.2.2.2.2.2.1, ()), (r1.2.2.1.1, (), ()), r1.2.2.2.1, (), (), ())))
noncomputable def registry_Last_ce : CE CT Tryz.prog where
  f := 16
  args := [.one (.ptr 0 0)]
  hs := [.obj 110 [.ptr 1 0, .int .i64, .sl 5, .bool, .int .i64, .str, .str, .int .i64, .int .i64, .int .i64, .int .i64, .int .u8, .int .i64], .obj 197 [.own 12 3, .mo 2], .mmap (.two .i64 .i64) (.int .i64), .row 41 5]
  res := .val (.one (.int .i64))
  outs := [.obj 110 [.ptr 1 0, .int .i64, .sl 5, .bool, .int .i64, .str, .str, .int .i64, .int .i64, .int .i64, .int .i64, .int .u8, .int .i64], .obj 197 [.own 12 4, .mo 2], .mmap (.two .i64 .i64) (.int .i64), .dead, .row 41 5]
  m := fun d dh => registry_Last dh.1 dh.2.1 dh.2.2.1
  ok := ce_ok mixedP Tryz.func16 (by kernel_rfl) (orcOf_ok registry_Last_tb) (dr := registry_Last_dr) (lps := lpsOf registry_Last_lt) (lps_fn (no_loop (by kernel_rfl))) (fun d dh => by kernel_rfl)

def registry_Of_dr : Nat → Nat → DrA
  | 3, _ => ⟨[0, 1, 2, 3, 4, 5, 6, 7, 8, 9, 10], [[], [0], [0, 1], [0, 1, 2], [0, 1, 2, 3], [], [0, 1, 2, 3, 4, 5], [0, 1, 2, 3, 4, 5, 6], [0, 1, 2, 3, 4, 5, 6], [0, 1, 2, 3, 4, 5, 6, 7, 8], [0, 1, 2, 3, 4, 5, 6, 7, 8, 9]], [], [], [], false, []⟩
  | _, _ => ⟨[], [], [], [], [], false, []⟩
noncomputable def registry_Of_tb : List (CE CT Tryz.prog) := [registry_known_ce, ruling_Of_ce]
noncomputable def registry_Of_lt : List (LE CT Tryz.prog) := []
noncomputable def registry_Of (x1 : DName) (h0 : (Unit) × (Int) × (List (DShare)) × (Bool) × (Int) × (List UInt8) × (List UInt8) × (Int) × (Int) × (Int) × (Int) × (Int) × (Int) × Unit) (h1 : (List (DVerdict)) × (Unit) × Unit) (h2 : List ((Int × Int) × (Int))) : Option (((DVerdict) × (Bool) × Unit) × (((Unit) × (Int) × (List (DShare)) × (Bool) × (Int) × (List UInt8) × (List UInt8) × (Int) × (Int) × (Int) × (Int) × (Int) × (Int) × Unit) × ((List (DVerdict)) × (Unit) × Unit) × (List ((Int × Int) × (Int))) × (Unit) × (Unit) × Unit)) :=
  (registry_known ((), h0.2.1, h0.2.2.1, h0.2.2.2.1, h0.2.2.2.2.1, h0.2.2.2.2.2.1, h0.2.2.2.2.2.2.1, h0.2.2.2.2.2.2.2.1, h0.2.2.2.2.2.2.2.2.1, h0.2.2.2.2.2.2.2.2.2.1, h0.2.2.2.2.2.2.2.2.2.2.1, h0.2.2.2.2.2.2.2.2.2.2.2.1, h0.2.2.2.2.2.2.2.2.2.2.2.2.1, ()) (h1.1, (), ()) h2).bind fun r1 =>
  (bif (!r1.1) then
  some (((⟨(⟨0, 0⟩ : DName), false, 0, []⟩ : DVerdict), false, ()), (((), r1.2.1.2.1, r1.2.1.2.2.1, r1.2.1.2.2.2.1, r1.2.1.2.2.2.2.1, r1.2.1.2.2.2.2.2.1, r1.2.1.2.2.2.2.2.2.1, r1.2.1.2.2.2.2.2.2.2.1, r1.2.1.2.2.2.2.2.2.2.2.1, r1.2.1.2.2.2.2.2.2.2.2.2.1, r1.2.1.2.2.2.2.2.2.2.2.2.2.1, r1.2.1.2.2.2.2.2.2.2.2.2.2.2.1, r1.2.1.2.2.2.2.2.2.2.2.2.2.2.2.1, ()), (r1.2.2.1.1, (), ()), r1.2.2.2.1, (), (), ()))
  else
  (ruling_Of x1 (r1.2.2.1.1, (), ()) r1.2.2.2.1).bind fun r2 =>
  some ((r2.1.1, r2.1.2.1, ()), (((), r1.2.1.2.1, r1.2.1.2.2.1, r1.2.1.2.2.2.1, r1.2.1.2.2.2.2.1, r1.2.1.2.2.2.2.2.1, r1.2.1.2.2.2.2.2.2.1, r1.2.1.2.2.2.2.2.2.2.1, r1.2.1.2.2.2.2.2.2.2.2.1, r1.2.1.2.2.2.2.2.2.2.2.2.1, r1.2.1.2.2.2.2.2.2.2.2.2.2.1, r1.2.1.2.2.2.2.2.2.2.2.2.2.2.1, r1.2.1.2.2.2.2.2.2.2.2.2.2.2.2.1, ()), (r2.2.1.1, (), ()), r2.2.2.1, (), (), ())))
noncomputable def registry_Of_ce : CE CT Tryz.prog where
  f := 17
  args := [.one (.ptr 0 0), .cod 8]
  hs := [.obj 110 [.ptr 1 0, .int .i64, .sl 5, .bool, .int .i64, .str, .str, .int .i64, .int .i64, .int .i64, .int .i64, .int .u8, .int .i64], .obj 197 [.own 12 3, .mo 2], .mmap (.two .i64 .i64) (.int .i64), .row 41 5]
  res := .tup [.cod 12, .one (.bool)]
  outs := [.obj 110 [.ptr 1 0, .int .i64, .sl 5, .bool, .int .i64, .str, .str, .int .i64, .int .i64, .int .i64, .int .i64, .int .u8, .int .i64], .obj 197 [.own 12 4, .mo 2], .mmap (.two .i64 .i64) (.int .i64), .dead, .row 41 5]
  m := fun d dh => registry_Of d.2.1 dh.1 dh.2.1 dh.2.2.1
  ok := ce_ok mixedP Tryz.func17 (by kernel_rfl) (orcOf_ok registry_Of_tb) (dr := registry_Of_dr) (lps := lpsOf registry_Of_lt) (lps_fn (no_loop (by kernel_rfl))) (fun d dh => by kernel_rfl)

def watershedlaw21_verdict_dr : Nat → Nat → DrA
  | _, _ => ⟨[], [], [], [], [], false, []⟩
noncomputable def watershedlaw21_verdict_tb : List (CE CT Tryz.prog) := []
noncomputable def watershedlaw21_verdict_lt : List (LE CT Tryz.prog) := []
noncomputable def watershedlaw21_verdict (x0 : DVerdict) : Option ((DVerdict2) × (Unit)) :=
  some ((⟨x0.name, x0.commit, x0.at_, x0.reads⟩ : DVerdict2), ())
noncomputable def watershedlaw21_verdict_ce : CE CT Tryz.prog where
  f := 59
  args := [.cod 12]
  hs := []
  res := .val (.cod 24)
  outs := []
  m := fun d dh => watershedlaw21_verdict d.1
  ok := ce_ok mixedP Tryz.func59 (by kernel_rfl) (orcOf_ok watershedlaw21_verdict_tb) (dr := watershedlaw21_verdict_dr) (lps := lpsOf watershedlaw21_verdict_lt) (lps_fn (no_loop (by kernel_rfl))) (fun d dh => by kernel_rfl)

def watershedkit_SameReads_dr : Nat → Nat → DrA
  | 6, _ => ⟨[0, 1, 2, 4, 5, 6, 3, 7, 8], [[], [], [0, 1], [0, 1, 2], [], [], [4, 5], [4, 5, 6], [0, 1, 2, 3, 4, 5, 6, 7]], [], [], [], false, []⟩
  | _, _ => ⟨[], [], [], [], [], false, []⟩
noncomputable def watershedkit_SameReads_tb : List (CE CT Tryz.prog) := []
noncomputable def watershedkit_SameReads_l1 (a : ((List (DRead)) × (List (DRead)) × (Int) × Unit) × (Unit)) : Option ((((List (DRead)) × (List (DRead)) × (Int) × Unit) × (Unit)) ⊕ ((((Bool) × Unit) × (Unit)) ⊕ ((Unit) × (Unit)))) :=
  (bif (decide ((a.1.2.2.1 : Int) < (a.1.1.length : Int))) then
  (getI a.1.1 a.1.2.2.1).bind fun e1 =>
  (getI a.1.2.1 a.1.2.2.1).bind fun e2 =>
  (bif (!(decide (e1.key = e2.key) && (decide (e1.is = e2.is) && (decide (e1.value = e2.value) && true)))) then
  some (.inr (.inl ((false, ()), ())))
  else
  some (.inl ((a.1.1, a.1.2.1, (IntKind.i64.wrap (a.1.2.2.1 + 1)), ()), ())))
  else
  some (.inr (.inr ((), ()))))
noncomputable def watershedkit_SameReads_e1 : LE CT Tryz.prog := ⟨4, [0, 1, 5], [.one (.sl 10), .one (.sl 10), .one (.int .i64)], [], [⟨.ret, [4], [.one (.bool)], []⟩, ⟨.exit 0, [], [], []⟩], watershedkit_SameReads_l1⟩
noncomputable def watershedkit_SameReads_lt : List (LE CT Tryz.prog) := [watershedkit_SameReads_e1]
theorem watershedkit_SameReads_e1_ok : LeOk watershedkit_SameReads_e1 (nthL (bodyOf Tryz.f108) 0) := fun A env h k z hk => le_ok (E := watershedkit_SameReads_e1) (orcOf_ok watershedkit_SameReads_tb) (dr := watershedkit_SameReads_dr) (lps := lpsOf watershedkit_SameReads_lt) (no_loop (by kernel_rfl)) (fun a => by kernel_rfl) env h k z hk
noncomputable def watershedkit_SameReads (x0 : List (DRead)) (x1 : List (DRead)) : Option ((Bool) × (Unit)) :=
  (bif (decide (((x0.length : Int) : Int) ≠ (x1.length : Int))) then
  some (false, ())
  else
  (loopM watershedkit_SameReads_l1 ((x0, x1, 0, ()), ())).bind fun b1 =>
  (match b1 with
  | .inl b2 =>
  some (b2.1.1, ())
  | .inr b3 =>
  some (true, ())))
noncomputable def watershedkit_SameReads_ce : CE CT Tryz.prog where
  f := 108
  args := [.one (.sl 10), .one (.sl 10)]
  hs := []
  res := .val (.one (.bool))
  outs := []
  m := fun d dh => watershedkit_SameReads d.1 d.2.1
  ok := ce_ok mixedP Tryz.func108 (by kernel_rfl) (orcOf_ok watershedkit_SameReads_tb) (dr := watershedkit_SameReads_dr) (lps := lpsOf watershedkit_SameReads_lt) (lps_fn (lps_of (n := 1) (by kernel_rfl) fun i hi => match i, hi with | 0, _ => lp_ok (E := watershedkit_SameReads_e1) (by kernel_rfl) watershedkit_SameReads_e1_ok)) (fun d dh => by kernel_rfl)

def watershedlaw21_equal_dr : Nat → Nat → DrA
  | _, _ => ⟨[], [], [], [], [], false, []⟩
noncomputable def watershedlaw21_equal_tb : List (CE CT Tryz.prog) := [watershedkit_SameReads_ce]
noncomputable def watershedlaw21_equal_lt : List (LE CT Tryz.prog) := []
noncomputable def watershedlaw21_equal (x0 : DVerdict) (x1 : DVerdict2) : Option ((Bool) × (Unit)) :=
  (bif (decide ((x0.name.client : Int) = x1.name.client) && (decide ((x0.name.num : Int) = x1.name.num) && true)) then
  (bif (decide (x0.commit = x1.commit)) then
  (bif (decide ((x0.at_ : Int) = x1.at_)) then
  (watershedkit_SameReads x0.reads x1.reads).bind fun r1 =>
  some (r1.1, ())
  else
  some (false, ()))
  else
  some (false, ()))
  else
  some (false, ()))
noncomputable def watershedlaw21_equal_ce : CE CT Tryz.prog where
  f := 58
  args := [.cod 12, .cod 24]
  hs := []
  res := .val (.one (.bool))
  outs := []
  m := fun d dh => watershedlaw21_equal d.1 d.2.1
  ok := ce_ok mixedP Tryz.func58 (by kernel_rfl) (orcOf_ok watershedlaw21_equal_tb) (dr := watershedlaw21_equal_dr) (lps := lpsOf watershedlaw21_equal_lt) (lps_fn (no_loop (by kernel_rfl))) (fun d dh => by kernel_rfl)

def watershedlaw21_same2_dr : Nat → Nat → DrA
  | 1, _ => ⟨[0, 1, 2, 3, 4], [[], [], [1], [0, 1, 2], [0, 1, 2, 3]], [0], [2], [0], false, []⟩
  | _, _ => ⟨[], [], [], [], [], false, []⟩
noncomputable def watershedlaw21_same2_tb : List (CE CT Tryz.prog) := [watershedlaw21_verdict_ce, watershedlaw21_equal_ce]
noncomputable def watershedlaw21_same2_lt : List (LE CT Tryz.prog) := []
noncomputable def watershedlaw21_same2 (x0 : DVerdict) (x1 : DVerdict) : Option ((Bool) × (Unit)) :=
  (watershedlaw21_verdict x1).bind fun r1 =>
  (watershedlaw21_equal x0 r1.1).bind fun r2 =>
  some (r2.1, ())
noncomputable def watershedlaw21_same2_ce : CE CT Tryz.prog where
  f := 18
  args := [.cod 12, .cod 12]
  hs := []
  res := .val (.one (.bool))
  outs := []
  m := fun d dh => watershedlaw21_same2 d.1 d.2.1
  ok := ce_ok mixedP Tryz.func18 (by kernel_rfl) (orcOf_ok watershedlaw21_same2_tb) (dr := watershedlaw21_same2_dr) (lps := lpsOf watershedlaw21_same2_lt) (lps_fn (no_loop (by kernel_rfl))) (fun d dh => by kernel_rfl)
end Go.Proofs.YtaihdjknneiciaaGreat
