/- Models, by program. -/
import Derived.Test.YtaihdjknneiciaaGreatRp
import Derived.Test.YtaihdjknneiciaaGreatOa
import Derived.Test.YtaihdjknneiciaaGreatTw
import Derived.Test.YtaihdjknneiciaaGreatWy
import Derived.Test.YtaihdjknneiciaaGreatSl
import Derived.Test.YtaihdjknneiciaaGreatFx
import Derived.Test.YtaihdjknneiciaaGreatUn
import Derived.Test.YtaihdjknneiciaaGreatFt
namespace Go.Proofs.YtaihdjknneiciaaGreat
noncomputable section
open Go.RowKit
set_option maxRecDepth 100000
set_option linter.unusedVariables false
def appendSeq (h0 : List (List UInt8)) : Option ((Nat × Nat) × ((List (List UInt8)) × (List (List UInt8)) × Unit)) :=
  if h0.length ≤ 8796093022208 then some ((0, h0.length), (h0, h0, ())) else none
def appendSeq_ce : CEp where
  f := 269
  args := [.one .nil, .one (.clo 268 [0])]
  hs := [.cobj 84 3]
  res := .val (.one (.asu 2 1))
  outs := [.cobj 84 3, .arr 9 2 true]
  m := fun d dh => appendSeq dh.1
  ok := fun d dh r hr => by
    unfold appendSeq at hr
    split at hr
    · rename_i hc
      injection hr with hr
      subst hr
      by_cases h0 : dh.1 = []
      · obtain ⟨xs, u⟩ := dh
        dsimp only at h0
        subst h0
        exact appendSeq_tr0
      · exact appendSeq_tr dh.1 (fun h => h0 (List.eq_nil_of_length_eq_zero h)) hc
    · cases hr

theorem sortT_cells {N : Nat} {ρ : Nat → AV} : ∀ {xs : List (List UInt8)} {cells : List AV}, SVs CT N ρ (xs.flatMap (CT.enc 2)) cells → cells.map AV.val = xs.map Go.Proofs.encStr
  | [], cells, h => by rw [SVs_nil.1 h]; rfl
  | x :: xs, cells, h => by
    change SVs CT N ρ (.str x :: xs.flatMap (CT.enc 2)) cells at h
    obtain ⟨a, bs, rfl, h1, h2⟩ := h.to
    rw [sv_str.1 h1, List.map_cons, sortT_cells h2, AV.val_raw]
    rfl
theorem sortT_svs {N : Nat} {ρ : Nat → AV} : ∀ (xs : List (List UInt8)), SVs CT N ρ (xs.flatMap (CT.enc 2)) (xs.map fun d => AV.raw (Go.Proofs.encStr d))
  | [] => .none
  | x :: xs => by
    change SVs CT N ρ (.str x :: xs.flatMap (CT.enc 2)) (AV.raw (Go.Proofs.encStr x) :: xs.map fun d => AV.raw (Go.Proofs.encStr d))
    exact .cons (sv_str.2 rfl) (sortT_svs xs)
def sortT (x0 : Nat × Nat) (h0 : List (List UInt8)) : Option (Unit × ((List (List UInt8)) × Unit)) :=
  if x0.1 = 0 ∧ x0.2 = h0.length ∧ h0.length < 4611686018427387904 then some ((), (h0.mergeSort (fun x y => decide (x ≤ y)), ())) else none
def sortT_ce : CEp where
  f := 267
  args := [.one (.asu 2 0)]
  hs := [.arr 9 2 true]
  res := .tup []
  outs := [.arr 9 2 true]
  m := fun d dh => sortT d.1 dh.1
  ok := fun d dh r hr => by
    obtain ⟨⟨lo, n⟩, u⟩ := d
    obtain ⟨xs, u2⟩ := dh
    unfold sortT at hr
    split at hr
    · rename_i hc
      injection hr with hr
      subst hr
      obtain ⟨rfl, rfl, hc⟩ := hc
      dsimp only at hc
      exact sortedA_tr Go.Proofs.encStr xs xs (List.mergeSort (α := List UInt8) xs fun x y => decide (x ≤ y)) true rfl rfl (fun N ρ cs h => sortT_cells h) (List.mergeSort (α := List UInt8) xs fun x y => decide (x ≤ y)) (List.length_mergeSort (α := List UInt8) xs) (fun N ρ => sortT_svs _) (by kernel_rfl) rfl (fun h => by subst h; exact List.mergeSort_nil)
        (fun blk cap w h1 h2 => Tryz.slices_Sort_string blk 0 cap xs w h1 h2 hc) (fun p cap w => Tryz.slices_Sort_string_none p cap w)
    · cases hr

def waysM227_mk (base : Nat) : Array MapEntry := #[⟨.int .u8 1, .slice (some ⟨base + 1 + 0, 0, none⟩) 2 2, 0⟩, ⟨.int .u8 2, .slice (some ⟨base + 1 + 1, 0, none⟩) 2 2, 1⟩, ⟨.int .u8 3, .slice (some ⟨base + 1 + 2, 0, none⟩) 2 2, 2⟩, ⟨.int .u8 4, .slice (some ⟨base + 1 + 3, 0, none⟩) 1 1, 3⟩, ⟨.int .u8 5, .slice (some ⟨base + 1 + 4, 0, none⟩) 1 1, 4⟩, ⟨.int .u8 7, .slice (some ⟨base + 1 + 5, 0, none⟩) 1 1, 5⟩, ⟨.int .u8 8, .slice (some ⟨base + 1 + 6, 0, none⟩) 1 1, 6⟩, ⟨.int .u8 6, .slice none 0 0, 7⟩, ⟨.int .u8 9, .slice none 0 0, 8⟩]
def waysM227_rows : List Obj := [Obj.cells #[Value.int IntKind.u8 2, Value.int IntKind.u8 7] 36, Obj.cells #[Value.int IntKind.u8 3, Value.int IntKind.u8 7] 36, Obj.cells #[Value.int IntKind.u8 4, Value.int IntKind.u8 7] 36, Obj.cells #[Value.int IntKind.u8 5] 36, Obj.cells #[Value.int IntKind.u8 6] 36, Obj.cells #[Value.int IntKind.u8 8] 36, Obj.cells #[Value.int IntKind.u8 9] 36]
theorem waysM227_q (w : World) : Calls Tryz.prog 227 #[] w fun e w' => e = .returned (.map (some w.heap.size)) ∧ Wy w waysM227_rows (waysM227_mk w.heap.size) 9 w' := by
  have hmm := @run_makeMap Tryz.prog
  go_enter Tryz.func227, Tryz.ntmps227
  have F0 := Wy.new w
  go_wp2_with (first | (refine wpList_ins (F0.add _) rfl (.tmp 1) (.const (.int .u8 1)) (.tmp 2) 356 rfl Tryz.underlying356 Tryz.underlying36 rfl 1 rfl rfl ?_) | go_in)
  intro w1 F1
  have s1 := F1.size
  go_wp2_with (first | (refine wpList_ins (F1.add _) rfl (.tmp 1) (.const (.int .u8 2)) (.tmp 3) 356 rfl Tryz.underlying356 Tryz.underlying36 rfl 2 rfl rfl ?_) | go_in)
  intro w2 F2
  have s2 := F2.size
  go_wp2_with (first | (refine wpList_ins (F2.add _) rfl (.tmp 1) (.const (.int .u8 3)) (.tmp 4) 356 rfl Tryz.underlying356 Tryz.underlying36 rfl 3 rfl rfl ?_) | go_in)
  intro w3 F3
  have s3 := F3.size
  go_wp2_with (first | (refine wpList_ins (F3.add _) rfl (.tmp 1) (.const (.int .u8 4)) (.tmp 5) 356 rfl Tryz.underlying356 Tryz.underlying36 rfl 4 rfl rfl ?_) | go_in)
  intro w4 F4
  have s4 := F4.size
  go_wp2_with (first | (refine wpList_ins (F4.add _) rfl (.tmp 1) (.const (.int .u8 5)) (.tmp 6) 356 rfl Tryz.underlying356 Tryz.underlying36 rfl 5 rfl rfl ?_) | go_in)
  intro w5 F5
  have s5 := F5.size
  go_wp2_with (first | (refine wpList_ins (F5.add _) rfl (.tmp 1) (.const (.int .u8 7)) (.tmp 7) 356 rfl Tryz.underlying356 Tryz.underlying36 rfl 7 rfl rfl ?_) | go_in)
  intro w6 F6
  have s6 := F6.size
  go_wp2_with (first | (refine wpList_ins (F6.add _) rfl (.tmp 1) (.const (.int .u8 8)) (.tmp 8) 356 rfl Tryz.underlying356 Tryz.underlying36 rfl 8 rfl rfl ?_) | go_in)
  intro w7 F7
  have s7 := F7.size
  go_wp2_with (first | (refine wpList_ins F7 rfl (.tmp 1) (.const (.int .u8 6)) (.const (.slice none 0 0)) 356 rfl Tryz.underlying356 Tryz.underlying36 rfl 6 rfl rfl ?_) | go_in)
  intro w8 F8
  have s8 := F8.size
  go_wp2_with (first | (refine wpList_ins F8 rfl (.tmp 1) (.const (.int .u8 9)) (.const (.slice none 0 0)) 356 rfl Tryz.underlying356 Tryz.underlying36 rfl 9 rfl rfl ?_) | go_in)
  intro w9 F9
  have s9 := F9.size
  go_wp2
  go_ret
  exact ⟨rfl, F9⟩
theorem rowA_sv (N : Nat) (ρ : Nat → AV) (base i : Nat) (xs : List UInt8) (h : xs.length ≤ 140737488355328 := by decide) : SV CT N ρ (.sl 1 xs none) (rowA base i xs) := by
  have h1 : SVs CT N ρ (xs.flatMap (CT.enc 1)) (xs.map fun b => AV.raw (.int .u8 (b.toNat : Int))) := by
    rw [show CT.enc 1 = encT 1 from rfl, enc_b1]
    exact bytes_sv_ xs
  have h2 := SVs.sl (C := CT) (N := N) (ρ := ρ) 1 xs (some ⟨base + 1 + i, 0, none⟩) xs.length _ [] (Nat.le_refl _) (by unfold maxLen; omega) h (fun h => by cases h) h1 .none
  rw [List.append_nil] at h2
  exact h2
def waysM227_t : List (Int × List UInt8) := [(1, [2, 7]), (2, [3, 7]), (3, [4, 7]), (4, [5]), (5, [6]), (7, [8]), (8, [9]), (6, []), (9, [])]
def waysM227 : Option ((List (Int × List UInt8)) × Unit) := some (waysM227_t, ())
def waysM227_ce : CEp where
  f := 227
  args := []
  hs := []
  res := .val (.one (.mp 1 .u8))
  outs := []
  m := fun d dh => waysM227
  ok := fun d dh r hr => by
    injection hr with hr
    subst hr
    refine Wy.tr (C := CT) (E := 1) (kk := .u8) (tb := waysM227_t) (rows := waysM227_rows) (mk := waysM227_mk) (c := 9) (by kernel_rfl) waysM227_q fun base => ⟨[rowA base 0 [2, 7], rowA base 1 [3, 7], rowA base 2 [4, 7], rowA base 3 [5], rowA base 4 [6], rowA base 5 [8], rowA base 6 [9], .lst none 0 0 [], .lst none 0 0 []], fun N ρ => .cons (rowA_sv _ _ _ _ [2, 7]) (.cons (rowA_sv _ _ _ _ [3, 7]) (.cons (rowA_sv _ _ _ _ [4, 7]) (.cons (rowA_sv _ _ _ _ [5]) (.cons (rowA_sv _ _ _ _ [6]) (.cons (rowA_sv _ _ _ _ [8]) (.cons (rowA_sv _ _ _ _ [9]) (.cons ((Wk.nil 1).sv (sv_nil.2 rfl)) (.cons ((Wk.nil 1).sv (sv_nil.2 rfl)) (.none))))))))), rfl, ?_, fun w' B h => Valids.iff.2 fun a ha => ?_⟩
    · simp [AV.vals, rowA, waysM227_mk]
    simp only [List.mem_cons, List.not_mem_nil, or_false] at ha
    rcases ha with rfl | rfl | rfl | rfl | rfl | rfl | rfl | rfl | rfl
    · exact rowA_valid (h 0 _ rfl)
    · exact rowA_valid (h 1 _ rfl)
    · exact rowA_valid (h 2 _ rfl)
    · exact rowA_valid (h 3 _ rfl)
    · exact rowA_valid (h 4 _ rfl)
    · exact rowA_valid (h 5 _ rfl)
    · exact rowA_valid (h 6 _ rfl)
    · exact valid_nil_
    · exact valid_nil_

def replace (n : Nat) (i j : Int) (ys xs : List (DShare)) : Option (List (DShare) × (Unit × Unit × Unit)) :=
  if ReplaceOk n i j ys xs then some (xs.take i.toNat ++ ys ++ xs.drop j.toNat, ((), (), ())) else none
def replace_ce : CEp where
  f := 231
  args := [.one (.asz 6 0), .one (.int .i64), .one (.int .i64), .one (.sl 5)]
  hs := [.arr 99 6 true]
  res := .val (.one (.own 5 1))
  outs := [.dead, .row 99 4]
  m := fun d dh => replace d.1 d.2.1 d.2.2.1 d.2.2.2.1 dh.1
  ok := fun d dh r hr => by
    unfold replace at hr
    split at hr
    · rename_i hc
      injection hr with hr
      subst hr
      exact replace_tr hc
    · cases hr

def shares_within_tb : List (CEp) := []
def shares_within (x0 : Int) (x1 : Int) (x2 : Int) : Option (Bool × Unit) :=
  (bif (decide ((x1 : Int) ≤ x0)) then
  some ((decide ((x0 : Int) ≤ x2)), ())
  else
  some (false, ()))
def shares_within_ce : CEp where
  f := 51
  args := [.one (.int .i64), .one (.int .i64), .one (.int .i64)]
  hs := []
  res := .val (.one (.bool))
  outs := []
  m := fun d dh => shares_within d.1 d.2.1 d.2.2.1
  ok := ceO Tryz.func51 (by kernel_rfl) shares_within_tb (by kernel_rfl) fun d dh => by kernel_rfl

def span_All_tb : List (CEp) := []
def span_All  : Option ((DSpan) × Unit) :=
  some ((⟨([] : List UInt8), ([] : List UInt8)⟩ : DSpan), ())
def span_All_ce : CEp where
  f := 52
  args := []
  hs := []
  res := .val (.cod 4)
  outs := []
  m := fun d dh => span_All
  ok := ceO Tryz.func52 (by kernel_rfl) span_All_tb (by kernel_rfl) fun d dh => by kernel_rfl

def shares_First_tb : List (CEp) := [shares_within_ce, span_All_ce]
def shares_First (x0 : Int) : Option ((DShares) × Unit) :=
  (shares_within x0 1 4).bind fun r1 =>
  (bif (!r1.1) then
  (span_All).bind fun r2 =>
  some ((⟨1, ([(⟨r2.1, 1, 1⟩ : DShare)] : List (DShare))⟩ : DShares), ())
  else
  (span_All).bind fun r3 =>
  some ((⟨1, ([(⟨r3.1, x0, 1⟩ : DShare)] : List (DShare))⟩ : DShares), ()))
def shares_First_ce : CEp where
  f := 10
  args := [.one (.int .i64)]
  hs := []
  res := .val (.cod 15)
  outs := []
  m := fun d dh => shares_First d.1
  ok := ceO Tryz.func10 (by kernel_rfl) shares_First_tb (by kernel_rfl) fun d dh => by kernel_rfl

def shares_right1_tb : List (CEp) := [shares_within_ce]
def shares_right1 (x0 : DShare) (h0 : DWork) : Option (Bool × ((DWork) × Unit)) :=
  (shares_within x0.group 1 4).bind fun r1 =>
  (bif (!r1.1) then
  some (true, (h0, ()))
  else
  (shares_within x0.epoch 1 h0.shares.epoch).bind fun r2 =>
  some ((!r2.1), (h0, ())))
def shares_right1_ce : CEp where
  f := 181
  args := [.cod 5, .one (.ptr 0 0)]
  hs := [.cobj 188 16]
  res := .val (.one (.bool))
  outs := [.cobj 188 16]
  m := fun d dh => shares_right1 d.1 dh.1
  ok := ceO Tryz.func181 (by kernel_rfl) shares_right1_tb (by kernel_rfl) fun d dh => by kernel_rfl

def slices_IndexFunc_tb : List (CEp) := [shares_right1_ce]
def slices_IndexFunc_l1 (a : ((List (DShare)) × Unit × Int × Int × Unit) × ((DWork) × Unit)) : Option ((((List (DShare)) × Unit × Int × Int × Unit) × ((DWork) × Unit)) ⊕ (((Int × Unit) × ((DWork) × Unit)) ⊕ (Unit × ((DWork) × Unit)))) :=
  (bif (decide ((a.1.2.2.2.1 : Int) < a.1.2.2.1)) then
  (getI a.1.1 a.1.2.2.2.1).bind fun e1 =>
  (shares_right1 e1 a.2.1).bind fun r2 =>
  (bif r2.1 then
  some (.inr (.inl ((a.1.2.2.2.1, ()), (r2.2.1, ()))))
  else
  some (.inl ((a.1.1, (), a.1.2.2.1, (IntKind.i64.wrap (a.1.2.2.2.1 + 1)), ()), (r2.2.1, ()))))
  else
  some (.inr (.inr ((), (a.2.1, ())))))
def slices_IndexFunc_e1 : LEp := ⟨2, [0, 1, 7, 8], [.one (.sl 5), .one (.clo 181 [0]), .one (.int .i64), .one (.int .i64)], [.cobj 188 16], [⟨.ret, [4], [.one (.int .i64)], [.cobj 188 16]⟩, ⟨.exit 0, [], [], [.cobj 188 16]⟩], slices_IndexFunc_l1⟩
def slices_IndexFunc_lt : List (LEp) := [slices_IndexFunc_e1]
theorem slices_IndexFunc_e1_ok : LeOk slices_IndexFunc_e1 (nthL (bodyOf Tryz.f173) 0) := fun A env h k z hk => le_ok (E := slices_IndexFunc_e1) (orcOf_ok slices_IndexFunc_tb) (dr := dr0) (lps := lpsOf slices_IndexFunc_lt) (no_loop (by kernel_rfl)) (fun a => by kernel_rfl) env h k z hk
def slices_IndexFunc (x0 : List (DShare)) (h0 : DWork) : Option (Int × ((DWork) × Unit)) :=
  (loopM slices_IndexFunc_l1 ((x0, (), (x0.length : Int), 0, ()), (h0, ()))).bind fun b1 =>
  (match b1 with
  | .inl b2 =>
  some (b2.1.1, (b2.2.1, ()))
  | .inr b3 =>
  some ((-1), (b3.2.1, ())))
def slices_IndexFunc_ce : CEp where
  f := 173
  args := [.one (.sl 5), .one (.clo 181 [0])]
  hs := [.cobj 188 16]
  res := .val (.one (.int .i64))
  outs := [.cobj 188 16]
  m := fun d dh => slices_IndexFunc d.1 dh.1
  ok := ce_ok mixedP Tryz.func173 (by kernel_rfl) (orcOf_ok slices_IndexFunc_tb) (dr := dr0) (lps := lpsOf slices_IndexFunc_lt) (lps_fn (lps_of (n := 1) (by kernel_rfl) fun i hi => match i, hi with | 0, _ => lp_ok (E := slices_IndexFunc_e1) (by kernel_rfl) slices_IndexFunc_e1_ok)) (fun d dh => by kernel_rfl)

def slices_ContainsFunc_tb : List (CEp) := [slices_IndexFunc_ce]
def slices_ContainsFunc (x0 : List (DShare)) (h0 : DWork) : Option (Bool × ((DWork) × Unit)) :=
  (slices_IndexFunc x0 h0).bind fun r1 =>
  some ((decide ((0 : Int) ≤ r1.1)), (r1.2.1, ()))
def slices_ContainsFunc_ce : CEp where
  f := 180
  args := [.one (.sl 5), .one (.clo 181 [0])]
  hs := [.cobj 188 16]
  res := .val (.one (.bool))
  outs := [.cobj 188 16]
  m := fun d dh => slices_ContainsFunc d.1 dh.1
  ok := ceO Tryz.func180 (by kernel_rfl) slices_ContainsFunc_tb (by kernel_rfl) fun d dh => by kernel_rfl

def shares_spans_tb : List (CEp) := []
def shares_spans_l1 (a : ((List (DSpan)) × (List (DShare)) × Int × Int × Unit) × (Unit × Unit)) : Option ((((List (DSpan)) × (List (DShare)) × Int × Int × Unit) × (Unit × Unit)) ⊕ ((((List (DSpan)) × Unit) × (Unit × Unit × Unit)))) :=
  (bif (decide ((a.1.2.2.2.1 : Int) < a.1.2.2.1)) then
  (getI a.1.2.1 a.1.2.2.2.1).bind fun e1 =>
  (if a.1.1.length + ([e1.span] : List (DSpan)).length ≤ 140737488355328 ∧ (a.1.1.length + ([e1.span] : List (DSpan)).length) * 32 ≤ 140737488355328 then
  some (.inl (((a.1.1 ++ ([e1.span] : List (DSpan))), a.1.2.1, a.1.2.2.1, (IntKind.i64.wrap (a.1.2.2.2.1 + 1)), ()), ((), ())))
  else none)
  else
  some (.inr ((a.1.1, ()), ((), (), ()))))
def shares_spans_e1 : LEp := ⟨3, [3, 8, 9, 10], [.one (.own 4 0), .one (.sl 5), .one (.int .i64), .one (.int .i64)], [.row 35 2], [⟨.exit 0, [3], [.one (.own 4 1)], [.dead, .row 35 2]⟩], shares_spans_l1⟩
def shares_spans_lt : List (LEp) := [shares_spans_e1]
theorem shares_spans_e1_ok : LeOk shares_spans_e1 (nthL (bodyOf Tryz.f183) 0) := fun A env h k z hk => le_ok (E := shares_spans_e1) (orcOf_ok shares_spans_tb) (dr := dr0) (lps := lpsOf shares_spans_lt) (no_loop (by kernel_rfl)) (fun a => by kernel_rfl) env h k z hk
def shares_spans (x0 : DWork) : Option ((List (DSpan)) × (Unit × Unit)) :=
  (loopM shares_spans_l1 (([], x0.shares.list, (x0.shares.list.length : Int), 0, ()), ((), ()))).bind fun b1 =>
  some (b1.1.1, ((), ()))
def shares_spans_ce : CEp where
  f := 183
  args := [.cod 16]
  hs := []
  res := .val (.one (.own 4 0))
  outs := [.row 35 2]
  m := fun d dh => shares_spans d.1
  ok := ce_ok mixedP Tryz.func183 (by kernel_rfl) (orcOf_ok shares_spans_tb) (dr := dr0) (lps := lpsOf shares_spans_lt) (lps_fn (lps_of (n := 1) (by kernel_rfl) fun i hi => match i, hi with | 0, _ => lp_ok (E := shares_spans_e1) (by kernel_rfl) shares_spans_e1_ok)) (fun d dh => by kernel_rfl)

def span_ends_dr : Nat → Nat → DrA
  | 1, _ => ⟨[0, 4, 1, 2, 3, 5, 6, 7, 8, 9], [[], [0], [0, 1], [0, 1, 2], [], [4], [4, 5], [4, 5, 6], [0, 1, 2, 3], (List.range 9)], [5], [8], [0], false, []⟩
  | _, _ => ⟨[], [], [], [], [], false, []⟩
def span_ends_tb : List (CEp) := []
def span_ends (x0 : DSpan) : Option (((DLow) × (DHigh) × Unit) × Unit) :=
  some (((⟨(⟨x0.lo⟩ : DText)⟩ : DLow), (⟨(⟨x0.hi⟩ : DText)⟩ : DHigh), ()), ())
def span_ends_ce : CEp where
  f := 175
  args := [.cod 4]
  hs := []
  res := .tup [.cod 18, .cod 19]
  outs := []
  m := fun d dh => span_ends d.1
  ok := ce_ok mixedP Tryz.func175 (by kernel_rfl) (orcOf_ok span_ends_tb) (dr := span_ends_dr) (lps := lpsOf lt0) (lps_fn (no_loop (by kernel_rfl))) (fun d dh => by kernel_rfl)

def span_none_tb : List (CEp) := []
def span_none (x0 : DText) : Option (Bool × Unit) :=
  some ((decide (x0.s = ([] : List UInt8))), ())
def span_none_ce : CEp where
  f := 235
  args := [.cod 17]
  hs := []
  res := .val (.one (.bool))
  outs := []
  m := fun d dh => span_none d.1
  ok := ceO Tryz.func235 (by kernel_rfl) span_none_tb (by kernel_rfl) fun d dh => by kernel_rfl

def cmp_isNaN_tb : List (CEp) := []
def cmp_isNaN (x0 : List UInt8) : Option (Bool × Unit) :=
  some ((decide (x0 ≠ x0)), ())
def cmp_isNaN_ce : CEp where
  f := 257
  args := [.one (.str)]
  hs := []
  res := .val (.one (.bool))
  outs := []
  m := fun d dh => cmp_isNaN d.1
  ok := ceO Tryz.func257 (by kernel_rfl) cmp_isNaN_tb (by kernel_rfl) fun d dh => by kernel_rfl

def cmp_Compare_tb : List (CEp) := [cmp_isNaN_ce]
def cmp_Compare (x0 : List UInt8) (x1 : List UInt8) : Option (Int × Unit) :=
  (cmp_isNaN x0).bind fun r1 =>
  (cmp_isNaN x1).bind fun r2 =>
  (bif r1.1 then
  (bif r2.1 then
  some (0, ())
  else
  some ((-1), ()))
  else
  (bif r2.1 then
  some (1, ())
  else
  (bif (decide (x0 < x1)) then
  some ((-1), ())
  else
  (bif (!(decide (x0 < x1) || decide (x0 = x1))) then
  some (1, ())
  else
  some (0, ())))))
def cmp_Compare_ce : CEp where
  f := 236
  args := [.one (.str), .one (.str)]
  hs := []
  res := .val (.one (.int .i64))
  outs := []
  m := fun d dh => cmp_Compare d.1 d.2.1
  ok := ceO Tryz.func236 (by kernel_rfl) cmp_Compare_tb (by kernel_rfl) fun d dh => by kernel_rfl

def span_compare_tb : List (CEp) := [cmp_Compare_ce]
def span_compare (x0 : DText) (x1 : DText) : Option (Int × Unit) :=
  (cmp_Compare x0.s x1.s).bind fun r1 =>
  some (r1.1, ())
def span_compare_ce : CEp where
  f := 178
  args := [.cod 17, .cod 17]
  hs := []
  res := .val (.one (.int .i64))
  outs := []
  m := fun d dh => span_compare d.1 d.2.1
  ok := ceO Tryz.func178 (by kernel_rfl) span_compare_tb (by kernel_rfl) fun d dh => by kernel_rfl

def span_above_tb : List (CEp) := [span_none_ce, span_compare_ce]
def span_above (x0 : DHigh) (x1 : DText) : Option (Bool × Unit) :=
  (span_none x0.text).bind fun r1 =>
  (bif r1.1 then
  some (true, ())
  else
  (span_compare x0.text x1).bind fun r2 =>
  some ((decide ((0 : Int) < r2.1)), ()))
def span_above_ce : CEp where
  f := 179
  args := [.cod 19, .cod 17]
  hs := []
  res := .val (.one (.bool))
  outs := []
  m := fun d dh => span_above d.1 d.2.1
  ok := ceO Tryz.func179 (by kernel_rfl) span_above_tb (by kernel_rfl) fun d dh => by kernel_rfl

def span_Key_tb : List (CEp) := []
def span_Key_l1 (a : ((List UInt8) × Int × Int × Unit) × Unit) : Option ((((List UInt8) × Int × Int × Unit) × Unit) ⊕ (((Bool × Unit) × Unit) ⊕ (Unit × Unit))) :=
  (bif (decide ((a.1.2.2.1 : Int) < a.1.2.1)) then
  (getI a.1.1 a.1.2.2.1).bind fun e1 =>
  (bif (decide ((97 : Int) ≤ (e1.toNat : Int))) then
  (bif (decide (((e1.toNat : Int) : Int) ≤ 122)) then
  some (.inl ((a.1.1, a.1.2.1, (IntKind.i64.wrap (a.1.2.2.1 + 1)), ()), ()))
  else
  (bif (decide ((48 : Int) ≤ (e1.toNat : Int))) then
  (bif (!(decide (((e1.toNat : Int) : Int) ≤ 57))) then
  some (.inr (.inl ((false, ()), ())))
  else
  some (.inl ((a.1.1, a.1.2.1, (IntKind.i64.wrap (a.1.2.2.1 + 1)), ()), ())))
  else
  some (.inr (.inl ((false, ()), ())))))
  else
  (bif (decide ((48 : Int) ≤ (e1.toNat : Int))) then
  (bif (!(decide (((e1.toNat : Int) : Int) ≤ 57))) then
  some (.inr (.inl ((false, ()), ())))
  else
  some (.inl ((a.1.1, a.1.2.1, (IntKind.i64.wrap (a.1.2.2.1 + 1)), ()), ())))
  else
  some (.inr (.inl ((false, ()), ())))))
  else
  some (.inr (.inr ((), ()))))
def span_Key_e1 : LEp := ⟨4, [0, 13, 14], [.one (.str), .one (.int .i64), .one (.int .i64)], [], [⟨.ret, [2], [.one (.bool)], []⟩, ⟨.exit 0, [], [], []⟩], span_Key_l1⟩
def span_Key_lt : List (LEp) := [span_Key_e1]
theorem span_Key_e1_ok : LeOk span_Key_e1 (nthL (bodyOf Tryz.f177) 0) := fun A env h k z hk => le_ok (E := span_Key_e1) (orcOf_ok span_Key_tb) (dr := dr0) (lps := lpsOf span_Key_lt) (no_loop (by kernel_rfl)) (fun a => by kernel_rfl) env h k z hk
def span_Key (x0 : List UInt8) : Option (Bool × Unit) :=
  (bif (decide (x0 = ([] : List UInt8))) then
  some (false, ())
  else
  (bif (decide ((20 : Int) < (x0.length : Int))) then
  some (false, ())
  else
  (loopM span_Key_l1 ((x0, (x0.length : Int), 0, ()), ())).bind fun b1 =>
  (match b1 with
  | .inl b2 =>
  some (b2.1.1, ())
  | .inr b3 =>
  some (true, ()))))
def span_Key_ce : CEp where
  f := 177
  args := [.one (.str)]
  hs := []
  res := .val (.one (.bool))
  outs := []
  m := fun d dh => span_Key d.1
  ok := ce_ok mixedP Tryz.func177 (by kernel_rfl) (orcOf_ok span_Key_tb) (dr := dr0) (lps := lpsOf span_Key_lt) (lps_fn (lps_of (n := 1) (by kernel_rfl) fun i hi => match i, hi with | 0, _ => lp_ok (E := span_Key_e1) (by kernel_rfl) span_Key_e1_ok)) (fun d dh => by kernel_rfl)

def span_Right_tb : List (CEp) := [span_ends_ce, span_none_ce, span_above_ce, span_Key_ce]
def span_Right (x0 : DSpan) : Option (Bool × Unit) :=
  (span_ends x0).bind fun r1 =>
  (span_none r1.1.1.text).bind fun r2 =>
  (bif r2.1 then
  (span_none r1.1.2.1.text).bind fun r3 =>
  (bif r3.1 then
  (span_above r1.1.2.1 r1.1.1.text).bind fun r4 =>
  some (r4.1, ())
  else
  (span_Key x0.hi).bind fun r5 =>
  (bif r5.1 then
  (span_above r1.1.2.1 r1.1.1.text).bind fun r6 =>
  some (r6.1, ())
  else
  some (false, ())))
  else
  (span_Key x0.lo).bind fun r7 =>
  (bif r7.1 then
  (span_none r1.1.2.1.text).bind fun r8 =>
  (bif r8.1 then
  (span_above r1.1.2.1 r1.1.1.text).bind fun r9 =>
  some (r9.1, ())
  else
  (span_Key x0.hi).bind fun r10 =>
  (bif r10.1 then
  (span_above r1.1.2.1 r1.1.1.text).bind fun r11 =>
  some (r11.1, ())
  else
  some (false, ())))
  else
  some (false, ())))
def span_Right_ce : CEp where
  f := 176
  args := [.cod 4]
  hs := []
  res := .val (.one (.bool))
  outs := []
  m := fun d dh => span_Right d.1
  ok := ceO Tryz.func176 (by kernel_rfl) span_Right_tb (by kernel_rfl) fun d dh => by kernel_rfl

def span_Parts_dr : Nat → Nat → DrA
  | 7, _ => ⟨[0, 2, 1, 5, 3, 4, 6], [[], [0], [], [2], [2, 3], [0, 1], (List.range 6)], [], [], [], false, []⟩
  | _, _ => ⟨[], [], [], [], [], false, []⟩
def span_Parts_tb : List (CEp) := [span_Right_ce]
def span_Parts_l1 (a : ((List (DSpan)) × (List UInt8) × Bool × (List (DSpan)) × Int × Int × Unit) × Unit) : Option ((((List (DSpan)) × (List UInt8) × Bool × (List (DSpan)) × Int × Int × Unit) × Unit) ⊕ (((Bool × Unit) × Unit) ⊕ ((Bool × Unit) × Unit))) :=
  (bif (decide ((a.1.2.2.2.2.2.1 : Int) < a.1.2.2.2.2.1)) then
  (getI a.1.2.2.2.1 a.1.2.2.2.2.2.1).bind fun e1 =>
  (span_Right e1).bind fun r2 =>
  (bif (!r2.1) then
  some (.inr (.inl ((false, ()), ())))
  else
  (bif (decide (e1.lo ≠ a.1.2.1)) then
  some (.inr (.inl ((false, ()), ())))
  else
  (bif a.1.2.2.1 then
  some (.inr (.inl ((false, ()), ())))
  else
  (bif (decide (e1.hi = ([] : List UInt8))) then
  (bif (decide ((a.1.2.2.2.2.2.1 : Int) < (IntKind.i64.wrap ((a.1.1.length : Int) - 1)))) then
  some (.inr (.inl ((false, ()), ())))
  else
  some (.inl ((a.1.1, e1.hi, (decide (e1.hi = ([] : List UInt8))), a.1.2.2.2.1, a.1.2.2.2.2.1, (IntKind.i64.wrap (a.1.2.2.2.2.2.1 + 1)), ()), ())))
  else
  some (.inl ((a.1.1, e1.hi, (decide (e1.hi = ([] : List UInt8))), a.1.2.2.2.1, a.1.2.2.2.2.1, (IntKind.i64.wrap (a.1.2.2.2.2.2.1 + 1)), ()), ()))))))
  else
  some (.inr (.inr ((a.1.2.2.1, ()), ()))))
def span_Parts_e1 : LEp := ⟨3, [0, 3, 4, 7, 8, 9], [.one (.sl 4), .one (.str), .one (.bool), .one (.sl 4), .one (.int .i64), .one (.int .i64)], [], [⟨.ret, [2], [.one (.bool)], []⟩, ⟨.exit 0, [4], [.one (.bool)], []⟩], span_Parts_l1⟩
def span_Parts_lt : List (LEp) := [span_Parts_e1]
theorem span_Parts_e1_ok : LeOk span_Parts_e1 (nthL (bodyOf Tryz.f182) 0) := fun A env h k z hk => le_ok (E := span_Parts_e1) (orcOf_ok span_Parts_tb) (dr := span_Parts_dr) (lps := lpsOf span_Parts_lt) (no_loop (by kernel_rfl)) (fun a => by kernel_rfl) env h k z hk
def span_Parts (x0 : List (DSpan)) : Option (Bool × Unit) :=
  (loopM span_Parts_l1 ((x0, ([] : List UInt8), false, x0, (x0.length : Int), 0, ()), ())).bind fun b1 =>
  (match b1 with
  | .inl b2 =>
  some (b2.1.1, ())
  | .inr b3 =>
  some (b3.1.1, ()))
def span_Parts_ce : CEp where
  f := 182
  args := [.one (.sl 4)]
  hs := []
  res := .val (.one (.bool))
  outs := []
  m := fun d dh => span_Parts d.1
  ok := ce_ok mixedP Tryz.func182 (by kernel_rfl) (orcOf_ok span_Parts_tb) (dr := span_Parts_dr) (lps := lpsOf span_Parts_lt) (lps_fn (lps_of (n := 1) (by kernel_rfl) fun i hi => match i, hi with | 0, _ => lp_ok (E := span_Parts_e1) (by kernel_rfl) span_Parts_e1_ok)) (fun d dh => by kernel_rfl)

def shares_right_tb : List (CEp) := [slices_ContainsFunc_ce, shares_within_ce, shares_spans_ce, span_Parts_ce]
def shares_right (x0 : DWork) : Option (Bool × Unit) :=
  (slices_ContainsFunc x0.shares.list x0).bind fun r1 =>
  (shares_within r1.2.1.shares.epoch 1 1073741824).bind fun r2 =>
  (bif r2.1 then
  (bif (decide (((r1.2.1.shares.list.length : Int) : Int) ≤ 40)) then
  (bif (!r1.1) then
  (shares_spans r1.2.1).bind fun r3 =>
  (span_Parts r3.1).bind fun r4 =>
  some (r4.1, ())
  else
  some (false, ()))
  else
  some (false, ()))
  else
  some (false, ()))
def shares_right_ce : CEp where
  f := 99
  args := [.cod 16]
  hs := []
  res := .val (.one (.bool))
  outs := []
  m := fun d dh => shares_right d.1
  ok := ceO Tryz.func99 (by kernel_rfl) shares_right_tb (by kernel_rfl) fun d dh => by kernel_rfl

def shares_Right_tb : List (CEp) := [shares_right_ce]
def shares_Right (x0 : DShares) : Option (Bool × Unit) :=
  (shares_right (⟨x0⟩ : DWork)).bind fun r1 =>
  some (r1.1, ())
def shares_Right_ce : CEp where
  f := 48
  args := [.cod 15]
  hs := []
  res := .val (.one (.bool))
  outs := []
  m := fun d dh => shares_Right d.1
  ok := ceO Tryz.func48 (by kernel_rfl) shares_Right_tb (by kernel_rfl) fun d dh => by kernel_rfl

def ruling_New_tb : List (CEp) := []
def ruling_New  : Option (Unit × (((List (DVerdict)) × Unit × Unit) × (List ((Int × Int) × Int)) × Unit × Unit)) :=
  some ((), (([], (), ()), ([] : List ((Int × Int) × Int)), (), ()))
def ruling_New_ce : CEp where
  f := 49
  args := []
  hs := []
  res := .val (.one (.ptr 0 0))
  outs := [.obj 197 [.own 12 2, .mo 1], .mmap (.two .i64 .i64) (.int .i64), .row 41 5]
  m := fun d dh => ruling_New
  ok := ceO Tryz.func49 (by kernel_rfl) ruling_New_tb (by kernel_rfl) fun d dh => by kernel_rfl

def clone100 (x : List (DShare)) : Option ((List (DShare)) × (Unit × Unit)) :=
  if x.length ≤ 140737488355328 ∧ x.length * 48 ≤ 140737488355328 then some (x, ((), ())) else none
def clone100_ce : CEp where
  f := 100
  args := [.one (.sl 5)]
  hs := []
  res := .val (.one (.own 5 0))
  outs := [.row 99 4]
  m := fun d dh => clone100 d.1
  ok := fun d dh r hr => by
    unfold clone100 at hr
    split at hr
    · rename_i hroom
      injection hr with hr
      subst hr
      exact clone_tr mixedP Tryz.func100 (by kernel_rfl) rfl rfl (zv := .agg #[.string ⟨#[]⟩, .string ⟨#[]⟩, .int .i64 0, .int .i64 0]) (he := by kernel_rfl) (hsz := by kernel_rfl) (hz := by kernel_rfl) (hby := by kernel_rfl) rfl rfl d.1 hroom
    · cases hr

def registry_copied_tb : List (CEp) := [clone100_ce]
def registry_copied (x0 : DPlan) : Option ((DPlan) × Unit) :=
  (clone100 x0.shares.list).bind fun r1 =>
  some ((⟨(⟨x0.shares.epoch, r1.1⟩ : DShares), x0.under, x0.x⟩ : DPlan), ())
def registry_copied_ce : CEp where
  f := 50
  args := [.cod 21]
  hs := []
  res := .val (.cod 21)
  outs := []
  m := fun d dh => registry_copied d.1
  ok := ceO Tryz.func50 (by kernel_rfl) registry_copied_tb (by kernel_rfl) fun d dh => by kernel_rfl

def registry_New_dr : Nat → Nat → DrA
  | 3, _ => ⟨[2, 3, 0, 1, 4, 5, 6, 7], [[], [0], [], [2], [0, 2, 3], (List.range 5), (List.range 6), (List.range 7)], [2], [0], [0], false, []⟩
  | _, _ => ⟨[], [], [], [], [], false, []⟩
def registry_New_tb : List (CEp) := [shares_Right_ce, ruling_New_ce, registry_copied_ce]
def registry_New (x0 : DShares) : Option (Unit × ((Unit × Int × (List (DShare)) × Bool × Int × (List UInt8) × (List UInt8) × Int × Int × Int × Int × Int × Int × Unit) × ((List (DVerdict)) × Unit × Unit) × (List ((Int × Int) × Int)) × Unit × Unit)) :=
  (shares_Right x0).bind fun r1 =>
  (bif (!r1.1) then
  none
  else
  (ruling_New).bind fun r2 =>
  (registry_copied (⟨x0, false, (⟨0, (⟨([] : List UInt8), ([] : List UInt8)⟩ : DSpan), 0, 0, 0, 0, 0⟩ : DScheme)⟩ : DPlan)).bind fun r3 =>
  some ((), (((), r3.1.shares.epoch, r3.1.shares.list, r3.1.under, r3.1.x.num, r3.1.x.span.lo, r3.1.x.span.hi, r3.1.x.from_, r3.1.x.to_, r3.1.x.epoch, r3.1.x.under, r3.1.x.stage, 0, ()), r2.2.1, r2.2.2.1, (), ())))
def registry_New_ce : CEp where
  f := 9
  args := [.cod 15]
  hs := []
  res := .val (.one (.ptr 0 0))
  outs := [.obj 110 [.ptr 1 0, .int .i64, .sl 5, .bool, .int .i64, .str, .str, .int .i64, .int .i64, .int .i64, .int .i64, .int .u8, .int .i64], .obj 197 [.own 12 3, .mo 2], .mmap (.two .i64 .i64) (.int .i64), .row 41 5]
  m := fun d dh => registry_New d.1
  ok := ce_ok mixedP Tryz.func9 (by kernel_rfl) (orcOf_ok registry_New_tb) (dr := registry_New_dr) (lps := lpsOf lt0) (lps_fn (no_loop (by kernel_rfl))) (fun d dh => by kernel_rfl)

def registry_known_tb : List (CEp) := []
def registry_known (h0 : Unit × Int × (List (DShare)) × Bool × Int × (List UInt8) × (List UInt8) × Int × Int × Int × Int × Int × Int × Unit) (h1 : (List (DVerdict)) × Unit × Unit) (h2 : List ((Int × Int) × Int)) : Option (Bool × ((Unit × Int × (List (DShare)) × Bool × Int × (List UInt8) × (List UInt8) × Int × Int × Int × Int × Int × Int × Unit) × ((List (DVerdict)) × Unit × Unit) × (List ((Int × Int) × Int)) × Unit × Unit × Unit)) :=
  some (true, (h0, h1, h2, (), (), ()))
def registry_known_ce : CEp where
  f := 54
  args := [.one (.ptr 0 0)]
  hs := [.obj 110 [.ptr 1 0, .int .i64, .sl 5, .bool, .int .i64, .str, .str, .int .i64, .int .i64, .int .i64, .int .i64, .int .u8, .int .i64], .obj 197 [.own 12 3, .mo 2], .mmap (.two .i64 .i64) (.int .i64), .row 41 5]
  res := .val (.one (.bool))
  outs := [.obj 110 [.ptr 1 0, .int .i64, .sl 5, .bool, .int .i64, .str, .str, .int .i64, .int .i64, .int .i64, .int .i64, .int .u8, .int .i64], .obj 197 [.own 12 4, .mo 2], .mmap (.two .i64 .i64) (.int .i64), .dead, .row 41 5]
  m := fun d dh => registry_known dh.1 dh.2.1 dh.2.2.1
  ok := ceO Tryz.func54 (by kernel_rfl) registry_known_tb (by kernel_rfl) fun d dh => by kernel_rfl

def scheme_within_tb : List (CEp) := []
def scheme_within (x0 : Int) (x1 : Int) (x2 : Int) : Option (Bool × Unit) :=
  (bif (decide ((x1 : Int) ≤ x0)) then
  some ((decide ((x0 : Int) ≤ x2)), ())
  else
  some (false, ()))
def scheme_within_ce : CEp where
  f := 167
  args := [.one (.int .i64), .one (.int .i64), .one (.int .i64)]
  hs := []
  res := .val (.one (.bool))
  outs := []
  m := fun d dh => scheme_within d.1 d.2.1 d.2.2.1
  ok := ceO Tryz.func167 (by kernel_rfl) scheme_within_tb (by kernel_rfl) fun d dh => by kernel_rfl

def span_over_tb : List (CEp) := [span_none_ce, span_compare_ce]
def span_over (x0 : DHigh) (x1 : DHigh) : Option (Bool × Unit) :=
  (span_none x0.text).bind fun r1 =>
  (bif r1.1 then
  some (true, ())
  else
  (span_none x1.text).bind fun r2 =>
  (bif (!r2.1) then
  (span_compare x0.text x1.text).bind fun r3 =>
  some ((decide ((0 : Int) ≤ r3.1)), ())
  else
  some (false, ())))
def span_over_ce : CEp where
  f := 250
  args := [.cod 19, .cod 19]
  hs := []
  res := .val (.one (.bool))
  outs := []
  m := fun d dh => span_over d.1 d.2.1
  ok := ceO Tryz.func250 (by kernel_rfl) span_over_tb (by kernel_rfl) fun d dh => by kernel_rfl

def span_Within_tb : List (CEp) := [span_ends_ce, span_Right_ce, span_compare_ce, span_over_ce]
def span_Within (x0 : DSpan) (x1 : DSpan) : Option (Bool × Unit) :=
  (span_ends x0).bind fun r1 =>
  (span_ends x1).bind fun r2 =>
  (span_Right x0).bind fun r3 =>
  (bif r3.1 then
  (span_Right x1).bind fun r4 =>
  (bif r4.1 then
  (span_compare r2.1.1.text r1.1.1.text).bind fun r5 =>
  (bif (decide ((r5.1 : Int) ≤ 0)) then
  (span_over r2.1.2.1 r1.1.2.1).bind fun r6 =>
  some (r6.1, ())
  else
  some (false, ()))
  else
  some (false, ()))
  else
  some (false, ()))
def span_Within_ce : CEp where
  f := 230
  args := [.cod 4, .cod 4]
  hs := []
  res := .val (.one (.bool))
  outs := []
  m := fun d dh => span_Within d.1 d.2.1
  ok := ceO Tryz.func230 (by kernel_rfl) span_Within_tb (by kernel_rfl) fun d dh => by kernel_rfl

def shares_Turn1_tb : List (CEp) := [span_Within_ce]
def shares_Turn1 (x0 : DSpan) (h0 : DSpan) : Option (Bool × ((DSpan) × Unit)) :=
  (span_Within h0 x0).bind fun r1 =>
  some (r1.1, (h0, ()))
def shares_Turn1_ce : CEp where
  f := 229
  args := [.cod 4, .one (.ptr 0 0)]
  hs := [.cobj 35 4]
  res := .val (.one (.bool))
  outs := [.cobj 35 4]
  m := fun d dh => shares_Turn1 d.1 dh.1
  ok := ceO Tryz.func229 (by kernel_rfl) shares_Turn1_tb (by kernel_rfl) fun d dh => by kernel_rfl

def shares_at1_tb : List (CEp) := [shares_Turn1_ce]
def shares_at1 (x0 : DShare) (h0 : Unit × Unit) (h1 : DSpan) : Option (Bool × ((Unit × Unit) × (DSpan) × Unit)) :=
  (shares_Turn1 x0.span h1).bind fun r1 =>
  some (r1.1, (((), ()), r1.2.1, ()))
def shares_at1_ce : CEp where
  f := 174
  args := [.cod 5, .one (.ptr 0 0)]
  hs := [.obj 192 [.clo 229 [1]], .cobj 35 4]
  res := .val (.one (.bool))
  outs := [.obj 192 [.clo 229 [1]], .cobj 35 4]
  m := fun d dh => shares_at1 d.1 dh.1 dh.2.1
  ok := ceO Tryz.func174 (by kernel_rfl) shares_at1_tb (by kernel_rfl) fun d dh => by kernel_rfl

def slices_IndexFunc_2_tb : List (CEp) := [shares_at1_ce]
def slices_IndexFunc_2_l1 (a : ((List (DShare)) × Unit × Int × Int × Unit) × ((Unit × Unit) × (DSpan) × Unit)) : Option ((((List (DShare)) × Unit × Int × Int × Unit) × ((Unit × Unit) × (DSpan) × Unit)) ⊕ (((Int × Unit) × ((Unit × Unit) × (DSpan) × Unit)) ⊕ (Unit × ((Unit × Unit) × (DSpan) × Unit)))) :=
  (bif (decide ((a.1.2.2.2.1 : Int) < a.1.2.2.1)) then
  (getI a.1.1 a.1.2.2.2.1).bind fun e1 =>
  (shares_at1 e1 ((), ()) a.2.2.1).bind fun r2 =>
  (bif r2.1 then
  some (.inr (.inl ((a.1.2.2.2.1, ()), (((), ()), r2.2.2.1, ()))))
  else
  some (.inl ((a.1.1, (), a.1.2.2.1, (IntKind.i64.wrap (a.1.2.2.2.1 + 1)), ()), (((), ()), r2.2.2.1, ()))))
  else
  some (.inr (.inr ((), (((), ()), a.2.2.1, ())))))
def slices_IndexFunc_2_e1 : LEp := ⟨2, [0, 1, 7, 8], [.one (.sl 5), .one (.clo 174 [0]), .one (.int .i64), .one (.int .i64)], [.obj 192 [.clo 229 [1]], .cobj 35 4], [⟨.ret, [4], [.one (.int .i64)], [.obj 192 [.clo 229 [1]], .cobj 35 4]⟩, ⟨.exit 0, [], [], [.obj 192 [.clo 229 [1]], .cobj 35 4]⟩], slices_IndexFunc_2_l1⟩
def slices_IndexFunc_2_lt : List (LEp) := [slices_IndexFunc_2_e1]
theorem slices_IndexFunc_2_e1_ok : LeOk slices_IndexFunc_2_e1 (nthL (bodyOf Tryz.f173) 0) := fun A env h k z hk => le_ok (E := slices_IndexFunc_2_e1) (orcOf_ok slices_IndexFunc_2_tb) (dr := dr0) (lps := lpsOf slices_IndexFunc_2_lt) (no_loop (by kernel_rfl)) (fun a => by kernel_rfl) env h k z hk
def slices_IndexFunc_2 (x0 : List (DShare)) (h0 : Unit × Unit) (h1 : DSpan) : Option (Int × ((Unit × Unit) × (DSpan) × Unit)) :=
  (loopM slices_IndexFunc_2_l1 ((x0, (), (x0.length : Int), 0, ()), (((), ()), h1, ()))).bind fun b1 =>
  (match b1 with
  | .inl b2 =>
  some (b2.1.1, (((), ()), b2.2.2.1, ()))
  | .inr b3 =>
  some ((-1), (((), ()), b3.2.2.1, ())))
def slices_IndexFunc_2_ce : CEp where
  f := 173
  args := [.one (.sl 5), .one (.clo 174 [0])]
  hs := [.obj 192 [.clo 229 [1]], .cobj 35 4]
  res := .val (.one (.int .i64))
  outs := [.obj 192 [.clo 229 [1]], .cobj 35 4]
  m := fun d dh => slices_IndexFunc_2 d.1 dh.1 dh.2.1
  ok := ce_ok mixedP Tryz.func173 (by kernel_rfl) (orcOf_ok slices_IndexFunc_2_tb) (dr := dr0) (lps := lpsOf slices_IndexFunc_2_lt) (lps_fn (lps_of (n := 1) (by kernel_rfl) fun i hi => match i, hi with | 0, _ => lp_ok (E := slices_IndexFunc_2_e1) (by kernel_rfl) slices_IndexFunc_2_e1_ok)) (fun d dh => by kernel_rfl)

def shares_at_tb : List (CEp) := [shares_right_ce, slices_IndexFunc_2_ce]
def shares_at (x0 : DWork) (h0 : DSpan) : Option (Int × ((DSpan) × Unit)) :=
  (shares_right x0).bind fun r1 =>
  (bif (!r1.1) then
  some ((-1), (h0, ()))
  else
  (slices_IndexFunc_2 x0.shares.list ((), ()) h0).bind fun r2 =>
  some (r2.1, (r2.2.2.1, ())))
def shares_at_ce : CEp where
  f := 96
  args := [.cod 16, .one (.clo 229 [0])]
  hs := [.cobj 35 4]
  res := .val (.one (.int .i64))
  outs := [.cobj 35 4]
  m := fun d dh => shares_at d.1 dh.1
  ok := ceO Tryz.func96 (by kernel_rfl) shares_at_tb (by kernel_rfl) fun d dh => by kernel_rfl

def cloneA100 (x : List (DShare)) : Option (Nat × ((List (DShare)) × Unit)) :=
  if x.length ≠ 0 ∧ x.length ≤ 140737488355328 ∧ x.length * 48 ≤ 140737488355328 then some (x.length, (x, ())) else none
def cloneA100_ce : CEp where
  f := 100
  args := [.one (.sl 5)]
  hs := []
  res := .val (.one (.asz 6 0))
  outs := [.arr 99 6 true]
  m := fun d dh => cloneA100 d.1
  ok := fun d dh r hr => by
    unfold cloneA100 at hr
    split at hr
    · rename_i hroom
      injection hr with hr
      subst hr
      exact cloneF_tr mixedP Tryz.func100 (by kernel_rfl) rfl rfl (zv := .agg #[.string ⟨#[]⟩, .string ⟨#[]⟩, .int .i64 0, .int .i64 0]) (he := by kernel_rfl) (hsz := by kernel_rfl) (hz := by kernel_rfl) (hby := by kernel_rfl) rfl rfl (F := 6) (zt := ((⟨(⟨([] : List UInt8), ([] : List UInt8)⟩ : DSpan), 0, 0⟩ : DShare) : DShare)) d.1 d.1 (by kernel_rfl) rfl rfl (fun _ _ _ h => h) hroom.1 hroom.2
    · cases hr

def slices_Values_tb : List (CEp) := []
def slices_Values (x0 : List (List UInt8)) : Option (Unit × ((List (List UInt8)) × Unit)) :=
  some ((), (x0, ()))
def slices_Values_ce : CEp where
  f := 264
  args := [.one (.sl 2)]
  hs := []
  res := .val (.one (.clo 268 [0]))
  outs := [.cobj 84 3]
  m := fun d dh => slices_Values d.1
  ok := ceO Tryz.func264 (by kernel_rfl) slices_Values_tb (by kernel_rfl) fun d dh => by kernel_rfl

def slices_Collect_tb : List (CEp) := [appendSeq_ce]
def slices_Collect (h0 : List (List UInt8)) : Option ((Nat × Nat) × ((List (List UInt8)) × (List (List UInt8)) × Unit)) :=
  (appendSeq h0).bind fun r1 =>
  some ((r1.1.1, r1.1.2), (r1.2.1, r1.2.2.1, ()))
def slices_Collect_ce : CEp where
  f := 266
  args := [.one (.clo 268 [0])]
  hs := [.cobj 84 3]
  res := .val (.one (.asu 2 1))
  outs := [.cobj 84 3, .arr 9 2 false]
  m := fun d dh => slices_Collect dh.1
  ok := ceO Tryz.func266 (by kernel_rfl) slices_Collect_tb (by kernel_rfl) fun d dh => by kernel_rfl

def slices_Sorted_tb : List (CEp) := [slices_Collect_ce, sortT_ce]
def slices_Sorted (h0 : List (List UInt8)) : Option ((Nat × Nat) × ((List (List UInt8)) × (List (List UInt8)) × Unit)) :=
  (slices_Collect h0).bind fun r1 =>
  (sortT (r1.1.1, r1.1.2) r1.2.2.1).bind fun r2 =>
  some ((r1.1.1, r1.1.2), (r1.2.1, r2.2.1, ()))
def slices_Sorted_ce : CEp where
  f := 263
  args := [.one (.clo 268 [0])]
  hs := [.cobj 84 3]
  res := .val (.one (.asu 2 1))
  outs := [.cobj 84 3, .arr 9 2 false]
  m := fun d dh => slices_Sorted dh.1
  ok := ceO Tryz.func263 (by kernel_rfl) slices_Sorted_tb (by kernel_rfl) fun d dh => by kernel_rfl

def slices_Compact_dr : Nat → Nat → DrA
  | 6, _ => ⟨[0, 1, 2, 4, 5, 6, 7, 3, 8, 9], [[], [], [0, 1], [0, 1, 2], [], [], [5], [4, 5, 6], [4, 5, 6, 7], (List.range 9)], [], [], [], false, []⟩
  | 11, _ => ⟨[0, 1, 2, 4, 5, 6, 7, 3, 8, 9], [[], [], [0, 1], [0, 1, 2], [], [], [5], [4, 5, 6], [4, 5, 6, 7], (List.range 9)], [], [], [], false, []⟩
  | _, _ => ⟨[], [], [], [], [], false, []⟩
def slices_Compact_tb : List (CEp) := []
def slices_Compact_l2 (a : ((Nat × Nat) × Int × (Nat × Nat) × Int × Unit) × ((List (List UInt8)) × Unit)) : Option ((((Nat × Nat) × Int × (Nat × Nat) × Int × Unit) × ((List (List UInt8)) × Unit)) ⊕ ((((Nat × Nat) × Int × Unit) × ((List (List UInt8)) × Unit)))) :=
  (bif (decide ((a.1.2.2.2.1 : Int) < ((a.1.2.2.1.2 : Nat) : Int))) then
  (if 0 ≤ (a.1.2.2.2.1 : Int) ∧ (a.1.2.2.2.1 : Int) < ((a.1.2.2.1.2 : Nat) : Int) then
  (if 0 ≤ ((IntKind.i64.wrap (a.1.2.2.2.1 - 1)) : Int) ∧ ((IntKind.i64.wrap (a.1.2.2.2.1 - 1)) : Int) < ((a.1.2.2.1.2 : Nat) : Int) then
  (a.2.1[(a.1.2.2.1.1 + (a.1.2.2.2.1 : Int).toNat)]?).bind fun e1 =>
  (a.2.1[(a.1.2.2.1.1 + ((IntKind.i64.wrap (a.1.2.2.2.1 - 1)) : Int).toNat)]?).bind fun e2 =>
  (bif (decide (e1 ≠ e2)) then
  (if 0 ≤ (a.1.2.2.2.1 : Int) ∧ (a.1.2.2.2.1 : Int) < ((a.1.2.2.1.2 : Nat) : Int) then
  (a.2.1[(a.1.2.2.1.1 + (a.1.2.2.2.1 : Int).toNat)]?).bind fun e3 =>
  (if 0 ≤ (a.1.2.1 : Int) ∧ (a.1.2.1 : Int) < ((a.1.1.2 : Nat) : Int) then
  (a.2.1[(a.1.1.1 + (a.1.2.1 : Int).toNat)]?).bind fun e4 =>
  some (.inl (((a.1.1.1, a.1.1.2), (IntKind.i64.wrap (a.1.2.1 + 1)), (a.1.2.2.1.1, a.1.2.2.1.2), (IntKind.i64.wrap (a.1.2.2.2.1 + 1)), ()), ((a.2.1.set (a.1.1.1 + (a.1.2.1 : Int).toNat) e3), ())))
  else none)
  else none)
  else
  some (.inl (((a.1.1.1, a.1.1.2), a.1.2.1, (a.1.2.2.1.1, a.1.2.2.1.2), (IntKind.i64.wrap (a.1.2.2.2.1 + 1)), ()), (a.2.1, ()))))
  else none)
  else none)
  else
  some (.inr (((a.1.1.1, a.1.1.2), a.1.2.1, ()), (a.2.1, ()))))
def slices_Compact_e2 : LEp := ⟨9, [0, 3, 4, 5], [.one (.asu 2 0), .one (.int .i64), .one (.asu 2 0), .one (.int .i64)], [.arr 9 2 true], [⟨.exit 2, [0, 3], [.one (.asu 2 0), .one (.int .i64)], [.arr 9 2 true]⟩], slices_Compact_l2⟩
def slices_Compact_l1 (a : ((Nat × Nat) × Int × Unit) × ((List (List UInt8)) × Unit)) : Option ((((Nat × Nat) × Int × Unit) × ((List (List UInt8)) × Unit)) ⊕ ((((Nat × Nat) × Unit) × ((List (List UInt8)) × Unit)) ⊕ (((Nat × Nat) × Unit) × ((List (List UInt8)) × Unit)))) :=
  (bif (decide ((a.1.2.1 : Int) < ((a.1.1.2 : Nat) : Int))) then
  (if 0 ≤ (a.1.2.1 : Int) ∧ (a.1.2.1 : Int) < ((a.1.1.2 : Nat) : Int) then
  (if 0 ≤ ((IntKind.i64.wrap (a.1.2.1 - 1)) : Int) ∧ ((IntKind.i64.wrap (a.1.2.1 - 1)) : Int) < ((a.1.1.2 : Nat) : Int) then
  (a.2.1[(a.1.1.1 + (a.1.2.1 : Int).toNat)]?).bind fun e1 =>
  (a.2.1[(a.1.1.1 + ((IntKind.i64.wrap (a.1.2.1 - 1)) : Int).toNat)]?).bind fun e2 =>
  (bif (decide (e1 = e2)) then
  (if 0 ≤ ((a.1.2.1 : Int) : Int) ∧ ((a.1.2.1 : Int) : Int) ≤ ((a.1.1.2 : Nat) : Int) ∧ ((a.1.1.2 : Nat) : Int) ≤ ((a.1.1.2 : Nat) : Int) ∧ ((a.1.1.2 : Nat) : Int) ≤ 140737488355328 then
  (loopM slices_Compact_l2 (((a.1.1.1, a.1.1.2), a.1.2.1, ((a.1.1.1 + (a.1.2.1 : Int).toNat), (((a.1.1.2 : Nat) : Int).toNat - (a.1.2.1 : Int).toNat)), 1, ()), (a.2.1, ()))).bind fun b3 =>
  (if 0 ≤ ((b3.1.2.1 : Int) : Int) ∧ ((b3.1.2.1 : Int) : Int) ≤ ((b3.1.1.2 : Nat) : Int) ∧ ((b3.1.1.2 : Nat) : Int) ≤ ((b3.1.1.2 : Nat) : Int) ∧ ((b3.1.1.2 : Nat) : Int) ≤ 140737488355328 then
  (if (b3.1.1.1 + (b3.1.2.1 : Int).toNat) ≤ b3.2.1.length then
  let y4 : List (List UInt8) := (b3.2.1.take (b3.1.1.1 + (b3.1.2.1 : Int).toNat) ++ List.replicate (((b3.1.1.2 : Nat) : Int).toNat - (b3.1.2.1 : Int).toNat) (([] : List UInt8) : List UInt8) ++ b3.2.1.drop ((b3.1.1.1 + (b3.1.2.1 : Int).toNat) + (((b3.1.1.2 : Nat) : Int).toNat - (b3.1.2.1 : Int).toNat)))
  (if 0 ≤ ((0 : Int) : Int) ∧ ((0 : Int) : Int) ≤ (b3.1.2.1 : Int) ∧ (b3.1.2.1 : Int) ≤ ((b3.1.1.2 : Nat) : Int) ∧ (b3.1.2.1 : Int) ≤ 140737488355328 then
  some (.inr (.inl ((((b3.1.1.1 + (0 : Int).toNat), ((b3.1.2.1 : Int).toNat - (0 : Int).toNat)), ()), (y4, ()))))
  else none)
  else none)
  else none)
  else none)
  else
  some (.inl (((a.1.1.1, a.1.1.2), (IntKind.i64.wrap (a.1.2.1 + 1)), ()), (a.2.1, ()))))
  else none)
  else none)
  else
  some (.inr (.inr (((a.1.1.1, a.1.1.2), ()), (a.2.1, ())))))
def slices_Compact_e1 : LEp := ⟨4, [0, 3], [.one (.asu 2 0), .one (.int .i64)], [.arr 9 2 true], [⟨.ret, [2], [.one (.asu 2 0)], [.arr 9 2 true]⟩, ⟨.exit 0, [0], [.one (.asu 2 0)], [.arr 9 2 true]⟩], slices_Compact_l1⟩
def slices_Compact_lt : List (LEp) := [slices_Compact_e2, slices_Compact_e1]
theorem slices_Compact_e2_ok : LeOk slices_Compact_e2 (nthL (nthL (bodyOf Tryz.f262) 0) 0) := fun A env h k z hk => le_ok (E := slices_Compact_e2) (orcOf_ok slices_Compact_tb) (dr := slices_Compact_dr) (lps := lpsOf slices_Compact_lt) (no_loop (by kernel_rfl)) (fun a => by kernel_rfl) env h k z hk
theorem slices_Compact_e1_ok : LeOk slices_Compact_e1 (nthL (bodyOf Tryz.f262) 0) := fun A env h k z hk => le_ok (E := slices_Compact_e1) (orcOf_ok slices_Compact_tb) (dr := slices_Compact_dr) (lps := lpsOf slices_Compact_lt) (lps_of (n := 1) (by kernel_rfl) fun i hi => match i, hi with | 0, _ => lp_ok (E := slices_Compact_e2) (by kernel_rfl) slices_Compact_e2_ok) (fun a => by kernel_rfl) env h k z hk
def slices_Compact (x0 : Nat × Nat) (h0 : List (List UInt8)) : Option ((Nat × Nat) × ((List (List UInt8)) × Unit)) :=
  (bif (decide ((((x0.2 : Nat) : Int) : Int) < 2)) then
  some ((x0.1, x0.2), (h0, ()))
  else
  (loopM slices_Compact_l1 (((x0.1, x0.2), 1, ()), (h0, ()))).bind fun b1 =>
  (match b1 with
  | .inl b2 =>
  some ((b2.1.1.1, b2.1.1.2), (b2.2.1, ()))
  | .inr b3 =>
  some ((b3.1.1.1, b3.1.1.2), (b3.2.1, ()))))
def slices_Compact_ce : CEp where
  f := 262
  args := [.one (.asu 2 0)]
  hs := [.arr 9 2 true]
  res := .val (.one (.asu 2 0))
  outs := [.arr 9 2 true]
  m := fun d dh => slices_Compact d.1 dh.1
  ok := ce_ok mixedP Tryz.func262 (by kernel_rfl) (orcOf_ok slices_Compact_tb) (dr := slices_Compact_dr) (lps := lpsOf slices_Compact_lt) (lps_fn (lps_of (n := 1) (by kernel_rfl) fun i hi => match i, hi with | 0, _ => lp_ok (E := slices_Compact_e1) (by kernel_rfl) slices_Compact_e1_ok)) (fun d dh => by kernel_rfl)

def span_Has_tb : List (CEp) := [span_ends_ce, span_Right_ce, span_Key_ce, span_compare_ce, span_above_ce]
def span_Has (x0 : DSpan) (x1 : List UInt8) : Option (Bool × Unit) :=
  (span_ends x0).bind fun r1 =>
  (span_Right x0).bind fun r2 =>
  (bif r2.1 then
  (span_Key x1).bind fun r3 =>
  (bif r3.1 then
  (span_compare r1.1.1.text (⟨x1⟩ : DText)).bind fun r4 =>
  (bif (decide ((r4.1 : Int) ≤ 0)) then
  (span_above r1.1.2.1 (⟨x1⟩ : DText)).bind fun r5 =>
  some (r5.1, ())
  else
  some (false, ()))
  else
  some (false, ()))
  else
  some (false, ()))
def span_Has_ce : CEp where
  f := 98
  args := [.cod 4, .one (.str)]
  hs := []
  res := .val (.one (.bool))
  outs := []
  m := fun d dh => span_Has d.1 d.2.1
  ok := ceO Tryz.func98 (by kernel_rfl) span_Has_tb (by kernel_rfl) fun d dh => by kernel_rfl

def span_Cut_tb : List (CEp) := [span_Right_ce, slices_Values_ce, slices_Sorted_ce, slices_Compact_ce, span_Has_ce]
def span_Cut_l1 (a : (Unit × (List (DSpan)) × (Nat × Nat) × Int × Int × Unit) × ((DSpan) × (List (List UInt8)) × Unit × Unit)) : Option (((Unit × (List (DSpan)) × (Nat × Nat) × Int × Int × Unit) × ((DSpan) × (List (List UInt8)) × Unit × Unit)) ⊕ (((Unit × (List (DSpan)) × Unit) × ((DSpan) × (List (List UInt8)) × Unit × Unit × Unit)))) :=
  (bif (decide ((a.1.2.2.2.2.1 : Int) < a.1.2.2.2.1)) then
  (if 0 ≤ (a.1.2.2.2.2.1 : Int) ∧ (a.1.2.2.2.2.1 : Int) < ((a.1.2.2.1.2 : Nat) : Int) then
  (a.2.2.1[(a.1.2.2.1.1 + (a.1.2.2.2.2.1 : Int).toNat)]?).bind fun e1 =>
  (span_Has a.2.1 e1).bind fun r2 =>
  (bif (!r2.1) then
  some (.inl (((), a.1.2.1, (a.1.2.2.1.1, a.1.2.2.1.2), a.1.2.2.2.1, (IntKind.i64.wrap (a.1.2.2.2.2.1 + 1)), ()), (a.2.1, a.2.2.1, (), ())))
  else
  (bif (decide (e1 = a.2.1.lo)) then
  some (.inl (((), a.1.2.1, (a.1.2.2.1.1, a.1.2.2.1.2), a.1.2.2.2.1, (IntKind.i64.wrap (a.1.2.2.2.2.1 + 1)), ()), (a.2.1, a.2.2.1, (), ())))
  else
  (if a.1.2.1.length + ([(⟨a.2.1.lo, e1⟩ : DSpan)] : List (DSpan)).length ≤ 140737488355328 ∧ (a.1.2.1.length + ([(⟨a.2.1.lo, e1⟩ : DSpan)] : List (DSpan)).length) * 32 ≤ 140737488355328 then
  some (.inl (((), (a.1.2.1 ++ ([(⟨a.2.1.lo, e1⟩ : DSpan)] : List (DSpan))), (a.1.2.2.1.1, a.1.2.2.1.2), a.1.2.2.2.1, (IntKind.i64.wrap (a.1.2.2.2.2.1 + 1)), ()), ((⟨e1, a.2.1.hi⟩ : DSpan), a.2.2.1, (), ())))
  else none)))
  else none)
  else
  some (.inr (((), a.1.2.1, ()), (a.2.1, a.2.2.1, (), (), ()))))
def span_Cut_e1 : LEp := ⟨5, [2, 5, 14, 15, 16], [.one (.ptr 0 0), .one (.own 4 2), .one (.asu 2 1), .one (.int .i64), .one (.int .i64)], [.cobj 35 4, .arr 9 2 true, .row 35 2], [⟨.exit 0, [2, 5], [.one (.ptr 0 0), .one (.own 4 3)], [.cobj 35 4, .arr 9 2 true, .dead, .row 35 2]⟩], span_Cut_l1⟩
def span_Cut_lt : List (LEp) := [span_Cut_e1]
theorem span_Cut_e1_ok : LeOk span_Cut_e1 (nthL (bodyOf Tryz.f255) 0) := fun A env h k z hk => le_ok (E := span_Cut_e1) (orcOf_ok span_Cut_tb) (dr := dr0) (lps := lpsOf span_Cut_lt) (no_loop (by kernel_rfl)) (fun a => by kernel_rfl) env h k z hk
def span_Cut (x0 : DSpan) (x1 : List (List UInt8)) : Option ((List (DSpan)) × (Unit × Unit)) :=
  (span_Right x0).bind fun r1 =>
  (bif (!r1.1) then
  some ([], ((), ()))
  else
  (slices_Values x1).bind fun r2 =>
  (slices_Sorted r2.2.1).bind fun r3 =>
  (slices_Compact (r3.1.1, r3.1.2) r3.2.2.1).bind fun r4 =>
  (loopM span_Cut_l1 (((), [], (r4.1.1, r4.1.2), ((r4.1.2 : Nat) : Int), 0, ()), (x0, r4.2.1, (), ()))).bind fun b5 =>
  (if b5.1.2.1.length + ([b5.2.1] : List (DSpan)).length ≤ 140737488355328 ∧ (b5.1.2.1.length + ([b5.2.1] : List (DSpan)).length) * 32 ≤ 140737488355328 then
  some ((b5.1.2.1 ++ ([b5.2.1] : List (DSpan))), ((), ()))
  else none))
def span_Cut_ce : CEp where
  f := 255
  args := [.cod 4, .one (.sl 2)]
  hs := []
  res := .val (.one (.own 4 0))
  outs := [.row 35 2]
  m := fun d dh => span_Cut d.1 d.2.1
  ok := ce_ok mixedP Tryz.func255 (by kernel_rfl) (orcOf_ok span_Cut_tb) (dr := dr0) (lps := lpsOf span_Cut_lt) (lps_fn (lps_of (n := 1) (by kernel_rfl) fun i hi => match i, hi with | 0, _ => lp_ok (E := span_Cut_e1) (by kernel_rfl) span_Cut_e1_ok)) (fun d dh => by kernel_rfl)

def shares_parted_tb : List (CEp) := [span_Cut_ce]
def shares_parted_l1 (a : (Int × Int × Unit × Unit × (List (DShare)) × (List (DSpan)) × Int × Int × Unit) × ((DShare) × (DSpan) × Unit × Unit × Unit)) : Option (((Int × Int × Unit × Unit × (List (DShare)) × (List (DSpan)) × Int × Int × Unit) × ((DShare) × (DSpan) × Unit × Unit × Unit)) ⊕ ((((List (DShare)) × Unit) × ((DShare) × (DSpan) × Unit × Unit × Unit × Unit)))) :=
  (bif (decide ((a.1.2.2.2.2.2.2.2.1 : Int) < a.1.2.2.2.2.2.2.1)) then
  (getI a.1.2.2.2.2.2.1 a.1.2.2.2.2.2.2.2.1).bind fun e1 =>
  (bif (decide (e1.lo = a.2.2.1.lo) && (decide (e1.hi = a.2.2.1.hi) && true)) then
  (if a.1.2.2.2.2.1.length + ([(⟨e1, a.1.1, a.1.2.1⟩ : DShare)] : List (DShare)).length ≤ 140737488355328 ∧ (a.1.2.2.2.2.1.length + ([(⟨e1, a.1.1, a.1.2.1⟩ : DShare)] : List (DShare)).length) * 48 ≤ 140737488355328 then
  some (.inl ((a.1.1, a.1.2.1, (), (), (a.1.2.2.2.2.1 ++ ([(⟨e1, a.1.1, a.1.2.1⟩ : DShare)] : List (DShare))), a.1.2.2.2.2.2.1, a.1.2.2.2.2.2.2.1, (IntKind.i64.wrap (a.1.2.2.2.2.2.2.2.1 + 1)), ()), (a.2.1, a.2.2.1, (), (), ())))
  else none)
  else
  (if a.1.2.2.2.2.1.length + ([(⟨e1, a.2.1.group, a.2.1.epoch⟩ : DShare)] : List (DShare)).length ≤ 140737488355328 ∧ (a.1.2.2.2.2.1.length + ([(⟨e1, a.2.1.group, a.2.1.epoch⟩ : DShare)] : List (DShare)).length) * 48 ≤ 140737488355328 then
  let y2 : List (DShare) := (a.1.2.2.2.2.1 ++ ([(⟨e1, a.2.1.group, a.2.1.epoch⟩ : DShare)] : List (DShare)))
  some (.inl ((a.1.1, a.1.2.1, (), (), y2, a.1.2.2.2.2.2.1, a.1.2.2.2.2.2.2.1, (IntKind.i64.wrap (a.1.2.2.2.2.2.2.2.1 + 1)), ()), (a.2.1, a.2.2.1, (), (), ())))
  else none))
  else
  some (.inr ((a.1.2.2.2.2.1, ()), (a.2.1, a.2.2.1, (), (), (), ()))))
def shares_parted_e1 : LEp := ⟨3, [2, 3, 4, 5, 9, 20, 21, 22], [.one (.int .i64), .one (.int .i64), .one (.ptr 0 0), .one (.ptr 1 0), .one (.own 5 2), .one (.own 4 3), .one (.int .i64), .one (.int .i64)], [.cobj 99 5, .cobj 35 4, .row 99 4, .row 35 2], [⟨.exit 0, [9], [.one (.own 5 4)], [.cobj 99 5, .cobj 35 4, .dead, .dead, .row 99 4]⟩], shares_parted_l1⟩
def shares_parted_lt : List (LEp) := [shares_parted_e1]
theorem shares_parted_e1_ok : LeOk shares_parted_e1 (nthL (bodyOf Tryz.f232) 0) := fun A env h k z hk => le_ok (E := shares_parted_e1) (orcOf_ok shares_parted_tb) (dr := dr0) (lps := lpsOf shares_parted_lt) (no_loop (by kernel_rfl)) (fun a => by kernel_rfl) env h k z hk
def shares_parted (x0 : DShare) (x1 : DSpan) (x2 : Int) (x3 : Int) : Option ((List (DShare)) × (Unit × Unit)) :=
  (span_Cut x0.span ([x1.lo, x1.hi] : List (List UInt8))).bind fun r1 =>
  (loopM shares_parted_l1 ((x2, x3, (), (), [], r1.1, (r1.1.length : Int), 0, ()), (x0, x1, (), (), ()))).bind fun b2 =>
  some (b2.1.1, ((), ()))
def shares_parted_ce : CEp where
  f := 232
  args := [.cod 5, .cod 4, .one (.int .i64), .one (.int .i64)]
  hs := []
  res := .val (.one (.own 5 0))
  outs := [.row 99 4]
  m := fun d dh => shares_parted d.1 d.2.1 d.2.2.1 d.2.2.2.1
  ok := ce_ok mixedP Tryz.func232 (by kernel_rfl) (orcOf_ok shares_parted_tb) (dr := dr0) (lps := lpsOf shares_parted_lt) (lps_fn (lps_of (n := 1) (by kernel_rfl) fun i hi => match i, hi with | 0, _ => lp_ok (E := shares_parted_e1) (by kernel_rfl) shares_parted_e1_ok)) (fun d dh => by kernel_rfl)

def shares_Turn_dr : Nat → Nat → DrA
  | 11, _ => ⟨[0, 1, 4, 5, 6, 7, 8, 10, 14, 15, 16, 2, 9, 11, 12, 13, 17, 18, 3, 19, 20, 21], [[], [0], [0, 1], [0, 1, 2], [], [], [5], [], [7], [7, 8], [], [7, 8, 9, 10], [7, 8, 9, 10, 11], [], [], [], [15], [15, 16], [15, 16, 17], [0, 1, 2, 3, 7, 8, 9, 10, 11, 12, 13, 14, 15, 16, 17, 18], (List.range 20), (List.range 21)], [9, 12, 13, 17], [3], [1, 3], false, []⟩
  | _, _ => ⟨[], [], [], [], [], false, []⟩
def shares_Turn_tb : List (CEp) := [shares_at_ce, shares_right_ce, span_Right_ce, shares_within_ce, cloneA100_ce, shares_parted_ce, replace_ce]
def shares_Turn (x0 : DShares) (x1 : DSpan) (x2 : Int) : Option (((DShares) × Int × Unit) × Unit) :=
  (shares_at (⟨x0⟩ : DWork) x1).bind fun r1 =>
  (shares_right (⟨x0⟩ : DWork)).bind fun r2 =>
  (bif (!r2.1) then
  some (((⟨0, []⟩ : DShares), 2, ()), ())
  else
  (span_Right r1.2.1).bind fun r3 =>
  (bif (!r3.1) then
  some (((⟨0, []⟩ : DShares), 2, ()), ())
  else
  (shares_within x2 1 4).bind fun r4 =>
  (bif (!r4.1) then
  some (((⟨0, []⟩ : DShares), 2, ()), ())
  else
  (bif (decide ((r1.1 : Int) < 0)) then
  some (((⟨0, []⟩ : DShares), 6, ()), ())
  else
  (getI x0.list r1.1).bind fun e5 =>
  (bif (decide ((e5.group : Int) = x2)) then
  some (((⟨0, []⟩ : DShares), 7, ()), ())
  else
  (getI x0.list r1.1).bind fun e6 =>
  (cloneA100 x0.list).bind fun r7 =>
  (shares_parted e6 r1.2.1 x2 (IntKind.i64.wrap (x0.epoch + 1))).bind fun r8 =>
  (replace r7.1 r1.1 (IntKind.i64.wrap (r1.1 + 1)) r8.1 r7.2.1).bind fun r9 =>
  (bif (decide ((x0.epoch : Int) = 1073741824)) then
  some (((⟨0, []⟩ : DShares), 8, ()), ())
  else
  (bif (decide ((40 : Int) < (r9.1.length : Int))) then
  some (((⟨0, []⟩ : DShares), 8, ()), ())
  else
  some (((⟨(IntKind.i64.wrap (x0.epoch + 1)), r9.1⟩ : DShares), 0, ()), ()))))))))
def shares_Turn_ce : CEp where
  f := 168
  args := [.cod 15, .cod 4, .one (.int .i64)]
  hs := []
  res := .tup [.cod 15, .one (.int .i64)]
  outs := []
  m := fun d dh => shares_Turn d.1 d.2.1 d.2.2.1
  ok := ce_ok mixedP Tryz.func168 (by kernel_rfl) (orcOf_ok shares_Turn_tb) (dr := shares_Turn_dr) (lps := lpsOf lt0) (lps_fn (no_loop (by kernel_rfl))) (fun d dh => by kernel_rfl)

def shares_In1_tb : List (CEp) := [span_Within_ce]
def shares_In1 (x0 : DSpan) (h0 : DSpan) : Option (Bool × ((DSpan) × Unit)) :=
  (span_Within h0 x0).bind fun r1 =>
  some (r1.1, (h0, ()))
def shares_In1_ce : CEp where
  f := 233
  args := [.cod 4, .one (.ptr 0 0)]
  hs := [.cobj 35 4]
  res := .val (.one (.bool))
  outs := [.cobj 35 4]
  m := fun d dh => shares_In1 d.1 dh.1
  ok := ceO Tryz.func233 (by kernel_rfl) shares_In1_tb (by kernel_rfl) fun d dh => by kernel_rfl

def shares_at1_2_tb : List (CEp) := [shares_In1_ce]
def shares_at1_2 (x0 : DShare) (h0 : Unit × Unit) (h1 : DSpan) : Option (Bool × ((Unit × Unit) × (DSpan) × Unit)) :=
  (shares_In1 x0.span h1).bind fun r1 =>
  some (r1.1, (((), ()), r1.2.1, ()))
def shares_at1_2_ce : CEp where
  f := 174
  args := [.cod 5, .one (.ptr 0 0)]
  hs := [.obj 192 [.clo 233 [1]], .cobj 35 4]
  res := .val (.one (.bool))
  outs := [.obj 192 [.clo 233 [1]], .cobj 35 4]
  m := fun d dh => shares_at1_2 d.1 dh.1 dh.2.1
  ok := ceO Tryz.func174 (by kernel_rfl) shares_at1_2_tb (by kernel_rfl) fun d dh => by kernel_rfl

def slices_IndexFunc_3_tb : List (CEp) := [shares_at1_2_ce]
def slices_IndexFunc_3_l1 (a : ((List (DShare)) × Unit × Int × Int × Unit) × ((Unit × Unit) × (DSpan) × Unit)) : Option ((((List (DShare)) × Unit × Int × Int × Unit) × ((Unit × Unit) × (DSpan) × Unit)) ⊕ (((Int × Unit) × ((Unit × Unit) × (DSpan) × Unit)) ⊕ (Unit × ((Unit × Unit) × (DSpan) × Unit)))) :=
  (bif (decide ((a.1.2.2.2.1 : Int) < a.1.2.2.1)) then
  (getI a.1.1 a.1.2.2.2.1).bind fun e1 =>
  (shares_at1_2 e1 ((), ()) a.2.2.1).bind fun r2 =>
  (bif r2.1 then
  some (.inr (.inl ((a.1.2.2.2.1, ()), (((), ()), r2.2.2.1, ()))))
  else
  some (.inl ((a.1.1, (), a.1.2.2.1, (IntKind.i64.wrap (a.1.2.2.2.1 + 1)), ()), (((), ()), r2.2.2.1, ()))))
  else
  some (.inr (.inr ((), (((), ()), a.2.2.1, ())))))
def slices_IndexFunc_3_e1 : LEp := ⟨2, [0, 1, 7, 8], [.one (.sl 5), .one (.clo 174 [0]), .one (.int .i64), .one (.int .i64)], [.obj 192 [.clo 233 [1]], .cobj 35 4], [⟨.ret, [4], [.one (.int .i64)], [.obj 192 [.clo 233 [1]], .cobj 35 4]⟩, ⟨.exit 0, [], [], [.obj 192 [.clo 233 [1]], .cobj 35 4]⟩], slices_IndexFunc_3_l1⟩
def slices_IndexFunc_3_lt : List (LEp) := [slices_IndexFunc_3_e1]
theorem slices_IndexFunc_3_e1_ok : LeOk slices_IndexFunc_3_e1 (nthL (bodyOf Tryz.f173) 0) := fun A env h k z hk => le_ok (E := slices_IndexFunc_3_e1) (orcOf_ok slices_IndexFunc_3_tb) (dr := dr0) (lps := lpsOf slices_IndexFunc_3_lt) (no_loop (by kernel_rfl)) (fun a => by kernel_rfl) env h k z hk
def slices_IndexFunc_3 (x0 : List (DShare)) (h0 : Unit × Unit) (h1 : DSpan) : Option (Int × ((Unit × Unit) × (DSpan) × Unit)) :=
  (loopM slices_IndexFunc_3_l1 ((x0, (), (x0.length : Int), 0, ()), (((), ()), h1, ()))).bind fun b1 =>
  (match b1 with
  | .inl b2 =>
  some (b2.1.1, (((), ()), b2.2.2.1, ()))
  | .inr b3 =>
  some ((-1), (((), ()), b3.2.2.1, ())))
def slices_IndexFunc_3_ce : CEp where
  f := 173
  args := [.one (.sl 5), .one (.clo 174 [0])]
  hs := [.obj 192 [.clo 233 [1]], .cobj 35 4]
  res := .val (.one (.int .i64))
  outs := [.obj 192 [.clo 233 [1]], .cobj 35 4]
  m := fun d dh => slices_IndexFunc_3 d.1 dh.1 dh.2.1
  ok := ce_ok mixedP Tryz.func173 (by kernel_rfl) (orcOf_ok slices_IndexFunc_3_tb) (dr := dr0) (lps := lpsOf slices_IndexFunc_3_lt) (lps_fn (lps_of (n := 1) (by kernel_rfl) fun i hi => match i, hi with | 0, _ => lp_ok (E := slices_IndexFunc_3_e1) (by kernel_rfl) slices_IndexFunc_3_e1_ok)) (fun d dh => by kernel_rfl)

def shares_at_2_tb : List (CEp) := [shares_right_ce, slices_IndexFunc_3_ce]
def shares_at_2 (x0 : DWork) (h0 : DSpan) : Option (Int × ((DSpan) × Unit)) :=
  (shares_right x0).bind fun r1 =>
  (bif (!r1.1) then
  some ((-1), (h0, ()))
  else
  (slices_IndexFunc_3 x0.shares.list ((), ()) h0).bind fun r2 =>
  some (r2.1, (r2.2.2.1, ())))
def shares_at_2_ce : CEp where
  f := 96
  args := [.cod 16, .one (.clo 233 [0])]
  hs := [.cobj 35 4]
  res := .val (.one (.int .i64))
  outs := [.cobj 35 4]
  m := fun d dh => shares_at_2 d.1 dh.1
  ok := ceO Tryz.func96 (by kernel_rfl) shares_at_2_tb (by kernel_rfl) fun d dh => by kernel_rfl

def shares_share_tb : List (CEp) := []
def shares_share (x0 : DWork) (x1 : Int) : Option (((DShare) × Bool × Unit) × Unit) :=
  (bif (decide ((x1 : Int) < 0)) then
  some (((⟨(⟨([] : List UInt8), ([] : List UInt8)⟩ : DSpan), 0, 0⟩ : DShare), false, ()), ())
  else
  (getI x0.shares.list x1).bind fun e1 =>
  some ((e1, true, ()), ()))
def shares_share_ce : CEp where
  f := 95
  args := [.cod 16, .one (.int .i64)]
  hs := []
  res := .tup [.cod 5, .one (.bool)]
  outs := []
  m := fun d dh => shares_share d.1 d.2.1
  ok := ceO Tryz.func95 (by kernel_rfl) shares_share_tb (by kernel_rfl) fun d dh => by kernel_rfl

def shares_In_dr : Nat → Nat → DrA
  | 2, _ => ⟨[2, 0, 1, 3, 4, 5, 6, 7, 8], [[], [], [], [1, 2], [0, 1, 2, 3], (List.range 5), (List.range 5), (List.range 7), (List.range 8)], [0], [3], [3], false, []⟩
  | _, _ => ⟨[], [], [], [], [], false, []⟩
def shares_In_tb : List (CEp) := [shares_at_2_ce, shares_share_ce]
def shares_In (x0 : DShares) (x1 : DSpan) : Option (((DShare) × Bool × Unit) × Unit) :=
  (shares_at_2 (⟨x0⟩ : DWork) x1).bind fun r1 =>
  (shares_share (⟨x0⟩ : DWork) r1.1).bind fun r2 =>
  some ((r2.1.1, r2.1.2.1, ()), ())
def shares_In_ce : CEp where
  f := 169
  args := [.cod 15, .cod 4]
  hs := []
  res := .tup [.cod 5, .one (.bool)]
  outs := []
  m := fun d dh => shares_In d.1 d.2.1
  ok := ce_ok mixedP Tryz.func169 (by kernel_rfl) (orcOf_ok shares_In_tb) (dr := shares_In_dr) (lps := lpsOf lt0) (lps_fn (no_loop (by kernel_rfl))) (fun d dh => by kernel_rfl)

def scheme_Begin_tb : List (CEp) := [scheme_within_ce, shares_Turn_ce, shares_In_ce]
def scheme_Begin (x0 : DShares) (x1 : Int) (x2 : DSpan) (x3 : Int) : Option (((DScheme) × Int × Unit) × Unit) :=
  (scheme_within x1 1 1073741824).bind fun r1 =>
  (bif (!r1.1) then
  some (((⟨0, (⟨([] : List UInt8), ([] : List UInt8)⟩ : DSpan), 0, 0, 0, 0, 0⟩ : DScheme), 2, ()), ())
  else
  (shares_Turn x0 x2 x3).bind fun r2 =>
  (bif (decide ((r2.1.2.1 : Int) ≠ 0)) then
  some (((⟨0, (⟨([] : List UInt8), ([] : List UInt8)⟩ : DSpan), 0, 0, 0, 0, 0⟩ : DScheme), r2.1.2.1, ()), ())
  else
  (shares_In x0 x2).bind fun r3 =>
  some (((⟨x1, x2, r3.1.1.group, x3, r3.1.1.epoch, 0, 1⟩ : DScheme), 0, ()), ())))
def scheme_Begin_ce : CEp where
  f := 93
  args := [.cod 15, .one (.int .i64), .cod 4, .one (.int .i64)]
  hs := []
  res := .tup [.cod 20, .one (.int .i64)]
  outs := []
  m := fun d dh => scheme_Begin d.1 d.2.1 d.2.2.1 d.2.2.2.1
  ok := ceO Tryz.func93 (by kernel_rfl) scheme_Begin_tb (by kernel_rfl) fun d dh => by kernel_rfl

def registry_Begin_dr : Nat → Nat → DrA
  | 5, _ => ⟨[0, 1, 2, 3, 5, 6, 7, 11, 4, 8, 9, 10, 12, 13, 14, 15, 16, 17, 18], [[], [0], [0, 1], [0, 1, 2], [0, 1, 2, 3], [], [5], [5, 6], [5, 6, 7], [5, 6, 7, 8], [], [], (List.range 12), (List.range 13), (List.range 14), (List.range 14), [], (List.range 15 ++ [16]), (List.range 18)], [], [], [], false, []⟩
  | 8, _ => ⟨[0, 1, 2, 4, 3, 6, 7, 8, 5, 9, 10, 11, 12, 13, 14, 15, 16], [[], [], [], [], [], [4], [0, 3], [0, 3, 6], [0, 3, 6, 7], [0, 3, 6, 7, 8], [0, 1, 3, 6, 7, 8, 9], [0, 1, 3, 6, 7, 8, 9, 10], [0, 1, 3, 6, 7, 8, 9, 10, 11], [0, 1, 3, 6, 7, 8, 9, 10, 11, 12], (List.range 14), (List.range 15), (List.range 16)], [5], [9, 13], [6], false, []⟩
  | _, _ => ⟨[], [], [], [], [], false, []⟩
def registry_Begin_tb : List (CEp) := [registry_known_ce, scheme_Begin_ce]
def registry_Begin (x1 : DSpan) (x2 : Int) (h0 : Unit × Int × (List (DShare)) × Bool × Int × (List UInt8) × (List UInt8) × Int × Int × Int × Int × Int × Int × Unit) (h1 : (List (DVerdict)) × Unit × Unit) (h2 : List ((Int × Int) × Int)) : Option ((Int × Int × Unit) × ((Unit × Int × (List (DShare)) × Bool × Int × (List UInt8) × (List UInt8) × Int × Int × Int × Int × Int × Int × Unit) × ((List (DVerdict)) × Unit × Unit) × (List ((Int × Int) × Int)) × Unit × Unit × Unit)) :=
  (registry_known h0 h1 h2).bind fun r1 =>
  (bif (!r1.1) then
  some ((0, 1, ()), (r1.2.1, r1.2.2.1, r1.2.2.2.1, (), (), ()))
  else
  (bif r1.2.1.2.2.2.1 then
  some ((0, 26, ()), (r1.2.1, r1.2.2.1, r1.2.2.2.1, (), (), ()))
  else
  (scheme_Begin (⟨r1.2.1.2.1, r1.2.1.2.2.1⟩ : DShares) (IntKind.i64.wrap (r1.2.1.2.2.2.2.2.2.2.2.2.2.2.2.1 + 1)) x1 x2).bind fun r2 =>
  (bif (decide ((r2.1.2.1 : Int) ≠ 0)) then
  some ((0, r2.1.2.1, ()), (r1.2.1, r1.2.2.1, r1.2.2.2.1, (), (), ()))
  else
  some ((r2.1.1.num, 0, ()), (((), r1.2.1.2.1, r1.2.1.2.2.1, true, r2.1.1.num, r2.1.1.span.lo, r2.1.1.span.hi, r2.1.1.from_, r2.1.1.to_, r2.1.1.epoch, r2.1.1.under, r2.1.1.stage, r2.1.1.num, ()), r1.2.2.1, r1.2.2.2.1, (), (), ())))))
def registry_Begin_ce : CEp where
  f := 45
  args := [.one (.ptr 0 0), .cod 4, .one (.int .i64)]
  hs := [.obj 110 [.ptr 1 0, .int .i64, .sl 5, .bool, .int .i64, .str, .str, .int .i64, .int .i64, .int .i64, .int .i64, .int .u8, .int .i64], .obj 197 [.own 12 3, .mo 2], .mmap (.two .i64 .i64) (.int .i64), .row 41 5]
  res := .tup [.one (.int .i64), .one (.int .i64)]
  outs := [.obj 110 [.ptr 1 0, .int .i64, .sl 5, .bool, .int .i64, .str, .str, .int .i64, .int .i64, .int .i64, .int .i64, .int .u8, .int .i64], .obj 197 [.own 12 4, .mo 2], .mmap (.two .i64 .i64) (.int .i64), .dead, .row 41 5]
  m := fun d dh => registry_Begin d.2.1 d.2.2.1 dh.1 dh.2.1 dh.2.2.1
  ok := ce_ok mixedP Tryz.func45 (by kernel_rfl) (orcOf_ok registry_Begin_tb) (dr := registry_Begin_dr) (lps := lpsOf lt0) (lps_fn (no_loop (by kernel_rfl))) (fun d dh => by kernel_rfl)

def slices_Index_tb : List (CEp) := []
def slices_Index_l1 (a : (LB × Int × Int × Int × Unit) × Unit) : Option (((LB × Int × Int × Int × Unit) × Unit) ⊕ (((Int × Unit) × Unit) ⊕ (Unit × Unit))) :=
  (bif (decide ((a.1.2.2.2.1 : Int) < a.1.2.2.1)) then
  (getI a.1.1 a.1.2.2.2.1).bind fun e1 =>
  (bif (decide ((a.1.2.1 : Int) = (e1.toNat : Int))) then
  some (.inr (.inl ((a.1.2.2.2.1, ()), ())))
  else
  some (.inl ((a.1.1, a.1.2.1, a.1.2.2.1, (IntKind.i64.wrap (a.1.2.2.2.1 + 1)), ()), ())))
  else
  some (.inr (.inr ((), ()))))
def slices_Index_e1 : LEp := ⟨2, [0, 1, 7, 8], [.one (.sl 1), .one (.int .u8), .one (.int .i64), .one (.int .i64)], [], [⟨.ret, [4], [.one (.int .i64)], []⟩, ⟨.exit 0, [], [], []⟩], slices_Index_l1⟩
def slices_Index_lt : List (LEp) := [slices_Index_e1]
theorem slices_Index_e1_ok : LeOk slices_Index_e1 (nthL (bodyOf Tryz.f256) 0) := fun A env h k z hk => le_ok (E := slices_Index_e1) (orcOf_ok slices_Index_tb) (dr := dr0) (lps := lpsOf slices_Index_lt) (no_loop (by kernel_rfl)) (fun a => by kernel_rfl) env h k z hk
def slices_Index (x0 : LB) (x1 : Int) : Option (Int × Unit) :=
  (loopM slices_Index_l1 ((x0, x1, (x0.length : Int), 0, ()), ())).bind fun b1 =>
  (match b1 with
  | .inl b2 =>
  some (b2.1.1, ())
  | .inr b3 =>
  some ((-1), ()))
def slices_Index_ce : CEp where
  f := 256
  args := [.one (.sl 1), .one (.int .u8)]
  hs := []
  res := .val (.one (.int .i64))
  outs := []
  m := fun d dh => slices_Index d.1 d.2.1
  ok := ce_ok mixedP Tryz.func256 (by kernel_rfl) (orcOf_ok slices_Index_tb) (dr := dr0) (lps := lpsOf slices_Index_lt) (lps_fn (lps_of (n := 1) (by kernel_rfl) fun i hi => match i, hi with | 0, _ => lp_ok (E := slices_Index_e1) (by kernel_rfl) slices_Index_e1_ok)) (fun d dh => by kernel_rfl)

def slices_Contains_tb : List (CEp) := [slices_Index_ce]
def slices_Contains (x0 : LB) (x1 : Int) : Option (Bool × Unit) :=
  (slices_Index x0 x1).bind fun r1 =>
  some ((decide ((0 : Int) ≤ r1.1)), ())
def slices_Contains_ce : CEp where
  f := 234
  args := [.one (.sl 1), .one (.int .u8)]
  hs := []
  res := .val (.one (.bool))
  outs := []
  m := fun d dh => slices_Contains d.1 d.2.1
  ok := ceO Tryz.func234 (by kernel_rfl) slices_Contains_tb (by kernel_rfl) fun d dh => by kernel_rfl

def scheme_turned_tb : List (CEp) := [slices_Contains_ce]
def scheme_turned (x0 : DWork2) : Option (Bool × Unit) :=
  (b8 4).bind fun u1 =>
  (b8 5).bind fun u2 =>
  (b8 6).bind fun u3 =>
  (slices_Contains ([u1, u2, u3] : LB) x0.scheme.stage).bind fun r4 =>
  some (r4.1, ())
def scheme_turned_ce : CEp where
  f := 228
  args := [.cod 22]
  hs := []
  res := .val (.one (.bool))
  outs := []
  m := fun d dh => scheme_turned d.1
  ok := ceO Tryz.func228 (by kernel_rfl) scheme_turned_tb (by kernel_rfl) fun d dh => by kernel_rfl

def scheme_right_dr : Nat → Nat → DrA
  | 1, _ => ⟨[1, 2, 3, 0, 4, 5, 6, 7, 8, 9], [[], [], [1], [1, 2], [0, 1, 2, 3], (List.range 5), (List.range 6), (List.range 6), (List.range 7), (List.range 9)], [3], [0], [0], false, []⟩
  | _, _ => ⟨[], [], [], [], [], false, []⟩
def scheme_right_tb : List (CEp) := [waysM227_ce, scheme_turned_ce, scheme_within_ce, span_Right_ce]
def scheme_right (x0 : DWork2) : Option (Bool × Unit) :=
  (waysM227).bind fun r1 =>
  (scheme_turned x0).bind fun r2 =>
  (bif r2.1 then
  (scheme_within x0.scheme.under (IntKind.i64.wrap (x0.scheme.epoch + 1)) 1073741824).bind fun r3 =>
  (scheme_within x0.scheme.from_ 1 4).bind fun r4 =>
  (bif r4.1 then
  (scheme_within x0.scheme.to_ 1 4).bind fun r5 =>
  (bif r5.1 then
  (scheme_within x0.scheme.num 1 1073741824).bind fun r6 =>
  (bif r6.1 then
  (span_Right x0.scheme.span).bind fun r7 =>
  (bif r7.1 then
  (bif (decide ((x0.scheme.from_ : Int) ≠ x0.scheme.to_)) then
  (scheme_within x0.scheme.epoch 1 1073741824).bind fun r8 =>
  (bif r8.1 then
  (bif (lkp r1.1 x0.scheme.stage).isSome then
  some (r3.1, ())
  else
  some (false, ()))
  else
  some (false, ()))
  else
  some (false, ()))
  else
  some (false, ()))
  else
  some (false, ()))
  else
  (scheme_within x0.scheme.num 1 1073741824).bind fun r9 =>
  (bif r9.1 then
  (span_Right x0.scheme.span).bind fun r10 =>
  (bif r10.1 then
  some (false, ())
  else
  some (false, ()))
  else
  some (false, ())))
  else
  (scheme_within x0.scheme.num 1 1073741824).bind fun r11 =>
  (bif r11.1 then
  (span_Right x0.scheme.span).bind fun r12 =>
  (bif r12.1 then
  some (false, ())
  else
  some (false, ()))
  else
  some (false, ())))
  else
  (scheme_within x0.scheme.from_ 1 4).bind fun r13 =>
  (bif r13.1 then
  (scheme_within x0.scheme.to_ 1 4).bind fun r14 =>
  (bif r14.1 then
  (scheme_within x0.scheme.num 1 1073741824).bind fun r15 =>
  (bif r15.1 then
  (span_Right x0.scheme.span).bind fun r16 =>
  (bif r16.1 then
  (bif (decide ((x0.scheme.from_ : Int) ≠ x0.scheme.to_)) then
  (scheme_within x0.scheme.epoch 1 1073741824).bind fun r17 =>
  (bif r17.1 then
  (bif (lkp r1.1 x0.scheme.stage).isSome then
  some ((decide ((x0.scheme.under : Int) = 0)), ())
  else
  some (false, ()))
  else
  some (false, ()))
  else
  some (false, ()))
  else
  some (false, ()))
  else
  some (false, ()))
  else
  (scheme_within x0.scheme.num 1 1073741824).bind fun r18 =>
  (bif r18.1 then
  (span_Right x0.scheme.span).bind fun r19 =>
  (bif r19.1 then
  some (false, ())
  else
  some (false, ()))
  else
  some (false, ())))
  else
  (scheme_within x0.scheme.num 1 1073741824).bind fun r20 =>
  (bif r20.1 then
  (span_Right x0.scheme.span).bind fun r21 =>
  (bif r21.1 then
  some (false, ())
  else
  some (false, ()))
  else
  some (false, ()))))
def scheme_right_ce : CEp where
  f := 166
  args := [.cod 22]
  hs := []
  res := .val (.one (.bool))
  outs := []
  m := fun d dh => scheme_right d.1
  ok := ce_ok mixedP Tryz.func166 (by kernel_rfl) (orcOf_ok scheme_right_tb) (dr := scheme_right_dr) (lps := lpsOf lt0) (lps_fn (no_loop (by kernel_rfl))) (fun d dh => by kernel_rfl)

def scheme_own_tb : List (CEp) := [clone100_ce]
def scheme_own (x0 : DShares) : Option ((DShares) × Unit) :=
  (clone100 x0.list).bind fun r1 =>
  some ((⟨x0.epoch, r1.1⟩ : DShares), ())
def scheme_own_ce : CEp where
  f := 170
  args := [.cod 15]
  hs := []
  res := .val (.cod 15)
  outs := []
  m := fun d dh => scheme_own d.1
  ok := ceO Tryz.func170 (by kernel_rfl) scheme_own_tb (by kernel_rfl) fun d dh => by kernel_rfl

def scheme_Goes_tb : List (CEp) := [waysM227_ce, slices_Contains_ce]
def scheme_Goes (x0 : Int) (x1 : Int) : Option (Bool × Unit) :=
  (waysM227).bind fun r1 =>
  (slices_Contains ((lkp r1.1 x0).getD []) x1).bind fun r2 =>
  some (r2.1, ())
def scheme_Goes_ce : CEp where
  f := 171
  args := [.one (.int .u8), .one (.int .u8)]
  hs := []
  res := .val (.one (.bool))
  outs := []
  m := fun d dh => scheme_Goes d.1 d.2.1
  ok := ceO Tryz.func171 (by kernel_rfl) scheme_Goes_tb (by kernel_rfl) fun d dh => by kernel_rfl

def scheme_turn_dr : Nat → Nat → DrA
  | 1, _ => ⟨[1, 2, 3, 4, 6, 7, 8, 9, 0, 5, 10, 11, 12, 13, 14, 15, 16, 17], [[], [], [1], [1, 2], [1, 2, 3], [1, 2, 3, 4], [], [6], [6, 7], [6, 7, 8], [6, 7, 8, 9], (List.range 11), (List.range 12), (List.range 13), (List.range 13), [], (List.range 14 ++ [15]), (List.range 17)], [], [], [], false, []⟩
  | 4, _ => ⟨[1, 2, 3, 4, 0, 5, 6, 7, 8, 9, 10, 11, 12], [[], [], [1], [1, 2], [1, 2, 3], [1, 2, 3, 4], (List.range 6), (List.range 7), (List.range 8), (List.range 8), [], (List.range 9 ++ [10]), (List.range 12)], [], [], [], false, []⟩
  | 5, _ => ⟨[0, 2, 3, 4, 5, 1, 6, 7, 8, 9, 11, 12, 13, 14, 10, 15, 16, 17], [[], [0], [], [2], [2, 3], [2, 3, 4], [2, 3, 4, 5], (List.range 7), (List.range 8), (List.range 9), (List.range 10), (List.range 9), (List.range 9 ++ [11]), (List.range 9 ++ [11, 12]), (List.range 9 ++ [11, 12, 13]), (List.range 9 ++ [11, 12, 13, 14]), (List.range 16), (List.range 17)], [], [], [], false, []⟩
  | _, _ => ⟨[], [], [], [], [], false, []⟩
def scheme_turn_tb : List (CEp) := [shares_Turn_ce, shares_In_ce]
def scheme_turn (x1 : DShares) (h0 : DWork2) : Option (((DShares) × Int × Unit) × ((DWork2) × Unit)) :=
  (shares_Turn x1 h0.scheme.span h0.scheme.to_).bind fun r1 =>
  (bif (decide ((r1.1.2.1 : Int) ≠ 0)) then
  some ((r1.1.1, r1.1.2.1, ()), (h0, ()))
  else
  (shares_In x1 h0.scheme.span).bind fun r2 =>
  (bif (decide ((r2.1.1.group : Int) ≠ h0.scheme.from_)) then
  some (((⟨0, []⟩ : DShares), 26, ()), (h0, ()))
  else
  (bif (decide ((r2.1.1.epoch : Int) ≠ h0.scheme.epoch)) then
  some (((⟨0, []⟩ : DShares), 26, ()), (h0, ()))
  else
  some ((r1.1.1, 0, ()), ((⟨(⟨h0.scheme.num, h0.scheme.span, h0.scheme.from_, h0.scheme.to_, h0.scheme.epoch, r1.1.1.epoch, h0.scheme.stage⟩ : DScheme)⟩ : DWork2), ())))))
def scheme_turn_ce : CEp where
  f := 172
  args := [.one (.ptr 0 0), .cod 15]
  hs := [.cobj 252 22]
  res := .tup [.cod 15, .one (.int .i64)]
  outs := [.cobj 252 22]
  m := fun d dh => scheme_turn d.2.1 dh.1
  ok := ce_ok mixedP Tryz.func172 (by kernel_rfl) (orcOf_ok scheme_turn_tb) (dr := scheme_turn_dr) (lps := lpsOf lt0) (lps_fn (no_loop (by kernel_rfl))) (fun d dh => by kernel_rfl)

def scheme_Step_dr : Nat → Nat → DrA
  | 6, _ => ⟨(List.range 6), [[], [], [1], [0, 1, 2], [0, 1, 2, 3], (List.range 5)], [0], [2], [0], false, []⟩
  | 16, _ => ⟨(List.range 8), [[], [0], [0, 1], [0, 1, 2], [], [0, 1, 2, 3], (List.range 6), (List.range 7)], [4], [5], [5], false, []⟩
  | _, _ => ⟨[], [], [], [], [], false, []⟩
def scheme_Step_tb : List (CEp) := [scheme_right_ce, shares_Right_ce, scheme_own_ce, scheme_Goes_ce, scheme_turn_ce]
def scheme_Step (x0 : DScheme) (x1 : DShares) (x2 : Int) : Option (((DScheme) × (DShares) × Int × Unit) × Unit) :=
  (scheme_right (⟨x0⟩ : DWork2)).bind fun r1 =>
  (bif (!r1.1) then
  some (((⟨0, (⟨([] : List UInt8), ([] : List UInt8)⟩ : DSpan), 0, 0, 0, 0, 0⟩ : DScheme), (⟨0, []⟩ : DShares), 2, ()), ())
  else
  (shares_Right x1).bind fun r2 =>
  (bif (!r2.1) then
  some (((⟨0, (⟨([] : List UInt8), ([] : List UInt8)⟩ : DSpan), 0, 0, 0, 0, 0⟩ : DScheme), (⟨0, []⟩ : DShares), 2, ()), ())
  else
  (bif (decide ((x0.stage : Int) = x2)) then
  (scheme_own x1).bind fun r3 =>
  some ((x0, r3.1, 0, ()), ())
  else
  (scheme_Goes x0.stage x2).bind fun r4 =>
  (bif (!r4.1) then
  some (((⟨0, (⟨([] : List UInt8), ([] : List UInt8)⟩ : DSpan), 0, 0, 0, 0, 0⟩ : DScheme), (⟨0, []⟩ : DShares), 26, ()), ())
  else
  (scheme_own x1).bind fun r5 =>
  (bif (decide ((x2 : Int) = 4)) then
  (scheme_turn x1 (⟨x0⟩ : DWork2)).bind fun r6 =>
  (bif (decide ((r6.1.2.1 : Int) ≠ 0)) then
  some (((⟨0, (⟨([] : List UInt8), ([] : List UInt8)⟩ : DSpan), 0, 0, 0, 0, 0⟩ : DScheme), (⟨0, []⟩ : DShares), r6.1.2.1, ()), ())
  else
  some (((⟨r6.2.1.scheme.num, r6.2.1.scheme.span, r6.2.1.scheme.from_, r6.2.1.scheme.to_, r6.2.1.scheme.epoch, r6.2.1.scheme.under, x2⟩ : DScheme), r6.1.1, 0, ()), ()))
  else
  some (((⟨x0.num, x0.span, x0.from_, x0.to_, x0.epoch, x0.under, x2⟩ : DScheme), r5.1, 0, ()), ()))))))
def scheme_Step_ce : CEp where
  f := 94
  args := [.cod 20, .cod 15, .one (.int .u8)]
  hs := []
  res := .tup [.cod 20, .cod 15, .one (.int .i64)]
  outs := []
  m := fun d dh => scheme_Step d.1 d.2.1 d.2.2.1
  ok := ce_ok mixedP Tryz.func94 (by kernel_rfl) (orcOf_ok scheme_Step_tb) (dr := scheme_Step_dr) (lps := lpsOf lt0) (lps_fn (no_loop (by kernel_rfl))) (fun d dh => by kernel_rfl)

def scheme_Over_tb : List (CEp) := []
def scheme_Over (x0 : DScheme) : Option (Bool × Unit) :=
  (bif (decide ((x0.stage : Int) = 6)) then
  some (true, ())
  else
  some ((decide ((x0.stage : Int) = 9)), ()))
def scheme_Over_ce : CEp where
  f := 92
  args := [.cod 20]
  hs := []
  res := .val (.one (.bool))
  outs := []
  m := fun d dh => scheme_Over d.1
  ok := ceO Tryz.func92 (by kernel_rfl) scheme_Over_tb (by kernel_rfl) fun d dh => by kernel_rfl

def registry_Step_dr : Nat → Nat → DrA
  | 9, _ => ⟨[0, 1, 2, 3, 5, 6, 7, 8, 10, 4, 9, 11, 12, 13, 14, 15, 16, 17, 18, 19, 20], [[], [0], [0, 1], [0, 1, 2], [0, 1, 2, 3], [], [5], [5, 6], [5, 6, 7], [5, 6, 7, 8], [], (List.range 11), (List.range 12), (List.range 13), (List.range 13), (List.range 13), [], [], (List.range 14 ++ [16, 17]), (List.range 15 ++ [16, 17, 18]), (List.range 20)], [], [], [], false, []⟩
  | 12, _ => ⟨[0, 1, 2, 4, 5, 6, 3, 7, 8, 9, 10, 11], [[], [], [], [], [0, 2], [0, 2, 4], [0, 2, 4, 5], [0, 2, 4, 5, 6], (List.range 8), (List.range 9), (List.range 10), (List.range 11)], [3], [7], [6], false, []⟩
  | _, _ => ⟨[], [], [], [], [], false, []⟩
def registry_Step_tb : List (CEp) := [registry_known_ce, scheme_Step_ce, scheme_Over_ce]
def registry_Step (x1 : Int) (x2 : Int) (h0 : Unit × Int × (List (DShare)) × Bool × Int × (List UInt8) × (List UInt8) × Int × Int × Int × Int × Int × Int × Unit) (h1 : (List (DVerdict)) × Unit × Unit) (h2 : List ((Int × Int) × Int)) : Option ((Int × Int × Unit) × ((Unit × Int × (List (DShare)) × Bool × Int × (List UInt8) × (List UInt8) × Int × Int × Int × Int × Int × Int × Unit) × ((List (DVerdict)) × Unit × Unit) × (List ((Int × Int) × Int)) × Unit × Unit × Unit)) :=
  (registry_known h0 h1 h2).bind fun r1 =>
  (bif (!r1.1) then
  some ((0, 1, ()), (r1.2.1, r1.2.2.1, r1.2.2.2.1, (), (), ()))
  else
  (bif (decide ((x1 : Int) < 1)) then
  some ((0, 2, ()), (r1.2.1, r1.2.2.1, r1.2.2.2.1, (), (), ()))
  else
  (bif (decide ((1073741824 : Int) < x1)) then
  some ((0, 2, ()), (r1.2.1, r1.2.2.1, r1.2.2.2.1, (), (), ()))
  else
  (bif (decide ((x2 : Int) < 1)) then
  some ((0, 2, ()), (r1.2.1, r1.2.2.1, r1.2.2.2.1, (), (), ()))
  else
  (bif (decide ((9 : Int) < x2)) then
  some ((0, 2, ()), (r1.2.1, r1.2.2.1, r1.2.2.2.1, (), (), ()))
  else
  (bif (decide ((r1.2.1.2.2.2.2.2.2.2.2.2.2.2.2.1 : Int) < x1)) then
  some ((0, 26, ()), (r1.2.1, r1.2.2.1, r1.2.2.2.1, (), (), ()))
  else
  (bif (!r1.2.1.2.2.2.1) then
  some ((0, 0, ()), (r1.2.1, r1.2.2.1, r1.2.2.2.1, (), (), ()))
  else
  (bif (decide ((r1.2.1.2.2.2.2.1 : Int) ≠ x1)) then
  some ((0, 0, ()), (r1.2.1, r1.2.2.1, r1.2.2.2.1, (), (), ()))
  else
  (scheme_Step (⟨r1.2.1.2.2.2.2.1, (⟨r1.2.1.2.2.2.2.2.1, r1.2.1.2.2.2.2.2.2.1⟩ : DSpan), r1.2.1.2.2.2.2.2.2.2.1, r1.2.1.2.2.2.2.2.2.2.2.1, r1.2.1.2.2.2.2.2.2.2.2.2.1, r1.2.1.2.2.2.2.2.2.2.2.2.2.1, r1.2.1.2.2.2.2.2.2.2.2.2.2.2.1⟩ : DScheme) (⟨r1.2.1.2.1, r1.2.1.2.2.1⟩ : DShares) x2).bind fun r2 =>
  (bif (decide ((r2.1.2.2.1 : Int) ≠ 0)) then
  some ((0, r2.1.2.2.1, ()), (r1.2.1, r1.2.2.1, r1.2.2.2.1, (), (), ()))
  else
  (scheme_Over r2.1.1).bind fun r3 =>
  (bif r3.1 then
  some ((x2, 0, ()), (((), r2.1.2.1.epoch, r2.1.2.1.list, false, 0, ([] : List UInt8), ([] : List UInt8), 0, 0, 0, 0, 0, r1.2.1.2.2.2.2.2.2.2.2.2.2.2.2.1, ()), r1.2.2.1, r1.2.2.2.1, (), (), ()))
  else
  some ((x2, 0, ()), (((), r2.1.2.1.epoch, r2.1.2.1.list, r1.2.1.2.2.2.1, r2.1.1.num, r2.1.1.span.lo, r2.1.1.span.hi, r2.1.1.from_, r2.1.1.to_, r2.1.1.epoch, r2.1.1.under, r2.1.1.stage, r1.2.1.2.2.2.2.2.2.2.2.2.2.2.2.1, ()), r1.2.2.1, r1.2.2.2.1, (), (), ()))))))))))))
def registry_Step_ce : CEp where
  f := 46
  args := [.one (.ptr 0 0), .one (.int .i64), .one (.int .u8)]
  hs := [.obj 110 [.ptr 1 0, .int .i64, .sl 5, .bool, .int .i64, .str, .str, .int .i64, .int .i64, .int .i64, .int .i64, .int .u8, .int .i64], .obj 197 [.own 12 3, .mo 2], .mmap (.two .i64 .i64) (.int .i64), .row 41 5]
  res := .tup [.one (.int .u8), .one (.int .i64)]
  outs := [.obj 110 [.ptr 1 0, .int .i64, .sl 5, .bool, .int .i64, .str, .str, .int .i64, .int .i64, .int .i64, .int .i64, .int .u8, .int .i64], .obj 197 [.own 12 4, .mo 2], .mmap (.two .i64 .i64) (.int .i64), .dead, .row 41 5]
  m := fun d dh => registry_Step d.2.1 d.2.2.1 dh.1 dh.2.1 dh.2.2.1
  ok := ce_ok mixedP Tryz.func46 (by kernel_rfl) (orcOf_ok registry_Step_tb) (dr := registry_Step_dr) (lps := lpsOf lt0) (lps_fn (no_loop (by kernel_rfl))) (fun d dh => by kernel_rfl)

def registry_Scheme_dr : Nat → Nat → DrA
  | 3, _ => ⟨[0, 1, 2, 3, 5, 6, 7, 8, 4, 9, 10, 11], [[], [0], [0, 1], [0, 1, 2], [0, 1, 2, 3], [], [5], [5, 6], [5, 6, 7], [5, 6, 7, 8], (List.range 5), (List.range 11)], [9], [10], [0], false, []⟩
  | _, _ => ⟨[], [], [], [], [], false, []⟩
def registry_Scheme_tb : List (CEp) := [registry_known_ce]
def registry_Scheme (h0 : Unit × Int × (List (DShare)) × Bool × Int × (List UInt8) × (List UInt8) × Int × Int × Int × Int × Int × Int × Unit) (h1 : (List (DVerdict)) × Unit × Unit) (h2 : List ((Int × Int) × Int)) : Option (((DScheme) × Bool × Unit) × ((Unit × Int × (List (DShare)) × Bool × Int × (List UInt8) × (List UInt8) × Int × Int × Int × Int × Int × Int × Unit) × ((List (DVerdict)) × Unit × Unit) × (List ((Int × Int) × Int)) × Unit × Unit × Unit)) :=
  (registry_known h0 h1 h2).bind fun r1 =>
  (bif (!r1.1) then
  some (((⟨0, (⟨([] : List UInt8), ([] : List UInt8)⟩ : DSpan), 0, 0, 0, 0, 0⟩ : DScheme), false, ()), (r1.2.1, r1.2.2.1, r1.2.2.2.1, (), (), ()))
  else
  some (((⟨r1.2.1.2.2.2.2.1, (⟨r1.2.1.2.2.2.2.2.1, r1.2.1.2.2.2.2.2.2.1⟩ : DSpan), r1.2.1.2.2.2.2.2.2.2.1, r1.2.1.2.2.2.2.2.2.2.2.1, r1.2.1.2.2.2.2.2.2.2.2.2.1, r1.2.1.2.2.2.2.2.2.2.2.2.2.1, r1.2.1.2.2.2.2.2.2.2.2.2.2.2.1⟩ : DScheme), r1.2.1.2.2.2.1, ()), (r1.2.1, r1.2.2.1, r1.2.2.2.1, (), (), ())))
def registry_Scheme_ce : CEp where
  f := 42
  args := [.one (.ptr 0 0)]
  hs := [.obj 110 [.ptr 1 0, .int .i64, .sl 5, .bool, .int .i64, .str, .str, .int .i64, .int .i64, .int .i64, .int .i64, .int .u8, .int .i64], .obj 197 [.own 12 3, .mo 2], .mmap (.two .i64 .i64) (.int .i64), .row 41 5]
  res := .tup [.cod 20, .one (.bool)]
  outs := [.obj 110 [.ptr 1 0, .int .i64, .sl 5, .bool, .int .i64, .str, .str, .int .i64, .int .i64, .int .i64, .int .i64, .int .u8, .int .i64], .obj 197 [.own 12 4, .mo 2], .mmap (.two .i64 .i64) (.int .i64), .dead, .row 41 5]
  m := fun d dh => registry_Scheme dh.1 dh.2.1 dh.2.2.1
  ok := ce_ok mixedP Tryz.func42 (by kernel_rfl) (orcOf_ok registry_Scheme_tb) (dr := registry_Scheme_dr) (lps := lpsOf lt0) (lps_fn (no_loop (by kernel_rfl))) (fun d dh => by kernel_rfl)

def registry_Shares_tb : List (CEp) := [registry_known_ce, registry_copied_ce]
def registry_Shares (h0 : Unit × Int × (List (DShare)) × Bool × Int × (List UInt8) × (List UInt8) × Int × Int × Int × Int × Int × Int × Unit) (h1 : (List (DVerdict)) × Unit × Unit) (h2 : List ((Int × Int) × Int)) : Option ((DShares) × ((Unit × Int × (List (DShare)) × Bool × Int × (List UInt8) × (List UInt8) × Int × Int × Int × Int × Int × Int × Unit) × ((List (DVerdict)) × Unit × Unit) × (List ((Int × Int) × Int)) × Unit × Unit × Unit)) :=
  (registry_known h0 h1 h2).bind fun r1 =>
  (bif (!r1.1) then
  some ((⟨0, []⟩ : DShares), (r1.2.1, r1.2.2.1, r1.2.2.2.1, (), (), ()))
  else
  (registry_copied (⟨(⟨r1.2.1.2.1, r1.2.1.2.2.1⟩ : DShares), r1.2.1.2.2.2.1, (⟨r1.2.1.2.2.2.2.1, (⟨r1.2.1.2.2.2.2.2.1, r1.2.1.2.2.2.2.2.2.1⟩ : DSpan), r1.2.1.2.2.2.2.2.2.2.1, r1.2.1.2.2.2.2.2.2.2.2.1, r1.2.1.2.2.2.2.2.2.2.2.2.1, r1.2.1.2.2.2.2.2.2.2.2.2.2.1, r1.2.1.2.2.2.2.2.2.2.2.2.2.2.1⟩ : DScheme)⟩ : DPlan)).bind fun r2 =>
  some (r2.1.shares, (r1.2.1, r1.2.2.1, r1.2.2.2.1, (), (), ())))
def registry_Shares_ce : CEp where
  f := 28
  args := [.one (.ptr 0 0)]
  hs := [.obj 110 [.ptr 1 0, .int .i64, .sl 5, .bool, .int .i64, .str, .str, .int .i64, .int .i64, .int .i64, .int .i64, .int .u8, .int .i64], .obj 197 [.own 12 3, .mo 2], .mmap (.two .i64 .i64) (.int .i64), .row 41 5]
  res := .val (.cod 15)
  outs := [.obj 110 [.ptr 1 0, .int .i64, .sl 5, .bool, .int .i64, .str, .str, .int .i64, .int .i64, .int .i64, .int .i64, .int .u8, .int .i64], .obj 197 [.own 12 4, .mo 2], .mmap (.two .i64 .i64) (.int .i64), .dead, .row 41 5]
  m := fun d dh => registry_Shares dh.1 dh.2.1 dh.2.2.1
  ok := ceO Tryz.func28 (by kernel_rfl) registry_Shares_tb (by kernel_rfl) fun d dh => by kernel_rfl

def shares_Of1_tb : List (CEp) := [span_Has_ce]
def shares_Of1 (x0 : DSpan) (h0 : List UInt8) : Option (Bool × ((List UInt8) × Unit)) :=
  (span_Has x0 h0).bind fun r1 =>
  some (r1.1, (h0, ()))
def shares_Of1_ce : CEp where
  f := 97
  args := [.cod 4, .one (.ptr 0 0)]
  hs := [.cobj 9 2]
  res := .val (.one (.bool))
  outs := [.cobj 9 2]
  m := fun d dh => shares_Of1 d.1 dh.1
  ok := ceO Tryz.func97 (by kernel_rfl) shares_Of1_tb (by kernel_rfl) fun d dh => by kernel_rfl

def shares_at1_3_tb : List (CEp) := [shares_Of1_ce]
def shares_at1_3 (x0 : DShare) (h0 : Unit × Unit) (h1 : List UInt8) : Option (Bool × ((Unit × Unit) × (List UInt8) × Unit)) :=
  (shares_Of1 x0.span h1).bind fun r1 =>
  some (r1.1, (((), ()), r1.2.1, ()))
def shares_at1_3_ce : CEp where
  f := 174
  args := [.cod 5, .one (.ptr 0 0)]
  hs := [.obj 192 [.clo 97 [1]], .cobj 9 2]
  res := .val (.one (.bool))
  outs := [.obj 192 [.clo 97 [1]], .cobj 9 2]
  m := fun d dh => shares_at1_3 d.1 dh.1 dh.2.1
  ok := ceO Tryz.func174 (by kernel_rfl) shares_at1_3_tb (by kernel_rfl) fun d dh => by kernel_rfl

def slices_IndexFunc_4_tb : List (CEp) := [shares_at1_3_ce]
def slices_IndexFunc_4_l1 (a : ((List (DShare)) × Unit × Int × Int × Unit) × ((Unit × Unit) × (List UInt8) × Unit)) : Option ((((List (DShare)) × Unit × Int × Int × Unit) × ((Unit × Unit) × (List UInt8) × Unit)) ⊕ (((Int × Unit) × ((Unit × Unit) × (List UInt8) × Unit)) ⊕ (Unit × ((Unit × Unit) × (List UInt8) × Unit)))) :=
  (bif (decide ((a.1.2.2.2.1 : Int) < a.1.2.2.1)) then
  (getI a.1.1 a.1.2.2.2.1).bind fun e1 =>
  (shares_at1_3 e1 ((), ()) a.2.2.1).bind fun r2 =>
  (bif r2.1 then
  some (.inr (.inl ((a.1.2.2.2.1, ()), (((), ()), r2.2.2.1, ()))))
  else
  some (.inl ((a.1.1, (), a.1.2.2.1, (IntKind.i64.wrap (a.1.2.2.2.1 + 1)), ()), (((), ()), r2.2.2.1, ()))))
  else
  some (.inr (.inr ((), (((), ()), a.2.2.1, ())))))
def slices_IndexFunc_4_e1 : LEp := ⟨2, [0, 1, 7, 8], [.one (.sl 5), .one (.clo 174 [0]), .one (.int .i64), .one (.int .i64)], [.obj 192 [.clo 97 [1]], .cobj 9 2], [⟨.ret, [4], [.one (.int .i64)], [.obj 192 [.clo 97 [1]], .cobj 9 2]⟩, ⟨.exit 0, [], [], [.obj 192 [.clo 97 [1]], .cobj 9 2]⟩], slices_IndexFunc_4_l1⟩
def slices_IndexFunc_4_lt : List (LEp) := [slices_IndexFunc_4_e1]
theorem slices_IndexFunc_4_e1_ok : LeOk slices_IndexFunc_4_e1 (nthL (bodyOf Tryz.f173) 0) := fun A env h k z hk => le_ok (E := slices_IndexFunc_4_e1) (orcOf_ok slices_IndexFunc_4_tb) (dr := dr0) (lps := lpsOf slices_IndexFunc_4_lt) (no_loop (by kernel_rfl)) (fun a => by kernel_rfl) env h k z hk
def slices_IndexFunc_4 (x0 : List (DShare)) (h0 : Unit × Unit) (h1 : List UInt8) : Option (Int × ((Unit × Unit) × (List UInt8) × Unit)) :=
  (loopM slices_IndexFunc_4_l1 ((x0, (), (x0.length : Int), 0, ()), (((), ()), h1, ()))).bind fun b1 =>
  (match b1 with
  | .inl b2 =>
  some (b2.1.1, (((), ()), b2.2.2.1, ()))
  | .inr b3 =>
  some ((-1), (((), ()), b3.2.2.1, ())))
def slices_IndexFunc_4_ce : CEp where
  f := 173
  args := [.one (.sl 5), .one (.clo 174 [0])]
  hs := [.obj 192 [.clo 97 [1]], .cobj 9 2]
  res := .val (.one (.int .i64))
  outs := [.obj 192 [.clo 97 [1]], .cobj 9 2]
  m := fun d dh => slices_IndexFunc_4 d.1 dh.1 dh.2.1
  ok := ce_ok mixedP Tryz.func173 (by kernel_rfl) (orcOf_ok slices_IndexFunc_4_tb) (dr := dr0) (lps := lpsOf slices_IndexFunc_4_lt) (lps_fn (lps_of (n := 1) (by kernel_rfl) fun i hi => match i, hi with | 0, _ => lp_ok (E := slices_IndexFunc_4_e1) (by kernel_rfl) slices_IndexFunc_4_e1_ok)) (fun d dh => by kernel_rfl)

def shares_at_3_tb : List (CEp) := [shares_right_ce, slices_IndexFunc_4_ce]
def shares_at_3 (x0 : DWork) (h0 : List UInt8) : Option (Int × ((List UInt8) × Unit)) :=
  (shares_right x0).bind fun r1 =>
  (bif (!r1.1) then
  some ((-1), (h0, ()))
  else
  (slices_IndexFunc_4 x0.shares.list ((), ()) h0).bind fun r2 =>
  some (r2.1, (r2.2.2.1, ())))
def shares_at_3_ce : CEp where
  f := 96
  args := [.cod 16, .one (.clo 97 [0])]
  hs := [.cobj 9 2]
  res := .val (.one (.int .i64))
  outs := [.cobj 9 2]
  m := fun d dh => shares_at_3 d.1 dh.1
  ok := ceO Tryz.func96 (by kernel_rfl) shares_at_3_tb (by kernel_rfl) fun d dh => by kernel_rfl

def shares_Of_dr : Nat → Nat → DrA
  | 2, _ => ⟨[2, 0, 1, 3, 4, 5, 6, 7, 8], [[], [], [], [1, 2], [0, 1, 2, 3], (List.range 5), (List.range 5), (List.range 7), (List.range 8)], [0], [3], [3], false, []⟩
  | _, _ => ⟨[], [], [], [], [], false, []⟩
def shares_Of_tb : List (CEp) := [shares_at_3_ce, shares_share_ce]
def shares_Of (x0 : DShares) (x1 : List UInt8) : Option (((DShare) × Bool × Unit) × Unit) :=
  (shares_at_3 (⟨x0⟩ : DWork) x1).bind fun r1 =>
  (shares_share (⟨x0⟩ : DWork) r1.1).bind fun r2 =>
  some ((r2.1.1, r2.1.2.1, ()), ())
def shares_Of_ce : CEp where
  f := 47
  args := [.cod 15, .one (.str)]
  hs := []
  res := .tup [.cod 5, .one (.bool)]
  outs := []
  m := fun d dh => shares_Of d.1 d.2.1
  ok := ce_ok mixedP Tryz.func47 (by kernel_rfl) (orcOf_ok shares_Of_tb) (dr := shares_Of_dr) (lps := lpsOf lt0) (lps_fn (no_loop (by kernel_rfl))) (fun d dh => by kernel_rfl)

def wl_awake_tb : List (CEp) := [shares_First_ce, registry_New_ce, registry_Begin_ce, registry_Step_ce, registry_Scheme_ce, registry_Shares_ce, shares_Of_ce]
def wl_awake_l1 (a : (Unit × Int × Int × Int × Int × Unit) × ((Unit × Int × (List (DShare)) × Bool × Int × (List UInt8) × (List UInt8) × Int × Int × Int × Int × Int × Int × Unit) × ((List (DVerdict)) × Unit × Unit) × (List ((Int × Int) × Int)) × Unit × Unit)) : Option (((Unit × Int × Int × Int × Int × Unit) × ((Unit × Int × (List (DShare)) × Bool × Int × (List UInt8) × (List UInt8) × Int × Int × Int × Int × Int × Int × Unit) × ((List (DVerdict)) × Unit × Unit) × (List ((Int × Int) × Int)) × Unit × Unit)) ⊕ (((Bool × Unit) × ((Unit × Int × (List (DShare)) × Bool × Int × (List UInt8) × (List UInt8) × Int × Int × Int × Int × Int × Int × Unit) × ((List (DVerdict)) × Unit × Unit) × (List ((Int × Int) × Int)) × Unit × Unit × Unit)) ⊕ ((Unit × Int × Int × Int × Unit) × ((Unit × Int × (List (DShare)) × Bool × Int × (List UInt8) × (List UInt8) × Int × Int × Int × Int × Int × Int × Unit) × ((List (DVerdict)) × Unit × Unit) × (List ((Int × Int) × Int)) × Unit × Unit × Unit)))) :=
  (bif (decide ((a.1.2.2.2.2.1 : Int) ≤ 6)) then
  (registry_Step 1 a.1.2.2.2.2.1 a.2.1 a.2.2.1 a.2.2.2.1).bind fun r1 =>
  (bif (decide ((r1.1.1 : Int) ≠ a.1.2.2.2.2.1)) then
  some (.inr (.inl ((false, ()), (r1.2.1, r1.2.2.1, r1.2.2.2.1, (), (), ()))))
  else
  (bif (decide ((r1.1.2.1 : Int) ≠ 0)) then
  some (.inr (.inl ((false, ()), (r1.2.1, r1.2.2.1, r1.2.2.2.1, (), (), ()))))
  else
  some (.inl (((), a.1.2.1, a.1.2.2.1, a.1.2.2.2.1, (IntKind.u8.wrap (a.1.2.2.2.2.1 + 1)), ()), (r1.2.1, r1.2.2.1, r1.2.2.2.1, (), ())))))
  else
  some (.inr (.inr (((), a.1.2.1, a.1.2.2.1, a.1.2.2.2.1, ()), (a.2.1, a.2.2.1, a.2.2.2.1, (), (), ())))))
def wl_awake_e1 : LEp := ⟨5, [1, 2, 3, 5, 6], [.one (.ptr 0 0), .one (.int .i64), .one (.int .i64), .one (.int .i64), .one (.int .u8)], [.obj 110 [.ptr 1 0, .int .i64, .sl 5, .bool, .int .i64, .str, .str, .int .i64, .int .i64, .int .i64, .int .i64, .int .u8, .int .i64], .obj 197 [.own 12 3, .mo 2], .mmap (.two .i64 .i64) (.int .i64), .row 41 5], [⟨.ret, [0], [.one (.bool)], [.obj 110 [.ptr 1 0, .int .i64, .sl 5, .bool, .int .i64, .str, .str, .int .i64, .int .i64, .int .i64, .int .i64, .int .u8, .int .i64], .obj 197 [.own 12 4, .mo 2], .mmap (.two .i64 .i64) (.int .i64), .dead, .row 41 5]⟩, ⟨.exit 0, [1, 2, 3, 5], [.one (.ptr 0 0), .one (.int .i64), .one (.int .i64), .one (.int .i64)], [.obj 110 [.ptr 1 0, .int .i64, .sl 5, .bool, .int .i64, .str, .str, .int .i64, .int .i64, .int .i64, .int .i64, .int .u8, .int .i64], .obj 197 [.own 12 4, .mo 2], .mmap (.two .i64 .i64) (.int .i64), .dead, .row 41 5]⟩], wl_awake_l1⟩
def wl_awake_lt : List (LEp) := [wl_awake_e1]
theorem wl_awake_e1_ok : LeOk wl_awake_e1 (nthL (bodyOf Tryz.f7) 0) := fun A env h k z hk => le_ok (E := wl_awake_e1) (orcOf_ok wl_awake_tb) (dr := dr0) (lps := lpsOf wl_awake_lt) (no_loop (by kernel_rfl)) (fun a => by kernel_rfl) env h k z hk
def wl_awake  : Option (Bool × Unit) :=
  (shares_First 1).bind fun r1 =>
  (registry_New r1.1).bind fun r2 =>
  (registry_Begin (⟨([109] : List UInt8), ([] : List UInt8)⟩ : DSpan) 2 r2.2.1 r2.2.2.1 r2.2.2.2.1).bind fun r3 =>
  (registry_Begin (⟨([109] : List UInt8), ([] : List UInt8)⟩ : DSpan) 2 r3.2.1 r3.2.2.1 r3.2.2.2.1).bind fun r4 =>
  (loopM wl_awake_l1 (((), r3.1.1, r3.1.2.1, r4.1.2.1, 2, ()), (r4.2.1, r4.2.2.1, r4.2.2.2.1, (), ()))).bind fun b5 =>
  (match b5 with
  | .inl b6 =>
  some (b6.1.1, ())
  | .inr b7 =>
  (registry_Scheme b7.2.1 b7.2.2.1 b7.2.2.2.1).bind fun r8 =>
  (registry_Step 1 2 r8.2.1 r8.2.2.1 r8.2.2.2.1).bind fun r9 =>
  (registry_Shares r9.2.1 r9.2.2.1 r9.2.2.2.1).bind fun r10 =>
  (shares_Of r10.1 ([110] : List UInt8)).bind fun r11 =>
  (bif (decide ((b7.1.2.1 : Int) = 1)) then
  (bif (decide ((b7.1.2.2.1 : Int) = 0)) then
  (bif (decide ((b7.1.2.2.2.1 : Int) = 26)) then
  (bif (!r8.1.2.1) then
  (bif (decide ((r9.1.1 : Int) = 0)) then
  (bif (decide ((r9.1.2.1 : Int) = 0)) then
  (bif r11.1.2.1 then
  some ((decide ((r11.1.1.group : Int) = 2)), ())
  else
  some (false, ()))
  else
  some (false, ()))
  else
  some (false, ()))
  else
  some (false, ()))
  else
  some (false, ()))
  else
  some (false, ()))
  else
  some (false, ())))
def wl_awake_ce : CEp where
  f := 7
  args := []
  hs := []
  res := .val (.one (.bool))
  outs := []
  m := fun d dh => wl_awake
  ok := ce_ok mixedP Tryz.func7 (by kernel_rfl) (orcOf_ok wl_awake_tb) (dr := dr0) (lps := lpsOf wl_awake_lt) (lps_fn (lps_of (n := 1) (by kernel_rfl) fun i hi => match i, hi with | 0, _ => lp_ok (E := wl_awake_e1) (by kernel_rfl) wl_awake_e1_ok)) (fun d dh => by kernel_rfl)

def wl_light_dr : Nat → Nat → DrA
  | 6, _ => ⟨(List.range 14 ++ [16, 17, 18, 19, 20, 14, 15, 21, 22, 23, 24, 25]), [[], [], [0, 1], [0, 1, 2], [0, 1, 2, 3], (List.range 5), (List.range 6), (List.range 7), (List.range 8), (List.range 9), (List.range 9), (List.range 11), (List.range 12), (List.range 13), (List.range 14), (List.range 15), (List.range 9), (List.range 9), (List.range 9 ++ [16, 17]), (List.range 9 ++ [16, 17, 18]), (List.range 9 ++ [16, 17, 18, 19]), (List.range 9 ++ [16, 17, 18, 19, 20]), (List.range 9 ++ [16, 17, 18, 19, 20, 21]), (List.range 23), (List.range 24), (List.range 25)], [], [], [], false, []⟩
  | _, _ => ⟨[], [], [], [], [], false, []⟩
def wl_light_tb : List (CEp) := []
def wl_light_l1 (a : ((List (DDeed)) × Int × Unit) × Unit) : Option ((((List (DDeed)) × Int × Unit) × Unit) ⊕ (((Bool × Unit) × Unit) ⊕ (Unit × Unit))) :=
  (bif (decide ((a.1.2.1 : Int) < (a.1.1.length : Int))) then
  (getI a.1.1 a.1.2.1).bind fun e1 =>
  (bif (decide ((20 : Int) < (e1.verdict.reads.length : Int))) then
  some (.inr (.inl ((false, ()), ())))
  else
  (getI a.1.1 a.1.2.1).bind fun e2 =>
  (getI a.1.1 a.1.2.1).bind fun e3 =>
  (bif (decide ((500 : Int) < (IntKind.i64.wrap ((e2.span.lo.length : Int) + (e3.span.hi.length : Int))))) then
  some (.inr (.inl ((false, ()), ())))
  else
  some (.inl ((a.1.1, (IntKind.i64.wrap (a.1.2.1 + 1)), ()), ()))))
  else
  some (.inr (.inr ((), ()))))
def wl_eight_e1 : LEp := ⟨4, [0, 3], [.one (.sl 13), .one (.int .i64)], [], [⟨.ret, [2], [.one (.bool)], []⟩, ⟨.exit 0, [], [], []⟩], wl_light_l1⟩
def wl_light_lt : List (LEp) := [wl_eight_e1]
theorem wl_eight_e1_ok : LeOk wl_eight_e1 (nthL (bodyOf Tryz.f8) 0) := fun A env h k z hk => le_ok (E := wl_eight_e1) (orcOf_ok wl_light_tb) (dr := wl_light_dr) (lps := lpsOf wl_light_lt) (no_loop (by kernel_rfl)) (fun a => by kernel_rfl) env h k z hk
def wl_light (x0 : List (DDeed)) : Option (Bool × Unit) :=
  (bif (decide ((60 : Int) < (x0.length : Int))) then
  some (false, ())
  else
  (loopM wl_light_l1 ((x0, 0, ()), ())).bind fun b1 =>
  (match b1 with
  | .inl b2 =>
  some (b2.1.1, ())
  | .inr b3 =>
  some (true, ())))
def wl_light_ce : CEp where
  f := 8
  args := [.one (.sl 13)]
  hs := []
  res := .val (.one (.bool))
  outs := []
  m := fun d dh => wl_light d.1
  ok := ce_ok mixedP Tryz.func8 (by kernel_rfl) (orcOf_ok wl_light_tb) (dr := wl_light_dr) (lps := lpsOf wl_light_lt) (lps_fn (lps_of (n := 1) (by kernel_rfl) fun i hi => match i, hi with | 0, _ => lp_ok (E := wl_eight_e1) (by kernel_rfl) wl_eight_e1_ok)) (fun d dh => by kernel_rfl)

def wk_Pick_tb : List (CEp) := []
def wk_Pick (x0 : Int) (x1 : Int) : Option (Int × Unit) :=
  (bif (decide ((x1 : Int) < 1)) then
  some (0, ())
  else
  (if (x1 : Int) = 0 then none else
  (bif (decide ((((x0 : Int).tmod x1) : Int) < 0)) then
  some ((IntKind.i64.wrap (((x0 : Int).tmod x1) + x1)), ())
  else
  some (((x0 : Int).tmod x1), ()))))
def wk_Pick_ce : CEp where
  f := 12
  args := [.one (.int .i64), .one (.int .i64)]
  hs := []
  res := .val (.one (.int .i64))
  outs := []
  m := fun d dh => wk_Pick d.1 d.2.1
  ok := ceO Tryz.func12 (by kernel_rfl) wk_Pick_tb (by kernel_rfl) fun d dh => by kernel_rfl

def ruling_known_tb : List (CEp) := []
def ruling_known (h0 : (List (DVerdict)) × Unit × Unit) (h1 : List ((Int × Int) × Int)) : Option (Bool × (((List (DVerdict)) × Unit × Unit) × (List ((Int × Int) × Int)) × Unit × Unit × Unit)) :=
  some (true, (h0, h1, (), (), ()))
def ruling_known_ce : CEp where
  f := 102
  args := [.one (.ptr 0 0)]
  hs := [.obj 197 [.own 12 2, .mo 1], .mmap (.two .i64 .i64) (.int .i64), .row 41 5]
  res := .val (.one (.bool))
  outs := [.obj 197 [.own 12 3, .mo 1], .mmap (.two .i64 .i64) (.int .i64), .dead, .row 41 5]
  m := fun d dh => ruling_known dh.1 dh.2.1
  ok := ceO Tryz.func102 (by kernel_rfl) ruling_known_tb (by kernel_rfl) fun d dh => by kernel_rfl

def clone187 (x : List (DRead)) : Option ((List (DRead)) × (Unit × Unit)) :=
  if x.length ≤ 140737488355328 ∧ x.length * 40 ≤ 140737488355328 then some (x, ((), ())) else none
def clone187_ce : CEp where
  f := 187
  args := [.one (.sl 10)]
  hs := []
  res := .val (.one (.own 10 0))
  outs := [.row 247 3]
  m := fun d dh => clone187 d.1
  ok := fun d dh r hr => by
    unfold clone187 at hr
    split at hr
    · rename_i hroom
      injection hr with hr
      subst hr
      exact clone_tr mixedP Tryz.func187 (by kernel_rfl) rfl rfl (zv := .agg #[.string ⟨#[]⟩, .bool false, .string ⟨#[]⟩]) (he := by kernel_rfl) (hsz := by kernel_rfl) (hz := by kernel_rfl) (hby := by kernel_rfl) rfl rfl d.1 hroom
    · cases hr

def ruling_copied_tb : List (CEp) := [clone187_ce]
def ruling_copied (x0 : DVerdict) : Option ((DVerdict) × Unit) :=
  (clone187 x0.reads).bind fun r1 =>
  some ((⟨x0.name, x0.commit, x0.at_, r1.1⟩ : DVerdict), ())
def ruling_copied_ce : CEp where
  f := 104
  args := [.cod 12]
  hs := []
  res := .val (.cod 12)
  outs := []
  m := fun d dh => ruling_copied d.1
  ok := ceO Tryz.func104 (by kernel_rfl) ruling_copied_tb (by kernel_rfl) fun d dh => by kernel_rfl

def ruling_put_dr : Nat → Nat → DrA
  | 1, _ => ⟨[0, 1, 2, 4, 6, 7, 8, 3, 5, 9, 10, 11], [[], [0], [0, 1], [0, 1, 2], [], [4], [], [6], [6, 7], [6, 7, 8], [6, 7, 8, 9], (List.range 11)], [], [], [], false, []⟩
  | 2, _ => ⟨(List.range 12), [[], [], [1], [1, 2], [1, 2, 3], [], [5], [5, 6], [1, 2, 3, 4, 5, 6, 7], (List.range 9), (List.range 10), (List.range 11)], [4], [6], [0], false, []⟩
  | _, _ => ⟨[], [], [], [], [], false, []⟩
def ruling_put_tb : List (CEp) := [ruling_copied_ce]
def ruling_put (x1 : DVerdict) (h0 : (List (DVerdict)) × Unit × Unit) (h1 : List ((Int × Int) × Int)) : Option (Unit × (((List (DVerdict)) × Unit × Unit) × (List ((Int × Int) × Int)) × Unit × Unit × Unit)) :=
  (ruling_copied x1).bind fun r1 =>
  (if h0.1.length + ([r1.1] : List (DVerdict)).length ≤ 140737488355328 ∧ (h0.1.length + ([r1.1] : List (DVerdict)).length) * 56 ≤ 140737488355328 then
  some ((), (((h0.1 ++ ([r1.1] : List (DVerdict))), (), ()), (mput (.two .i64 .i64) h1 (x1.name.client, x1.name.num) (h0.1.length : Int)), (), (), ()))
  else none)
def ruling_put_ce : CEp where
  f := 112
  args := [.one (.ptr 0 0), .cod 12]
  hs := [.obj 197 [.own 12 2, .mo 1], .mmap (.two .i64 .i64) (.int .i64), .row 41 5]
  res := .tup []
  outs := [.obj 197 [.own 12 3, .mo 1], .mmap (.two .i64 .i64) (.int .i64), .dead, .row 41 5]
  m := fun d dh => ruling_put d.2.1 dh.1 dh.2.1
  ok := ce_ok mixedP Tryz.func112 (by kernel_rfl) (orcOf_ok ruling_put_tb) (dr := ruling_put_dr) (lps := lpsOf lt0) (lps_fn (no_loop (by kernel_rfl))) (fun d dh => by kernel_rfl)

def ruling_Copy_dr : Nat → Nat → DrA
  | 7, _ => ⟨(List.range 5), [[], [0], [0, 1], [], [0, 1, 2, 3]], [], [], [], false, []⟩
  | _, _ => ⟨[], [], [], [], [], false, []⟩
def ruling_Copy_tb : List (CEp) := [ruling_known_ce, ruling_New_ce, ruling_put_ce]
def ruling_Copy_l1 (a : (Unit × (List (DVerdict)) × Int × Int × Unit) × (((List (DVerdict)) × Unit × Unit) × (List ((Int × Int) × Int)) × Unit × Unit)) : Option (((Unit × (List (DVerdict)) × Int × Int × Unit) × (((List (DVerdict)) × Unit × Unit) × (List ((Int × Int) × Int)) × Unit × Unit)) ⊕ (((Unit × Unit) × (((List (DVerdict)) × Unit × Unit) × (List ((Int × Int) × Int)) × Unit × Unit × Unit)))) :=
  (bif (decide ((a.1.2.2.2.1 : Int) < a.1.2.2.1)) then
  (getI a.1.2.1 a.1.2.2.2.1).bind fun e1 =>
  (ruling_put e1 a.2.1 a.2.2.1).bind fun r2 =>
  some (.inl (((), a.1.2.1, a.1.2.2.1, (IntKind.i64.wrap (a.1.2.2.2.1 + 1)), ()), (r2.2.1, r2.2.2.1, (), ())))
  else
  some (.inr (((), ()), (a.2.1, a.2.2.1, (), (), ()))))
def ruling_Copy_e1 : LEp := ⟨5, [3, 14, 15, 16], [.one (.ptr 0 0), .one (.sl 12), .one (.int .i64), .one (.int .i64)], [.obj 197 [.own 12 2, .mo 1], .mmap (.two .i64 .i64) (.int .i64), .row 41 5], [⟨.exit 0, [3], [.one (.ptr 0 0)], [.obj 197 [.own 12 3, .mo 1], .mmap (.two .i64 .i64) (.int .i64), .dead, .row 41 5]⟩], ruling_Copy_l1⟩
def ruling_Copy_lt : List (LEp) := [ruling_Copy_e1]
theorem ruling_Copy_e1_ok : LeOk ruling_Copy_e1 (nthL (bodyOf Tryz.f64) 0) := fun A env h k z hk => le_ok (E := ruling_Copy_e1) (orcOf_ok ruling_Copy_tb) (dr := ruling_Copy_dr) (lps := lpsOf ruling_Copy_lt) (no_loop (by kernel_rfl)) (fun a => by kernel_rfl) env h k z hk
def ruling_Copy (h0 : (List (DVerdict)) × Unit × Unit) (h1 : List ((Int × Int) × Int)) : Option (Unit × (((List (DVerdict)) × Unit × Unit) × (List ((Int × Int) × Int)) × Unit × ((List (DVerdict)) × Unit × Unit) × (List ((Int × Int) × Int)) × Unit × Unit × Unit)) :=
  (ruling_known h0 h1).bind fun r1 =>
  (bif (!r1.1) then
  none
  else
  (ruling_New).bind fun r2 =>
  (loopM ruling_Copy_l1 (((), r1.2.1.1, (r1.2.1.1.length : Int), 0, ()), (r2.2.1, r2.2.2.1, (), ()))).bind fun b3 =>
  some ((), (r1.2.1, r1.2.2.1, (), b3.2.1, b3.2.2.1, (), (), ())))
def ruling_Copy_ce : CEp where
  f := 64
  args := [.one (.ptr 0 0)]
  hs := [.obj 197 [.own 12 2, .mo 1], .mmap (.two .i64 .i64) (.int .i64), .row 41 5]
  res := .val (.one (.ptr 3 0))
  outs := [.obj 197 [.own 12 5, .mo 1], .mmap (.two .i64 .i64) (.int .i64), .dead, .obj 197 [.own 12 6, .mo 4], .mmap (.two .i64 .i64) (.int .i64), .row 41 5, .row 41 5]
  m := fun d dh => ruling_Copy dh.1 dh.2.1
  ok := ce_ok mixedP Tryz.func64 (by kernel_rfl) (orcOf_ok ruling_Copy_tb) (dr := ruling_Copy_dr) (lps := lpsOf ruling_Copy_lt) (lps_fn (lps_of (n := 1) (by kernel_rfl) fun i hi => match i, hi with | 0, _ => lp_ok (E := ruling_Copy_e1) (by kernel_rfl) ruling_Copy_e1_ok)) (fun d dh => by kernel_rfl)

def registry_Copy_dr : Nat → Nat → DrA
  | 3, _ => ⟨[0, 1, 2, 3, 7, 8, 9, 12, 13, 14, 4, 10, 15, 5, 6, 11, 16, 17, 18], [[], [0], [0, 1], [0, 1, 2], [0, 1, 2, 3], (List.range 5), (List.range 6), [], [7], [7, 8], [7, 8, 9], (List.range 6 ++ [7, 8, 9, 10]), [], [12], [12, 13], [12, 13, 14], (List.range 16), (List.range 17), (List.range 18)], [10, 15], [5, 11], [0], false, []⟩
  | _, _ => ⟨[], [], [], [], [], false, []⟩
def registry_Copy_tb : List (CEp) := [registry_known_ce, ruling_Copy_ce, registry_copied_ce]
def registry_Copy (h0 : Unit × Int × (List (DShare)) × Bool × Int × (List UInt8) × (List UInt8) × Int × Int × Int × Int × Int × Int × Unit) (h1 : (List (DVerdict)) × Unit × Unit) (h2 : List ((Int × Int) × Int)) : Option (Unit × ((Unit × Int × (List (DShare)) × Bool × Int × (List UInt8) × (List UInt8) × Int × Int × Int × Int × Int × Int × Unit) × ((List (DVerdict)) × Unit × Unit) × (List ((Int × Int) × Int)) × Unit × (Unit × Int × (List (DShare)) × Bool × Int × (List UInt8) × (List UInt8) × Int × Int × Int × Int × Int × Int × Unit) × ((List (DVerdict)) × Unit × Unit) × (List ((Int × Int) × Int)) × Unit × Unit × Unit)) :=
  (registry_known h0 h1 h2).bind fun r1 =>
  (bif (!r1.1) then
  none
  else
  (ruling_Copy r1.2.2.1 r1.2.2.2.1).bind fun r2 =>
  (registry_copied (⟨(⟨r1.2.1.2.1, r1.2.1.2.2.1⟩ : DShares), r1.2.1.2.2.2.1, (⟨r1.2.1.2.2.2.2.1, (⟨r1.2.1.2.2.2.2.2.1, r1.2.1.2.2.2.2.2.2.1⟩ : DSpan), r1.2.1.2.2.2.2.2.2.2.1, r1.2.1.2.2.2.2.2.2.2.2.1, r1.2.1.2.2.2.2.2.2.2.2.2.1, r1.2.1.2.2.2.2.2.2.2.2.2.2.1, r1.2.1.2.2.2.2.2.2.2.2.2.2.2.1⟩ : DScheme)⟩ : DPlan)).bind fun r3 =>
  some ((), (r1.2.1, r2.2.1, r2.2.2.1, (), ((), r3.1.shares.epoch, r3.1.shares.list, r3.1.under, r3.1.x.num, r3.1.x.span.lo, r3.1.x.span.hi, r3.1.x.from_, r3.1.x.to_, r3.1.x.epoch, r3.1.x.under, r3.1.x.stage, r1.2.1.2.2.2.2.2.2.2.2.2.2.2.2.1, ()), r2.2.2.2.2.1, r2.2.2.2.2.2.1, (), (), ())))
def registry_Copy_ce : CEp where
  f := 24
  args := [.one (.ptr 0 0)]
  hs := [.obj 110 [.ptr 1 0, .int .i64, .sl 5, .bool, .int .i64, .str, .str, .int .i64, .int .i64, .int .i64, .int .i64, .int .u8, .int .i64], .obj 197 [.own 12 3, .mo 2], .mmap (.two .i64 .i64) (.int .i64), .row 41 5]
  res := .val (.one (.ptr 4 0))
  outs := [.obj 110 [.ptr 1 0, .int .i64, .sl 5, .bool, .int .i64, .str, .str, .int .i64, .int .i64, .int .i64, .int .i64, .int .u8, .int .i64], .obj 197 [.own 12 7, .mo 2], .mmap (.two .i64 .i64) (.int .i64), .dead, .obj 110 [.ptr 5 0, .int .i64, .sl 5, .bool, .int .i64, .str, .str, .int .i64, .int .i64, .int .i64, .int .i64, .int .u8, .int .i64], .obj 197 [.own 12 8, .mo 6], .mmap (.two .i64 .i64) (.int .i64), .row 41 5, .row 41 5]
  m := fun d dh => registry_Copy dh.1 dh.2.1 dh.2.2.1
  ok := ce_ok mixedP Tryz.func24 (by kernel_rfl) (orcOf_ok registry_Copy_tb) (dr := registry_Copy_dr) (lps := lpsOf lt0) (lps_fn (no_loop (by kernel_rfl))) (fun d dh => by kernel_rfl)

def wire_NewWriter_tb : List (CEp) := []
def wire_NewWriter  : Option (Unit × ((Bool × Bool × LB × Unit) × Unit × Unit)) :=
  some ((), ((true, false, [], ()), (), ()))
def wire_NewWriter_ce : CEp where
  f := 40
  args := []
  hs := []
  res := .val (.one (.ptr 0 0))
  outs := [.obj 180 [.bool, .bool, .own 1 1], .row 5 1]
  m := fun d dh => wire_NewWriter
  ok := ceO Tryz.func40 (by kernel_rfl) wire_NewWriter_tb (by kernel_rfl) fun d dh => by kernel_rfl

def wire_known_tb : List (CEp) := []
def wire_known (h0 : Bool × Bool × LB × Unit) : Option (Bool × ((Bool × Bool × LB × Unit) × Unit × Unit × Unit)) :=
  some (h0.1, (h0, (), (), ()))
def wire_known_ce : CEp where
  f := 90
  args := [.one (.ptr 0 0)]
  hs := [.obj 180 [.bool, .bool, .own 1 1], .row 5 1]
  res := .val (.one (.bool))
  outs := [.obj 180 [.bool, .bool, .own 1 2], .dead, .row 5 1]
  m := fun d dh => wire_known dh.1
  ok := ceO Tryz.func90 (by kernel_rfl) wire_known_tb (by kernel_rfl) fun d dh => by kernel_rfl

def wire_put_tb : List (CEp) := []
def wire_put (x1 : LB) (h0 : Bool × Bool × LB × Unit) : Option (Unit × ((Bool × Bool × LB × Unit) × Unit × Unit × Unit)) :=
  (bif h0.1 then
  (if h0.2.2.1.length + x1.length ≤ 140737488355328 ∧ (h0.2.2.1.length + x1.length) * 1 ≤ 140737488355328 then
  some ((), ((h0.1, h0.2.1, (h0.2.2.1 ++ x1), ()), (), (), ()))
  else none)
  else
  some ((), (h0, (), (), ())))
def wire_put_ce : CEp where
  f := 189
  args := [.one (.ptr 0 0), .one (.sl 1)]
  hs := [.obj 180 [.bool, .bool, .own 1 1], .row 5 1]
  res := .tup []
  outs := [.obj 180 [.bool, .bool, .own 1 2], .dead, .row 5 1]
  m := fun d dh => wire_put d.2.1 dh.1
  ok := ceO Tryz.func189 (by kernel_rfl) wire_put_tb (by kernel_rfl) fun d dh => by kernel_rfl

def wire_number_tb : List (CEp) := [wire_put_ce]
def wire_number_l1 (a : (Unit × Int × Unit) × ((Bool × Bool × LB × Unit) × Unit × Unit)) : Option (((Unit × Int × Unit) × ((Bool × Bool × LB × Unit) × Unit × Unit)) ⊕ (((Unit × Int × Unit) × ((Bool × Bool × LB × Unit) × Unit × Unit × Unit)))) :=
  (bif (decide ((127 : Int) < a.1.2.1)) then
  (b8 (IntKind.u8.wrap ((BitVec.ofInt (IntKind.u8.bits) (IntKind.u8.wrap a.1.2.1) ||| BitVec.ofInt (IntKind.u8.bits) 128).toNat))).bind fun u1 =>
  (wire_put ([u1] : LB) a.2.1).bind fun r2 =>
  some (.inl (((), ((a.1.2.1 : Int).fdiv (2 ^ min (7 : Int).toNat (IntKind.i64.bits))), ()), (r2.2.1, (), ())))
  else
  some (.inr (((), a.1.2.1, ()), (a.2.1, (), (), ()))))
def wire_number_e1 : LEp := ⟨2, [0, 1], [.one (.ptr 0 0), .one (.int .i64)], [.obj 180 [.bool, .bool, .own 1 1], .row 5 1], [⟨.exit 0, [0, 1], [.one (.ptr 0 0), .one (.int .i64)], [.obj 180 [.bool, .bool, .own 1 2], .dead, .row 5 1]⟩], wire_number_l1⟩
def wire_number_lt : List (LEp) := [wire_number_e1]
theorem wire_number_e1_ok : LeOk wire_number_e1 (nthL (bodyOf Tryz.f163) 0) := fun A env h k z hk => le_ok (E := wire_number_e1) (orcOf_ok wire_number_tb) (dr := dr0) (lps := lpsOf wire_number_lt) (no_loop (by kernel_rfl)) (fun a => by kernel_rfl) env h k z hk
def wire_number (x1 : Int) (h0 : Bool × Bool × LB × Unit) : Option (Unit × ((Bool × Bool × LB × Unit) × Unit × Unit × Unit)) :=
  (bif (decide ((x1 : Int) < 0)) then
  some ((), ((h0.1, true, h0.2.2.1, ()), (), (), ()))
  else
  (bif (decide ((4611686018427387903 : Int) < x1)) then
  some ((), ((h0.1, true, h0.2.2.1, ()), (), (), ()))
  else
  (loopM wire_number_l1 (((), x1, ()), (h0, (), ()))).bind fun b1 =>
  (b8 (IntKind.u8.wrap b1.1.2.1)).bind fun u2 =>
  (wire_put ([u2] : LB) b1.2.1).bind fun r3 =>
  some ((), (r3.2.1, (), (), ()))))
def wire_number_ce : CEp where
  f := 163
  args := [.one (.ptr 0 0), .one (.int .i64)]
  hs := [.obj 180 [.bool, .bool, .own 1 1], .row 5 1]
  res := .tup []
  outs := [.obj 180 [.bool, .bool, .own 1 2], .dead, .row 5 1]
  m := fun d dh => wire_number d.2.1 dh.1
  ok := ce_ok mixedP Tryz.func163 (by kernel_rfl) (orcOf_ok wire_number_tb) (dr := dr0) (lps := lpsOf wire_number_lt) (lps_fn (lps_of (n := 1) (by kernel_rfl) fun i hi => match i, hi with | 0, _ => lp_ok (E := wire_number_e1) (by kernel_rfl) wire_number_e1_ok)) (fun d dh => by kernel_rfl)

def wire_Numbers_tb : List (CEp) := [wire_known_ce, wire_number_ce]
def wire_Numbers_l1 (a : (Unit × LI × Int × Int × Unit) × ((Bool × Bool × LB × Unit) × Unit × Unit)) : Option (((Unit × LI × Int × Int × Unit) × ((Bool × Bool × LB × Unit) × Unit × Unit)) ⊕ (((Unit × Unit) × ((Bool × Bool × LB × Unit) × Unit × Unit × Unit)))) :=
  (bif (decide ((a.1.2.2.2.1 : Int) < a.1.2.2.1)) then
  (getI a.1.2.1 a.1.2.2.2.1).bind fun e1 =>
  (wire_number e1 a.2.1).bind fun r2 =>
  some (.inl (((), a.1.2.1, a.1.2.2.1, (IntKind.i64.wrap (a.1.2.2.2.1 + 1)), ()), (r2.2.1, (), ())))
  else
  some (.inr (((), ()), (a.2.1, (), (), ()))))
def wire_Numbers_e1 : LEp := ⟨3, [0, 9, 10, 11], [.one (.ptr 0 0), .one (.sl 0), .one (.int .i64), .one (.int .i64)], [.obj 180 [.bool, .bool, .own 1 1], .row 5 1], [⟨.exit 0, [0], [.one (.ptr 0 0)], [.obj 180 [.bool, .bool, .own 1 2], .dead, .row 5 1]⟩], wire_Numbers_l1⟩
def wire_Numbers_lt : List (LEp) := [wire_Numbers_e1]
theorem wire_Numbers_e1_ok : LeOk wire_Numbers_e1 (nthL (bodyOf Tryz.f89) 0) := fun A env h k z hk => le_ok (E := wire_Numbers_e1) (orcOf_ok wire_Numbers_tb) (dr := dr0) (lps := lpsOf wire_Numbers_lt) (no_loop (by kernel_rfl)) (fun a => by kernel_rfl) env h k z hk
def wire_Numbers (x1 : LI) (h0 : Bool × Bool × LB × Unit) : Option (Unit × ((Bool × Bool × LB × Unit) × Unit × Unit × Unit)) :=
  (wire_known h0).bind fun r1 =>
  (bif r1.1 then
  (loopM wire_Numbers_l1 (((), x1, (x1.length : Int), 0, ()), (r1.2.1, (), ()))).bind fun b2 =>
  some ((), (b2.2.1, (), (), ()))
  else
  some ((), (r1.2.1, (), (), ())))
def wire_Numbers_ce : CEp where
  f := 89
  args := [.one (.ptr 0 0), .one (.sl 0)]
  hs := [.obj 180 [.bool, .bool, .own 1 1], .row 5 1]
  res := .val (.one (.ptr 0 0))
  outs := [.obj 180 [.bool, .bool, .own 1 2], .dead, .row 5 1]
  m := fun d dh => wire_Numbers d.2.1 dh.1
  ok := ce_ok mixedP Tryz.func89 (by kernel_rfl) (orcOf_ok wire_Numbers_tb) (dr := dr0) (lps := lpsOf wire_Numbers_lt) (lps_fn (lps_of (n := 1) (by kernel_rfl) fun i hi => match i, hi with | 0, _ => lp_ok (E := wire_Numbers_e1) (by kernel_rfl) wire_Numbers_e1_ok)) (fun d dh => by kernel_rfl)

def wire_Rows_tb : List (CEp) := [wire_known_ce, wire_number_ce, wire_put_ce]
def wire_Rows_l1 (a : (Unit × (List LB) × Int × Int × Unit) × ((Bool × Bool × LB × Unit) × Unit × Unit)) : Option (((Unit × (List LB) × Int × Int × Unit) × ((Bool × Bool × LB × Unit) × Unit × Unit)) ⊕ (((Unit × Unit) × ((Bool × Bool × LB × Unit) × Unit × Unit × Unit)))) :=
  (bif (decide ((a.1.2.2.2.1 : Int) < a.1.2.2.1)) then
  (getI a.1.2.1 a.1.2.2.2.1).bind fun e1 =>
  (wire_number (e1.length : Int) a.2.1).bind fun r2 =>
  (wire_put e1 r2.2.1).bind fun r3 =>
  some (.inl (((), a.1.2.1, a.1.2.2.1, (IntKind.i64.wrap (a.1.2.2.2.1 + 1)), ()), (r3.2.1, (), ())))
  else
  some (.inr (((), ()), (a.2.1, (), (), ()))))
def wire_Rows_e1 : LEp := ⟨3, [0, 9, 10, 11], [.one (.ptr 0 0), .one (.sl 23), .one (.int .i64), .one (.int .i64)], [.obj 180 [.bool, .bool, .own 1 1], .row 5 1], [⟨.exit 0, [0], [.one (.ptr 0 0)], [.obj 180 [.bool, .bool, .own 1 2], .dead, .row 5 1]⟩], wire_Rows_l1⟩
def wire_Rows_lt : List (LEp) := [wire_Rows_e1]
theorem wire_Rows_e1_ok : LeOk wire_Rows_e1 (nthL (bodyOf Tryz.f188) 0) := fun A env h k z hk => le_ok (E := wire_Rows_e1) (orcOf_ok wire_Rows_tb) (dr := dr0) (lps := lpsOf wire_Rows_lt) (no_loop (by kernel_rfl)) (fun a => by kernel_rfl) env h k z hk
def wire_Rows (x1 : List LB) (h0 : Bool × Bool × LB × Unit) : Option (Unit × ((Bool × Bool × LB × Unit) × Unit × Unit × Unit)) :=
  (wire_known h0).bind fun r1 =>
  (bif r1.1 then
  (loopM wire_Rows_l1 (((), x1, (x1.length : Int), 0, ()), (r1.2.1, (), ()))).bind fun b2 =>
  some ((), (b2.2.1, (), (), ()))
  else
  some ((), (r1.2.1, (), (), ())))
def wire_Rows_ce : CEp where
  f := 188
  args := [.one (.ptr 0 0), .one (.sl 23)]
  hs := [.obj 180 [.bool, .bool, .own 1 1], .row 5 1]
  res := .val (.one (.ptr 0 0))
  outs := [.obj 180 [.bool, .bool, .own 1 2], .dead, .row 5 1]
  m := fun d dh => wire_Rows d.2.1 dh.1
  ok := ce_ok mixedP Tryz.func188 (by kernel_rfl) (orcOf_ok wire_Rows_tb) (dr := dr0) (lps := lpsOf wire_Rows_lt) (lps_fn (lps_of (n := 1) (by kernel_rfl) fun i hi => match i, hi with | 0, _ => lp_ok (E := wire_Rows_e1) (by kernel_rfl) wire_Rows_e1_ok)) (fun d dh => by kernel_rfl)

def wire_Texts_tb : List (CEp) := [wire_known_ce, wire_Rows_ce]
def wire_Texts_l1 (a : (Unit × (List (List UInt8)) × Int × Int × Unit) × ((Bool × Bool × LB × Unit) × Unit × Unit)) : Option (((Unit × (List (List UInt8)) × Int × Int × Unit) × ((Bool × Bool × LB × Unit) × Unit × Unit)) ⊕ (((Unit × Unit) × ((Bool × Bool × LB × Unit) × Unit × Unit × Unit)))) :=
  (bif (decide ((a.1.2.2.2.1 : Int) < a.1.2.2.1)) then
  (getI a.1.2.1 a.1.2.2.2.1).bind fun e1 =>
  (if e1.length ≤ 140737488355328 then
  (wire_Rows ([e1] : List LB) a.2.1).bind fun r2 =>
  some (.inl (((), a.1.2.1, a.1.2.2.1, (IntKind.i64.wrap (a.1.2.2.2.1 + 1)), ()), (r2.2.1, (), ())))
  else none)
  else
  some (.inr (((), ()), (a.2.1, (), (), ()))))
def wire_Texts_e1 : LEp := ⟨3, [0, 9, 10, 11], [.one (.ptr 0 0), .one (.sl 2), .one (.int .i64), .one (.int .i64)], [.obj 180 [.bool, .bool, .own 1 1], .row 5 1], [⟨.exit 0, [0], [.one (.ptr 0 0)], [.obj 180 [.bool, .bool, .own 1 2], .dead, .row 5 1]⟩], wire_Texts_l1⟩
def wire_Texts_lt : List (LEp) := [wire_Texts_e1]
theorem wire_Texts_e1_ok : LeOk wire_Texts_e1 (nthL (bodyOf Tryz.f105) 0) := fun A env h k z hk => le_ok (E := wire_Texts_e1) (orcOf_ok wire_Texts_tb) (dr := dr0) (lps := lpsOf wire_Texts_lt) (no_loop (by kernel_rfl)) (fun a => by kernel_rfl) env h k z hk
def wire_Texts (x1 : List (List UInt8)) (h0 : Bool × Bool × LB × Unit) : Option (Unit × ((Bool × Bool × LB × Unit) × Unit × Unit × Unit)) :=
  (wire_known h0).bind fun r1 =>
  (bif r1.1 then
  (loopM wire_Texts_l1 (((), x1, (x1.length : Int), 0, ()), (r1.2.1, (), ()))).bind fun b2 =>
  some ((), (b2.2.1, (), (), ()))
  else
  some ((), (r1.2.1, (), (), ())))
def wire_Texts_ce : CEp where
  f := 105
  args := [.one (.ptr 0 0), .one (.sl 2)]
  hs := [.obj 180 [.bool, .bool, .own 1 1], .row 5 1]
  res := .val (.one (.ptr 0 0))
  outs := [.obj 180 [.bool, .bool, .own 1 2], .dead, .row 5 1]
  m := fun d dh => wire_Texts d.2.1 dh.1
  ok := ce_ok mixedP Tryz.func105 (by kernel_rfl) (orcOf_ok wire_Texts_tb) (dr := dr0) (lps := lpsOf wire_Texts_lt) (lps_fn (lps_of (n := 1) (by kernel_rfl) fun i hi => match i, hi with | 0, _ => lp_ok (E := wire_Texts_e1) (by kernel_rfl) wire_Texts_e1_ok)) (fun d dh => by kernel_rfl)

def wire_Numbers_2_tb : List (CEp) := [wire_known_ce, wire_number_ce]
def wire_Numbers_2_l1 (a : (Unit × (Nat × Nat × Nat) × Int × Int × Unit) × ((Bool × Bool × LB × Unit) × LI × Unit × Unit)) : Option (((Unit × (Nat × Nat × Nat) × Int × Int × Unit) × ((Bool × Bool × LB × Unit) × LI × Unit × Unit)) ⊕ (((Unit × Unit) × ((Bool × Bool × LB × Unit) × LI × Unit × Unit × Unit)))) :=
  (bif (decide ((a.1.2.2.2.1 : Int) < a.1.2.2.1)) then
  (if 0 ≤ (a.1.2.2.2.1 : Int) ∧ (a.1.2.2.2.1 : Int) < ((a.1.2.1.2.1 : Nat) : Int) then
  (a.2.2.1[(a.1.2.1.1 + (a.1.2.2.2.1 : Int).toNat)]?).bind fun e1 =>
  (wire_number e1 a.2.1).bind fun r2 =>
  some (.inl (((), (a.1.2.1.1, a.1.2.1.2.1, a.1.2.1.2.2), a.1.2.2.1, (IntKind.i64.wrap (a.1.2.2.2.1 + 1)), ()), (r2.2.1, a.2.2.1, (), ())))
  else none)
  else
  some (.inr (((), ()), (a.2.1, a.2.2.1, (), (), ()))))
def wire_Numbers_2_e1 : LEp := ⟨3, [0, 9, 10, 11], [.one (.ptr 0 0), .one (.as 0 1), .one (.int .i64), .one (.int .i64)], [.obj 180 [.bool, .bool, .own 1 2], .arr 3 0 true, .row 5 1], [⟨.exit 0, [0], [.one (.ptr 0 0)], [.obj 180 [.bool, .bool, .own 1 3], .arr 3 0 true, .dead, .row 5 1]⟩], wire_Numbers_2_l1⟩
def wire_Numbers_2_lt : List (LEp) := [wire_Numbers_2_e1]
theorem wire_Numbers_2_e1_ok : LeOk wire_Numbers_2_e1 (nthL (bodyOf Tryz.f89) 0) := fun A env h k z hk => le_ok (E := wire_Numbers_2_e1) (orcOf_ok wire_Numbers_2_tb) (dr := dr0) (lps := lpsOf wire_Numbers_2_lt) (no_loop (by kernel_rfl)) (fun a => by kernel_rfl) env h k z hk
def wire_Numbers_2 (x1 : Nat × Nat × Nat) (h0 : Bool × Bool × LB × Unit) (h1 : LI) : Option (Unit × ((Bool × Bool × LB × Unit) × LI × Unit × Unit × Unit)) :=
  (wire_known h0).bind fun r1 =>
  (bif r1.1 then
  (loopM wire_Numbers_2_l1 (((), (x1.1, x1.2.1, x1.2.2), ((x1.2.1 : Nat) : Int), 0, ()), (r1.2.1, h1, (), ()))).bind fun b2 =>
  some ((), (b2.2.1, b2.2.2.1, (), (), ()))
  else
  some ((), (r1.2.1, h1, (), (), ())))
def wire_Numbers_2_ce : CEp where
  f := 89
  args := [.one (.ptr 0 0), .one (.as 0 1)]
  hs := [.obj 180 [.bool, .bool, .own 1 2], .arr 3 0 true, .row 5 1]
  res := .val (.one (.ptr 0 0))
  outs := [.obj 180 [.bool, .bool, .own 1 3], .arr 3 0 true, .dead, .row 5 1]
  m := fun d dh => wire_Numbers_2 d.2.1 dh.1 dh.2.1
  ok := ce_ok mixedP Tryz.func89 (by kernel_rfl) (orcOf_ok wire_Numbers_2_tb) (dr := dr0) (lps := lpsOf wire_Numbers_2_lt) (lps_fn (lps_of (n := 1) (by kernel_rfl) fun i hi => match i, hi with | 0, _ => lp_ok (E := wire_Numbers_2_e1) (by kernel_rfl) wire_Numbers_2_e1_ok)) (fun d dh => by kernel_rfl)

def wire_Flags_tb : List (CEp) := [wire_known_ce, wire_put_ce]
def wire_Flags_l1 (a : (Unit × (List Bool) × Int × Int × Unit) × ((Bool × Bool × LB × Unit) × Unit × Unit)) : Option (((Unit × (List Bool) × Int × Int × Unit) × ((Bool × Bool × LB × Unit) × Unit × Unit)) ⊕ (((Unit × Unit) × ((Bool × Bool × LB × Unit) × Unit × Unit × Unit)))) :=
  (bif (decide ((a.1.2.2.2.1 : Int) < a.1.2.2.1)) then
  (getI a.1.2.1 a.1.2.2.2.1).bind fun e1 =>
  (bif e1 then
  (b8 1).bind fun u2 =>
  (wire_put ([u2] : LB) a.2.1).bind fun r3 =>
  some (.inl (((), a.1.2.1, a.1.2.2.1, (IntKind.i64.wrap (a.1.2.2.2.1 + 1)), ()), (r3.2.1, (), ())))
  else
  (b8 0).bind fun u4 =>
  (wire_put ([u4] : LB) a.2.1).bind fun r5 =>
  some (.inl (((), a.1.2.1, a.1.2.2.1, (IntKind.i64.wrap (a.1.2.2.2.1 + 1)), ()), (r5.2.1, (), ()))))
  else
  some (.inr (((), ()), (a.2.1, (), (), ()))))
def wire_Flags_e1 : LEp := ⟨3, [0, 9, 10, 11], [.one (.ptr 0 0), .one (.sl 9), .one (.int .i64), .one (.int .i64)], [.obj 180 [.bool, .bool, .own 1 1], .row 5 1], [⟨.exit 0, [0], [.one (.ptr 0 0)], [.obj 180 [.bool, .bool, .own 1 2], .dead, .row 5 1]⟩], wire_Flags_l1⟩
def wire_Flags_lt : List (LEp) := [wire_Flags_e1]
theorem wire_Flags_e1_ok : LeOk wire_Flags_e1 (nthL (bodyOf Tryz.f106) 0) := fun A env h k z hk => le_ok (E := wire_Flags_e1) (orcOf_ok wire_Flags_tb) (dr := dr0) (lps := lpsOf wire_Flags_lt) (no_loop (by kernel_rfl)) (fun a => by kernel_rfl) env h k z hk
def wire_Flags (x1 : List Bool) (h0 : Bool × Bool × LB × Unit) : Option (Unit × ((Bool × Bool × LB × Unit) × Unit × Unit × Unit)) :=
  (wire_known h0).bind fun r1 =>
  (bif r1.1 then
  (loopM wire_Flags_l1 (((), x1, (x1.length : Int), 0, ()), (r1.2.1, (), ()))).bind fun b2 =>
  some ((), (b2.2.1, (), (), ()))
  else
  some ((), (r1.2.1, (), (), ())))
def wire_Flags_ce : CEp where
  f := 106
  args := [.one (.ptr 0 0), .one (.sl 9)]
  hs := [.obj 180 [.bool, .bool, .own 1 1], .row 5 1]
  res := .val (.one (.ptr 0 0))
  outs := [.obj 180 [.bool, .bool, .own 1 2], .dead, .row 5 1]
  m := fun d dh => wire_Flags d.2.1 dh.1
  ok := ce_ok mixedP Tryz.func106 (by kernel_rfl) (orcOf_ok wire_Flags_tb) (dr := dr0) (lps := lpsOf wire_Flags_lt) (lps_fn (lps_of (n := 1) (by kernel_rfl) fun i hi => match i, hi with | 0, _ => lp_ok (E := wire_Flags_e1) (by kernel_rfl) wire_Flags_e1_ok)) (fun d dh => by kernel_rfl)

def wire_Texts_2_tb : List (CEp) := [wire_known_ce, wire_Rows_ce]
def wire_Texts_2_l1 (a : (Unit × (Nat × Nat × Nat) × Int × Int × Unit) × ((Bool × Bool × LB × Unit) × (List (List UInt8)) × Unit × Unit)) : Option (((Unit × (Nat × Nat × Nat) × Int × Int × Unit) × ((Bool × Bool × LB × Unit) × (List (List UInt8)) × Unit × Unit)) ⊕ (((Unit × Unit) × ((Bool × Bool × LB × Unit) × (List (List UInt8)) × Unit × Unit × Unit)))) :=
  (bif (decide ((a.1.2.2.2.1 : Int) < a.1.2.2.1)) then
  (if 0 ≤ (a.1.2.2.2.1 : Int) ∧ (a.1.2.2.2.1 : Int) < ((a.1.2.1.2.1 : Nat) : Int) then
  (a.2.2.1[(a.1.2.1.1 + (a.1.2.2.2.1 : Int).toNat)]?).bind fun e1 =>
  (if e1.length ≤ 140737488355328 then
  (wire_Rows ([e1] : List LB) a.2.1).bind fun r2 =>
  some (.inl (((), (a.1.2.1.1, a.1.2.1.2.1, a.1.2.1.2.2), a.1.2.2.1, (IntKind.i64.wrap (a.1.2.2.2.1 + 1)), ()), (r2.2.1, a.2.2.1, (), ())))
  else none)
  else none)
  else
  some (.inr (((), ()), (a.2.1, a.2.2.1, (), (), ()))))
def wire_Texts_2_e1 : LEp := ⟨3, [0, 9, 10, 11], [.one (.ptr 0 0), .one (.as 2 1), .one (.int .i64), .one (.int .i64)], [.obj 180 [.bool, .bool, .own 1 2], .arr 9 2 true, .row 5 1], [⟨.exit 0, [0], [.one (.ptr 0 0)], [.obj 180 [.bool, .bool, .own 1 3], .arr 9 2 true, .dead, .row 5 1]⟩], wire_Texts_2_l1⟩
def wire_Texts_2_lt : List (LEp) := [wire_Texts_2_e1]
theorem wire_Texts_2_e1_ok : LeOk wire_Texts_2_e1 (nthL (bodyOf Tryz.f105) 0) := fun A env h k z hk => le_ok (E := wire_Texts_2_e1) (orcOf_ok wire_Texts_2_tb) (dr := dr0) (lps := lpsOf wire_Texts_2_lt) (no_loop (by kernel_rfl)) (fun a => by kernel_rfl) env h k z hk
def wire_Texts_2 (x1 : Nat × Nat × Nat) (h0 : Bool × Bool × LB × Unit) (h1 : List (List UInt8)) : Option (Unit × ((Bool × Bool × LB × Unit) × (List (List UInt8)) × Unit × Unit × Unit)) :=
  (wire_known h0).bind fun r1 =>
  (bif r1.1 then
  (loopM wire_Texts_2_l1 (((), (x1.1, x1.2.1, x1.2.2), ((x1.2.1 : Nat) : Int), 0, ()), (r1.2.1, h1, (), ()))).bind fun b2 =>
  some ((), (b2.2.1, b2.2.2.1, (), (), ()))
  else
  some ((), (r1.2.1, h1, (), (), ())))
def wire_Texts_2_ce : CEp where
  f := 105
  args := [.one (.ptr 0 0), .one (.as 2 1)]
  hs := [.obj 180 [.bool, .bool, .own 1 2], .arr 9 2 true, .row 5 1]
  res := .val (.one (.ptr 0 0))
  outs := [.obj 180 [.bool, .bool, .own 1 3], .arr 9 2 true, .dead, .row 5 1]
  m := fun d dh => wire_Texts_2 d.2.1 dh.1 dh.2.1
  ok := ce_ok mixedP Tryz.func105 (by kernel_rfl) (orcOf_ok wire_Texts_2_tb) (dr := dr0) (lps := lpsOf wire_Texts_2_lt) (lps_fn (lps_of (n := 1) (by kernel_rfl) fun i hi => match i, hi with | 0, _ => lp_ok (E := wire_Texts_2_e1) (by kernel_rfl) wire_Texts_2_e1_ok)) (fun d dh => by kernel_rfl)

def scheme_Write_dr : Nat → Nat → DrA
  | 1, _ => ⟨[0, 1, 5, 6, 8, 9, 13, 15, 17, 19, 21, 2, 7, 10, 14, 16, 18, 20, 22, 23, 3, 4, 11, 12, 24, 25, 26], [[], [], [1], [1, 2], [0, 1, 2, 3], [], [5], [5, 6], [], [8], [8, 9], [5, 6, 7, 8, 9, 10], (List.range 12), [], [13], [], [15], [], [17], [], [19], [], [21], [21, 22], [13, 14, 15, 16, 17, 18, 19, 20, 21, 22, 23], (List.range 25), (List.range 26)], [7, 10, 14, 16, 18, 20, 22], [4, 12], [2], false, [11, 24]⟩
  | _, _ => ⟨[], [], [], [], [], false, []⟩
def scheme_Write_tb : List (CEp) := [wire_Numbers_ce, wire_Texts_2_ce, wire_Numbers_2_ce]
def scheme_Write (x1 : DScheme) (h0 : Bool × Bool × LB × Unit) : Option (Unit × ((Bool × Bool × LB × Unit) × Unit × Unit × Unit)) :=
  (wire_Numbers ([x1.num] : LI) h0).bind fun r1 =>
  (wire_Texts_2 (0, 2, 2) r1.2.1 ([x1.span.lo, x1.span.hi] : List (List UInt8))).bind fun r2 =>
  (wire_Numbers_2 (0, 5, 5) r2.2.1 ([x1.from_, x1.to_, x1.epoch, x1.under, (IntKind.i64.wrap x1.stage)] : LI)).bind fun r3 =>
  some ((), (r3.2.1, (), (), ()))
def scheme_Write_ce : CEp where
  f := 107
  args := [.one (.ptr 0 0), .cod 20]
  hs := [.obj 180 [.bool, .bool, .own 1 1], .row 5 1]
  res := .val (.one (.ptr 0 0))
  outs := [.obj 180 [.bool, .bool, .own 1 2], .dead, .row 5 1]
  m := fun d dh => scheme_Write d.2.1 dh.1
  ok := ce_ok mixedP Tryz.func107 (by kernel_rfl) (orcOf_ok scheme_Write_tb) (dr := scheme_Write_dr) (lps := lpsOf lt0) (lps_fn (no_loop (by kernel_rfl))) (fun d dh => by kernel_rfl)

def registry_write_dr : Nat → Nat → DrA
  | 5, _ => ⟨[0, 1, 2, 4, 5, 9, 11, 3, 6, 10, 12, 7, 8, 13, 14], [[], [], [1], [1, 2], [], [4], [4, 5], [1, 2, 3, 4, 5, 6], (List.range 8), [], [9], [], [11], [9, 10, 11, 12], (List.range 14)], [10, 12], [8], [3], false, [13]⟩
  | _, _ => ⟨[], [], [], [], [], false, []⟩
def registry_write_tb : List (CEp) := [wire_Numbers_ce, wire_Texts_ce, wire_Numbers_2_ce, wire_Flags_ce, scheme_Write_ce]
def registry_write_l1 (a : (Unit × Unit × (List (DShare)) × Int × Int × Unit) × ((Bool × Bool × LB × Unit) × (DPlan) × Unit × Unit)) : Option (((Unit × Unit × (List (DShare)) × Int × Int × Unit) × ((Bool × Bool × LB × Unit) × (DPlan) × Unit × Unit)) ⊕ (((Unit × Unit × Unit) × ((Bool × Bool × LB × Unit) × (DPlan) × Unit × Unit × Unit)))) :=
  (bif (decide ((a.1.2.2.2.2.1 : Int) < a.1.2.2.2.1)) then
  (getI a.1.2.2.1 a.1.2.2.2.2.1).bind fun e1 =>
  (wire_Texts ([e1.span.lo, e1.span.hi] : List (List UInt8)) a.2.1).bind fun r2 =>
  (wire_Numbers_2 (0, 2, 2) r2.2.1 ([e1.group, e1.epoch] : LI)).bind fun r3 =>
  some (.inl (((), (), a.1.2.2.1, a.1.2.2.2.1, (IntKind.i64.wrap (a.1.2.2.2.2.1 + 1)), ()), (r3.2.1, a.2.2.1, (), ())))
  else
  some (.inr (((), (), ()), (a.2.1, a.2.2.1, (), (), ()))))
def registry_write_e1 : LEp := ⟨3, [1, 2, 19, 20, 21], [.one (.ptr 0 0), .one (.ptr 1 0), .one (.sl 5), .one (.int .i64), .one (.int .i64)], [.obj 180 [.bool, .bool, .own 1 2], .cobj 107 21, .row 5 1], [⟨.exit 0, [1, 2], [.one (.ptr 0 0), .one (.ptr 1 0)], [.obj 180 [.bool, .bool, .own 1 3], .cobj 107 21, .dead, .row 5 1]⟩], registry_write_l1⟩
def registry_write_lt : List (LEp) := [registry_write_e1]
theorem registry_write_e1_ok : LeOk registry_write_e1 (nthL (bodyOf Tryz.f56) 0) := fun A env h k z hk => le_ok (E := registry_write_e1) (orcOf_ok registry_write_tb) (dr := registry_write_dr) (lps := lpsOf registry_write_lt) (no_loop (by kernel_rfl)) (fun a => by kernel_rfl) env h k z hk
def registry_write (x0 : DPlan) (h0 : Bool × Bool × LB × Unit) : Option (Unit × ((Bool × Bool × LB × Unit) × Unit × Unit × Unit)) :=
  (wire_Numbers ([x0.shares.epoch, (x0.shares.list.length : Int)] : LI) h0).bind fun r1 =>
  (loopM registry_write_l1 (((), (), x0.shares.list, (x0.shares.list.length : Int), 0, ()), (r1.2.1, x0, (), ()))).bind fun b2 =>
  (wire_Flags ([b2.2.2.1.under] : List Bool) b2.2.1).bind fun r3 =>
  (bif b2.2.2.1.under then
  (scheme_Write b2.2.2.1.x r3.2.1).bind fun r4 =>
  some ((), (r4.2.1, (), (), ()))
  else
  some ((), (r3.2.1, (), (), ())))
def registry_write_ce : CEp where
  f := 56
  args := [.cod 21, .one (.ptr 0 0)]
  hs := [.obj 180 [.bool, .bool, .own 1 1], .row 5 1]
  res := .val (.one (.ptr 0 0))
  outs := [.obj 180 [.bool, .bool, .own 1 2], .dead, .row 5 1]
  m := fun d dh => registry_write d.1 dh.1
  ok := ce_ok mixedP Tryz.func56 (by kernel_rfl) (orcOf_ok registry_write_tb) (dr := registry_write_dr) (lps := lpsOf registry_write_lt) (lps_fn (lps_of (n := 1) (by kernel_rfl) fun i hi => match i, hi with | 0, _ => lp_ok (E := registry_write_e1) (by kernel_rfl) registry_write_e1_ok)) (fun d dh => by kernel_rfl)

def wire_Flags_2_tb : List (CEp) := [wire_known_ce, wire_put_ce]
def wire_Flags_2_l1 (a : (Unit × (Nat × Nat × Nat) × Int × Int × Unit) × ((Bool × Bool × LB × Unit) × (List Bool) × Unit × Unit)) : Option (((Unit × (Nat × Nat × Nat) × Int × Int × Unit) × ((Bool × Bool × LB × Unit) × (List Bool) × Unit × Unit)) ⊕ (((Unit × Unit) × ((Bool × Bool × LB × Unit) × (List Bool) × Unit × Unit × Unit)))) :=
  (bif (decide ((a.1.2.2.2.1 : Int) < a.1.2.2.1)) then
  (if 0 ≤ (a.1.2.2.2.1 : Int) ∧ (a.1.2.2.2.1 : Int) < ((a.1.2.1.2.1 : Nat) : Int) then
  (a.2.2.1[(a.1.2.1.1 + (a.1.2.2.2.1 : Int).toNat)]?).bind fun e1 =>
  (bif e1 then
  (b8 1).bind fun u2 =>
  (wire_put ([u2] : LB) a.2.1).bind fun r3 =>
  some (.inl (((), (a.1.2.1.1, a.1.2.1.2.1, a.1.2.1.2.2), a.1.2.2.1, (IntKind.i64.wrap (a.1.2.2.2.1 + 1)), ()), (r3.2.1, a.2.2.1, (), ())))
  else
  (b8 0).bind fun u4 =>
  (wire_put ([u4] : LB) a.2.1).bind fun r5 =>
  some (.inl (((), (a.1.2.1.1, a.1.2.1.2.1, a.1.2.1.2.2), a.1.2.2.1, (IntKind.i64.wrap (a.1.2.2.2.1 + 1)), ()), (r5.2.1, a.2.2.1, (), ()))))
  else none)
  else
  some (.inr (((), ()), (a.2.1, a.2.2.1, (), (), ()))))
def wire_Flags_2_e1 : LEp := ⟨3, [0, 9, 10, 11], [.one (.ptr 0 0), .one (.as 9 1), .one (.int .i64), .one (.int .i64)], [.obj 180 [.bool, .bool, .own 1 2], .arr 4 9 true, .row 5 1], [⟨.exit 0, [0], [.one (.ptr 0 0)], [.obj 180 [.bool, .bool, .own 1 3], .arr 4 9 true, .dead, .row 5 1]⟩], wire_Flags_2_l1⟩
def wire_Flags_2_lt : List (LEp) := [wire_Flags_2_e1]
theorem wire_Flags_2_e1_ok : LeOk wire_Flags_2_e1 (nthL (bodyOf Tryz.f106) 0) := fun A env h k z hk => le_ok (E := wire_Flags_2_e1) (orcOf_ok wire_Flags_2_tb) (dr := dr0) (lps := lpsOf wire_Flags_2_lt) (no_loop (by kernel_rfl)) (fun a => by kernel_rfl) env h k z hk
def wire_Flags_2 (x1 : Nat × Nat × Nat) (h0 : Bool × Bool × LB × Unit) (h1 : List Bool) : Option (Unit × ((Bool × Bool × LB × Unit) × (List Bool) × Unit × Unit × Unit)) :=
  (wire_known h0).bind fun r1 =>
  (bif r1.1 then
  (loopM wire_Flags_2_l1 (((), (x1.1, x1.2.1, x1.2.2), ((x1.2.1 : Nat) : Int), 0, ()), (r1.2.1, h1, (), ()))).bind fun b2 =>
  some ((), (b2.2.1, b2.2.2.1, (), (), ()))
  else
  some ((), (r1.2.1, h1, (), (), ())))
def wire_Flags_2_ce : CEp where
  f := 106
  args := [.one (.ptr 0 0), .one (.as 9 1)]
  hs := [.obj 180 [.bool, .bool, .own 1 2], .arr 4 9 true, .row 5 1]
  res := .val (.one (.ptr 0 0))
  outs := [.obj 180 [.bool, .bool, .own 1 3], .arr 4 9 true, .dead, .row 5 1]
  m := fun d dh => wire_Flags_2 d.2.1 dh.1 dh.2.1
  ok := ce_ok mixedP Tryz.func106 (by kernel_rfl) (orcOf_ok wire_Flags_2_tb) (dr := dr0) (lps := lpsOf wire_Flags_2_lt) (lps_fn (lps_of (n := 1) (by kernel_rfl) fun i hi => match i, hi with | 0, _ => lp_ok (E := wire_Flags_2_e1) (by kernel_rfl) wire_Flags_2_e1_ok)) (fun d dh => by kernel_rfl)

def ruling_Write_dr : Nat → Nat → DrA
  | 7, _ => ⟨[0, 1, 2, 4, 5, 7, 11, 15, 3, 6, 8, 12, 16, 17, 9, 10, 13, 14, 18, 19], [[], [], [1], [1, 2], [], [4], [4, 5], [], [7], [1, 2, 3, 4, 5, 6, 7, 8], (List.range 10), [], [11], [11, 12], (List.range 14), [], [15], [15, 16], [15, 16, 17], (List.range 19)], [12, 16], [10, 14], [2], false, [13, 18]⟩
  | 11, _ => ⟨[0, 1, 5, 9, 2, 6, 10, 3, 4, 7, 8, 11, 12], [[], [], [1], [1, 2], [0, 1, 2, 3], [], [5], [5, 6], (List.range 8), [], [9], [9, 10], (List.range 12)], [6, 10], [4, 8], [2], false, [7, 11]⟩
  | _, _ => ⟨[], [], [], [], [], false, []⟩
def ruling_Write_tb : List (CEp) := [ruling_known_ce, wire_Numbers_ce, wire_Flags_2_ce, wire_Numbers_2_ce, wire_Texts_ce, wire_Texts_2_ce]
def ruling_Write_l2 (a : (Unit × (List (DVerdict)) × Int × Int × (List (DRead)) × Int × Int × Unit) × ((Bool × Bool × LB × Unit) × Unit × Unit)) : Option (((Unit × (List (DVerdict)) × Int × Int × (List (DRead)) × Int × Int × Unit) × ((Bool × Bool × LB × Unit) × Unit × Unit)) ⊕ (((Unit × (List (DVerdict)) × Int × Int × Unit) × ((Bool × Bool × LB × Unit) × Unit × Unit × Unit)))) :=
  (bif (decide ((a.1.2.2.2.2.2.2.1 : Int) < a.1.2.2.2.2.2.1)) then
  (getI a.1.2.2.2.2.1 a.1.2.2.2.2.2.2.1).bind fun e1 =>
  (wire_Texts ([e1.key] : List (List UInt8)) a.2.1).bind fun r2 =>
  (wire_Flags_2 (0, 1, 1) r2.2.1 ([e1.is] : List Bool)).bind fun r3 =>
  (wire_Texts_2 (0, 1, 1) r3.2.1 ([e1.value] : List (List UInt8))).bind fun r4 =>
  some (.inl (((), a.1.2.1, a.1.2.2.1, a.1.2.2.2.1, a.1.2.2.2.2.1, a.1.2.2.2.2.2.1, (IntKind.i64.wrap (a.1.2.2.2.2.2.2.1 + 1)), ()), (r4.2.1, (), ())))
  else
  some (.inr (((), a.1.2.1, a.1.2.2.1, a.1.2.2.2.1, ()), (a.2.1, (), (), ()))))
def ruling_Write_e2 : LEp := ⟨9, [1, 26, 27, 28, 53, 54, 55], [.one (.ptr 0 0), .one (.sl 12), .one (.int .i64), .one (.int .i64), .one (.sl 10), .one (.int .i64), .one (.int .i64)], [.obj 180 [.bool, .bool, .own 1 1], .row 5 1], [⟨.exit 2, [1, 26, 27, 28], [.one (.ptr 0 0), .one (.sl 12), .one (.int .i64), .one (.int .i64)], [.obj 180 [.bool, .bool, .own 1 2], .dead, .row 5 1]⟩], ruling_Write_l2⟩
def ruling_Write_l1 (a : (Unit × (List (DVerdict)) × Int × Int × Unit) × ((Bool × Bool × LB × Unit) × Unit × Unit)) : Option (((Unit × (List (DVerdict)) × Int × Int × Unit) × ((Bool × Bool × LB × Unit) × Unit × Unit)) ⊕ (((Unit × Unit) × ((Bool × Bool × LB × Unit) × Unit × Unit × Unit)))) :=
  (bif (decide ((a.1.2.2.2.1 : Int) < a.1.2.2.1)) then
  (getI a.1.2.1 a.1.2.2.2.1).bind fun e1 =>
  (wire_Numbers ([e1.name.client, e1.name.num, e1.at_] : LI) a.2.1).bind fun r2 =>
  (wire_Flags_2 (0, 1, 1) r2.2.1 ([e1.commit] : List Bool)).bind fun r3 =>
  (wire_Numbers_2 (0, 1, 1) r3.2.1 ([(e1.reads.length : Int)] : LI)).bind fun r4 =>
  (loopM ruling_Write_l2 (((), a.1.2.1, a.1.2.2.1, a.1.2.2.2.1, e1.reads, (e1.reads.length : Int), 0, ()), (r4.2.1, (), ()))).bind fun b5 =>
  some (.inl (((), b5.1.2.1, b5.1.2.2.1, (IntKind.i64.wrap (b5.1.2.2.2.1 + 1)), ()), (b5.2.1, (), ())))
  else
  some (.inr (((), ()), (a.2.1, (), (), ()))))
def ruling_Write_e1 : LEp := ⟨5, [1, 26, 27, 28], [.one (.ptr 0 0), .one (.sl 12), .one (.int .i64), .one (.int .i64)], [.obj 180 [.bool, .bool, .own 1 1], .row 5 1], [⟨.exit 0, [1], [.one (.ptr 0 0)], [.obj 180 [.bool, .bool, .own 1 2], .dead, .row 5 1]⟩], ruling_Write_l1⟩
def ruling_Write_lt : List (LEp) := [ruling_Write_e2, ruling_Write_e1]
theorem ruling_Write_e2_ok : LeOk ruling_Write_e2 (nthL (nthL (bodyOf Tryz.f88) 0) 0) := fun A env h k z hk => le_ok (E := ruling_Write_e2) (orcOf_ok ruling_Write_tb) (dr := ruling_Write_dr) (lps := lpsOf ruling_Write_lt) (no_loop (by kernel_rfl)) (fun a => by kernel_rfl) env h k z hk
theorem ruling_Write_e1_ok : LeOk ruling_Write_e1 (nthL (bodyOf Tryz.f88) 0) := fun A env h k z hk => le_ok (E := ruling_Write_e1) (orcOf_ok ruling_Write_tb) (dr := ruling_Write_dr) (lps := lpsOf ruling_Write_lt) (lps_of (n := 1) (by kernel_rfl) fun i hi => match i, hi with | 0, _ => lp_ok (E := ruling_Write_e2) (by kernel_rfl) ruling_Write_e2_ok) (fun a => by kernel_rfl) env h k z hk
def ruling_Write (h0 : (List (DVerdict)) × Unit × Unit) (h1 : Bool × Bool × LB × Unit) (h2 : List ((Int × Int) × Int)) : Option (Unit × (((List (DVerdict)) × Unit × Unit) × (Bool × Bool × LB × Unit) × (List ((Int × Int) × Int)) × Unit × Unit × Unit × Unit × Unit)) :=
  (ruling_known h0 h2).bind fun r1 =>
  (bif (!r1.1) then
  some ((), (r1.2.1, h1, r1.2.2.1, (), (), (), (), ()))
  else
  (wire_Numbers ([(r1.2.1.1.length : Int)] : LI) h1).bind fun r2 =>
  (loopM ruling_Write_l1 (((), r1.2.1.1, (r1.2.1.1.length : Int), 0, ()), (r2.2.1, (), ()))).bind fun b3 =>
  some ((), (r1.2.1, b3.2.1, r1.2.2.1, (), (), (), (), ())))
def ruling_Write_ce : CEp where
  f := 88
  args := [.one (.ptr 0 0), .one (.ptr 1 0)]
  hs := [.obj 197 [.own 12 3, .mo 2], .obj 180 [.bool, .bool, .own 1 4], .mmap (.two .i64 .i64) (.int .i64), .row 41 5, .row 5 1]
  res := .val (.one (.ptr 1 0))
  outs := [.obj 197 [.own 12 5, .mo 2], .obj 180 [.bool, .bool, .own 1 6], .mmap (.two .i64 .i64) (.int .i64), .dead, .dead, .row 41 5, .row 5 1]
  m := fun d dh => ruling_Write dh.1 dh.2.1 dh.2.2.1
  ok := ce_ok mixedP Tryz.func88 (by kernel_rfl) (orcOf_ok ruling_Write_tb) (dr := ruling_Write_dr) (lps := lpsOf ruling_Write_lt) (lps_fn (lps_of (n := 1) (by kernel_rfl) fun i hi => match i, hi with | 0, _ => lp_ok (E := ruling_Write_e1) (by kernel_rfl) ruling_Write_e1_ok)) (fun d dh => by kernel_rfl)

def registry_Write_dr : Nat → Nat → DrA
  | 3, _ => ⟨[0, 1, 2, 3, 5, 6, 7, 9, 11, 12, 13, 4, 8, 14, 10, 15, 16, 17, 18], [[], [0], [0, 1], [0, 1, 2], [0, 1, 2, 3], [], [5], [5, 6], [5, 6, 7], [], [5, 6, 7, 8, 9], [], [11], [11, 12], [11, 12, 13], [11, 12, 13, 14], [5, 6, 7, 8, 9, 10, 11, 12, 13, 14, 15], (List.range 17), (List.range 18)], [4, 14], [10, 16], [0], false, [15]⟩
  | _, _ => ⟨[], [], [], [], [], false, []⟩
def registry_Write_tb : List (CEp) := [registry_known_ce, registry_write_ce, wire_Numbers_2_ce, ruling_Write_ce]
def registry_Write (h0 : Unit × Int × (List (DShare)) × Bool × Int × (List UInt8) × (List UInt8) × Int × Int × Int × Int × Int × Int × Unit) (h1 : Bool × Bool × LB × Unit) (h2 : (List (DVerdict)) × Unit × Unit) (h3 : List ((Int × Int) × Int)) : Option (Unit × ((Unit × Int × (List (DShare)) × Bool × Int × (List UInt8) × (List UInt8) × Int × Int × Int × Int × Int × Int × Unit) × (Bool × Bool × LB × Unit) × ((List (DVerdict)) × Unit × Unit) × (List ((Int × Int) × Int)) × Unit × Unit × Unit × Unit × Unit)) :=
  (registry_known h0 h2 h3).bind fun r1 =>
  (bif (!r1.1) then
  some ((), (r1.2.1, h1, r1.2.2.1, r1.2.2.2.1, (), (), (), (), ()))
  else
  (registry_write (⟨(⟨r1.2.1.2.1, r1.2.1.2.2.1⟩ : DShares), r1.2.1.2.2.2.1, (⟨r1.2.1.2.2.2.2.1, (⟨r1.2.1.2.2.2.2.2.1, r1.2.1.2.2.2.2.2.2.1⟩ : DSpan), r1.2.1.2.2.2.2.2.2.2.1, r1.2.1.2.2.2.2.2.2.2.2.1, r1.2.1.2.2.2.2.2.2.2.2.2.1, r1.2.1.2.2.2.2.2.2.2.2.2.2.1, r1.2.1.2.2.2.2.2.2.2.2.2.2.2.1⟩ : DScheme)⟩ : DPlan) h1).bind fun r2 =>
  (wire_Numbers_2 (0, 1, 1) r2.2.1 ([r1.2.1.2.2.2.2.2.2.2.2.2.2.2.2.1] : LI)).bind fun r3 =>
  (ruling_Write r1.2.2.1 r3.2.1 r1.2.2.2.1).bind fun r4 =>
  some ((), (r1.2.1, r4.2.2.1, r4.2.1, r4.2.2.2.1, (), (), (), (), ())))
def registry_Write_ce : CEp where
  f := 39
  args := [.one (.ptr 0 0), .one (.ptr 1 0)]
  hs := [.obj 110 [.ptr 2 0, .int .i64, .sl 5, .bool, .int .i64, .str, .str, .int .i64, .int .i64, .int .i64, .int .i64, .int .u8, .int .i64], .obj 180 [.bool, .bool, .own 1 4], .obj 197 [.own 12 5, .mo 3], .mmap (.two .i64 .i64) (.int .i64), .row 5 1, .row 41 5]
  res := .val (.one (.ptr 1 0))
  outs := [.obj 110 [.ptr 2 0, .int .i64, .sl 5, .bool, .int .i64, .str, .str, .int .i64, .int .i64, .int .i64, .int .i64, .int .u8, .int .i64], .obj 180 [.bool, .bool, .own 1 6], .obj 197 [.own 12 7, .mo 3], .mmap (.two .i64 .i64) (.int .i64), .dead, .dead, .row 5 1, .row 41 5]
  m := fun d dh => registry_Write dh.1 dh.2.1 dh.2.2.1 dh.2.2.2.1
  ok := ce_ok mixedP Tryz.func39 (by kernel_rfl) (orcOf_ok registry_Write_tb) (dr := registry_Write_dr) (lps := lpsOf lt0) (lps_fn (no_loop (by kernel_rfl))) (fun d dh => by kernel_rfl)

def clone81 (x : LB) : Option (LB × (Unit × Unit)) :=
  if x.length ≤ 140737488355328 ∧ x.length * 1 ≤ 140737488355328 then some (x, ((), ())) else none
def clone81_ce : CEp where
  f := 81
  args := [.one (.sl 1)]
  hs := []
  res := .val (.one (.own 1 0))
  outs := [.row 5 1]
  m := fun d dh => clone81 d.1
  ok := fun d dh r hr => by
    unfold clone81 at hr
    split at hr
    · rename_i hroom
      injection hr with hr
      subst hr
      exact clone_tr mixedP Tryz.func81 (by kernel_rfl) rfl rfl (zv := .int .u8 0) (he := by kernel_rfl) (hsz := by kernel_rfl) (hz := by kernel_rfl) (hby := by kernel_rfl) rfl rfl d.1 hroom
    · cases hr

def wire_Done_tb : List (CEp) := [wire_known_ce, clone81_ce]
def wire_Done (h0 : Bool × Bool × LB × Unit) : Option ((LB × Int × Unit) × ((Bool × Bool × LB × Unit) × Unit × Unit × Unit × Unit)) :=
  (wire_known h0).bind fun r1 =>
  (bif (!r1.1) then
  some (([], 1, ()), (r1.2.1, (), (), (), ()))
  else
  (bif r1.2.1.2.1 then
  some (([], 2, ()), (r1.2.1, (), (), (), ()))
  else
  (clone81 r1.2.1.2.2.1).bind fun r2 =>
  some ((r2.1, 0, ()), (r1.2.1, (), (), (), ()))))
def wire_Done_ce : CEp where
  f := 41
  args := [.one (.ptr 0 0)]
  hs := [.obj 180 [.bool, .bool, .own 1 1], .row 5 1]
  res := .tup [.one (.own 1 2), .one (.int .i64)]
  outs := [.obj 180 [.bool, .bool, .own 1 3], .dead, .row 5 1, .row 5 1]
  m := fun d dh => wire_Done dh.1
  ok := ceO Tryz.func41 (by kernel_rfl) wire_Done_tb (by kernel_rfl) fun d dh => by kernel_rfl

def wire_NewReader_tb : List (CEp) := [clone81_ce]
def wire_NewReader (x0 : LB) : Option (Unit × ((Bool × Bool × LB × Unit) × Unit × Unit)) :=
  (clone81 x0).bind fun r1 =>
  some ((), ((true, false, r1.1, ()), (), ()))
def wire_NewReader_ce : CEp where
  f := 33
  args := [.one (.sl 1)]
  hs := []
  res := .val (.one (.ptr 0 0))
  outs := [.obj 170 [.bool, .bool, .own 1 1], .row 5 1]
  m := fun d dh => wire_NewReader d.1
  ok := ceO Tryz.func33 (by kernel_rfl) wire_NewReader_tb (by kernel_rfl) fun d dh => by kernel_rfl

def wire_on_tb : List (CEp) := []
def wire_on (h0 : Bool × Bool × LB × Unit) : Option (Bool × ((Bool × Bool × LB × Unit) × Unit × Unit × Unit)) :=
  (bif h0.1 then
  some ((!h0.2.1), (h0, (), (), ()))
  else
  some (false, (h0, (), (), ())))
def wire_on_ce : CEp where
  f := 87
  args := [.one (.ptr 0 0)]
  hs := [.obj 170 [.bool, .bool, .own 1 1], .row 5 1]
  res := .val (.one (.bool))
  outs := [.obj 170 [.bool, .bool, .own 1 2], .dead, .row 5 1]
  m := fun d dh => wire_on dh.1
  ok := ceO Tryz.func87 (by kernel_rfl) wire_on_tb (by kernel_rfl) fun d dh => by kernel_rfl

def wire_fail_2_tb : List (CEp) := []
def wire_fail_2 (h0 : DReader) : Option (Unit × ((Bool × Bool × LB × Unit) × Unit × Unit)) :=
  some ((), ((h0.place.made, true, [], ()), (), ()))
def wire_fail_2_ce : CEp where
  f := 158
  args := [.one (.ptr 0 0)]
  hs := [.cobj 170 25]
  res := .tup []
  outs := [.obj 170 [.bool, .bool, .own 1 1], .row 5 1]
  m := fun d dh => wire_fail_2 dh.1
  ok := ceO Tryz.func158 (by kernel_rfl) wire_fail_2_tb (by kernel_rfl) fun d dh => by kernel_rfl

def wire_take_2_tb : List (CEp) := [wire_fail_2_ce]
def wire_take_2 (x1 : Int) (h0 : DReader) : Option (LB × ((DReader) × Unit)) :=
  (bif (decide (((h0.place.left.length : Int) : Int) < x1)) then
  (wire_fail_2 h0).bind fun r1 =>
  some ([], ((⟨(⟨r1.2.1.1, r1.2.1.2.1, r1.2.1.2.2.1⟩ : DPlace)⟩ : DReader), ()))
  else
  (if 0 ≤ ((0 : Int) : Int) ∧ ((0 : Int) : Int) ≤ x1 ∧ (x1 : Int) ≤ x1 ∧ x1 ≤ (h0.place.left.length : Int) then
  let y2 : LB := ((h0.place.left.drop ((0 : Int) : Int).toNat).take ((x1 : Int).toNat - ((0 : Int) : Int).toNat))
  (if 0 ≤ (x1 : Int) ∧ (x1 : Int) ≤ (h0.place.left.length : Int) ∧ (h0.place.left.length : Int) ≤ (h0.place.left.length : Int) then
  let y3 : LB := ((h0.place.left.drop (x1 : Int).toNat).take (((h0.place.left.length : Int) : Int).toNat - (x1 : Int).toNat))
  some (y2, ((⟨(⟨h0.place.made, h0.place.failed, y3⟩ : DPlace)⟩ : DReader), ()))
  else none)
  else none))
def wire_take_2_ce : CEp where
  f := 157
  args := [.one (.ptr 0 0), .one (.int .i64)]
  hs := [.cobj 170 25]
  res := .val (.one (.sl 1))
  outs := [.cobj 170 25]
  m := fun d dh => wire_take_2 d.2.1 dh.1
  ok := ceO Tryz.func157 (by kernel_rfl) wire_take_2_tb (by kernel_rfl) fun d dh => by kernel_rfl

def wire_Number_tb : List (CEp) := [wire_on_ce, wire_take_2_ce, wire_fail_2_ce]
def wire_Number_l1 (a : (Unit × Int × Int × Int × Unit) × ((DReader) × Unit)) : Option (((Unit × Int × Int × Int × Unit) × ((DReader) × Unit)) ⊕ (((Int × Unit) × ((DReader) × Unit)) ⊕ ((Unit × Unit) × ((DReader) × Unit)))) :=
  (bif (decide ((a.1.2.2.2.1 : Int) < 63)) then
  (wire_take_2 1 a.2.1).bind fun r1 =>
  (bif r1.2.1.place.failed then
  some (.inr (.inl ((0, ()), (r1.2.1, ()))))
  else
  (getI r1.1 0).bind fun e2 =>
  (if (a.1.2.2.2.1 : Int) < 0 then none else
  let y3 : Int := (IntKind.i64.wrap ((BitVec.ofInt (IntKind.i64.bits) a.1.2.2.1 ||| BitVec.ofInt (IntKind.i64.bits) (IntKind.i64.wrap ((IntKind.i64.wrap (IntKind.u8.wrap ((BitVec.ofInt (IntKind.u8.bits) (e2.toNat : Int) &&& BitVec.ofInt (IntKind.u8.bits) 127).toNat))) * 2 ^ min (a.1.2.2.2.1 : Int).toNat (IntKind.i64.bits)))).toNat))
  (getI r1.1 0).bind fun e4 =>
  (bif (decide (((e4.toNat : Int) : Int) < 128)) then
  (bif (decide ((0 : Int) < a.1.2.2.2.1)) then
  (getI r1.1 0).bind fun e5 =>
  (bif (decide (((e5.toNat : Int) : Int) = 0)) then
  (wire_fail_2 r1.2.1).bind fun r6 =>
  some (.inr (.inl ((0, ()), ((⟨(⟨r6.2.1.1, r6.2.1.2.1, r6.2.1.2.2.1⟩ : DPlace)⟩ : DReader), ()))))
  else
  (bif (decide ((4611686018427387903 : Int) < y3)) then
  (wire_fail_2 r1.2.1).bind fun r7 =>
  some (.inr (.inl ((0, ()), ((⟨(⟨r7.2.1.1, r7.2.1.2.1, r7.2.1.2.2.1⟩ : DPlace)⟩ : DReader), ()))))
  else
  (bif (decide ((a.1.2.1 : Int) < y3)) then
  (wire_fail_2 r1.2.1).bind fun r8 =>
  some (.inr (.inl ((0, ()), ((⟨(⟨r8.2.1.1, r8.2.1.2.1, r8.2.1.2.2.1⟩ : DPlace)⟩ : DReader), ()))))
  else
  some (.inr (.inl ((y3, ()), (r1.2.1, ())))))))
  else
  (bif (decide ((4611686018427387903 : Int) < y3)) then
  (wire_fail_2 r1.2.1).bind fun r9 =>
  some (.inr (.inl ((0, ()), ((⟨(⟨r9.2.1.1, r9.2.1.2.1, r9.2.1.2.2.1⟩ : DPlace)⟩ : DReader), ()))))
  else
  (bif (decide ((a.1.2.1 : Int) < y3)) then
  (wire_fail_2 r1.2.1).bind fun r10 =>
  some (.inr (.inl ((0, ()), ((⟨(⟨r10.2.1.1, r10.2.1.2.1, r10.2.1.2.2.1⟩ : DPlace)⟩ : DReader), ()))))
  else
  some (.inr (.inl ((y3, ()), (r1.2.1, ())))))))
  else
  some (.inl (((), a.1.2.1, y3, (IntKind.i64.wrap (a.1.2.2.2.1 + 7)), ()), (r1.2.1, ()))))))
  else
  some (.inr (.inr (((), ()), (a.2.1, ())))))
def wire_Number_e1 : LEp := ⟨5, [0, 1, 5, 6], [.one (.ptr 0 0), .one (.int .i64), .one (.int .i64), .one (.int .i64)], [.cobj 170 25], [⟨.ret, [4], [.one (.int .i64)], [.cobj 170 25]⟩, ⟨.exit 0, [0], [.one (.ptr 0 0)], [.cobj 170 25]⟩], wire_Number_l1⟩
def wire_Number_lt : List (LEp) := [wire_Number_e1]
theorem wire_Number_e1_ok : LeOk wire_Number_e1 (nthL (bodyOf Tryz.f82) 0) := fun A env h k z hk => le_ok (E := wire_Number_e1) (orcOf_ok wire_Number_tb) (dr := dr0) (lps := lpsOf wire_Number_lt) (no_loop (by kernel_rfl)) (fun a => by kernel_rfl) env h k z hk
def wire_Number (x1 : Int) (h0 : Bool × Bool × LB × Unit) : Option (Int × ((DReader) × Unit × Unit)) :=
  (wire_on h0).bind fun r1 =>
  (bif (!r1.1) then
  some (0, ((⟨(⟨r1.2.1.1, r1.2.1.2.1, r1.2.1.2.2.1⟩ : DPlace)⟩ : DReader), (), ()))
  else
  (loopM wire_Number_l1 (((), x1, 0, 0, ()), ((⟨(⟨r1.2.1.1, r1.2.1.2.1, r1.2.1.2.2.1⟩ : DPlace)⟩ : DReader), ()))).bind fun b2 =>
  (match b2 with
  | .inl b3 =>
  some (b3.1.1, (b3.2.1, (), ()))
  | .inr b4 =>
  (wire_fail_2 b4.2.1).bind fun r5 =>
  some (0, ((⟨(⟨r5.2.1.1, r5.2.1.2.1, r5.2.1.2.2.1⟩ : DPlace)⟩ : DReader), (), ()))))
def wire_Number_ce : CEp where
  f := 82
  args := [.one (.ptr 0 0), .one (.int .i64)]
  hs := [.obj 170 [.bool, .bool, .own 1 1], .row 5 1]
  res := .val (.one (.int .i64))
  outs := [.cobj 170 25, .dead]
  m := fun d dh => wire_Number d.2.1 dh.1
  ok := ce_ok mixedP Tryz.func82 (by kernel_rfl) (orcOf_ok wire_Number_tb) (dr := dr0) (lps := lpsOf wire_Number_lt) (lps_fn (lps_of (n := 1) (by kernel_rfl) fun i hi => match i, hi with | 0, _ => lp_ok (E := wire_Number_e1) (by kernel_rfl) wire_Number_e1_ok)) (fun d dh => by kernel_rfl)

def wire_on_2_tb : List (CEp) := []
def wire_on_2 (h0 : DReader) : Option (Bool × ((DReader) × Unit)) :=
  (bif h0.place.made then
  some ((!h0.place.failed), (h0, ()))
  else
  some (false, (h0, ())))
def wire_on_2_ce : CEp where
  f := 87
  args := [.one (.ptr 0 0)]
  hs := [.cobj 170 25]
  res := .val (.one (.bool))
  outs := [.cobj 170 25]
  m := fun d dh => wire_on_2 dh.1
  ok := ceO Tryz.func87 (by kernel_rfl) wire_on_2_tb (by kernel_rfl) fun d dh => by kernel_rfl

def wire_Number_2_tb : List (CEp) := [wire_on_2_ce, wire_take_2_ce, wire_fail_2_ce]
def wire_Number_2_l1 (a : (Unit × Int × Int × Int × Unit) × ((DReader) × Unit)) : Option (((Unit × Int × Int × Int × Unit) × ((DReader) × Unit)) ⊕ (((Int × Unit) × ((DReader) × Unit)) ⊕ ((Unit × Unit) × ((DReader) × Unit)))) :=
  (bif (decide ((a.1.2.2.2.1 : Int) < 63)) then
  (wire_take_2 1 a.2.1).bind fun r1 =>
  (bif r1.2.1.place.failed then
  some (.inr (.inl ((0, ()), (r1.2.1, ()))))
  else
  (getI r1.1 0).bind fun e2 =>
  (if (a.1.2.2.2.1 : Int) < 0 then none else
  let y3 : Int := (IntKind.i64.wrap ((BitVec.ofInt (IntKind.i64.bits) a.1.2.2.1 ||| BitVec.ofInt (IntKind.i64.bits) (IntKind.i64.wrap ((IntKind.i64.wrap (IntKind.u8.wrap ((BitVec.ofInt (IntKind.u8.bits) (e2.toNat : Int) &&& BitVec.ofInt (IntKind.u8.bits) 127).toNat))) * 2 ^ min (a.1.2.2.2.1 : Int).toNat (IntKind.i64.bits)))).toNat))
  (getI r1.1 0).bind fun e4 =>
  (bif (decide (((e4.toNat : Int) : Int) < 128)) then
  (bif (decide ((0 : Int) < a.1.2.2.2.1)) then
  (getI r1.1 0).bind fun e5 =>
  (bif (decide (((e5.toNat : Int) : Int) = 0)) then
  (wire_fail_2 r1.2.1).bind fun r6 =>
  some (.inr (.inl ((0, ()), ((⟨(⟨r6.2.1.1, r6.2.1.2.1, r6.2.1.2.2.1⟩ : DPlace)⟩ : DReader), ()))))
  else
  (bif (decide ((4611686018427387903 : Int) < y3)) then
  (wire_fail_2 r1.2.1).bind fun r7 =>
  some (.inr (.inl ((0, ()), ((⟨(⟨r7.2.1.1, r7.2.1.2.1, r7.2.1.2.2.1⟩ : DPlace)⟩ : DReader), ()))))
  else
  (bif (decide ((a.1.2.1 : Int) < y3)) then
  (wire_fail_2 r1.2.1).bind fun r8 =>
  some (.inr (.inl ((0, ()), ((⟨(⟨r8.2.1.1, r8.2.1.2.1, r8.2.1.2.2.1⟩ : DPlace)⟩ : DReader), ()))))
  else
  some (.inr (.inl ((y3, ()), (r1.2.1, ())))))))
  else
  (bif (decide ((4611686018427387903 : Int) < y3)) then
  (wire_fail_2 r1.2.1).bind fun r9 =>
  some (.inr (.inl ((0, ()), ((⟨(⟨r9.2.1.1, r9.2.1.2.1, r9.2.1.2.2.1⟩ : DPlace)⟩ : DReader), ()))))
  else
  (bif (decide ((a.1.2.1 : Int) < y3)) then
  (wire_fail_2 r1.2.1).bind fun r10 =>
  some (.inr (.inl ((0, ()), ((⟨(⟨r10.2.1.1, r10.2.1.2.1, r10.2.1.2.2.1⟩ : DPlace)⟩ : DReader), ()))))
  else
  some (.inr (.inl ((y3, ()), (r1.2.1, ())))))))
  else
  some (.inl (((), a.1.2.1, y3, (IntKind.i64.wrap (a.1.2.2.2.1 + 7)), ()), (r1.2.1, ()))))))
  else
  some (.inr (.inr (((), ()), (a.2.1, ())))))
def wire_Number_2_e1 : LEp := ⟨5, [0, 1, 5, 6], [.one (.ptr 0 0), .one (.int .i64), .one (.int .i64), .one (.int .i64)], [.cobj 170 25], [⟨.ret, [4], [.one (.int .i64)], [.cobj 170 25]⟩, ⟨.exit 0, [0], [.one (.ptr 0 0)], [.cobj 170 25]⟩], wire_Number_2_l1⟩
def wire_Number_2_lt : List (LEp) := [wire_Number_2_e1]
theorem wire_Number_2_e1_ok : LeOk wire_Number_2_e1 (nthL (bodyOf Tryz.f82) 0) := fun A env h k z hk => le_ok (E := wire_Number_2_e1) (orcOf_ok wire_Number_2_tb) (dr := dr0) (lps := lpsOf wire_Number_2_lt) (no_loop (by kernel_rfl)) (fun a => by kernel_rfl) env h k z hk
def wire_Number_2 (x1 : Int) (h0 : DReader) : Option (Int × ((DReader) × Unit)) :=
  (wire_on_2 h0).bind fun r1 =>
  (bif (!r1.1) then
  some (0, (r1.2.1, ()))
  else
  (loopM wire_Number_2_l1 (((), x1, 0, 0, ()), (r1.2.1, ()))).bind fun b2 =>
  (match b2 with
  | .inl b3 =>
  some (b3.1.1, (b3.2.1, ()))
  | .inr b4 =>
  (wire_fail_2 b4.2.1).bind fun r5 =>
  some (0, ((⟨(⟨r5.2.1.1, r5.2.1.2.1, r5.2.1.2.2.1⟩ : DPlace)⟩ : DReader), ()))))
def wire_Number_2_ce : CEp where
  f := 82
  args := [.one (.ptr 0 0), .one (.int .i64)]
  hs := [.cobj 170 25]
  res := .val (.one (.int .i64))
  outs := [.cobj 170 25]
  m := fun d dh => wire_Number_2 d.2.1 dh.1
  ok := ce_ok mixedP Tryz.func82 (by kernel_rfl) (orcOf_ok wire_Number_2_tb) (dr := dr0) (lps := lpsOf wire_Number_2_lt) (lps_fn (lps_of (n := 1) (by kernel_rfl) fun i hi => match i, hi with | 0, _ => lp_ok (E := wire_Number_2_e1) (by kernel_rfl) wire_Number_2_e1_ok)) (fun d dh => by kernel_rfl)

def wire_Row_tb : List (CEp) := [wire_Number_2_ce, wire_on_2_ce, wire_take_2_ce, clone81_ce]
def wire_Row (x1 : Int) (h0 : DReader) : Option (LB × ((DReader) × Unit × Unit)) :=
  (wire_Number_2 x1 h0).bind fun r1 =>
  (wire_on_2 r1.2.1).bind fun r2 =>
  (bif (!r2.1) then
  some ([], (r2.2.1, (), ()))
  else
  (wire_take_2 r1.1 r2.2.1).bind fun r3 =>
  (clone81 r3.1).bind fun r4 =>
  some (r4.1, (r3.2.1, (), ())))
def wire_Row_ce : CEp where
  f := 223
  args := [.one (.ptr 0 0), .one (.int .i64)]
  hs := [.cobj 170 25]
  res := .val (.one (.own 1 1))
  outs := [.cobj 170 25, .row 5 1]
  m := fun d dh => wire_Row d.2.1 dh.1
  ok := ceO Tryz.func223 (by kernel_rfl) wire_Row_tb (by kernel_rfl) fun d dh => by kernel_rfl

def wire_Text_tb : List (CEp) := [wire_Row_ce]
def wire_Text (x1 : Int) (h0 : DReader) : Option ((List UInt8) × ((DReader) × Unit)) :=
  (wire_Row x1 h0).bind fun r1 =>
  some (r1.1, (r1.2.1, ()))
def wire_Text_ce : CEp where
  f := 147
  args := [.one (.ptr 0 0), .one (.int .i64)]
  hs := [.cobj 170 25]
  res := .val (.one (.str))
  outs := [.cobj 170 25]
  m := fun d dh => wire_Text d.2.1 dh.1
  ok := ceO Tryz.func147 (by kernel_rfl) wire_Text_tb (by kernel_rfl) fun d dh => by kernel_rfl

def registry_read1_tb : List (CEp) := [wire_Number_ce, wire_Number_2_ce, wire_Text_ce]
def registry_read1_l1 (a : (Unit × Unit × Int × Int × Unit) × ((Unit × Unit) × (Int × (List (DShare)) × Bool × Int × (List UInt8) × (List UInt8) × Int × Int × Int × Int × Int × Unit) × (DReader) × Unit × Unit)) : Option (((Unit × Unit × Int × Int × Unit) × ((Unit × Unit) × (Int × (List (DShare)) × Bool × Int × (List UInt8) × (List UInt8) × Int × Int × Int × Int × Int × Unit) × (DReader) × Unit × Unit)) ⊕ ((Unit × ((Unit × Unit) × (Int × (List (DShare)) × Bool × Int × (List UInt8) × (List UInt8) × Int × Int × Int × Int × Int × Unit) × (DReader) × Unit × Unit × Unit)))) :=
  (bif (decide ((a.1.2.2.2.1 : Int) < a.1.2.2.1)) then
  (wire_Text 20 a.2.2.2.1).bind fun r1 =>
  (wire_Text 20 r1.2.1).bind fun r2 =>
  (wire_Number_2 1073741824 r2.2.1).bind fun r3 =>
  (wire_Number_2 1073741824 r3.2.1).bind fun r4 =>
  (if a.2.2.1.2.1.length + ([(⟨(⟨r1.1, r2.1⟩ : DSpan), r3.1, r4.1⟩ : DShare)] : List (DShare)).length ≤ 140737488355328 ∧ (a.2.2.1.2.1.length + ([(⟨(⟨r1.1, r2.1⟩ : DSpan), r3.1, r4.1⟩ : DShare)] : List (DShare)).length) * 48 ≤ 140737488355328 then
  let y5 : List (DShare) := (a.2.2.1.2.1 ++ ([(⟨(⟨r1.1, r2.1⟩ : DSpan), r3.1, r4.1⟩ : DShare)] : List (DShare)))
  some (.inl (((), (), a.1.2.2.1, (IntKind.i64.wrap (a.1.2.2.2.1 + 1)), ()), (((), ()), (a.2.2.1.1, y5, a.2.2.1.2.2.1, a.2.2.1.2.2.2.1, a.2.2.1.2.2.2.2.1, a.2.2.1.2.2.2.2.2.1, a.2.2.1.2.2.2.2.2.2.1, a.2.2.1.2.2.2.2.2.2.2.1, a.2.2.1.2.2.2.2.2.2.2.2.1, a.2.2.1.2.2.2.2.2.2.2.2.2.1, a.2.2.1.2.2.2.2.2.2.2.2.2.2.1, ()), r4.2.1, (), ())))
  else none)
  else
  some (.inr ((), (((), ()), a.2.2.1, a.2.2.2.1, (), (), ()))))
def registry_read1_e1 : LEp := ⟨3, [0, 1, 9, 10], [.one (.ptr 0 0), .one (.ptr 1 0), .one (.int .i64), .one (.int .i64)], [.obj 74 [.ptr 2 0], .obj 107 [.int .i64, .own 5 3, .bool, .int .i64, .str, .str, .int .i64, .int .i64, .int .i64, .int .i64, .int .u8], .cobj 170 25, .row 99 4], [⟨.exit 0, [], [], [.obj 74 [.ptr 2 0], .obj 107 [.int .i64, .own 5 4, .bool, .int .i64, .str, .str, .int .i64, .int .i64, .int .i64, .int .i64, .int .u8], .cobj 170 25, .dead, .row 99 4]⟩], registry_read1_l1⟩
def registry_read1_lt : List (LEp) := [registry_read1_e1]
theorem registry_read1_e1_ok : LeOk registry_read1_e1 (nthL (bodyOf Tryz.f146) 0) := fun A env h k z hk => le_ok (E := registry_read1_e1) (orcOf_ok registry_read1_tb) (dr := dr0) (lps := lpsOf registry_read1_lt) (no_loop (by kernel_rfl)) (fun a => by kernel_rfl) env h k z hk
def registry_read1 (h0 : Unit × Unit) (h1 : Int × (List (DShare)) × Bool × Int × (List UInt8) × (List UInt8) × Int × Int × Int × Int × Int × Unit) (h2 : Bool × Bool × LB × Unit) : Option (Bool × ((Unit × Unit) × (Int × (List (DShare)) × Bool × Int × (List UInt8) × (List UInt8) × Int × Int × Int × Int × Int × Unit) × (DReader) × Unit × Unit × Unit × Unit)) :=
  (wire_Number 1073741824 h2).bind fun r1 =>
  (wire_Number_2 40 r1.2.1).bind fun r2 =>
  (loopM registry_read1_l1 (((), (), r2.1, 0, ()), (((), ()), (r1.1, h1.2.1, h1.2.2.1, h1.2.2.2.1, h1.2.2.2.2.1, h1.2.2.2.2.2.1, h1.2.2.2.2.2.2.1, h1.2.2.2.2.2.2.2.1, h1.2.2.2.2.2.2.2.2.1, h1.2.2.2.2.2.2.2.2.2.1, h1.2.2.2.2.2.2.2.2.2.2.1, ()), r2.2.1, (), ()))).bind fun b3 =>
  some (true, (((), ()), b3.2.2.1, b3.2.2.2.1, (), (), (), ()))
def registry_read1_ce : CEp where
  f := 146
  args := [.one (.ptr 0 0), .one (.ptr 1 0)]
  hs := [.obj 74 [.ptr 2 0], .obj 107 [.int .i64, .own 5 3, .bool, .int .i64, .str, .str, .int .i64, .int .i64, .int .i64, .int .i64, .int .u8], .obj 170 [.bool, .bool, .own 1 4], .row 99 4, .row 5 1]
  res := .val (.one (.bool))
  outs := [.obj 74 [.ptr 2 0], .obj 107 [.int .i64, .own 5 5, .bool, .int .i64, .str, .str, .int .i64, .int .i64, .int .i64, .int .i64, .int .u8], .cobj 170 25, .dead, .dead, .row 99 4]
  m := fun d dh => registry_read1 dh.1 dh.2.1 dh.2.2.1
  ok := ce_ok mixedP Tryz.func146 (by kernel_rfl) (orcOf_ok registry_read1_tb) (dr := dr0) (lps := lpsOf registry_read1_lt) (lps_fn (lps_of (n := 1) (by kernel_rfl) fun i hi => match i, hi with | 0, _ => lp_ok (E := registry_read1_e1) (by kernel_rfl) registry_read1_e1_ok)) (fun d dh => by kernel_rfl)

def registry_all1_tb : List (CEp) := [registry_read1_ce]
def registry_all1 (h0 : Unit × Unit) (h1 : Int × (List (DShare)) × Bool × Int × (List UInt8) × (List UInt8) × Int × Int × Int × Int × Int × Unit) (h2 : Bool × Bool × LB × Unit) : Option (Bool × ((Unit × Unit) × (Int × (List (DShare)) × Bool × Int × (List UInt8) × (List UInt8) × Int × Int × Int × Int × Int × Unit) × (DReader) × Unit × Unit × Unit × Unit)) :=
  (registry_read1 ((), ()) h1 h2).bind fun r1 =>
  some ((!r1.1), (((), ()), r1.2.2.1, r1.2.2.2.1, (), (), (), ()))
def registry_all1_ce : CEp where
  f := 225
  args := [.one (.clo 146 [0, 1])]
  hs := [.obj 74 [.ptr 2 0], .obj 107 [.int .i64, .own 5 3, .bool, .int .i64, .str, .str, .int .i64, .int .i64, .int .i64, .int .i64, .int .u8], .obj 170 [.bool, .bool, .own 1 4], .row 99 4, .row 5 1]
  res := .val (.one (.bool))
  outs := [.obj 74 [.ptr 2 0], .obj 107 [.int .i64, .own 5 5, .bool, .int .i64, .str, .str, .int .i64, .int .i64, .int .i64, .int .i64, .int .u8], .cobj 170 25, .dead, .dead, .row 99 4]
  m := fun d dh => registry_all1 dh.1 dh.2.1 dh.2.2.1
  ok := ceO Tryz.func225 (by kernel_rfl) registry_all1_tb (by kernel_rfl) fun d dh => by kernel_rfl

def wire_Flag_tb : List (CEp) := [wire_on_2_ce, wire_take_2_ce, wire_fail_2_ce]
def wire_Flag (h0 : DReader) : Option (Bool × ((DReader) × Unit)) :=
  (wire_on_2 h0).bind fun r1 =>
  (bif (!r1.1) then
  some (false, (r1.2.1, ()))
  else
  (wire_take_2 1 r1.2.1).bind fun r2 =>
  (bif r2.2.1.place.failed then
  (wire_fail_2 r2.2.1).bind fun r3 =>
  some (false, ((⟨(⟨r3.2.1.1, r3.2.1.2.1, r3.2.1.2.2.1⟩ : DPlace)⟩ : DReader), ()))
  else
  (getI r2.1 0).bind fun e4 =>
  (bif (decide ((1 : Int) < (e4.toNat : Int))) then
  (wire_fail_2 r2.2.1).bind fun r5 =>
  some (false, ((⟨(⟨r5.2.1.1, r5.2.1.2.1, r5.2.1.2.2.1⟩ : DPlace)⟩ : DReader), ()))
  else
  (getI r2.1 0).bind fun e6 =>
  some ((decide (((e6.toNat : Int) : Int) = 1)), (r2.2.1, ())))))
def wire_Flag_ce : CEp where
  f := 149
  args := [.one (.ptr 0 0)]
  hs := [.cobj 170 25]
  res := .val (.one (.bool))
  outs := [.cobj 170 25]
  m := fun d dh => wire_Flag dh.1
  ok := ceO Tryz.func149 (by kernel_rfl) wire_Flag_tb (by kernel_rfl) fun d dh => by kernel_rfl

def wire_Left_tb : List (CEp) := [wire_on_2_ce]
def wire_Left (h0 : DReader) : Option (Int × ((DReader) × Unit)) :=
  (wire_on_2 h0).bind fun r1 =>
  (bif (!r1.1) then
  some (0, (r1.2.1, ()))
  else
  some ((r1.2.1.place.left.length : Int), (r1.2.1, ())))
def wire_Left_ce : CEp where
  f := 38
  args := [.one (.ptr 0 0)]
  hs := [.cobj 170 25]
  res := .val (.one (.int .i64))
  outs := [.cobj 170 25]
  m := fun d dh => wire_Left dh.1
  ok := ceO Tryz.func38 (by kernel_rfl) wire_Left_tb (by kernel_rfl) fun d dh => by kernel_rfl

def wire_End_tb : List (CEp) := []
def wire_End (h0 : DReader) : Option (Int × ((DReader) × Unit)) :=
  (bif (!h0.place.made) then
  some (1, (h0, ()))
  else
  (bif h0.place.failed then
  some (4, (h0, ()))
  else
  (bif (decide ((0 : Int) < (h0.place.left.length : Int))) then
  some (4, (h0, ()))
  else
  some (0, (h0, ())))))
def wire_End_ce : CEp where
  f := 78
  args := [.one (.ptr 0 0)]
  hs := [.cobj 170 25]
  res := .val (.one (.int .i64))
  outs := [.cobj 170 25]
  m := fun d dh => wire_End dh.1
  ok := ceO Tryz.func78 (by kernel_rfl) wire_End_tb (by kernel_rfl) fun d dh => by kernel_rfl

def registry_failed_tb : List (CEp) := [wire_Left_ce, wire_End_ce]
def registry_failed (h0 : DReader) : Option (Bool × ((DReader) × Unit)) :=
  (wire_Left h0).bind fun r1 =>
  (bif (decide ((r1.1 : Int) = 0)) then
  (wire_End r1.2.1).bind fun r2 =>
  some ((decide ((r2.1 : Int) ≠ 0)), (r2.2.1, ()))
  else
  some (false, (r1.2.1, ())))
def registry_failed_ce : CEp where
  f := 150
  args := [.one (.ptr 0 0)]
  hs := [.cobj 170 25]
  res := .val (.one (.bool))
  outs := [.cobj 170 25]
  m := fun d dh => registry_failed dh.1
  ok := ceO Tryz.func150 (by kernel_rfl) registry_failed_tb (by kernel_rfl) fun d dh => by kernel_rfl

def registry_read2_tb : List (CEp) := [wire_Flag_ce, registry_failed_ce, shares_Right_ce]
def registry_read2 (h0 : Unit × Unit) (h1 : Int × (List (DShare)) × Bool × Int × (List UInt8) × (List UInt8) × Int × Int × Int × Int × Int × Unit) (h2 : DReader) : Option (Bool × ((Unit × Unit) × (Int × (List (DShare)) × Bool × Int × (List UInt8) × (List UInt8) × Int × Int × Int × Int × Int × Unit) × (DReader) × Unit × Unit × Unit)) :=
  (wire_Flag h2).bind fun r1 =>
  (registry_failed r1.2.1).bind fun r2 =>
  (bif (!r2.1) then
  (shares_Right (⟨h1.1, h1.2.1⟩ : DShares)).bind fun r3 =>
  some (r3.1, (((), ()), (h1.1, h1.2.1, r1.1, h1.2.2.2.1, h1.2.2.2.2.1, h1.2.2.2.2.2.1, h1.2.2.2.2.2.2.1, h1.2.2.2.2.2.2.2.1, h1.2.2.2.2.2.2.2.2.1, h1.2.2.2.2.2.2.2.2.2.1, h1.2.2.2.2.2.2.2.2.2.2.1, ()), r2.2.1, (), (), ()))
  else
  some (false, (((), ()), (h1.1, h1.2.1, r1.1, h1.2.2.2.1, h1.2.2.2.2.1, h1.2.2.2.2.2.1, h1.2.2.2.2.2.2.1, h1.2.2.2.2.2.2.2.1, h1.2.2.2.2.2.2.2.2.1, h1.2.2.2.2.2.2.2.2.2.1, h1.2.2.2.2.2.2.2.2.2.2.1, ()), r2.2.1, (), (), ())))
def registry_read2_ce : CEp where
  f := 148
  args := [.one (.ptr 0 0), .one (.ptr 1 0)]
  hs := [.obj 74 [.ptr 2 0], .obj 107 [.int .i64, .own 5 3, .bool, .int .i64, .str, .str, .int .i64, .int .i64, .int .i64, .int .i64, .int .u8], .cobj 170 25, .row 99 4]
  res := .val (.one (.bool))
  outs := [.obj 74 [.ptr 2 0], .obj 107 [.int .i64, .own 5 4, .bool, .int .i64, .str, .str, .int .i64, .int .i64, .int .i64, .int .i64, .int .u8], .cobj 170 25, .dead, .row 99 4]
  m := fun d dh => registry_read2 dh.1 dh.2.1 dh.2.2.1
  ok := ceO Tryz.func148 (by kernel_rfl) registry_read2_tb (by kernel_rfl) fun d dh => by kernel_rfl

def registry_all1_2_tb : List (CEp) := [registry_read2_ce]
def registry_all1_2 (h0 : Unit × Unit) (h1 : Int × (List (DShare)) × Bool × Int × (List UInt8) × (List UInt8) × Int × Int × Int × Int × Int × Unit) (h2 : DReader) : Option (Bool × ((Unit × Unit) × (Int × (List (DShare)) × Bool × Int × (List UInt8) × (List UInt8) × Int × Int × Int × Int × Int × Unit) × (DReader) × Unit × Unit × Unit)) :=
  (registry_read2 ((), ()) h1 h2).bind fun r1 =>
  some ((!r1.1), (((), ()), r1.2.2.1, r1.2.2.2.1, (), (), ()))
def registry_all1_2_ce : CEp where
  f := 225
  args := [.one (.clo 148 [0, 1])]
  hs := [.obj 74 [.ptr 2 0], .obj 107 [.int .i64, .own 5 3, .bool, .int .i64, .str, .str, .int .i64, .int .i64, .int .i64, .int .i64, .int .u8], .cobj 170 25, .row 99 4]
  res := .val (.one (.bool))
  outs := [.obj 74 [.ptr 2 0], .obj 107 [.int .i64, .own 5 4, .bool, .int .i64, .str, .str, .int .i64, .int .i64, .int .i64, .int .i64, .int .u8], .cobj 170 25, .dead, .row 99 4]
  m := fun d dh => registry_all1_2 dh.1 dh.2.1 dh.2.2.1
  ok := ceO Tryz.func225 (by kernel_rfl) registry_all1_2_tb (by kernel_rfl) fun d dh => by kernel_rfl

def scheme_Right1_tb : List (CEp) := [scheme_right_ce]
def scheme_Right1 (x0 : DScheme) : Option (Bool × Unit) :=
  (scheme_right (⟨x0⟩ : DWork2)).bind fun r1 =>
  some ((!r1.1), ())
def scheme_Right1_ce : CEp where
  f := 165
  args := [.cod 20]
  hs := []
  res := .val (.one (.bool))
  outs := []
  m := fun d dh => scheme_Right1 d.1
  ok := ceO Tryz.func165 (by kernel_rfl) scheme_Right1_tb (by kernel_rfl) fun d dh => by kernel_rfl

def slices_IndexFunc_6_tb : List (CEp) := [scheme_Right1_ce]
def slices_IndexFunc_6_l1 (a : ((List (DScheme)) × Unit × Int × Int × Unit) × Unit) : Option ((((List (DScheme)) × Unit × Int × Int × Unit) × Unit) ⊕ (((Int × Unit) × Unit) ⊕ (Unit × Unit))) :=
  (bif (decide ((a.1.2.2.2.1 : Int) < a.1.2.2.1)) then
  (getI a.1.1 a.1.2.2.2.1).bind fun e1 =>
  (scheme_Right1 e1).bind fun r2 =>
  (bif r2.1 then
  some (.inr (.inl ((a.1.2.2.2.1, ()), ())))
  else
  some (.inl ((a.1.1, (), a.1.2.2.1, (IntKind.i64.wrap (a.1.2.2.2.1 + 1)), ()), ())))
  else
  some (.inr (.inr ((), ()))))
def slices_IndexFunc_6_e1 : LEp := ⟨2, [0, 1, 7, 8], [.one (.sl 20), .one (.fn 165), .one (.int .i64), .one (.int .i64)], [], [⟨.ret, [4], [.one (.int .i64)], []⟩, ⟨.exit 0, [], [], []⟩], slices_IndexFunc_6_l1⟩
def slices_IndexFunc_6_lt : List (LEp) := [slices_IndexFunc_6_e1]
theorem slices_IndexFunc_6_e1_ok : LeOk slices_IndexFunc_6_e1 (nthL (bodyOf Tryz.f226) 0) := fun A env h k z hk => le_ok (E := slices_IndexFunc_6_e1) (orcOf_ok slices_IndexFunc_6_tb) (dr := dr0) (lps := lpsOf slices_IndexFunc_6_lt) (no_loop (by kernel_rfl)) (fun a => by kernel_rfl) env h k z hk
def slices_IndexFunc_6 (x0 : List (DScheme)) : Option (Int × Unit) :=
  (loopM slices_IndexFunc_6_l1 ((x0, (), (x0.length : Int), 0, ()), ())).bind fun b1 =>
  (match b1 with
  | .inl b2 =>
  some (b2.1.1, ())
  | .inr b3 =>
  some ((-1), ()))
def slices_IndexFunc_6_ce : CEp where
  f := 226
  args := [.one (.sl 20), .one (.fn 165)]
  hs := []
  res := .val (.one (.int .i64))
  outs := []
  m := fun d dh => slices_IndexFunc_6 d.1
  ok := ce_ok mixedP Tryz.func226 (by kernel_rfl) (orcOf_ok slices_IndexFunc_6_tb) (dr := dr0) (lps := lpsOf slices_IndexFunc_6_lt) (lps_fn (lps_of (n := 1) (by kernel_rfl) fun i hi => match i, hi with | 0, _ => lp_ok (E := slices_IndexFunc_6_e1) (by kernel_rfl) slices_IndexFunc_6_e1_ok)) (fun d dh => by kernel_rfl)

def slices_ContainsFunc_3_tb : List (CEp) := [slices_IndexFunc_6_ce]
def slices_ContainsFunc_3 (x0 : List (DScheme)) : Option (Bool × Unit) :=
  (slices_IndexFunc_6 x0).bind fun r1 =>
  some ((decide ((0 : Int) ≤ r1.1)), ())
def slices_ContainsFunc_3_ce : CEp where
  f := 164
  args := [.one (.sl 20), .one (.fn 165)]
  hs := []
  res := .val (.one (.bool))
  outs := []
  m := fun d dh => slices_ContainsFunc_3 d.1
  ok := ceO Tryz.func164 (by kernel_rfl) slices_ContainsFunc_3_tb (by kernel_rfl) fun d dh => by kernel_rfl

def scheme_Right_tb : List (CEp) := [slices_ContainsFunc_3_ce]
def scheme_Right (x0 : List (DScheme)) : Option (Bool × Unit) :=
  (slices_ContainsFunc_3 x0).bind fun r1 =>
  some ((!r1.1), ())
def scheme_Right_ce : CEp where
  f := 91
  args := [.one (.sl 20)]
  hs := []
  res := .val (.one (.bool))
  outs := []
  m := fun d dh => scheme_Right d.1
  ok := ceO Tryz.func91 (by kernel_rfl) scheme_Right_tb (by kernel_rfl) fun d dh => by kernel_rfl

def scheme_Read_tb : List (CEp) := [wire_Number_2_ce, wire_Text_ce, scheme_Right_ce, wire_Left_ce, wire_End_ce]
def scheme_Read_us : List (Code × Nat) := [((nthL (bodyOf Tryz.f152) 0), 4), ((nthL (bodyOf Tryz.f152) 1), 4)]
def scheme_Read (h0 : DReader) : Option (((DScheme) × Bool × Unit) × ((DReader) × Unit)) :=
  (wire_Number_2 1073741824 h0).bind fun r1 =>
  (wire_Text 20 r1.2.1).bind fun r2 =>
  (wire_Text 20 r2.2.1).bind fun r3 =>
  (wire_Number_2 4 r3.2.1).bind fun r4 =>
  (wire_Number_2 4 r4.2.1).bind fun r5 =>
  (wire_Number_2 1073741824 r5.2.1).bind fun r6 =>
  (wire_Number_2 1073741824 r6.2.1).bind fun r7 =>
  (wire_Number_2 9 r7.2.1).bind fun r8 =>
  (scheme_Right ([(⟨r1.1, (⟨r2.1, r3.1⟩ : DSpan), r4.1, r5.1, r6.1, r7.1, (IntKind.u8.wrap r8.1)⟩ : DScheme)] : List (DScheme))).bind fun r9 =>
  (bif (!r9.1) then
  some (((⟨0, (⟨([] : List UInt8), ([] : List UInt8)⟩ : DSpan), 0, 0, 0, 0, 0⟩ : DScheme), false, ()), (r8.2.1, ()))
  else
  (wire_Left r8.2.1).bind fun r10 =>
  (bif (decide ((r10.1 : Int) = 0)) then
  (wire_End r10.2.1).bind fun r11 =>
  (bif (decide ((r11.1 : Int) ≠ 0)) then
  some (((⟨0, (⟨([] : List UInt8), ([] : List UInt8)⟩ : DSpan), 0, 0, 0, 0, 0⟩ : DScheme), false, ()), (r11.2.1, ()))
  else
  some (((⟨r1.1, (⟨r2.1, r3.1⟩ : DSpan), r4.1, r5.1, r6.1, r7.1, (IntKind.u8.wrap r8.1)⟩ : DScheme), true, ()), (r11.2.1, ())))
  else
  some (((⟨r1.1, (⟨r2.1, r3.1⟩ : DSpan), r4.1, r5.1, r6.1, r7.1, (IntKind.u8.wrap r8.1)⟩ : DScheme), true, ()), (r10.2.1, ()))))
def scheme_Read_ce : CEp where
  f := 152
  args := [.one (.ptr 0 0)]
  hs := [.cobj 170 25]
  res := .tup [.cod 20, .one (.bool)]
  outs := [.cobj 170 25]
  m := fun d dh => scheme_Read dh.1
  ok := ce_ok mixedP Tryz.func152 (by kernel_rfl) (orcOf_ok scheme_Read_tb) (dr := dr0) (lps := lpsU CT Tryz.prog (touOf scheme_Read_tb) (orcOf scheme_Read_tb) dr0 (lpsOf lt0) scheme_Read_us) (lps_fn (lps_of (n := 2) (by kernel_rfl) fun i hi => match i, hi with | 0, _ => lpsU_hit (n := 4) (orcOf_ok scheme_Read_tb) (no_loop (by kernel_rfl)) (by kernel_rfl) | 1, _ => lpsU_hit (n := 4) (orcOf_ok scheme_Read_tb) (no_loop (by kernel_rfl)) (by kernel_rfl))) (fun d dh => by kernel_rfl)

def registry_read3_tb : List (CEp) := [scheme_Read_ce, scheme_Over_ce]
def registry_read3 (h0 : Int × (List (DShare)) × Bool × Int × (List UInt8) × (List UInt8) × Int × Int × Int × Int × Int × Unit) (h1 : Unit × Unit) (h2 : DReader) : Option (Bool × ((Int × (List (DShare)) × Bool × Int × (List UInt8) × (List UInt8) × Int × Int × Int × Int × Int × Unit) × (Unit × Unit) × (DReader) × Unit × Unit × Unit)) :=
  (bif (!h0.2.2.1) then
  some (true, (h0, ((), ()), h2, (), (), ()))
  else
  (scheme_Read h2).bind fun r1 =>
  (bif r1.1.2.1 then
  (scheme_Over r1.1.1).bind fun r2 =>
  some ((!r2.1), ((h0.1, h0.2.1, h0.2.2.1, r1.1.1.num, r1.1.1.span.lo, r1.1.1.span.hi, r1.1.1.from_, r1.1.1.to_, r1.1.1.epoch, r1.1.1.under, r1.1.1.stage, ()), ((), ()), r1.2.1, (), (), ()))
  else
  some (false, ((h0.1, h0.2.1, h0.2.2.1, r1.1.1.num, r1.1.1.span.lo, r1.1.1.span.hi, r1.1.1.from_, r1.1.1.to_, r1.1.1.epoch, r1.1.1.under, r1.1.1.stage, ()), ((), ()), r1.2.1, (), (), ()))))
def registry_read3_ce : CEp where
  f := 151
  args := [.one (.ptr 0 0), .one (.ptr 1 0)]
  hs := [.obj 107 [.int .i64, .own 5 3, .bool, .int .i64, .str, .str, .int .i64, .int .i64, .int .i64, .int .i64, .int .u8], .obj 74 [.ptr 2 0], .cobj 170 25, .row 99 4]
  res := .val (.one (.bool))
  outs := [.obj 107 [.int .i64, .own 5 4, .bool, .int .i64, .str, .str, .int .i64, .int .i64, .int .i64, .int .i64, .int .u8], .obj 74 [.ptr 2 0], .cobj 170 25, .dead, .row 99 4]
  m := fun d dh => registry_read3 dh.1 dh.2.1 dh.2.2.1
  ok := ceO Tryz.func151 (by kernel_rfl) registry_read3_tb (by kernel_rfl) fun d dh => by kernel_rfl

def registry_all1_3_tb : List (CEp) := [registry_read3_ce]
def registry_all1_3 (h0 : Int × (List (DShare)) × Bool × Int × (List UInt8) × (List UInt8) × Int × Int × Int × Int × Int × Unit) (h1 : Unit × Unit) (h2 : DReader) : Option (Bool × ((Int × (List (DShare)) × Bool × Int × (List UInt8) × (List UInt8) × Int × Int × Int × Int × Int × Unit) × (Unit × Unit) × (DReader) × Unit × Unit × Unit)) :=
  (registry_read3 h0 ((), ()) h2).bind fun r1 =>
  some ((!r1.1), (r1.2.1, ((), ()), r1.2.2.2.1, (), (), ()))
def registry_all1_3_ce : CEp where
  f := 225
  args := [.one (.clo 151 [0, 1])]
  hs := [.obj 107 [.int .i64, .own 5 3, .bool, .int .i64, .str, .str, .int .i64, .int .i64, .int .i64, .int .i64, .int .u8], .obj 74 [.ptr 2 0], .cobj 170 25, .row 99 4]
  res := .val (.one (.bool))
  outs := [.obj 107 [.int .i64, .own 5 4, .bool, .int .i64, .str, .str, .int .i64, .int .i64, .int .i64, .int .i64, .int .u8], .obj 74 [.ptr 2 0], .cobj 170 25, .dead, .row 99 4]
  m := fun d dh => registry_all1_3 dh.1 dh.2.1 dh.2.2.1
  ok := ceO Tryz.func225 (by kernel_rfl) registry_all1_3_tb (by kernel_rfl) fun d dh => by kernel_rfl

def slices_IndexFunc_5_tb : List (CEp) := [registry_all1_ce, registry_all1_2_ce, registry_all1_3_ce]
def slices_IndexFunc_5_us : List (Code × Nat) := [((nthL (bodyOf Tryz.f249) 0), 4)]
def slices_IndexFunc_5 (x0 : Unit × Unit × Unit × Unit) (h0 : Unit × Unit) (h1 : Int × (List (DShare)) × Bool × Int × (List UInt8) × (List UInt8) × Int × Int × Int × Int × Int × Unit) (h2 : Bool × Bool × LB × Unit) : Option (Int × ((Unit × Unit) × (Int × (List (DShare)) × Bool × Int × (List UInt8) × (List UInt8) × Int × Int × Int × Int × Int × Unit) × (DReader) × Unit × Unit × Unit × Unit)) :=
  (registry_all1 ((), ()) h1 h2).bind fun r1 =>
  (bif r1.1 then
  some (0, (((), ()), r1.2.2.1, r1.2.2.2.1, (), (), (), ()))
  else
  (registry_all1_2 ((), ()) r1.2.2.1 r1.2.2.2.1).bind fun r2 =>
  (bif r2.1 then
  some (1, (((), ()), r2.2.2.1, r2.2.2.2.1, (), (), (), ()))
  else
  (registry_all1_3 r2.2.2.1 ((), ()) r2.2.2.2.1).bind fun r3 =>
  (bif r3.1 then
  some (2, (((), ()), r3.2.1, r3.2.2.2.1, (), (), (), ()))
  else
  some ((-1), (((), ()), r3.2.1, r3.2.2.2.1, (), (), (), ())))))
def slices_IndexFunc_5_ce : CEp where
  f := 249
  args := [.vl [.clo 146 [0, 1], .clo 148 [0, 1], .clo 151 [1, 0]], .one (.fn 225)]
  hs := [.obj 74 [.ptr 2 0], .obj 107 [.int .i64, .own 5 3, .bool, .int .i64, .str, .str, .int .i64, .int .i64, .int .i64, .int .i64, .int .u8], .obj 170 [.bool, .bool, .own 1 4], .row 99 4, .row 5 1]
  res := .val (.one (.int .i64))
  outs := [.obj 74 [.ptr 2 0], .obj 107 [.int .i64, .own 5 5, .bool, .int .i64, .str, .str, .int .i64, .int .i64, .int .i64, .int .i64, .int .u8], .cobj 170 25, .dead, .dead, .row 99 4]
  m := fun d dh => slices_IndexFunc_5 d.1 dh.1 dh.2.1 dh.2.2.1
  ok := ce_ok mixedP Tryz.func249 (by kernel_rfl) (orcOf_ok slices_IndexFunc_5_tb) (dr := dr0) (lps := lpsU CT Tryz.prog (touOf slices_IndexFunc_5_tb) (orcOf slices_IndexFunc_5_tb) dr0 (lpsOf lt0) slices_IndexFunc_5_us) (lps_fn (lps_of (n := 1) (by kernel_rfl) fun i hi => match i, hi with | 0, _ => lpsU_hit (n := 4) (orcOf_ok slices_IndexFunc_5_tb) (no_loop (by kernel_rfl)) (by kernel_rfl))) (fun d dh => by kernel_rfl)

def slices_ContainsFunc_2_tb : List (CEp) := [slices_IndexFunc_5_ce]
def slices_ContainsFunc_2 (x0 : Unit × Unit × Unit × Unit) (h0 : Unit × Unit) (h1 : Int × (List (DShare)) × Bool × Int × (List UInt8) × (List UInt8) × Int × Int × Int × Int × Int × Unit) (h2 : Bool × Bool × LB × Unit) : Option (Bool × ((Unit × Unit) × (Int × (List (DShare)) × Bool × Int × (List UInt8) × (List UInt8) × Int × Int × Int × Int × Int × Unit) × (DReader) × Unit × Unit × Unit × Unit)) :=
  (slices_IndexFunc_5 ((), (), (), ()) ((), ()) h1 h2).bind fun r1 =>
  some ((decide ((0 : Int) ≤ r1.1)), (((), ()), r1.2.2.1, r1.2.2.2.1, (), (), (), ()))
def slices_ContainsFunc_2_ce : CEp where
  f := 224
  args := [.vl [.clo 146 [0, 1], .clo 148 [0, 1], .clo 151 [1, 0]], .one (.fn 225)]
  hs := [.obj 74 [.ptr 2 0], .obj 107 [.int .i64, .own 5 3, .bool, .int .i64, .str, .str, .int .i64, .int .i64, .int .i64, .int .i64, .int .u8], .obj 170 [.bool, .bool, .own 1 4], .row 99 4, .row 5 1]
  res := .val (.one (.bool))
  outs := [.obj 74 [.ptr 2 0], .obj 107 [.int .i64, .own 5 5, .bool, .int .i64, .str, .str, .int .i64, .int .i64, .int .i64, .int .i64, .int .u8], .cobj 170 25, .dead, .dead, .row 99 4]
  m := fun d dh => slices_ContainsFunc_2 d.1 dh.1 dh.2.1 dh.2.2.1
  ok := ceO Tryz.func224 (by kernel_rfl) slices_ContainsFunc_2_tb (by kernel_rfl) fun d dh => by kernel_rfl

def registry_all_tb : List (CEp) := [slices_ContainsFunc_2_ce]
def registry_all (x0 : Unit × Unit × Unit × Unit) (h0 : Unit × Unit) (h1 : Int × (List (DShare)) × Bool × Int × (List UInt8) × (List UInt8) × Int × Int × Int × Int × Int × Unit) (h2 : Bool × Bool × LB × Unit) : Option (Bool × ((Unit × Unit) × (Int × (List (DShare)) × Bool × Int × (List UInt8) × (List UInt8) × Int × Int × Int × Int × Int × Unit) × (DReader) × Unit × Unit × Unit × Unit)) :=
  (slices_ContainsFunc_2 ((), (), (), ()) ((), ()) h1 h2).bind fun r1 =>
  some ((!r1.1), (((), ()), r1.2.2.1, r1.2.2.2.1, (), (), (), ()))
def registry_all_ce : CEp where
  f := 153
  args := [.vl [.clo 146 [0, 1], .clo 148 [0, 1], .clo 151 [1, 0]]]
  hs := [.obj 74 [.ptr 2 0], .obj 107 [.int .i64, .own 5 3, .bool, .int .i64, .str, .str, .int .i64, .int .i64, .int .i64, .int .i64, .int .u8], .obj 170 [.bool, .bool, .own 1 4], .row 99 4, .row 5 1]
  res := .val (.one (.bool))
  outs := [.obj 74 [.ptr 2 0], .obj 107 [.int .i64, .own 5 5, .bool, .int .i64, .str, .str, .int .i64, .int .i64, .int .i64, .int .i64, .int .u8], .cobj 170 25, .dead, .dead, .row 99 4]
  m := fun d dh => registry_all d.1 dh.1 dh.2.1 dh.2.2.1
  ok := ceO Tryz.func153 (by kernel_rfl) registry_all_tb (by kernel_rfl) fun d dh => by kernel_rfl

def registry_read_tb : List (CEp) := [registry_all_ce]
def registry_read (h0 : Bool × Bool × LB × Unit) : Option (((DPlan) × Bool × Unit) × ((DReader) × Unit × Unit)) :=
  (registry_all ((), (), (), ()) ((), ()) (0, [], false, 0, ([] : List UInt8), ([] : List UInt8), 0, 0, 0, 0, 0, ()) h0).bind fun r1 =>
  (bif (!r1.1) then
  some (((⟨(⟨0, []⟩ : DShares), false, (⟨0, (⟨([] : List UInt8), ([] : List UInt8)⟩ : DSpan), 0, 0, 0, 0, 0⟩ : DScheme)⟩ : DPlan), false, ()), (r1.2.2.2.1, (), ()))
  else
  some (((⟨(⟨r1.2.2.1.1, r1.2.2.1.2.1⟩ : DShares), r1.2.2.1.2.2.1, (⟨r1.2.2.1.2.2.2.1, (⟨r1.2.2.1.2.2.2.2.1, r1.2.2.1.2.2.2.2.2.1⟩ : DSpan), r1.2.2.1.2.2.2.2.2.2.1, r1.2.2.1.2.2.2.2.2.2.2.1, r1.2.2.1.2.2.2.2.2.2.2.2.1, r1.2.2.1.2.2.2.2.2.2.2.2.2.1, r1.2.2.1.2.2.2.2.2.2.2.2.2.2.1⟩ : DScheme)⟩ : DPlan), true, ()), (r1.2.2.2.1, (), ())))
def registry_read_ce : CEp where
  f := 77
  args := [.one (.ptr 0 0)]
  hs := [.obj 170 [.bool, .bool, .own 1 1], .row 5 1]
  res := .tup [.cod 21, .one (.bool)]
  outs := [.cobj 170 25, .dead]
  m := fun d dh => registry_read dh.1
  ok := ceO Tryz.func77 (by kernel_rfl) registry_read_tb (by kernel_rfl) fun d dh => by kernel_rfl

def ruling_one_tb : List (CEp) := [wire_Number_2_ce, wire_Flag_ce, wire_Text_ce]
def ruling_one_l1 (a : (Unit × Unit × Unit × Int × Int × Unit) × ((DReader) × (Int × Int × Bool × Int × (List (DRead)) × Unit) × (Int × Int × Bool × Int × (List (DRead)) × Unit) × Unit × Unit × Unit)) : Option (((Unit × Unit × Unit × Int × Int × Unit) × ((DReader) × (Int × Int × Bool × Int × (List (DRead)) × Unit) × (Int × Int × Bool × Int × (List (DRead)) × Unit) × Unit × Unit × Unit)) ⊕ (((Unit × Unit × Unit) × ((DReader) × (Int × Int × Bool × Int × (List (DRead)) × Unit) × (Int × Int × Bool × Int × (List (DRead)) × Unit) × Unit × Unit × Unit × Unit × Unit)))) :=
  (bif (decide ((a.1.2.2.2.2.1 : Int) < a.1.2.2.2.1)) then
  (wire_Text 20 a.2.1).bind fun r1 =>
  (wire_Flag r1.2.1).bind fun r2 =>
  (wire_Text 20 r2.2.1).bind fun r3 =>
  (if a.2.2.2.1.2.2.2.2.1.length + ([(⟨r1.1, r2.1, r3.1⟩ : DRead)] : List (DRead)).length ≤ 140737488355328 ∧ (a.2.2.2.1.2.2.2.2.1.length + ([(⟨r1.1, r2.1, r3.1⟩ : DRead)] : List (DRead)).length) * 40 ≤ 140737488355328 then
  let y4 : List (DRead) := (a.2.2.2.1.2.2.2.2.1 ++ ([(⟨r1.1, r2.1, r3.1⟩ : DRead)] : List (DRead)))
  some (.inl (((), (), (), a.1.2.2.2.1, (IntKind.i64.wrap (a.1.2.2.2.2.1 + 1)), ()), (r3.2.1, a.2.2.1, (a.2.2.2.1.1, a.2.2.2.1.2.1, a.2.2.2.1.2.2.1, a.2.2.2.1.2.2.2.1, y4, ()), (), (), ())))
  else none)
  else
  some (.inr (((), (), ()), (a.2.1, a.2.2.1, a.2.2.2.1, (), (), (), (), ()))))
def ruling_one_e1 : LEp := ⟨7, [0, 2, 3, 20, 21], [.one (.ptr 0 0), .one (.ptr 1 0), .one (.ptr 2 0), .one (.int .i64), .one (.int .i64)], [.cobj 170 25, .obj 41 [.int .i64, .int .i64, .bool, .int .i64, .own 10 3], .obj 41 [.int .i64, .int .i64, .bool, .int .i64, .own 10 4], .row 247 3, .row 247 3], [⟨.exit 0, [2, 3], [.one (.ptr 1 0), .one (.ptr 2 0)], [.cobj 170 25, .obj 41 [.int .i64, .int .i64, .bool, .int .i64, .own 10 5], .obj 41 [.int .i64, .int .i64, .bool, .int .i64, .own 10 6], .dead, .dead, .row 247 3, .row 247 3]⟩], ruling_one_l1⟩
def ruling_one_lt : List (LEp) := [ruling_one_e1]
theorem ruling_one_e1_ok : LeOk ruling_one_e1 (nthL (bodyOf Tryz.f160) 0) := fun A env h k z hk => le_ok (E := ruling_one_e1) (orcOf_ok ruling_one_tb) (dr := dr0) (lps := lpsOf ruling_one_lt) (no_loop (by kernel_rfl)) (fun a => by kernel_rfl) env h k z hk
def ruling_one (h0 : DReader) : Option ((DVerdict) × ((DReader) × Unit)) :=
  (wire_Number_2 1073741824 h0).bind fun r1 =>
  (wire_Number_2 1073741824 r1.2.1).bind fun r2 =>
  (wire_Number_2 1073741824 r2.2.1).bind fun r3 =>
  (wire_Flag r3.2.1).bind fun r4 =>
  (wire_Number_2 6 r4.2.1).bind fun r5 =>
  (loopM ruling_one_l1 (((), (), (), r5.1, 0, ()), (r5.2.1, (0, 0, false, 0, [], ()), (r1.1, r2.1, r4.1, r3.1, [], ()), (), (), ()))).bind fun b6 =>
  some ((⟨(⟨b6.2.2.2.1.1, b6.2.2.2.1.2.1⟩ : DName), b6.2.2.2.1.2.2.1, b6.2.2.2.1.2.2.2.1, b6.2.2.2.1.2.2.2.2.1⟩ : DVerdict), (b6.2.1, ()))
def ruling_one_ce : CEp where
  f := 160
  args := [.one (.ptr 0 0)]
  hs := [.cobj 170 25]
  res := .val (.cod 12)
  outs := [.cobj 170 25]
  m := fun d dh => ruling_one dh.1
  ok := ce_ok mixedP Tryz.func160 (by kernel_rfl) (orcOf_ok ruling_one_tb) (dr := dr0) (lps := lpsOf ruling_one_lt) (lps_fn (lps_of (n := 1) (by kernel_rfl) fun i hi => match i, hi with | 0, _ => lp_ok (E := ruling_one_e1) (by kernel_rfl) ruling_one_e1_ok)) (fun d dh => by kernel_rfl)

def ruling_Of_dr : Nat → Nat → DrA
  | 3, _ => ⟨(List.range 12), [[], [0], [0, 1], [0, 1, 2], [0, 1, 2, 3], [], (List.range 6), (List.range 7), (List.range 8), (List.range 8), (List.range 9), (List.range 11)], [], [], [], false, []⟩
  | _, _ => ⟨[], [], [], [], [], false, []⟩
def ruling_Of_tb : List (CEp) := [ruling_known_ce, ruling_copied_ce]
def ruling_Of (x1 : DName) (h0 : (List (DVerdict)) × Unit × Unit) (h1 : List ((Int × Int) × Int)) : Option (((DVerdict) × Bool × Unit) × (((List (DVerdict)) × Unit × Unit) × (List ((Int × Int) × Int)) × Unit × Unit × Unit)) :=
  (ruling_known h0 h1).bind fun r1 =>
  (bif (!r1.1) then
  some (((⟨(⟨0, 0⟩ : DName), false, 0, []⟩ : DVerdict), false, ()), (r1.2.1, r1.2.2.1, (), (), ()))
  else
  (bif (!(mget (.two .i64 .i64) r1.2.2.1 (x1.client, x1.num)).isSome) then
  some (((⟨(⟨0, 0⟩ : DName), false, 0, []⟩ : DVerdict), false, ()), (r1.2.1, r1.2.2.1, (), (), ()))
  else
  (getI r1.2.1.1 ((mget (.two .i64 .i64) r1.2.2.1 (x1.client, x1.num)).getD 0)).bind fun e2 =>
  (ruling_copied e2).bind fun r3 =>
  some ((r3.1, true, ()), (r1.2.1, r1.2.2.1, (), (), ()))))
def ruling_Of_ce : CEp where
  f := 57
  args := [.one (.ptr 0 0), .cod 8]
  hs := [.obj 197 [.own 12 2, .mo 1], .mmap (.two .i64 .i64) (.int .i64), .row 41 5]
  res := .tup [.cod 12, .one (.bool)]
  outs := [.obj 197 [.own 12 3, .mo 1], .mmap (.two .i64 .i64) (.int .i64), .dead, .row 41 5]
  m := fun d dh => ruling_Of d.2.1 dh.1 dh.2.1
  ok := ce_ok mixedP Tryz.func57 (by kernel_rfl) (orcOf_ok ruling_Of_tb) (dr := ruling_Of_dr) (lps := lpsOf lt0) (lps_fn (no_loop (by kernel_rfl))) (fun d dh => by kernel_rfl)

def ruling_Read1_tb : List (CEp) := [wire_Left_ce, wire_End_ce]
def ruling_Read1 (h0 : Unit × Unit) (h1 : DReader) : Option (Bool × ((Unit × Unit) × (DReader) × Unit)) :=
  (wire_Left h1).bind fun r1 =>
  (bif (decide ((r1.1 : Int) = 0)) then
  (wire_End r1.2.1).bind fun r2 =>
  some ((decide ((r2.1 : Int) ≠ 0)), (((), ()), r2.2.1, ()))
  else
  some (false, (((), ()), r1.2.1, ())))
def ruling_Read1_ce : CEp where
  f := 159
  args := [.one (.ptr 0 0)]
  hs := [.obj 74 [.ptr 1 0], .cobj 170 25]
  res := .val (.one (.bool))
  outs := [.obj 74 [.ptr 1 0], .cobj 170 25]
  m := fun d dh => ruling_Read1 dh.1 dh.2.1
  ok := ceO Tryz.func159 (by kernel_rfl) ruling_Read1_tb (by kernel_rfl) fun d dh => by kernel_rfl

def act_Name_tb : List (CEp) := []
def act_Name (x0 : DName) : Option (Bool × Unit) :=
  (bif (decide ((1 : Int) ≤ x0.client)) then
  (bif (decide ((x0.client : Int) ≤ 8)) then
  (bif (decide ((1 : Int) ≤ x0.num)) then
  some ((decide ((x0.num : Int) ≤ 1073741824)), ())
  else
  some (false, ()))
  else
  some (false, ()))
  else
  some (false, ()))
def act_Name_ce : CEp where
  f := 239
  args := [.cod 8]
  hs := []
  res := .val (.one (.bool))
  outs := []
  m := fun d dh => act_Name d.1
  ok := ceO Tryz.func239 (by kernel_rfl) act_Name_tb (by kernel_rfl) fun d dh => by kernel_rfl

def ruling_wrong_tb : List (CEp) := [span_Key_ce]
def ruling_wrong (x0 : DRead) : Option (Bool × Unit) :=
  (span_Key x0.key).bind fun r1 =>
  (bif (!r1.1) then
  some (true, ())
  else
  (bif (decide ((20 : Int) < (x0.value.length : Int))) then
  some (true, ())
  else
  (bif (!x0.is) then
  some ((decide (x0.value ≠ ([] : List UInt8))), ())
  else
  some (false, ()))))
def ruling_wrong_ce : CEp where
  f := 241
  args := [.cod 10]
  hs := []
  res := .val (.one (.bool))
  outs := []
  m := fun d dh => ruling_wrong d.1
  ok := ceO Tryz.func241 (by kernel_rfl) ruling_wrong_tb (by kernel_rfl) fun d dh => by kernel_rfl

def slices_IndexFunc_8_tb : List (CEp) := [ruling_wrong_ce]
def slices_IndexFunc_8_l1 (a : ((List (DRead)) × Unit × Int × Int × Unit) × Unit) : Option ((((List (DRead)) × Unit × Int × Int × Unit) × Unit) ⊕ (((Int × Unit) × Unit) ⊕ (Unit × Unit))) :=
  (bif (decide ((a.1.2.2.2.1 : Int) < a.1.2.2.1)) then
  (getI a.1.1 a.1.2.2.2.1).bind fun e1 =>
  (ruling_wrong e1).bind fun r2 =>
  (bif r2.1 then
  some (.inr (.inl ((a.1.2.2.2.1, ()), ())))
  else
  some (.inl ((a.1.1, (), a.1.2.2.1, (IntKind.i64.wrap (a.1.2.2.2.1 + 1)), ()), ())))
  else
  some (.inr (.inr ((), ()))))
def slices_IndexFunc_8_e1 : LEp := ⟨2, [0, 1, 7, 8], [.one (.sl 10), .one (.fn 241), .one (.int .i64), .one (.int .i64)], [], [⟨.ret, [4], [.one (.int .i64)], []⟩, ⟨.exit 0, [], [], []⟩], slices_IndexFunc_8_l1⟩
def slices_IndexFunc_8_lt : List (LEp) := [slices_IndexFunc_8_e1]
theorem slices_IndexFunc_8_e1_ok : LeOk slices_IndexFunc_8_e1 (nthL (bodyOf Tryz.f259) 0) := fun A env h k z hk => le_ok (E := slices_IndexFunc_8_e1) (orcOf_ok slices_IndexFunc_8_tb) (dr := dr0) (lps := lpsOf slices_IndexFunc_8_lt) (no_loop (by kernel_rfl)) (fun a => by kernel_rfl) env h k z hk
def slices_IndexFunc_8 (x0 : List (DRead)) : Option (Int × Unit) :=
  (loopM slices_IndexFunc_8_l1 ((x0, (), (x0.length : Int), 0, ()), ())).bind fun b1 =>
  (match b1 with
  | .inl b2 =>
  some (b2.1.1, ())
  | .inr b3 =>
  some ((-1), ()))
def slices_IndexFunc_8_ce : CEp where
  f := 259
  args := [.one (.sl 10), .one (.fn 241)]
  hs := []
  res := .val (.one (.int .i64))
  outs := []
  m := fun d dh => slices_IndexFunc_8 d.1
  ok := ce_ok mixedP Tryz.func259 (by kernel_rfl) (orcOf_ok slices_IndexFunc_8_tb) (dr := dr0) (lps := lpsOf slices_IndexFunc_8_lt) (lps_fn (lps_of (n := 1) (by kernel_rfl) fun i hi => match i, hi with | 0, _ => lp_ok (E := slices_IndexFunc_8_e1) (by kernel_rfl) slices_IndexFunc_8_e1_ok)) (fun d dh => by kernel_rfl)

def slices_ContainsFunc_5_tb : List (CEp) := [slices_IndexFunc_8_ce]
def slices_ContainsFunc_5 (x0 : List (DRead)) : Option (Bool × Unit) :=
  (slices_IndexFunc_8 x0).bind fun r1 =>
  some ((decide ((0 : Int) ≤ r1.1)), ())
def slices_ContainsFunc_5_ce : CEp where
  f := 240
  args := [.one (.sl 10), .one (.fn 241)]
  hs := []
  res := .val (.one (.bool))
  outs := []
  m := fun d dh => slices_ContainsFunc_5 d.1
  ok := ceO Tryz.func240 (by kernel_rfl) slices_ContainsFunc_5_tb (by kernel_rfl) fun d dh => by kernel_rfl

def ruling_Right1_tb : List (CEp) := [act_Name_ce, slices_ContainsFunc_5_ce]
def ruling_Right1 (x0 : DVerdict) : Option (Bool × Unit) :=
  (act_Name x0.name).bind fun r1 =>
  (bif (!r1.1) then
  some (true, ())
  else
  (bif (decide ((x0.at_ : Int) < 1)) then
  some (true, ())
  else
  (bif (decide ((1073741824 : Int) < x0.at_)) then
  some (true, ())
  else
  (bif (decide ((6 : Int) < (x0.reads.length : Int))) then
  some (true, ())
  else
  (bif (!x0.commit) then
  (bif (decide ((0 : Int) < (x0.reads.length : Int))) then
  some (true, ())
  else
  (slices_ContainsFunc_5 x0.reads).bind fun r2 =>
  some (r2.1, ()))
  else
  (slices_ContainsFunc_5 x0.reads).bind fun r3 =>
  some (r3.1, ()))))))
def ruling_Right1_ce : CEp where
  f := 238
  args := [.cod 12]
  hs := []
  res := .val (.one (.bool))
  outs := []
  m := fun d dh => ruling_Right1 d.1
  ok := ceO Tryz.func238 (by kernel_rfl) ruling_Right1_tb (by kernel_rfl) fun d dh => by kernel_rfl

def slices_IndexFunc_7_tb : List (CEp) := [ruling_Right1_ce]
def slices_IndexFunc_7_l1 (a : ((List (DVerdict)) × Unit × Int × Int × Unit) × Unit) : Option ((((List (DVerdict)) × Unit × Int × Int × Unit) × Unit) ⊕ (((Int × Unit) × Unit) ⊕ (Unit × Unit))) :=
  (bif (decide ((a.1.2.2.2.1 : Int) < a.1.2.2.1)) then
  (getI a.1.1 a.1.2.2.2.1).bind fun e1 =>
  (ruling_Right1 e1).bind fun r2 =>
  (bif r2.1 then
  some (.inr (.inl ((a.1.2.2.2.1, ()), ())))
  else
  some (.inl ((a.1.1, (), a.1.2.2.1, (IntKind.i64.wrap (a.1.2.2.2.1 + 1)), ()), ())))
  else
  some (.inr (.inr ((), ()))))
def slices_IndexFunc_7_e1 : LEp := ⟨2, [0, 1, 7, 8], [.one (.sl 12), .one (.fn 238), .one (.int .i64), .one (.int .i64)], [], [⟨.ret, [4], [.one (.int .i64)], []⟩, ⟨.exit 0, [], [], []⟩], slices_IndexFunc_7_l1⟩
def slices_IndexFunc_7_lt : List (LEp) := [slices_IndexFunc_7_e1]
theorem slices_IndexFunc_7_e1_ok : LeOk slices_IndexFunc_7_e1 (nthL (bodyOf Tryz.f258) 0) := fun A env h k z hk => le_ok (E := slices_IndexFunc_7_e1) (orcOf_ok slices_IndexFunc_7_tb) (dr := dr0) (lps := lpsOf slices_IndexFunc_7_lt) (no_loop (by kernel_rfl)) (fun a => by kernel_rfl) env h k z hk
def slices_IndexFunc_7 (x0 : List (DVerdict)) : Option (Int × Unit) :=
  (loopM slices_IndexFunc_7_l1 ((x0, (), (x0.length : Int), 0, ()), ())).bind fun b1 =>
  (match b1 with
  | .inl b2 =>
  some (b2.1.1, ())
  | .inr b3 =>
  some ((-1), ()))
def slices_IndexFunc_7_ce : CEp where
  f := 258
  args := [.one (.sl 12), .one (.fn 238)]
  hs := []
  res := .val (.one (.int .i64))
  outs := []
  m := fun d dh => slices_IndexFunc_7 d.1
  ok := ce_ok mixedP Tryz.func258 (by kernel_rfl) (orcOf_ok slices_IndexFunc_7_tb) (dr := dr0) (lps := lpsOf slices_IndexFunc_7_lt) (lps_fn (lps_of (n := 1) (by kernel_rfl) fun i hi => match i, hi with | 0, _ => lp_ok (E := slices_IndexFunc_7_e1) (by kernel_rfl) slices_IndexFunc_7_e1_ok)) (fun d dh => by kernel_rfl)

def slices_ContainsFunc_4_tb : List (CEp) := [slices_IndexFunc_7_ce]
def slices_ContainsFunc_4 (x0 : List (DVerdict)) : Option (Bool × Unit) :=
  (slices_IndexFunc_7 x0).bind fun r1 =>
  some ((decide ((0 : Int) ≤ r1.1)), ())
def slices_ContainsFunc_4_ce : CEp where
  f := 237
  args := [.one (.sl 12), .one (.fn 238)]
  hs := []
  res := .val (.one (.bool))
  outs := []
  m := fun d dh => slices_ContainsFunc_4 d.1
  ok := ceO Tryz.func237 (by kernel_rfl) slices_ContainsFunc_4_tb (by kernel_rfl) fun d dh => by kernel_rfl

def ruling_Right_tb : List (CEp) := [slices_ContainsFunc_4_ce]
def ruling_Right (x0 : List (DVerdict)) : Option (Bool × Unit) :=
  (slices_ContainsFunc_4 x0).bind fun r1 =>
  some ((!r1.1), ())
def ruling_Right_ce : CEp where
  f := 184
  args := [.one (.sl 12)]
  hs := []
  res := .val (.one (.bool))
  outs := []
  m := fun d dh => ruling_Right d.1
  ok := ceO Tryz.func184 (by kernel_rfl) ruling_Right_tb (by kernel_rfl) fun d dh => by kernel_rfl

def ruling_last_dr : Nat → Nat → DrA
  | 3, _ => ⟨[0, 1, 2, 4, 5, 6, 3, 7, 8, 9, 10, 11, 12, 13], [[], [0], [0, 1], [0, 1, 2], [], [4], [4, 5], [4, 5, 6], [4, 5, 6, 7], [4, 5, 6, 7, 8], (List.range 10), (List.range 11), (List.range 12), (List.range 13)], [], [], [], false, []⟩
  | _, _ => ⟨[], [], [], [], [], false, []⟩
def ruling_last_tb : List (CEp) := []
def ruling_last (h0 : (List (DVerdict)) × Unit × Unit) (h1 : List ((Int × Int) × Int)) : Option (Int × (((List (DVerdict)) × Unit × Unit) × (List ((Int × Int) × Int)) × Unit × Unit × Unit)) :=
  (bif (decide (((h0.1.length : Int) : Int) = 0)) then
  some (0, (h0, h1, (), (), ()))
  else
  (getI h0.1 (IntKind.i64.wrap ((h0.1.length : Int) - 1))).bind fun e1 =>
  some (e1.at_, (h0, h1, (), (), ())))
def ruling_last_ce : CEp where
  f := 185
  args := [.one (.ptr 0 0)]
  hs := [.obj 197 [.own 12 2, .mo 1], .mmap (.two .i64 .i64) (.int .i64), .row 41 5]
  res := .val (.one (.int .i64))
  outs := [.obj 197 [.own 12 3, .mo 1], .mmap (.two .i64 .i64) (.int .i64), .dead, .row 41 5]
  m := fun d dh => ruling_last dh.1 dh.2.1
  ok := ce_ok mixedP Tryz.func185 (by kernel_rfl) (orcOf_ok ruling_last_tb) (dr := ruling_last_dr) (lps := lpsOf lt0) (lps_fn (no_loop (by kernel_rfl))) (fun d dh => by kernel_rfl)

def ruling_Decide_dr : Nat → Nat → DrA
  | 8, _ => ⟨[0, 2, 3, 4, 1, 5, 6], [[], [0], [], [2], [2, 3], [2, 3, 4], (List.range 6)], [1], [5], [3], false, []⟩
  | 10, _ => ⟨(List.range 5), [[], [0], [0, 1], [], [0, 1, 2, 3]], [], [], [], false, []⟩
  | _, _ => ⟨[], [], [], [], [], false, []⟩
def ruling_Decide_tb : List (CEp) := [ruling_known_ce, ruling_Right_ce, ruling_Of_ce, ruling_last_ce, ruling_put_ce, ruling_copied_ce]
def ruling_Decide (x1 : DVerdict) (h0 : (List (DVerdict)) × Unit × Unit) (h1 : List ((Int × Int) × Int)) : Option (((DVerdict) × Int × Unit) × (((List (DVerdict)) × Unit × Unit) × (List ((Int × Int) × Int)) × Unit × Unit × Unit)) :=
  (ruling_known h0 h1).bind fun r1 =>
  (bif (!r1.1) then
  some (((⟨(⟨0, 0⟩ : DName), false, 0, []⟩ : DVerdict), 1, ()), (r1.2.1, r1.2.2.1, (), (), ()))
  else
  (ruling_Right ([x1] : List (DVerdict))).bind fun r2 =>
  (bif (!r2.1) then
  some (((⟨(⟨0, 0⟩ : DName), false, 0, []⟩ : DVerdict), 2, ()), (r1.2.1, r1.2.2.1, (), (), ()))
  else
  (ruling_Of x1.name r1.2.1 r1.2.2.1).bind fun r3 =>
  (bif r3.1.2.1 then
  some ((r3.1.1, 0, ()), (r3.2.1, r3.2.2.1, (), (), ()))
  else
  (ruling_last r3.2.1 r3.2.2.1).bind fun r4 =>
  (bif (decide ((x1.at_ : Int) ≤ r4.1)) then
  some (((⟨(⟨0, 0⟩ : DName), false, 0, []⟩ : DVerdict), 2, ()), (r4.2.1, r4.2.2.1, (), (), ()))
  else
  (ruling_put x1 r4.2.1 r4.2.2.1).bind fun r5 =>
  (ruling_copied x1).bind fun r6 =>
  some ((r6.1, 0, ()), (r5.2.1, r5.2.2.1, (), (), ()))))))
def ruling_Decide_ce : CEp where
  f := 101
  args := [.one (.ptr 0 0), .cod 12]
  hs := [.obj 197 [.own 12 2, .mo 1], .mmap (.two .i64 .i64) (.int .i64), .row 41 5]
  res := .tup [.cod 12, .one (.int .i64)]
  outs := [.obj 197 [.own 12 3, .mo 1], .mmap (.two .i64 .i64) (.int .i64), .dead, .row 41 5]
  m := fun d dh => ruling_Decide d.2.1 dh.1 dh.2.1
  ok := ce_ok mixedP Tryz.func101 (by kernel_rfl) (orcOf_ok ruling_Decide_tb) (dr := ruling_Decide_dr) (lps := lpsOf lt0) (lps_fn (no_loop (by kernel_rfl))) (fun d dh => by kernel_rfl)

def ruling_Read_tb : List (CEp) := [ruling_New_ce, wire_Number_2_ce, ruling_one_ce, ruling_Of_ce, ruling_Read1_ce, ruling_Decide_ce]
def ruling_Read_l1 (a : (Unit × Unit × Unit × Int × Int × Unit) × ((Unit × Unit) × ((List (DVerdict)) × Unit × Unit) × (DReader) × (List ((Int × Int) × Int)) × Unit × Unit)) : Option (((Unit × Unit × Unit × Int × Int × Unit) × ((Unit × Unit) × ((List (DVerdict)) × Unit × Unit) × (DReader) × (List ((Int × Int) × Int)) × Unit × Unit)) ⊕ (((Unit × Bool × Unit) × ((Unit × Unit) × ((List (DVerdict)) × Unit × Unit) × (DReader) × (List ((Int × Int) × Int)) × Unit × Unit × Unit)) ⊕ ((Unit × Unit × Unit) × ((Unit × Unit) × ((List (DVerdict)) × Unit × Unit) × (DReader) × (List ((Int × Int) × Int)) × Unit × Unit × Unit)))) :=
  (bif (decide ((a.1.2.2.2.2.1 : Int) < a.1.2.2.2.1)) then
  (ruling_one a.2.2.2.1).bind fun r1 =>
  (ruling_Of r1.1.name a.2.2.1 a.2.2.2.2.1).bind fun r2 =>
  (bif r2.1.2.1 then
  some (.inr (.inl (((), false, ()), (((), ()), r2.2.1, r1.2.1, r2.2.2.1, (), (), ()))))
  else
  (ruling_Read1 ((), ()) r1.2.1).bind fun r3 =>
  (bif r3.1 then
  some (.inr (.inl (((), false, ()), (((), ()), r2.2.1, r3.2.2.1, r2.2.2.1, (), (), ()))))
  else
  (ruling_Decide r1.1 r2.2.1 r2.2.2.1).bind fun r4 =>
  (bif (decide ((r4.1.2.1 : Int) ≠ 0)) then
  some (.inr (.inl (((), false, ()), (((), ()), r4.2.1, r3.2.2.1, r4.2.2.1, (), (), ()))))
  else
  some (.inl (((), (), (), a.1.2.2.2.1, (IntKind.i64.wrap (a.1.2.2.2.2.1 + 1)), ()), (((), ()), r4.2.1, r3.2.2.1, r4.2.2.1, (), ()))))))
  else
  some (.inr (.inr (((), (), ()), (((), ()), a.2.2.1, a.2.2.2.1, a.2.2.2.2.1, (), (), ())))))
def ruling_Read_e1 : LEp := ⟨4, [1, 4, 5, 14, 15], [.one (.ptr 0 0), .one (.ptr 1 0), .one (.clo 159 [0]), .one (.int .i64), .one (.int .i64)], [.obj 74 [.ptr 2 0], .obj 197 [.own 12 4, .mo 3], .cobj 170 25, .mmap (.two .i64 .i64) (.int .i64), .row 41 5], [⟨.ret, [2, 3], [.one (.nilptr), .one (.bool)], [.obj 74 [.ptr 2 0], .obj 197 [.own 12 5, .mo 3], .cobj 170 25, .mmap (.two .i64 .i64) (.int .i64), .dead, .row 41 5]⟩, ⟨.exit 0, [4, 5], [.one (.ptr 1 0), .one (.clo 159 [0])], [.obj 74 [.ptr 2 0], .obj 197 [.own 12 5, .mo 3], .cobj 170 25, .mmap (.two .i64 .i64) (.int .i64), .dead, .row 41 5]⟩], ruling_Read_l1⟩
def ruling_Read_lt : List (LEp) := [ruling_Read_e1]
theorem ruling_Read_e1_ok : LeOk ruling_Read_e1 (nthL (bodyOf Tryz.f83) 0) := fun A env h k z hk => le_ok (E := ruling_Read_e1) (orcOf_ok ruling_Read_tb) (dr := dr0) (lps := lpsOf ruling_Read_lt) (no_loop (by kernel_rfl)) (fun a => by kernel_rfl) env h k z hk
def ruling_Read (h0 : DReader) : Option ((Unit × Bool × Unit) × ((DReader) × ((List (DVerdict)) × Unit × Unit) × (List ((Int × Int) × Int)) × Unit × Unit)) :=
  (ruling_New).bind fun r1 =>
  (wire_Number_2 1073741824 h0).bind fun r2 =>
  (loopM ruling_Read_l1 (((), (), (), r2.1, 0, ()), (((), ()), r1.2.1, r2.2.1, r1.2.2.1, (), ()))).bind fun b3 =>
  (match b3 with
  | .inl b4 =>
  none
  | .inr b5 =>
  (ruling_Read1 ((), ()) b5.2.2.2.1).bind fun r6 =>
  (bif r6.1 then
  none
  else
  some (((), true, ()), (r6.2.2.1, b5.2.2.1, b5.2.2.2.2.1, (), ()))))
def ruling_Read_ce : CEp where
  f := 83
  args := [.one (.ptr 0 0)]
  hs := [.cobj 170 25]
  res := .tup [.one (.ptr 1 0), .one (.bool)]
  outs := [.cobj 170 25, .obj 197 [.own 12 3, .mo 2], .mmap (.two .i64 .i64) (.int .i64), .row 41 5]
  m := fun d dh => ruling_Read dh.1
  ok := ce_ok mixedP Tryz.func83 (by kernel_rfl) (orcOf_ok ruling_Read_tb) (dr := dr0) (lps := lpsOf ruling_Read_lt) (lps_fn (lps_of (n := 1) (by kernel_rfl) fun i hi => match i, hi with | 0, _ => lp_ok (E := ruling_Read_e1) (by kernel_rfl) ruling_Read_e1_ok)) (fun d dh => by kernel_rfl)

def registry_Read_tb : List (CEp) := [registry_read_ce, wire_Number_2_ce, ruling_Read_ce]
def registry_Read (h0 : Bool × Bool × LB × Unit) : Option ((Unit × Bool × Unit) × ((DReader) × Unit × (Unit × Int × (List (DShare)) × Bool × Int × (List UInt8) × (List UInt8) × Int × Int × Int × Int × Int × Int × Unit) × ((List (DVerdict)) × Unit × Unit) × (List ((Int × Int) × Int)) × Unit × Unit)) :=
  (registry_read h0).bind fun r1 =>
  (bif (!r1.1.2.1) then
  none
  else
  (wire_Number_2 1073741824 r1.2.1).bind fun r2 =>
  (ruling_Read r2.2.1).bind fun r3 =>
  (bif (!r3.1.2.1) then
  none
  else
  (bif r1.1.1.under then
  (bif (decide ((r1.1.1.x.num : Int) ≠ r2.1)) then
  none
  else
  some (((), true, ()), (r3.2.1, (), ((), r1.1.1.shares.epoch, r1.1.1.shares.list, r1.1.1.under, r1.1.1.x.num, r1.1.1.x.span.lo, r1.1.1.x.span.hi, r1.1.1.x.from_, r1.1.1.x.to_, r1.1.1.x.epoch, r1.1.1.x.under, r1.1.1.x.stage, r2.1, ()), r3.2.2.1, r3.2.2.2.1, (), ())))
  else
  some (((), true, ()), (r3.2.1, (), ((), r1.1.1.shares.epoch, r1.1.1.shares.list, r1.1.1.under, r1.1.1.x.num, r1.1.1.x.span.lo, r1.1.1.x.span.hi, r1.1.1.x.from_, r1.1.1.x.to_, r1.1.1.x.epoch, r1.1.1.x.under, r1.1.1.x.stage, r2.1, ()), r3.2.2.1, r3.2.2.2.1, (), ())))))
def registry_Read_ce : CEp where
  f := 34
  args := [.one (.ptr 0 0)]
  hs := [.obj 170 [.bool, .bool, .own 1 1], .row 5 1]
  res := .tup [.one (.ptr 2 0), .one (.bool)]
  outs := [.cobj 170 25, .dead, .obj 110 [.ptr 3 0, .int .i64, .sl 5, .bool, .int .i64, .str, .str, .int .i64, .int .i64, .int .i64, .int .i64, .int .u8, .int .i64], .obj 197 [.own 12 5, .mo 4], .mmap (.two .i64 .i64) (.int .i64), .row 41 5]
  m := fun d dh => registry_Read dh.1
  ok := ceO Tryz.func34 (by kernel_rfl) registry_Read_tb (by kernel_rfl) fun d dh => by kernel_rfl

def registry_Last_tb : List (CEp) := [registry_known_ce]
def registry_Last (h0 : Unit × Int × (List (DShare)) × Bool × Int × (List UInt8) × (List UInt8) × Int × Int × Int × Int × Int × Int × Unit) (h1 : (List (DVerdict)) × Unit × Unit) (h2 : List ((Int × Int) × Int)) : Option (Int × ((Unit × Int × (List (DShare)) × Bool × Int × (List UInt8) × (List UInt8) × Int × Int × Int × Int × Int × Int × Unit) × ((List (DVerdict)) × Unit × Unit) × (List ((Int × Int) × Int)) × Unit × Unit × Unit)) :=
  (registry_known h0 h1 h2).bind fun r1 =>
  (bif (!r1.1) then
  some (0, (r1.2.1, r1.2.2.1, r1.2.2.2.1, (), (), ()))
  else
  some (r1.2.1.2.2.2.2.2.2.2.2.2.2.2.2.1, (r1.2.1, r1.2.2.1, r1.2.2.2.1, (), (), ())))
def registry_Last_ce : CEp where
  f := 16
  args := [.one (.ptr 0 0)]
  hs := [.obj 110 [.ptr 1 0, .int .i64, .sl 5, .bool, .int .i64, .str, .str, .int .i64, .int .i64, .int .i64, .int .i64, .int .u8, .int .i64], .obj 197 [.own 12 3, .mo 2], .mmap (.two .i64 .i64) (.int .i64), .row 41 5]
  res := .val (.one (.int .i64))
  outs := [.obj 110 [.ptr 1 0, .int .i64, .sl 5, .bool, .int .i64, .str, .str, .int .i64, .int .i64, .int .i64, .int .i64, .int .u8, .int .i64], .obj 197 [.own 12 4, .mo 2], .mmap (.two .i64 .i64) (.int .i64), .dead, .row 41 5]
  m := fun d dh => registry_Last dh.1 dh.2.1 dh.2.2.1
  ok := ceO Tryz.func16 (by kernel_rfl) registry_Last_tb (by kernel_rfl) fun d dh => by kernel_rfl

def registry_Decide_dr : Nat → Nat → DrA
  | 3, _ => ⟨(List.range 11), [[], [0], [0, 1], [0, 1, 2], [0, 1, 2, 3], [], (List.range 6), (List.range 7), (List.range 7), (List.range 9), (List.range 10)], [], [], [], false, []⟩
  | _, _ => ⟨[], [], [], [], [], false, []⟩
def registry_Decide_tb : List (CEp) := [registry_known_ce, ruling_Decide_ce]
def registry_Decide (x1 : DVerdict) (h0 : Unit × Int × (List (DShare)) × Bool × Int × (List UInt8) × (List UInt8) × Int × Int × Int × Int × Int × Int × Unit) (h1 : (List (DVerdict)) × Unit × Unit) (h2 : List ((Int × Int) × Int)) : Option (((DVerdict) × Int × Unit) × ((Unit × Int × (List (DShare)) × Bool × Int × (List UInt8) × (List UInt8) × Int × Int × Int × Int × Int × Int × Unit) × ((List (DVerdict)) × Unit × Unit) × (List ((Int × Int) × Int)) × Unit × Unit × Unit)) :=
  (registry_known h0 h1 h2).bind fun r1 =>
  (bif (!r1.1) then
  some (((⟨(⟨0, 0⟩ : DName), false, 0, []⟩ : DVerdict), 1, ()), (r1.2.1, r1.2.2.1, r1.2.2.2.1, (), (), ()))
  else
  (ruling_Decide x1 r1.2.2.1 r1.2.2.2.1).bind fun r2 =>
  some ((r2.1.1, r2.1.2.1, ()), (r1.2.1, r2.2.1, r2.2.2.1, (), (), ())))
def registry_Decide_ce : CEp where
  f := 53
  args := [.one (.ptr 0 0), .cod 12]
  hs := [.obj 110 [.ptr 1 0, .int .i64, .sl 5, .bool, .int .i64, .str, .str, .int .i64, .int .i64, .int .i64, .int .i64, .int .u8, .int .i64], .obj 197 [.own 12 3, .mo 2], .mmap (.two .i64 .i64) (.int .i64), .row 41 5]
  res := .tup [.cod 12, .one (.int .i64)]
  outs := [.obj 110 [.ptr 1 0, .int .i64, .sl 5, .bool, .int .i64, .str, .str, .int .i64, .int .i64, .int .i64, .int .i64, .int .u8, .int .i64], .obj 197 [.own 12 4, .mo 2], .mmap (.two .i64 .i64) (.int .i64), .dead, .row 41 5]
  m := fun d dh => registry_Decide d.2.1 dh.1 dh.2.1 dh.2.2.1
  ok := ce_ok mixedP Tryz.func53 (by kernel_rfl) (orcOf_ok registry_Decide_tb) (dr := registry_Decide_dr) (lps := lpsOf lt0) (lps_fn (no_loop (by kernel_rfl))) (fun d dh => by kernel_rfl)

def wl_do_tb : List (CEp) := [wk_Pick_ce, registry_Begin_ce, registry_Decide_ce, registry_Step_ce]
def wl_do (x1 : DDeed) (h0 : Unit × Int × (List (DShare)) × Bool × Int × (List UInt8) × (List UInt8) × Int × Int × Int × Int × Int × Int × Unit) (h1 : (List (DVerdict)) × Unit × Unit) (h2 : List ((Int × Int) × Int)) : Option ((Int × Int × Unit) × ((Unit × Int × (List (DShare)) × Bool × Int × (List UInt8) × (List UInt8) × Int × Int × Int × Int × Int × Int × Unit) × ((List (DVerdict)) × Unit × Unit) × (List ((Int × Int) × Int)) × Unit × Unit × Unit)) :=
  (wk_Pick x1.kind 8).bind fun r1 =>
  (bif (decide ((r1.1 : Int) = 0)) then
  (registry_Begin x1.span x1.to_ h0 h1 h2).bind fun r2 =>
  some ((r2.1.1, r2.1.2.1, ()), (r2.2.1, r2.2.2.1, r2.2.2.2.1, (), (), ()))
  else
  (bif (decide ((r1.1 : Int) = 1)) then
  (registry_Begin x1.span x1.to_ h0 h1 h2).bind fun r3 =>
  some ((r3.1.1, r3.1.2.1, ()), (r3.2.1, r3.2.2.1, r3.2.2.2.1, (), (), ()))
  else
  (bif (decide ((r1.1 : Int) = 6)) then
  (registry_Decide x1.verdict h0 h1 h2).bind fun r4 =>
  some ((0, r4.1.2.1, ()), (r4.2.1, r4.2.2.1, r4.2.2.2.1, (), (), ()))
  else
  (bif (decide ((r1.1 : Int) = 7)) then
  some ((0, 0, ()), (h0, h1, h2, (), (), ()))
  else
  (registry_Step x1.num x1.stage h0 h1 h2).bind fun r5 =>
  some (((IntKind.i64.wrap r5.1.1), r5.1.2.1, ()), (r5.2.1, r5.2.2.1, r5.2.2.2.1, (), (), ()))))))
def wl_do_ce : CEp where
  f := 11
  args := [.one (.ptr 0 0), .cod 13]
  hs := [.obj 110 [.ptr 1 0, .int .i64, .sl 5, .bool, .int .i64, .str, .str, .int .i64, .int .i64, .int .i64, .int .i64, .int .u8, .int .i64], .obj 197 [.own 12 3, .mo 2], .mmap (.two .i64 .i64) (.int .i64), .row 41 5]
  res := .tup [.one (.int .i64), .one (.int .i64)]
  outs := [.obj 110 [.ptr 1 0, .int .i64, .sl 5, .bool, .int .i64, .str, .str, .int .i64, .int .i64, .int .i64, .int .i64, .int .u8, .int .i64], .obj 197 [.own 12 4, .mo 2], .mmap (.two .i64 .i64) (.int .i64), .dead, .row 41 5]
  m := fun d dh => wl_do d.2.1 dh.1 dh.2.1 dh.2.2.1
  ok := ceO Tryz.func11 (by kernel_rfl) wl_do_tb (by kernel_rfl) fun d dh => by kernel_rfl

def registry_View_dr : Nat → Nat → DrA
  | 3, _ => ⟨(List.range 12), [[], [0], [0, 1], [0, 1, 2], [], (List.range 5), (List.range 6), (List.range 7), (List.range 8), (List.range 8), (List.range 9), (List.range 11)], [3], [4], [0], false, []⟩
  | _, _ => ⟨[], [], [], [], [], false, []⟩
def registry_View_tb : List (CEp) := [registry_known_ce, wire_NewWriter_ce, registry_write_ce, wire_Done_ce]
def registry_View (h0 : Unit × Int × (List (DShare)) × Bool × Int × (List UInt8) × (List UInt8) × Int × Int × Int × Int × Int × Int × Unit) (h1 : (List (DVerdict)) × Unit × Unit) (h2 : List ((Int × Int) × Int)) : Option (LB × ((Unit × Int × (List (DShare)) × Bool × Int × (List UInt8) × (List UInt8) × Int × Int × Int × Int × Int × Int × Unit) × ((List (DVerdict)) × Unit × Unit) × (List ((Int × Int) × Int)) × Unit × Unit × Unit × Unit)) :=
  (registry_known h0 h1 h2).bind fun r1 =>
  (bif (!r1.1) then
  some ([], (r1.2.1, r1.2.2.1, r1.2.2.2.1, (), (), (), ()))
  else
  (wire_NewWriter).bind fun r2 =>
  (registry_write (⟨(⟨r1.2.1.2.1, r1.2.1.2.2.1⟩ : DShares), r1.2.1.2.2.2.1, (⟨r1.2.1.2.2.2.2.1, (⟨r1.2.1.2.2.2.2.2.1, r1.2.1.2.2.2.2.2.2.1⟩ : DSpan), r1.2.1.2.2.2.2.2.2.2.1, r1.2.1.2.2.2.2.2.2.2.2.1, r1.2.1.2.2.2.2.2.2.2.2.2.1, r1.2.1.2.2.2.2.2.2.2.2.2.2.1, r1.2.1.2.2.2.2.2.2.2.2.2.2.2.1⟩ : DScheme)⟩ : DPlan) r2.2.1).bind fun r3 =>
  (wire_Done r3.2.1).bind fun r4 =>
  some (r4.1.1, (r1.2.1, r1.2.2.1, r1.2.2.2.1, (), (), (), ())))
def registry_View_ce : CEp where
  f := 15
  args := [.one (.ptr 0 0)]
  hs := [.obj 110 [.ptr 1 0, .int .i64, .sl 5, .bool, .int .i64, .str, .str, .int .i64, .int .i64, .int .i64, .int .i64, .int .u8, .int .i64], .obj 197 [.own 12 3, .mo 2], .mmap (.two .i64 .i64) (.int .i64), .row 41 5]
  res := .val (.one (.own 1 4))
  outs := [.obj 110 [.ptr 1 0, .int .i64, .sl 5, .bool, .int .i64, .str, .str, .int .i64, .int .i64, .int .i64, .int .i64, .int .u8, .int .i64], .obj 197 [.own 12 5, .mo 2], .mmap (.two .i64 .i64) (.int .i64), .dead, .row 5 1, .row 41 5]
  m := fun d dh => registry_View dh.1 dh.2.1 dh.2.2.1
  ok := ce_ok mixedP Tryz.func15 (by kernel_rfl) (orcOf_ok registry_View_tb) (dr := registry_View_dr) (lps := lpsOf lt0) (lps_fn (no_loop (by kernel_rfl))) (fun d dh => by kernel_rfl)

def registry_ReadView_dr : Nat → Nat → DrA
  | 4, _ => ⟨(List.range 6), [[], [], [0], [0, 1, 2], [0, 1, 2, 3], (List.range 5)], [1], [2], [1], false, []⟩
  | 5, _ => ⟨[0, 2, 4, 1, 3, 5, 6, 7, 8, 9], [[], [0], [], [2], [], [4], [0, 1], [0, 1, 2, 3, 6], (List.range 8), (List.range 9)], [3, 5], [6, 7], [4], false, []⟩
  | _, _ => ⟨[], [], [], [], [], false, []⟩
def registry_ReadView_tb : List (CEp) := [wire_NewReader_ce, registry_read_ce, wire_End_ce]
def registry_ReadView (x0 : LB) : Option (((DShares) × (DScheme) × Bool × Bool × Unit) × Unit) :=
  (wire_NewReader x0).bind fun r1 =>
  (registry_read r1.2.1).bind fun r2 =>
  (bif (!r2.1.2.1) then
  some (((⟨0, []⟩ : DShares), (⟨0, (⟨([] : List UInt8), ([] : List UInt8)⟩ : DSpan), 0, 0, 0, 0, 0⟩ : DScheme), false, false, ()), ())
  else
  (wire_End r2.2.1).bind fun r3 =>
  (bif (decide ((r3.1 : Int) ≠ 0)) then
  some (((⟨0, []⟩ : DShares), (⟨0, (⟨([] : List UInt8), ([] : List UInt8)⟩ : DSpan), 0, 0, 0, 0, 0⟩ : DScheme), false, false, ()), ())
  else
  some ((r2.1.1.shares, r2.1.1.x, r2.1.1.under, true, ()), ())))
def registry_ReadView_ce : CEp where
  f := 31
  args := [.one (.sl 1)]
  hs := []
  res := .tup [.cod 15, .cod 20, .one (.bool), .one (.bool)]
  outs := []
  m := fun d dh => registry_ReadView d.1
  ok := ce_ok mixedP Tryz.func31 (by kernel_rfl) (orcOf_ok registry_ReadView_tb) (dr := registry_ReadView_dr) (lps := lpsOf lt0) (lps_fn (no_loop (by kernel_rfl))) (fun d dh => by kernel_rfl)

def wk_SameShareRows_dr : Nat → Nat → DrA
  | 6, _ => ⟨[0, 1, 2, 4, 5, 6, 3, 7, 8], [[], [], [0, 1], [0, 1, 2], [], [], [4, 5], [4, 5, 6], (List.range 8)], [], [], [], false, []⟩
  | _, _ => ⟨[], [], [], [], [], false, []⟩
def wk_SameShareRows_tb : List (CEp) := []
def wk_SameShareRows_l1 (a : ((List (DShare)) × (List (DShare)) × Int × Unit) × Unit) : Option ((((List (DShare)) × (List (DShare)) × Int × Unit) × Unit) ⊕ (((Bool × Unit) × Unit) ⊕ (Unit × Unit))) :=
  (bif (decide ((a.1.2.2.1 : Int) < (a.1.1.length : Int))) then
  (getI a.1.1 a.1.2.2.1).bind fun e1 =>
  (getI a.1.2.1 a.1.2.2.1).bind fun e2 =>
  (bif (!(decide (e1.span.lo = e2.span.lo) && (decide (e1.span.hi = e2.span.hi) && (decide ((e1.group : Int) = e2.group) && (decide ((e1.epoch : Int) = e2.epoch) && true))))) then
  some (.inr (.inl ((false, ()), ())))
  else
  some (.inl ((a.1.1, a.1.2.1, (IntKind.i64.wrap (a.1.2.2.1 + 1)), ()), ())))
  else
  some (.inr (.inr ((), ()))))
def wk_SameShareRows_e1 : LEp := ⟨4, [0, 1, 5], [.one (.sl 5), .one (.sl 5), .one (.int .i64)], [], [⟨.ret, [4], [.one (.bool)], []⟩, ⟨.exit 0, [], [], []⟩], wk_SameShareRows_l1⟩
def wk_SameShareRows_lt : List (LEp) := [wk_SameShareRows_e1]
theorem wk_SameShareRows_e1_ok : LeOk wk_SameShareRows_e1 (nthL (bodyOf Tryz.f86) 0) := fun A env h k z hk => le_ok (E := wk_SameShareRows_e1) (orcOf_ok wk_SameShareRows_tb) (dr := wk_SameShareRows_dr) (lps := lpsOf wk_SameShareRows_lt) (no_loop (by kernel_rfl)) (fun a => by kernel_rfl) env h k z hk
def wk_SameShareRows (x0 : List (DShare)) (x1 : List (DShare)) : Option (Bool × Unit) :=
  (bif (decide (((x0.length : Int) : Int) ≠ (x1.length : Int))) then
  some (false, ())
  else
  (loopM wk_SameShareRows_l1 ((x0, x1, 0, ()), ())).bind fun b1 =>
  (match b1 with
  | .inl b2 =>
  some (b2.1.1, ())
  | .inr b3 =>
  some (true, ())))
def wk_SameShareRows_ce : CEp where
  f := 86
  args := [.one (.sl 5), .one (.sl 5)]
  hs := []
  res := .val (.one (.bool))
  outs := []
  m := fun d dh => wk_SameShareRows d.1 d.2.1
  ok := ce_ok mixedP Tryz.func86 (by kernel_rfl) (orcOf_ok wk_SameShareRows_tb) (dr := wk_SameShareRows_dr) (lps := lpsOf wk_SameShareRows_lt) (lps_fn (lps_of (n := 1) (by kernel_rfl) fun i hi => match i, hi with | 0, _ => lp_ok (E := wk_SameShareRows_e1) (by kernel_rfl) wk_SameShareRows_e1_ok)) (fun d dh => by kernel_rfl)

def wk_SameShares_tb : List (CEp) := [wk_SameShareRows_ce]
def wk_SameShares (x0 : DShares) (x1 : DShares) : Option (Bool × Unit) :=
  (bif (decide ((x0.epoch : Int) = x1.epoch)) then
  (wk_SameShareRows x0.list x1.list).bind fun r1 =>
  some (r1.1, ())
  else
  some (false, ()))
def wk_SameShares_ce : CEp where
  f := 36
  args := [.cod 15, .cod 15]
  hs := []
  res := .val (.one (.bool))
  outs := []
  m := fun d dh => wk_SameShares d.1 d.2.1
  ok := ceO Tryz.func36 (by kernel_rfl) wk_SameShares_tb (by kernel_rfl) fun d dh => by kernel_rfl

def wl_whole_dr : Nat → Nat → DrA
  | 3, _ => ⟨(List.range 13 ++ [14, 13, 15, 16, 17, 18, 19, 20, 21, 22, 23]), [[], [0], [0, 1], [0, 1, 2], [0, 1, 2], (List.range 5), (List.range 6), (List.range 7), (List.range 8), (List.range 8), (List.range 10), (List.range 11), (List.range 12), (List.range 13), (List.range 13), (List.range 13 ++ [14]), (List.range 16), (List.range 17), (List.range 18), (List.range 19), (List.range 20), (List.range 21), (List.range 22), (List.range 23)], [13], [15], [8], false, []⟩
  | 5, _ => ⟨[0, 1, 2, 4, 3, 5, 6, 7, 8, 9, 10, 11, 12, 13, 14, 15, 16, 17, 18, 19, 20, 22, 21, 23, 24, 25, 26, 27], [[], [0], [0, 1], [0, 1, 2], [0, 1, 2], (List.range 5), (List.range 6), (List.range 7), (List.range 8), (List.range 9), (List.range 10), (List.range 11), (List.range 12), (List.range 13), (List.range 14), (List.range 15), (List.range 16), (List.range 17), (List.range 18), (List.range 19), (List.range 20), (List.range 21), (List.range 20), (List.range 20 ++ [22]), (List.range 24), (List.range 25), (List.range 26), (List.range 27)], [21], [23], [5], false, []⟩
  | _, _ => ⟨[], [], [], [], [], false, []⟩
def wl_whole_tb : List (CEp) := [registry_Scheme_ce, registry_View_ce, registry_ReadView_ce, registry_Shares_ce, wk_SameShares_ce, shares_Right_ce, scheme_Right_ce, scheme_Over_ce, registry_Last_ce]
def wl_whole (h0 : Unit × Int × (List (DShare)) × Bool × Int × (List UInt8) × (List UInt8) × Int × Int × Int × Int × Int × Int × Unit) (h1 : (List (DVerdict)) × Unit × Unit) (h2 : List ((Int × Int) × Int)) : Option (Bool × ((Unit × Int × (List (DShare)) × Bool × Int × (List UInt8) × (List UInt8) × Int × Int × Int × Int × Int × Int × Unit) × ((List (DVerdict)) × Unit × Unit) × (List ((Int × Int) × Int)) × Unit × Unit × Unit)) :=
  (registry_Scheme h0 h1 h2).bind fun r1 =>
  (registry_View r1.2.1 r1.2.2.1 r1.2.2.2.1).bind fun r2 =>
  (registry_ReadView r2.1).bind fun r3 =>
  (bif (!r3.1.2.2.2.1) then
  some (false, (r2.2.1, r2.2.2.1, r2.2.2.2.1, (), (), ()))
  else
  (bif (decide (r3.1.2.2.1 ≠ r1.1.2.1)) then
  some (false, (r2.2.1, r2.2.2.1, r2.2.2.2.1, (), (), ()))
  else
  (bif (!(decide ((r1.1.1.num : Int) = r3.1.2.1.num) && (decide (r1.1.1.span.lo = r3.1.2.1.span.lo) && (decide (r1.1.1.span.hi = r3.1.2.1.span.hi) && (decide ((r1.1.1.from_ : Int) = r3.1.2.1.from_) && (decide ((r1.1.1.to_ : Int) = r3.1.2.1.to_) && (decide ((r1.1.1.epoch : Int) = r3.1.2.1.epoch) && (decide ((r1.1.1.under : Int) = r3.1.2.1.under) && (decide ((r1.1.1.stage : Int) = r3.1.2.1.stage) && true))))))))) then
  some (false, (r2.2.1, r2.2.2.1, r2.2.2.2.1, (), (), ()))
  else
  (registry_Shares r2.2.1 r2.2.2.1 r2.2.2.2.1).bind fun r4 =>
  (wk_SameShares r3.1.1 r4.1).bind fun r5 =>
  (bif (!r5.1) then
  some (false, (r4.2.1, r4.2.2.1, r4.2.2.2.1, (), (), ()))
  else
  (shares_Right r3.1.1).bind fun r6 =>
  (bif (!r6.1) then
  some (false, (r4.2.1, r4.2.2.1, r4.2.2.2.1, (), (), ()))
  else
  (bif (!r1.1.2.1) then
  (bif (decide ((r1.1.1.num : Int) = 0) && (decide (r1.1.1.span.lo = ([] : List UInt8)) && (decide (r1.1.1.span.hi = ([] : List UInt8)) && (decide ((r1.1.1.from_ : Int) = 0) && (decide ((r1.1.1.to_ : Int) = 0) && (decide ((r1.1.1.epoch : Int) = 0) && (decide ((r1.1.1.under : Int) = 0) && (decide ((r1.1.1.stage : Int) = 0) && true)))))))) then
  some (true, (r4.2.1, r4.2.2.1, r4.2.2.2.1, (), (), ()))
  else
  (bif r1.1.2.1 then
  (scheme_Right ([r1.1.1] : List (DScheme))).bind fun r7 =>
  (bif r7.1 then
  (scheme_Over r1.1.1).bind fun r8 =>
  (bif (!r8.1) then
  (registry_Last r4.2.1 r4.2.2.1 r4.2.2.2.1).bind fun r9 =>
  some ((decide ((r1.1.1.num : Int) = r9.1)), (r9.2.1, r9.2.2.1, r9.2.2.2.1, (), (), ()))
  else
  some (false, (r4.2.1, r4.2.2.1, r4.2.2.2.1, (), (), ())))
  else
  some (false, (r4.2.1, r4.2.2.1, r4.2.2.2.1, (), (), ())))
  else
  some (false, (r4.2.1, r4.2.2.1, r4.2.2.2.1, (), (), ()))))
  else
  (bif r1.1.2.1 then
  (scheme_Right ([r1.1.1] : List (DScheme))).bind fun r10 =>
  (bif r10.1 then
  (scheme_Over r1.1.1).bind fun r11 =>
  (bif (!r11.1) then
  (registry_Last r4.2.1 r4.2.2.1 r4.2.2.2.1).bind fun r12 =>
  some ((decide ((r1.1.1.num : Int) = r12.1)), (r12.2.1, r12.2.2.1, r12.2.2.2.1, (), (), ()))
  else
  some (false, (r4.2.1, r4.2.2.1, r4.2.2.2.1, (), (), ())))
  else
  some (false, (r4.2.1, r4.2.2.1, r4.2.2.2.1, (), (), ())))
  else
  some (false, (r4.2.1, r4.2.2.1, r4.2.2.2.1, (), (), ())))))))))
def wl_whole_ce : CEp where
  f := 43
  args := [.one (.ptr 0 0)]
  hs := [.obj 110 [.ptr 1 0, .int .i64, .sl 5, .bool, .int .i64, .str, .str, .int .i64, .int .i64, .int .i64, .int .i64, .int .u8, .int .i64], .obj 197 [.own 12 3, .mo 2], .mmap (.two .i64 .i64) (.int .i64), .row 41 5]
  res := .val (.one (.bool))
  outs := [.obj 110 [.ptr 1 0, .int .i64, .sl 5, .bool, .int .i64, .str, .str, .int .i64, .int .i64, .int .i64, .int .i64, .int .u8, .int .i64], .obj 197 [.own 12 4, .mo 2], .mmap (.two .i64 .i64) (.int .i64), .dead, .row 41 5]
  m := fun d dh => wl_whole dh.1 dh.2.1 dh.2.2.1
  ok := ce_ok mixedP Tryz.func43 (by kernel_rfl) (orcOf_ok wl_whole_tb) (dr := wl_whole_dr) (lps := lpsOf lt0) (lps_fn (no_loop (by kernel_rfl))) (fun d dh => by kernel_rfl)

def wl_turned_dr : Nat → Nat → DrA
  | 6, _ => ⟨[1, 2, 3, 0, 4, 5, 6, 7, 8, 9, 10, 11], [[], [], [], [1, 2], [1, 2, 3], (List.range 5), (List.range 6), (List.range 7), (List.range 7), [], (List.range 8 ++ [9]), (List.range 11)], [], [], [], false, []⟩
  | 7, _ => ⟨[1, 2, 3, 0, 4, 5, 6, 7, 8, 9, 10, 11], [[], [], [], [1, 2], [1, 2, 3], (List.range 5), (List.range 6), (List.range 7), (List.range 7), [], (List.range 8 ++ [9]), (List.range 11)], [], [], [], false, []⟩
  | 10, _ => ⟨[0, 1, 2, 4, 3, 5, 6, 7, 8, 9, 11, 10, 12, 13, 14, 15, 17, 16, 18, 19, 20, 21, 22, 24, 23, 25, 26, 27, 28, 29, 30, 31, 33, 34, 32, 35, 36, 37, 38, 39, 40, 41, 42, 43, 44, 45, 46, 48, 49, 47, 50, 51, 52, 53, 54], [[], [0], [0, 1], [0, 1, 2], [0, 1], [0, 1, 4], (List.range 6), (List.range 7), (List.range 8), (List.range 9), (List.range 10), (List.range 9), (List.range 9 ++ [11]), (List.range 13), (List.range 14), (List.range 15), (List.range 16), (List.range 15), (List.range 15 ++ [17]), (List.range 19), (List.range 20), (List.range 21), (List.range 22), (List.range 23), (List.range 22), (List.range 22 ++ [24]), (List.range 26), (List.range 27), (List.range 28), (List.range 29), (List.range 29), (List.range 31), (List.range 32), (List.range 29), (List.range 29 ++ [33]), (List.range 29 ++ [33, 34]), (List.range 36), (List.range 37), (List.range 38), (List.range 39), (List.range 40), (List.range 41), (List.range 42), (List.range 43), (List.range 44), (List.range 44), (List.range 46), (List.range 47), (List.range 44), (List.range 44 ++ [48]), (List.range 44 ++ [48, 49]), (List.range 51), (List.range 52), (List.range 53), (List.range 54)], [], [], [], false, []⟩
  | _, _ => ⟨[], [], [], [], [], false, []⟩
def wl_turned_tb : List (CEp) := [wk_SameShares_ce, shares_Of_ce]
def wl_turned_l1 (a : ((List (List UInt8)) × Unit × Unit × Unit × Int × Unit) × ((DShares) × (DShares) × (DScheme) × Unit)) : Option ((((List (List UInt8)) × Unit × Unit × Unit × Int × Unit) × ((DShares) × (DShares) × (DScheme) × Unit)) ⊕ (((Bool × Unit) × ((DShares) × (DShares) × (DScheme) × Unit)) ⊕ (Unit × ((DShares) × (DShares) × (DScheme) × Unit)))) :=
  (bif (decide ((a.1.2.2.2.2.1 : Int) < (a.1.1.length : Int))) then
  (getI a.1.1 a.1.2.2.2.2.1).bind fun e1 =>
  (shares_Of a.2.1 e1).bind fun r2 =>
  (getI a.1.1 a.1.2.2.2.2.1).bind fun e3 =>
  (shares_Of a.2.2.1 e3).bind fun r4 =>
  (bif (decide (r2.1.2.1 ≠ r4.1.2.1)) then
  some (.inr (.inl ((false, ()), (a.2.1, a.2.2.1, a.2.2.2.1, ()))))
  else
  (bif r2.1.2.1 then
  (bif (decide ((decide ((r2.1.1.group : Int) = r4.1.1.group)) ≠ (decide ((r2.1.1.epoch : Int) = r4.1.1.epoch)))) then
  some (.inr (.inl ((false, ()), (a.2.1, a.2.2.1, a.2.2.2.1, ()))))
  else
  (bif r2.1.2.1 then
  (bif (decide ((r4.1.1.epoch : Int) < r2.1.1.epoch)) then
  some (.inr (.inl ((false, ()), (a.2.1, a.2.2.1, a.2.2.2.1, ()))))
  else
  (bif r2.1.2.1 then
  (bif (decide ((r2.1.1.group : Int) ≠ r4.1.1.group)) then
  (bif (decide ((r4.1.1.group : Int) ≠ a.2.2.2.1.to_)) then
  some (.inr (.inl ((false, ()), (a.2.1, a.2.2.1, a.2.2.2.1, ()))))
  else
  (bif (decide ((r2.1.1.group : Int) ≠ a.2.2.2.1.from_)) then
  some (.inr (.inl ((false, ()), (a.2.1, a.2.2.1, a.2.2.2.1, ()))))
  else
  (bif (decide ((r4.1.1.epoch : Int) ≠ a.2.2.2.1.under)) then
  some (.inr (.inl ((false, ()), (a.2.1, a.2.2.1, a.2.2.2.1, ()))))
  else
  (getI a.1.1 a.1.2.2.2.2.1).bind fun e5 =>
  (bif (decide (e5 < a.2.2.2.1.span.lo)) then
  some (.inr (.inl ((false, ()), (a.2.1, a.2.2.1, a.2.2.2.1, ()))))
  else
  (bif (decide (a.2.2.2.1.span.hi ≠ ([] : List UInt8))) then
  (getI a.1.1 a.1.2.2.2.2.1).bind fun e6 =>
  (bif (!decide (e6 < a.2.2.2.1.span.hi)) then
  some (.inr (.inl ((false, ()), (a.2.1, a.2.2.1, a.2.2.2.1, ()))))
  else
  some (.inl ((a.1.1, (), (), (), (IntKind.i64.wrap (a.1.2.2.2.2.1 + 1)), ()), (a.2.1, a.2.2.1, a.2.2.2.1, ()))))
  else
  some (.inl ((a.1.1, (), (), (), (IntKind.i64.wrap (a.1.2.2.2.2.1 + 1)), ()), (a.2.1, a.2.2.1, a.2.2.2.1, ()))))))))
  else
  some (.inl ((a.1.1, (), (), (), (IntKind.i64.wrap (a.1.2.2.2.2.1 + 1)), ()), (a.2.1, a.2.2.1, a.2.2.2.1, ()))))
  else
  some (.inl ((a.1.1, (), (), (), (IntKind.i64.wrap (a.1.2.2.2.2.1 + 1)), ()), (a.2.1, a.2.2.1, a.2.2.2.1, ())))))
  else
  (bif r2.1.2.1 then
  (bif (decide ((r2.1.1.group : Int) ≠ r4.1.1.group)) then
  (bif (decide ((r4.1.1.group : Int) ≠ a.2.2.2.1.to_)) then
  some (.inr (.inl ((false, ()), (a.2.1, a.2.2.1, a.2.2.2.1, ()))))
  else
  (bif (decide ((r2.1.1.group : Int) ≠ a.2.2.2.1.from_)) then
  some (.inr (.inl ((false, ()), (a.2.1, a.2.2.1, a.2.2.2.1, ()))))
  else
  (bif (decide ((r4.1.1.epoch : Int) ≠ a.2.2.2.1.under)) then
  some (.inr (.inl ((false, ()), (a.2.1, a.2.2.1, a.2.2.2.1, ()))))
  else
  (getI a.1.1 a.1.2.2.2.2.1).bind fun e7 =>
  (bif (decide (e7 < a.2.2.2.1.span.lo)) then
  some (.inr (.inl ((false, ()), (a.2.1, a.2.2.1, a.2.2.2.1, ()))))
  else
  (bif (decide (a.2.2.2.1.span.hi ≠ ([] : List UInt8))) then
  (getI a.1.1 a.1.2.2.2.2.1).bind fun e8 =>
  (bif (!decide (e8 < a.2.2.2.1.span.hi)) then
  some (.inr (.inl ((false, ()), (a.2.1, a.2.2.1, a.2.2.2.1, ()))))
  else
  some (.inl ((a.1.1, (), (), (), (IntKind.i64.wrap (a.1.2.2.2.2.1 + 1)), ()), (a.2.1, a.2.2.1, a.2.2.2.1, ()))))
  else
  some (.inl ((a.1.1, (), (), (), (IntKind.i64.wrap (a.1.2.2.2.2.1 + 1)), ()), (a.2.1, a.2.2.1, a.2.2.2.1, ()))))))))
  else
  some (.inl ((a.1.1, (), (), (), (IntKind.i64.wrap (a.1.2.2.2.2.1 + 1)), ()), (a.2.1, a.2.2.1, a.2.2.2.1, ()))))
  else
  some (.inl ((a.1.1, (), (), (), (IntKind.i64.wrap (a.1.2.2.2.2.1 + 1)), ()), (a.2.1, a.2.2.1, a.2.2.2.1, ()))))))
  else
  (bif r2.1.2.1 then
  (bif (decide ((r4.1.1.epoch : Int) < r2.1.1.epoch)) then
  some (.inr (.inl ((false, ()), (a.2.1, a.2.2.1, a.2.2.2.1, ()))))
  else
  (bif r2.1.2.1 then
  (bif (decide ((r2.1.1.group : Int) ≠ r4.1.1.group)) then
  (bif (decide ((r4.1.1.group : Int) ≠ a.2.2.2.1.to_)) then
  some (.inr (.inl ((false, ()), (a.2.1, a.2.2.1, a.2.2.2.1, ()))))
  else
  (bif (decide ((r2.1.1.group : Int) ≠ a.2.2.2.1.from_)) then
  some (.inr (.inl ((false, ()), (a.2.1, a.2.2.1, a.2.2.2.1, ()))))
  else
  (bif (decide ((r4.1.1.epoch : Int) ≠ a.2.2.2.1.under)) then
  some (.inr (.inl ((false, ()), (a.2.1, a.2.2.1, a.2.2.2.1, ()))))
  else
  (getI a.1.1 a.1.2.2.2.2.1).bind fun e9 =>
  (bif (decide (e9 < a.2.2.2.1.span.lo)) then
  some (.inr (.inl ((false, ()), (a.2.1, a.2.2.1, a.2.2.2.1, ()))))
  else
  (bif (decide (a.2.2.2.1.span.hi ≠ ([] : List UInt8))) then
  (getI a.1.1 a.1.2.2.2.2.1).bind fun e10 =>
  (bif (!decide (e10 < a.2.2.2.1.span.hi)) then
  some (.inr (.inl ((false, ()), (a.2.1, a.2.2.1, a.2.2.2.1, ()))))
  else
  some (.inl ((a.1.1, (), (), (), (IntKind.i64.wrap (a.1.2.2.2.2.1 + 1)), ()), (a.2.1, a.2.2.1, a.2.2.2.1, ()))))
  else
  some (.inl ((a.1.1, (), (), (), (IntKind.i64.wrap (a.1.2.2.2.2.1 + 1)), ()), (a.2.1, a.2.2.1, a.2.2.2.1, ()))))))))
  else
  some (.inl ((a.1.1, (), (), (), (IntKind.i64.wrap (a.1.2.2.2.2.1 + 1)), ()), (a.2.1, a.2.2.1, a.2.2.2.1, ()))))
  else
  some (.inl ((a.1.1, (), (), (), (IntKind.i64.wrap (a.1.2.2.2.2.1 + 1)), ()), (a.2.1, a.2.2.1, a.2.2.2.1, ())))))
  else
  (bif r2.1.2.1 then
  (bif (decide ((r2.1.1.group : Int) ≠ r4.1.1.group)) then
  (bif (decide ((r4.1.1.group : Int) ≠ a.2.2.2.1.to_)) then
  some (.inr (.inl ((false, ()), (a.2.1, a.2.2.1, a.2.2.2.1, ()))))
  else
  (bif (decide ((r2.1.1.group : Int) ≠ a.2.2.2.1.from_)) then
  some (.inr (.inl ((false, ()), (a.2.1, a.2.2.1, a.2.2.2.1, ()))))
  else
  (bif (decide ((r4.1.1.epoch : Int) ≠ a.2.2.2.1.under)) then
  some (.inr (.inl ((false, ()), (a.2.1, a.2.2.1, a.2.2.2.1, ()))))
  else
  (getI a.1.1 a.1.2.2.2.2.1).bind fun e11 =>
  (bif (decide (e11 < a.2.2.2.1.span.lo)) then
  some (.inr (.inl ((false, ()), (a.2.1, a.2.2.1, a.2.2.2.1, ()))))
  else
  (bif (decide (a.2.2.2.1.span.hi ≠ ([] : List UInt8))) then
  (getI a.1.1 a.1.2.2.2.2.1).bind fun e12 =>
  (bif (!decide (e12 < a.2.2.2.1.span.hi)) then
  some (.inr (.inl ((false, ()), (a.2.1, a.2.2.1, a.2.2.2.1, ()))))
  else
  some (.inl ((a.1.1, (), (), (), (IntKind.i64.wrap (a.1.2.2.2.2.1 + 1)), ()), (a.2.1, a.2.2.1, a.2.2.2.1, ()))))
  else
  some (.inl ((a.1.1, (), (), (), (IntKind.i64.wrap (a.1.2.2.2.2.1 + 1)), ()), (a.2.1, a.2.2.1, a.2.2.2.1, ()))))))))
  else
  some (.inl ((a.1.1, (), (), (), (IntKind.i64.wrap (a.1.2.2.2.2.1 + 1)), ()), (a.2.1, a.2.2.1, a.2.2.2.1, ()))))
  else
  some (.inl ((a.1.1, (), (), (), (IntKind.i64.wrap (a.1.2.2.2.2.1 + 1)), ()), (a.2.1, a.2.2.1, a.2.2.2.1, ())))))))
  else
  some (.inr (.inr ((), (a.2.1, a.2.2.1, a.2.2.2.1, ())))))
def wl_turned_e1 : LEp := ⟨4, [4, 5, 6, 8, 11], [.one (.sl 2), .one (.ptr 0 0), .one (.ptr 1 0), .one (.ptr 2 0), .one (.int .i64)], [.cobj 29 15, .cobj 29 15, .cobj 71 20], [⟨.ret, [10], [.one (.bool)], [.cobj 29 15, .cobj 29 15, .cobj 71 20]⟩, ⟨.exit 0, [], [], [.cobj 29 15, .cobj 29 15, .cobj 71 20]⟩], wl_turned_l1⟩
def wl_turned_lt : List (LEp) := [wl_turned_e1]
theorem wl_turned_e1_ok : LeOk wl_turned_e1 (nthL (bodyOf Tryz.f44) 0) := fun A env h k z hk => le_ok (E := wl_turned_e1) (orcOf_ok wl_turned_tb) (dr := wl_turned_dr) (lps := lpsOf wl_turned_lt) (no_loop (by kernel_rfl)) (fun a => by kernel_rfl) env h k z hk
def wl_turned (x0 : DShares) (x1 : DShares) (x2 : DScheme) (x3 : DScheme) (x4 : List (List UInt8)) : Option (Bool × Unit) :=
  (bif (decide ((x2.stage : Int) = x3.stage)) then
  (wk_SameShares x0 x1).bind fun r1 =>
  some (r1.1, ())
  else
  (bif (decide ((x3.stage : Int) ≠ 4)) then
  (wk_SameShares x0 x1).bind fun r2 =>
  some (r2.1, ())
  else
  (loopM wl_turned_l1 ((x4, (), (), (), 0, ()), (x0, x1, x3, ()))).bind fun b3 =>
  (match b3 with
  | .inl b4 =>
  some (b4.1.1, ())
  | .inr b5 =>
  some (true, ()))))
def wl_turned_ce : CEp where
  f := 44
  args := [.cod 15, .cod 15, .cod 20, .cod 20, .one (.sl 2)]
  hs := []
  res := .val (.one (.bool))
  outs := []
  m := fun d dh => wl_turned d.1 d.2.1 d.2.2.1 d.2.2.2.1 d.2.2.2.2.1
  ok := ce_ok mixedP Tryz.func44 (by kernel_rfl) (orcOf_ok wl_turned_tb) (dr := wl_turned_dr) (lps := lpsOf wl_turned_lt) (lps_fn (lps_of (n := 1) (by kernel_rfl) fun i hi => match i, hi with | 0, _ => lp_ok (E := wl_turned_e1) (by kernel_rfl) wl_turned_e1_ok)) (fun d dh => by kernel_rfl)

def wk_SameBytes_dr : Nat → Nat → DrA
  | 6, _ => ⟨[0, 1, 2, 4, 5, 6, 3, 7, 8], [[], [], [0, 1], [0, 1, 2], [], [], [4, 5], [4, 5, 6], (List.range 8)], [], [], [], false, []⟩
  | _, _ => ⟨[], [], [], [], [], false, []⟩
def wk_SameBytes_tb : List (CEp) := []
def wk_SameBytes_l1 (a : (LB × LB × Int × Unit) × Unit) : Option (((LB × LB × Int × Unit) × Unit) ⊕ (((Bool × Unit) × Unit) ⊕ (Unit × Unit))) :=
  (bif (decide ((a.1.2.2.1 : Int) < (a.1.1.length : Int))) then
  (getI a.1.1 a.1.2.2.1).bind fun e1 =>
  (getI a.1.2.1 a.1.2.2.1).bind fun e2 =>
  (bif (decide (((e1.toNat : Int) : Int) ≠ (e2.toNat : Int))) then
  some (.inr (.inl ((false, ()), ())))
  else
  some (.inl ((a.1.1, a.1.2.1, (IntKind.i64.wrap (a.1.2.2.1 + 1)), ()), ())))
  else
  some (.inr (.inr ((), ()))))
def wk_SameBytes_e1 : LEp := ⟨4, [0, 1, 5], [.one (.sl 1), .one (.sl 1), .one (.int .i64)], [], [⟨.ret, [4], [.one (.bool)], []⟩, ⟨.exit 0, [], [], []⟩], wk_SameBytes_l1⟩
def wk_SameBytes_lt : List (LEp) := [wk_SameBytes_e1]
theorem wk_SameBytes_e1_ok : LeOk wk_SameBytes_e1 (nthL (bodyOf Tryz.f14) 0) := fun A env h k z hk => le_ok (E := wk_SameBytes_e1) (orcOf_ok wk_SameBytes_tb) (dr := wk_SameBytes_dr) (lps := lpsOf wk_SameBytes_lt) (no_loop (by kernel_rfl)) (fun a => by kernel_rfl) env h k z hk
def wk_SameBytes (x0 : LB) (x1 : LB) : Option (Bool × Unit) :=
  (bif (decide (((x0.length : Int) : Int) ≠ (x1.length : Int))) then
  some (false, ())
  else
  (loopM wk_SameBytes_l1 ((x0, x1, 0, ()), ())).bind fun b1 =>
  (match b1 with
  | .inl b2 =>
  some (b2.1.1, ())
  | .inr b3 =>
  some (true, ())))
def wk_SameBytes_ce : CEp where
  f := 14
  args := [.one (.sl 1), .one (.sl 1)]
  hs := []
  res := .val (.one (.bool))
  outs := []
  m := fun d dh => wk_SameBytes d.1 d.2.1
  ok := ce_ok mixedP Tryz.func14 (by kernel_rfl) (orcOf_ok wk_SameBytes_tb) (dr := wk_SameBytes_dr) (lps := lpsOf wk_SameBytes_lt) (lps_fn (lps_of (n := 1) (by kernel_rfl) fun i hi => match i, hi with | 0, _ => lp_ok (E := wk_SameBytes_e1) (by kernel_rfl) wk_SameBytes_e1_ok)) (fun d dh => by kernel_rfl)
end
end Go.Proofs.YtaihdjknneiciaaGreat
