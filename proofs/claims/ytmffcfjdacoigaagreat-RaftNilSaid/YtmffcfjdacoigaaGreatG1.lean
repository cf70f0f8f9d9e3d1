/- Models, by program. -/
import Derived.Test.YtmffcfjdacoigaaGreatRt
import Derived.Test.YtmffcfjdacoigaaGreatSl
import Derived.Test.YtmffcfjdacoigaaGreatGw
import Derived.Test.YtmffcfjdacoigaaGreatUn
import Derived.Test.YtmffcfjdacoigaaGreatOa
import Derived.Test.YtmffcfjdacoigaaGreatTw
import Derived.Test.YtmffcfjdacoigaaGreatWr
import Derived.Test.YtmffcfjdacoigaaGreatFx
import Derived.Test.YtmffcfjdacoigaaGreatSm
import Derived.Test.YtmffcfjdacoigaaGreatCl
import Derived.Test.YtmffcfjdacoigaaGreatFt
namespace Go.Proofs.YtmffcfjdacoigaaGreat
noncomputable section
open Go.RowKit
set_option maxRecDepth 100000
set_option linter.unusedVariables false
abbrev sh0 (a0 a1 : Nat) : List Cs := .int .i64 :: .int .i64 :: .int .i64 :: .int .u8 :: .int .i64 :: .int .i64 :: .int .i64 :: .int .i64 :: .int .i64 :: .ptr a0 0 :: .own 0 a1 :: .int .i64 :: .int .i64 :: .int .i64 :: .int .i64 :: .int .i64 :: .int .i64 :: .int .i64 :: .int .i64 :: .int .i64 :: .int .i64 :: .int .i64 :: .int .i64 :: .int .i64 :: .int .i64 :: .int .i64 :: .int .i64 :: .int .i64 :: .int .i64 :: .int .i64 :: .int .i64 :: .int .i64 :: .int .i64 :: .int .i64 :: .int .i64 :: .bool :: .int .i64 :: []
abbrev sh1 (a0 : Nat) : List Cs := .int .i64 :: .int .i64 :: .int .i64 :: .int .u8 :: .int .i64 :: .int .i64 :: .int .i64 :: .int .i64 :: .int .i64 :: .nilptr :: .own 0 a0 :: .int .i64 :: .int .i64 :: .int .i64 :: .int .i64 :: .int .i64 :: .int .i64 :: .int .i64 :: .int .i64 :: .int .i64 :: .int .i64 :: .int .i64 :: .int .i64 :: .int .i64 :: .int .i64 :: .int .i64 :: .int .i64 :: .int .i64 :: .int .i64 :: .int .i64 :: .int .i64 :: .int .i64 :: .int .i64 :: .int .i64 :: .int .i64 :: .bool :: .int .i64 :: []
theorem sortI_cells {N : Nat} {ρ : Nat → AV} : ∀ {xs : LI} {cells : List AV}, SVs CT N ρ (xs.flatMap (CT.enc 0)) cells → cells.map AV.val = xs.map (Value.int .i64)
  | [], cells, h => by rw [SVs_nil.1 h]; rfl
  | x :: xs, cells, h => by
    change SVs CT N ρ (.int .i64 x :: xs.flatMap (CT.enc 0)) cells at h
    obtain ⟨a, bs, rfl, h1, h2⟩ := h.to
    rw [sv_int.1 h1, List.map_cons, sortI_cells h2, AV.val_raw]
    rfl
theorem sortI_svs {N : Nat} {ρ : Nat → AV} : ∀ (xs : LI), SVs CT N ρ (xs.flatMap (CT.enc 0)) (xs.map fun d => AV.raw ((Value.int .i64) d))
  | [] => .none
  | x :: xs => by
    change SVs CT N ρ (.int .i64 x :: xs.flatMap (CT.enc 0)) (AV.raw ((Value.int .i64) x) :: xs.map fun d => AV.raw ((Value.int .i64) d))
    exact .cons (sv_int.2 rfl) (sortI_svs xs)
def sortI (x0 : Nat) (h0 : LI) : Option (Unit × (LI × Unit)) :=
  if x0 = h0.length ∧ h0.length < 4611686018427387904 then some ((), (h0.mergeSort (fun x y => decide (x ≤ y)), ())) else none
def sortI_ce : CEp where
  f := 135
  args := [.one (.asz 0 0)]
  hs := [.arr 3 0 true]
  res := .tup []
  outs := [.arr 3 0 true]
  m := fun d dh => sortI d.1 dh.1
  ok := fun d dh r hr => by
    obtain ⟨n, u⟩ := d
    obtain ⟨xs, u2⟩ := dh
    unfold sortI at hr
    split at hr
    · rename_i hc
      injection hr with hr
      subst hr
      obtain ⟨rfl, hc⟩ := hc
      dsimp only at hc
      exact sortedA_tr (Value.int .i64) xs xs (List.mergeSort (α := Int) xs fun x y => decide (x ≤ y)) true rfl rfl (fun N ρ cs h => sortI_cells h) (List.mergeSort (α := Int) xs fun x y => decide (x ≤ y)) (List.length_mergeSort (α := Int) xs) (fun N ρ => sortI_svs _) (by kernel_rfl) rfl (fun h => by subst h; exact List.mergeSort_nil)
        (fun blk cap w h1 h2 => Tryz.slices_Sort_int blk 0 cap xs w h1 h2 hc) (fun p cap w => Tryz.slices_Sort_int_none p cap w)
    · cases hr

def growN176 (n : Int) : Option (Nat × (LI × Unit)) := if 0 ≤ n ∧ n ≤ 140737488355328 ∧ n * ((8 : Nat) : Int) ≤ 140737488355328 then some (0, ([], ())) else none
def growN176_ce : CEp where
  f := 176
  args := [.one .nil, .one (.int .i64)]
  hs := []
  res := .val (.one (.asz 0 0))
  outs := [.arr 3 0 false]
  m := fun d dh => growN176 d.2.1
  ok := fun d dh r hr => by
    unfold growN176 at hr
    split at hr
    · rename_i hn
      injection hr with hr
      subst hr
      exact growNil_tr Tryz.growLay176 rfl rfl (zv := .int .i64 0) false (hsz := by kernel_rfl) (hz := by kernel_rfl) (hby := by kernel_rfl) rfl rfl rfl (by kernel_rfl) d.2.1 hn.1 hn.2.1 hn.2.2
    · cases hr

def clone81 (x : LI) : Option (LI × (Unit × Unit)) :=
  if x.length ≤ 140737488355328 ∧ x.length * 8 ≤ 140737488355328 then some (x, ((), ())) else none
def clone81_ce : CEp where
  f := 81
  args := [.one (.sl 0)]
  hs := []
  res := .val (.one (.own 0 0))
  outs := [.row 3 1]
  m := fun d dh => clone81 d.1
  ok := fun d dh r hr => by
    unfold clone81 at hr
    split at hr
    · rename_i hroom
      injection hr with hr
      subst hr
      exact clone_tr mixedP Tryz.func81 (by kernel_rfl) rfl rfl (zv := .int .i64 0) (he := by kernel_rfl) (hsz := by kernel_rfl) (hz := by kernel_rfl) (hby := by kernel_rfl) rfl rfl d.1 hroom
    · cases hr

def log_ownConfig_dr : Nat → Nat → DrA
  | 1, _ => ⟨[0, 3, 6, 9, 1, 4, 7, 10, 2, 5, 8, 11, 12, 13], [[], [0], [0, 1], [], [3], (List.range 5), [], [6], (List.range 8), [], [9], (List.range 11), (List.range 12), (List.range 13)], [4, 7, 10], [2, 5, 8], [0], false, []⟩
  | _, _ => ⟨[], [], [], [], [], false, []⟩
def log_ownConfig_tb : List (CEp) := [clone81_ce]
def log_ownConfig (x0 : DConfig) : Option ((DConfig) × Unit) :=
  (clone81 x0.voters).bind fun r1 =>
  (clone81 x0.old).bind fun r2 =>
  (clone81 x0.learners).bind fun r3 =>
  (clone81 x0.want).bind fun r4 =>
  some ((⟨r1.1, r2.1, r3.1, r4.1⟩ : DConfig), ())
def log_ownConfig_ce : CEp where
  f := 90
  args := [.cod 7]
  hs := []
  res := .val (.cod 7)
  outs := []
  m := fun d dh => log_ownConfig d.1
  ok := ce_ok mixedP Tryz.func90 (by kernel_rfl) (orcOf_ok log_ownConfig_tb) (dr := log_ownConfig_dr) (lps := lpsOf lt0) (lps_fn (no_loop (by kernel_rfl))) (fun d dh => by kernel_rfl)

def log_ownBase_tb : List (CEp) := [log_ownConfig_ce]
def log_ownBase (x0 : DBase) : Option ((DBase) × Unit) :=
  (log_ownConfig x0.config).bind fun r1 =>
  some ((⟨x0.index, x0.term_, r1.1⟩ : DBase), ())
def log_ownBase_ce : CEp where
  f := 66
  args := [.cod 10]
  hs := []
  res := .val (.cod 10)
  outs := []
  m := fun d dh => log_ownBase d.1
  ok := ceO Tryz.func66 (by kernel_rfl) log_ownBase_tb (by kernel_rfl) fun d dh => by kernel_rfl

def log_New_tb : List (CEp) := [log_ownBase_ce]
def log_New (x0 : DBase) : Option (Unit × ((Int × Int × LI × LI × LI × LI × Bool × (List (DEntry)) × Unit) × Unit × Unit)) :=
  (log_ownBase x0).bind fun r1 =>
  some ((), (((if (r1.1.index : Int) < 0 then 0 else r1.1.index), (if (r1.1.term_ : Int) < 0 then 0 else r1.1.term_), r1.1.config.voters, r1.1.config.old, r1.1.config.learners, r1.1.config.want, true, [], ()), (), ()))
def log_New_ce : CEp where
  f := 25
  args := [.cod 10]
  hs := []
  res := .val (.one (.ptr 0 0))
  outs := [.obj 79 [.int .i64, .int .i64, .sl 0, .sl 0, .sl 0, .sl 0, .bool, .own 8 1], .row 83 7]
  m := fun d dh => log_New d.1
  ok := ceO Tryz.func25 (by kernel_rfl) log_New_tb (by kernel_rfl) fun d dh => by kernel_rfl

def raft_within1_tb : List (CEp) := []
def raft_within1 (x0 : Int) (h0 : Int) (h1 : Int) : Option (Bool × (Int × Int × Unit)) :=
  (bif (decide ((x0 : Int) < h0)) then
  some (true, (h0, h1, ()))
  else
  some ((decide ((h1 : Int) < x0)), (h0, h1, ())))
def raft_within1_ce : CEp where
  f := 92
  args := [.one (.int .i64), .one (.ptr 0 0), .one (.ptr 1 0)]
  hs := [.cobj 3 0, .cobj 3 0]
  res := .val (.one (.bool))
  outs := [.cobj 3 0, .cobj 3 0]
  m := fun d dh => raft_within1 d.1 dh.1 dh.2.1
  ok := ceO Tryz.func92 (by kernel_rfl) raft_within1_tb (by kernel_rfl) fun d dh => by kernel_rfl

def slices_IndexFunc_tb : List (CEp) := [raft_within1_ce]
def slices_IndexFunc_l1 (a : (LI × Unit × Int × Int × Unit) × (Int × Int × Unit)) : Option (((LI × Unit × Int × Int × Unit) × (Int × Int × Unit)) ⊕ (((Int × Unit) × (Int × Int × Unit)) ⊕ (Unit × (Int × Int × Unit)))) :=
  (bif (decide ((a.1.2.2.2.1 : Int) < a.1.2.2.1)) then
  (getI a.1.1 a.1.2.2.2.1).bind fun e1 =>
  (raft_within1 e1 a.2.1 a.2.2.1).bind fun r2 =>
  (bif r2.1 then
  some (.inr (.inl ((a.1.2.2.2.1, ()), (r2.2.1, r2.2.2.1, ()))))
  else
  some (.inl ((a.1.1, (), a.1.2.2.1, (IntKind.i64.wrap (a.1.2.2.2.1 + 1)), ()), (r2.2.1, r2.2.2.1, ()))))
  else
  some (.inr (.inr ((), (a.2.1, a.2.2.1, ())))))
def slices_IndexFunc_e1 : LEp := ⟨2, [0, 1, 7, 8], [.one (.sl 0), .one (.clo 92 [0, 1]), .one (.int .i64), .one (.int .i64)], [.cobj 3 0, .cobj 3 0], [⟨.ret, [4], [.one (.int .i64)], [.cobj 3 0, .cobj 3 0]⟩, ⟨.exit 0, [], [], [.cobj 3 0, .cobj 3 0]⟩], slices_IndexFunc_l1⟩
def slices_IndexFunc_lt : List (LEp) := [slices_IndexFunc_e1]
theorem slices_IndexFunc_e1_ok : LeOk slices_IndexFunc_e1 (nthL (bodyOf Tryz.f142) 0) := fun A env h k z hk => le_ok (E := slices_IndexFunc_e1) (orcOf_ok slices_IndexFunc_tb) (dr := dr0) (lps := lpsOf slices_IndexFunc_lt) (no_loop (by kernel_rfl)) (fun a => by kernel_rfl) env h k z hk
def slices_IndexFunc (x0 : LI) (h0 : Int) (h1 : Int) : Option (Int × (Int × Int × Unit)) :=
  (loopM slices_IndexFunc_l1 ((x0, (), (x0.length : Int), 0, ()), (h0, h1, ()))).bind fun b1 =>
  (match b1 with
  | .inl b2 =>
  some (b2.1.1, (b2.2.1, b2.2.2.1, ()))
  | .inr b3 =>
  some ((-1), (b3.2.1, b3.2.2.1, ())))
def slices_IndexFunc_ce : CEp where
  f := 142
  args := [.one (.sl 0), .one (.clo 92 [0, 1])]
  hs := [.cobj 3 0, .cobj 3 0]
  res := .val (.one (.int .i64))
  outs := [.cobj 3 0, .cobj 3 0]
  m := fun d dh => slices_IndexFunc d.1 dh.1 dh.2.1
  ok := ce_ok mixedP Tryz.func142 (by kernel_rfl) (orcOf_ok slices_IndexFunc_tb) (dr := dr0) (lps := lpsOf slices_IndexFunc_lt) (lps_fn (lps_of (n := 1) (by kernel_rfl) fun i hi => match i, hi with | 0, _ => lp_ok (E := slices_IndexFunc_e1) (by kernel_rfl) slices_IndexFunc_e1_ok)) (fun d dh => by kernel_rfl)

def slices_ContainsFunc_tb : List (CEp) := [slices_IndexFunc_ce]
def slices_ContainsFunc (x0 : LI) (h0 : Int) (h1 : Int) : Option (Bool × (Int × Int × Unit)) :=
  (slices_IndexFunc x0 h0 h1).bind fun r1 =>
  some ((decide ((0 : Int) ≤ r1.1)), (r1.2.1, r1.2.2.1, ()))
def slices_ContainsFunc_ce : CEp where
  f := 91
  args := [.one (.sl 0), .one (.clo 92 [0, 1])]
  hs := [.cobj 3 0, .cobj 3 0]
  res := .val (.one (.bool))
  outs := [.cobj 3 0, .cobj 3 0]
  m := fun d dh => slices_ContainsFunc d.1 dh.1 dh.2.1
  ok := ceO Tryz.func91 (by kernel_rfl) slices_ContainsFunc_tb (by kernel_rfl) fun d dh => by kernel_rfl

def raft_within_tb : List (CEp) := [slices_ContainsFunc_ce]
def raft_within (x0 : Int) (x1 : Int) (x2 : LI) : Option (Bool × Unit) :=
  (slices_ContainsFunc x2 x0 x1).bind fun r1 =>
  some ((!r1.1), ())
def raft_within_ce : CEp where
  f := 47
  args := [.one (.int .i64), .one (.int .i64), .one (.sl 0)]
  hs := []
  res := .val (.one (.bool))
  outs := []
  m := fun d dh => raft_within d.1 d.2.1 d.2.2.1
  ok := ceO Tryz.func47 (by kernel_rfl) raft_within_tb (by kernel_rfl) fun d dh => by kernel_rfl

def log_there_w_tb : List (CEp) := []
def log_there_w_r (h0 : Int × Int × LI × LI × LI × LI × Bool × (List (DEntry)) × Unit) : Option Bool :=
  some h0.2.2.2.2.2.2.1
theorem log_there_w_tr : ∀ (d : VsD Ty [.one (.ptr 0 0)]) (dh : HsD Ty [.obj 79 [.int .i64, .int .i64, .sl 0, .sl 0, .sl 0, .sl 0, .bool, .own 8 1], .row 83 7]) r, log_there_w_r dh.1 = some r → Tr CT Tryz.prog (fun _ => False) 40 (stVs CT [.one (.ptr 0 0)] d) (stHs CT [.obj 79 [.int .i64, .int .i64, .sl 0, .sl 0, .sl 0, .sl 0, .bool, .own 8 1], .row 83 7] dh) ((.val (.one (.bool)) : Rs).st CT r) (stHs CT [.obj 79 [.int .i64, .int .i64, .sl 0, .sl 0, .sl 0, .sl 0, .bool, .own 8 1], .row 83 7] dh) :=
  ro_ok (res := .val (.one (.bool))) (dr := dr0) mixedP Tryz.func40 (by kernel_rfl) (orcOf_ok log_there_w_tb) (fun d dh => by kernel_rfl) (fun d => rfl)
def log_there_w (h0 : Int × Int × LI × LI × LI × LI × Bool × (List (DEntry)) × Unit) : Option (Bool × ((Int × Int × LI × LI × LI × LI × Bool × (List (DEntry)) × Unit) × Unit × Unit)) := (log_there_w_r h0).bind fun r => some (r, (h0, (), ()))
def log_there_w_ce : CEp where
  f := 40
  args := [.one (.ptr 0 0)]
  hs := [.obj 79 [.int .i64, .int .i64, .sl 0, .sl 0, .sl 0, .sl 0, .bool, .own 8 1], .row 83 7]
  res := .val (.one (.bool))
  outs := [.obj 79 [.int .i64, .int .i64, .sl 0, .sl 0, .sl 0, .sl 0, .bool, .own 8 1], .row 83 7]
  m := fun d dh => log_there_w dh.1
  ok := fun d dh r hr => by
    unfold log_there_w at hr
    obtain ⟨g, h1, h2⟩ := bind_some' hr
    injection h2 with h2
    subst h2
    exact (log_there_w_tr d dh g h1).moreU
  ro := true
  roOk := fun _ d dh r hr => by
    unfold log_there_w at hr
    obtain ⟨g, h1, h2⟩ := bind_some' hr
    injection h2 with h2
    subst h2
    exact log_there_w_tr d dh g h1

def log_Base_tb : List (CEp) := [log_there_w_ce, log_ownBase_ce]
def log_Base (h0 : Int × Int × LI × LI × LI × LI × Bool × (List (DEntry)) × Unit) : Option ((DBase) × ((Int × Int × LI × LI × LI × LI × Bool × (List (DEntry)) × Unit) × Unit × Unit × Unit)) :=
  (log_there_w h0).bind fun r1 =>
  (bif (!r1.1) then
  some ((⟨0, 0, (⟨[], [], [], []⟩ : DConfig)⟩ : DBase), (r1.2.1, (), (), ()))
  else
  (log_ownBase (⟨r1.2.1.1, r1.2.1.2.1, (⟨r1.2.1.2.2.1, r1.2.1.2.2.2.1, r1.2.1.2.2.2.2.1, r1.2.1.2.2.2.2.2.1⟩ : DConfig)⟩ : DBase)).bind fun r2 =>
  some (r2.1, (r1.2.1, (), (), ())))
def log_Base_ce : CEp where
  f := 61
  args := [.one (.ptr 0 0)]
  hs := [.obj 79 [.int .i64, .int .i64, .sl 0, .sl 0, .sl 0, .sl 0, .bool, .own 8 1], .row 83 7]
  res := .val (.cod 10)
  outs := [.obj 79 [.int .i64, .int .i64, .sl 0, .sl 0, .sl 0, .sl 0, .bool, .own 8 2], .dead, .row 83 7]
  m := fun d dh => log_Base dh.1
  ok := ceO Tryz.func61 (by kernel_rfl) log_Base_tb (by kernel_rfl) fun d dh => by kernel_rfl

def log_Last_w_dr : Nat → Nat → DrA
  | 3, _ => ⟨(List.range 5 ++ [6, 7, 8, 5, 9, 10, 11, 12]), [[], [0], [0, 1], [0, 1, 2], [0, 1, 2, 3], (List.range 5), [], [6], [6, 7], [6, 7, 8], [6, 7, 8, 9], (List.range 11), (List.range 12)], [], [], [], false, []⟩
  | _, _ => ⟨[], [], [], [], [], false, []⟩
def log_Last_w_tb : List (CEp) := [log_there_w_ce]
def log_Last_w_r (h0 : Int × Int × LI × LI × LI × LI × Bool × (List (DEntry)) × Unit) : Option Int :=
  (log_there_w h0).bind fun r1 =>
  (bif (!r1.1) then
  some 0
  else
  some (IntKind.i64.wrap (r1.2.1.1 + (r1.2.1.2.2.2.2.2.2.2.1.length : Int))))
theorem log_Last_w_tr : ∀ (d : VsD Ty [.one (.ptr 0 0)]) (dh : HsD Ty [.obj 79 [.int .i64, .int .i64, .sl 0, .sl 0, .sl 0, .sl 0, .bool, .own 8 1], .row 83 7]) r, log_Last_w_r dh.1 = some r → Tr CT Tryz.prog (fun _ => False) 42 (stVs CT [.one (.ptr 0 0)] d) (stHs CT [.obj 79 [.int .i64, .int .i64, .sl 0, .sl 0, .sl 0, .sl 0, .bool, .own 8 1], .row 83 7] dh) ((.val (.one (.int .i64)) : Rs).st CT r) (stHs CT [.obj 79 [.int .i64, .int .i64, .sl 0, .sl 0, .sl 0, .sl 0, .bool, .own 8 1], .row 83 7] dh) :=
  ro_ok (res := .val (.one (.int .i64))) (dr := log_Last_w_dr) mixedP Tryz.func42 (by kernel_rfl) (orcOf_ok log_Last_w_tb) (fun d dh => by kernel_rfl) (fun d => rfl)
def log_Last_w (h0 : Int × Int × LI × LI × LI × LI × Bool × (List (DEntry)) × Unit) : Option (Int × ((Int × Int × LI × LI × LI × LI × Bool × (List (DEntry)) × Unit) × Unit × Unit)) := (log_Last_w_r h0).bind fun r => some (r, (h0, (), ()))
def log_Last_w_ce : CEp where
  f := 42
  args := [.one (.ptr 0 0)]
  hs := [.obj 79 [.int .i64, .int .i64, .sl 0, .sl 0, .sl 0, .sl 0, .bool, .own 8 1], .row 83 7]
  res := .val (.one (.int .i64))
  outs := [.obj 79 [.int .i64, .int .i64, .sl 0, .sl 0, .sl 0, .sl 0, .bool, .own 8 1], .row 83 7]
  m := fun d dh => log_Last_w dh.1
  ok := fun d dh r hr => by
    unfold log_Last_w at hr
    obtain ⟨g, h1, h2⟩ := bind_some' hr
    injection h2 with h2
    subst h2
    exact (log_Last_w_tr d dh g h1).moreU
  ro := true
  roOk := fun _ d dh r hr => by
    unfold log_Last_w at hr
    obtain ⟨g, h1, h2⟩ := bind_some' hr
    injection h2 with h2
    subst h2
    exact log_Last_w_tr d dh g h1

def log_place_w_tb : List (CEp) := [log_there_w_ce, log_Last_w_ce]
def log_place_w_r (x1 : Int) (h0 : Int × Int × LI × LI × LI × LI × Bool × (List (DEntry)) × Unit) : Option (Int × Bool × Unit) :=
  (log_there_w h0).bind fun r1 =>
  (bif (!r1.1) then
  some (0, false, ())
  else
  (bif (decide ((x1 : Int) ≤ r1.2.1.1)) then
  some (0, false, ())
  else
  (log_Last_w r1.2.1).bind fun r2 =>
  (bif (decide ((r2.1 : Int) < x1)) then
  some (0, false, ())
  else
  some ((IntKind.i64.wrap ((IntKind.i64.wrap (x1 - r2.2.1.1)) - 1)), true, ()))))
theorem log_place_w_tr : ∀ (d : VsD Ty [.one (.ptr 0 0), .one (.int .i64)]) (dh : HsD Ty [.obj 79 [.int .i64, .int .i64, .sl 0, .sl 0, .sl 0, .sl 0, .bool, .own 8 1], .row 83 7]) r, log_place_w_r d.2.1 dh.1 = some r → Tr CT Tryz.prog (fun _ => False) 89 (stVs CT [.one (.ptr 0 0), .one (.int .i64)] d) (stHs CT [.obj 79 [.int .i64, .int .i64, .sl 0, .sl 0, .sl 0, .sl 0, .bool, .own 8 1], .row 83 7] dh) ((.tup [.one (.int .i64), .one (.bool)] : Rs).st CT r) (stHs CT [.obj 79 [.int .i64, .int .i64, .sl 0, .sl 0, .sl 0, .sl 0, .bool, .own 8 1], .row 83 7] dh) :=
  ro_ok (res := .tup [.one (.int .i64), .one (.bool)]) (dr := dr0) mixedP Tryz.func89 (by kernel_rfl) (orcOf_ok log_place_w_tb) (fun d dh => by kernel_rfl) (fun d => rfl)
def log_place_w (x1 : Int) (h0 : Int × Int × LI × LI × LI × LI × Bool × (List (DEntry)) × Unit) : Option ((Int × Bool × Unit) × ((Int × Int × LI × LI × LI × LI × Bool × (List (DEntry)) × Unit) × Unit × Unit)) := (log_place_w_r x1 h0).bind fun r => some (r, (h0, (), ()))
def log_place_w_ce : CEp where
  f := 89
  args := [.one (.ptr 0 0), .one (.int .i64)]
  hs := [.obj 79 [.int .i64, .int .i64, .sl 0, .sl 0, .sl 0, .sl 0, .bool, .own 8 1], .row 83 7]
  res := .tup [.one (.int .i64), .one (.bool)]
  outs := [.obj 79 [.int .i64, .int .i64, .sl 0, .sl 0, .sl 0, .sl 0, .bool, .own 8 1], .row 83 7]
  m := fun d dh => log_place_w d.2.1 dh.1
  ok := fun d dh r hr => by
    unfold log_place_w at hr
    obtain ⟨g, h1, h2⟩ := bind_some' hr
    injection h2 with h2
    subst h2
    exact (log_place_w_tr d dh g h1).moreU
  ro := true
  roOk := fun _ d dh r hr => by
    unfold log_place_w at hr
    obtain ⟨g, h1, h2⟩ := bind_some' hr
    injection h2 with h2
    subst h2
    exact log_place_w_tr d dh g h1

def log_Term_w_tb : List (CEp) := [log_place_w_ce, log_there_w_ce]
def log_Term_w_r (x1 : Int) (h0 : Int × Int × LI × LI × LI × LI × Bool × (List (DEntry)) × Unit) : Option (Int × Bool × Unit) :=
  (log_place_w x1 h0).bind fun r1 =>
  (bif r1.1.2.1 then
  (getI r1.2.1.2.2.2.2.2.2.2.1 r1.1.1).bind fun e2 =>
  some (e2.term_, true, ())
  else
  (log_there_w r1.2.1).bind fun r3 =>
  (bif r3.1 then
  (bif (decide ((x1 : Int) = r3.2.1.1)) then
  some (r3.2.1.2.1, true, ())
  else
  some (0, false, ()))
  else
  some (0, false, ())))
theorem log_Term_w_tr : ∀ (d : VsD Ty [.one (.ptr 0 0), .one (.int .i64)]) (dh : HsD Ty [.obj 79 [.int .i64, .int .i64, .sl 0, .sl 0, .sl 0, .sl 0, .bool, .own 8 1], .row 83 7]) r, log_Term_w_r d.2.1 dh.1 = some r → Tr CT Tryz.prog (fun _ => False) 60 (stVs CT [.one (.ptr 0 0), .one (.int .i64)] d) (stHs CT [.obj 79 [.int .i64, .int .i64, .sl 0, .sl 0, .sl 0, .sl 0, .bool, .own 8 1], .row 83 7] dh) ((.tup [.one (.int .i64), .one (.bool)] : Rs).st CT r) (stHs CT [.obj 79 [.int .i64, .int .i64, .sl 0, .sl 0, .sl 0, .sl 0, .bool, .own 8 1], .row 83 7] dh) :=
  ro_ok (res := .tup [.one (.int .i64), .one (.bool)]) (dr := dr0) mixedP Tryz.func60 (by kernel_rfl) (orcOf_ok log_Term_w_tb) (fun d dh => by kernel_rfl) (fun d => rfl)
def log_Term_w (x1 : Int) (h0 : Int × Int × LI × LI × LI × LI × Bool × (List (DEntry)) × Unit) : Option ((Int × Bool × Unit) × ((Int × Int × LI × LI × LI × LI × Bool × (List (DEntry)) × Unit) × Unit × Unit)) := (log_Term_w_r x1 h0).bind fun r => some (r, (h0, (), ()))
def log_Term_w_ce : CEp where
  f := 60
  args := [.one (.ptr 0 0), .one (.int .i64)]
  hs := [.obj 79 [.int .i64, .int .i64, .sl 0, .sl 0, .sl 0, .sl 0, .bool, .own 8 1], .row 83 7]
  res := .tup [.one (.int .i64), .one (.bool)]
  outs := [.obj 79 [.int .i64, .int .i64, .sl 0, .sl 0, .sl 0, .sl 0, .bool, .own 8 1], .row 83 7]
  m := fun d dh => log_Term_w d.2.1 dh.1
  ok := fun d dh r hr => by
    unfold log_Term_w at hr
    obtain ⟨g, h1, h2⟩ := bind_some' hr
    injection h2 with h2
    subst h2
    exact (log_Term_w_tr d dh g h1).moreU
  ro := true
  roOk := fun _ d dh r hr => by
    unfold log_Term_w at hr
    obtain ⟨g, h1, h2⟩ := bind_some' hr
    injection h2 with h2
    subst h2
    exact log_Term_w_tr d dh g h1

def raft_New_tb : List (CEp) := [raft_within_ce, log_Base_ce, log_Term_w_ce]
def raft_New (x0 : Int) (x1 : Int) (x2 : Int) (h0 : Int × Int × LI × LI × LI × LI × Bool × (List (DEntry)) × Unit) : Option (Unit × ((Int × Int × LI × LI × LI × LI × Bool × (List (DEntry)) × Unit) × Unit × (Int × Int × Int × Int × Int × Int × Int × Int × Int × Unit × LI × Int × Int × Int × Int × Int × Int × Int × Int × Int × Int × Int × Int × Int × Int × Int × Int × Int × Int × Int × Int × Int × Int × Int × Int × Bool × Int × Unit) × Unit × Unit × Unit)) :=
  (raft_within 1 5 ([x0] : LI)).bind fun r1 =>
  (bif (!r1.1) then
  none
  else
  (raft_within 0 1073741824 ([x1] : LI)).bind fun r2 =>
  (bif (!r2.1) then
  none
  else
  (raft_within 0 5 ([x2] : LI)).bind fun r3 =>
  (bif (!r3.1) then
  none
  else
  (log_Base h0).bind fun r4 =>
  (log_Term_w r4.1.index r4.2.1).bind fun r5 =>
  (bif (!r5.1.2.1) then
  none
  else
  (log_Base r5.2.1).bind fun r6 =>
  some ((), (r6.2.1, (), (x0, x1, x2, 1, 0, r6.1.index, 0, 10, 10, (), [], 0, 0, 0, 0, 0, 0, 0, 0, 0, 0, 0, 0, 0, 0, 0, 0, 0, 0, 0, 0, 0, 0, 0, 0, false, 0, ()), (), (), ()))))))
def raft_New_ce : CEp where
  f := 23
  args := [.one (.int .i64), .one (.int .i64), .one (.int .i64), .one (.ptr 0 0)]
  hs := [.obj 79 [.int .i64, .int .i64, .sl 0, .sl 0, .sl 0, .sl 0, .bool, .own 8 1], .row 83 7]
  res := .val (.one (.ptr 2 0))
  outs := [.obj 79 [.int .i64, .int .i64, .sl 0, .sl 0, .sl 0, .sl 0, .bool, .own 8 3], .dead, .obj 67 (sh0 0 4), .row 83 7, .row 3 1]
  m := fun d dh => raft_New d.1 d.2.1 d.2.2.1 dh.1
  ok := ceO Tryz.func23 (by kernel_rfl) raft_New_tb (by kernel_rfl) fun d dh => by kernel_rfl

def raft_there_tb : List (CEp) := []
def raft_there (h0 : Int × Int × Int × Int × Int × Int × Int × Int × Int × Unit × LI × Int × Int × Int × Int × Int × Int × Int × Int × Int × Int × Int × Int × Int × Int × Int × Int × Int × Int × Int × Int × Int × Int × Int × Int × Bool × Int × Unit) (h1 : Int × Int × LI × LI × LI × LI × Bool × (List (DEntry)) × Unit) : Option (Bool × ((Int × Int × Int × Int × Int × Int × Int × Int × Int × Unit × LI × Int × Int × Int × Int × Int × Int × Int × Int × Int × Int × Int × Int × Int × Int × Int × Int × Int × Int × Int × Int × Int × Int × Int × Int × Bool × Int × Unit) × (Int × Int × LI × LI × LI × LI × Bool × (List (DEntry)) × Unit) × Unit × Unit × Unit × Unit × Unit)) :=
  some (true, (h0, h1, (), (), (), (), ()))
def raft_there_ce : CEp where
  f := 29
  args := [.one (.ptr 0 0)]
  hs := [.obj 67 (sh0 1 2), .obj 79 [.int .i64, .int .i64, .sl 0, .sl 0, .sl 0, .sl 0, .bool, .own 8 3], .row 3 1, .row 83 7]
  res := .val (.one (.bool))
  outs := [.obj 67 (sh0 1 4), .obj 79 [.int .i64, .int .i64, .sl 0, .sl 0, .sl 0, .sl 0, .bool, .own 8 5], .dead, .dead, .row 3 1, .row 83 7]
  m := fun d dh => raft_there dh.1 dh.2.1
  ok := ceO Tryz.func29 (by kernel_rfl) raft_there_tb (by kernel_rfl) fun d dh => by kernel_rfl

def log_force_dr : Nat → Nat → DrA
  | 7, _ => ⟨(List.range 5 ++ [7, 8, 9, 10, 11, 5, 12, 6, 13, 14]), [[], [0], [0, 1], [0, 1, 2], [0, 1, 2, 3], (List.range 5), (List.range 6), [], [7], [7, 8], [7, 8, 9], [7, 8, 9, 10], [7, 8, 9, 10, 11], (List.range 7), (List.range 14)], [12], [6, 13], [0], false, []⟩
  | _, _ => ⟨[], [], [], [], [], false, []⟩
def log_force_tb : List (CEp) := [log_place_w_ce, log_ownConfig_ce]
def log_force_l1 (a : (Unit × Unit × Int × Unit) × ((Int × Int × LI × LI × LI × LI × Bool × (List (DEntry)) × Unit) × (LI × LI × LI × LI × Unit) × Unit × Unit × Unit × Unit × Unit × Unit)) : Option (((Unit × Unit × Int × Unit) × ((Int × Int × LI × LI × LI × LI × Bool × (List (DEntry)) × Unit) × (LI × LI × LI × LI × Unit) × Unit × Unit × Unit × Unit × Unit × Unit)) ⊕ (((Unit × Int × Unit) × ((Int × Int × LI × LI × LI × LI × Bool × (List (DEntry)) × Unit) × (DConfig) × Unit × Unit × Unit × Unit × Unit × Unit × Unit)) ⊕ ((Unit × Unit × Unit) × ((Int × Int × LI × LI × LI × LI × Bool × (List (DEntry)) × Unit) × (LI × LI × LI × LI × Unit) × Unit × Unit × Unit × Unit × Unit × Unit × Unit × Unit × Unit × Unit × Unit)))) :=
  (bif (decide ((a.2.1.1 : Int) < a.1.2.2.1)) then
  (log_place_w a.1.2.2.1 a.2.1).bind fun r1 =>
  (bif r1.1.2.1 then
  (getI r1.2.1.2.2.2.2.2.2.2.1 r1.1.1).bind fun e2 =>
  (bif (decide ((e2.kind : Int) = 3)) then
  (getI r1.2.1.2.2.2.2.2.2.2.1 r1.1.1).bind fun e3 =>
  (log_ownConfig e3.config).bind fun r4 =>
  some (.inr (.inl (((), a.1.2.2.1, ()), (r1.2.1, r4.1, (), (), (), (), (), (), ()))))
  else
  some (.inl (((), (), (IntKind.i64.wrap (a.1.2.2.1 - 1)), ()), (r1.2.1, a.2.2.1, (), (), (), (), (), ()))))
  else
  some (.inl (((), (), (IntKind.i64.wrap (a.1.2.2.1 - 1)), ()), (r1.2.1, a.2.2.1, (), (), (), (), (), ()))))
  else
  some (.inr (.inr (((), (), ()), (a.2.1, a.2.2.1, (), (), (), (), (), (), (), (), (), (), ())))))
def log_force_e1 : LEp := ⟨2, [0, 4, 6], [.one (.ptr 0 0), .one (.ptr 1 0), .one (.int .i64)], [.obj 79 [.int .i64, .int .i64, .sl 0, .sl 0, .sl 0, .sl 0, .bool, .own 8 2], .obj 42 [.own 0 3, .own 0 4, .own 0 5, .own 0 6], .row 83 7, .row 3 1, .row 3 1, .row 3 1, .row 3 1], [⟨.ret, [4, 5], [.one (.ptr 1 0), .one (.int .i64)], [.obj 79 [.int .i64, .int .i64, .sl 0, .sl 0, .sl 0, .sl 0, .bool, .own 8 7], .cobj 42 7, .dead, .dead, .dead, .dead, .dead, .row 83 7]⟩, ⟨.exit 0, [0, 4], [.one (.ptr 0 0), .one (.ptr 1 0)], [.obj 79 [.int .i64, .int .i64, .sl 0, .sl 0, .sl 0, .sl 0, .bool, .own 8 7], .obj 42 [.own 0 8, .own 0 9, .own 0 10, .own 0 11], .dead, .dead, .dead, .dead, .dead, .row 83 7, .row 3 1, .row 3 1, .row 3 1, .row 3 1]⟩], log_force_l1⟩
def log_force_lt : List (LEp) := [log_force_e1]
theorem log_force_e1_ok : LeOk log_force_e1 (nthL (bodyOf Tryz.f41) 0) := fun A env h k z hk => le_ok (E := log_force_e1) (orcOf_ok log_force_tb) (dr := log_force_dr) (lps := lpsOf log_force_lt) (no_loop (by kernel_rfl)) (fun a => by kernel_rfl) env h k z hk
def log_force (x1 : Int) (h0 : Int × Int × LI × LI × LI × LI × Bool × (List (DEntry)) × Unit) : Option (((DConfig) × Int × Unit) × ((Int × Int × LI × LI × LI × LI × Bool × (List (DEntry)) × Unit) × Unit × Unit × Unit)) :=
  (loopM log_force_l1 (((), (), x1, ()), (h0, ([], [], [], [], ()), (), (), (), (), (), ()))).bind fun b1 =>
  (match b1 with
  | .inl b2 =>
  some ((b2.2.2.1, b2.1.2.1, ()), (b2.2.1, (), (), ()))
  | .inr b3 =>
  (log_ownConfig (⟨b3.2.1.2.2.1, b3.2.1.2.2.2.1, b3.2.1.2.2.2.2.1, b3.2.1.2.2.2.2.2.1⟩ : DConfig)).bind fun r4 =>
  some ((r4.1, b3.2.1.1, ()), (b3.2.1, (), (), ())))
def log_force_ce : CEp where
  f := 41
  args := [.one (.ptr 0 0), .one (.int .i64)]
  hs := [.obj 79 [.int .i64, .int .i64, .sl 0, .sl 0, .sl 0, .sl 0, .bool, .own 8 1], .row 83 7]
  res := .tup [.cod 7, .one (.int .i64)]
  outs := [.obj 79 [.int .i64, .int .i64, .sl 0, .sl 0, .sl 0, .sl 0, .bool, .own 8 2], .dead, .row 83 7]
  m := fun d dh => log_force d.2.1 dh.1
  ok := ce_ok mixedP Tryz.func41 (by kernel_rfl) (orcOf_ok log_force_tb) (dr := log_force_dr) (lps := lpsOf log_force_lt) (lps_fn (lps_of (n := 1) (by kernel_rfl) fun i hi => match i, hi with | 0, _ => lp_ok (E := log_force_e1) (by kernel_rfl) log_force_e1_ok)) (fun d dh => by kernel_rfl)

def log_Config_tb : List (CEp) := [log_there_w_ce, log_Last_w_ce, log_force_ce]
def log_Config (h0 : Int × Int × LI × LI × LI × LI × Bool × (List (DEntry)) × Unit) : Option (((DConfig) × Int × Unit) × ((Int × Int × LI × LI × LI × LI × Bool × (List (DEntry)) × Unit) × Unit × Unit × Unit)) :=
  (log_there_w h0).bind fun r1 =>
  (bif (!r1.1) then
  some (((⟨[], [], [], []⟩ : DConfig), 0, ()), (r1.2.1, (), (), ()))
  else
  (log_Last_w r1.2.1).bind fun r2 =>
  (log_force r2.1 r2.2.1).bind fun r3 =>
  some ((r3.1.1, r3.1.2.1, ()), (r3.2.1, (), (), ())))
def log_Config_ce : CEp where
  f := 14
  args := [.one (.ptr 0 0)]
  hs := [.obj 79 [.int .i64, .int .i64, .sl 0, .sl 0, .sl 0, .sl 0, .bool, .own 8 1], .row 83 7]
  res := .tup [.cod 7, .one (.int .i64)]
  outs := [.obj 79 [.int .i64, .int .i64, .sl 0, .sl 0, .sl 0, .sl 0, .bool, .own 8 2], .dead, .row 83 7]
  m := fun d dh => log_Config dh.1
  ok := ceO Tryz.func14 (by kernel_rfl) log_Config_tb (by kernel_rfl) fun d dh => by kernel_rfl

def slices_Index_tb : List (CEp) := []
def slices_Index_l1 (a : (LI × Int × Int × Int × Unit) × Unit) : Option (((LI × Int × Int × Int × Unit) × Unit) ⊕ (((Int × Unit) × Unit) ⊕ (Unit × Unit))) :=
  (bif (decide ((a.1.2.2.2.1 : Int) < a.1.2.2.1)) then
  (getI a.1.1 a.1.2.2.2.1).bind fun e1 =>
  (bif (decide ((a.1.2.1 : Int) = e1)) then
  some (.inr (.inl ((a.1.2.2.2.1, ()), ())))
  else
  some (.inl ((a.1.1, a.1.2.1, a.1.2.2.1, (IntKind.i64.wrap (a.1.2.2.2.1 + 1)), ()), ())))
  else
  some (.inr (.inr ((), ()))))
def slices_Index_e1 : LEp := ⟨2, [0, 1, 7, 8], [.one (.sl 0), .one (.int .i64), .one (.int .i64), .one (.int .i64)], [], [⟨.ret, [4], [.one (.int .i64)], []⟩, ⟨.exit 0, [], [], []⟩], slices_Index_l1⟩
def slices_Index_lt : List (LEp) := [slices_Index_e1]
theorem slices_Index_e1_ok : LeOk slices_Index_e1 (nthL (bodyOf Tryz.f143) 0) := fun A env h k z hk => le_ok (E := slices_Index_e1) (orcOf_ok slices_Index_tb) (dr := dr0) (lps := lpsOf slices_Index_lt) (no_loop (by kernel_rfl)) (fun a => by kernel_rfl) env h k z hk
def slices_Index (x0 : LI) (x1 : Int) : Option (Int × Unit) :=
  (loopM slices_Index_l1 ((x0, x1, (x0.length : Int), 0, ()), ())).bind fun b1 =>
  (match b1 with
  | .inl b2 =>
  some (b2.1.1, ())
  | .inr b3 =>
  some ((-1), ()))
def slices_Index_ce : CEp where
  f := 143
  args := [.one (.sl 0), .one (.int .i64)]
  hs := []
  res := .val (.one (.int .i64))
  outs := []
  m := fun d dh => slices_Index d.1 d.2.1
  ok := ce_ok mixedP Tryz.func143 (by kernel_rfl) (orcOf_ok slices_Index_tb) (dr := dr0) (lps := lpsOf slices_Index_lt) (lps_fn (lps_of (n := 1) (by kernel_rfl) fun i hi => match i, hi with | 0, _ => lp_ok (E := slices_Index_e1) (by kernel_rfl) slices_Index_e1_ok)) (fun d dh => by kernel_rfl)

def slices_Contains_tb : List (CEp) := [slices_Index_ce]
def slices_Contains (x0 : LI) (x1 : Int) : Option (Bool × Unit) :=
  (slices_Index x0 x1).bind fun r1 =>
  some ((decide ((0 : Int) ≤ r1.1)), ())
def slices_Contains_ce : CEp where
  f := 94
  args := [.one (.sl 0), .one (.int .i64)]
  hs := []
  res := .val (.one (.bool))
  outs := []
  m := fun d dh => slices_Contains d.1 d.2.1
  ok := ceO Tryz.func94 (by kernel_rfl) slices_Contains_tb (by kernel_rfl) fun d dh => by kernel_rfl

def quorum_Votes_tb : List (CEp) := [slices_Contains_ce]
def quorum_Votes (x0 : DConfig) (x1 : Int) : Option (Bool × Unit) :=
  (slices_Contains x0.voters x1).bind fun r1 =>
  (bif r1.1 then
  some (true, ())
  else
  (slices_Contains x0.old x1).bind fun r2 =>
  some (r2.1, ()))
def quorum_Votes_ce : CEp where
  f := 72
  args := [.cod 7, .one (.int .i64)]
  hs := []
  res := .val (.one (.bool))
  outs := []
  m := fun d dh => quorum_Votes d.1 d.2.1
  ok := ceO Tryz.func72 (by kernel_rfl) quorum_Votes_tb (by kernel_rfl) fun d dh => by kernel_rfl

def raft_stands_dr : Nat → Nat → DrA
  | 2, _ => ⟨[1, 2, 3, 4, 0, 5, 6, 7, 8, 9, 10, 11, 12, 13, 14, 15, 16, 17, 18, 19, 20, 21, 22], [[], [], [1], [1, 2], [1, 2, 3], [1, 2, 3, 4], (List.range 6), (List.range 7), (List.range 8), (List.range 9), (List.range 10), (List.range 11), (List.range 12), (List.range 13), (List.range 13), (List.range 13 ++ [14]), (List.range 13 ++ [14, 15]), (List.range 13 ++ [14, 15, 16]), (List.range 13 ++ [14, 15, 16, 17]), (List.range 19), (List.range 20), (List.range 21), (List.range 22)], [], [], [], false, []⟩
  | _, _ => ⟨[], [], [], [], [], false, []⟩
def raft_stands_tb : List (CEp) := [log_Config_ce, quorum_Votes_ce]
def raft_stands (h0 : Int × Int × Int × Int × Int × Int × Int × Int × Int × Unit × LI × Int × Int × Int × Int × Int × Int × Int × Int × Int × Int × Int × Int × Int × Int × Int × Int × Int × Int × Int × Int × Int × Int × Int × Int × Bool × Int × Unit) (h1 : Int × Int × LI × LI × LI × LI × Bool × (List (DEntry)) × Unit) : Option (Bool × ((Int × Int × Int × Int × Int × Int × Int × Int × Int × Unit × LI × Int × Int × Int × Int × Int × Int × Int × Int × Int × Int × Int × Int × Int × Int × Int × Int × Int × Int × Int × Int × Int × Int × Int × Int × Bool × Int × Unit) × (Int × Int × LI × LI × LI × LI × Bool × (List (DEntry)) × Unit) × Unit × Unit × Unit × Unit × Unit)) :=
  (log_Config h1).bind fun r1 =>
  (quorum_Votes r1.1.1 h0.1).bind fun r2 =>
  (bif r2.1 then
  some (true, (h0, r1.2.1, (), (), (), (), ()))
  else
  (bif (decide (((r1.1.1.want.length : Int) : Int) = 0)) then
  some ((decide ((h0.2.2.2.2.2.1 : Int) < r1.1.2.1)), (h0, r1.2.1, (), (), (), (), ()))
  else
  some (false, (h0, r1.2.1, (), (), (), (), ()))))
def raft_stands_ce : CEp where
  f := 31
  args := [.one (.ptr 0 0)]
  hs := [.obj 67 (sh0 1 2), .obj 79 [.int .i64, .int .i64, .sl 0, .sl 0, .sl 0, .sl 0, .bool, .own 8 3], .row 3 1, .row 83 7]
  res := .val (.one (.bool))
  outs := [.obj 67 (sh0 1 4), .obj 79 [.int .i64, .int .i64, .sl 0, .sl 0, .sl 0, .sl 0, .bool, .own 8 5], .dead, .dead, .row 3 1, .row 83 7]
  m := fun d dh => raft_stands dh.1 dh.2.1
  ok := ce_ok mixedP Tryz.func31 (by kernel_rfl) (orcOf_ok raft_stands_tb) (dr := raft_stands_dr) (lps := lpsOf lt0) (lps_fn (no_loop (by kernel_rfl))) (fun d dh => by kernel_rfl)

def raft_config_tb : List (CEp) := [log_Config_ce]
def raft_config (h0 : Int × Int × Int × Int × Int × Int × Int × Int × Int × Unit × LI × Int × Int × Int × Int × Int × Int × Int × Int × Int × Int × Int × Int × Int × Int × Int × Int × Int × Int × Int × Int × Int × Int × Int × Int × Bool × Int × Unit) (h1 : Int × Int × LI × LI × LI × LI × Bool × (List (DEntry)) × Unit) : Option ((DConfig) × ((Int × Int × Int × Int × Int × Int × Int × Int × Int × Unit × LI × Int × Int × Int × Int × Int × Int × Int × Int × Int × Int × Int × Int × Int × Int × Int × Int × Int × Int × Int × Int × Int × Int × Int × Int × Bool × Int × Unit) × (Int × Int × LI × LI × LI × LI × Bool × (List (DEntry)) × Unit) × Unit × Unit × Unit × Unit × Unit)) :=
  (log_Config h1).bind fun r1 =>
  some (r1.1.1, (h0, r1.2.1, (), (), (), (), ()))
def raft_config_ce : CEp where
  f := 36
  args := [.one (.ptr 0 0)]
  hs := [.obj 67 (sh0 1 2), .obj 79 [.int .i64, .int .i64, .sl 0, .sl 0, .sl 0, .sl 0, .bool, .own 8 3], .row 3 1, .row 83 7]
  res := .val (.cod 7)
  outs := [.obj 67 (sh0 1 4), .obj 79 [.int .i64, .int .i64, .sl 0, .sl 0, .sl 0, .sl 0, .bool, .own 8 5], .dead, .dead, .row 3 1, .row 83 7]
  m := fun d dh => raft_config dh.1 dh.2.1
  ok := ceO Tryz.func36 (by kernel_rfl) raft_config_tb (by kernel_rfl) fun d dh => by kernel_rfl

def raft_turn_tb : List (CEp) := []
def raft_turn (x1 : Int) (x2 : Int) (h0 : Int × Int × Int × Int × Int × Int × Int × Int × Int × Unit × LI × Int × Int × Int × Int × Int × Int × Int × Int × Int × Int × Int × Int × Int × Int × Int × Int × Int × Int × Int × Int × Int × Int × Int × Int × Bool × Int × Unit) (h1 : Int × Int × LI × LI × LI × LI × Bool × (List (DEntry)) × Unit) : Option (Unit × ((Int × Int × Int × Int × Int × Int × Int × Int × Int × Unit × LI × Int × Int × Int × Int × Int × Int × Int × Int × Int × Int × Int × Int × Int × Int × Int × Int × Int × Int × Int × Int × Int × Int × Int × Int × Bool × Int × Unit) × (Int × Int × LI × LI × LI × LI × Bool × (List (DEntry)) × Unit) × Unit × Unit × Unit × Unit × Unit)) :=
  some ((), ((h0.1, x1, x2, h0.2.2.2.1, h0.2.2.2.2.1, h0.2.2.2.2.2.1, h0.2.2.2.2.2.2.1, h0.2.2.2.2.2.2.2.1, h0.2.2.2.2.2.2.2.2.1, (), h0.2.2.2.2.2.2.2.2.2.2.1, h0.2.2.2.2.2.2.2.2.2.2.2.1, h0.2.2.2.2.2.2.2.2.2.2.2.2.1, h0.2.2.2.2.2.2.2.2.2.2.2.2.2.1, h0.2.2.2.2.2.2.2.2.2.2.2.2.2.2.1, h0.2.2.2.2.2.2.2.2.2.2.2.2.2.2.2.1, h0.2.2.2.2.2.2.2.2.2.2.2.2.2.2.2.2.1, h0.2.2.2.2.2.2.2.2.2.2.2.2.2.2.2.2.2.1, h0.2.2.2.2.2.2.2.2.2.2.2.2.2.2.2.2.2.2.1, h0.2.2.2.2.2.2.2.2.2.2.2.2.2.2.2.2.2.2.2.1, h0.2.2.2.2.2.2.2.2.2.2.2.2.2.2.2.2.2.2.2.2.1, h0.2.2.2.2.2.2.2.2.2.2.2.2.2.2.2.2.2.2.2.2.2.1, h0.2.2.2.2.2.2.2.2.2.2.2.2.2.2.2.2.2.2.2.2.2.2.1, h0.2.2.2.2.2.2.2.2.2.2.2.2.2.2.2.2.2.2.2.2.2.2.2.1, h0.2.2.2.2.2.2.2.2.2.2.2.2.2.2.2.2.2.2.2.2.2.2.2.2.1, h0.2.2.2.2.2.2.2.2.2.2.2.2.2.2.2.2.2.2.2.2.2.2.2.2.2.1, h0.2.2.2.2.2.2.2.2.2.2.2.2.2.2.2.2.2.2.2.2.2.2.2.2.2.2.1, h0.2.2.2.2.2.2.2.2.2.2.2.2.2.2.2.2.2.2.2.2.2.2.2.2.2.2.2.1, h0.2.2.2.2.2.2.2.2.2.2.2.2.2.2.2.2.2.2.2.2.2.2.2.2.2.2.2.2.1, h0.2.2.2.2.2.2.2.2.2.2.2.2.2.2.2.2.2.2.2.2.2.2.2.2.2.2.2.2.2.1, h0.2.2.2.2.2.2.2.2.2.2.2.2.2.2.2.2.2.2.2.2.2.2.2.2.2.2.2.2.2.2.1, h0.2.2.2.2.2.2.2.2.2.2.2.2.2.2.2.2.2.2.2.2.2.2.2.2.2.2.2.2.2.2.2.1, h0.2.2.2.2.2.2.2.2.2.2.2.2.2.2.2.2.2.2.2.2.2.2.2.2.2.2.2.2.2.2.2.2.1, h0.2.2.2.2.2.2.2.2.2.2.2.2.2.2.2.2.2.2.2.2.2.2.2.2.2.2.2.2.2.2.2.2.2.1, h0.2.2.2.2.2.2.2.2.2.2.2.2.2.2.2.2.2.2.2.2.2.2.2.2.2.2.2.2.2.2.2.2.2.2.1, true, h0.2.2.2.2.2.2.2.2.2.2.2.2.2.2.2.2.2.2.2.2.2.2.2.2.2.2.2.2.2.2.2.2.2.2.2.2.1, ()), h1, (), (), (), (), ()))
def raft_turn_ce : CEp where
  f := 55
  args := [.one (.ptr 0 0), .one (.int .i64), .one (.int .i64)]
  hs := [.obj 67 (sh0 1 2), .obj 79 [.int .i64, .int .i64, .sl 0, .sl 0, .sl 0, .sl 0, .bool, .own 8 3], .row 3 1, .row 83 7]
  res := .tup []
  outs := [.obj 67 (sh0 1 4), .obj 79 [.int .i64, .int .i64, .sl 0, .sl 0, .sl 0, .sl 0, .bool, .own 8 5], .dead, .dead, .row 3 1, .row 83 7]
  m := fun d dh => raft_turn d.2.1 d.2.2.1 dh.1 dh.2.1
  ok := ceO Tryz.func55 (by kernel_rfl) raft_turn_tb (by kernel_rfl) fun d dh => by kernel_rfl

def quorum_rise1_tb : List (CEp) := []
def quorum_rise1_l1 (a : (LI × LI × Int × Int × Unit) × Unit) : Option (((LI × LI × Int × Int × Unit) × Unit) ⊕ (((Bool × Unit) × Unit) ⊕ (Unit × Unit))) :=
  (bif (decide ((a.1.2.2.2.1 : Int) < a.1.2.2.1)) then
  (getI a.1.2.1 a.1.2.2.2.1).bind fun e1 =>
  (bif (decide ((e1 : Int) < 1)) then
  some (.inr (.inl ((true, ()), ())))
  else
  (bif (decide ((5 : Int) < e1)) then
  some (.inr (.inl ((true, ()), ())))
  else
  (bif (decide ((0 : Int) < a.1.2.2.2.1)) then
  (getI a.1.1 (IntKind.i64.wrap (a.1.2.2.2.1 - 1))).bind fun e2 =>
  (bif (decide ((e1 : Int) ≤ e2)) then
  some (.inr (.inl ((true, ()), ())))
  else
  some (.inl ((a.1.1, a.1.2.1, a.1.2.2.1, (IntKind.i64.wrap (a.1.2.2.2.1 + 1)), ()), ())))
  else
  some (.inl ((a.1.1, a.1.2.1, a.1.2.2.1, (IntKind.i64.wrap (a.1.2.2.2.1 + 1)), ()), ())))))
  else
  some (.inr (.inr ((), ()))))
def quorum_rise1_e1 : LEp := ⟨2, [0, 5, 6, 7], [.one (.sl 0), .one (.sl 0), .one (.int .i64), .one (.int .i64)], [], [⟨.ret, [2], [.one (.bool)], []⟩, ⟨.exit 0, [], [], []⟩], quorum_rise1_l1⟩
def quorum_rise1_lt : List (LEp) := [quorum_rise1_e1]
theorem quorum_rise1_e1_ok : LeOk quorum_rise1_e1 (nthL (bodyOf Tryz.f138) 0) := fun A env h k z hk => le_ok (E := quorum_rise1_e1) (orcOf_ok quorum_rise1_tb) (dr := dr0) (lps := lpsOf quorum_rise1_lt) (no_loop (by kernel_rfl)) (fun a => by kernel_rfl) env h k z hk
def quorum_rise1 (x0 : LI) : Option (Bool × Unit) :=
  (loopM quorum_rise1_l1 ((x0, x0, (x0.length : Int), 0, ()), ())).bind fun b1 =>
  (match b1 with
  | .inl b2 =>
  some (b2.1.1, ())
  | .inr b3 =>
  some (false, ()))
def quorum_rise1_ce : CEp where
  f := 138
  args := [.one (.sl 0)]
  hs := []
  res := .val (.one (.bool))
  outs := []
  m := fun d dh => quorum_rise1 d.1
  ok := ce_ok mixedP Tryz.func138 (by kernel_rfl) (orcOf_ok quorum_rise1_tb) (dr := dr0) (lps := lpsOf quorum_rise1_lt) (lps_fn (lps_of (n := 1) (by kernel_rfl) fun i hi => match i, hi with | 0, _ => lp_ok (E := quorum_rise1_e1) (by kernel_rfl) quorum_rise1_e1_ok)) (fun d dh => by kernel_rfl)

def slices_IndexFunc_2_tb : List (CEp) := [quorum_rise1_ce]
def slices_IndexFunc_2_l1 (a : ((List LI) × Unit × Int × Int × Unit) × Unit) : Option ((((List LI) × Unit × Int × Int × Unit) × Unit) ⊕ (((Int × Unit) × Unit) ⊕ (Unit × Unit))) :=
  (bif (decide ((a.1.2.2.2.1 : Int) < a.1.2.2.1)) then
  (getI a.1.1 a.1.2.2.2.1).bind fun e1 =>
  (quorum_rise1 e1).bind fun r2 =>
  (bif r2.1 then
  some (.inr (.inl ((a.1.2.2.2.1, ()), ())))
  else
  some (.inl ((a.1.1, (), a.1.2.2.1, (IntKind.i64.wrap (a.1.2.2.2.1 + 1)), ()), ())))
  else
  some (.inr (.inr ((), ()))))
def slices_IndexFunc_2_e1 : LEp := ⟨2, [0, 1, 7, 8], [.one (.sl 6), .one (.fn 138), .one (.int .i64), .one (.int .i64)], [], [⟨.ret, [4], [.one (.int .i64)], []⟩, ⟨.exit 0, [], [], []⟩], slices_IndexFunc_2_l1⟩
def slices_IndexFunc_2_lt : List (LEp) := [slices_IndexFunc_2_e1]
theorem slices_IndexFunc_2_e1_ok : LeOk slices_IndexFunc_2_e1 (nthL (bodyOf Tryz.f179) 0) := fun A env h k z hk => le_ok (E := slices_IndexFunc_2_e1) (orcOf_ok slices_IndexFunc_2_tb) (dr := dr0) (lps := lpsOf slices_IndexFunc_2_lt) (no_loop (by kernel_rfl)) (fun a => by kernel_rfl) env h k z hk
def slices_IndexFunc_2 (x0 : List LI) : Option (Int × Unit) :=
  (loopM slices_IndexFunc_2_l1 ((x0, (), (x0.length : Int), 0, ()), ())).bind fun b1 =>
  (match b1 with
  | .inl b2 =>
  some (b2.1.1, ())
  | .inr b3 =>
  some ((-1), ()))
def slices_IndexFunc_2_ce : CEp where
  f := 179
  args := [.one (.sl 6), .one (.fn 138)]
  hs := []
  res := .val (.one (.int .i64))
  outs := []
  m := fun d dh => slices_IndexFunc_2 d.1
  ok := ce_ok mixedP Tryz.func179 (by kernel_rfl) (orcOf_ok slices_IndexFunc_2_tb) (dr := dr0) (lps := lpsOf slices_IndexFunc_2_lt) (lps_fn (lps_of (n := 1) (by kernel_rfl) fun i hi => match i, hi with | 0, _ => lp_ok (E := slices_IndexFunc_2_e1) (by kernel_rfl) slices_IndexFunc_2_e1_ok)) (fun d dh => by kernel_rfl)

def slices_ContainsFunc_2_tb : List (CEp) := [slices_IndexFunc_2_ce]
def slices_ContainsFunc_2 (x0 : List LI) : Option (Bool × Unit) :=
  (slices_IndexFunc_2 x0).bind fun r1 =>
  some ((decide ((0 : Int) ≤ r1.1)), ())
def slices_ContainsFunc_2_ce : CEp where
  f := 137
  args := [.one (.sl 6), .one (.fn 138)]
  hs := []
  res := .val (.one (.bool))
  outs := []
  m := fun d dh => slices_ContainsFunc_2 d.1
  ok := ceO Tryz.func137 (by kernel_rfl) slices_ContainsFunc_2_tb (by kernel_rfl) fun d dh => by kernel_rfl

def quorum_rise_tb : List (CEp) := [slices_ContainsFunc_2_ce]
def quorum_rise (x0 : List LI) : Option (Bool × Unit) :=
  (slices_ContainsFunc_2 x0).bind fun r1 =>
  some ((!r1.1), ())
def quorum_rise_ce : CEp where
  f := 78
  args := [.one (.sl 6)]
  hs := []
  res := .val (.one (.bool))
  outs := []
  m := fun d dh => quorum_rise d.1
  ok := ceO Tryz.func78 (by kernel_rfl) quorum_rise_tb (by kernel_rfl) fun d dh => by kernel_rfl

def quorum_joint_tb : List (CEp) := []
def quorum_joint (x0 : DGroup) : Option (Bool × Unit) :=
  some ((decide ((0 : Int) < (x0.config.old.length : Int))), ())
def quorum_joint_ce : CEp where
  f := 133
  args := [.cod 14]
  hs := []
  res := .val (.one (.bool))
  outs := []
  m := fun d dh => quorum_joint d.1
  ok := ceO Tryz.func133 (by kernel_rfl) quorum_joint_tb (by kernel_rfl) fun d dh => by kernel_rfl

def slices_Equal_dr : Nat → Nat → DrA
  | 6, _ => ⟨[0, 1, 2, 4, 5, 6, 3, 7, 8], [[], [], [0, 1], [0, 1, 2], [], [], [4, 5], [4, 5, 6], (List.range 8)], [], [], [], false, []⟩
  | _, _ => ⟨[], [], [], [], [], false, []⟩
def slices_Equal_tb : List (CEp) := []
def slices_Equal_l1 (a : (LI × LI × Int × Int × Unit) × Unit) : Option (((LI × LI × Int × Int × Unit) × Unit) ⊕ (((Bool × Unit) × Unit) ⊕ (Unit × Unit))) :=
  (bif (decide ((a.1.2.2.2.1 : Int) < a.1.2.2.1)) then
  (getI a.1.1 a.1.2.2.2.1).bind fun e1 =>
  (getI a.1.2.1 a.1.2.2.2.1).bind fun e2 =>
  (bif (decide ((e1 : Int) ≠ e2)) then
  some (.inr (.inl ((false, ()), ())))
  else
  some (.inl ((a.1.1, a.1.2.1, a.1.2.2.1, (IntKind.i64.wrap (a.1.2.2.2.1 + 1)), ()), ())))
  else
  some (.inr (.inr ((), ()))))
def slices_Equal_e1 : LEp := ⟨4, [0, 1, 12, 13], [.one (.sl 0), .one (.sl 0), .one (.int .i64), .one (.int .i64)], [], [⟨.ret, [4], [.one (.bool)], []⟩, ⟨.exit 0, [], [], []⟩], slices_Equal_l1⟩
def slices_Equal_lt : List (LEp) := [slices_Equal_e1]
theorem slices_Equal_e1_ok : LeOk slices_Equal_e1 (nthL (bodyOf Tryz.f80) 0) := fun A env h k z hk => le_ok (E := slices_Equal_e1) (orcOf_ok slices_Equal_tb) (dr := slices_Equal_dr) (lps := lpsOf slices_Equal_lt) (no_loop (by kernel_rfl)) (fun a => by kernel_rfl) env h k z hk
def slices_Equal (x0 : LI) (x1 : LI) : Option (Bool × Unit) :=
  (bif (decide (((x0.length : Int) : Int) ≠ (x1.length : Int))) then
  some (false, ())
  else
  (loopM slices_Equal_l1 ((x0, x1, (x0.length : Int), 0, ()), ())).bind fun b1 =>
  (match b1 with
  | .inl b2 =>
  some (b2.1.1, ())
  | .inr b3 =>
  some (true, ())))
def slices_Equal_ce : CEp where
  f := 80
  args := [.one (.sl 0), .one (.sl 0)]
  hs := []
  res := .val (.one (.bool))
  outs := []
  m := fun d dh => slices_Equal d.1 d.2.1
  ok := ce_ok mixedP Tryz.func80 (by kernel_rfl) (orcOf_ok slices_Equal_tb) (dr := slices_Equal_dr) (lps := lpsOf slices_Equal_lt) (lps_fn (lps_of (n := 1) (by kernel_rfl) fun i hi => match i, hi with | 0, _ => lp_ok (E := slices_Equal_e1) (by kernel_rfl) slices_Equal_e1_ok)) (fun d dh => by kernel_rfl)

def quorum_changes_tb : List (CEp) := []
def quorum_changes (x0 : DGroup) : Option (Bool × Unit) :=
  some ((decide ((0 : Int) < (x0.config.want.length : Int))), ())
def quorum_changes_ce : CEp where
  f := 79
  args := [.cod 14]
  hs := []
  res := .val (.one (.bool))
  outs := []
  m := fun d dh => quorum_changes d.1
  ok := ceO Tryz.func79 (by kernel_rfl) quorum_changes_tb (by kernel_rfl) fun d dh => by kernel_rfl

def quorum_without_tb : List (CEp) := [slices_Contains_ce]
def quorum_without_l1 (a : (LI × LI × LI × Int × Int × Unit) × (Unit × Unit)) : Option (((LI × LI × LI × Int × Int × Unit) × (Unit × Unit)) ⊕ (((LI × Unit) × (Unit × Unit × Unit)))) :=
  (bif (decide ((a.1.2.2.2.2.1 : Int) < a.1.2.2.2.1)) then
  (getI a.1.2.2.1 a.1.2.2.2.2.1).bind fun e1 =>
  (slices_Contains a.1.1 e1).bind fun r2 =>
  (bif (!r2.1) then
  (if a.1.2.1.length + ([e1] : LI).length ≤ 140737488355328 ∧ (a.1.2.1.length + ([e1] : LI).length) * 8 ≤ 140737488355328 then
  some (.inl ((a.1.1, (a.1.2.1 ++ ([e1] : LI)), a.1.2.2.1, a.1.2.2.2.1, (IntKind.i64.wrap (a.1.2.2.2.2.1 + 1)), ()), ((), ())))
  else none)
  else
  some (.inl ((a.1.1, a.1.2.1, a.1.2.2.1, a.1.2.2.2.1, (IntKind.i64.wrap (a.1.2.2.2.2.1 + 1)), ()), ((), ()))))
  else
  some (.inr ((a.1.2.1, ()), ((), (), ()))))
def quorum_without_e1 : LEp := ⟨3, [1, 5, 8, 9, 10], [.one (.sl 0), .one (.own 0 0), .one (.sl 0), .one (.int .i64), .one (.int .i64)], [.row 3 1], [⟨.exit 0, [5], [.one (.own 0 1)], [.dead, .row 3 1]⟩], quorum_without_l1⟩
def quorum_without_lt : List (LEp) := [quorum_without_e1]
theorem quorum_without_e1_ok : LeOk quorum_without_e1 (nthL (bodyOf Tryz.f82) 0) := fun A env h k z hk => le_ok (E := quorum_without_e1) (orcOf_ok quorum_without_tb) (dr := dr0) (lps := lpsOf quorum_without_lt) (no_loop (by kernel_rfl)) (fun a => by kernel_rfl) env h k z hk
def quorum_without (x0 : LI) (x1 : LI) : Option (LI × (Unit × Unit)) :=
  (loopM quorum_without_l1 ((x1, [], x0, (x0.length : Int), 0, ()), ((), ()))).bind fun b1 =>
  some (b1.1.1, ((), ()))
def quorum_without_ce : CEp where
  f := 82
  args := [.one (.sl 0), .one (.sl 0)]
  hs := []
  res := .val (.one (.own 0 0))
  outs := [.row 3 1]
  m := fun d dh => quorum_without d.1 d.2.1
  ok := ce_ok mixedP Tryz.func82 (by kernel_rfl) (orcOf_ok quorum_without_tb) (dr := dr0) (lps := lpsOf quorum_without_lt) (lps_fn (lps_of (n := 1) (by kernel_rfl) fun i hi => match i, hi with | 0, _ => lp_ok (E := quorum_without_e1) (by kernel_rfl) quorum_without_e1_ok)) (fun d dh => by kernel_rfl)

def quorum_right_dr : Nat → Nat → DrA
  | 8, _ => ⟨[0, 1, 3, 4, 2, 5, 6, 7, 8, 9, 10, 12, 13, 15, 16, 11, 14, 17, 18, 19, 20, 21], [[], [0], [0, 1], [], [3], [3, 4], (List.range 6), (List.range 7), (List.range 8), (List.range 9), (List.range 10), (List.range 11), (List.range 9), (List.range 9 ++ [12]), (List.range 9 ++ [12, 13]), (List.range 9), (List.range 9 ++ [15]), (List.range 9 ++ [15, 16]), (List.range 9 ++ [12, 13, 14, 15, 16, 17]), (List.range 19), (List.range 20), (List.range 21)], [11], [18], [0], false, []⟩
  | _, _ => ⟨[], [], [], [], [], false, []⟩
def quorum_right_tb : List (CEp) := [quorum_rise_ce, quorum_joint_ce, slices_Equal_ce, quorum_changes_ce, quorum_without_ce]
def quorum_right (x0 : DGroup) : Option (Bool × Unit) :=
  (quorum_rise ([x0.config.voters, x0.config.old, x0.config.learners, x0.config.want] : List LI)).bind fun r1 =>
  (bif (!r1.1) then
  some (false, ())
  else
  (bif (decide (((x0.config.voters.length : Int) : Int) = 0)) then
  let y2 : Bool := (decide (((IntKind.i64.wrap ((IntKind.i64.wrap ((x0.config.old.length : Int) + (x0.config.learners.length : Int))) + (x0.config.want.length : Int))) : Int) = 0))
  some (y2, ())
  else
  (quorum_joint x0).bind fun r3 =>
  (bif r3.1 then
  (slices_Equal x0.config.want x0.config.voters).bind fun r4 =>
  (bif r4.1 then
  some ((decide (((x0.config.learners.length : Int) : Int) = 0)), ())
  else
  some (false, ()))
  else
  (quorum_changes x0).bind fun r5 =>
  (bif r5.1 then
  (slices_Equal x0.config.want x0.config.voters).bind fun r6 =>
  (bif (!r6.1) then
  (quorum_without x0.config.want x0.config.voters).bind fun r7 =>
  (slices_Equal x0.config.learners r7.1).bind fun r8 =>
  some (r8.1, ())
  else
  some (false, ()))
  else
  some ((decide (((x0.config.learners.length : Int) : Int) = 0)), ())))))
def quorum_right_ce : CEp where
  f := 77
  args := [.cod 14]
  hs := []
  res := .val (.one (.bool))
  outs := []
  m := fun d dh => quorum_right d.1
  ok := ce_ok mixedP Tryz.func77 (by kernel_rfl) (orcOf_ok quorum_right_tb) (dr := quorum_right_dr) (lps := lpsOf lt0) (lps_fn (no_loop (by kernel_rfl))) (fun d dh => by kernel_rfl)

def quorum_most_tb : List (CEp) := [quorum_without_ce]
def quorum_most (x0 : LI) (x1 : LI) : Option (Bool × Unit) :=
  (quorum_without x0 x1).bind fun r1 =>
  let y2 : Bool := (decide (((x0.length : Int) : Int) < (IntKind.i64.wrap (2 * (IntKind.i64.wrap ((x0.length : Int) - (r1.1.length : Int)))))))
  some (y2, ())
def quorum_most_ce : CEp where
  f := 132
  args := [.one (.sl 0), .one (.sl 0)]
  hs := []
  res := .val (.one (.bool))
  outs := []
  m := fun d dh => quorum_most d.1 d.2.1
  ok := ceO Tryz.func132 (by kernel_rfl) quorum_most_tb (by kernel_rfl) fun d dh => by kernel_rfl

def quorum_Agrees_tb : List (CEp) := [quorum_right_ce, quorum_most_ce, quorum_joint_ce]
def quorum_Agrees (x0 : DConfig) (x1 : LI) : Option (Bool × Unit) :=
  (quorum_right (⟨x0⟩ : DGroup)).bind fun r1 =>
  (bif r1.1 then
  (quorum_most x0.voters x1).bind fun r2 =>
  (bif r2.1 then
  (quorum_joint (⟨x0⟩ : DGroup)).bind fun r3 =>
  (bif (!r3.1) then
  some (true, ())
  else
  (quorum_most x0.old x1).bind fun r4 =>
  some (r4.1, ()))
  else
  some (false, ()))
  else
  some (false, ()))
def quorum_Agrees_ce : CEp where
  f := 73
  args := [.cod 7, .one (.sl 0)]
  hs := []
  res := .val (.one (.bool))
  outs := []
  m := fun d dh => quorum_Agrees d.1 d.2.1
  ok := ceO Tryz.func73 (by kernel_rfl) quorum_Agrees_tb (by kernel_rfl) fun d dh => by kernel_rfl

def raft_written_tb : List (CEp) := []
def raft_written (x1 : Int) (h0 : Int × Int × Int × Int × Int × Int × Int × Int × Int × Unit × LI × Int × Int × Int × Int × Int × Int × Int × Int × Int × Int × Int × Int × Int × Int × Int × Int × Int × Int × Int × Int × Int × Int × Int × Int × Bool × Int × Unit) (h1 : Int × Int × LI × LI × LI × LI × Bool × (List (DEntry)) × Unit) : Option (Unit × ((Int × Int × Int × Int × Int × Int × Int × Int × Int × Unit × LI × Int × Int × Int × Int × Int × Int × Int × Int × Int × Int × Int × Int × Int × Int × Int × Int × Int × Int × Int × Int × Int × Int × Int × Int × Bool × Int × Unit) × (Int × Int × LI × LI × LI × LI × Bool × (List (DEntry)) × Unit) × Unit × Unit × Unit × Unit × Unit)) :=
  (bif (decide ((h0.2.2.2.2.2.2.2.2.2.2.2.2.2.2.2.2.2.2.2.2.2.2.2.2.2.2.2.2.2.2.2.2.2.2.2.2.1 : Int) = 0)) then
  some ((), ((h0.1, h0.2.1, h0.2.2.1, h0.2.2.2.1, h0.2.2.2.2.1, h0.2.2.2.2.2.1, h0.2.2.2.2.2.2.1, h0.2.2.2.2.2.2.2.1, h0.2.2.2.2.2.2.2.2.1, (), h0.2.2.2.2.2.2.2.2.2.2.1, h0.2.2.2.2.2.2.2.2.2.2.2.1, h0.2.2.2.2.2.2.2.2.2.2.2.2.1, h0.2.2.2.2.2.2.2.2.2.2.2.2.2.1, h0.2.2.2.2.2.2.2.2.2.2.2.2.2.2.1, h0.2.2.2.2.2.2.2.2.2.2.2.2.2.2.2.1, h0.2.2.2.2.2.2.2.2.2.2.2.2.2.2.2.2.1, h0.2.2.2.2.2.2.2.2.2.2.2.2.2.2.2.2.2.1, h0.2.2.2.2.2.2.2.2.2.2.2.2.2.2.2.2.2.2.1, h0.2.2.2.2.2.2.2.2.2.2.2.2.2.2.2.2.2.2.2.1, h0.2.2.2.2.2.2.2.2.2.2.2.2.2.2.2.2.2.2.2.2.1, h0.2.2.2.2.2.2.2.2.2.2.2.2.2.2.2.2.2.2.2.2.2.1, h0.2.2.2.2.2.2.2.2.2.2.2.2.2.2.2.2.2.2.2.2.2.2.1, h0.2.2.2.2.2.2.2.2.2.2.2.2.2.2.2.2.2.2.2.2.2.2.2.1, h0.2.2.2.2.2.2.2.2.2.2.2.2.2.2.2.2.2.2.2.2.2.2.2.2.1, h0.2.2.2.2.2.2.2.2.2.2.2.2.2.2.2.2.2.2.2.2.2.2.2.2.2.1, h0.2.2.2.2.2.2.2.2.2.2.2.2.2.2.2.2.2.2.2.2.2.2.2.2.2.2.1, h0.2.2.2.2.2.2.2.2.2.2.2.2.2.2.2.2.2.2.2.2.2.2.2.2.2.2.2.1, h0.2.2.2.2.2.2.2.2.2.2.2.2.2.2.2.2.2.2.2.2.2.2.2.2.2.2.2.2.1, h0.2.2.2.2.2.2.2.2.2.2.2.2.2.2.2.2.2.2.2.2.2.2.2.2.2.2.2.2.2.1, h0.2.2.2.2.2.2.2.2.2.2.2.2.2.2.2.2.2.2.2.2.2.2.2.2.2.2.2.2.2.2.1, h0.2.2.2.2.2.2.2.2.2.2.2.2.2.2.2.2.2.2.2.2.2.2.2.2.2.2.2.2.2.2.2.1, h0.2.2.2.2.2.2.2.2.2.2.2.2.2.2.2.2.2.2.2.2.2.2.2.2.2.2.2.2.2.2.2.2.1, h0.2.2.2.2.2.2.2.2.2.2.2.2.2.2.2.2.2.2.2.2.2.2.2.2.2.2.2.2.2.2.2.2.2.1, h0.2.2.2.2.2.2.2.2.2.2.2.2.2.2.2.2.2.2.2.2.2.2.2.2.2.2.2.2.2.2.2.2.2.2.1, h0.2.2.2.2.2.2.2.2.2.2.2.2.2.2.2.2.2.2.2.2.2.2.2.2.2.2.2.2.2.2.2.2.2.2.2.1, x1, ()), h1, (), (), (), (), ()))
  else
  (bif (decide ((x1 : Int) < h0.2.2.2.2.2.2.2.2.2.2.2.2.2.2.2.2.2.2.2.2.2.2.2.2.2.2.2.2.2.2.2.2.2.2.2.2.1)) then
  some ((), ((h0.1, h0.2.1, h0.2.2.1, h0.2.2.2.1, h0.2.2.2.2.1, h0.2.2.2.2.2.1, h0.2.2.2.2.2.2.1, h0.2.2.2.2.2.2.2.1, h0.2.2.2.2.2.2.2.2.1, (), h0.2.2.2.2.2.2.2.2.2.2.1, h0.2.2.2.2.2.2.2.2.2.2.2.1, h0.2.2.2.2.2.2.2.2.2.2.2.2.1, h0.2.2.2.2.2.2.2.2.2.2.2.2.2.1, h0.2.2.2.2.2.2.2.2.2.2.2.2.2.2.1, h0.2.2.2.2.2.2.2.2.2.2.2.2.2.2.2.1, h0.2.2.2.2.2.2.2.2.2.2.2.2.2.2.2.2.1, h0.2.2.2.2.2.2.2.2.2.2.2.2.2.2.2.2.2.1, h0.2.2.2.2.2.2.2.2.2.2.2.2.2.2.2.2.2.2.1, h0.2.2.2.2.2.2.2.2.2.2.2.2.2.2.2.2.2.2.2.1, h0.2.2.2.2.2.2.2.2.2.2.2.2.2.2.2.2.2.2.2.2.1, h0.2.2.2.2.2.2.2.2.2.2.2.2.2.2.2.2.2.2.2.2.2.1, h0.2.2.2.2.2.2.2.2.2.2.2.2.2.2.2.2.2.2.2.2.2.2.1, h0.2.2.2.2.2.2.2.2.2.2.2.2.2.2.2.2.2.2.2.2.2.2.2.1, h0.2.2.2.2.2.2.2.2.2.2.2.2.2.2.2.2.2.2.2.2.2.2.2.2.1, h0.2.2.2.2.2.2.2.2.2.2.2.2.2.2.2.2.2.2.2.2.2.2.2.2.2.1, h0.2.2.2.2.2.2.2.2.2.2.2.2.2.2.2.2.2.2.2.2.2.2.2.2.2.2.1, h0.2.2.2.2.2.2.2.2.2.2.2.2.2.2.2.2.2.2.2.2.2.2.2.2.2.2.2.1, h0.2.2.2.2.2.2.2.2.2.2.2.2.2.2.2.2.2.2.2.2.2.2.2.2.2.2.2.2.1, h0.2.2.2.2.2.2.2.2.2.2.2.2.2.2.2.2.2.2.2.2.2.2.2.2.2.2.2.2.2.1, h0.2.2.2.2.2.2.2.2.2.2.2.2.2.2.2.2.2.2.2.2.2.2.2.2.2.2.2.2.2.2.1, h0.2.2.2.2.2.2.2.2.2.2.2.2.2.2.2.2.2.2.2.2.2.2.2.2.2.2.2.2.2.2.2.1, h0.2.2.2.2.2.2.2.2.2.2.2.2.2.2.2.2.2.2.2.2.2.2.2.2.2.2.2.2.2.2.2.2.1, h0.2.2.2.2.2.2.2.2.2.2.2.2.2.2.2.2.2.2.2.2.2.2.2.2.2.2.2.2.2.2.2.2.2.1, h0.2.2.2.2.2.2.2.2.2.2.2.2.2.2.2.2.2.2.2.2.2.2.2.2.2.2.2.2.2.2.2.2.2.2.1, h0.2.2.2.2.2.2.2.2.2.2.2.2.2.2.2.2.2.2.2.2.2.2.2.2.2.2.2.2.2.2.2.2.2.2.2.1, x1, ()), h1, (), (), (), (), ()))
  else
  some ((), (h0, h1, (), (), (), (), ()))))
def raft_written_ce : CEp where
  f := 83
  args := [.one (.ptr 0 0), .one (.int .i64)]
  hs := [.obj 67 (sh0 1 2), .obj 79 [.int .i64, .int .i64, .sl 0, .sl 0, .sl 0, .sl 0, .bool, .own 8 3], .row 3 1, .row 83 7]
  res := .tup []
  outs := [.obj 67 (sh0 1 4), .obj 79 [.int .i64, .int .i64, .sl 0, .sl 0, .sl 0, .sl 0, .bool, .own 8 5], .dead, .dead, .row 3 1, .row 83 7]
  m := fun d dh => raft_written d.2.1 dh.1 dh.2.1
  ok := ceO Tryz.func83 (by kernel_rfl) raft_written_tb (by kernel_rfl) fun d dh => by kernel_rfl

def clone173 (x : LB) : Option (LB × (Unit × Unit)) :=
  if x.length ≤ 140737488355328 ∧ x.length * 1 ≤ 140737488355328 then some (x, ((), ())) else none
def clone173_ce : CEp where
  f := 173
  args := [.one (.sl 1)]
  hs := []
  res := .val (.one (.own 1 0))
  outs := [.row 5 1]
  m := fun d dh => clone173 d.1
  ok := fun d dh r hr => by
    unfold clone173 at hr
    split at hr
    · rename_i hroom
      injection hr with hr
      subst hr
      exact clone_tr mixedP Tryz.func173 (by kernel_rfl) rfl rfl (zv := .int .u8 0) (he := by kernel_rfl) (hsz := by kernel_rfl) (hz := by kernel_rfl) (hby := by kernel_rfl) rfl rfl d.1 hroom
    · cases hr

def log_own_dr : Nat → Nat → DrA
  | 5, _ => ⟨[0, 3, 1, 4, 2, 6, 5, 7, 8, 9], [[], [0], [0, 1], [], [3], (List.range 5), (List.range 5), (List.range 7), (List.range 8), (List.range 9)], [4], [2], [2], false, []⟩
  | _, _ => ⟨[], [], [], [], [], false, []⟩
def log_own_tb : List (CEp) := [clone173_ce, log_ownConfig_ce]
def log_own_l1 (a : ((List (DEntry)) × (Nat × Nat × Nat) × Int × Int × Unit) × ((List (DEntry)) × Unit × Unit)) : Option ((((List (DEntry)) × (Nat × Nat × Nat) × Int × Int × Unit) × ((List (DEntry)) × Unit × Unit)) ⊕ ((((List (DEntry)) × Unit) × ((List (DEntry)) × Unit × Unit × Unit)))) :=
  (bif (decide ((a.1.2.2.2.1 : Int) < a.1.2.2.1)) then
  (if 0 ≤ (a.1.2.2.2.1 : Int) ∧ (a.1.2.2.2.1 : Int) < ((a.1.2.1.2.1 : Nat) : Int) then
  (a.2.1[(a.1.2.1.1 + (a.1.2.2.2.1 : Int).toNat)]?).bind fun e1 =>
  (clone173 e1.command).bind fun r2 =>
  (log_ownConfig e1.config).bind fun r3 =>
  (if a.1.1.length + ([(⟨e1.term_, e1.kind, r2.1, r3.1⟩ : DEntry)] : List (DEntry)).length ≤ 140737488355328 ∧ (a.1.1.length + ([(⟨e1.term_, e1.kind, r2.1, r3.1⟩ : DEntry)] : List (DEntry)).length) * 136 ≤ 140737488355328 then
  let y4 : List (DEntry) := (a.1.1 ++ ([(⟨e1.term_, e1.kind, r2.1, r3.1⟩ : DEntry)] : List (DEntry)))
  some (.inl ((y4, (a.1.2.1.1, a.1.2.1.2.1, a.1.2.1.2.2), a.1.2.2.1, (IntKind.i64.wrap (a.1.2.2.2.1 + 1)), ()), (a.2.1, (), ())))
  else none)
  else none)
  else
  some (.inr ((a.1.1, ()), (a.2.1, (), (), ()))))
def log_own_e1 : LEp := ⟨3, [3, 6, 7, 8], [.one (.own 8 1), .one (.as 8 0), .one (.int .i64), .one (.int .i64)], [.arr 83 8 true, .row 83 7], [⟨.exit 0, [3], [.one (.own 8 2)], [.arr 83 8 true, .dead, .row 83 7]⟩], log_own_l1⟩
def log_own_lt : List (LEp) := [log_own_e1]
theorem log_own_e1_ok : LeOk log_own_e1 (nthL (bodyOf Tryz.f128) 0) := fun A env h k z hk => le_ok (E := log_own_e1) (orcOf_ok log_own_tb) (dr := log_own_dr) (lps := lpsOf log_own_lt) (no_loop (by kernel_rfl)) (fun a => by kernel_rfl) env h k z hk
def log_own (x0 : Nat × Nat × Nat) (h0 : List (DEntry)) : Option ((List (DEntry)) × ((List (DEntry)) × Unit × Unit)) :=
  (loopM log_own_l1 (([], (x0.1, x0.2.1, x0.2.2), ((x0.2.1 : Nat) : Int), 0, ()), (h0, (), ()))).bind fun b1 =>
  some (b1.1.1, (b1.2.1, (), ()))
def log_own_ce : CEp where
  f := 128
  args := [.one (.as 8 0)]
  hs := [.arr 83 8 true]
  res := .val (.one (.own 8 1))
  outs := [.arr 83 8 true, .row 83 7]
  m := fun d dh => log_own d.1 dh.1
  ok := ce_ok mixedP Tryz.func128 (by kernel_rfl) (orcOf_ok log_own_tb) (dr := log_own_dr) (lps := lpsOf log_own_lt) (lps_fn (lps_of (n := 1) (by kernel_rfl) fun i hi => match i, hi with | 0, _ => lp_ok (E := log_own_e1) (by kernel_rfl) log_own_e1_ok)) (fun d dh => by kernel_rfl)

def log_Put_dr : Nat → Nat → DrA
  | 2, _ => ⟨[0, 1, 2, 3, 5, 4, 6, 7, 8, 9, 10], [[], [], [1], [1, 2], [1, 2, 3], [], [5], [1, 2, 3, 4, 5, 6], (List.range 8), (List.range 9), (List.range 10)], [4], [6], [0], false, []⟩
  | _, _ => ⟨[], [], [], [], [], false, []⟩
def log_Put_tb : List (CEp) := [log_there_w_ce, log_own_ce, log_Last_w_ce]
def log_Put (x1 : Nat × Nat × Nat) (h0 : Int × Int × LI × LI × LI × LI × Bool × (List (DEntry)) × Unit) (h1 : List (DEntry)) : Option (Int × ((Int × Int × LI × LI × LI × LI × Bool × (List (DEntry)) × Unit) × (List (DEntry)) × Unit × Unit × Unit)) :=
  (log_there_w h0).bind fun r1 =>
  (bif r1.1 then
  (log_own (x1.1, x1.2.1, x1.2.2) h1).bind fun r2 =>
  (if r1.2.1.2.2.2.2.2.2.2.1.length + r2.1.length ≤ 140737488355328 ∧ (r1.2.1.2.2.2.2.2.2.2.1.length + r2.1.length) * 136 ≤ 140737488355328 then
  (log_Last_w (r1.2.1.1, r1.2.1.2.1, r1.2.1.2.2.1, r1.2.1.2.2.2.1, r1.2.1.2.2.2.2.1, r1.2.1.2.2.2.2.2.1, r1.2.1.2.2.2.2.2.2.1, (r1.2.1.2.2.2.2.2.2.2.1 ++ r2.1), ())).bind fun r3 =>
  some (r3.1, (r3.2.1, r2.2.1, (), (), ()))
  else none)
  else
  (log_Last_w r1.2.1).bind fun r4 =>
  some (r4.1, (r4.2.1, h1, (), (), ())))
def log_Put_ce : CEp where
  f := 84
  args := [.one (.ptr 0 0), .one (.as 8 1)]
  hs := [.obj 79 [.int .i64, .int .i64, .sl 0, .sl 0, .sl 0, .sl 0, .bool, .own 8 2], .arr 83 8 true, .row 83 7]
  res := .val (.one (.int .i64))
  outs := [.obj 79 [.int .i64, .int .i64, .sl 0, .sl 0, .sl 0, .sl 0, .bool, .own 8 3], .arr 83 8 true, .dead, .row 83 7]
  m := fun d dh => log_Put d.2.1 dh.1 dh.2.1
  ok := ce_ok mixedP Tryz.func84 (by kernel_rfl) (orcOf_ok log_Put_tb) (dr := log_Put_dr) (lps := lpsOf lt0) (lps_fn (no_loop (by kernel_rfl))) (fun d dh => by kernel_rfl)

def raft_put_tb : List (CEp) := [log_Last_w_ce, raft_written_ce, log_Put_ce]
def raft_put_l1 (a : (Unit × (Nat × Nat × Nat) × Int × Int × Unit) × ((Int × Int × Int × Int × Int × Int × Int × Int × Int × Unit × LI × Int × Int × Int × Int × Int × Int × Int × Int × Int × Int × Int × Int × Int × Int × Int × Int × Int × Int × Int × Int × Int × Int × Int × Int × Bool × Int × Unit) × (List (DEntry)) × (Int × Int × LI × LI × LI × LI × Bool × (List (DEntry)) × Unit) × Unit × Unit × Unit)) : Option (((Unit × (Nat × Nat × Nat) × Int × Int × Unit) × ((Int × Int × Int × Int × Int × Int × Int × Int × Int × Unit × LI × Int × Int × Int × Int × Int × Int × Int × Int × Int × Int × Int × Int × Int × Int × Int × Int × Int × Int × Int × Int × Int × Int × Int × Int × Bool × Int × Unit) × (List (DEntry)) × (Int × Int × LI × LI × LI × LI × Bool × (List (DEntry)) × Unit) × Unit × Unit × Unit)) ⊕ (((Unit × (Nat × Nat × Nat) × Unit) × ((Int × Int × Int × Int × Int × Int × Int × Int × Int × Unit × LI × Int × Int × Int × Int × Int × Int × Int × Int × Int × Int × Int × Int × Int × Int × Int × Int × Int × Int × Int × Int × Int × Int × Int × Int × Bool × Int × Unit) × (List (DEntry)) × (Int × Int × LI × LI × LI × LI × Bool × (List (DEntry)) × Unit) × Unit × Unit × Unit × Unit × Unit)))) :=
  (bif (decide ((a.1.2.2.2.1 : Int) < a.1.2.2.1)) then
  (if 0 ≤ (a.1.2.2.2.1 : Int) ∧ (a.1.2.2.2.1 : Int) < ((a.1.2.1.2.1 : Nat) : Int) then
  (a.2.2.1[(a.1.2.1.1 + (a.1.2.2.2.1 : Int).toNat)]?).bind fun e1 =>
  let y2 : List (DEntry) := (a.2.2.1.set (a.1.2.1.1 + (a.1.2.2.2.1 : Int).toNat) (⟨a.2.1.2.1, e1.kind, e1.command, e1.config⟩ : DEntry))
  some (.inl (((), (a.1.2.1.1, a.1.2.1.2.1, a.1.2.1.2.2), a.1.2.2.1, (IntKind.i64.wrap (a.1.2.2.2.1 + 1)), ()), (a.2.1, y2, a.2.2.2.1, (), (), ())))
  else none)
  else
  some (.inr (((), (a.1.2.1.1, a.1.2.1.2.1, a.1.2.1.2.2), ()), (a.2.1, a.2.2.1, a.2.2.2.1, (), (), (), (), ()))))
def raft_put_e1 : LEp := ⟨2, [0, 1, 7, 8], [.one (.ptr 0 0), .one (.as 8 1), .one (.int .i64), .one (.int .i64)], [.obj 67 (sh0 2 3), .arr 83 8 true, .obj 79 [.int .i64, .int .i64, .sl 0, .sl 0, .sl 0, .sl 0, .bool, .own 8 4], .row 3 1, .row 83 7], [⟨.exit 0, [0, 1], [.one (.ptr 0 0), .one (.as 8 1)], [.obj 67 (sh0 2 5), .arr 83 8 true, .obj 79 [.int .i64, .int .i64, .sl 0, .sl 0, .sl 0, .sl 0, .bool, .own 8 6], .dead, .dead, .row 3 1, .row 83 7]⟩], raft_put_l1⟩
def raft_put_lt : List (LEp) := [raft_put_e1]
theorem raft_put_e1_ok : LeOk raft_put_e1 (nthL (bodyOf Tryz.f37) 0) := fun A env h k z hk => le_ok (E := raft_put_e1) (orcOf_ok raft_put_tb) (dr := dr0) (lps := lpsOf raft_put_lt) (no_loop (by kernel_rfl)) (fun a => by kernel_rfl) env h k z hk
def raft_put (x1 : Nat × Nat × Nat) (h0 : Int × Int × Int × Int × Int × Int × Int × Int × Int × Unit × LI × Int × Int × Int × Int × Int × Int × Int × Int × Int × Int × Int × Int × Int × Int × Int × Int × Int × Int × Int × Int × Int × Int × Int × Int × Bool × Int × Unit) (h1 : List (DEntry)) (h2 : Int × Int × LI × LI × LI × LI × Bool × (List (DEntry)) × Unit) : Option (Int × ((Int × Int × Int × Int × Int × Int × Int × Int × Int × Unit × LI × Int × Int × Int × Int × Int × Int × Int × Int × Int × Int × Int × Int × Int × Int × Int × Int × Int × Int × Int × Int × Int × Int × Int × Int × Bool × Int × Unit) × (List (DEntry)) × (Int × Int × LI × LI × LI × LI × Bool × (List (DEntry)) × Unit) × Unit × Unit × Unit × Unit × Unit)) :=
  (loopM raft_put_l1 (((), (x1.1, x1.2.1, x1.2.2), ((x1.2.1 : Nat) : Int), 0, ()), (h0, h1, h2, (), (), ()))).bind fun b1 =>
  (log_Last_w b1.2.2.2.1).bind fun r2 =>
  (raft_written (IntKind.i64.wrap (r2.1 + 1)) b1.2.1 r2.2.1).bind fun r3 =>
  (log_Put (b1.1.2.1.1, b1.1.2.1.2.1, b1.1.2.1.2.2) r3.2.2.1 b1.2.2.1).bind fun r4 =>
  some (r4.1, (r3.2.1, r4.2.2.1, r4.2.1, (), (), (), (), ()))
def raft_put_ce : CEp where
  f := 37
  args := [.one (.ptr 0 0), .one (.as 8 1)]
  hs := [.obj 67 (sh0 2 3), .arr 83 8 true, .obj 79 [.int .i64, .int .i64, .sl 0, .sl 0, .sl 0, .sl 0, .bool, .own 8 4], .row 3 1, .row 83 7]
  res := .val (.one (.int .i64))
  outs := [.obj 67 (sh0 2 5), .arr 83 8 true, .obj 79 [.int .i64, .int .i64, .sl 0, .sl 0, .sl 0, .sl 0, .bool, .own 8 6], .dead, .dead, .row 3 1, .row 83 7]
  m := fun d dh => raft_put d.2.1 dh.1 dh.2.1 dh.2.2.1
  ok := ce_ok mixedP Tryz.func37 (by kernel_rfl) (orcOf_ok raft_put_tb) (dr := dr0) (lps := lpsOf raft_put_lt) (lps_fn (lps_of (n := 1) (by kernel_rfl) fun i hi => match i, hi with | 0, _ => lp_ok (E := raft_put_e1) (by kernel_rfl) raft_put_e1_ok)) (fun d dh => by kernel_rfl)

def raft_term_w_tb : List (CEp) := [log_Term_w_ce]
def raft_term_w_r (x1 : Int) (h0 : Int × Int × Int × Int × Int × Int × Int × Int × Int × Unit × LI × Int × Int × Int × Int × Int × Int × Int × Int × Int × Int × Int × Int × Int × Int × Int × Int × Int × Int × Int × Int × Int × Int × Int × Int × Bool × Int × Unit) (h1 : Int × Int × LI × LI × LI × LI × Bool × (List (DEntry)) × Unit) : Option Int :=
  (log_Term_w x1 h1).bind fun r1 =>
  (bif (!r1.1.2.1) then
  some (-1)
  else
  some r1.1.1)
theorem raft_term_w_tr : ∀ (d : VsD Ty [.one (.ptr 0 0), .one (.int .i64)]) (dh : HsD Ty [.obj 67 (sh0 1 2), .obj 79 [.int .i64, .int .i64, .sl 0, .sl 0, .sl 0, .sl 0, .bool, .own 8 3], .row 3 1, .row 83 7]) r, raft_term_w_r d.2.1 dh.1 dh.2.1 = some r → Tr CT Tryz.prog (fun _ => False) 34 (stVs CT [.one (.ptr 0 0), .one (.int .i64)] d) (stHs CT [.obj 67 (sh0 1 2), .obj 79 [.int .i64, .int .i64, .sl 0, .sl 0, .sl 0, .sl 0, .bool, .own 8 3], .row 3 1, .row 83 7] dh) ((.val (.one (.int .i64)) : Rs).st CT r) (stHs CT [.obj 67 (sh0 1 2), .obj 79 [.int .i64, .int .i64, .sl 0, .sl 0, .sl 0, .sl 0, .bool, .own 8 3], .row 3 1, .row 83 7] dh) :=
  ro_ok (res := .val (.one (.int .i64))) (dr := dr0) mixedP Tryz.func34 (by kernel_rfl) (orcOf_ok raft_term_w_tb) (fun d dh => by kernel_rfl) (fun d => rfl)
def raft_term_w (x1 : Int) (h0 : Int × Int × Int × Int × Int × Int × Int × Int × Int × Unit × LI × Int × Int × Int × Int × Int × Int × Int × Int × Int × Int × Int × Int × Int × Int × Int × Int × Int × Int × Int × Int × Int × Int × Int × Int × Bool × Int × Unit) (h1 : Int × Int × LI × LI × LI × LI × Bool × (List (DEntry)) × Unit) : Option (Int × ((Int × Int × Int × Int × Int × Int × Int × Int × Int × Unit × LI × Int × Int × Int × Int × Int × Int × Int × Int × Int × Int × Int × Int × Int × Int × Int × Int × Int × Int × Int × Int × Int × Int × Int × Int × Bool × Int × Unit) × (Int × Int × LI × LI × LI × LI × Bool × (List (DEntry)) × Unit) × Unit × Unit × Unit)) := (raft_term_w_r x1 h0 h1).bind fun r => some (r, (h0, h1, (), (), ()))
def raft_term_w_ce : CEp where
  f := 34
  args := [.one (.ptr 0 0), .one (.int .i64)]
  hs := [.obj 67 (sh0 1 2), .obj 79 [.int .i64, .int .i64, .sl 0, .sl 0, .sl 0, .sl 0, .bool, .own 8 3], .row 3 1, .row 83 7]
  res := .val (.one (.int .i64))
  outs := [.obj 67 (sh0 1 2), .obj 79 [.int .i64, .int .i64, .sl 0, .sl 0, .sl 0, .sl 0, .bool, .own 8 3], .row 3 1, .row 83 7]
  m := fun d dh => raft_term_w d.2.1 dh.1 dh.2.1
  ok := fun d dh r hr => by
    unfold raft_term_w at hr
    obtain ⟨g, h1, h2⟩ := bind_some' hr
    injection h2 with h2
    subst h2
    exact (raft_term_w_tr d dh g h1).moreU
  ro := true
  roOk := fun _ d dh r hr => by
    unfold raft_term_w at hr
    obtain ⟨g, h1, h2⟩ := bind_some' hr
    injection h2 with h2
    subst h2
    exact raft_term_w_tr d dh g h1

def raft_those_w (h0 : Int × Int × Int × Int × Int × Int × Int × Int × Int × Unit × LI × Int × Int × Int × Int × Int × Int × Int × Int × Int × Int × Int × Int × Int × Int × Int × Int × Int × Int × Int × Int × Int × Int × Int × Int × Bool × Int × Unit) (h1 : Int) (h2 : Int × Int × LI × LI × LI × LI × Bool × (List (DEntry)) × Unit) : Option ((List Int) × ((Int × Int × Int × Int × Int × Int × Int × Int × Int × Unit × LI × Int × Int × Int × Int × Int × Int × Int × Int × Int × Int × Int × Int × Int × Int × Int × Int × Int × Int × Int × Int × Int × Int × Int × Int × Bool × Int × Unit) × Int × (Int × Int × LI × LI × LI × LI × Bool × (List (DEntry)) × Unit) × Unit × Unit × Unit)) := some (thoseN h0.1 h1 (fun n => match n with | 1 => h0.2.2.2.2.2.2.2.2.2.2.2.2.2.2.2.2.1 | 2 => h0.2.2.2.2.2.2.2.2.2.2.2.2.2.2.2.2.2.2.2.2.1 | 3 => h0.2.2.2.2.2.2.2.2.2.2.2.2.2.2.2.2.2.2.2.2.2.2.2.2.1 | 4 => h0.2.2.2.2.2.2.2.2.2.2.2.2.2.2.2.2.2.2.2.2.2.2.2.2.2.2.2.2.1 | _ => h0.2.2.2.2.2.2.2.2.2.2.2.2.2.2.2.2.2.2.2.2.2.2.2.2.2.2.2.2.2.2.2.2.1) 5, (h0, h1, h2, (), (), ()))
theorem raft_those_w_tr (d : VsD Ty [.one (.ptr 0 0), .one (.clo 139 [1])]) (dh : HsD Ty [.obj 67 (sh0 2 3), .cobj 3 0, .obj 79 [.int .i64, .int .i64, .sl 0, .sl 0, .sl 0, .sl 0, .bool, .own 8 4], .row 3 1, .row 83 7]) : Tr CT Tryz.prog (fun _ => False) 99 (stVs CT [.one (.ptr 0 0), .one (.clo 139 [1])] d) (stHs CT [.obj 67 (sh0 2 3), .cobj 3 0, .obj 79 [.int .i64, .int .i64, .sl 0, .sl 0, .sl 0, .sl 0, .bool, .own 8 4], .row 3 1, .row 83 7] dh) (.sl 0 (thoseN dh.1.1 dh.2.1 (fun n => match n with | 1 => dh.1.2.2.2.2.2.2.2.2.2.2.2.2.2.2.2.2.1 | 2 => dh.1.2.2.2.2.2.2.2.2.2.2.2.2.2.2.2.2.2.2.2.2.1 | 3 => dh.1.2.2.2.2.2.2.2.2.2.2.2.2.2.2.2.2.2.2.2.2.2.2.2.2.1 | 4 => dh.1.2.2.2.2.2.2.2.2.2.2.2.2.2.2.2.2.2.2.2.2.2.2.2.2.2.2.2.2.1 | _ => dh.1.2.2.2.2.2.2.2.2.2.2.2.2.2.2.2.2.2.2.2.2.2.2.2.2.2.2.2.2.2.2.2.2.1) 5) none) (stHs CT [.obj 67 (sh0 2 3), .cobj 3 0, .obj 79 [.int .i64, .int .i64, .sl 0, .sl 0, .sl 0, .sl 0, .bool, .own 8 4], .row 3 1, .row 83 7] dh) := by
  intro ρ σ vs hs H
  obtain ⟨a0, b0, rfl, q1, q2⟩ := svs2.1 hs
  obtain ⟨pb, rfl, p1, p2⟩ := sv_ptr.1 q1
  obtain ⟨bs, rfl, p3⟩ := sv_clo.1 q2
  obtain ⟨b', acs, e1, e2, e3, e4⟩ := H.it 0 _ rfl
  rw [p2] at e1
  have e1 := ptr_inj e1
  subst e1
  obtain ⟨ib, bcs, f1, f2, f3, f4⟩ := H.it 1 _ rfl
  obtain rfl : bs = [ib] := ptrs1 p3 f1
  obtain rfl : bcs = [vI dh.2.1] := by
    obtain ⟨a, l, rfl, h1, h2⟩ := SVs.to f4
    rw [sv_int.1 h1, SVs_nil.1 h2]
    rfl
  have hlen := e4.len
  have cell : ∀ {j : Nat} {x : Int}, (stCs (T := Ty) _ dh.1)[j]? = some (XV.int .i64 x) → acs[j]? = some (vI x) := fun {j x} hx => by
    obtain ⟨a, g1, g2⟩ := e4.get hx
    rw [g1, sv_int.1 g2]
    rfl
  refine those_ok (id := dh.1.1) (iv := dh.2.1) (ms := (fun n => match n with | 1 => dh.1.2.2.2.2.2.2.2.2.2.2.2.2.2.2.2.2.1 | 2 => dh.1.2.2.2.2.2.2.2.2.2.2.2.2.2.2.2.2.2.2.2.2.1 | 3 => dh.1.2.2.2.2.2.2.2.2.2.2.2.2.2.2.2.2.2.2.2.2.2.2.2.2.1 | 4 => dh.1.2.2.2.2.2.2.2.2.2.2.2.2.2.2.2.2.2.2.2.2.2.2.2.2.2.2.2.2.1 | _ => dh.1.2.2.2.2.2.2.2.2.2.2.2.2.2.2.2.2.2.2.2.2.2.2.2.2.2.2.2.2.2.2.2.2.1)) e2 (by rw [hlen]; rfl) (cell rfl) (fun n h1 h5 => ?_) f2 fun v τ ho hX => ?_
  · match n, h1, h5 with
    | 1, _, _ => exact cell rfl
    | 2, _, _ => exact cell rfl
    | 3, _, _ => exact cell rfl
    | 4, _, _ => exact cell rfl
    | 5, _, _ => exact cell rfl
  · exact ⟨ρ, own_sv ho (by have := thoseN_len dh.1.1 dh.2.1 (fun n => match n with | 1 => dh.1.2.2.2.2.2.2.2.2.2.2.2.2.2.2.2.2.1 | 2 => dh.1.2.2.2.2.2.2.2.2.2.2.2.2.2.2.2.2.2.2.2.2.1 | 3 => dh.1.2.2.2.2.2.2.2.2.2.2.2.2.2.2.2.2.2.2.2.2.2.2.2.2.1 | 4 => dh.1.2.2.2.2.2.2.2.2.2.2.2.2.2.2.2.2.2.2.2.2.2.2.2.2.2.2.2.2.1 | _ => dh.1.2.2.2.2.2.2.2.2.2.2.2.2.2.2.2.2.2.2.2.2.2.2.2.2.2.2.2.2.2.2.2.2.1) 5; omega) (ints0_sv _), H.toExt0 hX, ⟨Nat.le_refl _, fun _ _ => rfl, ⟨fun c k _ hk => hX.keep _ _ hk, hX.used⟩, fun b hb => .inl hb⟩⟩
def raft_those_w_ce : CEp where
  f := 99
  args := [.one (.ptr 0 0), .one (.clo 139 [1])]
  hs := [.obj 67 (sh0 2 3), .cobj 3 0, .obj 79 [.int .i64, .int .i64, .sl 0, .sl 0, .sl 0, .sl 0, .bool, .own 8 4], .row 3 1, .row 83 7]
  res := .val (.one (.sl 0))
  outs := [.obj 67 (sh0 2 3), .cobj 3 0, .obj 79 [.int .i64, .int .i64, .sl 0, .sl 0, .sl 0, .sl 0, .bool, .own 8 4], .row 3 1, .row 83 7]
  m := fun d dh => raft_those_w dh.1 dh.2.1 dh.2.2.1
  ok := fun d dh r hr => by
    injection hr with hr
    subst hr
    exact (raft_those_w_tr d dh).moreU
  ro := true
  roOk := fun _ d dh r hr => by
    injection hr with hr
    subst hr
    exact raft_those_w_tr d dh

def raft_agreed_dr : Nat → Nat → DrA
  | 3, _ => ⟨[1, 2, 3, 4, 0, 5, 6], [[], [], [1], [1, 2], [1, 2, 3], [1, 2, 3, 4], (List.range 6)], [], [], [], false, []⟩
  | 5, _ => ⟨[0, 3, 4, 5, 6, 1, 7, 2, 8, 9, 11, 12, 10, 13, 14, 15], [[], [], [0, 1], [], [3], [3, 4], [3, 4, 5], [3, 4, 5, 6], (List.range 8), (List.range 9), (List.range 10), (List.range 10), (List.range 10), (List.range 10 ++ [11, 12]), (List.range 14), (List.range 15)], [7, 10], [2, 13], [0, 1], false, []⟩
  | _, _ => ⟨[], [], [], [], [], false, []⟩
def raft_agreed_tb : List (CEp) := [raft_config_ce, log_Last_w_ce, raft_term_w_ce, raft_those_w_ce, quorum_Agrees_ce]
def raft_agreed_l1 (a : (Unit × Unit × Unit × Unit) × ((Int × Int × Int × Int × Int × Int × Int × Int × Int × Unit × LI × Int × Int × Int × Int × Int × Int × Int × Int × Int × Int × Int × Int × Int × Int × Int × Int × Int × Int × Int × Int × Int × Int × Int × Int × Bool × Int × Unit) × (DConfig) × Int × (Int × Int × LI × LI × LI × LI × Bool × (List (DEntry)) × Unit) × Unit × Unit × Unit)) : Option (((Unit × Unit × Unit × Unit) × ((Int × Int × Int × Int × Int × Int × Int × Int × Int × Unit × LI × Int × Int × Int × Int × Int × Int × Int × Int × Int × Int × Int × Int × Int × Int × Int × Int × Int × Int × Int × Int × Int × Int × Int × Int × Bool × Int × Unit) × (DConfig) × Int × (Int × Int × LI × LI × LI × LI × Bool × (List (DEntry)) × Unit) × Unit × Unit × Unit)) ⊕ (((Int × Unit) × ((Int × Int × Int × Int × Int × Int × Int × Int × Int × Unit × LI × Int × Int × Int × Int × Int × Int × Int × Int × Int × Int × Int × Int × Int × Int × Int × Int × Int × Int × Int × Int × Int × Int × Int × Int × Bool × Int × Unit) × (DConfig) × Int × (Int × Int × LI × LI × LI × LI × Bool × (List (DEntry)) × Unit) × Unit × Unit × Unit × Unit × Unit)) ⊕ ((Unit × Unit) × ((Int × Int × Int × Int × Int × Int × Int × Int × Int × Unit × LI × Int × Int × Int × Int × Int × Int × Int × Int × Int × Int × Int × Int × Int × Int × Int × Int × Int × Int × Int × Int × Int × Int × Int × Int × Bool × Int × Unit) × (DConfig) × Int × (Int × Int × LI × LI × LI × LI × Bool × (List (DEntry)) × Unit) × Unit × Unit × Unit × Unit × Unit)))) :=
  (bif (decide ((a.2.1.2.2.2.2.2.1 : Int) < a.2.2.2.1)) then
  (raft_term_w a.2.2.2.1 a.2.1 a.2.2.2.2.1).bind fun r1 =>
  (bif (decide ((r1.1 : Int) = a.2.1.2.1)) then
  (raft_those_w r1.2.1 a.2.2.2.1 r1.2.2.1).bind fun r2 =>
  (quorum_Agrees a.2.2.1 r2.1).bind fun r3 =>
  (bif r3.1 then
  some (.inr (.inl ((r2.2.2.1, ()), (r2.2.1, a.2.2.1, r2.2.2.1, r2.2.2.2.1, (), (), (), (), ()))))
  else
  none)
  else
  none)
  else
  some (.inr (.inr (((), ()), (a.2.1, a.2.2.1, a.2.2.2.1, a.2.2.2.2.1, (), (), (), (), ())))))
def raft_agreed_e1 : LEp := ⟨3, [0, 3, 4], [.one (.ptr 0 0), .one (.ptr 1 0), .one (.ptr 2 0)], [.obj 67 (sh0 3 4), .cobj 42 7, .cobj 3 0, .obj 79 [.int .i64, .int .i64, .sl 0, .sl 0, .sl 0, .sl 0, .bool, .own 8 5], .row 3 1, .row 83 7], [⟨.ret, [2], [.one (.int .i64)], [.obj 67 (sh0 3 6), .cobj 42 7, .cobj 3 0, .obj 79 [.int .i64, .int .i64, .sl 0, .sl 0, .sl 0, .sl 0, .bool, .own 8 7], .dead, .dead, .row 3 1, .row 83 7]⟩, ⟨.exit 0, [0], [.one (.ptr 0 0)], [.obj 67 (sh0 3 6), .cobj 42 7, .cobj 3 0, .obj 79 [.int .i64, .int .i64, .sl 0, .sl 0, .sl 0, .sl 0, .bool, .own 8 7], .dead, .dead, .row 3 1, .row 83 7]⟩], raft_agreed_l1⟩
def raft_agreed_lt : List (LEp) := [raft_agreed_e1]
theorem raft_agreed_e1_ok : LeOk raft_agreed_e1 (nthL (bodyOf Tryz.f85) 0) := fun A env h k z hk => le_ok (E := raft_agreed_e1) (orcOf_ok raft_agreed_tb) (dr := raft_agreed_dr) (lps := lpsOf raft_agreed_lt) (no_loop (by kernel_rfl)) (fun a => by kernel_rfl) env h k z hk
def raft_agreed (h0 : Int × Int × Int × Int × Int × Int × Int × Int × Int × Unit × LI × Int × Int × Int × Int × Int × Int × Int × Int × Int × Int × Int × Int × Int × Int × Int × Int × Int × Int × Int × Int × Int × Int × Int × Int × Bool × Int × Unit) (h1 : Int × Int × LI × LI × LI × LI × Bool × (List (DEntry)) × Unit) : Option (Int × ((Int × Int × Int × Int × Int × Int × Int × Int × Int × Unit × LI × Int × Int × Int × Int × Int × Int × Int × Int × Int × Int × Int × Int × Int × Int × Int × Int × Int × Int × Int × Int × Int × Int × Int × Int × Bool × Int × Unit) × (Int × Int × LI × LI × LI × LI × Bool × (List (DEntry)) × Unit) × Unit × Unit × Unit × Unit × Unit)) :=
  (raft_config h0 h1).bind fun r1 =>
  (log_Last_w r1.2.2.1).bind fun r2 =>
  (loopM raft_agreed_l1 (((), (), (), ()), (r1.2.1, r1.1, r2.1, r2.2.1, (), (), ()))).bind fun b3 =>
  (match b3 with
  | .inl b4 =>
  some (b4.1.1, (b4.2.1, b4.2.2.2.2.1, (), (), (), (), ()))
  | .inr b5 =>
  some (b5.2.1.2.2.2.2.2.1, (b5.2.1, b5.2.2.2.2.1, (), (), (), (), ())))
def raft_agreed_ce : CEp where
  f := 85
  args := [.one (.ptr 0 0)]
  hs := [.obj 67 (sh0 1 2), .obj 79 [.int .i64, .int .i64, .sl 0, .sl 0, .sl 0, .sl 0, .bool, .own 8 3], .row 3 1, .row 83 7]
  res := .val (.one (.int .i64))
  outs := [.obj 67 (sh0 1 4), .obj 79 [.int .i64, .int .i64, .sl 0, .sl 0, .sl 0, .sl 0, .bool, .own 8 5], .dead, .dead, .row 3 1, .row 83 7]
  m := fun d dh => raft_agreed dh.1 dh.2.1
  ok := ce_ok mixedP Tryz.func85 (by kernel_rfl) (orcOf_ok raft_agreed_tb) (dr := raft_agreed_dr) (lps := lpsOf raft_agreed_lt) (lps_fn (lps_of (n := 1) (by kernel_rfl) fun i hi => match i, hi with | 0, _ => lp_ok (E := raft_agreed_e1) (by kernel_rfl) raft_agreed_e1_ok)) (fun d dh => by kernel_rfl)

def quorum_Next_dr : Nat → Nat → DrA
  | 7, _ => ⟨[0, 1, 4, 5, 8, 9, 2, 6, 10, 3, 7, 11, 12, 13, 14], [[], [0], [0, 1], [0, 1, 2], [], [4], [4, 5], (List.range 7), [], [8], [8, 9], (List.range 11), (List.range 12), (List.range 13), (List.range 14)], [6, 10], [3, 7], [2], false, []⟩
  | _, _ => ⟨[], [], [], [], [], false, []⟩
def quorum_Next_tb : List (CEp) := [quorum_right_ce, quorum_changes_ce, quorum_joint_ce, clone81_ce]
def quorum_Next (x0 : DConfig) : Option (((DConfig) × Bool × Unit) × Unit) :=
  (quorum_right (⟨x0⟩ : DGroup)).bind fun r1 =>
  (bif (!r1.1) then
  some (((⟨[], [], [], []⟩ : DConfig), false, ()), ())
  else
  (quorum_changes (⟨x0⟩ : DGroup)).bind fun r2 =>
  (bif (!r2.1) then
  some (((⟨[], [], [], []⟩ : DConfig), false, ()), ())
  else
  (quorum_joint (⟨x0⟩ : DGroup)).bind fun r3 =>
  (bif r3.1 then
  (clone81 x0.voters).bind fun r4 =>
  some (((⟨r4.1, [], [], []⟩ : DConfig), true, ()), ())
  else
  (clone81 x0.want).bind fun r5 =>
  (clone81 x0.voters).bind fun r6 =>
  (clone81 x0.want).bind fun r7 =>
  some (((⟨r5.1, r6.1, [], r7.1⟩ : DConfig), true, ()), ()))))
def quorum_Next_ce : CEp where
  f := 86
  args := [.cod 7]
  hs := []
  res := .tup [.cod 7, .one (.bool)]
  outs := []
  m := fun d dh => quorum_Next d.1
  ok := ce_ok mixedP Tryz.func86 (by kernel_rfl) (orcOf_ok quorum_Next_tb) (dr := quorum_Next_dr) (lps := lpsOf lt0) (lps_fn (no_loop (by kernel_rfl))) (fun d dh => by kernel_rfl)

def raft_rests_tb : List (CEp) := []
def raft_rests (x1 : Int) (h0 : Int × Int × Int × Int × Int × Int × Int × Int × Int × Unit × LI × Int × Int × Int × Int × Int × Int × Int × Int × Int × Int × Int × Int × Int × Int × Int × Int × Int × Int × Int × Int × Int × Int × Int × Int × Bool × Int × Unit) (h1 : Int × Int × LI × LI × LI × LI × Bool × (List (DEntry)) × Unit) : Option (Unit × ((Int × Int × Int × Int × Int × Int × Int × Int × Int × Unit × LI × Int × Int × Int × Int × Int × Int × Int × Int × Int × Int × Int × Int × Int × Int × Int × Int × Int × Int × Int × Int × Int × Int × Int × Int × Bool × Int × Unit) × (Int × Int × LI × LI × LI × LI × Bool × (List (DEntry)) × Unit) × Unit × Unit × Unit × Unit × Unit)) :=
  some ((), ((h0.1, h0.2.1, h0.2.2.1, 1, x1, h0.2.2.2.2.2.1, h0.2.2.2.2.2.2.1, h0.2.2.2.2.2.2.2.1, h0.2.2.2.2.2.2.2.2.1, (), h0.2.2.2.2.2.2.2.2.2.2.1, h0.2.2.2.2.2.2.2.2.2.2.2.1, h0.2.2.2.2.2.2.2.2.2.2.2.2.1, h0.2.2.2.2.2.2.2.2.2.2.2.2.2.1, h0.2.2.2.2.2.2.2.2.2.2.2.2.2.2.1, h0.2.2.2.2.2.2.2.2.2.2.2.2.2.2.2.1, h0.2.2.2.2.2.2.2.2.2.2.2.2.2.2.2.2.1, h0.2.2.2.2.2.2.2.2.2.2.2.2.2.2.2.2.2.1, h0.2.2.2.2.2.2.2.2.2.2.2.2.2.2.2.2.2.2.1, h0.2.2.2.2.2.2.2.2.2.2.2.2.2.2.2.2.2.2.2.1, h0.2.2.2.2.2.2.2.2.2.2.2.2.2.2.2.2.2.2.2.2.1, h0.2.2.2.2.2.2.2.2.2.2.2.2.2.2.2.2.2.2.2.2.2.1, h0.2.2.2.2.2.2.2.2.2.2.2.2.2.2.2.2.2.2.2.2.2.2.1, h0.2.2.2.2.2.2.2.2.2.2.2.2.2.2.2.2.2.2.2.2.2.2.2.1, h0.2.2.2.2.2.2.2.2.2.2.2.2.2.2.2.2.2.2.2.2.2.2.2.2.1, h0.2.2.2.2.2.2.2.2.2.2.2.2.2.2.2.2.2.2.2.2.2.2.2.2.2.1, h0.2.2.2.2.2.2.2.2.2.2.2.2.2.2.2.2.2.2.2.2.2.2.2.2.2.2.1, h0.2.2.2.2.2.2.2.2.2.2.2.2.2.2.2.2.2.2.2.2.2.2.2.2.2.2.2.1, h0.2.2.2.2.2.2.2.2.2.2.2.2.2.2.2.2.2.2.2.2.2.2.2.2.2.2.2.2.1, h0.2.2.2.2.2.2.2.2.2.2.2.2.2.2.2.2.2.2.2.2.2.2.2.2.2.2.2.2.2.1, h0.2.2.2.2.2.2.2.2.2.2.2.2.2.2.2.2.2.2.2.2.2.2.2.2.2.2.2.2.2.2.1, h0.2.2.2.2.2.2.2.2.2.2.2.2.2.2.2.2.2.2.2.2.2.2.2.2.2.2.2.2.2.2.2.1, h0.2.2.2.2.2.2.2.2.2.2.2.2.2.2.2.2.2.2.2.2.2.2.2.2.2.2.2.2.2.2.2.2.1, h0.2.2.2.2.2.2.2.2.2.2.2.2.2.2.2.2.2.2.2.2.2.2.2.2.2.2.2.2.2.2.2.2.2.1, h0.2.2.2.2.2.2.2.2.2.2.2.2.2.2.2.2.2.2.2.2.2.2.2.2.2.2.2.2.2.2.2.2.2.2.1, h0.2.2.2.2.2.2.2.2.2.2.2.2.2.2.2.2.2.2.2.2.2.2.2.2.2.2.2.2.2.2.2.2.2.2.2.1, h0.2.2.2.2.2.2.2.2.2.2.2.2.2.2.2.2.2.2.2.2.2.2.2.2.2.2.2.2.2.2.2.2.2.2.2.2.1, ()), h1, (), (), (), (), ()))
def raft_rests_ce : CEp where
  f := 56
  args := [.one (.ptr 0 0), .one (.int .i64)]
  hs := [.obj 67 (sh0 1 2), .obj 79 [.int .i64, .int .i64, .sl 0, .sl 0, .sl 0, .sl 0, .bool, .own 8 3], .row 3 1, .row 83 7]
  res := .tup []
  outs := [.obj 67 (sh0 1 4), .obj 79 [.int .i64, .int .i64, .sl 0, .sl 0, .sl 0, .sl 0, .bool, .own 8 5], .dead, .dead, .row 3 1, .row 83 7]
  m := fun d dh => raft_rests d.2.1 dh.1 dh.2.1
  ok := ceO Tryz.func56 (by kernel_rfl) raft_rests_tb (by kernel_rfl) fun d dh => by kernel_rfl

def raft_commit_dr : Nat → Nat → DrA
  | 3, _ => ⟨(List.range 5 ++ [7, 8, 9, 10, 5, 11, 6, 12, 13, 14, 15, 16, 17, 18, 19, 20, 21]), [[], [], [1], [1, 2], [1, 2, 3], [1, 2, 3, 4], (List.range 6), [], [7], [7, 8], [7, 8, 9], [7, 8, 9, 10], (List.range 12), (List.range 13), (List.range 14), (List.range 14), (List.range 14 ++ [15]), (List.range 14 ++ [15, 16]), (List.range 14 ++ [15, 16, 17]), (List.range 14 ++ [15, 16, 17, 18]), (List.range 20), (List.range 21)], [11], [6], [0], false, []⟩
  | 9, _ => ⟨(List.range 5 ++ [6, 7, 8, 9, 5, 10, 11, 12, 13]), [[], [0], [0, 1], [0, 1, 2], [0, 1, 2, 3], (List.range 5), (List.range 5), (List.range 5 ++ [6]), (List.range 5 ++ [6, 7]), (List.range 5 ++ [6, 7, 8]), (List.range 5 ++ [6, 7, 8, 9]), (List.range 11), (List.range 12), (List.range 13)], [], [], [], false, []⟩
  | _, _ => ⟨[], [], [], [], [], false, []⟩
def raft_commit_tb : List (CEp) := [raft_agreed_ce, log_Config_ce, raft_term_w_ce, quorum_Next_ce, quorum_Votes_ce, raft_rests_ce]
def raft_commit_l1 (a : (Unit × Bool × Unit) × ((Int × Int × Int × Int × Int × Int × Int × Int × Int × Unit × LI × Int × Int × Int × Int × Int × Int × Int × Int × Int × Int × Int × Int × Int × Int × Int × Int × Int × Int × Int × Int × Int × Int × Int × Int × Bool × Int × Unit) × (Int × Int × LI × LI × LI × LI × Bool × (List (DEntry)) × Unit) × Unit × Unit × Unit)) : Option (((Unit × Bool × Unit) × ((Int × Int × Int × Int × Int × Int × Int × Int × Int × Unit × LI × Int × Int × Int × Int × Int × Int × Int × Int × Int × Int × Int × Int × Int × Int × Int × Int × Int × Int × Int × Int × Int × Int × Int × Int × Bool × Int × Unit) × (Int × Int × LI × LI × LI × LI × Bool × (List (DEntry)) × Unit) × Unit × Unit × Unit)) ⊕ (((Bool × Unit) × ((Int × Int × Int × Int × Int × Int × Int × Int × Int × Unit × LI × Int × Int × Int × Int × Int × Int × Int × Int × Int × Int × Int × Int × Int × Int × Int × Int × Int × Int × Int × Int × Int × Int × Int × Int × Bool × Int × Unit) × (Int × Int × LI × LI × LI × LI × Bool × (List (DEntry)) × Unit) × Unit × Unit × Unit × Unit × Unit)))) :=
  (raft_agreed a.2.1 a.2.2.1).bind fun r1 =>
  (log_Config r1.2.2.1).bind fun r2 =>
  (raft_term_w r1.1 (r1.2.1.1, r1.2.1.2.1, r1.2.1.2.2.1, r1.2.1.2.2.2.1, r1.2.1.2.2.2.2.1, r1.1, r1.2.1.2.2.2.2.2.2.1, r1.2.1.2.2.2.2.2.2.2.1, r1.2.1.2.2.2.2.2.2.2.2.1, (), r1.2.1.2.2.2.2.2.2.2.2.2.2.1, r1.2.1.2.2.2.2.2.2.2.2.2.2.2.1, r1.2.1.2.2.2.2.2.2.2.2.2.2.2.2.1, r1.2.1.2.2.2.2.2.2.2.2.2.2.2.2.2.1, r1.2.1.2.2.2.2.2.2.2.2.2.2.2.2.2.2.1, r1.2.1.2.2.2.2.2.2.2.2.2.2.2.2.2.2.2.1, r1.2.1.2.2.2.2.2.2.2.2.2.2.2.2.2.2.2.2.1, r1.2.1.2.2.2.2.2.2.2.2.2.2.2.2.2.2.2.2.2.1, r1.2.1.2.2.2.2.2.2.2.2.2.2.2.2.2.2.2.2.2.2.1, r1.2.1.2.2.2.2.2.2.2.2.2.2.2.2.2.2.2.2.2.2.2.1, r1.2.1.2.2.2.2.2.2.2.2.2.2.2.2.2.2.2.2.2.2.2.2.1, r1.2.1.2.2.2.2.2.2.2.2.2.2.2.2.2.2.2.2.2.2.2.2.2.1, r1.2.1.2.2.2.2.2.2.2.2.2.2.2.2.2.2.2.2.2.2.2.2.2.2.1, r1.2.1.2.2.2.2.2.2.2.2.2.2.2.2.2.2.2.2.2.2.2.2.2.2.2.1, r1.2.1.2.2.2.2.2.2.2.2.2.2.2.2.2.2.2.2.2.2.2.2.2.2.2.2.1, r1.2.1.2.2.2.2.2.2.2.2.2.2.2.2.2.2.2.2.2.2.2.2.2.2.2.2.2.1, r1.2.1.2.2.2.2.2.2.2.2.2.2.2.2.2.2.2.2.2.2.2.2.2.2.2.2.2.2.1, r1.2.1.2.2.2.2.2.2.2.2.2.2.2.2.2.2.2.2.2.2.2.2.2.2.2.2.2.2.2.1, r1.2.1.2.2.2.2.2.2.2.2.2.2.2.2.2.2.2.2.2.2.2.2.2.2.2.2.2.2.2.2.1, r1.2.1.2.2.2.2.2.2.2.2.2.2.2.2.2.2.2.2.2.2.2.2.2.2.2.2.2.2.2.2.2.1, r1.2.1.2.2.2.2.2.2.2.2.2.2.2.2.2.2.2.2.2.2.2.2.2.2.2.2.2.2.2.2.2.2.1, r1.2.1.2.2.2.2.2.2.2.2.2.2.2.2.2.2.2.2.2.2.2.2.2.2.2.2.2.2.2.2.2.2.2.1, r1.2.1.2.2.2.2.2.2.2.2.2.2.2.2.2.2.2.2.2.2.2.2.2.2.2.2.2.2.2.2.2.2.2.2.1, r1.2.1.2.2.2.2.2.2.2.2.2.2.2.2.2.2.2.2.2.2.2.2.2.2.2.2.2.2.2.2.2.2.2.2.2.1, r1.2.1.2.2.2.2.2.2.2.2.2.2.2.2.2.2.2.2.2.2.2.2.2.2.2.2.2.2.2.2.2.2.2.2.2.2.1, r1.2.1.2.2.2.2.2.2.2.2.2.2.2.2.2.2.2.2.2.2.2.2.2.2.2.2.2.2.2.2.2.2.2.2.2.2.2.1, r1.2.1.2.2.2.2.2.2.2.2.2.2.2.2.2.2.2.2.2.2.2.2.2.2.2.2.2.2.2.2.2.2.2.2.2.2.2.2.1, ()) r2.2.1).bind fun r3 =>
  (bif (decide ((r3.1 : Int) ≠ r1.2.1.2.1)) then
  some (.inr ((a.1.2.1, ()), (r3.2.1, r3.2.2.1, (), (), (), (), ())))
  else
  (bif (decide ((r3.2.1.2.2.2.2.2.1 : Int) < r2.1.2.1)) then
  some (.inr ((a.1.2.1, ()), (r3.2.1, r3.2.2.1, (), (), (), (), ())))
  else
  (quorum_Next r2.1.1).bind fun r4 =>
  (bif r4.1.2.1 then
  none
  else
  (bif (decide (((r2.1.1.want.length : Int) : Int) = 0)) then
  (quorum_Votes r2.1.1 r3.2.1.1).bind fun r5 =>
  (bif (!r5.1) then
  (raft_rests 0 r3.2.1 r3.2.2.1).bind fun r6 =>
  some (.inr ((a.1.2.1, ()), (r6.2.1, r6.2.2.1, (), (), (), (), ())))
  else
  some (.inr ((a.1.2.1, ()), (r3.2.1, r3.2.2.1, (), (), (), (), ()))))
  else
  some (.inr ((a.1.2.1, ()), (r3.2.1, r3.2.2.1, (), (), (), (), ())))))))
def raft_commit_e1 : LEp := ⟨1, [0, 2], [.one (.ptr 0 0), .one (.bool)], [.obj 67 (sh0 1 2), .obj 79 [.int .i64, .int .i64, .sl 0, .sl 0, .sl 0, .sl 0, .bool, .own 8 3], .row 3 1, .row 83 7], [⟨.ret, [2], [.one (.bool)], [.obj 67 (sh0 1 4), .obj 79 [.int .i64, .int .i64, .sl 0, .sl 0, .sl 0, .sl 0, .bool, .own 8 5], .dead, .dead, .row 3 1, .row 83 7]⟩], raft_commit_l1⟩
def raft_commit_lt : List (LEp) := [raft_commit_e1]
theorem raft_commit_e1_ok : LeOk raft_commit_e1 (nthL (bodyOf Tryz.f38) 0) := fun A env h k z hk => le_ok (E := raft_commit_e1) (orcOf_ok raft_commit_tb) (dr := raft_commit_dr) (lps := lpsOf raft_commit_lt) (no_loop (by kernel_rfl)) (fun a => by kernel_rfl) env h k z hk
def raft_commit (h0 : Int × Int × Int × Int × Int × Int × Int × Int × Int × Unit × LI × Int × Int × Int × Int × Int × Int × Int × Int × Int × Int × Int × Int × Int × Int × Int × Int × Int × Int × Int × Int × Int × Int × Int × Int × Bool × Int × Unit) (h1 : Int × Int × LI × LI × LI × LI × Bool × (List (DEntry)) × Unit) : Option (Bool × ((Int × Int × Int × Int × Int × Int × Int × Int × Int × Unit × LI × Int × Int × Int × Int × Int × Int × Int × Int × Int × Int × Int × Int × Int × Int × Int × Int × Int × Int × Int × Int × Int × Int × Int × Int × Bool × Int × Unit) × (Int × Int × LI × LI × LI × LI × Bool × (List (DEntry)) × Unit) × Unit × Unit × Unit × Unit × Unit)) :=
  (loopM raft_commit_l1 (((), false, ()), (h0, h1, (), (), ()))).bind fun b1 =>
  some (b1.1.1, (b1.2.1, b1.2.2.1, (), (), (), (), ()))
def raft_commit_ce : CEp where
  f := 38
  args := [.one (.ptr 0 0)]
  hs := [.obj 67 (sh0 1 2), .obj 79 [.int .i64, .int .i64, .sl 0, .sl 0, .sl 0, .sl 0, .bool, .own 8 3], .row 3 1, .row 83 7]
  res := .val (.one (.bool))
  outs := [.obj 67 (sh0 1 4), .obj 79 [.int .i64, .int .i64, .sl 0, .sl 0, .sl 0, .sl 0, .bool, .own 8 5], .dead, .dead, .row 3 1, .row 83 7]
  m := fun d dh => raft_commit dh.1 dh.2.1
  ok := ce_ok mixedP Tryz.func38 (by kernel_rfl) (orcOf_ok raft_commit_tb) (dr := raft_commit_dr) (lps := lpsOf raft_commit_lt) (lps_fn (lps_of (n := 1) (by kernel_rfl) fun i hi => match i, hi with | 0, _ => lp_ok (E := raft_commit_e1) (by kernel_rfl) raft_commit_e1_ok)) (fun d dh => by kernel_rfl)

def slices_Concat_tb : List (CEp) := [growN176_ce]
def slices_Concat_l1 (a : ((List LI) × Int × (List LI) × Int × Int × Unit) × Unit) : Option ((((List LI) × Int × (List LI) × Int × Int × Unit) × Unit) ⊕ ((((List LI) × Int × Unit) × Unit))) :=
  (bif (decide ((a.1.2.2.2.2.1 : Int) < a.1.2.2.2.1)) then
  (getI a.1.2.2.1 a.1.2.2.2.2.1).bind fun e1 =>
  (bif (decide (((IntKind.i64.wrap (a.1.2.1 + (e1.length : Int))) : Int) < 0)) then
  none
  else
  some (.inl ((a.1.1, (IntKind.i64.wrap (a.1.2.1 + (e1.length : Int))), a.1.2.2.1, a.1.2.2.2.1, (IntKind.i64.wrap (a.1.2.2.2.2.1 + 1)), ()), ())))
  else
  some (.inr ((a.1.1, a.1.2.1, ()), ())))
def slices_Concat_e1 : LEp := ⟨3, [0, 3, 9, 10, 11], [.one (.sl 6), .one (.int .i64), .one (.sl 6), .one (.int .i64), .one (.int .i64)], [], [⟨.exit 0, [0, 3], [.one (.sl 6), .one (.int .i64)], []⟩], slices_Concat_l1⟩
def slices_Concat_l2 (a : (Nat × (List LI) × Int × Int × Unit) × (LI × Unit)) : Option (((Nat × (List LI) × Int × Int × Unit) × (LI × Unit)) ⊕ (((Nat × Unit) × (Unit × LI × Unit)))) :=
  (bif (decide ((a.1.2.2.2.1 : Int) < a.1.2.2.1)) then
  (getI a.1.2.1 a.1.2.2.2.1).bind fun e1 =>
  (if (a.1.1 + e1.length) ≤ 140737488355328 ∧ (a.1.1 + e1.length) * 8 ≤ 140737488355328 ∧ 0 + a.1.1 ≤ a.2.1.length then
  some (.inl (((a.1.1 + e1.length), a.1.2.1, a.1.2.2.1, (IntKind.i64.wrap (a.1.2.2.2.1 + 1)), ()), ((a.2.1.take a.1.1 ++ e1), ())))
  else none)
  else
  some (.inr ((a.1.1, ()), ((), a.2.1, ()))))
def slices_Concat_e2 : LEp := ⟨11, [6, 25, 26, 27], [.one (.asz 0 0), .one (.sl 6), .one (.int .i64), .one (.int .i64)], [.arr 3 0 false], [⟨.exit 2, [6], [.one (.asz 0 1)], [.dead, .arr 3 0 false]⟩], slices_Concat_l2⟩
def slices_Concat_lt : List (LEp) := [slices_Concat_e1, slices_Concat_e2]
theorem slices_Concat_e1_ok : LeOk slices_Concat_e1 (nthL (bodyOf Tryz.f134) 0) := fun A env h k z hk => le_ok (E := slices_Concat_e1) (orcOf_ok slices_Concat_tb) (dr := dr0) (lps := lpsOf slices_Concat_lt) (no_loop (by kernel_rfl)) (fun a => by kernel_rfl) env h k z hk
theorem slices_Concat_e2_ok : LeOk slices_Concat_e2 (nthL (bodyOf Tryz.f134) 1) := fun A env h k z hk => le_ok (E := slices_Concat_e2) (orcOf_ok slices_Concat_tb) (dr := dr0) (lps := lpsOf slices_Concat_lt) (no_loop (by kernel_rfl)) (fun a => by kernel_rfl) env h k z hk
def slices_Concat (x0 : List LI) : Option (Nat × (LI × Unit)) :=
  (loopM slices_Concat_l1 ((x0, 0, x0, (x0.length : Int), 0, ()), ())).bind fun b1 =>
  (growN176 b1.1.2.1).bind fun r2 =>
  (loopM slices_Concat_l2 ((r2.1, b1.1.1, (b1.1.1.length : Int), 0, ()), (r2.2.1, ()))).bind fun b3 =>
  some (b3.1.1, (b3.2.2.1, ()))
def slices_Concat_ce : CEp where
  f := 134
  args := [.one (.sl 6)]
  hs := []
  res := .val (.one (.asz 0 0))
  outs := [.arr 3 0 false]
  m := fun d dh => slices_Concat d.1
  ok := ce_ok mixedP Tryz.func134 (by kernel_rfl) (orcOf_ok slices_Concat_tb) (dr := dr0) (lps := lpsOf slices_Concat_lt) (lps_fn (lps_of (n := 2) (by kernel_rfl) fun i hi => match i, hi with | 0, _ => lp_ok (E := slices_Concat_e1) (by kernel_rfl) slices_Concat_e1_ok | 1, _ => lp_ok (E := slices_Concat_e2) (by kernel_rfl) slices_Concat_e2_ok)) (fun d dh => by kernel_rfl)

def slices_Compact_dr : Nat → Nat → DrA
  | 6, _ => ⟨[0, 1, 2, 4, 5, 6, 7, 3, 8, 9], [[], [], [0, 1], [0, 1, 2], [], [], [5], [4, 5, 6], [4, 5, 6, 7], (List.range 9)], [], [], [], false, []⟩
  | 11, _ => ⟨[0, 1, 2, 4, 5, 6, 7, 3, 8, 9], [[], [], [0, 1], [0, 1, 2], [], [], [5], [4, 5, 6], [4, 5, 6, 7], (List.range 9)], [], [], [], false, []⟩
  | _, _ => ⟨[], [], [], [], [], false, []⟩
def slices_Compact_tb : List (CEp) := []
def slices_Compact_l2 (a : (Nat × Int × (Nat × Nat) × Int × Unit) × (LI × Unit)) : Option (((Nat × Int × (Nat × Nat) × Int × Unit) × (LI × Unit)) ⊕ (((Nat × Int × Unit) × (LI × Unit)))) :=
  (bif (decide ((a.1.2.2.2.1 : Int) < ((a.1.2.2.1.2 : Nat) : Int))) then
  (if 0 ≤ (a.1.2.2.2.1 : Int) ∧ (a.1.2.2.2.1 : Int) < ((a.1.2.2.1.2 : Nat) : Int) then
  (if 0 ≤ ((IntKind.i64.wrap (a.1.2.2.2.1 - 1)) : Int) ∧ ((IntKind.i64.wrap (a.1.2.2.2.1 - 1)) : Int) < ((a.1.2.2.1.2 : Nat) : Int) then
  (a.2.1[(a.1.2.2.1.1 + (a.1.2.2.2.1 : Int).toNat)]?).bind fun e1 =>
  (a.2.1[(a.1.2.2.1.1 + ((IntKind.i64.wrap (a.1.2.2.2.1 - 1)) : Int).toNat)]?).bind fun e2 =>
  (bif (decide ((e1 : Int) ≠ e2)) then
  (if 0 ≤ (a.1.2.2.2.1 : Int) ∧ (a.1.2.2.2.1 : Int) < ((a.1.2.2.1.2 : Nat) : Int) then
  (a.2.1[(a.1.2.2.1.1 + (a.1.2.2.2.1 : Int).toNat)]?).bind fun e3 =>
  (if 0 ≤ (a.1.2.1 : Int) ∧ (a.1.2.1 : Int) < ((a.1.1 : Nat) : Int) then
  (a.2.1[(0 + (a.1.2.1 : Int).toNat)]?).bind fun e4 =>
  some (.inl ((a.1.1, (IntKind.i64.wrap (a.1.2.1 + 1)), (a.1.2.2.1.1, a.1.2.2.1.2), (IntKind.i64.wrap (a.1.2.2.2.1 + 1)), ()), ((a.2.1.set (0 + (a.1.2.1 : Int).toNat) e3), ())))
  else none)
  else none)
  else
  some (.inl ((a.1.1, a.1.2.1, (a.1.2.2.1.1, a.1.2.2.1.2), (IntKind.i64.wrap (a.1.2.2.2.1 + 1)), ()), (a.2.1, ()))))
  else none)
  else none)
  else
  some (.inr ((a.1.1, a.1.2.1, ()), (a.2.1, ()))))
def slices_Compact_e2 : LEp := ⟨9, [0, 3, 4, 5], [.one (.asz 0 0), .one (.int .i64), .one (.asu 0 0), .one (.int .i64)], [.arr 3 0 true], [⟨.exit 2, [0, 3], [.one (.asz 0 0), .one (.int .i64)], [.arr 3 0 true]⟩], slices_Compact_l2⟩
def slices_Compact_l1 (a : (Nat × Int × Unit) × (LI × Unit)) : Option (((Nat × Int × Unit) × (LI × Unit)) ⊕ ((((Nat × Nat) × Unit) × (LI × Unit)) ⊕ ((Nat × Unit) × (LI × Unit)))) :=
  (bif (decide ((a.1.2.1 : Int) < ((a.1.1 : Nat) : Int))) then
  (if 0 ≤ (a.1.2.1 : Int) ∧ (a.1.2.1 : Int) < ((a.1.1 : Nat) : Int) then
  (if 0 ≤ ((IntKind.i64.wrap (a.1.2.1 - 1)) : Int) ∧ ((IntKind.i64.wrap (a.1.2.1 - 1)) : Int) < ((a.1.1 : Nat) : Int) then
  (a.2.1[(0 + (a.1.2.1 : Int).toNat)]?).bind fun e1 =>
  (a.2.1[(0 + ((IntKind.i64.wrap (a.1.2.1 - 1)) : Int).toNat)]?).bind fun e2 =>
  (bif (decide ((e1 : Int) = e2)) then
  (if 0 ≤ ((a.1.2.1 : Int) : Int) ∧ ((a.1.2.1 : Int) : Int) ≤ ((a.1.1 : Nat) : Int) ∧ ((a.1.1 : Nat) : Int) ≤ ((a.1.1 : Nat) : Int) ∧ ((a.1.1 : Nat) : Int) ≤ 140737488355328 then
  (loopM slices_Compact_l2 ((a.1.1, a.1.2.1, ((0 + (a.1.2.1 : Int).toNat), (((a.1.1 : Nat) : Int).toNat - (a.1.2.1 : Int).toNat)), 1, ()), (a.2.1, ()))).bind fun b3 =>
  (if 0 ≤ ((b3.1.2.1 : Int) : Int) ∧ ((b3.1.2.1 : Int) : Int) ≤ ((b3.1.1 : Nat) : Int) ∧ ((b3.1.1 : Nat) : Int) ≤ ((b3.1.1 : Nat) : Int) ∧ ((b3.1.1 : Nat) : Int) ≤ 140737488355328 then
  (if (0 + (b3.1.2.1 : Int).toNat) ≤ b3.2.1.length then
  let y4 : LI := (b3.2.1.take (0 + (b3.1.2.1 : Int).toNat) ++ List.replicate (((b3.1.1 : Nat) : Int).toNat - (b3.1.2.1 : Int).toNat) (0 : Int) ++ b3.2.1.drop ((0 + (b3.1.2.1 : Int).toNat) + (((b3.1.1 : Nat) : Int).toNat - (b3.1.2.1 : Int).toNat)))
  (if 0 ≤ ((0 : Int) : Int) ∧ ((0 : Int) : Int) ≤ (b3.1.2.1 : Int) ∧ (b3.1.2.1 : Int) ≤ ((b3.1.1 : Nat) : Int) ∧ (b3.1.2.1 : Int) ≤ 140737488355328 then
  some (.inr (.inl ((((0 + (0 : Int).toNat), ((b3.1.2.1 : Int).toNat - (0 : Int).toNat)), ()), (y4, ()))))
  else none)
  else none)
  else none)
  else none)
  else
  some (.inl ((a.1.1, (IntKind.i64.wrap (a.1.2.1 + 1)), ()), (a.2.1, ()))))
  else none)
  else none)
  else
  some (.inr (.inr ((a.1.1, ()), (a.2.1, ())))))
def slices_Compact_e1 : LEp := ⟨4, [0, 3], [.one (.asz 0 0), .one (.int .i64)], [.arr 3 0 true], [⟨.ret, [2], [.one (.asu 0 0)], [.arr 3 0 true]⟩, ⟨.exit 0, [0], [.one (.asz 0 0)], [.arr 3 0 true]⟩], slices_Compact_l1⟩
def slices_Compact_lt : List (LEp) := [slices_Compact_e2, slices_Compact_e1]
theorem slices_Compact_e2_ok : LeOk slices_Compact_e2 (nthL (nthL (bodyOf Tryz.f136) 0) 0) := fun A env h k z hk => le_ok (E := slices_Compact_e2) (orcOf_ok slices_Compact_tb) (dr := slices_Compact_dr) (lps := lpsOf slices_Compact_lt) (no_loop (by kernel_rfl)) (fun a => by kernel_rfl) env h k z hk
theorem slices_Compact_e1_ok : LeOk slices_Compact_e1 (nthL (bodyOf Tryz.f136) 0) := fun A env h k z hk => le_ok (E := slices_Compact_e1) (orcOf_ok slices_Compact_tb) (dr := slices_Compact_dr) (lps := lpsOf slices_Compact_lt) (lps_of (n := 1) (by kernel_rfl) fun i hi => match i, hi with | 0, _ => lp_ok (E := slices_Compact_e2) (by kernel_rfl) slices_Compact_e2_ok) (fun a => by kernel_rfl) env h k z hk
def slices_Compact (x0 : Nat) (h0 : LI) : Option ((Nat × Nat) × (LI × Unit)) :=
  (bif (decide ((((x0 : Nat) : Int) : Int) < 2)) then
  some ((0, x0), (h0, ()))
  else
  (loopM slices_Compact_l1 ((x0, 1, ()), (h0, ()))).bind fun b1 =>
  (match b1 with
  | .inl b2 =>
  some ((b2.1.1.1, b2.1.1.2), (b2.2.1, ()))
  | .inr b3 =>
  some ((0, b3.1.1), (b3.2.1, ()))))
def slices_Compact_ce : CEp where
  f := 136
  args := [.one (.asz 0 0)]
  hs := [.arr 3 0 true]
  res := .val (.one (.asu 0 0))
  outs := [.arr 3 0 true]
  m := fun d dh => slices_Compact d.1 dh.1
  ok := ce_ok mixedP Tryz.func136 (by kernel_rfl) (orcOf_ok slices_Compact_tb) (dr := slices_Compact_dr) (lps := lpsOf slices_Compact_lt) (lps_fn (lps_of (n := 1) (by kernel_rfl) fun i hi => match i, hi with | 0, _ => lp_ok (E := slices_Compact_e1) (by kernel_rfl) slices_Compact_e1_ok)) (fun d dh => by kernel_rfl)

def quorum_Nodes_tb : List (CEp) := [slices_Concat_ce, sortI_ce, slices_Compact_ce]
def quorum_Nodes (x0 : DConfig) : Option ((Nat × Nat) × (LI × Unit)) :=
  (slices_Concat ([x0.voters, x0.old, x0.learners] : List LI)).bind fun r1 =>
  (sortI r1.1 r1.2.1).bind fun r2 =>
  (slices_Compact r1.1 r2.2.1).bind fun r3 =>
  some ((r3.1.1, r3.1.2), (r3.2.1, ()))
def quorum_Nodes_ce : CEp where
  f := 75
  args := [.cod 7]
  hs := []
  res := .val (.one (.asu 0 0))
  outs := [.arr 3 0 false]
  m := fun d dh => quorum_Nodes d.1
  ok := ceO Tryz.func75 (by kernel_rfl) quorum_Nodes_tb (by kernel_rfl) fun d dh => by kernel_rfl

def raft_all_tb : List (CEp) := [raft_config_ce, quorum_Nodes_ce, raft_within_ce]
def raft_all_l1 (a : (Unit × Unit × (Nat × Nat) × Int × Int × Unit) × ((Int × Int × Int × Int × Int × Int × Int × Int × Int × Unit × LI × Int × Int × Int × Int × Int × Int × Int × Int × Int × Int × Int × Int × Int × Int × Int × Int × Int × Int × Int × Int × Int × Int × Int × Int × Bool × Int × Unit) × (Int × Int × LI × LI × LI × LI × Bool × (List (DEntry)) × Unit) × LI × Unit × Unit × Unit)) : Option (((Unit × Unit × (Nat × Nat) × Int × Int × Unit) × ((Int × Int × Int × Int × Int × Int × Int × Int × Int × Unit × LI × Int × Int × Int × Int × Int × Int × Int × Int × Int × Int × Int × Int × Int × Int × Int × Int × Int × Int × Int × Int × Int × Int × Int × Int × Bool × Int × Unit) × (Int × Int × LI × LI × LI × LI × Bool × (List (DEntry)) × Unit) × LI × Unit × Unit × Unit)) ⊕ (((Unit × Unit) × ((Int × Int × Int × Int × Int × Int × Int × Int × Int × Unit × LI × Int × Int × Int × Int × Int × Int × Int × Int × Int × Int × Int × Int × Int × Int × Int × Int × Int × Int × Int × Int × Int × Int × Int × Int × Bool × Int × Unit) × (Int × Int × LI × LI × LI × LI × Bool × (List (DEntry)) × Unit) × Unit × Unit × Unit × Unit × Unit × Unit)))) :=
  (bif (decide ((a.1.2.2.2.2.1 : Int) < a.1.2.2.2.1)) then
  (if 0 ≤ (a.1.2.2.2.2.1 : Int) ∧ (a.1.2.2.2.2.1 : Int) < ((a.1.2.2.1.2 : Nat) : Int) then
  (a.2.2.2.1[(a.1.2.2.1.1 + (a.1.2.2.2.2.1 : Int).toNat)]?).bind fun e1 =>
  (bif (decide ((e1 : Int) ≠ a.2.1.1)) then
  (raft_within 1 5 ([e1] : LI)).bind fun r2 =>
  (bif r2.1 then
  none
  else
  some (.inl (((), (), (a.1.2.2.1.1, a.1.2.2.1.2), a.1.2.2.2.1, (IntKind.i64.wrap (a.1.2.2.2.2.1 + 1)), ()), (a.2.1, a.2.2.1, a.2.2.2.1, (), (), ()))))
  else
  some (.inl (((), (), (a.1.2.2.1.1, a.1.2.2.1.2), a.1.2.2.2.1, (IntKind.i64.wrap (a.1.2.2.2.2.1 + 1)), ()), (a.2.1, a.2.2.1, a.2.2.2.1, (), (), ()))))
  else none)
  else
  some (.inr (((), ()), (a.2.1, a.2.2.1, (), (), (), (), (), ()))))
def raft_all_e1 : LEp := ⟨3, [0, 3, 8, 9, 10], [.one (.ptr 0 0), .one (.nil), .one (.asu 0 2), .one (.int .i64), .one (.int .i64)], [.obj 67 (sh0 1 3), .obj 79 [.int .i64, .int .i64, .sl 0, .sl 0, .sl 0, .sl 0, .bool, .own 8 4], .arr 3 0 false, .row 3 1, .row 83 7], [⟨.exit 0, [3], [.one (.nil)], [.obj 67 (sh0 1 5), .obj 79 [.int .i64, .int .i64, .sl 0, .sl 0, .sl 0, .sl 0, .bool, .own 8 6], .dead, .dead, .dead, .row 3 1, .row 83 7]⟩], raft_all_l1⟩
def raft_all_lt : List (LEp) := [raft_all_e1]
theorem raft_all_e1_ok : LeOk raft_all_e1 (nthL (bodyOf Tryz.f39) 0) := fun A env h k z hk => le_ok (E := raft_all_e1) (orcOf_ok raft_all_tb) (dr := dr0) (lps := lpsOf raft_all_lt) (no_loop (by kernel_rfl)) (fun a => by kernel_rfl) env h k z hk
def raft_all (h0 : Int × Int × Int × Int × Int × Int × Int × Int × Int × Unit × LI × Int × Int × Int × Int × Int × Int × Int × Int × Int × Int × Int × Int × Int × Int × Int × Int × Int × Int × Int × Int × Int × Int × Int × Int × Bool × Int × Unit) (h1 : Int × Int × LI × LI × LI × LI × Bool × (List (DEntry)) × Unit) : Option (Unit × ((Int × Int × Int × Int × Int × Int × Int × Int × Int × Unit × LI × Int × Int × Int × Int × Int × Int × Int × Int × Int × Int × Int × Int × Int × Int × Int × Int × Int × Int × Int × Int × Int × Int × Int × Int × Bool × Int × Unit) × (Int × Int × LI × LI × LI × LI × Bool × (List (DEntry)) × Unit) × Unit × Unit × Unit × Unit × Unit)) :=
  (raft_config h0 h1).bind fun r1 =>
  (quorum_Nodes r1.1).bind fun r2 =>
  (loopM raft_all_l1 (((), (), (r2.1.1, r2.1.2), ((r2.1.2 : Nat) : Int), 0, ()), (r1.2.1, r1.2.2.1, r2.2.1, (), (), ()))).bind fun b3 =>
  some ((), (b3.2.1, b3.2.2.1, (), (), (), (), ()))
def raft_all_ce : CEp where
  f := 39
  args := [.one (.ptr 0 0)]
  hs := [.obj 67 (sh0 1 2), .obj 79 [.int .i64, .int .i64, .sl 0, .sl 0, .sl 0, .sl 0, .bool, .own 8 3], .row 3 1, .row 83 7]
  res := .val (.one (.nil))
  outs := [.obj 67 (sh0 1 4), .obj 79 [.int .i64, .int .i64, .sl 0, .sl 0, .sl 0, .sl 0, .bool, .own 8 5], .dead, .dead, .row 3 1, .row 83 7]
  m := fun d dh => raft_all dh.1 dh.2.1
  ok := ce_ok mixedP Tryz.func39 (by kernel_rfl) (orcOf_ok raft_all_tb) (dr := dr0) (lps := lpsOf raft_all_lt) (lps_fn (lps_of (n := 1) (by kernel_rfl) fun i hi => match i, hi with | 0, _ => lp_ok (E := raft_all_e1) (by kernel_rfl) raft_all_e1_ok)) (fun d dh => by kernel_rfl)

def raft_leads_dr : Nat → Nat → DrA
  | 0, _ => ⟨[], [], [], [], [], true, []⟩
  | 1, _ => ⟨[], [], [], [], [], true, []⟩
  | 2, _ => ⟨[], [], [], [], [], true, []⟩
  | 3, _ => ⟨[], [], [], [], [], true, []⟩
  | 4, _ => ⟨[], [], [], [], [], true, []⟩
  | 5, _ => ⟨(List.range 5 ++ [9, 10, 5, 6, 7, 8, 11, 12]), [[], [], [], [2], [2, 3], [2, 3, 4], [2, 3, 4, 5], [2, 3, 4, 5, 6], [2, 3, 4, 5, 6, 7], [0], [0, 9], (List.range 11), (List.range 12)], [], [], [], false, []⟩
  | 6, _ => ⟨[], [], [], [], [], true, []⟩
  | 7, _ => ⟨[], [], [], [], [], true, []⟩
  | 8, _ => ⟨[], [], [], [], [], true, []⟩
  | 9, _ => ⟨[], [], [], [], [], true, []⟩
  | _, _ => ⟨[], [], [], [], [], false, []⟩
def raft_leads_tb : List (CEp) := [log_Last_w_ce, raft_put_ce, raft_commit_ce, raft_all_ce]
def raft_leads_l1 (a : (Unit × Int × Unit) × ((Int × Int × Int × Int × Int × Int × Int × Int × Int × Unit × LI × Int × Int × Int × Int × Int × Int × Int × Int × Int × Int × Int × Int × Int × Int × Int × Int × Int × Int × Int × Int × Int × Int × Int × Int × Bool × Int × Unit) × (Int × Int × LI × LI × LI × LI × Bool × (List (DEntry)) × Unit) × Unit × Unit × Unit)) : Option (((Unit × Int × Unit) × ((Int × Int × Int × Int × Int × Int × Int × Int × Int × Unit × LI × Int × Int × Int × Int × Int × Int × Int × Int × Int × Int × Int × Int × Int × Int × Int × Int × Int × Int × Int × Int × Int × Int × Int × Int × Bool × Int × Unit) × (Int × Int × LI × LI × LI × LI × Bool × (List (DEntry)) × Unit) × Unit × Unit × Unit)) ⊕ (((Unit × Unit) × ((Int × Int × Int × Int × Int × Int × Int × Int × Int × Unit × LI × Int × Int × Int × Int × Int × Int × Int × Int × Int × Int × Int × Int × Int × Int × Int × Int × Int × Int × Int × Int × Int × Int × Int × Int × Bool × Int × Unit) × (Int × Int × LI × LI × LI × LI × Bool × (List (DEntry)) × Unit) × Unit × Unit × Unit × Unit × Unit)))) :=
  (bif (decide ((a.1.2.1 : Int) < 6)) then
  (log_Last_w a.2.2.1).bind fun r1 =>
  (if (a.1.2.1 : Int) = ((0 : Nat) : Int) then
  some (.inl (((), (IntKind.i64.wrap (a.1.2.1 + 1)), ()), ((a.2.1.1, a.2.1.2.1, a.2.1.2.2.1, a.2.1.2.2.2.1, a.2.1.2.2.2.2.1, a.2.1.2.2.2.2.2.1, a.2.1.2.2.2.2.2.2.1, a.2.1.2.2.2.2.2.2.2.1, a.2.1.2.2.2.2.2.2.2.2.1, (), a.2.1.2.2.2.2.2.2.2.2.2.2.1, (IntKind.i64.wrap (r1.1 + 1)), 0, 0, 0, a.2.1.2.2.2.2.2.2.2.2.2.2.2.2.2.2.2.1, a.2.1.2.2.2.2.2.2.2.2.2.2.2.2.2.2.2.2.1, a.2.1.2.2.2.2.2.2.2.2.2.2.2.2.2.2.2.2.2.1, a.2.1.2.2.2.2.2.2.2.2.2.2.2.2.2.2.2.2.2.2.1, a.2.1.2.2.2.2.2.2.2.2.2.2.2.2.2.2.2.2.2.2.2.1, a.2.1.2.2.2.2.2.2.2.2.2.2.2.2.2.2.2.2.2.2.2.2.1, a.2.1.2.2.2.2.2.2.2.2.2.2.2.2.2.2.2.2.2.2.2.2.2.1, a.2.1.2.2.2.2.2.2.2.2.2.2.2.2.2.2.2.2.2.2.2.2.2.2.1, a.2.1.2.2.2.2.2.2.2.2.2.2.2.2.2.2.2.2.2.2.2.2.2.2.2.1, a.2.1.2.2.2.2.2.2.2.2.2.2.2.2.2.2.2.2.2.2.2.2.2.2.2.2.1, a.2.1.2.2.2.2.2.2.2.2.2.2.2.2.2.2.2.2.2.2.2.2.2.2.2.2.2.1, a.2.1.2.2.2.2.2.2.2.2.2.2.2.2.2.2.2.2.2.2.2.2.2.2.2.2.2.2.1, a.2.1.2.2.2.2.2.2.2.2.2.2.2.2.2.2.2.2.2.2.2.2.2.2.2.2.2.2.2.1, a.2.1.2.2.2.2.2.2.2.2.2.2.2.2.2.2.2.2.2.2.2.2.2.2.2.2.2.2.2.2.1, a.2.1.2.2.2.2.2.2.2.2.2.2.2.2.2.2.2.2.2.2.2.2.2.2.2.2.2.2.2.2.2.1, a.2.1.2.2.2.2.2.2.2.2.2.2.2.2.2.2.2.2.2.2.2.2.2.2.2.2.2.2.2.2.2.2.1, a.2.1.2.2.2.2.2.2.2.2.2.2.2.2.2.2.2.2.2.2.2.2.2.2.2.2.2.2.2.2.2.2.2.1, a.2.1.2.2.2.2.2.2.2.2.2.2.2.2.2.2.2.2.2.2.2.2.2.2.2.2.2.2.2.2.2.2.2.2.1, a.2.1.2.2.2.2.2.2.2.2.2.2.2.2.2.2.2.2.2.2.2.2.2.2.2.2.2.2.2.2.2.2.2.2.2.1, a.2.1.2.2.2.2.2.2.2.2.2.2.2.2.2.2.2.2.2.2.2.2.2.2.2.2.2.2.2.2.2.2.2.2.2.2.1, a.2.1.2.2.2.2.2.2.2.2.2.2.2.2.2.2.2.2.2.2.2.2.2.2.2.2.2.2.2.2.2.2.2.2.2.2.2.1, a.2.1.2.2.2.2.2.2.2.2.2.2.2.2.2.2.2.2.2.2.2.2.2.2.2.2.2.2.2.2.2.2.2.2.2.2.2.2.1, ()), r1.2.1, (), (), ())))
  else (if (a.1.2.1 : Int) = ((1 : Nat) : Int) then
  some (.inl (((), (IntKind.i64.wrap (a.1.2.1 + 1)), ()), ((a.2.1.1, a.2.1.2.1, a.2.1.2.2.1, a.2.1.2.2.2.1, a.2.1.2.2.2.2.1, a.2.1.2.2.2.2.2.1, a.2.1.2.2.2.2.2.2.1, a.2.1.2.2.2.2.2.2.2.1, a.2.1.2.2.2.2.2.2.2.2.1, (), a.2.1.2.2.2.2.2.2.2.2.2.2.1, a.2.1.2.2.2.2.2.2.2.2.2.2.2.1, a.2.1.2.2.2.2.2.2.2.2.2.2.2.2.1, a.2.1.2.2.2.2.2.2.2.2.2.2.2.2.2.1, a.2.1.2.2.2.2.2.2.2.2.2.2.2.2.2.2.1, (IntKind.i64.wrap (r1.1 + 1)), 0, 0, 0, a.2.1.2.2.2.2.2.2.2.2.2.2.2.2.2.2.2.2.2.2.2.1, a.2.1.2.2.2.2.2.2.2.2.2.2.2.2.2.2.2.2.2.2.2.2.1, a.2.1.2.2.2.2.2.2.2.2.2.2.2.2.2.2.2.2.2.2.2.2.2.1, a.2.1.2.2.2.2.2.2.2.2.2.2.2.2.2.2.2.2.2.2.2.2.2.2.1, a.2.1.2.2.2.2.2.2.2.2.2.2.2.2.2.2.2.2.2.2.2.2.2.2.2.1, a.2.1.2.2.2.2.2.2.2.2.2.2.2.2.2.2.2.2.2.2.2.2.2.2.2.2.1, a.2.1.2.2.2.2.2.2.2.2.2.2.2.2.2.2.2.2.2.2.2.2.2.2.2.2.2.1, a.2.1.2.2.2.2.2.2.2.2.2.2.2.2.2.2.2.2.2.2.2.2.2.2.2.2.2.2.1, a.2.1.2.2.2.2.2.2.2.2.2.2.2.2.2.2.2.2.2.2.2.2.2.2.2.2.2.2.2.1, a.2.1.2.2.2.2.2.2.2.2.2.2.2.2.2.2.2.2.2.2.2.2.2.2.2.2.2.2.2.2.1, a.2.1.2.2.2.2.2.2.2.2.2.2.2.2.2.2.2.2.2.2.2.2.2.2.2.2.2.2.2.2.2.1, a.2.1.2.2.2.2.2.2.2.2.2.2.2.2.2.2.2.2.2.2.2.2.2.2.2.2.2.2.2.2.2.2.1, a.2.1.2.2.2.2.2.2.2.2.2.2.2.2.2.2.2.2.2.2.2.2.2.2.2.2.2.2.2.2.2.2.2.1, a.2.1.2.2.2.2.2.2.2.2.2.2.2.2.2.2.2.2.2.2.2.2.2.2.2.2.2.2.2.2.2.2.2.2.1, a.2.1.2.2.2.2.2.2.2.2.2.2.2.2.2.2.2.2.2.2.2.2.2.2.2.2.2.2.2.2.2.2.2.2.2.1, a.2.1.2.2.2.2.2.2.2.2.2.2.2.2.2.2.2.2.2.2.2.2.2.2.2.2.2.2.2.2.2.2.2.2.2.2.1, a.2.1.2.2.2.2.2.2.2.2.2.2.2.2.2.2.2.2.2.2.2.2.2.2.2.2.2.2.2.2.2.2.2.2.2.2.2.1, a.2.1.2.2.2.2.2.2.2.2.2.2.2.2.2.2.2.2.2.2.2.2.2.2.2.2.2.2.2.2.2.2.2.2.2.2.2.2.1, ()), r1.2.1, (), (), ())))
  else (if (a.1.2.1 : Int) = ((2 : Nat) : Int) then
  some (.inl (((), (IntKind.i64.wrap (a.1.2.1 + 1)), ()), ((a.2.1.1, a.2.1.2.1, a.2.1.2.2.1, a.2.1.2.2.2.1, a.2.1.2.2.2.2.1, a.2.1.2.2.2.2.2.1, a.2.1.2.2.2.2.2.2.1, a.2.1.2.2.2.2.2.2.2.1, a.2.1.2.2.2.2.2.2.2.2.1, (), a.2.1.2.2.2.2.2.2.2.2.2.2.1, a.2.1.2.2.2.2.2.2.2.2.2.2.2.1, a.2.1.2.2.2.2.2.2.2.2.2.2.2.2.1, a.2.1.2.2.2.2.2.2.2.2.2.2.2.2.2.1, a.2.1.2.2.2.2.2.2.2.2.2.2.2.2.2.2.1, a.2.1.2.2.2.2.2.2.2.2.2.2.2.2.2.2.2.1, a.2.1.2.2.2.2.2.2.2.2.2.2.2.2.2.2.2.2.1, a.2.1.2.2.2.2.2.2.2.2.2.2.2.2.2.2.2.2.2.1, a.2.1.2.2.2.2.2.2.2.2.2.2.2.2.2.2.2.2.2.2.1, (IntKind.i64.wrap (r1.1 + 1)), 0, 0, 0, a.2.1.2.2.2.2.2.2.2.2.2.2.2.2.2.2.2.2.2.2.2.2.2.2.2.1, a.2.1.2.2.2.2.2.2.2.2.2.2.2.2.2.2.2.2.2.2.2.2.2.2.2.2.1, a.2.1.2.2.2.2.2.2.2.2.2.2.2.2.2.2.2.2.2.2.2.2.2.2.2.2.2.1, a.2.1.2.2.2.2.2.2.2.2.2.2.2.2.2.2.2.2.2.2.2.2.2.2.2.2.2.2.1, a.2.1.2.2.2.2.2.2.2.2.2.2.2.2.2.2.2.2.2.2.2.2.2.2.2.2.2.2.2.1, a.2.1.2.2.2.2.2.2.2.2.2.2.2.2.2.2.2.2.2.2.2.2.2.2.2.2.2.2.2.2.1, a.2.1.2.2.2.2.2.2.2.2.2.2.2.2.2.2.2.2.2.2.2.2.2.2.2.2.2.2.2.2.2.1, a.2.1.2.2.2.2.2.2.2.2.2.2.2.2.2.2.2.2.2.2.2.2.2.2.2.2.2.2.2.2.2.2.1, a.2.1.2.2.2.2.2.2.2.2.2.2.2.2.2.2.2.2.2.2.2.2.2.2.2.2.2.2.2.2.2.2.2.1, a.2.1.2.2.2.2.2.2.2.2.2.2.2.2.2.2.2.2.2.2.2.2.2.2.2.2.2.2.2.2.2.2.2.2.1, a.2.1.2.2.2.2.2.2.2.2.2.2.2.2.2.2.2.2.2.2.2.2.2.2.2.2.2.2.2.2.2.2.2.2.2.1, a.2.1.2.2.2.2.2.2.2.2.2.2.2.2.2.2.2.2.2.2.2.2.2.2.2.2.2.2.2.2.2.2.2.2.2.2.1, a.2.1.2.2.2.2.2.2.2.2.2.2.2.2.2.2.2.2.2.2.2.2.2.2.2.2.2.2.2.2.2.2.2.2.2.2.2.1, a.2.1.2.2.2.2.2.2.2.2.2.2.2.2.2.2.2.2.2.2.2.2.2.2.2.2.2.2.2.2.2.2.2.2.2.2.2.2.1, ()), r1.2.1, (), (), ())))
  else (if (a.1.2.1 : Int) = ((3 : Nat) : Int) then
  some (.inl (((), (IntKind.i64.wrap (a.1.2.1 + 1)), ()), ((a.2.1.1, a.2.1.2.1, a.2.1.2.2.1, a.2.1.2.2.2.1, a.2.1.2.2.2.2.1, a.2.1.2.2.2.2.2.1, a.2.1.2.2.2.2.2.2.1, a.2.1.2.2.2.2.2.2.2.1, a.2.1.2.2.2.2.2.2.2.2.1, (), a.2.1.2.2.2.2.2.2.2.2.2.2.1, a.2.1.2.2.2.2.2.2.2.2.2.2.2.1, a.2.1.2.2.2.2.2.2.2.2.2.2.2.2.1, a.2.1.2.2.2.2.2.2.2.2.2.2.2.2.2.1, a.2.1.2.2.2.2.2.2.2.2.2.2.2.2.2.2.1, a.2.1.2.2.2.2.2.2.2.2.2.2.2.2.2.2.2.1, a.2.1.2.2.2.2.2.2.2.2.2.2.2.2.2.2.2.2.1, a.2.1.2.2.2.2.2.2.2.2.2.2.2.2.2.2.2.2.2.1, a.2.1.2.2.2.2.2.2.2.2.2.2.2.2.2.2.2.2.2.2.1, a.2.1.2.2.2.2.2.2.2.2.2.2.2.2.2.2.2.2.2.2.2.1, a.2.1.2.2.2.2.2.2.2.2.2.2.2.2.2.2.2.2.2.2.2.2.1, a.2.1.2.2.2.2.2.2.2.2.2.2.2.2.2.2.2.2.2.2.2.2.2.1, a.2.1.2.2.2.2.2.2.2.2.2.2.2.2.2.2.2.2.2.2.2.2.2.2.1, (IntKind.i64.wrap (r1.1 + 1)), 0, 0, 0, a.2.1.2.2.2.2.2.2.2.2.2.2.2.2.2.2.2.2.2.2.2.2.2.2.2.2.2.2.2.1, a.2.1.2.2.2.2.2.2.2.2.2.2.2.2.2.2.2.2.2.2.2.2.2.2.2.2.2.2.2.2.1, a.2.1.2.2.2.2.2.2.2.2.2.2.2.2.2.2.2.2.2.2.2.2.2.2.2.2.2.2.2.2.2.1, a.2.1.2.2.2.2.2.2.2.2.2.2.2.2.2.2.2.2.2.2.2.2.2.2.2.2.2.2.2.2.2.2.1, a.2.1.2.2.2.2.2.2.2.2.2.2.2.2.2.2.2.2.2.2.2.2.2.2.2.2.2.2.2.2.2.2.2.1, a.2.1.2.2.2.2.2.2.2.2.2.2.2.2.2.2.2.2.2.2.2.2.2.2.2.2.2.2.2.2.2.2.2.2.1, a.2.1.2.2.2.2.2.2.2.2.2.2.2.2.2.2.2.2.2.2.2.2.2.2.2.2.2.2.2.2.2.2.2.2.2.1, a.2.1.2.2.2.2.2.2.2.2.2.2.2.2.2.2.2.2.2.2.2.2.2.2.2.2.2.2.2.2.2.2.2.2.2.2.1, a.2.1.2.2.2.2.2.2.2.2.2.2.2.2.2.2.2.2.2.2.2.2.2.2.2.2.2.2.2.2.2.2.2.2.2.2.2.1, a.2.1.2.2.2.2.2.2.2.2.2.2.2.2.2.2.2.2.2.2.2.2.2.2.2.2.2.2.2.2.2.2.2.2.2.2.2.2.1, ()), r1.2.1, (), (), ())))
  else (if (a.1.2.1 : Int) = ((4 : Nat) : Int) then
  some (.inl (((), (IntKind.i64.wrap (a.1.2.1 + 1)), ()), ((a.2.1.1, a.2.1.2.1, a.2.1.2.2.1, a.2.1.2.2.2.1, a.2.1.2.2.2.2.1, a.2.1.2.2.2.2.2.1, a.2.1.2.2.2.2.2.2.1, a.2.1.2.2.2.2.2.2.2.1, a.2.1.2.2.2.2.2.2.2.2.1, (), a.2.1.2.2.2.2.2.2.2.2.2.2.1, a.2.1.2.2.2.2.2.2.2.2.2.2.2.1, a.2.1.2.2.2.2.2.2.2.2.2.2.2.2.1, a.2.1.2.2.2.2.2.2.2.2.2.2.2.2.2.1, a.2.1.2.2.2.2.2.2.2.2.2.2.2.2.2.2.1, a.2.1.2.2.2.2.2.2.2.2.2.2.2.2.2.2.2.1, a.2.1.2.2.2.2.2.2.2.2.2.2.2.2.2.2.2.2.1, a.2.1.2.2.2.2.2.2.2.2.2.2.2.2.2.2.2.2.2.1, a.2.1.2.2.2.2.2.2.2.2.2.2.2.2.2.2.2.2.2.2.1, a.2.1.2.2.2.2.2.2.2.2.2.2.2.2.2.2.2.2.2.2.2.1, a.2.1.2.2.2.2.2.2.2.2.2.2.2.2.2.2.2.2.2.2.2.2.1, a.2.1.2.2.2.2.2.2.2.2.2.2.2.2.2.2.2.2.2.2.2.2.2.1, a.2.1.2.2.2.2.2.2.2.2.2.2.2.2.2.2.2.2.2.2.2.2.2.2.1, a.2.1.2.2.2.2.2.2.2.2.2.2.2.2.2.2.2.2.2.2.2.2.2.2.2.1, a.2.1.2.2.2.2.2.2.2.2.2.2.2.2.2.2.2.2.2.2.2.2.2.2.2.2.1, a.2.1.2.2.2.2.2.2.2.2.2.2.2.2.2.2.2.2.2.2.2.2.2.2.2.2.2.1, a.2.1.2.2.2.2.2.2.2.2.2.2.2.2.2.2.2.2.2.2.2.2.2.2.2.2.2.2.1, (IntKind.i64.wrap (r1.1 + 1)), 0, 0, 0, a.2.1.2.2.2.2.2.2.2.2.2.2.2.2.2.2.2.2.2.2.2.2.2.2.2.2.2.2.2.2.2.2.2.1, a.2.1.2.2.2.2.2.2.2.2.2.2.2.2.2.2.2.2.2.2.2.2.2.2.2.2.2.2.2.2.2.2.2.2.1, a.2.1.2.2.2.2.2.2.2.2.2.2.2.2.2.2.2.2.2.2.2.2.2.2.2.2.2.2.2.2.2.2.2.2.2.1, a.2.1.2.2.2.2.2.2.2.2.2.2.2.2.2.2.2.2.2.2.2.2.2.2.2.2.2.2.2.2.2.2.2.2.2.2.1, a.2.1.2.2.2.2.2.2.2.2.2.2.2.2.2.2.2.2.2.2.2.2.2.2.2.2.2.2.2.2.2.2.2.2.2.2.2.1, a.2.1.2.2.2.2.2.2.2.2.2.2.2.2.2.2.2.2.2.2.2.2.2.2.2.2.2.2.2.2.2.2.2.2.2.2.2.2.1, ()), r1.2.1, (), (), ())))
  else (if (a.1.2.1 : Int) = ((5 : Nat) : Int) then
  some (.inl (((), (IntKind.i64.wrap (a.1.2.1 + 1)), ()), ((a.2.1.1, a.2.1.2.1, a.2.1.2.2.1, a.2.1.2.2.2.1, a.2.1.2.2.2.2.1, a.2.1.2.2.2.2.2.1, a.2.1.2.2.2.2.2.2.1, a.2.1.2.2.2.2.2.2.2.1, a.2.1.2.2.2.2.2.2.2.2.1, (), a.2.1.2.2.2.2.2.2.2.2.2.2.1, a.2.1.2.2.2.2.2.2.2.2.2.2.2.1, a.2.1.2.2.2.2.2.2.2.2.2.2.2.2.1, a.2.1.2.2.2.2.2.2.2.2.2.2.2.2.2.1, a.2.1.2.2.2.2.2.2.2.2.2.2.2.2.2.2.1, a.2.1.2.2.2.2.2.2.2.2.2.2.2.2.2.2.2.1, a.2.1.2.2.2.2.2.2.2.2.2.2.2.2.2.2.2.2.1, a.2.1.2.2.2.2.2.2.2.2.2.2.2.2.2.2.2.2.2.1, a.2.1.2.2.2.2.2.2.2.2.2.2.2.2.2.2.2.2.2.2.1, a.2.1.2.2.2.2.2.2.2.2.2.2.2.2.2.2.2.2.2.2.2.1, a.2.1.2.2.2.2.2.2.2.2.2.2.2.2.2.2.2.2.2.2.2.2.1, a.2.1.2.2.2.2.2.2.2.2.2.2.2.2.2.2.2.2.2.2.2.2.2.1, a.2.1.2.2.2.2.2.2.2.2.2.2.2.2.2.2.2.2.2.2.2.2.2.2.1, a.2.1.2.2.2.2.2.2.2.2.2.2.2.2.2.2.2.2.2.2.2.2.2.2.2.1, a.2.1.2.2.2.2.2.2.2.2.2.2.2.2.2.2.2.2.2.2.2.2.2.2.2.2.1, a.2.1.2.2.2.2.2.2.2.2.2.2.2.2.2.2.2.2.2.2.2.2.2.2.2.2.2.1, a.2.1.2.2.2.2.2.2.2.2.2.2.2.2.2.2.2.2.2.2.2.2.2.2.2.2.2.2.1, a.2.1.2.2.2.2.2.2.2.2.2.2.2.2.2.2.2.2.2.2.2.2.2.2.2.2.2.2.2.1, a.2.1.2.2.2.2.2.2.2.2.2.2.2.2.2.2.2.2.2.2.2.2.2.2.2.2.2.2.2.2.1, a.2.1.2.2.2.2.2.2.2.2.2.2.2.2.2.2.2.2.2.2.2.2.2.2.2.2.2.2.2.2.2.1, a.2.1.2.2.2.2.2.2.2.2.2.2.2.2.2.2.2.2.2.2.2.2.2.2.2.2.2.2.2.2.2.2.1, (IntKind.i64.wrap (r1.1 + 1)), 0, 0, 0, a.2.1.2.2.2.2.2.2.2.2.2.2.2.2.2.2.2.2.2.2.2.2.2.2.2.2.2.2.2.2.2.2.2.2.2.2.2.1, a.2.1.2.2.2.2.2.2.2.2.2.2.2.2.2.2.2.2.2.2.2.2.2.2.2.2.2.2.2.2.2.2.2.2.2.2.2.2.1, ()), r1.2.1, (), (), ())))
  else none))))))
  else
  some (.inr (((), ()), (a.2.1, a.2.2.1, (), (), (), (), ()))))
def raft_eeads_e1 : LEp := ⟨3, [0, 21], [.one (.ptr 0 0), .one (.int .i64)], [.obj 67 (sh0 1 2), .obj 79 [.int .i64, .int .i64, .sl 0, .sl 0, .sl 0, .sl 0, .bool, .own 8 3], .row 3 1, .row 83 7], [⟨.exit 0, [0], [.one (.ptr 0 0)], [.obj 67 (sh0 1 4), .obj 79 [.int .i64, .int .i64, .sl 0, .sl 0, .sl 0, .sl 0, .bool, .own 8 5], .dead, .dead, .row 3 1, .row 83 7]⟩], raft_leads_l1⟩
def raft_leads_lt : List (LEp) := [raft_eeads_e1]
theorem raft_eeads_e1_ok : LeOk raft_eeads_e1 (nthL (bodyOf Tryz.f74) 0) := fun A env h k z hk => le_ok (E := raft_eeads_e1) (orcOf_ok raft_leads_tb) (dr := raft_leads_dr) (lps := lpsOf raft_leads_lt) (no_loop (by kernel_rfl)) (fun a => by kernel_rfl) env h k z hk
def raft_leads (h0 : Int × Int × Int × Int × Int × Int × Int × Int × Int × Unit × LI × Int × Int × Int × Int × Int × Int × Int × Int × Int × Int × Int × Int × Int × Int × Int × Int × Int × Int × Int × Int × Int × Int × Int × Int × Bool × Int × Unit) (h1 : Int × Int × LI × LI × LI × LI × Bool × (List (DEntry)) × Unit) : Option (Unit × ((Int × Int × Int × Int × Int × Int × Int × Int × Int × Unit × LI × Int × Int × Int × Int × Int × Int × Int × Int × Int × Int × Int × Int × Int × Int × Int × Int × Int × Int × Int × Int × Int × Int × Int × Int × Bool × Int × Unit) × (Int × Int × LI × LI × LI × LI × Bool × (List (DEntry)) × Unit) × Unit × Unit × Unit × Unit × Unit)) :=
  (loopM raft_leads_l1 (((), 0, ()), ((h0.1, h0.2.1, h0.2.2.1, 3, h0.1, h0.2.2.2.2.2.1, 0, h0.2.2.2.2.2.2.2.1, h0.2.2.2.2.2.2.2.2.1, (), h0.2.2.2.2.2.2.2.2.2.2.1, h0.2.2.2.2.2.2.2.2.2.2.2.1, h0.2.2.2.2.2.2.2.2.2.2.2.2.1, h0.2.2.2.2.2.2.2.2.2.2.2.2.2.1, h0.2.2.2.2.2.2.2.2.2.2.2.2.2.2.1, h0.2.2.2.2.2.2.2.2.2.2.2.2.2.2.2.1, h0.2.2.2.2.2.2.2.2.2.2.2.2.2.2.2.2.1, h0.2.2.2.2.2.2.2.2.2.2.2.2.2.2.2.2.2.1, h0.2.2.2.2.2.2.2.2.2.2.2.2.2.2.2.2.2.2.1, h0.2.2.2.2.2.2.2.2.2.2.2.2.2.2.2.2.2.2.2.1, h0.2.2.2.2.2.2.2.2.2.2.2.2.2.2.2.2.2.2.2.2.1, h0.2.2.2.2.2.2.2.2.2.2.2.2.2.2.2.2.2.2.2.2.2.1, h0.2.2.2.2.2.2.2.2.2.2.2.2.2.2.2.2.2.2.2.2.2.2.1, h0.2.2.2.2.2.2.2.2.2.2.2.2.2.2.2.2.2.2.2.2.2.2.2.1, h0.2.2.2.2.2.2.2.2.2.2.2.2.2.2.2.2.2.2.2.2.2.2.2.2.1, h0.2.2.2.2.2.2.2.2.2.2.2.2.2.2.2.2.2.2.2.2.2.2.2.2.2.1, h0.2.2.2.2.2.2.2.2.2.2.2.2.2.2.2.2.2.2.2.2.2.2.2.2.2.2.1, h0.2.2.2.2.2.2.2.2.2.2.2.2.2.2.2.2.2.2.2.2.2.2.2.2.2.2.2.1, h0.2.2.2.2.2.2.2.2.2.2.2.2.2.2.2.2.2.2.2.2.2.2.2.2.2.2.2.2.1, h0.2.2.2.2.2.2.2.2.2.2.2.2.2.2.2.2.2.2.2.2.2.2.2.2.2.2.2.2.2.1, h0.2.2.2.2.2.2.2.2.2.2.2.2.2.2.2.2.2.2.2.2.2.2.2.2.2.2.2.2.2.2.1, h0.2.2.2.2.2.2.2.2.2.2.2.2.2.2.2.2.2.2.2.2.2.2.2.2.2.2.2.2.2.2.2.1, h0.2.2.2.2.2.2.2.2.2.2.2.2.2.2.2.2.2.2.2.2.2.2.2.2.2.2.2.2.2.2.2.2.1, h0.2.2.2.2.2.2.2.2.2.2.2.2.2.2.2.2.2.2.2.2.2.2.2.2.2.2.2.2.2.2.2.2.2.1, h0.2.2.2.2.2.2.2.2.2.2.2.2.2.2.2.2.2.2.2.2.2.2.2.2.2.2.2.2.2.2.2.2.2.2.1, h0.2.2.2.2.2.2.2.2.2.2.2.2.2.2.2.2.2.2.2.2.2.2.2.2.2.2.2.2.2.2.2.2.2.2.2.1, h0.2.2.2.2.2.2.2.2.2.2.2.2.2.2.2.2.2.2.2.2.2.2.2.2.2.2.2.2.2.2.2.2.2.2.2.2.1, ()), h1, (), (), ()))).bind fun b1 =>
  (raft_put (0, 1, 1) b1.2.1 ([(⟨0, 1, [], (⟨[], [], [], []⟩ : DConfig)⟩ : DEntry)] : List (DEntry)) b1.2.2.1).bind fun r2 =>
  (raft_commit r2.2.1 r2.2.2.2.1).bind fun r3 =>
  (raft_all r3.2.1 r3.2.2.1).bind fun r4 =>
  some ((), (r4.2.1, r4.2.2.1, (), (), (), (), ()))
def raft_leads_ce : CEp where
  f := 74
  args := [.one (.ptr 0 0)]
  hs := [.obj 67 (sh0 1 2), .obj 79 [.int .i64, .int .i64, .sl 0, .sl 0, .sl 0, .sl 0, .bool, .own 8 3], .row 3 1, .row 83 7]
  res := .val (.one (.nil))
  outs := [.obj 67 (sh0 1 4), .obj 79 [.int .i64, .int .i64, .sl 0, .sl 0, .sl 0, .sl 0, .bool, .own 8 5], .dead, .dead, .row 3 1, .row 83 7]
  m := fun d dh => raft_leads dh.1 dh.2.1
  ok := ce_ok mixedP Tryz.func74 (by kernel_rfl) (orcOf_ok raft_leads_tb) (dr := raft_leads_dr) (lps := lpsOf raft_leads_lt) (lps_fn (lps_of (n := 1) (by kernel_rfl) fun i hi => match i, hi with | 0, _ => lp_ok (E := raft_eeads_e1) (by kernel_rfl) raft_eeads_e1_ok)) (fun d dh => by kernel_rfl)

def raft_letter_dr : Nat → Nat → DrA
  | 1, _ => ⟨(List.range 5 ++ [6, 7, 8, 9, 10, 5, 11, 12, 13]), [[], [], [1], [1, 2], [1, 2, 3], [1, 2, 3, 4], [], [], [7], [7, 8], [7, 8, 9], [7, 8, 9, 10], (List.range 12), (List.range 13)], [], [], [], false, []⟩
  | _, _ => ⟨[], [], [], [], [], false, []⟩
def raft_letter_tb : List (CEp) := []
def raft_letter (x1 : Int) (x2 : Int) (h0 : Int × Int × Int × Int × Int × Int × Int × Int × Int × Unit × LI × Int × Int × Int × Int × Int × Int × Int × Int × Int × Int × Int × Int × Int × Int × Int × Int × Int × Int × Int × Int × Int × Int × Int × Int × Bool × Int × Unit) (h1 : Int × Int × LI × LI × LI × LI × Bool × (List (DEntry)) × Unit) : Option ((DLetter) × ((Int × Int × Int × Int × Int × Int × Int × Int × Int × Unit × LI × Int × Int × Int × Int × Int × Int × Int × Int × Int × Int × Int × Int × Int × Int × Int × Int × Int × Int × Int × Int × Int × Int × Int × Int × Bool × Int × Unit) × (Int × Int × LI × LI × LI × LI × Bool × (List (DEntry)) × Unit) × Unit × Unit × Unit × Unit × Unit)) :=
  some ((⟨x1, 0, h0.1, x2, h0.2.1, 0, 0, 0, false, [], (⟨0, 0, (⟨[], [], [], []⟩ : DConfig)⟩ : DBase), 0, 0, 0, []⟩ : DLetter), (h0, h1, (), (), (), (), ()))
def raft_letter_ce : CEp where
  f := 76
  args := [.one (.ptr 0 0), .one (.int .u8), .one (.int .i64)]
  hs := [.obj 67 (sh0 1 2), .obj 79 [.int .i64, .int .i64, .sl 0, .sl 0, .sl 0, .sl 0, .bool, .own 8 3], .row 3 1, .row 83 7]
  res := .val (.cod 11)
  outs := [.obj 67 (sh0 1 4), .obj 79 [.int .i64, .int .i64, .sl 0, .sl 0, .sl 0, .sl 0, .bool, .own 8 5], .dead, .dead, .row 3 1, .row 83 7]
  m := fun d dh => raft_letter d.2.1 d.2.2.1 dh.1 dh.2.1
  ok := ce_ok mixedP Tryz.func76 (by kernel_rfl) (orcOf_ok raft_letter_tb) (dr := raft_letter_dr) (lps := lpsOf lt0) (lps_fn (no_loop (by kernel_rfl))) (fun d dh => by kernel_rfl)

def raft_asks_dr : Nat → Nat → DrA
  | 2, _ => ⟨(List.range 5 ++ [7, 8, 9, 10, 5, 6, 11, 12]), [[], [], [1], [1, 2], [1, 2, 3], [1, 2, 3, 4], [1, 2, 3, 4, 5], [], [7], [7, 8], [7, 8, 9], [7, 8, 9, 10], (List.range 12)], [], [], [], false, []⟩
  | 4, _ => ⟨[1, 2, 3, 0, 4, 5], [[], [], [1], [1, 2], [1, 2, 3], (List.range 5)], [], [], [], false, []⟩
  | 12, _ => ⟨[0, 1, 2, 5, 6, 7, 8, 3, 9, 4, 12, 10, 11, 13, 14, 15], [[], [0], [0, 1], [0, 1, 2], [0, 1, 2, 3], [], [], [6], [6, 7], [6, 7, 8], (List.range 5 ++ [6, 7, 8, 9]), (List.range 11), (List.range 5), (List.range 13), (List.range 14), (List.range 15)], [9], [4], [0], false, []⟩
  | _, _ => ⟨[], [], [], [], [], false, []⟩
def raft_asks_tb : List (CEp) := [raft_config_ce, raft_turn_ce, quorum_Agrees_ce, raft_leads_ce, quorum_Nodes_ce, quorum_Votes_ce, raft_within_ce, raft_letter_ce, log_Last_w_ce, raft_term_w_ce]
def raft_asks_l1 (a : (Unit × Unit × (List (DLetter)) × (Nat × Nat) × Int × Int × Unit) × ((Int × Int × Int × Int × Int × Int × Int × Int × Int × Unit × LI × Int × Int × Int × Int × Int × Int × Int × Int × Int × Int × Int × Int × Int × Int × Int × Int × Int × Int × Int × Int × Int × Int × Int × Int × Bool × Int × Unit) × (DConfig) × (Int × Int × LI × LI × LI × LI × Bool × (List (DEntry)) × Unit) × Unit × LI × Unit × Unit × Unit)) : Option (((Unit × Unit × (List (DLetter)) × (Nat × Nat) × Int × Int × Unit) × ((Int × Int × Int × Int × Int × Int × Int × Int × Int × Unit × LI × Int × Int × Int × Int × Int × Int × Int × Int × Int × Int × Int × Int × Int × Int × Int × Int × Int × Int × Int × Int × Int × Int × Int × Int × Bool × Int × Unit) × (DConfig) × (Int × Int × LI × LI × LI × LI × Bool × (List (DEntry)) × Unit) × Unit × LI × Unit × Unit × Unit)) ⊕ ((((List (DLetter)) × Unit) × ((Int × Int × Int × Int × Int × Int × Int × Int × Int × Unit × LI × Int × Int × Int × Int × Int × Int × Int × Int × Int × Int × Int × Int × Int × Int × Int × Int × Int × Int × Int × Int × Int × Int × Int × Int × Bool × Int × Unit) × (DConfig) × (Int × Int × LI × LI × LI × LI × Bool × (List (DEntry)) × Unit) × Unit × Unit × Unit × Unit × Unit × Unit × Unit × Unit)))) :=
  (bif (decide ((a.1.2.2.2.2.2.1 : Int) < a.1.2.2.2.2.1)) then
  (if 0 ≤ (a.1.2.2.2.2.2.1 : Int) ∧ (a.1.2.2.2.2.2.1 : Int) < ((a.1.2.2.2.1.2 : Nat) : Int) then
  (a.2.2.2.2.2.1[(a.1.2.2.2.1.1 + (a.1.2.2.2.2.2.1 : Int).toNat)]?).bind fun e1 =>
  (bif (decide ((e1 : Int) ≠ a.2.1.1)) then
  (quorum_Votes a.2.2.1 e1).bind fun r2 =>
  (bif r2.1 then
  (raft_within 1 5 ([e1] : LI)).bind fun r3 =>
  (bif r3.1 then
  (raft_letter 1 e1 a.2.1 a.2.2.2.1).bind fun r4 =>
  (log_Last_w r4.2.2.1).bind fun r5 =>
  (log_Last_w r5.2.1).bind fun r6 =>
  (raft_term_w r6.1 r4.2.1 r6.2.1).bind fun r7 =>
  (if a.1.2.2.1.length + ([(⟨r4.1.kind, r4.1.group, r4.1.from_, r4.1.to_, r4.1.term_, r5.1, r7.1, r4.1.commit, r4.1.ok, r4.1.entries, r4.1.base, r4.1.size, r4.1.at_, r4.1.tag, r4.1.bytes⟩ : DLetter)] : List (DLetter)).length ≤ 140737488355328 ∧ (a.1.2.2.1.length + ([(⟨r4.1.kind, r4.1.group, r4.1.from_, r4.1.to_, r4.1.term_, r5.1, r7.1, r4.1.commit, r4.1.ok, r4.1.entries, r4.1.base, r4.1.size, r4.1.at_, r4.1.tag, r4.1.bytes⟩ : DLetter)] : List (DLetter)).length) * 256 ≤ 140737488355328 then
  let y8 : List (DLetter) := (a.1.2.2.1 ++ ([(⟨r4.1.kind, r4.1.group, r4.1.from_, r4.1.to_, r4.1.term_, r5.1, r7.1, r4.1.commit, r4.1.ok, r4.1.entries, r4.1.base, r4.1.size, r4.1.at_, r4.1.tag, r4.1.bytes⟩ : DLetter)] : List (DLetter)))
  some (.inl (((), (), y8, (a.1.2.2.2.1.1, a.1.2.2.2.1.2), a.1.2.2.2.2.1, (IntKind.i64.wrap (a.1.2.2.2.2.2.1 + 1)), ()), (r7.2.1, a.2.2.1, r7.2.2.1, (), a.2.2.2.2.2.1, (), (), ())))
  else none)
  else
  some (.inl (((), (), a.1.2.2.1, (a.1.2.2.2.1.1, a.1.2.2.2.1.2), a.1.2.2.2.2.1, (IntKind.i64.wrap (a.1.2.2.2.2.2.1 + 1)), ()), (a.2.1, a.2.2.1, a.2.2.2.1, (), a.2.2.2.2.2.1, (), (), ()))))
  else
  some (.inl (((), (), a.1.2.2.1, (a.1.2.2.2.1.1, a.1.2.2.2.1.2), a.1.2.2.2.2.1, (IntKind.i64.wrap (a.1.2.2.2.2.2.1 + 1)), ()), (a.2.1, a.2.2.1, a.2.2.2.1, (), a.2.2.2.2.2.1, (), (), ()))))
  else
  some (.inl (((), (), a.1.2.2.1, (a.1.2.2.2.1.1, a.1.2.2.2.1.2), a.1.2.2.2.2.1, (IntKind.i64.wrap (a.1.2.2.2.2.2.1 + 1)), ()), (a.2.1, a.2.2.1, a.2.2.2.1, (), a.2.2.2.2.2.1, (), (), ()))))
  else none)
  else
  some (.inr ((a.1.2.2.1, ()), (a.2.1, a.2.2.1, a.2.2.2.1, (), (), (), (), (), (), (), ()))))
def raft_asks_e1 : LEp := ⟨8, [0, 5, 6, 61, 62, 63], [.one (.ptr 0 0), .one (.ptr 1 0), .one (.own 11 3), .one (.asu 0 4), .one (.int .i64), .one (.int .i64)], [.obj 67 (sh0 2 5), .cobj 42 7, .obj 79 [.int .i64, .int .i64, .sl 0, .sl 0, .sl 0, .sl 0, .bool, .own 8 6], .row 47 20, .arr 3 0 false, .row 3 1, .row 83 7], [⟨.exit 0, [6], [.one (.own 11 7)], [.obj 67 (sh0 2 8), .cobj 42 7, .obj 79 [.int .i64, .int .i64, .sl 0, .sl 0, .sl 0, .sl 0, .bool, .own 8 9], .dead, .dead, .dead, .dead, .row 47 20, .row 3 1, .row 83 7]⟩], raft_asks_l1⟩
def raft_asks_lt : List (LEp) := [raft_asks_e1]
theorem raft_asks_e1_ok : LeOk raft_asks_e1 (nthL (bodyOf Tryz.f32) 0) := fun A env h k z hk => le_ok (E := raft_asks_e1) (orcOf_ok raft_asks_tb) (dr := raft_asks_dr) (lps := lpsOf raft_asks_lt) (no_loop (by kernel_rfl)) (fun a => by kernel_rfl) env h k z hk
def raft_asks (x1 : Int) (h0 : Int × Int × Int × Int × Int × Int × Int × Int × Int × Unit × LI × Int × Int × Int × Int × Int × Int × Int × Int × Int × Int × Int × Int × Int × Int × Int × Int × Int × Int × Int × Int × Int × Int × Int × Int × Bool × Int × Unit) (h1 : Int × Int × LI × LI × LI × LI × Bool × (List (DEntry)) × Unit) : Option ((List (DLetter)) × ((Int × Int × Int × Int × Int × Int × Int × Int × Int × Unit × LI × Int × Int × Int × Int × Int × Int × Int × Int × Int × Int × Int × Int × Int × Int × Int × Int × Int × Int × Int × Int × Int × Int × Int × Int × Bool × Int × Unit) × (Int × Int × LI × LI × LI × LI × Bool × (List (DEntry)) × Unit) × Unit × Unit × Unit × Unit × Unit × Unit)) :=
  (raft_config h0 h1).bind fun r1 =>
  (raft_turn (IntKind.i64.wrap (r1.2.1.2.1 + 1)) r1.2.1.1 r1.2.1 r1.2.2.1).bind fun r2 =>
  (quorum_Agrees r1.1 ([r2.2.1.1] : LI)).bind fun r3 =>
  (bif r3.1 then
  (raft_leads (r2.2.1.1, r2.2.1.2.1, r2.2.1.2.2.1, 2, 0, r2.2.1.2.2.2.2.2.1, 0, (IntKind.i64.wrap (10 + x1)), r2.2.1.2.2.2.2.2.2.2.2.1, (), ([r2.2.1.1] : LI), r2.2.1.2.2.2.2.2.2.2.2.2.2.2.1, r2.2.1.2.2.2.2.2.2.2.2.2.2.2.2.1, r2.2.1.2.2.2.2.2.2.2.2.2.2.2.2.2.1, r2.2.1.2.2.2.2.2.2.2.2.2.2.2.2.2.2.1, r2.2.1.2.2.2.2.2.2.2.2.2.2.2.2.2.2.2.1, r2.2.1.2.2.2.2.2.2.2.2.2.2.2.2.2.2.2.2.1, r2.2.1.2.2.2.2.2.2.2.2.2.2.2.2.2.2.2.2.2.1, r2.2.1.2.2.2.2.2.2.2.2.2.2.2.2.2.2.2.2.2.2.1, r2.2.1.2.2.2.2.2.2.2.2.2.2.2.2.2.2.2.2.2.2.2.1, r2.2.1.2.2.2.2.2.2.2.2.2.2.2.2.2.2.2.2.2.2.2.2.1, r2.2.1.2.2.2.2.2.2.2.2.2.2.2.2.2.2.2.2.2.2.2.2.2.1, r2.2.1.2.2.2.2.2.2.2.2.2.2.2.2.2.2.2.2.2.2.2.2.2.2.1, r2.2.1.2.2.2.2.2.2.2.2.2.2.2.2.2.2.2.2.2.2.2.2.2.2.2.1, r2.2.1.2.2.2.2.2.2.2.2.2.2.2.2.2.2.2.2.2.2.2.2.2.2.2.2.1, r2.2.1.2.2.2.2.2.2.2.2.2.2.2.2.2.2.2.2.2.2.2.2.2.2.2.2.2.1, r2.2.1.2.2.2.2.2.2.2.2.2.2.2.2.2.2.2.2.2.2.2.2.2.2.2.2.2.2.1, r2.2.1.2.2.2.2.2.2.2.2.2.2.2.2.2.2.2.2.2.2.2.2.2.2.2.2.2.2.2.1, r2.2.1.2.2.2.2.2.2.2.2.2.2.2.2.2.2.2.2.2.2.2.2.2.2.2.2.2.2.2.2.1, r2.2.1.2.2.2.2.2.2.2.2.2.2.2.2.2.2.2.2.2.2.2.2.2.2.2.2.2.2.2.2.2.1, r2.2.1.2.2.2.2.2.2.2.2.2.2.2.2.2.2.2.2.2.2.2.2.2.2.2.2.2.2.2.2.2.2.1, r2.2.1.2.2.2.2.2.2.2.2.2.2.2.2.2.2.2.2.2.2.2.2.2.2.2.2.2.2.2.2.2.2.2.1, r2.2.1.2.2.2.2.2.2.2.2.2.2.2.2.2.2.2.2.2.2.2.2.2.2.2.2.2.2.2.2.2.2.2.2.1, r2.2.1.2.2.2.2.2.2.2.2.2.2.2.2.2.2.2.2.2.2.2.2.2.2.2.2.2.2.2.2.2.2.2.2.2.1, r2.2.1.2.2.2.2.2.2.2.2.2.2.2.2.2.2.2.2.2.2.2.2.2.2.2.2.2.2.2.2.2.2.2.2.2.2.1, r2.2.1.2.2.2.2.2.2.2.2.2.2.2.2.2.2.2.2.2.2.2.2.2.2.2.2.2.2.2.2.2.2.2.2.2.2.2.1, r2.2.1.2.2.2.2.2.2.2.2.2.2.2.2.2.2.2.2.2.2.2.2.2.2.2.2.2.2.2.2.2.2.2.2.2.2.2.2.1, ()) r2.2.2.1).bind fun r4 =>
  some ([], (r4.2.1, r4.2.2.1, (), (), (), (), (), ()))
  else
  (quorum_Nodes r1.1).bind fun r5 =>
  (loopM raft_asks_l1 (((), (), [], (r5.1.1, r5.1.2), ((r5.1.2 : Nat) : Int), 0, ()), ((r2.2.1.1, r2.2.1.2.1, r2.2.1.2.2.1, 2, 0, r2.2.1.2.2.2.2.2.1, 0, (IntKind.i64.wrap (10 + x1)), r2.2.1.2.2.2.2.2.2.2.2.1, (), ([r2.2.1.1] : LI), r2.2.1.2.2.2.2.2.2.2.2.2.2.2.1, r2.2.1.2.2.2.2.2.2.2.2.2.2.2.2.1, r2.2.1.2.2.2.2.2.2.2.2.2.2.2.2.2.1, r2.2.1.2.2.2.2.2.2.2.2.2.2.2.2.2.2.1, r2.2.1.2.2.2.2.2.2.2.2.2.2.2.2.2.2.2.1, r2.2.1.2.2.2.2.2.2.2.2.2.2.2.2.2.2.2.2.1, r2.2.1.2.2.2.2.2.2.2.2.2.2.2.2.2.2.2.2.2.1, r2.2.1.2.2.2.2.2.2.2.2.2.2.2.2.2.2.2.2.2.2.1, r2.2.1.2.2.2.2.2.2.2.2.2.2.2.2.2.2.2.2.2.2.2.1, r2.2.1.2.2.2.2.2.2.2.2.2.2.2.2.2.2.2.2.2.2.2.2.1, r2.2.1.2.2.2.2.2.2.2.2.2.2.2.2.2.2.2.2.2.2.2.2.2.1, r2.2.1.2.2.2.2.2.2.2.2.2.2.2.2.2.2.2.2.2.2.2.2.2.2.1, r2.2.1.2.2.2.2.2.2.2.2.2.2.2.2.2.2.2.2.2.2.2.2.2.2.2.1, r2.2.1.2.2.2.2.2.2.2.2.2.2.2.2.2.2.2.2.2.2.2.2.2.2.2.2.1, r2.2.1.2.2.2.2.2.2.2.2.2.2.2.2.2.2.2.2.2.2.2.2.2.2.2.2.2.1, r2.2.1.2.2.2.2.2.2.2.2.2.2.2.2.2.2.2.2.2.2.2.2.2.2.2.2.2.2.1, r2.2.1.2.2.2.2.2.2.2.2.2.2.2.2.2.2.2.2.2.2.2.2.2.2.2.2.2.2.2.1, r2.2.1.2.2.2.2.2.2.2.2.2.2.2.2.2.2.2.2.2.2.2.2.2.2.2.2.2.2.2.2.1, r2.2.1.2.2.2.2.2.2.2.2.2.2.2.2.2.2.2.2.2.2.2.2.2.2.2.2.2.2.2.2.2.1, r2.2.1.2.2.2.2.2.2.2.2.2.2.2.2.2.2.2.2.2.2.2.2.2.2.2.2.2.2.2.2.2.2.1, r2.2.1.2.2.2.2.2.2.2.2.2.2.2.2.2.2.2.2.2.2.2.2.2.2.2.2.2.2.2.2.2.2.2.1, r2.2.1.2.2.2.2.2.2.2.2.2.2.2.2.2.2.2.2.2.2.2.2.2.2.2.2.2.2.2.2.2.2.2.2.1, r2.2.1.2.2.2.2.2.2.2.2.2.2.2.2.2.2.2.2.2.2.2.2.2.2.2.2.2.2.2.2.2.2.2.2.2.1, r2.2.1.2.2.2.2.2.2.2.2.2.2.2.2.2.2.2.2.2.2.2.2.2.2.2.2.2.2.2.2.2.2.2.2.2.2.1, r2.2.1.2.2.2.2.2.2.2.2.2.2.2.2.2.2.2.2.2.2.2.2.2.2.2.2.2.2.2.2.2.2.2.2.2.2.2.1, r2.2.1.2.2.2.2.2.2.2.2.2.2.2.2.2.2.2.2.2.2.2.2.2.2.2.2.2.2.2.2.2.2.2.2.2.2.2.2.1, ()), r1.1, r2.2.2.1, (), r5.2.1, (), (), ()))).bind fun b6 =>
  some (b6.1.1, (b6.2.1, b6.2.2.2.1, (), (), (), (), (), ())))
def raft_asks_ce : CEp where
  f := 32
  args := [.one (.ptr 0 0), .one (.int .i64)]
  hs := [.obj 67 (sh0 1 2), .obj 79 [.int .i64, .int .i64, .sl 0, .sl 0, .sl 0, .sl 0, .bool, .own 8 3], .row 3 1, .row 83 7]
  res := .val (.one (.own 11 4))
  outs := [.obj 67 (sh0 1 5), .obj 79 [.int .i64, .int .i64, .sl 0, .sl 0, .sl 0, .sl 0, .bool, .own 8 6], .dead, .dead, .row 47 20, .row 3 1, .row 83 7]
  m := fun d dh => raft_asks d.2.1 dh.1 dh.2.1
  ok := ce_ok mixedP Tryz.func32 (by kernel_rfl) (orcOf_ok raft_asks_tb) (dr := raft_asks_dr) (lps := lpsOf raft_asks_lt) (lps_fn (lps_of (n := 1) (by kernel_rfl) fun i hi => match i, hi with | 0, _ => lp_ok (E := raft_asks_e1) (by kernel_rfl) raft_asks_e1_ok)) (fun d dh => by kernel_rfl)

def raft_Tick_dr : Nat → Nat → DrA
  | 9, _ => ⟨[0, 1, 2, 3, 5, 6, 7, 8, 4, 9, 10, 11, 12, 13, 14, 15, 16, 17, 18, 19, 20, 21, 22, 23], [[], [0], [0, 1], [0, 1, 2], [0, 1, 2, 3], [], [5], [5, 6], [5, 6, 7], [5, 6, 7, 8], (List.range 10), (List.range 11), (List.range 12), (List.range 13), (List.range 14), (List.range 15), (List.range 16), (List.range 17), (List.range 18), (List.range 19), (List.range 20), (List.range 21), (List.range 22), (List.range 23)], [], [], [], false, []⟩
  | _, _ => ⟨[], [], [], [], [], false, []⟩
def raft_Tick_tb : List (CEp) := [raft_there_ce, raft_stands_ce, raft_asks_ce]
def raft_Tick (x1 : Int) (h0 : Int × Int × Int × Int × Int × Int × Int × Int × Int × Unit × LI × Int × Int × Int × Int × Int × Int × Int × Int × Int × Int × Int × Int × Int × Int × Int × Int × Int × Int × Int × Int × Int × Int × Int × Int × Bool × Int × Unit) (h1 : Int × Int × LI × LI × LI × LI × Bool × (List (DEntry)) × Unit) : Option ((List (DLetter)) × ((Int × Int × Int × Int × Int × Int × Int × Int × Int × Unit × LI × Int × Int × Int × Int × Int × Int × Int × Int × Int × Int × Int × Int × Int × Int × Int × Int × Int × Int × Int × Int × Int × Int × Int × Int × Bool × Int × Unit) × (Int × Int × LI × LI × LI × LI × Bool × (List (DEntry)) × Unit) × Unit × Unit × Unit × Unit × Unit × Unit)) :=
  (raft_there h0 h1).bind fun r1 =>
  (bif (!r1.1) then
  some ([], (r1.2.1, r1.2.2.1, (), (), (), (), (), ()))
  else
  (bif (decide ((r1.2.1.2.2.2.1 : Int) = 3)) then
  none
  else
  let y2 : Int := (if (10 : Int) < (IntKind.i64.wrap (r1.2.1.2.2.2.2.2.2.2.2.1 + 1)) then 10 else (IntKind.i64.wrap (r1.2.1.2.2.2.2.2.2.2.2.1 + 1)))
  (bif (decide ((y2 : Int) = 10)) then
  (bif (decide (((IntKind.i64.wrap (r1.2.1.2.2.2.2.2.2.1 + 1)) : Int) < r1.2.1.2.2.2.2.2.2.2.1)) then
  some ([], ((r1.2.1.1, r1.2.1.2.1, r1.2.1.2.2.1, r1.2.1.2.2.2.1, 0, r1.2.1.2.2.2.2.2.1, (IntKind.i64.wrap (r1.2.1.2.2.2.2.2.2.1 + 1)), r1.2.1.2.2.2.2.2.2.2.1, y2, (), r1.2.1.2.2.2.2.2.2.2.2.2.2.1, r1.2.1.2.2.2.2.2.2.2.2.2.2.2.1, r1.2.1.2.2.2.2.2.2.2.2.2.2.2.2.1, r1.2.1.2.2.2.2.2.2.2.2.2.2.2.2.2.1, r1.2.1.2.2.2.2.2.2.2.2.2.2.2.2.2.2.1, r1.2.1.2.2.2.2.2.2.2.2.2.2.2.2.2.2.2.1, r1.2.1.2.2.2.2.2.2.2.2.2.2.2.2.2.2.2.2.1, r1.2.1.2.2.2.2.2.2.2.2.2.2.2.2.2.2.2.2.2.1, r1.2.1.2.2.2.2.2.2.2.2.2.2.2.2.2.2.2.2.2.2.1, r1.2.1.2.2.2.2.2.2.2.2.2.2.2.2.2.2.2.2.2.2.2.1, r1.2.1.2.2.2.2.2.2.2.2.2.2.2.2.2.2.2.2.2.2.2.2.1, r1.2.1.2.2.2.2.2.2.2.2.2.2.2.2.2.2.2.2.2.2.2.2.2.1, r1.2.1.2.2.2.2.2.2.2.2.2.2.2.2.2.2.2.2.2.2.2.2.2.2.1, r1.2.1.2.2.2.2.2.2.2.2.2.2.2.2.2.2.2.2.2.2.2.2.2.2.2.1, r1.2.1.2.2.2.2.2.2.2.2.2.2.2.2.2.2.2.2.2.2.2.2.2.2.2.2.1, r1.2.1.2.2.2.2.2.2.2.2.2.2.2.2.2.2.2.2.2.2.2.2.2.2.2.2.2.1, r1.2.1.2.2.2.2.2.2.2.2.2.2.2.2.2.2.2.2.2.2.2.2.2.2.2.2.2.2.1, r1.2.1.2.2.2.2.2.2.2.2.2.2.2.2.2.2.2.2.2.2.2.2.2.2.2.2.2.2.2.1, r1.2.1.2.2.2.2.2.2.2.2.2.2.2.2.2.2.2.2.2.2.2.2.2.2.2.2.2.2.2.2.1, r1.2.1.2.2.2.2.2.2.2.2.2.2.2.2.2.2.2.2.2.2.2.2.2.2.2.2.2.2.2.2.2.1, r1.2.1.2.2.2.2.2.2.2.2.2.2.2.2.2.2.2.2.2.2.2.2.2.2.2.2.2.2.2.2.2.2.1, r1.2.1.2.2.2.2.2.2.2.2.2.2.2.2.2.2.2.2.2.2.2.2.2.2.2.2.2.2.2.2.2.2.2.1, r1.2.1.2.2.2.2.2.2.2.2.2.2.2.2.2.2.2.2.2.2.2.2.2.2.2.2.2.2.2.2.2.2.2.2.1, r1.2.1.2.2.2.2.2.2.2.2.2.2.2.2.2.2.2.2.2.2.2.2.2.2.2.2.2.2.2.2.2.2.2.2.2.1, r1.2.1.2.2.2.2.2.2.2.2.2.2.2.2.2.2.2.2.2.2.2.2.2.2.2.2.2.2.2.2.2.2.2.2.2.2.1, r1.2.1.2.2.2.2.2.2.2.2.2.2.2.2.2.2.2.2.2.2.2.2.2.2.2.2.2.2.2.2.2.2.2.2.2.2.2.1, r1.2.1.2.2.2.2.2.2.2.2.2.2.2.2.2.2.2.2.2.2.2.2.2.2.2.2.2.2.2.2.2.2.2.2.2.2.2.2.1, ()), r1.2.2.1, (), (), (), (), (), ()))
  else
  (raft_stands (r1.2.1.1, r1.2.1.2.1, r1.2.1.2.2.1, r1.2.1.2.2.2.1, 0, r1.2.1.2.2.2.2.2.1, (IntKind.i64.wrap (r1.2.1.2.2.2.2.2.2.1 + 1)), r1.2.1.2.2.2.2.2.2.2.1, y2, (), r1.2.1.2.2.2.2.2.2.2.2.2.2.1, r1.2.1.2.2.2.2.2.2.2.2.2.2.2.1, r1.2.1.2.2.2.2.2.2.2.2.2.2.2.2.1, r1.2.1.2.2.2.2.2.2.2.2.2.2.2.2.2.1, r1.2.1.2.2.2.2.2.2.2.2.2.2.2.2.2.2.1, r1.2.1.2.2.2.2.2.2.2.2.2.2.2.2.2.2.2.1, r1.2.1.2.2.2.2.2.2.2.2.2.2.2.2.2.2.2.2.1, r1.2.1.2.2.2.2.2.2.2.2.2.2.2.2.2.2.2.2.2.1, r1.2.1.2.2.2.2.2.2.2.2.2.2.2.2.2.2.2.2.2.2.1, r1.2.1.2.2.2.2.2.2.2.2.2.2.2.2.2.2.2.2.2.2.2.1, r1.2.1.2.2.2.2.2.2.2.2.2.2.2.2.2.2.2.2.2.2.2.2.1, r1.2.1.2.2.2.2.2.2.2.2.2.2.2.2.2.2.2.2.2.2.2.2.2.1, r1.2.1.2.2.2.2.2.2.2.2.2.2.2.2.2.2.2.2.2.2.2.2.2.2.1, r1.2.1.2.2.2.2.2.2.2.2.2.2.2.2.2.2.2.2.2.2.2.2.2.2.2.1, r1.2.1.2.2.2.2.2.2.2.2.2.2.2.2.2.2.2.2.2.2.2.2.2.2.2.2.1, r1.2.1.2.2.2.2.2.2.2.2.2.2.2.2.2.2.2.2.2.2.2.2.2.2.2.2.2.1, r1.2.1.2.2.2.2.2.2.2.2.2.2.2.2.2.2.2.2.2.2.2.2.2.2.2.2.2.2.1, r1.2.1.2.2.2.2.2.2.2.2.2.2.2.2.2.2.2.2.2.2.2.2.2.2.2.2.2.2.2.1, r1.2.1.2.2.2.2.2.2.2.2.2.2.2.2.2.2.2.2.2.2.2.2.2.2.2.2.2.2.2.2.1, r1.2.1.2.2.2.2.2.2.2.2.2.2.2.2.2.2.2.2.2.2.2.2.2.2.2.2.2.2.2.2.2.1, r1.2.1.2.2.2.2.2.2.2.2.2.2.2.2.2.2.2.2.2.2.2.2.2.2.2.2.2.2.2.2.2.2.1, r1.2.1.2.2.2.2.2.2.2.2.2.2.2.2.2.2.2.2.2.2.2.2.2.2.2.2.2.2.2.2.2.2.2.1, r1.2.1.2.2.2.2.2.2.2.2.2.2.2.2.2.2.2.2.2.2.2.2.2.2.2.2.2.2.2.2.2.2.2.2.1, r1.2.1.2.2.2.2.2.2.2.2.2.2.2.2.2.2.2.2.2.2.2.2.2.2.2.2.2.2.2.2.2.2.2.2.2.1, r1.2.1.2.2.2.2.2.2.2.2.2.2.2.2.2.2.2.2.2.2.2.2.2.2.2.2.2.2.2.2.2.2.2.2.2.2.1, r1.2.1.2.2.2.2.2.2.2.2.2.2.2.2.2.2.2.2.2.2.2.2.2.2.2.2.2.2.2.2.2.2.2.2.2.2.2.1, r1.2.1.2.2.2.2.2.2.2.2.2.2.2.2.2.2.2.2.2.2.2.2.2.2.2.2.2.2.2.2.2.2.2.2.2.2.2.2.1, ()) r1.2.2.1).bind fun r3 =>
  (bif (!r3.1) then
  some ([], (r3.2.1, r3.2.2.1, (), (), (), (), (), ()))
  else
  (bif (decide ((1073741824 : Int) ≤ r3.2.1.2.1)) then
  some ([], (r3.2.1, r3.2.2.1, (), (), (), (), (), ()))
  else
  (raft_asks (((if (x1 : Int) < 0 then 0 else x1) : Int).tmod 10) r3.2.1 r3.2.2.1).bind fun r4 =>
  some (r4.1, (r4.2.1, r4.2.2.1, (), (), (), (), (), ())))))
  else
  (bif (decide (((IntKind.i64.wrap (r1.2.1.2.2.2.2.2.2.1 + 1)) : Int) < r1.2.1.2.2.2.2.2.2.2.1)) then
  some ([], ((r1.2.1.1, r1.2.1.2.1, r1.2.1.2.2.1, r1.2.1.2.2.2.1, r1.2.1.2.2.2.2.1, r1.2.1.2.2.2.2.2.1, (IntKind.i64.wrap (r1.2.1.2.2.2.2.2.2.1 + 1)), r1.2.1.2.2.2.2.2.2.2.1, y2, (), r1.2.1.2.2.2.2.2.2.2.2.2.2.1, r1.2.1.2.2.2.2.2.2.2.2.2.2.2.1, r1.2.1.2.2.2.2.2.2.2.2.2.2.2.2.1, r1.2.1.2.2.2.2.2.2.2.2.2.2.2.2.2.1, r1.2.1.2.2.2.2.2.2.2.2.2.2.2.2.2.2.1, r1.2.1.2.2.2.2.2.2.2.2.2.2.2.2.2.2.2.1, r1.2.1.2.2.2.2.2.2.2.2.2.2.2.2.2.2.2.2.1, r1.2.1.2.2.2.2.2.2.2.2.2.2.2.2.2.2.2.2.2.1, r1.2.1.2.2.2.2.2.2.2.2.2.2.2.2.2.2.2.2.2.2.1, r1.2.1.2.2.2.2.2.2.2.2.2.2.2.2.2.2.2.2.2.2.2.1, r1.2.1.2.2.2.2.2.2.2.2.2.2.2.2.2.2.2.2.2.2.2.2.1, r1.2.1.2.2.2.2.2.2.2.2.2.2.2.2.2.2.2.2.2.2.2.2.2.1, r1.2.1.2.2.2.2.2.2.2.2.2.2.2.2.2.2.2.2.2.2.2.2.2.2.1, r1.2.1.2.2.2.2.2.2.2.2.2.2.2.2.2.2.2.2.2.2.2.2.2.2.2.1, r1.2.1.2.2.2.2.2.2.2.2.2.2.2.2.2.2.2.2.2.2.2.2.2.2.2.2.1, r1.2.1.2.2.2.2.2.2.2.2.2.2.2.2.2.2.2.2.2.2.2.2.2.2.2.2.2.1, r1.2.1.2.2.2.2.2.2.2.2.2.2.2.2.2.2.2.2.2.2.2.2.2.2.2.2.2.2.1, r1.2.1.2.2.2.2.2.2.2.2.2.2.2.2.2.2.2.2.2.2.2.2.2.2.2.2.2.2.2.1, r1.2.1.2.2.2.2.2.2.2.2.2.2.2.2.2.2.2.2.2.2.2.2.2.2.2.2.2.2.2.2.1, r1.2.1.2.2.2.2.2.2.2.2.2.2.2.2.2.2.2.2.2.2.2.2.2.2.2.2.2.2.2.2.2.1, r1.2.1.2.2.2.2.2.2.2.2.2.2.2.2.2.2.2.2.2.2.2.2.2.2.2.2.2.2.2.2.2.2.1, r1.2.1.2.2.2.2.2.2.2.2.2.2.2.2.2.2.2.2.2.2.2.2.2.2.2.2.2.2.2.2.2.2.2.1, r1.2.1.2.2.2.2.2.2.2.2.2.2.2.2.2.2.2.2.2.2.2.2.2.2.2.2.2.2.2.2.2.2.2.2.1, r1.2.1.2.2.2.2.2.2.2.2.2.2.2.2.2.2.2.2.2.2.2.2.2.2.2.2.2.2.2.2.2.2.2.2.2.1, r1.2.1.2.2.2.2.2.2.2.2.2.2.2.2.2.2.2.2.2.2.2.2.2.2.2.2.2.2.2.2.2.2.2.2.2.2.1, r1.2.1.2.2.2.2.2.2.2.2.2.2.2.2.2.2.2.2.2.2.2.2.2.2.2.2.2.2.2.2.2.2.2.2.2.2.2.1, r1.2.1.2.2.2.2.2.2.2.2.2.2.2.2.2.2.2.2.2.2.2.2.2.2.2.2.2.2.2.2.2.2.2.2.2.2.2.2.1, ()), r1.2.2.1, (), (), (), (), (), ()))
  else
  (raft_stands (r1.2.1.1, r1.2.1.2.1, r1.2.1.2.2.1, r1.2.1.2.2.2.1, r1.2.1.2.2.2.2.1, r1.2.1.2.2.2.2.2.1, (IntKind.i64.wrap (r1.2.1.2.2.2.2.2.2.1 + 1)), r1.2.1.2.2.2.2.2.2.2.1, y2, (), r1.2.1.2.2.2.2.2.2.2.2.2.2.1, r1.2.1.2.2.2.2.2.2.2.2.2.2.2.1, r1.2.1.2.2.2.2.2.2.2.2.2.2.2.2.1, r1.2.1.2.2.2.2.2.2.2.2.2.2.2.2.2.1, r1.2.1.2.2.2.2.2.2.2.2.2.2.2.2.2.2.1, r1.2.1.2.2.2.2.2.2.2.2.2.2.2.2.2.2.2.1, r1.2.1.2.2.2.2.2.2.2.2.2.2.2.2.2.2.2.2.1, r1.2.1.2.2.2.2.2.2.2.2.2.2.2.2.2.2.2.2.2.1, r1.2.1.2.2.2.2.2.2.2.2.2.2.2.2.2.2.2.2.2.2.1, r1.2.1.2.2.2.2.2.2.2.2.2.2.2.2.2.2.2.2.2.2.2.1, r1.2.1.2.2.2.2.2.2.2.2.2.2.2.2.2.2.2.2.2.2.2.2.1, r1.2.1.2.2.2.2.2.2.2.2.2.2.2.2.2.2.2.2.2.2.2.2.2.1, r1.2.1.2.2.2.2.2.2.2.2.2.2.2.2.2.2.2.2.2.2.2.2.2.2.1, r1.2.1.2.2.2.2.2.2.2.2.2.2.2.2.2.2.2.2.2.2.2.2.2.2.2.1, r1.2.1.2.2.2.2.2.2.2.2.2.2.2.2.2.2.2.2.2.2.2.2.2.2.2.2.1, r1.2.1.2.2.2.2.2.2.2.2.2.2.2.2.2.2.2.2.2.2.2.2.2.2.2.2.2.1, r1.2.1.2.2.2.2.2.2.2.2.2.2.2.2.2.2.2.2.2.2.2.2.2.2.2.2.2.2.1, r1.2.1.2.2.2.2.2.2.2.2.2.2.2.2.2.2.2.2.2.2.2.2.2.2.2.2.2.2.2.1, r1.2.1.2.2.2.2.2.2.2.2.2.2.2.2.2.2.2.2.2.2.2.2.2.2.2.2.2.2.2.2.1, r1.2.1.2.2.2.2.2.2.2.2.2.2.2.2.2.2.2.2.2.2.2.2.2.2.2.2.2.2.2.2.2.1, r1.2.1.2.2.2.2.2.2.2.2.2.2.2.2.2.2.2.2.2.2.2.2.2.2.2.2.2.2.2.2.2.2.1, r1.2.1.2.2.2.2.2.2.2.2.2.2.2.2.2.2.2.2.2.2.2.2.2.2.2.2.2.2.2.2.2.2.2.1, r1.2.1.2.2.2.2.2.2.2.2.2.2.2.2.2.2.2.2.2.2.2.2.2.2.2.2.2.2.2.2.2.2.2.2.1, r1.2.1.2.2.2.2.2.2.2.2.2.2.2.2.2.2.2.2.2.2.2.2.2.2.2.2.2.2.2.2.2.2.2.2.2.1, r1.2.1.2.2.2.2.2.2.2.2.2.2.2.2.2.2.2.2.2.2.2.2.2.2.2.2.2.2.2.2.2.2.2.2.2.2.1, r1.2.1.2.2.2.2.2.2.2.2.2.2.2.2.2.2.2.2.2.2.2.2.2.2.2.2.2.2.2.2.2.2.2.2.2.2.2.1, r1.2.1.2.2.2.2.2.2.2.2.2.2.2.2.2.2.2.2.2.2.2.2.2.2.2.2.2.2.2.2.2.2.2.2.2.2.2.2.1, ()) r1.2.2.1).bind fun r5 =>
  (bif (!r5.1) then
  some ([], (r5.2.1, r5.2.2.1, (), (), (), (), (), ()))
  else
  (bif (decide ((1073741824 : Int) ≤ r5.2.1.2.1)) then
  some ([], (r5.2.1, r5.2.2.1, (), (), (), (), (), ()))
  else
  (raft_asks (((if (x1 : Int) < 0 then 0 else x1) : Int).tmod 10) r5.2.1 r5.2.2.1).bind fun r6 =>
  some (r6.1, (r6.2.1, r6.2.2.1, (), (), (), (), (), ()))))))))
def raft_Tick_ce : CEp where
  f := 9
  args := [.one (.ptr 0 0), .one (.int .i64)]
  hs := [.obj 67 (sh0 1 2), .obj 79 [.int .i64, .int .i64, .sl 0, .sl 0, .sl 0, .sl 0, .bool, .own 8 3], .row 3 1, .row 83 7]
  res := .val (.one (.own 11 4))
  outs := [.obj 67 (sh0 1 5), .obj 79 [.int .i64, .int .i64, .sl 0, .sl 0, .sl 0, .sl 0, .bool, .own 8 6], .dead, .dead, .row 47 20, .row 3 1, .row 83 7]
  m := fun d dh => raft_Tick d.2.1 dh.1 dh.2.1
  ok := ce_ok mixedP Tryz.func9 (by kernel_rfl) (orcOf_ok raft_Tick_tb) (dr := raft_Tick_dr) (lps := lpsOf lt0) (lps_fn (no_loop (by kernel_rfl))) (fun d dh => by kernel_rfl)

def raft_State_tb : List (CEp) := [raft_there_ce]
def raft_State (h0 : Int × Int × Int × Int × Int × Int × Int × Int × Int × Unit × LI × Int × Int × Int × Int × Int × Int × Int × Int × Int × Int × Int × Int × Int × Int × Int × Int × Int × Int × Int × Int × Int × Int × Int × Int × Bool × Int × Unit) (h1 : Int × Int × LI × LI × LI × LI × Bool × (List (DEntry)) × Unit) : Option ((DPeer) × ((Int × Int × Int × Int × Int × Int × Int × Int × Int × Unit × LI × Int × Int × Int × Int × Int × Int × Int × Int × Int × Int × Int × Int × Int × Int × Int × Int × Int × Int × Int × Int × Int × Int × Int × Int × Bool × Int × Unit) × (Int × Int × LI × LI × LI × LI × Bool × (List (DEntry)) × Unit) × Unit × Unit × Unit × Unit × Unit)) :=
  (raft_there h0 h1).bind fun r1 =>
  (bif (!r1.1) then
  some ((⟨0, 0, 0, 0, 0, 0⟩ : DPeer), (r1.2.1, r1.2.2.1, (), (), (), (), ()))
  else
  some ((⟨r1.2.1.1, r1.2.1.2.1, r1.2.1.2.2.1, r1.2.1.2.2.2.1, r1.2.1.2.2.2.2.1, r1.2.1.2.2.2.2.2.1⟩ : DPeer), (r1.2.1, r1.2.2.1, (), (), (), (), ())))
def raft_State_ce : CEp where
  f := 10
  args := [.one (.ptr 0 0)]
  hs := [.obj 67 (sh0 1 2), .obj 79 [.int .i64, .int .i64, .sl 0, .sl 0, .sl 0, .sl 0, .bool, .own 8 3], .row 3 1, .row 83 7]
  res := .val (.cod 15)
  outs := [.obj 67 (sh0 1 4), .obj 79 [.int .i64, .int .i64, .sl 0, .sl 0, .sl 0, .sl 0, .bool, .own 8 5], .dead, .dead, .row 3 1, .row 83 7]
  m := fun d dh => raft_State dh.1 dh.2.1
  ok := ceO Tryz.func10 (by kernel_rfl) raft_State_tb (by kernel_rfl) fun d dh => by kernel_rfl

def wl_awake_tb : List (CEp) := [log_New_ce, raft_New_ce, raft_Tick_ce, raft_State_ce]
def wl_awake_l1 (a : (Unit × Int × Unit) × ((Int × Int × Int × Int × Int × Int × Int × Int × Int × Unit × LI × Int × Int × Int × Int × Int × Int × Int × Int × Int × Int × Int × Int × Int × Int × Int × Int × Int × Int × Int × Int × Int × Int × Int × Int × Bool × Int × Unit) × (Int × Int × LI × LI × LI × LI × Bool × (List (DEntry)) × Unit) × Unit × Unit × Unit)) : Option (((Unit × Int × Unit) × ((Int × Int × Int × Int × Int × Int × Int × Int × Int × Unit × LI × Int × Int × Int × Int × Int × Int × Int × Int × Int × Int × Int × Int × Int × Int × Int × Int × Int × Int × Int × Int × Int × Int × Int × Int × Bool × Int × Unit) × (Int × Int × LI × LI × LI × LI × Bool × (List (DEntry)) × Unit) × Unit × Unit × Unit)) ⊕ (((Unit × Unit) × ((Int × Int × Int × Int × Int × Int × Int × Int × Int × Unit × LI × Int × Int × Int × Int × Int × Int × Int × Int × Int × Int × Int × Int × Int × Int × Int × Int × Int × Int × Int × Int × Int × Int × Int × Int × Bool × Int × Unit) × (Int × Int × LI × LI × LI × LI × Bool × (List (DEntry)) × Unit) × Unit × Unit × Unit × Unit × Unit)))) :=
  (bif (decide ((a.1.2.1 : Int) < 10)) then
  (raft_Tick 0 a.2.1 a.2.2.1).bind fun r1 =>
  some (.inl (((), (IntKind.i64.wrap (a.1.2.1 + 1)), ()), (r1.2.1, r1.2.2.1, (), (), ())))
  else
  some (.inr (((), ()), (a.2.1, a.2.2.1, (), (), (), (), ()))))
def wl_awake_e1 : LEp := ⟨5, [1, 2], [.one (.ptr 0 0), .one (.int .i64)], [.obj 67 (sh0 1 2), .obj 79 [.int .i64, .int .i64, .sl 0, .sl 0, .sl 0, .sl 0, .bool, .own 8 3], .row 3 1, .row 83 7], [⟨.exit 0, [1], [.one (.ptr 0 0)], [.obj 67 (sh0 1 4), .obj 79 [.int .i64, .int .i64, .sl 0, .sl 0, .sl 0, .sl 0, .bool, .own 8 5], .dead, .dead, .row 3 1, .row 83 7]⟩], wl_awake_l1⟩
def wl_awake_lt : List (LEp) := [wl_awake_e1]
theorem wl_awake_e1_ok : LeOk wl_awake_e1 (nthL (bodyOf Tryz.f6) 0) := fun A env h k z hk => le_ok (E := wl_awake_e1) (orcOf_ok wl_awake_tb) (dr := dr0) (lps := lpsOf wl_awake_lt) (no_loop (by kernel_rfl)) (fun a => by kernel_rfl) env h k z hk
def wl_awake  : Option (Bool × Unit) :=
  (log_New (⟨0, 0, (⟨([1] : LI), [], [], []⟩ : DConfig)⟩ : DBase)).bind fun r1 =>
  (raft_New 1 0 0 r1.2.1).bind fun r2 =>
  (loopM wl_awake_l1 (((), 0, ()), (r2.2.2.2.1, r2.2.1, (), (), ()))).bind fun b3 =>
  (raft_State b3.2.1 b3.2.2.1).bind fun r4 =>
  let y5 : Bool := (decide ((r4.1.id : Int) = 1) && (decide ((r4.1.term_ : Int) = 1) && (decide ((r4.1.vote : Int) = 1) && (decide ((r4.1.role : Int) = 3) && (decide ((r4.1.lead : Int) = 1) && (decide ((r4.1.commit : Int) = 1) && true))))))
  some (y5, ())
def wl_awake_ce : CEp where
  f := 6
  args := []
  hs := []
  res := .val (.one (.bool))
  outs := []
  m := fun d dh => wl_awake
  ok := ce_ok mixedP Tryz.func6 (by kernel_rfl) (orcOf_ok wl_awake_tb) (dr := dr0) (lps := lpsOf wl_awake_lt) (lps_fn (lps_of (n := 1) (by kernel_rfl) fun i hi => match i, hi with | 0, _ => lp_ok (E := wl_awake_e1) (by kernel_rfl) wl_awake_e1_ok)) (fun d dh => by kernel_rfl)

def wk_ConfigOf_tb : List (CEp) := []
def wk_ConfigOf (x0 : DConfig) : Option (Int × Unit) :=
  let y1 : Int := (IntKind.i64.wrap ((IntKind.i64.wrap ((IntKind.i64.wrap ((IntKind.i64.wrap (1 + (x0.voters.length : Int))) + (x0.old.length : Int))) + (x0.learners.length : Int))) + (x0.want.length : Int)))
  some (y1, ())
def wk_ConfigOf_ce : CEp where
  f := 46
  args := [.cod 7]
  hs := []
  res := .val (.one (.int .i64))
  outs := []
  m := fun d dh => wk_ConfigOf d.1
  ok := ceO Tryz.func46 (by kernel_rfl) wk_ConfigOf_tb (by kernel_rfl) fun d dh => by kernel_rfl

def wk_EntriesOf_dr : Nat → Nat → DrA
  | 5, _ => ⟨(List.range 6 ++ [10, 11, 12, 13, 6, 7, 8, 9, 14, 15, 16, 17]), [[], [0], [], [], [2, 3], [2, 3, 4], [2, 3, 4, 5], [2, 3, 4, 5, 6], [2, 3, 4, 5, 6, 7], (List.range 9), [], [], [10, 11], [10, 11, 12], [10, 11, 12, 13], [10, 11, 12, 13, 14], (List.range 16), (List.range 17)], [6], [15], [], false, []⟩
  | _, _ => ⟨[], [], [], [], [], false, []⟩
def wk_EntriesOf_tb : List (CEp) := [wk_ConfigOf_ce]
def wk_EntriesOf_l1 (a : ((List (DEntry)) × Int × Int × Int × Unit) × Unit) : Option ((((List (DEntry)) × Int × Int × Int × Unit) × Unit) ⊕ (((Int × Unit) × Unit))) :=
  (bif (decide ((a.1.2.2.2.1 : Int) < (a.1.1.length : Int))) then
  (bif (decide ((a.1.2.2.1 : Int) ≤ a.1.2.1)) then
  (getI a.1.1 a.1.2.2.2.1).bind fun e1 =>
  (getI a.1.1 a.1.2.2.2.1).bind fun e2 =>
  (wk_ConfigOf e2.config).bind fun r3 =>
  let y4 : Int := (IntKind.i64.wrap ((IntKind.i64.wrap ((IntKind.i64.wrap (a.1.2.2.1 + 1)) + (IntKind.i64.wrap (((e1.command.length : Int) : Int).tdiv 8)))) + r3.1))
  some (.inl ((a.1.1, a.1.2.1, y4, (IntKind.i64.wrap (a.1.2.2.2.1 + 1)), ()), ()))
  else
  some (.inr ((a.1.2.2.1, ()), ())))
  else
  some (.inr ((a.1.2.2.1, ()), ())))
def wk_EntriesOf_e1 : LEp := ⟨3, [0, 1, 5, 6], [.one (.sl 8), .one (.int .i64), .one (.int .i64), .one (.int .i64)], [], [⟨.exit 0, [5], [.one (.int .i64)], []⟩], wk_EntriesOf_l1⟩
def wk_EntriesOf_lt : List (LEp) := [wk_EntriesOf_e1]
theorem wk_EntriesOf_e1_ok : LeOk wk_EntriesOf_e1 (nthL (bodyOf Tryz.f62) 0) := fun A env h k z hk => le_ok (E := wk_EntriesOf_e1) (orcOf_ok wk_EntriesOf_tb) (dr := wk_EntriesOf_dr) (lps := lpsOf wk_EntriesOf_lt) (no_loop (by kernel_rfl)) (fun a => by kernel_rfl) env h k z hk
def wk_EntriesOf (x0 : List (DEntry)) (x1 : Int) : Option (Int × Unit) :=
  (loopM wk_EntriesOf_l1 ((x0, x1, 0, 0, ()), ())).bind fun b1 =>
  some (b1.1.1, ())
def wk_EntriesOf_ce : CEp where
  f := 62
  args := [.one (.sl 8), .one (.int .i64)]
  hs := []
  res := .val (.one (.int .i64))
  outs := []
  m := fun d dh => wk_EntriesOf d.1 d.2.1
  ok := ce_ok mixedP Tryz.func62 (by kernel_rfl) (orcOf_ok wk_EntriesOf_tb) (dr := wk_EntriesOf_dr) (lps := lpsOf wk_EntriesOf_lt) (lps_fn (lps_of (n := 1) (by kernel_rfl) fun i hi => match i, hi with | 0, _ => lp_ok (E := wk_EntriesOf_e1) (by kernel_rfl) wk_EntriesOf_e1_ok)) (fun d dh => by kernel_rfl)

def wk_LetterOf_dr : Nat → Nat → DrA
  | 1, _ => ⟨[0, 5, 6, 10, 12, 1, 2, 3, 4, 7, 11, 8, 9, 13, 14, 15], [[], [0], [0, 1], [0, 1, 2], [0, 1, 2, 3], [], [5], [5, 6], [5, 6, 7], (List.range 9), [], [10], [], [5, 6, 7, 8, 10, 11, 12], (List.range 14), (List.range 15)], [1, 11], [8, 13], [0], false, []⟩
  | _, _ => ⟨[], [], [], [], [], false, []⟩
def wk_LetterOf_tb : List (CEp) := [wk_ConfigOf_ce, wk_EntriesOf_ce]
def wk_LetterOf (x0 : DLetter) (x1 : Int) : Option (Int × Unit) :=
  (wk_ConfigOf x0.base.config).bind fun r1 =>
  (wk_EntriesOf x0.entries x1).bind fun r2 =>
  let y3 : Int := (IntKind.i64.wrap ((IntKind.i64.wrap ((IntKind.i64.wrap (1 + (IntKind.i64.wrap (((x0.bytes.length : Int) : Int).tdiv 8)))) + r1.1)) + r2.1))
  some (y3, ())
def wk_LetterOf_ce : CEp where
  f := 45
  args := [.cod 11, .one (.int .i64)]
  hs := []
  res := .val (.one (.int .i64))
  outs := []
  m := fun d dh => wk_LetterOf d.1 d.2.1
  ok := ce_ok mixedP Tryz.func45 (by kernel_rfl) (orcOf_ok wk_LetterOf_tb) (dr := wk_LetterOf_dr) (lps := lpsOf lt0) (lps_fn (no_loop (by kernel_rfl))) (fun d dh => by kernel_rfl)

def wl_great_tb : List (CEp) := [wk_LetterOf_ce, wk_ConfigOf_ce]
def wl_great_l2 (a : ((List (DCall)) × Int × Unit × Int × Unit) × ((DCall) × Unit)) : Option ((((List (DCall)) × Int × Unit × Int × Unit) × ((DCall) × Unit)) ⊕ (((Bool × Unit) × ((DCall) × Unit)) ⊕ (((List (DCall)) × Int × Unit) × ((DCall) × Unit)))) :=
  (bif (decide ((a.1.2.2.2.1 : Int) < (a.2.1.rows.length : Int))) then
  (getI a.2.1.rows a.1.2.2.2.1).bind fun e1 =>
  (bif (decide ((100 : Int) < (e1.length : Int))) then
  some (.inr (.inl ((true, ()), (a.2.1, ()))))
  else
  some (.inl ((a.1.1, a.1.2.1, (), (IntKind.i64.wrap (a.1.2.2.2.1 + 1)), ()), (a.2.1, ()))))
  else
  some (.inr (.inr ((a.1.1, a.1.2.1, ()), (a.2.1, ())))))
def wl_great_e2 : LEp := ⟨8, [0, 3, 4, 5], [.one (.sl 13), .one (.int .i64), .one (.ptr 0 0), .one (.int .i64)], [.cobj 58 13], [⟨.ret, [2], [.one (.bool)], [.cobj 58 13]⟩, ⟨.exit 2, [0, 3], [.one (.sl 13), .one (.int .i64)], [.cobj 58 13]⟩], wl_great_l2⟩
def wl_great_l1 (a : ((List (DCall)) × Int × Unit) × Unit) : Option ((((List (DCall)) × Int × Unit) × Unit) ⊕ (((Bool × Unit) × Unit) ⊕ (((List (DCall)) × Unit) × Unit))) :=
  (bif (decide ((a.1.2.1 : Int) < (a.1.1.length : Int))) then
  (bif (decide ((a.1.2.1 : Int) < 121)) then
  (getI a.1.1 a.1.2.1).bind fun e1 =>
  (wk_LetterOf e1.letter 400).bind fun r2 =>
  (bif (decide ((400 : Int) < r2.1)) then
  some (.inr (.inl ((true, ()), ())))
  else
  (bif (decide ((20 : Int) < (e1.want.length : Int))) then
  some (.inr (.inl ((true, ()), ())))
  else
  (bif (decide ((10 : Int) < (e1.rows.length : Int))) then
  some (.inr (.inl ((true, ()), ())))
  else
  (wk_ConfigOf e1.base.config).bind fun r3 =>
  (bif (decide ((40 : Int) < r3.1)) then
  some (.inr (.inl ((true, ()), ())))
  else
  (bif (decide ((e1.base.index : Int) < 0)) then
  some (.inr (.inl ((true, ()), ())))
  else
  (bif (decide ((1073741824 : Int) < e1.base.index)) then
  some (.inr (.inl ((true, ()), ())))
  else
  (bif (decide ((e1.base.term_ : Int) < 0)) then
  some (.inr (.inl ((true, ()), ())))
  else
  (loopM wl_great_l2 ((a.1.1, a.1.2.1, (), 0, ()), (e1, ()))).bind fun b4 =>
  (match b4 with
  | .inl b5 =>
  some (.inr (.inl ((b5.1.1, ()), ())))
  | .inr b6 =>
  some (.inl ((b6.1.1, (IntKind.i64.wrap (b6.1.2.1 + 1)), ()), ()))))))))))
  else
  some (.inr (.inr ((a.1.1, ()), ()))))
  else
  some (.inr (.inr ((a.1.1, ()), ()))))
def wl_great_e1 : LEp := ⟨2, [0, 3], [.one (.sl 13), .one (.int .i64)], [], [⟨.ret, [2], [.one (.bool)], []⟩, ⟨.exit 0, [0], [.one (.sl 13)], []⟩], wl_great_l1⟩
def wl_great_lt : List (LEp) := [wl_great_e2, wl_great_e1]
theorem wl_great_e2_ok : LeOk wl_great_e2 (nthL (nthL (bodyOf Tryz.f17) 0) 0) := fun A env h k z hk => le_ok (E := wl_great_e2) (orcOf_ok wl_great_tb) (dr := dr0) (lps := lpsOf wl_great_lt) (no_loop (by kernel_rfl)) (fun a => by kernel_rfl) env h k z hk
theorem wl_great_e1_ok : LeOk wl_great_e1 (nthL (bodyOf Tryz.f17) 0) := fun A env h k z hk => le_ok (E := wl_great_e1) (orcOf_ok wl_great_tb) (dr := dr0) (lps := lpsOf wl_great_lt) (lps_of (n := 1) (by kernel_rfl) fun i hi => match i, hi with | 0, _ => lp_ok (E := wl_great_e2) (by kernel_rfl) wl_great_e2_ok) (fun a => by kernel_rfl) env h k z hk
def wl_great (x0 : List (DCall)) : Option (Bool × Unit) :=
  (loopM wl_great_l1 ((x0, 0, ()), ())).bind fun b1 =>
  (match b1 with
  | .inl b2 =>
  some (b2.1.1, ())
  | .inr b3 =>
  some ((decide ((120 : Int) < (b3.1.1.length : Int))), ()))
def wl_great_ce : CEp where
  f := 17
  args := [.one (.sl 13)]
  hs := []
  res := .val (.one (.bool))
  outs := []
  m := fun d dh => wl_great d.1
  ok := ce_ok mixedP Tryz.func17 (by kernel_rfl) (orcOf_ok wl_great_tb) (dr := dr0) (lps := lpsOf wl_great_lt) (lps_fn (lps_of (n := 1) (by kernel_rfl) fun i hi => match i, hi with | 0, _ => lp_ok (E := wl_great_e1) (by kernel_rfl) wl_great_e1_ok)) (fun d dh => by kernel_rfl)

def raft_there_2_tb : List (CEp) := []
def raft_there_2  : Option (Bool × Unit) :=
  some (false, ())
def raft_there_2_ce : CEp where
  f := 29
  args := [.one (.nilptr)]
  hs := []
  res := .val (.one (.bool))
  outs := []
  m := fun d dh => raft_there_2
  ok := ceO Tryz.func29 (by kernel_rfl) raft_there_2_tb (by kernel_rfl) fun d dh => by kernel_rfl

def raft_Propose_tb : List (CEp) := [raft_there_2_ce]
def raft_Propose (x1 : List LB) : Option ((Int × Unit × Int × Unit) × Unit) :=
  (raft_there_2).bind fun r1 =>
  (bif (!r1.1) then
  some ((0, (), 1, ()), ())
  else
  none)
def raft_Propose_ce : CEp where
  f := 18
  args := [.one (.nilptr), .one (.sl 5)]
  hs := []
  res := .tup [.one (.int .i64), .one (.nil), .one (.int .i64)]
  outs := []
  m := fun d dh => raft_Propose d.2.1
  ok := ce_ok mixedP Tryz.func18 (by kernel_rfl) (orcOf_ok raft_Propose_tb) (dr := dr0) (lps := lpsOf lt0) (lps_fn (lps_of (n := 1) (by kernel_rfl) fun i hi => match i, hi with | 0, _ => lp_none (by kernel_rfl))) (fun d dh => by kernel_rfl)

def raft_Change_tb : List (CEp) := [raft_there_2_ce]
def raft_Change (x1 : LI) : Option ((Unit × Int × Unit) × Unit) :=
  (raft_there_2).bind fun r1 =>
  (bif (!r1.1) then
  some (((), 1, ()), ())
  else
  none)
def raft_Change_ce : CEp where
  f := 13
  args := [.one (.nilptr), .one (.sl 0)]
  hs := []
  res := .tup [.one (.nil), .one (.int .i64)]
  outs := []
  m := fun d dh => raft_Change d.2.1
  ok := ceO Tryz.func13 (by kernel_rfl) raft_Change_tb (by kernel_rfl) fun d dh => by kernel_rfl

def raft_Kept_dr : Nat → Nat → DrA
  | 3, _ => ⟨[0, 1, 2, 4, 5, 6, 3, 8, 7, 9], [[], [0], [0, 1], [0, 1, 2], [], [4], [4, 5], [4, 5, 6], [0, 1, 2, 3], (List.range 9)], [], [], [], false, []⟩
  | _, _ => ⟨[], [], [], [], [], false, []⟩
def raft_Kept_tb : List (CEp) := [raft_there_2_ce]
def raft_Kept  : Option ((Bool × Int × Unit) × Unit) :=
  (raft_there_2).bind fun r1 =>
  (bif (!r1.1) then
  some ((false, 0, ()), ())
  else
  none)
def raft_Kept_ce : CEp where
  f := 19
  args := [.one (.nilptr)]
  hs := []
  res := .tup [.one (.bool), .one (.int .i64)]
  outs := []
  m := fun d dh => raft_Kept
  ok := ce_ok mixedP Tryz.func19 (by kernel_rfl) (orcOf_ok raft_Kept_tb) (dr := raft_Kept_dr) (lps := lpsOf lt0) (lps_fn (no_loop (by kernel_rfl))) (fun d dh => by kernel_rfl)

def raft_State_2_tb : List (CEp) := [raft_there_2_ce]
def raft_State_2  : Option ((DPeer) × Unit) :=
  (raft_there_2).bind fun r1 =>
  (bif (!r1.1) then
  some ((⟨0, 0, 0, 0, 0, 0⟩ : DPeer), ())
  else
  none)
def raft_State_2_ce : CEp where
  f := 10
  args := [.one (.nilptr)]
  hs := []
  res := .val (.cod 15)
  outs := []
  m := fun d dh => raft_State_2
  ok := ceO Tryz.func10 (by kernel_rfl) raft_State_2_tb (by kernel_rfl) fun d dh => by kernel_rfl

def raft_Tick_2_tb : List (CEp) := [raft_there_2_ce]
def raft_Tick_2 (x1 : Int) : Option (Unit × Unit) :=
  (raft_there_2).bind fun r1 =>
  (bif (!r1.1) then
  some ((), ())
  else
  none)
def raft_Tick_2_ce : CEp where
  f := 9
  args := [.one (.nilptr), .one (.int .i64)]
  hs := []
  res := .val (.one (.nil))
  outs := []
  m := fun d dh => raft_Tick_2 d.2.1
  ok := ceO Tryz.func9 (by kernel_rfl) raft_Tick_2_tb (by kernel_rfl) fun d dh => by kernel_rfl

def raft_Letter_dr : Nat → Nat → DrA
  | 1, _ => ⟨(List.range 5 ++ [6, 7, 8, 9, 5, 10, 11, 12, 13, 14, 16, 17, 18, 19, 15, 20, 21, 22, 23, 24, 25, 26, 27, 28, 29, 30, 31, 32, 33, 34, 35, 36, 37, 38, 40, 42, 44, 46, 39, 41, 43, 45, 47, 48, 49, 50, 51]), [[], [0], [0, 1], [0, 1, 2], [0, 1, 2, 3], (List.range 5), [0, 1, 2, 3], [0, 1, 2, 3, 6], [0, 1, 2, 3, 6, 7], [0, 1, 2, 3, 6, 7, 8], [0, 1, 2, 3, 6, 7, 8, 9], (List.range 11), (List.range 12), (List.range 13), (List.range 14), (List.range 15), (List.range 14), (List.range 14 ++ [16]), (List.range 14 ++ [16, 17]), (List.range 14 ++ [16, 17, 18]), (List.range 14 ++ [16, 17, 18, 19]), (List.range 21), (List.range 22), (List.range 23), (List.range 24), (List.range 25), (List.range 26), (List.range 27), (List.range 28), (List.range 29), (List.range 30), (List.range 31), (List.range 32), (List.range 33), (List.range 34), (List.range 35), (List.range 36), (List.range 37), (List.range 38), (List.range 39), (List.range 38), (List.range 38 ++ [40]), (List.range 38), (List.range 38 ++ [42]), (List.range 38), (List.range 38 ++ [44]), (List.range 38), (List.range 38 ++ [46]), (List.range 48), (List.range 49), (List.range 50), (List.range 51)], [], [], [], false, []⟩
  | _, _ => ⟨[], [], [], [], [], false, []⟩
def raft_Letter_tb : List (CEp) := [raft_there_2_ce]
def raft_Letter (x1 : DLetter) : Option (Unit × Unit) :=
  (raft_there_2).bind fun r1 =>
  (bif (!r1.1) then
  some ((), ())
  else
  none)
def raft_Letter_ce : CEp where
  f := 20
  args := [.one (.nilptr), .cod 11]
  hs := []
  res := .val (.one (.nil))
  outs := []
  m := fun d dh => raft_Letter d.2.1
  ok := ce_ok mixedP Tryz.func20 (by kernel_rfl) (orcOf_ok raft_Letter_tb) (dr := raft_Letter_dr) (lps := lpsOf lt0) (lps_fn (no_loop (by kernel_rfl))) (fun d dh => by kernel_rfl)

def raft_Install_dr : Nat → Nat → DrA
  | 1, _ => ⟨(List.range 12), [[], [0], [0, 1], [0, 1, 2], [0, 1, 2, 3], (List.range 5), (List.range 6), (List.range 7), [0, 1, 2, 3], (List.range 9), (List.range 10), (List.range 11)], [], [], [], false, []⟩
  | _, _ => ⟨[], [], [], [], [], false, []⟩
def raft_Install_tb : List (CEp) := [raft_there_2_ce]
def raft_Install (x1 : DBase) : Option (Bool × Unit) :=
  (raft_there_2).bind fun r1 =>
  (bif (!r1.1) then
  some (false, ())
  else
  none)
def raft_Install_ce : CEp where
  f := 21
  args := [.one (.nilptr), .cod 10]
  hs := []
  res := .val (.one (.bool))
  outs := []
  m := fun d dh => raft_Install d.2.1
  ok := ce_ok mixedP Tryz.func21 (by kernel_rfl) (orcOf_ok raft_Install_tb) (dr := raft_Install_dr) (lps := lpsOf lt0) (lps_fn (no_loop (by kernel_rfl))) (fun d dh => by kernel_rfl)

def raft_Compact_tb : List (CEp) := [raft_there_2_ce]
def raft_Compact (x1 : Int) : Option (Bool × Unit) :=
  (raft_there_2).bind fun r1 =>
  (bif r1.1 then
  none
  else
  some (false, ()))
def raft_Compact_ce : CEp where
  f := 22
  args := [.one (.nilptr), .one (.int .i64)]
  hs := []
  res := .val (.one (.bool))
  outs := []
  m := fun d dh => raft_Compact d.2.1
  ok := ceO Tryz.func22 (by kernel_rfl) raft_Compact_tb (by kernel_rfl) fun d dh => by kernel_rfl

def raft_there_3_tb : List (CEp) := []
def raft_there_3 (h0 : Int × Int × Int × Int × Int × Int × Int × Int × Int × Unit × LI × Int × Int × Int × Int × Int × Int × Int × Int × Int × Int × Int × Int × Int × Int × Int × Int × Int × Int × Int × Int × Int × Int × Int × Int × Bool × Int × Unit) : Option (Bool × ((Int × Int × Int × Int × Int × Int × Int × Int × Int × Unit × LI × Int × Int × Int × Int × Int × Int × Int × Int × Int × Int × Int × Int × Int × Int × Int × Int × Int × Int × Int × Int × Int × Int × Int × Int × Bool × Int × Unit) × Unit × Unit × Unit)) :=
  some (false, (h0, (), (), ()))
def raft_there_3_ce : CEp where
  f := 29
  args := [.one (.ptr 0 0)]
  hs := [.obj 67 (sh1 1), .row 3 1]
  res := .val (.one (.bool))
  outs := [.obj 67 (sh1 2), .dead, .row 3 1]
  m := fun d dh => raft_there_3 dh.1
  ok := ceO Tryz.func29 (by kernel_rfl) raft_there_3_tb (by kernel_rfl) fun d dh => by kernel_rfl

def raft_Propose_2_tb : List (CEp) := [raft_there_3_ce]
def raft_Propose_2_l1 (a : (Unit × (List (DEntry)) × (List LB) × Int × Int × Unit) × ((Int × Int × Int × Int × Int × Int × Int × Int × Int × Unit × LI × Int × Int × Int × Int × Int × Int × Int × Int × Int × Int × Int × Int × Int × Int × Int × Int × Int × Int × Int × Int × Int × Int × Int × Int × Bool × Int × Unit) × Unit × Unit × Unit)) : Option (((Unit × (List (DEntry)) × (List LB) × Int × Int × Unit) × ((Int × Int × Int × Int × Int × Int × Int × Int × Int × Unit × LI × Int × Int × Int × Int × Int × Int × Int × Int × Int × Int × Int × Int × Int × Int × Int × Int × Int × Int × Int × Int × Int × Int × Int × Int × Bool × Int × Unit) × Unit × Unit × Unit)) ⊕ (((Unit × (List (DEntry)) × Unit) × ((Int × Int × Int × Int × Int × Int × Int × Int × Int × Unit × LI × Int × Int × Int × Int × Int × Int × Int × Int × Int × Int × Int × Int × Int × Int × Int × Int × Int × Int × Int × Int × Int × Int × Int × Int × Bool × Int × Unit) × Unit × Unit × Unit × Unit × Unit)))) :=
  (bif (decide ((a.1.2.2.2.2.1 : Int) < a.1.2.2.2.1)) then
  (getI a.1.2.2.1 a.1.2.2.2.2.1).bind fun e1 =>
  (if a.1.2.1.length + ([(⟨0, 2, e1, (⟨[], [], [], []⟩ : DConfig)⟩ : DEntry)] : List (DEntry)).length ≤ 140737488355328 ∧ (a.1.2.1.length + ([(⟨0, 2, e1, (⟨[], [], [], []⟩ : DConfig)⟩ : DEntry)] : List (DEntry)).length) * 136 ≤ 140737488355328 then
  let y2 : List (DEntry) := (a.1.2.1 ++ ([(⟨0, 2, e1, (⟨[], [], [], []⟩ : DConfig)⟩ : DEntry)] : List (DEntry)))
  some (.inl (((), y2, a.1.2.2.1, a.1.2.2.2.1, (IntKind.i64.wrap (a.1.2.2.2.2.1 + 1)), ()), (a.2.1, (), (), ())))
  else none)
  else
  some (.inr (((), a.1.2.1, ()), (a.2.1, (), (), (), (), ()))))
def raft_Propose_2_e1 : LEp := ⟨9, [0, 7, 26, 27, 28], [.one (.ptr 0 0), .one (.own 8 1), .one (.sl 5), .one (.int .i64), .one (.int .i64)], [.obj 67 (sh1 2), .row 83 7, .row 3 1], [⟨.exit 1, [0, 7], [.one (.ptr 0 0), .one (.own 8 3)], [.obj 67 (sh1 4), .dead, .dead, .row 83 7, .row 3 1]⟩], raft_Propose_2_l1⟩
def raft_Propose_2_lt : List (LEp) := [raft_Propose_2_e1]
theorem raft_Propose_2_e1_ok : LeOk raft_Propose_2_e1 (nthL (bodyOf Tryz.f18) 0) := fun A env h k z hk => le_ok (E := raft_Propose_2_e1) (orcOf_ok raft_Propose_2_tb) (dr := dr0) (lps := lpsOf raft_Propose_2_lt) (no_loop (by kernel_rfl)) (fun a => by kernel_rfl) env h k z hk
def raft_Propose_2 (x1 : List LB) (h0 : Int × Int × Int × Int × Int × Int × Int × Int × Int × Unit × LI × Int × Int × Int × Int × Int × Int × Int × Int × Int × Int × Int × Int × Int × Int × Int × Int × Int × Int × Int × Int × Int × Int × Int × Int × Bool × Int × Unit) : Option ((Int × Unit × Int × Unit) × ((Int × Int × Int × Int × Int × Int × Int × Int × Int × Unit × LI × Int × Int × Int × Int × Int × Int × Int × Int × Int × Int × Int × Int × Int × Int × Int × Int × Int × Int × Int × Int × Int × Int × Int × Int × Bool × Int × Unit) × Unit × Unit × Unit)) :=
  (raft_there_3 h0).bind fun r1 =>
  (bif (!r1.1) then
  some ((0, (), 1, ()), (r1.2.1, (), (), ()))
  else
  (bif (decide ((r1.2.1.2.2.2.1 : Int) ≠ 3)) then
  some ((0, (), 24, ()), (r1.2.1, (), (), ()))
  else
  (bif (decide (((x1.length : Int) : Int) = 0)) then
  some ((0, (), 2, ()), (r1.2.1, (), (), ()))
  else
  (loopM raft_Propose_2_l1 (((), [], x1, (x1.length : Int), 0, ()), (r1.2.1, (), (), ()))).bind fun b2 =>
  none)))
def raft_Propose_2_ce : CEp where
  f := 18
  args := [.one (.ptr 0 0), .one (.sl 5)]
  hs := [.obj 67 (sh1 1), .row 3 1]
  res := .tup [.one (.int .i64), .one (.nil), .one (.int .i64)]
  outs := [.obj 67 (sh1 2), .dead, .row 3 1]
  m := fun d dh => raft_Propose_2 d.2.1 dh.1
  ok := ce_ok mixedP Tryz.func18 (by kernel_rfl) (orcOf_ok raft_Propose_2_tb) (dr := dr0) (lps := lpsOf raft_Propose_2_lt) (lps_fn (lps_of (n := 1) (by kernel_rfl) fun i hi => match i, hi with | 0, _ => lp_ok (E := raft_Propose_2_e1) (by kernel_rfl) raft_Propose_2_e1_ok)) (fun d dh => by kernel_rfl)

def raft_Change_2_dr : Nat → Nat → DrA
  | 5, _ => ⟨(List.range 5 ++ [7, 8, 9, 10, 5, 11, 6, 12, 13]), [[], [], [1], [1, 2], [1, 2, 3], [1, 2, 3, 4], (List.range 6), [], [7], [7, 8], [7, 8, 9], [7, 8, 9, 10], (List.range 12), (List.range 13)], [11], [6], [0], false, []⟩
  | _, _ => ⟨[], [], [], [], [], false, []⟩
def raft_Change_2_tb : List (CEp) := [raft_there_3_ce]
def raft_Change_2 (x1 : LI) (h0 : Int × Int × Int × Int × Int × Int × Int × Int × Int × Unit × LI × Int × Int × Int × Int × Int × Int × Int × Int × Int × Int × Int × Int × Int × Int × Int × Int × Int × Int × Int × Int × Int × Int × Int × Int × Bool × Int × Unit) : Option ((Unit × Int × Unit) × ((Int × Int × Int × Int × Int × Int × Int × Int × Int × Unit × LI × Int × Int × Int × Int × Int × Int × Int × Int × Int × Int × Int × Int × Int × Int × Int × Int × Int × Int × Int × Int × Int × Int × Int × Int × Bool × Int × Unit) × Unit × Unit × Unit)) :=
  (raft_there_3 h0).bind fun r1 =>
  (bif (!r1.1) then
  some (((), 1, ()), (r1.2.1, (), (), ()))
  else
  (bif (decide ((r1.2.1.2.2.2.1 : Int) ≠ 3)) then
  some (((), 24, ()), (r1.2.1, (), (), ()))
  else
  none))
def raft_Change_2_ce : CEp where
  f := 13
  args := [.one (.ptr 0 0), .one (.sl 0)]
  hs := [.obj 67 (sh1 1), .row 3 1]
  res := .tup [.one (.nil), .one (.int .i64)]
  outs := [.obj 67 (sh1 2), .dead, .row 3 1]
  m := fun d dh => raft_Change_2 d.2.1 dh.1
  ok := ce_ok mixedP Tryz.func13 (by kernel_rfl) (orcOf_ok raft_Change_2_tb) (dr := raft_Change_2_dr) (lps := lpsOf lt0) (lps_fn (no_loop (by kernel_rfl))) (fun d dh => by kernel_rfl)

def raft_Kept_2_dr : Nat → Nat → DrA
  | 3, _ => ⟨[0, 1, 2, 4, 5, 6, 3, 8, 7, 9], [[], [0], [0, 1], [0, 1, 2], [], [4], [4, 5], [4, 5, 6], [0, 1, 2, 3], (List.range 9)], [], [], [], false, []⟩
  | _, _ => ⟨[], [], [], [], [], false, []⟩
def raft_Kept_2_tb : List (CEp) := [raft_there_3_ce]
def raft_Kept_2 (h0 : Int × Int × Int × Int × Int × Int × Int × Int × Int × Unit × LI × Int × Int × Int × Int × Int × Int × Int × Int × Int × Int × Int × Int × Int × Int × Int × Int × Int × Int × Int × Int × Int × Int × Int × Int × Bool × Int × Unit) : Option ((Bool × Int × Unit) × ((Int × Int × Int × Int × Int × Int × Int × Int × Int × Unit × LI × Int × Int × Int × Int × Int × Int × Int × Int × Int × Int × Int × Int × Int × Int × Int × Int × Int × Int × Int × Int × Int × Int × Int × Int × Bool × Int × Unit) × Unit × Unit × Unit)) :=
  (raft_there_3 h0).bind fun r1 =>
  (bif (!r1.1) then
  some ((false, 0, ()), (r1.2.1, (), (), ()))
  else
  let y2 : Bool := r1.2.1.2.2.2.2.2.2.2.2.2.2.2.2.2.2.2.2.2.2.2.2.2.2.2.2.2.2.2.2.2.2.2.2.2.2.2.1
  let y3 : Int := r1.2.1.2.2.2.2.2.2.2.2.2.2.2.2.2.2.2.2.2.2.2.2.2.2.2.2.2.2.2.2.2.2.2.2.2.2.2.2.1
  some ((y2, y3, ()), ((r1.2.1.1, r1.2.1.2.1, r1.2.1.2.2.1, r1.2.1.2.2.2.1, r1.2.1.2.2.2.2.1, r1.2.1.2.2.2.2.2.1, r1.2.1.2.2.2.2.2.2.1, r1.2.1.2.2.2.2.2.2.2.1, r1.2.1.2.2.2.2.2.2.2.2.1, (), r1.2.1.2.2.2.2.2.2.2.2.2.2.1, r1.2.1.2.2.2.2.2.2.2.2.2.2.2.1, r1.2.1.2.2.2.2.2.2.2.2.2.2.2.2.1, r1.2.1.2.2.2.2.2.2.2.2.2.2.2.2.2.1, r1.2.1.2.2.2.2.2.2.2.2.2.2.2.2.2.2.1, r1.2.1.2.2.2.2.2.2.2.2.2.2.2.2.2.2.2.1, r1.2.1.2.2.2.2.2.2.2.2.2.2.2.2.2.2.2.2.1, r1.2.1.2.2.2.2.2.2.2.2.2.2.2.2.2.2.2.2.2.1, r1.2.1.2.2.2.2.2.2.2.2.2.2.2.2.2.2.2.2.2.2.1, r1.2.1.2.2.2.2.2.2.2.2.2.2.2.2.2.2.2.2.2.2.2.1, r1.2.1.2.2.2.2.2.2.2.2.2.2.2.2.2.2.2.2.2.2.2.2.1, r1.2.1.2.2.2.2.2.2.2.2.2.2.2.2.2.2.2.2.2.2.2.2.2.1, r1.2.1.2.2.2.2.2.2.2.2.2.2.2.2.2.2.2.2.2.2.2.2.2.2.1, r1.2.1.2.2.2.2.2.2.2.2.2.2.2.2.2.2.2.2.2.2.2.2.2.2.2.1, r1.2.1.2.2.2.2.2.2.2.2.2.2.2.2.2.2.2.2.2.2.2.2.2.2.2.2.1, r1.2.1.2.2.2.2.2.2.2.2.2.2.2.2.2.2.2.2.2.2.2.2.2.2.2.2.2.1, r1.2.1.2.2.2.2.2.2.2.2.2.2.2.2.2.2.2.2.2.2.2.2.2.2.2.2.2.2.1, r1.2.1.2.2.2.2.2.2.2.2.2.2.2.2.2.2.2.2.2.2.2.2.2.2.2.2.2.2.2.1, r1.2.1.2.2.2.2.2.2.2.2.2.2.2.2.2.2.2.2.2.2.2.2.2.2.2.2.2.2.2.2.1, r1.2.1.2.2.2.2.2.2.2.2.2.2.2.2.2.2.2.2.2.2.2.2.2.2.2.2.2.2.2.2.2.1, r1.2.1.2.2.2.2.2.2.2.2.2.2.2.2.2.2.2.2.2.2.2.2.2.2.2.2.2.2.2.2.2.2.1, r1.2.1.2.2.2.2.2.2.2.2.2.2.2.2.2.2.2.2.2.2.2.2.2.2.2.2.2.2.2.2.2.2.2.1, r1.2.1.2.2.2.2.2.2.2.2.2.2.2.2.2.2.2.2.2.2.2.2.2.2.2.2.2.2.2.2.2.2.2.2.1, r1.2.1.2.2.2.2.2.2.2.2.2.2.2.2.2.2.2.2.2.2.2.2.2.2.2.2.2.2.2.2.2.2.2.2.2.1, r1.2.1.2.2.2.2.2.2.2.2.2.2.2.2.2.2.2.2.2.2.2.2.2.2.2.2.2.2.2.2.2.2.2.2.2.2.1, false, 0, ()), (), (), ())))
def raft_Kept_2_ce : CEp where
  f := 19
  args := [.one (.ptr 0 0)]
  hs := [.obj 67 (sh1 1), .row 3 1]
  res := .tup [.one (.bool), .one (.int .i64)]
  outs := [.obj 67 (sh1 2), .dead, .row 3 1]
  m := fun d dh => raft_Kept_2 dh.1
  ok := ce_ok mixedP Tryz.func19 (by kernel_rfl) (orcOf_ok raft_Kept_2_tb) (dr := raft_Kept_2_dr) (lps := lpsOf lt0) (lps_fn (no_loop (by kernel_rfl))) (fun d dh => by kernel_rfl)

def raft_State_3_tb : List (CEp) := [raft_there_3_ce]
def raft_State_3 (h0 : Int × Int × Int × Int × Int × Int × Int × Int × Int × Unit × LI × Int × Int × Int × Int × Int × Int × Int × Int × Int × Int × Int × Int × Int × Int × Int × Int × Int × Int × Int × Int × Int × Int × Int × Int × Bool × Int × Unit) : Option ((DPeer) × ((Int × Int × Int × Int × Int × Int × Int × Int × Int × Unit × LI × Int × Int × Int × Int × Int × Int × Int × Int × Int × Int × Int × Int × Int × Int × Int × Int × Int × Int × Int × Int × Int × Int × Int × Int × Bool × Int × Unit) × Unit × Unit × Unit)) :=
  (raft_there_3 h0).bind fun r1 =>
  (bif (!r1.1) then
  some ((⟨0, 0, 0, 0, 0, 0⟩ : DPeer), (r1.2.1, (), (), ()))
  else
  some ((⟨r1.2.1.1, r1.2.1.2.1, r1.2.1.2.2.1, r1.2.1.2.2.2.1, r1.2.1.2.2.2.2.1, r1.2.1.2.2.2.2.2.1⟩ : DPeer), (r1.2.1, (), (), ())))
def raft_State_3_ce : CEp where
  f := 10
  args := [.one (.ptr 0 0)]
  hs := [.obj 67 (sh1 1), .row 3 1]
  res := .val (.cod 15)
  outs := [.obj 67 (sh1 2), .dead, .row 3 1]
  m := fun d dh => raft_State_3 dh.1
  ok := ceO Tryz.func10 (by kernel_rfl) raft_State_3_tb (by kernel_rfl) fun d dh => by kernel_rfl

def raft_Tick_3_dr : Nat → Nat → DrA
  | 9, _ => ⟨[0, 1, 2, 3, 5, 6, 7, 8, 4, 9, 10, 11, 12, 13, 14, 15, 16, 17, 18, 19, 20, 21, 22, 23], [[], [0], [0, 1], [0, 1, 2], [0, 1, 2, 3], [], [5], [5, 6], [5, 6, 7], [5, 6, 7, 8], (List.range 10), (List.range 11), (List.range 12), (List.range 13), (List.range 14), (List.range 15), (List.range 16), (List.range 17), (List.range 18), (List.range 19), (List.range 20), (List.range 21), (List.range 22), (List.range 23)], [], [], [], false, []⟩
  | _, _ => ⟨[], [], [], [], [], false, []⟩
def raft_Tick_3_tb : List (CEp) := [raft_there_3_ce]
def raft_Tick_3 (x1 : Int) (h0 : Int × Int × Int × Int × Int × Int × Int × Int × Int × Unit × LI × Int × Int × Int × Int × Int × Int × Int × Int × Int × Int × Int × Int × Int × Int × Int × Int × Int × Int × Int × Int × Int × Int × Int × Int × Bool × Int × Unit) : Option (Unit × ((Int × Int × Int × Int × Int × Int × Int × Int × Int × Unit × LI × Int × Int × Int × Int × Int × Int × Int × Int × Int × Int × Int × Int × Int × Int × Int × Int × Int × Int × Int × Int × Int × Int × Int × Int × Bool × Int × Unit) × Unit × Unit × Unit)) :=
  (raft_there_3 h0).bind fun r1 =>
  (bif (!r1.1) then
  some ((), (r1.2.1, (), (), ()))
  else
  (bif (decide ((r1.2.1.2.2.2.1 : Int) = 3)) then
  none
  else
  let y2 : Int := (if (10 : Int) < (IntKind.i64.wrap (r1.2.1.2.2.2.2.2.2.2.2.1 + 1)) then 10 else (IntKind.i64.wrap (r1.2.1.2.2.2.2.2.2.2.2.1 + 1)))
  (bif (decide ((y2 : Int) = 10)) then
  (bif (decide (((IntKind.i64.wrap (r1.2.1.2.2.2.2.2.2.1 + 1)) : Int) < r1.2.1.2.2.2.2.2.2.2.1)) then
  some ((), ((r1.2.1.1, r1.2.1.2.1, r1.2.1.2.2.1, r1.2.1.2.2.2.1, 0, r1.2.1.2.2.2.2.2.1, (IntKind.i64.wrap (r1.2.1.2.2.2.2.2.2.1 + 1)), r1.2.1.2.2.2.2.2.2.2.1, y2, (), r1.2.1.2.2.2.2.2.2.2.2.2.2.1, r1.2.1.2.2.2.2.2.2.2.2.2.2.2.1, r1.2.1.2.2.2.2.2.2.2.2.2.2.2.2.1, r1.2.1.2.2.2.2.2.2.2.2.2.2.2.2.2.1, r1.2.1.2.2.2.2.2.2.2.2.2.2.2.2.2.2.1, r1.2.1.2.2.2.2.2.2.2.2.2.2.2.2.2.2.2.1, r1.2.1.2.2.2.2.2.2.2.2.2.2.2.2.2.2.2.2.1, r1.2.1.2.2.2.2.2.2.2.2.2.2.2.2.2.2.2.2.2.1, r1.2.1.2.2.2.2.2.2.2.2.2.2.2.2.2.2.2.2.2.2.1, r1.2.1.2.2.2.2.2.2.2.2.2.2.2.2.2.2.2.2.2.2.2.1, r1.2.1.2.2.2.2.2.2.2.2.2.2.2.2.2.2.2.2.2.2.2.2.1, r1.2.1.2.2.2.2.2.2.2.2.2.2.2.2.2.2.2.2.2.2.2.2.2.1, r1.2.1.2.2.2.2.2.2.2.2.2.2.2.2.2.2.2.2.2.2.2.2.2.2.1, r1.2.1.2.2.2.2.2.2.2.2.2.2.2.2.2.2.2.2.2.2.2.2.2.2.2.1, r1.2.1.2.2.2.2.2.2.2.2.2.2.2.2.2.2.2.2.2.2.2.2.2.2.2.2.1, r1.2.1.2.2.2.2.2.2.2.2.2.2.2.2.2.2.2.2.2.2.2.2.2.2.2.2.2.1, r1.2.1.2.2.2.2.2.2.2.2.2.2.2.2.2.2.2.2.2.2.2.2.2.2.2.2.2.2.1, r1.2.1.2.2.2.2.2.2.2.2.2.2.2.2.2.2.2.2.2.2.2.2.2.2.2.2.2.2.2.1, r1.2.1.2.2.2.2.2.2.2.2.2.2.2.2.2.2.2.2.2.2.2.2.2.2.2.2.2.2.2.2.1, r1.2.1.2.2.2.2.2.2.2.2.2.2.2.2.2.2.2.2.2.2.2.2.2.2.2.2.2.2.2.2.2.1, r1.2.1.2.2.2.2.2.2.2.2.2.2.2.2.2.2.2.2.2.2.2.2.2.2.2.2.2.2.2.2.2.2.1, r1.2.1.2.2.2.2.2.2.2.2.2.2.2.2.2.2.2.2.2.2.2.2.2.2.2.2.2.2.2.2.2.2.2.1, r1.2.1.2.2.2.2.2.2.2.2.2.2.2.2.2.2.2.2.2.2.2.2.2.2.2.2.2.2.2.2.2.2.2.2.1, r1.2.1.2.2.2.2.2.2.2.2.2.2.2.2.2.2.2.2.2.2.2.2.2.2.2.2.2.2.2.2.2.2.2.2.2.1, r1.2.1.2.2.2.2.2.2.2.2.2.2.2.2.2.2.2.2.2.2.2.2.2.2.2.2.2.2.2.2.2.2.2.2.2.2.1, r1.2.1.2.2.2.2.2.2.2.2.2.2.2.2.2.2.2.2.2.2.2.2.2.2.2.2.2.2.2.2.2.2.2.2.2.2.2.1, r1.2.1.2.2.2.2.2.2.2.2.2.2.2.2.2.2.2.2.2.2.2.2.2.2.2.2.2.2.2.2.2.2.2.2.2.2.2.2.1, ()), (), (), ()))
  else
  none)
  else
  (bif (decide (((IntKind.i64.wrap (r1.2.1.2.2.2.2.2.2.1 + 1)) : Int) < r1.2.1.2.2.2.2.2.2.2.1)) then
  some ((), ((r1.2.1.1, r1.2.1.2.1, r1.2.1.2.2.1, r1.2.1.2.2.2.1, r1.2.1.2.2.2.2.1, r1.2.1.2.2.2.2.2.1, (IntKind.i64.wrap (r1.2.1.2.2.2.2.2.2.1 + 1)), r1.2.1.2.2.2.2.2.2.2.1, y2, (), r1.2.1.2.2.2.2.2.2.2.2.2.2.1, r1.2.1.2.2.2.2.2.2.2.2.2.2.2.1, r1.2.1.2.2.2.2.2.2.2.2.2.2.2.2.1, r1.2.1.2.2.2.2.2.2.2.2.2.2.2.2.2.1, r1.2.1.2.2.2.2.2.2.2.2.2.2.2.2.2.2.1, r1.2.1.2.2.2.2.2.2.2.2.2.2.2.2.2.2.2.1, r1.2.1.2.2.2.2.2.2.2.2.2.2.2.2.2.2.2.2.1, r1.2.1.2.2.2.2.2.2.2.2.2.2.2.2.2.2.2.2.2.1, r1.2.1.2.2.2.2.2.2.2.2.2.2.2.2.2.2.2.2.2.2.1, r1.2.1.2.2.2.2.2.2.2.2.2.2.2.2.2.2.2.2.2.2.2.1, r1.2.1.2.2.2.2.2.2.2.2.2.2.2.2.2.2.2.2.2.2.2.2.1, r1.2.1.2.2.2.2.2.2.2.2.2.2.2.2.2.2.2.2.2.2.2.2.2.1, r1.2.1.2.2.2.2.2.2.2.2.2.2.2.2.2.2.2.2.2.2.2.2.2.2.1, r1.2.1.2.2.2.2.2.2.2.2.2.2.2.2.2.2.2.2.2.2.2.2.2.2.2.1, r1.2.1.2.2.2.2.2.2.2.2.2.2.2.2.2.2.2.2.2.2.2.2.2.2.2.2.1, r1.2.1.2.2.2.2.2.2.2.2.2.2.2.2.2.2.2.2.2.2.2.2.2.2.2.2.2.1, r1.2.1.2.2.2.2.2.2.2.2.2.2.2.2.2.2.2.2.2.2.2.2.2.2.2.2.2.2.1, r1.2.1.2.2.2.2.2.2.2.2.2.2.2.2.2.2.2.2.2.2.2.2.2.2.2.2.2.2.2.1, r1.2.1.2.2.2.2.2.2.2.2.2.2.2.2.2.2.2.2.2.2.2.2.2.2.2.2.2.2.2.2.1, r1.2.1.2.2.2.2.2.2.2.2.2.2.2.2.2.2.2.2.2.2.2.2.2.2.2.2.2.2.2.2.2.1, r1.2.1.2.2.2.2.2.2.2.2.2.2.2.2.2.2.2.2.2.2.2.2.2.2.2.2.2.2.2.2.2.2.1, r1.2.1.2.2.2.2.2.2.2.2.2.2.2.2.2.2.2.2.2.2.2.2.2.2.2.2.2.2.2.2.2.2.2.1, r1.2.1.2.2.2.2.2.2.2.2.2.2.2.2.2.2.2.2.2.2.2.2.2.2.2.2.2.2.2.2.2.2.2.2.1, r1.2.1.2.2.2.2.2.2.2.2.2.2.2.2.2.2.2.2.2.2.2.2.2.2.2.2.2.2.2.2.2.2.2.2.2.1, r1.2.1.2.2.2.2.2.2.2.2.2.2.2.2.2.2.2.2.2.2.2.2.2.2.2.2.2.2.2.2.2.2.2.2.2.2.1, r1.2.1.2.2.2.2.2.2.2.2.2.2.2.2.2.2.2.2.2.2.2.2.2.2.2.2.2.2.2.2.2.2.2.2.2.2.2.1, r1.2.1.2.2.2.2.2.2.2.2.2.2.2.2.2.2.2.2.2.2.2.2.2.2.2.2.2.2.2.2.2.2.2.2.2.2.2.2.1, ()), (), (), ()))
  else
  none))))
def raft_Tick_3_ce : CEp where
  f := 9
  args := [.one (.ptr 0 0), .one (.int .i64)]
  hs := [.obj 67 (sh1 1), .row 3 1]
  res := .val (.one (.nil))
  outs := [.obj 67 (sh1 2), .dead, .row 3 1]
  m := fun d dh => raft_Tick_3 d.2.1 dh.1
  ok := ce_ok mixedP Tryz.func9 (by kernel_rfl) (orcOf_ok raft_Tick_3_tb) (dr := raft_Tick_3_dr) (lps := lpsOf lt0) (lps_fn (no_loop (by kernel_rfl))) (fun d dh => by kernel_rfl)

def raft_Letter_2_dr : Nat → Nat → DrA
  | 1, _ => ⟨(List.range 5 ++ [6, 7, 8, 9, 5, 10, 11, 12, 13, 14, 16, 17, 18, 19, 15, 20, 21, 22, 23, 24, 25, 26, 27, 28, 29, 30, 31, 32, 33, 34, 35, 36, 37, 38, 40, 42, 44, 46, 39, 41, 43, 45, 47, 48, 49, 50, 51]), [[], [0], [0, 1], [0, 1, 2], [0, 1, 2, 3], (List.range 5), [0, 1, 2, 3], [0, 1, 2, 3, 6], [0, 1, 2, 3, 6, 7], [0, 1, 2, 3, 6, 7, 8], [0, 1, 2, 3, 6, 7, 8, 9], (List.range 11), (List.range 12), (List.range 13), (List.range 14), (List.range 15), (List.range 14), (List.range 14 ++ [16]), (List.range 14 ++ [16, 17]), (List.range 14 ++ [16, 17, 18]), (List.range 14 ++ [16, 17, 18, 19]), (List.range 21), (List.range 22), (List.range 23), (List.range 24), (List.range 25), (List.range 26), (List.range 27), (List.range 28), (List.range 29), (List.range 30), (List.range 31), (List.range 32), (List.range 33), (List.range 34), (List.range 35), (List.range 36), (List.range 37), (List.range 38), (List.range 39), (List.range 38), (List.range 38 ++ [40]), (List.range 38), (List.range 38 ++ [42]), (List.range 38), (List.range 38 ++ [44]), (List.range 38), (List.range 38 ++ [46]), (List.range 48), (List.range 49), (List.range 50), (List.range 51)], [], [], [], false, []⟩
  | _, _ => ⟨[], [], [], [], [], false, []⟩
def raft_Letter_2_tb : List (CEp) := [raft_there_3_ce, raft_within_ce]
def raft_Letter_2 (x1 : DLetter) (h0 : Int × Int × Int × Int × Int × Int × Int × Int × Int × Unit × LI × Int × Int × Int × Int × Int × Int × Int × Int × Int × Int × Int × Int × Int × Int × Int × Int × Int × Int × Int × Int × Int × Int × Int × Int × Bool × Int × Unit) : Option (Unit × ((Int × Int × Int × Int × Int × Int × Int × Int × Int × Unit × LI × Int × Int × Int × Int × Int × Int × Int × Int × Int × Int × Int × Int × Int × Int × Int × Int × Int × Int × Int × Int × Int × Int × Int × Int × Bool × Int × Unit) × Unit × Unit × Unit)) :=
  (raft_there_3 h0).bind fun r1 =>
  (bif (!r1.1) then
  some ((), (r1.2.1, (), (), ()))
  else
  (bif (decide ((x1.to_ : Int) ≠ r1.2.1.1)) then
  some ((), (r1.2.1, (), (), ()))
  else
  (bif (decide ((x1.from_ : Int) = r1.2.1.1)) then
  some ((), (r1.2.1, (), (), ()))
  else
  (raft_within 1 5 ([x1.from_] : LI)).bind fun r2 =>
  (bif (!r2.1) then
  some ((), (r1.2.1, (), (), ()))
  else
  (raft_within 1 1073741824 ([x1.term_] : LI)).bind fun r3 =>
  (bif (!r3.1) then
  some ((), (r1.2.1, (), (), ()))
  else
  (raft_within 0 1073741824 ([x1.index, x1.logTerm, x1.commit, x1.size, x1.at_] : LI)).bind fun r4 =>
  (bif (!r4.1) then
  some ((), (r1.2.1, (), (), ()))
  else
  none))))))
def raft_Letter_2_ce : CEp where
  f := 20
  args := [.one (.ptr 0 0), .cod 11]
  hs := [.obj 67 (sh1 1), .row 3 1]
  res := .val (.one (.nil))
  outs := [.obj 67 (sh1 2), .dead, .row 3 1]
  m := fun d dh => raft_Letter_2 d.2.1 dh.1
  ok := ce_ok mixedP Tryz.func20 (by kernel_rfl) (orcOf_ok raft_Letter_2_tb) (dr := raft_Letter_2_dr) (lps := lpsOf lt0) (lps_fn (no_loop (by kernel_rfl))) (fun d dh => by kernel_rfl)

def log_there_w2_tb : List (CEp) := []
def log_there_w2_r  : Option Bool :=
  some false
theorem log_there_w2_tr : ∀ (d : VsD Ty [.one (.nilptr)]) (dh : HsD Ty []) r, log_there_w2_r  = some r → Tr CT Tryz.prog (fun _ => False) 40 (stVs CT [.one (.nilptr)] d) (stHs CT [] dh) ((.val (.one (.bool)) : Rs).st CT r) (stHs CT [] dh) :=
  ro_ok (res := .val (.one (.bool))) (dr := dr0) mixedP Tryz.func40 (by kernel_rfl) (orcOf_ok log_there_w2_tb) (fun d dh => by kernel_rfl) (fun d => rfl)
def log_there_w2  : Option (Bool × Unit) := (log_there_w2_r ).bind fun r => some (r, (()))
def log_there_w2_ce : CEp where
  f := 40
  args := [.one (.nilptr)]
  hs := []
  res := .val (.one (.bool))
  outs := []
  m := fun d dh => log_there_w2 
  ok := fun d dh r hr => by
    unfold log_there_w2 at hr
    obtain ⟨g, h1, h2⟩ := bind_some' hr
    injection h2 with h2
    subst h2
    exact (log_there_w2_tr d dh g h1).moreU
  ro := true
  roOk := fun _ d dh r hr => by
    unfold log_there_w2 at hr
    obtain ⟨g, h1, h2⟩ := bind_some' hr
    injection h2 with h2
    subst h2
    exact log_there_w2_tr d dh g h1

def log_Install_dr : Nat → Nat → DrA
  | 1, _ => ⟨(List.range 5 ++ [6, 7, 8, 9, 10, 5, 11, 12, 13]), [[], [0], [0, 1], [0, 1, 2], [0, 1, 2, 3], (List.range 5), [0, 1, 2, 3], [0, 1, 2, 3, 6], [0, 1, 2, 3, 6, 7], [0, 1, 2, 3, 6, 7, 8], [0, 1, 2, 3, 6, 7, 8, 9], [0, 1, 2, 3, 6, 7, 8, 9, 10], (List.range 12), (List.range 13)], [], [], [], false, []⟩
  | _, _ => ⟨[], [], [], [], [], false, []⟩
def log_Install_tb : List (CEp) := [log_there_w2_ce]
def log_Install (x1 : DBase) : Option (Bool × Unit) :=
  (log_there_w2).bind fun r1 =>
  (bif (!r1.1) then
  some (false, ())
  else
  none)
def log_Install_ce : CEp where
  f := 58
  args := [.one (.nilptr), .cod 10]
  hs := []
  res := .val (.one (.bool))
  outs := []
  m := fun d dh => log_Install d.2.1
  ok := ce_ok mixedP Tryz.func58 (by kernel_rfl) (orcOf_ok log_Install_tb) (dr := log_Install_dr) (lps := lpsOf lt0) (lps_fn (no_loop (by kernel_rfl))) (fun d dh => by kernel_rfl)

def raft_Install_2_dr : Nat → Nat → DrA
  | 1, _ => ⟨(List.range 12), [[], [0], [0, 1], [0, 1, 2], [0, 1, 2, 3], (List.range 5), (List.range 6), (List.range 7), [0, 1, 2, 3], (List.range 9), (List.range 10), (List.range 11)], [], [], [], false, []⟩
  | 3, _ => ⟨(List.range 5 ++ [6, 5, 7, 8, 9, 10, 11, 12]), [[], [], [1], [1, 2], [1, 2, 3], [1, 2, 3, 4], [], [6], [1, 2, 3, 4, 5, 6, 7], (List.range 9), (List.range 10), (List.range 11), (List.range 12)], [], [], [], false, []⟩
  | _, _ => ⟨[], [], [], [], [], false, []⟩
def raft_Install_2_tb : List (CEp) := [raft_there_3_ce, log_Install_ce]
def raft_Install_2 (x1 : DBase) (h0 : Int × Int × Int × Int × Int × Int × Int × Int × Int × Unit × LI × Int × Int × Int × Int × Int × Int × Int × Int × Int × Int × Int × Int × Int × Int × Int × Int × Int × Int × Int × Int × Int × Int × Int × Int × Bool × Int × Unit) : Option (Bool × ((Int × Int × Int × Int × Int × Int × Int × Int × Int × Unit × LI × Int × Int × Int × Int × Int × Int × Int × Int × Int × Int × Int × Int × Int × Int × Int × Int × Int × Int × Int × Int × Int × Int × Int × Int × Bool × Int × Unit) × Unit × Unit × Unit)) :=
  (raft_there_3 h0).bind fun r1 =>
  (bif (!r1.1) then
  some (false, (r1.2.1, (), (), ()))
  else
  (log_Install x1).bind fun r2 =>
  (bif (!r2.1) then
  some (false, (r1.2.1, (), (), ()))
  else
  let y3 : Int := (if (r1.2.1.2.2.2.2.2.1 : Int) < x1.index then x1.index else r1.2.1.2.2.2.2.2.1)
  some (true, ((r1.2.1.1, r1.2.1.2.1, r1.2.1.2.2.1, r1.2.1.2.2.2.1, r1.2.1.2.2.2.2.1, y3, r1.2.1.2.2.2.2.2.2.1, r1.2.1.2.2.2.2.2.2.2.1, r1.2.1.2.2.2.2.2.2.2.2.1, (), r1.2.1.2.2.2.2.2.2.2.2.2.2.1, r1.2.1.2.2.2.2.2.2.2.2.2.2.2.1, r1.2.1.2.2.2.2.2.2.2.2.2.2.2.2.1, r1.2.1.2.2.2.2.2.2.2.2.2.2.2.2.2.1, r1.2.1.2.2.2.2.2.2.2.2.2.2.2.2.2.2.1, r1.2.1.2.2.2.2.2.2.2.2.2.2.2.2.2.2.2.1, r1.2.1.2.2.2.2.2.2.2.2.2.2.2.2.2.2.2.2.1, r1.2.1.2.2.2.2.2.2.2.2.2.2.2.2.2.2.2.2.2.1, r1.2.1.2.2.2.2.2.2.2.2.2.2.2.2.2.2.2.2.2.2.1, r1.2.1.2.2.2.2.2.2.2.2.2.2.2.2.2.2.2.2.2.2.2.1, r1.2.1.2.2.2.2.2.2.2.2.2.2.2.2.2.2.2.2.2.2.2.2.1, r1.2.1.2.2.2.2.2.2.2.2.2.2.2.2.2.2.2.2.2.2.2.2.2.1, r1.2.1.2.2.2.2.2.2.2.2.2.2.2.2.2.2.2.2.2.2.2.2.2.2.1, r1.2.1.2.2.2.2.2.2.2.2.2.2.2.2.2.2.2.2.2.2.2.2.2.2.2.1, r1.2.1.2.2.2.2.2.2.2.2.2.2.2.2.2.2.2.2.2.2.2.2.2.2.2.2.1, r1.2.1.2.2.2.2.2.2.2.2.2.2.2.2.2.2.2.2.2.2.2.2.2.2.2.2.2.1, r1.2.1.2.2.2.2.2.2.2.2.2.2.2.2.2.2.2.2.2.2.2.2.2.2.2.2.2.2.1, r1.2.1.2.2.2.2.2.2.2.2.2.2.2.2.2.2.2.2.2.2.2.2.2.2.2.2.2.2.2.1, r1.2.1.2.2.2.2.2.2.2.2.2.2.2.2.2.2.2.2.2.2.2.2.2.2.2.2.2.2.2.2.1, r1.2.1.2.2.2.2.2.2.2.2.2.2.2.2.2.2.2.2.2.2.2.2.2.2.2.2.2.2.2.2.2.1, r1.2.1.2.2.2.2.2.2.2.2.2.2.2.2.2.2.2.2.2.2.2.2.2.2.2.2.2.2.2.2.2.2.1, r1.2.1.2.2.2.2.2.2.2.2.2.2.2.2.2.2.2.2.2.2.2.2.2.2.2.2.2.2.2.2.2.2.2.1, r1.2.1.2.2.2.2.2.2.2.2.2.2.2.2.2.2.2.2.2.2.2.2.2.2.2.2.2.2.2.2.2.2.2.2.1, r1.2.1.2.2.2.2.2.2.2.2.2.2.2.2.2.2.2.2.2.2.2.2.2.2.2.2.2.2.2.2.2.2.2.2.2.1, r1.2.1.2.2.2.2.2.2.2.2.2.2.2.2.2.2.2.2.2.2.2.2.2.2.2.2.2.2.2.2.2.2.2.2.2.2.1, r1.2.1.2.2.2.2.2.2.2.2.2.2.2.2.2.2.2.2.2.2.2.2.2.2.2.2.2.2.2.2.2.2.2.2.2.2.2.1, r1.2.1.2.2.2.2.2.2.2.2.2.2.2.2.2.2.2.2.2.2.2.2.2.2.2.2.2.2.2.2.2.2.2.2.2.2.2.2.1, ()), (), (), ()))))
def raft_Install_2_ce : CEp where
  f := 21
  args := [.one (.ptr 0 0), .cod 10]
  hs := [.obj 67 (sh1 1), .row 3 1]
  res := .val (.one (.bool))
  outs := [.obj 67 (sh1 2), .dead, .row 3 1]
  m := fun d dh => raft_Install_2 d.2.1 dh.1
  ok := ce_ok mixedP Tryz.func21 (by kernel_rfl) (orcOf_ok raft_Install_2_tb) (dr := raft_Install_2_dr) (lps := lpsOf lt0) (lps_fn (no_loop (by kernel_rfl))) (fun d dh => by kernel_rfl)

def log_place_w2_tb : List (CEp) := [log_there_w2_ce]
def log_place_w2_r (x1 : Int) : Option (Int × Bool × Unit) :=
  (log_there_w2).bind fun r1 =>
  (bif (!r1.1) then
  some (0, false, ())
  else
  none)
theorem log_place_w2_tr : ∀ (d : VsD Ty [.one (.nilptr), .one (.int .i64)]) (dh : HsD Ty []) r, log_place_w2_r d.2.1 = some r → Tr CT Tryz.prog (fun _ => False) 89 (stVs CT [.one (.nilptr), .one (.int .i64)] d) (stHs CT [] dh) ((.tup [.one (.int .i64), .one (.bool)] : Rs).st CT r) (stHs CT [] dh) :=
  ro_ok (res := .tup [.one (.int .i64), .one (.bool)]) (dr := dr0) mixedP Tryz.func89 (by kernel_rfl) (orcOf_ok log_place_w2_tb) (fun d dh => by kernel_rfl) (fun d => rfl)
def log_place_w2 (x1 : Int) : Option ((Int × Bool × Unit) × Unit) := (log_place_w2_r x1).bind fun r => some (r, (()))
def log_place_w2_ce : CEp where
  f := 89
  args := [.one (.nilptr), .one (.int .i64)]
  hs := []
  res := .tup [.one (.int .i64), .one (.bool)]
  outs := []
  m := fun d dh => log_place_w2 d.2.1
  ok := fun d dh r hr => by
    unfold log_place_w2 at hr
    obtain ⟨g, h1, h2⟩ := bind_some' hr
    injection h2 with h2
    subst h2
    exact (log_place_w2_tr d dh g h1).moreU
  ro := true
  roOk := fun _ d dh r hr => by
    unfold log_place_w2 at hr
    obtain ⟨g, h1, h2⟩ := bind_some' hr
    injection h2 with h2
    subst h2
    exact log_place_w2_tr d dh g h1

def log_Term_w2_tb : List (CEp) := [log_place_w2_ce, log_there_w2_ce]
def log_Term_w2_r (x1 : Int) : Option (Int × Bool × Unit) :=
  (log_place_w2 x1).bind fun r1 =>
  (bif r1.1.2.1 then
  none
  else
  (log_there_w2).bind fun r2 =>
  (bif r2.1 then
  none
  else
  some (0, false, ())))
theorem log_Term_w2_tr : ∀ (d : VsD Ty [.one (.nilptr), .one (.int .i64)]) (dh : HsD Ty []) r, log_Term_w2_r d.2.1 = some r → Tr CT Tryz.prog (fun _ => False) 60 (stVs CT [.one (.nilptr), .one (.int .i64)] d) (stHs CT [] dh) ((.tup [.one (.int .i64), .one (.bool)] : Rs).st CT r) (stHs CT [] dh) :=
  ro_ok (res := .tup [.one (.int .i64), .one (.bool)]) (dr := dr0) mixedP Tryz.func60 (by kernel_rfl) (orcOf_ok log_Term_w2_tb) (fun d dh => by kernel_rfl) (fun d => rfl)
def log_Term_w2 (x1 : Int) : Option ((Int × Bool × Unit) × Unit) := (log_Term_w2_r x1).bind fun r => some (r, (()))
def log_Term_w2_ce : CEp where
  f := 60
  args := [.one (.nilptr), .one (.int .i64)]
  hs := []
  res := .tup [.one (.int .i64), .one (.bool)]
  outs := []
  m := fun d dh => log_Term_w2 d.2.1
  ok := fun d dh r hr => by
    unfold log_Term_w2 at hr
    obtain ⟨g, h1, h2⟩ := bind_some' hr
    injection h2 with h2
    subst h2
    exact (log_Term_w2_tr d dh g h1).moreU
  ro := true
  roOk := fun _ d dh r hr => by
    unfold log_Term_w2 at hr
    obtain ⟨g, h1, h2⟩ := bind_some' hr
    injection h2 with h2
    subst h2
    exact log_Term_w2_tr d dh g h1

def log_Compact_tb : List (CEp) := [log_Term_w2_ce]
def log_Compact (x1 : Int) : Option (Bool × Unit) :=
  (log_Term_w2 x1).bind fun r1 =>
  (bif (!r1.1.2.1) then
  some (false, ())
  else
  none)
def log_Compact_ce : CEp where
  f := 59
  args := [.one (.nilptr), .one (.int .i64)]
  hs := []
  res := .val (.one (.bool))
  outs := []
  m := fun d dh => log_Compact d.2.1
  ok := ceO Tryz.func59 (by kernel_rfl) log_Compact_tb (by kernel_rfl) fun d dh => by kernel_rfl

def raft_Compact_2_tb : List (CEp) := [raft_there_3_ce, log_Compact_ce]
def raft_Compact_2 (x1 : Int) (h0 : Int × Int × Int × Int × Int × Int × Int × Int × Int × Unit × LI × Int × Int × Int × Int × Int × Int × Int × Int × Int × Int × Int × Int × Int × Int × Int × Int × Int × Int × Int × Int × Int × Int × Int × Int × Bool × Int × Unit) : Option (Bool × ((Int × Int × Int × Int × Int × Int × Int × Int × Int × Unit × LI × Int × Int × Int × Int × Int × Int × Int × Int × Int × Int × Int × Int × Int × Int × Int × Int × Int × Int × Int × Int × Int × Int × Int × Int × Bool × Int × Unit) × Unit × Unit × Unit)) :=
  (raft_there_3 h0).bind fun r1 =>
  (bif r1.1 then
  (bif (decide ((x1 : Int) ≤ r1.2.1.2.2.2.2.2.1)) then
  (log_Compact x1).bind fun r2 =>
  some (r2.1, (r1.2.1, (), (), ()))
  else
  some (false, (r1.2.1, (), (), ())))
  else
  some (false, (r1.2.1, (), (), ())))
def raft_Compact_2_ce : CEp where
  f := 22
  args := [.one (.ptr 0 0), .one (.int .i64)]
  hs := [.obj 67 (sh1 1), .row 3 1]
  res := .val (.one (.bool))
  outs := [.obj 67 (sh1 2), .dead, .row 3 1]
  m := fun d dh => raft_Compact_2 d.2.1 dh.1
  ok := ceO Tryz.func22 (by kernel_rfl) raft_Compact_2_tb (by kernel_rfl) fun d dh => by kernel_rfl

def raft_New_2_tb : List (CEp) := [raft_within_ce]
def raft_New_2 (x0 : Int) (x1 : Int) (x2 : Int) : Option (Unit × Unit) :=
  (raft_within 1 5 ([x0] : LI)).bind fun r1 =>
  (bif (!r1.1) then
  some ((), ())
  else
  (raft_within 0 1073741824 ([x1] : LI)).bind fun r2 =>
  (bif (!r2.1) then
  some ((), ())
  else
  (raft_within 0 5 ([x2] : LI)).bind fun r3 =>
  (bif (!r3.1) then
  some ((), ())
  else
  some ((), ()))))
def raft_New_2_ce : CEp where
  f := 23
  args := [.one (.int .i64), .one (.int .i64), .one (.int .i64), .one (.nilptr)]
  hs := []
  res := .val (.one (.nilptr))
  outs := []
  m := fun d dh => raft_New_2 d.1 d.2.1 d.2.2.1
  ok := ceO Tryz.func23 (by kernel_rfl) raft_New_2_tb (by kernel_rfl) fun d dh => by kernel_rfl

def log_there_w3_tb : List (CEp) := []
def log_there_w3_r (h0 : Int × Int × LI × LI × LI × LI × Bool × (List (DEntry)) × Unit) : Option Bool :=
  some h0.2.2.2.2.2.2.1
theorem log_there_w3_tr : ∀ (d : VsD Ty [.one (.ptr 0 0)]) (dh : HsD Ty [.obj 79 [.int .i64, .int .i64, .own 0 1, .own 0 2, .own 0 3, .own 0 4, .bool, .own 8 5], .row 3 1, .row 3 1, .row 3 1, .row 3 1, .row 83 7]) r, log_there_w3_r dh.1 = some r → Tr CT Tryz.prog (fun _ => False) 40 (stVs CT [.one (.ptr 0 0)] d) (stHs CT [.obj 79 [.int .i64, .int .i64, .own 0 1, .own 0 2, .own 0 3, .own 0 4, .bool, .own 8 5], .row 3 1, .row 3 1, .row 3 1, .row 3 1, .row 83 7] dh) ((.val (.one (.bool)) : Rs).st CT r) (stHs CT [.obj 79 [.int .i64, .int .i64, .own 0 1, .own 0 2, .own 0 3, .own 0 4, .bool, .own 8 5], .row 3 1, .row 3 1, .row 3 1, .row 3 1, .row 83 7] dh) :=
  ro_ok (res := .val (.one (.bool))) (dr := dr0) mixedP Tryz.func40 (by kernel_rfl) (orcOf_ok log_there_w3_tb) (fun d dh => by kernel_rfl) (fun d => rfl)
def log_there_w3 (h0 : Int × Int × LI × LI × LI × LI × Bool × (List (DEntry)) × Unit) : Option (Bool × ((Int × Int × LI × LI × LI × LI × Bool × (List (DEntry)) × Unit) × Unit × Unit × Unit × Unit × Unit × Unit)) := (log_there_w3_r h0).bind fun r => some (r, (h0, (), (), (), (), (), ()))
def log_there_w3_ce : CEp where
  f := 40
  args := [.one (.ptr 0 0)]
  hs := [.obj 79 [.int .i64, .int .i64, .own 0 1, .own 0 2, .own 0 3, .own 0 4, .bool, .own 8 5], .row 3 1, .row 3 1, .row 3 1, .row 3 1, .row 83 7]
  res := .val (.one (.bool))
  outs := [.obj 79 [.int .i64, .int .i64, .own 0 1, .own 0 2, .own 0 3, .own 0 4, .bool, .own 8 5], .row 3 1, .row 3 1, .row 3 1, .row 3 1, .row 83 7]
  m := fun d dh => log_there_w3 dh.1
  ok := fun d dh r hr => by
    unfold log_there_w3 at hr
    obtain ⟨g, h1, h2⟩ := bind_some' hr
    injection h2 with h2
    subst h2
    exact (log_there_w3_tr d dh g h1).moreU
  ro := true
  roOk := fun _ d dh r hr => by
    unfold log_there_w3 at hr
    obtain ⟨g, h1, h2⟩ := bind_some' hr
    injection h2 with h2
    subst h2
    exact log_there_w3_tr d dh g h1

def log_Base_2_tb : List (CEp) := [log_there_w3_ce, log_ownBase_ce]
def log_Base_2 (h0 : Int × Int × LI × LI × LI × LI × Bool × (List (DEntry)) × Unit) : Option ((DBase) × ((Int × Int × LI × LI × LI × LI × Bool × (List (DEntry)) × Unit) × Unit × Unit × Unit × Unit × Unit × Unit × Unit × Unit × Unit × Unit × Unit)) :=
  (log_there_w3 h0).bind fun r1 =>
  (bif (!r1.1) then
  some ((⟨0, 0, (⟨[], [], [], []⟩ : DConfig)⟩ : DBase), (r1.2.1, (), (), (), (), (), (), (), (), (), (), ()))
  else
  (log_ownBase (⟨r1.2.1.1, r1.2.1.2.1, (⟨r1.2.1.2.2.1, r1.2.1.2.2.2.1, r1.2.1.2.2.2.2.1, r1.2.1.2.2.2.2.2.1⟩ : DConfig)⟩ : DBase)).bind fun r2 =>
  some (r2.1, (r1.2.1, (), (), (), (), (), (), (), (), (), (), ())))
def log_Base_2_ce : CEp where
  f := 61
  args := [.one (.ptr 0 0)]
  hs := [.obj 79 [.int .i64, .int .i64, .own 0 1, .own 0 2, .own 0 3, .own 0 4, .bool, .own 8 5], .row 3 1, .row 3 1, .row 3 1, .row 3 1, .row 83 7]
  res := .val (.cod 10)
  outs := [.obj 79 [.int .i64, .int .i64, .own 0 6, .own 0 7, .own 0 8, .own 0 9, .bool, .own 8 10], .dead, .dead, .dead, .dead, .dead, .row 3 1, .row 3 1, .row 3 1, .row 3 1, .row 83 7]
  m := fun d dh => log_Base_2 dh.1
  ok := ceO Tryz.func61 (by kernel_rfl) log_Base_2_tb (by kernel_rfl) fun d dh => by kernel_rfl

def log_Last_w2_dr : Nat → Nat → DrA
  | 3, _ => ⟨(List.range 5 ++ [6, 7, 8, 5, 9, 10, 11, 12]), [[], [0], [0, 1], [0, 1, 2], [0, 1, 2, 3], (List.range 5), [], [6], [6, 7], [6, 7, 8], [6, 7, 8, 9], (List.range 11), (List.range 12)], [], [], [], false, []⟩
  | _, _ => ⟨[], [], [], [], [], false, []⟩
def log_Last_w2_tb : List (CEp) := [log_there_w3_ce]
def log_Last_w2_r (h0 : Int × Int × LI × LI × LI × LI × Bool × (List (DEntry)) × Unit) : Option Int :=
  (log_there_w3 h0).bind fun r1 =>
  (bif (!r1.1) then
  some 0
  else
  some (IntKind.i64.wrap (r1.2.1.1 + (r1.2.1.2.2.2.2.2.2.2.1.length : Int))))
theorem log_Last_w2_tr : ∀ (d : VsD Ty [.one (.ptr 0 0)]) (dh : HsD Ty [.obj 79 [.int .i64, .int .i64, .own 0 1, .own 0 2, .own 0 3, .own 0 4, .bool, .own 8 5], .row 3 1, .row 3 1, .row 3 1, .row 3 1, .row 83 7]) r, log_Last_w2_r dh.1 = some r → Tr CT Tryz.prog (fun _ => False) 42 (stVs CT [.one (.ptr 0 0)] d) (stHs CT [.obj 79 [.int .i64, .int .i64, .own 0 1, .own 0 2, .own 0 3, .own 0 4, .bool, .own 8 5], .row 3 1, .row 3 1, .row 3 1, .row 3 1, .row 83 7] dh) ((.val (.one (.int .i64)) : Rs).st CT r) (stHs CT [.obj 79 [.int .i64, .int .i64, .own 0 1, .own 0 2, .own 0 3, .own 0 4, .bool, .own 8 5], .row 3 1, .row 3 1, .row 3 1, .row 3 1, .row 83 7] dh) :=
  ro_ok (res := .val (.one (.int .i64))) (dr := log_Last_w2_dr) mixedP Tryz.func42 (by kernel_rfl) (orcOf_ok log_Last_w2_tb) (fun d dh => by kernel_rfl) (fun d => rfl)
def log_Last_w2 (h0 : Int × Int × LI × LI × LI × LI × Bool × (List (DEntry)) × Unit) : Option (Int × ((Int × Int × LI × LI × LI × LI × Bool × (List (DEntry)) × Unit) × Unit × Unit × Unit × Unit × Unit × Unit)) := (log_Last_w2_r h0).bind fun r => some (r, (h0, (), (), (), (), (), ()))
def log_Last_w2_ce : CEp where
  f := 42
  args := [.one (.ptr 0 0)]
  hs := [.obj 79 [.int .i64, .int .i64, .own 0 1, .own 0 2, .own 0 3, .own 0 4, .bool, .own 8 5], .row 3 1, .row 3 1, .row 3 1, .row 3 1, .row 83 7]
  res := .val (.one (.int .i64))
  outs := [.obj 79 [.int .i64, .int .i64, .own 0 1, .own 0 2, .own 0 3, .own 0 4, .bool, .own 8 5], .row 3 1, .row 3 1, .row 3 1, .row 3 1, .row 83 7]
  m := fun d dh => log_Last_w2 dh.1
  ok := fun d dh r hr => by
    unfold log_Last_w2 at hr
    obtain ⟨g, h1, h2⟩ := bind_some' hr
    injection h2 with h2
    subst h2
    exact (log_Last_w2_tr d dh g h1).moreU
  ro := true
  roOk := fun _ d dh r hr => by
    unfold log_Last_w2 at hr
    obtain ⟨g, h1, h2⟩ := bind_some' hr
    injection h2 with h2
    subst h2
    exact log_Last_w2_tr d dh g h1

def log_place_w3_tb : List (CEp) := [log_there_w3_ce, log_Last_w2_ce]
def log_place_w3_r (x1 : Int) (h0 : Int × Int × LI × LI × LI × LI × Bool × (List (DEntry)) × Unit) : Option (Int × Bool × Unit) :=
  (log_there_w3 h0).bind fun r1 =>
  (bif (!r1.1) then
  some (0, false, ())
  else
  (bif (decide ((x1 : Int) ≤ r1.2.1.1)) then
  some (0, false, ())
  else
  (log_Last_w2 r1.2.1).bind fun r2 =>
  (bif (decide ((r2.1 : Int) < x1)) then
  some (0, false, ())
  else
  some ((IntKind.i64.wrap ((IntKind.i64.wrap (x1 - r2.2.1.1)) - 1)), true, ()))))
theorem log_place_w3_tr : ∀ (d : VsD Ty [.one (.ptr 0 0), .one (.int .i64)]) (dh : HsD Ty [.obj 79 [.int .i64, .int .i64, .own 0 1, .own 0 2, .own 0 3, .own 0 4, .bool, .own 8 5], .row 3 1, .row 3 1, .row 3 1, .row 3 1, .row 83 7]) r, log_place_w3_r d.2.1 dh.1 = some r → Tr CT Tryz.prog (fun _ => False) 89 (stVs CT [.one (.ptr 0 0), .one (.int .i64)] d) (stHs CT [.obj 79 [.int .i64, .int .i64, .own 0 1, .own 0 2, .own 0 3, .own 0 4, .bool, .own 8 5], .row 3 1, .row 3 1, .row 3 1, .row 3 1, .row 83 7] dh) ((.tup [.one (.int .i64), .one (.bool)] : Rs).st CT r) (stHs CT [.obj 79 [.int .i64, .int .i64, .own 0 1, .own 0 2, .own 0 3, .own 0 4, .bool, .own 8 5], .row 3 1, .row 3 1, .row 3 1, .row 3 1, .row 83 7] dh) :=
  ro_ok (res := .tup [.one (.int .i64), .one (.bool)]) (dr := dr0) mixedP Tryz.func89 (by kernel_rfl) (orcOf_ok log_place_w3_tb) (fun d dh => by kernel_rfl) (fun d => rfl)
def log_place_w3 (x1 : Int) (h0 : Int × Int × LI × LI × LI × LI × Bool × (List (DEntry)) × Unit) : Option ((Int × Bool × Unit) × ((Int × Int × LI × LI × LI × LI × Bool × (List (DEntry)) × Unit) × Unit × Unit × Unit × Unit × Unit × Unit)) := (log_place_w3_r x1 h0).bind fun r => some (r, (h0, (), (), (), (), (), ()))
def log_place_w3_ce : CEp where
  f := 89
  args := [.one (.ptr 0 0), .one (.int .i64)]
  hs := [.obj 79 [.int .i64, .int .i64, .own 0 1, .own 0 2, .own 0 3, .own 0 4, .bool, .own 8 5], .row 3 1, .row 3 1, .row 3 1, .row 3 1, .row 83 7]
  res := .tup [.one (.int .i64), .one (.bool)]
  outs := [.obj 79 [.int .i64, .int .i64, .own 0 1, .own 0 2, .own 0 3, .own 0 4, .bool, .own 8 5], .row 3 1, .row 3 1, .row 3 1, .row 3 1, .row 83 7]
  m := fun d dh => log_place_w3 d.2.1 dh.1
  ok := fun d dh r hr => by
    unfold log_place_w3 at hr
    obtain ⟨g, h1, h2⟩ := bind_some' hr
    injection h2 with h2
    subst h2
    exact (log_place_w3_tr d dh g h1).moreU
  ro := true
  roOk := fun _ d dh r hr => by
    unfold log_place_w3 at hr
    obtain ⟨g, h1, h2⟩ := bind_some' hr
    injection h2 with h2
    subst h2
    exact log_place_w3_tr d dh g h1

def log_Term_w3_tb : List (CEp) := [log_place_w3_ce, log_there_w3_ce]
def log_Term_w3_r (x1 : Int) (h0 : Int × Int × LI × LI × LI × LI × Bool × (List (DEntry)) × Unit) : Option (Int × Bool × Unit) :=
  (log_place_w3 x1 h0).bind fun r1 =>
  (bif r1.1.2.1 then
  (getI r1.2.1.2.2.2.2.2.2.2.1 r1.1.1).bind fun e2 =>
  some (e2.term_, true, ())
  else
  (log_there_w3 r1.2.1).bind fun r3 =>
  (bif r3.1 then
  (bif (decide ((x1 : Int) = r3.2.1.1)) then
  some (r3.2.1.2.1, true, ())
  else
  some (0, false, ()))
  else
  some (0, false, ())))
theorem log_Term_w3_tr : ∀ (d : VsD Ty [.one (.ptr 0 0), .one (.int .i64)]) (dh : HsD Ty [.obj 79 [.int .i64, .int .i64, .own 0 1, .own 0 2, .own 0 3, .own 0 4, .bool, .own 8 5], .row 3 1, .row 3 1, .row 3 1, .row 3 1, .row 83 7]) r, log_Term_w3_r d.2.1 dh.1 = some r → Tr CT Tryz.prog (fun _ => False) 60 (stVs CT [.one (.ptr 0 0), .one (.int .i64)] d) (stHs CT [.obj 79 [.int .i64, .int .i64, .own 0 1, .own 0 2, .own 0 3, .own 0 4, .bool, .own 8 5], .row 3 1, .row 3 1, .row 3 1, .row 3 1, .row 83 7] dh) ((.tup [.one (.int .i64), .one (.bool)] : Rs).st CT r) (stHs CT [.obj 79 [.int .i64, .int .i64, .own 0 1, .own 0 2, .own 0 3, .own 0 4, .bool, .own 8 5], .row 3 1, .row 3 1, .row 3 1, .row 3 1, .row 83 7] dh) :=
  ro_ok (res := .tup [.one (.int .i64), .one (.bool)]) (dr := dr0) mixedP Tryz.func60 (by kernel_rfl) (orcOf_ok log_Term_w3_tb) (fun d dh => by kernel_rfl) (fun d => rfl)
def log_Term_w3 (x1 : Int) (h0 : Int × Int × LI × LI × LI × LI × Bool × (List (DEntry)) × Unit) : Option ((Int × Bool × Unit) × ((Int × Int × LI × LI × LI × LI × Bool × (List (DEntry)) × Unit) × Unit × Unit × Unit × Unit × Unit × Unit)) := (log_Term_w3_r x1 h0).bind fun r => some (r, (h0, (), (), (), (), (), ()))
def log_Term_w3_ce : CEp where
  f := 60
  args := [.one (.ptr 0 0), .one (.int .i64)]
  hs := [.obj 79 [.int .i64, .int .i64, .own 0 1, .own 0 2, .own 0 3, .own 0 4, .bool, .own 8 5], .row 3 1, .row 3 1, .row 3 1, .row 3 1, .row 83 7]
  res := .tup [.one (.int .i64), .one (.bool)]
  outs := [.obj 79 [.int .i64, .int .i64, .own 0 1, .own 0 2, .own 0 3, .own 0 4, .bool, .own 8 5], .row 3 1, .row 3 1, .row 3 1, .row 3 1, .row 83 7]
  m := fun d dh => log_Term_w3 d.2.1 dh.1
  ok := fun d dh r hr => by
    unfold log_Term_w3 at hr
    obtain ⟨g, h1, h2⟩ := bind_some' hr
    injection h2 with h2
    subst h2
    exact (log_Term_w3_tr d dh g h1).moreU
  ro := true
  roOk := fun _ d dh r hr => by
    unfold log_Term_w3 at hr
    obtain ⟨g, h1, h2⟩ := bind_some' hr
    injection h2 with h2
    subst h2
    exact log_Term_w3_tr d dh g h1

def raft_New_3_tb : List (CEp) := [raft_within_ce, log_Base_2_ce, log_Term_w3_ce]
def raft_New_3 (x0 : Int) (x1 : Int) (x2 : Int) (h0 : Int × Int × LI × LI × LI × LI × Bool × (List (DEntry)) × Unit) : Option (Unit × ((Int × Int × LI × LI × LI × LI × Bool × (List (DEntry)) × Unit) × Unit × Unit × Unit × Unit × Unit × Unit × Unit × Unit × Unit × Unit × Unit)) :=
  (raft_within 1 5 ([x0] : LI)).bind fun r1 =>
  (bif (!r1.1) then
  some ((), (h0, (), (), (), (), (), (), (), (), (), (), ()))
  else
  (raft_within 0 1073741824 ([x1] : LI)).bind fun r2 =>
  (bif (!r2.1) then
  some ((), (h0, (), (), (), (), (), (), (), (), (), (), ()))
  else
  (raft_within 0 5 ([x2] : LI)).bind fun r3 =>
  (bif (!r3.1) then
  some ((), (h0, (), (), (), (), (), (), (), (), (), (), ()))
  else
  (log_Base_2 h0).bind fun r4 =>
  (log_Term_w3 r4.1.index r4.2.1).bind fun r5 =>
  (bif (!r5.1.2.1) then
  some ((), (r5.2.1, (), (), (), (), (), (), (), (), (), (), ()))
  else
  (log_Base_2 r5.2.1).bind fun r6 =>
  none))))
def raft_New_3_ce : CEp where
  f := 23
  args := [.one (.int .i64), .one (.int .i64), .one (.int .i64), .one (.ptr 0 0)]
  hs := [.obj 79 [.int .i64, .int .i64, .own 0 1, .own 0 2, .own 0 3, .own 0 4, .bool, .own 8 5], .row 3 1, .row 3 1, .row 3 1, .row 3 1, .row 83 7]
  res := .val (.one (.nilptr))
  outs := [.obj 79 [.int .i64, .int .i64, .own 0 6, .own 0 7, .own 0 8, .own 0 9, .bool, .own 8 10], .dead, .dead, .dead, .dead, .dead, .row 3 1, .row 3 1, .row 3 1, .row 3 1, .row 83 7]
  m := fun d dh => raft_New_3 d.1 d.2.1 d.2.2.1 dh.1
  ok := ceO Tryz.func23 (by kernel_rfl) raft_New_3_tb (by kernel_rfl) fun d dh => by kernel_rfl
end
end Go.Proofs.YtmffcfjdacoigaaGreat
