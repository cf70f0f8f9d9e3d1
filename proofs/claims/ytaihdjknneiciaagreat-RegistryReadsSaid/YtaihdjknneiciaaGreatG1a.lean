/- Models, by program. -/
import Derived.Test.YtaihdjknneiciaaGreatRp
import Derived.Test.YtaihdjknneiciaaGreatOa
import Derived.Test.YtaihdjknneiciaaGreatTw
import Derived.Test.YtaihdjknneiciaaGreatWy
import Derived.Test.YtaihdjknneiciaaGreatSl
import Derived.Test.YtaihdjknneiciaaGreatFx
import Derived.Test.YtaihdjknneiciaaGreatUn
import Derived.Test.YtaihdjknneiciaaGreatFt
import Derived.Test.YtaihdjknneiciaaGreatLe
namespace Go.Proofs.YtaihdjknneiciaaGreat
noncomputable section
open Go.RowKit
set_option maxRecDepth 100000
set_option linter.unusedVariables false
def Zmx (h0 : List (List UInt8)) : Option ((Nat × Nat) × ((List (List UInt8)) × (List (List UInt8)) × Unit)) :=
 if h0.length <= 8796093022208 then some ((0, h0.length), (h0, h0, ())) else none
def Zv7 : CEp where
 f := 269
 args := [.one .nil, .one (.clo 268 [0])]
 hs := [.cobj 84 3]
 res := .val (.one (.asu 2 1))
 outs := [.cobj 84 3, .arr 9 2 true]
 m := fun d dh => Zmx dh.1
 ok := fun d dh r hr => by
  unfold Zmx at hr
  split at hr
  ·rename_i hc
   injection hr with hr
   subst hr
   by_cases h0 : dh.1 = []
   ·obtain ⟨xs, u⟩ := dh
    dsimp only at h0
    subst h0
    exact Zuh
   ·exact Zv0 dh.1 (fun h => h0 (List.eq_nil_of_length_eq_zero h)) hc
  ·cases hr
theorem Zq1 {N : Nat} {ρ : Nat -> AV} : ∀ {xs : List (List UInt8)} {cells : List AV}, SVs CT N ρ (xs.flatMap (CT.enc 2)) cells -> cells.map AV.val = xs.map Go.Proofs.encStr
 | [], cells, h => by rw [Zbq.1 h]; rfl
 | x :: xs, cells, h => by
  change SVs CT N ρ (.str x :: xs.flatMap (CT.enc 2)) cells at h
  obtain ⟨a, bs, rfl, h1, h2⟩ := h.to
  rw [ZbM.1 h1, List.map_cons, Zq1 h2, AV.val_raw]
  rfl
theorem Zv8 {N : Nat} {ρ : Nat -> AV} : ∀ (xs : List (List UInt8)), SVs CT N ρ (xs.flatMap (CT.enc 2)) (xs.map fun d => AV.raw (Go.Proofs.encStr d))
 | [] => .none
 | x :: xs => by
  change SVs CT N ρ (.str x :: xs.flatMap (CT.enc 2)) (AV.raw (Go.Proofs.encStr x) :: xs.map fun d => AV.raw (Go.Proofs.encStr d))
  exact .cons (ZbM.2 rfl) (Zv8 xs)
def ZCt (x0 : Nat × Nat) (h0 : List (List UInt8)) : Option (Unit × ((List (List UInt8)) × Unit)) :=
 if x0.1 = 0 /\ x0.2 = h0.length /\ h0.length < 4611686018427387904 then some ((), (h0.mergeSort (fun x y => decide (x <= y)), ())) else none
def ZCu : CEp where
 f := 267
 args := [.one (.asu 2 0)]
 hs := [.arr 9 2 true]
 res := .tup []
 outs := [.arr 9 2 true]
 m := fun d dh => ZCt d.1 dh.1
 ok := fun d dh r hr => by
  obtain ⟨⟨lo, n⟩, u⟩ := d
  obtain ⟨xs, u2⟩ := dh
  unfold ZCt at hr
  split at hr
  ·rename_i hc
   injection hr with hr
   subst hr
   obtain ⟨rfl, rfl, hc⟩ := hc
   dsimp only at hc
   exact ZzI Go.Proofs.encStr xs xs (List.mergeSort (α := List UInt8) xs fun x y => decide (x <= y)) true rfl rfl (fun N ρ cs h => Zq1 h) (List.mergeSort (α := List UInt8) xs fun x y => decide (x <= y)) (List.length_mergeSort (α := List UInt8) xs) (fun N ρ => Zv8 _) (by kernel_rfl) rfl (fun h => by subst h; exact List.mergeSort_nil)
    (fun blk cap w h1 h2 => Tryz.slices_Sort_string blk 0 cap xs w h1 h2 hc) (fun p cap w => Tryz.slices_Sort_string_none p cap w)
  ·cases hr
def ZlV (base : Nat) : Array MapEntry := #[⟨.int .u8 1, .slice (some ⟨base + 1 + 0, 0, none⟩) 2 2, 0⟩, ⟨.int .u8 2, .slice (some ⟨base + 1 + 1, 0, none⟩) 2 2, 1⟩, ⟨.int .u8 3, .slice (some ⟨base + 1 + 2, 0, none⟩) 2 2, 2⟩, ⟨.int .u8 4, .slice (some ⟨base + 1 + 3, 0, none⟩) 1 1, 3⟩, ⟨.int .u8 5, .slice (some ⟨base + 1 + 4, 0, none⟩) 1 1, 4⟩, ⟨.int .u8 7, .slice (some ⟨base + 1 + 5, 0, none⟩) 1 1, 5⟩, ⟨.int .u8 8, .slice (some ⟨base + 1 + 6, 0, none⟩) 1 1, 6⟩, ⟨.int .u8 6, .slice none 0 0, 7⟩, ⟨.int .u8 9, .slice none 0 0, 8⟩]
def Zmy : List Obj := [Obj.cells #[Value.int IntKind.u8 2, Value.int IntKind.u8 7] 36, Obj.cells #[Value.int IntKind.u8 3, Value.int IntKind.u8 7] 36, Obj.cells #[Value.int IntKind.u8 4, Value.int IntKind.u8 7] 36, Obj.cells #[Value.int IntKind.u8 5] 36, Obj.cells #[Value.int IntKind.u8 6] 36, Obj.cells #[Value.int IntKind.u8 8] 36, Obj.cells #[Value.int IntKind.u8 9] 36]
theorem ZzK (w : World) : Calls Tryz.prog 227 #[] w fun e w' => e = .returned (.map (some w.heap.size)) /\ Wy w Zmy (ZlV w.heap.size) 9 w' := by
 have hmm := @run_makeMap Tryz.prog
 go_enter Tryz.func227, Tryz.ntmps227
 have F0 := Wy.new w
 go_wp2_with (first | (refine Zdk (F0.add _) rfl (.tmp 1) (.const (.int .u8 1)) (.tmp 2) 356 rfl Tryz.underlying356 Tryz.underlying36 rfl 1 rfl rfl ?_) | go_in)
 intro w1 F1
 have s1 := F1.size
 go_wp2_with (first | (refine Zdk (F1.add _) rfl (.tmp 1) (.const (.int .u8 2)) (.tmp 3) 356 rfl Tryz.underlying356 Tryz.underlying36 rfl 2 rfl rfl ?_) | go_in)
 intro w2 F2
 have s2 := F2.size
 go_wp2_with (first | (refine Zdk (F2.add _) rfl (.tmp 1) (.const (.int .u8 3)) (.tmp 4) 356 rfl Tryz.underlying356 Tryz.underlying36 rfl 3 rfl rfl ?_) | go_in)
 intro w3 F3
 have s3 := F3.size
 go_wp2_with (first | (refine Zdk (F3.add _) rfl (.tmp 1) (.const (.int .u8 4)) (.tmp 5) 356 rfl Tryz.underlying356 Tryz.underlying36 rfl 4 rfl rfl ?_) | go_in)
 intro w4 F4
 have s4 := F4.size
 go_wp2_with (first | (refine Zdk (F4.add _) rfl (.tmp 1) (.const (.int .u8 5)) (.tmp 6) 356 rfl Tryz.underlying356 Tryz.underlying36 rfl 5 rfl rfl ?_) | go_in)
 intro w5 F5
 have s5 := F5.size
 go_wp2_with (first | (refine Zdk (F5.add _) rfl (.tmp 1) (.const (.int .u8 7)) (.tmp 7) 356 rfl Tryz.underlying356 Tryz.underlying36 rfl 7 rfl rfl ?_) | go_in)
 intro w6 F6
 have s6 := F6.size
 go_wp2_with (first | (refine Zdk (F6.add _) rfl (.tmp 1) (.const (.int .u8 8)) (.tmp 8) 356 rfl Tryz.underlying356 Tryz.underlying36 rfl 8 rfl rfl ?_) | go_in)
 intro w7 F7
 have s7 := F7.size
 go_wp2_with (first | (refine Zdk F7 rfl (.tmp 1) (.const (.int .u8 6)) (.const (.slice none 0 0)) 356 rfl Tryz.underlying356 Tryz.underlying36 rfl 6 rfl rfl ?_) | go_in)
 intro w8 F8
 have s8 := F8.size
 go_wp2_with (first | (refine Zdk F8 rfl (.tmp 1) (.const (.int .u8 9)) (.const (.slice none 0 0)) 356 rfl Tryz.underlying356 Tryz.underlying36 rfl 9 rfl rfl ?_) | go_in)
 intro w9 F9
 have s9 := F9.size
 go_wp2
 go_ret
 exact ⟨rfl, F9⟩
theorem ZlW (N : Nat) (ρ : Nat -> AV) (base i : Nat) (xs : List UInt8) (h : xs.length <= 140737488355328 := by decide) : SV CT N ρ (.sl 1 xs none) (ZBJ base i xs) := by
 have h1 : SVs CT N ρ (xs.flatMap (CT.enc 1)) (xs.map fun b => AV.raw (.int .u8 (b.toNat : Int))) := by
  rw [show CT.enc 1 = ZEE 1 from rfl, ZyO]
  exact Zv1 xs
 have h2 := SVs.sl (C := CT) (N := N) (ρ := ρ) 1 xs (some ⟨base + 1 + i, 0, none⟩) xs.length _ [] (Nat.le_refl _) (by unfold maxLen; omega) h (fun h => by cases h) h1 .none
 rw [List.append_nil] at h2
 exact h2
def Ze0 : List (Int × List UInt8) := [(1, [2, 7]), (2, [3, 7]), (3, [4, 7]), (4, [5]), (5, [6]), (7, [8]), (8, [9]), (6, []), (9, [])]
def Zmz : Option ((List (Int × List UInt8)) × Unit) := some (Ze0, ())
def Zq2 : CEp where
 f := 227
 args := []
 hs := []
 res := .val (.one (.mp 1 .u8))
 outs := []
 m := fun d dh => Zmz
 ok := fun d dh r hr => by
  injection hr with hr
  subst hr
  refine Wy.tr (C := CT) (E := 1) (kk := .u8) (tb := Ze0) (rows := Zmy) (mk := ZlV) (c := 9) (by kernel_rfl) ZzK fun base => ⟨[ZBJ base 0 [2, 7], ZBJ base 1 [3, 7], ZBJ base 2 [4, 7], ZBJ base 3 [5], ZBJ base 4 [6], ZBJ base 5 [8], ZBJ base 6 [9], .lst none 0 0 [], .lst none 0 0 []], fun N ρ => .cons (ZlW _ _ _ _ [2, 7]) (.cons (ZlW _ _ _ _ [3, 7]) (.cons (ZlW _ _ _ _ [4, 7]) (.cons (ZlW _ _ _ _ [5]) (.cons (ZlW _ _ _ _ [6]) (.cons (ZlW _ _ _ _ [8]) (.cons (ZlW _ _ _ _ [9]) (.cons ((Wk.nil 1).sv (ZdH.2 rfl)) (.cons ((Wk.nil 1).sv (ZdH.2 rfl)) (.none))))))))), rfl, ?_, fun w' B h => ZaM.iff.2 fun a ha => ?_⟩
  ·simp [AV.vals, ZBJ, ZlV]
  simp only [List.mem_cons, List.not_mem_nil, or_false] at ha
  rcases ha with rfl | rfl | rfl | rfl | rfl | rfl | rfl | rfl | rfl
  ·exact ZeZ (h 0 _ rfl)
  ·exact ZeZ (h 1 _ rfl)
  ·exact ZeZ (h 2 _ rfl)
  ·exact ZeZ (h 3 _ rfl)
  ·exact ZeZ (h 4 _ rfl)
  ·exact ZeZ (h 5 _ rfl)
  ·exact ZeZ (h 6 _ rfl)
  ·exact Zcm
  ·exact Zcm
def Zuk (n : Nat) (i j : Int) (ys xs : List (Zaf)) : Option (List (Zaf) × (Unit × Unit × Unit)) :=
 if Zmv n i j ys xs then some (xs.take i.toNat ++ ys ++ xs.drop j.toNat, ((), (), ())) else none
def ZzL : CEp where
 f := 231
 args := [.one (.asz 6 0), .one (.int .i64), .one (.int .i64), .one (.sl 5)]
 hs := [.arr 99 6 true]
 res := .val (.one (.own 5 1))
 outs := [.dead, .row 99 4]
 m := fun d dh => Zuk d.1 d.2.1 d.2.2.1 d.2.2.2.1 dh.1
 ok := fun d dh r hr => by
  unfold Zuk at hr
  split at hr
  ·rename_i hc
   injection hr with hr
   subst hr
   exact ZzH hc
  ·cases hr
def Zpo : List (CEp) := []
def ZbU (x0 : Int) (x1 : Int) (x2 : Int) : Option (Bool × Unit) :=
 (bif (decide ((x1 : Int) <= x0)) then
 some ((decide ((x0 : Int) <= x2)), ())
 else
 some (false, ()))
def ZdU : CEp where
 f := 51
 args := [.one (.int .i64), .one (.int .i64), .one (.int .i64)]
 hs := []
 res := .val (.one (.bool))
 outs := []
 m := fun d dh => ZbU d.1 d.2.1 d.2.2.1
 ok := ceO Tryz.func51 (by kernel_rfl) Zpo (by kernel_rfl) fun d dh => by kernel_rfl
def ZxA : List (CEp) := []
def Zul  : Option ((Zao) × Unit) :=
 some ((⟨([] : List UInt8), ([] : List UInt8)⟩ : Zao), ())
def ZxB : CEp where
 f := 52
 args := []
 hs := []
 res := .val (.cod 4)
 outs := []
 m := fun d dh => Zul
 ok := ceO Tryz.func52 (by kernel_rfl) ZxA (by kernel_rfl) fun d dh => by kernel_rfl
def Zq3 : List (CEp) := [ZdU, ZxB]
def Zg3 (x0 : Int) : Option ((Zai) × Unit) :=
 (ZbU x0 1 4).bind fun r1 =>
 (bif (!r1.1) then
 (Zul).bind fun r2 =>
 some ((⟨1, ([(⟨r2.1, 1, 1⟩ : Zaf)] : List (Zaf))⟩ : Zai), ())
 else
 (Zul).bind fun r3 =>
 some ((⟨1, ([(⟨r3.1, x0, 1⟩ : Zaf)] : List (Zaf))⟩ : Zai), ()))
def Zq4 : CEp where
 f := 10
 args := [.one (.int .i64)]
 hs := []
 res := .val (.cod 8)
 outs := []
 m := fun d dh => Zg3 d.1
 ok := ceO Tryz.func10 (by kernel_rfl) Zq3 (by kernel_rfl) fun d dh => by kernel_rfl
def Zpp : List (CEp) := [ZdU]
def Zf9 (x0 : Zaf) (h0 : ZeT) : Option (Bool × ((ZeT) × Unit)) :=
 (ZbU x0.group 1 4).bind fun r1 =>
 (bif (!r1.1) then
 some (true, (h0, ()))
 else
 (ZbU x0.epoch 1 h0.shares.epoch).bind fun r2 =>
 some ((!r2.1), (h0, ())))
def Zpq : CEp where
 f := 181
 args := [.cod 5, .one (.ptr 0 0)]
 hs := [.cobj 188 9]
 res := .val (.one (.bool))
 outs := [.cobj 188 9]
 m := fun d dh => Zf9 d.1 dh.1
 ok := ceO Tryz.func181 (by kernel_rfl) Zpp (by kernel_rfl) fun d dh => by kernel_rfl
def ZgG : List (CEp) := [Zpq]
def Zbm (a : ((List (Zaf)) × Unit × Int × Int × Unit) × ((ZeT) × Unit)) : Option ((((List (Zaf)) × Unit × Int × Int × Unit) × ((ZeT) × Unit)) ⊕ (((Int × Unit) × ((ZeT) × Unit)) ⊕ (Unit × ((ZeT) × Unit)))) :=
 (bif (decide ((a.1.2.2.2.1 : Int) < a.1.2.2.1)) then
 (Zbs a.1.1 a.1.2.2.2.1).bind fun e1 =>
 (Zf9 e1 a.2.1).bind fun r2 =>
 (bif r2.1 then
 some (.inr (.inl ((a.1.2.2.2.1, ()), (r2.2.1, ()))))
 else
 some (.inl ((a.1.1, (), a.1.2.2.1, (IntKind.i64.wrap (a.1.2.2.2.1 + 1)), ()), (r2.2.1, ()))))
 else
 some (.inr (.inr ((), (a.2.1, ())))))
def ZcD : LEp := ⟨2, [0, 1, 7, 8], [.one (.sl 5), .one (.clo 181 [0]), .one (.int .i64), .one (.int .i64)], [.cobj 188 9], [⟨.ret, [4], [.one (.int .i64)], [.cobj 188 9]⟩, ⟨.exit 0, [], [], [.cobj 188 9]⟩], Zbm⟩
def ZgH : List (LEp) := [ZcD]
theorem Zjs : ZdE ZcD (ZcN (ZaD Tryz.f173) 0) := fun A env h k z hk => Za3 (E := ZcD) (Zad ZgG) (dr := dr0) (lps := Zap ZgH) (Zal (by kernel_rfl)) (fun a => by kernel_rfl) env h k z hk
def ZdV (x0 : List (Zaf)) (h0 : ZeT) : Option (Int × ((ZeT) × Unit)) :=
 (Zas Zbm ((x0, (), (x0.length : Int), 0, ()), (h0, ()))).bind fun b1 =>
 (match b1 with
 | .inl b2 =>
 some (b2.1.1, (b2.2.1, ()))
 | .inr b3 =>
 some ((-1), (b3.2.1, ())))
def ZlX : CEp where
 f := 173
 args := [.one (.sl 5), .one (.clo 181 [0])]
 hs := [.cobj 188 9]
 res := .val (.one (.int .i64))
 outs := [.cobj 188 9]
 m := fun d dh => ZdV d.1 dh.1
 ok := ZaO Zar Tryz.func173 (by kernel_rfl) (Zad ZgG) (dr := dr0) (lps := Zap ZgH) (Zau (ZaI (n := 1) (by kernel_rfl) fun i hi => match i, hi with | 0, _ => Za4 (E := ZcD) (by kernel_rfl) Zjs)) (fun d dh => by kernel_rfl)
def Zjt : List (CEp) := [ZlX]
def ZcE (x0 : List (Zaf)) (h0 : ZeT) : Option (Bool × ((ZeT) × Unit)) :=
 (ZdV x0 h0).bind fun r1 =>
 some ((decide ((0 : Int) <= r1.1)), (r1.2.1, ()))
def Zju : CEp where
 f := 180
 args := [.one (.sl 5), .one (.clo 181 [0])]
 hs := [.cobj 188 9]
 res := .val (.one (.bool))
 outs := [.cobj 188 9]
 m := fun d dh => ZcE d.1 dh.1
 ok := ceO Tryz.func180 (by kernel_rfl) Zjt (by kernel_rfl) fun d dh => by kernel_rfl
def ZjI : List (CEp) := []
def ZcY (a : ((List (Zao)) × (List (Zaf)) × Int × Int × Unit) × (Unit × Unit)) : Option ((((List (Zao)) × (List (Zaf)) × Int × Int × Unit) × (Unit × Unit)) ⊕ ((((List (Zao)) × Unit) × (Unit × Unit × Unit)))) :=
 (bif (decide ((a.1.2.2.2.1 : Int) < a.1.2.2.1)) then
 (Zbs a.1.2.1 a.1.2.2.2.1).bind fun e1 =>
 (if a.1.1.length + ([e1.span] : List (Zao)).length <= 140737488355328 /\ (a.1.1.length + ([e1.span] : List (Zao)).length) * 32 <= 140737488355328 then
 some (.inl (((a.1.1 ++ ([e1.span] : List (Zao))), a.1.2.1, a.1.2.2.1, (IntKind.i64.wrap (a.1.2.2.2.1 + 1)), ()), ((), ())))
 else none)
 else
 some (.inr ((a.1.1, ()), ((), (), ()))))
def Zen : LEp := ⟨3, [3, 8, 9, 10], [.one (.own 4 0), .one (.sl 5), .one (.int .i64), .one (.int .i64)], [.row 35 2], [⟨.exit 0, [3], [.one (.own 4 1)], [.dead, .row 35 2]⟩], ZcY⟩
def ZjJ : List (LEp) := [Zen]
theorem ZmA : ZdE Zen (ZcN (ZaD Tryz.f183) 0) := fun A env h k z hk => Za3 (E := Zen) (Zad ZjI) (dr := dr0) (lps := Zap ZjJ) (Zal (by kernel_rfl)) (fun a => by kernel_rfl) env h k z hk
def Zg4 (x0 : ZeT) : Option ((List (Zao)) × (Unit × Unit)) :=
 (Zas ZcY (([], x0.shares.list, (x0.shares.list.length : Int), 0, ()), ((), ()))).bind fun b1 =>
 some (b1.1.1, ((), ()))
def Zq5 : CEp where
 f := 183
 args := [.cod 9]
 hs := []
 res := .val (.one (.own 4 0))
 outs := [.row 35 2]
 m := fun d dh => Zg4 d.1
 ok := ZaO Zar Tryz.func183 (by kernel_rfl) (Zad ZjI) (dr := dr0) (lps := Zap ZjJ) (Zau (ZaI (n := 1) (by kernel_rfl) fun i hi => match i, hi with | 0, _ => Za4 (E := Zen) (by kernel_rfl) ZmA)) (fun d dh => by kernel_rfl)
def Zv9 : Nat -> Nat -> DrA
 | 1, _ => ⟨[0, 4, 1, 2, 3, 5, 6, 7, 8, 9], [[], [0], [0, 1], [0, 1, 2], [], [4], [4, 5], [4, 5, 6], [0, 1, 2, 3], (List.range 9)], [5], [8], [0], false, []⟩
 | _, _ => ⟨[], [], [], [], [], false, []⟩
def Zwa : List (CEp) := []
def Zfy (x0 : Zao) : Option (((ZGg) × (ZzE) × Unit) × Unit) :=
 some (((⟨(⟨x0.lo⟩ : ZqZ)⟩ : ZGg), (⟨(⟨x0.hi⟩ : ZqZ)⟩ : ZzE), ()), ())
def ZjK : CEp where
 f := 175
 args := [.cod 4]
 hs := []
 res := .tup [.cod 11, .cod 12]
 outs := []
 m := fun d dh => Zfy d.1
 ok := ZaO Zar Tryz.func175 (by kernel_rfl) (Zad Zwa) (dr := Zv9) (lps := Zap lt0) (Zau (Zal (by kernel_rfl))) (fun d dh => by kernel_rfl)
def Zwb : List (CEp) := []
def ZdJ (x0 : ZqZ) : Option (Bool × Unit) :=
 some ((decide (x0.s = ([] : List UInt8))), ())
def ZjL : CEp where
 f := 235
 args := [.cod 10]
 hs := []
 res := .val (.one (.bool))
 outs := []
 m := fun d dh => ZdJ d.1
 ok := ceO Tryz.func235 (by kernel_rfl) Zwb (by kernel_rfl) fun d dh => by kernel_rfl
def Zwc : List (CEp) := []
def ZmB (x0 : List UInt8) : Option (Bool × Unit) :=
 some ((decide (x0 ≠ x0)), ())
def Zwd : CEp where
 f := 257
 args := [.one (.str)]
 hs := []
 res := .val (.one (.bool))
 outs := []
 m := fun d dh => ZmB d.1
 ok := ceO Tryz.func257 (by kernel_rfl) Zwc (by kernel_rfl) fun d dh => by kernel_rfl
def ZsJ : List (CEp) := [Zwd]
def ZlY (x0 : List UInt8) (x1 : List UInt8) : Option (Int × Unit) :=
 (ZmB x0).bind fun r1 =>
 (ZmB x1).bind fun r2 =>
 (bif r1.1 then
 (bif r2.1 then
 some (0, ())
 else
 some ((-1), ()))
 else
 (bif r2.1 then
 some (1, ())
 else
 (bif (decide (x0 < x1)) then
 some ((-1), ())
 else
 (bif (!(decide (x0 < x1) || decide (x0 = x1))) then
 some (1, ())
 else
 some (0, ())))))
def ZsK : CEp where
 f := 236
 args := [.one (.str), .one (.str)]
 hs := []
 res := .val (.one (.int .i64))
 outs := []
 m := fun d dh => ZlY d.1 d.2.1
 ok := ceO Tryz.func236 (by kernel_rfl) ZsJ (by kernel_rfl) fun d dh => by kernel_rfl
def Zq6 : List (CEp) := [ZsK]
def ZcZ (x0 : ZqZ) (x1 : ZqZ) : Option (Int × Unit) :=
 (ZlY x0.s x1.s).bind fun r1 =>
 some (r1.1, ())
def Zeo : CEp where
 f := 178
 args := [.cod 10, .cod 10]
 hs := []
 res := .val (.one (.int .i64))
 outs := []
 m := fun d dh => ZcZ d.1 d.2.1
 ok := ceO Tryz.func178 (by kernel_rfl) Zq6 (by kernel_rfl) fun d dh => by kernel_rfl
def Zum : List (CEp) := [ZjL, Zeo]
def Zd9 (x0 : ZzE) (x1 : ZqZ) : Option (Bool × Unit) :=
 (ZdJ x0.text).bind fun r1 =>
 (bif r1.1 then
 some (true, ())
 else
 (ZcZ x0.text x1).bind fun r2 =>
 some ((decide ((0 : Int) < r2.1)), ()))
def ZmC : CEp where
 f := 179
 args := [.cod 12, .cod 10]
 hs := []
 res := .val (.one (.bool))
 outs := []
 m := fun d dh => Zd9 d.1 d.2.1
 ok := ceO Tryz.func179 (by kernel_rfl) Zum (by kernel_rfl) fun d dh => by kernel_rfl
def Zq7 : List (CEp) := []
def ZiL (a : ((List UInt8) × Int × Int × Unit) × Unit) : Option ((((List UInt8) × Int × Int × Unit) × Unit) ⊕ (((Bool × Unit) × Unit) ⊕ (Unit × Unit))) :=
 (bif (decide ((a.1.2.2.1 : Int) < a.1.2.1)) then
 (Zbs a.1.1 a.1.2.2.1).bind fun e1 =>
 (bif (decide ((97 : Int) <= (e1.toNat : Int))) then
 (bif (decide (((e1.toNat : Int) : Int) <= 122)) then
 some (.inl ((a.1.1, a.1.2.1, (IntKind.i64.wrap (a.1.2.2.1 + 1)), ()), ()))
 else
 (bif (decide ((48 : Int) <= (e1.toNat : Int))) then
 (bif (!(decide (((e1.toNat : Int) : Int) <= 57))) then
 some (.inr (.inl ((false, ()), ())))
 else
 some (.inl ((a.1.1, a.1.2.1, (IntKind.i64.wrap (a.1.2.2.1 + 1)), ()), ())))
 else
 some (.inr (.inl ((false, ()), ())))))
 else
 (bif (decide ((48 : Int) <= (e1.toNat : Int))) then
 (bif (!(decide (((e1.toNat : Int) : Int) <= 57))) then
 some (.inr (.inl ((false, ()), ())))
 else
 some (.inl ((a.1.1, a.1.2.1, (IntKind.i64.wrap (a.1.2.2.1 + 1)), ()), ())))
 else
 some (.inr (.inl ((false, ()), ())))))
 else
 some (.inr (.inr ((), ()))))
def ZiM : LEp := ⟨4, [0, 13, 14], [.one (.str), .one (.int .i64), .one (.int .i64)], [], [⟨.ret, [2], [.one (.bool)], []⟩, ⟨.exit 0, [], [], []⟩], ZiL⟩
def Zq8 : List (LEp) := [ZiM]
theorem ZsL : ZdE ZiM (ZcN (ZaD Tryz.f177) 0) := fun A env h k z hk => Za3 (E := ZiM) (Zad Zq7) (dr := dr0) (lps := Zap Zq8) (Zal (by kernel_rfl)) (fun a => by kernel_rfl) env h k z hk
def Zg5 (x0 : List UInt8) : Option (Bool × Unit) :=
 (bif (decide (x0 = ([] : List UInt8))) then
 some (false, ())
 else
 (bif (decide ((20 : Int) < (x0.length : Int))) then
 some (false, ())
 else
 (Zas ZiL ((x0, (x0.length : Int), 0, ()), ())).bind fun b1 =>
 (match b1 with
 | .inl b2 =>
 some (b2.1.1, ())
 | .inr b3 =>
 some (true, ()))))
def ZlZ : CEp where
 f := 177
 args := [.one (.str)]
 hs := []
 res := .val (.one (.bool))
 outs := []
 m := fun d dh => Zg5 d.1
 ok := ZaO Zar Tryz.func177 (by kernel_rfl) (Zad Zq7) (dr := dr0) (lps := Zap Zq8) (Zau (ZaI (n := 1) (by kernel_rfl) fun i hi => match i, hi with | 0, _ => Za4 (E := ZiM) (by kernel_rfl) ZsL)) (fun d dh => by kernel_rfl)
def Zun : List (CEp) := [ZjK, ZjL, ZmC, ZlZ]
def Zbn (x0 : Zao) : Option (Bool × Unit) :=
 (Zfy x0).bind fun r1 =>
 (ZdJ r1.1.1.text).bind fun r2 =>
 (bif r2.1 then
 (ZdJ r1.1.2.1.text).bind fun r3 =>
 (bif r3.1 then
 (Zd9 r1.1.2.1 r1.1.1.text).bind fun r4 =>
 some (r4.1, ())
 else
 (Zg5 x0.hi).bind fun r5 =>
 (bif r5.1 then
 (Zd9 r1.1.2.1 r1.1.1.text).bind fun r6 =>
 some (r6.1, ())
 else
 some (false, ())))
 else
 (Zg5 x0.lo).bind fun r7 =>
 (bif r7.1 then
 (ZdJ r1.1.2.1.text).bind fun r8 =>
 (bif r8.1 then
 (Zd9 r1.1.2.1 r1.1.1.text).bind fun r9 =>
 some (r9.1, ())
 else
 (Zg5 x0.hi).bind fun r10 =>
 (bif r10.1 then
 (Zd9 r1.1.2.1 r1.1.1.text).bind fun r11 =>
 some (r11.1, ())
 else
 some (false, ())))
 else
 some (false, ())))
def Zdl : CEp where
 f := 176
 args := [.cod 4]
 hs := []
 res := .val (.one (.bool))
 outs := []
 m := fun d dh => Zbn d.1
 ok := ceO Tryz.func176 (by kernel_rfl) Zun (by kernel_rfl) fun d dh => by kernel_rfl
def ZmD : Nat -> Nat -> DrA
 | 7, _ => ⟨[0, 2, 1, 5, 3, 4, 6], [[], [0], [], [2], [2, 3], [0, 1], (List.range 6)], [], [], [], false, []⟩
 | _, _ => ⟨[], [], [], [], [], false, []⟩
def ZmE : List (CEp) := [Zdl]
def Zga (a : ((List (Zao)) × (List UInt8) × Bool × (List (Zao)) × Int × Int × Unit) × Unit) : Option ((((List (Zao)) × (List UInt8) × Bool × (List (Zao)) × Int × Int × Unit) × Unit) ⊕ (((Bool × Unit) × Unit) ⊕ ((Bool × Unit) × Unit))) :=
 (bif (decide ((a.1.2.2.2.2.2.1 : Int) < a.1.2.2.2.2.1)) then
 (Zbs a.1.2.2.2.1 a.1.2.2.2.2.2.1).bind fun e1 =>
 (Zbn e1).bind fun r2 =>
 (bif (!r2.1) then
 some (.inr (.inl ((false, ()), ())))
 else
 (bif (decide (e1.lo ≠ a.1.2.1)) then
 some (.inr (.inl ((false, ()), ())))
 else
 (bif a.1.2.2.1 then
 some (.inr (.inl ((false, ()), ())))
 else
 (bif (decide (e1.hi = ([] : List UInt8))) then
 (bif (decide ((a.1.2.2.2.2.2.1 : Int) < (IntKind.i64.wrap ((a.1.1.length : Int) - 1)))) then
 some (.inr (.inl ((false, ()), ())))
 else
 some (.inl ((a.1.1, e1.hi, (decide (e1.hi = ([] : List UInt8))), a.1.2.2.2.1, a.1.2.2.2.2.1, (IntKind.i64.wrap (a.1.2.2.2.2.2.1 + 1)), ()), ())))
 else
 some (.inl ((a.1.1, e1.hi, (decide (e1.hi = ([] : List UInt8))), a.1.2.2.2.1, a.1.2.2.2.2.1, (IntKind.i64.wrap (a.1.2.2.2.2.2.1 + 1)), ()), ()))))))
 else
 some (.inr (.inr ((a.1.2.2.1, ()), ()))))
def Zgb : LEp := ⟨3, [0, 3, 4, 7, 8, 9], [.one (.sl 4), .one (.str), .one (.bool), .one (.sl 4), .one (.int .i64), .one (.int .i64)], [], [⟨.ret, [2], [.one (.bool)], []⟩, ⟨.exit 0, [4], [.one (.bool)], []⟩], Zga⟩
def ZmF : List (LEp) := [Zgb]
theorem Zpr : ZdE Zgb (ZcN (ZaD Tryz.f182) 0) := fun A env h k z hk => Za3 (E := Zgb) (Zad ZmE) (dr := ZmD) (lps := Zap ZmF) (Zal (by kernel_rfl)) (fun a => by kernel_rfl) env h k z hk
def ZhY (x0 : List (Zao)) : Option (Bool × Unit) :=
 (Zas Zga ((x0, ([] : List UInt8), false, x0, (x0.length : Int), 0, ()), ())).bind fun b1 =>
 (match b1 with
 | .inl b2 =>
 some (b2.1.1, ())
 | .inr b3 =>
 some (b3.1.1, ()))
def Zuo : CEp where
 f := 182
 args := [.one (.sl 4)]
 hs := []
 res := .val (.one (.bool))
 outs := []
 m := fun d dh => ZhY d.1
 ok := ZaO Zar Tryz.func182 (by kernel_rfl) (Zad ZmE) (dr := ZmD) (lps := Zap ZmF) (Zau (ZaI (n := 1) (by kernel_rfl) fun i hi => match i, hi with | 0, _ => Za4 (E := Zgb) (by kernel_rfl) Zpr)) (fun d dh => by kernel_rfl)
def Zq9 : List (CEp) := [Zju, ZdU, Zq5, Zuo]
def ZcA (x0 : ZeT) : Option (Bool × Unit) :=
 (ZcE x0.shares.list x0).bind fun r1 =>
 (ZbU r1.2.1.shares.epoch 1 1073741824).bind fun r2 =>
 (bif r2.1 then
 (bif (decide (((r1.2.1.shares.list.length : Int) : Int) <= 40)) then
 (bif (!r1.1) then
 (Zg4 r1.2.1).bind fun r3 =>
 (ZhY r3.1).bind fun r4 =>
 some (r4.1, ())
 else
 some (false, ()))
 else
 some (false, ()))
 else
 some (false, ()))
def Zc0 : CEp where
 f := 99
 args := [.cod 9]
 hs := []
 res := .val (.one (.bool))
 outs := []
 m := fun d dh => ZcA d.1
 ok := ceO Tryz.func99 (by kernel_rfl) Zq9 (by kernel_rfl) fun d dh => by kernel_rfl
def Zra : List (CEp) := [Zc0]
def Zea (x0 : Zai) : Option (Bool × Unit) :=
 (ZcA (⟨x0⟩ : ZeT)).bind fun r1 =>
 some (r1.1, ())
def ZgI : CEp where
 f := 48
 args := [.cod 8]
 hs := []
 res := .val (.one (.bool))
 outs := []
 m := fun d dh => Zea d.1
 ok := ceO Tryz.func48 (by kernel_rfl) Zra (by kernel_rfl) fun d dh => by kernel_rfl
def Zup : List (CEp) := []
def ZkM  : Option (Unit × (((List (Zac)) × Unit × Unit) × (List ((Int × Int) × Int)) × Unit × Unit)) :=
 some ((), (([], (), ()), ([] : List ((Int × Int) × Int)), (), ()))
def ZmG : CEp where
 f := 49
 args := []
 hs := []
 res := .val (.one (.ptr 0 0))
 outs := [.obj 197 [.own 17 2, .mo 1], .mmap (.two .i64 .i64) (.int .i64), .row 41 5]
 m := fun d dh => ZkM
 ok := ceO Tryz.func49 (by kernel_rfl) Zup (by kernel_rfl) fun d dh => by kernel_rfl
def ZiN (x : List (Zaf)) : Option ((List (Zaf)) × (Unit × Unit)) :=
 if x.length <= 140737488355328 /\ x.length * 48 <= 140737488355328 then some (x, ((), ())) else none
def Zrb : CEp where
 f := 100
 args := [.one (.sl 5)]
 hs := []
 res := .val (.one (.own 5 0))
 outs := [.row 99 4]
 m := fun d dh => ZiN d.1
 ok := fun d dh r hr => by
  unfold ZiN at hr
  split at hr
  ·rename_i hroom
   injection hr with hr
   subst hr
   exact Zuf Zar Tryz.func100 (by kernel_rfl) rfl rfl (zv := .agg #[.string ⟨#[]⟩, .string ⟨#[]⟩, .int .i64 0, .int .i64 0]) (he := by kernel_rfl) (hsz := by kernel_rfl) (hz := by kernel_rfl) (hby := by kernel_rfl) rfl rfl d.1 hroom
  ·cases hr
def ZmH : List (CEp) := [Zrb]
def Zcn (x0 : ZjH) : Option ((ZjH) × Unit) :=
 (ZiN x0.shares.list).bind fun r1 =>
 some ((⟨(⟨x0.shares.epoch, r1.1⟩ : Zai), x0.under, x0.x⟩ : ZjH), ())
def Zg6 : CEp where
 f := 50
 args := [.cod 20]
 hs := []
 res := .val (.cod 20)
 outs := []
 m := fun d dh => Zcn d.1
 ok := ceO Tryz.func50 (by kernel_rfl) ZmH (by kernel_rfl) fun d dh => by kernel_rfl
def Zrc : Nat -> Nat -> DrA
 | 3, _ => ⟨[2, 3, 0, 1, 4, 5, 6, 7], [[], [0], [], [2], [0, 2, 3], (List.range 5), (List.range 6), (List.range 7)], [2], [0], [0], false, []⟩
 | _, _ => ⟨[], [], [], [], [], false, []⟩
def Zrd : List (CEp) := [ZgI, ZmG, Zg6]
def Zg7 (x0 : Zai) : Option (Unit × ((Unit × Int × (List (Zaf)) × Bool × Int × (List UInt8) × (List UInt8) × Int × Int × Int × Int × Int × Int × Unit) × ((List (Zac)) × Unit × Unit) × (List ((Int × Int) × Int)) × Unit × Unit)) :=
 (Zea x0).bind fun r1 =>
 (bif (!r1.1) then
 none
 else
 (ZkM).bind fun r2 =>
 (Zcn (⟨x0, false, (⟨0, (⟨([] : List UInt8), ([] : List UInt8)⟩ : Zao), 0, 0, 0, 0, 0⟩ : Zak)⟩ : ZjH)).bind fun r3 =>
 some ((), (((), r3.1.shares.epoch, r3.1.shares.list, r3.1.under, r3.1.x.num, r3.1.x.span.lo, r3.1.x.span.hi, r3.1.x.from_, r3.1.x.to_, r3.1.x.epoch, r3.1.x.under, r3.1.x.stage, 0, ()), r2.2.1, r2.2.2.1, (), ())))
def Zre : CEp where
 f := 9
 args := [.cod 8]
 hs := []
 res := .val (.one (.ptr 0 0))
 outs := [.obj 110 [.ptr 1 0, .int .i64, .sl 5, .bool, .int .i64, .str, .str, .int .i64, .int .i64, .int .i64, .int .i64, .int .u8, .int .i64], .obj 197 [.own 17 3, .mo 2], .mmap (.two .i64 .i64) (.int .i64), .row 41 5]
 m := fun d dh => Zg7 d.1
 ok := ZaO Zar Tryz.func9 (by kernel_rfl) (Zad Zrd) (dr := Zrc) (lps := Zap lt0) (Zau (Zal (by kernel_rfl))) (fun d dh => by kernel_rfl)
def ZnX : List (CEp) := []
def Zbd (h0 : Unit × Int × (List (Zaf)) × Bool × Int × (List UInt8) × (List UInt8) × Int × Int × Int × Int × Int × Int × Unit) (h1 : (List (Zac)) × Unit × Unit) (h2 : List ((Int × Int) × Int)) : Option (Bool × ((Unit × Int × (List (Zaf)) × Bool × Int × (List UInt8) × (List UInt8) × Int × Int × Int × Int × Int × Int × Unit) × ((List (Zac)) × Unit × Unit) × (List ((Int × Int) × Int)) × Unit × Unit × Unit)) :=
 some (true, (h0, h1, h2, (), (), ()))
def Za7 : CEp where
 f := 54
 args := [.one (.ptr 0 0)]
 hs := [.obj 110 [.ptr 1 0, .int .i64, .sl 5, .bool, .int .i64, .str, .str, .int .i64, .int .i64, .int .i64, .int .i64, .int .u8, .int .i64], .obj 197 [.own 17 3, .mo 2], .mmap (.two .i64 .i64) (.int .i64), .row 41 5]
 res := .val (.one (.bool))
 outs := [.obj 110 [.ptr 1 0, .int .i64, .sl 5, .bool, .int .i64, .str, .str, .int .i64, .int .i64, .int .i64, .int .i64, .int .u8, .int .i64], .obj 197 [.own 17 4, .mo 2], .mmap (.two .i64 .i64) (.int .i64), .dead, .row 41 5]
 m := fun d dh => Zbd dh.1 dh.2.1 dh.2.2.1
 ok := ceO Tryz.func54 (by kernel_rfl) ZnX (by kernel_rfl) fun d dh => by kernel_rfl
def Zps : List (CEp) := []
def ZaL (x0 : Int) (x1 : Int) (x2 : Int) : Option (Bool × Unit) :=
 (bif (decide ((x1 : Int) <= x0)) then
 some ((decide ((x0 : Int) <= x2)), ())
 else
 some (false, ()))
def Zji : CEp where
 f := 167
 args := [.one (.int .i64), .one (.int .i64), .one (.int .i64)]
 hs := []
 res := .val (.one (.bool))
 outs := []
 m := fun d dh => ZaL d.1 d.2.1 d.2.2.1
 ok := ceO Tryz.func167 (by kernel_rfl) Zps (by kernel_rfl) fun d dh => by kernel_rfl
def Zwe : List (CEp) := [ZjL, Zeo]
def ZmI (x0 : ZzE) (x1 : ZzE) : Option (Bool × Unit) :=
 (ZdJ x0.text).bind fun r1 =>
 (bif r1.1 then
 some (true, ())
 else
 (ZdJ x1.text).bind fun r2 =>
 (bif (!r2.1) then
 (ZcZ x0.text x1.text).bind fun r3 =>
 some ((decide ((0 : Int) <= r3.1)), ())
 else
 some (false, ())))
def Zwf : CEp where
 f := 250
 args := [.cod 12, .cod 12]
 hs := []
 res := .val (.one (.bool))
 outs := []
 m := fun d dh => ZmI d.1 d.2.1
 ok := ceO Tryz.func250 (by kernel_rfl) Zwe (by kernel_rfl) fun d dh => by kernel_rfl
def ZsM : List (CEp) := [ZjK, Zdl, Zeo, Zwf]
def ZgJ (x0 : Zao) (x1 : Zao) : Option (Bool × Unit) :=
 (Zfy x0).bind fun r1 =>
 (Zfy x1).bind fun r2 =>
 (Zbn x0).bind fun r3 =>
 (bif r3.1 then
 (Zbn x1).bind fun r4 =>
 (bif r4.1 then
 (ZcZ r2.1.1.text r1.1.1.text).bind fun r5 =>
 (bif (decide ((r5.1 : Int) <= 0)) then
 (ZmI r2.1.2.1 r1.1.2.1).bind fun r6 =>
 some (r6.1, ())
 else
 some (false, ()))
 else
 some (false, ()))
 else
 some (false, ()))
def Zlv : CEp where
 f := 230
 args := [.cod 4, .cod 4]
 hs := []
 res := .val (.one (.bool))
 outs := []
 m := fun d dh => ZgJ d.1 d.2.1
 ok := ceO Tryz.func230 (by kernel_rfl) ZsM (by kernel_rfl) fun d dh => by kernel_rfl
def Zrf : List (CEp) := [Zlv]
def ZjM (x0 : Zao) (h0 : Zao) : Option (Bool × ((Zao) × Unit)) :=
 (ZgJ h0 x0).bind fun r1 =>
 some (r1.1, (h0, ()))
def Zrg : CEp where
 f := 229
 args := [.cod 4, .one (.ptr 0 0)]
 hs := [.cobj 35 4]
 res := .val (.one (.bool))
 outs := [.cobj 35 4]
 m := fun d dh => ZjM d.1 dh.1
 ok := ceO Tryz.func229 (by kernel_rfl) Zrf (by kernel_rfl) fun d dh => by kernel_rfl
def Zuq : List (CEp) := [Zrg]
def ZkN (x0 : Zaf) (h0 : Unit × Unit) (h1 : Zao) : Option (Bool × ((Unit × Unit) × (Zao) × Unit)) :=
 (ZjM x0.span h1).bind fun r1 =>
 some (r1.1, (((), ()), r1.2.1, ()))
def Zur : CEp where
 f := 174
 args := [.cod 5, .one (.ptr 0 0)]
 hs := [.obj 192 [.clo 229 [1]], .cobj 35 4]
 res := .val (.one (.bool))
 outs := [.obj 192 [.clo 229 [1]], .cobj 35 4]
 m := fun d dh => ZkN d.1 dh.1 dh.2.1
 ok := ceO Tryz.func174 (by kernel_rfl) Zuq (by kernel_rfl) fun d dh => by kernel_rfl
def Zfz : List (CEp) := [Zur]
def Za8 (a : ((List (Zaf)) × Unit × Int × Int × Unit) × ((Unit × Unit) × (Zao) × Unit)) : Option ((((List (Zaf)) × Unit × Int × Int × Unit) × ((Unit × Unit) × (Zao) × Unit)) ⊕ (((Int × Unit) × ((Unit × Unit) × (Zao) × Unit)) ⊕ (Unit × ((Unit × Unit) × (Zao) × Unit)))) :=
 (bif (decide ((a.1.2.2.2.1 : Int) < a.1.2.2.1)) then
 (Zbs a.1.1 a.1.2.2.2.1).bind fun e1 =>
 (ZkN e1 ((), ()) a.2.2.1).bind fun r2 =>
 (bif r2.1 then
 some (.inr (.inl ((a.1.2.2.2.1, ()), (((), ()), r2.2.2.1, ()))))
 else
 some (.inl ((a.1.1, (), a.1.2.2.1, (IntKind.i64.wrap (a.1.2.2.2.1 + 1)), ()), (((), ()), r2.2.2.1, ()))))
 else
 some (.inr (.inr ((), (((), ()), a.2.2.1, ())))))
def ZbV : LEp := ⟨2, [0, 1, 7, 8], [.one (.sl 5), .one (.clo 174 [0]), .one (.int .i64), .one (.int .i64)], [.obj 192 [.clo 229 [1]], .cobj 35 4], [⟨.ret, [4], [.one (.int .i64)], [.obj 192 [.clo 229 [1]], .cobj 35 4]⟩, ⟨.exit 0, [], [], [.obj 192 [.clo 229 [1]], .cobj 35 4]⟩], Za8⟩
def ZfA : List (LEp) := [ZbV]
theorem ZhZ : ZdE ZbV (ZcN (ZaD Tryz.f173) 0) := fun A env h k z hk => Za3 (E := ZbV) (Zad Zfz) (dr := dr0) (lps := Zap ZfA) (Zal (by kernel_rfl)) (fun a => by kernel_rfl) env h k z hk
def ZcQ (x0 : List (Zaf)) (h0 : Unit × Unit) (h1 : Zao) : Option (Int × ((Unit × Unit) × (Zao) × Unit)) :=
 (Zas Za8 ((x0, (), (x0.length : Int), 0, ()), (((), ()), h1, ()))).bind fun b1 =>
 (match b1 with
 | .inl b2 =>
 some (b2.1.1, (((), ()), b2.2.2.1, ()))
 | .inr b3 =>
 some ((-1), (((), ()), b3.2.2.1, ())))
def ZjN : CEp where
 f := 173
 args := [.one (.sl 5), .one (.clo 174 [0])]
 hs := [.obj 192 [.clo 229 [1]], .cobj 35 4]
 res := .val (.one (.int .i64))
 outs := [.obj 192 [.clo 229 [1]], .cobj 35 4]
 m := fun d dh => ZcQ d.1 dh.1 dh.2.1
 ok := ZaO Zar Tryz.func173 (by kernel_rfl) (Zad Zfz) (dr := dr0) (lps := Zap ZfA) (Zau (ZaI (n := 1) (by kernel_rfl) fun i hi => match i, hi with | 0, _ => Za4 (E := ZbV) (by kernel_rfl) ZhZ)) (fun d dh => by kernel_rfl)
def Zwg : List (CEp) := [Zc0, ZjN]
def ZmJ (x0 : ZeT) (h0 : Zao) : Option (Int × ((Zao) × Unit)) :=
 (ZcA x0).bind fun r1 =>
 (bif (!r1.1) then
 some ((-1), (h0, ()))
 else
 (ZcQ x0.shares.list ((), ()) h0).bind fun r2 =>
 some (r2.1, (r2.2.2.1, ())))
def Zwh : CEp where
 f := 96
 args := [.cod 9, .one (.clo 229 [0])]
 hs := [.cobj 35 4]
 res := .val (.one (.int .i64))
 outs := [.cobj 35 4]
 m := fun d dh => ZmJ d.1 dh.1
 ok := ceO Tryz.func96 (by kernel_rfl) Zwg (by kernel_rfl) fun d dh => by kernel_rfl
def ZmK (x : List (Zaf)) : Option (Nat × ((List (Zaf)) × Unit)) :=
 if x.length ≠ 0 /\ x.length <= 140737488355328 /\ x.length * 48 <= 140737488355328 then some (x.length, (x, ())) else none
def Zwi : CEp where
 f := 100
 args := [.one (.sl 5)]
 hs := []
 res := .val (.one (.asz 6 0))
 outs := [.arr 99 6 true]
 m := fun d dh => ZmK d.1
 ok := fun d dh r hr => by
  unfold ZmK at hr
  split at hr
  ·rename_i hroom
   injection hr with hr
   subst hr
   exact ZA8 Zar Tryz.func100 (by kernel_rfl) rfl rfl (zv := .agg #[.string ⟨#[]⟩, .string ⟨#[]⟩, .int .i64 0, .int .i64 0]) (he := by kernel_rfl) (hsz := by kernel_rfl) (hz := by kernel_rfl) (hby := by kernel_rfl) rfl rfl (F := 6) (zt := ((⟨(⟨([] : List UInt8), ([] : List UInt8)⟩ : Zao), 0, 0⟩ : Zaf) : Zaf)) d.1 d.1 (by kernel_rfl) rfl rfl (fun _ _ _ h => h) hroom.1 hroom.2
  ·cases hr
def Zpt : List (CEp) := []
def ZmL (x0 : List (List UInt8)) : Option (Unit × ((List (List UInt8)) × Unit)) :=
 some ((), (x0, ()))
def Zpu : CEp where
 f := 264
 args := [.one (.sl 2)]
 hs := []
 res := .val (.one (.clo 268 [0]))
 outs := [.cobj 84 3]
 m := fun d dh => ZmL d.1
 ok := ceO Tryz.func264 (by kernel_rfl) Zpt (by kernel_rfl) fun d dh => by kernel_rfl
def ZnY : List (CEp) := [Zv7]
def ZhN (h0 : List (List UInt8)) : Option ((Nat × Nat) × ((List (List UInt8)) × (List (List UInt8)) × Unit)) :=
 (Zmx h0).bind fun r1 =>
 some ((r1.1.1, r1.1.2), (r1.2.1, r1.2.2.1, ()))
def ZnZ : CEp where
 f := 266
 args := [.one (.clo 268 [0])]
 hs := [.cobj 84 3]
 res := .val (.one (.asu 2 1))
 outs := [.cobj 84 3, .arr 9 2 false]
 m := fun d dh => ZhN dh.1
 ok := ceO Tryz.func266 (by kernel_rfl) ZnY (by kernel_rfl) fun d dh => by kernel_rfl
def Zpv : List (CEp) := [ZnZ, ZCu]
def Zgc (h0 : List (List UInt8)) : Option ((Nat × Nat) × ((List (List UInt8)) × (List (List UInt8)) × Unit)) :=
 (ZhN h0).bind fun r1 =>
 (ZCt (r1.1.1, r1.1.2) r1.2.2.1).bind fun r2 =>
 some ((r1.1.1, r1.1.2), (r1.2.1, r2.2.1, ()))
def Zpw : CEp where
 f := 263
 args := [.one (.clo 268 [0])]
 hs := [.cobj 84 3]
 res := .val (.one (.asu 2 1))
 outs := [.cobj 84 3, .arr 9 2 false]
 m := fun d dh => Zgc dh.1
 ok := ceO Tryz.func263 (by kernel_rfl) Zpv (by kernel_rfl) fun d dh => by kernel_rfl
def Ze1 : Nat -> Nat -> DrA
 | 6, _ => ⟨[0, 1, 2, 4, 5, 6, 7, 3, 8, 9], [[], [], [0, 1], [0, 1, 2], [], [], [5], [4, 5, 6], [4, 5, 6, 7], (List.range 9)], [], [], [], false, []⟩
 | 11, _ => ⟨[0, 1, 2, 4, 5, 6, 7, 3, 8, 9], [[], [], [0, 1], [0, 1, 2], [], [], [5], [4, 5, 6], [4, 5, 6, 7], (List.range 9)], [], [], [], false, []⟩
 | _, _ => ⟨[], [], [], [], [], false, []⟩
def Ze2 : List (CEp) := []
def Zco (a : ((Nat × Nat) × Int × (Nat × Nat) × Int × Unit) × ((List (List UInt8)) × Unit)) : Option ((((Nat × Nat) × Int × (Nat × Nat) × Int × Unit) × ((List (List UInt8)) × Unit)) ⊕ ((((Nat × Nat) × Int × Unit) × ((List (List UInt8)) × Unit)))) :=
 (bif (decide ((a.1.2.2.2.1 : Int) < ((a.1.2.2.1.2 : Nat) : Int))) then
 (if 0 <= (a.1.2.2.2.1 : Int) /\ (a.1.2.2.2.1 : Int) < ((a.1.2.2.1.2 : Nat) : Int) then
 (if 0 <= ((IntKind.i64.wrap (a.1.2.2.2.1 - 1)) : Int) /\ ((IntKind.i64.wrap (a.1.2.2.2.1 - 1)) : Int) < ((a.1.2.2.1.2 : Nat) : Int) then
 (a.2.1[(a.1.2.2.1.1 + (a.1.2.2.2.1 : Int).toNat)]?).bind fun e1 =>
 (a.2.1[(a.1.2.2.1.1 + ((IntKind.i64.wrap (a.1.2.2.2.1 - 1)) : Int).toNat)]?).bind fun e2 =>
 (bif (decide (e1 ≠ e2)) then
 (if 0 <= (a.1.2.2.2.1 : Int) /\ (a.1.2.2.2.1 : Int) < ((a.1.2.2.1.2 : Nat) : Int) then
 (a.2.1[(a.1.2.2.1.1 + (a.1.2.2.2.1 : Int).toNat)]?).bind fun e3 =>
 (if 0 <= (a.1.2.1 : Int) /\ (a.1.2.1 : Int) < ((a.1.1.2 : Nat) : Int) then
 (a.2.1[(a.1.1.1 + (a.1.2.1 : Int).toNat)]?).bind fun e4 =>
 some (.inl (((a.1.1.1, a.1.1.2), (IntKind.i64.wrap (a.1.2.1 + 1)), (a.1.2.2.1.1, a.1.2.2.1.2), (IntKind.i64.wrap (a.1.2.2.2.1 + 1)), ()), ((a.2.1.set (a.1.1.1 + (a.1.2.1 : Int).toNat) e3), ())))
 else none)
 else none)
 else
 some (.inl (((a.1.1.1, a.1.1.2), a.1.2.1, (a.1.2.2.1.1, a.1.2.2.1.2), (IntKind.i64.wrap (a.1.2.2.2.1 + 1)), ()), (a.2.1, ()))))
 else none)
 else none)
 else
 some (.inr (((a.1.1.1, a.1.1.2), a.1.2.1, ()), (a.2.1, ()))))
def Zdm : LEp := ⟨9, [0, 3, 4, 5], [.one (.asu 2 0), .one (.int .i64), .one (.asu 2 0), .one (.int .i64)], [.arr 9 2 true], [⟨.exit 2, [0, 3], [.one (.asu 2 0), .one (.int .i64)], [.arr 9 2 true]⟩], Zco⟩
def Zdn (a : ((Nat × Nat) × Int × Unit) × ((List (List UInt8)) × Unit)) : Option ((((Nat × Nat) × Int × Unit) × ((List (List UInt8)) × Unit)) ⊕ ((((Nat × Nat) × Unit) × ((List (List UInt8)) × Unit)) ⊕ (((Nat × Nat) × Unit) × ((List (List UInt8)) × Unit)))) :=
 (bif (decide ((a.1.2.1 : Int) < ((a.1.1.2 : Nat) : Int))) then
 (if 0 <= (a.1.2.1 : Int) /\ (a.1.2.1 : Int) < ((a.1.1.2 : Nat) : Int) then
 (if 0 <= ((IntKind.i64.wrap (a.1.2.1 - 1)) : Int) /\ ((IntKind.i64.wrap (a.1.2.1 - 1)) : Int) < ((a.1.1.2 : Nat) : Int) then
 (a.2.1[(a.1.1.1 + (a.1.2.1 : Int).toNat)]?).bind fun e1 =>
 (a.2.1[(a.1.1.1 + ((IntKind.i64.wrap (a.1.2.1 - 1)) : Int).toNat)]?).bind fun e2 =>
 (bif (decide (e1 = e2)) then
 (if 0 <= ((a.1.2.1 : Int) : Int) /\ ((a.1.2.1 : Int) : Int) <= ((a.1.1.2 : Nat) : Int) /\ ((a.1.1.2 : Nat) : Int) <= ((a.1.1.2 : Nat) : Int) /\ ((a.1.1.2 : Nat) : Int) <= 140737488355328 then
 (Zas Zco (((a.1.1.1, a.1.1.2), a.1.2.1, ((a.1.1.1 + (a.1.2.1 : Int).toNat), (((a.1.1.2 : Nat) : Int).toNat - (a.1.2.1 : Int).toNat)), 1, ()), (a.2.1, ()))).bind fun b3 =>
 (if 0 <= ((b3.1.2.1 : Int) : Int) /\ ((b3.1.2.1 : Int) : Int) <= ((b3.1.1.2 : Nat) : Int) /\ ((b3.1.1.2 : Nat) : Int) <= ((b3.1.1.2 : Nat) : Int) /\ ((b3.1.1.2 : Nat) : Int) <= 140737488355328 then
 (if (b3.1.1.1 + (b3.1.2.1 : Int).toNat) <= b3.2.1.length then
 let y4 : List (List UInt8) := (b3.2.1.take (b3.1.1.1 + (b3.1.2.1 : Int).toNat) ++ List.replicate (((b3.1.1.2 : Nat) : Int).toNat - (b3.1.2.1 : Int).toNat) (([] : List UInt8) : List UInt8) ++ b3.2.1.drop ((b3.1.1.1 + (b3.1.2.1 : Int).toNat) + (((b3.1.1.2 : Nat) : Int).toNat - (b3.1.2.1 : Int).toNat)))
 (if 0 <= ((0 : Int) : Int) /\ ((0 : Int) : Int) <= (b3.1.2.1 : Int) /\ (b3.1.2.1 : Int) <= ((b3.1.1.2 : Nat) : Int) /\ (b3.1.2.1 : Int) <= 140737488355328 then
 some (.inr (.inl ((((b3.1.1.1 + (0 : Int).toNat), ((b3.1.2.1 : Int).toNat - (0 : Int).toNat)), ()), (y4, ()))))
 else none)
 else none)
 else none)
 else none)
 else
 some (.inl (((a.1.1.1, a.1.1.2), (IntKind.i64.wrap (a.1.2.1 + 1)), ()), (a.2.1, ()))))
 else none)
 else none)
 else
 some (.inr (.inr (((a.1.1.1, a.1.1.2), ()), (a.2.1, ())))))
def Zdo : LEp := ⟨4, [0, 3], [.one (.asu 2 0), .one (.int .i64)], [.arr 9 2 true], [⟨.ret, [2], [.one (.asu 2 0)], [.arr 9 2 true]⟩, ⟨.exit 0, [0], [.one (.asu 2 0)], [.arr 9 2 true]⟩], Zdn⟩
def Ze3 : List (LEp) := [Zdm, Zdo]
theorem Zld : ZdE Zdm (ZcN (ZcN (ZaD Tryz.f262) 0) 0) := fun A env h k z hk => Za3 (E := Zdm) (Zad Ze2) (dr := Ze1) (lps := Zap Ze3) (Zal (by kernel_rfl)) (fun a => by kernel_rfl) env h k z hk
theorem Zle : ZdE Zdo (ZcN (ZaD Tryz.f262) 0) := fun A env h k z hk => Za3 (E := Zdo) (Zad Ze2) (dr := Ze1) (lps := Zap Ze3) (ZaI (n := 1) (by kernel_rfl) fun i hi => match i, hi with | 0, _ => Za4 (E := Zdm) (by kernel_rfl) Zld) (fun a => by kernel_rfl) env h k z hk
def Zfb (x0 : Nat × Nat) (h0 : List (List UInt8)) : Option ((Nat × Nat) × ((List (List UInt8)) × Unit)) :=
 (bif (decide ((((x0.2 : Nat) : Int) : Int) < 2)) then
 some ((x0.1, x0.2), (h0, ()))
 else
 (Zas Zdn (((x0.1, x0.2), 1, ()), (h0, ()))).bind fun b1 =>
 (match b1 with
 | .inl b2 =>
 some ((b2.1.1.1, b2.1.1.2), (b2.2.1, ()))
 | .inr b3 =>
 some ((b3.1.1.1, b3.1.1.2), (b3.2.1, ()))))
def Zn0 : CEp where
 f := 262
 args := [.one (.asu 2 0)]
 hs := [.arr 9 2 true]
 res := .val (.one (.asu 2 0))
 outs := [.arr 9 2 true]
 m := fun d dh => Zfb d.1 dh.1
 ok := ZaO Zar Tryz.func262 (by kernel_rfl) (Zad Ze2) (dr := Ze1) (lps := Zap Ze3) (Zau (ZaI (n := 1) (by kernel_rfl) fun i hi => match i, hi with | 0, _ => Za4 (E := Zdo) (by kernel_rfl) Zle)) (fun d dh => by kernel_rfl)
def ZxC : List (CEp) := [ZjK, Zdl, ZlZ, Zeo, ZmC]
def ZmM (x0 : Zao) (x1 : List UInt8) : Option (Bool × Unit) :=
 (Zfy x0).bind fun r1 =>
 (Zbn x0).bind fun r2 =>
 (bif r2.1 then
 (Zg5 x1).bind fun r3 =>
 (bif r3.1 then
 (ZcZ r1.1.1.text (⟨x1⟩ : ZqZ)).bind fun r4 =>
 (bif (decide ((r4.1 : Int) <= 0)) then
 (Zd9 r1.1.2.1 (⟨x1⟩ : ZqZ)).bind fun r5 =>
 some (r5.1, ())
 else
 some (false, ()))
 else
 some (false, ()))
 else
 some (false, ()))
def Zrh : CEp where
 f := 98
 args := [.cod 4, .one (.str)]
 hs := []
 res := .val (.one (.bool))
 outs := []
 m := fun d dh => ZmM d.1 d.2.1
 ok := ceO Tryz.func98 (by kernel_rfl) ZxC (by kernel_rfl) fun d dh => by kernel_rfl
def Zri : List (CEp) := [Zdl, Zpu, Zpw, Zn0, Zrh]
def ZgK (a : (Unit × (List (Zao)) × (Nat × Nat) × Int × Int × Unit) × ((Zao) × (List (List UInt8)) × Unit × Unit)) : Option (((Unit × (List (Zao)) × (Nat × Nat) × Int × Int × Unit) × ((Zao) × (List (List UInt8)) × Unit × Unit)) ⊕ (((Unit × (List (Zao)) × Unit) × ((Zao) × (List (List UInt8)) × Unit × Unit × Unit)))) :=
 (bif (decide ((a.1.2.2.2.2.1 : Int) < a.1.2.2.2.1)) then
 (if 0 <= (a.1.2.2.2.2.1 : Int) /\ (a.1.2.2.2.2.1 : Int) < ((a.1.2.2.1.2 : Nat) : Int) then
 (a.2.2.1[(a.1.2.2.1.1 + (a.1.2.2.2.2.1 : Int).toNat)]?).bind fun e1 =>
 (ZmM a.2.1 e1).bind fun r2 =>
 (bif (!r2.1) then
 some (.inl (((), a.1.2.1, (a.1.2.2.1.1, a.1.2.2.1.2), a.1.2.2.2.1, (IntKind.i64.wrap (a.1.2.2.2.2.1 + 1)), ()), (a.2.1, a.2.2.1, (), ())))
 else
 (bif (decide (e1 = a.2.1.lo)) then
 some (.inl (((), a.1.2.1, (a.1.2.2.1.1, a.1.2.2.1.2), a.1.2.2.2.1, (IntKind.i64.wrap (a.1.2.2.2.2.1 + 1)), ()), (a.2.1, a.2.2.1, (), ())))
 else
 (if a.1.2.1.length + ([(⟨a.2.1.lo, e1⟩ : Zao)] : List (Zao)).length <= 140737488355328 /\ (a.1.2.1.length + ([(⟨a.2.1.lo, e1⟩ : Zao)] : List (Zao)).length) * 32 <= 140737488355328 then
 some (.inl (((), (a.1.2.1 ++ ([(⟨a.2.1.lo, e1⟩ : Zao)] : List (Zao))), (a.1.2.2.1.1, a.1.2.2.1.2), a.1.2.2.2.1, (IntKind.i64.wrap (a.1.2.2.2.2.1 + 1)), ()), ((⟨e1, a.2.1.hi⟩ : Zao), a.2.2.1, (), ())))
 else none)))
 else none)
 else
 some (.inr (((), a.1.2.1, ()), (a.2.1, a.2.2.1, (), (), ()))))
def ZiO : LEp := ⟨5, [2, 5, 14, 15, 16], [.one (.ptr 0 0), .one (.own 4 2), .one (.asu 2 1), .one (.int .i64), .one (.int .i64)], [.cobj 35 4, .arr 9 2 true, .row 35 2], [⟨.exit 0, [2, 5], [.one (.ptr 0 0), .one (.own 4 3)], [.cobj 35 4, .arr 9 2 true, .dead, .row 35 2]⟩], ZgK⟩
def Zrj : List (LEp) := [ZiO]
theorem ZsN : ZdE ZiO (ZcN (ZaD Tryz.f255) 0) := fun A env h k z hk => Za3 (E := ZiO) (Zad Zri) (dr := dr0) (lps := Zap Zrj) (Zal (by kernel_rfl)) (fun a => by kernel_rfl) env h k z hk
def ZkO (x0 : Zao) (x1 : List (List UInt8)) : Option ((List (Zao)) × (Unit × Unit)) :=
 (Zbn x0).bind fun r1 =>
 (bif (!r1.1) then
 some ([], ((), ()))
 else
 (ZmL x1).bind fun r2 =>
 (Zgc r2.2.1).bind fun r3 =>
 (Zfb (r3.1.1, r3.1.2) r3.2.2.1).bind fun r4 =>
 (Zas ZgK (((), [], (r4.1.1, r4.1.2), ((r4.1.2 : Nat) : Int), 0, ()), (x0, r4.2.1, (), ()))).bind fun b5 =>
 (if b5.1.2.1.length + ([b5.2.1] : List (Zao)).length <= 140737488355328 /\ (b5.1.2.1.length + ([b5.2.1] : List (Zao)).length) * 32 <= 140737488355328 then
 some ((b5.1.2.1 ++ ([b5.2.1] : List (Zao))), ((), ()))
 else none))
def ZxD : CEp where
 f := 255
 args := [.cod 4, .one (.sl 2)]
 hs := []
 res := .val (.one (.own 4 0))
 outs := [.row 35 2]
 m := fun d dh => ZkO d.1 d.2.1
 ok := ZaO Zar Tryz.func255 (by kernel_rfl) (Zad Zri) (dr := dr0) (lps := Zap Zrj) (Zau (ZaI (n := 1) (by kernel_rfl) fun i hi => match i, hi with | 0, _ => Za4 (E := ZiO) (by kernel_rfl) ZsN)) (fun d dh => by kernel_rfl)
def Zjj : List (CEp) := [ZxD]
def Zbi (a : (Int × Int × Unit × Unit × (List (Zaf)) × (List (Zao)) × Int × Int × Unit) × ((Zaf) × (Zao) × Unit × Unit × Unit)) : Option (((Int × Int × Unit × Unit × (List (Zaf)) × (List (Zao)) × Int × Int × Unit) × ((Zaf) × (Zao) × Unit × Unit × Unit)) ⊕ ((((List (Zaf)) × Unit) × ((Zaf) × (Zao) × Unit × Unit × Unit × Unit)))) :=
 (bif (decide ((a.1.2.2.2.2.2.2.2.1 : Int) < a.1.2.2.2.2.2.2.1)) then
 (Zbs a.1.2.2.2.2.2.1 a.1.2.2.2.2.2.2.2.1).bind fun e1 =>
 (bif (decide (e1.lo = a.2.2.1.lo) && (decide (e1.hi = a.2.2.1.hi) && true)) then
 (if a.1.2.2.2.2.1.length + ([(⟨e1, a.1.1, a.1.2.1⟩ : Zaf)] : List (Zaf)).length <= 140737488355328 /\ (a.1.2.2.2.2.1.length + ([(⟨e1, a.1.1, a.1.2.1⟩ : Zaf)] : List (Zaf)).length) * 48 <= 140737488355328 then
 some (.inl ((a.1.1, a.1.2.1, (), (), (a.1.2.2.2.2.1 ++ ([(⟨e1, a.1.1, a.1.2.1⟩ : Zaf)] : List (Zaf))), a.1.2.2.2.2.2.1, a.1.2.2.2.2.2.2.1, (IntKind.i64.wrap (a.1.2.2.2.2.2.2.2.1 + 1)), ()), (a.2.1, a.2.2.1, (), (), ())))
 else none)
 else
 (if a.1.2.2.2.2.1.length + ([(⟨e1, a.2.1.group, a.2.1.epoch⟩ : Zaf)] : List (Zaf)).length <= 140737488355328 /\ (a.1.2.2.2.2.1.length + ([(⟨e1, a.2.1.group, a.2.1.epoch⟩ : Zaf)] : List (Zaf)).length) * 48 <= 140737488355328 then
 let y2 : List (Zaf) := (a.1.2.2.2.2.1 ++ ([(⟨e1, a.2.1.group, a.2.1.epoch⟩ : Zaf)] : List (Zaf)))
 some (.inl ((a.1.1, a.1.2.1, (), (), y2, a.1.2.2.2.2.2.1, a.1.2.2.2.2.2.2.1, (IntKind.i64.wrap (a.1.2.2.2.2.2.2.2.1 + 1)), ()), (a.2.1, a.2.2.1, (), (), ())))
 else none))
 else
 some (.inr ((a.1.2.2.2.2.1, ()), (a.2.1, a.2.2.1, (), (), (), ()))))
def ZdW : LEp := ⟨3, [2, 3, 4, 5, 9, 20, 21, 22], [.one (.int .i64), .one (.int .i64), .one (.ptr 0 0), .one (.ptr 1 0), .one (.own 5 2), .one (.own 4 3), .one (.int .i64), .one (.int .i64)], [.cobj 99 5, .cobj 35 4, .row 99 4, .row 35 2], [⟨.exit 0, [9], [.one (.own 5 4)], [.cobj 99 5, .cobj 35 4, .dead, .dead, .row 99 4]⟩], Zbi⟩
def Zjk : List (LEp) := [ZdW]
theorem Zl0 : ZdE ZdW (ZcN (ZaD Tryz.f232) 0) := fun A env h k z hk => Za3 (E := ZdW) (Zad Zjj) (dr := dr0) (lps := Zap Zjk) (Zal (by kernel_rfl)) (fun a => by kernel_rfl) env h k z hk
def Zep (x0 : Zaf) (x1 : Zao) (x2 : Int) (x3 : Int) : Option ((List (Zaf)) × (Unit × Unit)) :=
 (ZkO x0.span ([x1.lo, x1.hi] : List (List UInt8))).bind fun r1 =>
 (Zas Zbi ((x2, x3, (), (), [], r1.1, (r1.1.length : Int), 0, ()), (x0, x1, (), (), ()))).bind fun b2 =>
 some (b2.1.1, ((), ()))
def Zpx : CEp where
 f := 232
 args := [.cod 5, .cod 4, .one (.int .i64), .one (.int .i64)]
 hs := []
 res := .val (.one (.own 5 0))
 outs := [.row 99 4]
 m := fun d dh => Zep d.1 d.2.1 d.2.2.1 d.2.2.2.1
 ok := ZaO Zar Tryz.func232 (by kernel_rfl) (Zad Zjj) (dr := dr0) (lps := Zap Zjk) (Zau (ZaI (n := 1) (by kernel_rfl) fun i hi => match i, hi with | 0, _ => Za4 (E := ZdW) (by kernel_rfl) Zl0)) (fun d dh => by kernel_rfl)
def ZsO : Nat -> Nat -> DrA
 | 11, _ => ⟨[0, 1, 4, 5, 6, 7, 8, 10, 14, 15, 16, 2, 9, 11, 12, 13, 17, 18, 3, 19, 20, 21], [[], [0], [0, 1], [0, 1, 2], [], [], [5], [], [7], [7, 8], [], [7, 8, 9, 10], [7, 8, 9, 10, 11], [], [], [], [15], [15, 16], [15, 16, 17], [0, 1, 2, 3, 7, 8, 9, 10, 11, 12, 13, 14, 15, 16, 17, 18], (List.range 20), (List.range 21)], [9, 12, 13, 17], [3], [1, 3], false, []⟩
 | _, _ => ⟨[], [], [], [], [], false, []⟩
def ZsP : List (CEp) := [Zwh, Zc0, Zdl, ZdU, Zwi, Zpx, ZzL]
def Ze4 (x0 : Zai) (x1 : Zao) (x2 : Int) : Option (((Zai) × Int × Unit) × Unit) :=
 (ZmJ (⟨x0⟩ : ZeT) x1).bind fun r1 =>
 (ZcA (⟨x0⟩ : ZeT)).bind fun r2 =>
 (bif (!r2.1) then
 some (((⟨0, []⟩ : Zai), 2, ()), ())
 else
 (Zbn r1.2.1).bind fun r3 =>
 (bif (!r3.1) then
 some (((⟨0, []⟩ : Zai), 2, ()), ())
 else
 (ZbU x2 1 4).bind fun r4 =>
 (bif (!r4.1) then
 some (((⟨0, []⟩ : Zai), 2, ()), ())
 else
 (bif (decide ((r1.1 : Int) < 0)) then
 some (((⟨0, []⟩ : Zai), 6, ()), ())
 else
 (Zbs x0.list r1.1).bind fun e5 =>
 (bif (decide ((e5.group : Int) = x2)) then
 some (((⟨0, []⟩ : Zai), 7, ()), ())
 else
 (Zbs x0.list r1.1).bind fun e6 =>
 (ZmK x0.list).bind fun r7 =>
 (Zep e6 r1.2.1 x2 (IntKind.i64.wrap (x0.epoch + 1))).bind fun r8 =>
 (Zuk r7.1 r1.1 (IntKind.i64.wrap (r1.1 + 1)) r8.1 r7.2.1).bind fun r9 =>
 (bif (decide ((x0.epoch : Int) = 1073741824)) then
 some (((⟨0, []⟩ : Zai), 8, ()), ())
 else
 (bif (decide ((40 : Int) < (r9.1.length : Int))) then
 some (((⟨0, []⟩ : Zai), 8, ()), ())
 else
 some (((⟨(IntKind.i64.wrap (x0.epoch + 1)), r9.1⟩ : Zai), 0, ()), ()))))))))
def Zlw : CEp where
 f := 168
 args := [.cod 8, .cod 4, .one (.int .i64)]
 hs := []
 res := .tup [.cod 8, .one (.int .i64)]
 outs := []
 m := fun d dh => Ze4 d.1 d.2.1 d.2.2.1
 ok := ZaO Zar Tryz.func168 (by kernel_rfl) (Zad ZsP) (dr := ZsO) (lps := Zap lt0) (Zau (Zal (by kernel_rfl))) (fun d dh => by kernel_rfl)
def Zus : List (CEp) := [Zlv]
def Zn1 (x0 : Zao) (h0 : Zao) : Option (Bool × ((Zao) × Unit)) :=
 (ZgJ h0 x0).bind fun r1 =>
 some (r1.1, (h0, ()))
def Zut : CEp where
 f := 233
 args := [.cod 4, .one (.ptr 0 0)]
 hs := [.cobj 35 4]
 res := .val (.one (.bool))
 outs := [.cobj 35 4]
 m := fun d dh => Zn1 d.1 dh.1
 ok := ceO Tryz.func233 (by kernel_rfl) Zus (by kernel_rfl) fun d dh => by kernel_rfl
def Zrk : List (CEp) := [Zut]
def Zg8 (x0 : Zaf) (h0 : Unit × Unit) (h1 : Zao) : Option (Bool × ((Unit × Unit) × (Zao) × Unit)) :=
 (Zn1 x0.span h1).bind fun r1 =>
 some (r1.1, (((), ()), r1.2.1, ()))
def Zrl : CEp where
 f := 174
 args := [.cod 5, .one (.ptr 0 0)]
 hs := [.obj 192 [.clo 233 [1]], .cobj 35 4]
 res := .val (.one (.bool))
 outs := [.obj 192 [.clo 233 [1]], .cobj 35 4]
 m := fun d dh => Zg8 d.1 dh.1 dh.2.1
 ok := ceO Tryz.func174 (by kernel_rfl) Zrk (by kernel_rfl) fun d dh => by kernel_rfl
def ZfB : List (CEp) := [Zrl]
def Za9 (a : ((List (Zaf)) × Unit × Int × Int × Unit) × ((Unit × Unit) × (Zao) × Unit)) : Option ((((List (Zaf)) × Unit × Int × Int × Unit) × ((Unit × Unit) × (Zao) × Unit)) ⊕ (((Int × Unit) × ((Unit × Unit) × (Zao) × Unit)) ⊕ (Unit × ((Unit × Unit) × (Zao) × Unit)))) :=
 (bif (decide ((a.1.2.2.2.1 : Int) < a.1.2.2.1)) then
 (Zbs a.1.1 a.1.2.2.2.1).bind fun e1 =>
 (Zg8 e1 ((), ()) a.2.2.1).bind fun r2 =>
 (bif r2.1 then
 some (.inr (.inl ((a.1.2.2.2.1, ()), (((), ()), r2.2.2.1, ()))))
 else
 some (.inl ((a.1.1, (), a.1.2.2.1, (IntKind.i64.wrap (a.1.2.2.2.1 + 1)), ()), (((), ()), r2.2.2.1, ()))))
 else
 some (.inr (.inr ((), (((), ()), a.2.2.1, ())))))
def ZbW : LEp := ⟨2, [0, 1, 7, 8], [.one (.sl 5), .one (.clo 174 [0]), .one (.int .i64), .one (.int .i64)], [.obj 192 [.clo 233 [1]], .cobj 35 4], [⟨.ret, [4], [.one (.int .i64)], [.obj 192 [.clo 233 [1]], .cobj 35 4]⟩, ⟨.exit 0, [], [], [.obj 192 [.clo 233 [1]], .cobj 35 4]⟩], Za9⟩
def ZfC : List (LEp) := [ZbW]
theorem Zh0 : ZdE ZbW (ZcN (ZaD Tryz.f173) 0) := fun A env h k z hk => Za3 (E := ZbW) (Zad ZfB) (dr := dr0) (lps := Zap ZfC) (Zal (by kernel_rfl)) (fun a => by kernel_rfl) env h k z hk
def ZcR (x0 : List (Zaf)) (h0 : Unit × Unit) (h1 : Zao) : Option (Int × ((Unit × Unit) × (Zao) × Unit)) :=
 (Zas Za9 ((x0, (), (x0.length : Int), 0, ()), (((), ()), h1, ()))).bind fun b1 =>
 (match b1 with
 | .inl b2 =>
 some (b2.1.1, (((), ()), b2.2.2.1, ()))
 | .inr b3 =>
 some ((-1), (((), ()), b3.2.2.1, ())))
def ZjO : CEp where
 f := 173
 args := [.one (.sl 5), .one (.clo 174 [0])]
 hs := [.obj 192 [.clo 233 [1]], .cobj 35 4]
 res := .val (.one (.int .i64))
 outs := [.obj 192 [.clo 233 [1]], .cobj 35 4]
 m := fun d dh => ZcR d.1 dh.1 dh.2.1
 ok := ZaO Zar Tryz.func173 (by kernel_rfl) (Zad ZfB) (dr := dr0) (lps := Zap ZfC) (Zau (ZaI (n := 1) (by kernel_rfl) fun i hi => match i, hi with | 0, _ => Za4 (E := ZbW) (by kernel_rfl) Zh0)) (fun d dh => by kernel_rfl)
def ZsQ : List (CEp) := [Zc0, ZjO]
def ZiP (x0 : ZeT) (h0 : Zao) : Option (Int × ((Zao) × Unit)) :=
 (ZcA x0).bind fun r1 =>
 (bif (!r1.1) then
 some ((-1), (h0, ()))
 else
 (ZcR x0.shares.list ((), ()) h0).bind fun r2 =>
 some (r2.1, (r2.2.2.1, ())))
def ZsR : CEp where
 f := 96
 args := [.cod 9, .one (.clo 233 [0])]
 hs := [.cobj 35 4]
 res := .val (.one (.int .i64))
 outs := [.cobj 35 4]
 m := fun d dh => ZiP d.1 dh.1
 ok := ceO Tryz.func96 (by kernel_rfl) ZsQ (by kernel_rfl) fun d dh => by kernel_rfl
def Zrm : List (CEp) := []
def ZfD (x0 : ZeT) (x1 : Int) : Option (((Zaf) × Bool × Unit) × Unit) :=
 (bif (decide ((x1 : Int) < 0)) then
 some (((⟨(⟨([] : List UInt8), ([] : List UInt8)⟩ : Zao), 0, 0⟩ : Zaf), false, ()), ())
 else
 (Zbs x0.shares.list x1).bind fun e1 =>
 some ((e1, true, ()), ()))
def ZjP : CEp where
 f := 95
 args := [.cod 9, .one (.int .i64)]
 hs := []
 res := .tup [.cod 5, .one (.bool)]
 outs := []
 m := fun d dh => ZfD d.1 d.2.1
 ok := ceO Tryz.func95 (by kernel_rfl) Zrm (by kernel_rfl) fun d dh => by kernel_rfl
def Zwj : Nat -> Nat -> DrA
 | 2, _ => ⟨[2, 0, 1, 3, 4, 5, 6, 7, 8], [[], [], [], [1, 2], [0, 1, 2, 3], (List.range 5), (List.range 5), (List.range 7), (List.range 8)], [0], [3], [3], false, []⟩
 | _, _ => ⟨[], [], [], [], [], false, []⟩
def Zwk : List (CEp) := [ZsR, ZjP]
def ZjQ (x0 : Zai) (x1 : Zao) : Option (((Zaf) × Bool × Unit) × Unit) :=
 (ZiP (⟨x0⟩ : ZeT) x1).bind fun r1 =>
 (ZfD (⟨x0⟩ : ZeT) r1.1).bind fun r2 =>
 some ((r2.1.1, r2.1.2.1, ()), ())
def Zo0 : CEp where
 f := 169
 args := [.cod 8, .cod 4]
 hs := []
 res := .tup [.cod 5, .one (.bool)]
 outs := []
 m := fun d dh => ZjQ d.1 d.2.1
 ok := ZaO Zar Tryz.func169 (by kernel_rfl) (Zad Zwk) (dr := Zwj) (lps := Zap lt0) (Zau (Zal (by kernel_rfl))) (fun d dh => by kernel_rfl)
def Zrn : List (CEp) := [Zji, Zlw, Zo0]
def Zg9 (x0 : Zai) (x1 : Int) (x2 : Zao) (x3 : Int) : Option (((Zak) × Int × Unit) × Unit) :=
 (ZaL x1 1 1073741824).bind fun r1 =>
 (bif (!r1.1) then
 some (((⟨0, (⟨([] : List UInt8), ([] : List UInt8)⟩ : Zao), 0, 0, 0, 0, 0⟩ : Zak), 2, ()), ())
 else
 (Ze4 x0 x2 x3).bind fun r2 =>
 (bif (decide ((r2.1.2.1 : Int) ≠ 0)) then
 some (((⟨0, (⟨([] : List UInt8), ([] : List UInt8)⟩ : Zao), 0, 0, 0, 0, 0⟩ : Zak), r2.1.2.1, ()), ())
 else
 (ZjQ x0 x2).bind fun r3 =>
 some (((⟨x1, x2, r3.1.1.group, x3, r3.1.1.epoch, 0, 1⟩ : Zak), 0, ()), ())))
def Zro : CEp where
 f := 93
 args := [.cod 8, .one (.int .i64), .cod 4, .one (.int .i64)]
 hs := []
 res := .tup [.cod 19, .one (.int .i64)]
 outs := []
 m := fun d dh => Zg9 d.1 d.2.1 d.2.2.1 d.2.2.2.1
 ok := ceO Tryz.func93 (by kernel_rfl) Zrn (by kernel_rfl) fun d dh => by kernel_rfl
def Zn2 : Nat -> Nat -> DrA
 | 5, _ => ⟨[0, 1, 2, 3, 5, 6, 7, 11, 4, 8, 9, 10, 12, 13, 14, 15, 16, 17, 18], [[], [0], [0, 1], [0, 1, 2], [0, 1, 2, 3], [], [5], [5, 6], [5, 6, 7], [5, 6, 7, 8], [], [], (List.range 12), (List.range 13), (List.range 14), (List.range 14), [], (List.range 15 ++ [16]), (List.range 18)], [], [], [], false, []⟩
 | 8, _ => ⟨[0, 1, 2, 4, 3, 6, 7, 8, 5, 9, 10, 11, 12, 13, 14, 15, 16], [[], [], [], [], [], [4], [0, 3], [0, 3, 6], [0, 3, 6, 7], [0, 3, 6, 7, 8], [0, 1, 3, 6, 7, 8, 9], [0, 1, 3, 6, 7, 8, 9, 10], [0, 1, 3, 6, 7, 8, 9, 10, 11], [0, 1, 3, 6, 7, 8, 9, 10, 11, 12], (List.range 14), (List.range 15), (List.range 16)], [5], [9, 13], [6], false, []⟩
 | _, _ => ⟨[], [], [], [], [], false, []⟩
def Zn3 : List (CEp) := [Za7, Zro]
def Zcb (x1 : Zao) (x2 : Int) (h0 : Unit × Int × (List (Zaf)) × Bool × Int × (List UInt8) × (List UInt8) × Int × Int × Int × Int × Int × Int × Unit) (h1 : (List (Zac)) × Unit × Unit) (h2 : List ((Int × Int) × Int)) : Option ((Int × Int × Unit) × ((Unit × Int × (List (Zaf)) × Bool × Int × (List UInt8) × (List UInt8) × Int × Int × Int × Int × Int × Int × Unit) × ((List (Zac)) × Unit × Unit) × (List ((Int × Int) × Int)) × Unit × Unit × Unit)) :=
 (Zbd h0 h1 h2).bind fun r1 =>
 (bif (!r1.1) then
 some ((0, 1, ()), (r1.2.1, r1.2.2.1, r1.2.2.2.1, (), (), ()))
 else
 (bif r1.2.1.2.2.2.1 then
 some ((0, 26, ()), (r1.2.1, r1.2.2.1, r1.2.2.2.1, (), (), ()))
 else
 (Zg9 (⟨r1.2.1.2.1, r1.2.1.2.2.1⟩ : Zai) (IntKind.i64.wrap (r1.2.1.2.2.2.2.2.2.2.2.2.2.2.2.1 + 1)) x1 x2).bind fun r2 =>
 (bif (decide ((r2.1.2.1 : Int) ≠ 0)) then
 some ((0, r2.1.2.1, ()), (r1.2.1, r1.2.2.1, r1.2.2.2.1, (), (), ()))
 else
 some ((r2.1.1.num, 0, ()), (((), r1.2.1.2.1, r1.2.1.2.2.1, true, r2.1.1.num, r2.1.1.span.lo, r2.1.1.span.hi, r2.1.1.from_, r2.1.1.to_, r2.1.1.epoch, r2.1.1.under, r2.1.1.stage, r2.1.1.num, ()), r1.2.2.1, r1.2.2.2.1, (), (), ())))))
def Zn4 : CEp where
 f := 45
 args := [.one (.ptr 0 0), .cod 4, .one (.int .i64)]
 hs := [.obj 110 [.ptr 1 0, .int .i64, .sl 5, .bool, .int .i64, .str, .str, .int .i64, .int .i64, .int .i64, .int .i64, .int .u8, .int .i64], .obj 197 [.own 17 3, .mo 2], .mmap (.two .i64 .i64) (.int .i64), .row 41 5]
 res := .tup [.one (.int .i64), .one (.int .i64)]
 outs := [.obj 110 [.ptr 1 0, .int .i64, .sl 5, .bool, .int .i64, .str, .str, .int .i64, .int .i64, .int .i64, .int .i64, .int .u8, .int .i64], .obj 197 [.own 17 4, .mo 2], .mmap (.two .i64 .i64) (.int .i64), .dead, .row 41 5]
 m := fun d dh => Zcb d.2.1 d.2.2.1 dh.1 dh.2.1 dh.2.2.1
 ok := ZaO Zar Tryz.func45 (by kernel_rfl) (Zad Zn3) (dr := Zn2) (lps := Zap lt0) (Zau (Zal (by kernel_rfl))) (fun d dh => by kernel_rfl)
def ZjR : List (CEp) := []
def Zeq (a : (LB × Int × Int × Int × Unit) × Unit) : Option (((LB × Int × Int × Int × Unit) × Unit) ⊕ (((Int × Unit) × Unit) ⊕ (Unit × Unit))) :=
 (bif (decide ((a.1.2.2.2.1 : Int) < a.1.2.2.1)) then
 (Zbs a.1.1 a.1.2.2.2.1).bind fun e1 =>
 (bif (decide ((a.1.2.1 : Int) = (e1.toNat : Int))) then
 some (.inr (.inl ((a.1.2.2.2.1, ()), ())))
 else
 some (.inl ((a.1.1, a.1.2.1, a.1.2.2.1, (IntKind.i64.wrap (a.1.2.2.2.1 + 1)), ()), ())))
 else
 some (.inr (.inr ((), ()))))
def Zer : LEp := ⟨2, [0, 1, 7, 8], [.one (.sl 1), .one (.int .u8), .one (.int .i64), .one (.int .i64)], [], [⟨.ret, [4], [.one (.int .i64)], []⟩, ⟨.exit 0, [], [], []⟩], Zeq⟩
def ZjS : List (LEp) := [Zer]
theorem ZmN : ZdE Zer (ZcN (ZaD Tryz.f256) 0) := fun A env h k z hk => Za3 (E := Zer) (Zad ZjR) (dr := dr0) (lps := Zap ZjS) (Zal (by kernel_rfl)) (fun a => by kernel_rfl) env h k z hk
def ZjT (x0 : LB) (x1 : Int) : Option (Int × Unit) :=
 (Zas Zeq ((x0, x1, (x0.length : Int), 0, ()), ())).bind fun b1 =>
 (match b1 with
 | .inl b2 =>
 some (b2.1.1, ())
 | .inr b3 =>
 some ((-1), ()))
def Zrp : CEp where
 f := 256
 args := [.one (.sl 1), .one (.int .u8)]
 hs := []
 res := .val (.one (.int .i64))
 outs := []
 m := fun d dh => ZjT d.1 d.2.1
 ok := ZaO Zar Tryz.func256 (by kernel_rfl) (Zad ZjR) (dr := dr0) (lps := Zap ZjS) (Zau (ZaI (n := 1) (by kernel_rfl) fun i hi => match i, hi with | 0, _ => Za4 (E := Zer) (by kernel_rfl) ZmN)) (fun d dh => by kernel_rfl)
def ZmO : List (CEp) := [Zrp]
def Zc1 (x0 : LB) (x1 : Int) : Option (Bool × Unit) :=
 (ZjT x0 x1).bind fun r1 =>
 some ((decide ((0 : Int) <= r1.1)), ())
def Zha : CEp where
 f := 234
 args := [.one (.sl 1), .one (.int .u8)]
 hs := []
 res := .val (.one (.bool))
 outs := []
 m := fun d dh => Zc1 d.1 d.2.1
 ok := ceO Tryz.func234 (by kernel_rfl) ZmO (by kernel_rfl) fun d dh => by kernel_rfl
def Zpy : List (CEp) := [Zha]
def Zgd (x0 : Zlu) : Option (Bool × Unit) :=
 (b8 4).bind fun u1 =>
 (b8 5).bind fun u2 =>
 (b8 6).bind fun u3 =>
 (Zc1 ([u1, u2, u3] : LB) x0.scheme.stage).bind fun r4 =>
 some (r4.1, ())
def Zpz : CEp where
 f := 228
 args := [.cod 21]
 hs := []
 res := .val (.one (.bool))
 outs := []
 m := fun d dh => Zgd d.1
 ok := ceO Tryz.func228 (by kernel_rfl) Zpy (by kernel_rfl) fun d dh => by kernel_rfl
def Zrq : Nat -> Nat -> DrA
 | 1, _ => ⟨[1, 2, 3, 0, 4, 5, 6, 7, 8, 9], [[], [], [1], [1, 2], [0, 1, 2, 3], (List.range 5), (List.range 6), (List.range 6), (List.range 7), (List.range 9)], [3], [0], [0], false, []⟩
 | _, _ => ⟨[], [], [], [], [], false, []⟩
def Zrr : List (CEp) := [Zq2, Zpz, Zji, Zdl]
def ZfE (x0 : Zlu) : Option (Bool × Unit) :=
 (Zmz).bind fun r1 =>
 (Zgd x0).bind fun r2 =>
 (bif r2.1 then
 (ZaL x0.scheme.under (IntKind.i64.wrap (x0.scheme.epoch + 1)) 1073741824).bind fun r3 =>
 (ZaL x0.scheme.from_ 1 4).bind fun r4 =>
 (bif r4.1 then
 (ZaL x0.scheme.to_ 1 4).bind fun r5 =>
 (bif r5.1 then
 (ZaL x0.scheme.num 1 1073741824).bind fun r6 =>
 (bif r6.1 then
 (Zbn x0.scheme.span).bind fun r7 =>
 (bif r7.1 then
 (bif (decide ((x0.scheme.from_ : Int) ≠ x0.scheme.to_)) then
 (ZaL x0.scheme.epoch 1 1073741824).bind fun r8 =>
 (bif r8.1 then
 (bif (lkp r1.1 x0.scheme.stage).isSome then
 some (r3.1, ())
 else
 some (false, ()))
 else
 some (false, ()))
 else
 some (false, ()))
 else
 some (false, ()))
 else
 some (false, ()))
 else
 (ZaL x0.scheme.num 1 1073741824).bind fun r9 =>
 (bif r9.1 then
 (Zbn x0.scheme.span).bind fun r10 =>
 (bif r10.1 then
 some (false, ())
 else
 some (false, ()))
 else
 some (false, ())))
 else
 (ZaL x0.scheme.num 1 1073741824).bind fun r11 =>
 (bif r11.1 then
 (Zbn x0.scheme.span).bind fun r12 =>
 (bif r12.1 then
 some (false, ())
 else
 some (false, ()))
 else
 some (false, ())))
 else
 (ZaL x0.scheme.from_ 1 4).bind fun r13 =>
 (bif r13.1 then
 (ZaL x0.scheme.to_ 1 4).bind fun r14 =>
 (bif r14.1 then
 (ZaL x0.scheme.num 1 1073741824).bind fun r15 =>
 (bif r15.1 then
 (Zbn x0.scheme.span).bind fun r16 =>
 (bif r16.1 then
 (bif (decide ((x0.scheme.from_ : Int) ≠ x0.scheme.to_)) then
 (ZaL x0.scheme.epoch 1 1073741824).bind fun r17 =>
 (bif r17.1 then
 (bif (lkp r1.1 x0.scheme.stage).isSome then
 some ((decide ((x0.scheme.under : Int) = 0)), ())
 else
 some (false, ()))
 else
 some (false, ()))
 else
 some (false, ()))
 else
 some (false, ()))
 else
 some (false, ()))
 else
 (ZaL x0.scheme.num 1 1073741824).bind fun r18 =>
 (bif r18.1 then
 (Zbn x0.scheme.span).bind fun r19 =>
 (bif r19.1 then
 some (false, ())
 else
 some (false, ()))
 else
 some (false, ())))
 else
 (ZaL x0.scheme.num 1 1073741824).bind fun r20 =>
 (bif r20.1 then
 (Zbn x0.scheme.span).bind fun r21 =>
 (bif r21.1 then
 some (false, ())
 else
 some (false, ()))
 else
 some (false, ()))))
def ZjU : CEp where
 f := 166
 args := [.cod 21]
 hs := []
 res := .val (.one (.bool))
 outs := []
 m := fun d dh => ZfE d.1
 ok := ZaO Zar Tryz.func166 (by kernel_rfl) (Zad Zrr) (dr := Zrq) (lps := Zap lt0) (Zau (Zal (by kernel_rfl))) (fun d dh => by kernel_rfl)
def Zuu : List (CEp) := [Zrb]
def Zh1 (x0 : Zai) : Option ((Zai) × Unit) :=
 (ZiN x0.list).bind fun r1 =>
 some ((⟨x0.epoch, r1.1⟩ : Zai), ())
def Zuv : CEp where
 f := 170
 args := [.cod 8]
 hs := []
 res := .val (.cod 8)
 outs := []
 m := fun d dh => Zh1 d.1
 ok := ceO Tryz.func170 (by kernel_rfl) Zuu (by kernel_rfl) fun d dh => by kernel_rfl
def ZsS : List (CEp) := [Zq2, Zha]
def ZiQ (x0 : Int) (x1 : Int) : Option (Bool × Unit) :=
 (Zmz).bind fun r1 =>
 (Zc1 ((lkp r1.1 x0).getD []) x1).bind fun r2 =>
 some (r2.1, ())
def ZsT : CEp where
 f := 171
 args := [.one (.int .u8), .one (.int .u8)]
 hs := []
 res := .val (.one (.bool))
 outs := []
 m := fun d dh => ZiQ d.1 d.2.1
 ok := ceO Tryz.func171 (by kernel_rfl) ZsS (by kernel_rfl) fun d dh => by kernel_rfl
def ZsU : Nat -> Nat -> DrA
 | 1, _ => ⟨[1, 2, 3, 4, 6, 7, 8, 9, 0, 5, 10, 11, 12, 13, 14, 15, 16, 17], [[], [], [1], [1, 2], [1, 2, 3], [1, 2, 3, 4], [], [6], [6, 7], [6, 7, 8], [6, 7, 8, 9], (List.range 11), (List.range 12), (List.range 13), (List.range 13), [], (List.range 14 ++ [15]), (List.range 17)], [], [], [], false, []⟩
 | 4, _ => ⟨[1, 2, 3, 4, 0, 5, 6, 7, 8, 9, 10, 11, 12], [[], [], [1], [1, 2], [1, 2, 3], [1, 2, 3, 4], (List.range 6), (List.range 7), (List.range 8), (List.range 8), [], (List.range 9 ++ [10]), (List.range 12)], [], [], [], false, []⟩
 | 5, _ => ⟨[0, 2, 3, 4, 5, 1, 6, 7, 8, 9, 11, 12, 13, 14, 10, 15, 16, 17], [[], [0], [], [2], [2, 3], [2, 3, 4], [2, 3, 4, 5], (List.range 7), (List.range 8), (List.range 9), (List.range 10), (List.range 9), (List.range 9 ++ [11]), (List.range 9 ++ [11, 12]), (List.range 9 ++ [11, 12, 13]), (List.range 9 ++ [11, 12, 13, 14]), (List.range 16), (List.range 17)], [], [], [], false, []⟩
 | _, _ => ⟨[], [], [], [], [], false, []⟩
def ZsV : List (CEp) := [Zlw, Zo0]
def ZiR (x1 : Zai) (h0 : Zlu) : Option (((Zai) × Int × Unit) × ((Zlu) × Unit)) :=
 (Ze4 x1 h0.scheme.span h0.scheme.to_).bind fun r1 =>
 (bif (decide ((r1.1.2.1 : Int) ≠ 0)) then
 some ((r1.1.1, r1.1.2.1, ()), (h0, ()))
 else
 (ZjQ x1 h0.scheme.span).bind fun r2 =>
 (bif (decide ((r2.1.1.group : Int) ≠ h0.scheme.from_)) then
 some (((⟨0, []⟩ : Zai), 26, ()), (h0, ()))
 else
 (bif (decide ((r2.1.1.epoch : Int) ≠ h0.scheme.epoch)) then
 some (((⟨0, []⟩ : Zai), 26, ()), (h0, ()))
 else
 some ((r1.1.1, 0, ()), ((⟨(⟨h0.scheme.num, h0.scheme.span, h0.scheme.from_, h0.scheme.to_, h0.scheme.epoch, r1.1.1.epoch, h0.scheme.stage⟩ : Zak)⟩ : Zlu), ())))))
def ZsW : CEp where
 f := 172
 args := [.one (.ptr 0 0), .cod 8]
 hs := [.cobj 252 21]
 res := .tup [.cod 8, .one (.int .i64)]
 outs := [.cobj 252 21]
 m := fun d dh => ZiR d.2.1 dh.1
 ok := ZaO Zar Tryz.func172 (by kernel_rfl) (Zad ZsV) (dr := ZsU) (lps := Zap lt0) (Zau (Zal (by kernel_rfl))) (fun d dh => by kernel_rfl)
def ZsX : Nat -> Nat -> DrA
 | 6, _ => ⟨(List.range 6), [[], [], [1], [0, 1, 2], [0, 1, 2, 3], (List.range 5)], [0], [2], [0], false, []⟩
 | 16, _ => ⟨(List.range 8), [[], [0], [0, 1], [0, 1, 2], [], [0, 1, 2, 3], (List.range 6), (List.range 7)], [4], [5], [5], false, []⟩
 | _, _ => ⟨[], [], [], [], [], false, []⟩
def ZsY : List (CEp) := [ZjU, ZgI, Zuv, ZsT, ZsW]
def ZcF (x0 : Zak) (x1 : Zai) (x2 : Int) : Option (((Zak) × (Zai) × Int × Unit) × Unit) :=
 (ZfE (⟨x0⟩ : Zlu)).bind fun r1 =>
 (bif (!r1.1) then
 some (((⟨0, (⟨([] : List UInt8), ([] : List UInt8)⟩ : Zao), 0, 0, 0, 0, 0⟩ : Zak), (⟨0, []⟩ : Zai), 2, ()), ())
 else
 (Zea x1).bind fun r2 =>
 (bif (!r2.1) then
 some (((⟨0, (⟨([] : List UInt8), ([] : List UInt8)⟩ : Zao), 0, 0, 0, 0, 0⟩ : Zak), (⟨0, []⟩ : Zai), 2, ()), ())
 else
 (bif (decide ((x0.stage : Int) = x2)) then
 (Zh1 x1).bind fun r3 =>
 some ((x0, r3.1, 0, ()), ())
 else
 (ZiQ x0.stage x2).bind fun r4 =>
 (bif (!r4.1) then
 some (((⟨0, (⟨([] : List UInt8), ([] : List UInt8)⟩ : Zao), 0, 0, 0, 0, 0⟩ : Zak), (⟨0, []⟩ : Zai), 26, ()), ())
 else
 (Zh1 x1).bind fun r5 =>
 (bif (decide ((x2 : Int) = 4)) then
 (ZiR x1 (⟨x0⟩ : Zlu)).bind fun r6 =>
 (bif (decide ((r6.1.2.1 : Int) ≠ 0)) then
 some (((⟨0, (⟨([] : List UInt8), ([] : List UInt8)⟩ : Zao), 0, 0, 0, 0, 0⟩ : Zak), (⟨0, []⟩ : Zai), r6.1.2.1, ()), ())
 else
 some (((⟨r6.2.1.scheme.num, r6.2.1.scheme.span, r6.2.1.scheme.from_, r6.2.1.scheme.to_, r6.2.1.scheme.epoch, r6.2.1.scheme.under, x2⟩ : Zak), r6.1.1, 0, ()), ()))
 else
 some (((⟨x0.num, x0.span, x0.from_, x0.to_, x0.epoch, x0.under, x2⟩ : Zak), r5.1, 0, ()), ()))))))
def ZsZ : CEp where
 f := 94
 args := [.cod 19, .cod 8, .one (.int .u8)]
 hs := []
 res := .tup [.cod 19, .cod 8, .one (.int .i64)]
 outs := []
 m := fun d dh => ZcF d.1 d.2.1 d.2.2.1
 ok := ZaO Zar Tryz.func94 (by kernel_rfl) (Zad ZsY) (dr := ZsX) (lps := Zap lt0) (Zau (Zal (by kernel_rfl))) (fun d dh => by kernel_rfl)
def Zs0 : List (CEp) := []
def ZgL (x0 : Zak) : Option (Bool × Unit) :=
 (bif (decide ((x0.stage : Int) = 6)) then
 some (true, ())
 else
 some ((decide ((x0.stage : Int) = 9)), ()))
def Zlx : CEp where
 f := 92
 args := [.cod 19]
 hs := []
 res := .val (.one (.bool))
 outs := []
 m := fun d dh => ZgL d.1
 ok := ceO Tryz.func92 (by kernel_rfl) Zs0 (by kernel_rfl) fun d dh => by kernel_rfl
def ZpA : Nat -> Nat -> DrA
 | 9, _ => ⟨[0, 1, 2, 3, 5, 6, 7, 8, 10, 4, 9, 11, 12, 13, 14, 15, 16, 17, 18, 19, 20], [[], [0], [0, 1], [0, 1, 2], [0, 1, 2, 3], [], [5], [5, 6], [5, 6, 7], [5, 6, 7, 8], [], (List.range 11), (List.range 12), (List.range 13), (List.range 13), (List.range 13), [], [], (List.range 14 ++ [16, 17]), (List.range 15 ++ [16, 17, 18]), (List.range 20)], [], [], [], false, []⟩
 | 12, _ => ⟨[0, 1, 2, 4, 5, 6, 3, 7, 8, 9, 10, 11], [[], [], [], [], [0, 2], [0, 2, 4], [0, 2, 4, 5], [0, 2, 4, 5, 6], (List.range 8), (List.range 9), (List.range 10), (List.range 11)], [3], [7], [6], false, []⟩
 | _, _ => ⟨[], [], [], [], [], false, []⟩
def ZpB : List (CEp) := [Za7, ZsZ, Zlx]
def ZbH (x1 : Int) (x2 : Int) (h0 : Unit × Int × (List (Zaf)) × Bool × Int × (List UInt8) × (List UInt8) × Int × Int × Int × Int × Int × Int × Unit) (h1 : (List (Zac)) × Unit × Unit) (h2 : List ((Int × Int) × Int)) : Option ((Int × Int × Unit) × ((Unit × Int × (List (Zaf)) × Bool × Int × (List UInt8) × (List UInt8) × Int × Int × Int × Int × Int × Int × Unit) × ((List (Zac)) × Unit × Unit) × (List ((Int × Int) × Int)) × Unit × Unit × Unit)) :=
 (Zbd h0 h1 h2).bind fun r1 =>
 (bif (!r1.1) then
 some ((0, 1, ()), (r1.2.1, r1.2.2.1, r1.2.2.2.1, (), (), ()))
 else
 (bif (decide ((x1 : Int) < 1)) then
 some ((0, 2, ()), (r1.2.1, r1.2.2.1, r1.2.2.2.1, (), (), ()))
 else
 (bif (decide ((1073741824 : Int) < x1)) then
 some ((0, 2, ()), (r1.2.1, r1.2.2.1, r1.2.2.2.1, (), (), ()))
 else
 (bif (decide ((x2 : Int) < 1)) then
 some ((0, 2, ()), (r1.2.1, r1.2.2.1, r1.2.2.2.1, (), (), ()))
 else
 (bif (decide ((9 : Int) < x2)) then
 some ((0, 2, ()), (r1.2.1, r1.2.2.1, r1.2.2.2.1, (), (), ()))
 else
 (bif (decide ((r1.2.1.2.2.2.2.2.2.2.2.2.2.2.2.1 : Int) < x1)) then
 some ((0, 26, ()), (r1.2.1, r1.2.2.1, r1.2.2.2.1, (), (), ()))
 else
 (bif (!r1.2.1.2.2.2.1) then
 some ((0, 0, ()), (r1.2.1, r1.2.2.1, r1.2.2.2.1, (), (), ()))
 else
 (bif (decide ((r1.2.1.2.2.2.2.1 : Int) ≠ x1)) then
 some ((0, 0, ()), (r1.2.1, r1.2.2.1, r1.2.2.2.1, (), (), ()))
 else
 (ZcF (⟨r1.2.1.2.2.2.2.1, (⟨r1.2.1.2.2.2.2.2.1, r1.2.1.2.2.2.2.2.2.1⟩ : Zao), r1.2.1.2.2.2.2.2.2.2.1, r1.2.1.2.2.2.2.2.2.2.2.1, r1.2.1.2.2.2.2.2.2.2.2.2.1, r1.2.1.2.2.2.2.2.2.2.2.2.2.1, r1.2.1.2.2.2.2.2.2.2.2.2.2.2.1⟩ : Zak) (⟨r1.2.1.2.1, r1.2.1.2.2.1⟩ : Zai) x2).bind fun r2 =>
 (bif (decide ((r2.1.2.2.1 : Int) ≠ 0)) then
 some ((0, r2.1.2.2.1, ()), (r1.2.1, r1.2.2.1, r1.2.2.2.1, (), (), ()))
 else
 (ZgL r2.1.1).bind fun r3 =>
 (bif r3.1 then
 some ((x2, 0, ()), (((), r2.1.2.1.epoch, r2.1.2.1.list, false, 0, ([] : List UInt8), ([] : List UInt8), 0, 0, 0, 0, 0, r1.2.1.2.2.2.2.2.2.2.2.2.2.2.2.1, ()), r1.2.2.1, r1.2.2.2.1, (), (), ()))
 else
 some ((x2, 0, ()), (((), r2.1.2.1.epoch, r2.1.2.1.list, r1.2.1.2.2.2.1, r2.1.1.num, r2.1.1.span.lo, r2.1.1.span.hi, r2.1.1.from_, r2.1.1.to_, r2.1.1.epoch, r2.1.1.under, r2.1.1.stage, r1.2.1.2.2.2.2.2.2.2.2.2.2.2.2.1, ()), r1.2.2.1, r1.2.2.2.1, (), (), ()))))))))))))
def ZpC : CEp where
 f := 46
 args := [.one (.ptr 0 0), .one (.int .i64), .one (.int .u8)]
 hs := [.obj 110 [.ptr 1 0, .int .i64, .sl 5, .bool, .int .i64, .str, .str, .int .i64, .int .i64, .int .i64, .int .i64, .int .u8, .int .i64], .obj 197 [.own 17 3, .mo 2], .mmap (.two .i64 .i64) (.int .i64), .row 41 5]
 res := .tup [.one (.int .u8), .one (.int .i64)]
 outs := [.obj 110 [.ptr 1 0, .int .i64, .sl 5, .bool, .int .i64, .str, .str, .int .i64, .int .i64, .int .i64, .int .i64, .int .u8, .int .i64], .obj 197 [.own 17 4, .mo 2], .mmap (.two .i64 .i64) (.int .i64), .dead, .row 41 5]
 m := fun d dh => ZbH d.2.1 d.2.2.1 dh.1 dh.2.1 dh.2.2.1
 ok := ZaO Zar Tryz.func46 (by kernel_rfl) (Zad ZpB) (dr := ZpA) (lps := Zap lt0) (Zau (Zal (by kernel_rfl))) (fun d dh => by kernel_rfl)
def ZmP : Nat -> Nat -> DrA
 | 3, _ => ⟨[0, 1, 2, 3, 5, 6, 7, 8, 4, 9, 10, 11], [[], [0], [0, 1], [0, 1, 2], [0, 1, 2, 3], [], [5], [5, 6], [5, 6, 7], [5, 6, 7, 8], (List.range 5), (List.range 11)], [9], [10], [0], false, []⟩
 | _, _ => ⟨[], [], [], [], [], false, []⟩
def ZmQ : List (CEp) := [Za7]
def Zcp (h0 : Unit × Int × (List (Zaf)) × Bool × Int × (List UInt8) × (List UInt8) × Int × Int × Int × Int × Int × Int × Unit) (h1 : (List (Zac)) × Unit × Unit) (h2 : List ((Int × Int) × Int)) : Option (((Zak) × Bool × Unit) × ((Unit × Int × (List (Zaf)) × Bool × Int × (List UInt8) × (List UInt8) × Int × Int × Int × Int × Int × Int × Unit) × ((List (Zac)) × Unit × Unit) × (List ((Int × Int) × Int)) × Unit × Unit × Unit)) :=
 (Zbd h0 h1 h2).bind fun r1 =>
 (bif (!r1.1) then
 some (((⟨0, (⟨([] : List UInt8), ([] : List UInt8)⟩ : Zao), 0, 0, 0, 0, 0⟩ : Zak), false, ()), (r1.2.1, r1.2.2.1, r1.2.2.2.1, (), (), ()))
 else
 some (((⟨r1.2.1.2.2.2.2.1, (⟨r1.2.1.2.2.2.2.2.1, r1.2.1.2.2.2.2.2.2.1⟩ : Zao), r1.2.1.2.2.2.2.2.2.2.1, r1.2.1.2.2.2.2.2.2.2.2.1, r1.2.1.2.2.2.2.2.2.2.2.2.1, r1.2.1.2.2.2.2.2.2.2.2.2.2.1, r1.2.1.2.2.2.2.2.2.2.2.2.2.2.1⟩ : Zak), r1.2.1.2.2.2.1, ()), (r1.2.1, r1.2.2.1, r1.2.2.2.1, (), (), ())))
def Zhb : CEp where
 f := 42
 args := [.one (.ptr 0 0)]
 hs := [.obj 110 [.ptr 1 0, .int .i64, .sl 5, .bool, .int .i64, .str, .str, .int .i64, .int .i64, .int .i64, .int .i64, .int .u8, .int .i64], .obj 197 [.own 17 3, .mo 2], .mmap (.two .i64 .i64) (.int .i64), .row 41 5]
 res := .tup [.cod 19, .one (.bool)]
 outs := [.obj 110 [.ptr 1 0, .int .i64, .sl 5, .bool, .int .i64, .str, .str, .int .i64, .int .i64, .int .i64, .int .i64, .int .u8, .int .i64], .obj 197 [.own 17 4, .mo 2], .mmap (.two .i64 .i64) (.int .i64), .dead, .row 41 5]
 m := fun d dh => Zcp dh.1 dh.2.1 dh.2.2.1
 ok := ZaO Zar Tryz.func42 (by kernel_rfl) (Zad ZmQ) (dr := ZmP) (lps := Zap lt0) (Zau (Zal (by kernel_rfl))) (fun d dh => by kernel_rfl)
def ZmR : List (CEp) := [Za7, Zg6]
def Zcq (h0 : Unit × Int × (List (Zaf)) × Bool × Int × (List UInt8) × (List UInt8) × Int × Int × Int × Int × Int × Int × Unit) (h1 : (List (Zac)) × Unit × Unit) (h2 : List ((Int × Int) × Int)) : Option ((Zai) × ((Unit × Int × (List (Zaf)) × Bool × Int × (List UInt8) × (List UInt8) × Int × Int × Int × Int × Int × Int × Unit) × ((List (Zac)) × Unit × Unit) × (List ((Int × Int) × Int)) × Unit × Unit × Unit)) :=
 (Zbd h0 h1 h2).bind fun r1 =>
 (bif (!r1.1) then
 some ((⟨0, []⟩ : Zai), (r1.2.1, r1.2.2.1, r1.2.2.2.1, (), (), ()))
 else
 (Zcn (⟨(⟨r1.2.1.2.1, r1.2.1.2.2.1⟩ : Zai), r1.2.1.2.2.2.1, (⟨r1.2.1.2.2.2.2.1, (⟨r1.2.1.2.2.2.2.2.1, r1.2.1.2.2.2.2.2.2.1⟩ : Zao), r1.2.1.2.2.2.2.2.2.2.1, r1.2.1.2.2.2.2.2.2.2.2.1, r1.2.1.2.2.2.2.2.2.2.2.2.1, r1.2.1.2.2.2.2.2.2.2.2.2.2.1, r1.2.1.2.2.2.2.2.2.2.2.2.2.2.1⟩ : Zak)⟩ : ZjH)).bind fun r2 =>
 some (r2.1.shares, (r1.2.1, r1.2.2.1, r1.2.2.2.1, (), (), ())))
def Zhc : CEp where
 f := 28
 args := [.one (.ptr 0 0)]
 hs := [.obj 110 [.ptr 1 0, .int .i64, .sl 5, .bool, .int .i64, .str, .str, .int .i64, .int .i64, .int .i64, .int .i64, .int .u8, .int .i64], .obj 197 [.own 17 3, .mo 2], .mmap (.two .i64 .i64) (.int .i64), .row 41 5]
 res := .val (.cod 8)
 outs := [.obj 110 [.ptr 1 0, .int .i64, .sl 5, .bool, .int .i64, .str, .str, .int .i64, .int .i64, .int .i64, .int .i64, .int .u8, .int .i64], .obj 197 [.own 17 4, .mo 2], .mmap (.two .i64 .i64) (.int .i64), .dead, .row 41 5]
 m := fun d dh => Zcq dh.1 dh.2.1 dh.2.2.1
 ok := ceO Tryz.func28 (by kernel_rfl) ZmR (by kernel_rfl) fun d dh => by kernel_rfl
def Zuw : List (CEp) := [Zrh]
def Zn5 (x0 : Zao) (h0 : List UInt8) : Option (Bool × ((List UInt8) × Unit)) :=
 (ZmM x0 h0).bind fun r1 =>
 some (r1.1, (h0, ()))
def Zux : CEp where
 f := 97
 args := [.cod 4, .one (.ptr 0 0)]
 hs := [.cobj 9 2]
 res := .val (.one (.bool))
 outs := [.cobj 9 2]
 m := fun d dh => Zn5 d.1 dh.1
 ok := ceO Tryz.func97 (by kernel_rfl) Zuw (by kernel_rfl) fun d dh => by kernel_rfl
def Zrs : List (CEp) := [Zux]
def Zhd (x0 : Zaf) (h0 : Unit × Unit) (h1 : List UInt8) : Option (Bool × ((Unit × Unit) × (List UInt8) × Unit)) :=
 (Zn5 x0.span h1).bind fun r1 =>
 some (r1.1, (((), ()), r1.2.1, ()))
def Zrt : CEp where
 f := 174
 args := [.cod 5, .one (.ptr 0 0)]
 hs := [.obj 192 [.clo 97 [1]], .cobj 9 2]
 res := .val (.one (.bool))
 outs := [.obj 192 [.clo 97 [1]], .cobj 9 2]
 m := fun d dh => Zhd d.1 dh.1 dh.2.1
 ok := ceO Tryz.func174 (by kernel_rfl) Zrs (by kernel_rfl) fun d dh => by kernel_rfl
def ZfF : List (CEp) := [Zrt]
def Zba (a : ((List (Zaf)) × Unit × Int × Int × Unit) × ((Unit × Unit) × (List UInt8) × Unit)) : Option ((((List (Zaf)) × Unit × Int × Int × Unit) × ((Unit × Unit) × (List UInt8) × Unit)) ⊕ (((Int × Unit) × ((Unit × Unit) × (List UInt8) × Unit)) ⊕ (Unit × ((Unit × Unit) × (List UInt8) × Unit)))) :=
 (bif (decide ((a.1.2.2.2.1 : Int) < a.1.2.2.1)) then
 (Zbs a.1.1 a.1.2.2.2.1).bind fun e1 =>
 (Zhd e1 ((), ()) a.2.2.1).bind fun r2 =>
 (bif r2.1 then
 some (.inr (.inl ((a.1.2.2.2.1, ()), (((), ()), r2.2.2.1, ()))))
 else
 some (.inl ((a.1.1, (), a.1.2.2.1, (IntKind.i64.wrap (a.1.2.2.2.1 + 1)), ()), (((), ()), r2.2.2.1, ()))))
 else
 some (.inr (.inr ((), (((), ()), a.2.2.1, ())))))
def ZbX : LEp := ⟨2, [0, 1, 7, 8], [.one (.sl 5), .one (.clo 174 [0]), .one (.int .i64), .one (.int .i64)], [.obj 192 [.clo 97 [1]], .cobj 9 2], [⟨.ret, [4], [.one (.int .i64)], [.obj 192 [.clo 97 [1]], .cobj 9 2]⟩, ⟨.exit 0, [], [], [.obj 192 [.clo 97 [1]], .cobj 9 2]⟩], Zba⟩
def ZfG : List (LEp) := [ZbX]
theorem Zh2 : ZdE ZbX (ZcN (ZaD Tryz.f173) 0) := fun A env h k z hk => Za3 (E := ZbX) (Zad ZfF) (dr := dr0) (lps := Zap ZfG) (Zal (by kernel_rfl)) (fun a => by kernel_rfl) env h k z hk
def ZcS (x0 : List (Zaf)) (h0 : Unit × Unit) (h1 : List UInt8) : Option (Int × ((Unit × Unit) × (List UInt8) × Unit)) :=
 (Zas Zba ((x0, (), (x0.length : Int), 0, ()), (((), ()), h1, ()))).bind fun b1 =>
 (match b1 with
 | .inl b2 =>
 some (b2.1.1, (((), ()), b2.2.2.1, ()))
 | .inr b3 =>
 some ((-1), (((), ()), b3.2.2.1, ())))
def ZjV : CEp where
 f := 173
 args := [.one (.sl 5), .one (.clo 174 [0])]
 hs := [.obj 192 [.clo 97 [1]], .cobj 9 2]
 res := .val (.one (.int .i64))
 outs := [.obj 192 [.clo 97 [1]], .cobj 9 2]
 m := fun d dh => ZcS d.1 dh.1 dh.2.1
 ok := ZaO Zar Tryz.func173 (by kernel_rfl) (Zad ZfF) (dr := dr0) (lps := Zap ZfG) (Zau (ZaI (n := 1) (by kernel_rfl) fun i hi => match i, hi with | 0, _ => Za4 (E := ZbX) (by kernel_rfl) Zh2)) (fun d dh => by kernel_rfl)
def Zs1 : List (CEp) := [Zc0, ZjV]
def ZiS (x0 : ZeT) (h0 : List UInt8) : Option (Int × ((List UInt8) × Unit)) :=
 (ZcA x0).bind fun r1 =>
 (bif (!r1.1) then
 some ((-1), (h0, ()))
 else
 (ZcS x0.shares.list ((), ()) h0).bind fun r2 =>
 some (r2.1, (r2.2.2.1, ())))
def Zs2 : CEp where
 f := 96
 args := [.cod 9, .one (.clo 97 [0])]
 hs := [.cobj 9 2]
 res := .val (.one (.int .i64))
 outs := [.cobj 9 2]
 m := fun d dh => ZiS d.1 dh.1
 ok := ceO Tryz.func96 (by kernel_rfl) Zs1 (by kernel_rfl) fun d dh => by kernel_rfl
def Zwl : Nat -> Nat -> DrA
 | 2, _ => ⟨[2, 0, 1, 3, 4, 5, 6, 7, 8], [[], [], [], [1, 2], [0, 1, 2, 3], (List.range 5), (List.range 5), (List.range 7), (List.range 8)], [0], [3], [3], false, []⟩
 | _, _ => ⟨[], [], [], [], [], false, []⟩
def Zwm : List (CEp) := [Zs2, ZjP]
def ZjW (x0 : Zai) (x1 : List UInt8) : Option (((Zaf) × Bool × Unit) × Unit) :=
 (ZiS (⟨x0⟩ : ZeT) x1).bind fun r1 =>
 (ZfD (⟨x0⟩ : ZeT) r1.1).bind fun r2 =>
 some ((r2.1.1, r2.1.2.1, ()), ())
def Zwn : CEp where
 f := 47
 args := [.cod 8, .one (.str)]
 hs := []
 res := .tup [.cod 5, .one (.bool)]
 outs := []
 m := fun d dh => ZjW d.1 d.2.1
 ok := ZaO Zar Tryz.func47 (by kernel_rfl) (Zad Zwm) (dr := Zwl) (lps := Zap lt0) (Zau (Zal (by kernel_rfl))) (fun d dh => by kernel_rfl)
def Zru : List (CEp) := [Zq4, Zre, Zn4, ZpC, Zhb, Zhc, Zwn]
def ZcG (a : (Unit × Int × Int × Int × Int × Unit) × ((Unit × Int × (List (Zaf)) × Bool × Int × (List UInt8) × (List UInt8) × Int × Int × Int × Int × Int × Int × Unit) × ((List (Zac)) × Unit × Unit) × (List ((Int × Int) × Int)) × Unit × Unit)) : Option (((Unit × Int × Int × Int × Int × Unit) × ((Unit × Int × (List (Zaf)) × Bool × Int × (List UInt8) × (List UInt8) × Int × Int × Int × Int × Int × Int × Unit) × ((List (Zac)) × Unit × Unit) × (List ((Int × Int) × Int)) × Unit × Unit)) ⊕ (((Bool × Unit) × ((Unit × Int × (List (Zaf)) × Bool × Int × (List UInt8) × (List UInt8) × Int × Int × Int × Int × Int × Int × Unit) × ((List (Zac)) × Unit × Unit) × (List ((Int × Int) × Int)) × Unit × Unit × Unit)) ⊕ ((Unit × Int × Int × Int × Unit) × ((Unit × Int × (List (Zaf)) × Bool × Int × (List UInt8) × (List UInt8) × Int × Int × Int × Int × Int × Int × Unit) × ((List (Zac)) × Unit × Unit) × (List ((Int × Int) × Int)) × Unit × Unit × Unit)))) :=
 (bif (decide ((a.1.2.2.2.2.1 : Int) <= 6)) then
 (ZbH 1 a.1.2.2.2.2.1 a.2.1 a.2.2.1 a.2.2.2.1).bind fun r1 =>
 (bif (decide ((r1.1.1 : Int) ≠ a.1.2.2.2.2.1)) then
 some (.inr (.inl ((false, ()), (r1.2.1, r1.2.2.1, r1.2.2.2.1, (), (), ()))))
 else
 (bif (decide ((r1.1.2.1 : Int) ≠ 0)) then
 some (.inr (.inl ((false, ()), (r1.2.1, r1.2.2.1, r1.2.2.2.1, (), (), ()))))
 else
 some (.inl (((), a.1.2.1, a.1.2.2.1, a.1.2.2.2.1, (IntKind.u8.wrap (a.1.2.2.2.2.1 + 1)), ()), (r1.2.1, r1.2.2.1, r1.2.2.2.1, (), ())))))
 else
 some (.inr (.inr (((), a.1.2.1, a.1.2.2.1, a.1.2.2.2.1, ()), (a.2.1, a.2.2.1, a.2.2.2.1, (), (), ())))))
def ZiT : LEp := ⟨5, [1, 2, 3, 5, 6], [.one (.ptr 0 0), .one (.int .i64), .one (.int .i64), .one (.int .i64), .one (.int .u8)], [.obj 110 [.ptr 1 0, .int .i64, .sl 5, .bool, .int .i64, .str, .str, .int .i64, .int .i64, .int .i64, .int .i64, .int .u8, .int .i64], .obj 197 [.own 17 3, .mo 2], .mmap (.two .i64 .i64) (.int .i64), .row 41 5], [⟨.ret, [0], [.one (.bool)], [.obj 110 [.ptr 1 0, .int .i64, .sl 5, .bool, .int .i64, .str, .str, .int .i64, .int .i64, .int .i64, .int .i64, .int .u8, .int .i64], .obj 197 [.own 17 4, .mo 2], .mmap (.two .i64 .i64) (.int .i64), .dead, .row 41 5]⟩, ⟨.exit 0, [1, 2, 3, 5], [.one (.ptr 0 0), .one (.int .i64), .one (.int .i64), .one (.int .i64)], [.obj 110 [.ptr 1 0, .int .i64, .sl 5, .bool, .int .i64, .str, .str, .int .i64, .int .i64, .int .i64, .int .i64, .int .u8, .int .i64], .obj 197 [.own 17 4, .mo 2], .mmap (.two .i64 .i64) (.int .i64), .dead, .row 41 5]⟩], ZcG⟩
def Zrv : List (LEp) := [ZiT]
theorem Zs3 : ZdE ZiT (ZcN (ZaD Tryz.f7) 0) := fun A env h k z hk => Za3 (E := ZiT) (Zad Zru) (dr := dr0) (lps := Zap Zrv) (Zal (by kernel_rfl)) (fun a => by kernel_rfl) env h k z hk
def Zes  : Option (Bool × Unit) :=
 (Zg3 1).bind fun r1 =>
 (Zg7 r1.1).bind fun r2 =>
 (Zcb (⟨([109] : List UInt8), ([] : List UInt8)⟩ : Zao) 2 r2.2.1 r2.2.2.1 r2.2.2.2.1).bind fun r3 =>
 (Zcb (⟨([109] : List UInt8), ([] : List UInt8)⟩ : Zao) 2 r3.2.1 r3.2.2.1 r3.2.2.2.1).bind fun r4 =>
 (Zas ZcG (((), r3.1.1, r3.1.2.1, r4.1.2.1, 2, ()), (r4.2.1, r4.2.2.1, r4.2.2.2.1, (), ()))).bind fun b5 =>
 (match b5 with
 | .inl b6 =>
 some (b6.1.1, ())
 | .inr b7 =>
 (Zcp b7.2.1 b7.2.2.1 b7.2.2.2.1).bind fun r8 =>
 (ZbH 1 2 r8.2.1 r8.2.2.1 r8.2.2.2.1).bind fun r9 =>
 (Zcq r9.2.1 r9.2.2.1 r9.2.2.2.1).bind fun r10 =>
 (ZjW r10.1 ([110] : List UInt8)).bind fun r11 =>
 (bif (decide ((b7.1.2.1 : Int) = 1)) then
 (bif (decide ((b7.1.2.2.1 : Int) = 0)) then
 (bif (decide ((b7.1.2.2.2.1 : Int) = 26)) then
 (bif (!r8.1.2.1) then
 (bif (decide ((r9.1.1 : Int) = 0)) then
 (bif (decide ((r9.1.2.1 : Int) = 0)) then
 (bif r11.1.2.1 then
 some ((decide ((r11.1.1.group : Int) = 2)), ())
 else
 some (false, ()))
 else
 some (false, ()))
 else
 some (false, ()))
 else
 some (false, ()))
 else
 some (false, ()))
 else
 some (false, ()))
 else
 some (false, ())))
def ZxE : CEp where
 f := 7
 args := []
 hs := []
 res := .val (.one (.bool))
 outs := []
 m := fun d dh => Zes
 ok := ZaO Zar Tryz.func7 (by kernel_rfl) (Zad Zru) (dr := dr0) (lps := Zap Zrv) (Zau (ZaI (n := 1) (by kernel_rfl) fun i hi => match i, hi with | 0, _ => Za4 (E := ZiT) (by kernel_rfl) Zs3)) (fun d dh => by kernel_rfl)
def ZzM : List (CEp) := []
def ZxF (x0 : Int) (x1 : Int) : Option (Int × Unit) :=
 let y1 : Int := (IntKind.i64.wrap ((IntKind.i64.wrap (1000003 * (IntKind.i64.wrap (x0 + 7)))) + x1))
 some (y1, ())
def ZzN : CEp where
 f := 145
 args := [.one (.int .i64), .one (.int .i64)]
 hs := []
 res := .val (.one (.int .i64))
 outs := []
 m := fun d dh => ZxF d.1 d.2.1
 ok := ceO Tryz.func145 (by kernel_rfl) ZzM (by kernel_rfl) fun d dh => by kernel_rfl
def Zs4 : List (CEp) := [ZzN]
def Zd3 (x0 : Int) (x1 : Int) : Option (Int × Unit) :=
 (ZxF x0 x1).bind fun r1 =>
 let y2 : Int := (IntKind.u8.wrap (((IntKind.u64.wrap ((IntKind.u64.wrap r1.1) * 11400714819323198485)) : Int).fdiv (2 ^ min (56 : Int).toNat (IntKind.u64.bits))))
 some (y2, ())
def Zly : CEp where
 f := 76
 args := [.one (.int .i64), .one (.int .i64)]
 hs := []
 res := .val (.one (.int .u8))
 outs := []
 m := fun d dh => Zd3 d.1 d.2.1
 ok := ceO Tryz.func76 (by kernel_rfl) Zs4 (by kernel_rfl) fun d dh => by kernel_rfl
def ZjX : List (CEp) := [Zly]
def Zcr (a : (LB × (Nat × Nat × Nat) × Int × Unit) × (LB × Unit)) : Option (((LB × (Nat × Nat × Nat) × Int × Unit) × (LB × Unit)) ⊕ (((LB × (Nat × Nat × Nat) × Unit) × (LB × Unit)))) :=
 (bif (decide ((a.1.2.2.1 : Int) < 12)) then
 (Zd3 1 a.1.2.2.1).bind fun r1 =>
 (b8 r1.1).bind fun u2 =>
 (if (a.1.2.1.2.1 + ([u2] : LB).length) <= 140737488355328 /\ (a.1.2.1.2.1 + ([u2] : LB).length) * 1 <= 140737488355328 /\ a.1.2.1.1 + a.1.2.1.2.1 <= a.2.1.length then
 (if (a.1.2.1.2.1 + ([u2] : LB).length) <= a.1.2.1.2.2 then
 let y3 : LB := (a.2.1.take (a.1.2.1.1 + a.1.2.1.2.1) ++ ([u2] : LB) ++ a.2.1.drop (a.1.2.1.1 + a.1.2.1.2.1 + ([u2] : LB).length))
 some (.inl ((a.1.1, (a.1.2.1.1, (a.1.2.1.2.1 + ([u2] : LB).length), a.1.2.1.2.2), (IntKind.i64.wrap (a.1.2.2.1 + 1)), ()), (y3, ())))
 else none)
 else none)
 else
 some (.inr ((a.1.1, (a.1.2.1.1, a.1.2.1.2.1, a.1.2.1.2.2), ()), (a.2.1, ()))))
def Zet : LEp := ⟨4, [0, 3, 4], [.one (.sl 1), .one (.as 1 0), .one (.int .i64)], [.arr 5 1 true], [⟨.exit 0, [0, 3], [.one (.sl 1), .one (.as 1 0)], [.arr 5 1 true]⟩], Zcr⟩
def ZjY : List (LEp) := [Zet]
theorem ZmS : ZdE Zet (ZcN (ZaD Tryz.f30) 0) := fun A env h k z hk => Za3 (E := Zet) (Zad ZjX) (dr := dr0) (lps := Zap ZjY) (Zal (by kernel_rfl)) (fun a => by kernel_rfl) env h k z hk
def Zhe (x0 : LB) : Option ((Nat × Nat × Nat) × (LB × Unit)) :=
 (if 0 <= (0 : Int) /\ (0 : Int) <= (IntKind.i64.wrap ((x0.length : Int) + 12)) /\ ((IntKind.i64.wrap ((x0.length : Int) + 12)) : Int) <= 140737488355328 /\ ((1 : Nat) : Int) * (IntKind.i64.wrap ((x0.length : Int) + 12)) <= 140737488355328 then
 let y1 : LB := (List.replicate ((IntKind.i64.wrap ((x0.length : Int) + 12)) : Int).toNat (0 : UInt8))
 (if ((0 : Int).toNat + x0.length) <= 140737488355328 /\ ((0 : Int).toNat + x0.length) * 1 <= 140737488355328 /\ 0 + (0 : Int).toNat <= y1.length then
 (if ((0 : Int).toNat + x0.length) <= ((IntKind.i64.wrap ((x0.length : Int) + 12)) : Int).toNat then
 let y2 : LB := (y1.take (0 + (0 : Int).toNat) ++ x0 ++ y1.drop (0 + (0 : Int).toNat + x0.length))
 (Zas Zcr ((x0, (0, ((0 : Int).toNat + x0.length), ((IntKind.i64.wrap ((x0.length : Int) + 12)) : Int).toNat), 0, ()), (y2, ()))).bind fun b3 =>
 (if 0 <= ((0 : Int) : Int) /\ ((0 : Int) : Int) <= ((b3.1.1.length : Int) : Int) /\ ((b3.1.1.length : Int) : Int) <= ((b3.1.2.1.2.2 : Nat) : Int) /\ ((b3.1.1.length : Int) : Int) <= 140737488355328 then
 some (((b3.1.2.1.1 + (0 : Int).toNat), (((b3.1.1.length : Int) : Int).toNat - (0 : Int).toNat), (b3.1.2.1.2.2 - (0 : Int).toNat)), (b3.2.1, ()))
 else none)
 else none)
 else none)
 else none)
def Zrw : CEp where
 f := 30
 args := [.one (.sl 1)]
 hs := []
 res := .val (.one (.as 1 0))
 outs := [.arr 5 1 false]
 m := fun d dh => Zhe d.1
 ok := ZaO Zar Tryz.func30 (by kernel_rfl) (Zad ZjX) (dr := dr0) (lps := Zap ZjY) (Zau (ZaI (n := 1) (by kernel_rfl) fun i hi => match i, hi with | 0, _ => Za4 (E := Zet) (by kernel_rfl) ZmS)) (fun d dh => by kernel_rfl)
def ZdK (x0 : LB) : Option ((LB × LB) × Unit) :=
 (Zhe x0).bind fun r => if r.1.1 = 0 /\ r.1.2.1 <= r.2.1.length /\ r.2.1.length <= 140737488355328 then some ((r.2.1.take r.1.2.1, r.2.1.drop r.1.2.1), ()) else none
def Zn6 : CEp where
 f := 30
 args := [.one (.sl 1)]
 hs := []
 res := .val (.one (.slx 1))
 outs := []
 m := fun d dh => ZdK d.1
 ok := fun d dh r hr => by
  unfold ZdK at hr
  obtain ⟨⟨⟨lo, n, c⟩, xs, u⟩, h1, h2⟩ := Zah hr
  dsimp only at h2
  split at h2
  ·rename_i hc
   injection h2 with h2
   subst h2
   obtain ⟨rfl, hc2, hc3⟩ := hc
   exact Tr.freezeX hc2 hc3 (Zrw.ok d dh _ h1)
  ·cases h2
def ZiU (x : LB) : Option (LB × (Unit × Unit)) :=
 if x.length <= 140737488355328 /\ x.length * 1 <= 140737488355328 then some (x, ((), ())) else none
def Zn7 : CEp where
 f := 81
 args := [.one (.sl 1)]
 hs := []
 res := .val (.one (.own 1 0))
 outs := [.row 5 1]
 m := fun d dh => ZiU d.1
 ok := fun d dh r hr => by
  unfold ZiU at hr
  split at hr
  ·rename_i hroom
   injection hr with hr
   subst hr
   exact Zuf Zar Tryz.func81 (by kernel_rfl) rfl rfl (zv := .int .u8 0) (he := by kernel_rfl) (hsz := by kernel_rfl) (hz := by kernel_rfl) (hby := by kernel_rfl) rfl rfl d.1 hroom
  ·cases hr
def Zn8 : List (CEp) := [Zn7]
def Zcc (x0 : LB) : Option (Unit × ((Bool × Bool × LB × Unit) × Unit × Unit)) :=
 (ZiU x0).bind fun r1 =>
 some ((), ((true, false, r1.1, ()), (), ()))
def Zh3 : CEp where
 f := 33
 args := [.one (.sl 1)]
 hs := []
 res := .val (.one (.ptr 0 0))
 outs := [.obj 170 [.bool, .bool, .own 1 1], .row 5 1]
 m := fun d dh => Zcc d.1
 ok := ceO Tryz.func33 (by kernel_rfl) Zn8 (by kernel_rfl) fun d dh => by kernel_rfl
def ZzO : List (CEp) := []
def ZBg (h0 : Bool × Bool × LB × Unit) : Option (Bool × ((Bool × Bool × LB × Unit) × Unit × Unit × Unit)) :=
 (bif h0.1 then
 some ((!h0.2.1), (h0, (), (), ()))
 else
 some (false, (h0, (), (), ())))
def ZzP : CEp where
 f := 87
 args := [.one (.ptr 0 0)]
 hs := [.obj 170 [.bool, .bool, .own 1 1], .row 5 1]
 res := .val (.one (.bool))
 outs := [.obj 170 [.bool, .bool, .own 1 2], .dead, .row 5 1]
 m := fun d dh => ZBg dh.1
 ok := ceO Tryz.func87 (by kernel_rfl) ZzO (by kernel_rfl) fun d dh => by kernel_rfl
def Zs5 : List (CEp) := []
def Za0 (h0 : Zam) : Option (Unit × ((Bool × Bool × LB × Unit) × Unit × Unit)) :=
 some ((), ((h0.place.made, true, [], ()), (), ()))
def Zfc : CEp where
 f := 158
 args := [.one (.ptr 0 0)]
 hs := [.cobj 170 24]
 res := .tup []
 outs := [.obj 170 [.bool, .bool, .own 1 1], .row 5 1]
 m := fun d dh => Za0 dh.1
 ok := ceO Tryz.func158 (by kernel_rfl) Zs5 (by kernel_rfl) fun d dh => by kernel_rfl
def Zs6 : List (CEp) := [Zfc]
def ZbO (x1 : Int) (h0 : Zam) : Option (LB × ((Zam) × Unit)) :=
 (bif (decide (((h0.place.left.length : Int) : Int) < x1)) then
 (Za0 h0).bind fun r1 =>
 some ([], ((⟨(⟨r1.2.1.1, r1.2.1.2.1, r1.2.1.2.2.1⟩ : Zd8)⟩ : Zam), ()))
 else
 (if 0 <= ((0 : Int) : Int) /\ ((0 : Int) : Int) <= x1 /\ (x1 : Int) <= x1 /\ x1 <= (h0.place.left.length : Int) then
 let y2 : LB := ((h0.place.left.drop ((0 : Int) : Int).toNat).take ((x1 : Int).toNat - ((0 : Int) : Int).toNat))
 (if 0 <= (x1 : Int) /\ (x1 : Int) <= (h0.place.left.length : Int) /\ (h0.place.left.length : Int) <= (h0.place.left.length : Int) then
 let y3 : LB := ((h0.place.left.drop (x1 : Int).toNat).take (((h0.place.left.length : Int) : Int).toNat - (x1 : Int).toNat))
 some (y2, ((⟨(⟨h0.place.made, h0.place.failed, y3⟩ : Zd8)⟩ : Zam), ()))
 else none)
 else none))
def Zfd : CEp where
 f := 157
 args := [.one (.ptr 0 0), .one (.int .i64)]
 hs := [.cobj 170 24]
 res := .val (.one (.sl 1))
 outs := [.cobj 170 24]
 m := fun d dh => ZbO d.2.1 dh.1
 ok := ceO Tryz.func157 (by kernel_rfl) Zs6 (by kernel_rfl) fun d dh => by kernel_rfl
def Zlz : List (CEp) := [ZzP, Zfd, Zfc]
def ZhO (a : (Unit × Int × Int × Int × Unit) × ((Zam) × Unit)) : Option (((Unit × Int × Int × Int × Unit) × ((Zam) × Unit)) ⊕ (((Int × Unit) × ((Zam) × Unit)) ⊕ ((Unit × Unit) × ((Zam) × Unit)))) :=
 (bif (decide ((a.1.2.2.2.1 : Int) < 63)) then
 (ZbO 1 a.2.1).bind fun r1 =>
 (bif r1.2.1.place.failed then
 some (.inr (.inl ((0, ()), (r1.2.1, ()))))
 else
 (Zbs r1.1 0).bind fun e2 =>
 (if (a.1.2.2.2.1 : Int) < 0 then none else
 let y3 : Int := (IntKind.i64.wrap ((BitVec.ofInt (IntKind.i64.bits) a.1.2.2.1 ||| BitVec.ofInt (IntKind.i64.bits) (IntKind.i64.wrap ((IntKind.i64.wrap (IntKind.u8.wrap ((BitVec.ofInt (IntKind.u8.bits) (e2.toNat : Int) &&& BitVec.ofInt (IntKind.u8.bits) 127).toNat))) * 2 ^ min (a.1.2.2.2.1 : Int).toNat (IntKind.i64.bits)))).toNat))
 (Zbs r1.1 0).bind fun e4 =>
 (bif (decide (((e4.toNat : Int) : Int) < 128)) then
 (bif (decide ((0 : Int) < a.1.2.2.2.1)) then
 (Zbs r1.1 0).bind fun e5 =>
 (bif (decide (((e5.toNat : Int) : Int) = 0)) then
 (Za0 r1.2.1).bind fun r6 =>
 some (.inr (.inl ((0, ()), ((⟨(⟨r6.2.1.1, r6.2.1.2.1, r6.2.1.2.2.1⟩ : Zd8)⟩ : Zam), ()))))
 else
 (bif (decide ((4611686018427387903 : Int) < y3)) then
 (Za0 r1.2.1).bind fun r7 =>
 some (.inr (.inl ((0, ()), ((⟨(⟨r7.2.1.1, r7.2.1.2.1, r7.2.1.2.2.1⟩ : Zd8)⟩ : Zam), ()))))
 else
 (bif (decide ((a.1.2.1 : Int) < y3)) then
 (Za0 r1.2.1).bind fun r8 =>
 some (.inr (.inl ((0, ()), ((⟨(⟨r8.2.1.1, r8.2.1.2.1, r8.2.1.2.2.1⟩ : Zd8)⟩ : Zam), ()))))
 else
 some (.inr (.inl ((y3, ()), (r1.2.1, ())))))))
 else
 (bif (decide ((4611686018427387903 : Int) < y3)) then
 (Za0 r1.2.1).bind fun r9 =>
 some (.inr (.inl ((0, ()), ((⟨(⟨r9.2.1.1, r9.2.1.2.1, r9.2.1.2.2.1⟩ : Zd8)⟩ : Zam), ()))))
 else
 (bif (decide ((a.1.2.1 : Int) < y3)) then
 (Za0 r1.2.1).bind fun r10 =>
 some (.inr (.inl ((0, ()), ((⟨(⟨r10.2.1.1, r10.2.1.2.1, r10.2.1.2.2.1⟩ : Zd8)⟩ : Zam), ()))))
 else
 some (.inr (.inl ((y3, ()), (r1.2.1, ())))))))
 else
 some (.inl (((), a.1.2.1, y3, (IntKind.i64.wrap (a.1.2.2.2.1 + 7)), ()), (r1.2.1, ()))))))
 else
 some (.inr (.inr (((), ()), (a.2.1, ())))))
def Zfe : LEp := ⟨5, [0, 1, 5, 6], [.one (.ptr 0 0), .one (.int .i64), .one (.int .i64), .one (.int .i64)], [.cobj 170 24], [⟨.ret, [4], [.one (.int .i64)], [.cobj 170 24]⟩, ⟨.exit 0, [0], [.one (.ptr 0 0)], [.cobj 170 24]⟩], ZhO⟩
def ZlA : List (LEp) := [Zfe]
theorem Zn9 : ZdE Zfe (ZcN (ZaD Tryz.f82) 0) := fun A env h k z hk => Za3 (E := Zfe) (Zad Zlz) (dr := dr0) (lps := Zap ZlA) (Zal (by kernel_rfl)) (fun a => by kernel_rfl) env h k z hk
def ZiV (x1 : Int) (h0 : Bool × Bool × LB × Unit) : Option (Int × ((Zam) × Unit × Unit)) :=
 (ZBg h0).bind fun r1 =>
 (bif (!r1.1) then
 some (0, ((⟨(⟨r1.2.1.1, r1.2.1.2.1, r1.2.1.2.2.1⟩ : Zd8)⟩ : Zam), (), ()))
 else
 (Zas ZhO (((), x1, 0, 0, ()), ((⟨(⟨r1.2.1.1, r1.2.1.2.1, r1.2.1.2.2.1⟩ : Zd8)⟩ : Zam), ()))).bind fun b2 =>
 (match b2 with
 | .inl b3 =>
 some (b3.1.1, (b3.2.1, (), ()))
 | .inr b4 =>
 (Za0 b4.2.1).bind fun r5 =>
 some (0, ((⟨(⟨r5.2.1.1, r5.2.1.2.1, r5.2.1.2.2.1⟩ : Zd8)⟩ : Zam), (), ()))))
def Zs7 : CEp where
 f := 82
 args := [.one (.ptr 0 0), .one (.int .i64)]
 hs := [.obj 170 [.bool, .bool, .own 1 1], .row 5 1]
 res := .val (.one (.int .i64))
 outs := [.cobj 170 24, .dead]
 m := fun d dh => ZiV d.2.1 dh.1
 ok := ZaO Zar Tryz.func82 (by kernel_rfl) (Zad Zlz) (dr := dr0) (lps := Zap ZlA) (Zau (ZaI (n := 1) (by kernel_rfl) fun i hi => match i, hi with | 0, _ => Za4 (E := Zfe) (by kernel_rfl) Zn9)) (fun d dh => by kernel_rfl)
def Zwo : List (CEp) := []
def ZjZ (h0 : Zam) : Option (Bool × ((Zam) × Unit)) :=
 (bif h0.place.made then
 some ((!h0.place.failed), (h0, ()))
 else
 some (false, (h0, ())))
def Zhf : CEp where
 f := 87
 args := [.one (.ptr 0 0)]
 hs := [.cobj 170 24]
 res := .val (.one (.bool))
 outs := [.cobj 170 24]
 m := fun d dh => ZjZ dh.1
 ok := ceO Tryz.func87 (by kernel_rfl) Zwo (by kernel_rfl) fun d dh => by kernel_rfl
def Zjl : List (CEp) := [Zhf, Zfd, Zfc]
def ZdX (a : (Unit × Int × Int × Int × Unit) × ((Zam) × Unit)) : Option (((Unit × Int × Int × Int × Unit) × ((Zam) × Unit)) ⊕ (((Int × Unit) × ((Zam) × Unit)) ⊕ ((Unit × Unit) × ((Zam) × Unit)))) :=
 (bif (decide ((a.1.2.2.2.1 : Int) < 63)) then
 (ZbO 1 a.2.1).bind fun r1 =>
 (bif r1.2.1.place.failed then
 some (.inr (.inl ((0, ()), (r1.2.1, ()))))
 else
 (Zbs r1.1 0).bind fun e2 =>
 (if (a.1.2.2.2.1 : Int) < 0 then none else
 let y3 : Int := (IntKind.i64.wrap ((BitVec.ofInt (IntKind.i64.bits) a.1.2.2.1 ||| BitVec.ofInt (IntKind.i64.bits) (IntKind.i64.wrap ((IntKind.i64.wrap (IntKind.u8.wrap ((BitVec.ofInt (IntKind.u8.bits) (e2.toNat : Int) &&& BitVec.ofInt (IntKind.u8.bits) 127).toNat))) * 2 ^ min (a.1.2.2.2.1 : Int).toNat (IntKind.i64.bits)))).toNat))
 (Zbs r1.1 0).bind fun e4 =>
 (bif (decide (((e4.toNat : Int) : Int) < 128)) then
 (bif (decide ((0 : Int) < a.1.2.2.2.1)) then
 (Zbs r1.1 0).bind fun e5 =>
 (bif (decide (((e5.toNat : Int) : Int) = 0)) then
 (Za0 r1.2.1).bind fun r6 =>
 some (.inr (.inl ((0, ()), ((⟨(⟨r6.2.1.1, r6.2.1.2.1, r6.2.1.2.2.1⟩ : Zd8)⟩ : Zam), ()))))
 else
 (bif (decide ((4611686018427387903 : Int) < y3)) then
 (Za0 r1.2.1).bind fun r7 =>
 some (.inr (.inl ((0, ()), ((⟨(⟨r7.2.1.1, r7.2.1.2.1, r7.2.1.2.2.1⟩ : Zd8)⟩ : Zam), ()))))
 else
 (bif (decide ((a.1.2.1 : Int) < y3)) then
 (Za0 r1.2.1).bind fun r8 =>
 some (.inr (.inl ((0, ()), ((⟨(⟨r8.2.1.1, r8.2.1.2.1, r8.2.1.2.2.1⟩ : Zd8)⟩ : Zam), ()))))
 else
 some (.inr (.inl ((y3, ()), (r1.2.1, ())))))))
 else
 (bif (decide ((4611686018427387903 : Int) < y3)) then
 (Za0 r1.2.1).bind fun r9 =>
 some (.inr (.inl ((0, ()), ((⟨(⟨r9.2.1.1, r9.2.1.2.1, r9.2.1.2.2.1⟩ : Zd8)⟩ : Zam), ()))))
 else
 (bif (decide ((a.1.2.1 : Int) < y3)) then
 (Za0 r1.2.1).bind fun r10 =>
 some (.inr (.inl ((0, ()), ((⟨(⟨r10.2.1.1, r10.2.1.2.1, r10.2.1.2.2.1⟩ : Zd8)⟩ : Zam), ()))))
 else
 some (.inr (.inl ((y3, ()), (r1.2.1, ())))))))
 else
 some (.inl (((), a.1.2.1, y3, (IntKind.i64.wrap (a.1.2.2.2.1 + 7)), ()), (r1.2.1, ()))))))
 else
 some (.inr (.inr (((), ()), (a.2.1, ())))))
def ZdY : LEp := ⟨5, [0, 1, 5, 6], [.one (.ptr 0 0), .one (.int .i64), .one (.int .i64), .one (.int .i64)], [.cobj 170 24], [⟨.ret, [4], [.one (.int .i64)], [.cobj 170 24]⟩, ⟨.exit 0, [0], [.one (.ptr 0 0)], [.cobj 170 24]⟩], ZdX⟩
def Zjm : List (LEp) := [ZdY]
theorem Zl1 : ZdE ZdY (ZcN (ZaD Tryz.f82) 0) := fun A env h k z hk => Za3 (E := ZdY) (Zad Zjl) (dr := dr0) (lps := Zap Zjm) (Zal (by kernel_rfl)) (fun a => by kernel_rfl) env h k z hk
def ZaG (x1 : Int) (h0 : Zam) : Option (Int × ((Zam) × Unit)) :=
 (ZjZ h0).bind fun r1 =>
 (bif (!r1.1) then
 some (0, (r1.2.1, ()))
 else
 (Zas ZdX (((), x1, 0, 0, ()), (r1.2.1, ()))).bind fun b2 =>
 (match b2 with
 | .inl b3 =>
 some (b3.1.1, (b3.2.1, ()))
 | .inr b4 =>
 (Za0 b4.2.1).bind fun r5 =>
 some (0, ((⟨(⟨r5.2.1.1, r5.2.1.2.1, r5.2.1.2.2.1⟩ : Zd8)⟩ : Zam), ()))))
def ZbS : CEp where
 f := 82
 args := [.one (.ptr 0 0), .one (.int .i64)]
 hs := [.cobj 170 24]
 res := .val (.one (.int .i64))
 outs := [.cobj 170 24]
 m := fun d dh => ZaG d.2.1 dh.1
 ok := ZaO Zar Tryz.func82 (by kernel_rfl) (Zad Zjl) (dr := dr0) (lps := Zap Zjm) (Zau (ZaI (n := 1) (by kernel_rfl) fun i hi => match i, hi with | 0, _ => Za4 (E := ZdY) (by kernel_rfl) Zl1)) (fun d dh => by kernel_rfl)
def ZxG : List (CEp) := [ZbS, Zhf, Zfd, Zn7]
def Zqe (x1 : Int) (h0 : Zam) : Option (LB × ((Zam) × Unit × Unit)) :=
 (ZaG x1 h0).bind fun r1 =>
 (ZjZ r1.2.1).bind fun r2 =>
 (bif (!r2.1) then
 some ([], (r2.2.1, (), ()))
 else
 (ZbO r1.1 r2.2.1).bind fun r3 =>
 (ZiU r3.1).bind fun r4 =>
 some (r4.1, (r3.2.1, (), ())))
def ZxH : CEp where
 f := 223
 args := [.one (.ptr 0 0), .one (.int .i64)]
 hs := [.cobj 170 24]
 res := .val (.one (.own 1 1))
 outs := [.cobj 170 24, .row 5 1]
 m := fun d dh => Zqe d.2.1 dh.1
 ok := ceO Tryz.func223 (by kernel_rfl) ZxG (by kernel_rfl) fun d dh => by kernel_rfl
def Zwp : List (CEp) := [ZxH]
def Zeu (x1 : Int) (h0 : Zam) : Option ((List UInt8) × ((Zam) × Unit)) :=
 (Zqe x1 h0).bind fun r1 =>
 some (r1.1, (r1.2.1, ()))
def Zj0 : CEp where
 f := 147
 args := [.one (.ptr 0 0), .one (.int .i64)]
 hs := [.cobj 170 24]
 res := .val (.one (.str))
 outs := [.cobj 170 24]
 m := fun d dh => Zeu d.2.1 dh.1
 ok := ceO Tryz.func147 (by kernel_rfl) Zwp (by kernel_rfl) fun d dh => by kernel_rfl
def Zh4 : List (CEp) := [Zs7, ZbS, Zj0]
def Zcs (a : (Unit × Unit × Int × Int × Unit) × ((Unit × Unit) × (Int × (List (Zaf)) × Bool × Int × (List UInt8) × (List UInt8) × Int × Int × Int × Int × Int × Unit) × (Zam) × Unit × Unit)) : Option (((Unit × Unit × Int × Int × Unit) × ((Unit × Unit) × (Int × (List (Zaf)) × Bool × Int × (List UInt8) × (List UInt8) × Int × Int × Int × Int × Int × Unit) × (Zam) × Unit × Unit)) ⊕ ((Unit × ((Unit × Unit) × (Int × (List (Zaf)) × Bool × Int × (List UInt8) × (List UInt8) × Int × Int × Int × Int × Int × Unit) × (Zam) × Unit × Unit × Unit)))) :=
 (bif (decide ((a.1.2.2.2.1 : Int) < a.1.2.2.1)) then
 (Zeu 20 a.2.2.2.1).bind fun r1 =>
 (Zeu 20 r1.2.1).bind fun r2 =>
 (ZaG 1073741824 r2.2.1).bind fun r3 =>
 (ZaG 1073741824 r3.2.1).bind fun r4 =>
 (if a.2.2.1.2.1.length + ([(⟨(⟨r1.1, r2.1⟩ : Zao), r3.1, r4.1⟩ : Zaf)] : List (Zaf)).length <= 140737488355328 /\ (a.2.2.1.2.1.length + ([(⟨(⟨r1.1, r2.1⟩ : Zao), r3.1, r4.1⟩ : Zaf)] : List (Zaf)).length) * 48 <= 140737488355328 then
 let y5 : List (Zaf) := (a.2.2.1.2.1 ++ ([(⟨(⟨r1.1, r2.1⟩ : Zao), r3.1, r4.1⟩ : Zaf)] : List (Zaf)))
 some (.inl (((), (), a.1.2.2.1, (IntKind.i64.wrap (a.1.2.2.2.1 + 1)), ()), (((), ()), (a.2.2.1.1, y5, a.2.2.1.2.2.1, a.2.2.1.2.2.2.1, a.2.2.1.2.2.2.2.1, a.2.2.1.2.2.2.2.2.1, a.2.2.1.2.2.2.2.2.2.1, a.2.2.1.2.2.2.2.2.2.2.1, a.2.2.1.2.2.2.2.2.2.2.2.1, a.2.2.1.2.2.2.2.2.2.2.2.2.1, a.2.2.1.2.2.2.2.2.2.2.2.2.2.1, ()), r4.2.1, (), ())))
 else none)
 else
 some (.inr ((), (((), ()), a.2.2.1, a.2.2.2.1, (), (), ()))))
def Zdp : LEp := ⟨3, [0, 1, 9, 10], [.one (.ptr 0 0), .one (.ptr 1 0), .one (.int .i64), .one (.int .i64)], [.obj 74 [.ptr 2 0], .obj 107 [.int .i64, .own 5 3, .bool, .int .i64, .str, .str, .int .i64, .int .i64, .int .i64, .int .i64, .int .u8], .cobj 170 24, .row 99 4], [⟨.exit 0, [], [], [.obj 74 [.ptr 2 0], .obj 107 [.int .i64, .own 5 4, .bool, .int .i64, .str, .str, .int .i64, .int .i64, .int .i64, .int .i64, .int .u8], .cobj 170 24, .dead, .row 99 4]⟩], Zcs⟩
def Zh5 : List (LEp) := [Zdp]
theorem Zlf : ZdE Zdp (ZcN (ZaD Tryz.f146) 0) := fun A env h k z hk => Za3 (E := Zdp) (Zad Zh4) (dr := dr0) (lps := Zap Zh5) (Zal (by kernel_rfl)) (fun a => by kernel_rfl) env h k z hk
def Zff (h0 : Unit × Unit) (h1 : Int × (List (Zaf)) × Bool × Int × (List UInt8) × (List UInt8) × Int × Int × Int × Int × Int × Unit) (h2 : Bool × Bool × LB × Unit) : Option (Bool × ((Unit × Unit) × (Int × (List (Zaf)) × Bool × Int × (List UInt8) × (List UInt8) × Int × Int × Int × Int × Int × Unit) × (Zam) × Unit × Unit × Unit × Unit)) :=
 (ZiV 1073741824 h2).bind fun r1 =>
 (ZaG 40 r1.2.1).bind fun r2 =>
 (Zas Zcs (((), (), r2.1, 0, ()), (((), ()), (r1.1, h1.2.1, h1.2.2.1, h1.2.2.2.1, h1.2.2.2.2.1, h1.2.2.2.2.2.1, h1.2.2.2.2.2.2.1, h1.2.2.2.2.2.2.2.1, h1.2.2.2.2.2.2.2.2.1, h1.2.2.2.2.2.2.2.2.2.1, h1.2.2.2.2.2.2.2.2.2.2.1, ()), r2.2.1, (), ()))).bind fun b3 =>
 some (true, (((), ()), b3.2.2.1, b3.2.2.2.1, (), (), (), ()))
def Zoa : CEp where
 f := 146
 args := [.one (.ptr 0 0), .one (.ptr 1 0)]
 hs := [.obj 74 [.ptr 2 0], .obj 107 [.int .i64, .own 5 3, .bool, .int .i64, .str, .str, .int .i64, .int .i64, .int .i64, .int .i64, .int .u8], .obj 170 [.bool, .bool, .own 1 4], .row 99 4, .row 5 1]
 res := .val (.one (.bool))
 outs := [.obj 74 [.ptr 2 0], .obj 107 [.int .i64, .own 5 5, .bool, .int .i64, .str, .str, .int .i64, .int .i64, .int .i64, .int .i64, .int .u8], .cobj 170 24, .dead, .dead, .row 99 4]
 m := fun d dh => Zff dh.1 dh.2.1 dh.2.2.1
 ok := ZaO Zar Tryz.func146 (by kernel_rfl) (Zad Zh4) (dr := dr0) (lps := Zap Zh5) (Zau (ZaI (n := 1) (by kernel_rfl) fun i hi => match i, hi with | 0, _ => Za4 (E := Zdp) (by kernel_rfl) Zlf)) (fun d dh => by kernel_rfl)
def ZpD : List (CEp) := [Zoa]
def ZiW (h0 : Unit × Unit) (h1 : Int × (List (Zaf)) × Bool × Int × (List UInt8) × (List UInt8) × Int × Int × Int × Int × Int × Unit) (h2 : Bool × Bool × LB × Unit) : Option (Bool × ((Unit × Unit) × (Int × (List (Zaf)) × Bool × Int × (List UInt8) × (List UInt8) × Int × Int × Int × Int × Int × Unit) × (Zam) × Unit × Unit × Unit × Unit)) :=
 (Zff ((), ()) h1 h2).bind fun r1 =>
 some ((!r1.1), (((), ()), r1.2.2.1, r1.2.2.2.1, (), (), (), ()))
def ZpE : CEp where
 f := 225
 args := [.one (.clo 146 [0, 1])]
 hs := [.obj 74 [.ptr 2 0], .obj 107 [.int .i64, .own 5 3, .bool, .int .i64, .str, .str, .int .i64, .int .i64, .int .i64, .int .i64, .int .u8], .obj 170 [.bool, .bool, .own 1 4], .row 99 4, .row 5 1]
 res := .val (.one (.bool))
 outs := [.obj 74 [.ptr 2 0], .obj 107 [.int .i64, .own 5 5, .bool, .int .i64, .str, .str, .int .i64, .int .i64, .int .i64, .int .i64, .int .u8], .cobj 170 24, .dead, .dead, .row 99 4]
 m := fun d dh => ZiW dh.1 dh.2.1 dh.2.2.1
 ok := ceO Tryz.func225 (by kernel_rfl) ZpD (by kernel_rfl) fun d dh => by kernel_rfl
def Zwq : List (CEp) := [Zhf, Zfd, Zfc]
def Zh6 (h0 : Zam) : Option (Bool × ((Zam) × Unit)) :=
 (ZjZ h0).bind fun r1 =>
 (bif (!r1.1) then
 some (false, (r1.2.1, ()))
 else
 (ZbO 1 r1.2.1).bind fun r2 =>
 (bif r2.2.1.place.failed then
 (Za0 r2.2.1).bind fun r3 =>
 some (false, ((⟨(⟨r3.2.1.1, r3.2.1.2.1, r3.2.1.2.2.1⟩ : Zd8)⟩ : Zam), ()))
 else
 (Zbs r2.1 0).bind fun e4 =>
 (bif (decide ((1 : Int) < (e4.toNat : Int))) then
 (Za0 r2.2.1).bind fun r5 =>
 some (false, ((⟨(⟨r5.2.1.1, r5.2.1.2.1, r5.2.1.2.2.1⟩ : Zd8)⟩ : Zam), ()))
 else
 (Zbs r2.1 0).bind fun e6 =>
 some ((decide (((e6.toNat : Int) : Int) = 1)), (r2.2.1, ())))))
def Zo1 : CEp where
 f := 149
 args := [.one (.ptr 0 0)]
 hs := [.cobj 170 24]
 res := .val (.one (.bool))
 outs := [.cobj 170 24]
 m := fun d dh => Zh6 dh.1
 ok := ceO Tryz.func149 (by kernel_rfl) Zwq (by kernel_rfl) fun d dh => by kernel_rfl
def Zwr : List (CEp) := [Zhf]
def Zh7 (h0 : Zam) : Option (Int × ((Zam) × Unit)) :=
 (ZjZ h0).bind fun r1 =>
 (bif (!r1.1) then
 some (0, (r1.2.1, ()))
 else
 some ((r1.2.1.place.left.length : Int), (r1.2.1, ())))
def Zhg : CEp where
 f := 38
 args := [.one (.ptr 0 0)]
 hs := [.cobj 170 24]
 res := .val (.one (.int .i64))
 outs := [.cobj 170 24]
 m := fun d dh => Zh7 dh.1
 ok := ceO Tryz.func38 (by kernel_rfl) Zwr (by kernel_rfl) fun d dh => by kernel_rfl
def ZxI : List (CEp) := []
def ZiX (h0 : Zam) : Option (Int × ((Zam) × Unit)) :=
 (bif (!h0.place.made) then
 some (1, (h0, ()))
 else
 (bif h0.place.failed then
 some (4, (h0, ()))
 else
 (bif (decide ((0 : Int) < (h0.place.left.length : Int))) then
 some (4, (h0, ()))
 else
 some (0, (h0, ())))))
def ZiY : CEp where
 f := 78
 args := [.one (.ptr 0 0)]
 hs := [.cobj 170 24]
 res := .val (.one (.int .i64))
 outs := [.cobj 170 24]
 m := fun d dh => ZiX dh.1
 ok := ceO Tryz.func78 (by kernel_rfl) ZxI (by kernel_rfl) fun d dh => by kernel_rfl
def ZmT : List (CEp) := [Zhg, ZiY]
def Zev (h0 : Zam) : Option (Bool × ((Zam) × Unit)) :=
 (Zh7 h0).bind fun r1 =>
 (bif (decide ((r1.1 : Int) = 0)) then
 (ZiX r1.2.1).bind fun r2 =>
 some ((decide ((r2.1 : Int) ≠ 0)), (r2.2.1, ()))
 else
 some (false, (r1.2.1, ())))
def ZmU : CEp where
 f := 150
 args := [.one (.ptr 0 0)]
 hs := [.cobj 170 24]
 res := .val (.one (.bool))
 outs := [.cobj 170 24]
 m := fun d dh => Zev dh.1
 ok := ceO Tryz.func150 (by kernel_rfl) ZmT (by kernel_rfl) fun d dh => by kernel_rfl
def Zob : List (CEp) := [Zo1, ZmU, ZgI]
def ZlB (h0 : Unit × Unit) (h1 : Int × (List (Zaf)) × Bool × Int × (List UInt8) × (List UInt8) × Int × Int × Int × Int × Int × Unit) (h2 : Zam) : Option (Bool × ((Unit × Unit) × (Int × (List (Zaf)) × Bool × Int × (List UInt8) × (List UInt8) × Int × Int × Int × Int × Int × Unit) × (Zam) × Unit × Unit × Unit)) :=
 (Zh6 h2).bind fun r1 =>
 (Zev r1.2.1).bind fun r2 =>
 (bif (!r2.1) then
 (Zea (⟨h1.1, h1.2.1⟩ : Zai)).bind fun r3 =>
 some (r3.1, (((), ()), (h1.1, h1.2.1, r1.1, h1.2.2.2.1, h1.2.2.2.2.1, h1.2.2.2.2.2.1, h1.2.2.2.2.2.2.1, h1.2.2.2.2.2.2.2.1, h1.2.2.2.2.2.2.2.2.1, h1.2.2.2.2.2.2.2.2.2.1, h1.2.2.2.2.2.2.2.2.2.2.1, ()), r2.2.1, (), (), ()))
 else
 some (false, (((), ()), (h1.1, h1.2.1, r1.1, h1.2.2.2.1, h1.2.2.2.2.1, h1.2.2.2.2.2.1, h1.2.2.2.2.2.2.1, h1.2.2.2.2.2.2.2.1, h1.2.2.2.2.2.2.2.2.1, h1.2.2.2.2.2.2.2.2.2.1, h1.2.2.2.2.2.2.2.2.2.2.1, ()), r2.2.1, (), (), ())))
def Zoc : CEp where
 f := 148
 args := [.one (.ptr 0 0), .one (.ptr 1 0)]
 hs := [.obj 74 [.ptr 2 0], .obj 107 [.int .i64, .own 5 3, .bool, .int .i64, .str, .str, .int .i64, .int .i64, .int .i64, .int .i64, .int .u8], .cobj 170 24, .row 99 4]
 res := .val (.one (.bool))
 outs := [.obj 74 [.ptr 2 0], .obj 107 [.int .i64, .own 5 4, .bool, .int .i64, .str, .str, .int .i64, .int .i64, .int .i64, .int .i64, .int .u8], .cobj 170 24, .dead, .row 99 4]
 m := fun d dh => ZlB dh.1 dh.2.1 dh.2.2.1
 ok := ceO Tryz.func148 (by kernel_rfl) Zob (by kernel_rfl) fun d dh => by kernel_rfl
def ZmV : List (CEp) := [Zoc]
def Zew (h0 : Unit × Unit) (h1 : Int × (List (Zaf)) × Bool × Int × (List UInt8) × (List UInt8) × Int × Int × Int × Int × Int × Unit) (h2 : Zam) : Option (Bool × ((Unit × Unit) × (Int × (List (Zaf)) × Bool × Int × (List UInt8) × (List UInt8) × Int × Int × Int × Int × Int × Unit) × (Zam) × Unit × Unit × Unit)) :=
 (ZlB ((), ()) h1 h2).bind fun r1 =>
 some ((!r1.1), (((), ()), r1.2.2.1, r1.2.2.2.1, (), (), ()))
def ZmW : CEp where
 f := 225
 args := [.one (.clo 148 [0, 1])]
 hs := [.obj 74 [.ptr 2 0], .obj 107 [.int .i64, .own 5 3, .bool, .int .i64, .str, .str, .int .i64, .int .i64, .int .i64, .int .i64, .int .u8], .cobj 170 24, .row 99 4]
 res := .val (.one (.bool))
 outs := [.obj 74 [.ptr 2 0], .obj 107 [.int .i64, .own 5 4, .bool, .int .i64, .str, .str, .int .i64, .int .i64, .int .i64, .int .i64, .int .u8], .cobj 170 24, .dead, .row 99 4]
 m := fun d dh => Zew dh.1 dh.2.1 dh.2.2.1
 ok := ceO Tryz.func225 (by kernel_rfl) ZmV (by kernel_rfl) fun d dh => by kernel_rfl
def ZpF : List (CEp) := [ZjU]
def ZiZ (x0 : Zak) : Option (Bool × Unit) :=
 (ZfE (⟨x0⟩ : Zlu)).bind fun r1 =>
 some ((!r1.1), ())
def ZpG : CEp where
 f := 165
 args := [.cod 19]
 hs := []
 res := .val (.one (.bool))
 outs := []
 m := fun d dh => ZiZ d.1
 ok := ceO Tryz.func165 (by kernel_rfl) ZpF (by kernel_rfl) fun d dh => by kernel_rfl
def ZfH : List (CEp) := [ZpG]
def ZaX (a : ((List (Zak)) × Unit × Int × Int × Unit) × Unit) : Option ((((List (Zak)) × Unit × Int × Int × Unit) × Unit) ⊕ (((Int × Unit) × Unit) ⊕ (Unit × Unit))) :=
 (bif (decide ((a.1.2.2.2.1 : Int) < a.1.2.2.1)) then
 (Zbs a.1.1 a.1.2.2.2.1).bind fun e1 =>
 (ZiZ e1).bind fun r2 =>
 (bif r2.1 then
 some (.inr (.inl ((a.1.2.2.2.1, ()), ())))
 else
 some (.inl ((a.1.1, (), a.1.2.2.1, (IntKind.i64.wrap (a.1.2.2.2.1 + 1)), ()), ())))
 else
 some (.inr (.inr ((), ()))))
def ZbY : LEp := ⟨2, [0, 1, 7, 8], [.one (.sl 19), .one (.fn 165), .one (.int .i64), .one (.int .i64)], [], [⟨.ret, [4], [.one (.int .i64)], []⟩, ⟨.exit 0, [], [], []⟩], ZaX⟩
def ZfI : List (LEp) := [ZbY]
theorem Zh8 : ZdE ZbY (ZcN (ZaD Tryz.f226) 0) := fun A env h k z hk => Za3 (E := ZbY) (Zad ZfH) (dr := dr0) (lps := Zap ZfI) (Zal (by kernel_rfl)) (fun a => by kernel_rfl) env h k z hk
def Zex (x0 : List (Zak)) : Option (Int × Unit) :=
 (Zas ZaX ((x0, (), (x0.length : Int), 0, ()), ())).bind fun b1 =>
 (match b1 with
 | .inl b2 =>
 some (b2.1.1, ())
 | .inr b3 =>
 some ((-1), ()))
def Zj1 : CEp where
 f := 226
 args := [.one (.sl 19), .one (.fn 165)]
 hs := []
 res := .val (.one (.int .i64))
 outs := []
 m := fun d dh => Zex d.1
 ok := ZaO Zar Tryz.func226 (by kernel_rfl) (Zad ZfH) (dr := dr0) (lps := Zap ZfI) (Zau (ZaI (n := 1) (by kernel_rfl) fun i hi => match i, hi with | 0, _ => Za4 (E := ZbY) (by kernel_rfl) Zh8)) (fun d dh => by kernel_rfl)
def Zh9 : List (CEp) := [Zj1]
def Zc2 (x0 : List (Zak)) : Option (Bool × Unit) :=
 (Zex x0).bind fun r1 =>
 some ((decide ((0 : Int) <= r1.1)), ())
def Zia : CEp where
 f := 164
 args := [.one (.sl 19), .one (.fn 165)]
 hs := []
 res := .val (.one (.bool))
 outs := []
 m := fun d dh => Zc2 d.1
 ok := ceO Tryz.func164 (by kernel_rfl) Zh9 (by kernel_rfl) fun d dh => by kernel_rfl
def Zrx : List (CEp) := [Zia]
def Zhh (x0 : List (Zak)) : Option (Bool × Unit) :=
 (Zc2 x0).bind fun r1 =>
 some ((!r1.1), ())
def Zry : CEp where
 f := 91
 args := [.one (.sl 19)]
 hs := []
 res := .val (.one (.bool))
 outs := []
 m := fun d dh => Zhh d.1
 ok := ceO Tryz.func91 (by kernel_rfl) Zrx (by kernel_rfl) fun d dh => by kernel_rfl
def ZdL : List (CEp) := [ZbS, Zj0, Zry, Zhg, ZiY]
def Zs8 : List (Code × Nat) := [((ZcN (ZaD Tryz.f152) 0), 4), ((ZcN (ZaD Tryz.f152) 1), 4)]
def Zi0 (h0 : Zam) : Option (((Zak) × Bool × Unit) × ((Zam) × Unit)) :=
 (ZaG 1073741824 h0).bind fun r1 =>
 (Zeu 20 r1.2.1).bind fun r2 =>
 (Zeu 20 r2.2.1).bind fun r3 =>
 (ZaG 4 r3.2.1).bind fun r4 =>
 (ZaG 4 r4.2.1).bind fun r5 =>
 (ZaG 1073741824 r5.2.1).bind fun r6 =>
 (ZaG 1073741824 r6.2.1).bind fun r7 =>
 (ZaG 9 r7.2.1).bind fun r8 =>
 (Zhh ([(⟨r1.1, (⟨r2.1, r3.1⟩ : Zao), r4.1, r5.1, r6.1, r7.1, (IntKind.u8.wrap r8.1)⟩ : Zak)] : List (Zak))).bind fun r9 =>
 (bif (!r9.1) then
 some (((⟨0, (⟨([] : List UInt8), ([] : List UInt8)⟩ : Zao), 0, 0, 0, 0, 0⟩ : Zak), false, ()), (r8.2.1, ()))
 else
 (Zh7 r8.2.1).bind fun r10 =>
 (bif (decide ((r10.1 : Int) = 0)) then
 (ZiX r10.2.1).bind fun r11 =>
 (bif (decide ((r11.1 : Int) ≠ 0)) then
 some (((⟨0, (⟨([] : List UInt8), ([] : List UInt8)⟩ : Zao), 0, 0, 0, 0, 0⟩ : Zak), false, ()), (r11.2.1, ()))
 else
 some (((⟨r1.1, (⟨r2.1, r3.1⟩ : Zao), r4.1, r5.1, r6.1, r7.1, (IntKind.u8.wrap r8.1)⟩ : Zak), true, ()), (r11.2.1, ())))
 else
 some (((⟨r1.1, (⟨r2.1, r3.1⟩ : Zao), r4.1, r5.1, r6.1, r7.1, (IntKind.u8.wrap r8.1)⟩ : Zak), true, ()), (r10.2.1, ()))))
def Zs9 : CEp where
 f := 152
 args := [.one (.ptr 0 0)]
 hs := [.cobj 170 24]
 res := .tup [.cod 19, .one (.bool)]
 outs := [.cobj 170 24]
 m := fun d dh => Zi0 dh.1
 ok := ZaO Zar Tryz.func152 (by kernel_rfl) (Zad ZdL) (dr := dr0) (lps := ZFJ CT Tryz.prog (ZsF ZdL) (ZCb ZdL) dr0 (Zap lt0) Zs8) (Zau (ZaI (n := 2) (by kernel_rfl) fun i hi => match i, hi with | 0, _ => Zuj (n := 4) (Zad ZdL) (Zal (by kernel_rfl)) (by kernel_rfl) | 1, _ => Zuj (n := 4) (Zad ZdL) (Zal (by kernel_rfl)) (by kernel_rfl))) (fun d dh => by kernel_rfl)
def Zod : List (CEp) := [Zs9, Zlx]
def ZlC (h0 : Int × (List (Zaf)) × Bool × Int × (List UInt8) × (List UInt8) × Int × Int × Int × Int × Int × Unit) (h1 : Unit × Unit) (h2 : Zam) : Option (Bool × ((Int × (List (Zaf)) × Bool × Int × (List UInt8) × (List UInt8) × Int × Int × Int × Int × Int × Unit) × (Unit × Unit) × (Zam) × Unit × Unit × Unit)) :=
 (bif (!h0.2.2.1) then
 some (true, (h0, ((), ()), h2, (), (), ()))
 else
 (Zi0 h2).bind fun r1 =>
 (bif r1.1.2.1 then
 (ZgL r1.1.1).bind fun r2 =>
 some ((!r2.1), ((h0.1, h0.2.1, h0.2.2.1, r1.1.1.num, r1.1.1.span.lo, r1.1.1.span.hi, r1.1.1.from_, r1.1.1.to_, r1.1.1.epoch, r1.1.1.under, r1.1.1.stage, ()), ((), ()), r1.2.1, (), (), ()))
 else
 some (false, ((h0.1, h0.2.1, h0.2.2.1, r1.1.1.num, r1.1.1.span.lo, r1.1.1.span.hi, r1.1.1.from_, r1.1.1.to_, r1.1.1.epoch, r1.1.1.under, r1.1.1.stage, ()), ((), ()), r1.2.1, (), (), ()))))
def Zoe : CEp where
 f := 151
 args := [.one (.ptr 0 0), .one (.ptr 1 0)]
 hs := [.obj 107 [.int .i64, .own 5 3, .bool, .int .i64, .str, .str, .int .i64, .int .i64, .int .i64, .int .i64, .int .u8], .obj 74 [.ptr 2 0], .cobj 170 24, .row 99 4]
 res := .val (.one (.bool))
 outs := [.obj 107 [.int .i64, .own 5 4, .bool, .int .i64, .str, .str, .int .i64, .int .i64, .int .i64, .int .i64, .int .u8], .obj 74 [.ptr 2 0], .cobj 170 24, .dead, .row 99 4]
 m := fun d dh => ZlC dh.1 dh.2.1 dh.2.2.1
 ok := ceO Tryz.func151 (by kernel_rfl) Zod (by kernel_rfl) fun d dh => by kernel_rfl
def ZmX : List (CEp) := [Zoe]
def Zc3 (h0 : Int × (List (Zaf)) × Bool × Int × (List UInt8) × (List UInt8) × Int × Int × Int × Int × Int × Unit) (h1 : Unit × Unit) (h2 : Zam) : Option (Bool × ((Int × (List (Zaf)) × Bool × Int × (List UInt8) × (List UInt8) × Int × Int × Int × Int × Int × Unit) × (Unit × Unit) × (Zam) × Unit × Unit × Unit)) :=
 (ZlC h0 ((), ()) h2).bind fun r1 =>
 some ((!r1.1), (r1.2.1, ((), ()), r1.2.2.2.1, (), (), ()))
def ZmY : CEp where
 f := 225
 args := [.one (.clo 151 [0, 1])]
 hs := [.obj 107 [.int .i64, .own 5 3, .bool, .int .i64, .str, .str, .int .i64, .int .i64, .int .i64, .int .i64, .int .u8], .obj 74 [.ptr 2 0], .cobj 170 24, .row 99 4]
 res := .val (.one (.bool))
 outs := [.obj 107 [.int .i64, .own 5 4, .bool, .int .i64, .str, .str, .int .i64, .int .i64, .int .i64, .int .i64, .int .u8], .obj 74 [.ptr 2 0], .cobj 170 24, .dead, .row 99 4]
 m := fun d dh => Zc3 dh.1 dh.2.1 dh.2.2.1
 ok := ceO Tryz.func225 (by kernel_rfl) ZmX (by kernel_rfl) fun d dh => by kernel_rfl
def ZbZ : List (CEp) := [ZpE, ZmW, ZmY]
def Zj2 : List (Code × Nat) := [((ZcN (ZaD Tryz.f249) 0), 4)]
def Zby (x0 : Unit × Unit × Unit × Unit) (h0 : Unit × Unit) (h1 : Int × (List (Zaf)) × Bool × Int × (List UInt8) × (List UInt8) × Int × Int × Int × Int × Int × Unit) (h2 : Bool × Bool × LB × Unit) : Option (Int × ((Unit × Unit) × (Int × (List (Zaf)) × Bool × Int × (List UInt8) × (List UInt8) × Int × Int × Int × Int × Int × Unit) × (Zam) × Unit × Unit × Unit × Unit)) :=
 (ZiW ((), ()) h1 h2).bind fun r1 =>
 (bif r1.1 then
 some (0, (((), ()), r1.2.2.1, r1.2.2.2.1, (), (), (), ()))
 else
 (Zew ((), ()) r1.2.2.1 r1.2.2.2.1).bind fun r2 =>
 (bif r2.1 then
 some (1, (((), ()), r2.2.2.1, r2.2.2.2.1, (), (), (), ()))
 else
 (Zc3 r2.2.2.1 ((), ()) r2.2.2.2.1).bind fun r3 =>
 (bif r3.1 then
 some (2, (((), ()), r3.2.1, r3.2.2.2.1, (), (), (), ()))
 else
 some ((-1), (((), ()), r3.2.1, r3.2.2.2.1, (), (), (), ())))))
def Zj3 : CEp where
 f := 249
 args := [.vl [.clo 146 [0, 1], .clo 148 [0, 1], .clo 151 [1, 0]], .one (.fn 225)]
 hs := [.obj 74 [.ptr 2 0], .obj 107 [.int .i64, .own 5 3, .bool, .int .i64, .str, .str, .int .i64, .int .i64, .int .i64, .int .i64, .int .u8], .obj 170 [.bool, .bool, .own 1 4], .row 99 4, .row 5 1]
 res := .val (.one (.int .i64))
 outs := [.obj 74 [.ptr 2 0], .obj 107 [.int .i64, .own 5 5, .bool, .int .i64, .str, .str, .int .i64, .int .i64, .int .i64, .int .i64, .int .u8], .cobj 170 24, .dead, .dead, .row 99 4]
 m := fun d dh => Zby d.1 dh.1 dh.2.1 dh.2.2.1
 ok := ZaO Zar Tryz.func249 (by kernel_rfl) (Zad ZbZ) (dr := dr0) (lps := ZFJ CT Tryz.prog (ZsF ZbZ) (ZCb ZbZ) dr0 (Zap lt0) Zj2) (Zau (ZaI (n := 1) (by kernel_rfl) fun i hi => match i, hi with | 0, _ => Zuj (n := 4) (Zad ZbZ) (Zal (by kernel_rfl)) (by kernel_rfl))) (fun d dh => by kernel_rfl)
def Zib : List (CEp) := [Zj3]
def Zbb (x0 : Unit × Unit × Unit × Unit) (h0 : Unit × Unit) (h1 : Int × (List (Zaf)) × Bool × Int × (List UInt8) × (List UInt8) × Int × Int × Int × Int × Int × Unit) (h2 : Bool × Bool × LB × Unit) : Option (Bool × ((Unit × Unit) × (Int × (List (Zaf)) × Bool × Int × (List UInt8) × (List UInt8) × Int × Int × Int × Int × Int × Unit) × (Zam) × Unit × Unit × Unit × Unit)) :=
 (Zby ((), (), (), ()) ((), ()) h1 h2).bind fun r1 =>
 some ((decide ((0 : Int) <= r1.1)), (((), ()), r1.2.2.1, r1.2.2.2.1, (), (), (), ()))
def Zic : CEp where
 f := 224
 args := [.vl [.clo 146 [0, 1], .clo 148 [0, 1], .clo 151 [1, 0]], .one (.fn 225)]
 hs := [.obj 74 [.ptr 2 0], .obj 107 [.int .i64, .own 5 3, .bool, .int .i64, .str, .str, .int .i64, .int .i64, .int .i64, .int .i64, .int .u8], .obj 170 [.bool, .bool, .own 1 4], .row 99 4, .row 5 1]
 res := .val (.one (.bool))
 outs := [.obj 74 [.ptr 2 0], .obj 107 [.int .i64, .own 5 5, .bool, .int .i64, .str, .str, .int .i64, .int .i64, .int .i64, .int .i64, .int .u8], .cobj 170 24, .dead, .dead, .row 99 4]
 m := fun d dh => Zbb d.1 dh.1 dh.2.1 dh.2.2.1
 ok := ceO Tryz.func224 (by kernel_rfl) Zib (by kernel_rfl) fun d dh => by kernel_rfl
def Zrz : List (CEp) := [Zic]
def Zeb (x0 : Unit × Unit × Unit × Unit) (h0 : Unit × Unit) (h1 : Int × (List (Zaf)) × Bool × Int × (List UInt8) × (List UInt8) × Int × Int × Int × Int × Int × Unit) (h2 : Bool × Bool × LB × Unit) : Option (Bool × ((Unit × Unit) × (Int × (List (Zaf)) × Bool × Int × (List UInt8) × (List UInt8) × Int × Int × Int × Int × Int × Unit) × (Zam) × Unit × Unit × Unit × Unit)) :=
 (Zbb ((), (), (), ()) ((), ()) h1 h2).bind fun r1 =>
 some ((!r1.1), (((), ()), r1.2.2.1, r1.2.2.2.1, (), (), (), ()))
def ZrA : CEp where
 f := 153
 args := [.vl [.clo 146 [0, 1], .clo 148 [0, 1], .clo 151 [1, 0]]]
 hs := [.obj 74 [.ptr 2 0], .obj 107 [.int .i64, .own 5 3, .bool, .int .i64, .str, .str, .int .i64, .int .i64, .int .i64, .int .i64, .int .u8], .obj 170 [.bool, .bool, .own 1 4], .row 99 4, .row 5 1]
 res := .val (.one (.bool))
 outs := [.obj 74 [.ptr 2 0], .obj 107 [.int .i64, .own 5 5, .bool, .int .i64, .str, .str, .int .i64, .int .i64, .int .i64, .int .i64, .int .u8], .cobj 170 24, .dead, .dead, .row 99 4]
 m := fun d dh => Zeb d.1 dh.1 dh.2.1 dh.2.2.1
 ok := ceO Tryz.func153 (by kernel_rfl) Zrz (by kernel_rfl) fun d dh => by kernel_rfl
def ZpH : List (CEp) := [ZrA]
def Zb0 (h0 : Bool × Bool × LB × Unit) : Option (((ZjH) × Bool × Unit) × ((Zam) × Unit × Unit)) :=
 (Zeb ((), (), (), ()) ((), ()) (0, [], false, 0, ([] : List UInt8), ([] : List UInt8), 0, 0, 0, 0, 0, ()) h0).bind fun r1 =>
 (bif (!r1.1) then
 some (((⟨(⟨0, []⟩ : Zai), false, (⟨0, (⟨([] : List UInt8), ([] : List UInt8)⟩ : Zao), 0, 0, 0, 0, 0⟩ : Zak)⟩ : ZjH), false, ()), (r1.2.2.2.1, (), ()))
 else
 some (((⟨(⟨r1.2.2.1.1, r1.2.2.1.2.1⟩ : Zai), r1.2.2.1.2.2.1, (⟨r1.2.2.1.2.2.2.1, (⟨r1.2.2.1.2.2.2.2.1, r1.2.2.1.2.2.2.2.2.1⟩ : Zao), r1.2.2.1.2.2.2.2.2.2.1, r1.2.2.1.2.2.2.2.2.2.2.1, r1.2.2.1.2.2.2.2.2.2.2.2.1, r1.2.2.1.2.2.2.2.2.2.2.2.2.1, r1.2.2.1.2.2.2.2.2.2.2.2.2.2.1⟩ : Zak)⟩ : ZjH), true, ()), (r1.2.2.2.1, (), ())))
def Zjn : CEp where
 f := 77
 args := [.one (.ptr 0 0)]
 hs := [.obj 170 [.bool, .bool, .own 1 1], .row 5 1]
 res := .tup [.cod 20, .one (.bool)]
 outs := [.cobj 170 24, .dead]
 m := fun d dh => Zb0 dh.1
 ok := ceO Tryz.func77 (by kernel_rfl) ZpH (by kernel_rfl) fun d dh => by kernel_rfl
def Zlg : Nat -> Nat -> DrA
 | 4, _ => ⟨(List.range 6), [[], [], [0], [0, 1, 2], [0, 1, 2, 3], (List.range 5)], [1], [2], [1], false, []⟩
 | 5, _ => ⟨[0, 2, 4, 1, 3, 5, 6, 7, 8, 9], [[], [0], [], [2], [], [4], [0, 1], [0, 1, 2, 3, 6], (List.range 8), (List.range 9)], [3, 5], [6, 7], [4], false, []⟩
 | _, _ => ⟨[], [], [], [], [], false, []⟩
def Zlh : List (CEp) := [Zh3, Zjn, ZiY]
def Zdq (x0 : LB) : Option (((Zai) × (Zak) × Bool × Bool × Unit) × Unit) :=
 (Zcc x0).bind fun r1 =>
 (Zb0 r1.2.1).bind fun r2 =>
 (bif (!r2.1.2.1) then
 some (((⟨0, []⟩ : Zai), (⟨0, (⟨([] : List UInt8), ([] : List UInt8)⟩ : Zao), 0, 0, 0, 0, 0⟩ : Zak), false, false, ()), ())
 else
 (ZiX r2.2.1).bind fun r3 =>
 (bif (decide ((r3.1 : Int) ≠ 0)) then
 some (((⟨0, []⟩ : Zai), (⟨0, (⟨([] : List UInt8), ([] : List UInt8)⟩ : Zao), 0, 0, 0, 0, 0⟩ : Zak), false, false, ()), ())
 else
 some ((r2.1.1.shares, r2.1.1.x, r2.1.1.under, true, ()), ())))
def Zli : CEp where
 f := 31
 args := [.one (.sl 1)]
 hs := []
 res := .tup [.cod 8, .cod 19, .one (.bool), .one (.bool)]
 outs := []
 m := fun d dh => Zdq d.1
 ok := ZaO Zar Tryz.func31 (by kernel_rfl) (Zad Zlh) (dr := Zlg) (lps := Zap lt0) (Zau (Zal (by kernel_rfl))) (fun d dh => by kernel_rfl)
def ZtI : List (CEp) := []
def ZkP (a : (LB × Int × Int × Unit) × Unit) : Option (((LB × Int × Int × Unit) × Unit) ⊕ (((Int × Int × Unit) × Unit) ⊕ (Unit × Unit))) :=
 (bif (decide ((a.1.2.2.1 : Int) < (a.1.1.length : Int))) then
 (bif (decide ((a.1.2.2.1 : Int) < 9)) then
 (Zbs a.1.1 a.1.2.2.1).bind fun e1 =>
 (if ((IntKind.u64.wrap (IntKind.i64.wrap (7 * a.1.2.2.1))) : Int) < 0 then none else
 let y2 : Int := (IntKind.i64.wrap ((BitVec.ofInt (IntKind.i64.bits) a.1.2.1 ||| BitVec.ofInt (IntKind.i64.bits) (IntKind.i64.wrap ((IntKind.i64.wrap (IntKind.u8.wrap ((BitVec.ofInt (IntKind.u8.bits) (e1.toNat : Int) &&& BitVec.ofInt (IntKind.u8.bits) 127).toNat))) * 2 ^ min ((IntKind.u64.wrap (IntKind.i64.wrap (7 * a.1.2.2.1))) : Int).toNat (IntKind.i64.bits)))).toNat))
 (Zbs a.1.1 a.1.2.2.1).bind fun e3 =>
 (bif (decide (((e3.toNat : Int) : Int) < 128)) then
 (bif (decide ((0 : Int) < a.1.2.2.1)) then
 (Zbs a.1.1 a.1.2.2.1).bind fun e4 =>
 (bif (decide (((e4.toNat : Int) : Int) = 0)) then
 some (.inr (.inl ((0, 0, ()), ())))
 else
 (bif (decide ((4611686018427387903 : Int) < y2)) then
 some (.inr (.inl ((0, 0, ()), ())))
 else
 (bif (decide ((y2 : Int) < 0)) then
 some (.inr (.inl ((0, 0, ()), ())))
 else
 some (.inr (.inl ((y2, (IntKind.i64.wrap (a.1.2.2.1 + 1)), ()), ()))))))
 else
 (bif (decide ((4611686018427387903 : Int) < y2)) then
 some (.inr (.inl ((0, 0, ()), ())))
 else
 (bif (decide ((y2 : Int) < 0)) then
 some (.inr (.inl ((0, 0, ()), ())))
 else
 some (.inr (.inl ((y2, (IntKind.i64.wrap (a.1.2.2.1 + 1)), ()), ()))))))
 else
 some (.inl ((a.1.1, y2, (IntKind.i64.wrap (a.1.2.2.1 + 1)), ()), ()))))
 else
 some (.inr (.inr ((), ()))))
 else
 some (.inr (.inr ((), ()))))
def ZkQ : LEp := ⟨3, [0, 4, 5], [.one (.sl 1), .one (.int .i64), .one (.int .i64)], [], [⟨.ret, [2, 3], [.one (.int .i64), .one (.int .i64)], []⟩, ⟨.exit 0, [], [], []⟩], ZkP⟩
def ZtJ : List (LEp) := [ZkQ]
theorem Zuy : ZdE ZkQ (ZcN (ZaD Tryz.f161) 0) := fun A env h k z hk => Za3 (E := ZkQ) (Zad ZtI) (dr := dr0) (lps := Zap ZtJ) (Zal (by kernel_rfl)) (fun a => by kernel_rfl) env h k z hk
def Zuz (x0 : LB) : Option ((Int × Int × Unit) × Unit) :=
 (Zas ZkP ((x0, 0, 0, ()), ())).bind fun b1 =>
 (match b1 with
 | .inl b2 =>
 some ((b2.1.1, b2.1.2.1, ()), ())
 | .inr b3 =>
 some ((0, 0, ()), ()))
def ZzQ : CEp where
 f := 161
 args := [.one (.sl 1)]
 hs := []
 res := .tup [.one (.int .i64), .one (.int .i64)]
 outs := []
 m := fun d dh => Zuz d.1
 ok := ZaO Zar Tryz.func161 (by kernel_rfl) (Zad ZtI) (dr := dr0) (lps := Zap ZtJ) (Zau (ZaI (n := 1) (by kernel_rfl) fun i hi => match i, hi with | 0, _ => Za4 (E := ZkQ) (by kernel_rfl) Zuy)) (fun d dh => by kernel_rfl)
def ZxJ : List (CEp) := []
def ZkR (h0 : ZaA) : Option (Unit × ((LB × Bool × Unit) × Unit × Unit)) :=
 some ((), (([], true, ()), (), ()))
def Zl2 : CEp where
 f := 162
 args := [.one (.ptr 0 0)]
 hs := [.cobj 78 25]
 res := .tup []
 outs := [.obj 78 [.own 1 1, .bool], .row 5 1]
 m := fun d dh => ZkR dh.1
 ok := ceO Tryz.func162 (by kernel_rfl) ZxJ (by kernel_rfl) fun d dh => by kernel_rfl
def ZuA : List (CEp) := [ZzQ, Zl2]
def ZaU (x1 : Int) (h0 : ZaA) : Option (Int × ((ZaA) × Unit)) :=
 (bif h0.failed then
 some (0, (h0, ()))
 else
 (Zuz h0.left).bind fun r1 =>
 (bif (decide ((r1.1.2.1 : Int) = 0)) then
 (ZkR h0).bind fun r2 =>
 some (0, ((⟨r2.2.1.1, r2.2.1.2.1⟩ : ZaA), ()))
 else
 (bif (decide ((x1 : Int) < r1.1.1)) then
 (ZkR h0).bind fun r3 =>
 some (0, ((⟨r3.2.1.1, r3.2.1.2.1⟩ : ZaA), ()))
 else
 (if 0 <= (r1.1.2.1 : Int) /\ (r1.1.2.1 : Int) <= (h0.left.length : Int) /\ (h0.left.length : Int) <= (h0.left.length : Int) then
 let y4 : LB := ((h0.left.drop (r1.1.2.1 : Int).toNat).take (((h0.left.length : Int) : Int).toNat - (r1.1.2.1 : Int).toNat))
 some (r1.1.1, ((⟨y4, h0.failed⟩ : ZaA), ()))
 else none))))
def Zey : CEp where
 f := 84
 args := [.one (.ptr 0 0), .one (.int .i64)]
 hs := [.cobj 78 25]
 res := .val (.one (.int .i64))
 outs := [.cobj 78 25]
 m := fun d dh => ZaU d.2.1 dh.1
 ok := ceO Tryz.func84 (by kernel_rfl) ZuA (by kernel_rfl) fun d dh => by kernel_rfl
def ZzR : List (CEp) := [Zey, Zl2]
def Zi1 (x1 : Int) (h0 : ZaA) : Option (LB × ((ZaA) × Unit × Unit)) :=
 (ZaU x1 h0).bind fun r1 =>
 (bif r1.2.1.failed then
 some ([], (r1.2.1, (), ()))
 else
 (bif (decide (((r1.2.1.left.length : Int) : Int) < r1.1)) then
 (ZkR r1.2.1).bind fun r2 =>
 some ([], ((⟨r2.2.1.1, r2.2.1.2.1⟩ : ZaA), (), ()))
 else
 (if 0 <= ((0 : Int) : Int) /\ ((0 : Int) : Int) <= r1.1 /\ r1.1 <= (r1.2.1.left.length : Int) then
 let y3 : LB := ((r1.2.1.left.drop ((0 : Int) : Int).toNat).take ((r1.1 : Int).toNat - ((0 : Int) : Int).toNat))
 (if ([] : LB).length + y3.length <= 140737488355328 /\ (([] : LB).length + y3.length) * 1 <= 140737488355328 then
 (if 0 <= (r1.1 : Int) /\ (r1.1 : Int) <= (r1.2.1.left.length : Int) /\ (r1.2.1.left.length : Int) <= (r1.2.1.left.length : Int) then
 let y4 : LB := ((r1.2.1.left.drop (r1.1 : Int).toNat).take (((r1.2.1.left.length : Int) : Int).toNat - (r1.1 : Int).toNat))
 some ((([] : LB) ++ y3), ((⟨y4, r1.2.1.failed⟩ : ZaA), (), ()))
 else none)
 else none)
 else none)))
def Zof : CEp where
 f := 154
 args := [.one (.ptr 0 0), .one (.int .i64)]
 hs := [.cobj 78 25]
 res := .val (.one (.own 1 1))
 outs := [.cobj 78 25, .row 5 1]
 m := fun d dh => Zi1 d.2.1 dh.1
 ok := ceO Tryz.func154 (by kernel_rfl) ZzR (by kernel_rfl) fun d dh => by kernel_rfl
def ZxK : List (CEp) := [Zl2]
def ZkS (h0 : ZaA) : Option (Bool × ((ZaA) × Unit)) :=
 (bif h0.failed then
 some (false, (h0, ()))
 else
 (bif (decide (((h0.left.length : Int) : Int) = 0)) then
 (ZkR h0).bind fun r1 =>
 some (false, ((⟨r1.2.1.1, r1.2.1.2.1⟩ : ZaA), ()))
 else
 (Zbs h0.left 0).bind fun e2 =>
 (bif (decide ((1 : Int) < (e2.toNat : Int))) then
 (ZkR h0).bind fun r3 =>
 some (false, ((⟨r3.2.1.1, r3.2.1.2.1⟩ : ZaA), ()))
 else
 (Zbs h0.left 0).bind fun e4 =>
 (if 0 <= (1 : Int) /\ (1 : Int) <= (h0.left.length : Int) /\ (h0.left.length : Int) <= (h0.left.length : Int) then
 let y5 : LB := ((h0.left.drop (1 : Int).toNat).take (((h0.left.length : Int) : Int).toNat - (1 : Int).toNat))
 some ((decide (((e4.toNat : Int) : Int) = 1)), ((⟨y5, h0.failed⟩ : ZaA), ()))
 else none))))
def ZrB : CEp where
 f := 155
 args := [.one (.ptr 0 0)]
 hs := [.cobj 78 25]
 res := .val (.one (.bool))
 outs := [.cobj 78 25]
 m := fun d dh => ZkS dh.1
 ok := ceO Tryz.func155 (by kernel_rfl) ZxK (by kernel_rfl) fun d dh => by kernel_rfl
def ZtK : List (CEp) := []
def ZkT (a : ((List UInt8) × Int × Unit) × Unit) : Option ((((List UInt8) × Int × Unit) × Unit) ⊕ (((Bool × Unit) × Unit) ⊕ (Unit × Unit))) :=
 (bif (decide ((a.1.2.1 : Int) < (a.1.1.length : Int))) then
 (Zbs a.1.1 a.1.2.1).bind fun e1 =>
 (bif (decide ((97 : Int) <= (e1.toNat : Int))) then
 (Zbs a.1.1 a.1.2.1).bind fun e2 =>
 (bif (decide (((e2.toNat : Int) : Int) <= 122)) then
 some (.inl ((a.1.1, (IntKind.i64.wrap (a.1.2.1 + 1)), ()), ()))
 else
 (Zbs a.1.1 a.1.2.1).bind fun e3 =>
 (bif (decide ((48 : Int) <= (e3.toNat : Int))) then
 (Zbs a.1.1 a.1.2.1).bind fun e4 =>
 (bif (!(decide (((e4.toNat : Int) : Int) <= 57))) then
 some (.inr (.inl ((false, ()), ())))
 else
 some (.inl ((a.1.1, (IntKind.i64.wrap (a.1.2.1 + 1)), ()), ())))
 else
 some (.inr (.inl ((false, ()), ())))))
 else
 (Zbs a.1.1 a.1.2.1).bind fun e5 =>
 (bif (decide ((48 : Int) <= (e5.toNat : Int))) then
 (Zbs a.1.1 a.1.2.1).bind fun e6 =>
 (bif (!(decide (((e6.toNat : Int) : Int) <= 57))) then
 some (.inr (.inl ((false, ()), ())))
 else
 some (.inl ((a.1.1, (IntKind.i64.wrap (a.1.2.1 + 1)), ()), ())))
 else
 some (.inr (.inl ((false, ()), ())))))
 else
 some (.inr (.inr ((), ()))))
def ZkU : LEp := ⟨4, [0, 3], [.one (.str), .one (.int .i64)], [], [⟨.ret, [2], [.one (.bool)], []⟩, ⟨.exit 0, [], [], []⟩], ZkT⟩
def ZtL : List (LEp) := [ZkU]
theorem ZuB : ZdE ZkU (ZcN (ZaD Tryz.f190) 0) := fun A env h k z hk => Za3 (E := ZkU) (Zad ZtK) (dr := dr0) (lps := Zap ZtL) (Zal (by kernel_rfl)) (fun a => by kernel_rfl) env h k z hk
def Zl3 (x0 : List UInt8) : Option (Bool × Unit) :=
 (bif (decide (((x0.length : Int) : Int) < 1)) then
 some (false, ())
 else
 (bif (decide ((20 : Int) < (x0.length : Int))) then
 some (false, ())
 else
 (Zas ZkT ((x0, 0, ()), ())).bind fun b1 =>
 (match b1 with
 | .inl b2 =>
 some (b2.1.1, ())
 | .inr b3 =>
 some (true, ()))))
def ZtM : CEp where
 f := 190
 args := [.one (.str)]
 hs := []
 res := .val (.one (.bool))
 outs := []
 m := fun d dh => Zl3 d.1
 ok := ZaO Zar Tryz.func190 (by kernel_rfl) (Zad ZtK) (dr := dr0) (lps := Zap ZtL) (Zau (ZaI (n := 1) (by kernel_rfl) fun i hi => match i, hi with | 0, _ => Za4 (E := ZkU) (by kernel_rfl) ZuB)) (fun d dh => by kernel_rfl)
def Zws : List (CEp) := [ZtM]
def Zj4 (x0 : Zao) : Option (Bool × Unit) :=
 (bif (decide (x0.lo ≠ ([] : List UInt8))) then
 (Zl3 x0.lo).bind fun r1 =>
 (bif (!r1.1) then
 some (false, ())
 else
 (bif (decide (x0.hi = ([] : List UInt8))) then
 some (true, ())
 else
 (Zl3 x0.hi).bind fun r2 =>
 (bif r2.1 then
 some ((decide (x0.lo < x0.hi)), ())
 else
 some (false, ()))))
 else
 (bif (decide (x0.hi = ([] : List UInt8))) then
 some (true, ())
 else
 (Zl3 x0.hi).bind fun r3 =>
 (bif r3.1 then
 some ((decide (x0.lo < x0.hi)), ())
 else
 some (false, ()))))
def Zo2 : CEp where
 f := 110
 args := [.cod 4]
 hs := []
 res := .val (.one (.bool))
 outs := []
 m := fun d dh => Zj4 d.1
 ok := ceO Tryz.func110 (by kernel_rfl) Zws (by kernel_rfl) fun d dh => by kernel_rfl
def Zo3 : Nat -> Nat -> DrA
 | 6, _ => ⟨(List.range 23 ++ [24, 25, 26, 27, 23, 28, 29, 30, 31, 32]), [[], [], [0, 1], [0, 1, 2], [0, 1, 2, 3], (List.range 5), (List.range 6), (List.range 7), (List.range 8), (List.range 9), (List.range 10), (List.range 10), (List.range 10 ++ [11]), (List.range 13), (List.range 14), (List.range 15), (List.range 16), (List.range 17), (List.range 18), (List.range 18), (List.range 18 ++ [19]), (List.range 21), (List.range 22), (List.range 23), (List.range 18), (List.range 18), (List.range 18 ++ [24, 25]), (List.range 18 ++ [24, 25, 26]), (List.range 18 ++ [24, 25, 26, 27]), (List.range 29), (List.range 30), (List.range 31), (List.range 32)], [], [], [], false, []⟩
 | _, _ => ⟨[], [], [], [], [], false, []⟩
def Zo4 : List (CEp) := [Zo2]
def Zhi (a : ((List (Zao)) × Int × Unit) × Unit) : Option ((((List (Zao)) × Int × Unit) × Unit) ⊕ (((Bool × Unit) × Unit) ⊕ (Unit × Unit))) :=
 (bif (decide ((a.1.2.1 : Int) < (a.1.1.length : Int))) then
 (Zbs a.1.1 a.1.2.1).bind fun e1 =>
 (Zj4 e1).bind fun r2 =>
 (bif (!r2.1) then
 some (.inr (.inl ((false, ()), ())))
 else
 (bif (decide ((0 : Int) < a.1.2.1)) then
 (Zbs a.1.1 (IntKind.i64.wrap (a.1.2.1 - 1))).bind fun e3 =>
 (bif (decide (e3.hi = ([] : List UInt8))) then
 some (.inr (.inl ((false, ()), ())))
 else
 (Zbs a.1.1 (IntKind.i64.wrap (a.1.2.1 - 1))).bind fun e4 =>
 (Zbs a.1.1 a.1.2.1).bind fun e5 =>
 (bif (decide (e4.hi ≠ e5.lo)) then
 some (.inr (.inl ((false, ()), ())))
 else
 some (.inl ((a.1.1, (IntKind.i64.wrap (a.1.2.1 + 1)), ()), ()))))
 else
 some (.inl ((a.1.1, (IntKind.i64.wrap (a.1.2.1 + 1)), ()), ()))))
 else
 some (.inr (.inr ((), ()))))
def Zhj : LEp := ⟨4, [0, 3], [.one (.sl 4), .one (.int .i64)], [], [⟨.ret, [2], [.one (.bool)], []⟩, ⟨.exit 0, [], [], []⟩], Zhi⟩
def Zo5 : List (LEp) := [Zhj]
theorem ZrC : ZdE Zhj (ZcN (ZaD Tryz.f61) 0) := fun A env h k z hk => Za3 (E := Zhj) (Zad Zo4) (dr := Zo3) (lps := Zap Zo5) (Zal (by kernel_rfl)) (fun a => by kernel_rfl) env h k z hk
def ZmZ (x0 : List (Zao)) : Option (Bool × Unit) :=
 (bif (decide (((x0.length : Int) : Int) = 0)) then
 some (false, ())
 else
 (Zbs x0 0).bind fun e1 =>
 (bif (decide (e1.lo ≠ ([] : List UInt8))) then
 some (false, ())
 else
 (Zbs x0 (IntKind.i64.wrap ((x0.length : Int) - 1))).bind fun e2 =>
 (bif (decide (e2.hi ≠ ([] : List UInt8))) then
 some (false, ())
 else
 (Zas Zhi ((x0, 0, ()), ())).bind fun b3 =>
 (match b3 with
 | .inl b4 =>
 some (b4.1.1, ())
 | .inr b5 =>
 some (true, ())))))
def Zwt : CEp where
 f := 61
 args := [.one (.sl 4)]
 hs := []
 res := .val (.one (.bool))
 outs := []
 m := fun d dh => ZmZ d.1
 ok := ZaO Zar Tryz.func61 (by kernel_rfl) (Zad Zo4) (dr := Zo3) (lps := Zap Zo5) (Zau (ZaI (n := 1) (by kernel_rfl) fun i hi => match i, hi with | 0, _ => Za4 (E := Zhj) (by kernel_rfl) ZrC)) (fun d dh => by kernel_rfl)
def Zo6 : List (CEp) := [Zwt]
def Zhk (a : (Unit × (List (Zao)) × Int × Unit) × ((Zai) × Unit × Unit)) : Option (((Unit × (List (Zao)) × Int × Unit) × ((Zai) × Unit × Unit)) ⊕ (((Bool × Unit) × ((Zai) × Unit × Unit)) ⊕ (((List (Zao)) × Unit) × ((Zai) × Unit × Unit × Unit)))) :=
 (bif (decide ((a.1.2.2.1 : Int) < (a.2.1.list.length : Int))) then
 (Zbs a.2.1.list a.1.2.2.1).bind fun e1 =>
 (bif (decide ((e1.group : Int) < 1)) then
 some (.inr (.inl ((false, ()), (a.2.1, (), ()))))
 else
 (bif (decide ((4 : Int) < e1.group)) then
 some (.inr (.inl ((false, ()), (a.2.1, (), ()))))
 else
 (bif (decide ((e1.epoch : Int) < 1)) then
 some (.inr (.inl ((false, ()), (a.2.1, (), ()))))
 else
 (bif (decide ((a.2.1.epoch : Int) < e1.epoch)) then
 some (.inr (.inl ((false, ()), (a.2.1, (), ()))))
 else
 (if a.1.2.1.length + ([e1.span] : List (Zao)).length <= 140737488355328 /\ (a.1.2.1.length + ([e1.span] : List (Zao)).length) * 32 <= 140737488355328 then
 some (.inl (((), (a.1.2.1 ++ ([e1.span] : List (Zao))), (IntKind.i64.wrap (a.1.2.2.1 + 1)), ()), (a.2.1, (), ())))
 else none)))))
 else
 some (.inr (.inr ((a.1.2.1, ()), (a.2.1, (), (), ())))))
def Zhl : LEp := ⟨5, [1, 3, 4], [.one (.ptr 0 0), .one (.own 4 1), .one (.int .i64)], [.cobj 29 8, .row 35 2], [⟨.ret, [2], [.one (.bool)], [.cobj 29 8, .dead]⟩, ⟨.exit 0, [3], [.one (.own 4 2)], [.cobj 29 8, .dead, .row 35 2]⟩], Zhk⟩
def Zo7 : List (LEp) := [Zhl]
theorem ZrD : ZdE Zhl (ZcN (ZaD Tryz.f21) 0) := fun A env h k z hk => Za3 (E := Zhl) (Zad Zo6) (dr := dr0) (lps := Zap Zo7) (Zal (by kernel_rfl)) (fun a => by kernel_rfl) env h k z hk
def Zm0 (x0 : Zai) : Option (Bool × Unit) :=
 (bif (decide ((x0.epoch : Int) < 1)) then
 some (false, ())
 else
 (bif (decide ((1073741824 : Int) < x0.epoch)) then
 some (false, ())
 else
 (bif (decide ((40 : Int) < (x0.list.length : Int))) then
 some (false, ())
 else
 (Zas Zhk (((), [], 0, ()), (x0, (), ()))).bind fun b1 =>
 (match b1 with
 | .inl b2 =>
 some (b2.1.1, ())
 | .inr b3 =>
 (ZmZ b3.1.1).bind fun r4 =>
 some (r4.1, ())))))
def Zwu : CEp where
 f := 21
 args := [.cod 8]
 hs := []
 res := .val (.one (.bool))
 outs := []
 m := fun d dh => Zm0 d.1
 ok := ZaO Zar Tryz.func21 (by kernel_rfl) (Zad Zo6) (dr := dr0) (lps := Zap Zo7) (Zau (ZaI (n := 1) (by kernel_rfl) fun i hi => match i, hi with | 0, _ => Za4 (E := Zhl) (by kernel_rfl) ZrD)) (fun d dh => by kernel_rfl)
def ZzS : List (CEp) := [Zo2]
def ZuC (x0 : Zak) : Option (Bool × Unit) :=
 (bif (decide ((x0.num : Int) < 1)) then
 some (false, ())
 else
 (bif (decide ((1073741824 : Int) < x0.num)) then
 some (false, ())
 else
 (Zj4 x0.span).bind fun r1 =>
 (bif (!r1.1) then
 some (false, ())
 else
 (bif (decide ((x0.from_ : Int) < 1)) then
 some (false, ())
 else
 (bif (decide ((4 : Int) < x0.from_)) then
 some (false, ())
 else
 (bif (decide ((x0.to_ : Int) < 1)) then
 some (false, ())
 else
 (bif (decide ((4 : Int) < x0.to_)) then
 some (false, ())
 else
 (bif (decide ((x0.from_ : Int) = x0.to_)) then
 some (false, ())
 else
 (bif (decide ((x0.epoch : Int) < 1)) then
 some (false, ())
 else
 (bif (decide ((1073741824 : Int) < x0.epoch)) then
 some (false, ())
 else
 (bif (decide ((x0.stage : Int) < 1)) then
 some (false, ())
 else
 (bif (decide ((9 : Int) < x0.stage)) then
 some (false, ())
 else
 (bif (decide ((4 : Int) <= x0.stage)) then
 (bif (decide ((x0.stage : Int) <= 6)) then
 (bif (decide ((x0.epoch : Int) < x0.under)) then
 some ((decide ((x0.under : Int) <= 1073741824)), ())
 else
 some (false, ()))
 else
 some ((decide ((x0.under : Int) = 0)), ()))
 else
 some ((decide ((x0.under : Int) = 0)), ()))))))))))))))
def ZzT : CEp where
 f := 196
 args := [.cod 19]
 hs := []
 res := .val (.one (.bool))
 outs := []
 m := fun d dh => ZuC d.1
 ok := ceO Tryz.func196 (by kernel_rfl) ZzS (by kernel_rfl) fun d dh => by kernel_rfl
def ZxL : List (CEp) := [Zey, Zof, ZzT]
def Zqf (h0 : ZaA) : Option (((Zak) × Bool × Unit) × ((ZaA) × Unit)) :=
 (ZaU 1073741824 h0).bind fun r1 =>
 (Zi1 20 r1.2.1).bind fun r2 =>
 (Zi1 20 r2.2.1).bind fun r3 =>
 (ZaU 4 r3.2.1).bind fun r4 =>
 (ZaU 4 r4.2.1).bind fun r5 =>
 (ZaU 1073741824 r5.2.1).bind fun r6 =>
 (ZaU 1073741824 r6.2.1).bind fun r7 =>
 (ZaU 9 r7.2.1).bind fun r8 =>
 (bif r8.2.1.failed then
 some (((⟨0, (⟨([] : List UInt8), ([] : List UInt8)⟩ : Zao), 0, 0, 0, 0, 0⟩ : Zak), false, ()), (r8.2.1, ()))
 else
 (ZuC (⟨r1.1, (⟨r2.1, r3.1⟩ : Zao), r4.1, r5.1, r6.1, r7.1, (IntKind.u8.wrap r8.1)⟩ : Zak)).bind fun r9 =>
 (bif (!r9.1) then
 some (((⟨0, (⟨([] : List UInt8), ([] : List UInt8)⟩ : Zao), 0, 0, 0, 0, 0⟩ : Zak), false, ()), (r8.2.1, ()))
 else
 some (((⟨r1.1, (⟨r2.1, r3.1⟩ : Zao), r4.1, r5.1, r6.1, r7.1, (IntKind.u8.wrap r8.1)⟩ : Zak), true, ()), (r8.2.1, ()))))
def ZxM : CEp where
 f := 156
 args := [.one (.ptr 0 0)]
 hs := [.cobj 78 25]
 res := .tup [.cod 19, .one (.bool)]
 outs := [.cobj 78 25]
 m := fun d dh => Zqf dh.1
 ok := ceO Tryz.func156 (by kernel_rfl) ZxL (by kernel_rfl) fun d dh => by kernel_rfl
def ZxN : List (CEp) := []
def Zqg (x0 : Zak) : Option (Bool × Unit) :=
 (bif (decide ((x0.stage : Int) = 6)) then
 some (true, ())
 else
 some ((decide ((x0.stage : Int) = 9)), ()))
def ZxO : CEp where
 f := 117
 args := [.cod 19]
 hs := []
 res := .val (.one (.bool))
 outs := []
 m := fun d dh => Zqg d.1
 ok := ceO Tryz.func117 (by kernel_rfl) ZxN (by kernel_rfl) fun d dh => by kernel_rfl
def ZrE : Nat -> Nat -> DrA
 | 21, _ => ⟨[0, 1, 3, 2, 4, 5], [[], [], [1], [0], [0, 1, 2, 3], (List.range 5)], [1], [3], [5], false, [2]⟩
 | _, _ => ⟨[], [], [], [], [], false, []⟩
def ZrF : List (CEp) := [Zey, Zof, ZrB, Zwu, ZxM, ZxO]
def ZgM (a : (Unit × Unit × Unit × Int × Int × Unit) × ((ZaA) × (Int × (List (Zaf)) × Unit) × (Int × (List (Zaf)) × Unit) × Unit × Unit × Unit)) : Option (((Unit × Unit × Unit × Int × Int × Unit) × ((ZaA) × (Int × (List (Zaf)) × Unit) × (Int × (List (Zaf)) × Unit) × Unit × Unit × Unit)) ⊕ (((Unit × Unit × Unit × Unit) × ((ZaA) × (Int × (List (Zaf)) × Unit) × (Int × (List (Zaf)) × Unit) × Unit × Unit × Unit × Unit × Unit)))) :=
 (bif (decide ((a.1.2.2.2.2.1 : Int) < a.1.2.2.2.1)) then
 (Zi1 20 a.2.1).bind fun r1 =>
 (Zi1 20 r1.2.1).bind fun r2 =>
 (ZaU 1073741824 r2.2.1).bind fun r3 =>
 (ZaU 1073741824 r3.2.1).bind fun r4 =>
 (if a.2.2.2.1.2.1.length + ([(⟨(⟨r1.1, r2.1⟩ : Zao), r3.1, r4.1⟩ : Zaf)] : List (Zaf)).length <= 140737488355328 /\ (a.2.2.2.1.2.1.length + ([(⟨(⟨r1.1, r2.1⟩ : Zao), r3.1, r4.1⟩ : Zaf)] : List (Zaf)).length) * 48 <= 140737488355328 then
 let y5 : List (Zaf) := (a.2.2.2.1.2.1 ++ ([(⟨(⟨r1.1, r2.1⟩ : Zao), r3.1, r4.1⟩ : Zaf)] : List (Zaf)))
 some (.inl (((), (), (), a.1.2.2.2.1, (IntKind.i64.wrap (a.1.2.2.2.2.1 + 1)), ()), (r4.2.1, a.2.2.1, (a.2.2.2.1.1, y5, ()), (), (), ())))
 else none)
 else
 some (.inr (((), (), (), ()), (a.2.1, a.2.2.1, a.2.2.2.1, (), (), (), (), ()))))
def Zi2 : LEp := ⟨5, [0, 2, 5, 6, 7], [.one (.ptr 0 0), .one (.ptr 1 0), .one (.ptr 2 0), .one (.int .i64), .one (.int .i64)], [.cobj 78 25, .obj 29 [.int .i64, .own 5 3], .obj 29 [.int .i64, .own 5 4], .row 99 4, .row 99 4], [⟨.exit 0, [0, 2, 5], [.one (.ptr 0 0), .one (.ptr 1 0), .one (.ptr 2 0)], [.cobj 78 25, .obj 29 [.int .i64, .own 5 5], .obj 29 [.int .i64, .own 5 6], .dead, .dead, .row 99 4, .row 99 4]⟩], ZgM⟩
def ZrG : List (LEp) := [Zi2]
theorem Zta : ZdE Zi2 (ZcN (ZaD Tryz.f79) 0) := fun A env h k z hk => Za3 (E := Zi2) (Zad ZrF) (dr := ZrE) (lps := Zap ZrG) (Zal (by kernel_rfl)) (fun a => by kernel_rfl) env h k z hk
def Zm1 (h0 : ZaA) : Option (((Zai) × (Nat × Nat × Nat) × Bool × Unit) × ((ZaA) × (List (Zak)) × Unit)) :=
 (ZaU 1073741824 h0).bind fun r1 =>
 (ZaU 40 r1.2.1).bind fun r2 =>
 (Zas ZgM (((), (), (), r2.1, 0, ()), (r2.2.1, (0, [], ()), (r1.1, [], ()), (), (), ()))).bind fun b3 =>
 (ZkS b3.2.1).bind fun r4 =>
 (bif r4.2.1.failed then
 some (((⟨0, []⟩ : Zai), (0, 0, 0), false, ()), (r4.2.1, [], ()))
 else
 (Zm0 (⟨b3.2.2.2.1.1, b3.2.2.2.1.2.1⟩ : Zai)).bind fun r5 =>
 (bif (!r5.1) then
 some (((⟨0, []⟩ : Zai), (0, 0, 0), false, ()), (r4.2.1, [], ()))
 else
 (bif (!r4.1) then
 some (((⟨b3.2.2.2.1.1, b3.2.2.2.1.2.1⟩ : Zai), (0, 0, 0), true, ()), (r4.2.1, [], ()))
 else
 (Zqf r4.2.1).bind fun r6 =>
 (bif (!r6.1.2.1) then
 some (((⟨0, []⟩ : Zai), (0, 0, 0), false, ()), (r6.2.1, [], ()))
 else
 (Zqg r6.1.1).bind fun r7 =>
 (bif r7.1 then
 some (((⟨0, []⟩ : Zai), (0, 0, 0), false, ()), (r6.2.1, [], ()))
 else
 some (((⟨b3.2.2.2.1.1, b3.2.2.2.1.2.1⟩ : Zai), (0, 1, 1), true, ()), (r6.2.1, ([r6.1.1] : List (Zak)), ())))))))
def ZrH : CEp where
 f := 79
 args := [.one (.ptr 0 0)]
 hs := [.cobj 78 25]
 res := .tup [.cod 8, .one (.as 19 1), .one (.bool)]
 outs := [.cobj 78 25, .arr 71 19 false]
 m := fun d dh => Zm1 dh.1
 ok := ZaO Zar Tryz.func79 (by kernel_rfl) (Zad ZrF) (dr := ZrE) (lps := Zap ZrG) (Zau (ZaI (n := 1) (by kernel_rfl) fun i hi => match i, hi with | 0, _ => Za4 (E := Zi2) (by kernel_rfl) Zta)) (fun d dh => by kernel_rfl)
def ZzU : List (CEp) := []
def ZuD (h0 : ZaA) : Option (Int × ((ZaA) × Unit)) :=
 (bif h0.failed then
 some (4, (h0, ()))
 else
 (bif (decide ((0 : Int) < (h0.left.length : Int))) then
 some (4, (h0, ()))
 else
 some (0, (h0, ()))))
def ZzV : CEp where
 f := 80
 args := [.one (.ptr 0 0)]
 hs := [.cobj 78 25]
 res := .val (.one (.int .i64))
 outs := [.cobj 78 25]
 m := fun d dh => ZuD dh.1
 ok := ceO Tryz.func80 (by kernel_rfl) ZzU (by kernel_rfl) fun d dh => by kernel_rfl
def ZrI : Nat -> Nat -> DrA
 | 7, _ => ⟨[1, 2, 0, 3, 4, 5, 6, 7], [[], [], [1], [1, 2], [0], (List.range 5), (List.range 6), (List.range 7)], [3], [4], [3], false, []⟩
 | _, _ => ⟨[], [], [], [], [], false, []⟩
end
end Go.Proofs.YtaihdjknneiciaaGreat
