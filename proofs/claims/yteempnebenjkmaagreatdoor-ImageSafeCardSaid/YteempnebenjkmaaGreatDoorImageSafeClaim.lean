/- WHAT IS PROVED: for every input the law ImageSafe of package watershedlaw09 returns true, and its arguments read as they did. No condition. -/
import Derived.Test.YteempnebenjkmaaGreatDoorIs
import Derived.Test.YteempnebenjkmaaGreatDoorOpen
import Derived.Test.YteempnebenjkmaaGreatDoorRows
import Derived.OpenShut
import Derived.ShutString
import Derived.ChangeOld
import Derived.ChangeVars
import Derived.JoinedOf
import Derived.LaidLaws
import Derived.Deep.DeepLaidRun
import Derived.Handed
import Derived.Test.YteempnebenjkmaaGreatDoorCards
import Derived.Test.YteempnebenjkmaaGreatDoorTie
import Derived.SevenTiedAt
namespace Go.Proofs.YteempnebenjkmaaGreatDoor.ImageSafeClaim
open Go.ChangeShapes Go.WideShapes Go.ChangeAt Go.RowKit
set_option linter.unusedVariables false
set_option maxRecDepth 100000
theorem own : ownKnob Tryz.prog.godebug = none := by kernel_rfl
theorem laidOut : laidOutB Tryz.prog = true := by kernel_rfl
theorem sh0 : Zg2 Tryz.prog 12 3 = some [.i .i64] := by kernel_rfl
theorem sh1 : Zg2 Tryz.prog 12 44 = some [.i .i64, .i .i64, .l [.i .i64], .l [.i .i64], .l [.i .i64], .l [.i .i64], .l [.i .u8]] := by kernel_rfl
theorem sh3 : Zg2 Tryz.prog 12 22 = some [.l [.i .u8]] := by kernel_rfl

noncomputable def laidW (os : Os) : World :=
  let w0 := World.holding Tryz.prog os ⟨#[], #[], []⟩
  { w0 with heap := ((w0.heap.modify 0 fun
      | .cells _ t frozen => .cells #[.int .u64 1, .int .u64 10, .int .u64 100, .int .u64 1000, .int .u64 10000, .int .u64 100000, .int .u64 1000000, .int .u64 10000000, .int .u64 100000000, .int .u64 1000000000, .int .u64 10000000000, .int .u64 100000000000, .int .u64 1000000000000, .int .u64 10000000000000, .int .u64 100000000000000, .int .u64 1000000000000000, .int .u64 10000000000000000, .int .u64 100000000000000000, .int .u64 1000000000000000000, .int .u64 10000000000000000000] t frozen
      | o => o).modify 1 fun
      | .cells _ t frozen => .cells #[.int .u8 0, .int .u8 1, .int .u8 28, .int .u8 2, .int .u8 29, .int .u8 14, .int .u8 24, .int .u8 3, .int .u8 30, .int .u8 22, .int .u8 20, .int .u8 15, .int .u8 25, .int .u8 17, .int .u8 4, .int .u8 8, .int .u8 31, .int .u8 27, .int .u8 13, .int .u8 23, .int .u8 21, .int .u8 19, .int .u8 16, .int .u8 7, .int .u8 26, .int .u8 12, .int .u8 18, .int .u8 6, .int .u8 11, .int .u8 5, .int .u8 10, .int .u8 9] t frozen
      | o => o).modify 2 fun
      | .cells _ t frozen => .cells #[.int .u8 0, .int .u8 1, .int .u8 56, .int .u8 2, .int .u8 57, .int .u8 49, .int .u8 28, .int .u8 3, .int .u8 61, .int .u8 58, .int .u8 42, .int .u8 50, .int .u8 38, .int .u8 29, .int .u8 17, .int .u8 4, .int .u8 62, .int .u8 47, .int .u8 59, .int .u8 36, .int .u8 45, .int .u8 43, .int .u8 51, .int .u8 22, .int .u8 53, .int .u8 39, .int .u8 33, .int .u8 30, .int .u8 24, .int .u8 18, .int .u8 12, .int .u8 5, .int .u8 63, .int .u8 55, .int .u8 48, .int .u8 27, .int .u8 60, .int .u8 41, .int .u8 37, .int .u8 16, .int .u8 46, .int .u8 35, .int .u8 44, .int .u8 21, .int .u8 52, .int .u8 32, .int .u8 23, .int .u8 11, .int .u8 54, .int .u8 26, .int .u8 40, .int .u8 15, .int .u8 34, .int .u8 20, .int .u8 31, .int .u8 10, .int .u8 25, .int .u8 14, .int .u8 19, .int .u8 9, .int .u8 13, .int .u8 8, .int .u8 7, .int .u8 6] t frozen
      | o => o }
theorem laid_met (os : Os) (args : Array Value) : laidMet Tryz.prog Rows.imageSafeRow.laid ((laidW os).forCall (fun _ _ => 0) ⟨#[], args, []⟩).memory :=
  laidMet_of_run3 8 (by kernel_rfl) (by kernel_rfl) (by kernel_rfl)
theorem lifted (os : Os) (started : os.Started) (H : Type) (enc : TypeId × Value -> H) :
    ReturnsInHanded {} Tryz.checked os 6 .any (fun w args => (Rows.imageSafeSpec.pre enc Tryz.prog Tryz.f6 Rows.imageSafeRow.domain false w args /\ laidMet Tryz.prog Rows.imageSafeRow.laid w) /\ sizedMet enc Tryz.prog Tryz.f6 (OpenSpec.ofChange Rows.imageSafeSpec) false w args) (Rows.imageSafeSpec.post enc Tryz.prog Tryz.f6 false true false false) := by
  refine returnsInHanded_of_change_and (C := Tryz.checked) (X := fun w _ => laidMet Tryz.prog Rows.imageSafeRow.laid w) (fun _ _ _ hh h => h.of_heap hh) own started (by kernel_rfl) Tryz.func6
    (ChangeSpec.witness_at (enc := enc) (C := Tryz.checked) (os := os) (X := fun w _ => laidMet Tryz.prog Rows.imageSafeRow.laid w) false (laidW os) #[.int .i64 0, .agg #[.int .i64 0, .int .i64 0, .slice none 0 0, .slice none 0 0, .slice none 0 0, .slice none 0 0, .slice none 0 0], .agg #[.int .i64 0, .int .i64 0, .slice none 0 0, .slice none 0 0, .slice none 0 0, .slice none 0 0, .slice none 0 0], .slice none 0 0, .int .i64 0] 8 rfl (by kernel_rfl) (by kernel_rfl) (by kernel_rfl) (by kernel_rfl) (by kernel_rfl) (laid_met os _)) ?_
  intro W base args ds gs before hval0 hW hcnd hsz0 hL _
  have hval : ∀ (j : Nat) t v, Tryz.f6.params[j]? = some t -> args[j]? = some v -> Value.okWide Tryz.prog W .any base t v := hval0
  have hsz : (DataW.weightsEach Tryz.prog (Tryz.f6.params.toList ++ Rows.imageSafeSpec.plain.varTypes Tryz.prog) (ds ++ gs)).all (· <= reachBytes) = true := hsz0
  have hW' := hW
  obtain ⟨p, q, hA0, hV, rfl, hfz, hnd⟩ := hW
  have hA : DataW.TrodAll enc Tryz.prog W 0 (fun _ => true) true Tryz.f6.params.toList args.toList ds p := hA0
  rw [Tryz.params6] at hA hval hsz
  obtain ⟨v0, vs0, d0, ds0, p0, q0, hargs, rfl, rfl, h0, r0⟩ := trodAll_cons hA
  obtain ⟨v1, vs1, d1, ds1, p1, q1, rfl, rfl, rfl, h1, r1⟩ := trodAll_cons r0
  obtain ⟨v2, vs2, d2, ds2, p2, q2, rfl, rfl, rfl, h2, r2⟩ := trodAll_cons r1
  obtain ⟨v3, vs3, d3, ds3, p3, q3, rfl, rfl, rfl, h3, r3⟩ := trodAll_cons r2
  obtain ⟨v4, vs4, d4, ds4, p4, q4, rfl, rfl, rfl, h4, r4⟩ := trodAll_cons r3
  obtain ⟨rfl, rfl, rfl⟩ := trodAll_nil r4
  obtain rfl : args = #[v0, v1, v2, v3, v4] := by cases args; simp_all
  obtain ⟨rfl, rfl⟩ := trodVars_none hV
  have lt0 : ∀ x ∈ p0, x.block < W.heap.size := by obtain ⟨m, hm⟩ := h0; exact DataW.trod_lt m _ _ _ hm
  have lt1 : ∀ x ∈ p1, x.block < W.heap.size := by obtain ⟨m, hm⟩ := h1; exact DataW.trod_lt m _ _ _ hm
  have lt2 : ∀ x ∈ p2, x.block < W.heap.size := by obtain ⟨m, hm⟩ := h2; exact DataW.trod_lt m _ _ _ hm
  have lt3 : ∀ x ∈ p3, x.block < W.heap.size := by obtain ⟨m, hm⟩ := h3; exact DataW.trod_lt m _ _ _ hm
  have lt4 : ∀ x ∈ p4, x.block < W.heap.size := by obtain ⟨m, hm⟩ := h4; exact DataW.trod_lt m _ _ _ hm
  obtain ⟨xs0, hr0, hf0⟩ : ∃ xs, Zd2 (Old W) W xs v0.cells.toList /\ Za7 [.i .i64] xs := by
    obtain ⟨m, hm⟩ := h0
    exact ZlH m 12 _ _ _ d0 p0 sh0 hm (fun n hn => by simpa using List.all_eq_true.1 hsz _ (DataW.weights_mem_each (j := 0) rfl rfl n hn))
  obtain ⟨x0, q0, k0⟩ := ZsR xs0 hf0 hr0.smallD
  obtain ⟨n0, rfl⟩ := okWide_int Tryz.underlying3 (hval 0 3 v0 rfl rfl)
  obtain ⟨a0, ea0, va0, sa0⟩ := ZqB q0 hr0
  obtain ⟨xs1, hr1, hf1⟩ : ∃ xs, Zd2 (Old W) W xs v1.cells.toList /\ Za7 [.i .i64, .i .i64, .l [.i .i64], .l [.i .i64], .l [.i .i64], .l [.i .i64], .l [.i .u8]] xs := by
    obtain ⟨m, hm⟩ := h1
    exact ZlH m 12 _ _ _ d1 p1 sh1 hm (fun n hn => by simpa using List.all_eq_true.1 hsz _ (DataW.weights_mem_each (j := 1) rfl rfl n hn))
  obtain ⟨x1, q1, k1⟩ := ZxD xs1 hf1 hr1.smallD
  obtain ⟨cs1, rfl, _⟩ := okWide_struct Tryz.underlying44 (hval 1 44 v1 rfl rfl)
  obtain ⟨a1, ea1, va1, sa1⟩ := ZuC q1 hr1
  obtain ⟨xs2, hr2, hf2⟩ : ∃ xs, Zd2 (Old W) W xs v2.cells.toList /\ Za7 [.i .i64, .i .i64, .l [.i .i64], .l [.i .i64], .l [.i .i64], .l [.i .i64], .l [.i .u8]] xs := by
    obtain ⟨m, hm⟩ := h2
    exact ZlH m 12 _ _ _ d2 p2 sh1 hm (fun n hn => by simpa using List.all_eq_true.1 hsz _ (DataW.weights_mem_each (j := 2) rfl rfl n hn))
  obtain ⟨x2, q2, k2⟩ := ZxD xs2 hf2 hr2.smallD
  obtain ⟨cs2, rfl, _⟩ := okWide_struct Tryz.underlying44 (hval 2 44 v2 rfl rfl)
  obtain ⟨a2, ea2, va2, sa2⟩ := ZuC q2 hr2
  obtain ⟨xs3, hr3, hf3⟩ : ∃ xs, Zd2 (Old W) W xs v3.cells.toList /\ Za7 [.l [.i .u8]] xs := by
    obtain ⟨m, hm⟩ := h3
    exact ZlH m 12 _ _ _ d3 p3 sh3 hm (fun n hn => by simpa using List.all_eq_true.1 hsz _ (DataW.weights_mem_each (j := 3) rfl rfl n hn))
  obtain ⟨x3, q3, k3⟩ := ZBP xs3 hf3 hr3.smallD
  obtain ⟨b3, len3, cap3, rfl⟩ := okWide_slice Tryz.underlying22 (hval 3 22 v3 rfl rfl)
  obtain ⟨a3, ea3, va3, sa3⟩ := ZqB q3 hr3
  obtain ⟨xs4, hr4, hf4⟩ : ∃ xs, Zd2 (Old W) W xs v4.cells.toList /\ Za7 [.i .i64] xs := by
    obtain ⟨m, hm⟩ := h4
    exact ZlH m 12 _ _ _ d4 p4 sh0 hm (fun n hn => by simpa using List.all_eq_true.1 hsz _ (DataW.weights_mem_each (j := 4) rfl rfl n hn))
  obtain ⟨x4, q4, k4⟩ := ZsR xs4 hf4 hr4.smallD
  obtain ⟨n4, rfl⟩ := okWide_int Tryz.underlying3 (hval 4 3 v4 rfl rfl)
  obtain ⟨a4, ea4, va4, sa4⟩ := ZqB q4 hr4
  clear hA0 hval0
  refine (Zwx (by kernel_rfl) (ZpS x0 x1 x2 x3 x4 k0 k1 k2 k3 k4) (w := W) (vals := [_, .agg cs1, .agg cs2, _, _]) (.one a0 ea0 va0 sa0 (.one a1 ea1 va1 sa1 (.one a2 ea2 va2 sa2 (.one a3 ea3 va3 sa3 (.one a4 ea4 va4 sa4 (.none))))))).mono fun e W' ⟨he, hk⟩ => ?_
  subst he
  have bel := hk.below'
  exact ⟨_, rfl, _, _, _, [], _, [], hW', trodAll_mk1 (shut_bool Tryz.underlying4 _), (trodAll_cons_mk (Below.trod laidOut (by kernel_rfl) (of_decide_eq_true (by kernel_rfl)) h0 bel lt0) (trodAll_cons_mk (Below.trod laidOut (by kernel_rfl) (of_decide_eq_true (by kernel_rfl)) h1 bel lt1) (trodAll_cons_mk (Below.trod laidOut (by kernel_rfl) (of_decide_eq_true (by kernel_rfl)) h2 bel lt2) (trodAll_cons_mk (Below.trod laidOut (by kernel_rfl) (of_decide_eq_true (by kernel_rfl)) h3 bel lt3) (trodAll_cons_mk (Below.trod laidOut (by kernel_rfl) (of_decide_eq_true (by kernel_rfl)) h4 bel lt4) trodAll_mk0))))), rfl, bel.frame _, fun h => by cases h⟩

theorem row_holds : Rows.ImageSafeSaid :=
  OpenClaim.holds_of_wide 6 Tryz.f6 rfl rfl rfl rfl rfl rfl rfl ⟨rfl, rfl, rfl, rfl, rfl⟩ rfl rfl rfl rfl rfl (by kernel_rfl) Tryz.func6 (by kernel_rfl)
    (of_decide_eq_true (by kernel_rfl)) (by unfold Func.isWrapper; first | (rw [if_pos (by decide +kernel)]; kernel_rfl) | (rw [if_neg (by decide +kernel)]; exact ⟨rfl, rfl⟩))
    (fun os started H enc _ => lifted os started H enc)

theorem holds : Rows.ImageSafeCardSaid :=
  Claim7.holds_tied_plain_at .later [] [.data, .data, .data] true (true, "6bd6dccf22800b057db350788ee30bdc6ce6f5730464a2df8e00ad99ed1af251") false
    row_holds (fun _ h => by cases h) (by kernel_rfl) (fun _ h => by cases h) imageSafe_row_tie rfl ⟨rfl, rfl⟩ (by kernel_rfl) rfl
    (fun f fn hf hfn => by
      obtain rfl : f = 6 := Option.some.inj ((show Tryz.prog.funcNamed "watershed/watershedlaw09.ImageSafe" = some 6 by kernel_rfl).symm.trans hf) |>.symm
      obtain rfl : fn = Tryz.f6 := (Option.some.inj (Tryz.func6.symm.trans hfn)).symm
      exact ⟨by kernel_rfl, fun j t ht => by
        rw [Tryz.params6] at ht
        rcases j with _ | _ | _ | _ | _ | j
        · obtain rfl : t = 3 := by simpa using ht.symm
          exact (show Tryz.prog.wantsStandIn 3 = false by kernel_rfl)
        · obtain rfl : t = 44 := by simpa using ht.symm
          exact (show Tryz.prog.wantsStandIn 44 = false by kernel_rfl)
        · obtain rfl : t = 44 := by simpa using ht.symm
          exact (show Tryz.prog.wantsStandIn 44 = false by kernel_rfl)
        · obtain rfl : t = 22 := by simpa using ht.symm
          exact (show Tryz.prog.wantsStandIn 22 = false by kernel_rfl)
        · obtain rfl : t = 3 := by simpa using ht.symm
          exact (show Tryz.prog.wantsStandIn 3 = false by kernel_rfl)
        · simp at ht⟩)
    (by kernel_rfl)
end Go.Proofs.YteempnebenjkmaaGreatDoor.ImageSafeClaim
