/- WHAT IS PROVED: for every input the law JournalBytes of package watershedlaw08 returns true, and its arguments read as they did. No condition. -/
import Derived.Test.YtiienjjhlibopaaGreatDoorLb
import Derived.Test.YtiienjjhlibopaaGreatDoorMac
import Derived.Test.YtiienjjhlibopaaGreatDoorRows
import Derived.OpenShut
import Derived.ShutString
import Derived.ChangeOld
import Derived.ChangeVars
import Derived.JoinedOf
import Derived.LaidLaws
import Derived.Deep.DeepLaidRun
import Derived.Handed
import Derived.Test.YtiienjjhlibopaaGreatDoorCards
import Derived.Test.YtiienjjhlibopaaGreatDoorTie
import Derived.SevenTiedAt
namespace Go.Proofs.YtiienjjhlibopaaGreatDoor.JournalBytesClaim
open Go.ChangeShapes Go.WideShapes Go.ChangeAt Go.RowKit
set_option linter.unusedVariables false
set_option maxRecDepth 100000
theorem own : ownKnob Tryz.prog.godebug = none := by kernel_rfl
theorem laidOut : laidOutB Tryz.prog = true := by kernel_rfl
theorem sh0 : Zen Tryz.prog 12 28 = some [.i .i64, .i .u8, .l [.i .u8], .l [.i .i64], .l [.i .i64], .l [.i .i64], .l [.i .i64]] := by kernel_rfl
theorem sh1 : Zen Tryz.prog 12 30 = some [.i .i64, .i .i64, .l [.i .i64], .l [.i .i64], .l [.i .i64], .l [.i .i64]] := by kernel_rfl
theorem sh2 : Zen Tryz.prog 12 23 = some [.l [.i .u8]] := by kernel_rfl

noncomputable def laidW (os : Os) : World :=
 let w0 := World.holding Tryz.prog os ⟨#[], #[], []⟩
 { w0 with heap := ((w0.heap.modify 0 fun
  | .cells _ t frozen => .cells #[.int .u64 1, .int .u64 10, .int .u64 100, .int .u64 1000, .int .u64 10000, .int .u64 100000, .int .u64 1000000, .int .u64 10000000, .int .u64 100000000, .int .u64 1000000000, .int .u64 10000000000, .int .u64 100000000000, .int .u64 1000000000000, .int .u64 10000000000000, .int .u64 100000000000000, .int .u64 1000000000000000, .int .u64 10000000000000000, .int .u64 100000000000000000, .int .u64 1000000000000000000, .int .u64 10000000000000000000] t frozen
  | o => o).modify 1 fun
  | .cells _ t frozen => .cells #[.int .u8 0, .int .u8 1, .int .u8 28, .int .u8 2, .int .u8 29, .int .u8 14, .int .u8 24, .int .u8 3, .int .u8 30, .int .u8 22, .int .u8 20, .int .u8 15, .int .u8 25, .int .u8 17, .int .u8 4, .int .u8 8, .int .u8 31, .int .u8 27, .int .u8 13, .int .u8 23, .int .u8 21, .int .u8 19, .int .u8 16, .int .u8 7, .int .u8 26, .int .u8 12, .int .u8 18, .int .u8 6, .int .u8 11, .int .u8 5, .int .u8 10, .int .u8 9] t frozen
  | o => o).modify 2 fun
  | .cells _ t frozen => .cells #[.int .u8 0, .int .u8 1, .int .u8 56, .int .u8 2, .int .u8 57, .int .u8 49, .int .u8 28, .int .u8 3, .int .u8 61, .int .u8 58, .int .u8 42, .int .u8 50, .int .u8 38, .int .u8 29, .int .u8 17, .int .u8 4, .int .u8 62, .int .u8 47, .int .u8 59, .int .u8 36, .int .u8 45, .int .u8 43, .int .u8 51, .int .u8 22, .int .u8 53, .int .u8 39, .int .u8 33, .int .u8 30, .int .u8 24, .int .u8 18, .int .u8 12, .int .u8 5, .int .u8 63, .int .u8 55, .int .u8 48, .int .u8 27, .int .u8 60, .int .u8 41, .int .u8 37, .int .u8 16, .int .u8 46, .int .u8 35, .int .u8 44, .int .u8 21, .int .u8 52, .int .u8 32, .int .u8 23, .int .u8 11, .int .u8 54, .int .u8 26, .int .u8 40, .int .u8 15, .int .u8 34, .int .u8 20, .int .u8 31, .int .u8 10, .int .u8 25, .int .u8 14, .int .u8 19, .int .u8 9, .int .u8 13, .int .u8 8, .int .u8 7, .int .u8 6] t frozen
  | o => o }
theorem laid_met (os : Os) (args : Array Value) : laidMet Tryz.prog Rows.journalBytesRow.laid ((laidW os).forCall (fun _ _ => 0) ⟨#[], args, []⟩).memory :=
 laidMet_of_run3 8 (by kernel_rfl) (by kernel_rfl) (by kernel_rfl)
theorem lifted (os : Os) (started : os.Started) (H : Type) (enc : TypeId × Value -> H) :
 ReturnsInHanded {} Tryz.checked os 3 .any (fun w args => (Rows.journalBytesSpec.pre enc Tryz.prog Tryz.f3 Rows.journalBytesRow.domain false w args /\ laidMet Tryz.prog Rows.journalBytesRow.laid w) /\ sizedMet enc Tryz.prog Tryz.f3 (OpenSpec.ofChange Rows.journalBytesSpec) false w args) (Rows.journalBytesSpec.post enc Tryz.prog Tryz.f3 false true false false) := by
 refine returnsInHanded_of_change_and (C := Tryz.checked) (X := fun w _ => laidMet Tryz.prog Rows.journalBytesRow.laid w) (fun _ _ _ hh h => h.of_heap hh) own started (by kernel_rfl) Tryz.func3
  (ChangeSpec.witness_at (enc := enc) (C := Tryz.checked) (os := os) (X := fun w _ => laidMet Tryz.prog Rows.journalBytesRow.laid w) false (laidW os) #[.agg #[.int .i64 0, .int .u8 0, .slice none 0 0, .slice none 0 0, .slice none 0 0, .slice none 0 0, .slice none 0 0], .agg #[.int .i64 0, .int .i64 0, .slice none 0 0, .slice none 0 0, .slice none 0 0, .slice none 0 0], .slice none 0 0] 8 rfl (by kernel_rfl) (by kernel_rfl) (by kernel_rfl) (by kernel_rfl) (by kernel_rfl) (laid_met os _)) ?_
 intro W base args ds gs before hval0 hW hcnd hsz0 hL _
 have hval : ∀ (j : Nat) t v, Tryz.f3.params[j]? = some t -> args[j]? = some v -> Value.okWide Tryz.prog W .any base t v := hval0
 have hsz : (DataW.weightsEach Tryz.prog (Tryz.f3.params.toList ++ Rows.journalBytesSpec.plain.varTypes Tryz.prog) (ds ++ gs)).all (· <= reachBytes) = true := hsz0
 have hW' := hW
 obtain ⟨p, q, hA0, hV, rfl, hfz, hnd⟩ := hW
 have hA : DataW.TrodAll enc Tryz.prog W 0 (fun _ => true) true Tryz.f3.params.toList args.toList ds p := hA0
 rw [Tryz.params3] at hA hval hsz
 obtain ⟨v0, vs0, d0, ds0, p0, q0, hargs, rfl, rfl, h0, r0⟩ := trodAll_cons hA
 obtain ⟨v1, vs1, d1, ds1, p1, q1, rfl, rfl, rfl, h1, r1⟩ := trodAll_cons r0
 obtain ⟨v2, vs2, d2, ds2, p2, q2, rfl, rfl, rfl, h2, r2⟩ := trodAll_cons r1
 obtain ⟨rfl, rfl, rfl⟩ := trodAll_nil r2
 obtain rfl : args = #[v0, v1, v2] := by cases args; simp_all
 obtain ⟨rfl, rfl⟩ := trodVars_none hV
 have lt0 : ∀ x ∈ p0, x.block < W.heap.size := by obtain ⟨m, hm⟩ := h0; exact DataW.trod_lt m _ _ _ hm
 have lt1 : ∀ x ∈ p1, x.block < W.heap.size := by obtain ⟨m, hm⟩ := h1; exact DataW.trod_lt m _ _ _ hm
 have lt2 : ∀ x ∈ p2, x.block < W.heap.size := by obtain ⟨m, hm⟩ := h2; exact DataW.trod_lt m _ _ _ hm
 obtain ⟨xs0, hr0, hf0⟩ : ∃ xs, ZeQ (Old W) W xs v0.cells.toList /\ Zbk [.i .i64, .i .u8, .l [.i .u8], .l [.i .i64], .l [.i .i64], .l [.i .i64], .l [.i .i64]] xs := by
  obtain ⟨m, hm⟩ := h0
  exact Zi3 m 12 _ _ _ d0 p0 sh0 hm (fun n hn => by simpa using List.all_eq_true.1 hsz _ (DataW.weights_mem_each (j := 0) rfl rfl n hn))
 obtain ⟨x0, q0, k0⟩ := Zst xs0 hf0 hr0.smallD
 obtain ⟨cs0, rfl, _⟩ := okWide_struct Tryz.underlying28 (hval 0 28 v0 rfl rfl)
 obtain ⟨a0, ea0, va0, sa0⟩ := Zmr q0 hr0
 obtain ⟨xs1, hr1, hf1⟩ : ∃ xs, ZeQ (Old W) W xs v1.cells.toList /\ Zbk [.i .i64, .i .i64, .l [.i .i64], .l [.i .i64], .l [.i .i64], .l [.i .i64]] xs := by
  obtain ⟨m, hm⟩ := h1
  exact Zi3 m 12 _ _ _ d1 p1 sh1 hm (fun n hn => by simpa using List.all_eq_true.1 hsz _ (DataW.weights_mem_each (j := 1) rfl rfl n hn))
 obtain ⟨x1, q1, k1⟩ := Zsu xs1 hf1 hr1.smallD
 obtain ⟨cs1, rfl, _⟩ := okWide_struct Tryz.underlying30 (hval 1 30 v1 rfl rfl)
 obtain ⟨a1, ea1, va1, sa1⟩ := Zmr q1 hr1
 obtain ⟨xs2, hr2, hf2⟩ : ∃ xs, ZeQ (Old W) W xs v2.cells.toList /\ Zbk [.l [.i .u8]] xs := by
  obtain ⟨m, hm⟩ := h2
  exact Zi3 m 12 _ _ _ d2 p2 sh2 hm (fun n hn => by simpa using List.all_eq_true.1 hsz _ (DataW.weights_mem_each (j := 2) rfl rfl n hn))
 obtain ⟨x2, q2, k2⟩ := Zss xs2 hf2 hr2.smallD
 obtain ⟨b2, Zs2, cap2, rfl⟩ := okWide_slice Tryz.underlying23 (hval 2 23 v2 rfl rfl)
 obtain ⟨a2, ea2, va2, sa2⟩ := ZpR q2 hr2
 clear hA0 hval0
 refine (Zn2 (by kernel_rfl) (Zht x0 x1 x2 k0 k1 k2) (w := W) (vals := [.agg cs0, .agg cs1, _]) (.one a0 ea0 va0 sa0 (.one a1 ea1 va1 sa1 (.one a2 ea2 va2 sa2 (.none))))).mono fun e W' ⟨he, hk⟩ => ?_
 subst he
 have bel := hk.below'
 exact ⟨_, rfl, _, _, _, [], _, [], hW', trodAll_mk1 (shut_bool Tryz.underlying4 _), (trodAll_cons_mk (Below.trod laidOut (by kernel_rfl) (of_decide_eq_true (by kernel_rfl)) h0 bel lt0) (trodAll_cons_mk (Below.trod laidOut (by kernel_rfl) (of_decide_eq_true (by kernel_rfl)) h1 bel lt1) (trodAll_cons_mk (Below.trod laidOut (by kernel_rfl) (of_decide_eq_true (by kernel_rfl)) h2 bel lt2) trodAll_mk0))), rfl, bel.frame _, fun h => by cases h⟩

theorem p1 : joinedFacts Tryz.pinned.checked.prog 3 Tryz.f3 Rows.journalBytesSpec Rows.journalBytesRow = true := by kernel_rfl
theorem p2 : Tryz.pinned.checked.prog.funcNamed Rows.journalBytesRow.func = some 3 := by kernel_rfl
theorem p3 : Tryz.f3.isInstance Tryz.pinned.checked.prog Rows.journalBytesRow.origin Rows.journalBytesRow.targs := of_decide_eq_true (by kernel_rfl)
theorem p4 : Tryz.f3.isWrapper Tryz.pinned.checked.prog Rows.journalBytesRow.wrapper Rows.journalBytesRow.mainSum := by unfold Func.isWrapper; first | (rw [if_pos (by decide +kernel)]; kernel_rfl) | (rw [if_neg (by decide +kernel)]; exact ⟨rfl, rfl⟩)
theorem p5 : Rows.journalBytesRow.wfByText (OpenSpec.ofChange Rows.journalBytesSpec) = true := by kernel_rfl
theorem p6 : true = Tryz.pinned.checked.prog.looks [] := by kernel_rfl
theorem p7 : false = Rows.journalBytesRow.goesBy Tryz.pinned.checked.prog := by kernel_rfl
theorem row_holds : Rows.JournalBytesSaid :=
 OpenClaim.holds_of_wide 3 Tryz.f3 rfl rfl rfl rfl rfl rfl rfl ⟨rfl, rfl, rfl, rfl, rfl⟩ rfl rfl rfl rfl rfl p2 Tryz.func3 p1 p3 p4
  (fun os started H enc _ => lifted os started H enc)

theorem holds : Rows.JournalBytesCardSaid :=
 Claim7.holds_tied_plain_at .later [] [.data, .data, .data] true (true, "bac9aea77f066d6ddfee4482160b595abb42817cb6e3254f4cd78159ffaad9e3") true
  row_holds (fun _ h => by cases h) p5 (fun _ h => by cases h) journalBytes_row_tie rfl ⟨rfl, rfl⟩ (by kernel_rfl) rfl
  (fun f fn hf hfn => by
   obtain rfl : f = 3 := Option.some.inj ((show Tryz.prog.funcNamed "watershed/watershedlaw08.JournalBytes" = some 3 by kernel_rfl).symm.trans hf) |>.symm
   obtain rfl : fn = Tryz.f3 := (Option.some.inj (Tryz.func3.symm.trans hfn)).symm
   exact ⟨p6, fun j t ht => by
    rw [Tryz.params3] at ht
    rcases j with _ | _ | _ | j
    ·obtain rfl : t = 28 := by simpa using ht.symm
     exact (show Tryz.prog.wantsStandIn 28 = false by kernel_rfl)
    ·obtain rfl : t = 30 := by simpa using ht.symm
     exact (show Tryz.prog.wantsStandIn 30 = false by kernel_rfl)
    ·obtain rfl : t = 23 := by simpa using ht.symm
     exact (show Tryz.prog.wantsStandIn 23 = false by kernel_rfl)
    ·simp at ht⟩)
  p7
end Go.Proofs.YtiienjjhlibopaaGreatDoor.JournalBytesClaim