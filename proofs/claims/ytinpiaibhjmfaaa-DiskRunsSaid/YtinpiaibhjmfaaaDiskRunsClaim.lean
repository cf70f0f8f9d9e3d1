/- WHAT IS PROVED: for every input the law DiskRuns of package watershedlaw07 returns true, and its arguments read as they did. No condition. -/
import Derived.Test.YtinpiaibhjmfaaaRef
import Derived.Test.YtinpiaibhjmfaaaOpen
import Derived.Test.YtinpiaibhjmfaaaRows
import Derived.OpenShut
import Derived.ShutString
import Derived.ChangeOld
namespace Go.Proofs.Ytinpiaibhjmfaaa.DiskRunsClaim
open Go.ChangeShapes Go.WideShapes Go.ChangeAt Go.RowKit
set_option linter.unusedVariables false
set_option maxRecDepth 100000
theorem own : ownKnob Try.prog.godebug = none := by kernel_rfl
theorem laidOut : laidOutB Try.prog = true := by kernel_rfl
theorem sh0 : ZeY Try.prog 12 3 = some [.i .i64] := by kernel_rfl
theorem sh1 : ZeY Try.prog 12 29 = some [.l [.i .i64, .s, .l [.s], .i .i64, .l [.l [.i .u8]]]] := by kernel_rfl

theorem lifted (os : Os) (started : os.Started) (H : Type) (enc : TypeId × Value -> H) :
 ReturnsInHanded {} Try.checked os 4 .any (Rows.diskRunsSpec.pre6 enc Try.prog Try.f4 Rows.diskRunsRow.domain false) (Rows.diskRunsSpec.post enc Try.prog Try.f4 false true false false) := by
 refine returnsInHanded_of_change_sized (C := Try.checked) own started (by kernel_rfl) Try.func4
  (ChangeSpec.witness6 (enc := enc) (C := Try.checked) false ⟨#[], #[.int .i64 0, .slice none 0 0, .int .i64 0, .slice none 0 0], []⟩ 8 (by kernel_rfl) (by kernel_rfl) (by kernel_rfl) (by kernel_rfl)) ?_
 intro W base args ds gs before hval0 hW hcnd hsz0 _
 have hval : ∀ (j : Nat) t v, Try.f4.params[j]? = some t -> args[j]? = some v -> Value.okWide Try.prog W .any base t v := hval0
 have hsz : (DataW.weightsEach Try.prog (Try.f4.params.toList ++ Rows.diskRunsSpec.plain.varTypes Try.prog) (ds ++ gs)).all (· <= reachBytes) = true := hsz0
 have hW' := hW
 obtain ⟨p, q, hA0, hV, rfl, hfz, hnd⟩ := hW
 have hA : DataW.TrodAll enc Try.prog W 0 (fun _ => true) true Try.f4.params.toList args.toList ds p := hA0
 rw [Try.params4] at hA hval hsz
 obtain ⟨v0, vs0, d0, ds0, p0, q0, hargs, rfl, rfl, h0, r0⟩ := trodAll_cons hA
 obtain ⟨v1, vs1, d1, ds1, p1, q1, rfl, rfl, rfl, h1, r1⟩ := trodAll_cons r0
 obtain ⟨v2, vs2, d2, ds2, p2, q2, rfl, rfl, rfl, h2, r2⟩ := trodAll_cons r1
 obtain ⟨v3, vs3, d3, ds3, p3, q3, rfl, rfl, rfl, h3, r3⟩ := trodAll_cons r2
 obtain ⟨rfl, rfl, rfl⟩ := trodAll_nil r3
 obtain rfl : args = #[v0, v1, v2, v3] := by cases args; simp_all
 obtain ⟨rfl, rfl⟩ := trodVars_none hV
 have lt0 : ∀ x ∈ p0, x.block < W.heap.size := by obtain ⟨m, hm⟩ := h0; exact DataW.trod_lt m _ _ _ hm
 have lt1 : ∀ x ∈ p1, x.block < W.heap.size := by obtain ⟨m, hm⟩ := h1; exact DataW.trod_lt m _ _ _ hm
 have lt2 : ∀ x ∈ p2, x.block < W.heap.size := by obtain ⟨m, hm⟩ := h2; exact DataW.trod_lt m _ _ _ hm
 have lt3 : ∀ x ∈ p3, x.block < W.heap.size := by obtain ⟨m, hm⟩ := h3; exact DataW.trod_lt m _ _ _ hm
 obtain ⟨xs0, hr0, hf0⟩ : ∃ xs, Zc7 (Old W) W xs v0.cells.toList /\ Zbb [.i .i64] xs := by
  obtain ⟨m, hm⟩ := h0
  exact Zg0 m 12 _ _ _ d0 p0 sh0 hm (fun n hn => by simpa using List.all_eq_true.1 hsz _ (DataW.weights_mem_each (j := 0) rfl rfl n hn))
 obtain ⟨x0, q0, k0⟩ := Zpe xs0 hf0 hr0.smallD
 obtain ⟨n0, rfl⟩ := okWide_int Try.underlying3 (hval 0 3 v0 rfl rfl)
 obtain ⟨a0, ea0, va0, sa0⟩ := Zhq q0 hr0
 obtain ⟨xs1, hr1, hf1⟩ : ∃ xs, Zc7 (Old W) W xs v1.cells.toList /\ Zbb [.l [.i .i64, .s, .l [.s], .i .i64, .l [.l [.i .u8]]]] xs := by
  obtain ⟨m, hm⟩ := h1
  exact Zg0 m 12 _ _ _ d1 p1 sh1 hm (fun n hn => by simpa using List.all_eq_true.1 hsz _ (DataW.weights_mem_each (j := 1) rfl rfl n hn))
 obtain ⟨x1, q1, k1⟩ := Zpf xs1 hf1 hr1.smallD
 obtain ⟨b1, len1, cap1, rfl⟩ := okWide_slice Try.underlying29 (hval 1 29 v1 rfl rfl)
 obtain ⟨a1, ea1, va1, sa1⟩ := Zhq q1 hr1
 obtain ⟨xs2, hr2, hf2⟩ : ∃ xs, Zc7 (Old W) W xs v2.cells.toList /\ Zbb [.i .i64] xs := by
  obtain ⟨m, hm⟩ := h2
  exact Zg0 m 12 _ _ _ d2 p2 sh0 hm (fun n hn => by simpa using List.all_eq_true.1 hsz _ (DataW.weights_mem_each (j := 2) rfl rfl n hn))
 obtain ⟨x2, q2, k2⟩ := Zpe xs2 hf2 hr2.smallD
 obtain ⟨n2, rfl⟩ := okWide_int Try.underlying3 (hval 2 3 v2 rfl rfl)
 obtain ⟨a2, ea2, va2, sa2⟩ := Zhq q2 hr2
 obtain ⟨xs3, hr3, hf3⟩ : ∃ xs, Zc7 (Old W) W xs v3.cells.toList /\ Zbb [.l [.i .i64, .s, .l [.s], .i .i64, .l [.l [.i .u8]]]] xs := by
  obtain ⟨m, hm⟩ := h3
  exact Zg0 m 12 _ _ _ d3 p3 sh1 hm (fun n hn => by simpa using List.all_eq_true.1 hsz _ (DataW.weights_mem_each (j := 3) rfl rfl n hn))
 obtain ⟨x3, q3, k3⟩ := Zpf xs3 hf3 hr3.smallD
 obtain ⟨b3, len3, cap3, rfl⟩ := okWide_slice Try.underlying29 (hval 3 29 v3 rfl rfl)
 obtain ⟨a3, ea3, va3, sa3⟩ := Zhq q3 hr3
 clear hA0 hval0
 refine (ZmH (by kernel_rfl) (Zjn x0 x1 x2 x3 ⟨fun x hx => k1.all x hx, k1.len⟩ k2 ⟨fun x hx => k3.all x hx, k3.len⟩) (w := W) (vals := [_, _, _, _]) (.one a0 ea0 va0 sa0 (.one a1 ea1 va1 sa1 (.one a2 ea2 va2 sa2 (.one a3 ea3 va3 sa3 (.none)))))).mono fun e W' ⟨he, hk⟩ => ?_
 subst he
 have bel := hk.below'
 exact ⟨_, rfl, _, _, _, [], _, [], hW', trodAll_mk1 (shut_bool Try.underlying4 _), (trodAll_cons_mk (Below.trod laidOut (by kernel_rfl) (of_decide_eq_true (by kernel_rfl)) h0 bel lt0) (trodAll_cons_mk (Below.trod laidOut (by kernel_rfl) (of_decide_eq_true (by kernel_rfl)) h1 bel lt1) (trodAll_cons_mk (Below.trod laidOut (by kernel_rfl) (of_decide_eq_true (by kernel_rfl)) h2 bel lt2) (trodAll_cons_mk (Below.trod laidOut (by kernel_rfl) (of_decide_eq_true (by kernel_rfl)) h3 bel lt3) trodAll_mk0)))), rfl, bel.frame _, fun h => by cases h⟩

theorem holds : Rows.DiskRunsSaid :=
 OpenClaim.holds_of_wide 4 Try.f4 rfl rfl rfl rfl rfl rfl rfl ⟨rfl, rfl, rfl, rfl, rfl⟩ rfl rfl rfl rfl rfl (by kernel_rfl) Try.func4 (by kernel_rfl)
  (of_decide_eq_true (by kernel_rfl)) (by unfold Func.isWrapper; first | (rw [if_pos (by decide +kernel)]; kernel_rfl) | (rw [if_neg (by decide +kernel)]; exact ⟨rfl, rfl⟩))
  (fun os started H enc _ => lifted os started H enc)
end Go.Proofs.Ytinpiaibhjmfaaa.DiskRunsClaim
