/- WHAT IS PROVED: for every input the law RaftNil of package watershedlaw12 returns true, and its arguments read as they did. No condition. -/
import Derived.Test.YtmffcfjdacoigaaGreatRn
import Derived.Test.YtmffcfjdacoigaaGreatRows
import Derived.OpenShut
import Derived.ShutString
import Derived.ChangeOld
namespace Go.Proofs.YtmffcfjdacoigaaGreat.RaftNilClaim
open Go.ChangeShapes Go.WideShapes Go.ChangeAt Go.RowKit
set_option linter.unusedVariables false
set_option maxRecDepth 100000
theorem own : ownKnob Tryz.prog.godebug = none := by kernel_rfl
theorem laidOut : laidOutB Tryz.prog = true := by kernel_rfl
theorem sh0 : shapeOf Tryz.prog 12 58 = some [.i .i64, .i .i64, .i .u8, .i .i64, .i .i64, .i .i64, .i .i64, .i .i64, .i .i64, .i .i64, .b, .l [.i .i64, .i .u8, .l [.i .u8], .l [.i .i64], .l [.i .i64], .l [.i .i64], .l [.i .i64]], .i .i64, .i .i64, .l [.i .i64], .l [.i .i64], .l [.i .i64], .l [.i .i64], .i .i64, .i .i64, .i .i64, .l [.i .u8], .l [.l [.i .u8]], .l [.i .i64], .i .i64, .i .i64, .l [.i .i64], .l [.i .i64], .l [.i .i64], .l [.i .i64]] := by kernel_rfl

theorem lifted (os : Os) (started : os.Started) (H : Type) (enc : TypeId × Value → H) :
    ReturnsInHanded {} Tryz.checked os 4 .any (Rows.raftNilSpec.pre6 enc Tryz.prog Tryz.f4 Rows.raftNilRow.domain false) (Rows.raftNilSpec.post enc Tryz.prog Tryz.f4 false true false false) := by
  refine returnsInHanded_of_change_sized (C := Tryz.checked) own started (by kernel_rfl) Tryz.func4
    (ChangeSpec.witness6 (enc := enc) (C := Tryz.checked) false ⟨#[], #[.agg #[.int .i64 0, .int .i64 0, .int .u8 0, .int .i64 0, .int .i64 0, .int .i64 0, .int .i64 0, .int .i64 0, .int .i64 0, .int .i64 0, .bool false, .slice none 0 0, .int .i64 0, .int .i64 0, .slice none 0 0, .slice none 0 0, .slice none 0 0, .slice none 0 0, .int .i64 0, .int .i64 0, .int .i64 0, .slice none 0 0, .slice none 0 0, .slice none 0 0, .int .i64 0, .int .i64 0, .slice none 0 0, .slice none 0 0, .slice none 0 0, .slice none 0 0]], []⟩ 8 (by kernel_rfl) (by kernel_rfl) (by kernel_rfl) (by kernel_rfl)) ?_
  intro W base args ds gs before hval0 hW hcnd hsz0 _
  have hval : ∀ (j : Nat) t v, Tryz.f4.params[j]? = some t → args[j]? = some v → Value.okWide Tryz.prog W .any base t v := hval0
  have hsz : (DataW.weightsEach Tryz.prog (Tryz.f4.params.toList ++ Rows.raftNilSpec.plain.varTypes Tryz.prog) (ds ++ gs)).all (· ≤ reachBytes) = true := hsz0
  have hW' := hW
  obtain ⟨p, q, hA0, hV, rfl, hfz, hnd⟩ := hW
  have hA : DataW.TrodAll enc Tryz.prog W 0 (fun _ => true) true Tryz.f4.params.toList args.toList ds p := hA0
  rw [Tryz.params4] at hA hval hsz
  obtain ⟨v0, vs0, d0, ds0, p0, q0, hargs, rfl, rfl, h0, r0⟩ := trodAll_cons hA
  obtain ⟨rfl, rfl, rfl⟩ := trodAll_nil r0
  obtain rfl : args = #[v0] := by cases args; simp_all
  obtain ⟨rfl, rfl⟩ := trodVars_none hV
  have lt0 : ∀ x ∈ p0, x.block < W.heap.size := by obtain ⟨m, hm⟩ := h0; exact DataW.trod_lt m _ _ _ hm
  obtain ⟨xs0, hr0, hf0⟩ : ∃ xs, Reps (Old W) W xs v0.cells.toList ∧ FitsAll [.i .i64, .i .i64, .i .u8, .i .i64, .i .i64, .i .i64, .i .i64, .i .i64, .i .i64, .i .i64, .b, .l [.i .i64, .i .u8, .l [.i .u8], .l [.i .i64], .l [.i .i64], .l [.i .i64], .l [.i .i64]], .i .i64, .i .i64, .l [.i .i64], .l [.i .i64], .l [.i .i64], .l [.i .i64], .i .i64, .i .i64, .i .i64, .l [.i .u8], .l [.l [.i .u8]], .l [.i .i64], .i .i64, .i .i64, .l [.i .i64], .l [.i .i64], .l [.i .i64], .l [.i .i64]] xs := by
    obtain ⟨m, hm⟩ := h0
    exact opened m 12 _ _ _ d0 p0 sh0 hm (fun n hn => by simpa using List.all_eq_true.1 hsz _ (DataW.weights_mem_each (j := 0) rfl rfl n hn))
  obtain ⟨x0, q0, k0⟩ := fit_13 xs0 hf0 hr0.smallD
  obtain ⟨cs0, rfl, _⟩ := okWide_struct Tryz.underlying58 (hval 0 58 v0 rfl rfl)
  obtain ⟨a0, ea0, va0, sa0⟩ := arg_agg q0 hr0
  clear hA0 hval0
  refine (law_args (by kernel_rfl) (wl_RaftNil_ce.ok (x0, ()) () _ (RaftNil_p x0 k0)) (w := W) (vals := [.agg cs0]) (.one a0 ea0 va0 sa0 (.none))).mono fun e W' ⟨he, hk⟩ => ?_
  subst he
  have bel := hk.below'
  exact ⟨_, rfl, _, _, _, [], _, [], hW', trodAll_mk1 (shut_bool Tryz.underlying4 _), (trodAll_cons_mk (Below.trod laidOut (by kernel_rfl) (of_decide_eq_true (by kernel_rfl)) h0 bel lt0) trodAll_mk0), rfl, bel.frame _, fun h => by cases h⟩

theorem holds : Rows.RaftNilSaid :=
  OpenClaim.holds_of_wide 4 Tryz.f4 rfl rfl rfl rfl rfl rfl rfl ⟨rfl, rfl, rfl, rfl, rfl⟩ rfl rfl rfl rfl rfl (by kernel_rfl) Tryz.func4 (by kernel_rfl)
    (of_decide_eq_true (by kernel_rfl)) (by unfold Func.isWrapper; first | (rw [if_pos (by decide +kernel)]; kernel_rfl) | (rw [if_neg (by decide +kernel)]; exact ⟨rfl, rfl⟩))
    (fun os started H enc _ => lifted os started H enc)
end Go.Proofs.YtmffcfjdacoigaaGreat.RaftNilClaim
