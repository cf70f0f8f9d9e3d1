/- LogNil, plainly. -/
import Derived.Test.YtlkphbhmfoehpaaLoa
import Derived.Test.YtlkphbhmfoehpaaG2
namespace Go.Proofs.Ytlkphbhmfoehpaa
open Go.RowKit
set_option maxRecDepth 100000
set_option linter.unusedVariables false
set_option linter.unusedSimpArgs false
theorem c0_ok : OkC ⟨[], [], [], []⟩ := ⟨by simp [OkI], by simp [OkI], by simp [OkI], by simp [OkI]⟩
theorem sameC0 : watershedkit_SameConfig ⟨[], [], [], []⟩ ⟨[], [], [], []⟩ = some (true, ()) := by
  rw [SameConfig_p _ _ c0_ok c0_ok, decide_eq_true rfl]
theorem sameB0 : watershedkit_SameBase ⟨0, 0, ⟨[], [], [], []⟩⟩ ⟨0, 0, ⟨[], [], [], []⟩⟩ = some (true, ()) := by
  unfold watershedkit_SameBase
  exact condT rfl (condT rfl (bindS sameC0 rfl))
theorem LogNil_p (x0 : DAct) (k0 : ok_DAct x0) : watershedlaw10_LogNil x0 = some (true, ()) := by
  unfold watershedlaw10_LogNil
  refine bindS awake_p (condF rfl ?_)
  rcases great_p [x0] (fun x hx => by rw [List.mem_singleton.1 hx]; exact k0) (by simp) with hg | ⟨hg, _⟩
  · exact bindS hg (condT rfl rfl)
  refine bindS hg (condF rfl ?_)
  refine bindS (v := ((0, false, ()), ())) rfl (bindS (v := ((0, false, ()), ())) rfl (bindS (v := ((⟨0, 0, [], ⟨[], [], [], []⟩⟩, false, ()), ())) rfl (bindS (v := ((⟨[], [], [], []⟩, 0, ()), ())) rfl (bindS (v := (0, ())) rfl (condF rfl (condF rfl (condF rfl (condF rfl (condF rfl (condF rfl (condF rfl (bindS sameC0 (condF rfl (bindS (v := (0, ())) rfl (condF rfl (bindS (v := (false, ())) rfl (condF rfl (bindS (v := (false, ())) rfl (condF rfl (bindS (v := ((), ())) rfl (bindS (v := (⟨0, 0, ⟨[], [], [], []⟩⟩, ())) rfl (bindS sameB0 (condF rfl ?_)))))))))))))))))))))))
  refine bindS rfl (bindS rfl (bindS rfl (bindS rfl (bindS rfl (condF rfl (condF rfl (condF rfl (condF rfl (condF rfl (condF rfl (condF rfl (bindS sameC0 (condF rfl (bindS rfl (condF rfl (bindS rfl (condF rfl (bindS rfl (condF rfl (bindS rfl (condF rfl (bindS rfl (bindS sameB0 (condF rfl rfl))))))))))))))))))))))))
end Go.Proofs.Ytlkphbhmfoehpaa
