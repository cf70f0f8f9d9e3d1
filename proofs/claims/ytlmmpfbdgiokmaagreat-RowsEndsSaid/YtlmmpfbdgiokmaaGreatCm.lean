/- strings.Compare: the entry of the library's own. -/
import Derived.Test.YtlmmpfbdgiokmaaGreatX16
import Derived.Lib.Bytealg
namespace Go.Proofs.YtlmmpfbdgiokmaaGreat
open Go.RowKit
set_option linter.unusedSimpArgs false
set_option maxRecDepth 100000
set_option linter.unusedVariables false
variable {T : Nat -> Type}
section
variable {C : Zau T} {P : Program}
theorem Zxg {f : FuncId} {fn : Func} {x y : List UInt8} (hf : P.funcs[f]? = some fn) (hname : (fn.name == "runtime.NumGoroutine") = false) (hb : fn.body.isNone = true) (hn : Extern.findNext fn = none) (hx : Extern.find fn = some Extern.BytealgCompare.compare) : Tr C P (fun _ => True) f [.str x, .str y] [] (.int .i64 (Lib.compareBytes x y)) [] := by
 intro ρ σ vs hs H
 obtain ⟨a, b, rfl, h1, h2⟩ := ZiI.1 hs
 intro w Z hH hV
 rw [Zc1.1 h1, Zc1.1 h2]
 have key := Lib.run_compareString (P := P) ⟨x.toArray⟩ ⟨y.toArray⟩ w
 refine .inr ⟨.int .i64 (Lib.compareBytes x y), w, ?_, .raw (.int .i64 (Lib.compareBytes x y)), σ, by simp, ⟨ρ, Zat.2 rfl, H, .refl _ _ _ _⟩, hH, ZaE _, Grow.refl _ _⟩
 rw [run_callFunc_extern hf hname hb hn hx]
 simp only [List.map_cons, List.map_nil, AV.val_raw]
 change ((Extern.BytealgCompare.compare #[.string ⟨x.toArray⟩, .string ⟨y.toArray⟩]).run P w).andThen _ = _
 rw [key]
 rfl
end
end Go.Proofs.YtlmmpfbdgiokmaaGreat
