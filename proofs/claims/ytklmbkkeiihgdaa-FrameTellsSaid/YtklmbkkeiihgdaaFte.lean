/- FrameTells, plainly. -/
import Derived.Test.YtklmbkkeiihgdaaG2
namespace Go.Proofs.Ytklmbkkeiihgdaa
open Go.RowKit
theorem FrameTells_p (x0 : List DFrame) (x1 : List UInt8) (k0 : ok_LDFrame x0) (k1 : ok_LUInt8 x1) : frameTells x0 x1 = some (true, ()) := by
  unfold frameTells
  rw [if_pos ⟨k0.len, fun f hf => (k0.all f hf).2.1.len, k1.len⟩]
end Go.Proofs.Ytklmbkkeiihgdaa
