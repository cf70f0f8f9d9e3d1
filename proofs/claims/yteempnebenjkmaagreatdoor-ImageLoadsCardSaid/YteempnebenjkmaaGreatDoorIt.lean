/- Images loaded of any bytes: by the program, by the document (round 09Z). -/
import Derived.Test.YteempnebenjkmaaGreatDoorMl
import Derived.Test.YteempnebenjkmaaGreatDoorIta
import Derived.Test.YteempnebenjkmaaGreatDoorFb9
import Derived.Test.YteempnebenjkmaaGreatDoorMj
import Derived.Test.YteempnebenjkmaaGreatDoorMe
namespace Go.Proofs.YteempnebenjkmaaGreatDoor
open Go.RowKit
set_option maxRecDepth 100000
set_option linter.unusedVariables false
set_option linter.unusedSimpArgs false
section
variable {σ τ : St} {bb mb : Nat} {S : Nat -> Prop} {fs : List Fl} {pcs : List (Nat × Nat)} {size : Int} {pv : AV} {K : AV -> St -> Prop}
theorem Zwv {b : List UInt8} {a : AV} (hb : b.length <= 1000000) (ha : SV CT 0 ZaV (.sl 1 b none) a) (hK : ∀ v τ, SV CT 0 ZaV (.sl 15 ((ZaB b).1.map Zqc) none) v -> Ext σ τ -> K (.tup [v, vI ((ZaB b).2 : Int)]) τ) : Zal Tryz.prog 47 [a] σ K := by
 refine Zgd (Ztz.ok (b, ()) () _ (ZBZ hb)) (.cons ha .none) K fun v τ ρ' q1 _ q3 _ => ?_
 obtain ⟨ls, rfl, h1⟩ := Ze7.1 q1
 obtain ⟨v0, v1, rfl, g0, g1⟩ := Zig.1 h1
 obtain rfl := Zaw.1 g1
 exact hK v0 τ (SVs.shut ((Wk.drop _ _ _).sv g0) (by intro x hx; rw [List.mem_singleton.1 hx]; rfl)) q3
theorem ZnB {d : List UInt8} {a : AV} (hd : d.length <= 1000000) (ha : SV CT 0 ZaV (.sl 1 d none) a) (hK : ∀ as_ τ, SVs CT 0 ZaV (CT.enc 10 ((ZgA d).getD Zql)) as_ -> Ext σ τ -> K (.tup [.agg as_, vT (ZgA d).isSome]) τ) : Zal Tryz.prog 17 [a] σ K := by
 refine Zgd (ZtG.ok (d, ()) () _ (Zz6 hd)) (.cons ha .none) K fun v τ ρ' q1 _ q3 _ => ?_
 obtain ⟨ls, rfl, h1⟩ := Ze7.1 q1
 obtain ⟨v0, v1, rfl, g0, g1⟩ := Zig.1 h1
 obtain rfl := Za7.1 g1
 obtain ⟨as_, rfl, g2⟩ := ZcE.1 g0
 exact hK as_ τ (SVs.shut g2 (List.all_eq_true.1 (show (CT.enc 10 ((ZgA d).getD Zql)).all XV.closed = true from rfl))) q3
end
end Go.Proofs.YteempnebenjkmaaGreatDoor
