/- The chapter's example (round 09): what the models tell of it. -/
import Derived.Test.YteempnebenjkmaaGreatDoorMh
import Derived.Test.YteempnebenjkmaaGreatDoorPg
import Derived.Test.YteempnebenjkmaaGreatDoorMg
namespace Go.Proofs.YteempnebenjkmaaGreatDoor
open Go.RowKit
set_option maxRecDepth 100000
set_option linter.unusedVariables false
set_option linter.unusedSimpArgs false
theorem Zvt {bs : List UInt8} (h : bs.length <= 262144) : Zdv [⟨4, bs⟩] = some ((codes [(4, bs)], 0, ()), ((), ())) := by
 have hok : Zw9 (4, bs) := ⟨by show (0 : Int) <= 4; decide, by show (4 : Int) <= 255; decide, by show bs.length <= _; omega⟩
 have hc : (codes [(4, bs)]).length <= 300000 := by
  simp [codes, code, hd, le4]
  omega
 have hp := ZBZ [⟨4, bs⟩] (by simp) (by show (codes [(4, bs)]).length <= _; omega)
 rw [show Zfy ([(⟨4, bs⟩ : ZbW)].map fr) = none from Zvr.2 (by intro f hf; rw [List.mem_singleton.1 hf]; exact hok)] at hp
 exact hp
theorem Zi8 (bs : List UInt8) : (codes [(4, bs)]).length = 9 + bs.length := by
 simp [codes, code, hd, le4]
 omega
theorem Zvu {bs : List UInt8} (h : bs.length <= 262144) : ZeF (codes [(4, bs)]) = some (([⟨4, bs⟩], ((codes [(4, bs)]).length : Int), ()), ((), ())) := by
 have hok : Zw9 (4, bs) := ⟨by show (0 : Int) <= 4; decide, by show (4 : Int) <= 255; decide, by show bs.length <= _; omega⟩
 have hl := Zi8 bs
 have hg := ZB0 (b := codes [(4, bs)]) (by omega)
 have ha := Zkw [(4, bs)] (by intro f hf; rw [List.mem_singleton.1 hf]; exact hok) []
 rw [List.append_nil, Zl9 (b := []) rfl] at ha
 rw [ha] at hg
 exact hg
theorem Zj6 : Zfk smallD.base = true := by decide
theorem Zmb : Zkv smallD.base.config := by unfold Zkv; decide
theorem ZqX {x : Zbe} (hf : Zkv x.base.config) (hb : x.bytes.length <= 5000) (h : Zfk x.base = true) : (Zoi x).length <= 200000 /\ 0 < (Zoi x).length := by
 have hl := Zl7 hf
 rw [Zhu hf (ZeK h).2] at hl
 dsimp only at hl
 have h9 := Zhc (n := x.bytes.length) (by omega)
 have h1 := ZrY x.bytes.length
 unfold Zoi Zr0
 rw [List.length_append, List.length_append]
 omega
theorem Ztg {σ : St} {K : AV -> St -> Prop} (hK : ∀ τ, Ext σ τ -> K (vT true) τ) : Zan Tryz.prog 7 [] σ K := by
 have hB := Zvm (x := smallD) Zmb (by decide)
 rw [if_pos Zj6] at hB
 have hs : (Zoi smallD).length <= 500 := by decide +kernel
 have hG := Zvn (l := Zoi smallD) (by omega) (Zvo Zmb (by decide) Zj6)
 have hbo : ZbY (Zoi smallD) = (smallD.base, some (Zr0 smallD.bytes)) := Zod Zj6
 have hro : ZvN 131072 (some (Zr0 smallD.bytes)) = (smallD.bytes, some []) := by
  have := Zoc (t := smallD.bytes) (r := []) (by decide)
  rwa [List.append_nil] at this
 rw [hbo] at hG
 dsimp only at hG
 rw [hro] at hG
 have hd := Zi8 (Zoi smallD)
 exact ZwS hB (Zvt (by omega)) (by omega) (Zvu (by omega)) hG (by decide) (by decide) (by decide) (by decide) (by decide) rfl (Zgw Zmb (by decide)) hK
end Go.Proofs.YteempnebenjkmaaGreatDoor
